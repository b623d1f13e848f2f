/-
  Words of 32 bits: what Go's operations on uint32 come to, on BitVec 32; math/bits.RotateLeft32 by the numbers that the program uses.
-/
import Derived.Test.YtbiijcljpgannaaMem
import Derived.Test.YtbiijcljpgannaaProg
namespace Go.Proofs.Ytbiijcljpgannaa.Cc
open Go Go.RowKit

theorem bits_or32 (a b : BitVec 32) : bits .or .u32 (a.toNat : Int) (b.toNat : Int) = ((a ||| b).toNat : Int) := by
  rw [u32_or_nat _ _ a.isLt b.isLt, BitVec.toNat_or]
theorem bits_xor32 (a b : BitVec 32) : bits .xor .u32 (a.toNat : Int) (b.toNat : Int) = ((a ^^^ b).toNat : Int) := by
  rw [u32_xor_nat _ _ a.isLt b.isLt, BitVec.toNat_xor]
theorem add32 (a b : BitVec 32) : ((a.toNat : Int) + (b.toNat : Int)) % 4294967296 = ((a + b).toNat : Int) := by
  rw [BitVec.toNat_add]; omega
theorem rot32 (x : BitVec 32) (p q : Nat) (n m : Nat) (hn : n < 32) (hm : m = 32 - n) (hp : p = 2 ^ n) (hq : q = 2 ^ m) : bits .or .u32 ((x.toNat : Int) * (p : Nat) % 4294967296) ((x.toNat : Int) / (q : Nat)) = ((x.rotateLeft n).toNat : Int) := by
  have h1 : ((x.toNat : Int) * (p : Nat) % 4294967296) = ((x <<< n).toNat : Int) := by
    rw [BitVec.toNat_shiftLeft, Nat.shiftLeft_eq, hp, Int.natCast_emod, Int.natCast_mul]; rfl
  have h2 : ((x.toNat : Int) / (q : Nat)) = ((x >>> m).toNat : Int) := by
    rw [BitVec.toNat_ushiftRight, Nat.shiftRight_eq_div_pow, hq]; rfl
  rw [h1, h2, bits_or32, BitVec.rotateLeft_def, Nat.mod_eq_of_lt hn, hm]

/-- A word as a value; words as cells. -/
def W (x : BitVec 32) : Value := .int .u32 (x.toNat : Int)
def enc (s : List (BitVec 32)) : Array Value := (s.map W).toArray
theorem enc_get {s : List (BitVec 32)} {i : Nat} (hi : i < s.length) : (enc s)[i]? = some (.int .u32 ((s.getD i 0).toNat : Int)) := by
  simp [enc, hi, W]
theorem enc_set (s : List (BitVec 32)) (i : Nat) (x : BitVec 32) : (enc s).setIfInBounds i (W x) = enc (s.set i x) := by
  simp [enc]

theorem rot_any (n : Nat) (hn : n = 16 ∨ n = 12 ∨ n = 8 ∨ n = 7) (v : Int) (x : BitVec 32) (hv : v = x.toNat) (w : World) : Calls Try.prog 41 #[.int .u32 v, .int .i64 n] w fun e w' => e = .returned (W (x.rotateLeft n)) ∧ w' = w := by
  subst hv
  unfold W
  rcases hn with rfl | rfl | rfl | rfl
  · have h1 : bits .and .u64 16 31 = 16 := by kernel_rfl
    have H := rot32 x 65536 65536 16 16 (by omega) rfl rfl rfl
    replace H := Lib.hid H
    go_enter Try.func41, Try.ntmps41
    go_wp2
    go_ret
    exact ⟨ret_int H.out, rfl⟩
  · have h1 : bits .and .u64 12 31 = 12 := by kernel_rfl
    have H := rot32 x 4096 1048576 12 20 (by omega) rfl rfl rfl
    replace H := Lib.hid H
    go_enter Try.func41, Try.ntmps41
    go_wp2
    go_ret
    exact ⟨ret_int H.out, rfl⟩
  · have h1 : bits .and .u64 8 31 = 8 := by kernel_rfl
    have H := rot32 x 256 16777216 8 24 (by omega) rfl rfl rfl
    replace H := Lib.hid H
    go_enter Try.func41, Try.ntmps41
    go_wp2
    go_ret
    exact ⟨ret_int H.out, rfl⟩
  · have h1 : bits .and .u64 7 31 = 7 := by kernel_rfl
    have H := rot32 x 128 33554432 7 25 (by omega) rfl rfl rfl
    replace H := Lib.hid H
    go_enter Try.func41, Try.ntmps41
    go_wp2
    go_ret
    exact ⟨ret_int H.out, rfl⟩
end Go.Proofs.Ytbiijcljpgannaa.Cc
