/-
  math/bits.Mul64; math/bits.RotateLeft32 by the numbers that sha uses; sha.three. Printed by gen/sha1.py.
-/
import Derived.Shelf.Bits.Mul64
import Derived.Test.YtppjnkgmbmhlcaaGreatDoorMA
namespace Go.Proofs.YtppjnkgmbmhlcaaGreatDoor
set_option maxRecDepth 100000
open Go Go.RowKit Go.Lib
set_option linter.unusedSimpArgs false
set_option linter.unusedVariables false

set_option maxHeartbeats 1000000 in
theorem mul64_any (x y : Nat) (hx : x < 18446744073709551616) (hy : y < 18446744073709551616) (w : World) :
    Calls Tryz.prog 138 #[.int .u64 (x : Int), .int .u64 (y : Int)] w fun e w' => e = .returned (.tuple #[.int .u64 ((x * y / 18446744073709551616 : Nat) : Int), .int .u64 ((x * y % 18446744073709551616 : Nat) : Int)]) ∧ w' = w := by
  obtain ⟨bd, bt, bw, hhi⟩ := Lib.mul64_hi x y hx hy
  have ba := Lib.half_mul_le (a := x / 4294967296) (b := y / 4294967296) (by omega) (by omega)
  have bb := Lib.half_mul_le (a := x / 4294967296) (b := y % 4294967296) (by omega) (by omega)
  have bc := Lib.half_mul_le (a := x % 4294967296) (b := y / 4294967296) (by omega) (by omega)
  have ba' : x / 4294967296 * (y / 4294967296) < 18446744073709551616 := by omega
  have bb' : x / 4294967296 * (y % 4294967296) < 18446744073709551616 := by omega
  have bc' : x % 4294967296 * (y / 4294967296) < 18446744073709551616 := by omega
  have bh1 : x / 4294967296 * (y / 4294967296) + (x / 4294967296 * (y % 4294967296) + x % 4294967296 * (y % 4294967296) / 4294967296) / 4294967296 < 18446744073709551616 := by omega
  have bh : x / 4294967296 * (y / 4294967296) + (x / 4294967296 * (y % 4294967296) + x % 4294967296 * (y % 4294967296) / 4294967296) / 4294967296 + ((x / 4294967296 * (y % 4294967296) + x % 4294967296 * (y % 4294967296) / 4294967296) % 4294967296 + x % 4294967296 * (y / 4294967296)) / 4294967296 < 18446744073709551616 := by omega
  go_enter Tryz.func138, Tryz.ntmps138
  go_wp2
  simp only [Mul64.maskN x hx, Mul64.maskN y hy, Mul64.divN, Mul64.mulN, Mul64.addN, Mul64.wrapN _ bd, Mul64.wrapN _ bb', Mul64.wrapN _ bt, Mul64.maskN _ bt, Mul64.wrapN _ bc', Mul64.wrapN _ bw, Mul64.wrapN _ ba', Mul64.wrapN _ bh1, Mul64.wrapN _ bh, Mul64.wrapM (x * y)]
  rw [hhi]
  go_ret2
  exact ⟨rfl, rfl⟩

theorem bits_or32 (a b : BitVec 32) : bits .or .u32 (a.toNat : Int) (b.toNat : Int) = ((a ||| b).toNat : Int) := by
  rw [u32_or_nat _ _ a.isLt b.isLt, BitVec.toNat_or]
theorem bits_xor32 (a b : BitVec 32) : bits .xor .u32 (a.toNat : Int) (b.toNat : Int) = ((a ^^^ b).toNat : Int) := by
  rw [u32_xor_nat _ _ a.isLt b.isLt, BitVec.toNat_xor]
theorem bits_and32 (a b : BitVec 32) : bits .and .u32 (a.toNat : Int) (b.toNat : Int) = ((a &&& b).toNat : Int) := by
  rw [u32_and_nat _ _ a.isLt b.isLt, BitVec.toNat_and]
theorem add32 (a b : BitVec 32) : ((a.toNat : Int) + (b.toNat : Int)) % 4294967296 = ((a + b).toNat : Int) := by
  rw [BitVec.toNat_add]; omega
/-- A word turned right. -/
def rr (x : BitVec 32) (n : Nat) : BitVec 32 := x >>> n ||| x <<< (32 - n)
theorem shl32 (x : BitVec 32) (p n : Nat) (hp : p = 2 ^ n) : ((x.toNat : Int) * (p : Nat) % 4294967296) = ((x <<< n).toNat : Int) := by
  rw [BitVec.toNat_shiftLeft, Nat.shiftLeft_eq, hp, Int.natCast_emod, Int.natCast_mul]; rfl
theorem shr32 (x : BitVec 32) (q m : Nat) (hq : q = 2 ^ m) : ((x.toNat : Int) / (q : Nat)) = ((x >>> m).toNat : Int) := by
  rw [BitVec.toNat_ushiftRight, Nat.shiftRight_eq_div_pow, hq]; rfl
theorem rot32 (x : BitVec 32) (p q : Nat) (n m : Nat) (hm : m = 32 - n) (hp : p = 2 ^ m) (hq : q = 2 ^ n) : bits .or .u32 ((x.toNat : Int) * (p : Nat) % 4294967296) ((x.toNat : Int) / (q : Nat)) = ((rr x n).toNat : Int) := by
  rw [shl32 x p m hp, shr32 x q n hq, bits_or32, rr, hm, BitVec.or_comm]
/-- A word as a value; words as cells. -/
def W (x : BitVec 32) : Value := .int .u32 (x.toNat : Int)
theorem rr17_any (x : BitVec 32) (w : World) : Calls Tryz.prog 126 #[W x, .int .i64 (-17)] w fun e w' => e = .returned (W (rr x 17)) ∧ w' = w := by
  unfold W
  have h1 : bits .and .u64 (IntKind.wrap .u64 (-17)) 31 = 15 := by kernel_rfl
  have h2 : bits .and .u64 18446744073709551599 31 = 15 := by kernel_rfl
  have H := rot32 x 32768 131072 17 15 (by omega) rfl rfl
  replace H := Lib.hid H
  go_enter Tryz.func126, Tryz.ntmps126
  go_wp2
  go_ret
  exact ⟨ret_int H.out, rfl⟩
theorem rr19_any (x : BitVec 32) (w : World) : Calls Tryz.prog 126 #[W x, .int .i64 (-19)] w fun e w' => e = .returned (W (rr x 19)) ∧ w' = w := by
  unfold W
  have h1 : bits .and .u64 (IntKind.wrap .u64 (-19)) 31 = 13 := by kernel_rfl
  have h2 : bits .and .u64 18446744073709551597 31 = 13 := by kernel_rfl
  have H := rot32 x 8192 524288 19 13 (by omega) rfl rfl
  replace H := Lib.hid H
  go_enter Tryz.func126, Tryz.ntmps126
  go_wp2
  go_ret
  exact ⟨ret_int H.out, rfl⟩
theorem rr7_any (x : BitVec 32) (w : World) : Calls Tryz.prog 126 #[W x, .int .i64 (-7)] w fun e w' => e = .returned (W (rr x 7)) ∧ w' = w := by
  unfold W
  have h1 : bits .and .u64 (IntKind.wrap .u64 (-7)) 31 = 25 := by kernel_rfl
  have h2 : bits .and .u64 18446744073709551609 31 = 25 := by kernel_rfl
  have H := rot32 x 33554432 128 7 25 (by omega) rfl rfl
  replace H := Lib.hid H
  go_enter Tryz.func126, Tryz.ntmps126
  go_wp2
  go_ret
  exact ⟨ret_int H.out, rfl⟩
theorem rr18_any (x : BitVec 32) (w : World) : Calls Tryz.prog 126 #[W x, .int .i64 (-18)] w fun e w' => e = .returned (W (rr x 18)) ∧ w' = w := by
  unfold W
  have h1 : bits .and .u64 (IntKind.wrap .u64 (-18)) 31 = 14 := by kernel_rfl
  have h2 : bits .and .u64 18446744073709551598 31 = 14 := by kernel_rfl
  have H := rot32 x 16384 262144 18 14 (by omega) rfl rfl
  replace H := Lib.hid H
  go_enter Tryz.func126, Tryz.ntmps126
  go_wp2
  go_ret
  exact ⟨ret_int H.out, rfl⟩
theorem rr6_any (x : BitVec 32) (w : World) : Calls Tryz.prog 126 #[W x, .int .i64 (-6)] w fun e w' => e = .returned (W (rr x 6)) ∧ w' = w := by
  unfold W
  have h1 : bits .and .u64 (IntKind.wrap .u64 (-6)) 31 = 26 := by kernel_rfl
  have h2 : bits .and .u64 18446744073709551610 31 = 26 := by kernel_rfl
  have H := rot32 x 67108864 64 6 26 (by omega) rfl rfl
  replace H := Lib.hid H
  go_enter Tryz.func126, Tryz.ntmps126
  go_wp2
  go_ret
  exact ⟨ret_int H.out, rfl⟩
theorem rr11_any (x : BitVec 32) (w : World) : Calls Tryz.prog 126 #[W x, .int .i64 (-11)] w fun e w' => e = .returned (W (rr x 11)) ∧ w' = w := by
  unfold W
  have h1 : bits .and .u64 (IntKind.wrap .u64 (-11)) 31 = 21 := by kernel_rfl
  have h2 : bits .and .u64 18446744073709551605 31 = 21 := by kernel_rfl
  have H := rot32 x 2097152 2048 11 21 (by omega) rfl rfl
  replace H := Lib.hid H
  go_enter Tryz.func126, Tryz.ntmps126
  go_wp2
  go_ret
  exact ⟨ret_int H.out, rfl⟩
theorem rr25_any (x : BitVec 32) (w : World) : Calls Tryz.prog 126 #[W x, .int .i64 (-25)] w fun e w' => e = .returned (W (rr x 25)) ∧ w' = w := by
  unfold W
  have h1 : bits .and .u64 (IntKind.wrap .u64 (-25)) 31 = 7 := by kernel_rfl
  have h2 : bits .and .u64 18446744073709551591 31 = 7 := by kernel_rfl
  have H := rot32 x 128 33554432 25 7 (by omega) rfl rfl
  replace H := Lib.hid H
  go_enter Tryz.func126, Tryz.ntmps126
  go_wp2
  go_ret
  exact ⟨ret_int H.out, rfl⟩
theorem rr2_any (x : BitVec 32) (w : World) : Calls Tryz.prog 126 #[W x, .int .i64 (-2)] w fun e w' => e = .returned (W (rr x 2)) ∧ w' = w := by
  unfold W
  have h1 : bits .and .u64 (IntKind.wrap .u64 (-2)) 31 = 30 := by kernel_rfl
  have h2 : bits .and .u64 18446744073709551614 31 = 30 := by kernel_rfl
  have H := rot32 x 1073741824 4 2 30 (by omega) rfl rfl
  replace H := Lib.hid H
  go_enter Tryz.func126, Tryz.ntmps126
  go_wp2
  go_ret
  exact ⟨ret_int H.out, rfl⟩
theorem rr13_any (x : BitVec 32) (w : World) : Calls Tryz.prog 126 #[W x, .int .i64 (-13)] w fun e w' => e = .returned (W (rr x 13)) ∧ w' = w := by
  unfold W
  have h1 : bits .and .u64 (IntKind.wrap .u64 (-13)) 31 = 19 := by kernel_rfl
  have h2 : bits .and .u64 18446744073709551603 31 = 19 := by kernel_rfl
  have H := rot32 x 524288 8192 13 19 (by omega) rfl rfl
  replace H := Lib.hid H
  go_enter Tryz.func126, Tryz.ntmps126
  go_wp2
  go_ret
  exact ⟨ret_int H.out, rfl⟩
theorem rr22_any (x : BitVec 32) (w : World) : Calls Tryz.prog 126 #[W x, .int .i64 (-22)] w fun e w' => e = .returned (W (rr x 22)) ∧ w' = w := by
  unfold W
  have h1 : bits .and .u64 (IntKind.wrap .u64 (-22)) 31 = 10 := by kernel_rfl
  have h2 : bits .and .u64 18446744073709551594 31 = 10 := by kernel_rfl
  have H := rot32 x 1024 4194304 22 10 (by omega) rfl rfl
  replace H := Lib.hid H
  go_enter Tryz.func126, Tryz.ntmps126
  go_wp2
  go_ret
  exact ⟨ret_int H.out, rfl⟩
theorem rr17_u (x : BitVec 32) (w : World) : Calls Tryz.prog 126 #[.int .u32 (x.toNat : Int), .int .i64 (-17)] w fun e w' => e = .returned (.int .u32 ((rr x 17).toNat : Int)) ∧ w' = w := rr17_any x w
theorem rr19_u (x : BitVec 32) (w : World) : Calls Tryz.prog 126 #[.int .u32 (x.toNat : Int), .int .i64 (-19)] w fun e w' => e = .returned (.int .u32 ((rr x 19).toNat : Int)) ∧ w' = w := rr19_any x w
theorem rr7_u (x : BitVec 32) (w : World) : Calls Tryz.prog 126 #[.int .u32 (x.toNat : Int), .int .i64 (-7)] w fun e w' => e = .returned (.int .u32 ((rr x 7).toNat : Int)) ∧ w' = w := rr7_any x w
theorem rr18_u (x : BitVec 32) (w : World) : Calls Tryz.prog 126 #[.int .u32 (x.toNat : Int), .int .i64 (-18)] w fun e w' => e = .returned (.int .u32 ((rr x 18).toNat : Int)) ∧ w' = w := rr18_any x w
theorem rr6_u (x : BitVec 32) (w : World) : Calls Tryz.prog 126 #[.int .u32 (x.toNat : Int), .int .i64 (-6)] w fun e w' => e = .returned (.int .u32 ((rr x 6).toNat : Int)) ∧ w' = w := rr6_any x w
theorem rr11_u (x : BitVec 32) (w : World) : Calls Tryz.prog 126 #[.int .u32 (x.toNat : Int), .int .i64 (-11)] w fun e w' => e = .returned (.int .u32 ((rr x 11).toNat : Int)) ∧ w' = w := rr11_any x w
theorem rr25_u (x : BitVec 32) (w : World) : Calls Tryz.prog 126 #[.int .u32 (x.toNat : Int), .int .i64 (-25)] w fun e w' => e = .returned (.int .u32 ((rr x 25).toNat : Int)) ∧ w' = w := rr25_any x w
theorem rr2_u (x : BitVec 32) (w : World) : Calls Tryz.prog 126 #[.int .u32 (x.toNat : Int), .int .i64 (-2)] w fun e w' => e = .returned (.int .u32 ((rr x 2).toNat : Int)) ∧ w' = w := rr2_any x w
theorem rr13_u (x : BitVec 32) (w : World) : Calls Tryz.prog 126 #[.int .u32 (x.toNat : Int), .int .i64 (-13)] w fun e w' => e = .returned (.int .u32 ((rr x 13).toNat : Int)) ∧ w' = w := rr13_any x w
theorem rr22_u (x : BitVec 32) (w : World) : Calls Tryz.prog 126 #[.int .u32 (x.toNat : Int), .int .i64 (-22)] w fun e w' => e = .returned (.int .u32 ((rr x 22).toNat : Int)) ∧ w' = w := rr22_any x w
/-- Three turns of a word. -/
def three (x : BitVec 32) (i j k : Nat) : BitVec 32 := rr x i ^^^ rr x j ^^^ rr x k
theorem three6_any (x : BitVec 32) (w : World) : Calls Tryz.prog 127 #[W x, .int .i64 6, .int .i64 11, .int .i64 25] w fun e w' => e = .returned (W (three x 6 11 25)) ∧ w' = w := by
  go_enter Tryz.func127, Tryz.ntmps127
  go_wp2_with fail
  refine (rr6_any x w).mono ?_
  rintro e w1 ⟨rfl, rfl⟩
  go_wp2_with fail
  refine (rr11_any x w1).mono ?_
  rintro e w2 ⟨rfl, rfl⟩
  unfold W
  go_wp2_with fail
  refine (rr25_any x w2).mono ?_
  rintro e w3 ⟨rfl, rfl⟩
  have H : bits .xor .u32 (bits .xor .u32 ((rr x 6).toNat : Int) ((rr x 11).toNat : Int)) ((rr x 25).toNat : Int) = ((three x 6 11 25).toNat : Int) := by rw [bits_xor32, bits_xor32]; rfl
  replace H := Lib.hid H
  unfold W
  go_wp2
  go_ret
  exact ⟨ret_int H.out, rfl⟩
theorem three2_any (x : BitVec 32) (w : World) : Calls Tryz.prog 127 #[W x, .int .i64 2, .int .i64 13, .int .i64 22] w fun e w' => e = .returned (W (three x 2 13 22)) ∧ w' = w := by
  go_enter Tryz.func127, Tryz.ntmps127
  go_wp2_with fail
  refine (rr2_any x w).mono ?_
  rintro e w1 ⟨rfl, rfl⟩
  go_wp2_with fail
  refine (rr13_any x w1).mono ?_
  rintro e w2 ⟨rfl, rfl⟩
  unfold W
  go_wp2_with fail
  refine (rr22_any x w2).mono ?_
  rintro e w3 ⟨rfl, rfl⟩
  have H : bits .xor .u32 (bits .xor .u32 ((rr x 2).toNat : Int) ((rr x 13).toNat : Int)) ((rr x 22).toNat : Int) = ((three x 2 13 22).toNat : Int) := by rw [bits_xor32, bits_xor32]; rfl
  replace H := Lib.hid H
  unfold W
  go_wp2
  go_ret
  exact ⟨ret_int H.out, rfl⟩
theorem three6_u (x : BitVec 32) (w : World) : Calls Tryz.prog 127 #[.int .u32 (x.toNat : Int), .int .i64 6, .int .i64 11, .int .i64 25] w fun e w' => e = .returned (.int .u32 ((three x 6 11 25).toNat : Int)) ∧ w' = w := three6_any x w
theorem three2_u (x : BitVec 32) (w : World) : Calls Tryz.prog 127 #[.int .u32 (x.toNat : Int), .int .i64 2, .int .i64 13, .int .i64 22] w fun e w' => e = .returned (.int .u32 ((three x 2 13 22).toNat : Int)) ∧ w' = w := three2_any x w
theorem sh32_10 (x : BitVec 32) : (x.toNat : Int) / 1024 = ((x >>> 10).toNat : Int) := shr32 x 1024 10 rfl
theorem sh32_3 (x : BitVec 32) : (x.toNat : Int) / 8 = ((x >>> 3).toNat : Int) := shr32 x 8 3 rfl
theorem int_of {k : IntKind} {a b : Int} (h : a = b) : Value.int k a = Value.int k b := by rw [h]
end Go.Proofs.YtppjnkgmbmhlcaaGreatDoor
