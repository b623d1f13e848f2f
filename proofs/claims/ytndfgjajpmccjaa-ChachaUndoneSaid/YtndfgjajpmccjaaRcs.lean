/-
  mailcoachref04: word, State.
-/
import Derived.Test.YtndfgjajpmccjaaRcq
namespace Go.Proofs.Ytndfgjajpmccjaa
open Go Go.RowKit
set_option linter.unusedSimpArgs false

/-- Four bytes, the lowest first. -/
def wd4 (a b c d : BitVec 8) : BitVec 32 := ((a.setWidth 32 ||| (b.setWidth 32 <<< 8)) ||| (c.setWidth 32 <<< 16)) ||| (d.setWidth 32 <<< 24)
theorem wd4_bits (a b c d : BitVec 8) : bits .or .u32 (bits .or .u32 (bits .or .u32 (a.toNat : Int) ((b.toNat : Int) * (256 : Nat))) ((c.toNat : Int) * (65536 : Nat))) ((d.toNat : Int) * (16777216 : Nat)) = ((wd4 a b c d).toNat : Int) := by
  have h : (a.toNat : Int) = ((a.setWidth 32).toNat : Int) := by rw [BitVec.toNat_setWidth, Nat.mod_eq_of_lt (a := a.toNat) (by have := a.isLt; omega)]
  rw [h, shl_byte _ b 8 256 rfl (by omega), shl_byte _ c 16 65536 rfl (by omega), shl_byte _ d 24 16777216 rfl (by omega)]
  rfl
/-- Words of bytes, i of them. -/
def kTo (s : List (BitVec 32)) (at' : Nat) (bs : List (BitVec 8)) : Nat → List (BitVec 32)
  | 0 => s
  | i + 1 => (kTo s at' bs i).set (at' + i) (wd4 (bs.getD (4 * i) 0) (bs.getD (4 * i + 1) 0) (bs.getD (4 * i + 2) 0) (bs.getD (4 * i + 3) 0))
theorem kTo_length (s : List (BitVec 32)) (at' : Nat) (bs : List (BitVec 8)) (i : Nat) : (kTo s at' bs i).length = s.length := by
  induction i with
  | zero => rfl
  | succ i ih => simp [kTo, ih]
theorem kTo_ge (s : List (BitVec 32)) (at' : Nat) (bs : List (BitVec 8)) (i j : Nat) (h : at' + i ≤ j) : (kTo s at' bs i)[j]?.getD 0 = s[j]?.getD 0 := by
  induction i with
  | zero => rfl
  | succ i ih =>
    rw [kTo, List.getElem?_set_ne (by omega)]
    exact ih (by omega)
theorem words_eq (s : List (BitVec 32)) (at' : Nat) (bs : List (BitVec 8)) (m : Nat) (hm : at' + m ≤ s.length) (hz : ∀ j, j < m → s[at' + j]?.getD 0 = 0) : wordsTo s at' bs (4 * m) = kTo s at' bs m := by
  induction m with
  | zero => rfl
  | succ m ih =>
    have h0 := ih (by omega) (fun j hj => hz j (by omega))
    have hlt : at' + m < (kTo s at' bs m).length := by rw [kTo_length]; omega
    have hg : (kTo s at' bs m)[at' + m]?.getD 0 = 0 := by rw [kTo_ge _ _ _ _ _ (by omega)]; exact hz m (by omega)
    rw [show 4 * (m + 1) = 4 * m + 1 + 1 + 1 + 1 by omega]
    simp only [wordsTo, h0, kTo]
    rw [show 4 * m / 4 = m by omega, show (4 * m + 1) / 4 = m by omega, show (4 * m + 1 + 1) / 4 = m by omega, show (4 * m + 1 + 1 + 1) / 4 = m by omega,
      show 4 * m % 4 = 0 by omega, show (4 * m + 1) % 4 = 1 by omega, show (4 * m + 1 + 1) % 4 = 2 by omega, show (4 * m + 1 + 1 + 1) % 4 = 3 by omega]
    simp only [List.set_set, List.getD_eq_getElem?_getD, List.getElem?_set, hlt, if_true, List.length_set, hg, Option.getD_some]
    simp only [wd4, Nat.zero_mul, Nat.one_mul, BitVec.shiftLeft_zero, BitVec.ofNat_eq_ofNat, BitVec.zero_or, Nat.reduceMul, List.getD_eq_getElem?_getD]
def first4 : List (BitVec 32) := [1634760805, 857760878, 2036477234, 1797285236, 0, 0, 0, 0, 0, 0, 0, 0, 0, 0, 0, 0]
theorem fromS_eq (key nonce : List (BitVec 8)) (count : BitVec 32) : fromS key nonce count = kTo ((kTo first4 4 key 8).set 12 count) 13 nonce 3 := by
  have h0 : wordsTo (List.replicate 16 0) 0 sigma 16 = first4 := by decide +kernel
  have h1 : wordsTo first4 4 key 32 = kTo first4 4 key 8 := words_eq first4 4 key 8 (by decide) (by decide)
  have h2 : wordsTo ((kTo first4 4 key 8).set 12 count) 13 nonce 12 = kTo ((kTo first4 4 key 8).set 12 count) 13 nonce 3 := by
    refine words_eq _ 13 nonce 3 (by simp [kTo_length, first4]) ?_
    intro j hj
    rw [List.getElem?_set_ne (by omega), kTo_ge _ _ _ _ _ (by omega)]
    rcases j with _ | _ | _ | j
    · rfl
    · rfl
    · rfl
    · omega
  rw [fromS, h0, h1, h2]

theorem word_any (bs : List (BitVec 8)) (bb bo n cap : Nat) (hn : 4 ≤ n) (w : World)
    (h0 : w.cell? ⟨bb, bo, none⟩ = some (.int .u8 ((bs.getD 0 0).toNat : Int))) (h1 : w.cell? ⟨bb, bo + 1, none⟩ = some (.int .u8 ((bs.getD 1 0).toNat : Int)))
    (h2 : w.cell? ⟨bb, bo + 2, none⟩ = some (.int .u8 ((bs.getD 2 0).toNat : Int))) (h3 : w.cell? ⟨bb, bo + 3, none⟩ = some (.int .u8 ((bs.getD 3 0).toNat : Int))) :
    Calls Try.prog 22 #[.slice (some ⟨bb, bo, none⟩) n cap] w fun e w' => e = .returned (.int .u32 ((wd4 (bs.getD 0 0) (bs.getD 1 0) (bs.getD 2 0) (bs.getD 3 0)).toNat : Int)) ∧ ∃ m, w' = w.drewN m := by
  have H := wd4_bits (bs.getD 0 0) (bs.getD 1 0) (bs.getD 2 0) (bs.getD 3 0)
  generalize wd4 (bs.getD 0 0) (bs.getD 1 0) (bs.getD 2 0) (bs.getD 3 0) = z at *
  generalize bs.getD 0 0 = a at *
  generalize bs.getD 1 0 = b at *
  generalize bs.getD 2 0 = c at *
  generalize bs.getD 3 0 = d at *
  replace H := Lib.hid H
  have g0 : (0 : Int) < (n : Int) := by omega
  have g1 : (1 : Int) < (n : Int) := by omega
  have g2 : (2 : Int) < (n : Int) := by omega
  have g3 : (3 : Int) < (n : Int) := by omega
  go_enter Try.func22, Try.ntmps22
  go_wp2_with fail
  go_quiet (fail)
  go_wp2
  go_ret
  exact ⟨ret_int H.out, nq, rfl⟩
end Go.Proofs.Ytndfgjajpmccjaa
