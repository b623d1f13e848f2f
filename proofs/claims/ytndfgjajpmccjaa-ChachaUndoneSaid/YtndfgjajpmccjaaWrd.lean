/-
  The plain law: the words of a block's bytes.
-/
import Derived.Test.YtndfgjajpmccjaaRcs
namespace Go.Proofs.Ytndfgjajpmccjaa
open Go Go.RowKit

theorem outTo_get (s f : List (BitVec 32)) (n : Nat) (hn : n ≤ 64) (j : Nat) (hj : j < n) : (outTo s f n).getD j 0 = outAt s f j := by
  induction n with
  | zero => omega
  | succ n ih =>
    rw [outTo, List.getD_eq_getElem?_getD]
    by_cases h : n = j
    · subst h
      rw [List.getElem?_set_self (by rw [outTo_length]; omega)]
      rfl
    · rw [List.getElem?_set_ne h, ← List.getD_eq_getElem?_getD]
      exact ih (by omega) (by omega)
theorem wd4_bytes (x : BitVec 32) : wd4 ((x >>> 0).setWidth 8) ((x >>> 8).setWidth 8) ((x >>> 16).setWidth 8) ((x >>> 24).setWidth 8) = x := by
  unfold wd4
  apply BitVec.eq_of_getLsbD_eq
  intro i hi
  simp only [BitVec.getLsbD_or, BitVec.getLsbD_shiftLeft, BitVec.getLsbD_setWidth, BitVec.getLsbD_ushiftRight]
  rcases (by omega : i < 8 ∨ (8 ≤ i ∧ i < 16) ∨ (16 ≤ i ∧ i < 24) ∨ (24 ≤ i ∧ i < 32)) with h | ⟨h, h'⟩ | ⟨h, h'⟩ | ⟨h, h'⟩
  · simp [show i < 8 by omega, show i < 16 by omega, show i < 24 by omega, hi]
  · simp [show ¬ i < 8 by omega, show i < 16 by omega, show i < 24 by omega, show i - 8 < 8 by omega, hi, show 8 + (i - 8) = i by omega, show i - 8 < 32 by omega]
  · simp [show ¬ i < 8 by omega, show ¬ i < 16 by omega, show i < 24 by omega, show ¬ i - 8 < 8 by omega, show i - 16 < 8 by omega, hi, show 16 + (i - 16) = i by omega, show i - 16 < 32 by omega]
  · simp [show ¬ i < 8 by omega, show ¬ i < 16 by omega, show ¬ i < 24 by omega, show ¬ i - 8 < 8 by omega, show ¬ i - 16 < 8 by omega, show i - 24 < 8 by omega, hi, show 24 + (i - 24) = i by omega, show i - 24 < 32 by omega]
theorem block_word (s f : List (BitVec 32)) (i : Nat) (hi : i < 16) : wd4 ((outTo s f 64).getD (4 * i) 0) ((outTo s f 64).getD (4 * i + 1) 0) ((outTo s f 64).getD (4 * i + 2) 0) ((outTo s f 64).getD (4 * i + 3) 0) = s.getD i 0 + f.getD i 0 := by
  rw [outTo_get _ _ _ (by omega) _ (by omega), outTo_get _ _ _ (by omega) _ (by omega), outTo_get _ _ _ (by omega) _ (by omega), outTo_get _ _ _ (by omega) _ (by omega)]
  have e : ∀ j, j < 4 → outAt s f (4 * i + j) = ((s.getD i 0 + f.getD i 0) >>> (8 * j)).setWidth 8 := by
    intro j hj
    unfold outAt
    rw [show (4 * i + j) / 4 = i by omega, show (4 * i + j) % 4 = j by omega, Nat.mul_comm j 8]
  have e0 := e 0 (by omega)
  rw [Nat.add_zero] at e0
  rw [e0, e 1 (by omega), e 2 (by omega), e 3 (by omega)]
  exact wd4_bytes _

/-- The first k words, and zeroes. -/
def rTo (r : List (BitVec 32)) : Nat → List (BitVec 32)
  | 0 => List.replicate 16 0
  | k + 1 => (rTo r k).set k (r.getD k 0)
theorem rTo_length (r : List (BitVec 32)) (k : Nat) : (rTo r k).length = 16 := by
  induction k with
  | zero => rfl
  | succ k ih => simp [rTo, ih]
theorem rTo_get (r : List (BitVec 32)) (k : Nat) (hk : k ≤ 16) (j : Nat) (hj : j < k) : (rTo r k).getD j 0 = r.getD j 0 := by
  induction k with
  | zero => omega
  | succ k ih =>
    rw [rTo, List.getD_eq_getElem?_getD]
    by_cases h : k = j
    · subst h
      rw [List.getElem?_set_self (by rw [rTo_length]; omega)]
      rfl
    · rw [List.getElem?_set_ne h, ← List.getD_eq_getElem?_getD]
      exact ih (by omega) (by omega)
theorem rTo_all (r : List (BitVec 32)) (h : r.length = 16) : rTo r 16 = r := by
  apply List.ext_getElem
  · rw [rTo_length, h]
  · intro i h1 h2
    have := rTo_get r 16 (by omega) i (by omega)
    rw [List.getD_eq_getElem?_getD, List.getElem?_eq_getElem h1, List.getD_eq_getElem?_getD, List.getElem?_eq_getElem h2] at this
    exact this
end Go.Proofs.Ytndfgjajpmccjaa
