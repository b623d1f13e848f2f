/-
  The blocks of bytes, and their sum, in plain Lean.
-/
import Derived.Test.YtppjnkgmbmhlcaaGreatDoorS5
namespace Go.Proofs.YtppjnkgmbmhlcaaGreatDoor
set_option maxRecDepth 100000
open Go Go.RowKit Go.Lib
set_option linter.unusedSimpArgs false
set_option linter.unusedVariables false

/-- A number in eight bytes. -/
def be8 (n : Nat) : List (BitVec 8) := (List.range 8).map fun k => BitVec.ofNat 8 (n / 256 ^ (7 - k))
/-- How many bytes the last blocks have. -/
def endL (r : Nat) : Nat := if r < 56 then 64 else 128
/-- The last blocks' bytes: what is left, a mark, and how many bits. -/
def tailB (rest : List (BitVec 8)) (n : Nat) : List (BitVec 8) := rest ++ ([128] ++ (List.replicate (endL rest.length - rest.length - 9) 0 ++ be8 (n * 8)))
theorem tailB_length (rest : List (BitVec 8)) (n : Nat) (h : rest.length < 64) : (tailB rest n).length = endL rest.length := by
  unfold tailB endL be8
  split <;> simp <;> omega
def padS (b : List (BitVec 8)) : List (BitVec 8) := b.take (64 * (b.length / 64)) ++ tailB (b.drop (64 * (b.length / 64))) b.length
def nbS (b : List (BitVec 8)) : Nat := b.length / 64 + endL (b.length % 64) / 64
def blk (b : List (BitVec 8)) (i : Nat) : List (BitVec 8) := ((padS b).drop (64 * i)).take 64
theorem rest_length (b : List (BitVec 8)) : (b.drop (64 * (b.length / 64))).length = b.length % 64 := by
  rw [List.length_drop]
  omega
theorem padS_length (b : List (BitVec 8)) : (padS b).length = 64 * nbS b := by
  unfold padS nbS
  rw [List.length_append, tailB_length _ _ (by rw [rest_length]; omega), rest_length, List.length_take]
  have : endL (b.length % 64) = 64 ∨ endL (b.length % 64) = 128 := by unfold endL; split <;> simp
  omega
theorem blk_length {b : List (BitVec 8)} {i : Nat} (h : i < nbS b) : (blk b i).length = 64 := by
  unfold blk
  rw [List.length_take, List.length_drop, padS_length]
  omega
theorem blk_low {b : List (BitVec 8)} {i : Nat} (h : 64 * (i + 1) ≤ b.length) : blk b i = (b.drop (64 * i)).take 64 := by
  unfold blk padS
  have h1 : i + 1 ≤ b.length / 64 := by omega
  rw [List.drop_append_of_le_length (by rw [List.length_take]; omega), List.take_append_of_le_length (by rw [List.length_drop, List.length_take]; omega), List.drop_take, List.take_take, Nat.min_eq_left (by omega)]
theorem blk_high {b : List (BitVec 8)} (k : Nat) : blk b (b.length / 64 + k) = ((tailB (b.drop (64 * (b.length / 64))) b.length).drop (64 * k)).take 64 := by
  unfold blk padS
  rw [Nat.mul_add, ← List.drop_drop, List.drop_left' (by rw [List.length_take]; omega)]
/-- The buffer as the number's bytes go in. -/
def lenTo (z : List (BitVec 8)) (E n : Nat) : Nat → List (BitVec 8)
  | 0 => z
  | i + 1 => (lenTo z E n i).set (E - 1 - i) (BitVec.ofNat 8 (n / 256 ^ i))
theorem lenTo_length (z : List (BitVec 8)) (E n i : Nat) : (lenTo z E n i).length = z.length := by
  induction i with
  | zero => rfl
  | succ i ih => simp [lenTo, ih]
theorem lenTo_get (z : List (BitVec 8)) (E n : Nat) (hE : 8 ≤ E) (hz : E ≤ z.length) : ∀ i, i ≤ 8 → ∀ j (hj : j < (lenTo z E n i).length), (lenTo z E n i)[j] = if E - i ≤ j ∧ j < E then BitVec.ofNat 8 (n / 256 ^ (E - 1 - j)) else z[j]'(by rw [lenTo_length] at hj; exact hj) := by
  intro i
  induction i with
  | zero =>
    intro _ j hj
    rw [if_neg (by omega)]
    rfl
  | succ i ih =>
    intro hi j hj
    simp only [lenTo, List.getElem_set]
    by_cases e : E - 1 - i = j
    · rw [if_pos e, if_pos (by omega)]
      congr 3
      omega
    · rw [if_neg e, ih (by omega) j (by simpa [lenTo] using hj)]
      by_cases h1 : E - i ≤ j ∧ j < E
      · rw [if_pos h1, if_pos (by omega)]
      · rw [if_neg h1, if_neg (by omega)]
/-- The buffer, done. -/
theorem lenTo_done (rest : List (BitVec 8)) (m : Nat) (h : rest.length < 64) : (lenTo (rest ++ ([128] ++ List.replicate (127 - rest.length) 0)) (endL rest.length) (m * 8) 8).take (endL rest.length) = tailB rest m := by
  have hE : endL rest.length = 64 ∧ rest.length < 56 ∨ endL rest.length = 128 ∧ 56 ≤ rest.length := by unfold endL; split <;> omega
  have hl := tailB_length rest m h
  unfold tailB at hl ⊢
  apply List.ext_getElem
  · rw [List.length_take, lenTo_length, hl]
    simp
    omega
  · intro j h1 h2
    rw [hl] at h2
    rw [List.getElem_take, lenTo_get _ _ _ (by omega) (by simp; omega) 8 (Nat.le_refl _)]
    by_cases hj : endL rest.length - 8 ≤ j ∧ j < endL rest.length
    · rw [if_pos hj, List.getElem_append_right (by omega), List.getElem_append_right (by simp; omega), List.getElem_append_right (by simp; omega)]
      simp only [be8, List.getElem_map, List.getElem_range, List.length_replicate, List.length_singleton]
      congr 3
      omega
    · rw [if_neg hj]
      by_cases hr : j < rest.length
      · rw [List.getElem_append_left hr, List.getElem_append_left hr]
      · simp only [List.getElem_append, List.length_singleton, List.length_replicate]
        rw [dif_neg hr, dif_neg hr]
        by_cases h0 : j - rest.length < 1
        · rw [dif_pos h0, dif_pos h0]
        · rw [dif_neg h0, dif_neg h0, dif_pos (by omega)]
          simp
/-- The state after so many blocks. -/
def stateS (K s : List (BitVec 32)) (b : List (BitVec 8)) : Nat → List (BitVec 32)
  | 0 => s
  | i + 1 => furtherS K (stateS K s b i) (blk b i)
theorem furtherS_length (K s : List (BitVec 32)) (b : List (BitVec 8)) : (furtherS K s b).length = s.length := by unfold furtherS; rw [addTo_length]
theorem stateS_length (K s : List (BitVec 32)) (b : List (BitVec 8)) (i : Nat) : (stateS K s b i).length = s.length := by
  induction i with
  | zero => rfl
  | succ i ih => unfold stateS; rw [furtherS_length, ih]
def outB (s : List (BitVec 32)) : List (BitVec 8) := (List.range 32).map fun i => ((s.getD (i / 4) 0) >>> (24 - i % 4 * 8)).setWidth 8
/-- SHA-256 of bytes. -/
def shaS (b : List (BitVec 8)) : List (BitVec 8) := outB (stateS wordsL beginL b (nbS b))
theorem shaS_length (b : List (BitVec 8)) : (shaS b).length = 32 := by simp [shaS, outB]
end Go.Proofs.YtppjnkgmbmhlcaaGreatDoor
