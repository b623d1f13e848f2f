/-
  The rows of a Book of bytes, in plain Lean.
-/
import Derived.Test.YthhbomiknikjpaaGreatDoorAs
import Derived.Test.YthhbomiknikjpaaGreatDoorSt
import Derived.Test.YthhbomiknikjpaaGreatDoorRow
namespace Go.Proofs.YthhbomiknikjpaaGreatDoor
set_option maxRecDepth 100000
open Go Go.RowKit Go.Lib
set_option linter.unusedSimpArgs false
set_option linter.unusedVariables false

/-- The cells of the lists that are held: list, what it is grown to, number. -/
def heldC (N : Nat) (L Lo : Nat → Value) : List Value := (List.range N).flatMap fun i => [L i, Lo i, .int .i64 ((i + 1 : Nat) : Int)]
theorem heldC_succ (N : Nat) (L Lo : Nat → Value) : heldC (N + 1) L Lo = heldC N L Lo ++ [L N, Lo N, .int .i64 ((N + 1 : Nat) : Int)] := by
  unfold heldC
  rw [List.range_succ, List.flatMap_append, List.flatMap_singleton]
theorem heldC_length (N : Nat) (L Lo : Nat → Value) : (heldC N L Lo).length = N * 3 := by
  induction N with
  | zero => rfl
  | succ N ih => rw [heldC_succ, List.length_append, ih]; simp; omega
theorem heldC_congr (N : Nat) (L Lo L' Lo' : Nat → Value) (h : ∀ i, i < N → L i = L' i ∧ Lo i = Lo' i) : heldC N L Lo = heldC N L' Lo' := by
  induction N with
  | zero => rfl
  | succ N ih => rw [heldC_succ, heldC_succ, ih (fun i hi => h i (by omega)), (h N (by omega)).1, (h N (by omega)).2]
theorem heldC_get (N : Nat) (L Lo : Nat → Value) (i : Nat) (hi : i < N) : (heldC N L Lo)[i * 3]? = some (L i) ∧ (heldC N L Lo)[i * 3 + 1]? = some (Lo i) ∧ (heldC N L Lo)[i * 3 + 2]? = some (.int .i64 ((i + 1 : Nat) : Int)) := by
  induction N with
  | zero => omega
  | succ N ih =>
    rw [heldC_succ]
    have hl := heldC_length N L Lo
    by_cases e : i = N
    · subst e
      refine ⟨?_, ?_, ?_⟩ <;> rw [List.getElem?_append_right (by omega)] <;> simp [hl]
    · obtain ⟨h1, h2, h3⟩ := ih (by omega)
      refine ⟨?_, ?_, ?_⟩ <;> rw [List.getElem?_append_left (by omega)] <;> assumption
theorem heldC_set (N : Nat) (L Lo : Nat → Value) (i : Nat) (hi : i < N) (v : Value) : (heldC N L Lo).set (i * 3 + 1) v = heldC N L (fun j => if j = i then v else Lo j) := by
  induction N with
  | zero => omega
  | succ N ih =>
    have hl := heldC_length N L Lo
    rw [heldC_succ, heldC_succ]
    by_cases e : i = N
    · subst e
      rw [List.set_append_right _ _ (by omega), hl, heldC_congr i L (fun j => if j = i then v else Lo j) L Lo (fun j hj => ⟨rfl, by rw [if_neg (by omega)]⟩)]
      simp
    · rw [List.set_append_left _ _ (by omega), ih (by omega), if_neg (by omega)]
theorem heldC_one (N : Nat) (L Lo : Nat → Value) (h : ∀ i, i < N → (L i).oneCell' = true ∧ (Lo i).oneCell' = true) : ∀ u ∈ heldC N L Lo, u.oneCell' = true := by
  intro u hu
  unfold heldC at hu
  obtain ⟨i, hi, h2⟩ := List.mem_flatMap.1 hu
  have hi := List.mem_range.1 hi
  simp only [List.mem_cons, List.not_mem_nil, or_false] at h2
  rcases h2 with rfl | rfl | rfl
  · exact (h i hi).1
  · exact (h i hi).2
  · rfl
/-- A Book's cells, but for the lists of bytes all empty. -/
def bookC (N : Nat) (vb : Value) : List Value := [.int .i64 (N : Int), vb] ++ List.replicate 11 (.slice none 0 0)
def bookAt (w : World) (B N : Nat) (vb : Value) : Prop := w.heap[B]? = some (.cells (bookC N vb).toArray 42 (0,0))
/-- The mark of a list. -/
def markB (i : Nat) : BitVec 8 := BitVec.ofNat 8 (1 + (i + 1) % 250)
/-- A Book: its row, and a row of its own for each list; all of them apart. -/
structure BookOk (w : World) (base B N : Nat) (vb : Value) (L : Nat → Value) (xs : Nat → List (BitVec 8)) : Prop where
  at_ : bookAt w B N vb
  own : w.ownsRow base 67 3 vb N (heldC N L (fun _ => .slice none 0 0))
  row : ∀ i, i < N → w.ownsRow base 5 1 (L i) (xs i).length (bytesV (xs i))
  hB : base ≤ B
  apart : ∀ i j, i < N → j < N → i ≠ j → ∀ k, (L i).ownBlock = some k → (L j).ownBlock = some k → False
  offB : ∀ i, i < N → (L i).ownBlock ≠ some B
  offv : ∀ i, i < N → ∀ k, (L i).ownBlock = some k → vb.ownBlock = some k → False
  vB : vb.ownBlock ≠ some B
  few : N ≤ 1000
  short : ∀ i, i < N → (xs i).length ≤ 70368744177664
end Go.Proofs.YthhbomiknikjpaaGreatDoor
