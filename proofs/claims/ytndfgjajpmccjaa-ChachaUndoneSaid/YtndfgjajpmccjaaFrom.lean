/-
  A law's argument of the type From: a key, a count and a nonce, as cells.
-/
import Derived.Test.YtndfgjajpmccjaaRead
namespace Go.Proofs.Ytndfgjajpmccjaa
open Go Go.RowKit
set_option linter.unusedSimpArgs false

/-- The cells of a From. -/
def fromC (key : List (BitVec 8)) (count : BitVec 32) (nonce : List (BitVec 8)) : Array Value :=
  ((key.map fun b => Value.int .u8 (b.toNat : Int)) ++ W count :: (nonce.map fun b => Value.int .u8 (b.toNat : Int))).toArray

theorem open_from {H : Type} {enc : TypeId × Value → H} {w : World} {base : Nat} {spare : Nat → Bool} {held : Bool} {v : Value} {d : DataW H} {ps : List MemPlace} {r : Reach} {b2 : Nat} (hv : Value.okWide Try.prog w r b2 26 v)
    (h : DataW.Trod enc Try.prog w base spare held 26 v d ps) :
    ∃ key count nonce, v = .agg (fromC key count nonce) ∧ key.length = 32 ∧ nonce.length = 12 := by
  unfold Value.okWide at hv
  rw [Try.underlying26] at hv
  obtain ⟨cs, rfl, _, _⟩ := hv
  obtain ⟨fuel, hf0⟩ := h
  have hf : DataW.trod enc Try.prog w base spare held fuel 26 cs.toList = some (d, ps) := hf0
  obtain ⟨xs, n, _, _, hl, hx, hi⟩ := DataW.trod_struct Try.underlying26 hf
  have c26 : Try.prog.cellsOf 26 = 45 := by kernel_rfl
  have c22 : Try.prog.cellsOf 22 = 32 := by kernel_rfl
  have c23 : Try.prog.cellsOf 23 = 1 := by kernel_rfl
  have c24 : Try.prog.cellsOf 24 = 12 := by kernel_rfl
  have c5 : Try.prog.cellsOf 5 = 1 := by kernel_rfl
  rw [c26] at hl
  have h0 : DataW.trod enc Try.prog w base spare held n 22 ((cs.toList.drop 0).take (Try.prog.cellsOf 22)) = xs[0]? := hi 0 _ rfl
  have h1 : DataW.trod enc Try.prog w base spare held n 23 ((cs.toList.drop 32).take (Try.prog.cellsOf 23)) = xs[1]? := hi 1 _ rfl
  have h2 : DataW.trod enc Try.prog w base spare held n 24 ((cs.toList.drop 33).take (Try.prog.cellsOf 24)) = xs[2]? := hi 2 _ rfl
  obtain ⟨y0, e0⟩ : ∃ y, xs[0]? = some y := ⟨xs[0]'(by rw [hx]; decide), by simp⟩
  obtain ⟨y1, e1⟩ : ∃ y, xs[1]? = some y := ⟨xs[1]'(by rw [hx]; decide), by simp⟩
  obtain ⟨y2, e2⟩ : ∃ y, xs[2]? = some y := ⟨xs[2]'(by rw [hx]; decide), by simp⟩
  rw [e0] at h0
  rw [e1] at h1
  rw [e2] at h2
  obtain ⟨key, hk, ek⟩ := trod_bytes Try.underlying22 Try.underlying5 c5 c22 h0
  obtain ⟨m, em, _, wm⟩ := DataW.trod_int Try.underlying23 h1
  obtain ⟨nonce, hn, en⟩ := trod_bytes Try.underlying24 Try.underlying5 c5 c24 h2
  obtain ⟨count, rfl⟩ := wf_u32 wm
  simp only [c22, c23, c24, List.drop_zero] at ek em en
  refine ⟨key, count, nonce, ?_, hk, hn⟩
  unfold fromC
  rw [← ek, ← en]
  congr 1
  have e1' : cs.toList.drop 32 = W count :: cs.toList.drop 33 := by
    have : cs.toList.drop 32 = (cs.toList.drop 32).take 1 ++ (cs.toList.drop 32).drop 1 := (List.take_append_drop 1 _).symm
    rw [this, em, List.drop_drop]
    rfl
  have e2' : (cs.toList.drop 33).take 12 = cs.toList.drop 33 := List.take_of_length_le (by simp at hl ⊢; omega)
  rw [e2', ← e1', List.take_append_drop]

theorem run_loadVar_one {P : Program} (w : World) (g off : Nat) (ty : TypeId) (k : IntKind) (v : Value) (hu : P.underlying ty = some (.int k)) (hc : w.cell? ⟨g, off, none⟩ = some v) : (loadVar ty ⟨g, off, none⟩).run P w = .ok v w := by
  have hagg : (isAgg ty).run P w = .ok false w := by
    unfold isAgg
    rw [Sem.run_bind, run_underlying hu w]
    simp
  simp [loadVar, Sem.run_bind, hagg, go_sem, hc]

theorem load_key (key : List (BitVec 8)) (count : BitVec 32) (nonce : List (BitVec 8)) (hk : key.length = 32) (w : World) (g : Nat) (t : TypeId) (hg : w.heap[g]? = some (.cells (fromC key count nonce) t (0,0))) :
    (loadVar 22 ⟨g, 0, none⟩).run Try.prog w = .ok (.agg (encB key)) w := by
  refine run_loadVar_sub w g 0 t 22 _ (key.map fun x => Value.int .u8 (x.toNat : Int)) (0,0) _ hg Try.underlying22 rfl (by rw [List.length_map, hk]; kernel_rfl) ?_
  intro j v h
  have hj : j < (key.map fun x => Value.int .u8 (x.toNat : Int)).length := (List.getElem?_eq_some_iff.1 h).1
  rw [Nat.zero_add, fromC, List.getElem?_toArray, List.getElem?_append_left hj]
  exact h
theorem load_count (key : List (BitVec 8)) (count : BitVec 32) (nonce : List (BitVec 8)) (hk : key.length = 32) (w : World) (g : Nat) (t : TypeId) (hg : w.heap[g]? = some (.cells (fromC key count nonce) t (0,0))) :
    (loadVar 23 ⟨g, 32, none⟩).run Try.prog w = .ok (.int .u32 (count.toNat : Int)) w := by
  refine run_loadVar_one w g 32 _ .u32 _ Try.underlying23 ?_
  rw [cell_of_row _ _ _ _ _ _ hg, fromC, List.getElem?_toArray, List.getElem?_append_right (by simp [hk]), List.length_map, hk]
  rfl
theorem load_nonce (key : List (BitVec 8)) (count : BitVec 32) (nonce : List (BitVec 8)) (hk : key.length = 32) (hn : nonce.length = 12) (w : World) (g : Nat) (t : TypeId) (hg : w.heap[g]? = some (.cells (fromC key count nonce) t (0,0))) :
    (loadVar 24 ⟨g, 33, none⟩).run Try.prog w = .ok (.agg (encB nonce)) w := by
  refine run_loadVar_sub w g 33 t 24 _ (nonce.map fun x => Value.int .u8 (x.toNat : Int)) (0,0) _ hg Try.underlying24 rfl (by rw [List.length_map, hn]; kernel_rfl) ?_
  intro j v h
  rw [fromC, List.getElem?_toArray, List.getElem?_append_right (by simp [hk]; omega), List.length_map, hk, show 33 + j - 32 = j + 1 by omega, List.getElem?_cons_succ]
  exact h
end Go.Proofs.Ytndfgjajpmccjaa
