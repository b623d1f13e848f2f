/-
  A law's argument of the type From: a key, a count and a nonce.
-/
import Derived.Test.YtkfikoacohogaaaDoorOa
import Derived.Test.YtkfikoacohogaaaDoorX2
namespace Go.Proofs.YtkfikoacohogaaaDoor
set_option maxRecDepth 100000
open Go Go.RowKit Go.WideShapes Go.Deep
set_option linter.unusedSimpArgs false
set_option linter.unusedVariables false
theorem wf_u32F {n : Int} (h : (Lit.int .u32 n).wf = true) : ∃ x : BitVec 32, n = (x.toNat : Int) := by
  have hb := bounds_u32 h
  exact ⟨BitVec.ofNat 32 n.toNat, by rw [BitVec.toNat_ofNat]; omega⟩
theorem open_fromV {H : Type} {enc : TypeId × Value → H} {w : World} {base : Nat} {spare : Nat → Bool} {held : Bool} {v : Value} {d : DataW H} {ps : List MemPlace} {r : Reach} {b2 : Nat} (hv : Value.okWide Tryd.prog w r b2 26 v)
    (h : DataW.Trod enc Tryd.prog w base spare held 26 v d ps) :
    ∃ key count nonce, v = .agg (fromV key count nonce) ∧ key.length = 32 ∧ nonce.length = 12 := by
  unfold Value.okWide at hv
  rw [Tryd.underlying26] at hv
  obtain ⟨cs, rfl, _, _⟩ := hv
  obtain ⟨fuel, hf0⟩ := h
  have hf : DataW.trod enc Tryd.prog w base spare held fuel 26 cs.toList = some (d, ps) := hf0
  obtain ⟨xs, n, _, _, hl, hx, hi⟩ := DataW.trod_struct Tryd.underlying26 hf
  have c26 : Tryd.prog.cellsOf 26 = 45 := by kernel_rfl
  have c22 : Tryd.prog.cellsOf 22 = 32 := by kernel_rfl
  have c23 : Tryd.prog.cellsOf 23 = 1 := by kernel_rfl
  have c24 : Tryd.prog.cellsOf 24 = 12 := by kernel_rfl
  have c5 : Tryd.prog.cellsOf 5 = 1 := by kernel_rfl
  rw [c26] at hl
  have h0 : DataW.trod enc Tryd.prog w base spare held n 22 ((cs.toList.drop 0).take (Tryd.prog.cellsOf 22)) = xs[0]? := hi 0 _ rfl
  have h1 : DataW.trod enc Tryd.prog w base spare held n 23 ((cs.toList.drop 32).take (Tryd.prog.cellsOf 23)) = xs[1]? := hi 1 _ rfl
  have h2 : DataW.trod enc Tryd.prog w base spare held n 24 ((cs.toList.drop 33).take (Tryd.prog.cellsOf 24)) = xs[2]? := hi 2 _ rfl
  obtain ⟨y0, e0⟩ : ∃ y, xs[0]? = some y := ⟨xs[0]'(by rw [hx]; decide), by simp⟩
  obtain ⟨y1, e1⟩ : ∃ y, xs[1]? = some y := ⟨xs[1]'(by rw [hx]; decide), by simp⟩
  obtain ⟨y2, e2⟩ : ∃ y, xs[2]? = some y := ⟨xs[2]'(by rw [hx]; decide), by simp⟩
  rw [e0] at h0
  rw [e1] at h1
  rw [e2] at h2
  obtain ⟨key, hk, ek⟩ := trod_arr8 Tryd.underlying22 Tryd.underlying5 c5 c22 h0
  obtain ⟨m, em, _, wm⟩ := DataW.trod_int Tryd.underlying23 h1
  obtain ⟨nonce, hn, en⟩ := trod_arr8 Tryd.underlying24 Tryd.underlying5 c5 c24 h2
  obtain ⟨count, rfl⟩ := wf_u32F wm
  simp only [c22, c23, c24, List.drop_zero] at ek em en
  refine ⟨key, count, nonce, ?_, hk, hn⟩
  unfold fromV
  rw [← ek, ← en]
  congr 1
  have e1' : cs.toList.drop 32 = .int .u32 (count.toNat : Int) :: cs.toList.drop 33 := by
    have : cs.toList.drop 32 = (cs.toList.drop 32).take 1 ++ (cs.toList.drop 32).drop 1 := (List.take_append_drop 1 _).symm
    rw [this, em, List.drop_drop]
    rfl
  have e2' : (cs.toList.drop 33).take 12 = cs.toList.drop 33 := List.take_of_length_le (by simp at hl ⊢; omega)
  rw [e2', ← e1', List.take_append_drop]
end Go.Proofs.YtkfikoacohogaaaDoor
