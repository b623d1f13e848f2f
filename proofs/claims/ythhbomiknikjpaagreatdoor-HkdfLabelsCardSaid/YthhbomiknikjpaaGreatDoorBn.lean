/-
  A law's argument of the type Name: a string, bytes, a number.
-/
import Derived.WalkKit
import Derived.ProofKit
import Derived.OpenShut
import Derived.SizedLaws
import Derived.Test.YthhbomiknikjpaaGreatDoorBs
namespace Go.Proofs.YthhbomiknikjpaaGreatDoor
set_option maxRecDepth 100000
open Go Go.RowKit Go.WideShapes Go.Deep
set_option linter.unusedSimpArgs false
set_option linter.unusedVariables false
theorem open_name {H : Type} {enc : TypeId × Value → H} {w : World} {base : Nat} {spare : Nat → Bool} {held : Bool} {v : Value} {d : DataW H} {ps : List MemPlace} {r : Reach} {b2 : Nat} (hv : Value.okWide Tryz.prog w r b2 47 v)
    (h : DataW.Trod enc Tryz.prog w base spare held 47 v d ps) (hw : ∀ n ∈ d.weights Tryz.prog 47, n ≤ reachBytes) :
    ∃ s vc n c, v = .agg #[.string s, vc, .int .i64 n] ∧ ByteAt w vc c ∧ c.length ≤ 140737488351232 ∧ s.size ≤ 140737488351232 ∧ -9223372036854775808 ≤ n ∧ n ≤ 9223372036854775807 := by
  unfold Value.okWide at hv
  rw [Tryz.underlying47] at hv
  obtain ⟨cs, rfl, _, _⟩ := hv
  obtain ⟨fuel, hf0⟩ := h
  have hf : DataW.trod enc Tryz.prog w base spare held fuel 47 cs.toList = some (d, ps) := hf0
  obtain ⟨xs, n, _, hds, hl, hx, hi⟩ := DataW.trod_struct Tryz.underlying47 hf
  have cN : Tryz.prog.cellsOf 47 = 3 := by kernel_rfl
  have cS : Tryz.prog.cellsOf 9 = 1 := by kernel_rfl
  have cB : Tryz.prog.cellsOf 22 = 1 := by kernel_rfl
  have cI : Tryz.prog.cellsOf 3 = 1 := by kernel_rfl
  rw [cN] at hl
  have h0 : DataW.trod enc Tryz.prog w base spare held n 9 ((cs.toList.drop 0).take (Tryz.prog.cellsOf 9)) = xs[0]? := hi 0 _ rfl
  have h1 : DataW.trod enc Tryz.prog w base spare held n 22 ((cs.toList.drop 1).take (Tryz.prog.cellsOf 22)) = xs[1]? := hi 1 _ rfl
  have h2 : DataW.trod enc Tryz.prog w base spare held n 3 ((cs.toList.drop 2).take (Tryz.prog.cellsOf 3)) = xs[2]? := hi 2 _ rfl
  have hx3 : xs.length = 3 := hx
  obtain ⟨y0, y1, y2, rfl⟩ : ∃ a b c, xs = [a, b, c] := by
    match xs, hx3 with
    | [a, b, c], _ => exact ⟨a, b, c, rfl⟩
  obtain ⟨c0, c1, c2, hcs⟩ : ∃ a b c, cs.toList = [a, b, c] := by
    match cs.toList, hl with
    | [a, b, c], _ => exact ⟨a, b, c, rfl⟩
  rw [hcs, cS] at h0
  rw [hcs, cB] at h1
  rw [hcs, cI] at h2
  simp only [List.drop_zero, List.drop_succ_cons, List.take_succ_cons, List.take_zero, List.getElem?_cons_zero, List.getElem?_cons_succ] at h0 h1 h2
  obtain ⟨s, es, e0, _⟩ := DataW.trod_string Tryz.underlying9 h0
  obtain ⟨m, em, _, wm⟩ := DataW.trod_int Tryz.underlying3 h2
  have bm := bounds_i64 wm
  have hd : d = DataW.agg [y0.1, y1.1, y2.1] := congrArg Prod.fst hds
  have hwe : ∀ (j : Nat) (t : TypeId) (e : DataW H), [9, 22, 3][j]? = some t → [y0.1, y1.1, y2.1][j]? = some e → ∀ k ∈ e.weights Tryz.prog t, k ≤ reachBytes := by
    intro j t e ht he k hk
    apply hw
    rw [hd, DataW.weights]
    simp only [Tryz.underlying47]
    exact DataW.weights_mem_each (ts := [9, 22, 3]) ht he k hk
  have hs := hwe 0 _ _ rfl rfl
  have hb := hwe 1 _ _ rfl rfl
  obtain ⟨bs, hB, lB⟩ := trod_bytes1 (y := y1) h1 hb
  have hz : s.size ≤ reachBytes := by
    apply hs
    rw [e0]
    show s.size ∈ DataW.weights Tryz.prog 9 (DataW.lit (Lit.string s.data.toList))
    rw [DataW.weights, Array.length_toList]
    exact List.mem_singleton.2 rfl
  simp only [List.cons.injEq, and_true] at es em
  refine ⟨s, c1, m, bs, ?_, hB, lB, ?_, by omega, by omega⟩
  · rw [← es, ← em, ← hcs]
  · have : reachBytes ≤ 140737488351232 := by decide
    omega
end Go.Proofs.YthhbomiknikjpaaGreatDoor
