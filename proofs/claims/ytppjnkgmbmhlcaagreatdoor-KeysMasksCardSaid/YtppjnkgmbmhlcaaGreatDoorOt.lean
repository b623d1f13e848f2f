/-
  A law's argument of the type [2][]byte.
-/
import Derived.WalkKit
import Derived.ProofKit
import Derived.OpenShut
import Derived.SizedLaws
import Derived.Test.YtppjnkgmbmhlcaaGreatDoorBs
namespace Go.Proofs.YtppjnkgmbmhlcaaGreatDoor
set_option maxRecDepth 100000
open Go Go.RowKit Go.WideShapes Go.Deep
set_option linter.unusedSimpArgs false
set_option linter.unusedVariables false
theorem open_two {H : Type} {enc : TypeId × Value → H} {w : World} {base : Nat} {spare : Nat → Bool} {held : Bool} {v : Value} {d : DataW H} {ps : List MemPlace} {r : Reach} {b2 : Nat} (hv : Value.okWide Tryz.prog w r b2 24 v)
    (h : DataW.Trod enc Tryz.prog w base spare held 24 v d ps) (hw : ∀ n ∈ d.weights Tryz.prog 24, n ≤ reachBytes) :
    ∃ va vb a b, v = .agg #[va, vb] ∧ ByteAt w va a ∧ ByteAt w vb b ∧ a.length ≤ 140737488351232 ∧ b.length ≤ 140737488351232 := by
  unfold Value.okWide at hv
  rw [Tryz.underlying24] at hv
  obtain ⟨cs, rfl, _, _⟩ := hv
  obtain ⟨fuel, hf0⟩ := h
  have hf : DataW.trod enc Tryz.prog w base spare held fuel 24 cs.toList = some (d, ps) := hf0
  obtain ⟨xs, n, _, hds, hl, hx, hi⟩ := DataW.trod_array Tryz.underlying24 hf
  have cN : Tryz.prog.cellsOf 24 = 2 := by kernel_rfl
  have cB : Tryz.prog.cellsOf 22 = 1 := by kernel_rfl
  rw [cN] at hl
  have h0 := hi 0 (by omega)
  have h1 := hi 1 (by omega)
  obtain ⟨y0, y1, rfl⟩ : ∃ a b, xs = [a, b] := by
    match xs, hx with
    | [a, b], _ => exact ⟨a, b, rfl⟩
  obtain ⟨c0, c1, hcs⟩ : ∃ a b, cs.toList = [a, b] := by
    match cs.toList, hl with
    | [a, b], _ => exact ⟨a, b, rfl⟩
  rw [hcs, cB] at h0 h1
  simp only [Nat.zero_mul, Nat.one_mul, List.drop_zero, List.drop_succ_cons, List.take_succ_cons, List.take_zero, List.getElem?_cons_zero, List.getElem?_cons_succ] at h0 h1
  have hd : d = DataW.agg [y0.1, y1.1] := congrArg Prod.fst hds
  rw [hd, DataW.weights] at hw
  simp only [Tryz.underlying24, DataW.weightsAll] at hw
  have w0 : ∀ k ∈ y0.1.weights Tryz.prog 22, k ≤ reachBytes := fun k hk => hw k (by simp [hk])
  have w1 : ∀ k ∈ y1.1.weights Tryz.prog 22, k ≤ reachBytes := fun k hk => hw k (by simp [hk])
  obtain ⟨a, hA, lA⟩ := trod_bytes1 (y := y0) h0 w0
  obtain ⟨b, hB, lB⟩ := trod_bytes1 (y := y1) h1 w1
  refine ⟨c0, c1, a, b, ?_, hA, hB, lA, lB⟩
  rw [← hcs]
end Go.Proofs.YtppjnkgmbmhlcaaGreatDoor
