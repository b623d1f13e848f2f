/-
  A law's argument of the type []byte, within the reach.
-/
import Derived.WalkKit
import Derived.ProofKit
import Derived.OpenShut
import Derived.Test.YtbiijcljpgannaaGreatDoorMA
namespace Go.Proofs.YtbiijcljpgannaaGreatDoor
set_option maxRecDepth 100000
open Go Go.RowKit Go.WideShapes Go.Deep
set_option linter.unusedSimpArgs false
set_option linter.unusedVariables false
theorem open_bytes_sized {H : Type} {enc : TypeId × Value → H} {w : World} {base : Nat} {spare : Nat → Bool} {held : Bool} {v : Value} {d : DataW H} {ps : List MemPlace} {r : Reach} {b2 : Nat} (hv : Value.okWide Tryz.prog w r b2 22 v)
    (h : DataW.Trod enc Tryz.prog w base spare held 22 v d ps) (hw : ∀ n ∈ d.weights Tryz.prog 22, n ≤ reachBytes) : ∃ bs, ByteAt w v bs ∧ bs.length ≤ 140737488351232 := by
  obtain ⟨a1, len, cap, rfl⟩ := okWide_slice Tryz.underlying22 hv
  obtain ⟨fuel, hf⟩ := h
  exact trod_bytes1 (y := (d, ps)) hf hw
theorem Mod.asBelow {w w' : World} (m : Mod (fun _ => False) w w') : Below w.heap.size w w' := m.below (Nat.le_refl _) (fun _ h => h.elim)
end Go.Proofs.YtbiijcljpgannaaGreatDoor
