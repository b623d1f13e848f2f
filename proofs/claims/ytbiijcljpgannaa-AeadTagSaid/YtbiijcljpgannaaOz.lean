/-
  An argument [2]byte.
-/
import Derived.Test.YtbiijcljpgannaaBs
namespace Go.Proofs.Ytbiijcljpgannaa
open Go Go.RowKit Go.WideShapes Go.Deep
set_option linter.unusedVariables false
section
variable {H : Type} {enc : TypeId × Value → H} {P : Program} {w : World} {base : Nat} {spare : Nat → Bool} {held : Bool}
theorem trod_arr8 {t E : TypeId} {N fuel : Nat} {cs : List Value} {x : DataW H × List MemPlace} (ht : P.underlying t = some (.array N E)) (hE : P.underlying E = some (.int .u8)) (hc : P.cellsOf E = 1) (hN : P.cellsOf t = N)
    (h : DataW.trod enc P w base spare held fuel t cs = some x) : ∃ bs : List (BitVec 8), bs.length = N ∧ cs = bytesV bs := by
  obtain ⟨xs, m, _, _, hl, hx, hi⟩ := DataW.trod_array ht h
  rw [hN] at hl
  have hcell : ∀ i, i < N → ∃ b : BitVec 8, cs[i]? = some (.int .u8 (b.toNat : Int)) := by
    intro i hlt
    have h1 := hi i hlt
    rw [hc, Nat.mul_one] at h1
    obtain ⟨y, hy⟩ : ∃ y, xs[i]? = some y := ⟨xs[i]'(by omega), by simp⟩
    rw [hy] at h1
    obtain ⟨n, hn, _, hw⟩ := DataW.trod_int hE h1
    obtain ⟨b, rfl⟩ := wf_u8 hw
    refine ⟨b, ?_⟩
    have : ((cs.drop i).take 1)[0]? = some (.int .u8 (b.toNat : Int)) := by rw [hn]; rfl
    simpa using this
  obtain ⟨bs, hbs⟩ := list_of_cells (fun b : BitVec 8 => Value.int .u8 (b.toNat : Int)) cs (fun i hlt => hcell i (by omega))
  exact ⟨bs, by rw [← hl, hbs, List.length_map], hbs⟩
end
theorem open_arr2 {H : Type} {enc : TypeId × Value → H} {w : World} {base : Nat} {spare : Nat → Bool} {held : Bool} {v : Value} {d : DataW H} {ps : List MemPlace} {r : Reach} {b2 : Nat} (hv : Value.okWide Try.prog w r b2 31 v)
    (h : DataW.Trod enc Try.prog w base spare held 31 v d ps) : ∃ bs : List (BitVec 8), v = .agg (encB bs) ∧ bs.length = 2 := by
  unfold Value.okWide at hv
  rw [Try.underlying31] at hv
  obtain ⟨cs, rfl, _, _⟩ := hv
  obtain ⟨fuel, hf0⟩ := h
  have hf : DataW.trod enc Try.prog w base spare held fuel 31 cs.toList = some (d, ps) := hf0
  have c12 : Try.prog.cellsOf 31 = 2 := by kernel_rfl
  have c8 : Try.prog.cellsOf 5 = 1 := by kernel_rfl
  obtain ⟨bs, hb, e⟩ := trod_arr8 Try.underlying31 Try.underlying5 c8 c12 hf
  refine ⟨bs, ?_, hb⟩
  unfold encB
  rw [show bs.map (fun x => Value.int .u8 (x.toNat : Int)) = cs.toList from e.symm]
theorem two_of : ∀ (l : List (BitVec 8)), l.length = 2 → ∃ a b, l = [a, b]
  | [a, b], _ => ⟨a, b, rfl⟩
end Go.Proofs.Ytbiijcljpgannaa
