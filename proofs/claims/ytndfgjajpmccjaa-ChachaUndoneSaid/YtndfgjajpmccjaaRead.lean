/-
  What a reading of an argument tells of its cells: arrays of bytes, whole numbers.
-/
import Derived.WalkKit
import Derived.ProofKit
import Derived.OpenShut
import Derived.Test.YtndfgjajpmccjaaEq
namespace Go.Proofs.Ytndfgjajpmccjaa
open Go Go.RowKit
set_option linter.unusedSimpArgs false
variable {H : Type} {enc : TypeId × Value → H} {P : Program} {w : World} {base : Nat} {spare : Nat → Bool} {held : Bool}

theorem wf_u8 {n : Int} (h : (Lit.int .u8 n).wf = true) : ∃ x : BitVec 8, n = (x.toNat : Int) := by
  have hb := bounds_u8 h
  exact ⟨BitVec.ofNat 8 n.toNat, by rw [BitVec.toNat_ofNat]; omega⟩
theorem wf_u32 {n : Int} (h : (Lit.int .u32 n).wf = true) : ∃ x : BitVec 32, n = (x.toNat : Int) := by
  have hb := bounds_u32 h
  exact ⟨BitVec.ofNat 32 n.toNat, by rw [BitVec.toNat_ofNat]; omega⟩

theorem list_of_cells {α : Type} (f : α → Value) : ∀ (cs : List Value), (∀ i, i < cs.length → ∃ a, cs[i]? = some (f a)) → ∃ l : List α, cs = l.map f
  | [], _ => ⟨[], rfl⟩
  | c :: cs, h => by
    obtain ⟨a, ha⟩ := h 0 (by simp)
    obtain ⟨l, hl⟩ := list_of_cells f cs (fun i hi => by simpa using h (i + 1) (by simpa using hi))
    refine ⟨a :: l, ?_⟩
    simp at ha
    rw [ha, hl]
    rfl

theorem trod_bytes {t E : TypeId} {N fuel : Nat} {cs : List Value} {x : DataW H × List MemPlace} (ht : P.underlying t = some (.array N E)) (hE : P.underlying E = some (.int .u8)) (hc : P.cellsOf E = 1) (hN : P.cellsOf t = N)
    (h : DataW.trod enc P w base spare held fuel t cs = some x) : ∃ bs : List (BitVec 8), bs.length = N ∧ cs = bs.map fun b => .int .u8 (b.toNat : Int) := by
  obtain ⟨xs, m, _, _, hl, hx, hi⟩ := DataW.trod_array ht h
  rw [hN] at hl
  have hcell : ∀ i, i < N → ∃ b : BitVec 8, cs[i]? = some (.int .u8 (b.toNat : Int)) := by
    intro i hlt
    have h1 := hi i hlt
    rw [hc, Nat.mul_one] at h1
    obtain ⟨y, hy⟩ : ∃ y, xs[i]? = some y := ⟨xs[i]'(by omega), by simp⟩
    rw [hy] at h1
    obtain ⟨n, hn, _, hw⟩ := DataW.trod_int hE h1
    obtain ⟨b, rfl⟩ := wf_u8 hw
    refine ⟨b, ?_⟩
    have : ((cs.drop i).take 1)[0]? = some (.int .u8 (b.toNat : Int)) := by rw [hn]; rfl
    simpa using this
  obtain ⟨bs, hbs⟩ := list_of_cells (fun b : BitVec 8 => Value.int .u8 (b.toNat : Int)) cs (fun i hlt => hcell i (by omega))
  exact ⟨bs, by rw [← hl, hbs, List.length_map], hbs⟩
end Go.Proofs.Ytndfgjajpmccjaa
