/-
  A law's argument of the type []byte.
-/
import Derived.Lib.SmallJoins
import Derived.Deep.Slices
import Derived.OpenShut
import Derived.ProofKit
import Derived.WalkKit
import Derived.Test.YtbiijcljpgannaaBy
namespace Go.Proofs.Ytbiijcljpgannaa
open Go Go.RowKit Go.WideShapes Go.Deep
set_option linter.unusedSimpArgs false

theorem wf_u8 {n : Int} (h : (Lit.int .u8 n).wf = true) : ∃ x : BitVec 8, n = (x.toNat : Int) := by
  have hb := bounds_u8 h
  exact ⟨BitVec.ofNat 8 n.toNat, by rw [BitVec.toNat_ofNat]; omega⟩
theorem wf_u32 {n : Int} (h : (Lit.int .u32 n).wf = true) : ∃ x : BitVec 32, n = (x.toNat : Int) := by
  have hb := bounds_u32 h
  exact ⟨BitVec.ofNat 32 n.toNat, by rw [BitVec.toNat_ofNat]; omega⟩

theorem list_of_cells {α : Type} (f : α → Value) : ∀ (cs : List Value), (∀ i, i < cs.length → ∃ a, cs[i]? = some (f a)) → ∃ l : List α, cs = l.map f
  | [], _ => ⟨[], rfl⟩
  | c :: cs, h => by
    obtain ⟨a, ha⟩ := h 0 (by simp)
    obtain ⟨l, hl⟩ := list_of_cells f cs (fun i hi => by simpa using h (i + 1) (by simpa using hi))
    refine ⟨a :: l, ?_⟩
    simp at ha
    rw [ha, hl]
    rfl

theorem byteAt_of_cells {w : World} {a : Addr} {len cap : Nat} (hc : len ≤ cap) (V : Nat → Value) (h : ∀ i, i < len → w.cell? (a.add i) = some (V i) ∧ ∃ x : BitVec 8, V i = .int .u8 (x.toNat : Int)) : ∃ bs, ByteAt w (.slice (some a) len cap) bs ∧ bs.length = len := by
  obtain ⟨bs, hbs⟩ := list_of_cells (fun b : BitVec 8 => Value.int .u8 (b.toNat : Int)) ((List.range len).map V) (fun i hi => by
    simp only [List.length_map, List.length_range] at hi
    obtain ⟨_, x, hx⟩ := h i hi
    exact ⟨x, by rw [List.getElem?_map, List.getElem?_range hi, Option.map_some, hx]⟩)
  have hl : bs.length = len := by
    have := congrArg List.length hbs
    simpa using this.symm
  refine ⟨bs, ?_, hl⟩
  by_cases h0 : len = 0
  · subst h0
    obtain rfl := List.eq_nil_of_length_eq_zero hl
    exact .inl ⟨_, _, rfl, rfl⟩
  · obtain ⟨g, off, spot⟩ := a
    have hspot : spot = none := by simpa [Addr.add] using World.cell?_spot (h 0 (by omega)).1
    subst hspot
    refine .inr ⟨g, off, cap, by rw [hl], by omega, fun j hj => ?_⟩
    rw [hl] at hj
    obtain ⟨h1, _⟩ := h j hj
    rw [Addr.add_lit] at h1
    rw [h1]
    congr 1
    have h2 : ((List.range len).map V)[j]? = some (V j) := by rw [List.getElem?_map, List.getElem?_range hj]; rfl
    rw [hbs, List.getElem?_map] at h2
    rw [List.getD_eq_getElem?_getD]
    cases hb : bs[j]? with
    | none => rw [hb] at h2; cases h2
    | some b =>
      rw [hb] at h2
      simp only [Option.map_some, Option.some.injEq] at h2
      rw [← h2]
      rfl

theorem open_bytes {H : Type} {enc : TypeId × Value → H} {w : World} {base : Nat} {spare : Nat → Bool} {held : Bool} {v : Value} {d : DataW H} {ps : List MemPlace} {r : Reach} {b2 : Nat} (hv : Value.okWide Try.prog w r b2 22 v)
    (h : DataW.Trod enc Try.prog w base spare held 22 v d ps) : ∃ bs, ByteAt w v bs ∧ bs.length < 9223372036854775808 := by
  obtain ⟨a1, len, cap, rfl⟩ := okWide_slice Try.underlying22 hv
  obtain ⟨fuel, hf⟩ := h
  rcases open_slice1 Try.underlying22 (show Try.prog.cellsOf 5 = 1 by kernel_rfl) hf with ⟨hcs, hx⟩ | ⟨a, len', cap', m, n, V, D, Pl, hcs, _, hl, hm, hmm, hx, hcell⟩
  · simp [Value.cells] at hcs
    obtain ⟨rfl, rfl, rfl⟩ := hcs
    exact ⟨[], .inl ⟨_, _, rfl, rfl⟩, by simp⟩
  · simp [Value.cells] at hcs
    obtain ⟨rfl, rfl, rfl⟩ := hcs
    have hle : len ≤ m := by rw [hmm]; split <;> omega
    obtain ⟨bs, h1, h2⟩ := byteAt_of_cells (w := w) (a := a) (len := len) hl V (fun i hi => by
      obtain ⟨h1, h2⟩ := hcell i (by omega)
      obtain ⟨k, hk, _, hw⟩ := DataW.trod_int Try.underlying5 h2
      obtain ⟨b, rfl⟩ := wf_u8 hw
      exact ⟨h1, b, by simpa using hk⟩)
    refine ⟨bs, h1, ?_⟩
    have : maxLen = 9223372036854775807 := rfl
    omega
end Go.Proofs.Ytbiijcljpgannaa
