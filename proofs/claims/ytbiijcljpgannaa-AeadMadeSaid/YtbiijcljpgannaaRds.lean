/-
  Arguments that are slices of structs; the ops of pieces.
-/
import Derived.Deep.Fields
import Derived.ChangeSame
import Derived.SizedLaws
import Derived.Test.YtbiijcljpgannaaByo
namespace Go.Proofs.Ytbiijcljpgannaa
open Go Go.RowKit Go.WideShapes Go.Deep Go.ChangeShapes
set_option linter.unusedSimpArgs false
set_option linter.unusedVariables false

section
variable {H : Type} {enc : TypeId × Value → H} {P : Program} {w : World} {base : Nat} {spare : Nat → Bool} {held : Bool}
theorem open_slice_fields {t e : TypeId} {fs : Array Field} {fuel : Nat} {cs : List Value} {x : DataW H × List MemPlace} (ht : P.underlying t = some (.slice e)) (he : P.underlying e = some (.struct fs))
    (hone : oneCellFields P fs = true) (hC : P.cellsOf e = fs.size) (h : DataW.trod enc P w base spare held fuel t cs = some x) :
    (cs = [.slice none 0 0] ∧ x = (.nil, [])) ∨
    ∃ (a : Addr) (len cap m : Nat) (D : Nat → DataW H) (Pl : Nat → List MemPlace), cs = [.slice (some a) len cap] ∧ base ≤ a.block ∧ len ≤ cap ∧ cap ≤ maxLen ∧ m = (if spare a.block then cap else len) ∧
      x = (.slice ((List.range len).map D) ((List.range (m - len)).map fun j => D (len + j)), MemPlace.row a (m * fs.size) ++ (List.range m).flatMap Pl) ∧
      ∀ i, i < m → ∃ (ys : List (DataW H × List MemPlace)) (n : Nat), D i = .agg (ys.map (·.1)) ∧ Pl i = ys.flatMap (·.2) ∧ ys.length = fs.size ∧
        ∀ (j : Nat) (f : Field), fs[j]? = some f → ∃ (v : Value) (y : DataW H × List MemPlace), w.cell? (a.add (i * fs.size + j)) = some v ∧ ys[j]? = some y ∧ DataW.trod enc P w base spare held n f.type [v] = some y := by
  rcases open_slice ht h with h0 | ⟨a, len, cap, m, n, D, Pl, hcs, hb, hl, hm, hmm, hx, hi⟩
  · exact .inl h0
  · refine .inr ⟨a, len, cap, m, D, Pl, hcs, hb, hl, hm, hmm, by rw [hC] at hx; exact hx, fun i him => ?_⟩
    obtain ⟨cs', hc, ht'⟩ := hi i him
    rw [hC] at hc
    obtain ⟨ys, n', hn', hy, hlen, hyl, hf⟩ := DataW.trod_struct he ht'
    obtain ⟨_, hcl, hat⟩ := World.cells?_some hc
    simp only [Prod.mk.injEq] at hy
    refine ⟨ys, n', hy.1, hy.2, hyl, fun j f hj => ?_⟩
    obtain ⟨ho, hk⟩ := hone_of hone j f hj
    have hjl : j < fs.size := (Array.getElem?_eq_some_iff.1 hj).1
    have hcell := hat j hjl
    have hv : cs'[j]? = some (cs'[j]'(by omega)) := List.getElem?_eq_getElem (by omega)
    have h1 := hf j f hj
    rw [ho, hk] at h1
    have hone' : (cs'.drop j).take 1 = [cs'[j]'(by omega)] := by
      rw [List.drop_eq_getElem_cons (by omega)]
      rfl
    rw [hone'] at h1
    have hys : ys[j]? = some (ys[j]'(by omega)) := List.getElem?_eq_getElem (by omega)
    refine ⟨_, _, ?_, hys, h1.trans hys⟩
    rw [← Go.Deep.add_add, hcell, hv]
end

theorem list_choose {α : Type} {Q : Nat → α → Prop} : ∀ n, (∀ i, i < n → ∃ a, Q i a) → ∃ l : List α, l.length = n ∧ ∀ j a, l[j]? = some a → Q j a
  | 0, _ => ⟨[], rfl, fun j a h => by simp at h⟩
  | n + 1, h => by
    obtain ⟨l, h1, h2⟩ := list_choose n (fun i hi => h i (by omega))
    obtain ⟨a, ha⟩ := h n (by omega)
    refine ⟨l ++ [a], by simp [h1], fun j b hj => ?_⟩
    by_cases e : j < l.length
    · rw [List.getElem?_append_left e] at hj
      exact h2 j b hj
    · rw [List.getElem?_append_right (by omega)] at hj
      have e2 : j - l.length = 0 := by
        by_cases e2 : j - l.length = 0
        · exact e2
        · rw [List.getElem?_eq_none (by simp; omega)] at hj
          cases hj
      rw [e2] at hj
      simp only [List.getElem?_cons_zero, Option.some.injEq] at hj
      subst hj
      rw [show j = n by omega]
      exact ha

section
variable {H : Type} {enc : TypeId × Value → H} {P : Program} {w : World} {base : Nat} {spare : Nat → Bool} {held : Bool}
/-- What lies in a slice is no greater than all may be. -/
theorem fits_elem {t e : TypeId} {elems sp : List (DataW H)} (ht : P.underlying t = some (.slice e)) (h : ∀ n ∈ (DataW.slice elems sp).weights P t, n ≤ reachBytes) {i : Nat} {d : DataW H} (hi : elems[i]? = some d) : ∀ n ∈ d.weights P e, n ≤ reachBytes := by
  intro n hn
  apply h
  unfold DataW.weights
  rw [ht]
  simp only [List.mem_cons, List.mem_append]
  refine .inr (.inl ?_)
  clear h
  induction elems generalizing i with
  | nil => simp at hi
  | cons x l ih =>
    unfold DataW.weightsAll
    rw [List.mem_append]
    cases i with
    | zero =>
      simp only [List.getElem?_cons_zero, Option.some.injEq] at hi
      subst hi
      exact .inl hn
    | succ i => exact .inr (ih (by simpa using hi))
theorem fits_field {t : TypeId} {fs : Array Field} {parts : List (DataW H)} (ht : P.underlying t = some (.struct fs)) (h : ∀ n ∈ (DataW.agg parts).weights P t, n ≤ reachBytes) {j : Nat} {f : Field} {d : DataW H} (hf : fs[j]? = some f) (hd : parts[j]? = some d) : ∀ n ∈ d.weights P f.type, n ≤ reachBytes := by
  intro n hn
  apply h
  unfold DataW.weights
  rw [ht]
  simp only
  refine DataW.weights_mem_each (j := j) (t := f.type) (d := d) ?_ hd n hn
  rw [List.getElem?_map, Array.getElem?_toList, hf]
  rfl
theorem fits_slice {t e : TypeId} {elems sp : List (DataW H)} (ht : P.underlying t = some (.slice e)) (h : ∀ n ∈ (DataW.slice elems sp).weights P t, n ≤ reachBytes) : (elems.length + sp.length) * P.bytesOf e ≤ reachBytes := by
  apply h
  unfold DataW.weights
  rw [ht]
  simp
end

theorem trod_bytes1 {H : Type} {enc : TypeId × Value → H} {w : World} {base fuel : Nat} {spare : Nat → Bool} {held : Bool} {v : Value} {y : DataW H × List MemPlace} (h : DataW.trod enc Try.prog w base spare held fuel 22 [v] = some y)
    (hw : ∀ n ∈ y.1.weights Try.prog 22, n ≤ reachBytes) : ∃ bs, ByteAt w v bs ∧ bs.length ≤ 140737488351232 := by
  rcases open_slice1 Try.underlying22 (show Try.prog.cellsOf 5 = 1 by kernel_rfl) h with ⟨hcs, hx⟩ | ⟨a, len', cap', m, n, V, D, Pl, hcs, _, hl, hm, hmm, hx, hcell⟩
  · simp only [List.cons.injEq, and_true] at hcs
    subst hcs
    exact ⟨[], .inl ⟨_, _, rfl, rfl⟩, by simp⟩
  · simp only [List.cons.injEq, and_true] at hcs
    subst hcs
    have hle : len' ≤ m := by rw [hmm]; split <;> omega
    obtain ⟨bs, h1, h2⟩ := byteAt_of_cells (w := w) (a := a) (len := len') hl V (fun i hi => by
      obtain ⟨h1, h2⟩ := hcell i (by omega)
      obtain ⟨k, hk, _, hw⟩ := DataW.trod_int Try.underlying5 h2
      obtain ⟨b, rfl⟩ := wf_u8 hw
      exact ⟨h1, b, by simpa using hk⟩)
    refine ⟨bs, h1, ?_⟩
    rw [hx] at hw
    have h3 := fits_slice Try.underlying22 hw
    rw [show Try.prog.bytesOf 5 = 1 by kernel_rfl] at h3
    simp only [List.length_map, List.length_range, Nat.mul_one] at h3
    have : reachBytes = 140737488351232 := rfl
    omega
end Go.Proofs.Ytbiijcljpgannaa
