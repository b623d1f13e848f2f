/-
  The walk of PiecesSplit.
-/
import Derived.Test.YtcpphhdbboiadaaPfi
namespace Go.Proofs.Ytcpphhdbboiadaa
open Go Go.RowKit
set_option linter.unusedSimpArgs false
set_option linter.unusedVariables false

def sp0 : PS := ⟨3000, 0, 0, 0, false, fun _ => none⟩
/-- Pieces that hold some bytes from a place on. -/
structure Mid (s : PS) (a : Nat) (b : List (BitVec 8)) (last : Bool) : Prop where
  good : Good s
  room : s.room = 3000
  read : s.read = 0
  f : ∀ j, s.f j = if a ≤ j then b[j - a]? else none
  known : s.known = last
  fin : s.fin = if last = true then a + b.length else 0
theorem put0_e {s : PS} {a : Nat} {bs : List (BitVec 8)} (n : Nat) (hn : n = bs.length) (last : Bool) (hr : s.room = 3000) (h0 : s.read = 0) (ha : a + n ≤ 3000) (hk : s.known = true → a + n ≤ s.fin ∧ (last = true → s.fin ≤ a + n)) (hc : last = true → s.come ≤ a + n) : putE s a n last = 0 := by
  unfold putE
  rw [if_neg (by omega), if_neg (by
    rintro (⟨h1, h2⟩ | ⟨h1, h2⟩)
    · obtain ⟨h3, h4⟩ := hk h1
      rcases h2 with h2 | ⟨h5, h2⟩
      · omega
      · have := h4 h5; omega
    · have := hc h1; omega), if_neg (by omega)]
theorem sp0_good : Good sp0 := Good.new (by omega)
theorem put_eq {s : PS} {a : Nat} {bs : List (BitVec 8)} {last : Bool} (h : putE s a bs.length last = 0) : putS s a bs last = { s with f := putH s.f s.read a bs, come := max s.come (a + bs.length), known := s.known || last, fin := if last = true then a + bs.length else s.fin } := by
  unfold putS
  rw [if_pos h]
theorem mid_p (a : Nat) (b : List (BitVec 8)) (last : Bool) (ha : a < 1000) (hb : b.length ≤ 1000) : putE sp0 a b.length last = 0 ∧ Mid (putS sp0 a b last) a b last := by
  have e : putE sp0 a b.length last = 0 := put0_e (bs := b) _ rfl last rfl rfl (by omega) (fun h => by cases h) (fun _ => Nat.zero_le _)
  refine ⟨e, ?_⟩
  have hg := sp0_good.put a b last
  rw [put_eq e] at hg ⊢
  refine ⟨hg, rfl, rfl, fun j => ?_, by simp [sp0], rfl⟩
  simp [putH, sp0]
theorem mid_a (a k : Nat) (b : List (BitVec 8)) (last : Bool) (ha : a < 1000) (hb : b.length ≤ 1000) (hk : k ≤ b.length) :
    putE sp0 a k false = 0 ∧ putE (putS sp0 a (b.take k) false) (a + k) (b.length - k) last = 0 ∧ Mid (putS (putS sp0 a (b.take k) false) (a + k) (b.drop k) last) a b last := by
  have lt : (b.take k).length = k := by rw [List.length_take]; omega
  have e1 : putE sp0 a k false = 0 := put0_e (bs := b.take k) _ lt.symm false rfl rfl (by omega) (fun h => by cases h) (fun h => by cases h)
  have e1' : putE sp0 a (b.take k).length false = 0 := by rw [lt]; exact e1
  have e2 : putE (putS sp0 a (b.take k) false) (a + k) (b.length - k) last = 0 := by
    rw [put_eq e1']
    exact put0_e (bs := b.drop k) _ (by rw [List.length_drop]) last rfl rfl (by omega) (fun h => by cases h) (fun _ => by simp only [sp0, lt]; omega)
  have e2' : putE (putS sp0 a (b.take k) false) (a + k) (b.drop k).length last = 0 := by rw [List.length_drop]; exact e2
  refine ⟨e1, e2, ?_⟩
  have hg := (sp0_good.put a (b.take k) false).put (a + k) (b.drop k) last
  rw [put_eq e2', put_eq e1'] at hg ⊢
  refine ⟨hg, rfl, rfl, fun j => ?_, by simp [sp0], by
    simp only [List.length_drop, sp0]
    split
    · omega
    · rfl⟩
  simp only [putH, sp0, Option.isSome_none, Bool.false_eq_true, if_false, Nat.zero_le, true_and]
  by_cases h1 : a ≤ j
  · simp only [h1, if_true]
    by_cases h2 : j - a < k
    · rw [List.getElem?_take, if_pos h2, List.getElem?_eq_getElem (by omega)]
      rfl
    · rw [List.getElem?_take, if_neg h2]
      simp only [Option.isSome_none, Bool.false_eq_true, if_false]
      rw [if_pos (by omega), List.getElem?_drop]
      congr 1
      omega
  · simp only [h1, if_false, Option.isSome_none, Bool.false_eq_true]
    rw [if_neg (by omega)]
theorem mid_b (a k : Nat) (b : List (BitVec 8)) (last : Bool) (ha : a < 1000) (hb : b.length ≤ 1000) (hk : k ≤ b.length) :
    putE sp0 (a + k) (b.length - k) last = 0 ∧ putE (putS sp0 (a + k) (b.drop k) last) a k false = 0 ∧ Mid (putS (putS sp0 (a + k) (b.drop k) last) a (b.take k) false) a b last := by
  have lt : (b.take k).length = k := by rw [List.length_take]; omega
  have e1 : putE sp0 (a + k) (b.length - k) last = 0 := put0_e (bs := b.drop k) _ (by rw [List.length_drop]) last rfl rfl (by omega) (fun h => by cases h) (fun h => Nat.zero_le _)
  have e1' : putE sp0 (a + k) (b.drop k).length last = 0 := by rw [List.length_drop]; exact e1
  have e2 : putE (putS sp0 (a + k) (b.drop k) last) a k false = 0 := by
    rw [put_eq e1']
    refine put0_e (bs := b.take k) _ lt.symm false rfl rfl (by omega) (fun h => ⟨?_, fun h => by cases h⟩) (fun h => by cases h)
    simp only [sp0, Bool.false_or] at h
    simp only [h, if_true, List.length_drop]
    omega
  have e2' : putE (putS sp0 (a + k) (b.drop k) last) a (b.take k).length false = 0 := by rw [lt]; exact e2
  refine ⟨e1, e2, ?_⟩
  have hg := (sp0_good.put (a + k) (b.drop k) last).put a (b.take k) false
  rw [put_eq e2', put_eq e1'] at hg ⊢
  refine ⟨hg, rfl, rfl, fun j => ?_, by simp [sp0], by
    simp only [List.length_drop, sp0, Bool.false_eq_true, if_false]
    split
    · omega
    · rfl⟩
  simp only [putH, sp0, Option.isSome_none, Bool.false_eq_true, if_false, Nat.zero_le, true_and]
  by_cases h1 : a + k ≤ j
  · simp only [h1, if_true]
    rw [List.getElem?_drop, show k + (j - (a + k)) = j - a by omega]
    have haj : a ≤ j := by omega
    cases h3 : b[j - a]?
    · simp only [Option.isSome_none, Bool.false_eq_true, if_false, haj, if_true]
      rw [List.getElem?_take, if_neg (show ¬ j - a < k by omega)]
    · simp [haj]
  · simp only [h1, if_false, Option.isSome_none, Bool.false_eq_true]
    by_cases h2 : a ≤ j
    · simp only [h2, if_true]
      rw [List.getElem?_take, if_pos (by omega)]
    · simp only [h2, if_false]
theorem mid_z {s : PS} {a : Nat} {b : List (BitVec 8)} {last : Bool} (h : Mid s a b last) (ha : a < 1000) (hb : b.length ≤ 1000) :
    putE s 0 a false = 0 ∧ Good (putS s 0 (List.replicate a 0) false) ∧ (putS s 0 (List.replicate a 0) false).read = 0 ∧ (∀ j, (putS s 0 (List.replicate a 0) false).f j = (List.replicate a 0 ++ b)[j]?) ∧ ((putS s 0 (List.replicate a 0) false).known && decide (0 + (a + b.length) = (putS s 0 (List.replicate a 0) false).fin)) = last := by
  have lr : (List.replicate a (0 : BitVec 8)).length = a := List.length_replicate
  have e : putE s 0 a false = 0 := put0_e (bs := List.replicate a 0) _ lr.symm false h.room h.read (by omega) (fun hk => ⟨by
    rw [h.known] at hk
    rw [h.fin, if_pos hk]
    omega, fun h => by cases h⟩) (fun h => by cases h)
  have e' : putE s 0 (List.replicate a (0 : BitVec 8)).length false = 0 := by rw [lr]; exact e
  refine ⟨e, h.good.put _ _ _, ?_⟩
  rw [put_eq e']
  refine ⟨h.read, fun j => ?_, ?_⟩
  · simp only [putH, h.f, Nat.sub_zero, Nat.zero_le, and_true]
    rw [if_pos (show s.read ≤ j by rw [h.read]; omega)]
    by_cases h1 : a ≤ j
    · simp only [h1, if_true]
      rw [List.getElem?_append_right (by omega), lr]
      cases h3 : b[j - a]?
      · simp only [Option.isSome_none, Bool.false_eq_true, if_false]
        exact List.getElem?_eq_none (by omega)
      · rfl
    · simp only [h1, if_false, Option.isSome_none, Bool.false_eq_true]
      rw [List.getElem?_append_left (by omega)]
  · simp only [h.known, Bool.or_false, h.fin, Bool.false_eq_true, if_false]
    cases last <;> simp
theorem list_out {s : PS} {L : List (BitVec 8)} (h0 : s.read = 0) (hf : ∀ j, s.f j = L[j]?) (hl : L.length ≤ 3000) {i : Nat} (hi : i ≤ 3000) (h1 : ∀ j, j < i → (s.f (s.read + j)).isSome = true) (h2 : i = 3000 ∨ s.f (s.read + i) = none) : i = L.length ∧ outL s.f s.read i = L := by
  rw [h0] at h1 h2 ⊢
  simp only [hf, Nat.zero_add] at h1 h2
  have e : i = L.length := run_uniq (f := fun j => L[j]?) (r := 0) hi (fun j hj => by simpa using h1 j hj) (by simpa using h2) hl (fun j hj => by simp [hj]) (.inr (by simp))
  refine ⟨e, ?_⟩
  subst e
  apply List.ext_getElem?
  intro j
  unfold outL
  rw [List.getElem?_map]
  by_cases hj : j < L.length
  · rw [List.getElem?_range hj, Option.map_some, Nat.zero_add, hf, List.getElem?_eq_getElem hj]
    rfl
  · rw [List.getElem?_eq_none (by simpa using hj), List.getElem?_eq_none (by omega)]
    rfl
end Go.Proofs.Ytcpphhdbboiadaa
