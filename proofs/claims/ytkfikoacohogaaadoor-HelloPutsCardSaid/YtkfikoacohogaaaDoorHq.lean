/-
  The greeting that bytes begin with, in plain Lean.
-/
import Derived.Test.YtkfikoacohogaaaDoorHs
namespace Go.Proofs.YtkfikoacohogaaaDoor
set_option maxRecDepth 100000
open Go Go.RowKit
set_option linter.unusedSimpArgs false
set_option linter.unusedVariables false

/-- So many numbers, one behind the other. -/
def lims : Nat → List (BitVec 8) → Nat ⊕ (List Nat × Nat)
  | 0, _ => .inr ([], 0)
  | n + 1, bs => match vget bs with
    | none => .inl 4
    | some (x, k) => if vsz x = k then (match lims n (bs.drop k) with | .inl e => .inl e | .inr (l, m) => .inr (x :: l, k + m)) else .inl 5
def hget (bs : List (BitVec 8)) : Nat ⊕ (HD × Nat) :=
  match bs with
  | [] => .inl 4
  | b :: _ => if b.toNat < 1 ∨ 3 < b.toNat then .inl 5
    else if b.toNat = 3 then (if bs.length < 33 then .inl 4 else .inr (⟨b.toNat, z32, z4, (bs.drop 1).take 32⟩, 33))
    else if bs.length < 33 then .inl 4
    else match lims 4 (bs.drop 33) with
      | .inl e => .inl e
      | .inr (l, m) => if b.toNat = 1 then .inr (⟨b.toNat, (bs.drop 1).take 32, l, z32⟩, 33 + m) else if bs.length < 33 + m + 32 then .inl 4 else .inr (⟨b.toNat, (bs.drop 1).take 32, l, (bs.drop (33 + m)).take 32⟩, 33 + m + 32)
def hgV (bs : List (BitVec 8)) : Value :=
  match hget bs with
  | .inl e => .tuple #[.agg (helloC (hzero 0)), .int .i64 0, .int .i64 (e : Int)]
  | .inr (h, n) => .tuple #[.agg (helloC h), .int .i64 (n : Int), .int .i64 0]

theorem lims_put (more : List (BitVec 8)) : ∀ l : List Nat, (∀ x ∈ l, x < 4611686018427387904) → lims l.length (l.flatMap vput ++ more) = .inr (l, (l.flatMap vput).length) := by
  intro l
  induction l with
  | nil => intro _; rfl
  | cons x l ih =>
    intro h
    have h1 := vget_put (h x (by simp)) (l.flatMap vput ++ more)
    have h2 := ih (fun y hy => h y (by simp [hy]))
    rw [List.length_cons, lims, List.flatMap_cons, List.append_assoc, h1]
    simp only
    rw [if_pos trivial, List.drop_append_of_le_length (by rw [vput_length]; exact Nat.le_refl _), List.drop_of_length_le (by rw [vput_length]; exact Nat.le_refl _), List.nil_append, h2, List.length_append, vput_length]
theorem lims_back : ∀ (n : Nat) (bs : List (BitVec 8)) (l : List Nat) (m : Nat), lims n bs = .inr (l, m) → l.length = n ∧ m ≤ bs.length ∧ (∀ x ∈ l, x < 4611686018427387904) ∧ l.flatMap vput = bs.take m := by
  intro n
  induction n with
  | zero =>
    intro bs l m h
    simp only [lims, Sum.inr.injEq, Prod.mk.injEq] at h
    obtain ⟨rfl, rfl⟩ := h
    simp
  | succ n ih =>
    intro bs l m h
    rw [lims] at h
    cases hv : vget bs with
    | none => rw [hv] at h; cases h
    | some p =>
      obtain ⟨x, k⟩ := p
      rw [hv] at h
      simp only at h
      by_cases hk : vsz x = k
      · rw [if_pos hk] at h
        cases hl : lims n (bs.drop k) with
        | inl e => rw [hl] at h; cases h
        | inr q =>
          obtain ⟨l', m'⟩ := q
          rw [hl] at h
          simp only [Sum.inr.injEq, Prod.mk.injEq] at h
          obtain ⟨rfl, rfl⟩ := h
          obtain ⟨h1, h2, h3, h4⟩ := ih _ _ _ hl
          have h5 := vget_len hv
          have h6 := vget_back hv hk
          rw [List.length_drop] at h2
          refine ⟨by simp [h1], by omega, ?_, ?_⟩
          · intro y hy
            rcases List.mem_cons.1 hy with rfl | hy
            · exact h5.2.2.2
            · exact h3 y hy
          · rw [List.flatMap_cons, h4, h6, List.take_add]
      · rw [if_neg hk] at h
        cases h
theorem lims_short : ∀ (n : Nat) (bs : List (BitVec 8)) (l : List Nat) (m i : Nat), lims n bs = .inr (l, m) → i < m → lims n (bs.take i) = .inl 4 := by
  intro n
  induction n with
  | zero =>
    intro bs l m i h hi
    simp only [lims, Sum.inr.injEq, Prod.mk.injEq] at h
    omega
  | succ n ih =>
    intro bs l m i h hi
    rw [lims] at h
    cases hv : vget bs with
    | none => rw [hv] at h; cases h
    | some p =>
      obtain ⟨x, k⟩ := p
      rw [hv] at h
      simp only at h
      by_cases hk : vsz x = k
      · rw [if_pos hk] at h
        cases hl : lims n (bs.drop k) with
        | inl e => rw [hl] at h; cases h
        | inr q =>
          obtain ⟨l', m'⟩ := q
          rw [hl] at h
          simp only [Sum.inr.injEq, Prod.mk.injEq] at h
          obtain ⟨rfl, rfl⟩ := h
          rw [lims]
          by_cases hik : i < k
          · rw [vget_short hv hik]
          · have h1 := ih _ _ _ (i - k) hl (by omega)
            have h2 : vget (bs.take i) = some (x, k) := by
              have := vget_take hv ((bs.take i).drop k)
              rwa [show bs.take k = (bs.take i).take k by rw [List.take_take, Nat.min_eq_left (by omega)], List.take_append_drop] at this
            rw [h2]
            simp only
            rw [if_pos hk, List.drop_take, h1]
      · rw [if_neg hk] at h
        cases h
theorem lims_rest (n : Nat) (bs : List (BitVec 8)) : ∃ r, lims n bs = r := ⟨_, rfl⟩
theorem hget_put {h : HD} (o : h.Ok) (v : HValid h) (more : List (BitVec 8)) : hget (hput h ++ more) = .inr (h, (hput h).length) := by
  obtain ⟨h1, h2, h3, h4⟩ := v
  obtain ⟨k, a, l, p⟩ := h
  simp only at h1 h2 h4
  have oa := o.a
  have ol := o.l
  have op := o.p
  simp only at oa ol op
  have hk : (BitVec.ofNat 8 k).toNat = k := by simp; omega
  unfold hbare at h3
  simp only [HD.mk.injEq, true_and] at h3
  obtain ⟨e1, e2, e3⟩ := h3
  unfold hput hget
  simp only [List.cons_append, hk]
  rw [if_neg (by omega)]
  by_cases k3 : k = 3
  · rw [if_pos k3] at e1 e2
    rw [if_neg (by omega)] at e3
    subst e1 e2
    simp [k3, op]
  · rw [if_neg k3, if_neg k3]
    have hl := lims_put ((if k = 1 then [] else p) ++ more) l h4
    rw [ol] at hl
    have hd : ∀ X : List (BitVec 8), (BitVec.ofNat 8 k :: (a ++ X)).drop 33 = X := fun X => by
      rw [List.drop_succ_cons, List.drop_append_of_le_length (by omega), List.drop_of_length_le (by omega), List.nil_append]
    have ht : ∀ X : List (BitVec 8), ((BitVec.ofNat 8 k :: (a ++ X)).drop 1).take 32 = a := fun X => by
      rw [List.drop_succ_cons, List.drop_zero, List.take_append_of_le_length (by omega), List.take_of_length_le (by omega)]
    have hX : (a ++ l.flatMap vput ++ if k = 1 then [] else p) ++ more = a ++ (l.flatMap vput ++ ((if k = 1 then [] else p) ++ more)) := by simp
    rw [hX, hd, ht, hl]
    simp only
    rw [if_neg (by simp; omega)]
    by_cases k1 : k = 1
    · rw [if_pos k1] at e3
      subst e3
      simp [k1, oa]
      omega
    · rw [if_neg k1, if_neg k1, if_neg (by simp; omega)]
      have hd2 : ((BitVec.ofNat 8 k :: (a ++ (l.flatMap vput ++ (p ++ more)))).drop (33 + (l.flatMap vput).length)).take 32 = p := by
        rw [← List.drop_drop, hd, List.drop_append_of_le_length (Nat.le_refl _), List.drop_of_length_le (Nat.le_refl _), List.nil_append, List.take_append_of_le_length (by omega), List.take_of_length_le (by omega)]
      rw [hd2]
      simp [oa, op]
      omega
theorem hget_back {bs : List (BitVec 8)} {h : HD} {n : Nat} (e : hget bs = .inr (h, n)) : h.Ok ∧ HValid h ∧ n ≤ bs.length ∧ 0 < n ∧ hput h = bs.take n := by
  unfold hget at e
  cases bs with
  | nil => cases e
  | cons b r =>
    simp only at e
    have hb : b.toNat < 256 := b.isLt
    have hbb : BitVec.ofNat 8 b.toNat = b := by simp
    by_cases hk : b.toNat < 1 ∨ 3 < b.toNat
    · rw [if_pos hk] at e
      cases e
    · rw [if_neg hk] at e
      by_cases k3 : b.toNat = 3
      · rw [if_pos k3] at e
        by_cases hl : (b :: r).length < 33
        · rw [if_pos hl] at e
          cases e
        · rw [if_neg hl] at e
          simp only [Sum.inr.injEq, Prod.mk.injEq] at e
          obtain ⟨rfl, rfl⟩ := e
          have hr : (r.take 32).length = 32 := by rw [List.length_take]; simp at hl; omega
          refine ⟨⟨hb, by simp [z32], rfl, by simp [z4], hr⟩, ⟨by simp only; omega, by simp only; omega, by simp [hbare, k3], by simp [z4]⟩, by omega, by omega, ?_⟩
          unfold hput
          simp only
          rw [hbb, if_pos k3, if_neg (by omega)]
          simp
      · rw [if_neg k3] at e
        by_cases hl : (b :: r).length < 33
        · rw [if_pos hl] at e
          cases e
        · rw [if_neg hl] at e
          have hr : (((b :: r).drop 1).take 32).length = 32 := by rw [List.length_take, List.length_drop]; omega
          cases hL : lims 4 ((b :: r).drop 33) with
          | inl x => rw [hL] at e; cases e
          | inr q =>
            obtain ⟨l, m⟩ := q
            rw [hL] at e
            simp only at e
            obtain ⟨q1, q2, q3, q4⟩ := lims_back _ _ _ _ hL
            rw [List.length_drop] at q2
            have ln : ∀ x ∈ l, x < 18446744073709551616 := fun x hx => Nat.lt_trans (q3 x hx) (by decide)
            have h33 : BitVec.ofNat 8 b.toNat :: (((b :: r).drop 1).take 32 ++ l.flatMap vput) = (b :: r).take (33 + m) := by
              rw [q4, hbb, List.take_add, List.drop_succ_cons, List.drop_zero]
              rfl
            by_cases k1 : b.toNat = 1
            · rw [if_pos k1] at e
              simp only [Sum.inr.injEq, Prod.mk.injEq] at e
              obtain ⟨rfl, rfl⟩ := e
              refine ⟨⟨hb, hr, q1, ln, by simp [z32]⟩, ⟨by simp only; omega, by simp only; omega, by simp [hbare, k3, k1], q3⟩, by omega, by omega, ?_⟩
              rw [← h33]
              unfold hput
              simp only
              rw [if_neg k3, if_pos k1, List.append_nil]
            · rw [if_neg k1] at e
              by_cases hl2 : (b :: r).length < 33 + m + 32
              · rw [if_pos hl2] at e
                cases e
              · rw [if_neg hl2] at e
                simp only [Sum.inr.injEq, Prod.mk.injEq] at e
                obtain ⟨rfl, rfl⟩ := e
                refine ⟨⟨hb, hr, q1, ln, by rw [List.length_take, List.length_drop]; omega⟩, ⟨by simp only; omega, by simp only; omega, by simp [hbare, k3, k1], q3⟩, by omega, by omega, ?_⟩
                rw [List.take_add (i := 33 + m), ← h33]
                unfold hput
                simp only
                rw [if_neg k3, if_neg k1]
                simp
theorem hget_short {bs : List (BitVec 8)} {h : HD} {n i : Nat} (e : hget bs = .inr (h, n)) (hi : i < n) : hget (bs.take i) = .inl 4 := by
  unfold hget at e
  cases bs with
  | nil => cases e
  | cons b r =>
    simp only at e
    cases i with
    | zero => rfl
    | succ i =>
      unfold hget
      rw [List.take_succ_cons]
      simp only
      by_cases hk : b.toNat < 1 ∨ 3 < b.toNat
      · rw [if_pos hk] at e
        cases e
      · rw [if_neg hk] at e ⊢
        by_cases k3 : b.toNat = 3
        · rw [if_pos k3] at e ⊢
          by_cases hl : (b :: r).length < 33
          · rw [if_pos hl] at e
            cases e
          · rw [if_neg hl] at e
            simp only [Sum.inr.injEq, Prod.mk.injEq] at e
            rw [if_pos (by rw [List.length_cons, List.length_take]; omega)]
        · rw [if_neg k3] at e ⊢
          by_cases hl : (b :: r).length < 33
          · rw [if_pos hl] at e
            cases e
          · rw [if_neg hl] at e
            cases hL : lims 4 ((b :: r).drop 33) with
            | inl x => rw [hL] at e; cases e
            | inr q =>
              obtain ⟨l, m⟩ := q
              rw [hL] at e
              simp only at e
              obtain ⟨q1, q2, q3, q4⟩ := lims_back _ _ _ _ hL
              rw [List.length_drop] at q2
              by_cases hi33 : (b :: r.take i).length < 33
              · rw [if_pos hi33]
              · rw [if_neg hi33]
                have hlen : (b :: r.take i).length = i + 1 := by
                  have : i + 1 ≤ (b :: r).length := by
                    by_cases k1 : b.toNat = 1
                    · rw [if_pos k1] at e
                      simp only [Sum.inr.injEq, Prod.mk.injEq] at e
                      omega
                    · rw [if_neg k1] at e
                      by_cases hl2 : (b :: r).length < 33 + m + 32
                      · rw [if_pos hl2] at e
                        cases e
                      · rw [if_neg hl2] at e
                        simp only [Sum.inr.injEq, Prod.mk.injEq] at e
                        omega
                  rw [List.length_cons, List.length_take]
                  simp at this
                  omega
                have hd : (b :: r.take i).drop 33 = ((b :: r).drop 33).take (i + 1 - 33) := by
                  rw [← List.take_succ_cons, List.drop_take]
                rw [hlen] at hi33
                by_cases him : i + 1 - 33 < m
                · rw [hd, lims_short _ _ _ _ _ hL him]
                · have hlt : lims 4 ((b :: r.take i).drop 33) = .inr (l, m) := by
                    have h5 := lims_put (((b :: r.take i).drop 33).drop m) l q3
                    rw [q1, q4] at h5
                    have h6 : (((b :: r).drop 33).take m) = ((b :: r.take i).drop 33).take m := by rw [hd, List.take_take, Nat.min_eq_left (by omega)]
                    rw [h6, List.take_append_drop] at h5
                    rw [h5, ← h6, List.length_take, List.length_drop, Nat.min_eq_left q2]
                  rw [hlt]
                  simp only
                  by_cases k1 : b.toNat = 1
                  · rw [if_pos k1] at e
                    simp only [Sum.inr.injEq, Prod.mk.injEq] at e
                    omega
                  · rw [if_neg k1] at e ⊢
                    rw [if_pos]
                    by_cases hl2 : (b :: r).length < 33 + m + 32
                    · rw [if_pos hl2] at e
                      cases e
                    · rw [if_neg hl2] at e
                      simp only [Sum.inr.injEq, Prod.mk.injEq] at e
                      rw [hlen]
                      omega
end Go.Proofs.YtkfikoacohogaaaDoor
