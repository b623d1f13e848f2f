/-
  Numbers in few bytes, in plain Lean: what a number's bytes are, and which number bytes begin with.
-/
import Derived.Test.YtkfikoacohogaaaDoorMA
namespace Go.Proofs.YtkfikoacohogaaaDoor
set_option maxRecDepth 100000
open Go Go.RowKit
set_option linter.unusedSimpArgs false
set_option linter.unusedVariables false

/-- A number in so many bytes, the highest first. -/
def be (s n : Nat) : List (BitVec 8) := (List.range s).map fun j => BitVec.ofNat 8 (n / 256 ^ (s - 1 - j))
def num (bs : List (BitVec 8)) : Nat := bs.foldl (fun a b => a * 256 + b.toNat) 0
theorem be_length (s n : Nat) : (be s n).length = s := by simp [be]
theorem be_succ (s n : Nat) : be (s + 1) n = be s (n / 256) ++ [BitVec.ofNat 8 n] := by
  unfold be
  rw [List.range_succ, List.map_append]
  congr 1
  · apply List.map_congr_left
    intro j hj
    rw [List.mem_range] at hj
    rw [Nat.div_div_eq_div_mul, show s + 1 - 1 - j = (s - 1 - j) + 1 by omega, Nat.pow_succ, Nat.mul_comm]
  · simp
theorem num_snoc (l : List (BitVec 8)) (b : BitVec 8) : num (l ++ [b]) = num l * 256 + b.toNat := by
  unfold num
  rw [List.foldl_append]
  rfl
theorem snoc_ind {α : Type} {P : List α → Prop} (h0 : P []) (h1 : ∀ l b, P l → P (l ++ [b])) (l : List α) : P l := by
  have h : ∀ m : List α, P m.reverse := by
    intro m
    induction m with
    | nil => exact h0
    | cons a m ih => rw [List.reverse_cons]; exact h1 _ _ ih
  have := h l.reverse
  rwa [List.reverse_reverse] at this
theorem num_be (s : Nat) : ∀ n, num (be s n) = n % 256 ^ s := by
  induction s with
  | zero => intro n; simp [be, num, Nat.mod_one]
  | succ s ih =>
    intro n
    rw [be_succ, num_snoc, ih, BitVec.toNat_ofNat, show (256 : Nat) ^ (s + 1) = 256 * 256 ^ s by rw [Nat.pow_succ, Nat.mul_comm], Nat.mod_mul]
    omega
theorem num_lt (l : List (BitVec 8)) : num l < 256 ^ l.length := by
  induction l using snoc_ind with
  | h0 => simp [num]
  | h1 l b ih =>
    rw [num_snoc, List.length_append, List.length_singleton, Nat.pow_succ]
    have := b.isLt
    omega
theorem be_num (l : List (BitVec 8)) : be l.length (num l) = l := by
  induction l using snoc_ind with
  | h0 => simp [be]
  | h1 l b ih =>
    rw [num_snoc, List.length_append, List.length_singleton, be_succ]
    have := b.isLt
    rw [show (num l * 256 + b.toNat) / 256 = num l by omega, ih]
    congr 2
    apply BitVec.eq_of_toNat_eq
    rw [BitVec.toNat_ofNat]
    omega
theorem num_cons (b : BitVec 8) (l : List (BitVec 8)) : num (b :: l) = b.toNat * 256 ^ l.length + num l := by
  induction l using snoc_ind with
  | h0 => simp [num]
  | h1 l c ih =>
    rw [← List.cons_append, num_snoc, num_snoc, ih, List.length_append, List.length_singleton, Nat.pow_succ, Nat.add_mul, Nat.mul_assoc]
    omega

def vhi (n : Nat) : Nat := if n < 64 then 0 else if n < 16384 then 1 else if n < 1073741824 then 2 else 3
def vsz (n : Nat) : Nat := 2 ^ vhi n
/-- A number's bytes. -/
def vput (n : Nat) : List (BitVec 8) := be (vsz n) (n + vhi n * 2 ^ (8 * vsz n - 2))
/-- The number that bytes begin with, and how many they are. -/
def vget (bs : List (BitVec 8)) : Option (Nat × Nat) :=
  match bs with
  | [] => none
  | b :: _ => if bs.length < 2 ^ (b.toNat / 64) then none else some (num (bs.take (2 ^ (b.toNat / 64))) % 2 ^ (8 * 2 ^ (b.toNat / 64) - 2), 2 ^ (b.toNat / 64))
theorem vhi_lt (n : Nat) : vhi n < 4 := by unfold vhi; split <;> (try split) <;> (try split) <;> omega
theorem vput_length (n : Nat) : (vput n).length = vsz n := be_length _ _
theorem four {h : Nat} (hh : h < 4) : h = 0 ∨ h = 1 ∨ h = 2 ∨ h = 3 := by omega
theorem vhi_fits {n : Nat} (h : n < 4611686018427387904) : n < 2 ^ (8 * vsz n - 2) := by
  unfold vsz vhi
  split
  · simpa using ‹_›
  · split
    · simpa using ‹_›
    · split
      · simpa using ‹_›
      · simpa using h
theorem vsz_pow (n : Nat) : 256 ^ vsz n = 4 * 2 ^ (8 * vsz n - 2) := by
  unfold vsz
  rcases four (vhi_lt n) with h | h | h | h <;> rw [h] <;> decide
theorem vsz_pos (n : Nat) : 0 < vsz n := Nat.pow_pos (by omega)
theorem vput_num {n : Nat} (h : n < 4611686018427387904) : num (vput n) = n + vhi n * 2 ^ (8 * vsz n - 2) := by
  unfold vput
  rw [num_be, vsz_pow]
  have h1 := vhi_fits h
  have h2 := vhi_lt n
  apply Nat.mod_eq_of_lt
  generalize 2 ^ (8 * vsz n - 2) = p at *
  calc n + vhi n * p < p + vhi n * p := by omega
    _ = (vhi n + 1) * p := by rw [Nat.add_mul]; omega
    _ ≤ 4 * p := Nat.mul_le_mul_right _ (by omega)
/-- The first byte tells how many there are. -/
theorem vput_first {n : Nat} (h : n < 4611686018427387904) : ∃ b l, vput n = b :: l ∧ b.toNat / 64 = vhi n := by
  cases hv : vput n with
  | nil => have := vput_length n; rw [hv] at this; have := vsz_pos n; simp at *; omega
  | cons b l =>
    refine ⟨b, l, rfl, ?_⟩
    have h1 := vput_num h
    rw [hv, num_cons] at h1
    have h2 := num_lt l
    have h3 := vput_length n
    rw [hv, List.length_cons] at h3
    have h4 := vhi_fits h
    have h5 := vsz_pow n
    rw [← h3, Nat.pow_succ] at h5
    rw [← h3] at h1 h4
    generalize 256 ^ l.length = q at *
    generalize num l = x at *
    have h6 : 2 ^ (8 * (l.length + 1) - 2) = 64 * q := by omega
    rw [h6] at h1 h4
    have h7 : b.toNat * q + x = n + vhi n * 64 * q := by rw [h1, Nat.mul_assoc]
    have hq : 0 < q := by omega
    have h8 : b.toNat = n / q + vhi n * 64 := by
      have : (b.toNat * q + x) / q = b.toNat := by rw [Nat.mul_comm, Nat.mul_add_div hq, Nat.div_eq_of_lt h2]; omega
      rw [← this, h7, Nat.add_mul_div_right _ _ hq]
    have h9 : n / q < 64 := by rw [Nat.div_lt_iff_lt_mul hq]; exact h4
    generalize n / q = g at *
    omega
theorem vget_put {n : Nat} (h : n < 4611686018427387904) (more : List (BitVec 8)) : vget (vput n ++ more) = some (n, vsz n) := by
  obtain ⟨b, l, hv, hb⟩ := vput_first h
  have h1 := vput_length n
  have h2 := vput_num h
  have h3 := vhi_fits h
  have e : 2 ^ (b.toNat / 64) = vsz n := by rw [hb]; rfl
  have h4 : (vput n ++ more).take (vsz n) = vput n := by rw [← h1, List.take_left]
  rw [hv] at h4 ⊢
  rw [List.cons_append] at h4 ⊢
  unfold vget
  simp only [e]
  rw [h4, if_neg (by rw [← List.cons_append, ← hv, List.length_append, h1]; omega), ← hv, h2, Nat.add_mul_mod_self_right, Nat.mod_eq_of_lt h3]
theorem vget_len {bs : List (BitVec 8)} {n k : Nat} (h : vget bs = some (n, k)) : k ≤ bs.length ∧ 0 < k ∧ k ≤ 8 ∧ n < 4611686018427387904 := by
  unfold vget at h
  cases bs with
  | nil => cases h
  | cons b l =>
    simp only at h
    split at h
    · cases h
    · simp only [Option.some.injEq, Prod.mk.injEq] at h
      obtain ⟨h1, h2⟩ := h
      have hb : b.toNat / 64 < 4 := by have := b.isLt; omega
      subst h2
      subst h1
      refine ⟨by omega, Nat.pow_pos (by omega), ?_, ?_⟩
      · rcases four hb with h | h | h | h <;> rw [h] <;> decide
      · refine Nat.lt_of_lt_of_le (Nat.mod_lt _ (Nat.pow_pos (by omega))) ?_
        rcases four hb with h | h | h | h <;> rw [h] <;> decide
/-- Bytes that tell a number in as few as can be are its. -/
theorem vget_back {bs : List (BitVec 8)} {n k : Nat} (h : vget bs = some (n, k)) (hk : vsz n = k) : vput n = bs.take k := by
  have hlen := vget_len h
  unfold vget at h
  cases bs with
  | nil => cases h
  | cons b l =>
    simp only at h
    split at h
    · cases h
    · simp only [Option.some.injEq, Prod.mk.injEq] at h
      obtain ⟨h1, h2⟩ := h
      have hb : b.toNat / 64 < 4 := by have := b.isLt; omega
      have e : vhi n = b.toNat / 64 := by
        have h3 : 2 ^ vhi n = 2 ^ (b.toNat / 64) := by rw [h2]; exact hk
        exact (Nat.pow_right_inj (by omega)).1 h3
      have hl : ((b :: l).take k).length = k := by rw [List.length_take]; omega
      have h4 := num_lt ((b :: l).take k)
      have h5 : num ((b :: l).take k) = n + b.toNat / 64 * 2 ^ (8 * k - 2) := by
        obtain ⟨k', rfl⟩ : ∃ k', k = k' + 1 := ⟨k - 1, by omega⟩
        rw [h2] at h1
        rw [List.take_succ_cons] at hl h4 h1 ⊢
        have hl' : (l.take k').length = k' := by simpa using hl
        have h6 := num_lt (l.take k')
        rw [hl'] at h6
        rw [num_cons, hl'] at h1 ⊢
        have h7 : 2 ^ (8 * (k' + 1) - 2) = 64 * 256 ^ k' := by
          rw [show (256 : Nat) = 2 ^ 8 from rfl, ← Nat.pow_mul, show (64 : Nat) = 2 ^ 6 from rfl, ← Nat.pow_add]
          congr 1
          omega
        rw [h7] at h1 ⊢
        generalize 256 ^ k' = q at *
        generalize num (l.take k') = x at *
        rw [← h1]
        have h8 := Nat.div_add_mod (b.toNat * q + x) (64 * q)
        have h9 : (b.toNat * q + x) / (64 * q) = b.toNat / 64 := by
          have hq : 0 < q := by omega
          rw [Nat.mul_comm 64 q, ← Nat.div_div_eq_div_mul, Nat.mul_comm b.toNat q, Nat.mul_add_div hq, Nat.div_eq_of_lt h6]
          rfl
        rw [h9, Nat.mul_comm] at h8
        omega
      unfold vput
      rw [hk, e, ← h5]
      have := be_num ((b :: l).take k)
      rwa [hl] at this
theorem vget_take {bs : List (BitVec 8)} {n k : Nat} (h : vget bs = some (n, k)) (more : List (BitVec 8)) : vget (bs.take k ++ more) = some (n, k) := by
  have hlen := vget_len h
  unfold vget at h
  cases bs with
  | nil => cases h
  | cons b l =>
    simp only at h
    split at h
    · cases h
    · simp only [Option.some.injEq, Prod.mk.injEq] at h
      obtain ⟨h1, h2⟩ := h
      obtain ⟨k', rfl⟩ : ∃ k', k = k' + 1 := ⟨k - 1, by omega⟩
      have hl : ((b :: l).take (k' + 1)).length = k' + 1 := by rw [List.length_take]; omega
      have ht : ((b :: l).take (k' + 1) ++ more).take (k' + 1) = (b :: l).take (k' + 1) := by
        conv => lhs; rw [← hl]
        rw [hl]
        rw [List.take_append_of_le_length (by omega), List.take_of_length_le (by omega)]
      rw [List.take_succ_cons] at hl ht ⊢
      rw [List.cons_append] at ht ⊢
      unfold vget
      simp only [h2]
      rw [h2] at h1
      rw [List.take_succ_cons] at h1
      rw [ht, h1, if_neg (by rw [← List.cons_append, List.length_append, hl]; omega)]
theorem vget_short {bs : List (BitVec 8)} {n k i : Nat} (h : vget bs = some (n, k)) (hi : i < k) : vget (bs.take i) = none := by
  unfold vget at h
  cases bs with
  | nil => cases h
  | cons b l =>
    simp only at h
    split at h
    · cases h
    · simp only [Option.some.injEq, Prod.mk.injEq] at h
      obtain ⟨h1, h2⟩ := h
      cases i with
      | zero => rfl
      | succ i =>
        rw [List.take_succ_cons]
        unfold vget
        simp only [h2]
        rw [if_pos]
        simp only [List.length_cons, List.length_take]
        omega
end Go.Proofs.YtkfikoacohogaaaDoor
