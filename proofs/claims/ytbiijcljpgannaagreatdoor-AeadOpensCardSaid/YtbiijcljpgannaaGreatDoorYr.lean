/-
  The document's numbers of poly: lists of numbers below 256, the lowest first; the law by 2^130 - 5. Plain.
-/
import Derived.Test.YtbiijcljpgannaaGreatDoorY7
namespace Go.Proofs.YtbiijcljpgannaaGreatDoor
set_option maxRecDepth 100000
open Go Go.RowKit Go.Lib
set_option linter.unusedSimpArgs false
set_option linter.unusedVariables false

def valB (B : Nat) : List Nat → Nat
  | [] => 0
  | d :: l => d + B * valB B l
def digs (n x : Nat) : List Nat := (List.range n).map fun i => x / 256 ^ i % 256
theorem digs_length (n x : Nat) : (digs n x).length = n := by simp [digs]
theorem digs_get (n x j : Nat) (hj : j < n) : (digs n x).getD j 0 = x / 256 ^ j % 256 := by
  rw [List.getD_eq_getElem?_getD, List.getElem?_eq_getElem (by rw [digs_length]; exact hj)]
  simp [digs]
theorem digs_below (n x : Nat) : ∀ d ∈ digs n x, d < 256 := by
  intro d hd
  simp only [digs, List.mem_map, List.mem_range] at hd
  obtain ⟨i, _, rfl⟩ := hd
  exact Nat.mod_lt _ (by decide)
theorem digs_succ (n x : Nat) : digs (n + 1) x = digs n x ++ [x / 256 ^ n % 256] := by simp [digs, List.range_succ]
theorem valB_append (B : Nat) (a b : List Nat) : valB B (a ++ b) = valB B a + B ^ a.length * valB B b := by
  induction a with
  | nil => simp [valB]
  | cons d a ih =>
    simp only [List.cons_append, valB, ih, List.length_cons, Nat.pow_succ]
    rw [Nat.mul_add, Nat.add_assoc, Nat.mul_comm (B ^ a.length) B, Nat.mul_assoc]
theorem valB_take_succ (B : Nat) (l : List Nat) (i : Nat) : valB B (l.take (i + 1)) = valB B (l.take i) + B ^ i * l.getD i 0 := by
  by_cases h : i < l.length
  · rw [List.take_add_one, List.getElem?_eq_getElem h, valB_append, List.length_take, Nat.min_eq_left (by omega), List.getD_eq_getElem?_getD, List.getElem?_eq_getElem h]
    simp [valB]
  · rw [List.take_of_length_le (by omega), List.take_of_length_le (by omega), List.getD_eq_getElem?_getD, List.getElem?_eq_none (by omega)]
    simp
theorem valB_split (B : Nat) (l : List Nat) (i : Nat) (hi : i ≤ l.length) : valB B l = valB B (l.take i) + B ^ i * valB B (l.drop i) := by
  conv => lhs; rw [← List.take_append_drop i l]
  rw [valB_append, List.length_take, Nat.min_eq_left hi]
theorem valB_le (B D : Nat) (hB : 2 ≤ B) (l : List Nat) (h : ∀ d ∈ l, d ≤ D) : valB B l + D ≤ D * B ^ l.length := by
  induction l with
  | nil => simp [valB]
  | cons d l ih =>
    have h1 := Nat.mul_le_mul_left B (ih (fun x hx => h x (List.mem_cons_of_mem _ hx)))
    have h2 := h d (List.mem_cons_self ..)
    have h3 := Nat.mul_le_mul_right D hB
    simp only [valB, List.length_cons, Nat.pow_succ]
    rw [Nat.mul_add] at h1
    rw [show D * (B ^ l.length * B) = B * (D * B ^ l.length) by rw [Nat.mul_left_comm B D, Nat.mul_comm B]]
    omega
theorem valB_below (l : List Nat) (h : ∀ d ∈ l, d < 256) : valB 256 l < 256 ^ l.length := by
  have h1 := valB_le 256 255 (by decide) l (fun d hd => by have := h d hd; omega)
  have h2 : 255 * 256 ^ l.length + 256 ^ l.length = 256 * 256 ^ l.length := by omega
  have h3 : 0 < 256 ^ l.length := Nat.pow_pos (by decide)
  -- sharper: valB ≤ 256^n - 1 by induction
  clear h1 h2
  induction l with
  | nil => simp [valB]
  | cons d l ih =>
    have i1 := ih (fun x hx => h x (List.mem_cons_of_mem _ hx)) (Nat.pow_pos (by decide))
    have i2 := h d (List.mem_cons_self ..)
    simp only [valB, List.length_cons, Nat.pow_succ]
    omega
theorem div_pow_lt {x n : Nat} (h : x < 256 ^ (n + 1)) : x / 256 ^ n < 256 := by
  rw [Nat.div_lt_iff_lt_mul (Nat.pow_pos (by decide)), Nat.mul_comm, ← Nat.pow_succ]
  exact h
theorem valB_digs (n x : Nat) : valB 256 (digs n x) = x % 256 ^ n := by
  induction n with
  | zero => simp [digs, valB, Nat.mod_one]
  | succ n ih =>
    rw [digs_succ, valB_append, ih, digs_length]
    simp only [valB, Nat.mul_zero, Nat.add_zero]
    rw [Nat.pow_succ, Nat.mod_mul]
theorem digs_valB (l : List Nat) (h : ∀ d ∈ l, d < 256) : digs l.length (valB 256 l) = l := by
  apply List.ext_getElem
  · rw [digs_length]
  · intro i h1 h2
    have e1 := valB_split 256 l i (by omega)
    have e2 : l.drop i = l[i] :: l.drop (i + 1) := (List.getElem_cons_drop h2).symm
    have b1 := valB_below (l.take i) (fun d hd => h d (List.mem_of_mem_take hd))
    rw [List.length_take, Nat.min_eq_left (by omega)] at b1
    have b2 := h l[i] (List.getElem_mem h2)
    rw [e2, valB] at e1
    simp only [digs, List.getElem_map, List.getElem_range]
    rw [e1, Nat.add_mul_div_left _ _ (Nat.pow_pos (by decide)), Nat.div_eq_of_lt b1, Nat.zero_add, Nat.add_mul_mod_self_left, Nat.mod_eq_of_lt b2]
/-- carried: what is above the places up to i. -/
def moreS (l : List Nat) (i : Nat) : Nat := valB 256 (l.take i) / 256 ^ i
theorem moreS_step (l : List Nat) (i : Nat) : moreS l i + l.getD i 0 = valB 256 (l.take (i + 1)) / 256 ^ i := by
  unfold moreS
  rw [valB_take_succ, Nat.add_mul_div_left _ _ (Nat.pow_pos (by decide))]
theorem moreS_next (l : List Nat) (i : Nat) : (moreS l i + l.getD i 0) / 256 = moreS l (i + 1) := by
  rw [moreS_step, moreS, Nat.div_div_eq_div_mul, Nat.pow_succ]
theorem moreS_digit (l : List Nat) (i : Nat) : (moreS l i + l.getD i 0) % 256 = valB 256 l / 256 ^ i % 256 := by
  rw [moreS_step]
  by_cases h : i + 1 ≤ l.length
  · rw [valB_split 256 l (i + 1) h, Nat.pow_succ, Nat.mul_assoc, Nat.add_mul_div_left _ _ (Nat.pow_pos (by decide)), Nat.add_mul_mod_self_left]
  · rw [List.take_of_length_le (by omega)]
theorem moreS_le (l : List Nat) (D : Nat) (h : ∀ d ∈ l, d ≤ D) (i : Nat) : moreS l i ≤ D := by
  unfold moreS
  have h1 := valB_le 256 D (by decide) (l.take i) (fun d hd => h d (List.mem_of_mem_take hd))
  have h2 : 256 ^ (l.take i).length ≤ 256 ^ i := Nat.pow_le_pow_right (by decide) (by rw [List.length_take]; exact Nat.min_le_left _ _)
  have h3 := Nat.mul_le_mul_left D h2
  calc valB 256 (l.take i) / 256 ^ i ≤ (D * 256 ^ i) / 256 ^ i := Nat.div_le_div_right (by omega)
    _ = D := Nat.mul_div_cancel _ (Nat.pow_pos (by decide))
theorem moreS_zero (l : List Nat) : moreS l 0 = 0 := by simp [moreS, valB]
-- ---- sums and products, place by place
def addV (a b : List Nat) (n : Nat) : List Nat := (List.range n).map fun i => a.getD i 0 + b.getD i 0
theorem valB_map (n : Nat) (f : Nat → Nat) : valB 256 ((List.range (n + 1)).map f) = valB 256 ((List.range n).map f) + 256 ^ n * f n := by
  rw [List.range_succ, List.map_append, valB_append]
  simp [valB]
theorem valB_getD (l : List Nat) : ∀ n, l.length ≤ n → valB 256 ((List.range n).map fun i => l.getD i 0) = valB 256 l := by
  intro n hn
  have h : ∀ m, valB 256 ((List.range m).map fun i => l.getD i 0) = valB 256 (l.take m) := by
    intro m
    induction m with
    | zero => simp [valB]
    | succ m ih => rw [valB_map, ih, valB_take_succ]
  rw [h, List.take_of_length_le hn]
theorem valB_addV (a b : List Nat) (n : Nat) (ha : a.length ≤ n) (hb : b.length ≤ n) : valB 256 (addV a b n) = valB 256 a + valB 256 b := by
  rw [← valB_getD a n ha, ← valB_getD b n hb]
  unfold addV
  clear ha hb
  induction n with
  | zero => simp [valB]
  | succ n ih => rw [valB_map, valB_map, valB_map, ih, Nat.mul_add]; omega
end Go.Proofs.YtbiijcljpgannaaGreatDoor
