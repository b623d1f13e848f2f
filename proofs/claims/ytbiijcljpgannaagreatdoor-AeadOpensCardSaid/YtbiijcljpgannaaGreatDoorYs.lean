/-
  The document's mul, fold, Left in numbers; the limbs' value by 2^130 - 5. Plain.
-/
import Derived.Test.YtbiijcljpgannaaGreatDoorYr
namespace Go.Proofs.YtbiijcljpgannaaGreatDoor
set_option maxRecDepth 100000
open Go Go.RowKit Go.Lib
set_option linter.unusedSimpArgs false
set_option linter.unusedVariables false
set_option maxRecDepth 100000

theorem valB_set (B : Nat) (l : List Nat) (j y : Nat) (hj : j < l.length) : valB B (l.set j (l.getD j 0 + y)) = valB B l + B ^ j * y := by
  induction l generalizing j with
  | nil => simp at hj
  | cons d l ih =>
    cases j with
    | zero => simp [valB]; omega
    | succ j =>
      have h := ih j (by simpa using hj)
      simp only [List.set_cons_succ, valB, List.getD_cons_succ, h, Nat.pow_succ]
      rw [Nat.mul_add, Nat.mul_comm (B ^ j) B, Nat.mul_assoc]
      omega
theorem valB_replicate (B n : Nat) : valB B (List.replicate n 0) = 0 := by
  induction n with
  | zero => rfl
  | succ n ih => simp [List.replicate_succ, valB, ih]
-- ---- mul
def mrowV (o a b : List Nat) (i : Nat) : Nat → List Nat
  | 0 => o
  | k + 1 => (mrowV o a b i k).set (i + k) ((mrowV o a b i k).getD (i + k) 0 + a.getD i 0 * b.getD k 0)
def mtoV (a b : List Nat) : Nat → List Nat
  | 0 => List.replicate 34 0
  | i + 1 => mrowV (mtoV a b i) a b i 17
theorem mrowV_length (o a b : List Nat) (i k : Nat) : (mrowV o a b i k).length = o.length := by
  induction k with
  | zero => rfl
  | succ k ih => unfold mrowV; rw [List.length_set, ih]
theorem mtoV_length (a b : List Nat) (i : Nat) : (mtoV a b i).length = 34 := by
  induction i with
  | zero => simp [mtoV]
  | succ i ih => unfold mtoV; rw [mrowV_length, ih]
theorem mrowV_val (o a b : List Nat) (i : Nat) : ∀ k, i + k ≤ o.length → valB 256 (mrowV o a b i k) = valB 256 o + 256 ^ i * (a.getD i 0 * valB 256 (b.take k)) := by
  intro k
  induction k with
  | zero => intro _; simp [mrowV, valB]
  | succ k ih =>
    intro hk
    unfold mrowV
    rw [valB_set _ _ _ _ (by rw [mrowV_length]; omega), ih (by omega), valB_take_succ, Nat.pow_add]
    simp only [Nat.mul_add, Nat.add_assoc]
    congr 2
    simp only [Nat.mul_assoc, Nat.mul_left_comm, Nat.mul_comm]
theorem mtoV_val (a b : List Nat) (hb : b.length = 17) : ∀ i, i ≤ 17 → valB 256 (mtoV a b i) = valB 256 (a.take i) * valB 256 b := by
  intro i
  induction i with
  | zero => intro _; simp [mtoV, valB_replicate, valB]
  | succ i ih =>
    intro hi
    unfold mtoV
    rw [mrowV_val _ _ _ _ _ (by rw [mtoV_length]; omega), ih (by omega), show b.take 17 = b from List.take_of_length_le (by omega), valB_take_succ, Nat.add_mul]
    simp only [Nat.mul_assoc, Nat.mul_left_comm, Nat.mul_comm]
theorem set_le {l : List Nat} {j y C : Nat} (h : ∀ x ∈ l, x ≤ C) (hy : l.getD j 0 + y ≤ C) : ∀ x ∈ l.set j (l.getD j 0 + y), x ≤ C := by
  intro x hx
  rcases List.mem_or_eq_of_mem_set hx with h1 | h1
  · exact h x h1
  · rw [h1]; exact hy
theorem getD_le {l : List Nat} {C : Nat} (h : ∀ x ∈ l, x ≤ C) (j : Nat) : l.getD j 0 ≤ C := by
  rw [List.getD_eq_getElem?_getD]
  cases hq : l[j]? with
  | none => simp
  | some x => exact h x (List.mem_of_getElem? hq)
theorem mrowV_le {o a b : List Nat} {C : Nat} (ho : ∀ x ∈ o, x ≤ C) (ha : ∀ x ∈ a, x < 256) (hb : ∀ x ∈ b, x < 256) (i : Nat) : ∀ k, ∀ x ∈ mrowV o a b i k, x ≤ C + k * 65025 := by
  intro k
  induction k with
  | zero => intro x hx; have := ho x hx; omega
  | succ k ih =>
    have h1 := getD_le ih (i + k)
    have h2 : a.getD i 0 ≤ 255 := getD_le (fun x hx => by have := ha x hx; omega) i
    have h3 : b.getD k 0 ≤ 255 := getD_le (fun x hx => by have := hb x hx; omega) k
    have h4 : a.getD i 0 * b.getD k 0 ≤ 65025 := Nat.mul_le_mul h2 h3
    have h5 : C + (k + 1) * 65025 = C + k * 65025 + 65025 := by rw [Nat.succ_mul, Nat.add_assoc]
    unfold mrowV
    rw [h5]
    exact set_le (fun x hx => Nat.le_trans (ih x hx) (Nat.le_add_right _ _)) (Nat.add_le_add h1 h4)
theorem mtoV_le {a b : List Nat} (ha : ∀ x ∈ a, x < 256) (hb : ∀ x ∈ b, x < 256) : ∀ i, ∀ x ∈ mtoV a b i, x ≤ i * 1105425 := by
  intro i
  induction i with
  | zero =>
    intro x hx
    have := List.eq_of_mem_replicate (show x ∈ List.replicate 34 0 from hx)
    omega
  | succ i ih =>
    unfold mtoV
    intro x hx
    have := mrowV_le ih ha hb i 17 x hx
    omega
-- ---- fold
def hiV (a : List Nat) (i : Nat) : Nat := a.getD i 0 / 4 + (if i + 1 < 34 then a.getD (i + 1) 0 % 4 * 64 else 0)
def fold0 (a : List Nat) : List Nat := (a.take 16 ++ [a.getD 16 0 % 4]) ++ List.replicate 17 0
def foldTo (a : List Nat) : Nat → List Nat
  | 0 => fold0 a
  | j + 1 => (foldTo a j).set j ((foldTo a j).getD j 0 + 5 * hiV a (16 + j))
def foldN (x : Nat) : Nat := x % 1361129467683753853853498429727072845824 + 5 * (x / 1361129467683753853853498429727072845824)
theorem foldTo_length (a : List Nat) (ha : a.length = 34) (j : Nat) : (foldTo a j).length = 34 := by
  induction j with
  | zero => simp [foldTo, fold0, ha]
  | succ j ih => unfold foldTo; rw [List.length_set, ih]
theorem getD_drop (a : List Nat) (k j : Nat) : (a.drop k).getD j 0 = a.getD (k + j) 0 := by
  rw [List.getD_eq_getElem?_getD, List.getD_eq_getElem?_getD, List.getElem?_drop]
theorem valB_mod4 (l : List Nat) : valB 256 l % 4 = l.getD 0 0 % 4 := by
  cases l with
  | nil => rfl
  | cons d l => simp only [valB, List.getD_cons_zero]; omega
def hiL : List Nat → List Nat
  | [] => []
  | d :: l => (d / 4 + l.getD 0 0 % 4 * 64) :: hiL l
theorem hiL_val (l : List Nat) : valB 256 (hiL l) = valB 256 l / 4 := by
  induction l with
  | nil => rfl
  | cons d l ih =>
    have h := valB_mod4 l
    simp only [hiL, valB, ih]
    omega
theorem hiL_length (l : List Nat) : (hiL l).length = l.length := by
  induction l with
  | nil => rfl
  | cons d l ih => simp [hiL, ih]
theorem hiL_get (l : List Nat) (j : Nat) (hj : j < l.length) : (hiL l).getD j 0 = l.getD j 0 / 4 + l.getD (j + 1) 0 % 4 * 64 := by
  induction l generalizing j with
  | nil => simp at hj
  | cons d l ih =>
    cases j with
    | zero => simp [hiL]
    | succ j =>
      have := ih j (by simpa using hj)
      simp only [hiL, List.getD_cons_succ]
      exact this
theorem hiV_eq (a : List Nat) (ha : a.length = 34) (j : Nat) (hj : j < 18) : hiV a (16 + j) = (hiL (a.drop 16)).getD j 0 := by
  rw [hiL_get _ _ (by rw [List.length_drop]; omega), getD_drop, getD_drop]
  unfold hiV
  by_cases h : 16 + j + 1 < 34
  · rw [if_pos h, show 16 + (j + 1) = 16 + j + 1 by omega]
  · rw [if_neg h, show a.getD (16 + (j + 1)) 0 = 0 by rw [List.getD_eq_getElem?_getD, List.getElem?_eq_none (by omega)]; rfl]
theorem foldTo_val (a : List Nat) (ha : a.length = 34) : ∀ j, j ≤ 18 → valB 256 (foldTo a j) = valB 256 (fold0 a) + 5 * valB 256 ((hiL (a.drop 16)).take j) := by
  intro j
  induction j with
  | zero => intro _; simp [foldTo, valB]
  | succ j ih =>
    intro hj
    unfold foldTo
    rw [valB_set _ _ _ _ (by rw [foldTo_length a ha]; omega), ih (by omega), valB_take_succ, hiV_eq a ha j (by omega), Nat.mul_add]
    rw [Nat.mul_left_comm]
    omega
theorem fold0_val (a : List Nat) (ha : a.length = 34) (h8 : ∀ d ∈ a, d < 256) : valB 256 (fold0 a) = valB 256 a % 1361129467683753853853498429727072845824 := by
  have e1 := valB_split 256 a 16 (by omega)
  have b1 := valB_below (a.take 16) (fun d hd => h8 d (List.mem_of_mem_take hd))
  have l1 : (a.take 16).length = 16 := by rw [List.length_take]; omega
  rw [l1] at b1
  have h4 := valB_mod4 (a.drop 16)
  rw [getD_drop] at h4
  unfold fold0
  rw [valB_append, valB_append, valB_replicate, l1, e1]
  simp only [valB, Nat.mul_zero, Nat.add_zero]
  rw [show (256 : Nat) ^ 16 = 340282366920938463463374607431768211456 from by decide] at b1 ⊢
  rw [Nat.add_zero] at h4
  omega
theorem fold_val (a : List Nat) (ha : a.length = 34) (h8 : ∀ d ∈ a, d < 256) : valB 256 (foldTo a 18) = foldN (valB 256 a) := by
  rw [foldTo_val a ha 18 (by omega), fold0_val a ha h8, List.take_of_length_le (by rw [hiL_length, List.length_drop]; omega), hiL_val]
  unfold foldN
  have e1 := valB_split 256 a 16 (by omega)
  have b1 := valB_below (a.take 16) (fun d hd => h8 d (List.mem_of_mem_take hd))
  have l1 : (a.take 16).length = 16 := by rw [List.length_take]; omega
  rw [l1] at b1
  rw [show (256 : Nat) ^ 16 = 340282366920938463463374607431768211456 from by decide] at b1 e1
  congr 2
  omega
theorem foldTo_le (a : List Nat) (h8 : ∀ d ∈ a, d < 256) : ∀ j, ∀ x ∈ foldTo a j, x ≤ 255 + j * 5000 := by
  intro j
  induction j with
  | zero =>
    intro x hx
    simp only [foldTo, fold0, List.mem_append, List.mem_singleton, List.mem_replicate] at hx
    rcases hx with (h | h) | h
    · have := h8 x (List.mem_of_mem_take h); omega
    · omega
    · omega
  | succ j ih =>
    have h1 := getD_le ih j
    have h2 : hiV a (16 + j) ≤ 255 := by
      have h3 : a.getD (16 + j) 0 ≤ 255 := getD_le (fun x hx => by have := h8 x hx; omega) _
      unfold hiV
      split <;> omega
    unfold foldTo
    exact set_le (C := 255 + (j + 1) * 5000) (fun x hx => by have := ih x hx; omega) (by omega)
-- ---- Left
def P130 : Nat := 1361129467683753853853498429727072845819
theorem foldN_mod (x : Nat) : foldN x % P130 = x % P130 := by unfold foldN P130; omega
def leftN (x : Nat) : Nat := x % P130
theorem fold4_lt {x : Nat} (h : x < 256 ^ 34) : foldN (foldN (foldN (foldN x))) < 1361129467683753853853498429727072845824 := by
  rw [show (256 : Nat) ^ 34 = 7588550360256754183279148073529370729071901715047420004889892225542594864082845696 from by decide] at h
  have h1 : foldN x < 1361129467683753853853498429727072845824 * 40000 := by unfold foldN; omega
  have h2 : foldN (foldN x) < 1361129467683753853853498429727072845824 + 200000 := by unfold foldN at h1 ⊢; omega
  have h3 : foldN (foldN (foldN x)) < 1361129467683753853853498429727072845824 + 5 := by
    generalize foldN (foldN x) = y at h2
    unfold foldN; omega
  generalize foldN (foldN (foldN x)) = y at h3
  unfold foldN; omega
theorem fold4_mod (x : Nat) : foldN (foldN (foldN (foldN x))) % P130 = x % P130 := by rw [foldN_mod, foldN_mod, foldN_mod, foldN_mod]
theorem left_of_lt {y : Nat} (h : y < 1361129467683753853853498429727072845824) : y % P130 = if 1361129467683753853853498429727072845824 ≤ y + 5 then y + 5 - 1361129467683753853853498429727072845824 else y := by
  unfold P130
  split <;> omega
end Go.Proofs.YtbiijcljpgannaaGreatDoor
