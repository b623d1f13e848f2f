/-
  poly's limbs are the document's numbers. Plain.
-/
import Derived.Test.YtbiijcljpgannaaGreatDoorYs
namespace Go.Proofs.YtbiijcljpgannaaGreatDoor
set_option maxRecDepth 100000
open Go Go.RowKit Go.Lib
set_option linter.unusedSimpArgs false
set_option linter.unusedVariables false
set_option maxRecDepth 100000

def v26 (l : List Nat) : Nat := valB 67108864 l
def natL (bs : List (BitVec 8)) : List Nat := bs.map fun b => b.toNat
theorem natL_below (bs : List (BitVec 8)) : ∀ d ∈ natL bs, d < 256 := by
  intro d hd
  simp only [natL, List.mem_map] at hd
  obtain ⟨b, _, rfl⟩ := hd
  exact b.isLt
theorem natL_length (bs : List (BitVec 8)) : (natL bs).length = bs.length := by simp [natL]
theorem natL_getD (bs : List (BitVec 8)) (i : Nat) : (natL bs).getD i 0 = (bs.getD i 0).toNat := by
  simp only [natL, List.getD_eq_getElem?_getD, List.getElem?_map]
  cases bs[i]? <;> rfl
theorem or_add {a x k : Nat} (h : a < 2 ^ k) : a ||| x * 2 ^ k = a + x * 2 ^ k := by
  rw [Nat.or_comm, Nat.mul_comm, ← Nat.two_pow_add_eq_or_of_lt h, Nat.add_comm]
theorem pow26 (j : Nat) : (67108864 : Nat) ^ j = 2 ^ (26 * j) := by rw [Nat.pow_mul]
theorem pow8 (j : Nat) : (256 : Nat) ^ j = 2 ^ (8 * j) := by rw [Nat.pow_mul]
/-- The limb at a place, and those above, of a number below 2^(26 j + k). -/
theorem limb_small {l : List Nat} {j k : Nat} (hj : j < l.length) (hk : k ≤ 25) (h : v26 l < 2 ^ (26 * j + k)) : l.getD j 0 < 2 ^ k ∧ l.getD (j + 1) 0 = 0 := by
  unfold v26 at h
  have e := valB_split 67108864 l j (by omega)
  have e2 : l.drop j = l[j] :: l.drop (j + 1) := (List.getElem_cons_drop hj).symm
  rw [e2, valB] at e
  rw [pow26] at e
  have hp : 0 < 2 ^ (26 * j) := Nat.pow_pos (by decide)
  have h2 : 2 ^ (26 * j) * (l[j] + 67108864 * valB 67108864 (l.drop (j + 1))) < 2 ^ (26 * j) * 2 ^ k := by rw [← Nat.pow_add]; omega
  have h3 := Nat.lt_of_mul_lt_mul_left h2
  have h4 : 2 ^ k ≤ 2 ^ 25 := Nat.pow_le_pow_right (by decide) hk
  rw [show (2 : Nat) ^ 25 = 33554432 from rfl] at h4
  have h5 : valB 67108864 (l.drop (j + 1)) = 0 := by omega
  refine ⟨?_, ?_⟩
  · rw [List.getD_eq_getElem?_getD, List.getElem?_eq_getElem hj]
    show l[j] < 2 ^ k
    omega
  · have h6 := getD_drop l (j + 1) 0
    rw [Nat.add_zero] at h6
    rw [← h6]
    cases hq : l.drop (j + 1) with
    | nil => rfl
    | cons d t =>
      rw [hq, valB] at h5
      show d = 0
      omega
theorem set_val {l : List Nat} {j x : Nat} (hj : j < l.length) : v26 (l.set j (l.getD j 0 + x)) = v26 l + 2 ^ (26 * j) * x := by
  unfold v26
  rw [valB_set _ _ _ _ hj, pow26]
theorem ofStep_val {l : List Nat} {i c : Nat} (hl : l.length = 5) (hi : i ≤ 16) (hc : c < 256) (h16 : i = 16 → c < 4) (hv : v26 l < 2 ^ (8 * i)) : v26 (ofStep l i c) = v26 l + 2 ^ (8 * i) * c := by
  obtain ⟨j, hj⟩ : ∃ j, j = 8 * i / 26 := ⟨_, rfl⟩
  obtain ⟨k, hk⟩ : ∃ k, k = 8 * i % 26 := ⟨_, rfl⟩
  have hjk : 8 * i = 26 * j + k := by omega
  have hk25 : k ≤ 25 := by omega
  have hj4 : j ≤ 4 := by omega
  rw [hjk] at hv
  obtain ⟨h1, h2⟩ := limb_small (by omega) hk25 hv
  unfold ofStep
  rw [← hj, ← hk]
  obtain ⟨W, hW⟩ : ∃ W, W = c * 2 ^ k := ⟨_, rfl⟩
  simp only [← hW]
  have hP : 2 ^ (26 - k) * 2 ^ k = 67108864 := by rw [← Nat.pow_add, show 26 - k + k = 26 by omega]
  have hWm : W % 67108864 = (c % 2 ^ (26 - k)) * 2 ^ k := by rw [hW, ← hP, Nat.mul_mod_mul_right]
  have e1 : l.getD j 0 ||| W % 67108864 = l.getD j 0 + W % 67108864 := by rw [hWm]; exact or_add h1
  have hWq : W = W % 67108864 + 67108864 * (W / 67108864) := (Nat.mod_add_div ..).symm
  have hgoal : 2 ^ (8 * i) * c = 2 ^ (26 * j) * W := by rw [hW, hjk, Nat.pow_add, Nat.mul_assoc, Nat.mul_comm c]
  rw [e1, hgoal]
  have hs := set_val (l := l) (x := W % 67108864) (show j < l.length by omega)
  by_cases hb : 67108863 < W
  · rw [if_pos hb]
    have hj3 : j + 1 < 5 := by
      rcases Nat.lt_or_ge (j + 1) 5 with h | h
      · exact h
      · exfalso
        rw [hW] at hb
        rcases (show i = 13 ∨ i = 14 ∨ i = 15 ∨ i = 16 by omega) with h | h | h | h
        · rw [show k = 0 by omega] at hb; omega
        · rw [show k = 8 by omega] at hb; omega
        · rw [show k = 16 by omega] at hb; omega
        · have hc4 := h16 h
          rw [show k = 24 by omega] at hb; omega
    have hg : (l.set j (l.getD j 0 + W % 67108864)).getD (j + 1) 0 = 0 := by
      rw [List.getD_eq_getElem?_getD, List.getElem?_set_ne (by omega), ← List.getD_eq_getElem?_getD, h2]
    have e2 : (l.set j (l.getD j 0 + W % 67108864)).getD (j + 1) 0 ||| W / 67108864 = (l.set j (l.getD j 0 + W % 67108864)).getD (j + 1) 0 + W / 67108864 := by rw [hg]; simp
    rw [e2, set_val (by rw [List.length_set]; omega), hs, show 26 * (j + 1) = 26 * j + 26 by omega, Nat.pow_add, Nat.mul_assoc, Nat.add_assoc, ← Nat.mul_add]
    congr 2
    rw [show (2 : Nat) ^ 26 = 67108864 from rfl]
    omega
  · rw [if_neg hb, hs]
    congr 2
    omega
theorem ofTo_val (bs : List (BitVec 8)) (h16 : 16 < bs.length → (bs.getD 16 0).toNat < 4) : ∀ i, i ≤ bs.length → i ≤ 17 → v26 (ofTo bs i) = valB 256 ((natL bs).take i) := by
  intro i
  induction i with
  | zero => intro _ _; simp [ofTo, valB, v26]
  | succ i ih =>
    intro h1 h2
    have e := ih (by omega) (by omega)
    have hb := valB_below ((natL bs).take i) (fun d hd => natL_below bs d (List.mem_of_mem_take hd))
    rw [List.length_take, natL_length, Nat.min_eq_left (by omega), pow8, ← e] at hb
    unfold ofTo
    rw [ofStep_val (ofTo_length bs i) (by omega) (bs.getD i 0).isLt (fun hi => by subst hi; exact h16 (by omega)) hb, e, valB_take_succ, pow8, natL_getD]
theorem ofN_val (bs : List (BitVec 8)) (hl : bs.length ≤ 17) (h16 : 16 < bs.length → (bs.getD 16 0).toNat < 4) : v26 (ofN bs) = valB 256 (natL bs) := by
  unfold ofN
  rw [ofTo_val bs h16 _ (Nat.le_refl _) hl, List.take_of_length_le (by rw [natL_length]; exact Nat.le_refl _)]
-- ---- carried
theorem v26_five (a b c d e : Nat) : v26 [a, b, c, d, e] = a + 67108864 * b + 4503599627370496 * c + 302231454903657293676544 * d + 20282409603651670423947251286016 * e := by
  simp only [v26, valB, Nat.mul_zero, Nat.add_zero]
  omega
theorem passN_val {l : List Nat} (hl : l.length = 5) : v26 (passN l) % P130 = v26 l % P130 := by
  obtain ⟨a, b, c, d, e, rfl⟩ := five l hl
  obtain ⟨h0, h1, h2, h3, h4, a', b', c', d', e', hp, r0, _, r1, _, r2, _, r3, _, r4, _⟩ := passN_five a b c d e
  rw [hp, v26_five, v26_five]
  have : a + 67108864 * b + 4503599627370496 * c + 302231454903657293676544 * d + 20282409603651670423947251286016 * e = (a' + 5 * h4 + 67108864 * b' + 4503599627370496 * c' + 302231454903657293676544 * d' + 20282409603651670423947251286016 * e') + P130 * h4 := by unfold P130; omega
  rw [this, Nat.add_mul_mod_self_left]
theorem carF_val : ∀ (f : Nat) (l : List Nat), l.length = 5 → v26 (carF f l) % P130 = v26 l % P130 := by
  intro f
  induction f with
  | zero => intro l _; rfl
  | succ f ih =>
    intro l hl
    unfold carF
    split
    · exact passN_val hl
    · rw [ih _ (by unfold passN; rw [passTo_length, hl]), passN_val hl]
theorem carN_val {l : List Nat} (hl : l.length = 5) : v26 (carN l) % P130 = v26 l % P130 := carF_val 3 l hl
theorem addTo_val (l m : List Nat) (hl : l.length = 5) (hm : m.length = 5) : v26 (addTo l m 5) = v26 l + v26 m := by
  have h : ∀ i, i ≤ 5 → v26 (addTo l m i) = v26 l + v26 (m.take i) := by
    intro i
    induction i with
    | zero => intro _; simp [addTo, v26, valB]
    | succ i ih =>
      intro hi
      unfold addTo
      rw [set_val (by rw [addTo_length]; omega), ih (by omega)]
      unfold v26
      rw [valB_take_succ, pow26]
      omega
  rw [h 5 (by omega), List.take_of_length_le (by omega)]
theorem plusN_val (l m : List Nat) (hl : l.length = 5) (hm : m.length = 5) : v26 (plusN l m) % P130 = (v26 l + v26 m) % P130 := by
  unfold plusN
  rw [carN_val (by rw [addTo_length, hl]), addTo_val l m hl hm]
theorem wrap5 (j x : Nat) : ∃ q, 2 ^ (26 * (j + 5)) * x = 2 ^ (26 * j) * (5 * x) + P130 * q := by
  refine ⟨2 ^ (26 * j) * x, ?_⟩
  rw [show 26 * (j + 5) = 26 * j + 130 by omega, Nat.pow_add, Nat.mul_assoc]
  obtain ⟨y, hy⟩ : ∃ y, y = 2 ^ (26 * j) := ⟨_, rfl⟩
  rw [← hy, Nat.mul_left_comm P130, ← Nat.mul_add, ← Nat.add_mul]
  congr 2
theorem mulStep_val {o l m : List Nat} {i k : Nat} (ho : o.length = 5) (hi : i < 5) (hk : k < 5) : v26 (mulStep o l m i k) % P130 = (v26 o + 2 ^ (26 * i) * (l.getD i 0 * (2 ^ (26 * k) * m.getD k 0))) % P130 := by
  have e : 2 ^ (26 * i) * (l.getD i 0 * (2 ^ (26 * k) * m.getD k 0)) = 2 ^ (26 * (i + k)) * (l.getD i 0 * m.getD k 0) := by
    rw [show 26 * (i + k) = 26 * i + 26 * k by omega, Nat.pow_add, Nat.mul_assoc, Nat.mul_left_comm (l.getD i 0)]
  rw [e]
  unfold mulStep
  by_cases h : i + k < 5
  · rw [if_pos h, set_val (by omega)]
  · rw [if_neg h, Nat.mul_assoc, set_val (by omega)]
    obtain ⟨q, hq⟩ := wrap5 (i + k - 5) (l.getD i 0 * m.getD k 0)
    rw [show i + k - 5 + 5 = i + k by omega] at hq
    rw [hq, ← Nat.add_assoc, Nat.add_mul_mod_self_left]
theorem mulRow_val {o l m : List Nat} {i : Nat} (ho : o.length = 5) (hi : i < 5) : ∀ k, k ≤ 5 → v26 (mulRow o l m i k) % P130 = (v26 o + 2 ^ (26 * i) * (l.getD i 0 * v26 (m.take k))) % P130 := by
  intro k
  induction k with
  | zero => intro _; simp [mulRow, v26, valB]
  | succ k ih =>
    intro hk
    have e := ih (by omega)
    unfold mulRow
    rw [mulStep_val (by rw [mulRow_length, ho]) hi (by omega), Nat.add_mod, e, ← Nat.add_mod]
    congr 1
    unfold v26
    rw [valB_take_succ, pow26, Nat.add_assoc, ← Nat.mul_add, ← Nat.mul_add]
theorem mulTo_val {l m : List Nat} (hl : l.length = 5) (hm : m.length = 5) : ∀ i, i ≤ 5 → v26 (mulTo l m i) % P130 = (v26 (l.take i) * v26 m) % P130 := by
  intro i
  induction i with
  | zero => intro _; simp [mulTo, v26, valB]
  | succ i ih =>
    intro hi
    have e := ih (by omega)
    unfold mulTo
    rw [mulRow_val (mulTo_length l m i) (by omega) 5 (Nat.le_refl _), List.take_of_length_le (show m.length ≤ 5 by omega), Nat.add_mod, e, ← Nat.add_mod]
    congr 1
    unfold v26
    rw [valB_take_succ, pow26, Nat.add_mul, Nat.mul_assoc]
theorem timesN_val {l m : List Nat} (hl : l.length = 5) (hm : m.length = 5) : v26 (timesN l m) % P130 = (v26 l * v26 m) % P130 := by
  unfold timesN
  rw [carN_val (mulTo_length l m 5), mulTo_val hl hm 5 (Nat.le_refl _), List.take_of_length_le (show l.length ≤ 5 by omega)]
/-- The document's number behind k parts. -/
def accV (r : Nat) (b : List (BitVec 8)) : Nat → Nat
  | 0 => 0
  | k + 1 => ((accV r b k + valB 256 (natL (chunkB b k ++ [1]))) * r) % P130
theorem accS_val (r : List Nat) (hr : r.length = 5) (b : List (BitVec 8)) : ∀ k, v26 (accS r b k) % P130 = accV (v26 r) b k := by
  intro k
  induction k with
  | zero => simp [accS, accV, v26, valB]
  | succ k ih =>
    have hc := chunkB_length b k
    have hl : (chunkB b k ++ [1]).length ≤ 17 := by rw [List.length_append]; simp only [List.length_cons, List.length_nil]; omega
    have h16 : 16 < (chunkB b k ++ [1]).length → ((chunkB b k ++ [1]).getD 16 0).toNat < 4 := by
      intro h
      rw [List.length_append] at h
      simp only [List.length_cons, List.length_nil] at h
      have : (chunkB b k).length = 16 := by omega
      rw [List.getD_eq_getElem?_getD, List.getElem?_append_right (by omega), this]
      decide
    unfold accS accV
    have e1 : v26 (plusN (accS r b k) (ofN (chunkB b k ++ [1]))) % P130 = (accV (v26 r) b k + valB 256 (natL (chunkB b k ++ [1]))) % P130 := by
      rw [plusN_val _ _ (accS_length r b k) (ofN_length _), ofN_val _ hl h16, Nat.add_mod, ih, Nat.add_mod_mod]
    rw [timesN_val (by rw [plusN_length, accS_length]) hr, Nat.mul_mod, e1, ← Nat.mul_mod]
theorem okN_lt {l : List Nat} (hl : l.length = 5) (h : okN l) : v26 l < 1361129467683753853853498429727072845824 := by
  obtain ⟨a, b, c, d, e, rfl⟩ := five l hl
  rw [v26_five]
  have h1 := h a (by simp)
  have h2 := h b (by simp)
  have h3 := h c (by simp)
  have h4 := h d (by simp)
  have h5 := h e (by simp)
  omega
theorem leastN_val {l : List Nat} (hl : l.length = 5) (h : okN l) : v26 (leastN l) = v26 l % P130 := by
  have hlt := okN_lt hl h
  rw [left_of_lt hlt]
  obtain ⟨a, b, c, d, e, rfl⟩ := five l hl
  have h1 := h a (by simp)
  have h2 := h b (by simp)
  have h3 := h c (by simp)
  have h4 := h d (by simp)
  have h5 := h e (by simp)
  unfold leastN
  simp only [leastTo, leastStep, List.getD_cons_zero, List.getD_cons_succ, List.set_cons_zero, List.set_cons_succ]
  rw [v26_five]
  split
  · next hb =>
    rw [v26_five, if_pos (by omega)]
    omega
  · next hb =>
    rw [if_neg (by omega), v26_five]
theorem mod_pow_div (x : Nat) : x % 256 = x % 256 := rfl
theorem numByte_val {l : List Nat} (hl : l.length = 5) (h : okN l) (i : Nat) (hi : i < 16) : (numByte l i).toNat = v26 l / 256 ^ i % 256 := by
  obtain ⟨j, hj⟩ : ∃ j, j = 8 * i / 26 := ⟨_, rfl⟩
  obtain ⟨k, hk⟩ : ∃ k, k = 8 * i % 26 := ⟨_, rfl⟩
  have hjk : 8 * i = 26 * j + k := by omega
  have hk25 : k ≤ 25 := by omega
  have hj4 : j ≤ 4 := by omega
  have e := valB_split 67108864 l j (by omega)
  have e2 : l.drop j = l[j]'(by omega) :: l.drop (j + 1) := (List.getElem_cons_drop (by omega)).symm
  have hg : l.getD j 0 = l[j]'(by omega) := by rw [List.getD_eq_getElem?_getD, List.getElem?_eq_getElem (by omega)]; rfl
  have hlo : valB 67108864 (l.take j) < 67108864 ^ j := by
    have : ∀ (t : List Nat), (∀ d ∈ t, d < 67108864) → valB 67108864 t < 67108864 ^ t.length := by
      intro t
      induction t with
      | nil => intro _; simp [valB]
      | cons d t ih =>
        intro ht
        have i1 := ih (fun x hx => ht x (List.mem_cons_of_mem _ hx))
        have i2 := ht d (List.mem_cons_self ..)
        simp only [valB, List.length_cons, Nat.pow_succ]
        omega
    have h2 := this (l.take j) (fun d hd => h d (List.mem_of_mem_take hd))
    rwa [List.length_take, Nat.min_eq_left (by omega)] at h2
  have hrest : valB 67108864 (l.drop (j + 1)) % 67108864 = l.getD (j + 1) 0 % 67108864 := by
    have hd0 := getD_drop l (j + 1) 0
    rw [Nat.add_zero] at hd0
    rw [← hd0]
    cases hq : l.drop (j + 1) with
    | nil => rfl
    | cons d t => simp only [valB, List.getD_cons_zero]; omega
  obtain ⟨R, hR⟩ : ∃ R, R = valB 67108864 (l.drop (j + 1)) := ⟨_, rfl⟩
  rw [← hR] at hrest
  rw [e2, valB, ← hg, ← hR] at e
  have hv : v26 l / 256 ^ i = (l.getD j 0 + 67108864 * R) / 2 ^ k := by
    unfold v26
    rw [e, pow8, hjk, Nat.pow_add, ← Nat.div_div_eq_div_mul, ← pow26, Nat.add_mul_div_left _ _ (Nat.pow_pos (by decide)), Nat.div_eq_of_lt hlo, Nat.zero_add]
  have hP : 2 ^ (26 - k) * 2 ^ k = 67108864 := by rw [← Nat.pow_add, show 26 - k + k = 26 by omega]
  have hdv : (l.getD j 0 + 67108864 * R) / 2 ^ k = l.getD j 0 / 2 ^ k + R * 2 ^ (26 - k) := by
    rw [← hP, Nat.mul_comm (2 ^ (26 - k) * 2 ^ k), ← Nat.mul_assoc, Nat.add_mul_div_right _ _ (Nat.pow_pos (by decide))]
  rw [hv, hdv]
  have hx : l.getD j 0 / 2 ^ k < 2 ^ (26 - k) := by
    rw [Nat.div_lt_iff_lt_mul (Nat.pow_pos (by decide)), hP, hg]
    exact h _ (List.getElem_mem _)
  unfold numByte
  rw [← hj, ← hk]
  simp only
  rw [BitVec.toNat_ofNat]
  -- R ≡ l_{j+1} mod 2^26, and 256 divides 2^26 * 2^(26-k)
  have hR2 : R = l.getD (j + 1) 0 % 67108864 + 67108864 * (R / 67108864) := by rw [← hrest]; exact (Nat.mod_add_div ..).symm
  have hl1 : l.getD (j + 1) 0 < 67108864 := getD_below h (by decide)
  rw [Nat.mod_eq_of_lt hl1] at hR2
  have hR3 : R * 2 ^ (26 - k) = l.getD (j + 1) 0 * 2 ^ (26 - k) + 256 * (262144 * (R / 67108864) * 2 ^ (26 - k)) := by
    conv => lhs; rw [hR2]
    rw [Nat.add_mul, show (67108864 : Nat) = 256 * 262144 from rfl]
    simp only [Nat.mul_assoc]
  rw [hR3, ← Nat.add_assoc, Nat.add_mul_mod_self_left]
  by_cases hj5 : j + 1 < 5
  · rw [if_pos hj5, or_add hx]
  · rw [if_neg hj5, show l.getD (j + 1) 0 = 0 by rw [List.getD_eq_getElem?_getD, List.getElem?_eq_none (by omega)]; rfl]
    simp
theorem bytesN_val {l : List Nat} (hl : l.length = 5) (h : okN l) : ∀ i, i < 16 → ((bytesN l).getD i 0).toNat = v26 l / 256 ^ i % 256 := by
  intro i hi
  rw [← numByte_val hl h i hi]
  unfold bytesN bytesTo
  rw [List.getD_eq_getElem?_getD, List.getElem?_map, List.getElem?_range hi]
  simp [hi]
/-- The document's tag. -/
def refTagN (r s : Nat) (b : List (BitVec 8)) : List (BitVec 8) := (digs 16 (accV r b (nch b) + s)).map fun d => BitVec.ofNat 8 d
theorem tagS_ref (key b : List (BitVec 8)) (hk : key.length = 32) : tagS key b = refTagN (valB 256 (natL (clampS key))) (valB 256 (natL (key.drop 16))) b := by
  obtain ⟨r, hr⟩ : ∃ r, r = ofN (clampS key) := ⟨_, rfl⟩
  have hrl : r.length = 5 := by rw [hr]; exact ofN_length _
  have hcl : (clampS key).length = 16 := clampTo_length _ _
  have hrv : v26 r = valB 256 (natL (clampS key)) := by rw [hr]; exact ofN_val _ (by omega) (fun h => by omega)
  obtain ⟨A, hA⟩ : ∃ A, A = accS r b (nch b) := ⟨_, rfl⟩
  have hAl : A.length = 5 := by rw [hA]; exact accS_length _ _ _
  have hAo : okN A := by rw [hA]; exact accS_ok _ _ (by rw [hr]; exact ofN_ok _) _
  have hAv : v26 A % P130 = accV (valB 256 (natL (clampS key))) b (nch b) := by rw [hA, accS_val r hrl, hrv]
  have hL : v26 (leastN A) = accV (valB 256 (natL (clampS key))) b (nch b) := by rw [leastN_val hAl hAo, hAv]
  have hLo := leastN_ok hAl hAo
  have hLl : (leastN A).length = 5 := by rw [leastN_length, hAl]
  obtain ⟨t, ht⟩ : ∃ t, t = polyS key b := ⟨_, rfl⟩
  have htl : t.length = 16 := by rw [ht]; exact bytesTo_length _ _
  have htd : ∀ i, i < 16 → (t.getD i 0).toNat = accV (valB 256 (natL (clampS key))) b (nch b) / 256 ^ i % 256 := by
    intro i hi
    rw [ht]
    unfold polyS
    rw [← hr, ← hA, bytesN_val hLl hLo i hi, hL]
  obtain ⟨X, hX⟩ : ∃ X, X = accV (valB 256 (natL (clampS key))) b (nch b) := ⟨_, rfl⟩
  rw [← hX] at htd
  obtain ⟨s, hs⟩ : ∃ s, s = key.drop 16 := ⟨_, rfl⟩
  have hsl : s.length = 16 := by rw [hs, List.length_drop]; omega
  unfold tagS refTagN
  rw [← ht, ← hX, ← hs]
  -- natL t = digs 16 X
  have hnt : natL t = digs 16 X := by
    apply List.ext_getElem
    · rw [natL_length, digs_length, htl]
    · intro i h1 h2
      rw [digs_length] at h2
      have e1 := htd i h2
      rw [← natL_getD] at e1
      rw [List.getD_eq_getElem?_getD, List.getElem?_eq_getElem h1] at e1
      simp only [digs, List.getElem_map, List.getElem_range]
      exact e1
  -- the sum's places
  obtain ⟨S, hS⟩ : ∃ S, S = addV (natL t) (natL s) 16 := ⟨_, rfl⟩
  have hSv : valB 256 S = valB 256 (natL t) + valB 256 (natL s) := by rw [hS]; exact valB_addV _ _ _ (by rw [natL_length]; omega) (by rw [natL_length]; omega)
  have hSg : ∀ i, i < 16 → S.getD i 0 = (t.getD i 0).toNat + (key.getD (16 + i) 0).toNat := by
    intro i hi
    rw [hS]
    unfold addV
    rw [List.getD_eq_getElem?_getD, List.getElem?_map, List.getElem?_range hi]
    simp only [Option.map_some, Option.getD_some, natL_getD]
    rw [hs, List.getD_eq_getElem?_getD (l := key.drop 16), List.getElem?_drop, ← List.getD_eq_getElem?_getD]
  have hcy : ∀ i, i ≤ 16 → cyS t key i = moreS S i := by
    intro i
    induction i with
    | zero => intro _; rw [moreS_zero]; rfl
    | succ i ih =>
      intro hi
      unfold cyS
      rw [ih (by omega), ← hSg i (by omega), moreS_next]
  apply List.ext_getElem
  · rw [sumTo_length, List.length_map, digs_length]
  · intro i h1 h2
    rw [sumTo_length] at h1
    simp only [sumTo, List.getElem_map, List.getElem_range, if_pos h1, digs]
    unfold sumB
    rw [hcy i (by omega), ← hSg i h1]
    apply BitVec.eq_of_toNat_eq
    rw [BitVec.toNat_ofNat, BitVec.toNat_ofNat, Nat.mod_mod, moreS_digit, hSv, hnt, valB_digs]
    -- (X % 256^16 + s) / 256^i % 256 = (X + s) / 256^i % 256
    have hm : X = X % 256 ^ 16 + 256 ^ 16 * (X / 256 ^ 16) := (Nat.mod_add_div ..).symm
    obtain ⟨y, hy⟩ : ∃ y, y = X % 256 ^ 16 := ⟨_, rfl⟩
    obtain ⟨z, hz⟩ : ∃ z, z = X / 256 ^ 16 := ⟨_, rfl⟩
    rw [← hy, ← hz] at hm
    rw [← hy, hm, Nat.add_right_comm, show (256 : Nat) ^ 16 = 256 ^ i * (256 * 256 ^ (15 - i)) by rw [← Nat.mul_assoc, ← Nat.pow_succ, ← Nat.pow_add]; congr 1; omega, Nat.mul_assoc, Nat.add_mul_div_left _ _ (Nat.pow_pos (by decide)), Nat.mul_assoc, Nat.add_mul_mod_self_left]
end Go.Proofs.YtbiijcljpgannaaGreatDoor
