/-
  poly.number.plus, times. Printed by gen/po3.py.
-/
import Derived.Test.YtbiijcljpgannaaGreatDoorY2
namespace Go.Proofs.YtbiijcljpgannaaGreatDoor
set_option maxRecDepth 100000
open Go Go.RowKit Go.Lib
set_option linter.unusedSimpArgs false
set_option linter.unusedVariables false

def addTo (l m : List Nat) : Nat → List Nat
  | 0 => l
  | i + 1 => (addTo l m i).set i ((addTo l m i).getD i 0 + m.getD i 0)
def plusN (l m : List Nat) : List Nat := carN (addTo l m 5)
theorem addTo_length (l m : List Nat) (i : Nat) : (addTo l m i).length = l.length := by
  induction i with
  | zero => rfl
  | succ i ih => unfold addTo; rw [List.length_set, ih]
theorem addTo_inv (l m : List Nat) (hl : ∀ x ∈ l, x < 67108864) (hm : ∀ x ∈ m, x < 67108864) : ∀ i, (∀ j, i ≤ j → (addTo l m i).getD j 0 = l.getD j 0) ∧ ∀ x ∈ addTo l m i, x < 134217728 := by
  intro i
  induction i with
  | zero => exact ⟨fun _ _ => rfl, fun x hx => by have := hl x hx; omega⟩
  | succ i ih =>
    obtain ⟨h1, h2⟩ := ih
    have e := h1 i (Nat.le_refl _)
    have hl1 : l.getD i 0 < 67108864 := getD_below hl (by omega)
    have hm1 : m.getD i 0 < 67108864 := getD_below hm (by omega)
    unfold addTo
    refine ⟨fun j hj => ?_, set_below h2 (by omega)⟩
    rw [List.getD_eq_getElem?_getD, List.getElem?_set_ne (by omega), ← List.getD_eq_getElem?_getD]
    exact h1 j (by omega)
theorem addTo_big (l m : List Nat) (hl : ∀ x ∈ l, x < 67108864) (hm : ∀ x ∈ m, x < 67108864) : ∀ x ∈ addTo l m 5, x < 1152921504606846976 := fun x hx => by have := (addTo_inv l m hl hm 5).2 x hx; omega
theorem plusN_ok {l m : List Nat} (hll : l.length = 5) (hl : okN l) (hm : okN m) : okN (plusN l m) := carN_ok (by rw [addTo_length, hll]) (addTo_big l m hl hm)
theorem plusN_length (l m : List Nat) : (plusN l m).length = l.length := by unfold plusN; rw [carN_length, addTo_length]
def mulStep (o l m : List Nat) (i k : Nat) : List Nat :=
  if i + k < 5 then o.set (i + k) (o.getD (i + k) 0 + l.getD i 0 * m.getD k 0) else o.set (i + k - 5) (o.getD (i + k - 5) 0 + 5 * l.getD i 0 * m.getD k 0)
def mulRow (o l m : List Nat) (i : Nat) : Nat → List Nat
  | 0 => o
  | k + 1 => mulStep (mulRow o l m i k) l m i k
def mulTo (l m : List Nat) : Nat → List Nat
  | 0 => [0, 0, 0, 0, 0]
  | i + 1 => mulRow (mulTo l m i) l m i 5
def timesN (l m : List Nat) : List Nat := carN (mulTo l m 5)
theorem mulStep_length (o l m : List Nat) (i k : Nat) : (mulStep o l m i k).length = o.length := by unfold mulStep; split <;> simp
theorem mulRow_length (o l m : List Nat) (i k : Nat) : (mulRow o l m i k).length = o.length := by
  induction k with
  | zero => rfl
  | succ k ih => unfold mulRow; rw [mulStep_length, ih]
theorem mulTo_length (l m : List Nat) (i : Nat) : (mulTo l m i).length = 5 := by
  induction i with
  | zero => rfl
  | succ i ih => unfold mulTo; rw [mulRow_length, ih]
theorem prod_below {a b : Nat} (ha : a < 67108864) (hb : b < 67108864) : a * b ≤ 4503599493152769 := by
  calc a * b ≤ 67108863 * 67108863 := Nat.mul_le_mul (by omega) (by omega)
    _ = _ := by decide
theorem prod5_below {a b : Nat} (ha : a < 67108864) (hb : b < 67108864) : 5 * a * b ≤ 22517997465763845 := by
  rw [Nat.mul_assoc]
  have := prod_below ha hb
  omega
theorem mulStep_below {o l m : List Nat} {i k B : Nat} (ho : ∀ x ∈ o, x ≤ B) (hl : okN l) (hm : okN m) : ∀ x ∈ mulStep o l m i k, x ≤ B + 22517997465763845 := by
  have h1 : l.getD i 0 < 67108864 := getD_below hl (by omega)
  have h2 : m.getD k 0 < 67108864 := getD_below hm (by omega)
  have h3 := prod_below h1 h2
  have h4 := prod5_below h1 h2
  have ho' : ∀ x ∈ o, x < B + 22517997465763845 + 1 := fun x hx => by have := ho x hx; omega
  have hg : ∀ j, o.getD j 0 < B + 1 := fun j => getD_below (fun x hx => by have := ho x hx; omega) (by omega)
  intro x hx
  have : x < B + 22517997465763845 + 1 := by
    unfold mulStep at hx
    split at hx
    · exact set_below ho' (by have := hg (i + k); omega) x hx
    · exact set_below ho' (by have := hg (i + k - 5); omega) x hx
  omega
theorem mulRow_below {o l m : List Nat} {i B : Nat} (ho : ∀ x ∈ o, x ≤ B) (hl : okN l) (hm : okN m) : ∀ k, ∀ x ∈ mulRow o l m i k, x ≤ B + k * 22517997465763845 := by
  intro k
  induction k with
  | zero => intro x hx; have := ho x hx; omega
  | succ k ih => intro x hx; unfold mulRow at hx; have := mulStep_below ih hl hm x hx; omega
theorem mulTo_below {l m : List Nat} (hl : okN l) (hm : okN m) : ∀ i, ∀ x ∈ mulTo l m i, x ≤ i * 112589987328819225 := by
  intro i
  induction i with
  | zero => intro x hx; simp [mulTo] at hx; omega
  | succ i ih => intro x hx; unfold mulTo at hx; have := mulRow_below ih hl hm 5 x hx; omega
theorem timesN_ok {l m : List Nat} (hl : okN l) (hm : okN m) : okN (timesN l m) := carN_ok (mulTo_length _ _ _) (fun x hx => by have := mulTo_below hl hm 5 x hx; omega)
theorem timesN_length (l m : List Nat) : (timesN l m).length = 5 := by unfold timesN; rw [carN_length, mulTo_length]

set_option maxRecDepth 100000 in
set_option maxHeartbeats 4000000 in
theorem plus_any (l m : List Nat) (hll : l.length = 5) (hml : m.length = 5) (hl : okN l) (hm : okN m) (w : World) : Calls Tryz.prog 108 #[numA l, numA m] w fun e w' => Mod (fun _ => False) w w' ∧ e = .returned (numA (plusN l m)) := by
  obtain ⟨wa, hwa⟩ : ∃ x, x = w.alloc (.cells (nums .u64 l).toArray 162) := ⟨_, rfl⟩
  obtain ⟨G, hG⟩ : ∃ g, g = w.heap.size := ⟨_, rfl⟩
  have ma : Mod (fun _ => False) w wa := by rw [hwa]; exact (Mod.refl _ _).alloc _
  have xa : NumAt wa G l := by rw [hwa]; exact hp_new _ _ _ hG
  obtain ⟨wb, hwb⟩ : ∃ x, x = wa.alloc (.cells (nums .u64 m).toArray 162) := ⟨_, rfl⟩
  obtain ⟨H, hH⟩ : ∃ g, g = wa.heap.size := ⟨_, rfl⟩
  have mb : Mod (fun _ => False) wa wb := by rw [hwb]; exact (Mod.refl _ _).alloc _
  have xb : NumAt wb H m := by rw [hwb]; exact hp_new _ _ _ hH
  obtain ⟨w0, hw0⟩ : ∃ x, x = wb.alloc (.cells (nums .u64 [0, 0, 0, 0, 0]).toArray 162) := ⟨_, rfl⟩
  obtain ⟨R, hR⟩ : ∃ g, g = wb.heap.size := ⟨_, rfl⟩
  have mc : Mod (fun _ => False) wb w0 := by rw [hw0]; exact (Mod.refl _ _).alloc _
  have xR : NumAt w0 R [0, 0, 0, 0, 0] := by rw [hw0]; exact hp_new _ _ _ hR
  have xG := (xa.mod mb (fun h => h)).mod mc (fun h => h)
  have xH := xb.mod mc (fun h => h)
  have hGH : G < H := by rw [hH]; exact lt_of_heap xa
  have hHR : H < R := by rw [hR]; exact lt_of_heap xb
  have m0 := (ma.trans mb).trans mc
  have hwG : w.heap.size ≤ G := by omega
  have hend : ∀ w', Mod (fun k => G ≤ k) w0 w' → Mod (fun _ => False) w w' := fun w' m => m0.trans' m (fun k hk h => by omega)
  obtain ⟨Z, hZ⟩ : ∃ Z, Z = plusN l m := ⟨_, rfl⟩
  have hzl : Z.length = 5 := by rw [hZ, plusN_length]; exact hll
  rw [← hZ]
  replace hZ := Lib.hid hZ
  replace hwa := Lib.hid hwa
  replace hG := Lib.hid hG
  replace hwb := Lib.hid hwb
  replace hH := Lib.hid hH
  replace hw0 := Lib.hid hw0
  replace hR := Lib.hid hR
  replace xR := Lib.hid xR
  replace xG := Lib.hid xG
  replace xH := Lib.hid xH
  replace m0 := Lib.hid m0
  replace hend := Lib.hid hend
  replace hl := Lib.hid hl
  replace hm := Lib.hid hm
  replace hll := Lib.hid hll
  replace hml := Lib.hid hml
  clear ma xa mb xb mc
  go_enter Tryz.func108, Tryz.ntmps108
  go_upto_region 0 with (fail)
  refine wp_region_lit ?_
  refine wpList_yields (by kernel_rfl) _ _ (box_num _ _ _ rfl rfl) ?_
  simp only [Act.put, List.setIfInBounds_toArray, List.set_cons_zero, List.set_cons_succ]
  rw [← hG.out, ← hwa.out]
  refine wpList_yields (by kernel_rfl) _ _ (box_num _ _ _ rfl rfl) ?_
  simp only [Act.put, List.setIfInBounds_toArray, List.set_cons_zero, List.set_cons_succ]
  rw [← hH.out, ← hwb.out]
  refine wpList_yields (by kernel_rfl) _ _ (alloc_num _ _ _ rfl) ?_
  simp only [Act.put, List.setIfInBounds_toArray, List.set_cons_zero, List.set_cons_succ]
  rw [← hR.out, ← hw0.out]
  go_upto_region 1 with (fail)
  refine wp_region_lit ?_
  refine wpList_reads (by kernel_rfl) (numA m) (run_load_op rfl rfl (num_load xH.out hml.out)) ?_
  simp only [Act.put, List.setIfInBounds_toArray, List.set_cons_zero, List.set_cons_succ]
  refine wpList_reads (by kernel_rfl) (.int .i64 0) (by go_simp) ?_
  simp only [Act.put, List.setIfInBounds_toArray, List.set_cons_zero, List.set_cons_succ]
  obtain ⟨mV, hmV⟩ : ∃ v, v = numA m := ⟨_, rfl⟩
  rw [← hmV]
  replace hmV := Lib.hid hmV
  go_wp2
  go_loopw [8] (fun iv wr => ∃ i : Nat, i ≤ 5 ∧ iv = .int .i64 (i : Int) ∧ Mod (fun k => k = G) w0 wr ∧ NumAt wr G (addTo l m i)) (fun iv _ => 5 - (intOf iv).toNat)
  case atStart => exact ⟨0, by omega, rfl, Mod.refl _ _, xG.out⟩
  case round =>
    obtain ⟨i, hi5, rfl, mi, xi⟩ := hrel
    have bi0 : (0 : Int) ≤ (i : Int) := by omega
    by_cases hilt : i < 5
    · have hd5 : decide ((i : Int) < 5) = true := by rw [decide_eq_true_iff]; omega
      have bi5 : ¬ (5 : Int) ≤ (i : Int) := by omega
      obtain ⟨hj, hb27⟩ := addTo_inv l m hl.out hm.out i
      have hal : (addTo l m i).length = 5 := by rw [addTo_length, hll.out]
      obtain ⟨A, hA⟩ : ∃ m', m' = addTo l m i := ⟨_, rfl⟩
      rw [← hA] at xi hb27 hal hj
      obtain ⟨y, hy⟩ : ∃ y, y = m.getD i 0 := ⟨_, rfl⟩
      have hy26 : y < 67108864 := by rw [hy]; exact getD_below hm.out (by omega)
      obtain ⟨x, hx⟩ : ∃ x, x = A.getD i 0 := ⟨_, rfl⟩
      have hx27 : x < 134217728 := by rw [hx]; exact getD_below hb27 (by omega)
      have cx := num_cell xi i (by omega)
      rw [← hx] at cx
      obtain ⟨z, hz⟩ : ∃ z, z = x + y := ⟨_, rfl⟩
      have hzi : (x : Int) + (y : Int) = (z : Int) := by omega
      have hwz : IntKind.u64.wrap (z : Int) = (z : Int) := by rw [IntKind.wrap_u64]; omega
      have hix := fun (ev : Operand → Value) (o : Oper) (a b : Operand) (ho : o.op = .index 162 a b) (ha : ev a = mV) (hb : ev b = .int .i64 (i : Int)) (w : World) => index_num_op (w := w) ho (ha.trans hmV.out) hb hilt hml.out
      rw [← hy] at hix
      obtain ⟨w2, s2, m2, x2⟩ := num_put xi i z (by omega)
      have hnx : A.set i z = addTo l m (i + 1) := by rw [addTo, ← hA, ← hx, ← hy, hz]
      rw [hnx] at x2
      have mi2 := mi.trans m2
      replace hA := Lib.hid hA
      replace hy := Lib.hid hy
      replace hx := Lib.hid hx
      replace hz := Lib.hid hz
      replace hix := Lib.hid hix
      replace x2 := Lib.hid x2
      replace mi2 := Lib.hid mi2
      replace hb27 := Lib.hid hb27
      replace hj := Lib.hid hj
      clear hnx m2 mi xi
      go_upto_region 3 with (fail)
      refine wp_region_lit ?_
      refine wpList_reads (by kernel_rfl) (.int .i64 (i : Int)) (by go_simp) ?_
      simp only [Act.put, List.setIfInBounds_toArray, List.set_cons_zero, List.set_cons_succ]
      refine wpList_yields (by kernel_rfl) _ _ (hix.out _ _ _ _ rfl rfl rfl _) ?_
      simp only [Act.put, List.setIfInBounds_toArray, List.set_cons_zero, List.set_cons_succ]
      refine wpList_reads (by kernel_rfl) (.int .i64 (i : Int)) (by go_simp) ?_
      simp only [Act.put, List.setIfInBounds_toArray, List.set_cons_zero, List.set_cons_succ]
      refine wpList_reads (by kernel_rfl) (.int .u64 (y : Int)) (by go_simp) ?_
      simp only [Act.put, List.setIfInBounds_toArray, List.set_cons_zero, List.set_cons_succ]
      go_upto_region 4 with (fail)
      refine wp_region_lit ?_
      refine wpList_reads (by kernel_rfl) (.int .i64 (i : Int)) (by go_simp) ?_
      simp only [Act.put, List.setIfInBounds_toArray, List.set_cons_zero, List.set_cons_succ]
      refine wpList_reads (by kernel_rfl) (.pointer (some ⟨G, i, none⟩)) (by go_simp) ?_
      simp only [Act.put, List.setIfInBounds_toArray, List.set_cons_zero, List.set_cons_succ]
      refine wpList_reads (by kernel_rfl) (.int .u64 (x : Int)) (by go_simp) ?_
      simp only [Act.put, List.setIfInBounds_toArray, List.set_cons_zero, List.set_cons_succ]
      refine wpList_reads (by kernel_rfl) (.int .u64 (y : Int)) (by go_simp) ?_
      simp only [Act.put, List.setIfInBounds_toArray, List.set_cons_zero, List.set_cons_succ]
      refine wpList_reads (by kernel_rfl) (.int .u64 (z : Int)) (by go_simp) ?_
      simp only [Act.put, List.setIfInBounds_toArray, List.set_cons_zero, List.set_cons_succ]
      refine wpList_reads (by kernel_rfl) (.pointer (some ⟨G, i, none⟩)) (by go_simp) ?_
      simp only [Act.put, List.setIfInBounds_toArray, List.set_cons_zero, List.set_cons_succ]
      refine wpList_store_to rfl _ _ _ rfl _ _ _ rfl rfl _ s2 ?_
      simp only [Act.put, List.setIfInBounds_toArray, List.set_cons_zero, List.set_cons_succ]
      clear s2 cx
      go_wp2
      go_roundw
      case measure => simp [intOf]; omega
      case rel => exact ⟨i + 1, by omega, by go_num, mi2.out, x2.out⟩
    · have hi : i = 5 := by omega
      subst hi
      have hd5 : decide (((5 : Nat) : Int) < 5) = false := by decide
      have hal : (addTo l m 5).length = 5 := by rw [addTo_length, hll.out]
      have hab := addTo_big l m hl.out hm.out
      have hpz : carN (addTo l m 5) = Z := by rw [hZ.out]; rfl
      obtain ⟨A, hA⟩ : ∃ m', m' = addTo l m 5 := ⟨_, rfl⟩
      rw [← hA] at xi hal hab hpz
      have lm := num_load xi hal
      obtain ⟨wc, hwc⟩ : ∃ wc : World, wc = wr := ⟨_, rfl⟩
      rw [← hwc] at xi lm mi ⊢
      have xRc := xR.out.mod mi (by omega)
      have mi0 := hend.out _ (mi.mono (fun _ _ h => by omega))
      replace hA := Lib.hid hA
      replace xi := Lib.hid xi
      replace mi := Lib.hid mi
      replace hwc := Lib.hid hwc
      replace hab := Lib.hid hab
      replace hpz := Lib.hid hpz
      replace xRc := Lib.hid xRc
      replace mi0 := Lib.hid mi0
      clear hilt
      go_upto_region 6 with (fail)
      refine wp_region_lit ?_
      refine wpList_reads (by kernel_rfl) (numA A) (run_load_op rfl rfl lm) ?_
      simp only [Act.put, List.setIfInBounds_toArray, List.set_cons_zero, List.set_cons_succ]
      clear lm
      refine wpList_enter (by kernel_rfl) 123 #[numA A] (by go_simp) (carried_any A hal hab.out wc) ?_
      rintro e w1 ⟨m1, rfl⟩
      rw [hpz.out]
      have xR1 := xRc.out.mod m1 (fun h => h)
      obtain ⟨wz, sz, mz, xz⟩ := num_store xR1 rfl hzl
      have mf : Mod (fun _ => False) w wz := (mi0.out.trans m1).trans' mz (fun k hk h => by omega)
      replace xz := Lib.hid xz
      replace mf := Lib.hid mf
      clear m1 xR1 mz
      refine ⟨_, rfl, ?_⟩
      simp only [Act.put, List.setIfInBounds_toArray, List.set_cons_zero, List.set_cons_succ]
      refine wpList_store_to rfl _ _ _ rfl _ _ _ rfl rfl _ sz ?_
      simp only [Act.put, List.setIfInBounds_toArray, List.set_cons_zero, List.set_cons_succ]
      clear sz
      go_wp2
      exact bodyPost_ret (v := numA Z) (results_num rfl _ _ _ _ rfl xz.out hzl) rfl ⟨mf.out, rfl⟩

set_option maxRecDepth 100000 in
set_option maxHeartbeats 4000000 in
theorem times_any (l m : List Nat) (hll : l.length = 5) (hml : m.length = 5) (hl : okN l) (hm : okN m) (w : World) : Calls Tryz.prog 109 #[numA l, numA m] w fun e w' => Mod (fun _ => False) w w' ∧ e = .returned (numA (timesN l m)) := by
  obtain ⟨wa, hwa⟩ : ∃ x, x = w.alloc (.cells (nums .u64 l).toArray 162) := ⟨_, rfl⟩
  obtain ⟨G, hG⟩ : ∃ g, g = w.heap.size := ⟨_, rfl⟩
  have ma : Mod (fun _ => False) w wa := by rw [hwa]; exact (Mod.refl _ _).alloc _
  have xa : NumAt wa G l := by rw [hwa]; exact hp_new _ _ _ hG
  obtain ⟨wb, hwb⟩ : ∃ x, x = wa.alloc (.cells (nums .u64 m).toArray 162) := ⟨_, rfl⟩
  obtain ⟨H, hH⟩ : ∃ g, g = wa.heap.size := ⟨_, rfl⟩
  have mb : Mod (fun _ => False) wa wb := by rw [hwb]; exact (Mod.refl _ _).alloc _
  have xb : NumAt wb H m := by rw [hwb]; exact hp_new _ _ _ hH
  obtain ⟨w0, hw0⟩ : ∃ x, x = wb.alloc (.cells (nums .u64 [0, 0, 0, 0, 0]).toArray 162) := ⟨_, rfl⟩
  obtain ⟨R, hR⟩ : ∃ g, g = wb.heap.size := ⟨_, rfl⟩
  have mc : Mod (fun _ => False) wb w0 := by rw [hw0]; exact (Mod.refl _ _).alloc _
  have xR : NumAt w0 R [0, 0, 0, 0, 0] := by rw [hw0]; exact hp_new _ _ _ hR
  have xG := (xa.mod mb (fun h => h)).mod mc (fun h => h)
  have xH := xb.mod mc (fun h => h)
  have hGH : G < H := by rw [hH]; exact lt_of_heap xa
  have hHR : H < R := by rw [hR]; exact lt_of_heap xb
  have m0 := (ma.trans mb).trans mc
  have hwG : w.heap.size ≤ G := by omega
  have hend : ∀ w', Mod (fun k => G ≤ k) w0 w' → Mod (fun _ => False) w w' := fun w' m => m0.trans' m (fun k hk h => by omega)
  obtain ⟨Z, hZ⟩ : ∃ Z, Z = timesN l m := ⟨_, rfl⟩
  have hzl : Z.length = 5 := by rw [hZ, timesN_length]
  rw [← hZ]
  replace hZ := Lib.hid hZ
  replace hwa := Lib.hid hwa
  replace hG := Lib.hid hG
  replace hwb := Lib.hid hwb
  replace hH := Lib.hid hH
  replace hw0 := Lib.hid hw0
  replace hR := Lib.hid hR
  replace xR := Lib.hid xR
  replace xG := Lib.hid xG
  replace xH := Lib.hid xH
  replace m0 := Lib.hid m0
  replace hend := Lib.hid hend
  replace hl := Lib.hid hl
  replace hm := Lib.hid hm
  replace hll := Lib.hid hll
  replace hml := Lib.hid hml
  clear ma xa mb xb mc
  go_enter Tryz.func109, Tryz.ntmps109
  go_upto_region 0 with (fail)
  refine wp_region_lit ?_
  refine wpList_yields (by kernel_rfl) _ _ (box_num _ _ _ rfl rfl) ?_
  simp only [Act.put, List.setIfInBounds_toArray, List.set_cons_zero, List.set_cons_succ]
  rw [← hG.out, ← hwa.out]
  refine wpList_yields (by kernel_rfl) _ _ (box_num _ _ _ rfl rfl) ?_
  simp only [Act.put, List.setIfInBounds_toArray, List.set_cons_zero, List.set_cons_succ]
  rw [← hH.out, ← hwb.out]
  refine wpList_yields (by kernel_rfl) _ _ (alloc_num _ _ _ rfl) ?_
  simp only [Act.put, List.setIfInBounds_toArray, List.set_cons_zero, List.set_cons_succ]
  rw [← hR.out, ← hw0.out]
  go_upto_region 1 with (fail)
  refine wp_region_lit ?_
  refine wpList_reads (by kernel_rfl) (numA l) (run_load_op rfl rfl (num_load xG.out hll.out)) ?_
  simp only [Act.put, List.setIfInBounds_toArray, List.set_cons_zero, List.set_cons_succ]
  refine wpList_reads (by kernel_rfl) (.int .i64 0) (by go_simp) ?_
  simp only [Act.put, List.setIfInBounds_toArray, List.set_cons_zero, List.set_cons_succ]
  obtain ⟨lV, hlV⟩ : ∃ v, v = numA l := ⟨_, rfl⟩
  obtain ⟨mV, hmV⟩ : ∃ v, v = numA m := ⟨_, rfl⟩
  rw [← hlV, ← hmV]
  replace hlV := Lib.hid hlV
  replace hmV := Lib.hid hmV
  go_wp2
  go_loopw [10] (fun iv wr => ∃ i : Nat, i ≤ 5 ∧ iv = .int .i64 (i : Int) ∧ Mod (fun k => k = R) w0 wr ∧ NumAt wr R (mulTo l m i)) (fun iv _ => 5 - (intOf iv).toNat)
  case atStart => exact ⟨0, by omega, rfl, Mod.refl _ _, xR.out⟩
  case round =>
    obtain ⟨i, hi5, rfl, mi, xi⟩ := hrel
    have bi0 : (0 : Int) ≤ (i : Int) := by omega
    by_cases hilt : i < 5
    · have hd5 : decide ((i : Int) < 5) = true := by rw [decide_eq_true_iff]; omega
      obtain ⟨x, hx⟩ : ∃ x, x = l.getD i 0 := ⟨_, rfl⟩
      have hx26 : x < 67108864 := by rw [hx]; exact getD_below hl.out (by omega)
      have bx0 : (0 : Int) ≤ (x : Int) := by omega
      have hix := fun (ev : Operand → Value) (o : Oper) (a b : Operand) (ho : o.op = .index 162 a b) (ha : ev a = lV) (hb : ev b = .int .i64 (i : Int)) (w : World) => index_num_op (w := w) ho (ha.trans hlV.out) hb hilt hll.out
      rw [← hx] at hix
      have lmH := num_load (xH.out.mod mi (by omega)) hml.out
      rw [← hmV.out] at lmH
      have hob := mulTo_below hl.out hm.out i
      obtain ⟨wo, hwo⟩ : ∃ wo : World, wo = wr := ⟨_, rfl⟩
      rw [← hwo] at mi xi lmH ⊢
      replace hx := Lib.hid hx
      replace hix := Lib.hid hix
      replace mi := Lib.hid mi
      replace xi := Lib.hid xi
      replace hwo := Lib.hid hwo
      replace hob := Lib.hid hob
      go_upto_region 3 with (fail)
      refine wp_region_lit ?_
      refine wpList_reads (by kernel_rfl) (.int .i64 (i : Int)) (by go_simp) ?_
      simp only [Act.put, List.setIfInBounds_toArray, List.set_cons_zero, List.set_cons_succ]
      refine wpList_yields (by kernel_rfl) _ _ (hix.out _ _ _ _ rfl rfl rfl _) ?_
      simp only [Act.put, List.setIfInBounds_toArray, List.set_cons_zero, List.set_cons_succ]
      refine wpList_reads (by kernel_rfl) (.int .i64 (i : Int)) (by go_simp) ?_
      simp only [Act.put, List.setIfInBounds_toArray, List.set_cons_zero, List.set_cons_succ]
      refine wpList_reads (by kernel_rfl) (.int .u64 (x : Int)) (by go_simp) ?_
      simp only [Act.put, List.setIfInBounds_toArray, List.set_cons_zero, List.set_cons_succ]
      go_upto_region 4 with (fail)
      refine wp_region_lit ?_
      refine wpList_reads (by kernel_rfl) (mV) (run_load_op rfl rfl lmH) ?_
      simp only [Act.put, List.setIfInBounds_toArray, List.set_cons_zero, List.set_cons_succ]
      refine wpList_reads (by kernel_rfl) (.int .i64 0) (by go_simp) ?_
      simp only [Act.put, List.setIfInBounds_toArray, List.set_cons_zero, List.set_cons_succ]
      clear lmH
      go_wp2
      go_loopw [15] (fun kv wr => ∃ k : Nat, k ≤ 5 ∧ kv = .int .i64 (k : Int) ∧ Mod (fun k => k = R) w0 wr ∧ NumAt wr R (mulRow (mulTo l m i) l m i k)) (fun kv _ => 5 - (intOf kv).toNat)
      case atStart => exact ⟨0, by omega, rfl, mi.out, xi.out⟩
      case round =>
        obtain ⟨k, hk5, rfl, mk, xk⟩ := hrel
        have bk0 : (0 : Int) ≤ (k : Int) := by omega
        by_cases hklt : k < 5
        · have hdk : decide ((k : Int) < 5) = true := by rw [decide_eq_true_iff]; omega
          have hal : (mulRow (mulTo l m i) l m i k).length = 5 := by rw [mulRow_length, mulTo_length]
          have hkb := mulRow_below (i := i) hob.out hl.out hm.out k
          obtain ⟨A, hA⟩ : ∃ m', m' = mulRow (mulTo l m i) l m i k := ⟨_, rfl⟩
          rw [← hA] at xk hal hkb
          obtain ⟨y, hy⟩ : ∃ y, y = m.getD k 0 := ⟨_, rfl⟩
          have hy26 : y < 67108864 := by rw [hy]; exact getD_below hm.out (by omega)
          have by0 : (0 : Int) ≤ (y : Int) := by omega
          have hiy := fun (ev : Operand → Value) (o : Oper) (a b : Operand) (ho : o.op = .index 162 a b) (ha : ev a = mV) (hb : ev b = .int .i64 (k : Int)) (w : World) => index_num_op (w := w) ho (ha.trans hmV.out) hb hklt hml.out
          rw [← hy] at hiy
          have hu58 : ∀ j, A.getD j 0 < 1000000000000000000 := fun j => getD_below (fun x hx => by have := hkb x hx; omega) (by omega)
          obtain ⟨q, hq⟩ : ∃ q, q = i + k := ⟨_, rfl⟩
          have hqi : (i : Int) + (k : Int) = (q : Int) := by omega
          have hwq : IntKind.i64.wrap (q : Int) = (q : Int) := by rw [IntKind.wrap_i64]; omega
          have bq0 : (0 : Int) ≤ (q : Int) := by omega
          replace hA := Lib.hid hA
          replace hy := Lib.hid hy
          replace hiy := Lib.hid hiy
          replace hkb := Lib.hid hkb
          go_upto_region 6 with (fail)
          refine wp_region_lit ?_
          refine wpList_reads (by kernel_rfl) (.int .i64 (k : Int)) (by go_simp) ?_
          simp only [Act.put, List.setIfInBounds_toArray, List.set_cons_zero, List.set_cons_succ]
          refine wpList_yields (by kernel_rfl) _ _ (hiy.out _ _ _ _ rfl rfl rfl _) ?_
          simp only [Act.put, List.setIfInBounds_toArray, List.set_cons_zero, List.set_cons_succ]
          refine wpList_reads (by kernel_rfl) (.int .i64 (k : Int)) (by go_simp) ?_
          simp only [Act.put, List.setIfInBounds_toArray, List.set_cons_zero, List.set_cons_succ]
          refine wpList_reads (by kernel_rfl) (.int .u64 (y : Int)) (by go_simp) ?_
          simp only [Act.put, List.setIfInBounds_toArray, List.set_cons_zero, List.set_cons_succ]
          by_cases hq5 : q < 5
          · have hdq : decide ((q : Int) < 5) = true := by rw [decide_eq_true_iff]; omega
            have bq5 : ¬ (5 : Int) ≤ (q : Int) := by omega
            obtain ⟨u, hu⟩ : ∃ u, u = A.getD q 0 := ⟨_, rfl⟩
            have hub := hu58 q
            rw [← hu] at hub
            have cu := num_cell xk q (by omega)
            rw [← hu] at cu
            have hpb := prod_below hx26 hy26
            obtain ⟨p, hp⟩ : ∃ p, p = x * y := ⟨_, rfl⟩
            rw [← hp] at hpb
            have hpi : (x : Int) * (y : Int) = (p : Int) := by rw [hp]; simp
            have hwp : IntKind.u64.wrap (p : Int) = (p : Int) := by rw [IntKind.wrap_u64]; omega
            obtain ⟨z, hz⟩ : ∃ z, z = u + p := ⟨_, rfl⟩
            have hzi : (u : Int) + (p : Int) = (z : Int) := by omega
            have hwz : IntKind.u64.wrap (z : Int) = (z : Int) := by rw [IntKind.wrap_u64]; omega
            obtain ⟨w2, s2, m2, x2⟩ := num_put xk q z (by omega)
            have hnx : A.set q z = mulRow (mulTo l m i) l m i (k + 1) := by
              rw [mulRow, ← hA.out]
              unfold mulStep
              rw [if_pos (by omega), ← hx.out, ← hy.out, ← hq, ← hu, ← hp, ← hz]
            rw [hnx] at x2
            have mk2 := mk.trans m2
            replace x2 := Lib.hid x2
            replace mk2 := Lib.hid mk2
            replace hu := Lib.hid hu
            replace hp := Lib.hid hp
            replace hz := Lib.hid hz
            replace hq := Lib.hid hq
            clear hnx m2 mk xk hu58
            go_upto_region 7 with (fail)
            refine wp_region_lit ?_
            refine wpList_reads (by kernel_rfl) (.int .i64 (i : Int)) (by go_simp) ?_
            simp only [Act.put, List.setIfInBounds_toArray, List.set_cons_zero, List.set_cons_succ]
            refine wpList_reads (by kernel_rfl) (.int .i64 (k : Int)) (by go_simp) ?_
            simp only [Act.put, List.setIfInBounds_toArray, List.set_cons_zero, List.set_cons_succ]
            refine wpList_reads (by kernel_rfl) (.int .i64 (q : Int)) (by go_simp) ?_
            simp only [Act.put, List.setIfInBounds_toArray, List.set_cons_zero, List.set_cons_succ]
            refine wpList_reads (by kernel_rfl) (.bool true) (by go_simp) ?_
            simp only [Act.put, List.setIfInBounds_toArray, List.set_cons_zero, List.set_cons_succ]
            go_upto_region 8 with (fail)
            refine wp_region_lit ?_
            refine wpList_reads (by kernel_rfl) (.int .i64 (i : Int)) (by go_simp) ?_
            simp only [Act.put, List.setIfInBounds_toArray, List.set_cons_zero, List.set_cons_succ]
            refine wpList_reads (by kernel_rfl) (.int .i64 (k : Int)) (by go_simp) ?_
            simp only [Act.put, List.setIfInBounds_toArray, List.set_cons_zero, List.set_cons_succ]
            refine wpList_reads (by kernel_rfl) (.int .i64 (q : Int)) (by go_simp) ?_
            simp only [Act.put, List.setIfInBounds_toArray, List.set_cons_zero, List.set_cons_succ]
            refine wpList_reads (by kernel_rfl) (.pointer (some ⟨R, q, none⟩)) (by go_simp) ?_
            simp only [Act.put, List.setIfInBounds_toArray, List.set_cons_zero, List.set_cons_succ]
            refine wpList_reads (by kernel_rfl) (.int .u64 (u : Int)) (by go_simp) ?_
            simp only [Act.put, List.setIfInBounds_toArray, List.set_cons_zero, List.set_cons_succ]
            refine wpList_reads (by kernel_rfl) (.int .u64 (x : Int)) (by go_simp) ?_
            simp only [Act.put, List.setIfInBounds_toArray, List.set_cons_zero, List.set_cons_succ]
            refine wpList_reads (by kernel_rfl) (.int .u64 (y : Int)) (by go_simp) ?_
            simp only [Act.put, List.setIfInBounds_toArray, List.set_cons_zero, List.set_cons_succ]
            refine wpList_reads (by kernel_rfl) (.int .u64 (p : Int)) (by go_simp) ?_
            simp only [Act.put, List.setIfInBounds_toArray, List.set_cons_zero, List.set_cons_succ]
            refine wpList_reads (by kernel_rfl) (.int .u64 (z : Int)) (by go_simp) ?_
            simp only [Act.put, List.setIfInBounds_toArray, List.set_cons_zero, List.set_cons_succ]
            refine wpList_reads (by kernel_rfl) (.pointer (some ⟨R, q, none⟩)) (by go_simp) ?_
            simp only [Act.put, List.setIfInBounds_toArray, List.set_cons_zero, List.set_cons_succ]
            refine wpList_store_to rfl _ _ _ rfl _ _ _ rfl rfl _ s2 ?_
            simp only [Act.put, List.setIfInBounds_toArray, List.set_cons_zero, List.set_cons_succ]
            clear s2 cu
            go_wp2
            go_roundw
            case measure => simp [intOf]; omega
            case rel => exact ⟨k + 1, by omega, by go_num, mk2.out, x2.out⟩
          · have hdq : decide ((q : Int) < 5) = false := by rw [decide_eq_false_iff_not]; omega
            obtain ⟨r, hr⟩ : ∃ r, r = q - 5 := ⟨_, rfl⟩
            have hri : (q : Int) - 5 = (r : Int) := by omega
            have hwr : IntKind.i64.wrap (r : Int) = (r : Int) := by rw [IntKind.wrap_i64]; omega
            have br0 : (0 : Int) ≤ (r : Int) := by omega
            have br5 : ¬ (5 : Int) ≤ (r : Int) := by omega
            have hr5 : r < 5 := by omega
            obtain ⟨u, hu⟩ : ∃ u, u = A.getD r 0 := ⟨_, rfl⟩
            have hub := hu58 r
            rw [← hu] at hub
            have cu := num_cell xk r (by omega)
            rw [← hu] at cu
            have hpb := prod5_below hx26 hy26
            obtain ⟨f, hf⟩ : ∃ f, f = 5 * x := ⟨_, rfl⟩
            have hfi : 5 * (x : Int) = (f : Int) := by omega
            have hwf : IntKind.u64.wrap (f : Int) = (f : Int) := by rw [IntKind.wrap_u64]; omega
            rw [← hf] at hpb
            obtain ⟨p, hp⟩ : ∃ p, p = f * y := ⟨_, rfl⟩
            rw [← hp] at hpb
            have hpi : (f : Int) * (y : Int) = (p : Int) := by rw [hp]; simp
            have hwp : IntKind.u64.wrap (p : Int) = (p : Int) := by rw [IntKind.wrap_u64]; omega
            obtain ⟨z, hz⟩ : ∃ z, z = u + p := ⟨_, rfl⟩
            have hzi : (u : Int) + (p : Int) = (z : Int) := by omega
            have hwz : IntKind.u64.wrap (z : Int) = (z : Int) := by rw [IntKind.wrap_u64]; omega
            obtain ⟨w2, s2, m2, x2⟩ := num_put xk r z (by omega)
            have hnx : A.set r z = mulRow (mulTo l m i) l m i (k + 1) := by
              rw [mulRow, ← hA.out]
              unfold mulStep
              rw [if_neg (by omega), ← hx.out, ← hy.out, ← hq, ← hr, ← hu, ← hf, ← hp, ← hz]
            rw [hnx] at x2
            have mk2 := mk.trans m2
            replace x2 := Lib.hid x2
            replace mk2 := Lib.hid mk2
            replace hu := Lib.hid hu
            replace hf := Lib.hid hf
            replace hp := Lib.hid hp
            replace hz := Lib.hid hz
            replace hq := Lib.hid hq
            replace hr := Lib.hid hr
            clear hnx m2 mk xk hu58
            go_upto_region 7 with (fail)
            refine wp_region_lit ?_
            refine wpList_reads (by kernel_rfl) (.int .i64 (i : Int)) (by go_simp) ?_
            simp only [Act.put, List.setIfInBounds_toArray, List.set_cons_zero, List.set_cons_succ]
            refine wpList_reads (by kernel_rfl) (.int .i64 (k : Int)) (by go_simp) ?_
            simp only [Act.put, List.setIfInBounds_toArray, List.set_cons_zero, List.set_cons_succ]
            refine wpList_reads (by kernel_rfl) (.int .i64 (q : Int)) (by go_simp) ?_
            simp only [Act.put, List.setIfInBounds_toArray, List.set_cons_zero, List.set_cons_succ]
            refine wpList_reads (by kernel_rfl) (.bool false) (by go_simp) ?_
            simp only [Act.put, List.setIfInBounds_toArray, List.set_cons_zero, List.set_cons_succ]
            go_upto_region 9 with (fail)
            refine wp_region_lit ?_
            refine wpList_reads (by kernel_rfl) (.int .i64 (i : Int)) (by go_simp) ?_
            simp only [Act.put, List.setIfInBounds_toArray, List.set_cons_zero, List.set_cons_succ]
            refine wpList_reads (by kernel_rfl) (.int .i64 (k : Int)) (by go_simp) ?_
            simp only [Act.put, List.setIfInBounds_toArray, List.set_cons_zero, List.set_cons_succ]
            refine wpList_reads (by kernel_rfl) (.int .i64 (q : Int)) (by go_simp) ?_
            simp only [Act.put, List.setIfInBounds_toArray, List.set_cons_zero, List.set_cons_succ]
            refine wpList_reads (by kernel_rfl) (.int .i64 (r : Int)) (by go_simp) ?_
            simp only [Act.put, List.setIfInBounds_toArray, List.set_cons_zero, List.set_cons_succ]
            refine wpList_reads (by kernel_rfl) (.pointer (some ⟨R, r, none⟩)) (by go_simp) ?_
            simp only [Act.put, List.setIfInBounds_toArray, List.set_cons_zero, List.set_cons_succ]
            refine wpList_reads (by kernel_rfl) (.int .u64 (u : Int)) (by go_simp) ?_
            simp only [Act.put, List.setIfInBounds_toArray, List.set_cons_zero, List.set_cons_succ]
            refine wpList_reads (by kernel_rfl) (.int .u64 (x : Int)) (by go_simp) ?_
            simp only [Act.put, List.setIfInBounds_toArray, List.set_cons_zero, List.set_cons_succ]
            refine wpList_reads (by kernel_rfl) (.int .u64 (f : Int)) (by go_simp) ?_
            simp only [Act.put, List.setIfInBounds_toArray, List.set_cons_zero, List.set_cons_succ]
            refine wpList_reads (by kernel_rfl) (.int .u64 (y : Int)) (by go_simp) ?_
            simp only [Act.put, List.setIfInBounds_toArray, List.set_cons_zero, List.set_cons_succ]
            refine wpList_reads (by kernel_rfl) (.int .u64 (p : Int)) (by go_simp) ?_
            simp only [Act.put, List.setIfInBounds_toArray, List.set_cons_zero, List.set_cons_succ]
            refine wpList_reads (by kernel_rfl) (.int .u64 (z : Int)) (by go_simp) ?_
            simp only [Act.put, List.setIfInBounds_toArray, List.set_cons_zero, List.set_cons_succ]
            refine wpList_reads (by kernel_rfl) (.pointer (some ⟨R, r, none⟩)) (by go_simp) ?_
            simp only [Act.put, List.setIfInBounds_toArray, List.set_cons_zero, List.set_cons_succ]
            refine wpList_store_to rfl _ _ _ rfl _ _ _ rfl rfl _ s2 ?_
            simp only [Act.put, List.setIfInBounds_toArray, List.set_cons_zero, List.set_cons_succ]
            clear s2 cu
            go_wp2
            go_roundw
            case measure => simp [intOf]; omega
            case rel => exact ⟨k + 1, by omega, by go_num, mk2.out, x2.out⟩
        · have hk : k = 5 := by omega
          subst hk
          have hdk : decide (((5 : Nat) : Int) < 5) = false := by decide
          have hnx : mulRow (mulTo l m i) l m i 5 = mulTo l m (i + 1) := rfl
          rw [hnx] at xk
          replace xk := Lib.hid xk
          replace mk := Lib.hid mk
          clear hnx hklt
          go_wp2
          go_roundw
          case measure => simp [intOf]; omega
          case rel => exact ⟨i + 1, by omega, by go_num, mk.out, xk.out⟩
    · have hi : i = 5 := by omega
      subst hi
      have hd5 : decide (((5 : Nat) : Int) < 5) = false := by decide
      have hal := mulTo_length l m 5
      have hab : ∀ x ∈ mulTo l m 5, x < 1152921504606846976 := fun x hx => by have := mulTo_below hl.out hm.out 5 x hx; omega
      have hpz : carN (mulTo l m 5) = Z := by rw [hZ.out]; rfl
      obtain ⟨A, hA⟩ : ∃ m', m' = mulTo l m 5 := ⟨_, rfl⟩
      rw [← hA] at xi hal hab hpz
      have lm := num_load xi hal
      obtain ⟨wc, hwc⟩ : ∃ wc : World, wc = wr := ⟨_, rfl⟩
      rw [← hwc] at xi lm mi ⊢
      have mi0 := hend.out _ (mi.mono (fun _ _ h => by omega))
      replace hA := Lib.hid hA
      replace xi := Lib.hid xi
      replace mi := Lib.hid mi
      replace hwc := Lib.hid hwc
      replace hab := Lib.hid hab
      replace hpz := Lib.hid hpz
      replace mi0 := Lib.hid mi0
      clear hilt
      go_upto_region 12 with (fail)
      refine wp_region_lit ?_
      refine wpList_reads (by kernel_rfl) (numA A) (run_load_op rfl rfl lm) ?_
      simp only [Act.put, List.setIfInBounds_toArray, List.set_cons_zero, List.set_cons_succ]
      clear lm
      refine wpList_enter (by kernel_rfl) 123 #[numA A] (by go_simp) (carried_any A hal hab.out wc) ?_
      rintro e w1 ⟨m1, rfl⟩
      rw [hpz.out]
      have xR1 := xi.out.mod m1 (fun h => h)
      obtain ⟨wz, sz, mz, xz⟩ := num_store xR1 hal hzl
      have mf : Mod (fun _ => False) w wz := (mi0.out.trans m1).trans' mz (fun k hk h => by omega)
      replace xz := Lib.hid xz
      replace mf := Lib.hid mf
      clear m1 xR1 mz
      refine ⟨_, rfl, ?_⟩
      simp only [Act.put, List.setIfInBounds_toArray, List.set_cons_zero, List.set_cons_succ]
      refine wpList_store_to rfl _ _ _ rfl _ _ _ rfl rfl _ sz ?_
      simp only [Act.put, List.setIfInBounds_toArray, List.set_cons_zero, List.set_cons_succ]
      clear sz
      go_wp2
      exact bodyPost_ret (v := numA Z) (results_num rfl _ _ _ _ rfl xz.out hzl) rfl ⟨mf.out, rfl⟩
end Go.Proofs.YtbiijcljpgannaaGreatDoor
