/-
  poly.number.least, bytes. Printed by gen/po4.py.
-/
import Derived.Test.YtbiijcljpgannaaGreatDoorY3
namespace Go.Proofs.YtbiijcljpgannaaGreatDoor
set_option maxRecDepth 100000
open Go Go.RowKit Go.Lib
set_option linter.unusedSimpArgs false
set_option linter.unusedVariables false

def leastStep (m : List Nat) (i : Nat) : List Nat :=
  let m1 := m.set (i + 1) (m.getD (i + 1) 0 + m.getD i 0 / 67108864)
  m1.set i (m1.getD i 0 % 67108864)
def leastTo (l : List Nat) : Nat → List Nat
  | 0 => l.set 0 (l.getD 0 0 + 5)
  | i + 1 => leastStep (leastTo l i) i
def leastN (l : List Nat) : List Nat :=
  let m := leastTo l 4
  if 67108863 < m.getD 4 0 then m.set 4 (m.getD 4 0 % 67108864) else l
theorem leastStep_length (m : List Nat) (i : Nat) : (leastStep m i).length = m.length := by unfold leastStep; simp
theorem leastTo_length (l : List Nat) (i : Nat) : (leastTo l i).length = l.length := by
  induction i with
  | zero => simp [leastTo]
  | succ i ih => unfold leastTo; rw [leastStep_length, ih]
theorem leastN_length (l : List Nat) : (leastN l).length = l.length := by
  unfold leastN
  simp only
  split
  · rw [List.length_set, leastTo_length]
  · rfl
theorem leastTo_inv (l : List Nat) (hl : okN l) : ∀ i, i ≤ 4 → (∀ j, i < j → (leastTo l i).getD j 0 = l.getD j 0) ∧ ∀ x ∈ leastTo l i, x < 67108864 + 10 := by
  intro i
  induction i with
  | zero =>
    intro _
    have h0 : l.getD 0 0 < 67108864 := getD_below hl (by omega)
    refine ⟨fun j hj => ?_, set_below (fun x hx => by have := hl x hx; omega) (by omega)⟩
    unfold leastTo
    rw [List.getD_eq_getElem?_getD, List.getElem?_set_ne (by omega), ← List.getD_eq_getElem?_getD]
  | succ i ih =>
    intro hi
    obtain ⟨h1, h2⟩ := ih (by omega)
    have e := h1 (i + 1) (by omega)
    have hi1 : l.getD (i + 1) 0 < 67108864 := getD_below hl (by omega)
    have hmi : (leastTo l i).getD i 0 < 67108864 + 10 := getD_below h2 (by omega)
    rw [leastTo]
    generalize leastTo l i = m at h1 h2 e hmi
    unfold leastStep
    simp only
    refine ⟨fun j hj => ?_, set_below (set_below h2 (by omega)) (by omega)⟩
    rw [List.getD_eq_getElem?_getD, List.getElem?_set_ne (by omega), List.getElem?_set_ne (by omega), ← List.getD_eq_getElem?_getD]
    exact h1 j (by omega)
theorem leastN_ok {l : List Nat} (hl5 : l.length = 5) (hl : okN l) : okN (leastN l) := by
  obtain ⟨h1, h2⟩ := leastTo_inv l hl 4 (by omega)
  unfold leastN
  simp only
  split
  · have hs : ∀ i, i ≤ 4 → ∀ j, j < i → (leastTo l i).getD j 0 < 67108864 := by
      intro i
      induction i with
      | zero => intro _ j hj; omega
      | succ i ih =>
        intro hi j hj
        have ih := ih (by omega)
        rw [leastTo]
        generalize leastTo l i = m at ih
        unfold leastStep
        simp only
        by_cases hji : j = i
        · subst hji
          rw [List.getD_eq_getElem?_getD, List.getElem?_set]
          rw [if_pos rfl]
          split
          · show _ % _ < _; omega
          · show (0 : Nat) < _; omega
        · rw [List.getD_eq_getElem?_getD, List.getElem?_set_ne (by omega), List.getElem?_set_ne (by omega), ← List.getD_eq_getElem?_getD]
          exact ih j (by omega)
    intro x hx
    rcases List.mem_iff_getElem.1 hx with ⟨j, hj, rfl⟩
    rw [List.getElem_set]
    split
    · omega
    · by_cases hj4 : j < 4
      · have := hs 4 (by omega) j hj4
        rwa [List.getD_eq_getElem?_getD, List.getElem?_eq_getElem (by simpa using hj)] at this
      · have : j < 5 := by rw [List.length_set, leastTo_length, hl5] at hj; exact hj
        omega
  · exact hl
def numByte (l : List Nat) (i : Nat) : BitVec 8 :=
  let x := l.getD (8 * i / 26) 0 / 2 ^ (8 * i % 26)
  BitVec.ofNat 8 (if 8 * i / 26 + 1 < 5 then x ||| l.getD (8 * i / 26 + 1) 0 * 2 ^ (26 - 8 * i % 26) else x)
def bytesTo (l : List Nat) (i : Nat) : List (BitVec 8) := (List.range 16).map fun j => if j < i then numByte l j else 0
def bytesN (l : List Nat) : List (BitVec 8) := bytesTo l 16
theorem bytesTo_length (l : List Nat) (i : Nat) : (bytesTo l i).length = 16 := by simp [bytesTo]
theorem bytesTo_succ (l : List Nat) (i : Nat) (hi : i < 16) : (bytesTo l i).set i (numByte l i) = bytesTo l (i + 1) := by
  apply List.ext_getElem
  · simp [bytesTo]
  · intro j h1 h2
    have hj : j < 16 := by simpa [bytesTo] using h2
    rw [List.getElem_set]
    by_cases hij : i = j
    · subst hij; simp [bytesTo]
    · rw [if_neg hij]
      simp only [bytesTo, List.getElem_map, List.getElem_range]
      by_cases h : j < i
      · rw [if_pos h, if_pos (by omega)]
      · rw [if_neg h, if_neg (by omega)]
def BytesAt16 (w : World) (g : Nat) (s : List (BitVec 8)) : Prop := w.heap[g]? = some (.cells (encB s) 61 (0,0))
theorem info16P : (Tryz.prog.info? 61).map (·.size) = some 16 := by kernel_rfl
theorem load16P {w : World} {g : Nat} {s : List (BitVec 8)} (x : BytesAt16 w g s) (hl : s.length = 16) : (loadVar 61 ⟨g, 0, none⟩).run Tryz.prog w = .ok (.agg (encB s)) w :=
  load_mid w g 0 61 _ [] (bytesV s) [] (0,0) _ (by rw [x]; simp [encB, bytesV]) rfl Tryz.underlying61 rfl (by rw [bytesV_length, hl]; exact info16P)
theorem store16P {w : World} {g : Nat} {s s' : List (BitVec 8)} (x : BytesAt16 w g s) (hl : s.length = 16) (hl' : s'.length = 16) : ∃ w', (storeVar 61 ⟨g, 0, none⟩ (.agg (encB s'))).run Tryz.prog w = .ok () w' ∧ Mod (fun k => k = g) w w' ∧ BytesAt16 w' g s' := by
  obtain ⟨w', h1, h2, h3⟩ := store_mid (P := Tryz.prog) w g 0 61 61 [] (bytesV s) [] (bytesV s') (by rw [x]; simp [encB, bytesV]) rfl (by rw [bytesV_length, bytesV_length, hl, hl']) (by rw [bytesV_length, hl']; exact info16P) (by intro v hv; obtain ⟨b, _, rfl⟩ := List.mem_map.1 hv; rfl)
  exact ⟨w', by simpa [encB, bytesV] using h1, h2, by unfold BytesAt16; rw [h3]; simp [encB, bytesV]⟩
theorem zero16P (w : World) : (zeroValue 61).run Tryz.prog w = .ok (.agg (encB (List.replicate 16 0))) w := by kernel_rfl
theorem alloc16P (w : World) (ev : Operand → Value) (o : Oper) (ho : o.op = .alloc 61) : (execOp ev o).run Tryz.prog w = .ok (.value (.pointer (some ⟨w.heap.size, 0, none⟩))) (w.alloc (.cells (encB (List.replicate 16 0)) 61)) := by
  unfold execOp
  simp [ho, Instr.alloc, Sem.run_bind, zero16P, newVar, newRow, Value.cells]
  rfl
theorem store_u8P {w : World} {a : Addr} {x : Value} {n : Int} (hc : w.cell? a = some x) (hf : w.frozen? a = false) : (storeVar 5 a (.int .u8 n)).run Tryz.prog w = .ok () (w.setCell a (.int .u8 n)) := by go_simp
theorem put16P {w : World} {g : Nat} {s : List (BitVec 8)} (x : BytesAt16 w g s) (i : Nat) (y : BitVec 8) (hi : i < s.length) : ∃ w', (storeVar 5 ⟨g, i, none⟩ (.int .u8 (y.toNat : Int))).run Tryz.prog w = .ok () w' ∧ Mod (fun k => k = g) w w' ∧ BytesAt16 w' g (s.set i y) := by
  refine ⟨_, store_u8P (by rw [cell_of_row _ _ _ _ _ _ x]; exact encB_get hi) (frozen_of_row _ _ _ _ _ x), Mod.one_setCell _ _ _ _, ?_⟩
  unfold BytesAt16
  rw [setCell_row _ _ _ _ _ _ x, setRow_heap _ _ _ _ _ _ x]
  simp [encB, List.map_set]
theorem results16P {fn : Func} {p : Tmp} (h : fn.results = #[.cell p 61]) (tmps : Array Value) (w : World) (g : Nat) (s : List (BitVec 8)) (hp : tmps.getD p undef = .pointer (some ⟨g, 0, none⟩)) (x : BytesAt16 w g s) (hl : s.length = 16) :
    (results fn tmps).run Tryz.prog w = .ok (.agg (encB s)) w := by
  have hp' : tmps[p]?.getD undef = .pointer (some ⟨g, 0, none⟩) := by simpa using hp
  simp [results, h, Sem.run_bind, hp', asAddr, load16P x hl]

set_option maxRecDepth 100000 in
set_option maxHeartbeats 4000000 in
theorem least_any (l : List Nat) (hll : l.length = 5) (hl : okN l) (w : World) : Calls Tryz.prog 110 #[numA l] w fun e w' => Mod (fun _ => False) w w' ∧ e = .returned (numA (leastN l)) := by
  obtain ⟨wa, hwa⟩ : ∃ x, x = w.alloc (.cells (nums .u64 l).toArray 162) := ⟨_, rfl⟩
  obtain ⟨G, hG⟩ : ∃ g, g = w.heap.size := ⟨_, rfl⟩
  have ma : Mod (fun _ => False) w wa := by rw [hwa]; exact (Mod.refl _ _).alloc _
  have xa : NumAt wa G l := by rw [hwa]; exact hp_new _ _ _ hG
  obtain ⟨wb, hwb⟩ : ∃ x, x = wa.alloc (.cells (nums .u64 [0, 0, 0, 0, 0]).toArray 162) := ⟨_, rfl⟩
  obtain ⟨R, hR⟩ : ∃ g, g = wa.heap.size := ⟨_, rfl⟩
  have mb : Mod (fun _ => False) wa wb := by rw [hwb]; exact (Mod.refl _ _).alloc _
  have xb : NumAt wb R [0, 0, 0, 0, 0] := by rw [hwb]; exact hp_new _ _ _ hR
  obtain ⟨wc, hwc⟩ : ∃ x, x = wb.alloc (.cells (nums .u64 [0, 0, 0, 0, 0]).toArray 162) := ⟨_, rfl⟩
  obtain ⟨M, hM⟩ : ∃ g, g = wb.heap.size := ⟨_, rfl⟩
  have mc : Mod (fun _ => False) wb wc := by rw [hwc]; exact (Mod.refl _ _).alloc _
  have xc : NumAt wc M [0, 0, 0, 0, 0] := by rw [hwc]; exact hp_new _ _ _ hM
  obtain ⟨wd, sd, md, xd⟩ := num_store xc rfl hll
  have hGR : G < R := by rw [hR]; exact lt_of_heap xa
  have hRM : R < M := by rw [hM]; exact lt_of_heap xb
  have hwG : w.heap.size ≤ G := by omega
  have xab := xa.mod mb (fun h => h)
  have xG := (xab.mod mc (fun h => h)).mod md (by omega)
  have xR := (xb.mod mc (fun h => h)).mod md (by omega)
  have m0 : Mod (fun _ => False) w wd := ((ma.trans mb).trans mc).trans' md (fun k hk h => by omega)
  obtain ⟨x0, hx0⟩ : ∃ x, x = l.getD 0 0 := ⟨_, rfl⟩
  have hx0b : x0 < 67108864 := by rw [hx0]; exact getD_below hl (by omega)
  have c0 := num_cell xd 0 (by omega)
  rw [← hx0] at c0
  obtain ⟨y0, hy0⟩ : ∃ y, y = x0 + 5 := ⟨_, rfl⟩
  have hyi : (x0 : Int) + 5 = (y0 : Int) := by omega
  have hwy : IntKind.u64.wrap (y0 : Int) = (y0 : Int) := by rw [IntKind.wrap_u64]; omega
  obtain ⟨we, se, me, xe⟩ := num_put xd 0 y0 (by omega)
  rw [show l.set 0 y0 = leastTo l 0 by rw [leastTo, ← hx0, hy0]] at xe
  have m1 : Mod (fun k => k = M) wd we := me
  have xG1 := xG.mod me (by omega)
  have xR1 := xR.mod me (by omega)
  have m01 : Mod (fun _ => False) w we := m0.trans' me (fun k hk h => by omega)
  have lxab := num_load xab hll
  obtain ⟨Z, hZ⟩ : ∃ Z, Z = leastN l := ⟨_, rfl⟩
  have hzl : Z.length = 5 := by rw [hZ, leastN_length, hll]
  have hinv := fun i hi => leastTo_inv l hl i hi
  rw [← hZ]
  replace hwa := Lib.hid hwa
  replace hG := Lib.hid hG
  replace hwb := Lib.hid hwb
  replace hR := Lib.hid hR
  replace hwc := Lib.hid hwc
  replace hM := Lib.hid hM
  replace xG1 := Lib.hid xG1
  replace xR1 := Lib.hid xR1
  replace m01 := Lib.hid m01
  replace xe := Lib.hid xe
  replace hx0 := Lib.hid hx0
  replace hy0 := Lib.hid hy0
  replace hZ := Lib.hid hZ
  replace lxab := Lib.hid lxab
  replace hinv := Lib.hid hinv
  replace hll := Lib.hid hll
  replace hl := Lib.hid hl
  clear ma xa mb xb mc xc md xab xG xR m0 me m1 xd
  go_enter Tryz.func110, Tryz.ntmps110
  go_upto_region 0 with (fail)
  refine wp_region_lit ?_
  refine wpList_yields (by kernel_rfl) _ _ (box_num _ _ _ rfl rfl) ?_
  simp only [Act.put, List.setIfInBounds_toArray, List.set_cons_zero, List.set_cons_succ]
  rw [← hG.out, ← hwa.out]
  refine wpList_yields (by kernel_rfl) _ _ (alloc_num _ _ _ rfl) ?_
  simp only [Act.put, List.setIfInBounds_toArray, List.set_cons_zero, List.set_cons_succ]
  rw [← hR.out, ← hwb.out]
  go_upto_region 1 with (fail)
  refine wp_region_lit ?_
  refine wpList_reads (by kernel_rfl) (numA l) (run_load_op rfl rfl lxab.out) ?_
  simp only [Act.put, List.setIfInBounds_toArray, List.set_cons_zero, List.set_cons_succ]
  refine wpList_yields (by kernel_rfl) _ _ (alloc_num _ _ _ rfl) ?_
  simp only [Act.put, List.setIfInBounds_toArray, List.set_cons_zero, List.set_cons_succ]
  rw [← hM.out, ← hwc.out]
  refine wpList_store_to rfl _ _ _ rfl _ _ _ rfl rfl _ sd ?_
  simp only [Act.put, List.setIfInBounds_toArray, List.set_cons_zero, List.set_cons_succ]
  clear sd
  go_upto_region 2 with (fail)
  refine wp_region_lit ?_
  refine wpList_reads (by kernel_rfl) (.pointer (some ⟨M, 0, none⟩)) (by go_simp) ?_
  simp only [Act.put, List.setIfInBounds_toArray, List.set_cons_zero, List.set_cons_succ]
  refine wpList_reads (by kernel_rfl) (.int .u64 (x0 : Int)) (by go_simp) ?_
  simp only [Act.put, List.setIfInBounds_toArray, List.set_cons_zero, List.set_cons_succ]
  refine wpList_reads (by kernel_rfl) (.int .u64 (y0 : Int)) (by go_simp) ?_
  simp only [Act.put, List.setIfInBounds_toArray, List.set_cons_zero, List.set_cons_succ]
  refine wpList_reads (by kernel_rfl) (.pointer (some ⟨M, 0, none⟩)) (by go_simp) ?_
  simp only [Act.put, List.setIfInBounds_toArray, List.set_cons_zero, List.set_cons_succ]
  refine wpList_store_to rfl _ _ _ rfl _ _ _ rfl rfl _ se ?_
  simp only [Act.put, List.setIfInBounds_toArray, List.set_cons_zero, List.set_cons_succ]
  clear se c0
  obtain ⟨wf, hwf⟩ : ∃ x : World, x = we := ⟨_, rfl⟩
  rw [← hwf] at xe m01 xG1 xR1 ⊢
  replace hwf := Lib.hid hwf
  go_wp2
  go_loopw [11] (fun iv wr => ∃ i : Nat, i ≤ 4 ∧ iv = .int .i64 (i : Int) ∧ Mod (fun k => k = M) wf wr ∧ NumAt wr M (leastTo l i)) (fun iv _ => 4 - (intOf iv).toNat)
  case atStart => exact ⟨0, by omega, rfl, Mod.refl _ _, xe.out⟩
  case round =>
    obtain ⟨i, hi4, rfl, mi, xi⟩ := hrel
    have bi0 : (0 : Int) ≤ (i : Int) := by omega
    by_cases hilt : i < 4
    · have hd4 : decide ((i : Int) < 4) = true := by rw [decide_eq_true_iff]; omega
      have bi5 : ¬ (5 : Int) ≤ (i : Int) := by omega
      obtain ⟨hj, hb⟩ := hinv.out i hi4
      have hal : (leastTo l i).length = 5 := by rw [leastTo_length, hll.out]
      obtain ⟨A, hA⟩ : ∃ m', m' = leastTo l i := ⟨_, rfl⟩
      rw [← hA] at xi hb hal hj
      obtain ⟨r, hr⟩ : ∃ r, r = i + 1 := ⟨_, rfl⟩
      have hri : (i : Int) + 1 = (r : Int) := by omega
      have hwr : IntKind.i64.wrap (r : Int) = (r : Int) := by rw [IntKind.wrap_i64]; omega
      have br0 : (0 : Int) ≤ (r : Int) := by omega
      have br5 : ¬ (5 : Int) ≤ (r : Int) := by omega
      obtain ⟨x, hx⟩ : ∃ x, x = A.getD i 0 := ⟨_, rfl⟩
      have hxb : x < 67108874 := by rw [hx]; exact getD_below hb (by omega)
      have cx := num_cell xi i (by omega)
      rw [← hx] at cx
      obtain ⟨y, hy⟩ : ∃ x, x = A.getD r 0 := ⟨_, rfl⟩
      have hyb : y < 67108874 := by rw [hy]; exact getD_below hb (by omega)
      have cy := num_cell xi r (by omega)
      rw [← hy] at cy
      obtain ⟨q, hq⟩ : ∃ q, q = x / 67108864 := ⟨_, rfl⟩
      have hqi : (x : Int) / 67108864 = (q : Int) := by omega
      have bq0 : (0 : Int) ≤ (q : Int) := by omega
      obtain ⟨z, hz⟩ : ∃ z, z = y + q := ⟨_, rfl⟩
      have hzi : (y : Int) + (q : Int) = (z : Int) := by omega
      have hwz : IntKind.u64.wrap (z : Int) = (z : Int) := by rw [IntKind.wrap_u64]; omega
      have hri2 : r ≠ i := by omega
      have hr5 : r < 5 := by omega
      replace hA := Lib.hid hA
      replace hx := Lib.hid hx
      replace hy := Lib.hid hy
      replace hq := Lib.hid hq
      replace hz := Lib.hid hz
      replace hr := Lib.hid hr
      replace hb := Lib.hid hb
      replace hj := Lib.hid hj
      replace xi := Lib.hid xi
      replace mi := Lib.hid mi
      go_upto_region 5 with (fail)
      refine wp_region_lit ?_
      refine wpList_reads (by kernel_rfl) (.int .i64 (i : Int)) (by go_simp) ?_
      simp only [Act.put, List.setIfInBounds_toArray, List.set_cons_zero, List.set_cons_succ]
      refine wpList_reads (by kernel_rfl) (.int .i64 (i : Int)) (by go_simp) ?_
      simp only [Act.put, List.setIfInBounds_toArray, List.set_cons_zero, List.set_cons_succ]
      go_upto_region 6 with (fail)
      refine region_qtail 10 (by kernel_rfl) (by kernel_rfl) ?_
      simp only [List.take_succ_cons, List.take_zero, List.drop_succ_cons, List.drop_zero]
      repeat (go_big_quiet_step (fail))
      refine wpQuiet_nil ?_
      rintro _ ⟨nq, rfl⟩
      obtain ⟨w8, hw8⟩ : ∃ w8, w8 = wr.drewN nq := ⟨_, rfl⟩
      have mq : Mod (fun _ => False) wr w8 := by rw [hw8]; exact (Mod.refl _ _).drewN nq
      rw [← hw8]
      have x8 := xi.out.mod mq (fun h => h)
      have m8 := mi.out.trans (mq.mono (S' := fun k => k = M) (fun _ _ h => h.elim))
      obtain ⟨w1, s1, m1, x1⟩ := num_put x8 r z (by omega)
      obtain ⟨A1, hA1⟩ : ∃ A1, A1 = A.set r z := ⟨_, rfl⟩
      have hA1l : A1.length = 5 := by rw [hA1, List.length_set, hal]
      rw [← hA1] at x1
      have hx1 : A1.getD i 0 = x := by rw [hA1, List.getD_eq_getElem?_getD, List.getElem?_set_ne hri2, ← List.getD_eq_getElem?_getD, hx.out]
      have cx1 := num_cell x1 i (by omega)
      rw [hx1] at cx1
      obtain ⟨u, hu⟩ : ∃ u, u = x % 67108864 := ⟨_, rfl⟩
      have hand := mask26 x (by omega)
      rw [← hu] at hand
      obtain ⟨w2, s2, m2, x2⟩ := num_put x1 i u (by omega)
      have hnx : A1.set i u = leastTo l (i + 1) := by
        rw [leastTo, ← hA.out]
        unfold leastStep
        simp only
        rw [← hr.out, ← hx.out, ← hy.out, ← hq.out, ← hz.out, ← hA1, hx1, ← hu]
      rw [hnx] at x2
      have mi2 := (m8.trans m1).trans m2
      replace hw8 := Lib.hid hw8
      replace hA1 := Lib.hid hA1
      replace hx1 := Lib.hid hx1
      replace hu := Lib.hid hu
      replace x2 := Lib.hid x2
      replace mi2 := Lib.hid mi2
      clear mq x8 m8 m1 m2 x1 hnx cx cy
      refine wpList_store_to rfl _ _ _ rfl _ _ (.int .u64 (z : Int)) rfl rfl _ s1 ?_
      clear s1
      go_upto_region 7 with (fail)
      refine wp_region_lit ?_
      refine wpList_reads (by kernel_rfl) (.int .i64 (i : Int)) (by go_simp) ?_
      simp only [Act.put, List.setIfInBounds_toArray, List.set_cons_zero, List.set_cons_succ]
      refine wpList_reads (by kernel_rfl) (.pointer (some ⟨M, i, none⟩)) (by go_simp) ?_
      simp only [Act.put, List.setIfInBounds_toArray, List.set_cons_zero, List.set_cons_succ]
      refine wpList_reads (by kernel_rfl) (.int .u64 (x : Int)) (by go_simp) ?_
      simp only [Act.put, List.setIfInBounds_toArray, List.set_cons_zero, List.set_cons_succ]
      refine wpList_reads (by kernel_rfl) (.int .u64 (u : Int)) (by go_simp) ?_
      simp only [Act.put, List.setIfInBounds_toArray, List.set_cons_zero, List.set_cons_succ]
      refine wpList_reads (by kernel_rfl) (.pointer (some ⟨M, i, none⟩)) (by go_simp) ?_
      simp only [Act.put, List.setIfInBounds_toArray, List.set_cons_zero, List.set_cons_succ]
      refine wpList_store_to rfl _ _ _ rfl _ _ _ rfl rfl _ s2 ?_
      simp only [Act.put, List.setIfInBounds_toArray, List.set_cons_zero, List.set_cons_succ]
      clear s2 cx1
      go_wp2
      go_roundw
      case measure => simp [intOf]; omega
      case rel => exact ⟨i + 1, by omega, by go_num, mi2.out, x2.out⟩
    · have hi : i = 4 := by omega
      subst hi
      have hd4 : decide (((4 : Nat) : Int) < 4) = false := by decide
      have hal : (leastTo l 4).length = 5 := by rw [leastTo_length, hll.out]
      have hbb := (hinv.out 4 (by omega)).2
      have hZd := hZ.out
      unfold leastN at hZd
      simp only at hZd
      obtain ⟨A, hA⟩ : ∃ m', m' = leastTo l 4 := ⟨_, rfl⟩
      rw [← hA] at xi hal hbb hZd
      obtain ⟨x, hx⟩ : ∃ x, x = A.getD 4 0 := ⟨_, rfl⟩
      have hxb : x < 67108874 := by rw [hx]; exact getD_below hbb (by omega)
      rw [← hx] at hZd
      have cx := num_cell xi 4 (by omega)
      rw [← hx] at cx
      have xRr := xR1.out.mod mi (by omega)
      have xGr := xG1.out.mod mi (by omega)
      have m0r : Mod (fun _ => False) w wr := m01.out.trans' mi (fun k hk h => by omega)
      replace hA := Lib.hid hA
      replace hx := Lib.hid hx
      replace xRr := Lib.hid xRr
      replace xGr := Lib.hid xGr
      replace m0r := Lib.hid m0r
      replace mi := Lib.hid mi
      replace hZd := Lib.hid hZd
      replace hbb := Lib.hid hbb
      clear hilt
      by_cases hov : 67108863 < x
      · have hdx : decide ((67108863 : Int) < (x : Int)) = true := by rw [decide_eq_true_iff]; omega
        have hand := mask26 x (by omega)
        obtain ⟨u, hu⟩ : ∃ u, u = x % 67108864 := ⟨_, rfl⟩
        rw [← hu] at hand
        obtain ⟨w2, s2, m2, x2⟩ := num_put xi 4 u (by omega)
        have hZA : Z = A.set 4 u := by rw [hZd.out, if_pos hov, hu]
        rw [← hZA] at x2
        have l2 := num_load x2 hzl
        have xR2 := xRr.out.mod m2 (by omega)
        obtain ⟨wz, sz, mz, xz⟩ := num_store xR2 rfl hzl
        have mf : Mod (fun _ => False) w wz := (m0r.out.trans' m2 (fun k hk h => by omega)).trans' mz (fun k hk h => by omega)
        replace hu := Lib.hid hu
        replace xz := Lib.hid xz
        replace mf := Lib.hid mf
        replace hZA := Lib.hid hZA
        clear m2 x2 xR2 mz xi
        go_upto_region 9 with (fail)
        refine wp_region_lit ?_
        refine wpList_reads (by kernel_rfl) (.int .i64 4) (by go_simp) ?_
        simp only [Act.put, List.setIfInBounds_toArray, List.set_cons_zero, List.set_cons_succ]
        go_upto_region 10 with (fail)
        refine wp_region_lit ?_
        refine wpList_reads (by kernel_rfl) (.int .i64 4) (by go_simp) ?_
        simp only [Act.put, List.setIfInBounds_toArray, List.set_cons_zero, List.set_cons_succ]
        refine wpList_reads (by kernel_rfl) (.pointer (some ⟨M, 4, none⟩)) (by go_simp) ?_
        simp only [Act.put, List.setIfInBounds_toArray, List.set_cons_zero, List.set_cons_succ]
        refine wpList_reads (by kernel_rfl) (.int .u64 (x : Int)) (by go_simp) ?_
        simp only [Act.put, List.setIfInBounds_toArray, List.set_cons_zero, List.set_cons_succ]
        refine wpList_reads (by kernel_rfl) (.bool true) (by go_simp) ?_
        simp only [Act.put, List.setIfInBounds_toArray, List.set_cons_zero, List.set_cons_succ]
        go_upto_region 11 with (fail)
        refine wp_region_lit ?_
        refine wpList_reads (by kernel_rfl) (.int .i64 4) (by go_simp) ?_
        simp only [Act.put, List.setIfInBounds_toArray, List.set_cons_zero, List.set_cons_succ]
        refine wpList_reads (by kernel_rfl) (.pointer (some ⟨M, 4, none⟩)) (by go_simp) ?_
        simp only [Act.put, List.setIfInBounds_toArray, List.set_cons_zero, List.set_cons_succ]
        refine wpList_reads (by kernel_rfl) (.int .u64 (x : Int)) (by go_simp) ?_
        simp only [Act.put, List.setIfInBounds_toArray, List.set_cons_zero, List.set_cons_succ]
        refine wpList_reads (by kernel_rfl) (.int .u64 (u : Int)) (by go_simp) ?_
        simp only [Act.put, List.setIfInBounds_toArray, List.set_cons_zero, List.set_cons_succ]
        refine wpList_reads (by kernel_rfl) (.pointer (some ⟨M, 4, none⟩)) (by go_simp) ?_
        simp only [Act.put, List.setIfInBounds_toArray, List.set_cons_zero, List.set_cons_succ]
        refine wpList_store_to rfl _ _ _ rfl _ _ _ rfl rfl _ s2 ?_
        simp only [Act.put, List.setIfInBounds_toArray, List.set_cons_zero, List.set_cons_succ]
        clear s2 cx
        go_upto_region 12 with (fail)
        refine wp_region_lit ?_
        refine wpList_reads (by kernel_rfl) (numA Z) (run_load_op rfl rfl l2) ?_
        simp only [Act.put, List.setIfInBounds_toArray, List.set_cons_zero, List.set_cons_succ]
        refine wpList_store_to rfl _ _ _ rfl _ _ _ rfl rfl _ sz ?_
        simp only [Act.put, List.setIfInBounds_toArray, List.set_cons_zero, List.set_cons_succ]
        clear sz l2
        go_wp2
        exact bodyPost_ret (v := numA Z) (results_num rfl _ _ _ _ rfl xz.out hzl) rfl ⟨mf.out, rfl⟩
      · have hdx : decide ((67108863 : Int) < (x : Int)) = false := by rw [decide_eq_false_iff_not]; omega
        have hZA : Z = l := by rw [hZd.out, if_neg hov]
        have xG2 := xGr.out
        rw [← hZA] at xG2
        have l2 := num_load xG2 hzl
        obtain ⟨wz, sz, mz, xz⟩ := num_store xRr.out rfl hzl
        have mf : Mod (fun _ => False) w wz := m0r.out.trans' mz (fun k hk h => by omega)
        replace xz := Lib.hid xz
        replace mf := Lib.hid mf
        replace hZA := Lib.hid hZA
        clear mz xi xG2
        go_upto_region 9 with (fail)
        refine wp_region_lit ?_
        refine wpList_reads (by kernel_rfl) (.int .i64 4) (by go_simp) ?_
        simp only [Act.put, List.setIfInBounds_toArray, List.set_cons_zero, List.set_cons_succ]
        go_upto_region 10 with (fail)
        refine wp_region_lit ?_
        refine wpList_reads (by kernel_rfl) (.int .i64 4) (by go_simp) ?_
        simp only [Act.put, List.setIfInBounds_toArray, List.set_cons_zero, List.set_cons_succ]
        refine wpList_reads (by kernel_rfl) (.pointer (some ⟨M, 4, none⟩)) (by go_simp) ?_
        simp only [Act.put, List.setIfInBounds_toArray, List.set_cons_zero, List.set_cons_succ]
        refine wpList_reads (by kernel_rfl) (.int .u64 (x : Int)) (by go_simp) ?_
        simp only [Act.put, List.setIfInBounds_toArray, List.set_cons_zero, List.set_cons_succ]
        refine wpList_reads (by kernel_rfl) (.bool false) (by go_simp) ?_
        simp only [Act.put, List.setIfInBounds_toArray, List.set_cons_zero, List.set_cons_succ]
        clear cx
        go_upto_region 13 with (fail)
        refine wp_region_lit ?_
        refine wpList_reads (by kernel_rfl) (numA Z) (run_load_op rfl rfl l2) ?_
        simp only [Act.put, List.setIfInBounds_toArray, List.set_cons_zero, List.set_cons_succ]
        refine wpList_store_to rfl _ _ _ rfl _ _ _ rfl rfl _ sz ?_
        simp only [Act.put, List.setIfInBounds_toArray, List.set_cons_zero, List.set_cons_succ]
        clear sz l2
        go_wp2
        exact bodyPost_ret (v := numA Z) (results_num rfl _ _ _ _ rfl xz.out hzl) rfl ⟨mf.out, rfl⟩

set_option maxRecDepth 100000 in
set_option maxHeartbeats 4000000 in
theorem bytes_any (l : List Nat) (hll : l.length = 5) (hl : okN l) (w : World) : Calls Tryz.prog 111 #[numA l] w fun e w' => Mod (fun _ => False) w w' ∧ e = .returned (.agg (encB (bytesN l))) := by
  obtain ⟨wa, hwa⟩ : ∃ x, x = w.alloc (.cells (nums .u64 l).toArray 162) := ⟨_, rfl⟩
  obtain ⟨G, hG⟩ : ∃ g, g = w.heap.size := ⟨_, rfl⟩
  have ma : Mod (fun _ => False) w wa := by rw [hwa]; exact (Mod.refl _ _).alloc _
  have xa : NumAt wa G l := by rw [hwa]; exact hp_new _ _ _ hG
  obtain ⟨wb, hwb⟩ : ∃ x, x = wa.alloc (.cells (encB (List.replicate 16 0)) 61) := ⟨_, rfl⟩
  obtain ⟨R, hR⟩ : ∃ g, g = wa.heap.size := ⟨_, rfl⟩
  have mb : Mod (fun _ => False) wa wb := by rw [hwb]; exact (Mod.refl _ _).alloc _
  have xb : BytesAt16 wb R (bytesTo l 0) := by rw [hwb]; exact hp_new _ _ _ hR
  have hGR : G < R := by rw [hR]; exact lt_of_heap xa
  have hwG : w.heap.size ≤ G := by omega
  have xG := xa.mod mb (fun h => h)
  have m0 := ma.trans mb
  obtain ⟨Z, hZ⟩ : ∃ Z, Z = bytesN l := ⟨_, rfl⟩
  have hzl : Z.length = 16 := by rw [hZ]; exact bytesTo_length l 16
  rw [← hZ]
  replace hwa := Lib.hid hwa
  replace hG := Lib.hid hG
  replace hwb := Lib.hid hwb
  replace hR := Lib.hid hR
  replace xG := Lib.hid xG
  replace xb := Lib.hid xb
  replace m0 := Lib.hid m0
  replace hZ := Lib.hid hZ
  replace hll := Lib.hid hll
  replace hl := Lib.hid hl
  clear ma xa mb
  go_enter Tryz.func111, Tryz.ntmps111
  go_upto_region 0 with (fail)
  refine wp_region_lit ?_
  refine wpList_yields (by kernel_rfl) _ _ (box_num _ _ _ rfl rfl) ?_
  simp only [Act.put, List.setIfInBounds_toArray, List.set_cons_zero, List.set_cons_succ]
  rw [← hG.out, ← hwa.out]
  refine wpList_yields (by kernel_rfl) _ _ (alloc16P _ _ _ rfl) ?_
  simp only [Act.put, List.setIfInBounds_toArray, List.set_cons_zero, List.set_cons_succ]
  rw [← hR.out, ← hwb.out]
  go_wp2
  go_loopw [6] (fun iv wr => ∃ i : Nat, i ≤ 16 ∧ iv = .int .i64 (i : Int) ∧ Mod (fun k => k = R) wb wr ∧ BytesAt16 wr R (bytesTo l i)) (fun iv _ => 16 - (intOf iv).toNat)
  case atStart => exact ⟨0, by omega, rfl, Mod.refl _ _, xb.out⟩
  case round =>
    obtain ⟨i, hi16, rfl, mi, xi⟩ := hrel
    have bi0 : (0 : Int) ≤ (i : Int) := by omega
    by_cases hilt : i < 16
    · have hd16 : decide ((i : Int) < 16) = true := by rw [decide_eq_true_iff]; omega
      have bi16 : ¬ (16 : Int) ≤ (i : Int) := by omega
      obtain ⟨a, ha⟩ : ∃ a, a = 8 * i := ⟨_, rfl⟩
      obtain ⟨s, hs⟩ : ∃ s, s = a % 26 := ⟨_, rfl⟩
      obtain ⟨q, hq⟩ : ∃ q, q = a / 26 := ⟨_, rfl⟩
      have hai : 8 * (i : Int) = (a : Int) := by omega
      have hwa1 : IntKind.i64.wrap (a : Int) = (a : Int) := by rw [IntKind.wrap_i64]; omega
      have ba0 : (0 : Int) ≤ (a : Int) := by omega
      have bs0 : (0 : Int) ≤ (s : Int) := by omega
      have bs26 : (s : Int) < 26 := by omega
      have hrem : Int.tmod (a : Int) 26 = (s : Int) := by rw [hs]; rfl
      have hrem2 : (a : Int) % 26 = (s : Int) := by omega
      have hquo : Int.tdiv (a : Int) 26 = (q : Int) := by rw [Int.tdiv_eq_ediv_of_nonneg (by omega)]; omega
      have hquo2 : (a : Int) / 26 = (q : Int) := by omega
      have hwq : IntKind.i64.wrap (q : Int) = (q : Int) := by rw [IntKind.wrap_i64]; omega
      have bq0 : (0 : Int) ≤ (q : Int) := by omega
      have hq5 : q < 5 := by omega
      have bq5 : ¬ (5 : Int) ≤ (q : Int) := by omega
      obtain ⟨r, hr⟩ : ∃ r, r = q + 1 := ⟨_, rfl⟩
      have hri : (q : Int) + 1 = (r : Int) := by omega
      have hwr : IntKind.i64.wrap (r : Int) = (r : Int) := by rw [IntKind.wrap_i64]; omega
      have br0 : (0 : Int) ≤ (r : Int) := by omega
      have xGr := xG.out.mod mi (by omega)
      obtain ⟨x, hx⟩ : ∃ x, x = l.getD q 0 := ⟨_, rfl⟩
      have hxb : x < 67108864 := by rw [hx]; exact getD_below hl.out (by omega)
      have cx := num_cell xGr q (by rw [hll.out]; omega)
      rw [← hx] at cx
      obtain ⟨X, hX⟩ : ∃ X, X = x / 2 ^ s := ⟨_, rfl⟩
      have hXi : (x : Int) / 2 ^ s = (X : Int) := by rw [hX]; simp
      have hXb : X < 67108864 := by rw [hX]; exact Nat.lt_of_le_of_lt (Nat.div_le_self _ _) hxb
      have hpl : (bytesTo l i).length = 16 := bytesTo_length l i
      have hnum : numByte l i = BitVec.ofNat 8 (if r < 5 then X ||| l.getD r 0 * 2 ^ (26 - s) else X) := by
        unfold numByte
        simp only
        rw [← ha, ← hs, ← hq, ← hr, ← hx, ← hX]
      have hsuc := bytesTo_succ l i hilt
      obtain ⟨A, hA⟩ : ∃ m', m' = bytesTo l i := ⟨_, rfl⟩
      rw [← hA] at xi hpl hsuc
      replace ha := Lib.hid ha
      replace hs := Lib.hid hs
      replace hq := Lib.hid hq
      replace hr := Lib.hid hr
      replace hx := Lib.hid hx
      replace hX := Lib.hid hX
      replace hnum := Lib.hid hnum
      replace hsuc := Lib.hid hsuc
      replace hA := Lib.hid hA
      replace mi := Lib.hid mi
      replace xi := Lib.hid xi
      replace xGr := Lib.hid xGr
      go_upto_region 3 with (fail)
      refine wp_region_lit ?_
      refine wpList_reads (by kernel_rfl) (.int .i64 (i : Int)) (by go_simp) ?_
      simp only [Act.put, List.setIfInBounds_toArray, List.set_cons_zero, List.set_cons_succ]
      refine wpList_reads (by kernel_rfl) (.int .i64 (i : Int)) (by go_simp) ?_
      simp only [Act.put, List.setIfInBounds_toArray, List.set_cons_zero, List.set_cons_succ]
      go_upto_region 4 with (fail)
      refine wp_region_lit ?_
      refine wpList_reads (by kernel_rfl) (.int .i64 (i : Int)) (by go_simp) ?_
      simp only [Act.put, List.setIfInBounds_toArray, List.set_cons_zero, List.set_cons_succ]
      refine wpList_reads (by kernel_rfl) (.int .i64 (a : Int)) (by go_simp) ?_
      simp only [Act.put, List.setIfInBounds_toArray, List.set_cons_zero, List.set_cons_succ]
      refine wpList_reads (by kernel_rfl) (.int .i64 (a : Int)) (by go_simp) ?_
      simp only [Act.put, List.setIfInBounds_toArray, List.set_cons_zero, List.set_cons_succ]
      go_upto_region 5 with (fail)
      refine wp_region_lit ?_
      refine wpList_reads (by kernel_rfl) (.int .i64 (a : Int)) (by go_simp) ?_
      simp only [Act.put, List.setIfInBounds_toArray, List.set_cons_zero, List.set_cons_succ]
      refine wpList_reads (by kernel_rfl) (.int .i64 (q : Int)) (by go_simp) ?_
      simp only [Act.put, List.setIfInBounds_toArray, List.set_cons_zero, List.set_cons_succ]
      refine wpList_reads (by kernel_rfl) (.pointer (some ⟨G, q, none⟩)) (by go_simp) ?_
      simp only [Act.put, List.setIfInBounds_toArray, List.set_cons_zero, List.set_cons_succ]
      refine wpList_reads (by kernel_rfl) (.int .u64 (x : Int)) (by go_simp) ?_
      simp only [Act.put, List.setIfInBounds_toArray, List.set_cons_zero, List.set_cons_succ]
      refine wpList_reads (by kernel_rfl) (.int .i64 (a : Int)) (by go_simp) ?_
      simp only [Act.put, List.setIfInBounds_toArray, List.set_cons_zero, List.set_cons_succ]
      refine wpList_reads (by kernel_rfl) (.int .i64 (s : Int)) (by go_simp) ?_
      simp only [Act.put, List.setIfInBounds_toArray, List.set_cons_zero, List.set_cons_succ]
      refine wpList_reads (by kernel_rfl) (.int .u64 (X : Int)) (by go_simp) ?_
      simp only [Act.put, List.setIfInBounds_toArray, List.set_cons_zero, List.set_cons_succ]
      refine wpList_reads (by kernel_rfl) (.int .u64 (X : Int)) (by go_simp) ?_
      simp only [Act.put, List.setIfInBounds_toArray, List.set_cons_zero, List.set_cons_succ]
      by_cases hr5 : r < 5
      · have hdr : decide ((r : Int) < 5) = true := by rw [decide_eq_true_iff]; omega
        have br5 : ¬ (5 : Int) ≤ (r : Int) := by omega
        obtain ⟨u, hu⟩ : ∃ x, x = l.getD r 0 := ⟨_, rfl⟩
        have hub : u < 67108864 := by rw [hu]; exact getD_below hl.out (by omega)
        have cu := num_cell xGr.out r (by rw [hll.out]; omega)
        rw [← hu] at cu
        obtain ⟨t, ht⟩ : ∃ t, t = 26 - s := ⟨_, rfl⟩
        have hti : 26 - (s : Int) = (t : Int) := by omega
        have hwt : IntKind.i64.wrap (t : Int) = (t : Int) := by rw [IntKind.wrap_i64]; omega
        have bt0 : (0 : Int) ≤ (t : Int) := by omega
        have bt26 : (t : Int) ≤ 26 := by omega
        obtain ⟨U, hU⟩ : ∃ U, U = u * 2 ^ t := ⟨_, rfl⟩
        have hUi : (u : Int) * 2 ^ t = (U : Int) := by rw [hU]; simp
        have hUb : U < 4503599627370496 := by
          have hp : 2 ^ t ≤ 2 ^ 26 := Nat.pow_le_pow_right (by omega) (by omega)
          calc U = u * 2 ^ t := hU
            _ ≤ 67108863 * 2 ^ 26 := Nat.mul_le_mul (by omega) hp
            _ < _ := by decide
        have hUw : IntKind.u64.wrap (U : Int) = (U : Int) := by rw [IntKind.wrap_u64]; omega
        have hor : bits .or .u64 (X : Int) (U : Int) = ((X ||| U : Nat) : Int) := u64_or_nat X U (by omega) (by omega)
        obtain ⟨Y, hYd⟩ : ∃ Y, X ||| U = Y := ⟨_, rfl⟩
        rw [hYd] at hor
        rw [hU, ht, hu] at hYd
        have bY0 : (0 : Int) ≤ (Y : Int) := by omega
        replace hu := Lib.hid hu
        replace ht := Lib.hid ht
        replace hU := Lib.hid hU
        go_upto_region 6 with (fail)
        refine wp_region_lit ?_
        refine wpList_reads (by kernel_rfl) (.int .i64 (a : Int)) (by go_simp) ?_
        simp only [Act.put, List.setIfInBounds_toArray, List.set_cons_zero, List.set_cons_succ]
        refine wpList_reads (by kernel_rfl) (.int .i64 (q : Int)) (by go_simp) ?_
        simp only [Act.put, List.setIfInBounds_toArray, List.set_cons_zero, List.set_cons_succ]
        refine wpList_reads (by kernel_rfl) (.int .i64 (r : Int)) (by go_simp) ?_
        simp only [Act.put, List.setIfInBounds_toArray, List.set_cons_zero, List.set_cons_succ]
        refine wpList_reads (by kernel_rfl) (.bool true) (by go_simp) ?_
        simp only [Act.put, List.setIfInBounds_toArray, List.set_cons_zero, List.set_cons_succ]
        go_upto_region 7 with (fail)
        refine wp_region_lit ?_
        refine wpList_reads (by kernel_rfl) (.int .u64 (X : Int)) (by go_simp) ?_
        simp only [Act.put, List.setIfInBounds_toArray, List.set_cons_zero, List.set_cons_succ]
        refine wpList_reads (by kernel_rfl) (.int .i64 (a : Int)) (by go_simp) ?_
        simp only [Act.put, List.setIfInBounds_toArray, List.set_cons_zero, List.set_cons_succ]
        refine wpList_reads (by kernel_rfl) (.int .i64 (q : Int)) (by go_simp) ?_
        simp only [Act.put, List.setIfInBounds_toArray, List.set_cons_zero, List.set_cons_succ]
        refine wpList_reads (by kernel_rfl) (.int .i64 (r : Int)) (by go_simp) ?_
        simp only [Act.put, List.setIfInBounds_toArray, List.set_cons_zero, List.set_cons_succ]
        refine wpList_reads (by kernel_rfl) (.pointer (some ⟨G, r, none⟩)) (by go_simp) ?_
        simp only [Act.put, List.setIfInBounds_toArray, List.set_cons_zero, List.set_cons_succ]
        refine wpList_reads (by kernel_rfl) (.int .u64 (u : Int)) (by go_simp) ?_
        simp only [Act.put, List.setIfInBounds_toArray, List.set_cons_zero, List.set_cons_succ]
        refine wpList_reads (by kernel_rfl) (.int .i64 (a : Int)) (by go_simp) ?_
        simp only [Act.put, List.setIfInBounds_toArray, List.set_cons_zero, List.set_cons_succ]
        refine wpList_reads (by kernel_rfl) (.int .i64 (s : Int)) (by go_simp) ?_
        simp only [Act.put, List.setIfInBounds_toArray, List.set_cons_zero, List.set_cons_succ]
        refine wpList_reads (by kernel_rfl) (.int .i64 (t : Int)) (by go_simp) ?_
        simp only [Act.put, List.setIfInBounds_toArray, List.set_cons_zero, List.set_cons_succ]
        refine wpList_reads (by kernel_rfl) (.int .u64 (U : Int)) (by go_simp) ?_
        simp only [Act.put, List.setIfInBounds_toArray, List.set_cons_zero, List.set_cons_succ]
        refine wpList_reads (by kernel_rfl) (.int .u64 (Y : Int)) (by go_simp) ?_
        simp only [Act.put, List.setIfInBounds_toArray, List.set_cons_zero, List.set_cons_succ]
        refine wpList_reads (by kernel_rfl) (.int .u64 (Y : Int)) (by go_simp) ?_
        simp only [Act.put, List.setIfInBounds_toArray, List.set_cons_zero, List.set_cons_succ]
        clear cu
        obtain ⟨y, hy⟩ : ∃ y, y = BitVec.ofNat 8 Y := ⟨_, rfl⟩
        have hyi : IntKind.u8.wrap (Y : Int) = (y.toNat : Int) := by rw [hy, BitVec.toNat_ofNat, IntKind.wrap_u8]; omega
        have hny : numByte l i = y := by rw [hnum.out, if_pos hr5, hy, hYd]
        obtain ⟨w2, s2, m2, x2⟩ := put16P xi.out i y (by rw [hpl]; exact hilt)
        rw [← hny, hsuc.out] at x2
        have mi2 := mi.out.trans m2
        replace hy := Lib.hid hy
        replace hny := Lib.hid hny
        replace x2 := Lib.hid x2
        replace mi2 := Lib.hid mi2
        clear m2 hr5 hYd
        go_upto_region 8 with (fail)
        refine wp_region_lit ?_
        refine wpList_reads (by kernel_rfl) (.int .i64 (i : Int)) (by go_simp) ?_
        simp only [Act.put, List.setIfInBounds_toArray, List.set_cons_zero, List.set_cons_succ]
        refine wpList_reads (by kernel_rfl) (.int .u64 (Y : Int)) (by go_simp) ?_
        simp only [Act.put, List.setIfInBounds_toArray, List.set_cons_zero, List.set_cons_succ]
        refine wpList_reads (by kernel_rfl) (.int .u8 (y.toNat : Int)) (by go_simp) ?_
        simp only [Act.put, List.setIfInBounds_toArray, List.set_cons_zero, List.set_cons_succ]
        refine wpList_reads (by kernel_rfl) (.pointer (some ⟨R, i, none⟩)) (by go_simp) ?_
        simp only [Act.put, List.setIfInBounds_toArray, List.set_cons_zero, List.set_cons_succ]
        refine wpList_store_to rfl _ _ _ rfl _ _ _ rfl rfl _ s2 ?_
        simp only [Act.put, List.setIfInBounds_toArray, List.set_cons_zero, List.set_cons_succ]
        clear s2 cx
        go_wp2
        go_roundw
        case measure => simp [intOf]; omega
        case rel => exact ⟨i + 1, by omega, by go_num, mi2.out, x2.out⟩
      · have hdr : decide ((r : Int) < 5) = false := by rw [decide_eq_false_iff_not]; omega
        have bX0 : (0 : Int) ≤ (X : Int) := by omega
        go_upto_region 6 with (fail)
        refine wp_region_lit ?_
        refine wpList_reads (by kernel_rfl) (.int .i64 (a : Int)) (by go_simp) ?_
        simp only [Act.put, List.setIfInBounds_toArray, List.set_cons_zero, List.set_cons_succ]
        refine wpList_reads (by kernel_rfl) (.int .i64 (q : Int)) (by go_simp) ?_
        simp only [Act.put, List.setIfInBounds_toArray, List.set_cons_zero, List.set_cons_succ]
        refine wpList_reads (by kernel_rfl) (.int .i64 (r : Int)) (by go_simp) ?_
        simp only [Act.put, List.setIfInBounds_toArray, List.set_cons_zero, List.set_cons_succ]
        refine wpList_reads (by kernel_rfl) (.bool false) (by go_simp) ?_
        simp only [Act.put, List.setIfInBounds_toArray, List.set_cons_zero, List.set_cons_succ]
        obtain ⟨y, hy⟩ : ∃ y, y = BitVec.ofNat 8 X := ⟨_, rfl⟩
        have hyi : IntKind.u8.wrap (X : Int) = (y.toNat : Int) := by rw [hy, BitVec.toNat_ofNat, IntKind.wrap_u8]; omega
        have hny : numByte l i = y := by rw [hnum.out, if_neg hr5, hy]
        obtain ⟨w2, s2, m2, x2⟩ := put16P xi.out i y (by rw [hpl]; exact hilt)
        rw [← hny, hsuc.out] at x2
        have mi2 := mi.out.trans m2
        replace hy := Lib.hid hy
        replace hny := Lib.hid hny
        replace x2 := Lib.hid x2
        replace mi2 := Lib.hid mi2
        clear m2 hr5
        go_upto_region 8 with (fail)
        refine wp_region_lit ?_
        refine wpList_reads (by kernel_rfl) (.int .i64 (i : Int)) (by go_simp) ?_
        simp only [Act.put, List.setIfInBounds_toArray, List.set_cons_zero, List.set_cons_succ]
        refine wpList_reads (by kernel_rfl) (.int .u64 (X : Int)) (by go_simp) ?_
        simp only [Act.put, List.setIfInBounds_toArray, List.set_cons_zero, List.set_cons_succ]
        refine wpList_reads (by kernel_rfl) (.int .u8 (y.toNat : Int)) (by go_simp) ?_
        simp only [Act.put, List.setIfInBounds_toArray, List.set_cons_zero, List.set_cons_succ]
        refine wpList_reads (by kernel_rfl) (.pointer (some ⟨R, i, none⟩)) (by go_simp) ?_
        simp only [Act.put, List.setIfInBounds_toArray, List.set_cons_zero, List.set_cons_succ]
        refine wpList_store_to rfl _ _ _ rfl _ _ _ rfl rfl _ s2 ?_
        simp only [Act.put, List.setIfInBounds_toArray, List.set_cons_zero, List.set_cons_succ]
        clear s2 cx
        go_wp2
        go_roundw
        case measure => simp [intOf]; omega
        case rel => exact ⟨i + 1, by omega, by go_num, mi2.out, x2.out⟩
    · have hi : i = 16 := by omega
      subst hi
      have hd16 : decide (((16 : Nat) : Int) < 16) = false := by decide
      rw [show bytesTo l 16 = Z from hZ.out.symm] at xi
      have lz := load16P xi hzl
      obtain ⟨wz, sz, mz, xz⟩ := store16P xi hzl hzl
      have mf : Mod (fun _ => False) w wz := (m0.out.trans' mi (fun k hk h => by omega)).trans' mz (fun k hk h => by omega)
      replace xz := Lib.hid xz
      replace mf := Lib.hid mf
      clear mi xi mz hilt
      go_upto_region 10 with (fail)
      refine wp_region_lit ?_
      refine wpList_reads (by kernel_rfl) (.agg (encB Z)) (run_load_op rfl rfl lz) ?_
      simp only [Act.put, List.setIfInBounds_toArray, List.set_cons_zero, List.set_cons_succ]
      refine wpList_store_to rfl _ _ _ rfl _ _ _ rfl rfl _ sz ?_
      simp only [Act.put, List.setIfInBounds_toArray, List.set_cons_zero, List.set_cons_succ]
      clear sz lz
      go_wp2
      exact bodyPost_ret (v := .agg (encB Z)) (results16P rfl _ _ _ _ rfl xz.out hzl) rfl ⟨mf.out, rfl⟩
end Go.Proofs.YtbiijcljpgannaaGreatDoor
