/-
  mailcoachref02.Block: a state, a block further. Printed by gen/ref2.py.
-/
import Derived.BigQuiet
import Derived.Test.YtppjnkgmbmhlcaaGreatDoorR1
namespace Go.Proofs.YtppjnkgmbmhlcaaGreatDoor
set_option maxRecDepth 100000
open Go Go.RowKit Go.Lib
set_option linter.unusedSimpArgs false
set_option linter.unusedVariables false

def wordB (b : List (BitVec 8)) (t : Nat) : BitVec 32 := (b.getD (4 * t) 0).setWidth 32 <<< 24 ||| (b.getD (4 * t + 1) 0).setWidth 32 <<< 16 ||| (b.getD (4 * t + 2) 0).setWidth 32 <<< 8 ||| (b.getD (4 * t + 3) 0).setWidth 32
def shIn (t : Nat) (l : List (BitVec 32)) (a : BitVec 32) : List (BitVec 32) := l.set t (l.getD t 0 <<< 8 ||| a)
theorem shIn_in {t : Nat} {l : List (BitVec 32)} (ht : t < l.length) (x a : BitVec 32) : shIn t (l.set t x) a = l.set t (x <<< 8 ||| a) := by
  unfold shIn
  rw [List.set_set, List.getD_eq_getElem?_getD, List.getElem?_set_self ht, Option.getD_some]
theorem four_sets {l : List (BitVec 32)} {t : Nat} (ht : t < l.length) (h0 : l.getD t 0 = 0) (a b c d : BitVec 32) :
    shIn t (shIn t (shIn t (shIn t l a) b) c) d = l.set t (a <<< 24 ||| b <<< 16 ||| c <<< 8 ||| d) := by
  rw [show shIn t l a = l.set t a by unfold shIn; rw [h0]; simp]
  rw [shIn_in ht, shIn_in ht, shIn_in ht]
  simp [BitVec.shiftLeft_or_distrib, ← BitVec.shiftLeft_add, BitVec.or_assoc]
theorem fillS_four (b : List (BitVec 8)) (t : Nat) (ht : t < 64) (h0 : (fillS b (4 * t)).getD t 0 = 0) : fillS b (4 * (t + 1)) = (fillS b (4 * t)).set t (wordB b t) := by
  have h := four_sets (l := fillS b (4 * t)) (by rw [fillS_length]; exact ht) h0 ((b.getD (4 * t) 0).setWidth 32) ((b.getD (4 * t + 1) 0).setWidth 32) ((b.getD (4 * t + 2) 0).setWidth 32) ((b.getD (4 * t + 3) 0).setWidth 32)
  rw [wordB, ← h]
  have e1 : fillS b (4 * t + 1) = shIn t (fillS b (4 * t)) ((b.getD (4 * t) 0).setWidth 32) := by rw [fillS, show (4 * t) / 4 = t by omega, shIn]
  have e2 : fillS b (4 * t + 2) = shIn t (fillS b (4 * t + 1)) ((b.getD (4 * t + 1) 0).setWidth 32) := by rw [fillS, show (4 * t + 1) / 4 = t by omega, shIn]
  have e3 : fillS b (4 * t + 3) = shIn t (fillS b (4 * t + 2)) ((b.getD (4 * t + 2) 0).setWidth 32) := by rw [fillS, show (4 * t + 2) / 4 = t by omega, shIn]
  have e4 : fillS b (4 * t + 4) = shIn t (fillS b (4 * t + 3)) ((b.getD (4 * t + 3) 0).setWidth 32) := by rw [fillS, show (4 * t + 3) / 4 = t by omega, shIn]
  rw [show 4 * (t + 1) = 4 * t + 4 by omega, e4, e3, e2, e1]
theorem bsh24 (y : BitVec 8) : (y.toNat : Int) * (16777216 : Int) = ((y.setWidth 32 <<< 24 : BitVec 32).toNat : Int) := by
  rw [BitVec.toNat_shiftLeft, BitVec.toNat_setWidth, Nat.shiftLeft_eq]
  have := y.isLt
  omega
theorem bsh16 (y : BitVec 8) : (y.toNat : Int) * (65536 : Int) = ((y.setWidth 32 <<< 16 : BitVec 32).toNat : Int) := by
  rw [BitVec.toNat_shiftLeft, BitVec.toNat_setWidth, Nat.shiftLeft_eq]
  have := y.isLt
  omega
theorem bsh8 (y : BitVec 8) : (y.toNat : Int) * (256 : Int) = ((y.setWidth 32 <<< 8 : BitVec 32).toNat : Int) := by
  rw [BitVec.toNat_shiftLeft, BitVec.toNat_setWidth, Nat.shiftLeft_eq]
  have := y.isLt
  omega
theorem bsh0 (y : BitVec 8) : (y.toNat : Int) = ((y.setWidth 32 : BitVec 32).toNat : Int) := by
  rw [BitVec.toNat_setWidth]
  have := y.isLt
  omega
theorem fillS_part (b : List (BitVec 8)) (t : Nat) (ht : t ≤ 16) : fillS b (4 * t) = partW (wordB b) 64 t := by
  induction t with
  | zero => rw [partW_zero]; rfl
  | succ t ih =>
    rw [fillS_four b t (by omega) (by rw [ih (by omega)]; simp [partW, show t < 64 by omega]), ih (by omega), partW_set]
theorem ch_eq (e f g : BitVec 32) : e &&& f ^^^ ~~~e &&& g = g ^^^ e &&& (f ^^^ g) := by
  apply BitVec.eq_of_getLsbD_eq
  intro i hi
  simp only [BitVec.getLsbD_xor, BitVec.getLsbD_and, BitVec.getLsbD_not, hi, decide_true, Bool.true_and]
  cases e.getLsbD i <;> cases f.getLsbD i <;> cases g.getLsbD i <;> rfl
theorem maj_eq (a b c : BitVec 32) : a &&& b ^^^ a &&& c ^^^ b &&& c = a &&& b ||| c &&& (a ||| b) := by
  apply BitVec.eq_of_getLsbD_eq
  intro i hi
  simp only [BitVec.getLsbD_xor, BitVec.getLsbD_and, BitVec.getLsbD_or]
  cases a.getLsbD i <;> cases b.getLsbD i <;> cases c.getLsbD i <;> rfl
theorem addTo_get (s x : List (BitVec 32)) (i : Nat) (hi : i ≤ s.length) (j : Nat) : (addTo s x i).getD j 0 = if j < i then s.getD j 0 + x.getD j 0 else s.getD j 0 := by
  induction i with
  | zero => rfl
  | succ i ih =>
    have ih := ih (by omega)
    simp only [addTo]
    have hl : i < (addTo s x i).length := by rw [addTo_length]; omega
    by_cases e : j = i
    · subst e
      rw [if_pos (by omega), List.getD_eq_getElem?_getD, List.getElem?_set_self hl, Option.getD_some, ih, if_neg (by omega)]
    · rw [List.getD_eq_getElem?_getD, List.getElem?_set_ne (Ne.symm e), ← List.getD_eq_getElem?_getD, ih]
      by_cases h : j < i
      · rw [if_pos h, if_pos (by omega)]
      · rw [if_neg h, if_neg (by omega)]
theorem addTo_comm (s x : List (BitVec 32)) (hs : s.length = 8) (hx : x.length = 8) : addTo s x 8 = addTo x s 8 := by
  apply List.ext_getElem
  · rw [addTo_length, addTo_length, hs, hx]
  · intro j h1 h2
    rw [addTo_length, hs] at h1
    have a1 := addTo_get s x 8 (by omega) j
    have a2 := addTo_get x s 8 (by omega) j
    rw [if_pos h1] at a1 a2
    rw [List.getD_eq_getElem?_getD, List.getElem?_eq_getElem (by rw [addTo_length]; omega), Option.getD_some] at a1 a2
    rw [a1, a2, BitVec.add_comm]
theorem not32 (a : BitVec 32) : 4294967295 - (a.toNat : Int) = ((~~~a).toNat : Int) := by
  rw [BitVec.toNat_not]
  have := a.isLt
  omega

set_option maxRecDepth 100000 in
set_option maxHeartbeats 4000000 in
theorem refblock_any (st : List (BitVec 32)) (b : List (BitVec 8)) (hst : st.length = 8) (hbl : b.length = 64) (w : World) :
    Calls Tryz.prog 113 #[.agg (encW st).toArray, .agg (encB b)] w fun e w' => Mod (fun _ => False) w w' ∧ e = .returned (.agg (encW (furtherS K0 st b)).toArray) := by
  obtain ⟨H, hH⟩ : ∃ H, H = w.heap.size := ⟨_, rfl⟩
  obtain ⟨wa, hwa⟩ : ∃ x, x = w.alloc (.cells (encW st).toArray 166) := ⟨_, rfl⟩
  obtain ⟨wb, hwb⟩ : ∃ x, x = wa.alloc (.cells (encB b) 60) := ⟨_, rfl⟩
  obtain ⟨w1, hw1⟩ : ∃ x, x = wb.alloc (.cells (encW (zw 8)).toArray 166) := ⟨_, rfl⟩
  obtain ⟨w2, hw2⟩ : ∃ w2, w2 = w1.alloc (.cells (encW (zw 64)).toArray 168) := ⟨_, rfl⟩
  have hsa : wa.heap.size = H + 1 := by rw [hwa, hH]; simp
  have hsb : wb.heap.size = H + 2 := by rw [hwb]; simp [hsa]
  have hs1 : w1.heap.size = H + 3 := by rw [hw1]; simp [hsb]
  have m2 : Mod (fun _ => False) w w2 := by rw [hw2, hw1, hwb, hwa]; exact ((((Mod.refl _ _).alloc _).alloc _).alloc _).alloc _
  have xS : WordsAt w2 H 166 st := by
    rw [hw2]; unfold WordsAt; rw [hp_old _ _ _ (by omega), hw1, hp_old _ _ _ (by omega), hwb, hp_old _ _ _ (by omega), hwa]; exact hp_new _ _ _ hH
  have xB : w2.heap[H + 1]? = some (.cells (encB b) 60 (0,0)) := by
    rw [hw2, hp_old _ _ _ (by omega), hw1, hp_old _ _ _ (by omega), hwb]; exact hp_new _ _ _ hsa.symm
  have xR : WordsAt w2 (H + 2) 166 (zw 8) := by
    rw [hw2]; unfold WordsAt; rw [hp_old _ _ _ (by omega), hw1]; exact hp_new _ _ _ hsb.symm
  have xW : WordsAt w2 (H + 3) 168 (zw 64) := by
    rw [hw2]; exact hp_new _ _ _ hs1.symm
  have hK : K0.length = 64 := rfl
  replace hH := Lib.hid hH
  replace hwa := Lib.hid hwa
  replace hwb := Lib.hid hwb
  replace hw1 := Lib.hid hw1
  replace hw2 := Lib.hid hw2
  replace m2 := Lib.hid m2
  replace xS := Lib.hid xS
  replace xB := Lib.hid xB
  replace xR := Lib.hid xR
  replace xW := Lib.hid xW
  replace hst := Lib.hid hst
  replace hbl := Lib.hid hbl
  replace hsa := Lib.hid hsa
  replace hsb := Lib.hid hsb
  replace hs1 := Lib.hid hs1
  replace hK := Lib.hid hK
  go_enter Tryz.func113, Tryz.ntmps113
  go_upto_region 0 with (fail)
  refine wp_region_lit ?_
  refine wpList_yields (by kernel_rfl) (.pointer (some ⟨H, 0, none⟩)) wa (by rw [hH.out, hwa.out]; go_simp) ?_
  simp only [Act.put, List.setIfInBounds_toArray, List.set_cons_zero, List.set_cons_succ]
  refine wpList_yields (by kernel_rfl) (.pointer (some ⟨H + 1, 0, none⟩)) wb (by rw [← hsa.out, hwb.out]; go_simp) ?_
  simp only [Act.put, List.setIfInBounds_toArray, List.set_cons_zero, List.set_cons_succ]
  refine wpList_yields (by kernel_rfl) _ _ (alloc_arr 166 _ zero8 _ _ _ rfl) ?_
  simp only [Act.put, List.setIfInBounds_toArray, List.set_cons_zero, List.set_cons_succ]
  rw [hsb.out, ← hw1.out]
  go_upto_region 1 with (fail)
  refine wp_region_lit ?_
  refine wpList_yields (by kernel_rfl) _ _ (alloc_arr 168 _ zero64 _ _ _ rfl) ?_
  simp only [Act.put, List.setIfInBounds_toArray, List.set_cons_zero, List.set_cons_succ]
  rw [hs1.out, ← hw2.out]
  go_wp2
  go_loopw [6] (fun iv wr => ∃ i : Nat, i ≤ 16 ∧ iv = .int .i64 (i : Int) ∧ Mod (fun k => k = H + 3) w2 wr ∧ WordsAt wr (H + 3) 168 (partW (wordB b) 64 i)) (fun iv _ => 16 - (intOf iv).toNat)
  case atStart => exact ⟨0, by omega, rfl, Mod.refl _ _, by rw [partW_zero]; exact xW.out⟩
  case round =>
    obtain ⟨i, hi, rfl, mr, xr⟩ := hrel
    have bi0 : (0 : Int) ≤ (i : Int) := by omega
    have bi : (i : Int) ≤ 16 := by omega
    by_cases hlt : i < 16
    · have hd : decide ((i : Int) < 16) = true := by rw [decide_eq_true_iff]; omega
      have bil : (i : Int) < 16 := by omega
      have bi64 : (i : Int) < 64 := by omega
      obtain ⟨j0, hj0⟩ : ∃ j, j = 4 * i := ⟨_, rfl⟩
      obtain ⟨j1, hj1⟩ : ∃ j, j = 4 * i + 1 := ⟨_, rfl⟩
      obtain ⟨j2, hj2⟩ : ∃ j, j = 4 * i + 2 := ⟨_, rfl⟩
      obtain ⟨j3, hj3⟩ : ∃ j, j = 4 * i + 3 := ⟨_, rfl⟩
      have e0 : 4 * (i : Int) = (j0 : Int) := by omega
      have e1 : (j0 : Int) + 1 = (j1 : Int) := by omega
      have e2 : (j0 : Int) + 2 = (j2 : Int) := by omega
      have e3 : (j0 : Int) + 3 = (j3 : Int) := by omega
      have b0 : (j0 : Int) < 64 := by omega
      have b1 : (j1 : Int) < 64 := by omega
      have b2 : (j2 : Int) < 64 := by omega
      have b3 : (j3 : Int) < 64 := by omega
      have n0 : (0 : Int) ≤ (j0 : Int) := by omega
      have n1 : (0 : Int) ≤ (j1 : Int) := by omega
      have n2 : (0 : Int) ≤ (j2 : Int) := by omega
      have n3 : (0 : Int) ≤ (j3 : Int) := by omega
      have w0 : IntKind.i64.wrap (j0 : Int) = (j0 : Int) := by rw [IntKind.wrap_i64]; omega
      have w1' : IntKind.i64.wrap (j1 : Int) = (j1 : Int) := by rw [IntKind.wrap_i64]; omega
      have w2' : IntKind.i64.wrap (j2 : Int) = (j2 : Int) := by rw [IntKind.wrap_i64]; omega
      have w3' : IntKind.i64.wrap (j3 : Int) = (j3 : Int) := by rw [IntKind.wrap_i64]; omega
      have xBr := mr.heap xB.out (by omega)
      have c0 := encB_cell xBr (i := j0) (by rw [hbl.out]; omega)
      have c1 := encB_cell xBr (i := j1) (by rw [hbl.out]; omega)
      have c2 := encB_cell xBr (i := j2) (by rw [hbl.out]; omega)
      have c3 := encB_cell xBr (i := j3) (by rw [hbl.out]; omega)
      have hz0 : wordB b i = (b.getD j0 0).setWidth 32 <<< 24 ||| (b.getD j1 0).setWidth 32 <<< 16 ||| (b.getD j2 0).setWidth 32 <<< 8 ||| (b.getD j3 0).setWidth 32 := by rw [hj0, hj1, hj2, hj3]; rfl
      obtain ⟨y0, hy0⟩ : ∃ y, y = b.getD j0 0 := ⟨_, rfl⟩
      obtain ⟨y1, hy1⟩ : ∃ y, y = b.getD j1 0 := ⟨_, rfl⟩
      obtain ⟨y2, hy2⟩ : ∃ y, y = b.getD j2 0 := ⟨_, rfl⟩
      obtain ⟨y3, hy3⟩ : ∃ y, y = b.getD j3 0 := ⟨_, rfl⟩
      rw [← hy0] at c0 hz0
      rw [← hy1] at c1 hz0
      rw [← hy2] at c2 hz0
      rw [← hy3] at c3 hz0
      have u0 : (y0.toNat : Int) < 256 := by have := y0.isLt; omega
      have u1 : (y1.toNat : Int) < 256 := by have := y1.isLt; omega
      have u2 : (y2.toNat : Int) < 256 := by have := y2.isLt; omega
      have u3 : (y3.toNat : Int) < 256 := by have := y3.isLt; omega
      replace hy0 := Lib.hid hy0
      replace hy1 := Lib.hid hy1
      replace hy2 := Lib.hid hy2
      replace hy3 := Lib.hid hy3
      replace hj0 := Lib.hid hj0
      replace hj1 := Lib.hid hj1
      replace hj2 := Lib.hid hj2
      replace hj3 := Lib.hid hj3
      replace hz0 := Lib.hid hz0
      replace mr := Lib.hid mr
      replace xr := Lib.hid xr
      replace hlt := Lib.hid hlt
      clear hi xBr
      go_upto_region 5 with (fail)
      refine region_qtail 31 (by kernel_rfl) (by kernel_rfl) ?_
      simp only [List.take_succ_cons, List.take_zero, List.drop_succ_cons, List.drop_zero]
      repeat (go_big_quiet_step (fail))
      refine wpQuiet_nil ?_
      rintro _ ⟨nq, rfl⟩
      obtain ⟨w8, hw8⟩ : ∃ w8, w8 = wr.drewN nq := ⟨_, rfl⟩
      have x8 : WordsAt w8 (H + 3) 168 (partW (wordB b) 64 i) := by rw [hw8]; exact xr.out
      have m8 : Mod (fun k => k = H + 3) w2 w8 := by rw [hw8]; exact mr.out.drewN nq
      rw [← hw8]
      obtain ⟨z, hz⟩ : ∃ z, z = wordB b i := ⟨_, rfl⟩
      have hset := x8.set i z _ rfl
      have s9 := word_store x8 (i := i) (by rw [partW_length]; have := hlt.out; omega) (z.toNat : Int)
      rw [show (partW (wordB b) 64 i).set i z = partW (wordB b) 64 (i + 1) by rw [hz, partW_set]] at hset
      obtain ⟨w9, hw9⟩ : ∃ w9, w9 = w8.setCell ⟨H + 3, i, none⟩ (.int .u32 (z.toNat : Int)) := ⟨_, rfl⟩
      rw [← hw9] at hset s9
      have m9 := m8.trans hset.2
      have x9 := hset.1
      replace hw8 := Lib.hid hw8
      replace hw9 := Lib.hid hw9
      replace m9 := Lib.hid m9
      replace x9 := Lib.hid x9
      clear c0 c1 c2 c3 x8 m8 hset
      refine wpList_store_to rfl _ _ _ rfl _ _ (.int .u32 (z.toNat : Int)) rfl ?_ _ s9 ?_
      · refine int_of ?_
        rw [hz, hz0.out]
        rw [bsh24, bsh16, bsh8, bsh0 y3, bits_or32, bits_or32, bits_or32]
      replace hz := Lib.hid hz
      go_wp2
      go_roundw
      case measure => have := hlt.out; simp [intOf]; omega
      case rel => exact ⟨i + 1, by have := hlt.out; omega, by go_num, m9.out, x9.out⟩
    · have hi16 : i = 16 := by omega
      have hd : decide ((i : Int) < 16) = false := by rw [decide_eq_false_iff_not]; omega
      obtain ⟨wA, hwA⟩ : ∃ wA, wA = wr := ⟨_, rfl⟩
      rw [← hwA] at mr xr ⊢
      rw [hi16, ← fillS_part b 16 (by omega)] at xr
      replace hi16 := Lib.hid hi16
      have xA : WordsAt wA (H + 3) 168 (schedS b 0) := xr
      replace mr := Lib.hid mr
      replace xA := Lib.hid xA
      replace hwA := Lib.hid hwA
      clear xr hi hlt
      go_wp2
      go_loopw [7] (fun tv wr => ∃ j T : Nat, j ≤ 48 ∧ T = j + 16 ∧ tv = .int .i64 (T : Int) ∧ Mod (fun k => k = H + 3) wA wr ∧ WordsAt wr (H + 3) 168 (schedS b j)) (fun tv _ => 64 - (intOf tv).toNat)
      case atStart => exact ⟨0, 16, by omega, rfl, rfl, Mod.refl _ _, xA.out⟩
      case round =>
        obtain ⟨j, T, hj, hT, rfl, mj, xj⟩ := hrel
        have bT0 : (0 : Int) ≤ (T : Int) := by omega
        have bT : (T : Int) ≤ 64 := by omega
        by_cases hlt : j < 48
        · have hd : decide ((T : Int) < 64) = true := by rw [decide_eq_true_iff]; omega
          have bTl : (T : Int) < 64 := by omega
          obtain ⟨t2, ht2⟩ : ∃ t2, t2 = T - 2 := ⟨_, rfl⟩
          obtain ⟨t15, ht15⟩ : ∃ t15, t15 = T - 15 := ⟨_, rfl⟩
          obtain ⟨t7, ht7⟩ : ∃ t7, t7 = T - 7 := ⟨_, rfl⟩
          obtain ⟨t16, ht16⟩ : ∃ t16, t16 = T - 16 := ⟨_, rfl⟩
          have e2 : (T : Int) - 2 = (t2 : Int) := by omega
          have e15 : (T : Int) - 15 = (t15 : Int) := by omega
          have e7 : (T : Int) - 7 = (t7 : Int) := by omega
          have e16 : (T : Int) - 16 = (t16 : Int) := by omega
          have b2 : (t2 : Int) < 64 := by omega
          have b15 : (t15 : Int) < 64 := by omega
          have b7 : (t7 : Int) < 64 := by omega
          have b16 : (t16 : Int) < 64 := by omega
          have b20 : (0 : Int) ≤ (t2 : Int) := by omega
          have b150 : (0 : Int) ≤ (t15 : Int) := by omega
          have b70 : (0 : Int) ≤ (t7 : Int) := by omega
          have b160 : (0 : Int) ≤ (t16 : Int) := by omega
          have c2 := xj.cell (i := t2) (by rw [schedS_length]; omega)
          have c15 := xj.cell (i := t15) (by rw [schedS_length]; omega)
          have c7 := xj.cell (i := t7) (by rw [schedS_length]; omega)
          have c16 := xj.cell (i := t16) (by rw [schedS_length]; omega)
          have hnext : schedS b (j + 1) = (schedS b j).set T (nextW (schedS b j) T) := by rw [hT]; rfl
          have hn2 : nextW (schedS b j) T = (schedS b j).getD t7 0 + (schedS b j).getD t16 0 + (rr ((schedS b j).getD t2 0) 17 ^^^ rr ((schedS b j).getD t2 0) 19 ^^^ ((schedS b j).getD t2 0) >>> 10) + (rr ((schedS b j).getD t15 0) 7 ^^^ rr ((schedS b j).getD t15 0) 18 ^^^ ((schedS b j).getD t15 0) >>> 3) := by rw [ht2, ht15, ht7, ht16]; rfl
          rw [hn2] at hnext
          obtain ⟨x, hx⟩ : ∃ x, x = (schedS b j).getD t2 0 := ⟨_, rfl⟩
          obtain ⟨y, hy⟩ : ∃ y, y = (schedS b j).getD t15 0 := ⟨_, rfl⟩
          obtain ⟨p, hp⟩ : ∃ p, p = (schedS b j).getD t7 0 := ⟨_, rfl⟩
          obtain ⟨q, hq⟩ : ∃ q, q = (schedS b j).getD t16 0 := ⟨_, rfl⟩
          rw [← hx, ← hy, ← hp, ← hq] at hnext
          rw [← hx] at c2
          rw [← hy] at c15
          rw [← hp] at c7
          rw [← hq] at c16
          have lT : T < 64 := by omega
          replace hnext := Lib.hid hnext
          replace mj := Lib.hid mj
          replace xj := Lib.hid xj
          replace hT := Lib.hid hT
          replace hlt := Lib.hid hlt
          replace hx := Lib.hid hx
          replace hy := Lib.hid hy
          replace hp := Lib.hid hp
          replace hq := Lib.hid hq
          replace lT := Lib.hid lT
          clear hn2 ht2 ht15 ht7 ht16 hj
          go_upto_region 11 with (fail)
          refine region_qtail 29 (by kernel_rfl) (by kernel_rfl) ?_
          simp only [List.take_succ_cons, List.take_zero, List.drop_succ_cons, List.drop_zero]
          repeat (go_big_quiet_step (fail))
          go_big_quiet_step (refine Calls.quiet_of (turn17_u x _))
          repeat (go_big_quiet_step (fail))
          go_big_quiet_step (refine Calls.quiet_of (turn19_u x _))
          repeat (go_big_quiet_step (fail))
          go_big_quiet_step (refine Calls.quiet_of (turn7_u y _))
          repeat (go_big_quiet_step (fail))
          go_big_quiet_step (refine Calls.quiet_of (turn18_u y _))
          repeat (go_big_quiet_step (fail))
          refine wpQuiet_nil ?_
          rintro _ ⟨nq, rfl⟩
          obtain ⟨w8, hw8⟩ : ∃ w8, w8 = wr.drewN nq := ⟨_, rfl⟩
          have x8 : WordsAt w8 (H + 3) 168 (schedS b j) := by rw [hw8]; exact xj.out
          have m8 : Mod (fun k => k = H + 3) wA w8 := by rw [hw8]; exact mj.out.drewN nq
          obtain ⟨z, hz⟩ : ∃ z, z = p + q + (rr x 17 ^^^ rr x 19 ^^^ x >>> 10) + (rr y 7 ^^^ rr y 18 ^^^ y >>> 3) := ⟨_, rfl⟩
          rw [← hw8]
          have hset := x8.set T z _ rfl
          have s9 := word_store x8 (i := T) (by rw [schedS_length]; exact lT.out) (z.toNat : Int)
          rw [hz, ← hnext.out, ← hz] at hset
          obtain ⟨w9, hw9⟩ : ∃ w9, w9 = w8.setCell ⟨H + 3, T, none⟩ (.int .u32 (z.toNat : Int)) := ⟨_, rfl⟩
          rw [← hw9] at hset s9
          have m9 := m8.trans hset.2
          have x9 := hset.1
          replace hw8 := Lib.hid hw8
          replace hw9 := Lib.hid hw9
          replace m9 := Lib.hid m9
          replace x9 := Lib.hid x9
          clear c7 c16 c2 c15 x8 m8 hset
          refine wpList_store_to rfl _ _ _ rfl _ _ (.int .u32 (z.toNat : Int)) rfl ?_ _ s9 ?_
          · refine int_of ?_
            rw [hz]
            have h10 : bits .xor .u32 ((rr x 17 ^^^ rr x 19).toNat : Int) ((x.toNat : Int) / 1024) = ((rr x 17 ^^^ rr x 19 ^^^ x >>> 10).toNat : Int) := by
              have e : (x.toNat : Int) / (1024 : Int) = ((x >>> 10).toNat : Int) := sh32_10 x
              rw [e, bits_xor32]
            have h3 : bits .xor .u32 ((rr y 7 ^^^ rr y 18).toNat : Int) ((y.toNat : Int) / 8) = ((rr y 7 ^^^ rr y 18 ^^^ y >>> 3).toNat : Int) := by
              have e : (y.toNat : Int) / (8 : Int) = ((y >>> 3).toNat : Int) := sh32_3 y
              rw [e, bits_xor32]
            simp only [bits_xor32]
            simp only [h10, h3, BitVec.toNat_add, Int.natCast_emod, Int.natCast_add]
            omega
          replace hz := Lib.hid hz
          go_wp2
          go_roundw
          case measure => have := hlt.out; have := hT.out; simp [intOf]; omega
          case rel =>
            exact ⟨j + 1, T + 1, by have := hlt.out; omega, by have := hT.out; omega, by go_num, m9.out, x9.out⟩
        · have hj48 : j = 48 := by omega
          have hd : decide ((T : Int) < 64) = false := by rw [decide_eq_false_iff_not]; omega
          obtain ⟨wB, hwB⟩ : ∃ wB, wB = wr := ⟨_, rfl⟩
          rw [← hwB] at mj xj ⊢
          rw [hj48] at xj
          have m2B : Mod (fun k => k = H + 3) w2 wB := mr.out.trans mj
          have xSB := xS.out.mod m2B (by omega)
          have xRB := xR.out.mod m2B (by omega)
          obtain ⟨WW, hWW⟩ : ∃ WW, WW = schedS b 48 := ⟨_, rfl⟩
          have hWl : WW.length = 64 := by rw [hWW, schedS_length]
          rw [← hWW] at xj
          have hHB : H + 3 < wB.heap.size := lt_of_heap xj
          replace m2B := Lib.hid m2B
          replace xSB := Lib.hid xSB
          replace xRB := Lib.hid xRB
          replace xj := Lib.hid xj
          replace hwB := Lib.hid hwB
          replace hj48 := Lib.hid hj48
          replace hT := Lib.hid hT
          replace hWW := Lib.hid hWW
          replace hWl := Lib.hid hWl
          clear mj hj hlt
          go_upto_region 12 with (fail)
          refine wp_region_lit ?_
          refine wpList_enter (by kernel_rfl) 131 #[] (by go_simp) (refWords_any wB) ?_
          rintro e wC ⟨mC, rfl⟩
          refine ⟨_, rfl, ?_⟩
          simp only [Act.put, List.setIfInBounds_toArray, List.set_cons_succ, List.set_cons_zero]
          obtain ⟨wD, hwD⟩ : ∃ x, x = wC.alloc (.cells (encW (zw 64)).toArray 168) := ⟨_, rfl⟩
          obtain ⟨gD, hgD⟩ : ∃ g, g = wC.heap.size := ⟨_, rfl⟩
          have hgDl : H + 3 < gD := by rw [hgD]; have := mC.size; omega
          have xD : WordsAt wD gD 168 (zw 64) := by rw [hwD]; exact hp_new _ _ _ hgD
          have mD : Mod (fun _ => False) wC wD := by rw [hwD]; exact (Mod.refl _ _).alloc _
          obtain ⟨wE, sE, mE, xE⟩ := words_store xD (s' := K0) rfl (by rw [hK.out]; exact info64)
          have mBE : Mod (fun _ => False) wB wE := (mC.trans mD).trans' mE (fun i hi h => by have := mC.size; omega)
          have hEs : gD < wE.heap.size := lt_of_heap xE
          obtain ⟨wF, hwF⟩ : ∃ x, x = wE.alloc (.cells (encW (zw 8)).toArray 166) := ⟨_, rfl⟩
          obtain ⟨gF, hgF⟩ : ∃ g, g = wE.heap.size := ⟨_, rfl⟩
          have xF : WordsAt wF gF 166 (zw 8) := by rw [hwF]; exact hp_new _ _ _ hgF
          have mF : Mod (fun _ => False) wE wF := by rw [hwF]; exact (Mod.refl _ _).alloc _
          obtain ⟨wG, sG, mG, xG⟩ := words_store xF (s' := st) (by rw [hst.out]; rfl) (by rw [hst.out]; exact info8)
          have mBG : Mod (fun _ => False) wB wG := (mBE.trans mF).trans' mG (fun i hi h => by have := mBE.size; omega)
          have xK := (xE.mod mF (fun h => h)).mod mG (by omega)
          have xWG := xj.out.mod mBG (fun h => h)
          have lS := words_load (xSB.out.mod mBE (fun h => h)) Tryz.underlying166 rfl (by rw [hst.out]; exact info8)
          have hgF2 : gD < gF := by omega
          replace hwD := Lib.hid hwD
          replace hgD := Lib.hid hgD
          replace hwF := Lib.hid hwF
          replace hgF := Lib.hid hgF
          replace mBG := Lib.hid mBG
          replace xK := Lib.hid xK
          replace xG := Lib.hid xG
          replace xWG := Lib.hid xWG
          clear mC xD mD mE xE mBE xF mF mG
          refine wpList_yields (by kernel_rfl) _ _ (alloc_arr 168 _ zero64 _ _ _ rfl) ?_
          simp only [Act.put, List.setIfInBounds_toArray, List.set_cons_succ, List.set_cons_zero]
          rw [← hgD.out, ← hwD.out]
          refine wpList_store_to rfl _ _ _ rfl _ _ _ rfl rfl _ sE ?_
          simp only [Act.put, List.setIfInBounds_toArray, List.set_cons_succ, List.set_cons_zero]
          go_upto_region 13 with (fail)
          refine wp_region_lit ?_
          refine wpList_reads (by kernel_rfl) (.agg (encW st).toArray) (run_load_op rfl rfl lS) ?_
          simp only [Act.put, List.setIfInBounds_toArray, List.set_cons_succ, List.set_cons_zero]
          refine wpList_yields (by kernel_rfl) _ _ (alloc_arr 166 _ zero8 _ _ _ rfl) ?_
          simp only [Act.put, List.setIfInBounds_toArray, List.set_cons_succ, List.set_cons_zero]
          rw [← hgF.out, ← hwF.out]
          refine wpList_store_to rfl _ _ _ rfl _ _ _ rfl rfl _ sG ?_
          simp only [Act.put, List.setIfInBounds_toArray, List.set_cons_succ, List.set_cons_zero]
          obtain ⟨s0, hs0⟩ : ∃ s0, s0 = ofL st := ⟨_, rfl⟩
          have hst0 : st = toL s0 := by
            rw [hs0]
            obtain ⟨h0, h1, h2, h3, h4, h5, h6, h7, rfl⟩ : ∃ a b c d e f g h, st = [a, b, c, d, e, f, g, h] := by
              match st, hst.out with
              | [a, b, c, d, e, f, g, h], _ => exact ⟨a, b, c, d, e, f, g, h, rfl⟩
            rfl
          replace hs0 := Lib.hid hs0
          replace hst0 := Lib.hid hst0
          clear sE sG lS
          go_wp2
          go_loopw [12] (fun tv wr => ∃ t : Nat, t ≤ 64 ∧ tv = .int .i64 (t : Int) ∧ Mod (fun k => k = gF) wG wr ∧ WordsAt wr gF 166 (toL (runS K0 WW s0 t))) (fun tv _ => 64 - (intOf tv).toNat)
          case atStart => exact ⟨0, by omega, rfl, Mod.refl _ _, by rw [runS, ← hst0.out]; exact xG.out⟩
          case round =>
            obtain ⟨t, ht, rfl, mt, xt⟩ := hrel
            have bt0 : (0 : Int) ≤ (t : Int) := by omega
            have bt : (t : Int) ≤ 64 := by omega
            by_cases hlt : t < 64
            · have hd : decide ((t : Int) < 64) = true := by rw [decide_eq_true_iff]; omega
              have btl : (t : Int) < 64 := by omega
              have cK := (xK.out.mod mt (by omega)).cell (i := t) (by rw [hK.out]; exact hlt)
              have cW := (xWG.out.mod mt (by omega)).cell (i := t) (by rw [hWl.out]; exact hlt)
              have hnext : runS K0 WW s0 (t + 1) = stepS (K0.getD t 0) (WW.getD t 0) (runS K0 WW s0 t) := rfl
              obtain ⟨q, hq⟩ : ∃ q, q = runS K0 WW s0 t := ⟨_, rfl⟩
              rw [← hq] at hnext xt
              obtain ⟨a, b', c, d, e, f, g, h⟩ := q
              simp only [toL] at xt
              have cs := fun i (hi : i < 8) => xt.cell (i := i) hi
              have cs0 : wr.cell? ⟨gF, 0, none⟩ = some (.int .u32 (a.toNat : Int)) := cs 0 (by decide)
              have cs1 : wr.cell? ⟨gF, 1, none⟩ = some (.int .u32 (b'.toNat : Int)) := cs 1 (by decide)
              have cs2 : wr.cell? ⟨gF, 2, none⟩ = some (.int .u32 (c.toNat : Int)) := cs 2 (by decide)
              have cs3 : wr.cell? ⟨gF, 3, none⟩ = some (.int .u32 (d.toNat : Int)) := cs 3 (by decide)
              have cs4 : wr.cell? ⟨gF, 4, none⟩ = some (.int .u32 (e.toNat : Int)) := cs 4 (by decide)
              have cs5 : wr.cell? ⟨gF, 5, none⟩ = some (.int .u32 (f.toNat : Int)) := cs 5 (by decide)
              have cs6 : wr.cell? ⟨gF, 6, none⟩ = some (.int .u32 (g.toNat : Int)) := cs 6 (by decide)
              have cs7 : wr.cell? ⟨gF, 7, none⟩ = some (.int .u32 (h.toNat : Int)) := cs 7 (by decide)
              obtain ⟨kk, hkk⟩ : ∃ kk, kk = K0.getD t 0 := ⟨_, rfl⟩
              obtain ⟨ww, hww⟩ : ∃ ww, ww = WW.getD t 0 := ⟨_, rfl⟩
              rw [← hkk] at cK hnext
              rw [← hww] at cW hnext
              obtain ⟨one, hone⟩ : ∃ one, one = oneS kk ww ⟨a, b', c, d, e, f, g, h⟩ := ⟨_, rfl⟩
              obtain ⟨two, htwo⟩ : ∃ two, two = twoS ⟨a, b', c, d, e, f, g, h⟩ := ⟨_, rfl⟩
              have hnext2 : toL (runS K0 WW s0 (t + 1)) = [one + two, a, b', c, d + one, e, f, g] := by rw [hnext, hone, htwo]; rfl
              replace hnext2 := Lib.hid hnext2
              replace hone := Lib.hid hone
              replace htwo := Lib.hid htwo
              replace hkk := Lib.hid hkk
              replace hww := Lib.hid hww
              replace mt := Lib.hid mt
              replace xt := Lib.hid xt
              replace hlt := Lib.hid hlt
              clear hnext hq ht cs
              go_upto_region 19 with (fail)
              refine wp_region_quiet_lit (by kernel_rfl) (by kernel_rfl) ?_
              repeat (go_big_quiet_step (fail))
              go_big_quiet_step (refine Calls.quiet_of (turn6_u e _))
              repeat (go_big_quiet_step (fail))
              go_big_quiet_step (refine Calls.quiet_of (turn11_u e _))
              repeat (go_big_quiet_step (fail))
              go_big_quiet_step (refine Calls.quiet_of (turn25_u e _))
              repeat (go_big_quiet_step (fail))
              refine wpQuiet_nil ?_
              rintro _ ⟨nq, rfl⟩
              have hEx : (((h.toNat : Int) + bits .xor .u32 (bits .xor .u32 ((rr e 6).toNat : Int) ((rr e 11).toNat : Int)) ((rr e 25).toNat : Int) + bits .xor .u32 (bits .and .u32 (e.toNat : Int) (f.toNat : Int)) (bits .and .u32 (bits .xor .u32 (if IntKind.u32.signed = true then -1 else IntKind.u32.max) (e.toNat : Int)) (g.toNat : Int)) + (kk.toNat : Int)) % 4294967296 + (ww.toNat : Int)) % 4294967296 = (one.toNat : Int) := by
                have hn : bits .xor .u32 (if IntKind.u32.signed = true then -1 else IntKind.u32.max) (e.toNat : Int) = ((~~~e).toNat : Int) := by
                  rw [show (if IntKind.u32.signed = true then -1 else IntKind.u32.max) = (((BitVec.allOnes 32).toNat : Nat) : Int) by kernel_rfl, bits_xor32, BitVec.allOnes_xor]
                rw [hn, bits_and32, bits_and32, bits_xor32, bits_xor32, bits_xor32, ch_eq, hone.out, oneS, three]
                simp only [BitVec.toNat_add, Int.natCast_emod, Int.natCast_add]
                omega
              rw [hEx]
              obtain ⟨wH, hwH⟩ : ∃ x, x = wr.drewN nq := ⟨_, rfl⟩
              have mH : Mod (fun _ => False) wr wH := by rw [hwH]; exact (Mod.refl _ _).drewN nq
              rw [← hwH]
              have ds0 := cell_mod mH cs0 (fun h => h)
              have ds1 := cell_mod mH cs1 (fun h => h)
              have ds2 := cell_mod mH cs2 (fun h => h)
              replace hwH := Lib.hid hwH
              replace hEx := Lib.hid hEx
              clear cK cW cs0 cs1 cs2 cs3 cs4 cs5 cs6 cs7
              go_upto_region 20 with (fail)
              refine wp_region_quiet_lit (by kernel_rfl) (by kernel_rfl) ?_
              repeat (go_big_quiet_step (fail))
              go_big_quiet_step (refine Calls.quiet_of (turn2_u a _))
              repeat (go_big_quiet_step (fail))
              go_big_quiet_step (refine Calls.quiet_of (turn13_u a _))
              repeat (go_big_quiet_step (fail))
              go_big_quiet_step (refine Calls.quiet_of (turn22_u a _))
              repeat (go_big_quiet_step (fail))
              refine wpQuiet_nil ?_
              rintro _ ⟨nr, rfl⟩
              have hTw : (bits .xor .u32 (bits .xor .u32 ((rr a 2).toNat : Int) ((rr a 13).toNat : Int)) ((rr a 22).toNat : Int) + bits .xor .u32 (bits .xor .u32 (bits .and .u32 (a.toNat : Int) (b'.toNat : Int)) (bits .and .u32 (a.toNat : Int) (c.toNat : Int))) (bits .and .u32 (b'.toNat : Int) (c.toNat : Int))) % 4294967296 = (two.toNat : Int) := by
                rw [bits_and32, bits_and32, bits_and32, bits_xor32, bits_xor32, bits_xor32, bits_xor32, maj_eq, htwo.out, twoS, three, add32]
              rw [hTw]
              obtain ⟨wI, hwI⟩ : ∃ x, x = wH.drewN nr := ⟨_, rfl⟩
              have mI : Mod (fun _ => False) wr wI := by rw [hwI]; exact mH.drewN nr
              rw [← hwI]
              have xI := xt.out.mod mI (fun h => h)
              have l0 : (loadVar 58 ⟨gF, 0, none⟩).run Tryz.prog wI = .ok (.int .u32 (a.toNat : Int)) wI := run_loadVar_one wI gF 0 _ .u32 _ Tryz.underlying58 (xI.cell (i := 0) (by show 0 < 8; decide))
              have l1 : (loadVar 58 ⟨gF, 1, none⟩).run Tryz.prog wI = .ok (.int .u32 (b'.toNat : Int)) wI := run_loadVar_one wI gF 1 _ .u32 _ Tryz.underlying58 (xI.cell (i := 1) (by show 1 < 8; decide))
              have l2 : (loadVar 58 ⟨gF, 2, none⟩).run Tryz.prog wI = .ok (.int .u32 (c.toNat : Int)) wI := run_loadVar_one wI gF 2 _ .u32 _ Tryz.underlying58 (xI.cell (i := 2) (by show 2 < 8; decide))
              have l3 : (loadVar 58 ⟨gF, 3, none⟩).run Tryz.prog wI = .ok (.int .u32 (d.toNat : Int)) wI := run_loadVar_one wI gF 3 _ .u32 _ Tryz.underlying58 (xI.cell (i := 3) (by show 3 < 8; decide))
              have l4 : (loadVar 58 ⟨gF, 4, none⟩).run Tryz.prog wI = .ok (.int .u32 (e.toNat : Int)) wI := run_loadVar_one wI gF 4 _ .u32 _ Tryz.underlying58 (xI.cell (i := 4) (by show 4 < 8; decide))
              have l5 : (loadVar 58 ⟨gF, 5, none⟩).run Tryz.prog wI = .ok (.int .u32 (f.toNat : Int)) wI := run_loadVar_one wI gF 5 _ .u32 _ Tryz.underlying58 (xI.cell (i := 5) (by show 5 < 8; decide))
              have l6 : (loadVar 58 ⟨gF, 6, none⟩).run Tryz.prog wI = .ok (.int .u32 (g.toNat : Int)) wI := run_loadVar_one wI gF 6 _ .u32 _ Tryz.underlying58 (xI.cell (i := 6) (by show 6 < 8; decide))
              obtain ⟨wJ, sJ, mJ, xJ⟩ := words_store xI (s' := [one + two, a, b', c, d + one, e, f, g]) rfl info8
              have mtJ : Mod (fun k => k = gF) wG wJ := (mt.out.trans' mI (fun _ _ h => h.elim)).trans mJ
              replace hwI := Lib.hid hwI
              replace mtJ := Lib.hid mtJ
              replace xJ := Lib.hid xJ
              clear hTw mH mI xI mJ ds0 ds1 ds2
              go_upto_region 21 with (fail)
              refine wp_region_lit ?_
              refine wpList_reads (by kernel_rfl) (.int .u32 (one.toNat : Int)) (by go_simp) ?_
              simp only [Act.put, List.setIfInBounds_toArray, List.set_cons_succ, List.set_cons_zero]
              refine wpList_reads (by kernel_rfl) (.int .u32 (two.toNat : Int)) (by go_simp) ?_
              simp only [Act.put, List.setIfInBounds_toArray, List.set_cons_succ, List.set_cons_zero]
              refine wpList_reads (by kernel_rfl) (.int .u32 ((one + two).toNat : Int)) (by rw [← add32]; go_simp; exact IntKind.wrap_u32 _) ?_
              simp only [Act.put, List.setIfInBounds_toArray, List.set_cons_succ, List.set_cons_zero]
              refine wpList_reads (by kernel_rfl) (.pointer (some ⟨gF, 0, none⟩)) (by go_simp) ?_
              simp only [Act.put, List.setIfInBounds_toArray, List.set_cons_succ, List.set_cons_zero]
              refine wpList_reads (by kernel_rfl) (.int .u32 (a.toNat : Int)) (run_load_op rfl rfl l0) ?_
              simp only [Act.put, List.setIfInBounds_toArray, List.set_cons_succ, List.set_cons_zero]
              refine wpList_reads (by kernel_rfl) (.pointer (some ⟨gF, 1, none⟩)) (by go_simp) ?_
              simp only [Act.put, List.setIfInBounds_toArray, List.set_cons_succ, List.set_cons_zero]
              refine wpList_reads (by kernel_rfl) (.int .u32 (b'.toNat : Int)) (run_load_op rfl rfl l1) ?_
              simp only [Act.put, List.setIfInBounds_toArray, List.set_cons_succ, List.set_cons_zero]
              refine wpList_reads (by kernel_rfl) (.pointer (some ⟨gF, 2, none⟩)) (by go_simp) ?_
              simp only [Act.put, List.setIfInBounds_toArray, List.set_cons_succ, List.set_cons_zero]
              refine wpList_reads (by kernel_rfl) (.int .u32 (c.toNat : Int)) (run_load_op rfl rfl l2) ?_
              simp only [Act.put, List.setIfInBounds_toArray, List.set_cons_succ, List.set_cons_zero]
              refine wpList_reads (by kernel_rfl) (.pointer (some ⟨gF, 3, none⟩)) (by go_simp) ?_
              simp only [Act.put, List.setIfInBounds_toArray, List.set_cons_succ, List.set_cons_zero]
              refine wpList_reads (by kernel_rfl) (.int .u32 (d.toNat : Int)) (run_load_op rfl rfl l3) ?_
              simp only [Act.put, List.setIfInBounds_toArray, List.set_cons_succ, List.set_cons_zero]
              refine wpList_reads (by kernel_rfl) (.int .u32 (one.toNat : Int)) (by go_simp) ?_
              simp only [Act.put, List.setIfInBounds_toArray, List.set_cons_succ, List.set_cons_zero]
              refine wpList_reads (by kernel_rfl) (.int .u32 ((d + one).toNat : Int)) (by rw [← add32]; go_simp; exact IntKind.wrap_u32 _) ?_
              simp only [Act.put, List.setIfInBounds_toArray, List.set_cons_succ, List.set_cons_zero]
              refine wpList_reads (by kernel_rfl) (.pointer (some ⟨gF, 4, none⟩)) (by go_simp) ?_
              simp only [Act.put, List.setIfInBounds_toArray, List.set_cons_succ, List.set_cons_zero]
              refine wpList_reads (by kernel_rfl) (.int .u32 (e.toNat : Int)) (run_load_op rfl rfl l4) ?_
              simp only [Act.put, List.setIfInBounds_toArray, List.set_cons_succ, List.set_cons_zero]
              refine wpList_reads (by kernel_rfl) (.pointer (some ⟨gF, 5, none⟩)) (by go_simp) ?_
              simp only [Act.put, List.setIfInBounds_toArray, List.set_cons_succ, List.set_cons_zero]
              refine wpList_reads (by kernel_rfl) (.int .u32 (f.toNat : Int)) (run_load_op rfl rfl l5) ?_
              simp only [Act.put, List.setIfInBounds_toArray, List.set_cons_succ, List.set_cons_zero]
              refine wpList_reads (by kernel_rfl) (.pointer (some ⟨gF, 6, none⟩)) (by go_simp) ?_
              simp only [Act.put, List.setIfInBounds_toArray, List.set_cons_succ, List.set_cons_zero]
              refine wpList_reads (by kernel_rfl) (.int .u32 (g.toNat : Int)) (run_load_op rfl rfl l6) ?_
              simp only [Act.put, List.setIfInBounds_toArray, List.set_cons_succ, List.set_cons_zero]
              refine wpList_yields (by kernel_rfl) _ _ (build8_op (one + two) a b' c (d + one) e f g _ _ _ _ _ _ _ _ _ _ _ rfl rfl rfl rfl rfl rfl rfl rfl rfl) ?_
              simp only [Act.put, List.setIfInBounds_toArray, List.set_cons_succ, List.set_cons_zero]
              refine wpList_store_to rfl _ _ _ rfl _ _ _ rfl rfl _ sJ ?_
              simp only [Act.put, List.setIfInBounds_toArray, List.set_cons_succ, List.set_cons_zero]
              clear sJ l0 l1 l2 l3 l4 l5 l6
              go_wp2
              go_roundw
              case measure => have := hlt.out; simp [intOf]; omega
              case rel => exact ⟨t + 1, by have := hlt.out; omega, by go_num, mtJ.out, by rw [hnext2.out]; exact xJ.out⟩
            · have ht64 : t = 64 := by omega
              have hd : decide ((t : Int) < 64) = false := by rw [decide_eq_false_iff_not]; omega
              obtain ⟨wK, hwK⟩ : ∃ x, x = wr := ⟨_, rfl⟩
              rw [← hwK] at mt xt ⊢
              have xSK := (xSB.out.mod mBG.out (fun h => h)).mod mt (by omega)
              have xRK := (xRB.out.mod mBG.out (fun h => h)).mod mt (by omega)
              obtain ⟨xs, hxs⟩ : ∃ xs, xs = toL (runS K0 WW s0 64) := ⟨_, rfl⟩
              have hxl : xs.length = 8 := by rw [hxs]; rfl
              have hfur : furtherS K0 st b = addTo xs st 8 := by
                rw [addTo_comm _ _ hxl hst.out, hxs, hWW.out, hs0.out]
                rfl
              rw [ht64, ← hxs] at xt
              have m0K : Mod (fun _ => False) w wK := ((m2.out.trans' m2B.out (fun i hi h => by have := hH.out; omega)).trans mBG.out).trans' mt (fun i hi h => by have := hH.out; omega)
              replace hwK := Lib.hid hwK
              replace xSK := Lib.hid xSK
              replace xRK := Lib.hid xRK
              replace hxs := Lib.hid hxs
              replace hxl := Lib.hid hxl
              replace hfur := Lib.hid hfur
              replace m0K := Lib.hid m0K
              replace ht64 := Lib.hid ht64
              replace xt := Lib.hid xt
              clear mt hlt ht
              go_wp2
              go_loopw [17] (fun iv wr => ∃ n : Nat, n ≤ 8 ∧ iv = .int .i64 (n : Int) ∧ Mod (fun k => k = gF) wK wr ∧ WordsAt wr gF 166 (addTo xs st n)) (fun iv _ => 8 - (intOf iv).toNat)
              case atStart => exact ⟨0, by omega, rfl, Mod.refl _ _, xt.out⟩
              case round =>
                obtain ⟨n, hn, rfl, mn, xn⟩ := hrel
                have bn0 : (0 : Int) ≤ (n : Int) := by omega
                have bn : (n : Int) ≤ 8 := by omega
                by_cases hlt : n < 8
                · have hd : decide ((n : Int) < 8) = true := by rw [decide_eq_true_iff]; omega
                  have bnl : (n : Int) < 8 := by omega
                  have cN := xn.cell (i := n) (by rw [addTo_length, hxl.out]; exact hlt)
                  have cS := (xSK.out.mod mn (by omega)).cell (i := n) (by rw [hst.out]; exact hlt)
                  have hnext : addTo xs st (n + 1) = (addTo xs st n).set n ((addTo xs st n).getD n 0 + st.getD n 0) := rfl
                  obtain ⟨x, hx⟩ : ∃ x, x = (addTo xs st n).getD n 0 := ⟨_, rfl⟩
                  obtain ⟨y, hy⟩ : ∃ y, y = st.getD n 0 := ⟨_, rfl⟩
                  rw [← hx] at cN hnext
                  rw [← hy] at cS hnext
                  have hal : (addTo xs st n).length = 8 := by rw [addTo_length, hxl.out]
                  replace hnext := Lib.hid hnext
                  replace hx := Lib.hid hx
                  replace hy := Lib.hid hy
                  replace mn := Lib.hid mn
                  replace xn := Lib.hid xn
                  replace hlt := Lib.hid hlt
                  replace hal := Lib.hid hal
                  clear hn
                  go_upto_region 25 with (fail)
                  refine region_qtail 9 (by kernel_rfl) (by kernel_rfl) ?_
                  simp only [List.take_succ_cons, List.take_zero, List.drop_succ_cons, List.drop_zero]
                  repeat (go_big_quiet_step (fail))
                  refine wpQuiet_nil ?_
                  rintro _ ⟨nq, rfl⟩
                  obtain ⟨w8, hw8⟩ : ∃ w8, w8 = wr.drewN nq := ⟨_, rfl⟩
                  have x8 : WordsAt w8 gF 166 (addTo xs st n) := by rw [hw8]; exact xn.out
                  have m8 : Mod (fun k => k = gF) wK w8 := by rw [hw8]; exact mn.out.drewN nq
                  rw [← hw8]
                  obtain ⟨z, hz⟩ : ∃ z, z = x + y := ⟨_, rfl⟩
                  have hset := x8.set n z _ rfl
                  have s9 := word_store x8 (i := n) (by rw [hal.out]; exact hlt.out) (z.toNat : Int)
                  rw [hz, ← hnext.out, ← hz] at hset
                  obtain ⟨w9, hw9⟩ : ∃ w9, w9 = w8.setCell ⟨gF, n, none⟩ (.int .u32 (z.toNat : Int)) := ⟨_, rfl⟩
                  rw [← hw9] at hset s9
                  have m9 := m8.trans hset.2
                  have x9 := hset.1
                  replace hw8 := Lib.hid hw8
                  replace hw9 := Lib.hid hw9
                  replace m9 := Lib.hid m9
                  replace x9 := Lib.hid x9
                  clear cN cS x8 m8 hset
                  refine wpList_store_to rfl _ _ _ rfl _ _ (.int .u32 (z.toNat : Int)) rfl ?_ _ s9 ?_
                  · exact int_of (by rw [hz, ← add32])
                  replace hz := Lib.hid hz
                  go_wp2
                  go_roundw
                  case measure => have := hlt.out; simp [intOf]; omega
                  case rel => exact ⟨n + 1, by have := hlt.out; omega, by go_num, m9.out, x9.out⟩
                · have hn8 : n = 8 := by omega
                  have hd : decide ((n : Int) < 8) = false := by rw [decide_eq_false_iff_not]; omega
                  rw [hn8, ← hfur.out] at xn
                  have hlen : (furtherS K0 st b).length = 8 := by rw [hfur.out, addTo_length, hxl.out]
                  have xRn := xRK.out.mod mn (by omega)
                  have ll := words_load xn Tryz.underlying166 rfl (by rw [hlen]; exact info8)
                  obtain ⟨wz, sz, mz, xz⟩ := words_store xRn (s' := furtherS K0 st b) (by rw [hlen]; rfl) (by rw [hlen]; exact info8)
                  have hfin : Mod (fun _ => False) w wz := (m0K.out.trans' mn (fun i hi h => by have := hH.out; omega)).trans' mz (fun i hi h => by have := hH.out; omega)
                  obtain ⟨RR, hRR⟩ : ∃ RR, RR = furtherS K0 st b := ⟨_, rfl⟩
                  rw [← hRR] at hlen xn ll sz xz
                  replace hRR := Lib.hid hRR
                  replace hfin := Lib.hid hfin
                  replace mn := Lib.hid mn
                  replace xn := Lib.hid xn
                  replace hn8 := Lib.hid hn8
                  clear hn hlt mz xRn
                  go_upto_region 26 with (fail)
                  refine wp_region_lit ?_
                  refine wpList_reads (by kernel_rfl) (.agg (encW RR).toArray) (run_load_op rfl rfl ll) ?_
                  simp only [Act.put, List.setIfInBounds_toArray, List.set_cons_succ, List.set_cons_zero]
                  refine wpList_store_to rfl _ _ _ rfl _ _ _ rfl rfl _ sz ?_
                  simp only [Act.put, List.setIfInBounds_toArray, List.set_cons_succ, List.set_cons_zero]
                  go_wp2
                  exact bodyPost_ret (results_words rfl _ _ (H + 2) _ rfl xz Tryz.underlying166 rfl (by rw [hlen]; exact info8)) rfl ⟨hfin.out, by rw [hRR.out]⟩
end Go.Proofs.YtppjnkgmbmhlcaaGreatDoor
