/-
  mailcoachlaw06.AeadOpens. Printed by gen/pr7.py.
-/
import Derived.Test.YtbiijcljpgannaaGreatDoorZc
namespace Go.Proofs.YtbiijcljpgannaaGreatDoor
set_option maxRecDepth 100000
open Go Go.RowKit Go.Lib
set_option linter.unusedSimpArgs false
set_option linter.unusedVariables false

set_option maxRecDepth 100000 in
set_option maxHeartbeats 4000000 in
theorem opens_any (vk vn vb vp : Value) (k n b p : List (BitVec 8)) (w : World) (hk : ByteAt w vk k) (hn : ByteAt w vn n) (hb : ByteAt w vb b) (hp : ByteAt w vp p) (hkl : k.length ≤ 140737488351232) (hnl : n.length ≤ 140737488351232) (hbl : b.length ≤ 140737488351232) (hpl : p.length ≤ 140737488351232) :
    Calls Tryz.prog 4 #[.agg #[vk, vn, vb], vp] w fun e w' => Mod (fun _ => False) w w' ∧ e = .returned (.bool true) := by
  obtain ⟨NK, hNK⟩ : ∃ x, x = k.length := ⟨_, rfl⟩
  obtain ⟨NN, hNN⟩ : ∃ x, x = n.length := ⟨_, rfl⟩
  obtain ⟨NP, hNP⟩ : ∃ x, x = p.length := ⟨_, rfl⟩
  obtain ⟨NB, hNB⟩ : ∃ x, x = b.length := ⟨_, rfl⟩
  obtain ⟨ak, ck, rfl⟩ := hk.sliceN hNK.symm
  obtain ⟨an, cn, rfl⟩ := hn.sliceN hNN.symm
  obtain ⟨ap, cp, rfl⟩ := hp.sliceN hNP.symm
  obtain ⟨ab, cb, rfl⟩ := hb.sliceN hNB.symm
  have bp0 : (0 : Int) ≤ (NP : Int) := by omega
  obtain ⟨w0, hw0⟩ : ∃ x, x = w.alloc (.cells #[.slice ak NK ck, .slice an NN cn, .slice ab NB cb] 24) := ⟨_, rfl⟩
  obtain ⟨g1, hg1⟩ : ∃ x, x = w.heap.size := ⟨_, rfl⟩
  have m0 : Mod (fun _ => False) w w0 := by rw [hw0]; exact (Mod.refl _ _).alloc _
  have x1 : w0.heap[g1]? = some (.cells #[.slice ak NK ck, .slice an NN cn, .slice ab NB cb] 24 (0,0)) := by rw [hw0]; exact hp_new _ _ _ hg1
  replace hk := hk.mod m0 (fun _ _ h => h)
  replace hn := hn.mod m0 (fun _ _ h => h)
  replace hp := hp.mod m0 (fun _ _ h => h)
  replace hb := hb.mod m0 (fun _ _ h => h)
  obtain ⟨E, hE⟩ : ∃ E, E = openE k n p b := ⟨_, rfl⟩
  have hEE : (E != E) = false := by simp
  obtain ⟨X, hX⟩ : ∃ X, X = openX k n p b := ⟨_, rfl⟩
  have hXl : X.length ≤ 1048592 := by rw [hX]; have := openX_len k n p b; omega
  replace hNK := Lib.hid hNK
  replace hNN := Lib.hid hNN
  replace hNP := Lib.hid hNP
  replace hNB := Lib.hid hNB
  replace hw0 := Lib.hid hw0
  replace hg1 := Lib.hid hg1
  replace m0 := Lib.hid m0
  replace x1 := Lib.hid x1
  replace hk := Lib.hid hk
  replace hn := Lib.hid hn
  replace hb := Lib.hid hb
  replace hp := Lib.hid hp
  replace hkl := Lib.hid hkl
  replace hnl := Lib.hid hnl
  replace hbl := Lib.hid hbl
  replace hpl := Lib.hid hpl
  replace hE := Lib.hid hE
  replace hX := Lib.hid hX
  replace hXl := Lib.hid hXl
  go_enter Tryz.func4, Tryz.ntmps4
  go_upto_region 0 with (fail)
  refine wp_region_lit ?_
  refine wpList_yields (by kernel_rfl) (.pointer (some ⟨g1, 0, none⟩)) w0 (by rw [hw0.out, hg1.out]; simp [execOp, Instr.box, Sem.run_bind, newVar, newRow, Value.cells]; rfl) ?_
  simp only [Act.put, List.setIfInBounds_toArray, List.set_cons_zero, List.set_cons_succ]
  refine wpList_reads (by kernel_rfl) (.bool false) (by go_simp) ?_
  simp only [Act.put, List.setIfInBounds_toArray, List.set_cons_zero, List.set_cons_succ]
  have lw := loadWT x1.out
  go_upto_region 1 with (fail)
  refine wp_region_lit ?_
  refine wpList_reads (by kernel_rfl) (.agg #[.slice ak NK ck, .slice an NN cn, .slice ab NB cb]) (run_load_op rfl rfl lw) ?_
  simp only [Act.put, List.setIfInBounds_toArray, List.set_cons_zero, List.set_cons_succ]
  refine wpList_reads (by kernel_rfl) (.slice ap NP cp) (by go_simp) ?_
  simp only [Act.put, List.setIfInBounds_toArray, List.set_cons_zero, List.set_cons_succ]
  clear lw
  refine wpList_enter (by kernel_rfl) 5 #[.agg #[.slice ak NK ck, .slice an NN cn, .slice ab NB cb], .slice ap NP cp] (by go_simp) (great_any ak an ab ap NK NN NB NP ck cn cb cp (by rw [hNK.out]; exact hkl.out) (by rw [hNN.out]; exact hnl.out) (by rw [hNB.out]; exact hbl.out) (by rw [hNP.out]; exact hpl.out) w0) ?_
  rintro e w1 ⟨m1, d, rfl⟩
  replace hk := Lib.hid (hk.out.mod m1 (fun _ _ h => h))
  replace hn := Lib.hid (hn.out.mod m1 (fun _ _ h => h))
  replace hb := Lib.hid (hb.out.mod m1 (fun _ _ h => h))
  replace hp := Lib.hid (hp.out.mod m1 (fun _ _ h => h))
  replace x1 := Lib.hid (m1.heap x1.out (fun h => h))
  replace m0 := Lib.hid (m0.out.trans m1)
  have z1 := Lib.hid m1.size
  clear m1
  refine ⟨_, rfl, ?_⟩
  simp only [Act.put, List.setIfInBounds_toArray, List.set_cons_zero, List.set_cons_succ]
  cases d with
  | true =>
    go_wp2
    go_ret
    exact ⟨m0.out, rfl⟩
  | false =>
    have lw := loadWT x1.out
    go_upto_region 3 with (fail)
    refine wp_region_lit ?_
    refine wpList_reads (by kernel_rfl) (.agg #[.slice ak NK ck, .slice an NN cn, .slice ab NB cb]) (run_load_op rfl rfl lw) ?_
    simp only [Act.put, List.setIfInBounds_toArray, List.set_cons_zero, List.set_cons_succ]
    clear lw
    refine wpList_enter (by kernel_rfl) 6 #[.agg #[.slice ak NK ck, .slice an NN cn, .slice ab NB cb]] (by go_simp) (wtwin_any _ _ _ k n b hkl.out hnl.out hbl.out w1 hk.out hn.out hb.out) ?_
    rintro e w2 ⟨m2, y1, y2, y3, rfl, ty1, ty2, ty3⟩
    replace hk := Lib.hid (hk.out.mod m2 (fun _ _ h => h))
    replace hn := Lib.hid (hn.out.mod m2 (fun _ _ h => h))
    replace hb := Lib.hid (hb.out.mod m2 (fun _ _ h => h))
    replace hp := Lib.hid (hp.out.mod m2 (fun _ _ h => h))
    replace x1 := Lib.hid (m2.heap x1.out (fun h => h))
    replace m0 := Lib.hid (m0.out.trans m2)
    have z2 := Lib.hid m2.size
    clear m2
    obtain ⟨wa, hwa⟩ : ∃ x, x = w2.alloc (.cells #[.slice none 0 0, .slice none 0 0, .slice none 0 0] 24) := ⟨_, rfl⟩
    obtain ⟨g5, hg5⟩ : ∃ x, x = w2.heap.size := ⟨_, rfl⟩
    have ma : Mod (fun _ => False) w2 wa := by rw [hwa]; exact (Mod.refl _ _).alloc _
    have xa : wa.heap[g5]? = some (.cells #[.slice none 0 0, .slice none 0 0, .slice none 0 0] 24 (0,0)) := by rw [hwa]; exact hp_new _ _ _ hg5
    obtain ⟨w3, s3, n3, x5⟩ := storeWT xa (a' := y1) (b' := y2) (c' := y3) (by obtain ⟨_, _, _, h⟩ := ty1.sl; rw [h]; rfl) (by obtain ⟨_, _, _, h⟩ := ty2.sl; rw [h]; rfl) (by obtain ⟨_, _, _, h⟩ := ty3.sl; rw [h]; rfl)
    have m3 : Mod (fun _ => False) w2 w3 := ma.trans' n3 (fun i hi h => by omega)
    replace ty1 := Lib.hid (ty1.mod m3 (fun _ h => h))
    replace ty2 := Lib.hid (ty2.mod m3 (fun _ h => h))
    replace ty3 := Lib.hid (ty3.mod m3 (fun _ h => h))
    replace hk := Lib.hid (hk.out.mod m3 (fun _ _ h => h))
    replace hn := Lib.hid (hn.out.mod m3 (fun _ _ h => h))
    replace hb := Lib.hid (hb.out.mod m3 (fun _ _ h => h))
    replace hp := Lib.hid (hp.out.mod m3 (fun _ _ h => h))
    replace x1 := Lib.hid (m3.heap x1.out (fun h => h))
    replace m0 := Lib.hid (m0.out.trans m3)
    have z3 := Lib.hid m3.size
    replace hwa := Lib.hid hwa
    replace hg5 := Lib.hid hg5
    replace x5 := Lib.hid x5
    clear ma xa n3 m3
    refine ⟨_, rfl, ?_⟩
    simp only [Act.put, List.setIfInBounds_toArray, List.set_cons_zero, List.set_cons_succ]
    refine wpList_yields (by kernel_rfl) _ _ (alloc_arrY 24 _ zeroWT _ _ _ rfl) ?_
    simp only [Act.put, List.setIfInBounds_toArray, List.set_cons_zero, List.set_cons_succ]
    rw [← hg5.out, ← hwa.out]
    refine wpList_store_to rfl _ _ _ rfl _ _ _ rfl rfl _ s3 ?_
    simp only [Act.put, List.setIfInBounds_toArray, List.set_cons_zero, List.set_cons_succ]
    clear s3
    obtain ⟨q1, l1, c1, hv1⟩ := ty1.out.sl
    obtain ⟨q2, l2, c2, hv2⟩ := ty2.out.sl
    obtain ⟨q3, l3, c3, hv3⟩ := ty3.out.sl
    subst hv1 hv2 hv3
    go_upto_region 4 with (fail)
    refine wp_region_lit ?_
    refine wpList_reads (by kernel_rfl) (.slice ap NP cp) (by go_simp) ?_
    simp only [Act.put, List.setIfInBounds_toArray, List.set_cons_zero, List.set_cons_succ]
    refine wpList_enter (by kernel_rfl) 7 #[.slice ap NP cp] (by go_simp) (twin_new _ p w3 hp.out (by have := hpl.out; omega)) ?_
    rintro e w4 ⟨m4, vt4, rfl, tw4, tb⟩
    obtain ⟨gt4, hvt⟩ : ∃ g, vt4 = .slice (some ⟨g, 0, none⟩) NP (NP + 1) := by obtain ⟨g, h, _⟩ := tw4; exact ⟨g, by rw [h, hNP.out]⟩
    subst hvt
    have l4 : ∀ x, (Value.slice (some ⟨gt4, 0, none⟩) NP (NP + 1)).ownBlock = some x → w3.heap.size ≤ x ∧ x < w4.heap.size := by
      obtain ⟨g, h, h2⟩ := tw4
      intro x hx
      refine ⟨tb x hx, ?_⟩
      rw [h] at hx
      have h3 : g = x := by injection hx
      exact h3 ▸ lt_of_heap h2
    have q4 := clip_base0 (twin_clip tw4 tb (by have := hpl.out; omega)) m0.out.size
    have z4 := m4.size
    replace hk := Lib.hid (hk.out.mod m4 (fun _ _ h => h))
    replace hn := Lib.hid (hn.out.mod m4 (fun _ _ h => h))
    replace hb := Lib.hid (hb.out.mod m4 (fun _ _ h => h))
    replace hp := Lib.hid (hp.out.mod m4 (fun _ _ h => h))
    replace x1 := Lib.hid (m4.heap x1.out (fun h => h))
    replace m0 := Lib.hid (m0.out.trans m4)
    replace x5 := Lib.hid (m4.heap x5.out (fun h => h))
    replace ty1 := Lib.hid (ty1.out.mod m4 (fun _ h => h))
    replace ty2 := Lib.hid (ty2.out.mod m4 (fun _ h => h))
    replace ty3 := Lib.hid (ty3.out.mod m4 (fun _ h => h))
    replace tw4 := Lib.hid tw4
    replace q4 := Lib.hid q4
    replace l4 := Lib.hid l4
    replace z4 := Lib.hid z4
    clear m4 tb
    refine ⟨_, rfl, ?_⟩
    simp only [Act.put, List.setIfInBounds_toArray, List.set_cons_zero, List.set_cons_succ]
    refine wpList_reads (by kernel_rfl) (.slice (some ⟨gt4, 0, none⟩) NP (NP + 1)) (by go_simp) ?_
    simp only [Act.put, List.setIfInBounds_toArray, List.set_cons_zero, List.set_cons_succ]
    go_upto_region 5 with (fail)
    refine wp_region_lit ?_
    refine wpList_reads (by kernel_rfl) (.pointer (some ⟨g5, 0, none⟩)) (by go_simp) ?_
    simp only [Act.put, List.setIfInBounds_toArray, List.set_cons_zero, List.set_cons_succ]
    refine wpList_reads (by kernel_rfl) (.slice q1 l1 c1) (run_load_op rfl rfl (ld_slC1 (show w4.cell? ⟨g5, 0, none⟩ = _ from cell_of_row _ _ _ _ _ _ x5.out))) ?_
    simp only [Act.put, List.setIfInBounds_toArray, List.set_cons_zero, List.set_cons_succ]
    refine wpList_reads (by kernel_rfl) (.pointer (some ⟨g5, 1, none⟩)) (by go_simp) ?_
    simp only [Act.put, List.setIfInBounds_toArray, List.set_cons_zero, List.set_cons_succ]
    refine wpList_reads (by kernel_rfl) (.slice q2 l2 c2) (run_load_op rfl rfl (ld_slC1 (show w4.cell? ⟨g5, 1, none⟩ = _ from cell_of_row _ _ _ _ _ _ x5.out))) ?_
    simp only [Act.put, List.setIfInBounds_toArray, List.set_cons_zero, List.set_cons_succ]
    refine wpList_reads (by kernel_rfl) (.slice (some ⟨gt4, 0, none⟩) NP (NP + 1)) (by go_simp) ?_
    simp only [Act.put, List.setIfInBounds_toArray, List.set_cons_zero, List.set_cons_succ]
    refine wpList_reads (by kernel_rfl) (.pointer (some ⟨g5, 2, none⟩)) (by go_simp) ?_
    simp only [Act.put, List.setIfInBounds_toArray, List.set_cons_zero, List.set_cons_succ]
    refine wpList_reads (by kernel_rfl) (.slice q3 l3 c3) (run_load_op rfl rfl (ld_slC1 (show w4.cell? ⟨g5, 2, none⟩ = _ from cell_of_row _ _ _ _ _ _ x5.out))) ?_
    simp only [Act.put, List.setIfInBounds_toArray, List.set_cons_zero, List.set_cons_succ]
    refine wpList_enter (by kernel_rfl) 15 #[.slice q1 l1 c1, .slice q2 l2 c2, .slice (some ⟨gt4, 0, none⟩) NP (NP + 1), .slice q3 l3 c3] (by go_simp) ((open_any _ _ _ _ k n p b hkl.out hnl.out hpl.out hbl.out w4 ty1.out.byteAt ty2.out.byteAt tw4.out.byteAt ty3.out.byteAt).mono (fun e w' h => open_clip h)) ?_
    rintro e w5 ⟨m5, va, rfl, q5⟩
    rw [← hE.out]
    rw [← hX.out] at q5
    have l5 := q5.lt
    have z5 := m5.size
    have q5 := clip_base0 q5 m0.out.size
    replace hk := Lib.hid (hk.out.mod m5 (fun _ _ h => h))
    replace hn := Lib.hid (hn.out.mod m5 (fun _ _ h => h))
    replace hb := Lib.hid (hb.out.mod m5 (fun _ _ h => h))
    replace hp := Lib.hid (hp.out.mod m5 (fun _ _ h => h))
    replace x1 := Lib.hid (m5.heap x1.out (fun h => h))
    replace m0 := Lib.hid (m0.out.trans m5)
    replace x5 := Lib.hid (m5.heap x5.out (fun h => h))
    replace ty1 := Lib.hid (ty1.out.mod m5 (fun _ h => h))
    replace ty2 := Lib.hid (ty2.out.mod m5 (fun _ h => h))
    replace ty3 := Lib.hid (ty3.out.mod m5 (fun _ h => h))
    replace tw4 := Lib.hid (tw4.out.mod m5 (fun _ h => h))
    replace q4 := Lib.hid (clip_keep0 q4.out m5)
    replace q5 := Lib.hid q5
    replace l5 := Lib.hid l5
    replace z5 := Lib.hid z5
    clear m5
    refine ⟨_, rfl, ?_⟩
    simp only [Act.put, List.setIfInBounds_toArray, List.set_cons_zero, List.set_cons_succ]
    refine wpList_reads (by kernel_rfl) (.tuple #[va, .int .i64 E]) (by go_simp) ?_
    simp only [Act.put, List.setIfInBounds_toArray, List.set_cons_zero, List.set_cons_succ]
    refine wpList_reads (by kernel_rfl) (va) (by go_simp) ?_
    simp only [Act.put, List.setIfInBounds_toArray, List.set_cons_zero, List.set_cons_succ]
    refine wpList_reads (by kernel_rfl) (.int .i64 E) (by go_simp) ?_
    simp only [Act.put, List.setIfInBounds_toArray, List.set_cons_zero, List.set_cons_succ]
    refine wpList_reads (by kernel_rfl) (va) (by go_simp) ?_
    simp only [Act.put, List.setIfInBounds_toArray, List.set_cons_zero, List.set_cons_succ]
    refine wpList_reads (by kernel_rfl) (.int .i64 E) (by go_simp) ?_
    simp only [Act.put, List.setIfInBounds_toArray, List.set_cons_zero, List.set_cons_succ]
    go_upto_region 6 with (fail)
    refine wp_region_lit ?_
    refine wpList_reads (by kernel_rfl) (.pointer (some ⟨g5, 0, none⟩)) (by go_simp) ?_
    simp only [Act.put, List.setIfInBounds_toArray, List.set_cons_zero, List.set_cons_succ]
    refine wpList_reads (by kernel_rfl) (.slice q1 l1 c1) (run_load_op rfl rfl (ld_slC1 (show w5.cell? ⟨g5, 0, none⟩ = _ from cell_of_row _ _ _ _ _ _ x5.out))) ?_
    simp only [Act.put, List.setIfInBounds_toArray, List.set_cons_zero, List.set_cons_succ]
    refine wpList_reads (by kernel_rfl) (.pointer (some ⟨g5, 1, none⟩)) (by go_simp) ?_
    simp only [Act.put, List.setIfInBounds_toArray, List.set_cons_zero, List.set_cons_succ]
    refine wpList_reads (by kernel_rfl) (.slice q2 l2 c2) (run_load_op rfl rfl (ld_slC1 (show w5.cell? ⟨g5, 1, none⟩ = _ from cell_of_row _ _ _ _ _ _ x5.out))) ?_
    simp only [Act.put, List.setIfInBounds_toArray, List.set_cons_zero, List.set_cons_succ]
    refine wpList_reads (by kernel_rfl) (.slice (some ⟨gt4, 0, none⟩) NP (NP + 1)) (by go_simp) ?_
    simp only [Act.put, List.setIfInBounds_toArray, List.set_cons_zero, List.set_cons_succ]
    refine wpList_reads (by kernel_rfl) (.pointer (some ⟨g5, 2, none⟩)) (by go_simp) ?_
    simp only [Act.put, List.setIfInBounds_toArray, List.set_cons_zero, List.set_cons_succ]
    refine wpList_reads (by kernel_rfl) (.slice q3 l3 c3) (run_load_op rfl rfl (ld_slC1 (show w5.cell? ⟨g5, 2, none⟩ = _ from cell_of_row _ _ _ _ _ _ x5.out))) ?_
    simp only [Act.put, List.setIfInBounds_toArray, List.set_cons_zero, List.set_cons_succ]
    refine wpList_enter (by kernel_rfl) 15 #[.slice q1 l1 c1, .slice q2 l2 c2, .slice (some ⟨gt4, 0, none⟩) NP (NP + 1), .slice q3 l3 c3] (by go_simp) ((open_any _ _ _ _ k n p b hkl.out hnl.out hpl.out hbl.out w5 ty1.out.byteAt ty2.out.byteAt tw4.out.byteAt ty3.out.byteAt).mono (fun e w' h => open_clip h)) ?_
    rintro e w6 ⟨m6, vb, rfl, q6⟩
    rw [← hE.out]
    rw [← hX.out] at q6
    have l6 := q6.lt
    have z6 := m6.size
    have q6 := clip_base0 q6 m0.out.size
    replace hk := Lib.hid (hk.out.mod m6 (fun _ _ h => h))
    replace hn := Lib.hid (hn.out.mod m6 (fun _ _ h => h))
    replace hb := Lib.hid (hb.out.mod m6 (fun _ _ h => h))
    replace hp := Lib.hid (hp.out.mod m6 (fun _ _ h => h))
    replace x1 := Lib.hid (m6.heap x1.out (fun h => h))
    replace m0 := Lib.hid (m0.out.trans m6)
    replace x5 := Lib.hid (m6.heap x5.out (fun h => h))
    replace ty1 := Lib.hid (ty1.out.mod m6 (fun _ h => h))
    replace ty2 := Lib.hid (ty2.out.mod m6 (fun _ h => h))
    replace ty3 := Lib.hid (ty3.out.mod m6 (fun _ h => h))
    replace tw4 := Lib.hid (tw4.out.mod m6 (fun _ h => h))
    replace q4 := Lib.hid (clip_keep0 q4.out m6)
    replace q5 := Lib.hid (clip_keep0 q5.out m6)
    replace q6 := Lib.hid q6
    replace l6 := Lib.hid l6
    replace z6 := Lib.hid z6
    clear m6
    refine ⟨_, rfl, ?_⟩
    simp only [Act.put, List.setIfInBounds_toArray, List.set_cons_zero, List.set_cons_succ]
    refine wpList_reads (by kernel_rfl) (.tuple #[vb, .int .i64 E]) (by go_simp) ?_
    simp only [Act.put, List.setIfInBounds_toArray, List.set_cons_zero, List.set_cons_succ]
    refine wpList_reads (by kernel_rfl) (vb) (by go_simp) ?_
    simp only [Act.put, List.setIfInBounds_toArray, List.set_cons_zero, List.set_cons_succ]
    refine wpList_reads (by kernel_rfl) (.int .i64 E) (by go_simp) ?_
    simp only [Act.put, List.setIfInBounds_toArray, List.set_cons_zero, List.set_cons_succ]
    refine wpList_reads (by kernel_rfl) (vb) (by go_simp) ?_
    simp only [Act.put, List.setIfInBounds_toArray, List.set_cons_zero, List.set_cons_succ]
    refine wpList_reads (by kernel_rfl) (.int .i64 E) (by go_simp) ?_
    simp only [Act.put, List.setIfInBounds_toArray, List.set_cons_zero, List.set_cons_succ]
    go_upto_region 7 with (fail)
    refine wp_region_lit ?_
    refine wpList_reads (by kernel_rfl) (.pointer (some ⟨g1, 0, none⟩)) (by go_simp) ?_
    simp only [Act.put, List.setIfInBounds_toArray, List.set_cons_zero, List.set_cons_succ]
    refine wpList_reads (by kernel_rfl) (.slice ak NK ck) (run_load_op rfl rfl (ld_slC1 (show w6.cell? ⟨g1, 0, none⟩ = _ from cell_of_row _ _ _ _ _ _ x1.out))) ?_
    simp only [Act.put, List.setIfInBounds_toArray, List.set_cons_zero, List.set_cons_succ]
    refine wpList_reads (by kernel_rfl) (.pointer (some ⟨g1, 1, none⟩)) (by go_simp) ?_
    simp only [Act.put, List.setIfInBounds_toArray, List.set_cons_zero, List.set_cons_succ]
    refine wpList_reads (by kernel_rfl) (.slice an NN cn) (run_load_op rfl rfl (ld_slC1 (show w6.cell? ⟨g1, 1, none⟩ = _ from cell_of_row _ _ _ _ _ _ x1.out))) ?_
    simp only [Act.put, List.setIfInBounds_toArray, List.set_cons_zero, List.set_cons_succ]
    refine wpList_reads (by kernel_rfl) (.slice ap NP cp) (by go_simp) ?_
    simp only [Act.put, List.setIfInBounds_toArray, List.set_cons_zero, List.set_cons_succ]
    refine wpList_reads (by kernel_rfl) (.pointer (some ⟨g1, 2, none⟩)) (by go_simp) ?_
    simp only [Act.put, List.setIfInBounds_toArray, List.set_cons_zero, List.set_cons_succ]
    refine wpList_reads (by kernel_rfl) (.slice ab NB cb) (run_load_op rfl rfl (ld_slC1 (show w6.cell? ⟨g1, 2, none⟩ = _ from cell_of_row _ _ _ _ _ _ x1.out))) ?_
    simp only [Act.put, List.setIfInBounds_toArray, List.set_cons_zero, List.set_cons_succ]
    refine wpList_enter (by kernel_rfl) 16 #[.slice ak NK ck, .slice an NN cn, .slice ap NP cp, .slice ab NB cb] (by go_simp) ((refopen_any _ _ _ _ k n p b hkl.out hnl.out hpl.out hbl.out w6 hk.out hn.out hp.out hb.out).mono (fun e w' h => h)) ?_
    rintro e w7 ⟨m7, vc, rfl, q7⟩
    rw [← hE.out]
    rw [← hX.out] at q7
    have l7 := q7.lt
    have z7 := m7.size
    have q7 := clip_base0 q7 m0.out.size
    replace hk := Lib.hid (hk.out.mod m7 (fun _ _ h => h))
    replace hn := Lib.hid (hn.out.mod m7 (fun _ _ h => h))
    replace hb := Lib.hid (hb.out.mod m7 (fun _ _ h => h))
    replace hp := Lib.hid (hp.out.mod m7 (fun _ _ h => h))
    replace x1 := Lib.hid (m7.heap x1.out (fun h => h))
    replace m0 := Lib.hid (m0.out.trans m7)
    replace x5 := Lib.hid (m7.heap x5.out (fun h => h))
    replace ty1 := Lib.hid (ty1.out.mod m7 (fun _ h => h))
    replace ty2 := Lib.hid (ty2.out.mod m7 (fun _ h => h))
    replace ty3 := Lib.hid (ty3.out.mod m7 (fun _ h => h))
    replace tw4 := Lib.hid (tw4.out.mod m7 (fun _ h => h))
    replace q4 := Lib.hid (clip_keep0 q4.out m7)
    replace q5 := Lib.hid (clip_keep0 q5.out m7)
    replace q6 := Lib.hid (clip_keep0 q6.out m7)
    replace q7 := Lib.hid q7
    replace l7 := Lib.hid l7
    replace z7 := Lib.hid z7
    clear m7
    refine ⟨_, rfl, ?_⟩
    simp only [Act.put, List.setIfInBounds_toArray, List.set_cons_zero, List.set_cons_succ]
    refine wpList_reads (by kernel_rfl) (.tuple #[vc, .int .i64 E]) (by go_simp) ?_
    simp only [Act.put, List.setIfInBounds_toArray, List.set_cons_zero, List.set_cons_succ]
    refine wpList_reads (by kernel_rfl) (vc) (by go_simp) ?_
    simp only [Act.put, List.setIfInBounds_toArray, List.set_cons_zero, List.set_cons_succ]
    refine wpList_reads (by kernel_rfl) (.int .i64 E) (by go_simp) ?_
    simp only [Act.put, List.setIfInBounds_toArray, List.set_cons_zero, List.set_cons_succ]
    refine wpList_reads (by kernel_rfl) (vc) (by go_simp) ?_
    simp only [Act.put, List.setIfInBounds_toArray, List.set_cons_zero, List.set_cons_succ]
    refine wpList_reads (by kernel_rfl) (.int .i64 E) (by go_simp) ?_
    simp only [Act.put, List.setIfInBounds_toArray, List.set_cons_zero, List.set_cons_succ]
    go_upto_region 8 with (fail)
    refine wp_region_lit ?_
    refine wpList_reads (by kernel_rfl) (va) (by go_simp) ?_
    simp only [Act.put, List.setIfInBounds_toArray, List.set_cons_zero, List.set_cons_succ]
    refine wpList_reads (by kernel_rfl) (vc) (by go_simp) ?_
    simp only [Act.put, List.setIfInBounds_toArray, List.set_cons_zero, List.set_cons_succ]
    refine wpList_enter (by kernel_rfl) 10 #[va, vc] (by go_simp) (same_any _ _ X X w7 (clip_byteAt q5.out) (clip_byteAt q7.out) (by have := hXl.out; omega) (by have := hXl.out; omega)) ?_
    rintro e w8 ⟨m8, rfl⟩
    rw [show decide (X = X) = true by simp]
    replace hk := Lib.hid (hk.out.mod m8 (fun _ _ h => h))
    replace hn := Lib.hid (hn.out.mod m8 (fun _ _ h => h))
    replace hb := Lib.hid (hb.out.mod m8 (fun _ _ h => h))
    replace hp := Lib.hid (hp.out.mod m8 (fun _ _ h => h))
    replace x1 := Lib.hid (m8.heap x1.out (fun h => h))
    replace m0 := Lib.hid (m0.out.trans m8)
    replace x5 := Lib.hid (m8.heap x5.out (fun h => h))
    replace ty1 := Lib.hid (ty1.out.mod m8 (fun _ h => h))
    replace ty2 := Lib.hid (ty2.out.mod m8 (fun _ h => h))
    replace ty3 := Lib.hid (ty3.out.mod m8 (fun _ h => h))
    replace tw4 := Lib.hid (tw4.out.mod m8 (fun _ h => h))
    replace q4 := Lib.hid (clip_keep0 q4.out m8)
    replace q5 := Lib.hid (clip_keep0 q5.out m8)
    replace q6 := Lib.hid (clip_keep0 q6.out m8)
    replace q7 := Lib.hid (clip_keep0 q7.out m8)
    have z8 := Lib.hid m8.size
    clear m8
    refine ⟨_, rfl, ?_⟩
    simp only [Act.put, List.setIfInBounds_toArray, List.set_cons_zero, List.set_cons_succ]
    refine wpList_reads (by kernel_rfl) (.bool false) (by go_simp) ?_
    simp only [Act.put, List.setIfInBounds_toArray, List.set_cons_zero, List.set_cons_succ]
    refine wpList_reads (by kernel_rfl) (.bool false) (by go_simp) ?_
    simp only [Act.put, List.setIfInBounds_toArray, List.set_cons_zero, List.set_cons_succ]
    refine wpList_reads (by kernel_rfl) (vb) (by go_simp) ?_
    simp only [Act.put, List.setIfInBounds_toArray, List.set_cons_zero, List.set_cons_succ]
    refine wpList_reads (by kernel_rfl) (vc) (by go_simp) ?_
    simp only [Act.put, List.setIfInBounds_toArray, List.set_cons_zero, List.set_cons_succ]
    refine wpList_enter (by kernel_rfl) 10 #[vb, vc] (by go_simp) (same_any _ _ X X w8 (clip_byteAt q6.out) (clip_byteAt q7.out) (by have := hXl.out; omega) (by have := hXl.out; omega)) ?_
    rintro e w9 ⟨m9, rfl⟩
    rw [show decide (X = X) = true by simp]
    replace hk := Lib.hid (hk.out.mod m9 (fun _ _ h => h))
    replace hn := Lib.hid (hn.out.mod m9 (fun _ _ h => h))
    replace hb := Lib.hid (hb.out.mod m9 (fun _ _ h => h))
    replace hp := Lib.hid (hp.out.mod m9 (fun _ _ h => h))
    replace x1 := Lib.hid (m9.heap x1.out (fun h => h))
    replace m0 := Lib.hid (m0.out.trans m9)
    replace x5 := Lib.hid (m9.heap x5.out (fun h => h))
    replace ty1 := Lib.hid (ty1.out.mod m9 (fun _ h => h))
    replace ty2 := Lib.hid (ty2.out.mod m9 (fun _ h => h))
    replace ty3 := Lib.hid (ty3.out.mod m9 (fun _ h => h))
    replace tw4 := Lib.hid (tw4.out.mod m9 (fun _ h => h))
    replace q4 := Lib.hid (clip_keep0 q4.out m9)
    replace q5 := Lib.hid (clip_keep0 q5.out m9)
    replace q6 := Lib.hid (clip_keep0 q6.out m9)
    replace q7 := Lib.hid (clip_keep0 q7.out m9)
    have z9 := Lib.hid m9.size
    clear m9
    clear q7
    refine ⟨_, rfl, ?_⟩
    simp only [Act.put, List.setIfInBounds_toArray, List.set_cons_zero, List.set_cons_succ]
    refine wpList_reads (by kernel_rfl) (.bool false) (by go_simp) ?_
    simp only [Act.put, List.setIfInBounds_toArray, List.set_cons_zero, List.set_cons_succ]
    refine wpList_reads (by kernel_rfl) (.bool false) (by go_simp) ?_
    simp only [Act.put, List.setIfInBounds_toArray, List.set_cons_zero, List.set_cons_succ]
    refine wpList_reads (by kernel_rfl) (.bool false) (by go_simp) ?_
    simp only [Act.put, List.setIfInBounds_toArray, List.set_cons_zero, List.set_cons_succ]
    refine wpList_reads (by kernel_rfl) (.int .i64 E) (by go_simp) ?_
    simp only [Act.put, List.setIfInBounds_toArray, List.set_cons_zero, List.set_cons_succ]
    refine wpList_reads (by kernel_rfl) (.int .i64 E) (by go_simp) ?_
    simp only [Act.put, List.setIfInBounds_toArray, List.set_cons_zero, List.set_cons_succ]
    refine wpList_reads (by kernel_rfl) (.bool false) (by go_simp) ?_
    simp only [Act.put, List.setIfInBounds_toArray, List.set_cons_zero, List.set_cons_succ]
    refine wpList_reads (by kernel_rfl) (.bool false) (by go_simp) ?_
    simp only [Act.put, List.setIfInBounds_toArray, List.set_cons_zero, List.set_cons_succ]
    refine wpList_reads (by kernel_rfl) (.bool false) (by go_simp) ?_
    simp only [Act.put, List.setIfInBounds_toArray, List.set_cons_zero, List.set_cons_succ]
    refine wpList_reads (by kernel_rfl) (.agg #[.slice q1 l1 c1, .slice q2 l2 c2, .slice q3 l3 c3]) (run_load_op rfl rfl (loadWT x5.out)) ?_
    simp only [Act.put, List.setIfInBounds_toArray, List.set_cons_zero, List.set_cons_succ]
    refine wpList_reads (by kernel_rfl) (.agg #[.slice ak NK ck, .slice an NN cn, .slice ab NB cb]) (run_load_op rfl rfl (loadWT x1.out)) ?_
    simp only [Act.put, List.setIfInBounds_toArray, List.set_cons_zero, List.set_cons_succ]
    refine wpList_enter (by kernel_rfl) 11 #[.agg #[.slice q1 l1 c1, .slice q2 l2 c2, .slice q3 l3 c3], .agg #[.slice ak NK ck, .slice an NN cn, .slice ab NB cb]] (by go_simp) (wleft_any _ _ _ _ _ _ k n b hkl.out hnl.out hbl.out w9 ty1.out ty2.out ty3.out hk.out hn.out hb.out) ?_
    rintro e w10 ⟨m10, rfl⟩
    replace hk := Lib.hid (hk.out.mod m10 (fun _ _ h => h))
    replace hn := Lib.hid (hn.out.mod m10 (fun _ _ h => h))
    replace hb := Lib.hid (hb.out.mod m10 (fun _ _ h => h))
    replace hp := Lib.hid (hp.out.mod m10 (fun _ _ h => h))
    replace x1 := Lib.hid (m10.heap x1.out (fun h => h))
    replace m0 := Lib.hid (m0.out.trans m10)
    replace x5 := Lib.hid (m10.heap x5.out (fun h => h))
    replace ty1 := Lib.hid (ty1.out.mod m10 (fun _ h => h))
    replace ty2 := Lib.hid (ty2.out.mod m10 (fun _ h => h))
    replace ty3 := Lib.hid (ty3.out.mod m10 (fun _ h => h))
    replace tw4 := Lib.hid (tw4.out.mod m10 (fun _ h => h))
    replace q4 := Lib.hid (clip_keep0 q4.out m10)
    replace q5 := Lib.hid (clip_keep0 q5.out m10)
    replace q6 := Lib.hid (clip_keep0 q6.out m10)
    have z10 := Lib.hid m10.size
    clear m10
    clear ty1 ty2 ty3 hk hn hb x1 x5
    refine ⟨_, rfl, ?_⟩
    simp only [Act.put, List.setIfInBounds_toArray, List.set_cons_zero, List.set_cons_succ]
    refine wpList_reads (by kernel_rfl) (.bool false) (by go_simp) ?_
    simp only [Act.put, List.setIfInBounds_toArray, List.set_cons_zero, List.set_cons_succ]
    refine wpList_reads (by kernel_rfl) (.bool false) (by go_simp) ?_
    simp only [Act.put, List.setIfInBounds_toArray, List.set_cons_zero, List.set_cons_succ]
    refine wpList_reads (by kernel_rfl) (.bool false) (by go_simp) ?_
    simp only [Act.put, List.setIfInBounds_toArray, List.set_cons_zero, List.set_cons_succ]
    refine wpList_reads (by kernel_rfl) (.slice (some ⟨gt4, 0, none⟩) NP (NP + 1)) (by go_simp) ?_
    simp only [Act.put, List.setIfInBounds_toArray, List.set_cons_zero, List.set_cons_succ]
    refine wpList_reads (by kernel_rfl) (.slice ap NP cp) (by go_simp) ?_
    simp only [Act.put, List.setIfInBounds_toArray, List.set_cons_zero, List.set_cons_succ]
    refine wpList_enter (by kernel_rfl) 12 #[.slice (some ⟨gt4, 0, none⟩) NP (NP + 1), .slice ap NP cp] (by go_simp) (left_any _ _ p w10 tw4.out hp.out (by have := hpl.out; omega)) ?_
    rintro e w11 ⟨m11, rfl⟩
    replace hp := Lib.hid (hp.out.mod m11 (fun _ _ h => h))
    replace m0 := Lib.hid (m0.out.trans m11)
    replace tw4 := Lib.hid (tw4.out.mod m11 (fun _ h => h))
    replace q4 := Lib.hid (clip_keep0 q4.out m11)
    replace q5 := Lib.hid (clip_keep0 q5.out m11)
    replace q6 := Lib.hid (clip_keep0 q6.out m11)
    have z11 := Lib.hid m11.size
    clear m11
    clear tw4 hp
    refine ⟨_, rfl, ?_⟩
    simp only [Act.put, List.setIfInBounds_toArray, List.set_cons_zero, List.set_cons_succ]
    refine wpList_reads (by kernel_rfl) (.bool false) (by go_simp) ?_
    simp only [Act.put, List.setIfInBounds_toArray, List.set_cons_zero, List.set_cons_succ]
    refine wpList_reads (by kernel_rfl) (.bool false) (by go_simp) ?_
    simp only [Act.put, List.setIfInBounds_toArray, List.set_cons_zero, List.set_cons_succ]
    obtain ⟨t1, ht1⟩ : ∃ t, t = w1.heap.size := ⟨_, rfl⟩
    obtain ⟨t2, ht2⟩ : ∃ t, t = w2.heap.size := ⟨_, rfl⟩
    obtain ⟨t3, ht3⟩ : ∃ t, t = w3.heap.size := ⟨_, rfl⟩
    obtain ⟨t4, ht4⟩ : ∃ t, t = w4.heap.size := ⟨_, rfl⟩
    obtain ⟨t5, ht5⟩ : ∃ t, t = w5.heap.size := ⟨_, rfl⟩
    obtain ⟨t6, ht6⟩ : ∃ t, t = w6.heap.size := ⟨_, rfl⟩
    obtain ⟨t7, ht7⟩ : ∃ t, t = w7.heap.size := ⟨_, rfl⟩
    obtain ⟨t8, ht8⟩ : ∃ t, t = w8.heap.size := ⟨_, rfl⟩
    obtain ⟨t9, ht9⟩ : ∃ t, t = w9.heap.size := ⟨_, rfl⟩
    obtain ⟨t10, ht10⟩ : ∃ t, t = w10.heap.size := ⟨_, rfl⟩
    obtain ⟨t11, ht11⟩ : ∃ t, t = w11.heap.size := ⟨_, rfl⟩
    have z1 := z1.out
    rw [← ht1] at z1
    have z2 := z2.out
    rw [← ht2, ← ht1] at z2
    have z3 := z3.out
    rw [← ht3, ← ht2] at z3
    have z4 := z4.out
    rw [← ht4, ← ht3] at z4
    have z5 := z5.out
    rw [← ht5, ← ht4] at z5
    have z6 := z6.out
    rw [← ht6, ← ht5] at z6
    have z7 := z7.out
    rw [← ht7, ← ht6] at z7
    have z8 := z8.out
    rw [← ht8, ← ht7] at z8
    have z9 := z9.out
    rw [← ht9, ← ht8] at z9
    have z10 := z10.out
    rw [← ht10, ← ht9] at z10
    have z11 := z11.out
    rw [← ht11, ← ht10] at z11
    have l4 := l4.out
    rw [← ht4, ← ht3] at l4
    have l5 := l5.out
    rw [← ht5, ← ht4] at l5
    have l6 := l6.out
    rw [← ht6, ← ht5] at l6
    have hz11 : t11 ≤ w11.heap.size := by rw [ht11]; exact Nat.le_refl _
    replace z1 := Lib.hid z1
    replace z2 := Lib.hid z2
    replace z3 := Lib.hid z3
    replace z4 := Lib.hid z4
    replace z5 := Lib.hid z5
    replace z6 := Lib.hid z6
    replace z7 := Lib.hid z7
    replace z8 := Lib.hid z8
    replace z9 := Lib.hid z9
    replace z10 := Lib.hid z10
    replace z11 := Lib.hid z11
    replace l4 := Lib.hid l4
    replace l5 := Lib.hid l5
    replace l6 := Lib.hid l6
    replace ht1 := Lib.hid ht1
    replace ht2 := Lib.hid ht2
    replace ht3 := Lib.hid ht3
    replace ht4 := Lib.hid ht4
    replace ht5 := Lib.hid ht5
    replace ht6 := Lib.hid ht6
    replace ht7 := Lib.hid ht7
    replace ht8 := Lib.hid ht8
    replace ht9 := Lib.hid ht9
    replace ht10 := Lib.hid ht10
    replace ht11 := Lib.hid ht11
    replace hz11 := Lib.hid hz11
    obtain ⟨wx, hwx⟩ : ∃ x, x = w11.alloc (.cells (bookC 0 (.slice none 0 0)).toArray 46) := ⟨_, rfl⟩
    obtain ⟨B, hB⟩ : ∃ g, g = w11.heap.size := ⟨_, rfl⟩
    obtain ⟨wb, sb, mb, bk⟩ := BookT.made (w := w11) (base := w.heap.size) m0.out.size
    rw [← hwx, ← hB] at sb
    rw [← hB] at bk
    have hBt : t11 ≤ B := by rw [hB]; exact hz11.out
    have hBw : w.heap.size ≤ B := by rw [hB]; exact m0.out.size
    replace m0 := Lib.hid (m0.out.trans mb)
    replace q4 := Lib.hid (clip_keep0 q4.out mb)
    replace q5 := Lib.hid (clip_keep0 q5.out mb)
    replace q6 := Lib.hid (clip_keep0 q6.out mb)
    replace hwx := Lib.hid hwx
    replace hB := Lib.hid hB
    replace hBw := Lib.hid hBw
    replace bk := Lib.hid bk
    replace hBt := Lib.hid hBt
    have u4 : ∀ x, (.slice (some ⟨gt4, 0, none⟩) NP (NP + 1) : Value).ownBlock = some x → x < B := fun x hx => by have := (l4.out x hx).2; have := hBt.out; have := z2.out; have := z3.out; have := z4.out; have := z5.out; have := z6.out; have := z7.out; have := z8.out; have := z9.out; have := z10.out; have := z11.out; omega
    have u5 : ∀ x, (va : Value).ownBlock = some x → x < B := fun x hx => by have := (l5.out x hx).2; have := hBt.out; have := z2.out; have := z3.out; have := z4.out; have := z5.out; have := z6.out; have := z7.out; have := z8.out; have := z9.out; have := z10.out; have := z11.out; omega
    have u6 : ∀ x, (vb : Value).ownBlock = some x → x < B := fun x hx => by have := (l6.out x hx).2; have := hBt.out; have := z2.out; have := z3.out; have := z4.out; have := z5.out; have := z6.out; have := z7.out; have := z8.out; have := z9.out; have := z10.out; have := z11.out; omega
    replace u4 := Lib.hid u4
    replace u5 := Lib.hid u5
    replace u6 := Lib.hid u6
    clear mb
    go_upto_region 10 with (fail)
    refine wp_region_lit ?_
    refine wpList_yields (by kernel_rfl) _ _ (build_book _ _ _ rfl) ?_
    simp only [Act.put, List.setIfInBounds_toArray, List.set_cons_zero, List.set_cons_succ]
    refine wpList_yields (by kernel_rfl) _ _ (alloc_book _ _ _ rfl) ?_
    simp only [Act.put, List.setIfInBounds_toArray, List.set_cons_zero, List.set_cons_succ]
    rw [← hB.out, ← hwx.out]
    refine wpList_store_to rfl _ _ _ rfl _ _ _ rfl rfl _ sb ?_
    simp only [Act.put, List.setIfInBounds_toArray, List.set_cons_zero, List.set_cons_succ]
    clear sb
    have kp := keepT wb w.heap.size B 0 _ _ bk.out (.slice (some ⟨gt4, 0, none⟩) NP (NP + 1)) p q4.out (fun x hx => ⟨fun h => h, u4.out x hx⟩) (by omega) (hpl.out)
    go_upto_region 11 with (fail)
    refine wp_region_lit ?_
    refine wpList_reads (by kernel_rfl) (.slice (some ⟨gt4, 0, none⟩) NP (NP + 1)) (by go_simp) ?_
    simp only [Act.put, List.setIfInBounds_toArray, List.set_cons_zero, List.set_cons_succ]
    refine wpList_enter (by kernel_rfl) 13 #[.pointer (some ⟨B, 0, none⟩), .slice (some ⟨gt4, 0, none⟩) NP (NP + 1)] (by go_simp) (kp) ?_
    rintro e b4 ⟨rfl, mk, vk4, bk⟩
    clear kp
    clear q4
    replace m0 := Lib.hid (m0.out.trans' mk (fun x hx h => by have := hBw.out; omega))
    replace q5 := Lib.hid (clip_below q5.out mk u5.out)
    replace q6 := Lib.hid (clip_below q6.out mk u6.out)
    replace bk := Lib.hid (bk.mono (T' := fun x => x < t4) (fun x hx => hx.elim (fun h => h.elim) (fun h => (l4.out x h).2)))
    clear mk
    refine ⟨_, rfl, ?_⟩
    simp only [Act.put, List.setIfInBounds_toArray, List.set_cons_zero, List.set_cons_succ]
    have kp := keepT b4 w.heap.size B 1 _ _ bk.out (va) X q5.out (fun x hx => ⟨fun h => by have := (l5.out x hx).1; have := z2.out; have := z3.out; have := z4.out; have := z5.out; have := z6.out; have := z7.out; have := z8.out; have := z9.out; have := z10.out; have := z11.out; omega, u5.out x hx⟩) (by omega) (by have := hXl.out; omega)
    go_upto_region 12 with (fail)
    refine wp_region_lit ?_
    refine wpList_reads (by kernel_rfl) (va) (by go_simp) ?_
    simp only [Act.put, List.setIfInBounds_toArray, List.set_cons_zero, List.set_cons_succ]
    refine wpList_enter (by kernel_rfl) 13 #[.pointer (some ⟨B, 0, none⟩), va] (by go_simp) (kp) ?_
    rintro e b5 ⟨rfl, mk, vk5, bk⟩
    clear kp
    clear q5
    replace m0 := Lib.hid (m0.out.trans' mk (fun x hx h => by have := hBw.out; omega))
    replace q6 := Lib.hid (clip_below q6.out mk u6.out)
    replace bk := Lib.hid (bk.mono (T' := fun x => x < t5) (fun x hx => hx.elim (fun h => by have := z2.out; have := z3.out; have := z4.out; have := z5.out; have := z6.out; have := z7.out; have := z8.out; have := z9.out; have := z10.out; have := z11.out; omega) (fun h => (l5.out x h).2)))
    clear mk
    refine ⟨_, rfl, ?_⟩
    simp only [Act.put, List.setIfInBounds_toArray, List.set_cons_zero, List.set_cons_succ]
    have kp := keepT b5 w.heap.size B 2 _ _ bk.out (vb) X q6.out (fun x hx => ⟨fun h => by have := (l6.out x hx).1; have := z2.out; have := z3.out; have := z4.out; have := z5.out; have := z6.out; have := z7.out; have := z8.out; have := z9.out; have := z10.out; have := z11.out; omega, u6.out x hx⟩) (by omega) (by have := hXl.out; omega)
    go_upto_region 13 with (fail)
    refine wp_region_lit ?_
    refine wpList_reads (by kernel_rfl) (vb) (by go_simp) ?_
    simp only [Act.put, List.setIfInBounds_toArray, List.set_cons_zero, List.set_cons_succ]
    refine wpList_enter (by kernel_rfl) 13 #[.pointer (some ⟨B, 0, none⟩), vb] (by go_simp) (kp) ?_
    rintro e b6 ⟨rfl, mk, vk6, bk⟩
    clear kp
    clear q6
    replace m0 := Lib.hid (m0.out.trans' mk (fun x hx h => by have := hBw.out; omega))
    replace bk := Lib.hid (bk.mono (T' := fun x => x < t6) (fun x hx => hx.elim (fun h => by have := z2.out; have := z3.out; have := z4.out; have := z5.out; have := z6.out; have := z7.out; have := z8.out; have := z9.out; have := z10.out; have := z11.out; omega) (fun h => (l6.out x h).2)))
    clear mk
    refine ⟨_, rfl, ?_⟩
    simp only [Act.put, List.setIfInBounds_toArray, List.set_cons_zero, List.set_cons_succ]
    go_upto_region 14 with (fail)
    refine wp_region_lit ?_
    refine wpList_enter (by kernel_rfl) 14 #[.pointer (some ⟨B, 0, none⟩)] (by go_simp) (apartT b6 w.heap.size B 3 _ _ bk.out) ?_
    rintro e y1 ⟨rfl, ma⟩
    have mf := m0.out.trans' ma (fun x hx h => by omega)
    replace mf := Lib.hid mf
    clear ma bk
    refine ⟨_, rfl, ?_⟩
    simp only [Act.put, List.setIfInBounds_toArray, List.set_cons_zero, List.set_cons_succ]
    refine wpList_reads (by kernel_rfl) (.bool true) (by go_simp) ?_
    simp only [Act.put, List.setIfInBounds_toArray, List.set_cons_zero, List.set_cons_succ]
    go_wp2
    go_ret
    exact ⟨mf.out, rfl⟩
end Go.Proofs.YtbiijcljpgannaaGreatDoor
