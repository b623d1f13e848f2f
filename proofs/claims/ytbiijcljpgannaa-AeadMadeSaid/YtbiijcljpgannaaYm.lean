/-
  mailcoachlaw06.AeadBack. Printed by gen/pa6.py.
-/
import Derived.Test.YtbiijcljpgannaaYl
namespace Go.Proofs.Ytbiijcljpgannaa
open Go Go.RowKit Go.Lib
set_option linter.unusedSimpArgs false
set_option linter.unusedVariables false

set_option maxRecDepth 100000 in
set_option maxHeartbeats 4000000 in
theorem back_any (vk vn vb vp : Value) (k n b p : List (BitVec 8)) (w : World) (hk : ByteAt w vk k) (hn : ByteAt w vn n) (hb : ByteAt w vb b) (hp : ByteAt w vp p) (hkl : k.length ≤ 140737488351232) (hnl : n.length ≤ 140737488351232) (hbl : b.length ≤ 140737488351232) (hpl : p.length ≤ 140737488351232) :
    Calls Try.prog 3 #[.agg #[vk, vn, vb], vp] w fun e w' => Mod (fun _ => False) w w' ∧ e = .returned (.bool true) := by
  obtain ⟨NK, hNK⟩ : ∃ x, x = k.length := ⟨_, rfl⟩
  obtain ⟨NN, hNN⟩ : ∃ x, x = n.length := ⟨_, rfl⟩
  obtain ⟨NP, hNP⟩ : ∃ x, x = p.length := ⟨_, rfl⟩
  obtain ⟨NB, hNB⟩ : ∃ x, x = b.length := ⟨_, rfl⟩
  obtain ⟨ak, ck, rfl⟩ := hk.sliceN hNK.symm
  obtain ⟨an, cn, rfl⟩ := hn.sliceN hNN.symm
  obtain ⟨ap, cp, rfl⟩ := hp.sliceN hNP.symm
  obtain ⟨ab, cb, rfl⟩ := hb.sliceN hNB.symm
  have bp0 : (0 : Int) ≤ (NP : Int) := by omega
  have bpx : (NP : Int) ≤ 140737488351232 := by omega
  obtain ⟨w1, hw1⟩ : ∃ x, x = w.alloc (.cells #[.slice ak NK ck, .slice an NN cn, .slice ab NB cb] 24) := ⟨_, rfl⟩
  obtain ⟨g1, hg1⟩ : ∃ x, x = w.heap.size := ⟨_, rfl⟩
  have m0 : Mod (fun _ => False) w w1 := by rw [hw1]; exact (Mod.refl _ _).alloc _
  have x1 : w1.heap[g1]? = some (.cells #[.slice ak NK ck, .slice an NN cn, .slice ab NB cb] 24 (0,0)) := by rw [hw1]; exact hp_new _ _ _ hg1
  replace hk := hk.mod m0 (fun _ _ h => h)
  replace hn := hn.mod m0 (fun _ _ h => h)
  replace hp := hp.mod m0 (fun _ _ h => h)
  replace hb := hb.mod m0 (fun _ _ h => h)
  replace hNK := Lib.hid hNK
  replace hNN := Lib.hid hNN
  replace hNP := Lib.hid hNP
  replace hNB := Lib.hid hNB
  replace hw1 := Lib.hid hw1
  replace hg1 := Lib.hid hg1
  replace m0 := Lib.hid m0
  replace x1 := Lib.hid x1
  replace hk := Lib.hid hk
  replace hn := Lib.hid hn
  replace hp := Lib.hid hp
  replace hb := Lib.hid hb
  replace hkl := Lib.hid hkl
  replace hnl := Lib.hid hnl
  replace hpl := Lib.hid hpl
  replace hbl := Lib.hid hbl
  go_enter Try.func3, Try.ntmps3
  go_upto_region 0 with (fail)
  refine wp_region_lit ?_
  refine wpList_yields (by kernel_rfl) (.pointer (some ⟨g1, 0, none⟩)) w1 (by rw [hw1.out, hg1.out]; simp [execOp, Instr.box, Sem.run_bind, newVar, newRow, Value.cells]; rfl) ?_
  simp only [Act.put, List.setIfInBounds_toArray, List.set_cons_zero, List.set_cons_succ]
  refine wpList_reads (by kernel_rfl) (.bool false) (by go_simp) ?_
  simp only [Act.put, List.setIfInBounds_toArray, List.set_cons_zero, List.set_cons_succ]
  go_upto_region 1 with (fail)
  refine wp_region_lit ?_
  refine wpList_enter (by kernel_rfl) 6 #[] (by go_simp) (alive_any w1) ?_
  rintro e w2 ⟨m2, rfl⟩
  replace hk := Lib.hid (hk.out.mod m2 (fun _ _ h => h))
  replace hn := Lib.hid (hn.out.mod m2 (fun _ _ h => h))
  replace hp := Lib.hid (hp.out.mod m2 (fun _ _ h => h))
  replace hb := Lib.hid (hb.out.mod m2 (fun _ _ h => h))
  replace x1 := Lib.hid (m2.heap x1.out (fun h => h))
  replace m0 := Lib.hid (m0.out.trans m2)
  clear m2
  have lw := loadWT x1.out
  refine ⟨_, rfl, ?_⟩
  simp only [Act.put, List.setIfInBounds_toArray, List.set_cons_zero, List.set_cons_succ]
  refine wpList_reads (by kernel_rfl) (.bool false) (by go_simp) ?_
  simp only [Act.put, List.setIfInBounds_toArray, List.set_cons_zero, List.set_cons_succ]
  refine wpList_reads (by kernel_rfl) (.bool false) (by go_simp) ?_
  simp only [Act.put, List.setIfInBounds_toArray, List.set_cons_zero, List.set_cons_succ]
  refine wpList_reads (by kernel_rfl) (.agg #[.slice ak NK ck, .slice an NN cn, .slice ab NB cb]) (run_load_op rfl rfl lw) ?_
  simp only [Act.put, List.setIfInBounds_toArray, List.set_cons_zero, List.set_cons_succ]
  refine wpList_reads (by kernel_rfl) (.slice ap NP cp) (by go_simp) ?_
  simp only [Act.put, List.setIfInBounds_toArray, List.set_cons_zero, List.set_cons_succ]
  clear lw
  refine wpList_enter (by kernel_rfl) 7 #[.agg #[.slice ak NK ck, .slice an NN cn, .slice ab NB cb], .slice ap NP cp] (by go_simp) (great_any ak an ab ap NK NN NB NP ck cn cb cp (by rw [hNK.out]; exact hkl.out) (by rw [hNN.out]; exact hnl.out) (by rw [hNB.out]; exact hbl.out) (by rw [hNP.out]; exact hpl.out) w2) ?_
  rintro e w3 ⟨m3, d, rfl⟩
  replace hk := Lib.hid (hk.out.mod m3 (fun _ _ h => h))
  replace hn := Lib.hid (hn.out.mod m3 (fun _ _ h => h))
  replace hp := Lib.hid (hp.out.mod m3 (fun _ _ h => h))
  replace hb := Lib.hid (hb.out.mod m3 (fun _ _ h => h))
  replace x1 := Lib.hid (m3.heap x1.out (fun h => h))
  replace m0 := Lib.hid (m0.out.trans m3)
  clear m3
  refine ⟨_, rfl, ?_⟩
  simp only [Act.put, List.setIfInBounds_toArray, List.set_cons_zero, List.set_cons_succ]
  refine wpList_reads (by kernel_rfl) (.bool d) (by go_simp) ?_
  simp only [Act.put, List.setIfInBounds_toArray, List.set_cons_zero, List.set_cons_succ]
  cases d with
  | true =>
    go_upto_region 2 with (fail)
    refine wp_region_lit ?_
    refine wpList_enter (by kernel_rfl) 6 #[] (by go_simp) (alive_any w3) ?_
    rintro e w4 ⟨m4, rfl⟩
    have mf := m0.out.trans m4
    replace mf := Lib.hid mf
    clear m4
    refine ⟨_, rfl, ?_⟩
    simp only [Act.put, List.setIfInBounds_toArray, List.set_cons_zero, List.set_cons_succ]
    refine wpList_reads (by kernel_rfl) (.bool true) (by go_simp) ?_
    simp only [Act.put, List.setIfInBounds_toArray, List.set_cons_zero, List.set_cons_succ]
    go_wp2
    go_ret
    exact ⟨mf.out, rfl⟩
  | false =>
    have l0 := ld_slC1 (show w3.cell? ⟨g1, 0, none⟩ = _ from cell_of_row _ _ _ _ _ _ x1.out)
    have l1 := ld_slC1 (show w3.cell? ⟨g1, 1, none⟩ = _ from cell_of_row _ _ _ _ _ _ x1.out)
    have l2 := ld_slC1 (show w3.cell? ⟨g1, 2, none⟩ = _ from cell_of_row _ _ _ _ _ _ x1.out)
    go_upto_region 3 with (fail)
    refine wp_region_lit ?_
    refine wpList_reads (by kernel_rfl) (.pointer (some ⟨g1, 0, none⟩)) (by go_simp) ?_
    simp only [Act.put, List.setIfInBounds_toArray, List.set_cons_zero, List.set_cons_succ]
    refine wpList_reads (by kernel_rfl) (.slice ak NK ck) (run_load_op rfl rfl l0) ?_
    simp only [Act.put, List.setIfInBounds_toArray, List.set_cons_zero, List.set_cons_succ]
    refine wpList_reads (by kernel_rfl) (.pointer (some ⟨g1, 1, none⟩)) (by go_simp) ?_
    simp only [Act.put, List.setIfInBounds_toArray, List.set_cons_zero, List.set_cons_succ]
    refine wpList_reads (by kernel_rfl) (.slice an NN cn) (run_load_op rfl rfl l1) ?_
    simp only [Act.put, List.setIfInBounds_toArray, List.set_cons_zero, List.set_cons_succ]
    refine wpList_reads (by kernel_rfl) (.slice ap NP cp) (by go_simp) ?_
    simp only [Act.put, List.setIfInBounds_toArray, List.set_cons_zero, List.set_cons_succ]
    refine wpList_reads (by kernel_rfl) (.pointer (some ⟨g1, 2, none⟩)) (by go_simp) ?_
    simp only [Act.put, List.setIfInBounds_toArray, List.set_cons_zero, List.set_cons_succ]
    refine wpList_reads (by kernel_rfl) (.slice ab NB cb) (run_load_op rfl rfl l2) ?_
    simp only [Act.put, List.setIfInBounds_toArray, List.set_cons_zero, List.set_cons_succ]
    clear l0 l1 l2
    refine wpList_enter (by kernel_rfl) 8 #[.slice ak NK ck, .slice an NN cn, .slice ap NP cp, .slice ab NB cb] (by go_simp) (seal_any _ _ _ _ k n p b hkl.out hnl.out hpl.out hbl.out w3 hk.out hn.out hp.out hb.out) ?_
    rintro e w4 ⟨m4, v4, rfl, own4⟩
    have hz4 : w.heap.size ≤ w3.heap.size := m0.out.size
    have lt34 := lt_of_heap x1.out
    replace hk := Lib.hid (hk.out.mod m4 (fun _ _ h => h))
    replace hn := Lib.hid (hn.out.mod m4 (fun _ _ h => h))
    replace hp := Lib.hid (hp.out.mod m4 (fun _ _ h => h))
    replace hb := Lib.hid (hb.out.mod m4 (fun _ _ h => h))
    replace x1 := Lib.hid (m4.heap x1.out (fun h => h))
    replace m0 := Lib.hid (m0.out.trans m4)
    clear m4
    obtain ⟨E, hE⟩ : ∃ E, sealE k n p b = E := ⟨_, rfl⟩
    obtain ⟨X, hX⟩ : ∃ X, sealX k n p b = X := ⟨_, rfl⟩
    rw [hE]
    rw [hX] at own4
    have hca := seal_cases k n p b
    rw [hE, hX] at hca
    rcases hca with ⟨rfl, h32, h12, hP, hB, hXS⟩ | ⟨rfl | rfl, hX2⟩
    · have hXl : X.length = NP + 16 := by rw [hXS, sealS_length, hNP.out]
      obtain ⟨a4, c4, rfl⟩ := own_sliceP own4
      rw [hXl] at own4 ⊢
      have r4 : ByteAt w4 (.slice a4 (NP + 16) c4) X := by have := byteAt_of_own own4; exact this
      obtain ⟨L, hL⟩ : ∃ L, L = NP + 16 := ⟨_, rfl⟩
      rw [← hL] at r4 hXl ⊢
      have hLi : (NP : Int) + 16 = (L : Int) := by omega
      have bL0 : (0 : Int) ≤ (L : Int) := by omega
      have wL : IntKind.i64.wrap (L : Int) = (L : Int) := by rw [IntKind.wrap_i64]; omega
      have hoE : openE k n X b = 0 := by rw [hXS]; exact (open_seal h32 h12 hP hB).1
      have hoX : openX k n X b = p := by rw [hXS]; exact (open_seal h32 h12 hP hB).2
      have hP' : NP ≤ 1048576 := by rw [hNP.out]; exact hP
      replace r4 := Lib.hid r4
      replace hXl := Lib.hid hXl
      replace hL := Lib.hid hL
      replace hoE := Lib.hid hoE
      replace hoX := Lib.hid hoX
      replace hz4 := Lib.hid hz4
      replace hP' := Lib.hid hP'
      clear own4 hX hE hXS h32 h12 hP hB hz4 lt34
      refine ⟨_, rfl, ?_⟩
      simp only [Act.put, List.setIfInBounds_toArray, List.set_cons_zero, List.set_cons_succ]
      refine wpList_reads (by kernel_rfl) (.tuple #[.slice a4 L c4, .int .i64 0]) (by go_simp) ?_
      simp only [Act.put, List.setIfInBounds_toArray, List.set_cons_zero, List.set_cons_succ]
      refine wpList_reads (by kernel_rfl) (.slice a4 L c4) (by go_simp) ?_
      simp only [Act.put, List.setIfInBounds_toArray, List.set_cons_zero, List.set_cons_succ]
      refine wpList_reads (by kernel_rfl) (.int .i64 0) (by go_simp) ?_
      simp only [Act.put, List.setIfInBounds_toArray, List.set_cons_zero, List.set_cons_succ]
      refine wpList_reads (by kernel_rfl) (.slice a4 L c4) (by go_simp) ?_
      simp only [Act.put, List.setIfInBounds_toArray, List.set_cons_zero, List.set_cons_succ]
      refine wpList_reads (by kernel_rfl) (.int .i64 0) (by go_simp) ?_
      simp only [Act.put, List.setIfInBounds_toArray, List.set_cons_zero, List.set_cons_succ]
      have l0 := ld_slC1 (show w4.cell? ⟨g1, 0, none⟩ = _ from cell_of_row _ _ _ _ _ _ x1.out)
      have l1 := ld_slC1 (show w4.cell? ⟨g1, 1, none⟩ = _ from cell_of_row _ _ _ _ _ _ x1.out)
      have l2 := ld_slC1 (show w4.cell? ⟨g1, 2, none⟩ = _ from cell_of_row _ _ _ _ _ _ x1.out)
      go_upto_region 6 with (fail)
      refine wp_region_lit ?_
      refine wpList_reads (by kernel_rfl) (.pointer (some ⟨g1, 0, none⟩)) (by go_simp) ?_
      simp only [Act.put, List.setIfInBounds_toArray, List.set_cons_zero, List.set_cons_succ]
      refine wpList_reads (by kernel_rfl) (.slice ak NK ck) (run_load_op rfl rfl l0) ?_
      simp only [Act.put, List.setIfInBounds_toArray, List.set_cons_zero, List.set_cons_succ]
      refine wpList_reads (by kernel_rfl) (.pointer (some ⟨g1, 1, none⟩)) (by go_simp) ?_
      simp only [Act.put, List.setIfInBounds_toArray, List.set_cons_zero, List.set_cons_succ]
      refine wpList_reads (by kernel_rfl) (.slice an NN cn) (run_load_op rfl rfl l1) ?_
      simp only [Act.put, List.setIfInBounds_toArray, List.set_cons_zero, List.set_cons_succ]
      refine wpList_reads (by kernel_rfl) (.slice a4 L c4) (by go_simp) ?_
      simp only [Act.put, List.setIfInBounds_toArray, List.set_cons_zero, List.set_cons_succ]
      refine wpList_reads (by kernel_rfl) (.pointer (some ⟨g1, 2, none⟩)) (by go_simp) ?_
      simp only [Act.put, List.setIfInBounds_toArray, List.set_cons_zero, List.set_cons_succ]
      refine wpList_reads (by kernel_rfl) (.slice ab NB cb) (run_load_op rfl rfl l2) ?_
      simp only [Act.put, List.setIfInBounds_toArray, List.set_cons_zero, List.set_cons_succ]
      clear l0 l1 l2
      refine wpList_enter (by kernel_rfl) 9 #[.slice ak NK ck, .slice an NN cn, .slice a4 L c4, .slice ab NB cb] (by go_simp) (open_any _ _ _ _ k n X b hkl.out hnl.out (by rw [hXl.out, hL.out]; have := hP'.out; omega) hbl.out w4 hk.out hn.out r4.out hb.out) ?_
      rintro e w5 ⟨m5, v5, rfl, own5⟩
      rw [hoE.out]
      rw [hoX.out] at own5
      have k5 := byteAt_of_own own5
      replace hk := Lib.hid (hk.out.mod m5 (fun _ _ h => h))
      replace hn := Lib.hid (hn.out.mod m5 (fun _ _ h => h))
      replace hp := Lib.hid (hp.out.mod m5 (fun _ _ h => h))
      replace hb := Lib.hid (hb.out.mod m5 (fun _ _ h => h))
      replace x1 := Lib.hid (m5.heap x1.out (fun h => h))
      replace m0 := Lib.hid (m0.out.trans m5)
      replace k5 := Lib.hid k5
      clear m5 own5
      refine ⟨_, rfl, ?_⟩
      simp only [Act.put, List.setIfInBounds_toArray, List.set_cons_zero, List.set_cons_succ]
      refine wpList_reads (by kernel_rfl) (.tuple #[v5, .int .i64 0]) (by go_simp) ?_
      simp only [Act.put, List.setIfInBounds_toArray, List.set_cons_zero, List.set_cons_succ]
      refine wpList_reads (by kernel_rfl) (v5) (by go_simp) ?_
      simp only [Act.put, List.setIfInBounds_toArray, List.set_cons_zero, List.set_cons_succ]
      refine wpList_reads (by kernel_rfl) (.int .i64 0) (by go_simp) ?_
      simp only [Act.put, List.setIfInBounds_toArray, List.set_cons_zero, List.set_cons_succ]
      refine wpList_reads (by kernel_rfl) (v5) (by go_simp) ?_
      simp only [Act.put, List.setIfInBounds_toArray, List.set_cons_zero, List.set_cons_succ]
      refine wpList_reads (by kernel_rfl) (.int .i64 0) (by go_simp) ?_
      simp only [Act.put, List.setIfInBounds_toArray, List.set_cons_zero, List.set_cons_succ]
      go_upto_region 7 with (fail)
      refine wp_region_lit ?_
      refine wpList_reads (by kernel_rfl) (.int .i64 0) (by go_simp) ?_
      simp only [Act.put, List.setIfInBounds_toArray, List.set_cons_zero, List.set_cons_succ]
      refine wpList_reads (by kernel_rfl) (.bool true) (by go_simp) ?_
      simp only [Act.put, List.setIfInBounds_toArray, List.set_cons_zero, List.set_cons_succ]
      refine wpList_reads (by kernel_rfl) (.bool true) (by go_simp) ?_
      simp only [Act.put, List.setIfInBounds_toArray, List.set_cons_zero, List.set_cons_succ]
      refine wpList_reads (by kernel_rfl) (.slice a4 L c4) (by go_simp) ?_
      simp only [Act.put, List.setIfInBounds_toArray, List.set_cons_zero, List.set_cons_succ]
      refine wpList_reads (by kernel_rfl) (.int .i64 (L : Int)) (by go_simp) ?_
      simp only [Act.put, List.setIfInBounds_toArray, List.set_cons_zero, List.set_cons_succ]
      refine wpList_reads (by kernel_rfl) (.slice ap NP cp) (by go_simp) ?_
      simp only [Act.put, List.setIfInBounds_toArray, List.set_cons_zero, List.set_cons_succ]
      refine wpList_reads (by kernel_rfl) (.int .i64 (NP : Int)) (by go_simp) ?_
      simp only [Act.put, List.setIfInBounds_toArray, List.set_cons_zero, List.set_cons_succ]
      refine wpList_reads (by kernel_rfl) (.int .i64 (L : Int)) (by go_simp) ?_
      simp only [Act.put, List.setIfInBounds_toArray, List.set_cons_zero, List.set_cons_succ]
      refine wpList_reads (by kernel_rfl) (.bool true) (by go_simp) ?_
      simp only [Act.put, List.setIfInBounds_toArray, List.set_cons_zero, List.set_cons_succ]
      refine wpList_reads (by kernel_rfl) (.bool true) (by go_simp) ?_
      simp only [Act.put, List.setIfInBounds_toArray, List.set_cons_zero, List.set_cons_succ]
      refine wpList_reads (by kernel_rfl) (.bool true) (by go_simp) ?_
      simp only [Act.put, List.setIfInBounds_toArray, List.set_cons_zero, List.set_cons_succ]
      refine wpList_reads (by kernel_rfl) (v5) (by go_simp) ?_
      simp only [Act.put, List.setIfInBounds_toArray, List.set_cons_zero, List.set_cons_succ]
      refine wpList_reads (by kernel_rfl) (.slice ap NP cp) (by go_simp) ?_
      simp only [Act.put, List.setIfInBounds_toArray, List.set_cons_zero, List.set_cons_succ]
      refine wpList_enter (by kernel_rfl) 10 #[v5, .slice ap NP cp] (by go_simp) (same_any _ _ p p w5 k5.out hp.out (by have := hpl.out; omega) (by have := hpl.out; omega)) ?_
      rintro e w6 ⟨m6, rfl⟩
      rw [show decide (p = p) = true by simp]
      have mf := m0.out.trans m6
      replace mf := Lib.hid mf
      refine ⟨_, rfl, ?_⟩
      simp only [Act.put, List.setIfInBounds_toArray, List.set_cons_zero, List.set_cons_succ]
      refine wpList_reads (by kernel_rfl) (.bool true) (by go_simp) ?_
      simp only [Act.put, List.setIfInBounds_toArray, List.set_cons_zero, List.set_cons_succ]
      refine wpList_reads (by kernel_rfl) (.bool true) (by go_simp) ?_
      simp only [Act.put, List.setIfInBounds_toArray, List.set_cons_zero, List.set_cons_succ]
      go_wp2
      go_ret
      exact ⟨mf.out, rfl⟩
    · subst hX2
      have hl0 : ([] : List (BitVec 8)).length = 0 := rfl
      obtain ⟨a4, c4, rfl⟩ := own_sliceP own4
      clear own4 hX hE
      replace hz4 := Lib.hid hz4
      refine ⟨_, rfl, ?_⟩
      simp only [Act.put, List.setIfInBounds_toArray, List.set_cons_zero, List.set_cons_succ]
      refine wpList_reads (by kernel_rfl) (.tuple #[.slice a4 0 c4, .int .i64 1]) (by go_simp) ?_
      simp only [Act.put, List.setIfInBounds_toArray, List.set_cons_zero, List.set_cons_succ]
      refine wpList_reads (by kernel_rfl) (.slice a4 0 c4) (by go_simp) ?_
      simp only [Act.put, List.setIfInBounds_toArray, List.set_cons_zero, List.set_cons_succ]
      refine wpList_reads (by kernel_rfl) (.int .i64 1) (by go_simp) ?_
      simp only [Act.put, List.setIfInBounds_toArray, List.set_cons_zero, List.set_cons_succ]
      refine wpList_reads (by kernel_rfl) (.slice a4 0 c4) (by go_simp) ?_
      simp only [Act.put, List.setIfInBounds_toArray, List.set_cons_zero, List.set_cons_succ]
      refine wpList_reads (by kernel_rfl) (.int .i64 1) (by go_simp) ?_
      simp only [Act.put, List.setIfInBounds_toArray, List.set_cons_zero, List.set_cons_succ]
      go_wp2
      go_ret
      exact ⟨m0.out, rfl⟩
    · subst hX2
      have hl0 : ([] : List (BitVec 8)).length = 0 := rfl
      obtain ⟨a4, c4, rfl⟩ := own_sliceP own4
      clear own4 hX hE
      replace hz4 := Lib.hid hz4
      refine ⟨_, rfl, ?_⟩
      simp only [Act.put, List.setIfInBounds_toArray, List.set_cons_zero, List.set_cons_succ]
      refine wpList_reads (by kernel_rfl) (.tuple #[.slice a4 0 c4, .int .i64 3]) (by go_simp) ?_
      simp only [Act.put, List.setIfInBounds_toArray, List.set_cons_zero, List.set_cons_succ]
      refine wpList_reads (by kernel_rfl) (.slice a4 0 c4) (by go_simp) ?_
      simp only [Act.put, List.setIfInBounds_toArray, List.set_cons_zero, List.set_cons_succ]
      refine wpList_reads (by kernel_rfl) (.int .i64 3) (by go_simp) ?_
      simp only [Act.put, List.setIfInBounds_toArray, List.set_cons_zero, List.set_cons_succ]
      refine wpList_reads (by kernel_rfl) (.slice a4 0 c4) (by go_simp) ?_
      simp only [Act.put, List.setIfInBounds_toArray, List.set_cons_zero, List.set_cons_succ]
      refine wpList_reads (by kernel_rfl) (.int .i64 3) (by go_simp) ?_
      simp only [Act.put, List.setIfInBounds_toArray, List.set_cons_zero, List.set_cons_succ]
      go_wp2
      go_ret
      exact ⟨m0.out, rfl⟩
end Go.Proofs.Ytbiijcljpgannaa
