/-
  mailcoachlaw06.AeadTag. Printed by gen/pa6.py.
-/
import Derived.Test.YtbiijcljpgannaaYm
import Derived.Test.YtbiijcljpgannaaCl
import Derived.Laws.BitsAllLaws
namespace Go.Proofs.Ytbiijcljpgannaa
open Go Go.RowKit Go.Lib
set_option linter.unusedSimpArgs false
set_option linter.unusedVariables false

set_option maxRecDepth 100000 in
set_option maxHeartbeats 4000000 in
theorem atag_any (vk vn vb vp : Value) (k n b p : List (BitVec 8)) (w : World) (hk : ByteAt w vk k) (hn : ByteAt w vn n) (hb : ByteAt w vb b) (hp : ByteAt w vp p) (hkl : k.length ≤ 140737488351232) (hnl : n.length ≤ 140737488351232) (hbl : b.length ≤ 140737488351232) (hpl : p.length ≤ 140737488351232) (a0 a1 : Nat) (ha0 : a0 < 256) (ha1 : a1 < 256) :
    Calls Try.prog 4 #[.agg #[vk, vn, vb], vp, .agg #[.int .u8 (a0 : Int), .int .u8 (a1 : Int)]] w fun e w' => Mod (fun _ => False) w w' ∧ e = .returned (.bool true) := by
  obtain ⟨NK, hNK⟩ : ∃ x, x = k.length := ⟨_, rfl⟩
  obtain ⟨NN, hNN⟩ : ∃ x, x = n.length := ⟨_, rfl⟩
  obtain ⟨NP, hNP⟩ : ∃ x, x = p.length := ⟨_, rfl⟩
  obtain ⟨NB, hNB⟩ : ∃ x, x = b.length := ⟨_, rfl⟩
  obtain ⟨ak, ck, rfl⟩ := hk.sliceN hNK.symm
  obtain ⟨an, cn, rfl⟩ := hn.sliceN hNN.symm
  obtain ⟨ap, cp, rfl⟩ := hp.sliceN hNP.symm
  obtain ⟨ab, cb, rfl⟩ := hb.sliceN hNB.symm
  have bp0 : (0 : Int) ≤ (NP : Int) := by omega
  have bpx : (NP : Int) ≤ 140737488351232 := by omega
  obtain ⟨w1, hw1⟩ : ∃ x, x = w.alloc (.cells #[.slice ak NK ck, .slice an NN cn, .slice ab NB cb] 24) := ⟨_, rfl⟩
  obtain ⟨g1, hg1⟩ : ∃ x, x = w.heap.size := ⟨_, rfl⟩
  have m0 : Mod (fun _ => False) w w1 := by rw [hw1]; exact (Mod.refl _ _).alloc _
  have x1 : w1.heap[g1]? = some (.cells #[.slice ak NK ck, .slice an NN cn, .slice ab NB cb] 24 (0,0)) := by rw [hw1]; exact hp_new _ _ _ hg1
  replace hk := hk.mod m0 (fun _ _ h => h)
  replace hn := hn.mod m0 (fun _ _ h => h)
  replace hp := hp.mod m0 (fun _ _ h => h)
  replace hb := hb.mod m0 (fun _ _ h => h)
  obtain ⟨w1', hw1'⟩ : ∃ x, x = w1.alloc (.cells #[.int .u8 (a0 : Int), .int .u8 (a1 : Int)] 31) := ⟨_, rfl⟩
  obtain ⟨g2, hg2⟩ : ∃ x, x = w1.heap.size := ⟨_, rfl⟩
  have m1 : Mod (fun _ => False) w1 w1' := by rw [hw1']; exact (Mod.refl _ _).alloc _
  have x2 : w1'.heap[g2]? = some (.cells #[.int .u8 (a0 : Int), .int .u8 (a1 : Int)] 31 (0,0)) := by rw [hw1']; exact hp_new _ _ _ hg2
  replace hk := hk.mod m1 (fun _ _ h => h)
  replace hn := hn.mod m1 (fun _ _ h => h)
  replace hp := hp.mod m1 (fun _ _ h => h)
  replace hb := hb.mod m1 (fun _ _ h => h)
  replace x1 := m1.heap x1 (fun h => h)
  replace m0 := m0.trans m1
  clear m1
  replace hNK := Lib.hid hNK
  replace hNN := Lib.hid hNN
  replace hNP := Lib.hid hNP
  replace hNB := Lib.hid hNB
  replace hw1 := Lib.hid hw1
  replace hg1 := Lib.hid hg1
  replace m0 := Lib.hid m0
  replace x1 := Lib.hid x1
  replace hk := Lib.hid hk
  replace hn := Lib.hid hn
  replace hp := Lib.hid hp
  replace hb := Lib.hid hb
  replace hkl := Lib.hid hkl
  replace hnl := Lib.hid hnl
  replace hpl := Lib.hid hpl
  replace hbl := Lib.hid hbl
  replace hw1' := Lib.hid hw1'
  replace hg2 := Lib.hid hg2
  replace x2 := Lib.hid x2
  go_enter Try.func4, Try.ntmps4
  go_upto_region 0 with (fail)
  refine wp_region_lit ?_
  refine wpList_yields (by kernel_rfl) (.pointer (some ⟨g1, 0, none⟩)) w1 (by rw [hw1.out, hg1.out]; simp [execOp, Instr.box, Sem.run_bind, newVar, newRow, Value.cells]; rfl) ?_
  simp only [Act.put, List.setIfInBounds_toArray, List.set_cons_zero, List.set_cons_succ]
  refine wpList_yields (by kernel_rfl) (.pointer (some ⟨g2, 0, none⟩)) w1' (by rw [hw1'.out, hg2.out]; simp [execOp, Instr.box, Sem.run_bind, newVar, newRow, Value.cells]; rfl) ?_
  simp only [Act.put, List.setIfInBounds_toArray, List.set_cons_zero, List.set_cons_succ]
  refine wpList_reads (by kernel_rfl) (.bool false) (by go_simp) ?_
  simp only [Act.put, List.setIfInBounds_toArray, List.set_cons_zero, List.set_cons_succ]
  go_upto_region 1 with (fail)
  refine wp_region_lit ?_
  refine wpList_enter (by kernel_rfl) 6 #[] (by go_simp) (alive_any w1') ?_
  rintro e w2 ⟨m2, rfl⟩
  replace hk := Lib.hid (hk.out.mod m2 (fun _ _ h => h))
  replace hn := Lib.hid (hn.out.mod m2 (fun _ _ h => h))
  replace hp := Lib.hid (hp.out.mod m2 (fun _ _ h => h))
  replace hb := Lib.hid (hb.out.mod m2 (fun _ _ h => h))
  replace x1 := Lib.hid (m2.heap x1.out (fun h => h))
  replace x2 := Lib.hid (m2.heap x2.out (fun h => h))
  replace m0 := Lib.hid (m0.out.trans m2)
  clear m2
  have lw := loadWT x1.out
  refine ⟨_, rfl, ?_⟩
  simp only [Act.put, List.setIfInBounds_toArray, List.set_cons_zero, List.set_cons_succ]
  refine wpList_reads (by kernel_rfl) (.bool false) (by go_simp) ?_
  simp only [Act.put, List.setIfInBounds_toArray, List.set_cons_zero, List.set_cons_succ]
  refine wpList_reads (by kernel_rfl) (.bool false) (by go_simp) ?_
  simp only [Act.put, List.setIfInBounds_toArray, List.set_cons_zero, List.set_cons_succ]
  refine wpList_reads (by kernel_rfl) (.agg #[.slice ak NK ck, .slice an NN cn, .slice ab NB cb]) (run_load_op rfl rfl lw) ?_
  simp only [Act.put, List.setIfInBounds_toArray, List.set_cons_zero, List.set_cons_succ]
  refine wpList_reads (by kernel_rfl) (.slice ap NP cp) (by go_simp) ?_
  simp only [Act.put, List.setIfInBounds_toArray, List.set_cons_zero, List.set_cons_succ]
  clear lw
  refine wpList_enter (by kernel_rfl) 7 #[.agg #[.slice ak NK ck, .slice an NN cn, .slice ab NB cb], .slice ap NP cp] (by go_simp) (great_any ak an ab ap NK NN NB NP ck cn cb cp (by rw [hNK.out]; exact hkl.out) (by rw [hNN.out]; exact hnl.out) (by rw [hNB.out]; exact hbl.out) (by rw [hNP.out]; exact hpl.out) w2) ?_
  rintro e w3 ⟨m3, d, rfl⟩
  replace hk := Lib.hid (hk.out.mod m3 (fun _ _ h => h))
  replace hn := Lib.hid (hn.out.mod m3 (fun _ _ h => h))
  replace hp := Lib.hid (hp.out.mod m3 (fun _ _ h => h))
  replace hb := Lib.hid (hb.out.mod m3 (fun _ _ h => h))
  replace x1 := Lib.hid (m3.heap x1.out (fun h => h))
  replace x2 := Lib.hid (m3.heap x2.out (fun h => h))
  replace m0 := Lib.hid (m0.out.trans m3)
  clear m3
  refine ⟨_, rfl, ?_⟩
  simp only [Act.put, List.setIfInBounds_toArray, List.set_cons_zero, List.set_cons_succ]
  refine wpList_reads (by kernel_rfl) (.bool d) (by go_simp) ?_
  simp only [Act.put, List.setIfInBounds_toArray, List.set_cons_zero, List.set_cons_succ]
  cases d with
  | true =>
    go_upto_region 2 with (fail)
    refine wp_region_lit ?_
    refine wpList_enter (by kernel_rfl) 6 #[] (by go_simp) (alive_any w3) ?_
    rintro e w4 ⟨m4, rfl⟩
    have mf := m0.out.trans m4
    replace mf := Lib.hid mf
    clear m4
    refine ⟨_, rfl, ?_⟩
    simp only [Act.put, List.setIfInBounds_toArray, List.set_cons_zero, List.set_cons_succ]
    refine wpList_reads (by kernel_rfl) (.bool true) (by go_simp) ?_
    simp only [Act.put, List.setIfInBounds_toArray, List.set_cons_zero, List.set_cons_succ]
    go_wp2
    go_ret
    exact ⟨mf.out, rfl⟩
  | false =>
    have l0 := ld_slC1 (show w3.cell? ⟨g1, 0, none⟩ = _ from cell_of_row _ _ _ _ _ _ x1.out)
    have l1 := ld_slC1 (show w3.cell? ⟨g1, 1, none⟩ = _ from cell_of_row _ _ _ _ _ _ x1.out)
    have l2 := ld_slC1 (show w3.cell? ⟨g1, 2, none⟩ = _ from cell_of_row _ _ _ _ _ _ x1.out)
    go_upto_region 3 with (fail)
    refine wp_region_lit ?_
    refine wpList_reads (by kernel_rfl) (.pointer (some ⟨g1, 0, none⟩)) (by go_simp) ?_
    simp only [Act.put, List.setIfInBounds_toArray, List.set_cons_zero, List.set_cons_succ]
    refine wpList_reads (by kernel_rfl) (.slice ak NK ck) (run_load_op rfl rfl l0) ?_
    simp only [Act.put, List.setIfInBounds_toArray, List.set_cons_zero, List.set_cons_succ]
    refine wpList_reads (by kernel_rfl) (.pointer (some ⟨g1, 1, none⟩)) (by go_simp) ?_
    simp only [Act.put, List.setIfInBounds_toArray, List.set_cons_zero, List.set_cons_succ]
    refine wpList_reads (by kernel_rfl) (.slice an NN cn) (run_load_op rfl rfl l1) ?_
    simp only [Act.put, List.setIfInBounds_toArray, List.set_cons_zero, List.set_cons_succ]
    refine wpList_reads (by kernel_rfl) (.slice ap NP cp) (by go_simp) ?_
    simp only [Act.put, List.setIfInBounds_toArray, List.set_cons_zero, List.set_cons_succ]
    refine wpList_reads (by kernel_rfl) (.pointer (some ⟨g1, 2, none⟩)) (by go_simp) ?_
    simp only [Act.put, List.setIfInBounds_toArray, List.set_cons_zero, List.set_cons_succ]
    refine wpList_reads (by kernel_rfl) (.slice ab NB cb) (run_load_op rfl rfl l2) ?_
    simp only [Act.put, List.setIfInBounds_toArray, List.set_cons_zero, List.set_cons_succ]
    clear l0 l1 l2
    refine wpList_enter (by kernel_rfl) 8 #[.slice ak NK ck, .slice an NN cn, .slice ap NP cp, .slice ab NB cb] (by go_simp) (seal_any _ _ _ _ k n p b hkl.out hnl.out hpl.out hbl.out w3 hk.out hn.out hp.out hb.out) ?_
    rintro e w4 ⟨m4, v4, rfl, own4⟩
    have hk3 := hk
    have hn3 := hn
    have hb3 := hb
    have x13 := x1
    have m03 := m0
    have m35 := Lib.hid m4
    have hz4 : w.heap.size ≤ w3.heap.size := m0.out.size
    have lt34 := lt_of_heap x1.out
    replace hk := Lib.hid (hk.out.mod m4 (fun _ _ h => h))
    replace hn := Lib.hid (hn.out.mod m4 (fun _ _ h => h))
    replace hp := Lib.hid (hp.out.mod m4 (fun _ _ h => h))
    replace hb := Lib.hid (hb.out.mod m4 (fun _ _ h => h))
    replace x1 := Lib.hid (m4.heap x1.out (fun h => h))
    replace x2 := Lib.hid (m4.heap x2.out (fun h => h))
    replace m0 := Lib.hid (m0.out.trans m4)
    clear m4
    obtain ⟨E, hE⟩ : ∃ E, sealE k n p b = E := ⟨_, rfl⟩
    obtain ⟨X, hX⟩ : ∃ X, sealX k n p b = X := ⟨_, rfl⟩
    rw [hE]
    rw [hX] at own4
    have hca := seal_cases k n p b
    rw [hE, hX] at hca
    rcases hca with ⟨rfl, h32, h12, hP, hB, hXS⟩ | ⟨rfl | rfl, hX2⟩
    · have hXl : X.length = NP + 16 := by rw [hXS, sealS_length, hNP.out]
      obtain ⟨g4, c4, rfl⟩ := clip_some (ClipR.of own4) (by omega)
      rw [hXl] at own4 ⊢
      have r4 : ByteAt w4 (.slice (some ⟨g4, 0, none⟩) (NP + 16) c4) X := by have := byteAt_of_own own4; exact this
      have hP' : NP ≤ 1048576 := by rw [hNP.out]; exact hP
      obtain ⟨L, hL⟩ : ∃ L, L = NP + 16 := ⟨_, rfl⟩
      rw [← hL] at r4 hXl own4 ⊢
      have cl4 := ClipR.of own4
      have g4w : w3.heap.size ≤ g4 := (cl4.lt _ rfl).1
      obtain ⟨r, hr⟩ : ∃ r, r = a0 % 16 := ⟨_, rfl⟩
      have hr16 : r < 16 := by rw [hr]; exact Nat.mod_lt _ (by decide)
      have hri : (a0 : Int) % 16 = (r : Int) := by omega
      have hrt : Int.tmod (a0 : Int) 16 = (r : Int) := by rw [hr]; rfl
      obtain ⟨D, hD⟩ : ∃ D, D = L - r := ⟨_, rfl⟩
      have hDi : (L : Int) - (r : Int) = (D : Int) := by omega
      have hDr : L - D = r := by omega
      have hDL : D ≤ L := by omega
      obtain ⟨vd, kd, rd⟩ := r4.cutFrom D hDL
      have hdl : (X.drop D).length = r := by rw [List.length_drop, hXl, hDr]
      have hoS : openE k n (X.drop D) b = 4 := open_short h32 h12 (by rw [hdl]; exact hr16)
      obtain ⟨K, hK⟩ : ∃ K, K = L - 1 - r := ⟨_, rfl⟩
      have hKi : (L : Int) - 1 - (r : Int) = (K : Int) := by omega
      have hKL : K < L := by omega
      have hK1 : p.length ≤ K := by have := hNP.out; omega
      have hK2 : K < p.length + 16 := by have := hNP.out; omega
      obtain ⟨y, hy⟩ : ∃ y, y = X.getD K 0 := ⟨_, rfl⟩
      have hoT : ∀ z, z ≠ y → openE k n (X.set K z) b = 11 ∧ openX k n (X.set K z) b = [] := fun z hz => by
        rw [hXS]
        exact open_tag h32 h12 hP hB K hK1 hK2 z (by rw [← hXS, ← hy]; exact hz)
      have bL0 : (0 : Int) ≤ (L : Int) := by omega
      have bLx : (L : Int) ≤ 1048592 := by omega
      have br0 : (0 : Int) ≤ (r : Int) := by omega
      have brx : (r : Int) < 16 := by omega
      have bD0 : (0 : Int) ≤ (D : Int) := by omega
      have bK0 : (0 : Int) ≤ (K : Int) := by omega
      have bKx : (K : Int) < (L : Int) := by omega
      have ba0 : (0 : Int) ≤ (a0 : Int) := by omega
      have ba0x : (a0 : Int) < 256 := by omega
      have wr1 : IntKind.u8.wrap (r : Int) = (r : Int) := by rw [IntKind.wrap_u8]; omega
      have wr2 : IntKind.i64.wrap (r : Int) = (r : Int) := by rw [IntKind.wrap_i64]; omega
      have wD : IntKind.i64.wrap (D : Int) = (D : Int) := by rw [IntKind.wrap_i64]; omega
      have wK : IntKind.i64.wrap (K : Int) = (K : Int) := by rw [IntKind.wrap_i64]; omega
      have hL1 : (L : Int) - 1 = ((L - 1 : Nat) : Int) := by omega
      obtain ⟨L1, hL1'⟩ : ∃ L1, L1 = L - 1 := ⟨_, rfl⟩
      rw [← hL1'] at hL1
      have hKi' : (L1 : Int) - (r : Int) = (K : Int) := by omega
      have bL10 : (0 : Int) ≤ (L1 : Int) := by omega
      have wL1 : IntKind.i64.wrap (L1 : Int) = (L1 : Int) := by rw [IntKind.wrap_i64]; omega
      replace r4 := Lib.hid r4
      replace hXl := Lib.hid hXl
      replace hL := Lib.hid hL
      replace cl4 := Lib.hid cl4
      replace hP' := Lib.hid hP'
      replace g4w := Lib.hid g4w
      replace hr := Lib.hid hr
      replace hD := Lib.hid hD
      replace hDr := Lib.hid hDr
      replace hDL := Lib.hid hDL
      replace kd := Lib.hid kd
      replace rd := Lib.hid rd
      replace hdl := Lib.hid hdl
      replace hoS := Lib.hid hoS
      replace hK := Lib.hid hK
      replace hKL := Lib.hid hKL
      replace hy := Lib.hid hy
      replace hoT := Lib.hid hoT
      replace hL1' := Lib.hid hL1'
      replace hr16 := Lib.hid hr16
      replace hz4 := Lib.hid hz4
      replace lt34 := Lib.hid lt34
      clear own4 hX hE hXS h32 h12 hP hB hK1 hK2 hKi
      refine ⟨_, rfl, ?_⟩
      simp only [Act.put, List.setIfInBounds_toArray, List.set_cons_zero, List.set_cons_succ]
      refine wpList_reads (by kernel_rfl) (.tuple #[.slice (some ⟨g4, 0, none⟩) L c4, .int .i64 0]) (by go_simp) ?_
      simp only [Act.put, List.setIfInBounds_toArray, List.set_cons_zero, List.set_cons_succ]
      refine wpList_reads (by kernel_rfl) (.slice (some ⟨g4, 0, none⟩) L c4) (by go_simp) ?_
      simp only [Act.put, List.setIfInBounds_toArray, List.set_cons_zero, List.set_cons_succ]
      refine wpList_reads (by kernel_rfl) (.int .i64 0) (by go_simp) ?_
      simp only [Act.put, List.setIfInBounds_toArray, List.set_cons_zero, List.set_cons_succ]
      refine wpList_reads (by kernel_rfl) (.slice (some ⟨g4, 0, none⟩) L c4) (by go_simp) ?_
      simp only [Act.put, List.setIfInBounds_toArray, List.set_cons_zero, List.set_cons_succ]
      refine wpList_reads (by kernel_rfl) (.int .i64 0) (by go_simp) ?_
      simp only [Act.put, List.setIfInBounds_toArray, List.set_cons_zero, List.set_cons_succ]
      go_upto_region 6 with (fail)
      refine wp_region_any (by kernel_rfl) (any_of_Z (S := fun W => Mod (fun _ => False) w4 W) (z := 99) _ _ _ _ ?_)
      simp only [List.size_toArray, List.length_cons, List.length_nil, Nat.reduceAdd, Array.replicate_succ, Array.replicate_zero, List.push_toArray, List.nil_append, List.cons_append]
      have md : Mod (fun _ => False) w4 w4.drew := (Mod.refl _ _).drew
      change anyZ _ _ _ _ _ _ _ _ _ w4.drew
      obtain ⟨wd, hwd⟩ : ∃ x, x = w4.drew := ⟨_, rfl⟩
      rw [← hwd] at md ⊢
      clear hwd
      refine anyZ_take 0 _ (some 36) (.pointer (some ⟨g1, 0, none⟩)) rfl (by kernel_rfl) (by kernel_rfl) (by kernel_rfl) (by kernel_rfl) (by kernel_rfl) (by decide) rfl (fun w' hS => ?_) md ?_
      · go_simp
      simp only [Act.put, List.setIfInBounds_toArray, List.set_cons_zero, List.set_cons_succ]
      refine anyZ_take 1 _ (some 37) (.slice ak NK ck) rfl (by kernel_rfl) (by kernel_rfl) (by kernel_rfl) (by kernel_rfl) (by kernel_rfl) (by decide) rfl (fun w' hS => ?_) md ?_
      · exact run_load_op rfl rfl (ld_slC1 (cell_of_row _ _ _ _ _ _ (hS.heap x1.out (fun h => h))))
      simp only [Act.put, List.setIfInBounds_toArray, List.set_cons_zero, List.set_cons_succ]
      refine anyZ_take 2 _ (some 38) (.pointer (some ⟨g1, 1, none⟩)) rfl (by kernel_rfl) (by kernel_rfl) (by kernel_rfl) (by kernel_rfl) (by kernel_rfl) (by decide) rfl (fun w' hS => ?_) md ?_
      · go_simp
      simp only [Act.put, List.setIfInBounds_toArray, List.set_cons_zero, List.set_cons_succ]
      refine anyZ_take 3 _ (some 39) (.slice an NN cn) rfl (by kernel_rfl) (by kernel_rfl) (by kernel_rfl) (by kernel_rfl) (by kernel_rfl) (by decide) rfl (fun w' hS => ?_) md ?_
      · exact run_load_op rfl rfl (ld_slC1 (cell_of_row _ _ _ _ _ _ (hS.heap x1.out (fun h => h))))
      simp only [Act.put, List.setIfInBounds_toArray, List.set_cons_zero, List.set_cons_succ]
      refine anyZ_take 4 _ (some 40) (.slice (some ⟨g4, 0, none⟩) L c4) rfl (by kernel_rfl) (by kernel_rfl) (by kernel_rfl) (by kernel_rfl) (by kernel_rfl) (by decide) rfl (fun w' hS => ?_) md ?_
      · go_simp
      simp only [Act.put, List.setIfInBounds_toArray, List.set_cons_zero, List.set_cons_succ]
      refine anyZ_take 5 _ (some 41) (.slice (some ⟨g4, 0, none⟩) L c4) rfl (by kernel_rfl) (by kernel_rfl) (by kernel_rfl) (by kernel_rfl) (by kernel_rfl) (by decide) rfl (fun w' hS => ?_) md ?_
      · go_simp
      simp only [Act.put, List.setIfInBounds_toArray, List.set_cons_zero, List.set_cons_succ]
      refine anyZ_take 6 _ (some 42) (.int .i64 (L : Int)) rfl (by kernel_rfl) (by kernel_rfl) (by kernel_rfl) (by kernel_rfl) (by kernel_rfl) (by decide) rfl (fun w' hS => ?_) md ?_
      · go_simp
      simp only [Act.put, List.setIfInBounds_toArray, List.set_cons_zero, List.set_cons_succ]
      refine anyZ_take 7 _ (some 43) (.pointer (some ⟨g2, 0, none⟩)) rfl (by kernel_rfl) (by kernel_rfl) (by kernel_rfl) (by kernel_rfl) (by kernel_rfl) (by decide) rfl (fun w' hS => ?_) md ?_
      · go_simp
      simp only [Act.put, List.setIfInBounds_toArray, List.set_cons_zero, List.set_cons_succ]
      refine anyZ_take 8 _ (some 44) (.int .u8 (a0 : Int)) rfl (by kernel_rfl) (by kernel_rfl) (by kernel_rfl) (by kernel_rfl) (by kernel_rfl) (by decide) rfl (fun w' hS => ?_) md ?_
      · exact run_load_op rfl rfl (ld_arr2 (hS.heap x2.out (fun h => h)) (.inl rfl))
      simp only [Act.put, List.setIfInBounds_toArray, List.set_cons_zero, List.set_cons_succ]
      refine anyZ_take 9 _ (some 45) (.int .u8 (r : Int)) rfl (by kernel_rfl) (by kernel_rfl) (by kernel_rfl) (by kernel_rfl) (by kernel_rfl) (by decide) rfl (fun w' hS => ?_) md ?_
      · go_simp
      simp only [Act.put, List.setIfInBounds_toArray, List.set_cons_zero, List.set_cons_succ]
      refine anyZ_take 10 _ (some 46) (.int .i64 (r : Int)) rfl (by kernel_rfl) (by kernel_rfl) (by kernel_rfl) (by kernel_rfl) (by kernel_rfl) (by decide) rfl (fun w' hS => ?_) md ?_
      · go_simp
      simp only [Act.put, List.setIfInBounds_toArray, List.set_cons_zero, List.set_cons_succ]
      refine anyZ_take 11 _ (some 47) (.int .i64 (D : Int)) rfl (by kernel_rfl) (by kernel_rfl) (by kernel_rfl) (by kernel_rfl) (by kernel_rfl) (by decide) rfl (fun w' hS => ?_) md ?_
      · go_simp
      simp only [Act.put, List.setIfInBounds_toArray, List.set_cons_zero, List.set_cons_succ]
      refine anyZ_take 12 _ (some 48) (vd) rfl (by kernel_rfl) (by kernel_rfl) (by kernel_rfl) (by kernel_rfl) (by kernel_rfl) (by decide) rfl (fun w' hS => ?_) md ?_
      · exact cut_op2 Try.underlying22 rfl rfl rfl (rd.out _)
      simp only [Act.put, List.setIfInBounds_toArray, List.set_cons_zero, List.set_cons_succ]
      refine anyZ_take 13 _ (some 49) (.pointer (some ⟨g1, 2, none⟩)) rfl (by kernel_rfl) (by kernel_rfl) (by kernel_rfl) (by kernel_rfl) (by kernel_rfl) (by decide) rfl (fun w' hS => ?_) md ?_
      · go_simp
      simp only [Act.put, List.setIfInBounds_toArray, List.set_cons_zero, List.set_cons_succ]
      refine anyZ_take 14 _ (some 50) (.slice ab NB cb) rfl (by kernel_rfl) (by kernel_rfl) (by kernel_rfl) (by kernel_rfl) (by kernel_rfl) (by decide) rfl (fun w' hS => ?_) md ?_
      · exact run_load_op rfl rfl (ld_slC1 (cell_of_row _ _ _ _ _ _ (hS.heap x1.out (fun h => h))))
      simp only [Act.put, List.setIfInBounds_toArray, List.set_cons_zero, List.set_cons_succ]
      refine anyZ_call 15 _ (some 51) rfl (by kernel_rfl) (by kernel_rfl) rfl 9 #[.slice ak NK ck, .slice an NN cn, vd, .slice ab NB cb] (by go_simp) ?_
      refine (open_any _ _ _ _ k n (X.drop D) b hkl.out hnl.out (by rw [hdl.out]; have := hr16.out; omega) hbl.out wd (hk.out.mod md (fun _ _ h => h)) (hn.out.mod md (fun _ _ h => h)) (kd.out.mod md (fun _ _ h => h)) (hb.out.mod md (fun _ _ h => h))).mono ?_
      rintro e w5 ⟨m5, v5, rfl, _⟩
      rw [hoS.out]
      have m45 := md.trans m5
      clear m5 md
      replace m35 := Lib.hid (m35.out.trans m45)
      replace hk := Lib.hid (hk.out.mod m45 (fun _ _ h => h))
      replace hn := Lib.hid (hn.out.mod m45 (fun _ _ h => h))
      replace hp := Lib.hid (hp.out.mod m45 (fun _ _ h => h))
      replace hb := Lib.hid (hb.out.mod m45 (fun _ _ h => h))
      replace x1 := Lib.hid (m45.heap x1.out (fun h => h))
      replace x2 := Lib.hid (m45.heap x2.out (fun h => h))
      replace m0 := Lib.hid (m0.out.trans m45)
      have cl5 := Lib.hid (clip_keep0 cl4.out m45)
      have g45 := Lib.hid m45.size
      clear cl4
      refine ⟨_, rfl, fun _ => m45, ?_⟩
      simp only [Act.put, List.setIfInBounds_toArray, List.set_cons_zero, List.set_cons_succ]
      refine anyZ_take 16 _ (some 35) (.tuple #[v5, .int .i64 4]) rfl (by kernel_rfl) (by kernel_rfl) (by kernel_rfl) (by kernel_rfl) (by kernel_rfl) (by decide) rfl (fun w' hS => ?_) m45 ?_
      · go_simp
      simp only [Act.put, List.setIfInBounds_toArray, List.set_cons_zero, List.set_cons_succ]
      refine anyZ_take 17 _ (some 52) (v5) rfl (by kernel_rfl) (by kernel_rfl) (by kernel_rfl) (by kernel_rfl) (by kernel_rfl) (by decide) rfl (fun w' hS => ?_) m45 ?_
      · go_simp
      simp only [Act.put, List.setIfInBounds_toArray, List.set_cons_zero, List.set_cons_succ]
      refine anyZ_take 18 _ (some 53) (.int .i64 4) rfl (by kernel_rfl) (by kernel_rfl) (by kernel_rfl) (by kernel_rfl) (by kernel_rfl) (by decide) rfl (fun w' hS => ?_) m45 ?_
      · go_simp
      simp only [Act.put, List.setIfInBounds_toArray, List.set_cons_zero, List.set_cons_succ]
      refine anyZ_take 19 _ (some 9) (v5) rfl (by kernel_rfl) (by kernel_rfl) (by kernel_rfl) (by kernel_rfl) (by kernel_rfl) (by decide) rfl (fun w' hS => ?_) m45 ?_
      · go_simp
      simp only [Act.put, List.setIfInBounds_toArray, List.set_cons_zero, List.set_cons_succ]
      refine anyZ_take 20 _ (some 10) (.int .i64 4) rfl (by kernel_rfl) (by kernel_rfl) (by kernel_rfl) (by kernel_rfl) (by kernel_rfl) (by decide) rfl (fun w' hS => ?_) m45 ?_
      · go_simp
      simp only [Act.put, List.setIfInBounds_toArray, List.set_cons_zero, List.set_cons_succ]
      refine anyZ_done (by kernel_rfl) ?_ _
      clear m45
      have la0 := ld_arr2 (i := 0) x2.out (.inl rfl)
      have la1 := ld_arr2 (i := 1) x2.out (.inr rfl)
      simp only [if_pos, if_neg, Nat.one_ne_zero, if_false, if_true] at la0 la1
      by_cases h0 : a1 = 0
      · subst h0
        go_upto_region 7 with (fail)
        refine wp_region_lit ?_
        refine wpList_reads (by kernel_rfl) (.pointer (some ⟨g2, 1, none⟩)) (by go_simp) ?_
        simp only [Act.put, List.setIfInBounds_toArray, List.set_cons_zero, List.set_cons_succ]
        refine wpList_reads (by kernel_rfl) (.int .u8 ((0 : Nat) : Int)) (run_load_op rfl rfl la1) ?_
        simp only [Act.put, List.setIfInBounds_toArray, List.set_cons_zero, List.set_cons_succ]
        refine wpList_reads (by kernel_rfl) (.bool true) (by go_simp) ?_
        simp only [Act.put, List.setIfInBounds_toArray, List.set_cons_zero, List.set_cons_succ]
        clear la0 la1
        go_wp2
        go_ret
        exact ⟨m0.out, rfl⟩
      · have e1 : decide ((a1 : Int) = 0) = false := by rw [decide_eq_false_iff_not]; omega
        have e1' : ((a1 : Int) == 0) = false := by rw [beq_eq_false_iff_ne]; omega
        replace h0 := Lib.hid h0
        go_upto_region 7 with (fail)
        refine wp_region_lit ?_
        refine wpList_reads (by kernel_rfl) (.pointer (some ⟨g2, 1, none⟩)) (by go_simp) ?_
        simp only [Act.put, List.setIfInBounds_toArray, List.set_cons_zero, List.set_cons_succ]
        refine wpList_reads (by kernel_rfl) (.int .u8 (a1 : Int)) (run_load_op rfl rfl la1) ?_
        simp only [Act.put, List.setIfInBounds_toArray, List.set_cons_zero, List.set_cons_succ]
        refine wpList_reads (by kernel_rfl) (.bool false) (by go_simp) ?_
        simp only [Act.put, List.setIfInBounds_toArray, List.set_cons_zero, List.set_cons_succ]
        go_upto_region 9 with (fail)
        refine wp_region_lit ?_
        refine wpList_reads (by kernel_rfl) (.slice (some ⟨g4, 0, none⟩) L c4) (by go_simp) ?_
        simp only [Act.put, List.setIfInBounds_toArray, List.set_cons_zero, List.set_cons_succ]
        refine wpList_reads (by kernel_rfl) (.int .i64 (L : Int)) (by go_simp) ?_
        simp only [Act.put, List.setIfInBounds_toArray, List.set_cons_zero, List.set_cons_succ]
        refine wpList_reads (by kernel_rfl) (.int .i64 (L1 : Int)) (by go_simp) ?_
        simp only [Act.put, List.setIfInBounds_toArray, List.set_cons_zero, List.set_cons_succ]
        refine wpList_reads (by kernel_rfl) (.pointer (some ⟨g2, 0, none⟩)) (by go_simp) ?_
        simp only [Act.put, List.setIfInBounds_toArray, List.set_cons_zero, List.set_cons_succ]
        refine wpList_reads (by kernel_rfl) (.int .u8 (a0 : Int)) (run_load_op rfl rfl la0) ?_
        simp only [Act.put, List.setIfInBounds_toArray, List.set_cons_zero, List.set_cons_succ]
        refine wpList_reads (by kernel_rfl) (.int .u8 (r : Int)) (by go_simp) ?_
        simp only [Act.put, List.setIfInBounds_toArray, List.set_cons_zero, List.set_cons_succ]
        refine wpList_reads (by kernel_rfl) (.int .i64 (r : Int)) (by go_simp) ?_
        simp only [Act.put, List.setIfInBounds_toArray, List.set_cons_zero, List.set_cons_succ]
        refine wpList_reads (by kernel_rfl) (.int .i64 (K : Int)) (by go_simp) ?_
        simp only [Act.put, List.setIfInBounds_toArray, List.set_cons_zero, List.set_cons_succ]
        refine wpList_reads (by kernel_rfl) (.int .i64 (K : Int)) (by go_simp) ?_
        simp only [Act.put, List.setIfInBounds_toArray, List.set_cons_zero, List.set_cons_succ]
        obtain ⟨x, hx⟩ : ∃ x, x = BitVec.ofNat 8 a1 := ⟨_, rfl⟩
        have hxi : (a1 : Int) = (x.toNat : Int) := by rw [hx, BitVec.toNat_ofNat]; omega
        have hx0 : x ≠ 0 := fun h => h0.out (by have := congrArg BitVec.toNat h; rw [hx, BitVec.toNat_ofNat] at this; simp at this; omega)
        obtain ⟨z, hz⟩ : ∃ z, z = y ^^^ x := ⟨_, rfl⟩
        have hzy : z ≠ y := fun h => hx0 (by
          have h2 : y ^^^ (y ^^^ x) = y ^^^ y := by rw [← hz, h]
          rw [← BitVec.xor_assoc, BitVec.xor_self, BitVec.zero_xor] at h2
          exact h2)
        have hzb : bits .xor .u8 (y.toNat : Int) (a1 : Int) = (z.toNat : Int) := by rw [hxi, Cc.bits_xor8, hz]
        obtain ⟨hoE, hoX⟩ := hoT.out z hzy
        have hcell : w5.cell? ⟨g4, K, none⟩ = some (.int .u8 (y.toNat : Int)) := by
          rw [cl5.out.cellAt K (by have := hKL.out; omega), hy.out]
          simp only [bytesV, List.getElem?_map]
          rw [List.getElem?_eq_getElem (by rw [hXl.out]; exact hKL.out)]
          rw [List.getD_eq_getElem?_getD, List.getElem?_eq_getElem (by rw [hXl.out]; exact hKL.out)]
          rfl
        have hfr := cl5.out.frozenAt K
        have lc := ld_u8P hcell
        replace hx := Lib.hid hx
        replace hxi := Lib.hid hxi
        replace hx0 := Lib.hid hx0
        replace hz := Lib.hid hz
        replace hzy := Lib.hid hzy
        replace hoE := Lib.hid hoE
        replace hoX := Lib.hid hoX
        replace hcell := Lib.hid hcell
        go_upto_region 10 with (fail)
        refine wp_region_any (by kernel_rfl) (any_of_Z (S := fun W => Mod (fun _ => False) w5 W) (z := 10) _ _ _ _ ?_)
        simp only [List.size_toArray, List.length_cons, List.length_nil, Nat.reduceAdd, Array.replicate_succ, Array.replicate_zero, List.push_toArray, List.nil_append, List.cons_append]
        have md : Mod (fun _ => False) w5 w5.drew := (Mod.refl _ _).drew
        change anyZ _ _ _ _ _ _ _ _ _ w5.drew
        obtain ⟨wd, hwd⟩ : ∃ x, x = w5.drew := ⟨_, rfl⟩
        rw [← hwd] at md ⊢
        clear hwd
        refine anyZ_take 0 _ (some 67) (.slice (some ⟨g4, 0, none⟩) L c4) rfl (by kernel_rfl) (by kernel_rfl) (by kernel_rfl) (by kernel_rfl) (by kernel_rfl) (by decide) rfl (fun w' hS => ?_) md ?_
        · go_simp
        simp only [Act.put, List.setIfInBounds_toArray, List.set_cons_zero, List.set_cons_succ]
        refine anyZ_take 1 _ (some 68) (.int .i64 (K : Int)) rfl (by kernel_rfl) (by kernel_rfl) (by kernel_rfl) (by kernel_rfl) (by kernel_rfl) (by decide) rfl (fun w' hS => ?_) md ?_
        · go_simp
        simp only [Act.put, List.setIfInBounds_toArray, List.set_cons_zero, List.set_cons_succ]
        refine anyZ_take 2 _ (some 69) (.slice (some ⟨g4, 0, none⟩) L c4) rfl (by kernel_rfl) (by kernel_rfl) (by kernel_rfl) (by kernel_rfl) (by kernel_rfl) (by decide) rfl (fun w' hS => ?_) md ?_
        · go_simp
        simp only [Act.put, List.setIfInBounds_toArray, List.set_cons_zero, List.set_cons_succ]
        refine anyZ_take 3 _ (some 70) (.int .i64 (K : Int)) rfl (by kernel_rfl) (by kernel_rfl) (by kernel_rfl) (by kernel_rfl) (by kernel_rfl) (by decide) rfl (fun w' hS => ?_) md ?_
        · go_simp
        simp only [Act.put, List.setIfInBounds_toArray, List.set_cons_zero, List.set_cons_succ]
        refine anyZ_take 4 _ (some 71) (.pointer (some ⟨g4, K, none⟩)) rfl (by kernel_rfl) (by kernel_rfl) (by kernel_rfl) (by kernel_rfl) (by kernel_rfl) (by decide) rfl (fun w' hS => ?_) md ?_
        · go_simp
        simp only [Act.put, List.setIfInBounds_toArray, List.set_cons_zero, List.set_cons_succ]
        refine anyZ_take 5 _ (some 72) (.int .u8 (y.toNat : Int)) rfl (by kernel_rfl) (by kernel_rfl) (by kernel_rfl) (by kernel_rfl) (by kernel_rfl) (by decide) rfl (fun w' hS => ?_) md ?_
        · exact run_load_op rfl rfl (ld_u8P (cell_mod hS hcell.out (fun h => h)))
        simp only [Act.put, List.setIfInBounds_toArray, List.set_cons_zero, List.set_cons_succ]
        refine anyZ_take 6 _ (some 73) (.pointer (some ⟨g2, 1, none⟩)) rfl (by kernel_rfl) (by kernel_rfl) (by kernel_rfl) (by kernel_rfl) (by kernel_rfl) (by decide) rfl (fun w' hS => ?_) md ?_
        · go_simp
        simp only [Act.put, List.setIfInBounds_toArray, List.set_cons_zero, List.set_cons_succ]
        refine anyZ_take 7 _ (some 74) (.int .u8 (a1 : Int)) rfl (by kernel_rfl) (by kernel_rfl) (by kernel_rfl) (by kernel_rfl) (by kernel_rfl) (by decide) rfl (fun w' hS => ?_) md ?_
        · exact run_load_op rfl rfl (by have := ld_arr2 (i := 1) (hS.heap x2.out (fun h => h)) (.inr rfl); exact this)
        simp only [Act.put, List.setIfInBounds_toArray, List.set_cons_zero, List.set_cons_succ]
        refine anyZ_take 8 _ (some 75) (.int .u8 (z.toNat : Int)) rfl (by kernel_rfl) (by kernel_rfl) (by kernel_rfl) (by kernel_rfl) (by kernel_rfl) (by decide) rfl (fun w' hS => ?_) md ?_
        · go_simp
        simp only [Act.put, List.setIfInBounds_toArray, List.set_cons_zero, List.set_cons_succ]
        refine anyZ_take 9 _ (some 76) (.pointer (some ⟨g4, K, none⟩)) rfl (by kernel_rfl) (by kernel_rfl) (by kernel_rfl) (by kernel_rfl) (by kernel_rfl) (by decide) rfl (fun w' hS => ?_) md ?_
        · go_simp
        simp only [Act.put, List.setIfInBounds_toArray, List.set_cons_zero, List.set_cons_succ]
        have hcd : wd.cell? ⟨g4, K, none⟩ = some (.int .u8 (y.toNat : Int)) := cell_mod md hcell.out (fun h => h)
        have cld := clip_keep0 cl5.out md
        have hfd := cld.frozenAt K
        obtain ⟨cl6, _⟩ := cld.stored K (.int .u8 (z.toNat : Int))
        have m6 : Mod (fun i => i = g4) wd (wd.setCell ⟨g4, K, none⟩ (.int .u8 (z.toNat : Int))) := Mod.one_setCell _ _ _ _
        have st6 := store_u8P (n := (z.toNat : Int)) hcd hfd
        obtain ⟨w6, hw6⟩ : ∃ x, x = wd.setCell ⟨g4, K, none⟩ (.int .u8 (z.toNat : Int)) := ⟨_, rfl⟩
        rw [← hw6] at cl6 m6 st6
        clear hw6 hcd cld hfd
        have m56 : Mod (fun i => i = g4) w5 w6 := (Mod.mono md (fun _ _ h => h.elim)).trans m6
        have bs6 : bytesV (X.set K z) = (bytesV X).set K (.int .u8 (z.toNat : Int)) := by simp [bytesV, List.map_set]
        rw [← bs6] at cl6
        have hne : ∀ i, i < w3.heap.size → ¬ i = g4 := fun i h e => by have := g4w.out; omega
        have m36 : Mod (fun i => i = g4) w3 w6 := (Mod.mono m35.out (fun _ _ h => h.elim)).trans m56
        have k6 := Lib.hid (hk3.out.mod m36 (fun i h e => hne i h e))
        have n6 := Lib.hid (hn3.out.mod m36 (fun i h e => hne i h e))
        have b6 := Lib.hid (hb3.out.mod m36 (fun i h e => hne i h e))
        have y6 := Lib.hid (m36.heap x13.out (fun e => hne _ (lt_of_heap x13.out) e))
        have m06 := Lib.hid (m03.out.trans' m36 (fun i hi e => hne i (by have := m03.out.size; omega) e))
        have c6 := Lib.hid (clip_byteAt cl6)
        clear m56 m36 bs6 cl6 hne
        refine anyZ_skip 10 _ rfl (by kernel_rfl) (by kernel_rfl) rfl w6 (run_store_op rfl rfl rfl st6) (fun h => absurd rfl h) ?_
        simp only [Act.put, List.setIfInBounds_toArray, List.set_cons_zero, List.set_cons_succ]
        clear st6 md m6
        refine anyZ_done (by kernel_rfl) ?_ _
        have l0 := ld_slC1 (show w6.cell? ⟨g1, 0, none⟩ = _ from cell_of_row _ _ _ _ _ _ y6.out)
        have l1 := ld_slC1 (show w6.cell? ⟨g1, 1, none⟩ = _ from cell_of_row _ _ _ _ _ _ y6.out)
        have l2 := ld_slC1 (show w6.cell? ⟨g1, 2, none⟩ = _ from cell_of_row _ _ _ _ _ _ y6.out)
        clear la0 la1 lc hfr
        go_upto_region 11 with (fail)
        refine wp_region_lit ?_
        refine wpList_reads (by kernel_rfl) (.pointer (some ⟨g1, 0, none⟩)) (by go_simp) ?_
        simp only [Act.put, List.setIfInBounds_toArray, List.set_cons_zero, List.set_cons_succ]
        refine wpList_reads (by kernel_rfl) (.slice ak NK ck) (run_load_op rfl rfl l0) ?_
        simp only [Act.put, List.setIfInBounds_toArray, List.set_cons_zero, List.set_cons_succ]
        refine wpList_reads (by kernel_rfl) (.pointer (some ⟨g1, 1, none⟩)) (by go_simp) ?_
        simp only [Act.put, List.setIfInBounds_toArray, List.set_cons_zero, List.set_cons_succ]
        refine wpList_reads (by kernel_rfl) (.slice an NN cn) (run_load_op rfl rfl l1) ?_
        simp only [Act.put, List.setIfInBounds_toArray, List.set_cons_zero, List.set_cons_succ]
        refine wpList_reads (by kernel_rfl) (.slice (some ⟨g4, 0, none⟩) L c4) (by go_simp) ?_
        simp only [Act.put, List.setIfInBounds_toArray, List.set_cons_zero, List.set_cons_succ]
        refine wpList_reads (by kernel_rfl) (.pointer (some ⟨g1, 2, none⟩)) (by go_simp) ?_
        simp only [Act.put, List.setIfInBounds_toArray, List.set_cons_zero, List.set_cons_succ]
        refine wpList_reads (by kernel_rfl) (.slice ab NB cb) (run_load_op rfl rfl l2) ?_
        simp only [Act.put, List.setIfInBounds_toArray, List.set_cons_zero, List.set_cons_succ]
        clear l0 l1 l2
        refine wpList_enter (by kernel_rfl) 9 #[.slice ak NK ck, .slice an NN cn, .slice (some ⟨g4, 0, none⟩) L c4, .slice ab NB cb] (by go_simp) (open_any _ _ _ _ k n (X.set K z) b hkl.out hnl.out (by rw [List.length_set, hXl.out, hL.out]; have := hP'.out; omega) hbl.out w6 k6.out n6.out c6.out b6.out) ?_
        rintro e w7 ⟨m7, v7, rfl, own7⟩
        rw [hoE.out]
        rw [hoX.out] at own7
        obtain ⟨a7, c7, rfl⟩ := own_sliceP own7
        have hl0 : ([] : List (BitVec 8)).length = 0 := rfl
        rw [hl0]
        have mf := m06.out.trans m7
        replace mf := Lib.hid mf
        clear own7 m7
        refine ⟨_, rfl, ?_⟩
        simp only [Act.put, List.setIfInBounds_toArray, List.set_cons_zero, List.set_cons_succ]
        refine wpList_reads (by kernel_rfl) (.tuple #[.slice a7 0 c7, .int .i64 11]) (by go_simp) ?_
        simp only [Act.put, List.setIfInBounds_toArray, List.set_cons_zero, List.set_cons_succ]
        refine wpList_reads (by kernel_rfl) (.slice a7 0 c7) (by go_simp) ?_
        simp only [Act.put, List.setIfInBounds_toArray, List.set_cons_zero, List.set_cons_succ]
        refine wpList_reads (by kernel_rfl) (.int .i64 11) (by go_simp) ?_
        simp only [Act.put, List.setIfInBounds_toArray, List.set_cons_zero, List.set_cons_succ]
        refine wpList_reads (by kernel_rfl) (.slice a7 0 c7) (by go_simp) ?_
        simp only [Act.put, List.setIfInBounds_toArray, List.set_cons_zero, List.set_cons_succ]
        refine wpList_reads (by kernel_rfl) (.int .i64 11) (by go_simp) ?_
        simp only [Act.put, List.setIfInBounds_toArray, List.set_cons_zero, List.set_cons_succ]
        go_wp2
        go_ret
        exact ⟨mf.out, rfl⟩
    · subst hX2
      have hl0 : ([] : List (BitVec 8)).length = 0 := rfl
      obtain ⟨a4, c4, rfl⟩ := own_sliceP own4
      clear own4 hX hE
      replace hz4 := Lib.hid hz4
      refine ⟨_, rfl, ?_⟩
      simp only [Act.put, List.setIfInBounds_toArray, List.set_cons_zero, List.set_cons_succ]
      refine wpList_reads (by kernel_rfl) (.tuple #[.slice a4 0 c4, .int .i64 1]) (by go_simp) ?_
      simp only [Act.put, List.setIfInBounds_toArray, List.set_cons_zero, List.set_cons_succ]
      refine wpList_reads (by kernel_rfl) (.slice a4 0 c4) (by go_simp) ?_
      simp only [Act.put, List.setIfInBounds_toArray, List.set_cons_zero, List.set_cons_succ]
      refine wpList_reads (by kernel_rfl) (.int .i64 1) (by go_simp) ?_
      simp only [Act.put, List.setIfInBounds_toArray, List.set_cons_zero, List.set_cons_succ]
      refine wpList_reads (by kernel_rfl) (.slice a4 0 c4) (by go_simp) ?_
      simp only [Act.put, List.setIfInBounds_toArray, List.set_cons_zero, List.set_cons_succ]
      refine wpList_reads (by kernel_rfl) (.int .i64 1) (by go_simp) ?_
      simp only [Act.put, List.setIfInBounds_toArray, List.set_cons_zero, List.set_cons_succ]
      go_wp2
      go_ret
      exact ⟨m0.out, rfl⟩
    · subst hX2
      have hl0 : ([] : List (BitVec 8)).length = 0 := rfl
      obtain ⟨a4, c4, rfl⟩ := own_sliceP own4
      clear own4 hX hE
      replace hz4 := Lib.hid hz4
      refine ⟨_, rfl, ?_⟩
      simp only [Act.put, List.setIfInBounds_toArray, List.set_cons_zero, List.set_cons_succ]
      refine wpList_reads (by kernel_rfl) (.tuple #[.slice a4 0 c4, .int .i64 3]) (by go_simp) ?_
      simp only [Act.put, List.setIfInBounds_toArray, List.set_cons_zero, List.set_cons_succ]
      refine wpList_reads (by kernel_rfl) (.slice a4 0 c4) (by go_simp) ?_
      simp only [Act.put, List.setIfInBounds_toArray, List.set_cons_zero, List.set_cons_succ]
      refine wpList_reads (by kernel_rfl) (.int .i64 3) (by go_simp) ?_
      simp only [Act.put, List.setIfInBounds_toArray, List.set_cons_zero, List.set_cons_succ]
      refine wpList_reads (by kernel_rfl) (.slice a4 0 c4) (by go_simp) ?_
      simp only [Act.put, List.setIfInBounds_toArray, List.set_cons_zero, List.set_cons_succ]
      refine wpList_reads (by kernel_rfl) (.int .i64 3) (by go_simp) ?_
      simp only [Act.put, List.setIfInBounds_toArray, List.set_cons_zero, List.set_cons_succ]
      go_wp2
      go_ret
      exact ⟨m0.out, rfl⟩
theorem atag_enc (vk vn vb vp : Value) (k n b p : List (BitVec 8)) (w : World) (hk : ByteAt w vk k) (hn : ByteAt w vn n) (hb : ByteAt w vb b) (hp : ByteAt w vp p) (hkl : k.length ≤ 140737488351232) (hnl : n.length ≤ 140737488351232) (hbl : b.length ≤ 140737488351232) (hpl : p.length ≤ 140737488351232) (t0 t1 : BitVec 8) :
    Calls Try.prog 4 #[.agg #[vk, vn, vb], vp, .agg (encB [t0, t1])] w fun e w' => Mod (fun _ => False) w w' ∧ e = .returned (.bool true) := by
  rw [show encB [t0, t1] = #[.int .u8 (t0.toNat : Int), .int .u8 (t1.toNat : Int)] from rfl]
  exact atag_any vk vn vb vp k n b p w hk hn hb hp hkl hnl hbl hpl t0.toNat t1.toNat t0.isLt t1.isLt
end Go.Proofs.Ytbiijcljpgannaa
