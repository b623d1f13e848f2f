/-
  mailcoachlaw06.AeadMade. Printed by gen/pa7.py.
-/
import Derived.Test.YtbiijcljpgannaaYm
import Derived.Test.YtbiijcljpgannaaCl
namespace Go.Proofs.Ytbiijcljpgannaa
open Go Go.RowKit Go.Lib
set_option linter.unusedSimpArgs false
set_option linter.unusedVariables false

def filT (l : List (BitVec 8)) (m j : Nat) : List (BitVec 8) := l.take j ++ List.replicate (m - j) 0
theorem filT_length {l : List (BitVec 8)} {m j : Nat} (hl : l.length = m) (hj : j ≤ m) : (filT l m j).length = m := by simp [filT, hl]; omega
theorem filT_all {l : List (BitVec 8)} {m : Nat} (hl : l.length = m) : filT l m m = l := by simp [filT, ← hl]
theorem filT_zero (l : List (BitVec 8)) (m : Nat) : filT l m 0 = List.replicate m 0 := by simp [filT]
theorem filT_set {l : List (BitVec 8)} {m j : Nat} (hl : l.length = m) (hj : j < m) : (filT l m j).set j (l.getD j 0) = filT l m (j + 1) := by
  apply List.ext_getElem
  · simp [filT, hl]; omega
  · intro i h1 h2
    rw [List.getElem_set]
    have hi : i < m := by rw [filT_length hl (by omega)] at h2; exact h2
    by_cases hij : j = i
    · subst hij
      rw [if_pos rfl]
      simp only [filT]
      rw [List.getElem_append_left (by simp [hl]; omega), List.getElem_take, List.getD_eq_getElem?_getD, List.getElem?_eq_getElem (by omega)]
      rfl
    · rw [if_neg hij]
      simp only [filT]
      by_cases h : i < j
      · rw [List.getElem_append_left (by simp [hl]; omega), List.getElem_append_left (by simp [hl]; omega), List.getElem_take, List.getElem_take]
      · rw [List.getElem_append_right (by simp [hl]; omega), List.getElem_append_right (by simp [hl]; omega)]
        simp
theorem cellU {w : World} {g : Nat} {t : TypeId} {l : List (BitVec 8)} (h : w.heap[g]? = some (.cells (encB l) t (0,0))) {j : Nat} (hj : j < l.length) : w.cell? ⟨g, j, none⟩ = some (.int .u8 ((l.getD j 0).toNat : Int)) := by
  rw [cell_of_row _ _ _ _ _ _ h, encB_get hj]
theorem putU {w : World} {g : Nat} {t : TypeId} {l : List (BitVec 8)} (h : w.heap[g]? = some (.cells (encB l) t (0,0))) {j : Nat} (hj : j < l.length) (z : BitVec 8) :
    ∃ w', (storeVar 5 ⟨g, j, none⟩ (.int .u8 (z.toNat : Int))).run Try.prog w = .ok () w' ∧ Mod (fun k => k = g) w w' ∧ w'.heap[g]? = some (.cells (encB (l.set j z)) t (0,0)) := by
  refine ⟨_, store_u8P (cellU h hj) (frozen_of_row w g j _ _ h), Mod.one_setCell _ _ _ _, ?_⟩
  rw [setCell_row _ _ _ _ _ _ h, setRow_heap _ _ _ _ _ _ h]
  congr 2
  simp [encB, List.map_set]
theorem lt_of_cell {w : World} {g off : Nat} {v : Value} (h : w.cell? ⟨g, off, none⟩ = some v) : g < w.heap.size := by
  rcases Nat.lt_or_ge g w.heap.size with h' | h'
  · exact h'
  · simp [World.cell?, Array.getElem?_eq_none h'] at h
def lenV : Value → Nat
  | .slice _ n _ => n
  | _ => 0
theorem ByteAt.cells {w : World} {v : Value} {bs : List (BitVec 8)} (h : ByteAt w v bs) (h0 : 0 < bs.length) : ∃ g off cap, v = .slice (some ⟨g, off, none⟩) bs.length cap ∧ ∀ j, j < bs.length → w.cell? ⟨g, off + j, none⟩ = some (.int .u8 ((bs.getD j 0).toNat : Int)) := by
  rcases h with ⟨ad, cap, rfl, rfl⟩ | ⟨g, off, cap, rfl, _, h2⟩
  · simp at h0
  · exact ⟨g, off, cap, rfl, h2⟩
theorem eights_succ (B P j : Nat) (hj : j < 16) : (eightS B ++ eightS P).take (j + 1) = (eightS B ++ eightS P).take j ++ [BitVec.ofNat 8 ((if 8 ≤ j then P else B) / 2 ^ (8 * (j % 8)))] := by
  have hl : (eightS B ++ eightS P).length = 16 := by simp [eightS, eightTo_length]
  rw [List.take_add_one, List.getElem?_eq_getElem (by omega)]
  congr 1
  simp only [Option.toList_some, List.cons.injEq, and_true]
  by_cases h : j < 8
  · rw [List.getElem_append_left (by simp [eightS, eightTo_length]; exact h), if_neg (by omega), show j % 8 = j by omega]
    simp [eightS, eightTo]
  · rw [List.getElem_append_right (by simp [eightS, eightTo_length]; omega), if_pos (by omega), show j % 8 = j - 8 by omega]
    simp [eightS, eightTo]
theorem pad_behind (b s : List (BitVec 8)) : (padZ (b ++ padZ b ++ s)) = padZ s := by
  unfold padZ
  congr 1
  simp only [List.length_append, List.length_replicate]
  omega
theorem mac_parts (b s : List (BitVec 8)) : macB s b = b ++ padZ b ++ s ++ padZ s ++ (eightS b.length ++ eightS s.length) := by
  simp [macB, macL]
set_option maxRecDepth 100000 in
set_option maxHeartbeats 4000000 in
theorem made_any (vk vn vb vp : Value) (k n b p : List (BitVec 8)) (w : World) (hk : ByteAt w vk k) (hn : ByteAt w vn n) (hb : ByteAt w vb b) (hp : ByteAt w vp p) (hkl : k.length ≤ 140737488351232) (hnl : n.length ≤ 140737488351232) (hbl : b.length ≤ 140737488351232) (hpl : p.length ≤ 140737488351232) :
    Calls Try.prog 5 #[.agg #[vk, vn, vb], vp] w fun e w' => Mod (fun _ => False) w w' ∧ e = .returned (.bool true) := by
  obtain ⟨NK, hNK⟩ : ∃ x, x = k.length := ⟨_, rfl⟩
  obtain ⟨NN, hNN⟩ : ∃ x, x = n.length := ⟨_, rfl⟩
  obtain ⟨NP, hNP⟩ : ∃ x, x = p.length := ⟨_, rfl⟩
  obtain ⟨NB, hNB⟩ : ∃ x, x = b.length := ⟨_, rfl⟩
  obtain ⟨ak, ck, rfl⟩ := hk.sliceN hNK.symm
  obtain ⟨an, cn, rfl⟩ := hn.sliceN hNN.symm
  obtain ⟨ap, cp, rfl⟩ := hp.sliceN hNP.symm
  obtain ⟨ab, cb, rfl⟩ := hb.sliceN hNB.symm
  have bp0 : (0 : Int) ≤ (NP : Int) := by omega
  have bpx : (NP : Int) ≤ 140737488351232 := by omega
  obtain ⟨w1, hw1⟩ : ∃ x, x = w.alloc (.cells #[.slice ak NK ck, .slice an NN cn, .slice ab NB cb] 24) := ⟨_, rfl⟩
  obtain ⟨g1, hg1⟩ : ∃ x, x = w.heap.size := ⟨_, rfl⟩
  have m0 : Mod (fun _ => False) w w1 := by rw [hw1]; exact (Mod.refl _ _).alloc _
  have x1 : w1.heap[g1]? = some (.cells #[.slice ak NK ck, .slice an NN cn, .slice ab NB cb] 24 (0,0)) := by rw [hw1]; exact hp_new _ _ _ hg1
  replace hk := hk.mod m0 (fun _ _ h => h)
  replace hn := hn.mod m0 (fun _ _ h => h)
  replace hp := hp.mod m0 (fun _ _ h => h)
  replace hb := hb.mod m0 (fun _ _ h => h)
  replace hNK := Lib.hid hNK
  replace hNN := Lib.hid hNN
  replace hNP := Lib.hid hNP
  replace hNB := Lib.hid hNB
  replace hw1 := Lib.hid hw1
  replace hg1 := Lib.hid hg1
  replace m0 := Lib.hid m0
  replace x1 := Lib.hid x1
  replace hk := Lib.hid hk
  replace hn := Lib.hid hn
  replace hp := Lib.hid hp
  replace hb := Lib.hid hb
  replace hkl := Lib.hid hkl
  replace hnl := Lib.hid hnl
  replace hpl := Lib.hid hpl
  replace hbl := Lib.hid hbl
  go_enter Try.func5, Try.ntmps5
  go_upto_region 0 with (fail)
  refine wp_region_lit ?_
  refine wpList_yields (by kernel_rfl) (.pointer (some ⟨g1, 0, none⟩)) w1 (by rw [hw1.out, hg1.out]; simp [execOp, Instr.box, Sem.run_bind, newVar, newRow, Value.cells]; rfl) ?_
  simp only [Act.put, List.setIfInBounds_toArray, List.set_cons_zero, List.set_cons_succ]
  refine wpList_reads (by kernel_rfl) (.bool false) (by go_simp) ?_
  simp only [Act.put, List.setIfInBounds_toArray, List.set_cons_zero, List.set_cons_succ]
  go_upto_region 1 with (fail)
  refine wp_region_lit ?_
  refine wpList_enter (by kernel_rfl) 6 #[] (by go_simp) (alive_any w1) ?_
  rintro e w2 ⟨m2, rfl⟩
  replace hk := Lib.hid (hk.out.mod m2 (fun _ _ h => h))
  replace hn := Lib.hid (hn.out.mod m2 (fun _ _ h => h))
  replace hp := Lib.hid (hp.out.mod m2 (fun _ _ h => h))
  replace hb := Lib.hid (hb.out.mod m2 (fun _ _ h => h))
  replace x1 := Lib.hid (m2.heap x1.out (fun h => h))
  replace m0 := Lib.hid (m0.out.trans m2)
  clear m2
  have lw := loadWT x1.out
  refine ⟨_, rfl, ?_⟩
  simp only [Act.put, List.setIfInBounds_toArray, List.set_cons_zero, List.set_cons_succ]
  refine wpList_reads (by kernel_rfl) (.bool false) (by go_simp) ?_
  simp only [Act.put, List.setIfInBounds_toArray, List.set_cons_zero, List.set_cons_succ]
  refine wpList_reads (by kernel_rfl) (.bool false) (by go_simp) ?_
  simp only [Act.put, List.setIfInBounds_toArray, List.set_cons_zero, List.set_cons_succ]
  refine wpList_reads (by kernel_rfl) (.agg #[.slice ak NK ck, .slice an NN cn, .slice ab NB cb]) (run_load_op rfl rfl lw) ?_
  simp only [Act.put, List.setIfInBounds_toArray, List.set_cons_zero, List.set_cons_succ]
  refine wpList_reads (by kernel_rfl) (.slice ap NP cp) (by go_simp) ?_
  simp only [Act.put, List.setIfInBounds_toArray, List.set_cons_zero, List.set_cons_succ]
  clear lw
  refine wpList_enter (by kernel_rfl) 7 #[.agg #[.slice ak NK ck, .slice an NN cn, .slice ab NB cb], .slice ap NP cp] (by go_simp) (great_any ak an ab ap NK NN NB NP ck cn cb cp (by rw [hNK.out]; exact hkl.out) (by rw [hNN.out]; exact hnl.out) (by rw [hNB.out]; exact hbl.out) (by rw [hNP.out]; exact hpl.out) w2) ?_
  rintro e w3 ⟨m3, d, rfl⟩
  replace hk := Lib.hid (hk.out.mod m3 (fun _ _ h => h))
  replace hn := Lib.hid (hn.out.mod m3 (fun _ _ h => h))
  replace hp := Lib.hid (hp.out.mod m3 (fun _ _ h => h))
  replace hb := Lib.hid (hb.out.mod m3 (fun _ _ h => h))
  replace x1 := Lib.hid (m3.heap x1.out (fun h => h))
  replace m0 := Lib.hid (m0.out.trans m3)
  clear m3
  refine ⟨_, rfl, ?_⟩
  simp only [Act.put, List.setIfInBounds_toArray, List.set_cons_zero, List.set_cons_succ]
  refine wpList_reads (by kernel_rfl) (.bool d) (by go_simp) ?_
  simp only [Act.put, List.setIfInBounds_toArray, List.set_cons_zero, List.set_cons_succ]
  cases d with
  | true =>
    go_upto_region 2 with (fail)
    refine wp_region_lit ?_
    refine wpList_enter (by kernel_rfl) 6 #[] (by go_simp) (alive_any w3) ?_
    rintro e w4 ⟨m4, rfl⟩
    have mf := m0.out.trans m4
    replace mf := Lib.hid mf
    clear m4
    refine ⟨_, rfl, ?_⟩
    simp only [Act.put, List.setIfInBounds_toArray, List.set_cons_zero, List.set_cons_succ]
    refine wpList_reads (by kernel_rfl) (.bool true) (by go_simp) ?_
    simp only [Act.put, List.setIfInBounds_toArray, List.set_cons_zero, List.set_cons_succ]
    go_wp2
    go_ret
    exact ⟨mf.out, rfl⟩
  | false =>
    have l0 := ld_slC1 (show w3.cell? ⟨g1, 0, none⟩ = _ from cell_of_row _ _ _ _ _ _ x1.out)
    have l1 := ld_slC1 (show w3.cell? ⟨g1, 1, none⟩ = _ from cell_of_row _ _ _ _ _ _ x1.out)
    have l2 := ld_slC1 (show w3.cell? ⟨g1, 2, none⟩ = _ from cell_of_row _ _ _ _ _ _ x1.out)
    go_upto_region 3 with (fail)
    refine wp_region_lit ?_
    refine wpList_reads (by kernel_rfl) (.pointer (some ⟨g1, 0, none⟩)) (by go_simp) ?_
    simp only [Act.put, List.setIfInBounds_toArray, List.set_cons_zero, List.set_cons_succ]
    refine wpList_reads (by kernel_rfl) (.slice ak NK ck) (run_load_op rfl rfl l0) ?_
    simp only [Act.put, List.setIfInBounds_toArray, List.set_cons_zero, List.set_cons_succ]
    refine wpList_reads (by kernel_rfl) (.pointer (some ⟨g1, 1, none⟩)) (by go_simp) ?_
    simp only [Act.put, List.setIfInBounds_toArray, List.set_cons_zero, List.set_cons_succ]
    refine wpList_reads (by kernel_rfl) (.slice an NN cn) (run_load_op rfl rfl l1) ?_
    simp only [Act.put, List.setIfInBounds_toArray, List.set_cons_zero, List.set_cons_succ]
    refine wpList_reads (by kernel_rfl) (.slice ap NP cp) (by go_simp) ?_
    simp only [Act.put, List.setIfInBounds_toArray, List.set_cons_zero, List.set_cons_succ]
    refine wpList_reads (by kernel_rfl) (.pointer (some ⟨g1, 2, none⟩)) (by go_simp) ?_
    simp only [Act.put, List.setIfInBounds_toArray, List.set_cons_zero, List.set_cons_succ]
    refine wpList_reads (by kernel_rfl) (.slice ab NB cb) (run_load_op rfl rfl l2) ?_
    simp only [Act.put, List.setIfInBounds_toArray, List.set_cons_zero, List.set_cons_succ]
    clear l0 l1 l2
    refine wpList_enter (by kernel_rfl) 8 #[.slice ak NK ck, .slice an NN cn, .slice ap NP cp, .slice ab NB cb] (by go_simp) (seal_any _ _ _ _ k n p b hkl.out hnl.out hpl.out hbl.out w3 hk.out hn.out hp.out hb.out) ?_
    rintro e w4 ⟨m4, v4, rfl, own4⟩
    have hz4 : w.heap.size ≤ w3.heap.size := m0.out.size
    have lt34 := lt_of_heap x1.out
    replace hk := Lib.hid (hk.out.mod m4 (fun _ _ h => h))
    replace hn := Lib.hid (hn.out.mod m4 (fun _ _ h => h))
    replace hp := Lib.hid (hp.out.mod m4 (fun _ _ h => h))
    replace hb := Lib.hid (hb.out.mod m4 (fun _ _ h => h))
    replace x1 := Lib.hid (m4.heap x1.out (fun h => h))
    replace m0 := Lib.hid (m0.out.trans m4)
    clear m4
    obtain ⟨E, hE⟩ : ∃ E, sealE k n p b = E := ⟨_, rfl⟩
    obtain ⟨X, hX⟩ : ∃ X, sealX k n p b = X := ⟨_, rfl⟩
    rw [hE]
    rw [hX] at own4
    have hca := seal_cases k n p b
    rw [hE, hX] at hca
    rcases hca with ⟨rfl, h32, h12, hP, hB, hXS⟩ | ⟨rfl | rfl, hX2⟩
    · obtain rfl : NK = 32 := by rw [hNK.out]; exact h32
      obtain rfl : NN = 12 := by rw [hNN.out]; exact h12
      have hPP : NP ≤ 1048576 := by rw [hNP.out]; exact hP
      have hBB : NB ≤ 1048576 := by rw [hNB.out]; exact hB
      have hXl : X.length = NP + 16 := by rw [hXS, sealS_length, hNP.out]
      obtain ⟨L, hL⟩ : ∃ L, L = NP + 16 := ⟨_, rfl⟩
      rw [← hL] at hXl
      obtain ⟨a4, c4, rfl⟩ := own_sliceP own4
      rw [hXl] at own4 ⊢
      have r4 : ByteAt w4 (.slice a4 L c4) X := by have := byteAt_of_own own4; exact this
      obtain ⟨gk, ok, ck', ek, hck⟩ := hk.out.cells (by omega)
      obtain ⟨gn, on, cn', en, hcn⟩ := hn.out.cells (by omega)
      injection ek with ek ek2 ek3
      injection en with en en2 en3
      clear ek2 en2
      subst ek en ek3 en3
      rw [h32] at hck
      rw [h12] at hcn
      clear own4 hX hE hP hB hz4 lt34
      replace hPP := Lib.hid hPP
      replace hBB := Lib.hid hBB
      replace hXl := Lib.hid hXl
      replace hL := Lib.hid hL
      replace r4 := Lib.hid r4
      replace hck := Lib.hid hck
      replace hcn := Lib.hid hcn
      replace h32 := Lib.hid h32
      replace h12 := Lib.hid h12
      replace hXS := Lib.hid hXS
      refine ⟨_, rfl, ?_⟩
      simp only [Act.put, List.setIfInBounds_toArray, List.set_cons_zero, List.set_cons_succ]
      refine wpList_reads (by kernel_rfl) (.tuple #[.slice a4 L c4, .int .i64 0]) (by go_simp) ?_
      simp only [Act.put, List.setIfInBounds_toArray, List.set_cons_zero, List.set_cons_succ]
      refine wpList_reads (by kernel_rfl) (.slice a4 L c4) (by go_simp) ?_
      simp only [Act.put, List.setIfInBounds_toArray, List.set_cons_zero, List.set_cons_succ]
      refine wpList_reads (by kernel_rfl) (.int .i64 0) (by go_simp) ?_
      simp only [Act.put, List.setIfInBounds_toArray, List.set_cons_zero, List.set_cons_succ]
      refine wpList_reads (by kernel_rfl) (.slice a4 L c4) (by go_simp) ?_
      simp only [Act.put, List.setIfInBounds_toArray, List.set_cons_zero, List.set_cons_succ]
      refine wpList_reads (by kernel_rfl) (.int .i64 0) (by go_simp) ?_
      simp only [Act.put, List.setIfInBounds_toArray, List.set_cons_zero, List.set_cons_succ]
      obtain ⟨B0, hB0⟩ : ∃ x, x = w4.heap.size := ⟨_, rfl⟩
      obtain ⟨w5, hw5⟩ : ∃ x, x = w4.alloc (.cells (encB (List.replicate 32 0)) 33) := ⟨_, rfl⟩
      obtain ⟨G7, hG7⟩ : ∃ x, x = w4.heap.size := ⟨_, rfl⟩
      have n5 : Mod (fun _ => False) w4 w5 := by rw [hw5]; exact (Mod.refl _ _).alloc _
      have y75 : w5.heap[G7]? = some (.cells (encB (List.replicate 32 0)) 33 (0,0)) := by rw [hw5]; exact hp_new _ _ _ hG7
      obtain ⟨w6, hw6⟩ : ∃ x, x = w5.alloc (.cells (encB (List.replicate 32 0)) 33) := ⟨_, rfl⟩
      obtain ⟨G8, hG8⟩ : ∃ x, x = w5.heap.size := ⟨_, rfl⟩
      have n6 : Mod (fun _ => False) w5 w6 := by rw [hw6]; exact (Mod.refl _ _).alloc _
      have y86 : w6.heap[G8]? = some (.cells (encB (List.replicate 32 0)) 33 (0,0)) := by rw [hw6]; exact hp_new _ _ _ hG8
      obtain ⟨w7, hw7⟩ : ∃ x, x = w6.alloc (.cells (encB (List.replicate 12 0)) 34) := ⟨_, rfl⟩
      obtain ⟨G9, hG9⟩ : ∃ x, x = w6.heap.size := ⟨_, rfl⟩
      have n7 : Mod (fun _ => False) w6 w7 := by rw [hw7]; exact (Mod.refl _ _).alloc _
      have y9 : w7.heap[G9]? = some (.cells (encB (filT n 12 0)) 34 (0,0)) := by rw [hw7, filT_zero]; exact hp_new _ _ _ hG9
      have y7 : w7.heap[G7]? = some (.cells (encB (filT k 32 0)) 33 (0,0)) := by rw [filT_zero]; exact (n6.trans n7).heap y75 (fun h => h)
      have y8 : w7.heap[G8]? = some (.cells (encB (List.replicate 32 0)) 33 (0,0)) := n7.heap y86 (fun h => h)
      have M : Mod (fun i => B0 ≤ i) w4 w7 := (n5.trans (n6.trans n7)).mono (fun _ _ h => h.elim)
      have o7 : B0 ≤ G7 := by rw [hB0, hG7]; exact Nat.le_refl _
      have o78 : G7 < G8 := by rw [hG8]; exact lt_of_heap y75
      have o89 : G8 < G9 := by rw [hG9]; exact lt_of_heap y86
      clear n5 n6 n7 y75 y86
      replace hB0 := Lib.hid hB0
      replace hw5 := Lib.hid hw5
      replace hG7 := Lib.hid hG7
      replace hw6 := Lib.hid hw6
      replace hG8 := Lib.hid hG8
      replace hw7 := Lib.hid hw7
      replace hG9 := Lib.hid hG9
      replace y9 := Lib.hid y9
      replace y7 := Lib.hid y7
      replace y8 := Lib.hid y8
      replace M := Lib.hid M
      replace o7 := Lib.hid o7
      replace o78 := Lib.hid o78
      replace o89 := Lib.hid o89
      go_upto_region 6 with (fail)
      refine wp_region_lit ?_
      refine wpList_yields (by kernel_rfl) _ _ (alloc_arrY 33 _ zeroY32 _ _ _ rfl) ?_
      simp only [Act.put, List.setIfInBounds_toArray, List.set_cons_zero, List.set_cons_succ]
      rw [← hG7.out, ← hw5.out]
      refine wpList_yields (by kernel_rfl) _ _ (alloc_arrY 33 _ zeroY32 _ _ _ rfl) ?_
      simp only [Act.put, List.setIfInBounds_toArray, List.set_cons_zero, List.set_cons_succ]
      rw [← hG8.out, ← hw6.out]
      go_upto_region 7 with (fail)
      refine wp_region_lit ?_
      refine wpList_yields (by kernel_rfl) _ _ (alloc_arrY 34 _ zeroY12 _ _ _ rfl) ?_
      simp only [Act.put, List.setIfInBounds_toArray, List.set_cons_zero, List.set_cons_succ]
      rw [← hG9.out, ← hw7.out]
      go_wp2
      go_loopw [10] (fun iv wr => ∃ j : Nat, j ≤ 32 ∧ iv = .int .i64 (j : Int) ∧ Mod (fun i => i = G7) w7 wr ∧ wr.heap[G7]? = some (.cells (encB (filT k 32 j)) 33 (0,0))) (fun iv _ => 32 - (intOf iv).toNat)
      case atStart => exact ⟨0, by omega, rfl, Mod.refl _ _, y7.out⟩
      case round =>
        obtain ⟨j, hjN, rfl, mr, yr⟩ := hrel
        have bj0 : (0 : Int) ≤ (j : Int) := by omega
        have MR := M.out.trans' mr (fun i _ h => by have := o7.out; have := o78.out; have := o89.out; omega)
        by_cases hjlt : j < 32
        · have hdj : decide ((j : Int) < 32) = true := by rw [decide_eq_true_iff]; omega
          have bjN : (j : Int) < 32 := by omega
          obtain ⟨z, hz⟩ : ∃ z, z = k.getD j 0 := ⟨_, rfl⟩
          have hcz : wr.cell? ⟨gk, ok + j, none⟩ = some (.int .u8 (z.toNat : Int)) := by
            rw [hz]
            have hc4 := hck.out j hjlt
            have hblk : gk < w4.heap.size := lt_of_cell hc4
            exact cell_mod MR hc4 (by have := hB0.out; omega)
          have lz := ld_u8P hcz
          have lf := ld_slC1 (show wr.cell? ⟨g1, 0, none⟩ = _ from cell_of_row _ _ _ _ _ _ (MR.heap x1.out (by have := lt_of_heap x1.out; have := hB0.out; omega)))
          clear hcz
          obtain ⟨w', st, nm, y'⟩ := putU yr (j := j) (by rw [filT_length h32.out (by omega)]; exact hjlt) z
          rw [hz, filT_set h32.out hjlt] at y'
          have mf := mr.trans nm
          replace y' := Lib.hid y'
          replace mf := Lib.hid mf
          clear nm mr yr MR
          go_upto_region 11 with (fail)
          refine wp_region_lit ?_
          refine wpList_reads (by kernel_rfl) (.int .i64 (j : Int)) (by go_simp) ?_
          simp only [Act.put, List.setIfInBounds_toArray, List.set_cons_zero, List.set_cons_succ]
          refine wpList_reads (by kernel_rfl) (.pointer (some ⟨g1, 0, none⟩)) (by go_simp) ?_
          simp only [Act.put, List.setIfInBounds_toArray, List.set_cons_zero, List.set_cons_succ]
          refine wpList_reads (by kernel_rfl) (.slice (some ⟨gk, ok, none⟩) 32 ck) (run_load_op rfl rfl lf) ?_
          simp only [Act.put, List.setIfInBounds_toArray, List.set_cons_zero, List.set_cons_succ]
          refine wpList_reads (by kernel_rfl) (.int .i64 (j : Int)) (by go_simp) ?_
          simp only [Act.put, List.setIfInBounds_toArray, List.set_cons_zero, List.set_cons_succ]
          refine wpList_reads (by kernel_rfl) (.pointer (some ⟨gk, ok + j, none⟩)) (by go_simp) ?_
          simp only [Act.put, List.setIfInBounds_toArray, List.set_cons_zero, List.set_cons_succ]
          refine wpList_reads (by kernel_rfl) (.int .u8 (z.toNat : Int)) (run_load_op rfl rfl lz) ?_
          simp only [Act.put, List.setIfInBounds_toArray, List.set_cons_zero, List.set_cons_succ]
          refine wpList_reads (by kernel_rfl) (.pointer (some ⟨G7, j, none⟩)) (by go_simp) ?_
          simp only [Act.put, List.setIfInBounds_toArray, List.set_cons_zero, List.set_cons_succ]
          refine wpList_store_to rfl _ _ _ rfl _ _ _ rfl rfl _ st ?_
          simp only [Act.put, List.setIfInBounds_toArray, List.set_cons_zero, List.set_cons_succ]
          clear st
          replace hz := Lib.hid hz
          go_wp2
          go_roundw
          case measure => simp [intOf]; omega
          case rel => exact ⟨j + 1, by omega, by go_num, mf.out, y'.out⟩
        · have hj : j = 32 := by omega
          subst hj
          obtain ⟨w8, rfl⟩ : ∃ x : World, x = wr := ⟨_, rfl⟩
          have hdj : decide (((32 : Nat) : Int) < 32) = false := by decide
          rw [filT_all h32.out] at yr
          replace y7 := Lib.hid yr
          replace M := Lib.hid MR
          replace y8 := Lib.hid (mr.heap y8.out (by have := o7.out; have := o78.out; have := o89.out; omega))
          replace y9 := Lib.hid (mr.heap y9.out (by have := o7.out; have := o78.out; have := o89.out; omega))
          clear mr yr MR hjlt hjN bj0
          go_wp2
          go_loopw [11] (fun iv wr => ∃ j : Nat, j ≤ 12 ∧ iv = .int .i64 (j : Int) ∧ Mod (fun i => i = G9) w8 wr ∧ wr.heap[G9]? = some (.cells (encB (filT n 12 j)) 34 (0,0))) (fun iv _ => 12 - (intOf iv).toNat)
          case atStart => exact ⟨0, by omega, rfl, Mod.refl _ _, y9.out⟩
          case round =>
            obtain ⟨j, hjN, rfl, mr, yr⟩ := hrel
            have bj0 : (0 : Int) ≤ (j : Int) := by omega
            have MR := M.out.trans' mr (fun i _ h => by have := o7.out; have := o78.out; have := o89.out; omega)
            by_cases hjlt : j < 12
            · have hdj : decide ((j : Int) < 12) = true := by rw [decide_eq_true_iff]; omega
              have bjN : (j : Int) < 12 := by omega
              obtain ⟨z, hz⟩ : ∃ z, z = n.getD j 0 := ⟨_, rfl⟩
              have hcz : wr.cell? ⟨gn, on + j, none⟩ = some (.int .u8 (z.toNat : Int)) := by
                rw [hz]
                have hc4 := hcn.out j hjlt
                have hblk : gn < w4.heap.size := lt_of_cell hc4
                exact cell_mod MR hc4 (by have := hB0.out; omega)
              have lz := ld_u8P hcz
              have lf := ld_slC1 (show wr.cell? ⟨g1, 1, none⟩ = _ from cell_of_row _ _ _ _ _ _ (MR.heap x1.out (by have := lt_of_heap x1.out; have := hB0.out; omega)))
              clear hcz
              obtain ⟨w', st, nm, y'⟩ := putU yr (j := j) (by rw [filT_length h12.out (by omega)]; exact hjlt) z
              rw [hz, filT_set h12.out hjlt] at y'
              have mf := mr.trans nm
              replace y' := Lib.hid y'
              replace mf := Lib.hid mf
              clear nm mr yr MR
              go_upto_region 15 with (fail)
              refine wp_region_lit ?_
              refine wpList_reads (by kernel_rfl) (.int .i64 (j : Int)) (by go_simp) ?_
              simp only [Act.put, List.setIfInBounds_toArray, List.set_cons_zero, List.set_cons_succ]
              refine wpList_reads (by kernel_rfl) (.pointer (some ⟨g1, 1, none⟩)) (by go_simp) ?_
              simp only [Act.put, List.setIfInBounds_toArray, List.set_cons_zero, List.set_cons_succ]
              refine wpList_reads (by kernel_rfl) (.slice (some ⟨gn, on, none⟩) 12 cn) (run_load_op rfl rfl lf) ?_
              simp only [Act.put, List.setIfInBounds_toArray, List.set_cons_zero, List.set_cons_succ]
              refine wpList_reads (by kernel_rfl) (.int .i64 (j : Int)) (by go_simp) ?_
              simp only [Act.put, List.setIfInBounds_toArray, List.set_cons_zero, List.set_cons_succ]
              refine wpList_reads (by kernel_rfl) (.pointer (some ⟨gn, on + j, none⟩)) (by go_simp) ?_
              simp only [Act.put, List.setIfInBounds_toArray, List.set_cons_zero, List.set_cons_succ]
              refine wpList_reads (by kernel_rfl) (.int .u8 (z.toNat : Int)) (run_load_op rfl rfl lz) ?_
              simp only [Act.put, List.setIfInBounds_toArray, List.set_cons_zero, List.set_cons_succ]
              refine wpList_reads (by kernel_rfl) (.pointer (some ⟨G9, j, none⟩)) (by go_simp) ?_
              simp only [Act.put, List.setIfInBounds_toArray, List.set_cons_zero, List.set_cons_succ]
              refine wpList_store_to rfl _ _ _ rfl _ _ _ rfl rfl _ st ?_
              simp only [Act.put, List.setIfInBounds_toArray, List.set_cons_zero, List.set_cons_succ]
              clear st
              replace hz := Lib.hid hz
              go_wp2
              go_roundw
              case measure => simp [intOf]; omega
              case rel => exact ⟨j + 1, by omega, by go_num, mf.out, y'.out⟩
            · have hj : j = 12 := by omega
              subst hj
              obtain ⟨w9, rfl⟩ : ∃ x : World, x = wr := ⟨_, rfl⟩
              have hdj : decide (((12 : Nat) : Int) < 12) = false := by decide
              rw [filT_all h12.out] at yr
              replace y9 := Lib.hid yr
              replace M := Lib.hid MR
              replace y7 := Lib.hid (mr.heap y7.out (by have := o7.out; have := o78.out; have := o89.out; omega))
              replace y8 := Lib.hid (mr.heap y8.out (by have := o7.out; have := o78.out; have := o89.out; omega))
              clear mr yr MR hjlt hjN bj0
              have lk := loadY32 y7.out h32.out
              have ln := loadY12 y9.out h12.out
              go_upto_region 16 with (fail)
              refine wp_region_lit ?_
              refine wpList_reads (by kernel_rfl) (.agg (encB k)) (run_load_op rfl rfl lk) ?_
              simp only [Act.put, List.setIfInBounds_toArray, List.set_cons_zero, List.set_cons_succ]
              refine wpList_reads (by kernel_rfl) (.agg (encB n)) (run_load_op rfl rfl ln) ?_
              simp only [Act.put, List.setIfInBounds_toArray, List.set_cons_zero, List.set_cons_succ]
              clear lk ln
              refine wpList_enter (by kernel_rfl) 11 #[.agg (encB k), .int .u32 0, .agg (encB n)] (by go_simp) (Cc.block_any k n h32.out h12.out 0 w9) ?_
              rintro e w10 ⟨rfl, m10⟩
              obtain ⟨O, hO⟩ : ∃ O, O = Cc.blockS k n 0 := ⟨_, rfl⟩
              have hOl : O.length = 64 := by rw [hO, Cc.blockS, Cc.outTo_length]
              rw [← hO]
              obtain ⟨H, hH⟩ : ∃ H, H = O.take 32 := ⟨_, rfl⟩
              have hHl : H.length = 32 := by rw [hH, List.length_take, hOl]; rfl
              obtain ⟨wA, hwA⟩ : ∃ x, x = w10.alloc (.cells (encB (List.replicate 64 0)) 35) := ⟨_, rfl⟩
              obtain ⟨G12, hG12⟩ : ∃ x, x = w10.heap.size := ⟨_, rfl⟩
              have mA : Mod (fun _ => False) w10 wA := by rw [hwA]; exact (Mod.refl _ _).alloc _
              have xA : wA.heap[G12]? = some (.cells (encB (List.replicate 64 0)) 35 (0,0)) := by rw [hwA]; exact hp_new _ _ _ hG12
              obtain ⟨w11, s11, n11, y12⟩ := storeY64 xA (s' := O) (by simp) hOl
              have m11 : Mod (fun _ => False) w9 w11 := m10.trans (mA.trans' n11 (fun i hi h => by omega))
              have o9c : G9 < G12 := by rw [hG12]; exact lt_of_heap (m10.heap y9.out (fun h => h))
              replace M := Lib.hid (M.out.trans' m11 (fun _ _ h => h.elim))
              replace y7 := Lib.hid (m11.heap y7.out (fun h => h))
              replace y8 := Lib.hid (m11.heap y8.out (fun h => h))
              replace y9 := Lib.hid (m11.heap y9.out (fun h => h))
              have y8' : w11.heap[G8]? = some (.cells (encB (filT H 32 0)) 33 (0,0)) := by rw [filT_zero]; exact y8.out
              clear y8
              have y8 := Lib.hid y8'
              clear y8'
              clear m10 mA xA n11 m11
              replace hO := Lib.hid hO
              replace hOl := Lib.hid hOl
              replace hH := Lib.hid hH
              replace hHl := Lib.hid hHl
              replace hwA := Lib.hid hwA
              replace hG12 := Lib.hid hG12
              replace y12 := Lib.hid y12
              replace o9c := Lib.hid o9c
              refine ⟨_, rfl, ?_⟩
              simp only [Act.put, List.setIfInBounds_toArray, List.set_cons_zero, List.set_cons_succ]
              refine wpList_yields (by kernel_rfl) _ _ (alloc_arrY 35 _ zeroY64 _ _ _ rfl) ?_
              simp only [Act.put, List.setIfInBounds_toArray, List.set_cons_zero, List.set_cons_succ]
              rw [← hG12.out, ← hwA.out]
              refine wpList_store_to rfl _ _ _ rfl _ _ _ rfl rfl _ s11 ?_
              simp only [Act.put, List.setIfInBounds_toArray, List.set_cons_zero, List.set_cons_succ]
              clear s11
              go_wp2
              go_loopw [13] (fun iv wr => ∃ j : Nat, j ≤ 32 ∧ iv = .int .i64 (j : Int) ∧ Mod (fun i => i = G8) w11 wr ∧ wr.heap[G8]? = some (.cells (encB (filT H 32 j)) 33 (0,0))) (fun iv _ => 32 - (intOf iv).toNat)
              case atStart => exact ⟨0, by omega, rfl, Mod.refl _ _, y8.out⟩
              case round =>
                obtain ⟨j, hjN, rfl, mr, yr⟩ := hrel
                have bj0 : (0 : Int) ≤ (j : Int) := by omega
                have MR := M.out.trans' mr (fun i _ h => by have := o7.out; have := o78.out; have := o89.out; omega)
                by_cases hjlt : j < 32
                · have hdj : decide ((j : Int) < 32) = true := by rw [decide_eq_true_iff]; omega
                  have bjN : (j : Int) < 32 := by omega
                  obtain ⟨z, hz⟩ : ∃ z, z = H.getD j 0 := ⟨_, rfl⟩
                  have hcz : wr.cell? ⟨G12, j, none⟩ = some (.int .u8 (z.toNat : Int)) := by
                    rw [hz, hH.out]
                    have h := cellU (mr.heap y12.out (by have := o9c.out; have := o89.out; omega)) (j := j) (by rw [hOl.out]; omega)
                    rw [h]
                    congr 3
                    rw [List.getD_eq_getElem?_getD, List.getD_eq_getElem?_getD, List.getElem?_take, if_pos hjlt]
                  have lz := ld_u8P hcz
                  clear hcz
                  have bj64 : (j : Int) < 64 := by omega
                  obtain ⟨w', st, nm, y'⟩ := putU yr (j := j) (by rw [filT_length hHl.out (by omega)]; exact hjlt) z
                  rw [hz, filT_set hHl.out hjlt] at y'
                  have mf := mr.trans nm
                  replace y' := Lib.hid y'
                  replace mf := Lib.hid mf
                  clear nm mr yr MR
                  go_upto_region 20 with (fail)
                  refine wp_region_lit ?_
                  refine wpList_reads (by kernel_rfl) (.int .i64 (j : Int)) (by go_simp) ?_
                  simp only [Act.put, List.setIfInBounds_toArray, List.set_cons_zero, List.set_cons_succ]
                  refine wpList_reads (by kernel_rfl) (.int .i64 (j : Int)) (by go_simp) ?_
                  simp only [Act.put, List.setIfInBounds_toArray, List.set_cons_zero, List.set_cons_succ]
                  refine wpList_reads (by kernel_rfl) (.pointer (some ⟨G12, j, none⟩)) (by go_simp) ?_
                  simp only [Act.put, List.setIfInBounds_toArray, List.set_cons_zero, List.set_cons_succ]
                  refine wpList_reads (by kernel_rfl) (.int .u8 (z.toNat : Int)) (run_load_op rfl rfl lz) ?_
                  simp only [Act.put, List.setIfInBounds_toArray, List.set_cons_zero, List.set_cons_succ]
                  refine wpList_reads (by kernel_rfl) (.pointer (some ⟨G8, j, none⟩)) (by go_simp) ?_
                  simp only [Act.put, List.setIfInBounds_toArray, List.set_cons_zero, List.set_cons_succ]
                  refine wpList_store_to rfl _ _ _ rfl _ _ _ rfl rfl _ st ?_
                  simp only [Act.put, List.setIfInBounds_toArray, List.set_cons_zero, List.set_cons_succ]
                  clear st
                  replace hz := Lib.hid hz
                  go_wp2
                  go_roundw
                  case measure => simp [intOf]; omega
                  case rel => exact ⟨j + 1, by omega, by go_num, mf.out, y'.out⟩
                · have hj : j = 32 := by omega
                  subst hj
                  obtain ⟨w12, rfl⟩ : ∃ x : World, x = wr := ⟨_, rfl⟩
                  have hdj : decide (((32 : Nat) : Int) < 32) = false := by decide
                  rw [filT_all hHl.out] at yr
                  replace y8 := Lib.hid yr
                  replace M := Lib.hid MR
                  replace y7 := Lib.hid (mr.heap y7.out (by have := o7.out; have := o78.out; have := o89.out; omega))
                  replace y9 := Lib.hid (mr.heap y9.out (by have := o7.out; have := o78.out; have := o89.out; omega))
                  clear mr yr MR hjlt hjN bj0
                  have lk := loadY32 y7.out h32.out
                  have ln := loadY12 y9.out h12.out
                  have kp := hp.out.mod M.out (fun i hi h => by have := hB0.out; omega)
                  have lb := ld_slC1 (show w12.cell? ⟨g1, 2, none⟩ = _ from cell_of_row _ _ _ _ _ _ (M.out.heap x1.out (by have := lt_of_heap x1.out; have := hB0.out; omega)))
                  go_upto_region 21 with (fail)
                  refine wp_region_lit ?_
                  refine wpList_reads (by kernel_rfl) (.agg (encB k)) (run_load_op rfl rfl lk) ?_
                  simp only [Act.put, List.setIfInBounds_toArray, List.set_cons_zero, List.set_cons_succ]
                  refine wpList_reads (by kernel_rfl) (.agg (encB n)) (run_load_op rfl rfl ln) ?_
                  simp only [Act.put, List.setIfInBounds_toArray, List.set_cons_zero, List.set_cons_succ]
                  refine wpList_reads (by kernel_rfl) (.slice ap NP cp) (by go_simp) ?_
                  simp only [Act.put, List.setIfInBounds_toArray, List.set_cons_zero, List.set_cons_succ]
                  clear lk ln lb
                  refine wpList_enter (by kernel_rfl) 12 #[.agg (encB k), .int .u32 1, .agg (encB n), .slice ap NP cp] (by go_simp) (xor_own k n h32.out h12.out _ p w12 kp (by rw [← hNP.out]; exact hPP.out)) ?_
                  rintro e w13 ⟨m13, vc, rfl, own13⟩
                  obtain ⟨C, hC⟩ : ∃ C, C = Cc.xorS k n 1 p := ⟨_, rfl⟩
                  rw [← hC, ← hNP.out] at own13
                  have hCl : C.length = NP := by rw [hC, xorS_length, hNP.out]
                  obtain ⟨ac, cc, rfl⟩ := own_sliceP own13
                  have h1213 := m13.size
                  have hB12 : B0 ≤ w12.heap.size := by rw [hB0.out]; exact M.out.size
                  replace M := Lib.hid (M.out.trans' m13 (fun _ _ h => h.elim))
                  replace y8 := Lib.hid (m13.heap y8.out (fun h => h))
                  obtain ⟨R0, hR0⟩ : ∃ x, x = w13.heap.size := ⟨_, rfl⟩
                  have hBR : B0 ≤ R0 := by rw [hR0]; omega
                  have own0 : w13.ownsRow R0 5 1 (.slice none 0 0) 0 (bytesV []) := World.ownsRow_nil _ _ _ _
                  have kb := hb.out.mod M.out (fun i hi h => by have := hB0.out; omega)
                  have lb := ld_slC1 (show w13.cell? ⟨g1, 2, none⟩ = _ from cell_of_row _ _ _ _ _ _ (M.out.heap x1.out (by have := lt_of_heap x1.out; have := hB0.out; omega)))
                  obtain ⟨v14, w14, r14, own14', m14, _⟩ := run_append_bytes2 own0 kb (by rw [← hNB.out]; have := hBB.out; omega) (by rw [hR0]; exact Nat.le_refl _) 22
                  rw [List.nil_append, Nat.zero_add, ← hNB.out] at own14'
                  have M1314 : Mod (fun i => R0 ≤ i) w13 w14 := own_grown (base' := 0) own0 m14
                  have hR0s : R0 ≤ w14.heap.size := by rw [hR0]; exact M1314.size
                  have own14 := own14'
                  obtain ⟨PD1, hPD1⟩ : ∃ x, x = (16 - b.length % 16) % 16 := ⟨_, rfl⟩
                  have hPD1b : PD1 ≤ 15 := by omega
                  have hmod1 : ∀ i, i ≤ PD1 → ((NB + i) % 16 = 0 ↔ i = PD1) := by intro i hi; rw [hNB.out]; constructor <;> intro h <;> omega
                  have hBB' : NB ≤ 140737488351232 - 200 := by have := hBB.out; omega
                  clear own0 kb m14 m13 own14' kp y7 y9
                  replace hC := Lib.hid hC
                  replace hCl := Lib.hid hCl
                  replace own13 := Lib.hid own13
                  replace h1213 := Lib.hid h1213
                  replace hB12 := Lib.hid hB12
                  replace hR0 := Lib.hid hR0
                  replace hBR := Lib.hid hBR
                  replace M1314 := Lib.hid M1314
                  replace hR0s := Lib.hid hR0s
                  replace own14 := Lib.hid own14
                  replace hPD1 := Lib.hid hPD1
                  replace hPD1b := Lib.hid hPD1b
                  replace hmod1 := Lib.hid hmod1
                  replace hBB' := Lib.hid hBB'
                  refine ⟨_, rfl, ?_⟩
                  simp only [Act.put, List.setIfInBounds_toArray, List.set_cons_zero, List.set_cons_succ]
                  refine wpList_reads (by kernel_rfl) (.tuple #[.slice ac NP cc, .int .i64 0]) (by go_simp) ?_
                  simp only [Act.put, List.setIfInBounds_toArray, List.set_cons_zero, List.set_cons_succ]
                  refine wpList_reads (by kernel_rfl) (.slice ac NP cc) (by go_simp) ?_
                  simp only [Act.put, List.setIfInBounds_toArray, List.set_cons_zero, List.set_cons_succ]
                  refine wpList_reads (by kernel_rfl) (.int .i64 0) (by go_simp) ?_
                  simp only [Act.put, List.setIfInBounds_toArray, List.set_cons_zero, List.set_cons_succ]
                  refine wpList_reads (by kernel_rfl) (.slice ac NP cc) (by go_simp) ?_
                  simp only [Act.put, List.setIfInBounds_toArray, List.set_cons_zero, List.set_cons_succ]
                  refine wpList_reads (by kernel_rfl) (.int .i64 0) (by go_simp) ?_
                  simp only [Act.put, List.setIfInBounds_toArray, List.set_cons_zero, List.set_cons_succ]
                  go_upto_region 23 with (fail)
                  refine wp_region_lit ?_
                  refine wpList_reads (by kernel_rfl) (.slice none 0 0) (by go_simp) ?_
                  simp only [Act.put, List.setIfInBounds_toArray, List.set_cons_zero, List.set_cons_succ]
                  refine wpList_reads (by kernel_rfl) (.pointer (some ⟨g1, 2, none⟩)) (by go_simp) ?_
                  simp only [Act.put, List.setIfInBounds_toArray, List.set_cons_zero, List.set_cons_succ]
                  refine wpList_reads (by kernel_rfl) (.slice ab NB cb) (run_load_op rfl rfl lb) ?_
                  simp only [Act.put, List.setIfInBounds_toArray, List.set_cons_zero, List.set_cons_succ]
                  refine wpList_yields (by kernel_rfl) v14 w14 (run_append_opP rfl rfl rfl r14) ?_
                  simp only [Act.put, List.setIfInBounds_toArray, List.set_cons_zero, List.set_cons_succ]
                  clear r14 lb
                  refine wpList_reads (by kernel_rfl) (v14) (by go_simp) ?_
                  simp only [Act.put, List.setIfInBounds_toArray, List.set_cons_zero, List.set_cons_succ]
                  go_wp2
                  go_loopw [16] (fun lv wr => ∃ i : Nat, i ≤ PD1 ∧ Mod (fun i => R0 ≤ i) w14 wr ∧ wr.ownsRow R0 5 1 lv (NB + i) (bytesV (b ++ List.replicate i 0))) (fun lv _ => NB + PD1 - lenV lv)
                  case atStart => exact ⟨0, by omega, Mod.refl _ _, by have h := own14.out; simp only [List.replicate_zero, List.append_nil, Nat.add_zero]; exact h⟩
                  case round =>
                    obtain ⟨i, hiN, mr, ownr⟩ := hrel
                    obtain ⟨ai, ci, hov⟩ := own_sliceP ownr
                    subst hov
                    obtain ⟨NN2, hNN2⟩ : ∃ x, x = NB + i := ⟨_, rfl⟩
                    rw [← hNN2] at ownr ⊢
                    have bN0 : (0 : Int) ≤ (NN2 : Int) := by omega
                    have hNNb : NN2 ≤ 140737488351232 := by have := hBB'.out; have := hPD1b.out; omega
                    have hmd := hmod1.out i hiN
                    rw [← hNN2] at hmd
                    by_cases hilt : i < PD1
                    · have hm0 : NN2 % 16 ≠ 0 := fun h => by have := hmd.1 h; omega
                      obtain ⟨q, hq⟩ : ∃ q, q = NN2 % 16 := ⟨_, rfl⟩
                      have hqt : Int.tmod (NN2 : Int) 16 = (q : Int) := by rw [hq]; rfl
                      have hqe : (NN2 : Int) % 16 = (q : Int) := by omega
                      have hq0 : ((q : Int) == 0) = false := by rw [beq_eq_false_iff_ne]; omega
                      have hq0' : ((q : Int) != 0) = true := by rw [bne_iff_ne]; omega
                      have hq0'' : ¬ (q : Int) = 0 := by omega
                      have bq0 : (0 : Int) ≤ (q : Int) := by omega
                      have hwq : IntKind.i64.wrap (q : Int) = (q : Int) := by rw [IntKind.wrap_i64]; omega
                      obtain ⟨wa, hwa⟩ : ∃ wa, wa = wr.alloc (.cells #[.int .u8 0] 5) := ⟨_, rfl⟩
                      obtain ⟨ga, hga⟩ : ∃ ga, ga = wr.heap.size := ⟨_, rfl⟩
                      have ma : Mod (fun _ => False) wr wa := by rw [hwa]; exact (Mod.refl _ _).alloc _
                      have ra : wa.heap[ga]? = some (.cells (encB [0]) 5 (0,0)) := by rw [hwa]; exact hp_new _ _ _ hga
                      have ownA := ownsRow_keep0 ownr ma
                      have hsza : R0 ≤ wa.heap.size := Nat.le_trans hR0s.out (Nat.le_trans mr.size ma.size)
                      obtain ⟨v6, w6', hr6, own6, m6, nb6, _⟩ := run_append_one ownA ra (by omega) hsza 22
                      have mia : Mod (fun i => R0 ≤ i) w14 wa := mr.trans' ma (fun _ _ h => h.elim)
                      have mf : Mod (fun i => R0 ≤ i) w14 w6' := mia.trans' m6 (fun k hk h => by have := (ownsRow_in ownA h).1; omega)
                      obtain ⟨a6, c6, hov⟩ := own_sliceP own6
                      subst hov
                      have hrs : List.replicate (i + 1) (0 : BitVec 8) = List.replicate i 0 ++ [0] := List.replicate_succ'
                      replace hNN2 := Lib.hid hNN2
                      replace hwa := Lib.hid hwa
                      replace hga := Lib.hid hga
                      replace own6 := Lib.hid own6
                      replace mf := Lib.hid mf
                      replace hq := Lib.hid hq
                      replace hrs := Lib.hid hrs
                      replace hmd := Lib.hid hmd
                      replace hm0 := Lib.hid hm0
                      clear ma ra ownA ownr mia m6 nb6 mr hsza
                      go_upto_region 25 with (fail)
                      refine wp_region_lit ?_
                      refine wpList_reads (by kernel_rfl) (.slice ai NN2 ci) (by go_simp) ?_
                      simp only [Act.put, List.setIfInBounds_toArray, List.set_cons_zero, List.set_cons_succ]
                      refine wpList_yields (by kernel_rfl) (.slice (some ⟨ga, 0, none⟩) 1 1) wa (by rw [hwa.out, hga.out]; go_simp) ?_
                      simp only [Act.put, List.setIfInBounds_toArray, List.set_cons_zero, List.set_cons_succ]
                      refine wpList_yields (by kernel_rfl) (.slice a6 (NN2 + 1) c6) w6' (run_append_opP rfl rfl rfl hr6) ?_
                      simp only [Act.put, List.setIfInBounds_toArray, List.set_cons_zero, List.set_cons_succ]
                      clear hr6
                      refine wpList_reads (by kernel_rfl) (.slice a6 (NN2 + 1) c6) (by go_simp) ?_
                      simp only [Act.put, List.setIfInBounds_toArray, List.set_cons_zero, List.set_cons_succ]
                      go_wp2
                      go_roundw
                      case measure => have := hNN2.out; simp only [lenV]; omega
                      case rel => exact ⟨i + 1, by omega, mf.out, by have h := own6.out; rw [List.append_assoc, ← hrs.out] at h; rw [show NB + (i + 1) = NN2 + 1 by have := hNN2.out; omega]; exact h⟩
                    · have hi : PD1 = i := by omega
                      subst hi
                      obtain ⟨w15, rfl⟩ : ∃ x : World, x = wr := ⟨_, rfl⟩
                      have hm0 : NN2 % 16 = 0 := hmd.2 rfl
                      have hqt : Int.tmod (NN2 : Int) 16 = 0 := by
                        have : Int.tmod (NN2 : Int) 16 = ((NN2 % 16 : Nat) : Int) := rfl
                        rw [this, hm0]; rfl
                      have hqe : (NN2 : Int) % 16 = 0 := by omega
                      clear hilt hiN hmd
                      have hA4 : b ++ List.replicate PD1 0 = b ++ padZ b := by rw [hPD1.out]; rfl
                      rw [hA4] at ownr
                      obtain ⟨N1, hN1⟩ : ∃ x, x = NN2 := ⟨_, rfl⟩
                      rw [← hN1] at ownr hqt hqe ⊢
                      have hN1e : (b ++ padZ b).length = N1 := by rw [hN1, hNN2, List.length_append, hNB.out, hPD1.out]; simp [padZ]
                      have hN1b : N1 ≤ 1048600 := by rw [hN1, hNN2]; have := hBB.out; have := hPD1b.out; omega
                      have M1315 := M1314.out.trans mr
                      have hR15 : R0 ≤ w15.heap.size := Nat.le_trans hR0s.out mr.size
                      have kc := (byteAt_of_own own13.out).mod M1315 (fun i hi h => by have := hR0.out; omega)
                      obtain ⟨v16, w16, r16, own16', m16, _⟩ := run_append_bytes2 ownr kc (by rw [hCl.out]; have := hPP.out; omega) hR15 22
                      have M1316 : Mod (fun i => R0 ≤ i) w13 w16 := M1315.trans (own_grown (base' := 0) ownr m16)
                      obtain ⟨AC2, hAC2⟩ : ∃ l : List (BitVec 8), l = b ++ padZ b ++ C := ⟨_, rfl⟩
                      rw [← hAC2] at own16'
                      obtain ⟨N2, hN2⟩ : ∃ x, x = N1 + C.length := ⟨_, rfl⟩
                      rw [← hN2] at own16'
                      have hN2e : AC2.length = N2 := by rw [hAC2, hN2, List.length_append, hN1e]
                      have hN2b : N2 ≤ 140737488351232 - 200 := by rw [hN2, hCl.out]; have := hPP.out; omega
                      obtain ⟨PD2, hPD2⟩ : ∃ x, x = (16 - C.length % 16) % 16 := ⟨_, rfl⟩
                      have hPD2b : PD2 ≤ 15 := by omega
                      have hN116 : N1 % 16 = 0 := hN1 ▸ hm0
                      have hmod2 : ∀ i, i ≤ PD2 → ((N2 + i) % 16 = 0 ↔ i = PD2) := by intro i hi; rw [hN2]; constructor <;> intro h <;> omega
                      have hPDe : (padZ C).length = PD2 := by rw [hPD2]; simp [padZ]
                      have own16 := own16'
                      have hR0s' : R0 ≤ w16.heap.size := Nat.le_trans hR15 (own_grown (base' := 0) ownr m16).size
                      clear own16' ownr hA4 hNN2 hNNb bN0 mr hPD1 hR0s kc m16 M1315 hR15 hN116 hm0
                      replace hR0s := Lib.hid hR0s'
                      clear hR0s'
                      replace hN1 := Lib.hid hN1
                      replace hN1e := Lib.hid hN1e
                      replace hN1b := Lib.hid hN1b
                      replace M1316 := Lib.hid M1316
                      replace hAC2 := Lib.hid hAC2
                      replace hN2 := Lib.hid hN2
                      replace hN2e := Lib.hid hN2e
                      replace hN2b := Lib.hid hN2b
                      replace hPD2 := Lib.hid hPD2
                      replace hPD2b := Lib.hid hPD2b
                      replace hmod2 := Lib.hid hmod2
                      replace hPDe := Lib.hid hPDe
                      replace own16 := Lib.hid own16
                      go_upto_region 26 with (fail)
                      refine wp_region_lit ?_
                      refine wpList_reads (by kernel_rfl) (.slice ai N1 ci) (by go_simp) ?_
                      simp only [Act.put, List.setIfInBounds_toArray, List.set_cons_zero, List.set_cons_succ]
                      refine wpList_reads (by kernel_rfl) (.slice ac NP cc) (by go_simp) ?_
                      simp only [Act.put, List.setIfInBounds_toArray, List.set_cons_zero, List.set_cons_succ]
                      refine wpList_yields (by kernel_rfl) v16 w16 (run_append_opP rfl rfl rfl r16) ?_
                      simp only [Act.put, List.setIfInBounds_toArray, List.set_cons_zero, List.set_cons_succ]
                      clear r16
                      refine wpList_reads (by kernel_rfl) (v16) (by go_simp) ?_
                      simp only [Act.put, List.setIfInBounds_toArray, List.set_cons_zero, List.set_cons_succ]
                      clear hqt hqe
                      go_wp2
                      go_loopw [16] (fun lv wr => ∃ i : Nat, i ≤ PD2 ∧ Mod (fun i => R0 ≤ i) w16 wr ∧ wr.ownsRow R0 5 1 lv (N2 + i) (bytesV (AC2 ++ List.replicate i 0))) (fun lv _ => N2 + PD2 - lenV lv)
                      case atStart => exact ⟨0, by omega, Mod.refl _ _, by have h := own16.out; simp only [List.replicate_zero, List.append_nil, Nat.add_zero]; exact h⟩
                      case round =>
                        obtain ⟨i, hiN, mr, ownr⟩ := hrel
                        obtain ⟨ai, ci, hov⟩ := own_sliceP ownr
                        subst hov
                        obtain ⟨NN2, hNN2⟩ : ∃ x, x = N2 + i := ⟨_, rfl⟩
                        rw [← hNN2] at ownr ⊢
                        have bN0 : (0 : Int) ≤ (NN2 : Int) := by omega
                        have hNNb : NN2 ≤ 140737488351232 := by have := hN2b.out; have := hPD2b.out; omega
                        have hmd := hmod2.out i hiN
                        rw [← hNN2] at hmd
                        by_cases hilt : i < PD2
                        · have hm0 : NN2 % 16 ≠ 0 := fun h => by have := hmd.1 h; omega
                          obtain ⟨q, hq⟩ : ∃ q, q = NN2 % 16 := ⟨_, rfl⟩
                          have hqt : Int.tmod (NN2 : Int) 16 = (q : Int) := by rw [hq]; rfl
                          have hqe : (NN2 : Int) % 16 = (q : Int) := by omega
                          have hq0 : ((q : Int) == 0) = false := by rw [beq_eq_false_iff_ne]; omega
                          have hq0' : ((q : Int) != 0) = true := by rw [bne_iff_ne]; omega
                          have hq0'' : ¬ (q : Int) = 0 := by omega
                          have bq0 : (0 : Int) ≤ (q : Int) := by omega
                          have hwq : IntKind.i64.wrap (q : Int) = (q : Int) := by rw [IntKind.wrap_i64]; omega
                          obtain ⟨wa, hwa⟩ : ∃ wa, wa = wr.alloc (.cells #[.int .u8 0] 5) := ⟨_, rfl⟩
                          obtain ⟨ga, hga⟩ : ∃ ga, ga = wr.heap.size := ⟨_, rfl⟩
                          have ma : Mod (fun _ => False) wr wa := by rw [hwa]; exact (Mod.refl _ _).alloc _
                          have ra : wa.heap[ga]? = some (.cells (encB [0]) 5 (0,0)) := by rw [hwa]; exact hp_new _ _ _ hga
                          have ownA := ownsRow_keep0 ownr ma
                          have hsza : R0 ≤ wa.heap.size := Nat.le_trans hR0s.out (Nat.le_trans mr.size ma.size)
                          obtain ⟨v6, w6', hr6, own6, m6, nb6, _⟩ := run_append_one ownA ra (by omega) hsza 22
                          have mia : Mod (fun i => R0 ≤ i) w16 wa := mr.trans' ma (fun _ _ h => h.elim)
                          have mf : Mod (fun i => R0 ≤ i) w16 w6' := mia.trans' m6 (fun k hk h => by have := (ownsRow_in ownA h).1; omega)
                          obtain ⟨a6, c6, hov⟩ := own_sliceP own6
                          subst hov
                          have hrs : List.replicate (i + 1) (0 : BitVec 8) = List.replicate i 0 ++ [0] := List.replicate_succ'
                          replace hNN2 := Lib.hid hNN2
                          replace hwa := Lib.hid hwa
                          replace hga := Lib.hid hga
                          replace own6 := Lib.hid own6
                          replace mf := Lib.hid mf
                          replace hq := Lib.hid hq
                          replace hrs := Lib.hid hrs
                          replace hmd := Lib.hid hmd
                          replace hm0 := Lib.hid hm0
                          clear ma ra ownA ownr mia m6 nb6 mr hsza
                          go_upto_region 28 with (fail)
                          refine wp_region_lit ?_
                          refine wpList_reads (by kernel_rfl) (.slice ai NN2 ci) (by go_simp) ?_
                          simp only [Act.put, List.setIfInBounds_toArray, List.set_cons_zero, List.set_cons_succ]
                          refine wpList_yields (by kernel_rfl) (.slice (some ⟨ga, 0, none⟩) 1 1) wa (by rw [hwa.out, hga.out]; go_simp) ?_
                          simp only [Act.put, List.setIfInBounds_toArray, List.set_cons_zero, List.set_cons_succ]
                          refine wpList_yields (by kernel_rfl) (.slice a6 (NN2 + 1) c6) w6' (run_append_opP rfl rfl rfl hr6) ?_
                          simp only [Act.put, List.setIfInBounds_toArray, List.set_cons_zero, List.set_cons_succ]
                          clear hr6
                          refine wpList_reads (by kernel_rfl) (.slice a6 (NN2 + 1) c6) (by go_simp) ?_
                          simp only [Act.put, List.setIfInBounds_toArray, List.set_cons_zero, List.set_cons_succ]
                          go_wp2
                          go_roundw
                          case measure => have := hNN2.out; simp only [lenV]; omega
                          case rel => exact ⟨i + 1, by omega, mf.out, by have h := own6.out; rw [List.append_assoc, ← hrs.out] at h; rw [show N2 + (i + 1) = NN2 + 1 by have := hNN2.out; omega]; exact h⟩
                        · have hi : PD2 = i := by omega
                          subst hi
                          obtain ⟨w18, rfl⟩ : ∃ x : World, x = wr := ⟨_, rfl⟩
                          have hm0 : NN2 % 16 = 0 := hmd.2 rfl
                          have hqt : Int.tmod (NN2 : Int) 16 = 0 := by
                            have : Int.tmod (NN2 : Int) 16 = ((NN2 % 16 : Nat) : Int) := rfl
                            rw [this, hm0]; rfl
                          have hqe : (NN2 : Int) % 16 = 0 := by omega
                          clear hilt hiN hmd
                          obtain ⟨ACC, hACC⟩ : ∃ l : List (BitVec 8), l = b ++ padZ b ++ C ++ padZ C := ⟨_, rfl⟩
                          have hA5 : AC2 ++ List.replicate PD2 0 = ACC := by rw [hACC, hAC2.out, hPD2.out]; rfl
                          rw [hA5] at ownr
                          obtain ⟨NA, hNAd⟩ : ∃ x, x = NN2 := ⟨_, rfl⟩
                          rw [← hNAd] at ownr hqt hqe ⊢
                          have hNA : ACC.length = NA := by rw [← hA5, List.length_append, List.length_replicate, hN2e.out, hNAd, hNN2]
                          have hNAb : NA ≤ 140737488351232 - 100 := by rw [hNAd, hNN2]; have := hN2b.out; have := hPD2b.out; omega
                          have M1318 := M1316.out.trans mr
                          have hR0s' : R0 ≤ w18.heap.size := Nat.le_trans hR0s.out mr.size
                          have x18 := M.out
                          have own18 := ownr
                          clear ownr hA5 hNN2 hNNb bN0 mr hAC2 hPD2 hR0s hN2e hPDe hN2b hPD2b
                          replace hR0s := Lib.hid hR0s'
                          clear hR0s'
                          replace hACC := Lib.hid hACC
                          replace hNA := Lib.hid hNA
                          replace hNAb := Lib.hid hNAb
                          replace M1318 := Lib.hid M1318
                          replace own18 := Lib.hid own18
                          replace hNAd := Lib.hid hNAd
                          clear x18
                          go_wp2
                          go_loopw [16, 17] (fun lv iv wr => ∃ j : Nat, j ≤ 16 ∧ iv = .int .i64 (j : Int) ∧ Mod (fun i => R0 ≤ i) w18 wr ∧ wr.ownsRow R0 5 1 lv (NA + j) (bytesV (ACC ++ (eightS NB ++ eightS NP).take j))) (fun _ iv _ => 16 - (intOf iv).toNat)
                          case atStart => exact ⟨0, by omega, rfl, Mod.refl _ _, by have h := own18.out; simp only [List.take_zero, List.append_nil, Nat.add_zero]; exact h⟩
                          case round =>
                            obtain ⟨j, hjN, rfl, mr, ownr⟩ := hrel
                            have bj0 : (0 : Int) ≤ (j : Int) := by omega
                            by_cases hjlt : j < 16
                            · have hdj : decide ((j : Int) < 16) = true := by rw [decide_eq_true_iff]; omega
                              obtain ⟨x, hx⟩ : ∃ x, x = if 8 ≤ j then NP else NB := ⟨_, rfl⟩
                              have hxb : x ≤ 1048576 := by rw [hx]; have := hPP.out; have := hBB.out; split <;> assumption
                              have bx0 : (0 : Int) ≤ (x : Int) := by omega
                              have hwx : IntKind.u64.wrap (x : Int) = (x : Int) := by rw [IntKind.wrap_u64]; omega
                              obtain ⟨i, hi⟩ : ∃ i, i = j % 8 := ⟨_, rfl⟩
                              have hit : Int.tmod (j : Int) 8 = (i : Int) := by rw [hi]; rfl
                              have hie : (j : Int) % 8 = (i : Int) := by omega
                              have bi0 : (0 : Int) ≤ (i : Int) := by omega
                              have hwi : IntKind.i64.wrap (i : Int) = (i : Int) := by rw [IntKind.wrap_i64]; omega
                              obtain ⟨s, hs8⟩ : ∃ s, s = 8 * i := ⟨_, rfl⟩
                              have hsi : 8 * (i : Int) = (s : Int) := by omega
                              have hws : IntKind.i64.wrap (s : Int) = (s : Int) := by rw [IntKind.wrap_i64]; omega
                              have bs0 : (0 : Int) ≤ (s : Int) := by omega
                              have bs64 : (s : Int) < 64 := by omega
                              have bs64' : s < 64 := by omega
                              obtain ⟨y, hy⟩ : ∃ y, y = x / 2 ^ s := ⟨_, rfl⟩
                              have hyi : (x : Int) / 2 ^ s = (y : Int) := by rw [hy]; simp
                              have hyb : y ≤ 1048576 := by rw [hy]; exact Nat.le_trans (Nat.div_le_self _ _) hxb
                              have by0 : (0 : Int) ≤ (y : Int) := by omega
                              have hwy : IntKind.u64.wrap (y : Int) = (y : Int) := by rw [IntKind.wrap_u64]; omega
                              obtain ⟨z, hz⟩ : ∃ z, z = BitVec.ofNat 8 y := ⟨_, rfl⟩
                              have hzi : IntKind.u8.wrap (y : Int) = (z.toNat : Int) := by rw [hz, BitVec.toNat_ofNat, IntKind.wrap_u8]; omega
                              have hsu : (eightS NB ++ eightS NP).take (j + 1) = (eightS NB ++ eightS NP).take j ++ [z] := by rw [eights_succ _ _ _ hjlt, hz, hy, hs8, hi, hx]
                              have hlp : (ACC ++ (eightS NB ++ eightS NP).take j).length = NA + j := by rw [List.length_append, hNA.out, List.length_take]; simp [eightS, eightTo_length]; omega
                              obtain ⟨ai, ci, hov⟩ := own_sliceP ownr
                              subst hov
                              obtain ⟨O6, hO6⟩ : ∃ O6, O6 = ACC ++ (eightS NB ++ eightS NP).take j := ⟨_, rfl⟩
                              rw [← hO6] at ownr
                              obtain ⟨MM, hMM⟩ : ∃ MM, MM = NA + j := ⟨_, rfl⟩
                              rw [← hMM] at ownr ⊢
                              obtain ⟨wa, hwa⟩ : ∃ wa, wa = wr.alloc (.cells #[.int .u8 (z.toNat : Int)] 5) := ⟨_, rfl⟩
                              obtain ⟨ga, hga⟩ : ∃ ga, ga = wr.heap.size := ⟨_, rfl⟩
                              have ma : Mod (fun _ => False) wr wa := by rw [hwa]; exact (Mod.refl _ _).alloc _
                              have ra : wa.heap[ga]? = some (.cells (encB [z]) 5 (0,0)) := by rw [hwa]; exact hp_new _ _ _ hga
                              have ownA := ownsRow_keep0 ownr ma
                              have hR18 := hR0s.out
                              have hsza : R0 ≤ wa.heap.size := Nat.le_trans hR18 (Nat.le_trans mr.size ma.size)
                              obtain ⟨v6, w6', hr6, own6, m6, nb6, _⟩ := run_append_one ownA ra (by have := hNAb.out; omega) hsza 22
                              have mia : Mod (fun i => R0 ≤ i) w18 wa := mr.trans' ma (fun _ _ h => h.elim)
                              have mf : Mod (fun i => R0 ≤ i) w18 w6' := mia.trans' m6 (fun k hk h => by have := (ownsRow_in ownA h).1; omega)
                              have l2 := ld_slC1 (show wr.cell? ⟨g1, 2, none⟩ = _ from cell_of_row _ _ _ _ _ _ (((M.out.trans' M1318.out (fun i hi h => by have := hBR.out; omega)).trans' mr (fun i hi h => by have := hBR.out; omega)).heap x1.out (by have := lt_of_heap x1.out; have := hB0.out; omega)))
                              replace hi := Lib.hid hi
                              replace hs8 := Lib.hid hs8
                              replace hy := Lib.hid hy
                              replace hz := Lib.hid hz
                              replace hsu := Lib.hid hsu
                              replace hlp := Lib.hid hlp
                              replace hO6 := Lib.hid hO6
                              replace hMM := Lib.hid hMM
                              replace hwa := Lib.hid hwa
                              replace hga := Lib.hid hga
                              replace own6 := Lib.hid own6
                              replace mf := Lib.hid mf
                              clear ma ra ownA ownr mia m6 nb6 mr hsza hR18
                              go_upto_region 32 with (fail)
                              refine wp_region_lit ?_
                              refine wpList_reads (by kernel_rfl) (.pointer (some ⟨g1, 2, none⟩)) (by go_simp) ?_
                              simp only [Act.put, List.setIfInBounds_toArray, List.set_cons_zero, List.set_cons_succ]
                              refine wpList_reads (by kernel_rfl) (.slice ab NB cb) (run_load_op rfl rfl l2) ?_
                              simp only [Act.put, List.setIfInBounds_toArray, List.set_cons_zero, List.set_cons_succ]
                              refine wpList_reads (by kernel_rfl) (.int .i64 (NB : Int)) (by go_simp) ?_
                              simp only [Act.put, List.setIfInBounds_toArray, List.set_cons_zero, List.set_cons_succ]
                              refine wpList_reads (by kernel_rfl) (.int .i64 (NB : Int)) (by go_simp) ?_
                              simp only [Act.put, List.setIfInBounds_toArray, List.set_cons_zero, List.set_cons_succ]
                              clear l2
                              by_cases h8 : 8 ≤ j
                              · have hd8 : decide ((8 : Int) ≤ (j : Int)) = true := by rw [decide_eq_true_iff]; omega
                                rw [if_pos h8] at hx
                                replace hx := hx.symm
                                subst hx
                                replace h8 := Lib.hid h8
                                go_upto_region 35 with (fail)
                                refine wp_region_lit ?_
                                refine wpList_reads (by kernel_rfl) (.slice ai MM ci) (by go_simp) ?_
                                simp only [Act.put, List.setIfInBounds_toArray, List.set_cons_zero, List.set_cons_succ]
                                refine wpList_reads (by kernel_rfl) (.int .i64 (NP : Int)) (by go_simp) ?_
                                simp only [Act.put, List.setIfInBounds_toArray, List.set_cons_zero, List.set_cons_succ]
                                refine wpList_reads (by kernel_rfl) (.int .u64 (NP : Int)) (by go_simp) ?_
                                simp only [Act.put, List.setIfInBounds_toArray, List.set_cons_zero, List.set_cons_succ]
                                refine wpList_reads (by kernel_rfl) (.int .i64 (j : Int)) (by go_simp) ?_
                                simp only [Act.put, List.setIfInBounds_toArray, List.set_cons_zero, List.set_cons_succ]
                                refine wpList_reads (by kernel_rfl) (.int .i64 (i : Int)) (by go_simp) ?_
                                simp only [Act.put, List.setIfInBounds_toArray, List.set_cons_zero, List.set_cons_succ]
                                refine wpList_reads (by kernel_rfl) (.int .i64 (s : Int)) (by go_simp) ?_
                                simp only [Act.put, List.setIfInBounds_toArray, List.set_cons_zero, List.set_cons_succ]
                                refine wpList_reads (by kernel_rfl) (.int .u64 (y : Int)) (by go_simp) ?_
                                simp only [Act.put, List.setIfInBounds_toArray, List.set_cons_zero, List.set_cons_succ]
                                refine wpList_reads (by kernel_rfl) (.int .u8 (z.toNat : Int)) (by go_simp) ?_
                                simp only [Act.put, List.setIfInBounds_toArray, List.set_cons_zero, List.set_cons_succ]
                                refine wpList_yields (by kernel_rfl) (.slice (some ⟨ga, 0, none⟩) 1 1) wa (by rw [hwa.out, hga.out]; go_simp) ?_
                                simp only [Act.put, List.setIfInBounds_toArray, List.set_cons_zero, List.set_cons_succ]
                                refine wpList_yields (by kernel_rfl) v6 w6' (run_append_opP rfl rfl rfl hr6) ?_
                                simp only [Act.put, List.setIfInBounds_toArray, List.set_cons_zero, List.set_cons_succ]
                                clear hr6
                                refine wpList_reads (by kernel_rfl) (v6) (by go_simp) ?_
                                simp only [Act.put, List.setIfInBounds_toArray, List.set_cons_zero, List.set_cons_succ]
                                go_wp2
                                go_roundw
                                case measure => simp [intOf]; omega
                                case rel => exact ⟨j + 1, by omega, by go_num, mf.out, by have h := own6.out; rw [hMM.out, hO6.out, List.append_assoc, ← hsu.out] at h; exact h⟩
                              · have hd8 : decide ((8 : Int) ≤ (j : Int)) = false := by rw [decide_eq_false_iff_not]; omega
                                rw [if_neg h8] at hx
                                replace hx := hx.symm
                                subst hx
                                replace h8 := Lib.hid h8
                                go_upto_region 35 with (fail)
                                refine wp_region_lit ?_
                                refine wpList_reads (by kernel_rfl) (.slice ai MM ci) (by go_simp) ?_
                                simp only [Act.put, List.setIfInBounds_toArray, List.set_cons_zero, List.set_cons_succ]
                                refine wpList_reads (by kernel_rfl) (.int .i64 (NB : Int)) (by go_simp) ?_
                                simp only [Act.put, List.setIfInBounds_toArray, List.set_cons_zero, List.set_cons_succ]
                                refine wpList_reads (by kernel_rfl) (.int .u64 (NB : Int)) (by go_simp) ?_
                                simp only [Act.put, List.setIfInBounds_toArray, List.set_cons_zero, List.set_cons_succ]
                                refine wpList_reads (by kernel_rfl) (.int .i64 (j : Int)) (by go_simp) ?_
                                simp only [Act.put, List.setIfInBounds_toArray, List.set_cons_zero, List.set_cons_succ]
                                refine wpList_reads (by kernel_rfl) (.int .i64 (i : Int)) (by go_simp) ?_
                                simp only [Act.put, List.setIfInBounds_toArray, List.set_cons_zero, List.set_cons_succ]
                                refine wpList_reads (by kernel_rfl) (.int .i64 (s : Int)) (by go_simp) ?_
                                simp only [Act.put, List.setIfInBounds_toArray, List.set_cons_zero, List.set_cons_succ]
                                refine wpList_reads (by kernel_rfl) (.int .u64 (y : Int)) (by go_simp) ?_
                                simp only [Act.put, List.setIfInBounds_toArray, List.set_cons_zero, List.set_cons_succ]
                                refine wpList_reads (by kernel_rfl) (.int .u8 (z.toNat : Int)) (by go_simp) ?_
                                simp only [Act.put, List.setIfInBounds_toArray, List.set_cons_zero, List.set_cons_succ]
                                refine wpList_yields (by kernel_rfl) (.slice (some ⟨ga, 0, none⟩) 1 1) wa (by rw [hwa.out, hga.out]; go_simp) ?_
                                simp only [Act.put, List.setIfInBounds_toArray, List.set_cons_zero, List.set_cons_succ]
                                refine wpList_yields (by kernel_rfl) v6 w6' (run_append_opP rfl rfl rfl hr6) ?_
                                simp only [Act.put, List.setIfInBounds_toArray, List.set_cons_zero, List.set_cons_succ]
                                clear hr6
                                refine wpList_reads (by kernel_rfl) (v6) (by go_simp) ?_
                                simp only [Act.put, List.setIfInBounds_toArray, List.set_cons_zero, List.set_cons_succ]
                                go_wp2
                                go_roundw
                                case measure => simp [intOf]; omega
                                case rel => exact ⟨j + 1, by omega, by go_num, mf.out, by have h := own6.out; rw [hMM.out, hO6.out, List.append_assoc, ← hsu.out] at h; exact h⟩
                            · have hj : j = 16 := by omega
                              subst hj
                              obtain ⟨w20, rfl⟩ : ∃ x : World, x = wr := ⟨_, rfl⟩
                              have hdj : decide (((16 : Nat) : Int) < 16) = false := by decide
                              clear hjlt hjN bj0
                              obtain ⟨av, cv, rfl⟩ := own_sliceP ownr
                              obtain ⟨Lm, hLm⟩ : ∃ l : List (BitVec 8), l = macB C b := ⟨_, rfl⟩
                              have hLr : ACC ++ (eightS NB ++ eightS NP).take 16 = Lm := by rw [hLm, hACC.out, mac_parts, List.take_of_length_le (by simp [eightS, eightTo_length]), hCl.out, hNB.out]
                              rw [hLr] at ownr
                              have kl := byteAt_of_own ownr
                              have hLl : Lm.length ≤ 4194304 := by
                                have h1 := macB_length C b
                                rw [← hLm, hCl.out, ← hNB.out] at h1
                                have := hPP.out
                                have := hBB.out
                                omega
                              have h820 : G8 < w13.heap.size := lt_of_heap y8.out
                              have M1320 := M1318.out.trans mr
                              have yo := M1320.heap y8.out (by have := hR0.out; omega)
                              have lo := loadY32 yo hHl.out
                              have M20 := M.out.trans' M1320 (fun i hi h => by have := hBR.out; omega)
                              have oc := ownsRow_block own13.out M1320 (fun i hi h => by have := (ownsRow_in own13.out hi).2; have := hR0.out; omega)
                              have sz20 := M1320.size
                              obtain ⟨NL, hNL⟩ : ∃ x, x = NA + 16 := ⟨_, rfl⟩
                              rw [← hNL] at kl ⊢
                              replace kl := Lib.hid kl
                              replace hLl := Lib.hid hLl
                              replace oc := Lib.hid oc
                              replace M20 := Lib.hid M20
                              replace hLm := Lib.hid hLm
                              replace hNL := Lib.hid hNL
                              replace sz20 := Lib.hid sz20
                              clear ownr hLr yo mr M1320
                              go_upto_region 36 with (fail)
                              refine wp_region_lit ?_
                              refine wpList_reads (by kernel_rfl) (.agg (encB H)) (run_load_op rfl rfl lo) ?_
                              simp only [Act.put, List.setIfInBounds_toArray, List.set_cons_zero, List.set_cons_succ]
                              refine wpList_reads (by kernel_rfl) (.slice av NL cv) (by go_simp) ?_
                              simp only [Act.put, List.setIfInBounds_toArray, List.set_cons_zero, List.set_cons_succ]
                              refine wpList_enter (by kernel_rfl) 13 #[.agg (encB H), .slice av NL cv] (by go_simp) (tag_any H hHl.out _ Lm w20 kl.out (by have := hLl.out; omega)) ?_
                              rintro e w21 ⟨m21, rfl⟩
                              rw [if_neg (by have := hLl.out; omega)]
                              obtain ⟨T, hT⟩ : ∃ T, T = tagS H Lm := ⟨_, rfl⟩
                              rw [← hT]
                              have hTl : T.length = 16 := by rw [hT]; exact tagS_length _ _
                              have hXC : X = C ++ T := by rw [hXS.out, hT, hLm.out, hH.out, hO.out, hC.out]; rfl
                              obtain ⟨w22, hw22⟩ : ∃ x, x = w21.alloc (.cells (encB (List.replicate 16 0)) 40) := ⟨_, rfl⟩
                              obtain ⟨G19, hG19⟩ : ∃ x, x = w21.heap.size := ⟨_, rfl⟩
                              have m22 : Mod (fun _ => False) w21 w22 := by rw [hw22]; exact (Mod.refl _ _).alloc _
                              have x22 : BytesAt16 w22 G19 (List.replicate 16 0) := by rw [hw22]; exact hp_new _ _ _ hG19
                              obtain ⟨w23, s23, n23, x23⟩ := store16P x22 (s' := T) (by simp) hTl
                              have m23 : Mod (fun _ => False) w20 w23 := m21.trans (m22.trans' n23 (fun i hi h => by omega))
                              have oc23 := ownsRow_keep0 oc.out m23
                              have M23 := M20.out.trans' m23 (fun _ _ h => h.elim)
                              have kt : ByteAt w23 (.slice (some ⟨G19, 0, none⟩) 16 16) T := by
                                have := ByteAt.row x23
                                rw [hTl] at this
                                exact this
                              have hz23 := m23.size
                              obtain ⟨v24, w24, r24, own24, m24, _⟩ := run_append_bytes2 oc23 kt (by rw [hTl]; have := hPP.out; omega) (by have := sz20.out; have := h1213.out; omega) 22
                              have M24 : Mod (fun i => B0 ≤ i) w4 w24 := M23.trans' (own_grown (base' := 0) oc23 m24) (fun i hi h => by have := hB12.out; omega)
                              have k24 : ByteAt w24 v24 X := by
                                have := byteAt_of_own own24
                                rw [← hXC] at this
                                exact this
                              have rX := r4.out.mod M24 (fun i hi h => by have := hB0.out; omega)
                              replace hw22 := Lib.hid hw22
                              replace hG19 := Lib.hid hG19
                              replace M24 := Lib.hid M24
                              replace k24 := Lib.hid k24
                              replace rX := Lib.hid rX
                              replace hXC := Lib.hid hXC
                              replace hT := Lib.hid hT
                              replace hTl := Lib.hid hTl
                              clear m22 x22 n23 x23 m23 oc23 M23 kt own24 m24 m21
                              refine ⟨_, rfl, ?_⟩
                              simp only [Act.put, List.setIfInBounds_toArray, List.set_cons_zero, List.set_cons_succ]
                              refine wpList_reads (by kernel_rfl) (.tuple #[.agg (encB T), .int .i64 0]) (by go_simp) ?_
                              simp only [Act.put, List.setIfInBounds_toArray, List.set_cons_zero, List.set_cons_succ]
                              refine wpList_reads (by kernel_rfl) (.agg (encB T)) (by go_simp) ?_
                              simp only [Act.put, List.setIfInBounds_toArray, List.set_cons_zero, List.set_cons_succ]
                              refine wpList_reads (by kernel_rfl) (.int .i64 0) (by go_simp) ?_
                              simp only [Act.put, List.setIfInBounds_toArray, List.set_cons_zero, List.set_cons_succ]
                              refine wpList_yields (by kernel_rfl) _ _ (alloc_arrY 40 _ zero16P _ _ _ rfl) ?_
                              simp only [Act.put, List.setIfInBounds_toArray, List.set_cons_zero, List.set_cons_succ]
                              rw [← hG19.out, ← hw22.out]
                              refine wpList_store_to rfl _ _ _ rfl _ _ _ rfl rfl _ s23 ?_
                              simp only [Act.put, List.setIfInBounds_toArray, List.set_cons_zero, List.set_cons_succ]
                              refine wpList_reads (by kernel_rfl) (.int .i64 0) (by go_simp) ?_
                              simp only [Act.put, List.setIfInBounds_toArray, List.set_cons_zero, List.set_cons_succ]
                              clear s23
                              go_upto_region 37 with (fail)
                              refine wp_region_lit ?_
                              refine wpList_reads (by kernel_rfl) (.int .i64 0) (by go_simp) ?_
                              simp only [Act.put, List.setIfInBounds_toArray, List.set_cons_zero, List.set_cons_succ]
                              refine wpList_reads (by kernel_rfl) (.bool true) (by go_simp) ?_
                              simp only [Act.put, List.setIfInBounds_toArray, List.set_cons_zero, List.set_cons_succ]
                              refine wpList_reads (by kernel_rfl) (.bool true) (by go_simp) ?_
                              simp only [Act.put, List.setIfInBounds_toArray, List.set_cons_zero, List.set_cons_succ]
                              refine wpList_reads (by kernel_rfl) (.int .i64 0) (by go_simp) ?_
                              simp only [Act.put, List.setIfInBounds_toArray, List.set_cons_zero, List.set_cons_succ]
                              refine wpList_reads (by kernel_rfl) (.bool true) (by go_simp) ?_
                              simp only [Act.put, List.setIfInBounds_toArray, List.set_cons_zero, List.set_cons_succ]
                              refine wpList_reads (by kernel_rfl) (.bool true) (by go_simp) ?_
                              simp only [Act.put, List.setIfInBounds_toArray, List.set_cons_zero, List.set_cons_succ]
                              refine wpList_reads (by kernel_rfl) (.bool true) (by go_simp) ?_
                              simp only [Act.put, List.setIfInBounds_toArray, List.set_cons_zero, List.set_cons_succ]
                              refine wpList_reads (by kernel_rfl) (.slice a4 L c4) (by go_simp) ?_
                              simp only [Act.put, List.setIfInBounds_toArray, List.set_cons_zero, List.set_cons_succ]
                              refine wpList_reads (by kernel_rfl) (.slice ac NP cc) (by go_simp) ?_
                              simp only [Act.put, List.setIfInBounds_toArray, List.set_cons_zero, List.set_cons_succ]
                              refine wpList_reads (by kernel_rfl) (.slice (some ⟨G19, 0, none⟩) 16 16) (by go_simp) ?_
                              simp only [Act.put, List.setIfInBounds_toArray, List.set_cons_zero, List.set_cons_succ]
                              refine wpList_yields (by kernel_rfl) v24 w24 (run_append_opP rfl rfl rfl r24) ?_
                              simp only [Act.put, List.setIfInBounds_toArray, List.set_cons_zero, List.set_cons_succ]
                              clear r24
                              refine wpList_enter (by kernel_rfl) 10 #[.slice a4 L c4, v24] (by go_simp) (same_any _ _ X X w24 rX.out k24.out (by rw [hXl.out, hL.out]; have := hPP.out; omega) (by rw [hXl.out, hL.out]; have := hPP.out; omega)) ?_
                              rintro e w25 ⟨m25, rfl⟩
                              rw [show decide (X = X) = true by simp]
                              have mf : Mod (fun _ => False) w w25 := (m0.out.trans' M24.out (fun i hi h => by have := m0.out.size; have := hB0.out; omega)).trans m25
                              replace mf := Lib.hid mf
                              refine ⟨_, rfl, ?_⟩
                              simp only [Act.put, List.setIfInBounds_toArray, List.set_cons_zero, List.set_cons_succ]
                              refine wpList_reads (by kernel_rfl) (.bool true) (by go_simp) ?_
                              simp only [Act.put, List.setIfInBounds_toArray, List.set_cons_zero, List.set_cons_succ]
                              refine wpList_reads (by kernel_rfl) (.bool true) (by go_simp) ?_
                              simp only [Act.put, List.setIfInBounds_toArray, List.set_cons_zero, List.set_cons_succ]
                              go_wp2
                              go_ret
                              exact ⟨mf.out, rfl⟩
    · subst hX2
      have hl0 : ([] : List (BitVec 8)).length = 0 := rfl
      obtain ⟨a4, c4, rfl⟩ := own_sliceP own4
      clear own4 hX hE
      replace hz4 := Lib.hid hz4
      refine ⟨_, rfl, ?_⟩
      simp only [Act.put, List.setIfInBounds_toArray, List.set_cons_zero, List.set_cons_succ]
      refine wpList_reads (by kernel_rfl) (.tuple #[.slice a4 0 c4, .int .i64 1]) (by go_simp) ?_
      simp only [Act.put, List.setIfInBounds_toArray, List.set_cons_zero, List.set_cons_succ]
      refine wpList_reads (by kernel_rfl) (.slice a4 0 c4) (by go_simp) ?_
      simp only [Act.put, List.setIfInBounds_toArray, List.set_cons_zero, List.set_cons_succ]
      refine wpList_reads (by kernel_rfl) (.int .i64 1) (by go_simp) ?_
      simp only [Act.put, List.setIfInBounds_toArray, List.set_cons_zero, List.set_cons_succ]
      refine wpList_reads (by kernel_rfl) (.slice a4 0 c4) (by go_simp) ?_
      simp only [Act.put, List.setIfInBounds_toArray, List.set_cons_zero, List.set_cons_succ]
      refine wpList_reads (by kernel_rfl) (.int .i64 1) (by go_simp) ?_
      simp only [Act.put, List.setIfInBounds_toArray, List.set_cons_zero, List.set_cons_succ]
      go_wp2
      go_ret
      exact ⟨m0.out, rfl⟩
    · subst hX2
      have hl0 : ([] : List (BitVec 8)).length = 0 := rfl
      obtain ⟨a4, c4, rfl⟩ := own_sliceP own4
      clear own4 hX hE
      replace hz4 := Lib.hid hz4
      refine ⟨_, rfl, ?_⟩
      simp only [Act.put, List.setIfInBounds_toArray, List.set_cons_zero, List.set_cons_succ]
      refine wpList_reads (by kernel_rfl) (.tuple #[.slice a4 0 c4, .int .i64 3]) (by go_simp) ?_
      simp only [Act.put, List.setIfInBounds_toArray, List.set_cons_zero, List.set_cons_succ]
      refine wpList_reads (by kernel_rfl) (.slice a4 0 c4) (by go_simp) ?_
      simp only [Act.put, List.setIfInBounds_toArray, List.set_cons_zero, List.set_cons_succ]
      refine wpList_reads (by kernel_rfl) (.int .i64 3) (by go_simp) ?_
      simp only [Act.put, List.setIfInBounds_toArray, List.set_cons_zero, List.set_cons_succ]
      refine wpList_reads (by kernel_rfl) (.slice a4 0 c4) (by go_simp) ?_
      simp only [Act.put, List.setIfInBounds_toArray, List.set_cons_zero, List.set_cons_succ]
      refine wpList_reads (by kernel_rfl) (.int .i64 3) (by go_simp) ?_
      simp only [Act.put, List.setIfInBounds_toArray, List.set_cons_zero, List.set_cons_succ]
      go_wp2
      go_ret
      exact ⟨m0.out, rfl⟩
end Go.Proofs.Ytbiijcljpgannaa
