/-
  mailcoachref06.Seal, Open. Printed by gen/pr6.py.
-/
import Derived.Test.YtbiijcljpgannaaGreatDoorZa
namespace Go.Proofs.YtbiijcljpgannaaGreatDoor
set_option maxRecDepth 100000
open Go Go.RowKit Go.Lib
set_option linter.unusedSimpArgs false
set_option linter.unusedVariables false

theorem clip_append_bytes {w : World} {base n m c ga : Nat} {v : Value} {bs cs : List (BitVec 8)} (hown : ClipR w base v n (bytesV bs)) (hx : ByteAt w (.slice (some ⟨ga, 0, none⟩) m c) cs) (hcs : cs.length = m) (h0m : 0 < m) (hfit : n + m ≤ 140737488355328) (hbase : base ≤ w.heap.size) (ty : TypeId) :
    ∃ v' w', (Builtin.append_ #[22, 22] ty #[v, .slice (some ⟨ga, 0, none⟩) m c]).run Tryz.prog w = .ok v' w' ∧ w'.ownsRow base 5 1 v' (n + m) (bytesV (bs ++ cs)) ∧ Mod (fun k => base ≤ k) w w' := by
  have plain : ∀ v0, w.ownsRow base 5 1 v0 n (bytesV bs) → v = v0 → ∃ v' w', (Builtin.append_ #[22, 22] ty #[v, .slice (some ⟨ga, 0, none⟩) m c]).run Tryz.prog w = .ok v' w' ∧ w'.ownsRow base 5 1 v' (n + m) (bytesV (bs ++ cs)) ∧ Mod (fun k => base ≤ k) w w' := by
    rintro v0 h0 rfl
    obtain ⟨v', w', h1, h2, h3, _⟩ := run_append_bytes2 h0 hx (by rw [hcs]; exact hfit) hbase ty
    rw [hcs] at h2
    exact ⟨v', w', h1, h2, own_grown (base' := 0) h0 h3⟩
  obtain ⟨v0, h0, h | ⟨a, cap, e1, e2⟩⟩ := hown.own
  · exact plain v0 h0 h
  · subst e1 e2
    rcases h0.2 with ⟨e, e4⟩ | ⟨g, cap', cur, e, hbg, hg, hnc, hcm, hcsz, htake⟩
    · injection e with e1 e2 e3
      exact plain _ h0 (by rw [e1, e2, e3])
    · injection e with e1 e2 e3
      subst e1 e3
      obtain ⟨i0, hi, hz0, hz1, hz2⟩ := info_parts infoU8
      have holds : ∀ j u, (bytesV bs)[j]? = some u → w.cell? ((⟨g, 0, none⟩ : Addr).add j) = some u := h0.cells (g := g) rfl
      have hlen : (bytesV bs).length = n * i0.size := by rw [hz1]; exact h0.1
      have hr := run_append_grow (P := Tryz.prog) w 22 ty 5 i0 (.int .u8 0) Tryz.underlying22 hi hz0 ⟨g, 0, none⟩ n n (bytesV bs) hlen holds ⟨ga, 0, none⟩ m c (bytesV cs) (by rw [hz1, bytesV_length, hcs, Nat.mul_one]) (cells_byteAt hx) (by omega) (by omega) (growslice_fits (by omega) (by rw [hz2]; omega))
      have ho := own_newRow w base n m 1 (grownCap w (n + m) n 5) 5 (bytesV bs) (bytesV cs) (Value.int .u8 0).cells rfl h0.1 (by rw [bytesV_length, hcs, Nat.mul_one]) (grownCap_ge w (n + m) n 5) (grownCap_le_maxLen w (n + m) n 5 (by unfold maxLen; omega)) hbase
      rw [← bytesV_append] at ho
      have hm : Mod (fun _ => False) w (w.drew.alloc (.cells ((bytesV bs).toArray ++ (bytesV cs).toArray ++ Builtin.zeroCells (Value.int .u8 0).cells (grownCap w (n + m) n 5 - (n + m))) 5)) := ((Mod.refl _ _).drew).alloc _
      exact ⟨_, _, hr, ho, hm.mono (fun _ _ h => h.elim)⟩
def OpenClip (k n s b : List (BitVec 8)) (w : World) (e : Ending) (w' : World) : Prop :=
  Mod (fun _ => False) w w' ∧ ∃ v, e = .returned (.tuple #[v, .int .i64 (openE k n s b)]) ∧ ClipR w' w.heap.size v (openX k n s b).length (bytesV (openX k n s b))
theorem open_clip_bad {k n s b : List (BitVec 8)} {w w' : World} {E : Int} (hE : openE k n s b = E) (h0 : E ≠ 0) (m : Mod (fun _ => False) w w') : OpenClip k n s b w (.returned (.tuple #[.slice none 0 0, .int .i64 E])) w' := by
  subst hE
  refine ⟨m, _, rfl, ?_⟩
  rw [show openX k n s b = [] by unfold openX; rw [if_neg h0]]
  exact .of (ownsNil _ _)
set_option maxRecDepth 100000 in
set_option maxHeartbeats 4000000 in
theorem refseal_any (vk vn vp vb : Value) (k n p b : List (BitVec 8)) (hkl : k.length ≤ 140737488351232) (hnl : n.length ≤ 140737488351232) (hpl : p.length ≤ 140737488351232) (hbl : b.length ≤ 140737488351232) (w : World) (hk : ByteAt w vk k) (hn : ByteAt w vn n) (hp : ByteAt w vp p) (hb : ByteAt w vb b) :
    Calls Tryz.prog 9 #[vk, vn, vp, vb] w (SealEnd k n p b w) := by
  obtain ⟨NK, hNK⟩ : ∃ x, x = k.length := ⟨_, rfl⟩
  obtain ⟨NN, hNN⟩ : ∃ x, x = n.length := ⟨_, rfl⟩
  obtain ⟨NP, hNP⟩ : ∃ x, x = p.length := ⟨_, rfl⟩
  obtain ⟨NB, hNB⟩ : ∃ x, x = b.length := ⟨_, rfl⟩
  obtain ⟨ak, ck, rfl⟩ := hk.sliceN hNK.symm
  obtain ⟨an, cn, rfl⟩ := hn.sliceN hNN.symm
  obtain ⟨ap, cp, rfl⟩ := hp.sliceN hNP.symm
  obtain ⟨ab, cb, rfl⟩ := hb.sliceN hNB.symm
  have bk0 : (0 : Int) ≤ (NK : Int) := by omega
  have bn0 : (0 : Int) ≤ (NN : Int) := by omega
  have bp0 : (0 : Int) ≤ (NP : Int) := by omega
  have bb0 : (0 : Int) ≤ (NB : Int) := by omega
  have bpx : (NP : Int) ≤ 140737488351232 := by omega
  have m0 : Mod (fun _ => False) w w := Mod.refl _ _
  replace hNK := Lib.hid hNK
  replace hNN := Lib.hid hNN
  replace hNP := Lib.hid hNP
  replace hNB := Lib.hid hNB
  replace hkl := Lib.hid hkl
  replace hnl := Lib.hid hnl
  replace hpl := Lib.hid hpl
  replace hbl := Lib.hid hbl
  replace hk := Lib.hid hk
  replace hn := Lib.hid hn
  replace hp := Lib.hid hp
  replace hb := Lib.hid hb
  replace m0 := Lib.hid m0
  go_enter Tryz.func9, Tryz.ntmps9
  by_cases hK : NK = 32
  · by_cases hN : NN = 12
    · subst hK hN
      have h32 := Lib.hid hNK.out.symm
      have h12 := Lib.hid hNN.out.symm
      clear hNK hNN
      by_cases c1 : NP ≤ 1048576 ∧ NB ≤ 1048576
      · obtain ⟨c1, c2⟩ := c1
        have e1 : decide ((1048576 : Int) < (NP : Int)) = false := by rw [decide_eq_false_iff_not]; omega
        have e2 : decide ((1048576 : Int) < (NB : Int)) = false := by rw [decide_eq_false_iff_not]; omega
        have c1' := Lib.hid c1
        have c2' := Lib.hid c2
        clear c1 c2
        go_upto_region 5 with (fail)
        refine wp_region_lit ?_
        refine wpList_reads (by kernel_rfl) (.slice ak 32 ck) (by go_simp) ?_
        simp only [Act.put, List.setIfInBounds_toArray, List.set_cons_zero, List.set_cons_succ]
        refine wpList_enter (by kernel_rfl) 21 #[.slice ak 32 ck] (by go_simp) (rkey32_any _ k h32.out w hk.out) ?_
        rintro e w1 ⟨m1, rfl⟩
        obtain ⟨w2, hw2⟩ : ∃ x, x = w1.alloc (.cells (encB (List.replicate 32 0)) 49) := ⟨_, rfl⟩
        obtain ⟨g10, hg10⟩ : ∃ x, x = w1.heap.size := ⟨_, rfl⟩
        have m2 : Mod (fun _ => False) w1 w2 := by rw [hw2]; exact (Mod.refl _ _).alloc _
        have x2 : w2.heap[g10]? = some (.cells (encB (List.replicate 32 0)) 49 (0,0)) := by rw [hw2]; exact hp_new _ _ _ hg10
        obtain ⟨w3, s3, n3, x3⟩ := storeY32 x2 (s' := k) (by simp) h32.out
        have m03 : Mod (fun _ => False) w w3 := m1.trans (m2.trans' n3 (fun i hi h => by omega))
        have hn3 := hn.out.mod m03 (fun _ _ h => h)
        replace hw2 := Lib.hid hw2
        replace hg10 := Lib.hid hg10
        replace x3 := Lib.hid x3
        replace m03 := Lib.hid m03
        replace hn3 := Lib.hid hn3
        clear m1 m2 x2 n3
        refine ⟨_, rfl, ?_⟩
        simp only [Act.put, List.setIfInBounds_toArray, List.set_cons_zero, List.set_cons_succ]
        refine wpList_yields (by kernel_rfl) _ _ (alloc_arrY 49 _ zeroY32 _ _ _ rfl) ?_
        simp only [Act.put, List.setIfInBounds_toArray, List.set_cons_zero, List.set_cons_succ]
        rw [← hg10.out, ← hw2.out]
        refine wpList_store_to rfl _ _ _ rfl _ _ _ rfl rfl _ s3 ?_
        simp only [Act.put, List.setIfInBounds_toArray, List.set_cons_zero, List.set_cons_succ]
        clear s3
        go_upto_region 6 with (fail)
        refine wp_region_lit ?_
        refine wpList_reads (by kernel_rfl) (.slice an 12 cn) (by go_simp) ?_
        simp only [Act.put, List.setIfInBounds_toArray, List.set_cons_zero, List.set_cons_succ]
        refine wpList_enter (by kernel_rfl) 22 #[.slice an 12 cn] (by go_simp) (rnonce12_any _ n h12.out w3 hn3.out) ?_
        rintro e w4 ⟨m4, rfl⟩
        obtain ⟨w5, hw5⟩ : ∃ x, x = w4.alloc (.cells (encB (List.replicate 12 0)) 50) := ⟨_, rfl⟩
        obtain ⟨g11, hg11⟩ : ∃ x, x = w4.heap.size := ⟨_, rfl⟩
        have m5 : Mod (fun _ => False) w4 w5 := by rw [hw5]; exact (Mod.refl _ _).alloc _
        have x5 : w5.heap[g11]? = some (.cells (encB (List.replicate 12 0)) 50 (0,0)) := by rw [hw5]; exact hp_new _ _ _ hg11
        obtain ⟨w6, s6, n6, x6⟩ := storeY12 x5 (s' := n) (by simp) h12.out
        have m36 : Mod (fun _ => False) w3 w6 := m4.trans (m5.trans' n6 (fun i hi h => by omega))
        have x36 := m36.heap x3.out (fun h => h)
        have m06 := m03.out.trans m36
        have p6 := hp.out.mod m06 (fun _ _ h => h)
        have b6 := hb.out.mod m06 (fun _ _ h => h)
        replace hw5 := Lib.hid hw5
        replace hg11 := Lib.hid hg11
        replace x6 := Lib.hid x6
        replace x36 := Lib.hid x36
        replace m06 := Lib.hid m06
        replace p6 := Lib.hid p6
        replace b6 := Lib.hid b6
        clear m4 m5 x5 n6 m36 x3 hn3 m03 hk hn hp hb
        refine ⟨_, rfl, ?_⟩
        simp only [Act.put, List.setIfInBounds_toArray, List.set_cons_zero, List.set_cons_succ]
        refine wpList_yields (by kernel_rfl) _ _ (alloc_arrY 50 _ zeroY12 _ _ _ rfl) ?_
        simp only [Act.put, List.setIfInBounds_toArray, List.set_cons_zero, List.set_cons_succ]
        rw [← hg11.out, ← hw5.out]
        refine wpList_store_to rfl _ _ _ rfl _ _ _ rfl rfl _ s6 ?_
        simp only [Act.put, List.setIfInBounds_toArray, List.set_cons_zero, List.set_cons_succ]
        clear s6
        have lk := loadY32 x36.out h32.out
        have ln := loadY12 x6.out h12.out
        go_upto_region 7 with (fail)
        refine wp_region_lit ?_
        refine wpList_reads (by kernel_rfl) (.agg (encB k)) (run_load_op rfl rfl lk) ?_
        simp only [Act.put, List.setIfInBounds_toArray, List.set_cons_zero, List.set_cons_succ]
        refine wpList_reads (by kernel_rfl) (.agg (encB n)) (run_load_op rfl rfl ln) ?_
        simp only [Act.put, List.setIfInBounds_toArray, List.set_cons_zero, List.set_cons_succ]
        refine wpList_reads (by kernel_rfl) (.slice ap NP cp) (by go_simp) ?_
        simp only [Act.put, List.setIfInBounds_toArray, List.set_cons_zero, List.set_cons_succ]
        clear lk ln
        refine wpList_enter (by kernel_rfl) 23 #[.agg (encB k), .int .u32 1, .agg (encB n), .slice ap NP cp] (by go_simp) (refxor_any k n h32.out h12.out 1 _ p w6 p6.out (by rw [← hNP.out]; have := c1'.out; omega)) ?_
        rintro e w7 ⟨m7, vc, rfl, cl7⟩
        have hnr : ¬ refuseX 1 p.length := by
          unfold refuseX
          rw [← hNP.out]
          have := c1'.out
          have h1 : (1 : BitVec 32).toNat = 1 := rfl
          omega
        obtain ⟨C, hC⟩ : ∃ C, C = Cc.xorS k n 1 p := ⟨_, rfl⟩
        have hCl : C.length = NP := by rw [hC, xorS_length, hNP.out]
        have e0 : xoE 1 p.length = 0 := by unfold xoE; rw [if_neg hnr]
        have eX : xoX k n 1 p = C := by unfold xoX; rw [if_neg hnr, hC]
        rw [e0]
        rw [eX, hCl] at cl7
        have b7 := b6.out.mod m7 (fun _ _ h => h)
        have x77 := m7.heap x36.out (fun h => h)
        have x67 := m7.heap x6.out (fun h => h)
        have cl7' := clip_base0 cl7 m06.out.size
        have m07 := m06.out.trans m7
        obtain ⟨ac, cc, hvc⟩ := clip_slice cl7
        subst hvc
        have k7 := clip_byteAt cl7'
        have lk := loadY32 x77 h32.out
        have ln := loadY12 x67 h12.out
        replace hC := Lib.hid hC
        replace hCl := Lib.hid hCl
        replace b7 := Lib.hid b7
        replace cl7' := Lib.hid cl7'
        replace m07 := Lib.hid m07
        replace k7 := Lib.hid k7
        clear m7 cl7 hnr e0 eX x77 x67 p6 b6 x36 x6 m06
        refine ⟨_, rfl, ?_⟩
        simp only [Act.put, List.setIfInBounds_toArray, List.set_cons_zero, List.set_cons_succ]
        refine wpList_reads (by kernel_rfl) (.tuple #[.slice ac NP cc, .int .i64 0]) (by go_simp) ?_
        simp only [Act.put, List.setIfInBounds_toArray, List.set_cons_zero, List.set_cons_succ]
        refine wpList_reads (by kernel_rfl) (.slice ac NP cc) (by go_simp) ?_
        simp only [Act.put, List.setIfInBounds_toArray, List.set_cons_zero, List.set_cons_succ]
        refine wpList_reads (by kernel_rfl) (.int .i64 0) (by go_simp) ?_
        simp only [Act.put, List.setIfInBounds_toArray, List.set_cons_zero, List.set_cons_succ]
        refine wpList_reads (by kernel_rfl) (.slice ac NP cc) (by go_simp) ?_
        simp only [Act.put, List.setIfInBounds_toArray, List.set_cons_zero, List.set_cons_succ]
        refine wpList_reads (by kernel_rfl) (.int .i64 0) (by go_simp) ?_
        simp only [Act.put, List.setIfInBounds_toArray, List.set_cons_zero, List.set_cons_succ]
        go_upto_region 8 with (fail)
        refine wp_region_lit ?_
        refine wpList_reads (by kernel_rfl) (.agg (encB k)) (run_load_op rfl rfl lk) ?_
        simp only [Act.put, List.setIfInBounds_toArray, List.set_cons_zero, List.set_cons_succ]
        refine wpList_reads (by kernel_rfl) (.agg (encB n)) (run_load_op rfl rfl ln) ?_
        simp only [Act.put, List.setIfInBounds_toArray, List.set_cons_zero, List.set_cons_succ]
        refine wpList_reads (by kernel_rfl) (.slice ac NP cc) (by go_simp) ?_
        simp only [Act.put, List.setIfInBounds_toArray, List.set_cons_zero, List.set_cons_succ]
        refine wpList_reads (by kernel_rfl) (.slice ab NB cb) (by go_simp) ?_
        simp only [Act.put, List.setIfInBounds_toArray, List.set_cons_zero, List.set_cons_succ]
        clear lk ln
        refine wpList_enter (by kernel_rfl) 24 #[.agg (encB k), .agg (encB n), .slice ac NP cc, .slice ab NB cb] (by go_simp) (rsum_any k n h32.out h12.out _ _ C b (by rw [hCl.out]; have := c1'.out; omega) (by rw [← hNB.out]; have := c2'.out; omega) w7 k7.out b7.out) ?_
        rintro e w8 ⟨m8, rfl⟩
        obtain ⟨T, hT⟩ : ∃ T, T = aTag k n C b := ⟨_, rfl⟩
        have hTl : T.length = 16 := by rw [hT]; exact aTag_length _ _ _ _
        rw [← hT]
        obtain ⟨w9, hw9⟩ : ∃ x, x = w8.alloc (.cells (encB (List.replicate 16 0)) 61) := ⟨_, rfl⟩
        obtain ⟨g14, hg14⟩ : ∃ x, x = w8.heap.size := ⟨_, rfl⟩
        have m9 : Mod (fun _ => False) w8 w9 := by rw [hw9]; exact (Mod.refl _ _).alloc _
        have x9 : BytesAt16 w9 g14 (List.replicate 16 0) := by rw [hw9]; exact hp_new _ _ _ hg14
        obtain ⟨w10, s10, n10, x10⟩ := store16P x9 (s' := T) (by simp) hTl
        have m710 : Mod (fun _ => False) w7 w10 := m8.trans (m9.trans' n10 (fun i hi h => by omega))
        have cl10 := clip_keep0 cl7'.out m710
        have kT : ByteAt w10 (.slice (some ⟨g14, 0, none⟩) 16 16) T := by
          have := ByteAt.row x10
          rw [hTl] at this
          exact this
        have m010 := m07.out.trans m710
        obtain ⟨v11, w11, r11, own11, m11⟩ := clip_append_bytes cl10 kT hTl (by decide) (by have := c1'.out; omega) m010.size 22
        have hf : SealEnd k n p b w (.returned (.tuple #[v11, .int .i64 0])) w11 := by
          have hE : sealE k n p b = 0 := by unfold sealE; rw [if_pos ⟨h32.out, h12.out⟩, if_pos (by rw [← hNP.out, ← hNB.out]; exact ⟨c1'.out, c2'.out⟩)]
          have hX : sealX k n p b = C ++ T := by
            unfold sealX sealS
            rw [if_pos ⟨h32.out, h12.out, by rw [← hNP.out]; exact c1'.out, by rw [← hNB.out]; exact c2'.out⟩, ← hC.out, ← hT]
          refine ⟨m010.trans' m11 (fun i hi h => by omega), v11, by rw [hE], ?_⟩
          rw [hX, List.length_append, hCl.out, hTl]
          exact own11
        replace hw9 := Lib.hid hw9
        replace hg14 := Lib.hid hg14
        replace hf := Lib.hid hf
        replace hT := Lib.hid hT
        replace hTl := Lib.hid hTl
        clear m8 m9 x9 n10 x10 m710 cl10 kT own11 m11 m010 cl7' k7 b7 m07
        refine ⟨_, rfl, ?_⟩
        simp only [Act.put, List.setIfInBounds_toArray, List.set_cons_zero, List.set_cons_succ]
        refine wpList_yields (by kernel_rfl) _ _ (alloc16P _ _ _ rfl) ?_
        simp only [Act.put, List.setIfInBounds_toArray, List.set_cons_zero, List.set_cons_succ]
        rw [← hg14.out, ← hw9.out]
        refine wpList_store_to rfl _ _ _ rfl _ _ _ rfl rfl _ s10 ?_
        simp only [Act.put, List.setIfInBounds_toArray, List.set_cons_zero, List.set_cons_succ]
        clear s10
        go_upto_region 9 with (fail)
        refine wp_region_lit ?_
        refine wpList_reads (by kernel_rfl) (.slice ac NP cc) (by go_simp) ?_
        simp only [Act.put, List.setIfInBounds_toArray, List.set_cons_zero, List.set_cons_succ]
        refine wpList_reads (by kernel_rfl) (.slice (some ⟨g14, 0, none⟩) 16 16) (by go_simp) ?_
        simp only [Act.put, List.setIfInBounds_toArray, List.set_cons_zero, List.set_cons_succ]
        refine wpList_yields (by kernel_rfl) v11 w11 (run_append_opP rfl rfl rfl r11) ?_
        simp only [Act.put, List.setIfInBounds_toArray, List.set_cons_zero, List.set_cons_succ]
        clear r11
        refine wpList_reads (by kernel_rfl) (v11) (by go_simp) ?_
        simp only [Act.put, List.setIfInBounds_toArray, List.set_cons_zero, List.set_cons_succ]
        refine wpList_reads (by kernel_rfl) (.int .i64 0) (by go_simp) ?_
        simp only [Act.put, List.setIfInBounds_toArray, List.set_cons_zero, List.set_cons_succ]
        go_wp2
        go_ret2
        exact hf.out
      · have hE : sealE k n p b = 3 := by unfold sealE; rw [if_pos ⟨h32.out, h12.out⟩, if_neg (by rw [← hNP.out, ← hNB.out]; exact c1)]
        replace hE := Lib.hid hE
        by_cases c3 : NP ≤ 1048576
        · have e1 : decide ((1048576 : Int) < (NP : Int)) = false := by rw [decide_eq_false_iff_not]; omega
          have e2 : decide ((1048576 : Int) < (NB : Int)) = true := by rw [decide_eq_true_iff]; omega
          clear c1 c3
          go_wp2
          go_ret2
          exact seal_end_bad hE.out (by decide) m0.out
        · have e1 : decide ((1048576 : Int) < (NP : Int)) = true := by rw [decide_eq_true_iff]; omega
          clear c1 c3
          go_wp2
          go_ret2
          exact seal_end_bad hE.out (by decide) m0.out
    · subst hK
      have fa : ((NN : Int) == 12) = false := by rw [beq_eq_false_iff_ne]; omega
      have fb : ((NN : Int) != 12) = true := by rw [bne_iff_ne]; omega
      have fc : ¬ (NN : Int) = 12 := by omega
      have hE : sealE k n p b = 1 := by unfold sealE; rw [if_neg (by rintro ⟨h1, h2⟩; have := hNK.out; have := hNN.out; omega)]
      replace hE := Lib.hid hE
      clear hN
      go_wp2
      go_ret2
      exact seal_end_bad hE.out (by decide) m0.out
  · have fa : ((NK : Int) == 32) = false := by rw [beq_eq_false_iff_ne]; omega
    have fb : ((NK : Int) != 32) = true := by rw [bne_iff_ne]; omega
    have fc : ¬ (NK : Int) = 32 := by omega
    have hE : sealE k n p b = 1 := by unfold sealE; rw [if_neg (by rintro ⟨h1, h2⟩; have := hNK.out; have := hNN.out; omega)]
    replace hE := Lib.hid hE
    clear hK
    go_wp2
    go_ret2
    exact seal_end_bad hE.out (by decide) m0.out
set_option maxRecDepth 100000 in
set_option maxHeartbeats 4000000 in
theorem refopen_any (vk vn vp vb : Value) (k n p b : List (BitVec 8)) (hkl : k.length ≤ 140737488351232) (hnl : n.length ≤ 140737488351232) (hpl : p.length ≤ 140737488351232) (hbl : b.length ≤ 140737488351232) (w : World) (hk : ByteAt w vk k) (hn : ByteAt w vn n) (hp : ByteAt w vp p) (hb : ByteAt w vb b) :
    Calls Tryz.prog 16 #[vk, vn, vp, vb] w (OpenClip k n p b w) := by
  obtain ⟨NK, hNK⟩ : ∃ x, x = k.length := ⟨_, rfl⟩
  obtain ⟨NN, hNN⟩ : ∃ x, x = n.length := ⟨_, rfl⟩
  obtain ⟨NP, hNP⟩ : ∃ x, x = p.length := ⟨_, rfl⟩
  obtain ⟨NB, hNB⟩ : ∃ x, x = b.length := ⟨_, rfl⟩
  obtain ⟨ak, ck, rfl⟩ := hk.sliceN hNK.symm
  obtain ⟨an, cn, rfl⟩ := hn.sliceN hNN.symm
  obtain ⟨ap, cp, rfl⟩ := hp.sliceN hNP.symm
  obtain ⟨ab, cb, rfl⟩ := hb.sliceN hNB.symm
  have bk0 : (0 : Int) ≤ (NK : Int) := by omega
  have bn0 : (0 : Int) ≤ (NN : Int) := by omega
  have bp0 : (0 : Int) ≤ (NP : Int) := by omega
  have bb0 : (0 : Int) ≤ (NB : Int) := by omega
  have bpx : (NP : Int) ≤ 140737488351232 := by omega
  have m0 : Mod (fun _ => False) w w := Mod.refl _ _
  replace hNK := Lib.hid hNK
  replace hNN := Lib.hid hNN
  replace hNP := Lib.hid hNP
  replace hNB := Lib.hid hNB
  replace hkl := Lib.hid hkl
  replace hnl := Lib.hid hnl
  replace hpl := Lib.hid hpl
  replace hbl := Lib.hid hbl
  replace hk := Lib.hid hk
  replace hn := Lib.hid hn
  replace hp := Lib.hid hp
  replace hb := Lib.hid hb
  replace m0 := Lib.hid m0
  go_enter Tryz.func16, Tryz.ntmps16
  by_cases hK : NK = 32
  · by_cases hN : NN = 12
    · subst hK hN
      have h32 := Lib.hid hNK.out.symm
      have h12 := Lib.hid hNN.out.symm
      clear hNK hNN
      by_cases c0 : NP < 16
      · have hE : openE k n p b = 4 := by unfold openE; rw [if_pos ⟨h32.out, h12.out⟩, if_pos (by rw [← hNP.out]; exact c0)]
        have e0 : decide ((NP : Int) < 16) = true := by rw [decide_eq_true_iff]; omega
        replace hE := Lib.hid hE
        go_wp2
        go_ret2
        exact open_clip_bad hE.out (by decide) m0.out
      · have c0' := Lib.hid c0
        have e0 : decide ((NP : Int) < 16) = false := by rw [decide_eq_false_iff_not]; omega
        have e0' : (16 : Int) ≤ (NP : Int) := by omega
        by_cases c1 : NP ≤ 1048592 ∧ NB ≤ 1048576
        · obtain ⟨c1, c2⟩ := c1
          have e1 : decide ((1048592 : Int) < (NP : Int)) = false := by rw [decide_eq_false_iff_not]; omega
          have e2 : decide ((1048576 : Int) < (NB : Int)) = false := by rw [decide_eq_false_iff_not]; omega
          obtain ⟨A, hA⟩ : ∃ A, A = NP - 16 := ⟨_, rfl⟩
          have hAi : (NP : Int) - 16 = (A : Int) := by omega
          have hbA0 : (0 : Int) ≤ (A : Int) := by omega
          have wrapA : IntKind.i64.wrap (A : Int) = (A : Int) := by rw [IntKind.wrap_i64]; omega
          replace hA := Lib.hid hA
          have c1' := Lib.hid c1
          have c2' := Lib.hid c2
          clear c1 c2
          go_upto_region 7 with (fail)
          refine wp_region_lit ?_
          refine wpList_reads (by kernel_rfl) (.slice ak 32 ck) (by go_simp) ?_
          simp only [Act.put, List.setIfInBounds_toArray, List.set_cons_zero, List.set_cons_succ]
          refine wpList_enter (by kernel_rfl) 21 #[.slice ak 32 ck] (by go_simp) (rkey32_any _ k h32.out w hk.out) ?_
          rintro e w1 ⟨m1, rfl⟩
          obtain ⟨w2, hw2⟩ : ∃ x, x = w1.alloc (.cells (encB (List.replicate 32 0)) 49) := ⟨_, rfl⟩
          obtain ⟨g10, hg10⟩ : ∃ x, x = w1.heap.size := ⟨_, rfl⟩
          have m2 : Mod (fun _ => False) w1 w2 := by rw [hw2]; exact (Mod.refl _ _).alloc _
          have x2 : w2.heap[g10]? = some (.cells (encB (List.replicate 32 0)) 49 (0,0)) := by rw [hw2]; exact hp_new _ _ _ hg10
          obtain ⟨w3, s3, n3, x3⟩ := storeY32 x2 (s' := k) (by simp) h32.out
          have m03 : Mod (fun _ => False) w w3 := m1.trans (m2.trans' n3 (fun i hi h => by omega))
          have hn3 := hn.out.mod m03 (fun _ _ h => h)
          replace hw2 := Lib.hid hw2
          replace hg10 := Lib.hid hg10
          replace x3 := Lib.hid x3
          replace m03 := Lib.hid m03
          replace hn3 := Lib.hid hn3
          clear m1 m2 x2 n3
          refine ⟨_, rfl, ?_⟩
          simp only [Act.put, List.setIfInBounds_toArray, List.set_cons_zero, List.set_cons_succ]
          refine wpList_yields (by kernel_rfl) _ _ (alloc_arrY 49 _ zeroY32 _ _ _ rfl) ?_
          simp only [Act.put, List.setIfInBounds_toArray, List.set_cons_zero, List.set_cons_succ]
          rw [← hg10.out, ← hw2.out]
          refine wpList_store_to rfl _ _ _ rfl _ _ _ rfl rfl _ s3 ?_
          simp only [Act.put, List.setIfInBounds_toArray, List.set_cons_zero, List.set_cons_succ]
          clear s3
          go_upto_region 8 with (fail)
          refine wp_region_lit ?_
          refine wpList_reads (by kernel_rfl) (.slice an 12 cn) (by go_simp) ?_
          simp only [Act.put, List.setIfInBounds_toArray, List.set_cons_zero, List.set_cons_succ]
          refine wpList_enter (by kernel_rfl) 22 #[.slice an 12 cn] (by go_simp) (rnonce12_any _ n h12.out w3 hn3.out) ?_
          rintro e w4 ⟨m4, rfl⟩
          obtain ⟨w5, hw5⟩ : ∃ x, x = w4.alloc (.cells (encB (List.replicate 12 0)) 50) := ⟨_, rfl⟩
          obtain ⟨g11, hg11⟩ : ∃ x, x = w4.heap.size := ⟨_, rfl⟩
          have m5 : Mod (fun _ => False) w4 w5 := by rw [hw5]; exact (Mod.refl _ _).alloc _
          have x5 : w5.heap[g11]? = some (.cells (encB (List.replicate 12 0)) 50 (0,0)) := by rw [hw5]; exact hp_new _ _ _ hg11
          obtain ⟨w6, s6, n6, x6⟩ := storeY12 x5 (s' := n) (by simp) h12.out
          have m36 : Mod (fun _ => False) w3 w6 := m4.trans (m5.trans' n6 (fun i hi h => by omega))
          have x36 := m36.heap x3.out (fun h => h)
          have m06 := m03.out.trans m36
          have p6 := hp.out.mod m06 (fun _ _ h => h)
          have b6 := hb.out.mod m06 (fun _ _ h => h)
          replace hw5 := Lib.hid hw5
          replace hg11 := Lib.hid hg11
          replace x6 := Lib.hid x6
          replace x36 := Lib.hid x36
          replace m06 := Lib.hid m06
          replace p6 := Lib.hid p6
          replace b6 := Lib.hid b6
          clear m4 m5 x5 n6 m36 x3 hn3 m03 hk hn hp hb
          refine ⟨_, rfl, ?_⟩
          simp only [Act.put, List.setIfInBounds_toArray, List.set_cons_zero, List.set_cons_succ]
          refine wpList_yields (by kernel_rfl) _ _ (alloc_arrY 50 _ zeroY12 _ _ _ rfl) ?_
          simp only [Act.put, List.setIfInBounds_toArray, List.set_cons_zero, List.set_cons_succ]
          rw [← hg11.out, ← hw5.out]
          refine wpList_store_to rfl _ _ _ rfl _ _ _ rfl rfl _ s6 ?_
          simp only [Act.put, List.setIfInBounds_toArray, List.set_cons_zero, List.set_cons_succ]
          clear s6
          have lk := loadY32 x36.out h32.out
          have ln := loadY12 x6.out h12.out
          obtain ⟨L, hL⟩ : ∃ L, L = p.take A := ⟨_, rfl⟩
          obtain ⟨R, hR⟩ : ∃ R, R = p.drop A := ⟨_, rfl⟩
          have hLl : L.length = A := by rw [hL, List.length_take, ← hNP.out, hA.out]; omega
          have hRl : R.length = 16 := by rw [hR, List.length_drop, ← hNP.out, hA.out]; have := c0'.out; omega
          obtain ⟨vl, kl6, rl⟩ := p6.out.cutTo A (by rw [hA.out]; omega)
          rw [← hL] at kl6
          obtain ⟨gp, op, cp', ep, hpc⟩ := p6.out.cells (by rw [← hNP.out]; have := c0'.out; omega)
          injection ep with ep ep2 ep3
          clear ep2 ep3
          subst ep
          replace hL := Lib.hid hL
          replace hR := Lib.hid hR
          replace hLl := Lib.hid hLl
          replace hRl := Lib.hid hRl
          replace kl6 := Lib.hid kl6
          replace rl := Lib.hid rl
          replace hpc := Lib.hid hpc
          go_upto_region 9 with (fail)
          refine wp_region_lit ?_
          refine wpList_reads (by kernel_rfl) (.slice (some ⟨gp, op, none⟩) NP cp) (by go_simp) ?_
          simp only [Act.put, List.setIfInBounds_toArray, List.set_cons_zero, List.set_cons_succ]
          refine wpList_reads (by kernel_rfl) (.int .i64 (NP : Int)) (by go_simp) ?_
          simp only [Act.put, List.setIfInBounds_toArray, List.set_cons_zero, List.set_cons_succ]
          refine wpList_reads (by kernel_rfl) (.int .i64 (A : Int)) (by go_simp) ?_
          simp only [Act.put, List.setIfInBounds_toArray, List.set_cons_zero, List.set_cons_succ]
          refine wpList_reads (by kernel_rfl) (.int .i64 (A : Int)) (by go_simp) ?_
          simp only [Act.put, List.setIfInBounds_toArray, List.set_cons_zero, List.set_cons_succ]
          go_upto_region 10 with (fail)
          refine Code.wp_mono (Q := fun e a w' => e = .normal ∧ ∃ g13, a = ({ tmps := #[.slice ak 32 ck, .slice an 12 cn, .slice (some ⟨gp, op, none⟩) NP cp, .slice ab NB cb, undef, undef, undef, undef, .slice none 0 0, .int .i64 0, .pointer (some ⟨g10, 0, none⟩), .pointer (some ⟨g11, 0, none⟩), .int .i64 (A : Int), .pointer (some ⟨g13, 0, none⟩), undef, undef, undef, .slice ak 32 ck, .int .i64 32, .bool false, .bool false, .slice an 12 cn, .int .i64 12, .bool false, .bool false, .slice (some ⟨gp, op, none⟩) NP cp, .int .i64 (NP : Int), .bool false, .slice (some ⟨gp, op, none⟩) NP cp, .int .i64 (NP : Int), .bool false, .bool false, .slice ab NB cb, .int .i64 (NB : Int), .bool false, .bool false, .slice ak 32 ck, .agg (encB k), .slice an 12 cn, .agg (encB n), .slice (some ⟨gp, op, none⟩) NP cp, .int .i64 (NP : Int), .int .i64 (A : Int), .agg (encB k), .agg (encB n), .slice (some ⟨gp, op, none⟩) NP cp, .int .i64 (A : Int), vl, .slice ab NB cb, .agg (encB (aTag k n L b)), undef, undef, undef, undef, undef, undef, undef, undef, undef, undef, undef, undef, undef, undef, undef, undef, undef, undef, undef, undef, undef, undef, undef, undef], defers := [] } : Act) ∧ Mod (fun _ => False) w6 w' ∧ w6.heap.size ≤ g13 ∧ BytesAt16 w' g13 (aTag k n L b)) ?_ ?_
          rotate_left
          · have hTl : (aTag k n L b).length = 16 := aTag_length _ _ _ _
            obtain ⟨T, hT⟩ : ∃ T, T = aTag k n L b := ⟨_, rfl⟩
            rw [← hT] at hTl
            rw [← hT]
            refine wp_region_any (by kernel_rfl) (any_of_Z (S := fun W => Mod (fun _ => False) w6 W) (z := 99) _ _ _ _ ?_)
            simp only [List.size_toArray, List.length_cons, List.length_nil, Nat.reduceAdd, Array.replicate_succ, Array.replicate_zero, List.push_toArray, List.nil_append, List.cons_append]
            change anyZ _ _ _ _ _ _ _ _ _ w6.drew
            have md : Mod (fun _ => False) w6 w6.drew := (Mod.refl _ _).drew
            obtain ⟨wd, hwd⟩ : ∃ x, x = w6.drew := ⟨_, rfl⟩
            rw [← hwd] at md ⊢
            clear hwd
            refine anyZ_take 0 _ (some 43) (.agg (encB k)) rfl (by kernel_rfl) (by kernel_rfl) (by kernel_rfl) (by kernel_rfl) (by kernel_rfl) (by decide) rfl (fun w' hS => ?_) md ?_
            · exact run_load_op rfl rfl (loadY32 (hS.heap x36.out (fun h => h)) h32.out)
            simp only [Act.put, List.setIfInBounds_toArray, List.set_cons_zero, List.set_cons_succ]
            refine anyZ_take 1 _ (some 44) (.agg (encB n)) rfl (by kernel_rfl) (by kernel_rfl) (by kernel_rfl) (by kernel_rfl) (by kernel_rfl) (by decide) rfl (fun w' hS => ?_) md ?_
            · exact run_load_op rfl rfl (loadY12 (hS.heap x6.out (fun h => h)) h12.out)
            simp only [Act.put, List.setIfInBounds_toArray, List.set_cons_zero, List.set_cons_succ]
            refine anyZ_take 2 _ (some 45) (.slice (some ⟨gp, op, none⟩) NP cp) rfl (by kernel_rfl) (by kernel_rfl) (by kernel_rfl) (by kernel_rfl) (by kernel_rfl) (by decide) rfl (fun w' hS => ?_) md ?_
            · go_simp
            simp only [Act.put, List.setIfInBounds_toArray, List.set_cons_zero, List.set_cons_succ]
            refine anyZ_take 3 _ (some 46) (.int .i64 (A : Int)) rfl (by kernel_rfl) (by kernel_rfl) (by kernel_rfl) (by kernel_rfl) (by kernel_rfl) (by decide) rfl (fun w' hS => ?_) md ?_
            · go_simp
            simp only [Act.put, List.setIfInBounds_toArray, List.set_cons_zero, List.set_cons_succ]
            refine anyZ_take 4 _ (some 47) (vl) rfl (by kernel_rfl) (by kernel_rfl) (by kernel_rfl) (by kernel_rfl) (by kernel_rfl) (by decide) rfl (fun w' hS => ?_) md ?_
            · exact cut_op Tryz.underlying22 rfl rfl rfl (rl.out _)
            simp only [Act.put, List.setIfInBounds_toArray, List.set_cons_zero, List.set_cons_succ]
            refine anyZ_take 5 _ (some 48) (.slice ab NB cb) rfl (by kernel_rfl) (by kernel_rfl) (by kernel_rfl) (by kernel_rfl) (by kernel_rfl) (by decide) rfl (fun w' hS => ?_) md ?_
            · go_simp
            simp only [Act.put, List.setIfInBounds_toArray, List.set_cons_zero, List.set_cons_succ]
            refine anyZ_fork2Y 6 7 (by kernel_rfl) ?_ ?_
            · refine wpOp_enterY _ (some 49) rfl (by kernel_rfl) rfl 24 #[.agg (encB k), .agg (encB n), vl, .slice ab NB cb] (by go_simp) ?_
              refine (rsum_any k n h32.out h12.out _ _ L b (by rw [hLl.out]; have := hA.out; have := c1'.out; omega) (by rw [← hNB.out]; have := c2'.out; omega) wd (kl6.out.mod md (fun _ _ h => h)) (b6.out.mod md (fun _ _ h => h))).mono ?_
              rintro e u1 ⟨lu1, rfl⟩
              rw [← hT]
              have mu1 := md.trans lu1
              refine ⟨_, rfl, fun _ => mu1, ?_⟩
              simp only [Act.put, List.setIfInBounds_toArray, List.set_cons_zero, List.set_cons_succ]
              obtain ⟨u2, hu2⟩ : ∃ x, x = u1.alloc (.cells (encB (List.replicate 16 0)) 61) := ⟨_, rfl⟩
              obtain ⟨g13, hg13⟩ : ∃ g, g = u1.heap.size := ⟨_, rfl⟩
              have lu2 : Mod (fun _ => False) u1 u2 := by rw [hu2]; exact (Mod.refl _ _).alloc _
              have x13 : BytesAt16 u2 g13 (List.replicate 16 0) := by rw [hu2]; exact hp_new _ _ _ hg13
              have gw13 : w6.heap.size ≤ g13 := by rw [hg13]; exact mu1.size
              have mu2 := mu1.trans lu2
              replace hu2 := Lib.hid hu2
              replace hg13 := Lib.hid hg13
              refine anyZ_next 7 _ (some 13) rfl (by kernel_rfl) (by kernel_rfl) rfl (.pointer (some ⟨g13, 0, none⟩)) u2 (by rw [hu2.out, hg13.out]; exact alloc16P _ _ _ rfl) (fun _ => mu2) ?_
              simp only [Act.put, List.setIfInBounds_toArray, List.set_cons_zero, List.set_cons_succ]
              obtain ⟨wz, sz, nz, xz⟩ := store16P x13 (s' := T) (by simp) hTl
              have mz := mu2.trans' nz (fun i hi h => by omega)
              refine anyZ_skip 8 _ rfl (by kernel_rfl) (by kernel_rfl) rfl wz (run_store_op rfl rfl rfl sz) (fun _ => mz) ?_
              simp only [Act.put, List.setIfInBounds_toArray, List.set_cons_zero, List.set_cons_succ]
              refine anyZ_done (by kernel_rfl) ?_ _
              exact ⟨rfl, g13, rfl, mz, gw13, xz⟩
            · obtain ⟨u1, hu1⟩ : ∃ x, x = wd.alloc (.cells (encB (List.replicate 16 0)) 61) := ⟨_, rfl⟩
              obtain ⟨g13, hg13⟩ : ∃ g, g = wd.heap.size := ⟨_, rfl⟩
              have lu1 : Mod (fun _ => False) wd u1 := by rw [hu1]; exact (Mod.refl _ _).alloc _
              have x13 : BytesAt16 u1 g13 (List.replicate 16 0) := by rw [hu1]; exact hp_new _ _ _ hg13
              have gw13 : w6.heap.size ≤ g13 := by rw [hg13]; exact md.size
              have mu1 := md.trans lu1
              replace hu1 := Lib.hid hu1
              replace hg13 := Lib.hid hg13
              refine wpOp_valueY _ (some 13) rfl (by kernel_rfl) rfl (.pointer (some ⟨g13, 0, none⟩)) u1 (by rw [hu1.out, hg13.out]; exact alloc16P _ _ _ rfl) ⟨fun _ => mu1, ?_⟩
              simp only [Act.put, List.setIfInBounds_toArray, List.set_cons_zero, List.set_cons_succ]
              refine anyZ_call 6 _ (some 49) rfl (by kernel_rfl) (by kernel_rfl) rfl 24 #[.agg (encB k), .agg (encB n), vl, .slice ab NB cb] (by go_simp) ?_
              refine (rsum_any k n h32.out h12.out _ _ L b (by rw [hLl.out]; have := hA.out; have := c1'.out; omega) (by rw [← hNB.out]; have := c2'.out; omega) u1 (kl6.out.mod mu1 (fun _ _ h => h)) (b6.out.mod mu1 (fun _ _ h => h))).mono ?_
              rintro e u2 ⟨lu2, rfl⟩
              rw [← hT]
              have mu2 := mu1.trans lu2
              refine ⟨_, rfl, fun _ => mu2, ?_⟩
              simp only [Act.put, List.setIfInBounds_toArray, List.set_cons_zero, List.set_cons_succ]
              have x13' : BytesAt16 u2 g13 (List.replicate 16 0) := lu2.heap x13 (fun h => h)
              obtain ⟨wz, sz, nz, xz⟩ := store16P x13' (s' := T) (by simp) hTl
              have mz := mu2.trans' nz (fun i hi h => by omega)
              refine anyZ_skip 8 _ rfl (by kernel_rfl) (by kernel_rfl) rfl wz (run_store_op rfl rfl rfl sz) (fun _ => mz) ?_
              simp only [Act.put, List.setIfInBounds_toArray, List.set_cons_zero, List.set_cons_succ]
              refine anyZ_done (by kernel_rfl) ?_ _
              exact ⟨rfl, g13, rfl, mz, gw13, xz⟩
          · rintro e a w7 ⟨rfl, g13, rfl, m67, hg13, x13⟩
            dsimp only
            obtain ⟨T, hT⟩ : ∃ T, T = aTag k n L b := ⟨_, rfl⟩
            rw [← hT] at x13 ⊢
            have hTl : T.length = 16 := by rw [hT]; exact aTag_length _ _ _ _
            have m07 := m06.out.trans m67
            replace hT := Lib.hid hT
            replace hTl := Lib.hid hTl
            replace x13 := Lib.hid x13
            replace m67 := Lib.hid m67
            replace m07 := Lib.hid m07
            clear hg13
            go_wp2
            go_loopw [14] (fun iv wr => ∃ j : Nat, j ≤ 16 ∧ iv = .int .i64 (j : Int) ∧ Mod (fun _ => False) w7 wr ∧ ∀ i, i < j → T.getD i 0 = R.getD i 0) (fun iv _ => 16 - (intOf iv).toNat)
            case atStart => exact ⟨0, by omega, rfl, Mod.refl _ _, fun i hi => absurd hi (by omega)⟩
            case round =>
              obtain ⟨j, hj, rfl, mr, hall⟩ := hrel
              have bj0 : (0 : Int) ≤ (j : Int) := by omega
              by_cases hlt : j < 16
              · have hdj : decide ((j : Int) < 16) = true := by rw [decide_eq_true_iff]; omega
                have bj16 : (j : Int) < 16 := by omega
                obtain ⟨z, hz⟩ : ∃ z, z = T.getD j 0 := ⟨_, rfl⟩
                obtain ⟨y, hy⟩ : ∃ y, y = R.getD j 0 := ⟨_, rfl⟩
                obtain ⟨q, hq⟩ : ∃ q, q = A + j := ⟨_, rfl⟩
                have hqi : (A : Int) + (j : Int) = (q : Int) := by omega
                have bq0 : (0 : Int) ≤ (q : Int) := by omega
                have bqP : (q : Int) < (NP : Int) := by have := hA.out; have := c0'.out; omega
                have hwq : IntKind.i64.wrap (q : Int) = (q : Int) := by rw [IntKind.wrap_i64]; omega
                have hcz : wr.cell? ⟨g13, j, none⟩ = some (.int .u8 (z.toNat : Int)) := by
                  have x13r : BytesAt16 wr g13 T := mr.heap x13.out (fun h => h)
                  rw [hz]; exact cellU x13r (by rw [hTl.out]; exact hlt)
                have hcy : wr.cell? ⟨gp, op + q, none⟩ = some (.int .u8 (y.toNat : Int)) := by
                  have h1 := hpc.out q (by rw [← hNP.out]; omega)
                  have h2 := cell_mod (m67.out.trans mr) h1 (fun h => h)
                  rw [h2, hy, hR.out, hq]
                  congr 3
                  rw [List.getD_eq_getElem?_getD, List.getD_eq_getElem?_getD, List.getElem?_drop]
                have mrH := Lib.hid mr
                replace hz := Lib.hid hz
                replace hy := Lib.hid hy
                replace hq := Lib.hid hq
                replace hcz := Lib.hid hcz
                replace hcy := Lib.hid hcy
                go_upto_region 14 with (fail)
                refine wp_region_any (by kernel_rfl) (any_of_Z (S := fun W => Mod (fun _ => False) wr W) (z := 99) _ _ _ _ ?_)
                simp only [List.size_toArray, List.length_cons, List.length_nil, Nat.reduceAdd, Array.replicate_succ, Array.replicate_zero, List.push_toArray, List.nil_append, List.cons_append]
                have md : Mod (fun _ => False) wr wr.drew := (Mod.refl _ _).drew
                change anyZ _ _ _ _ _ _ _ _ _ wr.drew
                obtain ⟨wd, hwd⟩ : ∃ x, x = wr.drew := ⟨_, rfl⟩
                rw [← hwd] at md ⊢
                clear hwd
                refine anyZ_take 0 _ (some 54) (.int .i64 (j : Int)) rfl (by kernel_rfl) (by kernel_rfl) (by kernel_rfl) (by kernel_rfl) (by kernel_rfl) (by decide) rfl (fun w' hS => ?_) md ?_
                · go_simp
                simp only [Act.put, List.setIfInBounds_toArray, List.set_cons_zero, List.set_cons_succ]
                refine anyZ_take 1 _ (some 55) (.pointer (some ⟨g13, j, none⟩)) rfl (by kernel_rfl) (by kernel_rfl) (by kernel_rfl) (by kernel_rfl) (by kernel_rfl) (by decide) rfl (fun w' hS => ?_) md ?_
                · go_simp
                simp only [Act.put, List.setIfInBounds_toArray, List.set_cons_zero, List.set_cons_succ]
                refine anyZ_take 2 _ (some 56) (.int .u8 (z.toNat : Int)) rfl (by kernel_rfl) (by kernel_rfl) (by kernel_rfl) (by kernel_rfl) (by kernel_rfl) (by decide) rfl (fun w' hS => ?_) md ?_
                · exact run_load_op rfl rfl (ld_u8P (cell_mod hS hcz.out (fun h => h)))
                simp only [Act.put, List.setIfInBounds_toArray, List.set_cons_zero, List.set_cons_succ]
                refine anyZ_take 3 _ (some 57) (.slice (some ⟨gp, op, none⟩) NP cp) rfl (by kernel_rfl) (by kernel_rfl) (by kernel_rfl) (by kernel_rfl) (by kernel_rfl) (by decide) rfl (fun w' hS => ?_) md ?_
                · go_simp
                simp only [Act.put, List.setIfInBounds_toArray, List.set_cons_zero, List.set_cons_succ]
                refine anyZ_take 4 _ (some 58) (.int .i64 (A : Int)) rfl (by kernel_rfl) (by kernel_rfl) (by kernel_rfl) (by kernel_rfl) (by kernel_rfl) (by decide) rfl (fun w' hS => ?_) md ?_
                · go_simp
                simp only [Act.put, List.setIfInBounds_toArray, List.set_cons_zero, List.set_cons_succ]
                refine anyZ_take 5 _ (some 59) (.int .i64 (j : Int)) rfl (by kernel_rfl) (by kernel_rfl) (by kernel_rfl) (by kernel_rfl) (by kernel_rfl) (by decide) rfl (fun w' hS => ?_) md ?_
                · go_simp
                simp only [Act.put, List.setIfInBounds_toArray, List.set_cons_zero, List.set_cons_succ]
                refine anyZ_take 6 _ (some 60) (.int .i64 (q : Int)) rfl (by kernel_rfl) (by kernel_rfl) (by kernel_rfl) (by kernel_rfl) (by kernel_rfl) (by decide) rfl (fun w' hS => ?_) md ?_
                · go_simp
                simp only [Act.put, List.setIfInBounds_toArray, List.set_cons_zero, List.set_cons_succ]
                refine anyZ_take 7 _ (some 61) (.pointer (some ⟨gp, op + q, none⟩)) rfl (by kernel_rfl) (by kernel_rfl) (by kernel_rfl) (by kernel_rfl) (by kernel_rfl) (by decide) rfl (fun w' hS => ?_) md ?_
                · go_simp
                simp only [Act.put, List.setIfInBounds_toArray, List.set_cons_zero, List.set_cons_succ]
                refine anyZ_take 8 _ (some 62) (.int .u8 (y.toNat : Int)) rfl (by kernel_rfl) (by kernel_rfl) (by kernel_rfl) (by kernel_rfl) (by kernel_rfl) (by decide) rfl (fun w' hS => ?_) md ?_
                · exact run_load_op rfl rfl (ld_u8P (cell_mod hS hcy.out (fun h => h)))
                simp only [Act.put, List.setIfInBounds_toArray, List.set_cons_zero, List.set_cons_succ]
                by_cases hzy : z = y
                · subst hzy
                  have hb1 : ((z.toNat : Int) == (z.toNat : Int)) = true := by simp
                  refine anyZ_take 9 _ (some 63) (.bool false) rfl (by kernel_rfl) (by kernel_rfl) (by kernel_rfl) (by kernel_rfl) (by kernel_rfl) (by decide) rfl (fun w' hS => ?_) md ?_
                  · go_simp
                  simp only [Act.put, List.setIfInBounds_toArray, List.set_cons_zero, List.set_cons_succ]
                  refine anyZ_done (by kernel_rfl) ?_ _
                  have mf := mr.trans md
                  have hall' : ∀ i, i < j + 1 → T.getD i 0 = R.getD i 0 := fun i hi => by
                    rcases Nat.lt_or_ge i j with h | h
                    · exact hall i h
                    · rw [show i = j by omega, ← hz.out, ← hy.out]
                  replace mf := Lib.hid mf
                  replace hall' := Lib.hid hall'
                  clear md mr hall hb1
                  go_wp2
                  go_roundw
                  case measure => simp [intOf]; omega
                  case rel => exact ⟨j + 1, by omega, by go_num, mf.out, hall'.out⟩
                · have hne : ¬ (z.toNat : Int) = (y.toNat : Int) := fun h => hzy (BitVec.eq_of_toNat_eq (by omega))
                  have hne1 : ((z.toNat : Int) == (y.toNat : Int)) = false := by rw [beq_eq_false_iff_ne]; exact hne
                  have hne2 : ((z.toNat : Int) != (y.toNat : Int)) = true := by rw [bne_iff_ne]; exact hne
                  have hE : openE k n p b = 11 := by
                    unfold openE
                    rw [← hNP.out, ← hNB.out, if_pos ⟨h32.out, h12.out⟩, if_neg (by have := c0'.out; omega), if_pos ⟨c1'.out, c2'.out⟩, ← hA.out, ← hL.out, ← hR.out, ← hT.out, if_neg (fun h => hzy (by rw [hz.out, hy.out, h]))]
                  replace hE := Lib.hid hE
                  clear hzy
                  refine anyZ_take 9 _ (some 63) (.bool true) rfl (by kernel_rfl) (by kernel_rfl) (by kernel_rfl) (by kernel_rfl) (by kernel_rfl) (by decide) rfl (fun w' hS => ?_) md ?_
                  · go_simp
                  simp only [Act.put, List.setIfInBounds_toArray, List.set_cons_zero, List.set_cons_succ]
                  refine anyZ_done (by kernel_rfl) ?_ _
                  have mf := m07.out.trans (mr.trans md)
                  replace mf := Lib.hid mf
                  clear md mr hall hne hne1 hne2
                  go_wp2
                  go_ret2
                  exact open_clip_bad hE.out (by decide) mf.out
              · have hj16 : 16 = j := by omega
                subst hj16
                obtain ⟨w8, rfl⟩ : ∃ x : World, x = wr := ⟨_, rfl⟩
                have hdj : decide (((16 : Nat) : Int) < 16) = false := by decide
                have hTR : T = R := by
                  apply List.ext_getElem
                  · rw [hTl.out, hRl.out]
                  · intro i h1 h2
                    have h3 := hall i (by rw [hTl.out] at h1; exact h1)
                    rw [List.getD_eq_getElem?_getD, List.getElem?_eq_getElem h1, List.getD_eq_getElem?_getD, List.getElem?_eq_getElem h2] at h3
                    exact h3
                have hE : openE k n p b = 0 := by
                  unfold openE
                  rw [← hNP.out, ← hNB.out, if_pos ⟨h32.out, h12.out⟩, if_neg (by have := c0'.out; omega), if_pos ⟨c1'.out, c2'.out⟩, ← hA.out, ← hL.out, ← hR.out, ← hT.out, if_pos hTR]
                have m68 := m67.out.trans mr
                have x368 := m68.heap x36.out (fun h => h)
                have x68 := m68.heap x6.out (fun h => h)
                have kl8 := kl6.out.mod m68 (fun _ _ h => h)
                have m08 := m06.out.trans m68
                replace hE := Lib.hid hE
                replace x368 := Lib.hid x368
                replace x68 := Lib.hid x68
                replace kl8 := Lib.hid kl8
                replace m08 := Lib.hid m08
                clear mr hall hlt hj hTR m68 x36 x6 kl6 b6 p6 m67 m07 x13
                go_upto_region 16 with (fail)
                refine wp_region_any (by kernel_rfl) (any_of_Z (S := fun W => Mod (fun _ => False) w8 W) (z := 99) _ _ _ _ ?_)
                simp only [List.size_toArray, List.length_cons, List.length_nil, Nat.reduceAdd, Array.replicate_succ, Array.replicate_zero, List.push_toArray, List.nil_append, List.cons_append]
                have md : Mod (fun _ => False) w8 w8.drew := (Mod.refl _ _).drew
                change anyZ _ _ _ _ _ _ _ _ _ w8.drew
                obtain ⟨wd, hwd⟩ : ∃ x, x = w8.drew := ⟨_, rfl⟩
                rw [← hwd] at md ⊢
                clear hwd
                refine anyZ_take 0 _ (some 65) (.agg (encB k)) rfl (by kernel_rfl) (by kernel_rfl) (by kernel_rfl) (by kernel_rfl) (by kernel_rfl) (by decide) rfl (fun w' hS => ?_) md ?_
                · exact run_load_op rfl rfl (loadY32 (hS.heap x368.out (fun h => h)) h32.out)
                simp only [Act.put, List.setIfInBounds_toArray, List.set_cons_zero, List.set_cons_succ]
                refine anyZ_take 1 _ (some 66) (.agg (encB n)) rfl (by kernel_rfl) (by kernel_rfl) (by kernel_rfl) (by kernel_rfl) (by kernel_rfl) (by decide) rfl (fun w' hS => ?_) md ?_
                · exact run_load_op rfl rfl (loadY12 (hS.heap x68.out (fun h => h)) h12.out)
                simp only [Act.put, List.setIfInBounds_toArray, List.set_cons_zero, List.set_cons_succ]
                refine anyZ_take 2 _ (some 67) (.slice (some ⟨gp, op, none⟩) NP cp) rfl (by kernel_rfl) (by kernel_rfl) (by kernel_rfl) (by kernel_rfl) (by kernel_rfl) (by decide) rfl (fun w' hS => ?_) md ?_
                · go_simp
                simp only [Act.put, List.setIfInBounds_toArray, List.set_cons_zero, List.set_cons_succ]
                refine anyZ_take 3 _ (some 68) (.int .i64 (A : Int)) rfl (by kernel_rfl) (by kernel_rfl) (by kernel_rfl) (by kernel_rfl) (by kernel_rfl) (by decide) rfl (fun w' hS => ?_) md ?_
                · go_simp
                simp only [Act.put, List.setIfInBounds_toArray, List.set_cons_zero, List.set_cons_succ]
                refine anyZ_take 4 _ (some 69) (vl) rfl (by kernel_rfl) (by kernel_rfl) (by kernel_rfl) (by kernel_rfl) (by kernel_rfl) (by decide) rfl (fun w' hS => ?_) md ?_
                · exact cut_op Tryz.underlying22 rfl rfl rfl (rl.out _)
                simp only [Act.put, List.setIfInBounds_toArray, List.set_cons_zero, List.set_cons_succ]
                refine anyZ_call 5 _ (some 70) rfl (by kernel_rfl) (by kernel_rfl) rfl 23 #[.agg (encB k), .int .u32 1, .agg (encB n), vl] (by go_simp) ?_
                refine (refxor_any k n h32.out h12.out 1 _ L wd (kl8.out.mod md (fun _ _ h => h)) (by rw [hLl.out]; have := c1'.out; have := hA.out; omega)).mono ?_
                rintro e w9 ⟨m9, v9, rfl, cl9⟩
                have hnr : ¬ refuseX 1 L.length := by
                  unfold refuseX
                  rw [hLl.out]
                  have := c1'.out
                  have := hA.out
                  have h1 : (1 : BitVec 32).toNat = 1 := rfl
                  omega
                have e0 : xoE 1 L.length = 0 := by unfold xoE; rw [if_neg hnr]
                have eX : xoX k n 1 L = Cc.xorS k n 1 L := by unfold xoX; rw [if_neg hnr]
                rw [e0]
                rw [eX] at cl9
                have m89 := md.trans m9
                have hf : OpenClip k n p b w (.returned (.tuple #[v9, .int .i64 0])) w9 := by
                  have hX : openX k n p b = Cc.xorS k n 1 L := by unfold openX; rw [if_pos hE.out, ← hNP.out, ← hA.out, ← hL.out]
                  refine ⟨m08.out.trans m89, v9, by rw [hE.out], ?_⟩
                  rw [hX]
                  exact clip_base0 cl9 (Nat.le_trans m08.out.size md.size)
                replace hf := Lib.hid hf
                replace m89 := Lib.hid m89
                clear m9 cl9 md hnr e0 eX
                refine ⟨_, rfl, fun _ => m89.out, ?_⟩
                simp only [Act.put, List.setIfInBounds_toArray, List.set_cons_zero, List.set_cons_succ]
                refine anyZ_take 6 _ (some 64) (.tuple #[v9, .int .i64 0]) rfl (by kernel_rfl) (by kernel_rfl) (by kernel_rfl) (by kernel_rfl) (by kernel_rfl) (by decide) rfl (fun w' hS => ?_) m89.out ?_
                · go_simp
                simp only [Act.put, List.setIfInBounds_toArray, List.set_cons_zero, List.set_cons_succ]
                refine anyZ_take 7 _ (some 71) (v9) rfl (by kernel_rfl) (by kernel_rfl) (by kernel_rfl) (by kernel_rfl) (by kernel_rfl) (by decide) rfl (fun w' hS => ?_) m89.out ?_
                · go_simp
                simp only [Act.put, List.setIfInBounds_toArray, List.set_cons_zero, List.set_cons_succ]
                refine anyZ_take 8 _ (some 72) (.int .i64 0) rfl (by kernel_rfl) (by kernel_rfl) (by kernel_rfl) (by kernel_rfl) (by kernel_rfl) (by decide) rfl (fun w' hS => ?_) m89.out ?_
                · go_simp
                simp only [Act.put, List.setIfInBounds_toArray, List.set_cons_zero, List.set_cons_succ]
                refine anyZ_take 9 _ (some 15) (v9) rfl (by kernel_rfl) (by kernel_rfl) (by kernel_rfl) (by kernel_rfl) (by kernel_rfl) (by decide) rfl (fun w' hS => ?_) m89.out ?_
                · go_simp
                simp only [Act.put, List.setIfInBounds_toArray, List.set_cons_zero, List.set_cons_succ]
                refine anyZ_take 10 _ (some 16) (.int .i64 0) rfl (by kernel_rfl) (by kernel_rfl) (by kernel_rfl) (by kernel_rfl) (by kernel_rfl) (by decide) rfl (fun w' hS => ?_) m89.out ?_
                · go_simp
                simp only [Act.put, List.setIfInBounds_toArray, List.set_cons_zero, List.set_cons_succ]
                refine anyZ_done (by kernel_rfl) ?_ _
                go_wp2
                go_ret2
                exact hf.out
        · have hE : openE k n p b = 3 := by unfold openE; rw [← hNP.out, ← hNB.out, if_pos ⟨h32.out, h12.out⟩, if_neg c0, if_neg c1]
          replace hE := Lib.hid hE
          by_cases c3 : NP ≤ 1048592
          · have e1 : decide ((1048592 : Int) < (NP : Int)) = false := by rw [decide_eq_false_iff_not]; omega
            have e2 : decide ((1048576 : Int) < (NB : Int)) = true := by rw [decide_eq_true_iff]; omega
            clear c1 c3
            go_wp2
            go_ret2
            exact open_clip_bad hE.out (by decide) m0.out
          · have e1 : decide ((1048592 : Int) < (NP : Int)) = true := by rw [decide_eq_true_iff]; omega
            clear c1 c3
            go_wp2
            go_ret2
            exact open_clip_bad hE.out (by decide) m0.out
    · subst hK
      have fa : ((NN : Int) == 12) = false := by rw [beq_eq_false_iff_ne]; omega
      have fb : ((NN : Int) != 12) = true := by rw [bne_iff_ne]; omega
      have fc : ¬ (NN : Int) = 12 := by omega
      have hE : openE k n p b = 1 := by unfold openE; rw [if_neg (by rintro ⟨h1, h2⟩; have := hNK.out; have := hNN.out; omega)]
      replace hE := Lib.hid hE
      clear hN
      go_wp2
      go_ret2
      exact open_clip_bad hE.out (by decide) m0.out
  · have fa : ((NK : Int) == 32) = false := by rw [beq_eq_false_iff_ne]; omega
    have fb : ((NK : Int) != 32) = true := by rw [bne_iff_ne]; omega
    have fc : ¬ (NK : Int) = 32 := by omega
    have hE : openE k n p b = 1 := by unfold openE; rw [if_neg (by rintro ⟨h1, h2⟩; have := hNK.out; have := hNN.out; omega)]
    replace hE := Lib.hid hE
    clear hK
    go_wp2
    go_ret2
    exact open_clip_bad hE.out (by decide) m0.out
end Go.Proofs.YtbiijcljpgannaaGreatDoor
