/-
  mailcoachlaw03.HkdfKeys. Printed by gen/hkD.py.
-/
import Derived.Test.YthhbomiknikjpaaKC
namespace Go.Proofs.Ythhbomiknikjpaa
open Go Go.RowKit Go.Lib
set_option linter.unusedSimpArgs false
set_option linter.unusedVariables false

theorem keyS_sum (k : List (BitVec 8)) (h : 64 < k.length) : keyS (shaS k) = keyS k := by
  have h1 : shortS k = shaS k := by unfold shortS; rw [if_pos h]
  have h2 : shortS (shaS k) = shaS k := by unfold shortS; rw [if_neg (by rw [shaS_length]; omega)]
  unfold keyS
  rw [h1, h2]
theorem keyS_more (k : List (BitVec 8)) (j : Nat) (h : k.length + j ≤ 64) : keyS (k ++ zb j) = keyS k := by
  have h1 : shortS k = k := by unfold shortS; rw [if_neg (by omega)]
  have hl : (k ++ zb j).length = k.length + j := by rw [List.length_append]; simp [zb]
  have h2 : shortS (k ++ zb j) = k ++ zb j := by unfold shortS; rw [if_neg (by omega)]
  unfold keyS
  rw [h1, h2, hl]
  simp only [zb, List.drop_replicate, List.append_assoc, List.replicate_append_replicate]
  congr 2
  omega
theorem macV_of (k b : List (BitVec 8)) (hk : k.length ≤ 1048576) (hb : b.length ≤ 1048512) : macV k b = .tuple #[.agg (encB (macS (keyS k) b)), .int .i64 0] := by
  unfold macV macB macE
  rw [if_neg (by omega), if_neg (by omega)]
  rfl

set_option maxRecDepth 100000 in
set_option maxHeartbeats 4000000 in
theorem keys_any (vk vb : Value) (k b : List (BitVec 8)) (z : Nat) (w : World) (hk : ByteAt w vk k) (hb : ByteAt w vb b) (hkl : k.length < 4611686018427387904) (hbl : b.length < 4611686018427387904) (hz : z < 256) :
    Calls Try.prog 5 #[vk, vb, .int .u8 (z : Int)] w fun e w' => Mod (fun _ => False) w w' ∧ e = .returned (.bool true) := by
  obtain ⟨ak, ck, rfl, _⟩ := hk.slice
  obtain ⟨ab, cb, rfl, _⟩ := hb.slice
  obtain ⟨m, hm⟩ : ∃ m, m = k.length := ⟨_, rfl⟩
  obtain ⟨n, hn⟩ : ∃ n, n = b.length := ⟨_, rfl⟩
  rw [← hm] at hk hkl ⊢
  rw [← hn] at hb hbl ⊢
  have bm0 : (0 : Int) ≤ (m : Int) := by omega
  have bn0 : (0 : Int) ≤ (n : Int) := by omega
  have bz : (z : Int) < 256 := by omega
  have bz0 : (0 : Int) ≤ (z : Int) := by omega
  replace hm := Lib.hid hm
  replace hn := Lib.hid hn
  replace hz := Lib.hid hz
  go_enter Try.func5, Try.ntmps5
  go_upto_region 1 with (fail)
  refine wp_region_lit ?_
  refine wpList_enter (by kernel_rfl) 14 #[] (by go_simp) (alive_any w) ?_
  rintro e w1 ⟨m1, rfl⟩
  have hk1 := hk.mod m1 (fun _ _ h => h)
  have hb1 := hb.mod m1 (fun _ _ h => h)
  replace hk1 := Lib.hid hk1
  replace hb1 := Lib.hid hb1
  clear hk hb
  replace m1 := Lib.hid m1
  refine ⟨_, rfl, ?_⟩
  simp only [Act.put, List.setIfInBounds_toArray, List.set_cons_zero, List.set_cons_succ]
  by_cases hqm : 5000 < m
  · have hdm : decide ((5000 : Int) < (m : Int)) = true := by rw [decide_eq_true_iff]; omega
    go_upto_region 2 with (fail)
    refine wp_region_lit ?_
    refine wpList_enter (by kernel_rfl) 14 #[] (by go_simp) (alive_any w1) ?_
    rintro e w2 ⟨m2, rfl⟩
    have mf := m1.out.trans m2
    replace mf := Lib.hid mf
    clear m2
    refine ⟨_, rfl, ?_⟩
    simp only [Act.put, List.setIfInBounds_toArray, List.set_cons_zero, List.set_cons_succ]
    refine wpList_reads (by kernel_rfl) (.bool true) (by go_simp) ?_
    simp only [Act.put, List.setIfInBounds_toArray, List.set_cons_zero, List.set_cons_succ]
    go_wp2
    go_ret
    exact ⟨mf.out, rfl⟩
  · have hdm : decide ((5000 : Int) < (m : Int)) = false := by rw [decide_eq_false_iff_not]; omega
    by_cases hqn : 5000 < n
    · have hdn : decide ((5000 : Int) < (n : Int)) = true := by rw [decide_eq_true_iff]; omega
      go_upto_region 2 with (fail)
      refine wp_region_lit ?_
      refine wpList_enter (by kernel_rfl) 14 #[] (by go_simp) (alive_any w1) ?_
      rintro e w2 ⟨m2, rfl⟩
      have mf := m1.out.trans m2
      replace mf := Lib.hid mf
      clear m2
      refine ⟨_, rfl, ?_⟩
      simp only [Act.put, List.setIfInBounds_toArray, List.set_cons_zero, List.set_cons_succ]
      refine wpList_reads (by kernel_rfl) (.bool true) (by go_simp) ?_
      simp only [Act.put, List.setIfInBounds_toArray, List.set_cons_zero, List.set_cons_succ]
      go_wp2
      go_ret
      exact ⟨mf.out, rfl⟩
    · have hdn : decide ((5000 : Int) < (n : Int)) = false := by rw [decide_eq_false_iff_not]; omega
      go_upto_region 3 with (fail)
      refine wp_region_lit ?_
      refine wpList_reads (by kernel_rfl) (.slice ak m ck) (by go_simp) ?_
      simp only [Act.put, List.setIfInBounds_toArray, List.set_cons_zero, List.set_cons_succ]
      refine wpList_reads (by kernel_rfl) (.slice ab n cb) (by go_simp) ?_
      simp only [Act.put, List.setIfInBounds_toArray, List.set_cons_zero, List.set_cons_succ]
      refine wpList_enter (by kernel_rfl) 10 #[.slice ak m ck, .slice ab n cb] (by go_simp) (Mac_any _ _ k b w1 hk1.out hb1.out (by rw [← hm.out]; omega) (by rw [← hn.out]; omega)) ?_
      rintro e w2 ⟨m2, rfl⟩
      rw [macV_of k b (by rw [← hm.out]; omega) (by rw [← hn.out]; omega)]
      obtain ⟨H, hH⟩ : ∃ H, H = macS (keyS k) b := ⟨_, rfl⟩
      have hHl : H.length = 32 := by rw [hH]; exact macS_length _ _
      rw [← hH]
      obtain ⟨wa3, hw3⟩ : ∃ x, x = w2.alloc (.cells (encB (zb 32)) 25) := ⟨_, rfl⟩
      obtain ⟨g3, hg3⟩ : ∃ g, g = w2.heap.size := ⟨_, rfl⟩
      have ma3 : Mod (fun _ => False) w2 wa3 := by rw [hw3]; exact (Mod.refl _ _).alloc _
      have xa3 : wa3.heap[g3]? = some (.cells (encB (zb 32)) 25 (0,0)) := by rw [hw3]; exact hp_new _ _ _ hg3
      obtain ⟨w3, st3, na3, x3⟩ := bytes_store xa3 (s' := H) (by decide) hHl
      have m3 : Mod (fun _ => False) w2 w3 := ma3.trans' na3 (fun k hk h => by omega)
      replace hw3 := Lib.hid hw3
      replace hg3 := Lib.hid hg3
      replace x3 := Lib.hid x3
      clear ma3 xa3 na3
      have hk3 := (hk1.out.mod m2 (fun _ _ h => h)).mod m3 (fun _ _ h => h)
      have hb3 := (hb1.out.mod m2 (fun _ _ h => h)).mod m3 (fun _ _ h => h)
      have m03 := (m1.out.trans m2).trans m3
      replace hk3 := Lib.hid hk3
      replace hb3 := Lib.hid hb3
      replace m03 := Lib.hid m03
      replace hH := Lib.hid hH
      clear m2 m3
      refine ⟨_, rfl, ?_⟩
      simp only [Act.put, List.setIfInBounds_toArray, List.set_cons_zero, List.set_cons_succ]
      refine wpList_reads (by kernel_rfl) (.tuple #[.agg (encB H), .int .i64 0]) (by go_simp) ?_
      simp only [Act.put, List.setIfInBounds_toArray, List.set_cons_zero, List.set_cons_succ]
      refine wpList_reads (by kernel_rfl) (.agg (encB H)) (by go_simp) ?_
      simp only [Act.put, List.setIfInBounds_toArray, List.set_cons_zero, List.set_cons_succ]
      refine wpList_reads (by kernel_rfl) (.int .i64 0) (by go_simp) ?_
      simp only [Act.put, List.setIfInBounds_toArray, List.set_cons_zero, List.set_cons_succ]
      refine wpList_yields (by kernel_rfl) _ _ (alloc_arr 25 _ zero32 _ _ _ rfl) ?_
      simp only [Act.put, List.setIfInBounds_toArray, List.set_cons_zero, List.set_cons_succ]
      rw [← hg3.out, ← hw3.out]
      refine wpList_store_to rfl _ _ _ rfl _ _ _ rfl rfl _ st3 ?_
      simp only [Act.put, List.setIfInBounds_toArray, List.set_cons_zero, List.set_cons_succ]
      refine wpList_reads (by kernel_rfl) (.int .i64 0) (by go_simp) ?_
      simp only [Act.put, List.setIfInBounds_toArray, List.set_cons_zero, List.set_cons_succ]
      by_cases h64 : 64 < m
      · have hd64 : decide ((64 : Int) < (m : Int)) = true := by rw [decide_eq_true_iff]; omega
        go_upto_region 5 with (fail)
        refine wp_region_lit ?_
        refine wpList_reads (by kernel_rfl) (.slice ak m ck) (by go_simp) ?_
        simp only [Act.put, List.setIfInBounds_toArray, List.set_cons_zero, List.set_cons_succ]
        refine wpList_enter (by kernel_rfl) 15 #[.slice ak m ck] (by go_simp) (sum_any _ k w3 hk3.out (by rw [← hm.out]; omega)) ?_
        rintro e w4 ⟨m4, rfl⟩
        rw [show sumV k = .tuple #[.agg (encB (shaS k)), .int .i64 0] by unfold sumV; rw [if_neg (by rw [← hm.out]; omega)]]
        have hks := keyS_sum k (by rw [← hm.out]; exact h64)
        obtain ⟨RR, hR⟩ : ∃ R, R = shaS k := ⟨_, rfl⟩
        have hRl : RR.length = 32 := by rw [hR]; exact shaS_length _
        rw [← hR] at hks ⊢
        obtain ⟨wa5, hw5⟩ : ∃ x, x = w4.alloc (.cells (encB (zb 32)) 25) := ⟨_, rfl⟩
        obtain ⟨g5, hg5⟩ : ∃ g, g = w4.heap.size := ⟨_, rfl⟩
        have ma5 : Mod (fun _ => False) w4 wa5 := by rw [hw5]; exact (Mod.refl _ _).alloc _
        have xa5 : wa5.heap[g5]? = some (.cells (encB (zb 32)) 25 (0,0)) := by rw [hw5]; exact hp_new _ _ _ hg5
        obtain ⟨w5, st5, na5, x5⟩ := bytes_store xa5 (s' := RR) (by decide) hRl
        have m5 : Mod (fun _ => False) w4 w5 := ma5.trans' na5 (fun k hk h => by omega)
        replace hw5 := Lib.hid hw5
        replace hg5 := Lib.hid hg5
        replace x5 := Lib.hid x5
        clear ma5 xa5 na5
        have m35 := m4.trans m5
        have hb5 := hb3.out.mod m35 (fun _ _ h => h)
        have x35 := m35.heap x3.out (fun h => h)
        have bR := ByteAt.row x5.out
        rw [hRl] at bR
        have m05 := m03.out.trans m35
        replace hb5 := Lib.hid hb5
        replace x35 := Lib.hid x35
        replace bR := Lib.hid bR
        replace m05 := Lib.hid m05
        replace hks := Lib.hid hks
        clear m4 m5 m35 m03 hb3 hk3 x3 h64
        refine ⟨_, rfl, ?_⟩
        simp only [Act.put, List.setIfInBounds_toArray, List.set_cons_zero, List.set_cons_succ]
        refine wpList_reads (by kernel_rfl) (.tuple #[.agg (encB RR), .int .i64 0]) (by go_simp) ?_
        simp only [Act.put, List.setIfInBounds_toArray, List.set_cons_zero, List.set_cons_succ]
        refine wpList_reads (by kernel_rfl) (.agg (encB RR)) (by go_simp) ?_
        simp only [Act.put, List.setIfInBounds_toArray, List.set_cons_zero, List.set_cons_succ]
        refine wpList_reads (by kernel_rfl) (.int .i64 0) (by go_simp) ?_
        simp only [Act.put, List.setIfInBounds_toArray, List.set_cons_zero, List.set_cons_succ]
        refine wpList_yields (by kernel_rfl) _ _ (alloc_arr 25 _ zero32 _ _ _ rfl) ?_
        simp only [Act.put, List.setIfInBounds_toArray, List.set_cons_zero, List.set_cons_succ]
        rw [← hg5.out, ← hw5.out]
        refine wpList_store_to rfl _ _ _ rfl _ _ _ rfl rfl _ st5 ?_
        simp only [Act.put, List.setIfInBounds_toArray, List.set_cons_zero, List.set_cons_succ]
        refine wpList_reads (by kernel_rfl) (.int .i64 0) (by go_simp) ?_
        simp only [Act.put, List.setIfInBounds_toArray, List.set_cons_zero, List.set_cons_succ]
        go_upto_region 6 with (fail)
        refine wp_region_lit ?_
        refine wpList_reads (by kernel_rfl) (.slice (some ⟨g5, 0, none⟩) 32 32) (by go_simp) ?_
        simp only [Act.put, List.setIfInBounds_toArray, List.set_cons_zero, List.set_cons_succ]
        refine wpList_reads (by kernel_rfl) (.slice ab n cb) (by go_simp) ?_
        simp only [Act.put, List.setIfInBounds_toArray, List.set_cons_zero, List.set_cons_succ]
        refine wpList_enter (by kernel_rfl) 10 #[.slice (some ⟨g5, 0, none⟩) 32 32, .slice ab n cb] (by go_simp) (Mac_any _ _ RR b w5 bR.out hb5.out (by omega) (by rw [← hn.out]; omega)) ?_
        rintro e w6 ⟨m6, rfl⟩
        rw [macV_of RR b (by omega) (by rw [← hn.out]; omega), hks.out, ← hH.out]
        obtain ⟨wa7, hw7⟩ : ∃ x, x = w6.alloc (.cells (encB (zb 32)) 25) := ⟨_, rfl⟩
        obtain ⟨g7, hg7⟩ : ∃ g, g = w6.heap.size := ⟨_, rfl⟩
        have ma7 : Mod (fun _ => False) w6 wa7 := by rw [hw7]; exact (Mod.refl _ _).alloc _
        have xa7 : wa7.heap[g7]? = some (.cells (encB (zb 32)) 25 (0,0)) := by rw [hw7]; exact hp_new _ _ _ hg7
        obtain ⟨w7, st7, na7, x7⟩ := bytes_store xa7 (s' := H) (by decide) hHl
        have m7 : Mod (fun _ => False) w6 w7 := ma7.trans' na7 (fun k hk h => by omega)
        replace hw7 := Lib.hid hw7
        replace hg7 := Lib.hid hg7
        replace x7 := Lib.hid x7
        clear ma7 xa7 na7
        have m57 := m6.trans m7
        have mf := m05.out.trans m57
        have l1 := bytes_load (m57.heap x35.out (fun h => h)) hHl
        have l2 := bytes_load x7.out hHl
        replace mf := Lib.hid mf
        clear m6 m7 m57
        refine ⟨_, rfl, ?_⟩
        simp only [Act.put, List.setIfInBounds_toArray, List.set_cons_zero, List.set_cons_succ]
        refine wpList_reads (by kernel_rfl) (.tuple #[.agg (encB H), .int .i64 0]) (by go_simp) ?_
        simp only [Act.put, List.setIfInBounds_toArray, List.set_cons_zero, List.set_cons_succ]
        refine wpList_reads (by kernel_rfl) (.agg (encB H)) (by go_simp) ?_
        simp only [Act.put, List.setIfInBounds_toArray, List.set_cons_zero, List.set_cons_succ]
        refine wpList_reads (by kernel_rfl) (.int .i64 0) (by go_simp) ?_
        simp only [Act.put, List.setIfInBounds_toArray, List.set_cons_zero, List.set_cons_succ]
        refine wpList_yields (by kernel_rfl) _ _ (alloc_arr 25 _ zero32 _ _ _ rfl) ?_
        simp only [Act.put, List.setIfInBounds_toArray, List.set_cons_zero, List.set_cons_succ]
        rw [← hg7.out, ← hw7.out]
        refine wpList_store_to rfl _ _ _ rfl _ _ _ rfl rfl _ st7 ?_
        simp only [Act.put, List.setIfInBounds_toArray, List.set_cons_zero, List.set_cons_succ]
        refine wpList_reads (by kernel_rfl) (.int .i64 0) (by go_simp) ?_
        simp only [Act.put, List.setIfInBounds_toArray, List.set_cons_zero, List.set_cons_succ]
        go_upto_region 7 with (fail)
        refine wp_region_lit ?_
        refine wpList_reads (by kernel_rfl) (.int .i64 0) (by go_simp) ?_
        simp only [Act.put, List.setIfInBounds_toArray, List.set_cons_zero, List.set_cons_succ]
        refine wpList_reads (by kernel_rfl) (.bool true) (by go_simp) ?_
        simp only [Act.put, List.setIfInBounds_toArray, List.set_cons_zero, List.set_cons_succ]
        refine wpList_reads (by kernel_rfl) (.bool true) (by go_simp) ?_
        simp only [Act.put, List.setIfInBounds_toArray, List.set_cons_zero, List.set_cons_succ]
        refine wpList_reads (by kernel_rfl) (.int .i64 0) (by go_simp) ?_
        simp only [Act.put, List.setIfInBounds_toArray, List.set_cons_zero, List.set_cons_succ]
        refine wpList_reads (by kernel_rfl) (.bool true) (by go_simp) ?_
        simp only [Act.put, List.setIfInBounds_toArray, List.set_cons_zero, List.set_cons_succ]
        refine wpList_reads (by kernel_rfl) (.bool true) (by go_simp) ?_
        simp only [Act.put, List.setIfInBounds_toArray, List.set_cons_zero, List.set_cons_succ]
        refine wpList_reads (by kernel_rfl) (.bool true) (by go_simp) ?_
        simp only [Act.put, List.setIfInBounds_toArray, List.set_cons_zero, List.set_cons_succ]
        refine wpList_reads (by kernel_rfl) (.int .i64 0) (by go_simp) ?_
        simp only [Act.put, List.setIfInBounds_toArray, List.set_cons_zero, List.set_cons_succ]
        refine wpList_reads (by kernel_rfl) (.bool true) (by go_simp) ?_
        simp only [Act.put, List.setIfInBounds_toArray, List.set_cons_zero, List.set_cons_succ]
        refine wpList_reads (by kernel_rfl) (.bool true) (by go_simp) ?_
        simp only [Act.put, List.setIfInBounds_toArray, List.set_cons_zero, List.set_cons_succ]
        refine wpList_reads (by kernel_rfl) (.bool true) (by go_simp) ?_
        simp only [Act.put, List.setIfInBounds_toArray, List.set_cons_zero, List.set_cons_succ]
        refine wpList_reads (by kernel_rfl) (.agg (encB H)) (run_load_op rfl rfl l1) ?_
        simp only [Act.put, List.setIfInBounds_toArray, List.set_cons_zero, List.set_cons_succ]
        refine wpList_reads (by kernel_rfl) (.agg (encB H)) (run_load_op rfl rfl l2) ?_
        simp only [Act.put, List.setIfInBounds_toArray, List.set_cons_zero, List.set_cons_succ]
        refine wpList_reads (by kernel_rfl) (.bool true) (by rw [show Value.bool true = .bool (decide (H = H)) by simp]; exact run_eql32_op rfl rfl rfl hHl hHl) ?_
        simp only [Act.put, List.setIfInBounds_toArray, List.set_cons_zero, List.set_cons_succ]
        refine wpList_reads (by kernel_rfl) (.bool true) (by go_simp) ?_
        simp only [Act.put, List.setIfInBounds_toArray, List.set_cons_zero, List.set_cons_succ]
        refine wpList_reads (by kernel_rfl) (.bool true) (by go_simp) ?_
        simp only [Act.put, List.setIfInBounds_toArray, List.set_cons_zero, List.set_cons_succ]
        go_wp2
        go_ret
        exact ⟨mf.out, rfl⟩
      · have hd64 : decide ((64 : Int) < (m : Int)) = false := by rw [decide_eq_false_iff_not]; omega
        go_upto_region 9 with (fail)
        refine wp_region_lit ?_
        refine wpList_reads (by kernel_rfl) (.slice none 0 0) (by go_simp) ?_
        simp only [Act.put, List.setIfInBounds_toArray, List.set_cons_zero, List.set_cons_succ]
        refine wpList_reads (by kernel_rfl) (.slice ak m ck) (by go_simp) ?_
        simp only [Act.put, List.setIfInBounds_toArray, List.set_cons_zero, List.set_cons_succ]
        refine wpList_append_bytes rfl _ _ rfl w3.heap.size 0 (.slice none 0 0) (.slice ak m ck) [] k rfl rfl (World.ownsRow_nil _ _ _ _) hk3.out (by rw [← hm.out]; omega) (Nat.le_refl _) ?_
        intro v w4 own4 grow4
        have m4 : Mod (fun _ => False) w3 w4 := (Mod.refl _ _).grown grow4 (fun k hk _ => by cases hk)
        rw [Nat.zero_add, ← hm.out] at own4
        replace own4 := Lib.hid own4
        replace m4 := Lib.hid m4
        clear grow4
        simp only [Act.put, List.setIfInBounds_toArray, List.set_cons_zero, List.set_cons_succ]
        refine wpList_reads (by kernel_rfl) (v) (by go_simp) ?_
        simp only [Act.put, List.setIfInBounds_toArray, List.set_cons_zero, List.set_cons_succ]
        go_wp2
        go_loopg [13, 14] z (fun gh lv iv wr => ∃ j : Nat, j + gh = z ∧ m + j ≤ 64 ∧ iv = .int .i64 (j : Int) ∧ Mod (fun _ => False) w3 wr ∧ wr.ownsRow w3.heap.size 5 1 lv (m + j) (bytesV (k ++ zb j)))
        case atStart => exact ⟨0, by omega, by omega, rfl, m4.out, by rw [show k ++ zb 0 = k from List.append_nil k]; exact own4.out⟩
        case round =>
          obtain ⟨j, hjg, hj64, rfl, mr, own⟩ := hrel
          obtain ⟨ad, cp, hv, _⟩ := (byteAt_of_own own).slice
          have hkz : (k ++ zb j).length = m + j := by rw [List.length_append, ← hm.out]; simp [zb]
          rw [hkz] at hv
          subst hv
          obtain ⟨q, hq⟩ : ∃ q, q = m + j := ⟨_, rfl⟩
          rw [← hq] at own hj64 hkz ⊢
          have bj : (j : Int) ≤ 64 := by omega
          have bj0 : (0 : Int) ≤ (j : Int) := by omega
          have bq : (q : Int) ≤ 64 := by omega
          have bq0 : (0 : Int) ≤ (q : Int) := by omega
          by_cases hgo : j < z ∧ q < 64
          · have hdj : decide (j < z) = true := by rw [decide_eq_true_iff]; exact hgo.1
            have hdq : decide ((q : Int) < 64) = true := by rw [decide_eq_true_iff]; omega
            have hqn : q < 64 := hgo.2
            have hjz : j < z := hgo.1
            obtain ⟨wa, hwa⟩ : ∃ x, x = wr.alloc (.cells #[.int .u8 0] 5) := ⟨_, rfl⟩
            obtain ⟨ga, hga⟩ : ∃ g, g = wr.heap.size := ⟨_, rfl⟩
            have ma : Mod (fun _ => False) wr wa := by rw [hwa]; exact (Mod.refl _ _).alloc _
            have xa : wa.heap[ga]? = some (.cells (encB [0]) 5 (0,0)) := by rw [hwa]; exact hp_new _ _ _ hga
            have ba := ByteAt.row xa
            have owna := ownsRow_kept own ma (fun _ _ h => h)
            have mra := mr.trans ma
            have htn : k ++ zb (j + 1) = k ++ zb j ++ [0] := by rw [List.append_assoc]; congr 1; simp [zb, List.replicate_succ']
            replace hwa := Lib.hid hwa
            replace hga := Lib.hid hga
            replace htn := Lib.hid htn
            replace hgo := Lib.hid hgo
            replace hjg := Lib.hid hjg
            replace hq := Lib.hid hq
            replace hqn := Lib.hid hqn
            replace hj64 := Lib.hid hj64
            replace hjz := Lib.hid hjz
            clear own mr xa ma
            go_upto_region 13 with (fail)
            refine wp_region_lit ?_
            refine wpList_reads (by kernel_rfl) (.slice ad q cp) (by go_simp) ?_
            simp only [Act.put, List.setIfInBounds_toArray, List.set_cons_zero, List.set_cons_succ]
            refine wpList_yields (by kernel_rfl) (.slice (some ⟨ga, 0, none⟩) 1 1) wa (by rw [hwa.out, hga.out]; go_simp) ?_
            simp only [Act.put, List.setIfInBounds_toArray, List.set_cons_zero, List.set_cons_succ]
            refine wpList_append_bytes rfl _ _ rfl w3.heap.size q (.slice ad q cp) (.slice (some ⟨ga, 0, none⟩) 1 1) (k ++ zb j) [0] rfl rfl owna ba (by simp; omega) mra.size ?_
            intro v' w5 own5 grow5
            have m5 : Mod (fun _ => False) w3 w5 := mra.trans' ((Mod.refl _ _).grown (S := fun k => w3.heap.size ≤ k) grow5 (fun k hk _ => (owna.lt k hk).1)) (fun k hk h => by omega)
            rw [← htn.out] at own5
            replace own5 := Lib.hid own5
            replace m5 := Lib.hid m5
            clear owna ba grow5 mra
            simp only [Act.put, List.setIfInBounds_toArray, List.set_cons_zero, List.set_cons_succ]
            refine wpList_reads (by kernel_rfl) v' (by go_simp) ?_
            simp only [Act.put, List.setIfInBounds_toArray, List.set_cons_zero, List.set_cons_succ]
            go_wp2
            go_roundg (gk - 1)
            case measure => have := hjg.out; have := hjz.out; omega
            case rel => exact ⟨j + 1, by have := hjg.out; have := hjz.out; omega, by have := hq.out; have := hqn.out; omega, by go_num, m5.out, by rw [show m + (j + 1) = q + 1 by have := hq.out; omega]; exact own5.out⟩
          · have hb4 := hb3.out.mod mr (fun _ _ h => h)
            have bL := byteAt_of_own own
            have x3r := mr.heap x3.out (fun h => h)
            have m0r := m03.out.trans mr
            have hks := keyS_more k j (by rw [← hm.out]; omega)
            obtain ⟨L, hL⟩ : ∃ L, L = k ++ zb j := ⟨_, rfl⟩
            rw [← hL] at hks bL hkz
            replace hb4 := Lib.hid hb4
            replace bL := Lib.hid bL
            replace x3r := Lib.hid x3r
            replace m0r := Lib.hid m0r
            replace hks := Lib.hid hks
            replace hkz := Lib.hid hkz
            replace hL := Lib.hid hL
            replace hj64 := Lib.hid hj64
            replace hjg := Lib.hid hjg
            replace hq := Lib.hid hq
            obtain ⟨wr', hwr⟩ : ∃ x, x = wr := ⟨_, rfl⟩
            clear own mr m4 own4 hk3 hb3 x3 m03 h64
            by_cases hjz : j < z
            · have hdj : decide (j < z) = true := by rw [decide_eq_true_iff]; exact hjz
              have hdq : decide ((q : Int) < 64) = false := by rw [decide_eq_false_iff_not]; omega
              replace hgo := Lib.hid hgo
              replace hjz := Lib.hid hjz
              go_upto_region 14 with (fail)
              refine wp_region_lit ?_
              refine wpList_reads (by kernel_rfl) (.slice ad q cp) (by go_simp) ?_
              simp only [Act.put, List.setIfInBounds_toArray, List.set_cons_zero, List.set_cons_succ]
              refine wpList_reads (by kernel_rfl) (.slice ab n cb) (by go_simp) ?_
              simp only [Act.put, List.setIfInBounds_toArray, List.set_cons_zero, List.set_cons_succ]
              refine wpList_enter (by kernel_rfl) 10 #[.slice ad q cp, .slice ab n cb] (by go_simp) (Mac_any _ _ L b _ bL.out hb4.out (by rw [hkz.out]; have := hj64.out; omega) (by rw [← hn.out]; omega)) ?_
              rintro e w6 ⟨m6, rfl⟩
              rw [macV_of L b (by rw [hkz.out]; have := hj64.out; omega) (by rw [← hn.out]; omega), hks.out, ← hH.out]
              obtain ⟨wa7, hw7⟩ : ∃ x, x = w6.alloc (.cells (encB (zb 32)) 25) := ⟨_, rfl⟩
              obtain ⟨g7, hg7⟩ : ∃ g, g = w6.heap.size := ⟨_, rfl⟩
              have ma7 : Mod (fun _ => False) w6 wa7 := by rw [hw7]; exact (Mod.refl _ _).alloc _
              have xa7 : wa7.heap[g7]? = some (.cells (encB (zb 32)) 25 (0,0)) := by rw [hw7]; exact hp_new _ _ _ hg7
              obtain ⟨w7, st7, na7, x7⟩ := bytes_store xa7 (s' := H) (by decide) hHl
              have m7 : Mod (fun _ => False) w6 w7 := ma7.trans' na7 (fun k hk h => by omega)
              replace hw7 := Lib.hid hw7
              replace hg7 := Lib.hid hg7
              replace x7 := Lib.hid x7
              clear ma7 xa7 na7
              have m57 := m6.trans m7
              have mf := m0r.out.trans m57
              have l1 := bytes_load (m57.heap x3r.out (fun h => h)) hHl
              have l2 := bytes_load x7.out hHl
              replace mf := Lib.hid mf
              clear m6 m7 m57
              refine ⟨_, rfl, ?_⟩
              simp only [Act.put, List.setIfInBounds_toArray, List.set_cons_zero, List.set_cons_succ]
              refine wpList_reads (by kernel_rfl) (.tuple #[.agg (encB H), .int .i64 0]) (by go_simp) ?_
              simp only [Act.put, List.setIfInBounds_toArray, List.set_cons_zero, List.set_cons_succ]
              refine wpList_reads (by kernel_rfl) (.agg (encB H)) (by go_simp) ?_
              simp only [Act.put, List.setIfInBounds_toArray, List.set_cons_zero, List.set_cons_succ]
              refine wpList_reads (by kernel_rfl) (.int .i64 0) (by go_simp) ?_
              simp only [Act.put, List.setIfInBounds_toArray, List.set_cons_zero, List.set_cons_succ]
              refine wpList_yields (by kernel_rfl) _ _ (alloc_arr 25 _ zero32 _ _ _ rfl) ?_
              simp only [Act.put, List.setIfInBounds_toArray, List.set_cons_zero, List.set_cons_succ]
              rw [← hg7.out, ← hw7.out]
              refine wpList_store_to rfl _ _ _ rfl _ _ _ rfl rfl _ st7 ?_
              simp only [Act.put, List.setIfInBounds_toArray, List.set_cons_zero, List.set_cons_succ]
              refine wpList_reads (by kernel_rfl) (.int .i64 0) (by go_simp) ?_
              simp only [Act.put, List.setIfInBounds_toArray, List.set_cons_zero, List.set_cons_succ]
              go_upto_region 15 with (fail)
              refine wp_region_lit ?_
              refine wpList_reads (by kernel_rfl) (.int .i64 0) (by go_simp) ?_
              simp only [Act.put, List.setIfInBounds_toArray, List.set_cons_zero, List.set_cons_succ]
              refine wpList_reads (by kernel_rfl) (.bool true) (by go_simp) ?_
              simp only [Act.put, List.setIfInBounds_toArray, List.set_cons_zero, List.set_cons_succ]
              refine wpList_reads (by kernel_rfl) (.bool true) (by go_simp) ?_
              simp only [Act.put, List.setIfInBounds_toArray, List.set_cons_zero, List.set_cons_succ]
              refine wpList_reads (by kernel_rfl) (.int .i64 0) (by go_simp) ?_
              simp only [Act.put, List.setIfInBounds_toArray, List.set_cons_zero, List.set_cons_succ]
              refine wpList_reads (by kernel_rfl) (.bool true) (by go_simp) ?_
              simp only [Act.put, List.setIfInBounds_toArray, List.set_cons_zero, List.set_cons_succ]
              refine wpList_reads (by kernel_rfl) (.bool true) (by go_simp) ?_
              simp only [Act.put, List.setIfInBounds_toArray, List.set_cons_zero, List.set_cons_succ]
              refine wpList_reads (by kernel_rfl) (.bool true) (by go_simp) ?_
              simp only [Act.put, List.setIfInBounds_toArray, List.set_cons_zero, List.set_cons_succ]
              refine wpList_reads (by kernel_rfl) (.agg (encB H)) (run_load_op rfl rfl l1) ?_
              simp only [Act.put, List.setIfInBounds_toArray, List.set_cons_zero, List.set_cons_succ]
              refine wpList_reads (by kernel_rfl) (.agg (encB H)) (run_load_op rfl rfl l2) ?_
              simp only [Act.put, List.setIfInBounds_toArray, List.set_cons_zero, List.set_cons_succ]
              refine wpList_reads (by kernel_rfl) (.bool true) (by rw [show Value.bool true = .bool (decide (H = H)) by simp]; exact run_eql32_op rfl rfl rfl hHl hHl) ?_
              simp only [Act.put, List.setIfInBounds_toArray, List.set_cons_zero, List.set_cons_succ]
              refine wpList_reads (by kernel_rfl) (.bool true) (by go_simp) ?_
              simp only [Act.put, List.setIfInBounds_toArray, List.set_cons_zero, List.set_cons_succ]
              refine wpList_reads (by kernel_rfl) (.bool true) (by go_simp) ?_
              simp only [Act.put, List.setIfInBounds_toArray, List.set_cons_zero, List.set_cons_succ]
              go_wp2
              go_ret
              exact ⟨mf.out, rfl⟩
            · have hdj : decide (j < z) = false := by rw [decide_eq_false_iff_not]; exact hjz
              replace hgo := Lib.hid hgo
              replace hjz := Lib.hid hjz
              go_upto_region 14 with (fail)
              refine wp_region_lit ?_
              refine wpList_reads (by kernel_rfl) (.slice ad q cp) (by go_simp) ?_
              simp only [Act.put, List.setIfInBounds_toArray, List.set_cons_zero, List.set_cons_succ]
              refine wpList_reads (by kernel_rfl) (.slice ab n cb) (by go_simp) ?_
              simp only [Act.put, List.setIfInBounds_toArray, List.set_cons_zero, List.set_cons_succ]
              refine wpList_enter (by kernel_rfl) 10 #[.slice ad q cp, .slice ab n cb] (by go_simp) (Mac_any _ _ L b _ bL.out hb4.out (by rw [hkz.out]; have := hj64.out; omega) (by rw [← hn.out]; omega)) ?_
              rintro e w6 ⟨m6, rfl⟩
              rw [macV_of L b (by rw [hkz.out]; have := hj64.out; omega) (by rw [← hn.out]; omega), hks.out, ← hH.out]
              obtain ⟨wa7, hw7⟩ : ∃ x, x = w6.alloc (.cells (encB (zb 32)) 25) := ⟨_, rfl⟩
              obtain ⟨g7, hg7⟩ : ∃ g, g = w6.heap.size := ⟨_, rfl⟩
              have ma7 : Mod (fun _ => False) w6 wa7 := by rw [hw7]; exact (Mod.refl _ _).alloc _
              have xa7 : wa7.heap[g7]? = some (.cells (encB (zb 32)) 25 (0,0)) := by rw [hw7]; exact hp_new _ _ _ hg7
              obtain ⟨w7, st7, na7, x7⟩ := bytes_store xa7 (s' := H) (by decide) hHl
              have m7 : Mod (fun _ => False) w6 w7 := ma7.trans' na7 (fun k hk h => by omega)
              replace hw7 := Lib.hid hw7
              replace hg7 := Lib.hid hg7
              replace x7 := Lib.hid x7
              clear ma7 xa7 na7
              have m57 := m6.trans m7
              have mf := m0r.out.trans m57
              have l1 := bytes_load (m57.heap x3r.out (fun h => h)) hHl
              have l2 := bytes_load x7.out hHl
              replace mf := Lib.hid mf
              clear m6 m7 m57
              refine ⟨_, rfl, ?_⟩
              simp only [Act.put, List.setIfInBounds_toArray, List.set_cons_zero, List.set_cons_succ]
              refine wpList_reads (by kernel_rfl) (.tuple #[.agg (encB H), .int .i64 0]) (by go_simp) ?_
              simp only [Act.put, List.setIfInBounds_toArray, List.set_cons_zero, List.set_cons_succ]
              refine wpList_reads (by kernel_rfl) (.agg (encB H)) (by go_simp) ?_
              simp only [Act.put, List.setIfInBounds_toArray, List.set_cons_zero, List.set_cons_succ]
              refine wpList_reads (by kernel_rfl) (.int .i64 0) (by go_simp) ?_
              simp only [Act.put, List.setIfInBounds_toArray, List.set_cons_zero, List.set_cons_succ]
              refine wpList_yields (by kernel_rfl) _ _ (alloc_arr 25 _ zero32 _ _ _ rfl) ?_
              simp only [Act.put, List.setIfInBounds_toArray, List.set_cons_zero, List.set_cons_succ]
              rw [← hg7.out, ← hw7.out]
              refine wpList_store_to rfl _ _ _ rfl _ _ _ rfl rfl _ st7 ?_
              simp only [Act.put, List.setIfInBounds_toArray, List.set_cons_zero, List.set_cons_succ]
              refine wpList_reads (by kernel_rfl) (.int .i64 0) (by go_simp) ?_
              simp only [Act.put, List.setIfInBounds_toArray, List.set_cons_zero, List.set_cons_succ]
              go_upto_region 15 with (fail)
              refine wp_region_lit ?_
              refine wpList_reads (by kernel_rfl) (.int .i64 0) (by go_simp) ?_
              simp only [Act.put, List.setIfInBounds_toArray, List.set_cons_zero, List.set_cons_succ]
              refine wpList_reads (by kernel_rfl) (.bool true) (by go_simp) ?_
              simp only [Act.put, List.setIfInBounds_toArray, List.set_cons_zero, List.set_cons_succ]
              refine wpList_reads (by kernel_rfl) (.bool true) (by go_simp) ?_
              simp only [Act.put, List.setIfInBounds_toArray, List.set_cons_zero, List.set_cons_succ]
              refine wpList_reads (by kernel_rfl) (.int .i64 0) (by go_simp) ?_
              simp only [Act.put, List.setIfInBounds_toArray, List.set_cons_zero, List.set_cons_succ]
              refine wpList_reads (by kernel_rfl) (.bool true) (by go_simp) ?_
              simp only [Act.put, List.setIfInBounds_toArray, List.set_cons_zero, List.set_cons_succ]
              refine wpList_reads (by kernel_rfl) (.bool true) (by go_simp) ?_
              simp only [Act.put, List.setIfInBounds_toArray, List.set_cons_zero, List.set_cons_succ]
              refine wpList_reads (by kernel_rfl) (.bool true) (by go_simp) ?_
              simp only [Act.put, List.setIfInBounds_toArray, List.set_cons_zero, List.set_cons_succ]
              refine wpList_reads (by kernel_rfl) (.agg (encB H)) (run_load_op rfl rfl l1) ?_
              simp only [Act.put, List.setIfInBounds_toArray, List.set_cons_zero, List.set_cons_succ]
              refine wpList_reads (by kernel_rfl) (.agg (encB H)) (run_load_op rfl rfl l2) ?_
              simp only [Act.put, List.setIfInBounds_toArray, List.set_cons_zero, List.set_cons_succ]
              refine wpList_reads (by kernel_rfl) (.bool true) (by rw [show Value.bool true = .bool (decide (H = H)) by simp]; exact run_eql32_op rfl rfl rfl hHl hHl) ?_
              simp only [Act.put, List.setIfInBounds_toArray, List.set_cons_zero, List.set_cons_succ]
              refine wpList_reads (by kernel_rfl) (.bool true) (by go_simp) ?_
              simp only [Act.put, List.setIfInBounds_toArray, List.set_cons_zero, List.set_cons_succ]
              refine wpList_reads (by kernel_rfl) (.bool true) (by go_simp) ?_
              simp only [Act.put, List.setIfInBounds_toArray, List.set_cons_zero, List.set_cons_succ]
              go_wp2
              go_ret
              exact ⟨mf.out, rfl⟩
end Go.Proofs.Ythhbomiknikjpaa
