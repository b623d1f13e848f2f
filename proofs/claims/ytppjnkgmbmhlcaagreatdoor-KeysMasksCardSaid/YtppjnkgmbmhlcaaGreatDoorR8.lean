/-
  mailcoachref03.Extract, Label, by definition. Printed by gen/ref8.py.
-/
import Derived.Test.YtppjnkgmbmhlcaaGreatDoorR7
namespace Go.Proofs.YtppjnkgmbmhlcaaGreatDoor
set_option maxRecDepth 100000
open Go Go.RowKit Go.Lib
set_option linter.unusedSimpArgs false
set_option linter.unusedVariables false

set_option maxRecDepth 100000 in
set_option maxHeartbeats 2000000 in
theorem refExtract_any (vk vb : Value) (k b : List (BitVec 8)) (w : World) (hk : ByteAt w vk k) (hb : ByteAt w vb b) (hkl : k.length < 4611686018427387904) (hbl : b.length < 4611686018427387904) :
    Calls Tryz.prog 73 #[vk, vb] w fun e w' => Mod (fun _ => False) w w' ∧ e = .returned (macV k b) := by
  obtain ⟨w1, hw1⟩ : ∃ w1, w1 = w.alloc (.cells (encB (zb 32)) 62) := ⟨_, rfl⟩
  have m1 : Mod (fun _ => False) w w1 := by rw [hw1]; exact (Mod.refl _ _).alloc _
  have x1 : w1.heap[w.heap.size]? = some (.cells (encB (zb 32)) 62 (0,0)) := by rw [hw1]; exact hp_new _ _ _ rfl
  have hk1 := hk.mod m1 (fun _ _ h => h)
  have hb1 := hb.mod m1 (fun _ _ h => h)
  obtain ⟨ak, ck, hvk, _⟩ := hk.slice
  obtain ⟨ab, cb, hvb, _⟩ := hb.slice
  replace hw1 := Lib.hid hw1
  replace hk1 := Lib.hid hk1
  replace hb1 := Lib.hid hb1
  replace m1 := Lib.hid m1
  replace x1 := Lib.hid x1
  replace hvk := Lib.hid hvk
  replace hvb := Lib.hid hvb
  clear hk hb
  go_enter Tryz.func73, Tryz.ntmps73
  go_upto_region 0 with (fail)
  refine wp_region_lit ?_
  refine wpList_yields (by kernel_rfl) _ _ (alloc_arr 62 _ zero32 _ _ _ rfl) ?_
  simp only [Act.put, List.setIfInBounds_toArray, List.set_cons_zero, List.set_cons_succ]
  rw [← hw1.out]
  refine wpList_reads (by kernel_rfl) (.int .i64 0) (by go_simp) ?_
  simp only [Act.put, List.setIfInBounds_toArray, List.set_cons_zero, List.set_cons_succ]
  go_upto_region 1 with (fail)
  refine wp_region_lit ?_
  refine wpList_reads (by kernel_rfl) (vk) (by go_simp) ?_
  simp only [Act.put, List.setIfInBounds_toArray, List.set_cons_zero, List.set_cons_succ]
  refine wpList_reads (by kernel_rfl) (vb) (by go_simp) ?_
  simp only [Act.put, List.setIfInBounds_toArray, List.set_cons_zero, List.set_cons_succ]
  refine wpList_enter (by kernel_rfl) 114 #[vk, vb] (by go_simp) (refMac_any _ _ k b w1 hk1.out hb1.out hkl hbl) ?_
  rintro e w2 ⟨m2, rfl⟩
  unfold macV
  obtain ⟨RR, hR⟩ : ∃ RR, RR = macB k b := ⟨_, rfl⟩
  obtain ⟨E, hE⟩ : ∃ E, E = macE k b := ⟨_, rfl⟩
  have hRl : RR.length = 32 := by rw [hR]; exact macB_length _ _
  rw [← hR, ← hE]
  obtain ⟨wz, sz, mz, xz⟩ := bytes_store (m2.heap x1.out (fun h => h)) (s' := RR) (by decide) hRl
  have hfin : Mod (fun _ => False) w wz := (m1.out.trans m2).trans' mz (fun i hi h => by omega)
  replace hR := Lib.hid hR
  replace hE := Lib.hid hE
  replace hfin := Lib.hid hfin
  clear m2 mz
  refine ⟨_, rfl, ?_⟩
  simp only [Act.put, List.setIfInBounds_toArray, List.set_cons_zero, List.set_cons_succ]
  refine wpList_reads (by kernel_rfl) (.agg (encB RR)) (by go_simp) ?_
  simp only [Act.put, List.setIfInBounds_toArray, List.set_cons_zero, List.set_cons_succ]
  refine wpList_reads (by kernel_rfl) (.int .i64 (E : Int)) (by go_simp) ?_
  simp only [Act.put, List.setIfInBounds_toArray, List.set_cons_zero, List.set_cons_succ]
  refine wpList_store_to rfl _ _ _ rfl _ _ _ rfl rfl _ sz ?_
  simp only [Act.put, List.setIfInBounds_toArray, List.set_cons_zero, List.set_cons_succ]
  refine wpList_reads (by kernel_rfl) (.int .i64 (E : Int)) (by go_simp) ?_
  simp only [Act.put, List.setIfInBounds_toArray, List.set_cons_zero, List.set_cons_succ]
  go_wp2
  exact bodyPost_ret (v := .tuple #[.agg (encB RR), .int .i64 (E : Int)]) (results_sum2 rfl _ _ _ _ _ rfl rfl xz hRl) rfl ⟨hfin.out, by unfold macV; rw [hR.out, hE.out]⟩
set_option maxRecDepth 100000 in
set_option maxHeartbeats 4000000 in
theorem reflabel_any (vk vc : Value) (s : ByteArray) (k c : List (BitVec 8)) (n : Int) (w : World) (hk : ByteAt w vk k) (hc : ByteAt w vc c) (hkl : k.length ≤ 1048576) (hcl : c.length < 4611686018427387904) (hsl : s.size < 4611686018427387904) (hn1 : -9223372036854775808 ≤ n) (hn2 : n ≤ 9223372036854775807) :
    Calls Tryz.prog 69 #[vk, .string s, vc, .int .i64 n] w (LabEnd k s c n w) := by
  obtain ⟨ak, ck, rfl, _⟩ := hk.slice
  obtain ⟨ac, cc, rfl, _⟩ := hc.slice
  obtain ⟨m, hm⟩ : ∃ m, m = k.length := ⟨_, rfl⟩
  obtain ⟨p, hp⟩ : ∃ p, p = c.length := ⟨_, rfl⟩
  obtain ⟨z, hz⟩ : ∃ z, z = s.size := ⟨_, rfl⟩
  rw [← hm] at hk hkl ⊢
  rw [← hp] at hc hcl ⊢
  rw [← hz] at hsl
  have bm0 : (0 : Int) ≤ (m : Int) := by omega
  have bp0 : (0 : Int) ≤ (p : Int) := by omega
  have bz0 : (0 : Int) ≤ (z : Int) := by omega
  have ezs : ((s.size : Nat) : Int) = (z : Int) := by rw [hz]
  replace hm := Lib.hid hm
  replace hp := Lib.hid hp
  replace hz := Lib.hid hz
  replace hk := Lib.hid hk
  replace hc := Lib.hid hc
  go_enter Tryz.func69, Tryz.ntmps69
  by_cases hbad : 249 < z ∨ 255 < p ∨ n < 0 ∨ 8160 < n
  · have hfin : LabEnd k s c n w (.returned (.tuple #[.slice none 0 0, .int .i64 1])) w := ⟨Mod.refl _ _, by rw [if_pos (by rw [← hz.out, ← hp.out]; exact hbad)]⟩
    replace hfin := Lib.hid hfin
    by_cases h1 : 249 < z
    · have hd : decide ((249 : Int) < (z : Int)) = true := by rw [decide_eq_true_iff]; omega
      clear hbad h1
      go_wp2
      refine bodyPost_ret (results_tmp2 rfl _ _ _) rfl ?_
      exact hfin.out
    · have hd : decide ((249 : Int) < (z : Int)) = false := by rw [decide_eq_false_iff_not]; omega
      by_cases h2 : 255 < p
      · have hd2 : decide ((255 : Int) < (p : Int)) = true := by rw [decide_eq_true_iff]; omega
        clear hbad h1 h2
        go_wp2
        refine bodyPost_ret (results_tmp2 rfl _ _ _) rfl ?_
        exact hfin.out
      · have hd2 : decide ((255 : Int) < (p : Int)) = false := by rw [decide_eq_false_iff_not]; omega
        by_cases h3 : n < 0
        · have hd3 : decide (n < 0) = true := by rw [decide_eq_true_iff]; exact h3
          clear hbad h1 h2
          go_wp2
          refine bodyPost_ret (results_tmp2 rfl _ _ _) rfl ?_
          exact hfin.out
        · have hd3 : decide (n < 0) = false := by rw [decide_eq_false_iff_not]; exact h3
          have hd4 : decide (8160 < n) = true := by rw [decide_eq_true_iff]; omega
          clear hbad h1 h2
          go_wp2
          refine bodyPost_ret (results_tmp2 rfl _ _ _) rfl ?_
          exact hfin.out
  · obtain ⟨N, rfl⟩ : ∃ N : Nat, n = (N : Int) := ⟨n.toNat, by omega⟩
    have hd : decide ((249 : Int) < (z : Int)) = false := by rw [decide_eq_false_iff_not]; omega
    have hd2 : decide ((255 : Int) < (p : Int)) = false := by rw [decide_eq_false_iff_not]; omega
    have hd3 : decide ((N : Int) < 0) = false := by rw [decide_eq_false_iff_not]; omega
    have hd4 : decide ((8160 : Int) < (N : Int)) = false := by rw [decide_eq_false_iff_not]; omega
    have hN : N ≤ 8160 := by omega
    have hzl : z ≤ 249 := by omega
    have hpl : p ≤ 255 := by omega
    have bN : (N : Int) ≤ 8160 := by omega
    have bN0 : (0 : Int) ≤ (N : Int) := by omega
    have hnb := hbad
    replace hnb := Lib.hid hnb
    clear hbad hn1 hn2
    obtain ⟨q, hq⟩ : ∃ q, q = tlsS ++ s := ⟨_, rfl⟩
    have hqs : q.size = z + 6 := by rw [hq, ByteArray.size_append, tlsS_size, hz.out]; omega
    have bz : (z : Int) ≤ 249 := by omega
    have bp : (p : Int) ≤ 255 := by omega
    have hsh : (N : Int) >>> 8 = ((N / 256 : Nat) : Int) := by rw [Int.shiftRight_eq_div_pow]; omega
    have hu1 : IntKind.u8.wrap ((N : Int) / 256) = (N : Int) / 256 := by rw [IntKind.wrap_u8]; omega
    have hu2 : IntKind.u8.wrap (N : Int) = ((N % 256 : Nat) : Int) := by rw [IntKind.wrap_u8]; omega
    have hw6 : IntKind.i64.wrap (6 + (z : Int)) = 6 + (z : Int) := by rw [IntKind.wrap_i64]; omega
    have hu3 : IntKind.u8.wrap (6 + (z : Int)) = 6 + (z : Int) := by rw [IntKind.wrap_u8]; omega
    have hu4 : IntKind.u8.wrap (p : Int) = (p : Int) := by rw [IntKind.wrap_u8]; omega
    obtain ⟨A1, hA1⟩ : ∃ A, A = [BitVec.ofNat 8 (N / 256), BitVec.ofNat 8 N, BitVec.ofNat 8 (z + 6)] := ⟨_, rfl⟩
    have hA1l : A1.length = 3 := by rw [hA1]; rfl
    have hI0 : labelI s c N = ((A1 ++ strB q) ++ [BitVec.ofNat 8 p]) ++ c := by
      unfold labelI
      rw [hA1, hq, ← hz.out, ← hp.out]
      simp only [List.append_assoc]
    obtain ⟨I, hI⟩ : ∃ I, I = labelI s c N := ⟨_, rfl⟩
    have hend : ∀ v w', Mod (fun _ => False) w w' → w'.ownsRow w.heap.size 5 1 v N (bytesV (expandB (keyS k) I N)) → LabEnd k s c (N : Int) w (.returned (.tuple #[v, .int .i64 0])) w' := by
      intro v w' h1 h2
      refine ⟨h1, ?_⟩
      rw [if_neg (by rw [← hz.out, ← hp.out]; exact hnb.out)]
      refine ⟨v, rfl, ?_⟩
      rw [hI] at h2
      exact h2
    rw [← hI] at hI0
    obtain ⟨w1, hw1⟩ : ∃ x, x = w.alloc (.cells #[.int .u8 ((N / 256 : Nat) : Int), .int .u8 ((N % 256 : Nat) : Int), .int .u8 (6 + (z : Int))] 5) := ⟨_, rfl⟩
    obtain ⟨g1, hg1⟩ : ∃ g, g = w.heap.size := ⟨_, rfl⟩
    have m1 : Mod (fun _ => False) w w1 := by rw [hw1]; exact (Mod.refl _ _).alloc _
    have own1 : w1.ownsRow w.heap.size 5 1 (.slice (some ⟨g1, 0, none⟩) 3 3) 3 (bytesV A1) := by
      have e3 := encB_three (N / 256) (N % 256) (z + 6) (by omega) (by omega) (by omega)
      rw [← ofNat8_mod N, ← hA1] at e3
      rw [hw1, hg1, show 6 + (z : Int) = ((z + 6 : Nat) : Int) by omega, ← e3]
      exact World.ownsRow_lit w (bytesV A1).toArray 3 (Nat.le_refl _) (by decide) (by simp [bytesV, hA1l])
    replace hw1 := Lib.hid hw1
    replace hg1 := Lib.hid hg1
    replace hq := Lib.hid hq
    replace hqs := Lib.hid hqs
    replace hA1 := Lib.hid hA1
    replace hI := Lib.hid hI
    replace hI0 := Lib.hid hI0
    replace hend := Lib.hid hend
    replace hN := Lib.hid hN
    replace hzl := Lib.hid hzl
    replace hpl := Lib.hid hpl
    go_upto_region 3 with (fail)
    refine wp_region_lit ?_
    refine wpList_reads (by kernel_rfl) (.int .i64 (N : Int)) (by go_simp) ?_
    simp only [Act.put, List.setIfInBounds_toArray, List.set_cons_zero, List.set_cons_succ]
    refine wpList_reads (by kernel_rfl) (.int .i64 ((N / 256 : Nat) : Int)) (by go_simp) ?_
    simp only [Act.put, List.setIfInBounds_toArray, List.set_cons_zero, List.set_cons_succ]
    refine wpList_reads (by kernel_rfl) (.int .u8 ((N / 256 : Nat) : Int)) (by go_simp) ?_
    simp only [Act.put, List.setIfInBounds_toArray, List.set_cons_zero, List.set_cons_succ]
    refine wpList_reads (by kernel_rfl) (.int .i64 (N : Int)) (by go_simp) ?_
    simp only [Act.put, List.setIfInBounds_toArray, List.set_cons_zero, List.set_cons_succ]
    refine wpList_reads (by kernel_rfl) (.int .u8 ((N % 256 : Nat) : Int)) (by go_simp) ?_
    simp only [Act.put, List.setIfInBounds_toArray, List.set_cons_zero, List.set_cons_succ]
    refine wpList_reads (by kernel_rfl) (.string s) (by go_simp) ?_
    simp only [Act.put, List.setIfInBounds_toArray, List.set_cons_zero, List.set_cons_succ]
    refine wpList_reads (by kernel_rfl) (.int .i64 (z : Int)) (by go_simp) ?_
    simp only [Act.put, List.setIfInBounds_toArray, List.set_cons_zero, List.set_cons_succ]
    refine wpList_reads (by kernel_rfl) (.int .i64 (6 + (z : Int))) (by go_simp) ?_
    simp only [Act.put, List.setIfInBounds_toArray, List.set_cons_zero, List.set_cons_succ]
    refine wpList_reads (by kernel_rfl) (.int .u8 (6 + (z : Int))) (by go_simp) ?_
    simp only [Act.put, List.setIfInBounds_toArray, List.set_cons_zero, List.set_cons_succ]
    refine wpList_yields (by kernel_rfl) (.slice (some ⟨g1, 0, none⟩) 3 3) w1 (by rw [hw1.out, hg1.out]; go_simp) ?_
    simp only [Act.put, List.setIfInBounds_toArray, List.set_cons_zero, List.set_cons_succ]
    refine wpList_reads (by kernel_rfl) (.slice (some ⟨g1, 0, none⟩) 3 3) (by go_simp) ?_
    simp only [Act.put, List.setIfInBounds_toArray, List.set_cons_zero, List.set_cons_succ]
    obtain ⟨c2, w2, hc2, m2, b2⟩ := conv_bytes w1 q
    rw [hqs.out] at hc2 b2
    obtain ⟨g2, hg2⟩ : ∃ g, g = w1.heap.size := ⟨_, rfl⟩
    rw [← hg2] at hc2 b2
    have own2 := ownsRow_kept own1 m2 (fun _ _ h => h)
    have m02 := m1.trans m2
    replace hg2 := Lib.hid hg2
    clear own1 m1 m2
    go_upto_region 4 with (fail)
    refine wp_region_lit ?_
    refine wpList_reads (by kernel_rfl) (.slice (some ⟨g1, 0, none⟩) 3 3) (by go_simp) ?_
    simp only [Act.put, List.setIfInBounds_toArray, List.set_cons_zero, List.set_cons_succ]
    refine wpList_reads (by kernel_rfl) (.string s) (by go_simp) ?_
    simp only [Act.put, List.setIfInBounds_toArray, List.set_cons_zero, List.set_cons_succ]
    refine wpList_reads (by kernel_rfl) (.string q) (by rw [hq.out]; exact run_strAdd_op rfl rfl rfl (by rw [tlsS_size, ← hz.out]; have := hzl.out; omega)) ?_
    simp only [Act.put, List.setIfInBounds_toArray, List.set_cons_zero, List.set_cons_succ]
    refine wpList_yields (by kernel_rfl) (.slice (some ⟨g2, 0, none⟩) (z + 6) c2) w2 (run_conv_op rfl rfl hc2) ?_
    simp only [Act.put, List.setIfInBounds_toArray, List.set_cons_zero, List.set_cons_succ]
    refine wpList_append_bytes rfl _ _ rfl w.heap.size (3) (.slice (some ⟨g1, 0, none⟩) 3 3) (.slice (some ⟨g2, 0, none⟩) (z + 6) c2) (A1) (strB q) rfl rfl own2 b2 (by rw [strB_length, hqs.out]; have := hzl.out; omega) m02.size ?_
    intro v3 w3 own3 grow3
    have m03 : Mod (fun _ => False) w w3 := m02.trans' ((Mod.refl _ _).grown (S := fun k => w.heap.size ≤ k) grow3 (fun k hk _ => (own2.lt k hk).1)) (fun k hk h => by omega)
    clear grow3 own2 m02
    simp only [Act.put, List.setIfInBounds_toArray, List.set_cons_zero, List.set_cons_succ]
    refine wpList_reads (by kernel_rfl) (v3) (by go_simp) ?_
    simp only [Act.put, List.setIfInBounds_toArray, List.set_cons_zero, List.set_cons_succ]
    rw [strB_length, hqs.out] at own3
    obtain ⟨y3, hy3⟩ : ∃ y, y = 3 + (z + 6) := ⟨_, rfl⟩
    rw [← hy3] at own3
    replace hy3 := Lib.hid hy3
    clear hc2 b2
    obtain ⟨wa, hwa⟩ : ∃ x, x = w3.alloc (.cells #[.int .u8 (p : Int)] 5) := ⟨_, rfl⟩
    obtain ⟨ga, hga⟩ : ∃ g, g = w3.heap.size := ⟨_, rfl⟩
    have ma : Mod (fun _ => False) w3 wa := by rw [hwa]; exact (Mod.refl _ _).alloc _
    have xa : wa.heap[ga]? = some (.cells (encB [BitVec.ofNat 8 p]) 5 (0,0)) := by
      rw [encB_uno _ (by have := hpl.out; omega), hwa]
      exact hp_new _ _ _ hga
    have ba := ByteAt.row xa
    have owna := ownsRow_kept own3 ma (fun _ _ h => h)
    have m0a := m03.trans ma
    replace hwa := Lib.hid hwa
    replace hga := Lib.hid hga
    clear own3 ma xa m03
    go_upto_region 5 with (fail)
    refine wp_region_lit ?_
    refine wpList_reads (by kernel_rfl) (v3) (by go_simp) ?_
    simp only [Act.put, List.setIfInBounds_toArray, List.set_cons_zero, List.set_cons_succ]
    refine wpList_reads (by kernel_rfl) (.slice ac p cc) (by go_simp) ?_
    simp only [Act.put, List.setIfInBounds_toArray, List.set_cons_zero, List.set_cons_succ]
    refine wpList_reads (by kernel_rfl) (.int .i64 (p : Int)) (by go_simp) ?_
    simp only [Act.put, List.setIfInBounds_toArray, List.set_cons_zero, List.set_cons_succ]
    refine wpList_reads (by kernel_rfl) (.int .u8 (p : Int)) (by go_simp) ?_
    simp only [Act.put, List.setIfInBounds_toArray, List.set_cons_zero, List.set_cons_succ]
    refine wpList_yields (by kernel_rfl) (.slice (some ⟨ga, 0, none⟩) 1 1) wa (by rw [hwa.out, hga.out]; go_simp) ?_
    simp only [Act.put, List.setIfInBounds_toArray, List.set_cons_zero, List.set_cons_succ]
    refine wpList_append_bytes rfl _ _ rfl w.heap.size (y3) (v3) (.slice (some ⟨ga, 0, none⟩) 1 1) (A1 ++ strB q) ([BitVec.ofNat 8 p]) rfl rfl owna ba (by have := hy3.out; have := hzl.out; simp; omega) m0a.size ?_
    intro v4 w4 own4 grow4
    have m04 : Mod (fun _ => False) w w4 := m0a.trans' ((Mod.refl _ _).grown (S := fun k => w.heap.size ≤ k) grow4 (fun k hk _ => (owna.lt k hk).1)) (fun k hk h => by omega)
    clear grow4 owna m0a
    simp only [Act.put, List.setIfInBounds_toArray, List.set_cons_zero, List.set_cons_succ]
    refine wpList_reads (by kernel_rfl) (v4) (by go_simp) ?_
    simp only [Act.put, List.setIfInBounds_toArray, List.set_cons_zero, List.set_cons_succ]
    rw [show y3 + ([BitVec.ofNat 8 p] : List (BitVec 8)).length = y3 + 1 from rfl] at own4
    have hc4 := hc.out.mod m04 (fun _ _ h => h)
    clear ba
    go_upto_region 6 with (fail)
    refine wp_region_lit ?_
    refine wpList_reads (by kernel_rfl) (v4) (by go_simp) ?_
    simp only [Act.put, List.setIfInBounds_toArray, List.set_cons_zero, List.set_cons_succ]
    refine wpList_reads (by kernel_rfl) (.slice ac p cc) (by go_simp) ?_
    simp only [Act.put, List.setIfInBounds_toArray, List.set_cons_zero, List.set_cons_succ]
    refine wpList_append_bytes rfl _ _ rfl w.heap.size (y3 + 1) (v4) (.slice ac p cc) (A1 ++ strB q ++ [BitVec.ofNat 8 p]) (c) rfl rfl own4 hc4 (by have := hy3.out; have := hzl.out; have := hpl.out; rw [← hp.out]; omega) m04.size ?_
    intro v5 w5 own5 grow5
    have m05 : Mod (fun _ => False) w w5 := m04.trans' ((Mod.refl _ _).grown (S := fun k => w.heap.size ≤ k) grow5 (fun k hk _ => (own4.lt k hk).1)) (fun k hk h => by omega)
    clear grow5 own4 m04
    simp only [Act.put, List.setIfInBounds_toArray, List.set_cons_zero, List.set_cons_succ]
    refine wpList_reads (by kernel_rfl) (v5) (by go_simp) ?_
    simp only [Act.put, List.setIfInBounds_toArray, List.set_cons_zero, List.set_cons_succ]
    have b5 := byteAt_of_own own5
    rw [← hI0.out] at b5
    have hIl : I.length ≤ 1048479 := by
      rw [hI0.out, List.length_append, List.length_append, List.length_append, hA1l, strB_length, hqs.out, ← hp.out]
      have := hzl.out; have := hpl.out
      simp
      omega
    have hk5 := hk.out.mod m05 (fun _ _ h => h)
    replace hIl := Lib.hid hIl
    replace b5 := Lib.hid b5
    replace hk5 := Lib.hid hk5
    clear own5 hc4
    go_upto_region 7 with (fail)
    refine wp_region_lit ?_
    refine wpList_reads (by kernel_rfl) (.slice ak m ck) (by go_simp) ?_
    simp only [Act.put, List.setIfInBounds_toArray, List.set_cons_zero, List.set_cons_succ]
    refine wpList_reads (by kernel_rfl) (v5) (by go_simp) ?_
    simp only [Act.put, List.setIfInBounds_toArray, List.set_cons_zero, List.set_cons_succ]
    refine wpList_reads (by kernel_rfl) (.int .i64 (N : Int)) (by go_simp) ?_
    simp only [Act.put, List.setIfInBounds_toArray, List.set_cons_zero, List.set_cons_succ]
    refine wpList_enter (by kernel_rfl) 105 #[.slice ak m ck, v5, .int .i64 (N : Int)] (by go_simp) (refexpand_any _ _ k I (N : Int) w5 hk5.out b5.out (by rw [← hm.out]; omega) (by have := hIl.out; omega) (by omega) (by omega)) ?_
    rintro e w6 ⟨m6, h6⟩
    rw [if_neg (by have := hN.out; omega), if_neg (by rw [← hm.out]; have := hIl.out; omega), show (N : Int).toNat = N from by omega] at h6
    obtain ⟨v6, rfl, own6⟩ := h6
    have hfin := hend.out v6 w6 (m05.trans m6) (ownsRow_base own6 m05.size)
    replace hfin := Lib.hid hfin
    clear m6 own6 m05
    refine ⟨_, rfl, ?_⟩
    simp only [Act.put, List.setIfInBounds_toArray, List.set_cons_zero, List.set_cons_succ]
    refine wpList_reads (by kernel_rfl) (v6) (by go_simp) ?_
    simp only [Act.put, List.setIfInBounds_toArray, List.set_cons_zero, List.set_cons_succ]
    refine wpList_reads (by kernel_rfl) (.int .i64 0) (by go_simp) ?_
    simp only [Act.put, List.setIfInBounds_toArray, List.set_cons_zero, List.set_cons_succ]
    refine wpList_reads (by kernel_rfl) (v6) (by go_simp) ?_
    simp only [Act.put, List.setIfInBounds_toArray, List.set_cons_zero, List.set_cons_succ]
    refine wpList_reads (by kernel_rfl) (.int .i64 0) (by go_simp) ?_
    simp only [Act.put, List.setIfInBounds_toArray, List.set_cons_zero, List.set_cons_succ]
    go_wp2
    refine bodyPost_ret (results_tmp2 rfl _ _ _) rfl ?_
    exact hfin.out
end Go.Proofs.YtppjnkgmbmhlcaaGreatDoor
