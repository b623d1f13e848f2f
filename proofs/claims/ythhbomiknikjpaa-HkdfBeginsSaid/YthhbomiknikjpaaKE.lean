/-
  mailcoachlaw03.HkdfBegins. Printed by gen/hkE.py.
-/
import Derived.Test.YthhbomiknikjpaaKD
namespace Go.Proofs.Ythhbomiknikjpaa
open Go Go.RowKit Go.Lib
set_option linter.unusedSimpArgs false
set_option linter.unusedVariables false

theorem outT_take (K info : List (BitVec 8)) (i M : Nat) (h : i ≤ M) : (outT K info M).take (32 * i) = outT K info i := by
  induction M with
  | zero =>
    obtain rfl : i = 0 := by omega
    simp [outT]
  | succ M ih =>
    by_cases e : i = M + 1
    · subst e
      exact List.take_of_length_le (by rw [outT_length]; omega)
    · rw [outT_succ, List.take_append_of_le_length (by rw [outT_length]; omega)]
      exact ih (by omega)
theorem expandB_take (K info : List (BitVec 8)) (i n : Nat) (h : i ≤ n) : (expandB K info n).take i = expandB K info i := by
  unfold expandB
  rw [List.take_take, Nat.min_eq_left h, ← outT_take K info ((i + 31) / 32) ((n + 31) / 32) (by omega), List.take_take, Nat.min_eq_left (by omega)]
theorem expandB_part (K info : List (BitVec 8)) (j n : Nat) (h : 32 * (j + 1) ≤ n) : ((expandB K info n).drop (32 * j)).take (32 * (j + 1) - 32 * j) = expT K info (j + 1) := by
  rw [← List.drop_take, expandB_take _ _ _ _ h]
  unfold expandB
  rw [show (32 * (j + 1) + 31) / 32 = j + 1 by omega, List.take_of_length_le (by rw [outT_length]; omega), outT_succ, List.drop_left' (outT_length _ _ _)]

set_option maxRecDepth 100000 in
set_option maxHeartbeats 4000000 in
theorem begins_any (vk vb : Value) (k b : List (BitVec 8)) (z : Nat) (w : World) (hk : ByteAt w vk k) (hb : ByteAt w vb b) (hkl : k.length < 4611686018427387904) (hbl : b.length < 4611686018427387904) (hz : z < 65536) :
    Calls Try.prog 6 #[vk, vb, .int .u16 (z : Int)] w fun e w' => Mod (fun _ => False) w w' ∧ e = .returned (.bool true) := by
  obtain ⟨ak, ck, rfl, _⟩ := hk.slice
  obtain ⟨ab, cb, rfl, _⟩ := hb.slice
  obtain ⟨m, hm⟩ : ∃ m, m = k.length := ⟨_, rfl⟩
  obtain ⟨n, hn⟩ : ∃ n, n = b.length := ⟨_, rfl⟩
  rw [← hm] at hk hkl ⊢
  rw [← hn] at hb hbl ⊢
  have bm0 : (0 : Int) ≤ (m : Int) := by omega
  have bn0 : (0 : Int) ≤ (n : Int) := by omega
  have bz : (z : Int) < 65536 := by omega
  have bz0 : (0 : Int) ≤ (z : Int) := by omega
  obtain ⟨N, hN⟩ : ∃ N, N = z % 8161 := ⟨_, rfl⟩
  have hNl : N ≤ 8160 := by omega
  have hNi : (z : Int) % 8161 = (N : Int) := by omega
  have hNt : Int.tmod (z : Int) 8161 = (N : Int) := by rw [Int.tmod_eq_emod_of_nonneg (by omega)]; exact hNi
  obtain ⟨N2, hN2⟩ : ∃ N2, N2 = N / 2 := ⟨_, rfl⟩
  have hN2i : (N : Int) / 2 = (N2 : Int) := by omega
  have hN2t : Int.tdiv (N : Int) 2 = (N2 : Int) := by rw [Int.tdiv_eq_ediv_of_nonneg (by omega)]; exact hN2i
  have bN : (N : Int) ≤ 8160 := by omega
  have bN0 : (0 : Int) ≤ (N : Int) := by omega
  have bN2 : (N2 : Int) ≤ 8160 := by omega
  have bN20 : (0 : Int) ≤ (N2 : Int) := by omega
  have hwN2 : IntKind.i64.wrap (N2 : Int) = (N2 : Int) := by rw [IntKind.wrap_i64]; omega
  have hwN : IntKind.i64.wrap (N : Int) = (N : Int) := by rw [IntKind.wrap_i64]; omega
  replace hm := Lib.hid hm
  replace hn := Lib.hid hn
  replace hz := Lib.hid hz
  replace hN := Lib.hid hN
  replace hN2 := Lib.hid hN2
  replace hNl := Lib.hid hNl
  go_enter Try.func6, Try.ntmps6
  go_upto_region 1 with (fail)
  refine wp_region_lit ?_
  refine wpList_enter (by kernel_rfl) 14 #[] (by go_simp) (alive_any w) ?_
  rintro e w1 ⟨m1, rfl⟩
  have hk1 := hk.mod m1 (fun _ _ h => h)
  have hb1 := hb.mod m1 (fun _ _ h => h)
  replace hk1 := Lib.hid hk1
  replace hb1 := Lib.hid hb1
  clear hk hb
  replace m1 := Lib.hid m1
  refine ⟨_, rfl, ?_⟩
  simp only [Act.put, List.setIfInBounds_toArray, List.set_cons_zero, List.set_cons_succ]
  by_cases hqm : 2000 < m
  · have hdm : decide ((2000 : Int) < (m : Int)) = true := by rw [decide_eq_true_iff]; omega
    go_upto_region 2 with (fail)
    refine wp_region_lit ?_
    refine wpList_enter (by kernel_rfl) 14 #[] (by go_simp) (alive_any w1) ?_
    rintro e w2 ⟨m2, rfl⟩
    have mf := m1.out.trans m2
    replace mf := Lib.hid mf
    clear m2
    refine ⟨_, rfl, ?_⟩
    simp only [Act.put, List.setIfInBounds_toArray, List.set_cons_zero, List.set_cons_succ]
    refine wpList_reads (by kernel_rfl) (.bool true) (by go_simp) ?_
    simp only [Act.put, List.setIfInBounds_toArray, List.set_cons_zero, List.set_cons_succ]
    go_wp2
    go_ret
    exact ⟨mf.out, rfl⟩
  · have hdm : decide ((2000 : Int) < (m : Int)) = false := by rw [decide_eq_false_iff_not]; omega
    by_cases hqn : 2000 < n
    · have hdn : decide ((2000 : Int) < (n : Int)) = true := by rw [decide_eq_true_iff]; omega
      go_upto_region 2 with (fail)
      refine wp_region_lit ?_
      refine wpList_enter (by kernel_rfl) 14 #[] (by go_simp) (alive_any w1) ?_
      rintro e w2 ⟨m2, rfl⟩
      have mf := m1.out.trans m2
      replace mf := Lib.hid mf
      clear m2
      refine ⟨_, rfl, ?_⟩
      simp only [Act.put, List.setIfInBounds_toArray, List.set_cons_zero, List.set_cons_succ]
      refine wpList_reads (by kernel_rfl) (.bool true) (by go_simp) ?_
      simp only [Act.put, List.setIfInBounds_toArray, List.set_cons_zero, List.set_cons_succ]
      go_wp2
      go_ret
      exact ⟨mf.out, rfl⟩
    · have hdn : decide ((2000 : Int) < (n : Int)) = false := by rw [decide_eq_false_iff_not]; omega
      go_upto_region 4 with (fail)
      refine wp_region_lit ?_
      refine wpList_reads (by kernel_rfl) (.slice ak m ck) (by go_simp) ?_
      simp only [Act.put, List.setIfInBounds_toArray, List.set_cons_zero, List.set_cons_succ]
      refine wpList_reads (by kernel_rfl) (.slice ab n cb) (by go_simp) ?_
      simp only [Act.put, List.setIfInBounds_toArray, List.set_cons_zero, List.set_cons_succ]
      refine wpList_reads (by kernel_rfl) (.int .i64 (N : Int)) (by go_simp) ?_
      simp only [Act.put, List.setIfInBounds_toArray, List.set_cons_zero, List.set_cons_succ]
      refine wpList_enter (by kernel_rfl) 17 #[.slice ak m ck, .slice ab n cb, .int .i64 (N : Int)] (by go_simp) (expand_any _ _ k b (N : Int) w1 hk1.out hb1.out (by rw [← hm.out]; omega) (by rw [← hn.out]; omega) (by omega) (by omega)) ?_
      rintro e w2 ⟨m2, h2⟩
      rw [if_neg (by have := hNl.out; omega), if_neg (by rw [← hm.out, ← hn.out]; omega), show (N : Int).toNat = N from by omega] at h2
      obtain ⟨v2, rfl, own2⟩ := h2
      obtain ⟨K, hK⟩ : ∃ K, K = keyS k := ⟨_, rfl⟩
      rw [← hK] at own2
      have b2 := byteAt_of_own own2
      obtain ⟨ad2, cap2, hv2, _⟩ := b2.slice
      rw [expandB_length] at hv2
      subst hv2
      have hk2 := hk1.out.mod m2 (fun _ _ h => h)
      have hb2 := hb1.out.mod m2 (fun _ _ h => h)
      have m02 := m1.out.trans m2
      clear m2 own2
      refine ⟨_, rfl, ?_⟩
      simp only [Act.put, List.setIfInBounds_toArray, List.set_cons_zero, List.set_cons_succ]
      refine wpList_reads (by kernel_rfl) (.tuple #[.slice ad2 N cap2, .int .i64 0]) (by go_simp) ?_
      simp only [Act.put, List.setIfInBounds_toArray, List.set_cons_zero, List.set_cons_succ]
      refine wpList_reads (by kernel_rfl) (.slice ad2 N cap2) (by go_simp) ?_
      simp only [Act.put, List.setIfInBounds_toArray, List.set_cons_zero, List.set_cons_succ]
      refine wpList_reads (by kernel_rfl) (.int .i64 0) (by go_simp) ?_
      simp only [Act.put, List.setIfInBounds_toArray, List.set_cons_zero, List.set_cons_succ]
      refine wpList_reads (by kernel_rfl) (.slice ad2 N cap2) (by go_simp) ?_
      simp only [Act.put, List.setIfInBounds_toArray, List.set_cons_zero, List.set_cons_succ]
      refine wpList_reads (by kernel_rfl) (.int .i64 0) (by go_simp) ?_
      simp only [Act.put, List.setIfInBounds_toArray, List.set_cons_zero, List.set_cons_succ]
      replace hk2 := Lib.hid hk2
      replace hb2 := Lib.hid hb2
      replace m02 := Lib.hid m02
      replace b2 := Lib.hid b2
      go_upto_region 5 with (fail)
      refine wp_region_lit ?_
      refine wpList_reads (by kernel_rfl) (.slice ak m ck) (by go_simp) ?_
      simp only [Act.put, List.setIfInBounds_toArray, List.set_cons_zero, List.set_cons_succ]
      refine wpList_reads (by kernel_rfl) (.slice ab n cb) (by go_simp) ?_
      simp only [Act.put, List.setIfInBounds_toArray, List.set_cons_zero, List.set_cons_succ]
      refine wpList_reads (by kernel_rfl) (.int .i64 (N : Int)) (by go_simp) ?_
      simp only [Act.put, List.setIfInBounds_toArray, List.set_cons_zero, List.set_cons_succ]
      refine wpList_reads (by kernel_rfl) (.int .i64 (N2 : Int)) (by go_simp) ?_
      simp only [Act.put, List.setIfInBounds_toArray, List.set_cons_zero, List.set_cons_succ]
      refine wpList_enter (by kernel_rfl) 17 #[.slice ak m ck, .slice ab n cb, .int .i64 (N2 : Int)] (by go_simp) (expand_any _ _ k b (N2 : Int) w2 hk2.out hb2.out (by rw [← hm.out]; omega) (by rw [← hn.out]; omega) (by omega) (by omega)) ?_
      rintro e w3 ⟨m3, h3⟩
      rw [if_neg (by have := hNl.out; have := hN2.out; omega), if_neg (by rw [← hm.out, ← hn.out]; omega), show (N2 : Int).toNat = N2 from by omega] at h3
      obtain ⟨v3, rfl, own3⟩ := h3
      rw [← hK] at own3
      have b3 := byteAt_of_own own3
      obtain ⟨ad3, cap3, hv3, _⟩ := b3.slice
      rw [expandB_length] at hv3
      subst hv3
      have hk3 := hk2.out.mod m3 (fun _ _ h => h)
      have hb3 := hb2.out.mod m3 (fun _ _ h => h)
      have ball := b2.out.mod m3 (fun _ _ h => h)
      have m03 := m02.out.trans m3
      obtain ⟨vc, bc, hcut⟩ := ball.cutTo N2 (by have := hN2.out; omega)
      rw [expandB_take _ _ _ _ (by have := hN2.out; omega)] at bc
      clear m3 own3 hk2 hb2 b2 m02
      replace hk3 := Lib.hid hk3
      replace hb3 := Lib.hid hb3
      replace m03 := Lib.hid m03
      replace ball := Lib.hid ball
      replace b3 := Lib.hid b3
      replace bc := Lib.hid bc
      have hNN : ((N : Int) != (N : Int)) = false := by simp
      have hNN2 : ((N2 : Int) != (N2 : Int)) = false := by simp
      refine ⟨_, rfl, ?_⟩
      simp only [Act.put, List.setIfInBounds_toArray, List.set_cons_zero, List.set_cons_succ]
      refine wpList_reads (by kernel_rfl) (.tuple #[.slice ad3 N2 cap3, .int .i64 0]) (by go_simp) ?_
      simp only [Act.put, List.setIfInBounds_toArray, List.set_cons_zero, List.set_cons_succ]
      refine wpList_reads (by kernel_rfl) (.slice ad3 N2 cap3) (by go_simp) ?_
      simp only [Act.put, List.setIfInBounds_toArray, List.set_cons_zero, List.set_cons_succ]
      refine wpList_reads (by kernel_rfl) (.int .i64 0) (by go_simp) ?_
      simp only [Act.put, List.setIfInBounds_toArray, List.set_cons_zero, List.set_cons_succ]
      refine wpList_reads (by kernel_rfl) (.slice ad3 N2 cap3) (by go_simp) ?_
      simp only [Act.put, List.setIfInBounds_toArray, List.set_cons_zero, List.set_cons_succ]
      refine wpList_reads (by kernel_rfl) (.int .i64 0) (by go_simp) ?_
      simp only [Act.put, List.setIfInBounds_toArray, List.set_cons_zero, List.set_cons_succ]
      go_upto_region 6 with (fail)
      refine wp_region_lit ?_
      refine wpList_reads (by kernel_rfl) (.int .i64 0) (by go_simp) ?_
      simp only [Act.put, List.setIfInBounds_toArray, List.set_cons_zero, List.set_cons_succ]
      refine wpList_reads (by kernel_rfl) (.bool false) (by go_simp) ?_
      simp only [Act.put, List.setIfInBounds_toArray, List.set_cons_zero, List.set_cons_succ]
      refine wpList_reads (by kernel_rfl) (.bool false) (by go_simp) ?_
      simp only [Act.put, List.setIfInBounds_toArray, List.set_cons_zero, List.set_cons_succ]
      refine wpList_reads (by kernel_rfl) (.int .i64 0) (by go_simp) ?_
      simp only [Act.put, List.setIfInBounds_toArray, List.set_cons_zero, List.set_cons_succ]
      refine wpList_reads (by kernel_rfl) (.bool false) (by go_simp) ?_
      simp only [Act.put, List.setIfInBounds_toArray, List.set_cons_zero, List.set_cons_succ]
      refine wpList_reads (by kernel_rfl) (.bool false) (by go_simp) ?_
      simp only [Act.put, List.setIfInBounds_toArray, List.set_cons_zero, List.set_cons_succ]
      refine wpList_reads (by kernel_rfl) (.bool false) (by go_simp) ?_
      simp only [Act.put, List.setIfInBounds_toArray, List.set_cons_zero, List.set_cons_succ]
      refine wpList_reads (by kernel_rfl) (.slice ad2 N cap2) (by go_simp) ?_
      simp only [Act.put, List.setIfInBounds_toArray, List.set_cons_zero, List.set_cons_succ]
      refine wpList_reads (by kernel_rfl) (.int .i64 (N : Int)) (by go_simp) ?_
      simp only [Act.put, List.setIfInBounds_toArray, List.set_cons_zero, List.set_cons_succ]
      refine wpList_reads (by kernel_rfl) (.int .i64 (N : Int)) (by go_simp) ?_
      simp only [Act.put, List.setIfInBounds_toArray, List.set_cons_zero, List.set_cons_succ]
      refine wpList_reads (by kernel_rfl) (.bool false) (by go_simp) ?_
      simp only [Act.put, List.setIfInBounds_toArray, List.set_cons_zero, List.set_cons_succ]
      refine wpList_reads (by kernel_rfl) (.bool false) (by go_simp) ?_
      simp only [Act.put, List.setIfInBounds_toArray, List.set_cons_zero, List.set_cons_succ]
      refine wpList_reads (by kernel_rfl) (.bool false) (by go_simp) ?_
      simp only [Act.put, List.setIfInBounds_toArray, List.set_cons_zero, List.set_cons_succ]
      refine wpList_reads (by kernel_rfl) (.slice ad3 N2 cap3) (by go_simp) ?_
      simp only [Act.put, List.setIfInBounds_toArray, List.set_cons_zero, List.set_cons_succ]
      refine wpList_reads (by kernel_rfl) (.int .i64 (N2 : Int)) (by go_simp) ?_
      simp only [Act.put, List.setIfInBounds_toArray, List.set_cons_zero, List.set_cons_succ]
      refine wpList_reads (by kernel_rfl) (.int .i64 (N : Int)) (by go_simp) ?_
      simp only [Act.put, List.setIfInBounds_toArray, List.set_cons_zero, List.set_cons_succ]
      refine wpList_reads (by kernel_rfl) (.int .i64 (N2 : Int)) (by go_simp) ?_
      simp only [Act.put, List.setIfInBounds_toArray, List.set_cons_zero, List.set_cons_succ]
      refine wpList_reads (by kernel_rfl) (.bool false) (by go_simp) ?_
      simp only [Act.put, List.setIfInBounds_toArray, List.set_cons_zero, List.set_cons_succ]
      refine wpList_reads (by kernel_rfl) (.bool false) (by go_simp) ?_
      simp only [Act.put, List.setIfInBounds_toArray, List.set_cons_zero, List.set_cons_succ]
      refine wpList_reads (by kernel_rfl) (.bool false) (by go_simp) ?_
      simp only [Act.put, List.setIfInBounds_toArray, List.set_cons_zero, List.set_cons_succ]
      refine wpList_reads (by kernel_rfl) (.slice ad3 N2 cap3) (by go_simp) ?_
      simp only [Act.put, List.setIfInBounds_toArray, List.set_cons_zero, List.set_cons_succ]
      refine wpList_reads (by kernel_rfl) (.slice ad2 N cap2) (by go_simp) ?_
      simp only [Act.put, List.setIfInBounds_toArray, List.set_cons_zero, List.set_cons_succ]
      refine wpList_reads (by kernel_rfl) (.int .i64 (N : Int)) (by go_simp) ?_
      simp only [Act.put, List.setIfInBounds_toArray, List.set_cons_zero, List.set_cons_succ]
      refine wpList_reads (by kernel_rfl) (.int .i64 (N2 : Int)) (by go_simp) ?_
      simp only [Act.put, List.setIfInBounds_toArray, List.set_cons_zero, List.set_cons_succ]
      refine wpList_reads (by kernel_rfl) (vc) (by go_simp) ?_
      simp only [Act.put, List.setIfInBounds_toArray, List.set_cons_zero, List.set_cons_succ]
      refine wpList_enter (by kernel_rfl) 18 #[.slice ad3 N2 cap3, vc] (by go_simp) (same_any _ _ _ _ w3 b3.out bc.out (by rw [expandB_length]; omega) (by rw [expandB_length]; omega)) ?_
      rintro e w4 ⟨m4, rfl⟩
      rw [show decide (expandB K b N2 = expandB K b N2) = true by simp]
      have hk4 := hk3.out.mod m4 (fun _ _ h => h)
      have hb4 := hb3.out.mod m4 (fun _ _ h => h)
      have bal4 := ball.out.mod m4 (fun _ _ h => h)
      have m04 := m03.out.trans m4
      replace hk4 := Lib.hid hk4
      replace hb4 := Lib.hid hb4
      replace m04 := Lib.hid m04
      replace bal4 := Lib.hid bal4
      replace hK := Lib.hid hK
      clear m4 hk3 hb3 ball b3 bc m03 hcut hNN hNN2
      refine ⟨_, rfl, ?_⟩
      simp only [Act.put, List.setIfInBounds_toArray, List.set_cons_zero, List.set_cons_succ]
      refine wpList_reads (by kernel_rfl) (.bool false) (by go_simp) ?_
      simp only [Act.put, List.setIfInBounds_toArray, List.set_cons_zero, List.set_cons_succ]
      refine wpList_reads (by kernel_rfl) (.bool false) (by go_simp) ?_
      simp only [Act.put, List.setIfInBounds_toArray, List.set_cons_zero, List.set_cons_succ]
      go_wp2
      go_loopg [12, 13] 4 (fun gh av iv wr => ∃ j : Nat, j + gh = 4 ∧ iv = .int .i64 ((j : Int) + 1) ∧ Mod (fun _ => False) w4 wr ∧ wr.ownsRow w4.heap.size 5 1 av (expT K b j).length (bytesV (expT K b j)))
      case atStart => exact ⟨0, by omega, rfl, Mod.refl _ _, World.ownsRow_nil _ _ _ _⟩
      case round =>
        obtain ⟨j, hjg, rfl, mr, own⟩ := hrel
        obtain ⟨ad, cp, hv, _⟩ := (byteAt_of_own own).slice
        subst hv
        have hTl := expT_le K b j
        have bj : (j : Int) ≤ 4 := by omega
        have bj0 : (0 : Int) ≤ (j : Int) := by omega
        by_cases hgo : j < 4 ∧ 32 * (j + 1) ≤ N
        · have hj4 : j < 4 := hgo.1
          have hjN : 32 * (j + 1) ≤ N := hgo.2
          have hd4 : decide ((j : Int) + 1 ≤ 4) = true := by rw [decide_eq_true_iff]; omega
          have hdN : decide (32 * ((j : Int) + 1) ≤ (N : Int)) = true := by rw [decide_eq_true_iff]; omega
          have hpart := expandB_part K b j N hjN
          have hstep : expT K b (j + 1) = macS K (expT K b j ++ (b ++ [BitVec.ofNat 8 (j + 1)])) := rfl
          obtain ⟨Tj, hTj⟩ : ∃ t, t = expT K b j := ⟨_, rfl⟩
          rw [← hTj] at own hTl hstep ⊢
          obtain ⟨L, hL⟩ : ∃ L, L = Tj.length := ⟨_, rfl⟩
          rw [← hL] at own hTl ⊢
          have bL : (L : Int) ≤ 32 := by omega
          have bL0 : (0 : Int) ≤ (L : Int) := by omega
          have hbr := hb4.out.mod mr (fun _ _ h => h)
          replace hjg := Lib.hid hjg
          replace hj4 := Lib.hid hj4
          replace hjN := Lib.hid hjN
          replace hpart := Lib.hid hpart
          replace hstep := Lib.hid hstep
          replace hTj := Lib.hid hTj
          replace hL := Lib.hid hL
          clear hgo
          go_upto_region 12 with (fail)
          refine wp_region_lit ?_
          refine wpList_reads (by kernel_rfl) (.slice ad L cp) (by go_simp) ?_
          simp only [Act.put, List.setIfInBounds_toArray, List.set_cons_zero, List.set_cons_succ]
          refine wpList_reads (by kernel_rfl) (.slice ab n cb) (by go_simp) ?_
          simp only [Act.put, List.setIfInBounds_toArray, List.set_cons_zero, List.set_cons_succ]
          refine wpList_append_bytes rfl _ _ rfl w4.heap.size L (.slice ad L cp) (.slice ab n cb) Tj b rfl rfl own hbr (by rw [← hn.out]; omega) mr.size ?_
          intro v5 w5 own5 grow5
          have m45 : Mod (fun _ => False) w4 w5 := mr.trans' ((Mod.refl _ _).grown (S := fun k => w4.heap.size ≤ k) grow5 (fun k hk _ => (own.lt k hk).1)) (fun k hk h => by omega)
          rw [← hn.out] at own5
          obtain ⟨wa, hwa⟩ : ∃ x, x = w5.alloc (.cells #[.int .u8 ((j : Int) + 1)] 5) := ⟨_, rfl⟩
          obtain ⟨ga, hga⟩ : ∃ g, g = w5.heap.size := ⟨_, rfl⟩
          have ma : Mod (fun _ => False) w5 wa := by rw [hwa]; exact (Mod.refl _ _).alloc _
          have xa : wa.heap[ga]? = some (.cells (encB [BitVec.ofNat 8 (j + 1)]) 5 (0,0)) := by
            rw [encB_uno _ (by omega), hwa, show ((j + 1 : Nat) : Int) = (j : Int) + 1 from by omega]
            exact hp_new _ _ _ hga
          have ba := ByteAt.row xa
          have owna := ownsRow_kept own5 ma (fun _ _ h => h)
          have m4a := m45.trans ma
          have hu8 : IntKind.u8.wrap ((j : Int) + 1) = (j : Int) + 1 := by rw [IntKind.wrap_u8]; omega
          replace hwa := Lib.hid hwa
          replace hga := Lib.hid hga
          clear own grow5 ma xa own5 m45 mr hbr
          simp only [Act.put, List.setIfInBounds_toArray, List.set_cons_zero, List.set_cons_succ]
          refine wpList_reads (by kernel_rfl) (.int .i64 ((j : Int) + 1)) (by go_simp) ?_
          simp only [Act.put, List.setIfInBounds_toArray, List.set_cons_zero, List.set_cons_succ]
          refine wpList_reads (by kernel_rfl) (.int .u8 ((j : Int) + 1)) (by go_simp) ?_
          simp only [Act.put, List.setIfInBounds_toArray, List.set_cons_zero, List.set_cons_succ]
          refine wpList_yields (by kernel_rfl) (.slice (some ⟨ga, 0, none⟩) 1 1) wa (by rw [hwa.out, hga.out]; go_simp) ?_
          simp only [Act.put, List.setIfInBounds_toArray, List.set_cons_zero, List.set_cons_succ]
          refine wpList_append_bytes rfl _ _ rfl w4.heap.size (L + n) v5 (.slice (some ⟨ga, 0, none⟩) 1 1) (Tj ++ b) [BitVec.ofNat 8 (j + 1)] rfl rfl owna ba (by simp; omega) m4a.size ?_
          intro v6 w6 own6 grow6
          have m46 : Mod (fun _ => False) w4 w6 := m4a.trans' ((Mod.refl _ _).grown (S := fun k => w4.heap.size ≤ k) grow6 (fun k hk _ => (owna.lt k hk).1)) (fun k hk h => by omega)
          have b6 := byteAt_of_own own6
          rw [List.append_assoc] at b6
          have hYl : (Tj ++ (b ++ [BitVec.ofNat 8 (j + 1)])).length = L + n + 1 := by rw [List.length_append, List.length_append, ← hL.out, ← hn.out]; simp; omega
          have hk6 := hk4.out.mod m46 (fun _ _ h => h)
          clear own6 grow6 owna ba m4a
          simp only [Act.put, List.setIfInBounds_toArray, List.set_cons_zero, List.set_cons_succ]
          refine wpList_reads (by kernel_rfl) (v6) (by go_simp) ?_
          simp only [Act.put, List.setIfInBounds_toArray, List.set_cons_zero, List.set_cons_succ]
          replace b6 := Lib.hid b6
          replace hk6 := Lib.hid hk6
          replace m46 := Lib.hid m46
          replace hYl := Lib.hid hYl
          go_upto_region 13 with (fail)
          refine wp_region_lit ?_
          refine wpList_reads (by kernel_rfl) (.slice ak m ck) (by go_simp) ?_
          simp only [Act.put, List.setIfInBounds_toArray, List.set_cons_zero, List.set_cons_succ]
          refine wpList_reads (by kernel_rfl) (v6) (by go_simp) ?_
          simp only [Act.put, List.setIfInBounds_toArray, List.set_cons_zero, List.set_cons_succ]
          refine wpList_enter (by kernel_rfl) 10 #[.slice ak m ck, v6] (by go_simp) (Mac_any _ _ k (Tj ++ (b ++ [BitVec.ofNat 8 (j + 1)])) w6 hk6.out b6.out (by rw [← hm.out]; omega) (by rw [hYl.out]; omega)) ?_
          rintro e w7 ⟨m7, rfl⟩
          rw [macV_of k _ (by rw [← hm.out]; omega) (by rw [hYl.out]; omega), ← hK.out, ← hstep.out]
          obtain ⟨H, hH⟩ : ∃ H, H = expT K b (j + 1) := ⟨_, rfl⟩
          have hHl : H.length = 32 := by rw [hH]; exact expT_length _ _ _
          rw [← hH]
          obtain ⟨wa8, hw8⟩ : ∃ x, x = w7.alloc (.cells (encB (zb 32)) 25) := ⟨_, rfl⟩
          obtain ⟨g8, hg8⟩ : ∃ g, g = w7.heap.size := ⟨_, rfl⟩
          have ma8 : Mod (fun _ => False) w7 wa8 := by rw [hw8]; exact (Mod.refl _ _).alloc _
          have xa8 : wa8.heap[g8]? = some (.cells (encB (zb 32)) 25 (0,0)) := by rw [hw8]; exact hp_new _ _ _ hg8
          obtain ⟨w8, st8, na8, x8⟩ := bytes_store xa8 (s' := H) (by decide) hHl
          have m8 : Mod (fun _ => False) w7 w8 := ma8.trans' na8 (fun k hk h => by omega)
          replace hw8 := Lib.hid hw8
          replace hg8 := Lib.hid hg8
          replace x8 := Lib.hid x8
          clear ma8 xa8 na8
          have m48 := (m46.out.trans m7).trans m8
          have bH := ByteAt.row x8.out
          rw [hHl] at bH
          have bal8 := bal4.out.mod m48 (fun _ _ h => h)
          obtain ⟨vp, bp, hcut⟩ := bal8.cut (32 * j) (32 * (j + 1)) (by omega) (by have := hjN.out; omega)
          rw [hpart.out, ← hH] at bp
          have hcut2 : ∀ w', (Instr.slice 22 (.slice ad2 N cap2) (some (.int .i64 (32 * (j : Int)))) (some (.int .i64 (32 * ((j : Int) + 1)))) none).run Try.prog w' = .ok vp w' := by
            intro w'
            have h := hcut w'
            rw [show ((32 * j : Nat) : Int) = 32 * (j : Int) by omega, show ((32 * (j + 1) : Nat) : Int) = 32 * ((j : Int) + 1) by omega] at h
            exact h
          replace m48 := Lib.hid m48
          replace bH := Lib.hid bH
          replace bp := Lib.hid bp
          replace hH := Lib.hid hH
          clear m7 m8 m46 b6 hk6 bal8 hcut hYl
          refine ⟨_, rfl, ?_⟩
          simp only [Act.put, List.setIfInBounds_toArray, List.set_cons_zero, List.set_cons_succ]
          refine wpList_reads (by kernel_rfl) (.tuple #[.agg (encB H), .int .i64 0]) (by go_simp) ?_
          simp only [Act.put, List.setIfInBounds_toArray, List.set_cons_zero, List.set_cons_succ]
          refine wpList_reads (by kernel_rfl) (.agg (encB H)) (by go_simp) ?_
          simp only [Act.put, List.setIfInBounds_toArray, List.set_cons_zero, List.set_cons_succ]
          refine wpList_reads (by kernel_rfl) (.int .i64 0) (by go_simp) ?_
          simp only [Act.put, List.setIfInBounds_toArray, List.set_cons_zero, List.set_cons_succ]
          refine wpList_yields (by kernel_rfl) _ _ (alloc_arr 25 _ zero32 _ _ _ rfl) ?_
          simp only [Act.put, List.setIfInBounds_toArray, List.set_cons_zero, List.set_cons_succ]
          rw [← hg8.out, ← hw8.out]
          refine wpList_store_to rfl _ _ _ rfl _ _ _ rfl rfl _ st8 ?_
          simp only [Act.put, List.setIfInBounds_toArray, List.set_cons_zero, List.set_cons_succ]
          refine wpList_reads (by kernel_rfl) (.int .i64 0) (by go_simp) ?_
          simp only [Act.put, List.setIfInBounds_toArray, List.set_cons_zero, List.set_cons_succ]
          go_upto_region 14 with (fail)
          refine wp_region_any (by kernel_rfl) (any_of_Z (S := fun _ => True) (z := 99) _ _ _ _ ?_)
          simp only [List.size_toArray, List.length_cons, List.length_nil, Nat.reduceAdd, Array.replicate_succ, Array.replicate_zero, List.push_toArray, List.nil_append, List.cons_append]
          change anyZ _ _ _ _ _ _ _ _ _ w8.drew
          have md : Mod (fun _ => False) w8 w8.drew := (Mod.refl _ _).drew
          have bHd := bH.out.mod md (fun _ _ h => h)
          have bpd := bp.out.mod md (fun _ _ h => h)
          have m4d := m48.out.trans md
          obtain ⟨wd, hwd⟩ : ∃ x, x = w8.drew := ⟨_, rfl⟩
          rw [← hwd] at md bHd bpd m4d ⊢
          replace md := Lib.hid md
          have hw32 : IntKind.i64.wrap (32 * ((j : Int) + 1)) = 32 * ((j : Int) + 1) := by rw [IntKind.wrap_i64]; omega
          have hs32 : IntKind.i64.wrap (32 * ((j : Int) + 1) - 32) = 32 * (j : Int) := by rw [IntKind.wrap_i64]; omega
          clear hwd
          refine anyZ_take 0 _ (some 99) (.int .i64 0) rfl (by kernel_rfl) (by kernel_rfl) (by kernel_rfl) (by kernel_rfl) (by kernel_rfl) (by decide) rfl (fun w' hS => ?_) trivial ?_
          · go_simp
          simp only [Act.put, List.setIfInBounds_toArray, List.set_cons_zero, List.set_cons_succ]
          refine anyZ_take 1 _ (some 100) (.bool false) rfl (by kernel_rfl) (by kernel_rfl) (by kernel_rfl) (by kernel_rfl) (by kernel_rfl) (by decide) rfl (fun w' hS => ?_) trivial ?_
          · go_simp
          simp only [Act.put, List.setIfInBounds_toArray, List.set_cons_zero, List.set_cons_succ]
          refine anyZ_take 2 _ (some 101) (.bool false) rfl (by kernel_rfl) (by kernel_rfl) (by kernel_rfl) (by kernel_rfl) (by kernel_rfl) (by decide) rfl (fun w' hS => ?_) trivial ?_
          · go_simp
          simp only [Act.put, List.setIfInBounds_toArray, List.set_cons_zero, List.set_cons_succ]
          refine anyZ_take 3 _ (some 102) (.slice (some ⟨g8, 0, none⟩) 32 32) rfl (by kernel_rfl) (by kernel_rfl) (by kernel_rfl) (by kernel_rfl) (by kernel_rfl) (by decide) rfl (fun w' hS => ?_) trivial ?_
          · go_simp
          simp only [Act.put, List.setIfInBounds_toArray, List.set_cons_zero, List.set_cons_succ]
          refine anyZ_take 4 _ (some 103) (.slice ad2 N cap2) rfl (by kernel_rfl) (by kernel_rfl) (by kernel_rfl) (by kernel_rfl) (by kernel_rfl) (by decide) rfl (fun w' hS => ?_) trivial ?_
          · go_simp
          simp only [Act.put, List.setIfInBounds_toArray, List.set_cons_zero, List.set_cons_succ]
          refine anyZ_take 5 _ (some 104) (.int .i64 ((j : Int) + 1)) rfl (by kernel_rfl) (by kernel_rfl) (by kernel_rfl) (by kernel_rfl) (by kernel_rfl) (by decide) rfl (fun w' hS => ?_) trivial ?_
          · go_simp
          simp only [Act.put, List.setIfInBounds_toArray, List.set_cons_zero, List.set_cons_succ]
          refine anyZ_take 6 _ (some 105) (.int .i64 (32 * ((j : Int) + 1))) rfl (by kernel_rfl) (by kernel_rfl) (by kernel_rfl) (by kernel_rfl) (by kernel_rfl) (by decide) rfl (fun w' hS => ?_) trivial ?_
          · go_simp
          simp only [Act.put, List.setIfInBounds_toArray, List.set_cons_zero, List.set_cons_succ]
          refine anyZ_take 7 _ (some 106) (.int .i64 (32 * (j : Int))) rfl (by kernel_rfl) (by kernel_rfl) (by kernel_rfl) (by kernel_rfl) (by kernel_rfl) (by decide) rfl (fun w' hS => ?_) trivial ?_
          · go_simp
          simp only [Act.put, List.setIfInBounds_toArray, List.set_cons_zero, List.set_cons_succ]
          refine anyZ_take 8 _ (some 107) (.int .i64 ((j : Int) + 1)) rfl (by kernel_rfl) (by kernel_rfl) (by kernel_rfl) (by kernel_rfl) (by kernel_rfl) (by decide) rfl (fun w' hS => ?_) trivial ?_
          · go_simp
          simp only [Act.put, List.setIfInBounds_toArray, List.set_cons_zero, List.set_cons_succ]
          refine anyZ_take 9 _ (some 108) (.int .i64 (32 * ((j : Int) + 1))) rfl (by kernel_rfl) (by kernel_rfl) (by kernel_rfl) (by kernel_rfl) (by kernel_rfl) (by decide) rfl (fun w' hS => ?_) trivial ?_
          · go_simp
          simp only [Act.put, List.setIfInBounds_toArray, List.set_cons_zero, List.set_cons_succ]
          refine anyZ_take 10 _ (some 109) (vp) rfl (by kernel_rfl) (by kernel_rfl) (by kernel_rfl) (by kernel_rfl) (by kernel_rfl) (by decide) rfl (fun w' hS => ?_) trivial ?_
          · go_simp
          simp only [Act.put, List.setIfInBounds_toArray, List.set_cons_zero, List.set_cons_succ]
          refine anyZ_call 11 _ (some 110) rfl (by kernel_rfl) (by kernel_rfl) rfl 18 #[.slice (some ⟨g8, 0, none⟩) 32 32, vp] (by go_simp) ?_
          refine (same_any _ _ _ _ wd bHd bpd (by omega) (by omega)).mono ?_
          rintro e w9 ⟨m9, rfl⟩
          rw [show decide (H = H) = true by simp]
          refine ⟨_, rfl, fun _ => trivial, ?_⟩
          simp only [Act.put, List.setIfInBounds_toArray, List.set_cons_zero, List.set_cons_succ]
          refine anyZ_take 12 _ (some 111) (.bool false) rfl (by kernel_rfl) (by kernel_rfl) (by kernel_rfl) (by kernel_rfl) (by kernel_rfl) (by decide) rfl (fun w' hS => ?_) trivial ?_
          · go_simp
          simp only [Act.put, List.setIfInBounds_toArray, List.set_cons_zero, List.set_cons_succ]
          refine anyZ_take 13 _ (some 112) (.bool false) rfl (by kernel_rfl) (by kernel_rfl) (by kernel_rfl) (by kernel_rfl) (by kernel_rfl) (by decide) rfl (fun w' hS => ?_) trivial ?_
          · go_simp
          simp only [Act.put, List.setIfInBounds_toArray, List.set_cons_zero, List.set_cons_succ]
          refine anyZ_done (by kernel_rfl) ?_ _
          have m49 := m4d.trans m9
          have bH9 := (bHd.mod m9 (fun _ _ h => h))
          replace m49 := Lib.hid m49
          replace bH9 := Lib.hid bH9
          clear m9 bHd bpd m4d md
          go_upto_region 16 with (fail)
          refine wp_region_lit ?_
          obtain ⟨wz, hwz⟩ : ∃ x, x = w9.alloc (.cells #[] 5) := ⟨_, rfl⟩
          obtain ⟨gz, hgz⟩ : ∃ g, g = w9.heap.size := ⟨_, rfl⟩
          have mz : Mod (fun _ => False) w9 wz := by rw [hwz]; exact (Mod.refl _ _).alloc _
          have ownz : wz.ownsRow w4.heap.size 5 1 (.slice (some ⟨gz, 0, none⟩) 0 0) 0 (bytesV []) := by
            rw [hwz, hgz]
            exact World.ownsRow_lit w9 #[] 0 m49.out.size (by decide) rfl
          have bHz := bH9.out.mod mz (fun _ _ h => h)
          have m4z := m49.out.trans mz
          replace hwz := Lib.hid hwz
          replace hgz := Lib.hid hgz
          clear mz
          refine wpList_yields (by kernel_rfl) (.slice (some ⟨gz, 0, none⟩) 0 0) wz (by rw [hwz.out, hgz.out]; go_simp) ?_
          simp only [Act.put, List.setIfInBounds_toArray, List.set_cons_zero, List.set_cons_succ]
          refine wpList_reads (by kernel_rfl) (.slice (some ⟨g8, 0, none⟩) 32 32) (by go_simp) ?_
          simp only [Act.put, List.setIfInBounds_toArray, List.set_cons_zero, List.set_cons_succ]
          refine wpList_append_bytes rfl _ _ rfl w4.heap.size 0 (.slice (some ⟨gz, 0, none⟩) 0 0) (.slice (some ⟨g8, 0, none⟩) 32 32) [] H rfl rfl ownz bHz (by omega) m4z.size ?_
          intro vf wf ownf growf
          have mf : Mod (fun _ => False) w4 wf := m4z.trans' ((Mod.refl _ _).grown (S := fun k => w4.heap.size ≤ k) growf (fun k hk _ => (ownz.lt k hk).1)) (fun k hk h => by omega)
          rw [Nat.zero_add, hHl, List.nil_append] at ownf
          replace ownf := Lib.hid ownf
          replace mf := Lib.hid mf
          clear growf ownz bHz m4z
          simp only [Act.put, List.setIfInBounds_toArray, List.set_cons_zero, List.set_cons_succ]
          refine wpList_reads (by kernel_rfl) (vf) (by go_simp) ?_
          simp only [Act.put, List.setIfInBounds_toArray, List.set_cons_zero, List.set_cons_succ]
          go_wp2
          go_roundg (gk - 1)
          case measure => have := hjg.out; have := hj4.out; omega
          case rel => exact ⟨j + 1, by have := hjg.out; have := hj4.out; omega, by go_num, mf.out, by rw [← hH.out, hHl]; exact ownf.out⟩
        · have hmf := m04.out.trans mr
          replace hmf := Lib.hid hmf
          clear own mr
          by_cases hj4 : j < 4
          · have hd4 : decide ((j : Int) + 1 ≤ 4) = true := by rw [decide_eq_true_iff]; omega
            have hdN : decide (32 * ((j : Int) + 1) ≤ (N : Int)) = false := by rw [decide_eq_false_iff_not]; omega
            clear hgo
            go_wp2
            go_ret
            exact ⟨hmf.out, rfl⟩
          · have hd4 : decide ((j : Int) + 1 ≤ 4) = false := by rw [decide_eq_false_iff_not]; omega
            clear hgo
            go_wp2
            go_ret
            exact ⟨hmf.out, rfl⟩
end Go.Proofs.Ythhbomiknikjpaa
