/-
  HelloAgain: its walk. Printed by gen/hlaws.py.
-/
import Derived.Test.YtmgamagmlokpmaaHv
namespace Go.Proofs.Ytmgamagmlokpmaa
open Go Go.RowKit
set_option linter.unusedSimpArgs false
set_option linter.unusedVariables false

theorem hget_err {bs : List (BitVec 8)} {e : Nat} (h : hget bs = .inl e) : ¬ e = 0 := by
  have hl : ∀ n (cs : List (BitVec 8)) e, lims n cs = .inl e → ¬ e = 0 := by
    intro n
    induction n with
    | zero => intro cs e h; simp [lims] at h
    | succ n ih =>
      intro cs e h
      rw [lims] at h
      cases hv : vget cs with
      | none => rw [hv] at h; simp at h; omega
      | some p =>
        obtain ⟨x, k⟩ := p
        rw [hv] at h
        simp only at h
        split at h
        · cases hl : lims n (cs.drop k) with
          | inl e' => rw [hl] at h; simp at h; subst h; exact ih _ _ hl
          | inr q => rw [hl] at h; simp at h
        · simp at h; omega
  unfold hget at h
  cases bs with
  | nil => simp at h; omega
  | cons b r =>
    simp only at h
    split at h
    · simp at h; omega
    · split at h
      · split at h
        · simp at h; omega
        · simp at h
      · split at h
        · simp at h; omega
        · cases hL : lims 4 ((b :: r).drop 33) with
          | inl e' => rw [hL] at h; simp at h; subst h; exact hl _ _ _ hL
          | inr q =>
            rw [hL] at h
            simp only at h
            split at h
            · simp at h
            · split at h
              · simp at h; omega
              · simp at h

set_option maxRecDepth 100000 in
set_option maxHeartbeats 4000000 in
theorem hagain_walk (v : Value) (bs : List (BitVec 8)) (w : World) (hb : ByteAt w v bs) (hl : bs.length ≤ 140737488351232) :
    Calls Try.prog 4 #[v] w fun e w' => e = .returned (.bool true) ∧ Below w.heap.size w w' := by
  have o0 : (hzero 0).Ok := hzero_ok (by decide)
  obtain ⟨ad, cap, rfl, _⟩ := hb.slice
  obtain ⟨L, hL⟩ : ∃ L, L = bs.length := ⟨_, rfl⟩
  rw [← hL] at hb hl ⊢
  replace hb := Lib.hid hb
  replace hL := Lib.hid hL
  go_enter Try.func4, Try.ntmps4
  go_upto_region 1 with (fail)
  refine wp_region_lit ?_
  refine wpList_reads (by kernel_rfl) (.slice ad L cap) (by go_simp) ?_
  simp only [Act.put, List.setIfInBounds_toArray, List.set_cons_zero, List.set_cons_succ]
  refine wpList_enter (by kernel_rfl) 8 #[.slice ad L cap] (by go_simp) (hget_any _ bs w hb.out (by rw [← hL.out]; omega)) ?_
  rintro e w1 ⟨m1, rfl⟩
  cases hq : hget bs with
  | inl er =>
    rw [show hgV bs = .tuple #[.agg (helloC (hzero 0)), .int .i64 0, .int .i64 (er : Int)] by unfold hgV; rw [hq]]
    have her := hget_err hq
    have hne : ((er : Int) != 0) = true := by rw [bne_iff_ne]; omega
    obtain ⟨w1a, hw1⟩ : ∃ w1a, w1a = w1.alloc (.cells (helloC (hzero 0)) 27) := ⟨_, rfl⟩
    have xa1 : HelloAt w1a w1.heap.size (hzero 0) := by rw [hw1]; exact hp_new _ _ _ rfl
    obtain ⟨w1b, s1, mb1, xb1⟩ := hello_store o0 xa1 (h' := hzero 0) o0
    have mc1 : Mod (fun _ => False) w1 w1b := by
      refine Mod.trans' (b := w1a) ?_ mb1 (fun i hi h => by omega)
      rw [hw1]
      exact (Mod.refl _ _).alloc _
    replace hw1 := Lib.hid hw1
    have l2 := hello_load o0 xb1
    have m02 := m1.trans mc1
    have hg := fun (x y : Operand) (w : World) => run_eqGuard_agg (P := Try.prog) w .eql 27 x y (helloC (hzero 0)) (helloC (hzero 0)) (by kernel_rfl)
    have he := fun (w : World) => hello_eql o0 o0 w
    rw [decide_eq_true rfl] at he
    replace hg := Lib.hid hg
    replace he := Lib.hid he
    replace m02 := Lib.hid m02
    clear xa1 mb1 mc1 m1 xb1 hq
    refine ⟨_, rfl, ?_⟩
    simp only [Act.put, List.setIfInBounds_toArray, List.set_cons_zero, List.set_cons_succ]
    refine wpList_reads (by kernel_rfl) (.tuple #[.agg (helloC (hzero 0)), .int .i64 0, .int .i64 (er : Int)]) (by go_simp) ?_
    simp only [Act.put, List.setIfInBounds_toArray, List.set_cons_zero, List.set_cons_succ]
    refine wpList_reads (by kernel_rfl) (.agg (helloC (hzero 0))) (by go_simp) ?_
    simp only [Act.put, List.setIfInBounds_toArray, List.set_cons_zero, List.set_cons_succ]
    refine wpList_reads (by kernel_rfl) (.int .i64 0) (by go_simp) ?_
    simp only [Act.put, List.setIfInBounds_toArray, List.set_cons_zero, List.set_cons_succ]
    refine wpList_reads (by kernel_rfl) (.int .i64 (er : Int)) (by go_simp) ?_
    simp only [Act.put, List.setIfInBounds_toArray, List.set_cons_zero, List.set_cons_succ]
    refine wpList_yields (by kernel_rfl) _ _ (alloc_hello _ _ _ rfl) ?_
    simp only [Act.put, List.setIfInBounds_toArray, List.set_cons_zero, List.set_cons_succ]
    rw [← hw1.out]
    refine wpList_store_to rfl _ _ _ rfl _ _ _ rfl rfl _ s1 ?_
    simp only [Act.put, List.setIfInBounds_toArray, List.set_cons_zero, List.set_cons_succ]
    refine wpList_reads (by kernel_rfl) (.int .i64 0) (by go_simp) ?_
    simp only [Act.put, List.setIfInBounds_toArray, List.set_cons_zero, List.set_cons_succ]
    refine wpList_reads (by kernel_rfl) (.int .i64 (er : Int)) (by go_simp) ?_
    simp only [Act.put, List.setIfInBounds_toArray, List.set_cons_zero, List.set_cons_succ]
    go_upto_region 3 with (fail)
    refine wp_region_lit ?_
    refine wpList_reads (by kernel_rfl) (.int .i64 0) (by go_simp) ?_
    simp only [Act.put, List.setIfInBounds_toArray, List.set_cons_zero, List.set_cons_succ]
    refine wpList_reads (by kernel_rfl) (.bool true) (by go_simp) ?_
    simp only [Act.put, List.setIfInBounds_toArray, List.set_cons_zero, List.set_cons_succ]
    refine wpList_reads (by kernel_rfl) (.bool true) (by go_simp) ?_
    simp only [Act.put, List.setIfInBounds_toArray, List.set_cons_zero, List.set_cons_succ]
    refine wpList_reads (by kernel_rfl) (.agg (helloC (hzero 0))) (run_load_op rfl rfl l2) ?_
    simp only [Act.put, List.setIfInBounds_toArray, List.set_cons_zero, List.set_cons_succ]
    refine wpList_yields (by kernel_rfl) _ _ (build_none_op _ _ _ rfl) ?_
    simp only [Act.put, List.setIfInBounds_toArray, List.set_cons_zero, List.set_cons_succ]
    refine wpList_reads (by kernel_rfl) (.bool true) (run_bin_op rfl rfl rfl (hg.out _ _ _) (he.out _)) ?_
    simp only [Act.put, List.setIfInBounds_toArray, List.set_cons_zero, List.set_cons_succ]
    refine wpList_reads (by kernel_rfl) (.bool true) (by go_simp) ?_
    simp only [Act.put, List.setIfInBounds_toArray, List.set_cons_zero, List.set_cons_succ]
    refine wpList_reads (by kernel_rfl) (.bool true) (by go_simp) ?_
    simp only [Act.put, List.setIfInBounds_toArray, List.set_cons_zero, List.set_cons_succ]
    go_wp2_with fail
    refine (lives_any _).mono ?_
    rintro e wl ⟨ml, rfl⟩
    have mfin := (m02.out).trans ml
    clear ml
    go_wp2
    go_ret
    exact ⟨rfl, mfin.below (Nat.le_refl _) (fun _ h => h.elim)⟩
  | inr p =>
    obtain ⟨h, n⟩ := p
    rw [show hgV bs = .tuple #[.agg (helloC h), .int .i64 (n : Int), .int .i64 0] by unfold hgV; rw [hq]]
    obtain ⟨o, hv, hn1, hn2, hn3⟩ := hget_back hq
    rw [← hL.out] at hn1
    have hshort := fun i hi => hget_short (i := i) hq hi
    obtain ⟨w1a, hw1⟩ : ∃ w1a, w1a = w1.alloc (.cells (helloC (hzero 0)) 27) := ⟨_, rfl⟩
    have xa1 : HelloAt w1a w1.heap.size (hzero 0) := by rw [hw1]; exact hp_new _ _ _ rfl
    obtain ⟨w1b, s1, mb1, xb1⟩ := hello_store o0 xa1 (h' := h) o
    have mc1 : Mod (fun _ => False) w1 w1b := by
      refine Mod.trans' (b := w1a) ?_ mb1 (fun i hi h => by omega)
      rw [hw1]
      exact (Mod.refl _ _).alloc _
    replace hw1 := Lib.hid hw1
    have l2 := hello_load o xb1
    have m02 := m1.trans mc1
    obtain ⟨v3, b3, hcut⟩ := hb.out.cutTo n hn1
    have hnL : (n : Int) ≤ (L : Int) := by omega
    have hn0 : (0 : Int) ≤ (n : Int) := by omega
    have hLb : (L : Int) ≤ 140737488351232 := by omega
    have hLn : decide ((L : Int) < (n : Int)) = false := by rw [decide_eq_false_iff_not]; omega
    replace hshort := Lib.hid hshort
    replace hn1 := Lib.hid hn1
    replace hn2 := Lib.hid hn2
    replace hn3 := Lib.hid hn3
    replace m02 := Lib.hid m02
    replace b3 := Lib.hid b3
    replace hq := Lib.hid hq
    clear xa1 mb1 mc1 m1 xb1
    refine ⟨_, rfl, ?_⟩
    simp only [Act.put, List.setIfInBounds_toArray, List.set_cons_zero, List.set_cons_succ]
    refine wpList_reads (by kernel_rfl) (.tuple #[.agg (helloC h), .int .i64 (n : Int), .int .i64 0]) (by go_simp) ?_
    simp only [Act.put, List.setIfInBounds_toArray, List.set_cons_zero, List.set_cons_succ]
    refine wpList_reads (by kernel_rfl) (.agg (helloC h)) (by go_simp) ?_
    simp only [Act.put, List.setIfInBounds_toArray, List.set_cons_zero, List.set_cons_succ]
    refine wpList_reads (by kernel_rfl) (.int .i64 (n : Int)) (by go_simp) ?_
    simp only [Act.put, List.setIfInBounds_toArray, List.set_cons_zero, List.set_cons_succ]
    refine wpList_reads (by kernel_rfl) (.int .i64 0) (by go_simp) ?_
    simp only [Act.put, List.setIfInBounds_toArray, List.set_cons_zero, List.set_cons_succ]
    refine wpList_yields (by kernel_rfl) _ _ (alloc_hello _ _ _ rfl) ?_
    simp only [Act.put, List.setIfInBounds_toArray, List.set_cons_zero, List.set_cons_succ]
    rw [← hw1.out]
    refine wpList_store_to rfl _ _ _ rfl _ _ _ rfl rfl _ s1 ?_
    simp only [Act.put, List.setIfInBounds_toArray, List.set_cons_zero, List.set_cons_succ]
    refine wpList_reads (by kernel_rfl) (.int .i64 (n : Int)) (by go_simp) ?_
    simp only [Act.put, List.setIfInBounds_toArray, List.set_cons_zero, List.set_cons_succ]
    refine wpList_reads (by kernel_rfl) (.int .i64 0) (by go_simp) ?_
    simp only [Act.put, List.setIfInBounds_toArray, List.set_cons_zero, List.set_cons_succ]
    go_upto_region 4 with (fail)
    refine wp_region_lit ?_
    refine wpList_reads (by kernel_rfl) (.agg (helloC h)) (run_load_op rfl rfl l2) ?_
    simp only [Act.put, List.setIfInBounds_toArray, List.set_cons_zero, List.set_cons_succ]
    refine wpList_enter (by kernel_rfl) 6 #[.agg (helloC h)] (by go_simp) (hput_any h o w1b) ?_
    rintro e w4 ⟨m4, h4⟩
    rw [if_pos hv] at h4
    obtain ⟨v4, rfl, b4, g4, hg4, hv4⟩ := h4
    rw [hn3.out] at b4
    obtain ⟨N, hN⟩ : ∃ N, N = (hput h).length := ⟨_, rfl⟩
    rw [← hN] at hv4
    subst hv4
    have m04 := m02.out.trans m4
    have b34 := b3.out.mod m04 (fun _ _ h => h)
    replace m04 := Lib.hid m04
    replace b34 := Lib.hid b34
    replace b4 := Lib.hid b4
    replace hN := Lib.hid hN
    clear m4
    refine ⟨_, rfl, ?_⟩
    simp only [Act.put, List.setIfInBounds_toArray, List.set_cons_zero, List.set_cons_succ]
    refine wpList_reads (by kernel_rfl) (.tuple #[.slice (some ⟨g4, 0, none⟩) N N, .int .i64 0]) (by go_simp) ?_
    simp only [Act.put, List.setIfInBounds_toArray, List.set_cons_zero, List.set_cons_succ]
    refine wpList_reads (by kernel_rfl) (.slice (some ⟨g4, 0, none⟩) N N) (by go_simp) ?_
    simp only [Act.put, List.setIfInBounds_toArray, List.set_cons_zero, List.set_cons_succ]
    refine wpList_reads (by kernel_rfl) (.int .i64 0) (by go_simp) ?_
    simp only [Act.put, List.setIfInBounds_toArray, List.set_cons_zero, List.set_cons_succ]
    refine wpList_reads (by kernel_rfl) (.slice (some ⟨g4, 0, none⟩) N N) (by go_simp) ?_
    simp only [Act.put, List.setIfInBounds_toArray, List.set_cons_zero, List.set_cons_succ]
    refine wpList_reads (by kernel_rfl) (.int .i64 0) (by go_simp) ?_
    simp only [Act.put, List.setIfInBounds_toArray, List.set_cons_zero, List.set_cons_succ]
    go_wp2_with fail
    refine (same_true _ _ (bs.take n) w4 b4.out b34.out (by rw [List.length_take]; omega)).mono ?_
    rintro e w5 ⟨m5, rfl⟩
    have m05 := m04.out.trans m5
    replace m05 := Lib.hid m05
    clear m5 hcut
    go_wp2
    go_loopw [8] (fun nv wr => ∃ i : Nat, i ≤ n ∧ nv = .int .i64 i ∧ Mod (fun _ => False) w wr) (fun nv _ => n - (intOf nv).toNat)
    case atStart => exact ⟨0, by omega, rfl, m05.out⟩
    case round =>
      obtain ⟨i, hi, rfl, mr⟩ := hrel
      have bi0 : (0 : Int) ≤ (i : Int) := by omega
      have bin : (i : Int) ≤ (n : Int) := by omega
      by_cases hlt : i < n
      · have hd : decide ((i : Int) < (n : Int)) = true := by rw [decide_eq_true_iff]; omega
        have hbr := hb.out.mod mr (fun _ _ h => h)
        obtain ⟨v6, b6, hcut⟩ := hbr.cutTo i (by have := hn1.out; omega)
        have hs := hshort.out i hlt
        have hiL : (i : Int) ≤ (L : Int) := by omega
        replace mr := Lib.hid mr
        replace hlt := Lib.hid hlt
        replace hi := Lib.hid hi
        replace b6 := Lib.hid b6
        clear hbr
        go_upto_region 10 with (fail)
        refine wp_region_lit ?_
        refine wpList_reads (by kernel_rfl) (.slice ad L cap) (by go_simp) ?_
        simp only [Act.put, List.setIfInBounds_toArray, List.set_cons_zero, List.set_cons_succ]
        refine wpList_reads (by kernel_rfl) (.int .i64 (i : Int)) (by go_simp) ?_
        simp only [Act.put, List.setIfInBounds_toArray, List.set_cons_zero, List.set_cons_succ]
        refine wpList_reads (by kernel_rfl) (v6) (by go_simp) ?_
        simp only [Act.put, List.setIfInBounds_toArray, List.set_cons_zero, List.set_cons_succ]
        refine wpList_enter (by kernel_rfl) 8 #[v6] (by go_simp) (hget_any v6 _ wr b6.out (by rw [List.length_take, ← hL.out]; omega)) ?_
        rintro e w7 ⟨m7, rfl⟩
        rw [show hgV (bs.take i) = .tuple #[.agg (helloC (hzero 0)), .int .i64 0, .int .i64 4] by unfold hgV; rw [hs]; rfl]
        obtain ⟨w7a, hw7⟩ : ∃ w7a, w7a = w7.alloc (.cells (helloC (hzero 0)) 27) := ⟨_, rfl⟩
        have xa7 : HelloAt w7a w7.heap.size (hzero 0) := by rw [hw7]; exact hp_new _ _ _ rfl
        obtain ⟨w7b, s7, mb7, xb7⟩ := hello_store o0 xa7 (h' := hzero 0) o0
        have mc7 : Mod (fun _ => False) w7 w7b := by
          refine Mod.trans' (b := w7a) ?_ mb7 (fun i hi h => by omega)
          rw [hw7]
          exact (Mod.refl _ _).alloc _
        replace hw7 := Lib.hid hw7
        have m07 := (mr.out.trans m7).trans mc7
        replace m07 := Lib.hid m07
        clear xa7 mb7 mc7 m7 xb7
        refine ⟨_, rfl, ?_⟩
        simp only [Act.put, List.setIfInBounds_toArray, List.set_cons_zero, List.set_cons_succ]
        refine wpList_reads (by kernel_rfl) (.tuple #[.agg (helloC (hzero 0)), .int .i64 0, .int .i64 4]) (by go_simp) ?_
        simp only [Act.put, List.setIfInBounds_toArray, List.set_cons_zero, List.set_cons_succ]
        refine wpList_reads (by kernel_rfl) (.agg (helloC (hzero 0))) (by go_simp) ?_
        simp only [Act.put, List.setIfInBounds_toArray, List.set_cons_zero, List.set_cons_succ]
        refine wpList_reads (by kernel_rfl) (.int .i64 0) (by go_simp) ?_
        simp only [Act.put, List.setIfInBounds_toArray, List.set_cons_zero, List.set_cons_succ]
        refine wpList_reads (by kernel_rfl) (.int .i64 4) (by go_simp) ?_
        simp only [Act.put, List.setIfInBounds_toArray, List.set_cons_zero, List.set_cons_succ]
        refine wpList_yields (by kernel_rfl) _ _ (alloc_hello _ _ _ rfl) ?_
        simp only [Act.put, List.setIfInBounds_toArray, List.set_cons_zero, List.set_cons_succ]
        rw [← hw7.out]
        refine wpList_store_to rfl _ _ _ rfl _ _ _ rfl rfl _ s7 ?_
        simp only [Act.put, List.setIfInBounds_toArray, List.set_cons_zero, List.set_cons_succ]
        refine wpList_reads (by kernel_rfl) (.int .i64 0) (by go_simp) ?_
        simp only [Act.put, List.setIfInBounds_toArray, List.set_cons_zero, List.set_cons_succ]
        refine wpList_reads (by kernel_rfl) (.int .i64 4) (by go_simp) ?_
        simp only [Act.put, List.setIfInBounds_toArray, List.set_cons_zero, List.set_cons_succ]
        go_wp2
        go_roundw
        case measure => have := hlt.out; simp [intOf]; omega
        case rel => exact ⟨i + 1, by have := hlt.out; omega, by go_num, m07.out⟩
      · obtain rfl : i = n := by omega
        have hd : decide ((i : Int) < (i : Int)) = false := by rw [decide_eq_false_iff_not]; omega
        replace mr := Lib.hid mr
        go_wp2_with fail
        refine (lives_any _).mono ?_
        rintro e wl ⟨ml, rfl⟩
        have mfin := (mr.out).trans ml
        clear ml
        go_wp2
        go_ret
        exact ⟨rfl, mfin.below (Nat.le_refl _) (fun _ h => h.elim)⟩
end Go.Proofs.Ytmgamagmlokpmaa
