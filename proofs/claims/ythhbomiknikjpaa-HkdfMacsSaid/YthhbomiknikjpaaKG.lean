/-
  mailcoachlaw03.great, HkdfMacs. Printed by gen/hkG.py.
-/
import Derived.Test.YthhbomiknikjpaaTw
namespace Go.Proofs.Ythhbomiknikjpaa
open Go Go.RowKit Go.Lib
set_option linter.unusedSimpArgs false
set_option linter.unusedVariables false

theorem two_cells {w : World} {g : Nat} {a b : Value} {t : TypeId} {fr : Nat × Nat} (h : w.heap[g]? = some (.cells #[a, b] t fr)) : w.cell? ⟨g, 0, none⟩ = some a ∧ w.cell? ⟨g, 1, none⟩ = some b := by
  unfold World.cell?
  simp only [h]
  exact ⟨rfl, rfl⟩
set_option maxRecDepth 100000 in
set_option maxHeartbeats 4000000 in
theorem great_any2 (g : Nat) (a1 a2 : Option Addr) (m n c1 c2 : Nat) (t : TypeId) (w : World) (hx : w.heap[g]? = some (.cells #[.slice a1 m c1, .slice a2 n c2] t (0,0))) (hm : m < 4611686018427387904) (hn : n < 4611686018427387904) :
    Calls Try.prog 8 #[.slice (some ⟨g, 0, none⟩) 2 2] w fun e w' => Mod (fun _ => False) w w' ∧ e = .returned (.bool (decide (3145728 < m + n))) := by
  obtain ⟨h0, h1⟩ := two_cells hx
  have bm0 : (0 : Int) ≤ (m : Int) := by omega
  have bn0 : (0 : Int) ≤ (n : Int) := by omega
  obtain ⟨s, hs⟩ : ∃ s, s = m + n := ⟨_, rfl⟩
  have hs1 : (m : Int) + (n : Int) = (s : Int) := by omega
  have bs : (s : Int) ≤ 9223372036854775807 := by omega
  have bs0 : (0 : Int) ≤ (s : Int) := by omega
  have hws : IntKind.i64.wrap (s : Int) = (s : Int) := by rw [IntKind.wrap_i64]; omega
  rw [← hs]
  replace hs := Lib.hid hs
  replace hx := Lib.hid hx
  go_enter Try.func8, Try.ntmps8
  go_wp2
  go_loopg [3, 4] 2 (fun gh sv iv wr => Mod (fun _ => False) w wr ∧ ((gh = 2 ∧ sv = .int .i64 0 ∧ iv = .int .i64 0) ∨ (gh = 1 ∧ sv = .int .i64 (m : Int) ∧ iv = .int .i64 1) ∨ (gh = 0 ∧ sv = .int .i64 (s : Int) ∧ iv = .int .i64 2 ∧ s ≤ 3145728)))
  case atStart => exact ⟨Mod.refl _ _, .inl ⟨rfl, rfl, rfl⟩⟩
  case round =>
    obtain ⟨mr, h⟩ := hrel
    have c0 := cell_mod mr h0 (fun h => h)
    have c1' := cell_mod mr h1 (fun h => h)
    replace mr := Lib.hid mr
    rcases h with ⟨hg, rfl, rfl⟩ | ⟨hg, rfl, rfl⟩ | ⟨hg, rfl, rfl, hle⟩
    · by_cases hbig : 3145728 < m
      · have hd : decide ((3145728 : Int) < (m : Int)) = true := by rw [decide_eq_true_iff]; omega
        have hf : decide (3145728 < s) = true := by rw [decide_eq_true_iff]; have := hs.out; omega
        replace hg := Lib.hid hg
        replace hbig := Lib.hid hbig
        go_wp2
        go_ret
        exact ⟨mr.out, by rw [hf]; rfl⟩
      · have hd : decide ((3145728 : Int) < (m : Int)) = false := by rw [decide_eq_false_iff_not]; omega
        replace hg := Lib.hid hg
        replace hbig := Lib.hid hbig
        go_wp2
        go_roundg (gk - 1)
        case measure => have := hg.out; omega
        case rel => exact ⟨mr.out, .inr (.inl ⟨by have := hg.out; omega, rfl, rfl⟩)⟩
    · by_cases hbig : 3145728 < s
      · have hd : decide ((3145728 : Int) < (s : Int)) = true := by rw [decide_eq_true_iff]; omega
        have hf : decide (3145728 < s) = true := by rw [decide_eq_true_iff]; exact hbig
        replace hg := Lib.hid hg
        replace hbig := Lib.hid hbig
        replace hf := Lib.hid hf
        go_wp2
        go_ret
        exact ⟨mr.out, by rw [hf.out]; rfl⟩
      · have hd : decide ((3145728 : Int) < (s : Int)) = false := by rw [decide_eq_false_iff_not]; omega
        have hle : s ≤ 3145728 := by omega
        replace hg := Lib.hid hg
        replace hbig := Lib.hid hbig
        replace hle := Lib.hid hle
        go_wp2
        go_roundg (gk - 1)
        case measure => have := hg.out; omega
        case rel => exact ⟨mr.out, .inr (.inr ⟨by have := hg.out; omega, rfl, rfl, hle.out⟩)⟩
    · have hf : decide (3145728 < s) = false := by rw [decide_eq_false_iff_not]; omega
      replace hg := Lib.hid hg
      replace hle := Lib.hid hle
      replace hf := Lib.hid hf
      go_wp2
      go_ret
      exact ⟨mr.out, by rw [hf.out]; rfl⟩

set_option maxRecDepth 100000 in
set_option maxHeartbeats 4000000 in
theorem macs_any (vk vb : Value) (k b : List (BitVec 8)) (w : World) (hk : ByteAt w vk k) (hb : ByteAt w vb b) (hkl : k.length < 4611686018427387904) (hbl : b.length < 4611686018427387904) :
    Calls Try.prog 3 #[vk, vb] w fun e w' => Mod (fun _ => False) w w' ∧ e = .returned (.bool true) := by
  obtain ⟨ak, ck, rfl, _⟩ := hk.slice
  obtain ⟨ab, cb, rfl, _⟩ := hb.slice
  obtain ⟨m, hm⟩ : ∃ m, m = k.length := ⟨_, rfl⟩
  obtain ⟨n, hn⟩ : ∃ n, n = b.length := ⟨_, rfl⟩
  rw [← hm] at hk hkl ⊢
  rw [← hn] at hb hbl ⊢
  have bm0 : (0 : Int) ≤ (m : Int) := by omega
  have bn0 : (0 : Int) ≤ (n : Int) := by omega
  replace hm := Lib.hid hm
  replace hn := Lib.hid hn
  obtain ⟨wx, hwx⟩ : ∃ x, x = w.alloc (.cells #[.slice ak m ck, .slice ab n cb] 22) := ⟨_, rfl⟩
  obtain ⟨gx, hgx⟩ : ∃ g, g = w.heap.size := ⟨_, rfl⟩
  have mx : Mod (fun _ => False) w wx := by rw [hwx]; exact (Mod.refl _ _).alloc _
  have xx : wx.heap[gx]? = some (.cells #[.slice ak m ck, .slice ab n cb] 22 (0,0)) := by rw [hwx]; exact hp_new _ _ _ hgx
  have hkx := hk.mod mx (fun _ _ h => h)
  have hbx := hb.mod mx (fun _ _ h => h)
  replace hwx := Lib.hid hwx
  replace hgx := Lib.hid hgx
  clear hk hb
  go_enter Try.func3, Try.ntmps3
  go_upto_region 1 with (fail)
  refine wp_region_lit ?_
  refine wpList_reads (by kernel_rfl) (.slice ak m ck) (by go_simp) ?_
  simp only [Act.put, List.setIfInBounds_toArray, List.set_cons_zero, List.set_cons_succ]
  refine wpList_reads (by kernel_rfl) (.slice ab n cb) (by go_simp) ?_
  simp only [Act.put, List.setIfInBounds_toArray, List.set_cons_zero, List.set_cons_succ]
  refine wpList_yields (by kernel_rfl) (.slice (some ⟨gx, 0, none⟩) 2 2) wx (by rw [hwx.out, hgx.out]; go_simp) ?_
  simp only [Act.put, List.setIfInBounds_toArray, List.set_cons_zero, List.set_cons_succ]
  refine wpList_enter (by kernel_rfl) 8 #[.slice (some ⟨gx, 0, none⟩) 2 2] (by go_simp) (great_any2 gx ak ab m n ck cb _ wx xx hkl hbl) ?_
  rintro e w1 ⟨m1, rfl⟩
  have hk1 := hkx.mod m1 (fun _ _ h => h)
  have hb1 := hbx.mod m1 (fun _ _ h => h)
  have m01 := mx.trans m1
  replace hk1 := Lib.hid hk1
  replace hb1 := Lib.hid hb1
  replace m01 := Lib.hid m01
  clear hkx hbx mx m1 xx
  refine ⟨_, rfl, ?_⟩
  simp only [Act.put, List.setIfInBounds_toArray, List.set_cons_zero, List.set_cons_succ]
  by_cases hgr : 3145728 < m + n
  · rw [show decide (3145728 < m + n) = true by rw [decide_eq_true_iff]; exact hgr]
    replace hgr := Lib.hid hgr
    go_wp2
    go_ret
    exact ⟨m01.out, rfl⟩
  · rw [show decide (3145728 < m + n) = false by rw [decide_eq_false_iff_not]; exact hgr]
    have hml : m ≤ 3145728 := by omega
    have hnl : n ≤ 3145728 := by omega
    replace hgr := Lib.hid hgr
    replace hml := Lib.hid hml
    replace hnl := Lib.hid hnl
    go_upto_region 3 with (fail)
    refine wp_region_lit ?_
    refine wpList_reads (by kernel_rfl) (.slice ak m ck) (by go_simp) ?_
    simp only [Act.put, List.setIfInBounds_toArray, List.set_cons_zero, List.set_cons_succ]
    refine wpList_enter (by kernel_rfl) 9 #[.slice ak m ck] (by go_simp) (twin_any _ k w1 hk1.out (by have := hml.out; have := hm.out; omega)) ?_
    rintro e w2 ⟨m2, vK, rfl, tK2⟩
    have hk2 := hk1.out.mod m2 (fun _ _ h => h)
    have hb2 := hb1.out.mod m2 (fun _ _ h => h)
    have m02 := m01.out.trans m2
    obtain ⟨gK, hvK⟩ : ∃ g, vK = .slice (some ⟨g, 0, none⟩) m (m + 1) := by obtain ⟨g, h, _⟩ := tK2; exact ⟨g, by rw [h, hm.out]⟩
    subst hvK
    replace hk2 := Lib.hid hk2
    replace hb2 := Lib.hid hb2
    replace m02 := Lib.hid m02
    replace tK2 := Lib.hid tK2
    clear m2 hk1 hb1 m01
    refine ⟨_, rfl, ?_⟩
    simp only [Act.put, List.setIfInBounds_toArray, List.set_cons_zero, List.set_cons_succ]
    refine wpList_reads (by kernel_rfl) (.slice (some ⟨gK, 0, none⟩) m (m + 1)) (by go_simp) ?_
    simp only [Act.put, List.setIfInBounds_toArray, List.set_cons_zero, List.set_cons_succ]
    go_upto_region 4 with (fail)
    refine wp_region_lit ?_
    refine wpList_reads (by kernel_rfl) (.slice ab n cb) (by go_simp) ?_
    simp only [Act.put, List.setIfInBounds_toArray, List.set_cons_zero, List.set_cons_succ]
    refine wpList_enter (by kernel_rfl) 9 #[.slice ab n cb] (by go_simp) (twin_any _ b w2 hb2.out (by have := hnl.out; have := hn.out; omega)) ?_
    rintro e w3 ⟨m3, vT, rfl, tT3⟩
    have hk3 := hk2.out.mod m3 (fun _ _ h => h)
    have hb3 := hb2.out.mod m3 (fun _ _ h => h)
    have m03 := m02.out.trans m3
    have tK3 := tK2.out.mod m3 (fun _ h => h)
    obtain ⟨gT, hvT⟩ : ∃ g, vT = .slice (some ⟨g, 0, none⟩) n (n + 1) := by obtain ⟨g, h, _⟩ := tT3; exact ⟨g, by rw [h, hn.out]⟩
    subst hvT
    replace hk3 := Lib.hid hk3
    replace hb3 := Lib.hid hb3
    replace m03 := Lib.hid m03
    replace tK3 := Lib.hid tK3
    replace tT3 := Lib.hid tT3
    clear m3 hk2 hb2 m02 tK2
    refine ⟨_, rfl, ?_⟩
    simp only [Act.put, List.setIfInBounds_toArray, List.set_cons_zero, List.set_cons_succ]
    refine wpList_reads (by kernel_rfl) (.slice (some ⟨gT, 0, none⟩) n (n + 1)) (by go_simp) ?_
    simp only [Act.put, List.setIfInBounds_toArray, List.set_cons_zero, List.set_cons_succ]
    go_upto_region 5 with (fail)
    refine wp_region_lit ?_
    refine wpList_reads (by kernel_rfl) (.slice (some ⟨gK, 0, none⟩) m (m + 1)) (by go_simp) ?_
    simp only [Act.put, List.setIfInBounds_toArray, List.set_cons_zero, List.set_cons_succ]
    refine wpList_reads (by kernel_rfl) (.slice (some ⟨gT, 0, none⟩) n (n + 1)) (by go_simp) ?_
    simp only [Act.put, List.setIfInBounds_toArray, List.set_cons_zero, List.set_cons_succ]
    refine wpList_enter (by kernel_rfl) 10 #[.slice (some ⟨gK, 0, none⟩) m (m + 1), .slice (some ⟨gT, 0, none⟩) n (n + 1)] (by go_simp) (Mac_any _ _ k b w3 tK3.out.byteAt tT3.out.byteAt (by rw [← hm.out]; omega) (by rw [← hn.out]; omega)) ?_
    rintro e u4 ⟨n4, rfl⟩
    obtain ⟨H, hH⟩ : ∃ H, H = macB k b := ⟨_, rfl⟩
    obtain ⟨E, hE⟩ : ∃ E, E = macE k b := ⟨_, rfl⟩
    have hHl : H.length = 32 := by rw [hH]; exact macB_length _ _
    have hmv : macV k b = .tuple #[.agg (encB H), .int .i64 (E : Int)] := by unfold macV; rw [hH, hE]
    replace hH := Lib.hid hH
    replace hE := Lib.hid hE
    replace hmv := Lib.hid hmv
    rw [hmv.out]
    obtain ⟨wa4, hw4⟩ : ∃ x, x = u4.alloc (.cells (encB (zb 32)) 25) := ⟨_, rfl⟩
    obtain ⟨g4, hg4⟩ : ∃ g, g = u4.heap.size := ⟨_, rfl⟩
    have ma4 : Mod (fun _ => False) u4 wa4 := by rw [hw4]; exact (Mod.refl _ _).alloc _
    have xa4 : wa4.heap[g4]? = some (.cells (encB (zb 32)) 25 (0,0)) := by rw [hw4]; exact hp_new _ _ _ hg4
    obtain ⟨w4, st4, na4, x4⟩ := bytes_store xa4 (s' := H) (by decide) hHl
    have m4 : Mod (fun _ => False) u4 w4 := ma4.trans' na4 (fun k hk h => by omega)
    replace hw4 := Lib.hid hw4
    replace hg4 := Lib.hid hg4
    replace x4 := Lib.hid x4
    clear ma4 xa4 na4
    have mm4 := n4.trans m4
    have hk4 := hk3.out.mod mm4 (fun _ _ h => h)
    replace hk4 := Lib.hid hk4
    have hb4 := hb3.out.mod mm4 (fun _ _ h => h)
    replace hb4 := Lib.hid hb4
    have tK4 := tK3.out.mod mm4 (fun _ h => h)
    replace tK4 := Lib.hid tK4
    have tT4 := tT3.out.mod mm4 (fun _ h => h)
    replace tT4 := Lib.hid tT4
    have m04 := m03.out.trans mm4
    replace m04 := Lib.hid m04
    clear n4 m4 mm4 hk3 hb3 tK3 tT3 m03
    refine ⟨_, rfl, ?_⟩
    simp only [Act.put, List.setIfInBounds_toArray, List.set_cons_zero, List.set_cons_succ]
    refine wpList_reads (by kernel_rfl) (.tuple #[.agg (encB H), .int .i64 (E : Int)]) (by go_simp) ?_
    simp only [Act.put, List.setIfInBounds_toArray, List.set_cons_zero, List.set_cons_succ]
    refine wpList_reads (by kernel_rfl) (.agg (encB H)) (by go_simp) ?_
    simp only [Act.put, List.setIfInBounds_toArray, List.set_cons_zero, List.set_cons_succ]
    refine wpList_reads (by kernel_rfl) (.int .i64 (E : Int)) (by go_simp) ?_
    simp only [Act.put, List.setIfInBounds_toArray, List.set_cons_zero, List.set_cons_succ]
    refine wpList_yields (by kernel_rfl) _ _ (alloc_arr 25 _ zero32 _ _ _ rfl) ?_
    simp only [Act.put, List.setIfInBounds_toArray, List.set_cons_zero, List.set_cons_succ]
    rw [← hg4.out, ← hw4.out]
    refine wpList_store_to rfl _ _ _ rfl _ _ _ rfl rfl _ st4 ?_
    simp only [Act.put, List.setIfInBounds_toArray, List.set_cons_zero, List.set_cons_succ]
    refine wpList_reads (by kernel_rfl) (.int .i64 (E : Int)) (by go_simp) ?_
    simp only [Act.put, List.setIfInBounds_toArray, List.set_cons_zero, List.set_cons_succ]
    go_upto_region 6 with (fail)
    refine wp_region_lit ?_
    refine wpList_reads (by kernel_rfl) (.slice (some ⟨gK, 0, none⟩) m (m + 1)) (by go_simp) ?_
    simp only [Act.put, List.setIfInBounds_toArray, List.set_cons_zero, List.set_cons_succ]
    refine wpList_reads (by kernel_rfl) (.slice (some ⟨gT, 0, none⟩) n (n + 1)) (by go_simp) ?_
    simp only [Act.put, List.setIfInBounds_toArray, List.set_cons_zero, List.set_cons_succ]
    refine wpList_enter (by kernel_rfl) 11 #[.slice (some ⟨gK, 0, none⟩) m (m + 1), .slice (some ⟨gT, 0, none⟩) n (n + 1)] (by go_simp) (Extract_any _ _ k b w4 tK4.out.byteAt tT4.out.byteAt (by rw [← hm.out]; omega) (by rw [← hn.out]; omega)) ?_
    rintro e u5 ⟨n5, rfl⟩
    rw [hmv.out]
    obtain ⟨wa5, hw5⟩ : ∃ x, x = u5.alloc (.cells (encB (zb 32)) 25) := ⟨_, rfl⟩
    obtain ⟨g5, hg5⟩ : ∃ g, g = u5.heap.size := ⟨_, rfl⟩
    have ma5 : Mod (fun _ => False) u5 wa5 := by rw [hw5]; exact (Mod.refl _ _).alloc _
    have xa5 : wa5.heap[g5]? = some (.cells (encB (zb 32)) 25 (0,0)) := by rw [hw5]; exact hp_new _ _ _ hg5
    obtain ⟨w5, st5, na5, x5⟩ := bytes_store xa5 (s' := H) (by decide) hHl
    have m5 : Mod (fun _ => False) u5 w5 := ma5.trans' na5 (fun k hk h => by omega)
    replace hw5 := Lib.hid hw5
    replace hg5 := Lib.hid hg5
    replace x5 := Lib.hid x5
    clear ma5 xa5 na5
    have mm5 := n5.trans m5
    have hk5 := hk4.out.mod mm5 (fun _ _ h => h)
    replace hk5 := Lib.hid hk5
    have hb5 := hb4.out.mod mm5 (fun _ _ h => h)
    replace hb5 := Lib.hid hb5
    have tK5 := tK4.out.mod mm5 (fun _ h => h)
    replace tK5 := Lib.hid tK5
    have tT5 := tT4.out.mod mm5 (fun _ h => h)
    replace tT5 := Lib.hid tT5
    have y4_5 := mm5.heap x4.out (fun h => h)
    replace y4_5 := Lib.hid y4_5
    have m05 := m04.out.trans mm5
    replace m05 := Lib.hid m05
    clear n5 m5 mm5 hk4 hb4 tK4 tT4 m04
    refine ⟨_, rfl, ?_⟩
    simp only [Act.put, List.setIfInBounds_toArray, List.set_cons_zero, List.set_cons_succ]
    refine wpList_reads (by kernel_rfl) (.tuple #[.agg (encB H), .int .i64 (E : Int)]) (by go_simp) ?_
    simp only [Act.put, List.setIfInBounds_toArray, List.set_cons_zero, List.set_cons_succ]
    refine wpList_reads (by kernel_rfl) (.agg (encB H)) (by go_simp) ?_
    simp only [Act.put, List.setIfInBounds_toArray, List.set_cons_zero, List.set_cons_succ]
    refine wpList_reads (by kernel_rfl) (.int .i64 (E : Int)) (by go_simp) ?_
    simp only [Act.put, List.setIfInBounds_toArray, List.set_cons_zero, List.set_cons_succ]
    refine wpList_yields (by kernel_rfl) _ _ (alloc_arr 25 _ zero32 _ _ _ rfl) ?_
    simp only [Act.put, List.setIfInBounds_toArray, List.set_cons_zero, List.set_cons_succ]
    rw [← hg5.out, ← hw5.out]
    refine wpList_store_to rfl _ _ _ rfl _ _ _ rfl rfl _ st5 ?_
    simp only [Act.put, List.setIfInBounds_toArray, List.set_cons_zero, List.set_cons_succ]
    refine wpList_reads (by kernel_rfl) (.int .i64 (E : Int)) (by go_simp) ?_
    simp only [Act.put, List.setIfInBounds_toArray, List.set_cons_zero, List.set_cons_succ]
    go_upto_region 7 with (fail)
    refine wp_region_lit ?_
    refine wpList_reads (by kernel_rfl) (.slice ak m ck) (by go_simp) ?_
    simp only [Act.put, List.setIfInBounds_toArray, List.set_cons_zero, List.set_cons_succ]
    refine wpList_reads (by kernel_rfl) (.slice ab n cb) (by go_simp) ?_
    simp only [Act.put, List.setIfInBounds_toArray, List.set_cons_zero, List.set_cons_succ]
    refine wpList_enter (by kernel_rfl) 12 #[.slice ak m ck, .slice ab n cb] (by go_simp) (refMac_any _ _ k b w5 hk5.out hb5.out (by rw [← hm.out]; omega) (by rw [← hn.out]; omega)) ?_
    rintro e u6 ⟨n6, rfl⟩
    rw [hmv.out]
    obtain ⟨wa6, hw6⟩ : ∃ x, x = u6.alloc (.cells (encB (zb 32)) 25) := ⟨_, rfl⟩
    obtain ⟨g6, hg6⟩ : ∃ g, g = u6.heap.size := ⟨_, rfl⟩
    have ma6 : Mod (fun _ => False) u6 wa6 := by rw [hw6]; exact (Mod.refl _ _).alloc _
    have xa6 : wa6.heap[g6]? = some (.cells (encB (zb 32)) 25 (0,0)) := by rw [hw6]; exact hp_new _ _ _ hg6
    obtain ⟨w6, st6, na6, x6⟩ := bytes_store xa6 (s' := H) (by decide) hHl
    have m6 : Mod (fun _ => False) u6 w6 := ma6.trans' na6 (fun k hk h => by omega)
    replace hw6 := Lib.hid hw6
    replace hg6 := Lib.hid hg6
    replace x6 := Lib.hid x6
    clear ma6 xa6 na6
    have mm6 := n6.trans m6
    have hk6 := hk5.out.mod mm6 (fun _ _ h => h)
    replace hk6 := Lib.hid hk6
    have hb6 := hb5.out.mod mm6 (fun _ _ h => h)
    replace hb6 := Lib.hid hb6
    have tK6 := tK5.out.mod mm6 (fun _ h => h)
    replace tK6 := Lib.hid tK6
    have tT6 := tT5.out.mod mm6 (fun _ h => h)
    replace tT6 := Lib.hid tT6
    have z4_6 := mm6.heap y4_5.out (fun h => h)
    replace z4_6 := Lib.hid z4_6
    have y5_6 := mm6.heap x5.out (fun h => h)
    replace y5_6 := Lib.hid y5_6
    have m06 := m05.out.trans mm6
    replace m06 := Lib.hid m06
    clear n6 m6 mm6 hk5 hb5 tK5 tT5 m05
    refine ⟨_, rfl, ?_⟩
    simp only [Act.put, List.setIfInBounds_toArray, List.set_cons_zero, List.set_cons_succ]
    refine wpList_reads (by kernel_rfl) (.tuple #[.agg (encB H), .int .i64 (E : Int)]) (by go_simp) ?_
    simp only [Act.put, List.setIfInBounds_toArray, List.set_cons_zero, List.set_cons_succ]
    refine wpList_reads (by kernel_rfl) (.agg (encB H)) (by go_simp) ?_
    simp only [Act.put, List.setIfInBounds_toArray, List.set_cons_zero, List.set_cons_succ]
    refine wpList_reads (by kernel_rfl) (.int .i64 (E : Int)) (by go_simp) ?_
    simp only [Act.put, List.setIfInBounds_toArray, List.set_cons_zero, List.set_cons_succ]
    refine wpList_yields (by kernel_rfl) _ _ (alloc_arr 25 _ zero32 _ _ _ rfl) ?_
    simp only [Act.put, List.setIfInBounds_toArray, List.set_cons_zero, List.set_cons_succ]
    rw [← hg6.out, ← hw6.out]
    refine wpList_store_to rfl _ _ _ rfl _ _ _ rfl rfl _ st6 ?_
    simp only [Act.put, List.setIfInBounds_toArray, List.set_cons_zero, List.set_cons_succ]
    refine wpList_reads (by kernel_rfl) (.int .i64 (E : Int)) (by go_simp) ?_
    simp only [Act.put, List.setIfInBounds_toArray, List.set_cons_zero, List.set_cons_succ]
    have l4 := bytes_load z4_6.out hHl
    have l5 := bytes_load y5_6.out hHl
    have l6 := bytes_load x6.out hHl
    go_upto_region 8 with (fail)
    refine wp_region_lit ?_
    refine wpList_reads (by kernel_rfl) (.agg (encB H)) (run_load_op rfl rfl l4) ?_
    simp only [Act.put, List.setIfInBounds_toArray, List.set_cons_zero, List.set_cons_succ]
    refine wpList_reads (by kernel_rfl) (.agg (encB H)) (run_load_op rfl rfl l6) ?_
    simp only [Act.put, List.setIfInBounds_toArray, List.set_cons_zero, List.set_cons_succ]
    refine wpList_reads (by kernel_rfl) (.bool true) (by rw [show Value.bool true = .bool (decide (H = H)) by simp]; exact run_eql32_op rfl rfl rfl hHl hHl) ?_
    simp only [Act.put, List.setIfInBounds_toArray, List.set_cons_zero, List.set_cons_succ]
    refine wpList_reads (by kernel_rfl) (.bool true) (by go_simp) ?_
    simp only [Act.put, List.setIfInBounds_toArray, List.set_cons_zero, List.set_cons_succ]
    refine wpList_reads (by kernel_rfl) (.int .i64 (E : Int)) (by go_simp) ?_
    simp only [Act.put, List.setIfInBounds_toArray, List.set_cons_zero, List.set_cons_succ]
    refine wpList_reads (by kernel_rfl) (.int .i64 (E : Int)) (by go_simp) ?_
    simp only [Act.put, List.setIfInBounds_toArray, List.set_cons_zero, List.set_cons_succ]
    refine wpList_reads (by kernel_rfl) (.bool true) (by go_simp) ?_
    simp only [Act.put, List.setIfInBounds_toArray, List.set_cons_zero, List.set_cons_succ]
    refine wpList_reads (by kernel_rfl) (.bool true) (by go_simp) ?_
    simp only [Act.put, List.setIfInBounds_toArray, List.set_cons_zero, List.set_cons_succ]
    refine wpList_reads (by kernel_rfl) (.bool true) (by go_simp) ?_
    simp only [Act.put, List.setIfInBounds_toArray, List.set_cons_zero, List.set_cons_succ]
    refine wpList_reads (by kernel_rfl) (.agg (encB H)) (run_load_op rfl rfl l5) ?_
    simp only [Act.put, List.setIfInBounds_toArray, List.set_cons_zero, List.set_cons_succ]
    refine wpList_reads (by kernel_rfl) (.agg (encB H)) (run_load_op rfl rfl l6) ?_
    simp only [Act.put, List.setIfInBounds_toArray, List.set_cons_zero, List.set_cons_succ]
    refine wpList_reads (by kernel_rfl) (.bool true) (by rw [show Value.bool true = .bool (decide (H = H)) by simp]; exact run_eql32_op rfl rfl rfl hHl hHl) ?_
    simp only [Act.put, List.setIfInBounds_toArray, List.set_cons_zero, List.set_cons_succ]
    refine wpList_reads (by kernel_rfl) (.bool true) (by go_simp) ?_
    simp only [Act.put, List.setIfInBounds_toArray, List.set_cons_zero, List.set_cons_succ]
    refine wpList_reads (by kernel_rfl) (.bool true) (by go_simp) ?_
    simp only [Act.put, List.setIfInBounds_toArray, List.set_cons_zero, List.set_cons_succ]
    refine wpList_reads (by kernel_rfl) (.int .i64 (E : Int)) (by go_simp) ?_
    simp only [Act.put, List.setIfInBounds_toArray, List.set_cons_zero, List.set_cons_succ]
    refine wpList_reads (by kernel_rfl) (.int .i64 (E : Int)) (by go_simp) ?_
    simp only [Act.put, List.setIfInBounds_toArray, List.set_cons_zero, List.set_cons_succ]
    refine wpList_reads (by kernel_rfl) (.bool true) (by go_simp) ?_
    simp only [Act.put, List.setIfInBounds_toArray, List.set_cons_zero, List.set_cons_succ]
    refine wpList_reads (by kernel_rfl) (.bool true) (by go_simp) ?_
    simp only [Act.put, List.setIfInBounds_toArray, List.set_cons_zero, List.set_cons_succ]
    refine wpList_reads (by kernel_rfl) (.bool true) (by go_simp) ?_
    simp only [Act.put, List.setIfInBounds_toArray, List.set_cons_zero, List.set_cons_succ]
    refine wpList_reads (by kernel_rfl) (.slice (some ⟨gK, 0, none⟩) m (m + 1)) (by go_simp) ?_
    simp only [Act.put, List.setIfInBounds_toArray, List.set_cons_zero, List.set_cons_succ]
    refine wpList_reads (by kernel_rfl) (.slice ak m ck) (by go_simp) ?_
    simp only [Act.put, List.setIfInBounds_toArray, List.set_cons_zero, List.set_cons_succ]
    refine wpList_enter (by kernel_rfl) 13 #[.slice (some ⟨gK, 0, none⟩) m (m + 1), .slice ak m ck] (by go_simp) (left_any _ _ k w6 tK6.out hk6.out (by have := hml.out; have := hm.out; omega)) ?_
    rintro e w7 ⟨m7, rfl⟩
    have tT7 := tT6.out.mod m7 (fun _ h => h)
    have hb7 := hb6.out.mod m7 (fun _ _ h => h)
    have m07 := m06.out.trans m7
    replace m07 := Lib.hid m07
    clear m7 l4 l5 l6
    refine ⟨_, rfl, ?_⟩
    simp only [Act.put, List.setIfInBounds_toArray, List.set_cons_zero, List.set_cons_succ]
    refine wpList_reads (by kernel_rfl) (.bool true) (by go_simp) ?_
    simp only [Act.put, List.setIfInBounds_toArray, List.set_cons_zero, List.set_cons_succ]
    refine wpList_reads (by kernel_rfl) (.bool true) (by go_simp) ?_
    simp only [Act.put, List.setIfInBounds_toArray, List.set_cons_zero, List.set_cons_succ]
    refine wpList_reads (by kernel_rfl) (.slice (some ⟨gT, 0, none⟩) n (n + 1)) (by go_simp) ?_
    simp only [Act.put, List.setIfInBounds_toArray, List.set_cons_zero, List.set_cons_succ]
    refine wpList_reads (by kernel_rfl) (.slice ab n cb) (by go_simp) ?_
    simp only [Act.put, List.setIfInBounds_toArray, List.set_cons_zero, List.set_cons_succ]
    refine wpList_enter (by kernel_rfl) 13 #[.slice (some ⟨gT, 0, none⟩) n (n + 1), .slice ab n cb] (by go_simp) (left_any _ _ b w7 tT7 hb7 (by have := hnl.out; have := hn.out; omega)) ?_
    rintro e w8 ⟨m8, rfl⟩
    have mf := m07.out.trans m8
    replace mf := Lib.hid mf
    clear m8
    refine ⟨_, rfl, ?_⟩
    simp only [Act.put, List.setIfInBounds_toArray, List.set_cons_zero, List.set_cons_succ]
    refine wpList_reads (by kernel_rfl) (.bool true) (by go_simp) ?_
    simp only [Act.put, List.setIfInBounds_toArray, List.set_cons_zero, List.set_cons_succ]
    refine wpList_reads (by kernel_rfl) (.bool true) (by go_simp) ?_
    simp only [Act.put, List.setIfInBounds_toArray, List.set_cons_zero, List.set_cons_succ]
    go_wp2
    go_ret
    exact ⟨mf.out, rfl⟩
end Go.Proofs.Ythhbomiknikjpaa
