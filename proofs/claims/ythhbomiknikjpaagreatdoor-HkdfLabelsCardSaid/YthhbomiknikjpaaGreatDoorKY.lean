/-
  mailcoachlaw03.HkdfLabels. Printed by gen/hkX.py.
-/
import Derived.Test.YthhbomiknikjpaaGreatDoorKX
import Derived.Test.YthhbomiknikjpaaGreatDoorLG
namespace Go.Proofs.YthhbomiknikjpaaGreatDoor
set_option maxRecDepth 100000
open Go Go.RowKit Go.Lib
set_option linter.unusedSimpArgs false
set_option linter.unusedVariables false

theorem name_cells {w : World} {g : Nat} {a b c : Value} {t : TypeId} {fr : Nat × Nat} (h : w.heap[g]? = some (.cells #[a, b, c] t fr)) :
    w.cell? ⟨g, 0, none⟩ = some a ∧ w.cell? ⟨g, 1, none⟩ = some b ∧ w.cell? ⟨g, 2, none⟩ = some c := by
  unfold World.cell?
  simp only [h]
  exact ⟨rfl, rfl, rfl⟩
theorem load_str {w : World} {g off : Nat} {s : ByteArray} (h : w.cell? ⟨g, off, none⟩ = some (.string s)) : (loadVar 9 ⟨g, off, none⟩).run Tryz.prog w = .ok (.string s) w := by go_simp
theorem load_sl {w : World} {g off n cap : Nat} {ad : Option Addr} (h : w.cell? ⟨g, off, none⟩ = some (.slice ad n cap)) : (loadVar 22 ⟨g, off, none⟩).run Tryz.prog w = .ok (.slice ad n cap) w := by go_simp
theorem load_i {w : World} {g off : Nat} {n : Int} (h : w.cell? ⟨g, off, none⟩ = some (.int .i64 n)) : (loadVar 3 ⟨g, off, none⟩).run Tryz.prog w = .ok (.int .i64 n) w := by go_simp
theorem name_loads {w : World} {g : Nat} {s : ByteArray} {ad : Option Addr} {k cap : Nat} {n : Int} {t : TypeId} {fr : Nat × Nat} (h : w.heap[g]? = some (.cells #[.string s, .slice ad k cap, .int .i64 n] t fr)) :
    (loadVar 9 ⟨g, 0, none⟩).run Tryz.prog w = .ok (.string s) w ∧ (loadVar 22 ⟨g, 1, none⟩).run Tryz.prog w = .ok (.slice ad k cap) w ∧ (loadVar 3 ⟨g, 2, none⟩).run Tryz.prog w = .ok (.int .i64 n) w := by
  obtain ⟨h0, h1, h2⟩ := name_cells h
  exact ⟨load_str h0, load_sl h1, load_i h2⟩

def labX (k : List (BitVec 8)) (s : ByteArray) (c : List (BitVec 8)) (n : Int) : List (BitVec 8) := if 249 < s.size ∨ 255 < c.length ∨ n < 0 ∨ 8160 < n then [] else expandB (keyS k) (labelI s c n.toNat) n.toNat
def labE (s : ByteArray) (c : List (BitVec 8)) (n : Int) : Int := if 249 < s.size ∨ 255 < c.length ∨ n < 0 ∨ 8160 < n then 1 else 0
theorem labX_length (k : List (BitVec 8)) (s : ByteArray) (c : List (BitVec 8)) (n : Int) : (labX k s c n).length ≤ 8160 := by
  unfold labX
  split
  · simp
  · rw [expandB_length]; omega
theorem LabEnd.uni {k : List (BitVec 8)} {s : ByteArray} {c : List (BitVec 8)} {n : Int} {w w' : World} {e : Ending} (h : LabEnd k s c n w e w') :
    Mod (fun _ => False) w w' ∧ ∃ v, e = .returned (.tuple #[v, .int .i64 (labE s c n)]) ∧ w'.ownsRow w.heap.size 5 1 v (labX k s c n).length (bytesV (labX k s c n)) := by
  obtain ⟨m, h⟩ := h
  refine ⟨m, ?_⟩
  unfold labE labX
  by_cases h1 : 249 < s.size ∨ 255 < c.length ∨ n < 0 ∨ 8160 < n
  · rw [if_pos h1] at h
    rw [if_pos h1, if_pos h1]
    exact ⟨_, h, World.ownsRow_nil _ _ _ _⟩
  · rw [if_neg h1] at h
    rw [if_neg h1, if_neg h1]
    obtain ⟨v, h3, h4⟩ := h
    exact ⟨v, h3, by rw [expandB_length]; exact h4⟩

def labXG : List (BitVec 8) := []
def labEG (s : ByteArray) (c : List (BitVec 8)) (n : Int) : Int := if 249 < s.size ∨ 255 < c.length ∨ n < 0 ∨ 8160 < n then 1 else 3
theorem LabEndG.uni {k : List (BitVec 8)} {s : ByteArray} {c : List (BitVec 8)} {n : Int} {w w' : World} {e : Ending} (h : LabEndG k s c n w e w') :
    Mod (fun _ => False) w w' ∧ ∃ v, e = .returned (.tuple #[v, .int .i64 (labEG s c n)]) ∧ w'.ownsRow w.heap.size 5 1 v labXG.length (bytesV labXG) := by
  obtain ⟨m, h⟩ := h
  refine ⟨m, _, ?_, World.ownsRow_nil _ _ _ _⟩
  unfold labEG
  by_cases h1 : 249 < s.size ∨ 255 < c.length ∨ n < 0 ∨ 8160 < n
  · rw [if_pos h1] at h
    rw [if_pos h1]
    exact h
  · rw [if_neg h1] at h
    rw [if_neg h1]
    exact h

set_option maxRecDepth 100000 in
set_option maxHeartbeats 4000000 in
theorem labels_any (vk vi : Value) (s : ByteArray) (k c : List (BitVec 8)) (n : Int) (w : World) (hk : ByteAt w vk k) (hi : ByteAt w vi c) (hkl : k.length < 4611686018427387904) (hil : c.length < 4611686018427387904) (hsl : s.size < 4611686018427387904) (hn1 : -9223372036854775808 ≤ n) (hn2 : n ≤ 9223372036854775807) :
    Calls Tryz.prog 4 #[vk, .agg #[.string s, vi, .int .i64 n]] w fun e w' => Mod (fun _ => False) w w' ∧ e = .returned (.bool true) := by
  obtain ⟨ak, ck, rfl, _⟩ := hk.slice
  obtain ⟨ai, ci, rfl, _⟩ := hi.slice
  obtain ⟨m, hm⟩ : ∃ m, m = k.length := ⟨_, rfl⟩
  obtain ⟨p, hp⟩ : ∃ p, p = c.length := ⟨_, rfl⟩
  rw [← hm] at hk hkl ⊢
  rw [← hp] at hi hil ⊢
  have bm0 : (0 : Int) ≤ (m : Int) := by omega
  have bp0 : (0 : Int) ≤ (p : Int) := by omega
  replace hm := Lib.hid hm
  replace hp := Lib.hid hp
  obtain ⟨wn, hwn⟩ : ∃ x, x = w.alloc (.cells #[.string s, .slice ai p ci, .int .i64 n] 47) := ⟨_, rfl⟩
  obtain ⟨gn, hgn⟩ : ∃ g, g = w.heap.size := ⟨_, rfl⟩
  have mn : Mod (fun _ => False) w wn := by rw [hwn]; exact (Mod.refl _ _).alloc _
  have xn : wn.heap[gn]? = some (.cells #[.string s, .slice ai p ci, .int .i64 n] 47 (0,0)) := by rw [hwn]; exact hp_new _ _ _ hgn
  obtain ⟨wx, hwx⟩ : ∃ x, x = wn.alloc (.cells #[.slice ak m ck, .slice ai p ci] 22) := ⟨_, rfl⟩
  obtain ⟨gx, hgx⟩ : ∃ g, g = wn.heap.size := ⟨_, rfl⟩
  have mx1 : Mod (fun _ => False) wn wx := by rw [hwx]; exact (Mod.refl _ _).alloc _
  have mx := mn.trans mx1
  have xx : wx.heap[gx]? = some (.cells #[.slice ak m ck, .slice ai p ci] 22 (0,0)) := by rw [hwx]; exact hp_new _ _ _ hgx
  have xnx := mx1.heap xn (fun h => h)
  have hkx := hk.mod mx (fun _ _ h => h)
  have hix := hi.mod mx (fun _ _ h => h)
  obtain ⟨ln0, ln1, ln2⟩ := name_loads xn
  replace hwx := Lib.hid hwx
  replace hgx := Lib.hid hgx
  replace hwn := Lib.hid hwn
  replace hgn := Lib.hid hgn
  replace hsl := Lib.hid hsl
  clear hk hi mx1 mn xn
  go_enter Tryz.func4, Tryz.ntmps4
  go_upto_region 0 with (fail)
  refine wp_region_lit ?_
  refine wpList_yields (by kernel_rfl) (.pointer (some ⟨gn, 0, none⟩)) wn (by rw [hwn.out, hgn.out]; go_simp) ?_
  simp only [Act.put, List.setIfInBounds_toArray, List.set_cons_succ, List.set_cons_zero]
  refine wpList_reads (by kernel_rfl) (.bool false) (by go_simp) ?_
  simp only [Act.put, List.setIfInBounds_toArray, List.set_cons_succ, List.set_cons_zero]
  go_upto_region 1 with (fail)
  refine wp_region_lit ?_
  refine wpList_reads (by kernel_rfl) (.slice ak m ck) (by go_simp) ?_
  simp only [Act.put, List.setIfInBounds_toArray, List.set_cons_zero, List.set_cons_succ]
  refine wpList_reads (by kernel_rfl) (.pointer (some ⟨gn, 1, none⟩)) (by go_simp) ?_
  simp only [Act.put, List.setIfInBounds_toArray, List.set_cons_zero, List.set_cons_succ]
  refine wpList_reads (by kernel_rfl) (.slice ai p ci) (run_load_op rfl rfl ln1) ?_
  simp only [Act.put, List.setIfInBounds_toArray, List.set_cons_zero, List.set_cons_succ]
  clear ln0 ln1 ln2
  refine wpList_yields (by kernel_rfl) (.slice (some ⟨gx, 0, none⟩) 2 2) wx (by rw [hwx.out, hgx.out]; go_simp) ?_
  simp only [Act.put, List.setIfInBounds_toArray, List.set_cons_zero, List.set_cons_succ]
  refine wpList_enter (by kernel_rfl) 5 #[.slice (some ⟨gx, 0, none⟩) 2 2] (by go_simp) (great_any2 gx ak ai m p ck ci _ wx xx hkl hil) ?_
  rintro e w1 ⟨m1, rfl⟩
  have hk1 := hkx.mod m1 (fun _ _ h => h)
  have hi1 := hix.mod m1 (fun _ _ h => h)
  have xn1 := m1.heap xnx (fun h => h)
  have m0w1 := mx.trans m1
  replace hk1 := Lib.hid hk1
  replace hi1 := Lib.hid hi1
  replace xn1 := Lib.hid xn1
  replace m0w1 := Lib.hid m0w1
  clear hkx hix mx m1 xx xnx
  refine ⟨_, rfl, ?_⟩
  simp only [Act.put, List.setIfInBounds_toArray, List.set_cons_zero, List.set_cons_succ]
  by_cases hgr : 3145728 < m + p
  · rw [show decide (3145728 < m + p) = true by rw [decide_eq_true_iff]; exact hgr]
    replace hgr := Lib.hid hgr
    go_wp2
    go_ret
    exact ⟨m0w1.out, rfl⟩
  · rw [show decide (3145728 < m + p) = false by rw [decide_eq_false_iff_not]; exact hgr]
    have hml : m ≤ 3145728 := by omega
    have hpl : p ≤ 3145728 := by omega
    replace hgr := Lib.hid hgr
    replace hml := Lib.hid hml
    replace hpl := Lib.hid hpl
    by_cases hn5 : 5000 < m
    · have hd1 : decide ((5000 : Int) < (m : Int)) = true := by rw [decide_eq_true_iff]; omega
      by_cases hm6 : m ≤ 1048576
      · have hd2 : decide ((m : Int) ≤ (1048576 : Int)) = true := by rw [decide_eq_true_iff]; omega
        go_wp2
        go_ret
        exact ⟨m0w1.out, rfl⟩
      · have hd2 : decide ((m : Int) ≤ (1048576 : Int)) = false := by rw [decide_eq_false_iff_not]; omega
        have hkm : 1048576 < k.length := by rw [← hm.out]; omega
        replace hkm := Lib.hid hkm
        replace hn5 := Lib.hid hn5
        replace hm6 := Lib.hid hm6
        go_upto_region 3 with (fail)
        refine wp_region_lit ?_
        refine wpList_reads (by kernel_rfl) (.slice ak m ck) (by go_simp) ?_
        simp only [Act.put, List.setIfInBounds_toArray, List.set_cons_zero, List.set_cons_succ]
        refine wpList_enter (by kernel_rfl) 6 #[.slice ak m ck] (by go_simp) (twin_any _ k w1 hk1.out (by rw [← hm.out]; have := hml.out; omega)) ?_
        rintro e w2 ⟨m2, vK, rfl, tK2⟩
        have hk2 := hk1.out.mod m2 (fun _ _ h => h)
        have hi2 := hi1.out.mod m2 (fun _ _ h => h)
        have m0w2 := m0w1.out.trans m2
        obtain ⟨gK, hvK⟩ : ∃ g, vK = .slice (some ⟨g, 0, none⟩) m (m + 1) := by obtain ⟨g, h, _⟩ := tK2; exact ⟨g, by rw [h, hm.out]⟩
        subst hvK
        replace hk2 := Lib.hid hk2
        replace hi2 := Lib.hid hi2
        replace m0w2 := Lib.hid m0w2
        replace tK2 := Lib.hid tK2
        have xn2 := m2.heap xn1.out (fun h => h)
        replace xn2 := Lib.hid xn2
        clear xn1
        clear m2 hk1 hi1 m0w1
        refine ⟨_, rfl, ?_⟩
        simp only [Act.put, List.setIfInBounds_toArray, List.set_cons_zero, List.set_cons_succ]
        refine wpList_reads (by kernel_rfl) (.slice (some ⟨gK, 0, none⟩) m (m + 1)) (by go_simp) ?_
        simp only [Act.put, List.setIfInBounds_toArray, List.set_cons_zero, List.set_cons_succ]
        go_upto_region 4 with (fail)
        refine wp_region_lit ?_
        refine wpList_reads (by kernel_rfl) (.pointer (some ⟨gn, 1, none⟩)) (by go_simp) ?_
        simp only [Act.put, List.setIfInBounds_toArray, List.set_cons_zero, List.set_cons_succ]
        refine wpList_reads (by kernel_rfl) (.slice ai p ci) (run_load_op rfl rfl (name_loads xn2.out).2.1) ?_
        simp only [Act.put, List.setIfInBounds_toArray, List.set_cons_zero, List.set_cons_succ]
        refine wpList_enter (by kernel_rfl) 6 #[.slice ai p ci] (by go_simp) (twin_any _ c w2 hi2.out (by rw [← hp.out]; have := hpl.out; omega)) ?_
        rintro e w3 ⟨m3, vT, rfl, tT3⟩
        have hk3 := hk2.out.mod m3 (fun _ _ h => h)
        have hi3 := hi2.out.mod m3 (fun _ _ h => h)
        have m0w3 := m0w2.out.trans m3
        have tK3 := tK2.out.mod m3 (fun _ h => h)
        obtain ⟨gT, hvT⟩ : ∃ g, vT = .slice (some ⟨g, 0, none⟩) p (p + 1) := by obtain ⟨g, h, _⟩ := tT3; exact ⟨g, by rw [h, hp.out]⟩
        subst hvT
        replace hk3 := Lib.hid hk3
        replace hi3 := Lib.hid hi3
        replace m0w3 := Lib.hid m0w3
        replace tK3 := Lib.hid tK3
        replace tT3 := Lib.hid tT3
        have xn3 := m3.heap xn2.out (fun h => h)
        replace xn3 := Lib.hid xn3
        clear xn2
        clear m3 hk2 hi2 m0w2 tK2
        refine ⟨_, rfl, ?_⟩
        simp only [Act.put, List.setIfInBounds_toArray, List.set_cons_zero, List.set_cons_succ]
        refine wpList_reads (by kernel_rfl) (.slice (some ⟨gT, 0, none⟩) p (p + 1)) (by go_simp) ?_
        simp only [Act.put, List.setIfInBounds_toArray, List.set_cons_zero, List.set_cons_succ]
        obtain ⟨lq0, lq1, lq2⟩ := name_loads xn3.out
        go_upto_region 5 with (fail)
        refine wp_region_lit ?_
        refine wpList_reads (by kernel_rfl) (.slice (some ⟨gK, 0, none⟩) m (m + 1)) (by go_simp) ?_
        simp only [Act.put, List.setIfInBounds_toArray, List.set_cons_zero, List.set_cons_succ]
        refine wpList_reads (by kernel_rfl) (.pointer (some ⟨gn, 0, none⟩)) (by go_simp) ?_
        simp only [Act.put, List.setIfInBounds_toArray, List.set_cons_zero, List.set_cons_succ]
        refine wpList_reads (by kernel_rfl) (.string s) (run_load_op rfl rfl lq0) ?_
        simp only [Act.put, List.setIfInBounds_toArray, List.set_cons_zero, List.set_cons_succ]
        refine wpList_reads (by kernel_rfl) (.slice (some ⟨gT, 0, none⟩) p (p + 1)) (by go_simp) ?_
        simp only [Act.put, List.setIfInBounds_toArray, List.set_cons_zero, List.set_cons_succ]
        refine wpList_reads (by kernel_rfl) (.pointer (some ⟨gn, 2, none⟩)) (by go_simp) ?_
        simp only [Act.put, List.setIfInBounds_toArray, List.set_cons_zero, List.set_cons_succ]
        refine wpList_reads (by kernel_rfl) (.int .i64 n) (run_load_op rfl rfl lq2) ?_
        simp only [Act.put, List.setIfInBounds_toArray, List.set_cons_zero, List.set_cons_succ]
        clear lq0 lq1 lq2
        refine wpList_enter (by kernel_rfl) 13 #[.slice (some ⟨gK, 0, none⟩) m (m + 1), .string s, .slice (some ⟨gT, 0, none⟩) p (p + 1), .int .i64 n] (by go_simp) (labelG_any _ _ s k c n w3 tK3.out.byteAt tT3.out.byteAt (by rw [← hm.out]; have := hml.out; omega) hkm.out (by rw [← hp.out]; have := hpl.out; omega) hsl.out hn1 hn2) ?_
        rintro e w4 h4
        obtain ⟨m4, va, rfl, ow4⟩ := h4.uni
        have xn4 := m4.heap xn3.out (fun h => h)
        replace xn4 := Lib.hid xn4
        clear xn3
        obtain ⟨X, hX⟩ : ∃ X, X = labXG := ⟨_, rfl⟩
        obtain ⟨E, hE⟩ : ∃ E, E = labEG s c n := ⟨_, rfl⟩
        have hXl : X.length ≤ 8160 := by rw [hX]; exact (by simp [labXG])
        replace hXl := Lib.hid hXl
        rw [← hX] at ow4
        rw [← hE]
        have hk4 := hk3.out.mod m4 (fun _ _ h => h)
        replace hk4 := Lib.hid hk4
        have hi4 := hi3.out.mod m4 (fun _ _ h => h)
        replace hi4 := Lib.hid hi4
        have tK4 := tK3.out.mod m4 (fun _ h => h)
        replace tK4 := Lib.hid tK4
        have tT4 := tT3.out.mod m4 (fun _ h => h)
        replace tT4 := Lib.hid tT4
        have m0w4 := m0w3.out.trans m4
        have owa4 := ownsRow_base0 ow4 m0w3.out.size
        replace m0w4 := Lib.hid m0w4
        clear h4 m4 ow4 hk3 hi3 tK3 tT3 m0w3
        refine ⟨_, rfl, ?_⟩
        simp only [Act.put, List.setIfInBounds_toArray, List.set_cons_zero, List.set_cons_succ]
        refine wpList_reads (by kernel_rfl) (.tuple #[va, .int .i64 E]) (by go_simp) ?_
        simp only [Act.put, List.setIfInBounds_toArray, List.set_cons_zero, List.set_cons_succ]
        refine wpList_reads (by kernel_rfl) (va) (by go_simp) ?_
        simp only [Act.put, List.setIfInBounds_toArray, List.set_cons_zero, List.set_cons_succ]
        refine wpList_reads (by kernel_rfl) (.int .i64 E) (by go_simp) ?_
        simp only [Act.put, List.setIfInBounds_toArray, List.set_cons_zero, List.set_cons_succ]
        refine wpList_reads (by kernel_rfl) (va) (by go_simp) ?_
        simp only [Act.put, List.setIfInBounds_toArray, List.set_cons_zero, List.set_cons_succ]
        refine wpList_reads (by kernel_rfl) (.int .i64 E) (by go_simp) ?_
        simp only [Act.put, List.setIfInBounds_toArray, List.set_cons_zero, List.set_cons_succ]
        obtain ⟨lq0, lq1, lq2⟩ := name_loads xn4.out
        go_upto_region 6 with (fail)
        refine wp_region_lit ?_
        refine wpList_reads (by kernel_rfl) (.slice (some ⟨gK, 0, none⟩) m (m + 1)) (by go_simp) ?_
        simp only [Act.put, List.setIfInBounds_toArray, List.set_cons_zero, List.set_cons_succ]
        refine wpList_reads (by kernel_rfl) (.pointer (some ⟨gn, 0, none⟩)) (by go_simp) ?_
        simp only [Act.put, List.setIfInBounds_toArray, List.set_cons_zero, List.set_cons_succ]
        refine wpList_reads (by kernel_rfl) (.string s) (run_load_op rfl rfl lq0) ?_
        simp only [Act.put, List.setIfInBounds_toArray, List.set_cons_zero, List.set_cons_succ]
        refine wpList_reads (by kernel_rfl) (.slice (some ⟨gT, 0, none⟩) p (p + 1)) (by go_simp) ?_
        simp only [Act.put, List.setIfInBounds_toArray, List.set_cons_zero, List.set_cons_succ]
        refine wpList_reads (by kernel_rfl) (.pointer (some ⟨gn, 2, none⟩)) (by go_simp) ?_
        simp only [Act.put, List.setIfInBounds_toArray, List.set_cons_zero, List.set_cons_succ]
        refine wpList_reads (by kernel_rfl) (.int .i64 n) (run_load_op rfl rfl lq2) ?_
        simp only [Act.put, List.setIfInBounds_toArray, List.set_cons_zero, List.set_cons_succ]
        clear lq0 lq1 lq2
        refine wpList_enter (by kernel_rfl) 13 #[.slice (some ⟨gK, 0, none⟩) m (m + 1), .string s, .slice (some ⟨gT, 0, none⟩) p (p + 1), .int .i64 n] (by go_simp) (labelG_any _ _ s k c n w4 tK4.out.byteAt tT4.out.byteAt (by rw [← hm.out]; have := hml.out; omega) hkm.out (by rw [← hp.out]; have := hpl.out; omega) hsl.out hn1 hn2) ?_
        rintro e w5 h5
        obtain ⟨m5, vb, rfl, ow5⟩ := h5.uni
        have xn5 := m5.heap xn4.out (fun h => h)
        replace xn5 := Lib.hid xn5
        clear xn4
        rw [← hX] at ow5
        rw [← hE]
        have hk5 := hk4.out.mod m5 (fun _ _ h => h)
        replace hk5 := Lib.hid hk5
        have hi5 := hi4.out.mod m5 (fun _ _ h => h)
        replace hi5 := Lib.hid hi5
        have tK5 := tK4.out.mod m5 (fun _ h => h)
        replace tK5 := Lib.hid tK5
        have tT5 := tT4.out.mod m5 (fun _ h => h)
        replace tT5 := Lib.hid tT5
        have m0w5 := m0w4.out.trans m5
        have owa5 := ownsRow_keep0 owa4 m5
        have owb5 := ownsRow_base0 ow5 m0w4.out.size
        have hab : ∀ k, va.ownBlock = some k → vb.ownBlock = some k → False := fun k h1 h2 => by have h3 := (ownsRow_in owa4 h1).2; have h4 := (ownsRow_in ow5 h2).1; omega
        replace hab := Lib.hid hab
        clear owa4
        replace m0w5 := Lib.hid m0w5
        clear h5 m5 ow5 hk4 hi4 tK4 tT4 m0w4
        refine ⟨_, rfl, ?_⟩
        simp only [Act.put, List.setIfInBounds_toArray, List.set_cons_zero, List.set_cons_succ]
        refine wpList_reads (by kernel_rfl) (.tuple #[vb, .int .i64 E]) (by go_simp) ?_
        simp only [Act.put, List.setIfInBounds_toArray, List.set_cons_zero, List.set_cons_succ]
        refine wpList_reads (by kernel_rfl) (vb) (by go_simp) ?_
        simp only [Act.put, List.setIfInBounds_toArray, List.set_cons_zero, List.set_cons_succ]
        refine wpList_reads (by kernel_rfl) (.int .i64 E) (by go_simp) ?_
        simp only [Act.put, List.setIfInBounds_toArray, List.set_cons_zero, List.set_cons_succ]
        refine wpList_reads (by kernel_rfl) (vb) (by go_simp) ?_
        simp only [Act.put, List.setIfInBounds_toArray, List.set_cons_zero, List.set_cons_succ]
        refine wpList_reads (by kernel_rfl) (.int .i64 E) (by go_simp) ?_
        simp only [Act.put, List.setIfInBounds_toArray, List.set_cons_zero, List.set_cons_succ]
        obtain ⟨lq0, lq1, lq2⟩ := name_loads xn5.out
        go_upto_region 7 with (fail)
        refine wp_region_lit ?_
        refine wpList_reads (by kernel_rfl) (.slice ak m ck) (by go_simp) ?_
        simp only [Act.put, List.setIfInBounds_toArray, List.set_cons_zero, List.set_cons_succ]
        refine wpList_reads (by kernel_rfl) (.pointer (some ⟨gn, 0, none⟩)) (by go_simp) ?_
        simp only [Act.put, List.setIfInBounds_toArray, List.set_cons_zero, List.set_cons_succ]
        refine wpList_reads (by kernel_rfl) (.string s) (run_load_op rfl rfl lq0) ?_
        simp only [Act.put, List.setIfInBounds_toArray, List.set_cons_zero, List.set_cons_succ]
        refine wpList_reads (by kernel_rfl) (.pointer (some ⟨gn, 1, none⟩)) (by go_simp) ?_
        simp only [Act.put, List.setIfInBounds_toArray, List.set_cons_zero, List.set_cons_succ]
        refine wpList_reads (by kernel_rfl) (.slice ai p ci) (run_load_op rfl rfl lq1) ?_
        simp only [Act.put, List.setIfInBounds_toArray, List.set_cons_zero, List.set_cons_succ]
        refine wpList_reads (by kernel_rfl) (.pointer (some ⟨gn, 2, none⟩)) (by go_simp) ?_
        simp only [Act.put, List.setIfInBounds_toArray, List.set_cons_zero, List.set_cons_succ]
        refine wpList_reads (by kernel_rfl) (.int .i64 n) (run_load_op rfl rfl lq2) ?_
        simp only [Act.put, List.setIfInBounds_toArray, List.set_cons_zero, List.set_cons_succ]
        clear lq0 lq1 lq2
        refine wpList_enter (by kernel_rfl) 14 #[.slice ak m ck, .string s, .slice ai p ci, .int .i64 n] (by go_simp) (reflabelG_any _ _ s k c n w5 hk5.out hi5.out (by rw [← hm.out]; have := hml.out; omega) hkm.out (by rw [← hp.out]; have := hpl.out; omega) hsl.out hn1 hn2) ?_
        rintro e w6 h6
        obtain ⟨m6, vw, rfl, ow6⟩ := h6.uni
        have xn6 := m6.heap xn5.out (fun h => h)
        replace xn6 := Lib.hid xn6
        clear xn5
        rw [← hX] at ow6
        rw [← hE]
        have hk6 := hk5.out.mod m6 (fun _ _ h => h)
        replace hk6 := Lib.hid hk6
        have hi6 := hi5.out.mod m6 (fun _ _ h => h)
        replace hi6 := Lib.hid hi6
        have tK6 := tK5.out.mod m6 (fun _ h => h)
        replace tK6 := Lib.hid tK6
        have tT6 := tT5.out.mod m6 (fun _ h => h)
        replace tT6 := Lib.hid tT6
        have m0w6 := m0w5.out.trans m6
        have owa6 := ownsRow_keep0 owa5 m6
        have owb6 := ownsRow_keep0 owb5 m6
        have bw6 := byteAt_of_own ow6
        replace hX := Lib.hid hX
        replace hE := Lib.hid hE
        clear owa5 owb5
        replace m0w6 := Lib.hid m0w6
        clear h6 m6 ow6 hk5 hi5 tK5 tT5 m0w5
        refine ⟨_, rfl, ?_⟩
        simp only [Act.put, List.setIfInBounds_toArray, List.set_cons_zero, List.set_cons_succ]
        refine wpList_reads (by kernel_rfl) (.tuple #[vw, .int .i64 E]) (by go_simp) ?_
        simp only [Act.put, List.setIfInBounds_toArray, List.set_cons_zero, List.set_cons_succ]
        refine wpList_reads (by kernel_rfl) (vw) (by go_simp) ?_
        simp only [Act.put, List.setIfInBounds_toArray, List.set_cons_zero, List.set_cons_succ]
        refine wpList_reads (by kernel_rfl) (.int .i64 E) (by go_simp) ?_
        simp only [Act.put, List.setIfInBounds_toArray, List.set_cons_zero, List.set_cons_succ]
        refine wpList_reads (by kernel_rfl) (vw) (by go_simp) ?_
        simp only [Act.put, List.setIfInBounds_toArray, List.set_cons_zero, List.set_cons_succ]
        refine wpList_reads (by kernel_rfl) (.int .i64 E) (by go_simp) ?_
        simp only [Act.put, List.setIfInBounds_toArray, List.set_cons_zero, List.set_cons_succ]
        go_upto_region 8 with (fail)
        refine wp_region_lit ?_
        refine wpList_reads (by kernel_rfl) (va) (by go_simp) ?_
        simp only [Act.put, List.setIfInBounds_toArray, List.set_cons_zero, List.set_cons_succ]
        refine wpList_reads (by kernel_rfl) (vw) (by go_simp) ?_
        simp only [Act.put, List.setIfInBounds_toArray, List.set_cons_zero, List.set_cons_succ]
        refine wpList_enter (by kernel_rfl) 9 #[va, vw] (by go_simp) (same_any _ _ X X w6 (byteAt_of_own owa6) bw6 (by have := hXl.out; omega) (by have := hXl.out; omega)) ?_
        rintro e w7 ⟨m7, rfl⟩
        rw [show decide (X = X) = true by simp]
        have bw7 := bw6.mod m7 (fun _ _ h => h)
        have owb7 := ownsRow_keep0 owb6 m7
        have owa7 := ownsRow_keep0 owa6 m7
        refine ⟨_, rfl, ?_⟩
        simp only [Act.put, List.setIfInBounds_toArray, List.set_cons_zero, List.set_cons_succ]
        refine wpList_reads (by kernel_rfl) (.bool false) (by go_simp) ?_
        simp only [Act.put, List.setIfInBounds_toArray, List.set_cons_zero, List.set_cons_succ]
        refine wpList_reads (by kernel_rfl) (.bool false) (by go_simp) ?_
        simp only [Act.put, List.setIfInBounds_toArray, List.set_cons_zero, List.set_cons_succ]
        refine wpList_reads (by kernel_rfl) (vb) (by go_simp) ?_
        simp only [Act.put, List.setIfInBounds_toArray, List.set_cons_zero, List.set_cons_succ]
        refine wpList_reads (by kernel_rfl) (vw) (by go_simp) ?_
        simp only [Act.put, List.setIfInBounds_toArray, List.set_cons_zero, List.set_cons_succ]
        refine wpList_enter (by kernel_rfl) 9 #[vb, vw] (by go_simp) (same_any _ _ X X w7 (byteAt_of_own owb7) bw7 (by have := hXl.out; omega) (by have := hXl.out; omega)) ?_
        rintro e w8 ⟨m8, rfl⟩
        rw [show decide (X = X) = true by simp]
        have m68 := m7.trans m8
        have owb8 := ownsRow_keep0 owb7 m8
        have owa8 := ownsRow_keep0 owa7 m8
        have hk8 := hk6.out.mod m68 (fun _ _ h => h)
        have tK8 := tK6.out.mod m68 (fun _ h => h)
        have hi8 := hi6.out.mod m68 (fun _ _ h => h)
        have tT8 := tT6.out.mod m68 (fun _ h => h)
        have m0w8 := m0w6.out.trans m68
        have xn8 := m68.heap xn6.out (fun h => h)
        clear xn6
        have hEE : (E != E) = false := by simp
        clear m7 m8 m68 bw7 bw6 owb7 owa7 owb6 owa6 m0w6 hk6 hi6 tK6 tT6
        refine ⟨_, rfl, ?_⟩
        simp only [Act.put, List.setIfInBounds_toArray, List.set_cons_zero, List.set_cons_succ]
        refine wpList_reads (by kernel_rfl) (.bool false) (by go_simp) ?_
        simp only [Act.put, List.setIfInBounds_toArray, List.set_cons_zero, List.set_cons_succ]
        refine wpList_reads (by kernel_rfl) (.bool false) (by go_simp) ?_
        simp only [Act.put, List.setIfInBounds_toArray, List.set_cons_zero, List.set_cons_succ]
        refine wpList_reads (by kernel_rfl) (.bool false) (by go_simp) ?_
        simp only [Act.put, List.setIfInBounds_toArray, List.set_cons_zero, List.set_cons_succ]
        refine wpList_reads (by kernel_rfl) (.int .i64 E) (by go_simp) ?_
        simp only [Act.put, List.setIfInBounds_toArray, List.set_cons_zero, List.set_cons_succ]
        refine wpList_reads (by kernel_rfl) (.int .i64 E) (by go_simp) ?_
        simp only [Act.put, List.setIfInBounds_toArray, List.set_cons_zero, List.set_cons_succ]
        refine wpList_reads (by kernel_rfl) (.bool false) (by go_simp) ?_
        simp only [Act.put, List.setIfInBounds_toArray, List.set_cons_zero, List.set_cons_succ]
        refine wpList_reads (by kernel_rfl) (.bool false) (by go_simp) ?_
        simp only [Act.put, List.setIfInBounds_toArray, List.set_cons_zero, List.set_cons_succ]
        refine wpList_reads (by kernel_rfl) (.bool false) (by go_simp) ?_
        simp only [Act.put, List.setIfInBounds_toArray, List.set_cons_zero, List.set_cons_succ]
        refine wpList_reads (by kernel_rfl) (.slice (some ⟨gK, 0, none⟩) m (m + 1)) (by go_simp) ?_
        simp only [Act.put, List.setIfInBounds_toArray, List.set_cons_zero, List.set_cons_succ]
        refine wpList_reads (by kernel_rfl) (.slice ak m ck) (by go_simp) ?_
        simp only [Act.put, List.setIfInBounds_toArray, List.set_cons_zero, List.set_cons_succ]
        refine wpList_enter (by kernel_rfl) 10 #[.slice (some ⟨gK, 0, none⟩) m (m + 1), .slice ak m ck] (by go_simp) (left_any _ _ k w8 tK8 hk8 (by rw [← hm.out]; have := hml.out; omega)) ?_
        rintro e w9 ⟨m9, rfl⟩
        have hi9 := hi8.mod m9 (fun _ _ h => h)
        have tT9 := tT8.mod m9 (fun _ h => h)
        have owb9 := ownsRow_keep0 owb8 m9
        have owa9 := ownsRow_keep0 owa8 m9
        have m0w9 := m0w8.trans m9
        have xn9 := m9.heap xn8 (fun h => h)
        clear xn8
        clear m9 hi8 tT8 owb8 owa8 m0w8 hk8 tK8
        refine ⟨_, rfl, ?_⟩
        simp only [Act.put, List.setIfInBounds_toArray, List.set_cons_zero, List.set_cons_succ]
        refine wpList_reads (by kernel_rfl) (.bool false) (by go_simp) ?_
        simp only [Act.put, List.setIfInBounds_toArray, List.set_cons_zero, List.set_cons_succ]
        refine wpList_reads (by kernel_rfl) (.bool false) (by go_simp) ?_
        simp only [Act.put, List.setIfInBounds_toArray, List.set_cons_zero, List.set_cons_succ]
        refine wpList_reads (by kernel_rfl) (.bool false) (by go_simp) ?_
        simp only [Act.put, List.setIfInBounds_toArray, List.set_cons_zero, List.set_cons_succ]
        refine wpList_reads (by kernel_rfl) (.slice (some ⟨gT, 0, none⟩) p (p + 1)) (by go_simp) ?_
        simp only [Act.put, List.setIfInBounds_toArray, List.set_cons_zero, List.set_cons_succ]
        refine wpList_reads (by kernel_rfl) (.pointer (some ⟨gn, 1, none⟩)) (by go_simp) ?_
        simp only [Act.put, List.setIfInBounds_toArray, List.set_cons_zero, List.set_cons_succ]
        refine wpList_reads (by kernel_rfl) (.slice ai p ci) (run_load_op rfl rfl (name_loads xn9).2.1) ?_
        simp only [Act.put, List.setIfInBounds_toArray, List.set_cons_zero, List.set_cons_succ]
        refine wpList_enter (by kernel_rfl) 10 #[.slice (some ⟨gT, 0, none⟩) p (p + 1), .slice ai p ci] (by go_simp) (left_any _ _ c w9 tT9 hi9 (by rw [← hp.out]; have := hpl.out; omega)) ?_
        rintro e wA ⟨mA, rfl⟩
        have owb := ownsRow_keep0 owb9 mA
        have owa := ownsRow_keep0 owa9 mA
        have m0wA := m0w9.trans mA
        replace owa := Lib.hid owa
        replace owb := Lib.hid owb
        replace m0wA := Lib.hid m0wA
        clear mA owb9 owa9 m0w9 hi9 tT9 xn9
        refine ⟨_, rfl, ?_⟩
        simp only [Act.put, List.setIfInBounds_toArray, List.set_cons_zero, List.set_cons_succ]
        refine wpList_reads (by kernel_rfl) (.bool false) (by go_simp) ?_
        simp only [Act.put, List.setIfInBounds_toArray, List.set_cons_zero, List.set_cons_succ]
        refine wpList_reads (by kernel_rfl) (.bool false) (by go_simp) ?_
        simp only [Act.put, List.setIfInBounds_toArray, List.set_cons_zero, List.set_cons_succ]
        obtain ⟨wb, hwb⟩ : ∃ x, x = wA.alloc (.cells (bookC 0 (.slice none 0 0)).toArray 42) := ⟨_, rfl⟩
        obtain ⟨B, hB⟩ : ∃ g, g = wA.heap.size := ⟨_, rfl⟩
        have mb1 : Mod (fun _ => False) wA wb := by rw [hwb]; exact (Mod.refl _ _).alloc _
        have xb : bookAt wb B 0 (.slice none 0 0) := by rw [hwb]; exact hp_new _ _ _ hB
        obtain ⟨wc, sc, mc1, xc⟩ := book_store xb
        have mPc : Mod (fun _ => False) wA wc := mb1.trans' mc1 (fun k hk h => by omega)
        have m0c := m0wA.out.trans mPc
        have hBw : w.heap.size ≤ B := by rw [hB]; exact m0wA.out.size
        have owac := ownsRow_keep0 owa.out mPc
        have owbc := ownsRow_keep0 owb.out mPc
        have haB : ∀ k, (va).ownBlock = some k → k < B := fun k hk => by rw [hB]; exact (ownsRow_in owa.out hk).2
        have hbB : ∀ k, (vb).ownBlock = some k → k < B := fun k hk => by rw [hB]; exact (ownsRow_in owb.out hk).2
        have ok0 : BookOk wc w.heap.size B 0 (.slice none 0 0) (fun _ => .slice none 0 0) (fun _ => []) := BookOk.empty xc hBw _ _
        have hkeep := bytes_keep wc w.heap.size B 0 (.slice none 0 0) (fun _ => .slice none 0 0) (fun _ => []) ok0 (va) X owac (fun i hi => absurd hi (Nat.not_lt_zero i)) (fun h => by have := haB _ h; omega) (fun k h1 h2 => by cases h2) (by omega) (by have := hXl.out; omega)
        replace hwb := Lib.hid hwb
        replace hB := Lib.hid hB
        replace m0c := Lib.hid m0c
        replace owbc := Lib.hid owbc
        replace haB := Lib.hid haB
        replace hbB := Lib.hid hbB
        replace hBw := Lib.hid hBw
        clear mb1 xb mc1 xc mPc owac ok0 m0wA owa owb
        go_upto_region 10 with (fail)
        refine wp_region_lit ?_
        refine wpList_yields (by kernel_rfl) _ _ (build_book _ _ _ rfl) ?_
        simp only [Act.put, List.setIfInBounds_toArray, List.set_cons_succ, List.set_cons_zero]
        refine wpList_yields (by kernel_rfl) _ _ (alloc_book _ _ _ rfl) ?_
        simp only [Act.put, List.setIfInBounds_toArray, List.set_cons_succ, List.set_cons_zero]
        rw [← hB.out, ← hwb.out]
        refine wpList_store_to rfl _ _ _ rfl _ _ _ rfl rfl _ sc ?_
        simp only [Act.put, List.setIfInBounds_toArray, List.set_cons_succ, List.set_cons_zero]
        clear sc
        go_upto_region 11 with (fail)
        refine wp_region_lit ?_
        refine wpList_reads (by kernel_rfl) (va) (by go_simp) ?_
        simp only [Act.put, List.setIfInBounds_toArray, List.set_cons_zero, List.set_cons_succ]
        refine wpList_enter (by kernel_rfl) 11 #[.pointer (some ⟨B, 0, none⟩), va] (by go_simp) (hkeep) ?_
        rintro e wd ⟨rfl, md', vk, ok1, nk⟩
        have md : Mod (fun k => k = B) wc wd := md'.mono (fun k _ h => by rcases h with h | h; exact h; cases h)
        have owbd := ownsRow_block owbc.out md (fun k hk h => by have := hbB.out k hk; omega)
        have hvv2 : ∀ k, (vb).ownBlock = some k → vk.ownBlock = some k → False := by
          intro k h1 h2
          rcases nk k h2 with h3 | h3
          · cases h3
          · have := (ownsRow_in owbc.out h1).2; omega
        have hkeep2 := bytes_keep wd w.heap.size B 1 vk _ _ ok1 (vb) X owbd (book_two ok1 hab.out) (fun h => by have := hbB.out _ h; omega) hvv2 (by omega) (by have := hXl.out; omega)
        have m0d := m0c.out.trans' md (fun k hk h => by have := hBw.out; omega)
        have hvkw : ∀ k, vk.ownBlock = some k → w.heap.size ≤ k := fun k hk => (ownsRow_in ok1.own hk).1
        replace m0d := Lib.hid m0d
        replace hvkw := Lib.hid hvkw
        clear md' ok1 nk md owbd hvv2 hkeep
        refine ⟨_, rfl, ?_⟩
        simp only [Act.put, List.setIfInBounds_toArray, List.set_cons_succ, List.set_cons_zero]
        go_upto_region 12 with (fail)
        refine wp_region_lit ?_
        refine wpList_reads (by kernel_rfl) (vb) (by go_simp) ?_
        simp only [Act.put, List.setIfInBounds_toArray, List.set_cons_zero, List.set_cons_succ]
        refine wpList_enter (by kernel_rfl) 11 #[.pointer (some ⟨B, 0, none⟩), vb] (by go_simp) (hkeep2) ?_
        rintro e we ⟨rfl, me, vk2, ok2, nk2⟩
        have m0e := m0d.out.trans' me (fun k hk h => by
          rcases h with h | h
          · have := hBw.out; omega
          · have := hvkw.out k h; omega)
        replace m0e := Lib.hid m0e
        replace ok2 := Lib.hid ok2
        clear me nk2 hkeep2
        refine ⟨_, rfl, ?_⟩
        simp only [Act.put, List.setIfInBounds_toArray, List.set_cons_succ, List.set_cons_zero]
        go_upto_region 13 with (fail)
        refine wp_region_lit ?_
        refine wpList_enter (by kernel_rfl) 12 #[.pointer (some ⟨B, 0, none⟩)] (by go_simp) (apart_any we w.heap.size B 2 vk2 _ _ ok2.out) ?_
        rintro e wf ⟨rfl, mf'⟩
        have mf := m0e.out.trans' mf' (fun k hk h => by omega)
        replace mf := Lib.hid mf
        clear mf'
        refine ⟨_, rfl, ?_⟩
        simp only [Act.put, List.setIfInBounds_toArray, List.set_cons_succ, List.set_cons_zero]
        refine wpList_reads (by kernel_rfl) (.bool true) (by go_simp) ?_
        simp only [Act.put, List.setIfInBounds_toArray, List.set_cons_zero, List.set_cons_succ]
        go_wp2
        go_ret
        exact ⟨mf.out, rfl⟩
    · have hd1 : decide ((5000 : Int) < (m : Int)) = false := by rw [decide_eq_false_iff_not]; omega
      have hkm : k.length ≤ 1048576 := by rw [← hm.out]; omega
      replace hkm := Lib.hid hkm
      replace hn5 := Lib.hid hn5
      go_upto_region 3 with (fail)
      refine wp_region_lit ?_
      refine wpList_reads (by kernel_rfl) (.slice ak m ck) (by go_simp) ?_
      simp only [Act.put, List.setIfInBounds_toArray, List.set_cons_zero, List.set_cons_succ]
      refine wpList_enter (by kernel_rfl) 6 #[.slice ak m ck] (by go_simp) (twin_any _ k w1 hk1.out (by rw [← hm.out]; have := hml.out; omega)) ?_
      rintro e w2 ⟨m2, vK, rfl, tK2⟩
      have hk2 := hk1.out.mod m2 (fun _ _ h => h)
      have hi2 := hi1.out.mod m2 (fun _ _ h => h)
      have m0w2 := m0w1.out.trans m2
      obtain ⟨gK, hvK⟩ : ∃ g, vK = .slice (some ⟨g, 0, none⟩) m (m + 1) := by obtain ⟨g, h, _⟩ := tK2; exact ⟨g, by rw [h, hm.out]⟩
      subst hvK
      replace hk2 := Lib.hid hk2
      replace hi2 := Lib.hid hi2
      replace m0w2 := Lib.hid m0w2
      replace tK2 := Lib.hid tK2
      have xn2 := m2.heap xn1.out (fun h => h)
      replace xn2 := Lib.hid xn2
      clear xn1
      clear m2 hk1 hi1 m0w1
      refine ⟨_, rfl, ?_⟩
      simp only [Act.put, List.setIfInBounds_toArray, List.set_cons_zero, List.set_cons_succ]
      refine wpList_reads (by kernel_rfl) (.slice (some ⟨gK, 0, none⟩) m (m + 1)) (by go_simp) ?_
      simp only [Act.put, List.setIfInBounds_toArray, List.set_cons_zero, List.set_cons_succ]
      go_upto_region 4 with (fail)
      refine wp_region_lit ?_
      refine wpList_reads (by kernel_rfl) (.pointer (some ⟨gn, 1, none⟩)) (by go_simp) ?_
      simp only [Act.put, List.setIfInBounds_toArray, List.set_cons_zero, List.set_cons_succ]
      refine wpList_reads (by kernel_rfl) (.slice ai p ci) (run_load_op rfl rfl (name_loads xn2.out).2.1) ?_
      simp only [Act.put, List.setIfInBounds_toArray, List.set_cons_zero, List.set_cons_succ]
      refine wpList_enter (by kernel_rfl) 6 #[.slice ai p ci] (by go_simp) (twin_any _ c w2 hi2.out (by rw [← hp.out]; have := hpl.out; omega)) ?_
      rintro e w3 ⟨m3, vT, rfl, tT3⟩
      have hk3 := hk2.out.mod m3 (fun _ _ h => h)
      have hi3 := hi2.out.mod m3 (fun _ _ h => h)
      have m0w3 := m0w2.out.trans m3
      have tK3 := tK2.out.mod m3 (fun _ h => h)
      obtain ⟨gT, hvT⟩ : ∃ g, vT = .slice (some ⟨g, 0, none⟩) p (p + 1) := by obtain ⟨g, h, _⟩ := tT3; exact ⟨g, by rw [h, hp.out]⟩
      subst hvT
      replace hk3 := Lib.hid hk3
      replace hi3 := Lib.hid hi3
      replace m0w3 := Lib.hid m0w3
      replace tK3 := Lib.hid tK3
      replace tT3 := Lib.hid tT3
      have xn3 := m3.heap xn2.out (fun h => h)
      replace xn3 := Lib.hid xn3
      clear xn2
      clear m3 hk2 hi2 m0w2 tK2
      refine ⟨_, rfl, ?_⟩
      simp only [Act.put, List.setIfInBounds_toArray, List.set_cons_zero, List.set_cons_succ]
      refine wpList_reads (by kernel_rfl) (.slice (some ⟨gT, 0, none⟩) p (p + 1)) (by go_simp) ?_
      simp only [Act.put, List.setIfInBounds_toArray, List.set_cons_zero, List.set_cons_succ]
      obtain ⟨lq0, lq1, lq2⟩ := name_loads xn3.out
      go_upto_region 5 with (fail)
      refine wp_region_lit ?_
      refine wpList_reads (by kernel_rfl) (.slice (some ⟨gK, 0, none⟩) m (m + 1)) (by go_simp) ?_
      simp only [Act.put, List.setIfInBounds_toArray, List.set_cons_zero, List.set_cons_succ]
      refine wpList_reads (by kernel_rfl) (.pointer (some ⟨gn, 0, none⟩)) (by go_simp) ?_
      simp only [Act.put, List.setIfInBounds_toArray, List.set_cons_zero, List.set_cons_succ]
      refine wpList_reads (by kernel_rfl) (.string s) (run_load_op rfl rfl lq0) ?_
      simp only [Act.put, List.setIfInBounds_toArray, List.set_cons_zero, List.set_cons_succ]
      refine wpList_reads (by kernel_rfl) (.slice (some ⟨gT, 0, none⟩) p (p + 1)) (by go_simp) ?_
      simp only [Act.put, List.setIfInBounds_toArray, List.set_cons_zero, List.set_cons_succ]
      refine wpList_reads (by kernel_rfl) (.pointer (some ⟨gn, 2, none⟩)) (by go_simp) ?_
      simp only [Act.put, List.setIfInBounds_toArray, List.set_cons_zero, List.set_cons_succ]
      refine wpList_reads (by kernel_rfl) (.int .i64 n) (run_load_op rfl rfl lq2) ?_
      simp only [Act.put, List.setIfInBounds_toArray, List.set_cons_zero, List.set_cons_succ]
      clear lq0 lq1 lq2
      refine wpList_enter (by kernel_rfl) 13 #[.slice (some ⟨gK, 0, none⟩) m (m + 1), .string s, .slice (some ⟨gT, 0, none⟩) p (p + 1), .int .i64 n] (by go_simp) (label_any _ _ s k c n w3 tK3.out.byteAt tT3.out.byteAt hkm.out (by rw [← hp.out]; have := hpl.out; omega) hsl.out hn1 hn2) ?_
      rintro e w4 h4
      obtain ⟨m4, va, rfl, ow4⟩ := h4.uni
      have xn4 := m4.heap xn3.out (fun h => h)
      replace xn4 := Lib.hid xn4
      clear xn3
      obtain ⟨X, hX⟩ : ∃ X, X = labX k s c n := ⟨_, rfl⟩
      obtain ⟨E, hE⟩ : ∃ E, E = labE s c n := ⟨_, rfl⟩
      have hXl : X.length ≤ 8160 := by rw [hX]; exact labX_length _ _ _ _
      replace hXl := Lib.hid hXl
      rw [← hX] at ow4
      rw [← hE]
      have hk4 := hk3.out.mod m4 (fun _ _ h => h)
      replace hk4 := Lib.hid hk4
      have hi4 := hi3.out.mod m4 (fun _ _ h => h)
      replace hi4 := Lib.hid hi4
      have tK4 := tK3.out.mod m4 (fun _ h => h)
      replace tK4 := Lib.hid tK4
      have tT4 := tT3.out.mod m4 (fun _ h => h)
      replace tT4 := Lib.hid tT4
      have m0w4 := m0w3.out.trans m4
      have owa4 := ownsRow_base0 ow4 m0w3.out.size
      replace m0w4 := Lib.hid m0w4
      clear h4 m4 ow4 hk3 hi3 tK3 tT3 m0w3
      refine ⟨_, rfl, ?_⟩
      simp only [Act.put, List.setIfInBounds_toArray, List.set_cons_zero, List.set_cons_succ]
      refine wpList_reads (by kernel_rfl) (.tuple #[va, .int .i64 E]) (by go_simp) ?_
      simp only [Act.put, List.setIfInBounds_toArray, List.set_cons_zero, List.set_cons_succ]
      refine wpList_reads (by kernel_rfl) (va) (by go_simp) ?_
      simp only [Act.put, List.setIfInBounds_toArray, List.set_cons_zero, List.set_cons_succ]
      refine wpList_reads (by kernel_rfl) (.int .i64 E) (by go_simp) ?_
      simp only [Act.put, List.setIfInBounds_toArray, List.set_cons_zero, List.set_cons_succ]
      refine wpList_reads (by kernel_rfl) (va) (by go_simp) ?_
      simp only [Act.put, List.setIfInBounds_toArray, List.set_cons_zero, List.set_cons_succ]
      refine wpList_reads (by kernel_rfl) (.int .i64 E) (by go_simp) ?_
      simp only [Act.put, List.setIfInBounds_toArray, List.set_cons_zero, List.set_cons_succ]
      obtain ⟨lq0, lq1, lq2⟩ := name_loads xn4.out
      go_upto_region 6 with (fail)
      refine wp_region_lit ?_
      refine wpList_reads (by kernel_rfl) (.slice (some ⟨gK, 0, none⟩) m (m + 1)) (by go_simp) ?_
      simp only [Act.put, List.setIfInBounds_toArray, List.set_cons_zero, List.set_cons_succ]
      refine wpList_reads (by kernel_rfl) (.pointer (some ⟨gn, 0, none⟩)) (by go_simp) ?_
      simp only [Act.put, List.setIfInBounds_toArray, List.set_cons_zero, List.set_cons_succ]
      refine wpList_reads (by kernel_rfl) (.string s) (run_load_op rfl rfl lq0) ?_
      simp only [Act.put, List.setIfInBounds_toArray, List.set_cons_zero, List.set_cons_succ]
      refine wpList_reads (by kernel_rfl) (.slice (some ⟨gT, 0, none⟩) p (p + 1)) (by go_simp) ?_
      simp only [Act.put, List.setIfInBounds_toArray, List.set_cons_zero, List.set_cons_succ]
      refine wpList_reads (by kernel_rfl) (.pointer (some ⟨gn, 2, none⟩)) (by go_simp) ?_
      simp only [Act.put, List.setIfInBounds_toArray, List.set_cons_zero, List.set_cons_succ]
      refine wpList_reads (by kernel_rfl) (.int .i64 n) (run_load_op rfl rfl lq2) ?_
      simp only [Act.put, List.setIfInBounds_toArray, List.set_cons_zero, List.set_cons_succ]
      clear lq0 lq1 lq2
      refine wpList_enter (by kernel_rfl) 13 #[.slice (some ⟨gK, 0, none⟩) m (m + 1), .string s, .slice (some ⟨gT, 0, none⟩) p (p + 1), .int .i64 n] (by go_simp) (label_any _ _ s k c n w4 tK4.out.byteAt tT4.out.byteAt hkm.out (by rw [← hp.out]; have := hpl.out; omega) hsl.out hn1 hn2) ?_
      rintro e w5 h5
      obtain ⟨m5, vb, rfl, ow5⟩ := h5.uni
      have xn5 := m5.heap xn4.out (fun h => h)
      replace xn5 := Lib.hid xn5
      clear xn4
      rw [← hX] at ow5
      rw [← hE]
      have hk5 := hk4.out.mod m5 (fun _ _ h => h)
      replace hk5 := Lib.hid hk5
      have hi5 := hi4.out.mod m5 (fun _ _ h => h)
      replace hi5 := Lib.hid hi5
      have tK5 := tK4.out.mod m5 (fun _ h => h)
      replace tK5 := Lib.hid tK5
      have tT5 := tT4.out.mod m5 (fun _ h => h)
      replace tT5 := Lib.hid tT5
      have m0w5 := m0w4.out.trans m5
      have owa5 := ownsRow_keep0 owa4 m5
      have owb5 := ownsRow_base0 ow5 m0w4.out.size
      have hab : ∀ k, va.ownBlock = some k → vb.ownBlock = some k → False := fun k h1 h2 => by have h3 := (ownsRow_in owa4 h1).2; have h4 := (ownsRow_in ow5 h2).1; omega
      replace hab := Lib.hid hab
      clear owa4
      replace m0w5 := Lib.hid m0w5
      clear h5 m5 ow5 hk4 hi4 tK4 tT4 m0w4
      refine ⟨_, rfl, ?_⟩
      simp only [Act.put, List.setIfInBounds_toArray, List.set_cons_zero, List.set_cons_succ]
      refine wpList_reads (by kernel_rfl) (.tuple #[vb, .int .i64 E]) (by go_simp) ?_
      simp only [Act.put, List.setIfInBounds_toArray, List.set_cons_zero, List.set_cons_succ]
      refine wpList_reads (by kernel_rfl) (vb) (by go_simp) ?_
      simp only [Act.put, List.setIfInBounds_toArray, List.set_cons_zero, List.set_cons_succ]
      refine wpList_reads (by kernel_rfl) (.int .i64 E) (by go_simp) ?_
      simp only [Act.put, List.setIfInBounds_toArray, List.set_cons_zero, List.set_cons_succ]
      refine wpList_reads (by kernel_rfl) (vb) (by go_simp) ?_
      simp only [Act.put, List.setIfInBounds_toArray, List.set_cons_zero, List.set_cons_succ]
      refine wpList_reads (by kernel_rfl) (.int .i64 E) (by go_simp) ?_
      simp only [Act.put, List.setIfInBounds_toArray, List.set_cons_zero, List.set_cons_succ]
      obtain ⟨lq0, lq1, lq2⟩ := name_loads xn5.out
      go_upto_region 7 with (fail)
      refine wp_region_lit ?_
      refine wpList_reads (by kernel_rfl) (.slice ak m ck) (by go_simp) ?_
      simp only [Act.put, List.setIfInBounds_toArray, List.set_cons_zero, List.set_cons_succ]
      refine wpList_reads (by kernel_rfl) (.pointer (some ⟨gn, 0, none⟩)) (by go_simp) ?_
      simp only [Act.put, List.setIfInBounds_toArray, List.set_cons_zero, List.set_cons_succ]
      refine wpList_reads (by kernel_rfl) (.string s) (run_load_op rfl rfl lq0) ?_
      simp only [Act.put, List.setIfInBounds_toArray, List.set_cons_zero, List.set_cons_succ]
      refine wpList_reads (by kernel_rfl) (.pointer (some ⟨gn, 1, none⟩)) (by go_simp) ?_
      simp only [Act.put, List.setIfInBounds_toArray, List.set_cons_zero, List.set_cons_succ]
      refine wpList_reads (by kernel_rfl) (.slice ai p ci) (run_load_op rfl rfl lq1) ?_
      simp only [Act.put, List.setIfInBounds_toArray, List.set_cons_zero, List.set_cons_succ]
      refine wpList_reads (by kernel_rfl) (.pointer (some ⟨gn, 2, none⟩)) (by go_simp) ?_
      simp only [Act.put, List.setIfInBounds_toArray, List.set_cons_zero, List.set_cons_succ]
      refine wpList_reads (by kernel_rfl) (.int .i64 n) (run_load_op rfl rfl lq2) ?_
      simp only [Act.put, List.setIfInBounds_toArray, List.set_cons_zero, List.set_cons_succ]
      clear lq0 lq1 lq2
      refine wpList_enter (by kernel_rfl) 14 #[.slice ak m ck, .string s, .slice ai p ci, .int .i64 n] (by go_simp) (reflabel_any _ _ s k c n w5 hk5.out hi5.out hkm.out (by rw [← hp.out]; have := hpl.out; omega) hsl.out hn1 hn2) ?_
      rintro e w6 h6
      obtain ⟨m6, vw, rfl, ow6⟩ := h6.uni
      have xn6 := m6.heap xn5.out (fun h => h)
      replace xn6 := Lib.hid xn6
      clear xn5
      rw [← hX] at ow6
      rw [← hE]
      have hk6 := hk5.out.mod m6 (fun _ _ h => h)
      replace hk6 := Lib.hid hk6
      have hi6 := hi5.out.mod m6 (fun _ _ h => h)
      replace hi6 := Lib.hid hi6
      have tK6 := tK5.out.mod m6 (fun _ h => h)
      replace tK6 := Lib.hid tK6
      have tT6 := tT5.out.mod m6 (fun _ h => h)
      replace tT6 := Lib.hid tT6
      have m0w6 := m0w5.out.trans m6
      have owa6 := ownsRow_keep0 owa5 m6
      have owb6 := ownsRow_keep0 owb5 m6
      have bw6 := byteAt_of_own ow6
      replace hX := Lib.hid hX
      replace hE := Lib.hid hE
      clear owa5 owb5
      replace m0w6 := Lib.hid m0w6
      clear h6 m6 ow6 hk5 hi5 tK5 tT5 m0w5
      refine ⟨_, rfl, ?_⟩
      simp only [Act.put, List.setIfInBounds_toArray, List.set_cons_zero, List.set_cons_succ]
      refine wpList_reads (by kernel_rfl) (.tuple #[vw, .int .i64 E]) (by go_simp) ?_
      simp only [Act.put, List.setIfInBounds_toArray, List.set_cons_zero, List.set_cons_succ]
      refine wpList_reads (by kernel_rfl) (vw) (by go_simp) ?_
      simp only [Act.put, List.setIfInBounds_toArray, List.set_cons_zero, List.set_cons_succ]
      refine wpList_reads (by kernel_rfl) (.int .i64 E) (by go_simp) ?_
      simp only [Act.put, List.setIfInBounds_toArray, List.set_cons_zero, List.set_cons_succ]
      refine wpList_reads (by kernel_rfl) (vw) (by go_simp) ?_
      simp only [Act.put, List.setIfInBounds_toArray, List.set_cons_zero, List.set_cons_succ]
      refine wpList_reads (by kernel_rfl) (.int .i64 E) (by go_simp) ?_
      simp only [Act.put, List.setIfInBounds_toArray, List.set_cons_zero, List.set_cons_succ]
      go_upto_region 8 with (fail)
      refine wp_region_lit ?_
      refine wpList_reads (by kernel_rfl) (va) (by go_simp) ?_
      simp only [Act.put, List.setIfInBounds_toArray, List.set_cons_zero, List.set_cons_succ]
      refine wpList_reads (by kernel_rfl) (vw) (by go_simp) ?_
      simp only [Act.put, List.setIfInBounds_toArray, List.set_cons_zero, List.set_cons_succ]
      refine wpList_enter (by kernel_rfl) 9 #[va, vw] (by go_simp) (same_any _ _ X X w6 (byteAt_of_own owa6) bw6 (by have := hXl.out; omega) (by have := hXl.out; omega)) ?_
      rintro e w7 ⟨m7, rfl⟩
      rw [show decide (X = X) = true by simp]
      have bw7 := bw6.mod m7 (fun _ _ h => h)
      have owb7 := ownsRow_keep0 owb6 m7
      have owa7 := ownsRow_keep0 owa6 m7
      refine ⟨_, rfl, ?_⟩
      simp only [Act.put, List.setIfInBounds_toArray, List.set_cons_zero, List.set_cons_succ]
      refine wpList_reads (by kernel_rfl) (.bool false) (by go_simp) ?_
      simp only [Act.put, List.setIfInBounds_toArray, List.set_cons_zero, List.set_cons_succ]
      refine wpList_reads (by kernel_rfl) (.bool false) (by go_simp) ?_
      simp only [Act.put, List.setIfInBounds_toArray, List.set_cons_zero, List.set_cons_succ]
      refine wpList_reads (by kernel_rfl) (vb) (by go_simp) ?_
      simp only [Act.put, List.setIfInBounds_toArray, List.set_cons_zero, List.set_cons_succ]
      refine wpList_reads (by kernel_rfl) (vw) (by go_simp) ?_
      simp only [Act.put, List.setIfInBounds_toArray, List.set_cons_zero, List.set_cons_succ]
      refine wpList_enter (by kernel_rfl) 9 #[vb, vw] (by go_simp) (same_any _ _ X X w7 (byteAt_of_own owb7) bw7 (by have := hXl.out; omega) (by have := hXl.out; omega)) ?_
      rintro e w8 ⟨m8, rfl⟩
      rw [show decide (X = X) = true by simp]
      have m68 := m7.trans m8
      have owb8 := ownsRow_keep0 owb7 m8
      have owa8 := ownsRow_keep0 owa7 m8
      have hk8 := hk6.out.mod m68 (fun _ _ h => h)
      have tK8 := tK6.out.mod m68 (fun _ h => h)
      have hi8 := hi6.out.mod m68 (fun _ _ h => h)
      have tT8 := tT6.out.mod m68 (fun _ h => h)
      have m0w8 := m0w6.out.trans m68
      have xn8 := m68.heap xn6.out (fun h => h)
      clear xn6
      have hEE : (E != E) = false := by simp
      clear m7 m8 m68 bw7 bw6 owb7 owa7 owb6 owa6 m0w6 hk6 hi6 tK6 tT6
      refine ⟨_, rfl, ?_⟩
      simp only [Act.put, List.setIfInBounds_toArray, List.set_cons_zero, List.set_cons_succ]
      refine wpList_reads (by kernel_rfl) (.bool false) (by go_simp) ?_
      simp only [Act.put, List.setIfInBounds_toArray, List.set_cons_zero, List.set_cons_succ]
      refine wpList_reads (by kernel_rfl) (.bool false) (by go_simp) ?_
      simp only [Act.put, List.setIfInBounds_toArray, List.set_cons_zero, List.set_cons_succ]
      refine wpList_reads (by kernel_rfl) (.bool false) (by go_simp) ?_
      simp only [Act.put, List.setIfInBounds_toArray, List.set_cons_zero, List.set_cons_succ]
      refine wpList_reads (by kernel_rfl) (.int .i64 E) (by go_simp) ?_
      simp only [Act.put, List.setIfInBounds_toArray, List.set_cons_zero, List.set_cons_succ]
      refine wpList_reads (by kernel_rfl) (.int .i64 E) (by go_simp) ?_
      simp only [Act.put, List.setIfInBounds_toArray, List.set_cons_zero, List.set_cons_succ]
      refine wpList_reads (by kernel_rfl) (.bool false) (by go_simp) ?_
      simp only [Act.put, List.setIfInBounds_toArray, List.set_cons_zero, List.set_cons_succ]
      refine wpList_reads (by kernel_rfl) (.bool false) (by go_simp) ?_
      simp only [Act.put, List.setIfInBounds_toArray, List.set_cons_zero, List.set_cons_succ]
      refine wpList_reads (by kernel_rfl) (.bool false) (by go_simp) ?_
      simp only [Act.put, List.setIfInBounds_toArray, List.set_cons_zero, List.set_cons_succ]
      refine wpList_reads (by kernel_rfl) (.slice (some ⟨gK, 0, none⟩) m (m + 1)) (by go_simp) ?_
      simp only [Act.put, List.setIfInBounds_toArray, List.set_cons_zero, List.set_cons_succ]
      refine wpList_reads (by kernel_rfl) (.slice ak m ck) (by go_simp) ?_
      simp only [Act.put, List.setIfInBounds_toArray, List.set_cons_zero, List.set_cons_succ]
      refine wpList_enter (by kernel_rfl) 10 #[.slice (some ⟨gK, 0, none⟩) m (m + 1), .slice ak m ck] (by go_simp) (left_any _ _ k w8 tK8 hk8 (by rw [← hm.out]; have := hml.out; omega)) ?_
      rintro e w9 ⟨m9, rfl⟩
      have hi9 := hi8.mod m9 (fun _ _ h => h)
      have tT9 := tT8.mod m9 (fun _ h => h)
      have owb9 := ownsRow_keep0 owb8 m9
      have owa9 := ownsRow_keep0 owa8 m9
      have m0w9 := m0w8.trans m9
      have xn9 := m9.heap xn8 (fun h => h)
      clear xn8
      clear m9 hi8 tT8 owb8 owa8 m0w8 hk8 tK8
      refine ⟨_, rfl, ?_⟩
      simp only [Act.put, List.setIfInBounds_toArray, List.set_cons_zero, List.set_cons_succ]
      refine wpList_reads (by kernel_rfl) (.bool false) (by go_simp) ?_
      simp only [Act.put, List.setIfInBounds_toArray, List.set_cons_zero, List.set_cons_succ]
      refine wpList_reads (by kernel_rfl) (.bool false) (by go_simp) ?_
      simp only [Act.put, List.setIfInBounds_toArray, List.set_cons_zero, List.set_cons_succ]
      refine wpList_reads (by kernel_rfl) (.bool false) (by go_simp) ?_
      simp only [Act.put, List.setIfInBounds_toArray, List.set_cons_zero, List.set_cons_succ]
      refine wpList_reads (by kernel_rfl) (.slice (some ⟨gT, 0, none⟩) p (p + 1)) (by go_simp) ?_
      simp only [Act.put, List.setIfInBounds_toArray, List.set_cons_zero, List.set_cons_succ]
      refine wpList_reads (by kernel_rfl) (.pointer (some ⟨gn, 1, none⟩)) (by go_simp) ?_
      simp only [Act.put, List.setIfInBounds_toArray, List.set_cons_zero, List.set_cons_succ]
      refine wpList_reads (by kernel_rfl) (.slice ai p ci) (run_load_op rfl rfl (name_loads xn9).2.1) ?_
      simp only [Act.put, List.setIfInBounds_toArray, List.set_cons_zero, List.set_cons_succ]
      refine wpList_enter (by kernel_rfl) 10 #[.slice (some ⟨gT, 0, none⟩) p (p + 1), .slice ai p ci] (by go_simp) (left_any _ _ c w9 tT9 hi9 (by rw [← hp.out]; have := hpl.out; omega)) ?_
      rintro e wA ⟨mA, rfl⟩
      have owb := ownsRow_keep0 owb9 mA
      have owa := ownsRow_keep0 owa9 mA
      have m0wA := m0w9.trans mA
      replace owa := Lib.hid owa
      replace owb := Lib.hid owb
      replace m0wA := Lib.hid m0wA
      clear mA owb9 owa9 m0w9 hi9 tT9 xn9
      refine ⟨_, rfl, ?_⟩
      simp only [Act.put, List.setIfInBounds_toArray, List.set_cons_zero, List.set_cons_succ]
      refine wpList_reads (by kernel_rfl) (.bool false) (by go_simp) ?_
      simp only [Act.put, List.setIfInBounds_toArray, List.set_cons_zero, List.set_cons_succ]
      refine wpList_reads (by kernel_rfl) (.bool false) (by go_simp) ?_
      simp only [Act.put, List.setIfInBounds_toArray, List.set_cons_zero, List.set_cons_succ]
      obtain ⟨wb, hwb⟩ : ∃ x, x = wA.alloc (.cells (bookC 0 (.slice none 0 0)).toArray 42) := ⟨_, rfl⟩
      obtain ⟨B, hB⟩ : ∃ g, g = wA.heap.size := ⟨_, rfl⟩
      have mb1 : Mod (fun _ => False) wA wb := by rw [hwb]; exact (Mod.refl _ _).alloc _
      have xb : bookAt wb B 0 (.slice none 0 0) := by rw [hwb]; exact hp_new _ _ _ hB
      obtain ⟨wc, sc, mc1, xc⟩ := book_store xb
      have mPc : Mod (fun _ => False) wA wc := mb1.trans' mc1 (fun k hk h => by omega)
      have m0c := m0wA.out.trans mPc
      have hBw : w.heap.size ≤ B := by rw [hB]; exact m0wA.out.size
      have owac := ownsRow_keep0 owa.out mPc
      have owbc := ownsRow_keep0 owb.out mPc
      have haB : ∀ k, (va).ownBlock = some k → k < B := fun k hk => by rw [hB]; exact (ownsRow_in owa.out hk).2
      have hbB : ∀ k, (vb).ownBlock = some k → k < B := fun k hk => by rw [hB]; exact (ownsRow_in owb.out hk).2
      have ok0 : BookOk wc w.heap.size B 0 (.slice none 0 0) (fun _ => .slice none 0 0) (fun _ => []) := BookOk.empty xc hBw _ _
      have hkeep := bytes_keep wc w.heap.size B 0 (.slice none 0 0) (fun _ => .slice none 0 0) (fun _ => []) ok0 (va) X owac (fun i hi => absurd hi (Nat.not_lt_zero i)) (fun h => by have := haB _ h; omega) (fun k h1 h2 => by cases h2) (by omega) (by have := hXl.out; omega)
      replace hwb := Lib.hid hwb
      replace hB := Lib.hid hB
      replace m0c := Lib.hid m0c
      replace owbc := Lib.hid owbc
      replace haB := Lib.hid haB
      replace hbB := Lib.hid hbB
      replace hBw := Lib.hid hBw
      clear mb1 xb mc1 xc mPc owac ok0 m0wA owa owb
      go_upto_region 10 with (fail)
      refine wp_region_lit ?_
      refine wpList_yields (by kernel_rfl) _ _ (build_book _ _ _ rfl) ?_
      simp only [Act.put, List.setIfInBounds_toArray, List.set_cons_succ, List.set_cons_zero]
      refine wpList_yields (by kernel_rfl) _ _ (alloc_book _ _ _ rfl) ?_
      simp only [Act.put, List.setIfInBounds_toArray, List.set_cons_succ, List.set_cons_zero]
      rw [← hB.out, ← hwb.out]
      refine wpList_store_to rfl _ _ _ rfl _ _ _ rfl rfl _ sc ?_
      simp only [Act.put, List.setIfInBounds_toArray, List.set_cons_succ, List.set_cons_zero]
      clear sc
      go_upto_region 11 with (fail)
      refine wp_region_lit ?_
      refine wpList_reads (by kernel_rfl) (va) (by go_simp) ?_
      simp only [Act.put, List.setIfInBounds_toArray, List.set_cons_zero, List.set_cons_succ]
      refine wpList_enter (by kernel_rfl) 11 #[.pointer (some ⟨B, 0, none⟩), va] (by go_simp) (hkeep) ?_
      rintro e wd ⟨rfl, md', vk, ok1, nk⟩
      have md : Mod (fun k => k = B) wc wd := md'.mono (fun k _ h => by rcases h with h | h; exact h; cases h)
      have owbd := ownsRow_block owbc.out md (fun k hk h => by have := hbB.out k hk; omega)
      have hvv2 : ∀ k, (vb).ownBlock = some k → vk.ownBlock = some k → False := by
        intro k h1 h2
        rcases nk k h2 with h3 | h3
        · cases h3
        · have := (ownsRow_in owbc.out h1).2; omega
      have hkeep2 := bytes_keep wd w.heap.size B 1 vk _ _ ok1 (vb) X owbd (book_two ok1 hab.out) (fun h => by have := hbB.out _ h; omega) hvv2 (by omega) (by have := hXl.out; omega)
      have m0d := m0c.out.trans' md (fun k hk h => by have := hBw.out; omega)
      have hvkw : ∀ k, vk.ownBlock = some k → w.heap.size ≤ k := fun k hk => (ownsRow_in ok1.own hk).1
      replace m0d := Lib.hid m0d
      replace hvkw := Lib.hid hvkw
      clear md' ok1 nk md owbd hvv2 hkeep
      refine ⟨_, rfl, ?_⟩
      simp only [Act.put, List.setIfInBounds_toArray, List.set_cons_succ, List.set_cons_zero]
      go_upto_region 12 with (fail)
      refine wp_region_lit ?_
      refine wpList_reads (by kernel_rfl) (vb) (by go_simp) ?_
      simp only [Act.put, List.setIfInBounds_toArray, List.set_cons_zero, List.set_cons_succ]
      refine wpList_enter (by kernel_rfl) 11 #[.pointer (some ⟨B, 0, none⟩), vb] (by go_simp) (hkeep2) ?_
      rintro e we ⟨rfl, me, vk2, ok2, nk2⟩
      have m0e := m0d.out.trans' me (fun k hk h => by
        rcases h with h | h
        · have := hBw.out; omega
        · have := hvkw.out k h; omega)
      replace m0e := Lib.hid m0e
      replace ok2 := Lib.hid ok2
      clear me nk2 hkeep2
      refine ⟨_, rfl, ?_⟩
      simp only [Act.put, List.setIfInBounds_toArray, List.set_cons_succ, List.set_cons_zero]
      go_upto_region 13 with (fail)
      refine wp_region_lit ?_
      refine wpList_enter (by kernel_rfl) 12 #[.pointer (some ⟨B, 0, none⟩)] (by go_simp) (apart_any we w.heap.size B 2 vk2 _ _ ok2.out) ?_
      rintro e wf ⟨rfl, mf'⟩
      have mf := m0e.out.trans' mf' (fun k hk h => by omega)
      replace mf := Lib.hid mf
      clear mf'
      refine ⟨_, rfl, ?_⟩
      simp only [Act.put, List.setIfInBounds_toArray, List.set_cons_succ, List.set_cons_zero]
      refine wpList_reads (by kernel_rfl) (.bool true) (by go_simp) ?_
      simp only [Act.put, List.setIfInBounds_toArray, List.set_cons_zero, List.set_cons_succ]
      go_wp2
      go_ret
      exact ⟨mf.out, rfl⟩
end Go.Proofs.YthhbomiknikjpaaGreatDoor
