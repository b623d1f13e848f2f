/-
  mailcoachlaw03.HkdfNames. Printed by gen/hkF.py.
-/
import Derived.Test.YthhbomiknikjpaaKC
namespace Go.Proofs.Ythhbomiknikjpaa
open Go Go.RowKit Go.Lib
set_option linter.unusedSimpArgs false
set_option linter.unusedVariables false

theorem name_cells {w : World} {g : Nat} {a b c : Value} {t : TypeId} {fr : Nat × Nat} (h : w.heap[g]? = some (.cells #[a, b, c] t fr)) :
    w.cell? ⟨g, 0, none⟩ = some a ∧ w.cell? ⟨g, 1, none⟩ = some b ∧ w.cell? ⟨g, 2, none⟩ = some c := by
  unfold World.cell?
  simp only [h]
  exact ⟨rfl, rfl, rfl⟩
theorem load_str {w : World} {g off : Nat} {s : ByteArray} (h : w.cell? ⟨g, off, none⟩ = some (.string s)) : (loadVar 9 ⟨g, off, none⟩).run Try.prog w = .ok (.string s) w := by go_simp
theorem load_sl {w : World} {g off n cap : Nat} {ad : Option Addr} (h : w.cell? ⟨g, off, none⟩ = some (.slice ad n cap)) : (loadVar 22 ⟨g, off, none⟩).run Try.prog w = .ok (.slice ad n cap) w := by go_simp
theorem load_i {w : World} {g off : Nat} {n : Int} (h : w.cell? ⟨g, off, none⟩ = some (.int .i64 n)) : (loadVar 3 ⟨g, off, none⟩).run Try.prog w = .ok (.int .i64 n) w := by go_simp
theorem name_loads {w : World} {g : Nat} {s : ByteArray} {ad : Option Addr} {k cap : Nat} {n : Int} {t : TypeId} {fr : Nat × Nat} (h : w.heap[g]? = some (.cells #[.string s, .slice ad k cap, .int .i64 n] t fr)) :
    (loadVar 9 ⟨g, 0, none⟩).run Try.prog w = .ok (.string s) w ∧ (loadVar 22 ⟨g, 1, none⟩).run Try.prog w = .ok (.slice ad k cap) w ∧ (loadVar 3 ⟨g, 2, none⟩).run Try.prog w = .ok (.int .i64 n) w := by
  obtain ⟨h0, h1, h2⟩ := name_cells h
  exact ⟨load_str h0, load_sl h1, load_i h2⟩
theorem encB_nine (a b c : Nat) (ha : a < 256) (hb : b < 256) (hc : c < 256) : encB ([BitVec.ofNat 8 a, BitVec.ofNat 8 b, BitVec.ofNat 8 c] ++ strB tlsS) = #[.int .u8 (a : Int), .int .u8 (b : Int), .int .u8 (c : Int), .int .u8 116, .int .u8 108, .int .u8 115, .int .u8 49, .int .u8 51, .int .u8 32] := by
  have e : strB tlsS = [116#8, 108#8, 115#8, 49#8, 51#8, 32#8] := by decide
  rw [e]
  simp [encB, Nat.mod_eq_of_lt ha, Nat.mod_eq_of_lt hb, Nat.mod_eq_of_lt hc]
theorem labelI_eq (s : ByteArray) (c : List (BitVec 8)) (n : Nat) : labelI s c n = ((([BitVec.ofNat 8 (n / 256), BitVec.ofNat 8 (n % 256), BitVec.ofNat 8 (s.size + 6)] ++ strB tlsS) ++ strB s) ++ [BitVec.ofNat 8 c.length]) ++ c := by
  unfold labelI
  rw [strB_append, ofNat8_mod n]
  simp only [List.append_assoc]

set_option maxRecDepth 100000 in
set_option maxHeartbeats 4000000 in
theorem names_any (vk vc : Value) (s : ByteArray) (k c : List (BitVec 8)) (n : Int) (w : World) (hk : ByteAt w vk k) (hc : ByteAt w vc c) (hkl : k.length < 4611686018427387904) (hcl : c.length < 4611686018427387904) (hsl : s.size < 4611686018427387904) (hn1 : -9223372036854775808 ≤ n) (hn2 : n ≤ 9223372036854775807) :
    Calls Try.prog 7 #[vk, .agg #[.string s, vc, .int .i64 n]] w fun e w' => Mod (fun _ => False) w w' ∧ e = .returned (.bool true) := by
  obtain ⟨ak, ck, rfl, _⟩ := hk.slice
  obtain ⟨ac, cc, rfl, _⟩ := hc.slice
  obtain ⟨m, hm⟩ : ∃ m, m = k.length := ⟨_, rfl⟩
  obtain ⟨p, hp⟩ : ∃ p, p = c.length := ⟨_, rfl⟩
  obtain ⟨z, hz⟩ : ∃ z, z = s.size := ⟨_, rfl⟩
  rw [← hm] at hk hkl ⊢
  rw [← hp] at hc hcl ⊢
  rw [← hz] at hsl
  have bm0 : (0 : Int) ≤ (m : Int) := by omega
  have bp0 : (0 : Int) ≤ (p : Int) := by omega
  have bz0 : (0 : Int) ≤ (z : Int) := by omega
  have ezs : ((s.size : Nat) : Int) = (z : Int) := by rw [hz]
  replace hm := Lib.hid hm
  replace hp := Lib.hid hp
  replace hz := Lib.hid hz
  obtain ⟨wx, hwx⟩ : ∃ x, x = w.alloc (.cells #[.string s, .slice ac p cc, .int .i64 n] 39) := ⟨_, rfl⟩
  obtain ⟨gx, hgx⟩ : ∃ g, g = w.heap.size := ⟨_, rfl⟩
  have mx : Mod (fun _ => False) w wx := by rw [hwx]; exact (Mod.refl _ _).alloc _
  have xx : wx.heap[gx]? = some (.cells #[.string s, .slice ac p cc, .int .i64 n] 39 (0,0)) := by rw [hwx]; exact hp_new _ _ _ hgx
  have hkx := hk.mod mx (fun _ _ h => h)
  have hcx := hc.mod mx (fun _ _ h => h)
  replace hwx := Lib.hid hwx
  replace hgx := Lib.hid hgx
  clear hk hc
  go_enter Try.func7, Try.ntmps7
  go_upto_region 0 with (fail)
  refine wp_region_lit ?_
  refine wpList_yields (by kernel_rfl) (.pointer (some ⟨gx, 0, none⟩)) wx (by rw [hwx.out, hgx.out]; go_simp) ?_
  simp only [Act.put, List.setIfInBounds_toArray, List.set_cons_zero, List.set_cons_succ]
  refine wpList_reads (by kernel_rfl) (.bool false) (by go_simp) ?_
  simp only [Act.put, List.setIfInBounds_toArray, List.set_cons_zero, List.set_cons_succ]
  go_upto_region 1 with (fail)
  refine wp_region_lit ?_
  refine wpList_enter (by kernel_rfl) 14 #[] (by go_simp) (alive_any wx) ?_
  rintro e w1 ⟨m1, rfl⟩
  have hk1 := hkx.mod m1 (fun _ _ h => h)
  have hc1 := hcx.mod m1 (fun _ _ h => h)
  have x1 := m1.heap xx (fun h => h)
  have m01 := mx.trans m1
  replace hk1 := Lib.hid hk1
  replace hc1 := Lib.hid hc1
  replace x1 := Lib.hid x1
  replace m01 := Lib.hid m01
  clear hkx hcx xx mx m1
  refine ⟨_, rfl, ?_⟩
  simp only [Act.put, List.setIfInBounds_toArray, List.set_cons_zero, List.set_cons_succ]
  by_cases hqm : 2000 < m
  · have hdm : decide ((2000 : Int) < (m : Int)) = true := by rw [decide_eq_true_iff]; omega
    go_upto_region 2 with (fail)
    refine wp_region_lit ?_
    refine wpList_enter (by kernel_rfl) 14 #[] (by go_simp) (alive_any w1) ?_
    rintro e w2 ⟨m2, rfl⟩
    have mf := m01.out.trans m2
    replace mf := Lib.hid mf
    clear m2
    refine ⟨_, rfl, ?_⟩
    simp only [Act.put, List.setIfInBounds_toArray, List.set_cons_zero, List.set_cons_succ]
    refine wpList_reads (by kernel_rfl) (.bool true) (by go_simp) ?_
    simp only [Act.put, List.setIfInBounds_toArray, List.set_cons_zero, List.set_cons_succ]
    go_wp2
    go_ret
    exact ⟨mf.out, rfl⟩
  · have hdm : decide ((2000 : Int) < (m : Int)) = false := by rw [decide_eq_false_iff_not]; omega
    obtain ⟨l10, l11, l12⟩ := name_loads x1.out
    go_upto_region 3 with (fail)
    refine wp_region_lit ?_
    refine wpList_reads (by kernel_rfl) (.slice ak m ck) (by go_simp) ?_
    simp only [Act.put, List.setIfInBounds_toArray, List.set_cons_zero, List.set_cons_succ]
    refine wpList_reads (by kernel_rfl) (.pointer (some ⟨gx, 0, none⟩)) (by go_simp) ?_
    simp only [Act.put, List.setIfInBounds_toArray, List.set_cons_zero, List.set_cons_succ]
    refine wpList_reads (by kernel_rfl) (.string s) (run_load_op rfl rfl l10) ?_
    simp only [Act.put, List.setIfInBounds_toArray, List.set_cons_zero, List.set_cons_succ]
    refine wpList_reads (by kernel_rfl) (.pointer (some ⟨gx, 1, none⟩)) (by go_simp) ?_
    simp only [Act.put, List.setIfInBounds_toArray, List.set_cons_zero, List.set_cons_succ]
    refine wpList_reads (by kernel_rfl) (.slice ac p cc) (run_load_op rfl rfl l11) ?_
    simp only [Act.put, List.setIfInBounds_toArray, List.set_cons_zero, List.set_cons_succ]
    refine wpList_reads (by kernel_rfl) (.pointer (some ⟨gx, 2, none⟩)) (by go_simp) ?_
    simp only [Act.put, List.setIfInBounds_toArray, List.set_cons_zero, List.set_cons_succ]
    refine wpList_reads (by kernel_rfl) (.int .i64 n) (run_load_op rfl rfl l12) ?_
    simp only [Act.put, List.setIfInBounds_toArray, List.set_cons_zero, List.set_cons_succ]
    refine wpList_enter (by kernel_rfl) 19 #[.slice ak m ck, .string s, .slice ac p cc, .int .i64 n] (by go_simp) (label_any _ _ s k c n w1 hk1.out hc1.out (by rw [← hm.out]; omega) (by rw [← hp.out]; omega) (by rw [← hz.out]; omega) hn1 hn2) ?_
    rintro e w2 ⟨m2, h2⟩
    clear l10 l11 l12
    have x2 := m2.heap x1.out (fun h => h)
    have hk2 := hk1.out.mod m2 (fun _ _ h => h)
    have hc2 := hc1.out.mod m2 (fun _ _ h => h)
    have m02 := m01.out.trans m2
    obtain ⟨c0, c1, c2⟩ := name_cells x2
    replace x2 := Lib.hid x2
    replace hk2 := Lib.hid hk2
    replace hc2 := Lib.hid hc2
    replace m02 := Lib.hid m02
    replace hsl := Lib.hid hsl
    rw [← hz.out, ← hp.out] at h2
    by_cases hbad : 249 < z ∨ 255 < p ∨ n < 0 ∨ 8160 < n
    · rw [if_pos hbad] at h2
      subst h2
      clear m2
      refine ⟨_, rfl, ?_⟩
      simp only [Act.put, List.setIfInBounds_toArray, List.set_cons_zero, List.set_cons_succ]
      refine wpList_reads (by kernel_rfl) (.tuple #[.slice none 0 0, .int .i64 1]) (by go_simp) ?_
      simp only [Act.put, List.setIfInBounds_toArray, List.set_cons_zero, List.set_cons_succ]
      refine wpList_reads (by kernel_rfl) (.slice none 0 0) (by go_simp) ?_
      simp only [Act.put, List.setIfInBounds_toArray, List.set_cons_zero, List.set_cons_succ]
      refine wpList_reads (by kernel_rfl) (.int .i64 1) (by go_simp) ?_
      simp only [Act.put, List.setIfInBounds_toArray, List.set_cons_zero, List.set_cons_succ]
      refine wpList_reads (by kernel_rfl) (.slice none 0 0) (by go_simp) ?_
      simp only [Act.put, List.setIfInBounds_toArray, List.set_cons_zero, List.set_cons_succ]
      refine wpList_reads (by kernel_rfl) (.int .i64 1) (by go_simp) ?_
      simp only [Act.put, List.setIfInBounds_toArray, List.set_cons_zero, List.set_cons_succ]
      by_cases h1 : 249 < z
      · have hd : decide ((249 : Int) < (z : Int)) = true := by rw [decide_eq_true_iff]; omega
        replace hbad := Lib.hid hbad
        replace h1 := Lib.hid h1
        go_wp2
        go_ret
        exact ⟨m02.out, rfl⟩
      · have hd : decide ((249 : Int) < (z : Int)) = false := by rw [decide_eq_false_iff_not]; omega
        by_cases h2 : 255 < p
        · have hd2 : decide ((255 : Int) < (p : Int)) = true := by rw [decide_eq_true_iff]; omega
          replace hbad := Lib.hid hbad
          replace h1 := Lib.hid h1
          replace h2 := Lib.hid h2
          go_wp2
          go_ret
          exact ⟨m02.out, rfl⟩
        · have hd2 : decide ((255 : Int) < (p : Int)) = false := by rw [decide_eq_false_iff_not]; omega
          by_cases h3 : n < 0
          · have hd3 : decide (n < 0) = true := by rw [decide_eq_true_iff]; exact h3
            replace hbad := Lib.hid hbad
            replace h1 := Lib.hid h1
            replace h2 := Lib.hid h2
            go_wp2
            go_ret
            exact ⟨m02.out, rfl⟩
          · have hd3 : decide (n < 0) = false := by rw [decide_eq_false_iff_not]; exact h3
            have hd4 : decide (8160 < n) = true := by rw [decide_eq_true_iff]; omega
            replace hbad := Lib.hid hbad
            replace h1 := Lib.hid h1
            replace h2 := Lib.hid h2
            go_wp2
            go_ret
            exact ⟨m02.out, rfl⟩
    · rw [if_neg hbad] at h2
      obtain ⟨vL, rfl, ownL⟩ := h2
      obtain ⟨N, rfl⟩ : ∃ N : Nat, n = (N : Int) := ⟨n.toNat, by omega⟩
      rw [Int.toNat_natCast] at ownL
      have hd : decide ((249 : Int) < (z : Int)) = false := by rw [decide_eq_false_iff_not]; omega
      have hd2 : decide ((255 : Int) < (p : Int)) = false := by rw [decide_eq_false_iff_not]; omega
      have hd3 : decide ((N : Int) < 0) = false := by rw [decide_eq_false_iff_not]; omega
      have hd4 : decide ((8160 : Int) < (N : Int)) = false := by rw [decide_eq_false_iff_not]; omega
      have hN : N ≤ 8160 := by omega
      have hzl : z ≤ 249 := by omega
      have hpl : p ≤ 255 := by omega
      have bN : (N : Int) ≤ 8160 := by omega
      have bN0 : (0 : Int) ≤ (N : Int) := by omega
      have bz : (z : Int) ≤ 249 := by omega
      have bp : (p : Int) ≤ 255 := by omega
      clear hbad hn1 hn2 m2
      obtain ⟨K, hK⟩ : ∃ K, K = keyS k := ⟨_, rfl⟩
      rw [← hK] at ownL
      obtain ⟨I, hI⟩ : ∃ I, I = labelI s c N := ⟨_, rfl⟩
      rw [← hI] at ownL
      have bL := byteAt_of_own ownL
      obtain ⟨adL, capL, hvL, _⟩ := bL.slice
      rw [expandB_length] at hvL
      subst hvL
      rw [labelI_eq, ← hz.out, ← hp.out] at hI
      have hq : Int.tdiv (N : Int) 256 = ((N / 256 : Nat) : Int) := by rw [Int.tdiv_eq_ediv_of_nonneg (by omega)]; omega
      have hr : Int.tmod (N : Int) 256 = ((N % 256 : Nat) : Int) := by rw [Int.tmod_eq_emod_of_nonneg (by omega)]; omega
      obtain ⟨Q, hQ⟩ : ∃ Q, Q = N / 256 := ⟨_, rfl⟩
      obtain ⟨R, hR⟩ : ∃ R, R = N % 256 := ⟨_, rfl⟩
      rw [← hQ] at hq hI
      rw [← hR] at hr hI
      have hwq : IntKind.i64.wrap (Q : Int) = (Q : Int) := by rw [IntKind.wrap_i64]; omega
      have hwr : IntKind.i64.wrap (R : Int) = (R : Int) := by rw [IntKind.wrap_i64]; omega
      have huq : IntKind.u8.wrap (Q : Int) = (Q : Int) := by rw [IntKind.wrap_u8]; omega
      have hur : IntKind.u8.wrap (R : Int) = (R : Int) := by rw [IntKind.wrap_u8]; omega
      have hwz : IntKind.i64.wrap ((z : Int) + 6) = (z : Int) + 6 := by rw [IntKind.wrap_i64]; omega
      have huz : IntKind.u8.wrap ((z : Int) + 6) = (z : Int) + 6 := by rw [IntKind.wrap_u8]; omega
      have hup : IntKind.u8.wrap (p : Int) = (p : Int) := by rw [IntKind.wrap_u8]; omega
      have hQl : Q < 256 := by omega
      have hRl : R < 256 := by omega
      obtain ⟨A1, hA1⟩ : ∃ A, A = [BitVec.ofNat 8 Q, BitVec.ofNat 8 R, BitVec.ofNat 8 (z + 6)] ++ strB tlsS := ⟨_, rfl⟩
      have hA1l : A1.length = 9 := by rw [hA1, List.length_append, strB_length, tlsS_size]; rfl
      rw [← hA1] at hI
      replace hQl := Lib.hid hQl
      replace hRl := Lib.hid hRl
      replace hQ := Lib.hid hQ
      replace hR := Lib.hid hR
      replace hN := Lib.hid hN
      replace hzl := Lib.hid hzl
      replace hpl := Lib.hid hpl
      replace hA1 := Lib.hid hA1
      replace hI := Lib.hid hI
      replace hK := Lib.hid hK
      replace bL := Lib.hid bL
      clear ownL
      refine ⟨_, rfl, ?_⟩
      simp only [Act.put, List.setIfInBounds_toArray, List.set_cons_zero, List.set_cons_succ]
      refine wpList_reads (by kernel_rfl) (.tuple #[.slice adL N capL, .int .i64 0]) (by go_simp) ?_
      simp only [Act.put, List.setIfInBounds_toArray, List.set_cons_zero, List.set_cons_succ]
      refine wpList_reads (by kernel_rfl) (.slice adL N capL) (by go_simp) ?_
      simp only [Act.put, List.setIfInBounds_toArray, List.set_cons_zero, List.set_cons_succ]
      refine wpList_reads (by kernel_rfl) (.int .i64 0) (by go_simp) ?_
      simp only [Act.put, List.setIfInBounds_toArray, List.set_cons_zero, List.set_cons_succ]
      refine wpList_reads (by kernel_rfl) (.slice adL N capL) (by go_simp) ?_
      simp only [Act.put, List.setIfInBounds_toArray, List.set_cons_zero, List.set_cons_succ]
      refine wpList_reads (by kernel_rfl) (.int .i64 0) (by go_simp) ?_
      simp only [Act.put, List.setIfInBounds_toArray, List.set_cons_zero, List.set_cons_succ]
      obtain ⟨l20, l21, l22⟩ := name_loads x2.out
      obtain ⟨w3, hw3⟩ : ∃ x, x = w2.alloc (.cells #[.int .u8 (Q : Int), .int .u8 (R : Int), .int .u8 ((z : Int) + 6), .int .u8 116, .int .u8 108, .int .u8 115, .int .u8 49, .int .u8 51, .int .u8 32] 5) := ⟨_, rfl⟩
      obtain ⟨g3, hg3⟩ : ∃ g, g = w2.heap.size := ⟨_, rfl⟩
      have m3 : Mod (fun _ => False) w2 w3 := by rw [hw3]; exact (Mod.refl _ _).alloc _
      have own3 : w3.ownsRow w2.heap.size 5 1 (.slice (some ⟨g3, 0, none⟩) 9 9) 9 (bytesV A1) := by
        have e9 := encB_nine Q R (z + 6) hQl.out hRl.out (by have := hzl.out; omega)
        rw [← hA1.out] at e9
        have e10 : encB A1 = (bytesV A1).toArray := rfl
        rw [hw3, hg3, show ((z : Int) + 6) = ((z + 6 : Nat) : Int) by omega, ← e9, e10]
        exact World.ownsRow_lit w2 (bytesV A1).toArray 9 (Nat.le_refl _) (by decide) (by simp [bytesV, hA1l])
      have x3 := m3.heap x2.out (fun h => h)
      replace hw3 := Lib.hid hw3
      replace hg3 := Lib.hid hg3
      replace x3 := Lib.hid x3
      go_upto_region 6 with (fail)
      refine wp_region_lit ?_
      refine wpList_reads (by kernel_rfl) (.pointer (some ⟨gx, 2, none⟩)) (by go_simp) ?_
      simp only [Act.put, List.setIfInBounds_toArray, List.set_cons_zero, List.set_cons_succ]
      refine wpList_reads (by kernel_rfl) (.int .i64 (N : Int)) (run_load_op rfl rfl l22) ?_
      simp only [Act.put, List.setIfInBounds_toArray, List.set_cons_zero, List.set_cons_succ]
      refine wpList_reads (by kernel_rfl) (.int .i64 (Q : Int)) (by go_simp) ?_
      simp only [Act.put, List.setIfInBounds_toArray, List.set_cons_zero, List.set_cons_succ]
      refine wpList_reads (by kernel_rfl) (.int .u8 (Q : Int)) (by go_simp) ?_
      simp only [Act.put, List.setIfInBounds_toArray, List.set_cons_zero, List.set_cons_succ]
      refine wpList_reads (by kernel_rfl) (.pointer (some ⟨gx, 2, none⟩)) (by go_simp) ?_
      simp only [Act.put, List.setIfInBounds_toArray, List.set_cons_zero, List.set_cons_succ]
      refine wpList_reads (by kernel_rfl) (.int .i64 (N : Int)) (run_load_op rfl rfl l22) ?_
      simp only [Act.put, List.setIfInBounds_toArray, List.set_cons_zero, List.set_cons_succ]
      refine wpList_reads (by kernel_rfl) (.int .i64 (R : Int)) (by go_simp) ?_
      simp only [Act.put, List.setIfInBounds_toArray, List.set_cons_zero, List.set_cons_succ]
      refine wpList_reads (by kernel_rfl) (.int .u8 (R : Int)) (by go_simp) ?_
      simp only [Act.put, List.setIfInBounds_toArray, List.set_cons_zero, List.set_cons_succ]
      refine wpList_reads (by kernel_rfl) (.pointer (some ⟨gx, 0, none⟩)) (by go_simp) ?_
      simp only [Act.put, List.setIfInBounds_toArray, List.set_cons_zero, List.set_cons_succ]
      refine wpList_reads (by kernel_rfl) (.string s) (run_load_op rfl rfl l20) ?_
      simp only [Act.put, List.setIfInBounds_toArray, List.set_cons_zero, List.set_cons_succ]
      refine wpList_reads (by kernel_rfl) (.int .i64 (z : Int)) (by go_simp) ?_
      simp only [Act.put, List.setIfInBounds_toArray, List.set_cons_zero, List.set_cons_succ]
      refine wpList_reads (by kernel_rfl) (.int .i64 ((z : Int) + 6)) (by go_simp) ?_
      simp only [Act.put, List.setIfInBounds_toArray, List.set_cons_zero, List.set_cons_succ]
      refine wpList_reads (by kernel_rfl) (.int .u8 ((z : Int) + 6)) (by go_simp) ?_
      simp only [Act.put, List.setIfInBounds_toArray, List.set_cons_zero, List.set_cons_succ]
      refine wpList_yields (by kernel_rfl) (.slice (some ⟨g3, 0, none⟩) 9 9) w3 (by rw [hw3.out, hg3.out]; go_simp) ?_
      simp only [Act.put, List.setIfInBounds_toArray, List.set_cons_zero, List.set_cons_succ]
      clear l20 l21 l22 c0 c1 c2
      refine wpList_reads (by kernel_rfl) (.slice (some ⟨g3, 0, none⟩) 9 9) (by go_simp) ?_
      simp only [Act.put, List.setIfInBounds_toArray, List.set_cons_zero, List.set_cons_succ]
      obtain ⟨l30, l31, l32⟩ := name_loads x3.out
      obtain ⟨c4, w4, run4, m4, b4⟩ := conv_bytes w3 s
      rw [← hz.out] at run4 b4
      obtain ⟨g4, hg4⟩ : ∃ g, g = w3.heap.size := ⟨_, rfl⟩
      rw [← hg4] at run4 b4
      have own4 := ownsRow_kept own3 m4 (fun _ _ h => h)
      have m24 := m3.trans m4
      replace hg4 := Lib.hid hg4
      clear own3 m3
      go_upto_region 7 with (fail)
      refine wp_region_lit ?_
      refine wpList_reads (by kernel_rfl) (.slice (some ⟨g3, 0, none⟩) 9 9) (by go_simp) ?_
      simp only [Act.put, List.setIfInBounds_toArray, List.set_cons_zero, List.set_cons_succ]
      refine wpList_reads (by kernel_rfl) (.pointer (some ⟨gx, 0, none⟩)) (by go_simp) ?_
      simp only [Act.put, List.setIfInBounds_toArray, List.set_cons_zero, List.set_cons_succ]
      refine wpList_reads (by kernel_rfl) (.string s) (run_load_op rfl rfl l30) ?_
      simp only [Act.put, List.setIfInBounds_toArray, List.set_cons_zero, List.set_cons_succ]
      refine wpList_yields (by kernel_rfl) (.slice (some ⟨g4, 0, none⟩) z c4) w4 (run_conv_op rfl rfl run4) ?_
      simp only [Act.put, List.setIfInBounds_toArray, List.set_cons_zero, List.set_cons_succ]
      clear l30 l31 l32
      refine wpList_append_bytes rfl _ _ rfl w2.heap.size 9 (.slice (some ⟨g3, 0, none⟩) 9 9) (.slice (some ⟨g4, 0, none⟩) z c4) A1 (strB s) rfl rfl own4 b4 (by rw [strB_length, ← hz.out]; omega) m24.size ?_
      intro v5 w5 own5 grow5
      have m25 : Mod (fun _ => False) w2 w5 := m24.trans' ((Mod.refl _ _).grown (S := fun k => w2.heap.size ≤ k) grow5 (fun k hk _ => (own4.lt k hk).1)) (fun k hk h => by omega)
      rw [strB_length, ← hz.out] at own5
      obtain ⟨y5, hy5⟩ : ∃ y, y = 9 + z := ⟨_, rfl⟩
      rw [← hy5] at own5
      obtain ⟨A2, hA2⟩ : ∃ A, A = A1 ++ strB s := ⟨_, rfl⟩
      rw [← hA2] at own5
      have hA2l : A2.length = y5 := by rw [hA2, List.length_append, strB_length, hA1l, ← hz.out, hy5]
      replace hy5 := Lib.hid hy5
      replace hA2 := Lib.hid hA2
      clear own4 grow5 m24 run4 m4 b4 x3
      simp only [Act.put, List.setIfInBounds_toArray, List.set_cons_zero, List.set_cons_succ]
      refine wpList_reads (by kernel_rfl) (v5) (by go_simp) ?_
      simp only [Act.put, List.setIfInBounds_toArray, List.set_cons_zero, List.set_cons_succ]
      have x5 := m25.heap x2.out (fun h => h)
      obtain ⟨l50, l51, l52⟩ := name_loads x5
      obtain ⟨wa, hwa⟩ : ∃ x, x = w5.alloc (.cells #[.int .u8 (p : Int)] 5) := ⟨_, rfl⟩
      obtain ⟨ga, hga⟩ : ∃ g, g = w5.heap.size := ⟨_, rfl⟩
      have ma : Mod (fun _ => False) w5 wa := by rw [hwa]; exact (Mod.refl _ _).alloc _
      have xa : wa.heap[ga]? = some (.cells (encB [BitVec.ofNat 8 p]) 5 (0,0)) := by
        rw [encB_uno _ (by have := hpl.out; omega), hwa]
        exact hp_new _ _ _ hga
      have ba := ByteAt.row xa
      have owna := ownsRow_kept own5 ma (fun _ _ h => h)
      have m2a := m25.trans ma
      replace hwa := Lib.hid hwa
      replace hga := Lib.hid hga
      clear own5 ma xa m25 x5
      go_upto_region 8 with (fail)
      refine wp_region_lit ?_
      refine wpList_reads (by kernel_rfl) (v5) (by go_simp) ?_
      simp only [Act.put, List.setIfInBounds_toArray, List.set_cons_zero, List.set_cons_succ]
      refine wpList_reads (by kernel_rfl) (.pointer (some ⟨gx, 1, none⟩)) (by go_simp) ?_
      simp only [Act.put, List.setIfInBounds_toArray, List.set_cons_zero, List.set_cons_succ]
      refine wpList_reads (by kernel_rfl) (.slice ac p cc) (run_load_op rfl rfl l51) ?_
      simp only [Act.put, List.setIfInBounds_toArray, List.set_cons_zero, List.set_cons_succ]
      refine wpList_reads (by kernel_rfl) (.int .i64 (p : Int)) (by go_simp) ?_
      simp only [Act.put, List.setIfInBounds_toArray, List.set_cons_zero, List.set_cons_succ]
      refine wpList_reads (by kernel_rfl) (.int .u8 (p : Int)) (by go_simp) ?_
      simp only [Act.put, List.setIfInBounds_toArray, List.set_cons_zero, List.set_cons_succ]
      refine wpList_yields (by kernel_rfl) (.slice (some ⟨ga, 0, none⟩) 1 1) wa (by rw [hwa.out, hga.out]; go_simp) ?_
      simp only [Act.put, List.setIfInBounds_toArray, List.set_cons_zero, List.set_cons_succ]
      clear l50 l51 l52
      refine wpList_append_bytes rfl _ _ rfl w2.heap.size y5 v5 (.slice (some ⟨ga, 0, none⟩) 1 1) A2 [BitVec.ofNat 8 p] rfl rfl owna ba (by have := hy5.out; have := hzl.out; simp; omega) m2a.size ?_
      intro v6 w6 own6 grow6
      have m26 : Mod (fun _ => False) w2 w6 := m2a.trans' ((Mod.refl _ _).grown (S := fun k => w2.heap.size ≤ k) grow6 (fun k hk _ => (owna.lt k hk).1)) (fun k hk h => by omega)
      rw [show y5 + [BitVec.ofNat 8 p].length = y5 + 1 from rfl] at own6
      obtain ⟨y6, hy6⟩ : ∃ y, y = y5 + 1 := ⟨_, rfl⟩
      rw [← hy6] at own6
      obtain ⟨A3, hA3⟩ : ∃ A, A = A2 ++ [BitVec.ofNat 8 p] := ⟨_, rfl⟩
      rw [← hA3] at own6
      have hA3l : A3.length = y6 := by rw [hA3, List.length_append, hA2l, hy6]; rfl
      replace hy6 := Lib.hid hy6
      replace hA3 := Lib.hid hA3
      clear owna grow6 m2a ba
      simp only [Act.put, List.setIfInBounds_toArray, List.set_cons_zero, List.set_cons_succ]
      refine wpList_reads (by kernel_rfl) (v6) (by go_simp) ?_
      simp only [Act.put, List.setIfInBounds_toArray, List.set_cons_zero, List.set_cons_succ]
      have x6 := m26.heap x2.out (fun h => h)
      obtain ⟨l60, l61, l62⟩ := name_loads x6
      have hc6 := hc2.out.mod m26 (fun _ _ h => h)
      go_upto_region 9 with (fail)
      refine wp_region_lit ?_
      refine wpList_reads (by kernel_rfl) (v6) (by go_simp) ?_
      simp only [Act.put, List.setIfInBounds_toArray, List.set_cons_zero, List.set_cons_succ]
      refine wpList_reads (by kernel_rfl) (.pointer (some ⟨gx, 1, none⟩)) (by go_simp) ?_
      simp only [Act.put, List.setIfInBounds_toArray, List.set_cons_zero, List.set_cons_succ]
      refine wpList_reads (by kernel_rfl) (.slice ac p cc) (run_load_op rfl rfl l61) ?_
      simp only [Act.put, List.setIfInBounds_toArray, List.set_cons_zero, List.set_cons_succ]
      clear l60 l61 l62 x6
      refine wpList_append_bytes rfl _ _ rfl w2.heap.size y6 v6 (.slice ac p cc) A3 c rfl rfl own6 hc6 (by have := hy5.out; have := hy6.out; have := hzl.out; have := hpl.out; rw [← hp.out]; omega) m26.size ?_
      intro v7 w7 own7 grow7
      have m27 : Mod (fun _ => False) w2 w7 := m26.trans' ((Mod.refl _ _).grown (S := fun k => w2.heap.size ≤ k) grow7 (fun k hk _ => (own6.lt k hk).1)) (fun k hk h => by omega)
      have b7 := byteAt_of_own own7
      rw [hA3.out, hA2.out, ← hI.out] at b7
      have hIl : I.length ≤ 1000 := by rw [hI.out, ← hA2.out, ← hA3.out, List.length_append, hA3l, ← hp.out]; have := hy5.out; have := hy6.out; have := hzl.out; have := hpl.out; omega
      replace b7 := Lib.hid b7
      replace hIl := Lib.hid hIl
      clear own6 own7 grow7 m26 hc6
      simp only [Act.put, List.setIfInBounds_toArray, List.set_cons_zero, List.set_cons_succ]
      refine wpList_reads (by kernel_rfl) (v7) (by go_simp) ?_
      simp only [Act.put, List.setIfInBounds_toArray, List.set_cons_zero, List.set_cons_succ]
      have x7 := m27.heap x2.out (fun h => h)
      obtain ⟨l70, l71, l72⟩ := name_loads x7
      have hk7 := hk2.out.mod m27 (fun _ _ h => h)
      have bL7 := bL.out.mod m27 (fun _ _ h => h)
      have m07 := m02.out.trans m27
      replace bL7 := Lib.hid bL7
      replace m07 := Lib.hid m07
      clear m27
      go_upto_region 10 with (fail)
      refine wp_region_lit ?_
      refine wpList_reads (by kernel_rfl) (.slice ak m ck) (by go_simp) ?_
      simp only [Act.put, List.setIfInBounds_toArray, List.set_cons_zero, List.set_cons_succ]
      refine wpList_reads (by kernel_rfl) (v7) (by go_simp) ?_
      simp only [Act.put, List.setIfInBounds_toArray, List.set_cons_zero, List.set_cons_succ]
      refine wpList_reads (by kernel_rfl) (.pointer (some ⟨gx, 2, none⟩)) (by go_simp) ?_
      simp only [Act.put, List.setIfInBounds_toArray, List.set_cons_zero, List.set_cons_succ]
      refine wpList_reads (by kernel_rfl) (.int .i64 (N : Int)) (run_load_op rfl rfl l72) ?_
      simp only [Act.put, List.setIfInBounds_toArray, List.set_cons_zero, List.set_cons_succ]
      refine wpList_enter (by kernel_rfl) 17 #[.slice ak m ck, v7, .int .i64 (N : Int)] (by go_simp) (expand_any _ _ k I (N : Int) w7 hk7 b7.out (by rw [← hm.out]; omega) (by have := hIl.out; omega) (by omega) (by omega)) ?_
      rintro e w8 ⟨m8, h8⟩
      rw [if_neg (by have := hN.out; omega), if_neg (by rw [← hm.out]; have := hIl.out; omega), show (N : Int).toNat = N from by omega] at h8
      obtain ⟨v8, rfl, own8⟩ := h8
      rw [← hK.out] at own8
      have b8 := byteAt_of_own own8
      obtain ⟨ad8, cap8, hv8, _⟩ := b8.slice
      rw [expandB_length] at hv8
      subst hv8
      have bL8 := bL7.out.mod m8 (fun _ _ h => h)
      have m08 := m07.out.trans m8
      replace b8 := Lib.hid b8
      replace bL8 := Lib.hid bL8
      replace m08 := Lib.hid m08
      clear l70 l71 l72 x7 hk7 bL7 m07 m8 own8
      refine ⟨_, rfl, ?_⟩
      simp only [Act.put, List.setIfInBounds_toArray, List.set_cons_zero, List.set_cons_succ]
      refine wpList_reads (by kernel_rfl) (.tuple #[.slice ad8 N cap8, .int .i64 0]) (by go_simp) ?_
      simp only [Act.put, List.setIfInBounds_toArray, List.set_cons_zero, List.set_cons_succ]
      refine wpList_reads (by kernel_rfl) (.slice ad8 N cap8) (by go_simp) ?_
      simp only [Act.put, List.setIfInBounds_toArray, List.set_cons_zero, List.set_cons_succ]
      refine wpList_reads (by kernel_rfl) (.int .i64 0) (by go_simp) ?_
      simp only [Act.put, List.setIfInBounds_toArray, List.set_cons_zero, List.set_cons_succ]
      refine wpList_reads (by kernel_rfl) (.slice ad8 N cap8) (by go_simp) ?_
      simp only [Act.put, List.setIfInBounds_toArray, List.set_cons_zero, List.set_cons_succ]
      refine wpList_reads (by kernel_rfl) (.int .i64 0) (by go_simp) ?_
      simp only [Act.put, List.setIfInBounds_toArray, List.set_cons_zero, List.set_cons_succ]
      go_upto_region 11 with (fail)
      refine wp_region_lit ?_
      refine wpList_reads (by kernel_rfl) (.int .i64 0) (by go_simp) ?_
      simp only [Act.put, List.setIfInBounds_toArray, List.set_cons_zero, List.set_cons_succ]
      refine wpList_reads (by kernel_rfl) (.bool true) (by go_simp) ?_
      simp only [Act.put, List.setIfInBounds_toArray, List.set_cons_zero, List.set_cons_succ]
      refine wpList_reads (by kernel_rfl) (.bool true) (by go_simp) ?_
      simp only [Act.put, List.setIfInBounds_toArray, List.set_cons_zero, List.set_cons_succ]
      refine wpList_reads (by kernel_rfl) (.int .i64 0) (by go_simp) ?_
      simp only [Act.put, List.setIfInBounds_toArray, List.set_cons_zero, List.set_cons_succ]
      refine wpList_reads (by kernel_rfl) (.bool true) (by go_simp) ?_
      simp only [Act.put, List.setIfInBounds_toArray, List.set_cons_zero, List.set_cons_succ]
      refine wpList_reads (by kernel_rfl) (.bool true) (by go_simp) ?_
      simp only [Act.put, List.setIfInBounds_toArray, List.set_cons_zero, List.set_cons_succ]
      refine wpList_reads (by kernel_rfl) (.bool true) (by go_simp) ?_
      simp only [Act.put, List.setIfInBounds_toArray, List.set_cons_zero, List.set_cons_succ]
      refine wpList_reads (by kernel_rfl) (.slice adL N capL) (by go_simp) ?_
      simp only [Act.put, List.setIfInBounds_toArray, List.set_cons_zero, List.set_cons_succ]
      refine wpList_reads (by kernel_rfl) (.slice ad8 N cap8) (by go_simp) ?_
      simp only [Act.put, List.setIfInBounds_toArray, List.set_cons_zero, List.set_cons_succ]
      refine wpList_enter (by kernel_rfl) 18 #[.slice adL N capL, .slice ad8 N cap8] (by go_simp) (same_any _ _ _ _ w8 bL8.out b8.out (by rw [expandB_length]; have := hN.out; omega) (by rw [expandB_length]; have := hN.out; omega)) ?_
      rintro e w9 ⟨m9, rfl⟩
      rw [show decide (expandB K I N = expandB K I N) = true by simp]
      have mf := m08.out.trans m9
      replace mf := Lib.hid mf
      clear m9
      refine ⟨_, rfl, ?_⟩
      simp only [Act.put, List.setIfInBounds_toArray, List.set_cons_zero, List.set_cons_succ]
      refine wpList_reads (by kernel_rfl) (.bool true) (by go_simp) ?_
      simp only [Act.put, List.setIfInBounds_toArray, List.set_cons_zero, List.set_cons_succ]
      refine wpList_reads (by kernel_rfl) (.bool true) (by go_simp) ?_
      simp only [Act.put, List.setIfInBounds_toArray, List.set_cons_zero, List.set_cons_succ]
      go_wp2
      go_ret
      exact ⟨mf.out, rfl⟩
end Go.Proofs.Ythhbomiknikjpaa
