/-
  A Book of bytes: all lists are looked at; the lists of a Book are apart. Printed by gen/book4.py.
-/
import Derived.Test.YthhbomiknikjpaaGreatDoorBk3
namespace Go.Proofs.YthhbomiknikjpaaGreatDoor
set_option maxRecDepth 100000
open Go Go.RowKit Go.Lib
set_option linter.unusedSimpArgs false
set_option linter.unusedVariables false

theorem repl_getD (n k : Nat) (m : BitVec 8) (h : k < n) : (List.replicate n m).getD k 0 = m := by simp [h]
set_option maxRecDepth 100000 in
set_option maxHeartbeats 4000000 in
theorem lookByte_any (w : World) (base B N : Nat) (vb : Value) (L Lo : Nat → Value) (ns : Nat → Nat) (hN : N ≤ 1000) (hns : ∀ i, i < N → ns i ≤ 70368744177664) (ok : BookGrown w base B N vb L Lo ns) :
    Calls Tryz.prog 43 #[.pointer (some ⟨B, 0, none⟩)] w fun e w' => e = .returned (.bool true) ∧ Mod (fun _ => False) w w' := by
  obtain ⟨av, cv, hvb⟩ := own_slice ok.own
  have bN0 : (0 : Int) ≤ (N : Int) := by omega
  have bN : (N : Int) ≤ 1000 := by omega
  subst hvb
  have hB1 := book_one ok.at_
  replace ok := Lib.hid ok
  go_enter Tryz.func43, Tryz.ntmps43
  go_wp2
  go_loopw [3] (fun iv wr => ∃ i : Nat, i ≤ N ∧ iv = .int .i64 (i : Int) ∧ Mod (fun _ => False) w wr) (fun iv _ => N - (intOf iv).toNat)
  case atStart => exact ⟨0, by omega, rfl, Mod.refl _ _⟩
  case round =>
    obtain ⟨i, hiN, rfl, mr⟩ := hrel
    have bi0 : (0 : Int) ≤ (i : Int) := by omega
    have biN : (i : Int) ≤ (N : Int) := by omega
    have cB := cell_mod mr hB1 (fun h => h)
    have ownr := ownsRow_keep0 ok.out.own mr
    by_cases hlt : i < N
    · have hd : decide (i < N) = true := by rw [decide_eq_true_iff]; exact hlt
      have bil : (i : Int) < (N : Int) := by omega
      obtain ⟨gv, cv', hgv⟩ := own_some ownr (by omega)
      obtain ⟨rfl, rfl⟩ : av = some ⟨gv, 0, none⟩ ∧ cv = cv' := by injection hgv with h1 _ h2; exact ⟨h1, h2⟩
      have hld := held_load ownr i hlt
      obtain ⟨n, hn⟩ : ∃ n, n = ns i := ⟨_, rfl⟩
      obtain ⟨q, hq⟩ : ∃ q, q = i + 1 := ⟨_, rfl⟩
      have hnl := hns i hlt
      have hlow := ok.out.low i hlt
      have hlong := ok.out.long i hlt
      rw [← hn] at hnl hlow hlong
      rw [← hq] at hld hlow hlong
      have hq1 : q ≤ 1001 := by omega
      obtain ⟨N2, hN2⟩ : ∃ N2, N2 = n + 40 := ⟨_, rfl⟩
      rw [← hN2] at hlong
      obtain ⟨al, cl, hLi, _⟩ := hlow.slice
      obtain ⟨ao, co, hLo, _⟩ := hlong.slice
      rw [List.length_replicate] at hLi hLo
      rw [hLi] at hld hlow
      rw [hLo] at hld hlong
      -- the copy of what is held
      obtain ⟨wa, hwa⟩ : ∃ x, x = wr.alloc (.cells #[.slice none 0 0, .slice none 0 0, .int .i64 0] 67) := ⟨_, rfl⟩
      obtain ⟨gh', hgh⟩ : ∃ g, g = wr.heap.size := ⟨_, rfl⟩
      have ma : Mod (fun _ => False) wr wa := by rw [hwa]; exact (Mod.refl _ _).alloc _
      have xa : wa.heap[gh']? = some (.cells #[.slice none 0 0, .slice none 0 0, .int .i64 0] 67 (0,0)) := by rw [hwa]; exact hp_new _ _ _ hgh
      obtain ⟨w2, st2, m2', x2⟩ := held_store xa (x := .slice al n cl) (y := .slice ao N2 co) (z := .int .i64 (q : Int)) rfl rfl rfl
      have m2 : Mod (fun _ => False) wr w2 := ma.trans' m2' (fun k hk h => by omega)
      have mr2 := mr.trans m2
      have low2 := byteAt_block hlow mr2 (fun _ _ h => h)
      have long2 := byteAt_block hlong mr2 (fun _ _ h => h)
      have bn0 : (0 : Int) ≤ (n : Int) := by omega
      have bN20 : (0 : Int) ≤ (N2 : Int) := by omega
      have hN2i : (n : Int) + 40 = (N2 : Int) := by omega
      have hwN2 : IntKind.i64.wrap (N2 : Int) = (N2 : Int) := by rw [IntKind.wrap_i64]; omega
      have ch0 : w2.cell? ⟨gh', 0, none⟩ = some (.slice al n cl) := by rw [cell_of_row _ _ _ _ _ _ x2]; rfl
      have ch1 : w2.cell? ⟨gh', 1, none⟩ = some (.slice ao N2 co) := by rw [cell_of_row _ _ _ _ _ _ x2]; rfl
      replace hwa := Lib.hid hwa
      replace hgh := Lib.hid hgh
      replace mr2 := Lib.hid mr2
      replace x2 := Lib.hid x2
      replace low2 := Lib.hid low2
      replace long2 := Lib.hid long2
      replace hq := Lib.hid hq
      replace hn := Lib.hid hn
      replace hN2 := Lib.hid hN2
      replace hlt := Lib.hid hlt
      clear mr ownr hgv ma xa m2' m2 hlow hlong hLi hLo hiN
      go_upto_region 4 with (fail)
      refine wp_region_lit ?_
      refine wpList_reads (by kernel_rfl) (.pointer (some ⟨B, 0, none⟩)) (by go_simp) ?_
      simp only [Act.put, List.setIfInBounds_toArray, List.set_cons_zero, List.set_cons_succ]
      refine wpList_reads (by kernel_rfl) (.pointer (some ⟨B, 0, none⟩)) (by go_simp) ?_
      simp only [Act.put, List.setIfInBounds_toArray, List.set_cons_zero, List.set_cons_succ]
      refine wpList_reads (by kernel_rfl) (.pointer (some ⟨B, 1, none⟩)) (by go_simp) ?_
      simp only [Act.put, List.setIfInBounds_toArray, List.set_cons_zero, List.set_cons_succ]
      refine wpList_reads (by kernel_rfl) (.slice (some ⟨gv, 0, none⟩) N cv) (by go_simp) ?_
      simp only [Act.put, List.setIfInBounds_toArray, List.set_cons_zero, List.set_cons_succ]
      refine wpList_reads (by kernel_rfl) (.int .i64 (i : Int)) (by go_simp) ?_
      simp only [Act.put, List.setIfInBounds_toArray, List.set_cons_zero, List.set_cons_succ]
      refine wpList_reads (by kernel_rfl) (.pointer (some ⟨gv, i * 3, none⟩)) (by go_simp) ?_
      simp only [Act.put, List.setIfInBounds_toArray, List.set_cons_zero, List.set_cons_succ]
      refine wpList_reads (by kernel_rfl) (.agg #[.slice al n cl, .slice ao N2 co, .int .i64 (q : Int)]) (run_load_op rfl rfl hld) ?_
      simp only [Act.put, List.setIfInBounds_toArray, List.set_cons_zero, List.set_cons_succ]
      refine wpList_yields (by kernel_rfl) _ _ (alloc_held _ _ _ rfl) ?_
      simp only [Act.put, List.setIfInBounds_toArray, List.set_cons_zero, List.set_cons_succ]
      rw [← hgh.out, ← hwa.out]
      refine wpList_store_to rfl _ _ _ rfl _ _ _ rfl rfl _ st2 ?_
      simp only [Act.put, List.setIfInBounds_toArray, List.set_cons_zero, List.set_cons_succ]
      clear st2 hld cB
      go_upto_region 7 with (fail)
      go_wp2
      go_loopg [5] N2 (fun gh kv wr => ∃ k : Nat, k + gh = N2 ∧ kv = .int .i64 (k : Int) ∧ Mod (fun _ => False) w2 wr)
      case atStart => exact ⟨0, by omega, rfl, Mod.refl _ _⟩
      case round =>
        obtain ⟨k, hkg, rfl, mk⟩ := hrel
        have bk0 : (0 : Int) ≤ (k : Int) := by omega
        have bkN : (k : Int) ≤ (N2 : Int) := by omega
        have xk := mk.heap x2.out (fun h => h)
        have ck0 : wr.cell? ⟨gh', 0, none⟩ = some (.slice al n cl) := by rw [cell_of_row _ _ _ _ _ _ xk]; rfl
        have ck1 : wr.cell? ⟨gh', 1, none⟩ = some (.slice ao N2 co) := by rw [cell_of_row _ _ _ _ _ _ xk]; rfl
        have ck2 : wr.cell? ⟨gh', 2, none⟩ = some (.int .i64 (q : Int)) := by rw [cell_of_row _ _ _ _ _ _ xk]; rfl
        by_cases hkn : k < N2
        · have hdk : decide (k < N2) = true := by rw [decide_eq_true_iff]; exact hkn
          have bkl : (k : Int) < (N2 : Int) := by omega
          obtain ⟨a5, c5, h5, h6⟩ := (byteAt_block long2.out mk (fun _ _ h => h)).slice
          obtain ⟨g, off, h7, h8, h9⟩ := h6 k (by rw [List.length_replicate]; exact hkn)
          obtain rfl : ao = some ⟨g, off, none⟩ := by injection h5 with h5; rw [h5, h7]
          rw [repl_getD _ _ _ hkn] at h9
          have mlow := (byteAt_block low2.out mk (fun _ _ h => h)).slice
          replace xk := Lib.hid xk
          replace hkg := Lib.hid hkg
          clear h5 h6 h7 h8 a5 c5
          by_cases hk2 : k < n
          · have hdk2 : decide (k < n) = true := by rw [decide_eq_true_iff]; exact hk2
            have bkl2 : (k : Int) < (n : Int) := by omega
            obtain ⟨a5, c5, h5, h6⟩ := mlow
            obtain ⟨g2, off2, h7, h8, h9b⟩ := h6 k (by rw [List.length_replicate]; exact hk2)
            obtain rfl : al = some ⟨g2, off2, none⟩ := by injection h5 with h5; rw [h5, h7]
            rw [repl_getD _ _ _ hk2] at h9b
            replace hkn := Lib.hid hkn
            replace hk2 := Lib.hid hk2
            replace mk := Lib.hid mk
            clear h5 h6 h7 h8 a5 c5
            go_upto_region 10 with (fail)
            go_quiet (refine Calls.quiet_of_same (isByte_any q hq1 _))
            obtain ⟨wq, hwq⟩ : ∃ x, x = wr.drewN nq := ⟨_, rfl⟩
            have mq : Mod (fun _ => False) w2 wq := by rw [hwq]; exact mk.out.drewN nq
            rw [← hwq]
            replace hwq := Lib.hid hwq
            replace mq := Lib.hid mq
            clear h9 ck0 ck1 ck2
            go_wp2
            go_roundg (gk - 1)
            case measure => have := hkg.out; have := hkn.out; omega
            case rel => exact ⟨k + 1, by have := hkg.out; have := hkn.out; omega, by go_num, mq.out⟩
          · have hdk2 : decide (k < n) = false := by rw [decide_eq_false_iff_not]; exact hk2
            replace hkn := Lib.hid hkn
            replace hk2 := Lib.hid hk2
            replace mk := Lib.hid mk
            clear mlow
            go_upto_region 10 with (fail)
            go_quiet (refine Calls.quiet_of_same (isByte_any q hq1 _))
            obtain ⟨wq, hwq⟩ : ∃ x, x = wr.drewN nq := ⟨_, rfl⟩
            have mq : Mod (fun _ => False) w2 wq := by rw [hwq]; exact mk.out.drewN nq
            rw [← hwq]
            replace hwq := Lib.hid hwq
            replace mq := Lib.hid mq
            clear h9 ck0 ck1 ck2
            go_wp2
            go_roundg (gk - 1)
            case measure => have := hkg.out; have := hkn.out; omega
            case rel => exact ⟨k + 1, by have := hkg.out; have := hkn.out; omega, by go_num, mq.out⟩
        · have hdk : decide (k < N2) = false := by rw [decide_eq_false_iff_not]; exact hkn
          have mf := mr2.out.trans mk
          replace mf := Lib.hid mf
          replace hkg := Lib.hid hkg
          replace hkn := Lib.hid hkn
          clear mk xk
          go_wp2
          go_roundw
          case measure => have := hlt.out; simp [intOf]; omega
          case rel => exact ⟨i + 1, by have := hlt.out; omega, by go_num, mf.out⟩
    · have hd : decide (i < N) = false := by rw [decide_eq_false_iff_not]; exact hlt
      replace mr := Lib.hid mr
      replace hlt := Lib.hid hlt
      clear ownr
      go_wp2
      go_ret
      exact ⟨rfl, mr.out⟩

set_option maxRecDepth 100000 in
set_option maxHeartbeats 4000000 in
theorem apart_any (w : World) (base B N : Nat) (vb : Value) (L : Nat → Value) (xs : Nat → List (BitVec 8)) (ok : BookOk w base B N vb L xs) :
    Calls Tryz.prog 12 #[.pointer (some ⟨B, 0, none⟩)] w fun e w' => e = .returned (.bool true) ∧ Mod (fun k => base ≤ k) w w' := by
  go_enter Tryz.func12, Tryz.ntmps12
  have hB := ok.hB
  have hsh := ok.short
  have hfew := ok.few
  replace ok := Lib.hid ok
  go_upto_region 1 with (fail)
  refine wp_region_lit ?_
  refine wpList_reads (by kernel_rfl) (.pointer (some ⟨B, 0, none⟩)) (by go_simp) ?_
  simp only [Act.put, List.setIfInBounds_toArray, List.set_cons_zero, List.set_cons_succ]
  refine wpList_enter (by kernel_rfl) 19 #[.pointer (some ⟨B, 0, none⟩)] (by go_simp) (fillByte_any w base B N vb L xs ok.out) ?_
  rintro e w1 ⟨rfl, m1', ok1⟩
  have m1 : Mod (fun k => base ≤ k) w w1 := m1'.mono (fun k _ ⟨i, hi, h⟩ => (ownsRow_in (ok.out.row i hi) h).1)
  have at1 := ok1.at_
  replace m1 := Lib.hid m1
  replace ok1 := Lib.hid ok1
  replace at1 := Lib.hid at1
  clear m1'
  refine ⟨_, rfl, ?_⟩
  simp only [Act.put, List.setIfInBounds_toArray, List.set_cons_zero, List.set_cons_succ]
  go_upto_region 2 with (fail)
  refine wp_region_lit ?_
  refine wpList_reads (by kernel_rfl) (.pointer (some ⟨B, 0, none⟩)) (by go_simp) ?_
  simp only [Act.put, List.setIfInBounds_toArray, List.set_cons_zero, List.set_cons_succ]
  refine wpList_enter (by kernel_rfl) 20 #[.pointer (some ⟨B, 0, none⟩)] (by go_simp) (fillNumber_nil w1 B N vb at1.out) ?_
  rintro e ww ⟨hw_, rfl⟩
  rw [hw_]
  clear hw_
  refine ⟨_, rfl, ?_⟩
  simp only [Act.put, List.setIfInBounds_toArray, List.set_cons_zero, List.set_cons_succ]
  go_upto_region 3 with (fail)
  refine wp_region_lit ?_
  refine wpList_reads (by kernel_rfl) (.pointer (some ⟨B, 0, none⟩)) (by go_simp) ?_
  simp only [Act.put, List.setIfInBounds_toArray, List.set_cons_zero, List.set_cons_succ]
  refine wpList_enter (by kernel_rfl) 21 #[.pointer (some ⟨B, 0, none⟩)] (by go_simp) (fillInt_nil w1 B N vb at1.out) ?_
  rintro e ww ⟨hw_, rfl⟩
  rw [hw_]
  clear hw_
  refine ⟨_, rfl, ?_⟩
  simp only [Act.put, List.setIfInBounds_toArray, List.set_cons_zero, List.set_cons_succ]
  go_upto_region 4 with (fail)
  refine wp_region_lit ?_
  refine wpList_reads (by kernel_rfl) (.pointer (some ⟨B, 0, none⟩)) (by go_simp) ?_
  simp only [Act.put, List.setIfInBounds_toArray, List.set_cons_zero, List.set_cons_succ]
  refine wpList_enter (by kernel_rfl) 22 #[.pointer (some ⟨B, 0, none⟩)] (by go_simp) (fillText_nil w1 B N vb at1.out) ?_
  rintro e ww ⟨hw_, rfl⟩
  rw [hw_]
  clear hw_
  refine ⟨_, rfl, ?_⟩
  simp only [Act.put, List.setIfInBounds_toArray, List.set_cons_zero, List.set_cons_succ]
  go_upto_region 5 with (fail)
  refine wp_region_lit ?_
  refine wpList_reads (by kernel_rfl) (.pointer (some ⟨B, 0, none⟩)) (by go_simp) ?_
  simp only [Act.put, List.setIfInBounds_toArray, List.set_cons_zero, List.set_cons_succ]
  refine wpList_enter (by kernel_rfl) 23 #[.pointer (some ⟨B, 0, none⟩)] (by go_simp) (fillBlob_nil w1 B N vb at1.out) ?_
  rintro e ww ⟨hw_, rfl⟩
  rw [hw_]
  clear hw_
  refine ⟨_, rfl, ?_⟩
  simp only [Act.put, List.setIfInBounds_toArray, List.set_cons_zero, List.set_cons_succ]
  go_upto_region 6 with (fail)
  refine wp_region_lit ?_
  refine wpList_reads (by kernel_rfl) (.pointer (some ⟨B, 0, none⟩)) (by go_simp) ?_
  simp only [Act.put, List.setIfInBounds_toArray, List.set_cons_zero, List.set_cons_succ]
  refine wpList_enter (by kernel_rfl) 24 #[.pointer (some ⟨B, 0, none⟩)] (by go_simp) (fillRange_nil w1 B N vb at1.out) ?_
  rintro e ww ⟨hw_, rfl⟩
  rw [hw_]
  clear hw_
  refine ⟨_, rfl, ?_⟩
  simp only [Act.put, List.setIfInBounds_toArray, List.set_cons_zero, List.set_cons_succ]
  go_upto_region 7 with (fail)
  refine wp_region_lit ?_
  refine wpList_reads (by kernel_rfl) (.pointer (some ⟨B, 0, none⟩)) (by go_simp) ?_
  simp only [Act.put, List.setIfInBounds_toArray, List.set_cons_zero, List.set_cons_succ]
  refine wpList_enter (by kernel_rfl) 25 #[.pointer (some ⟨B, 0, none⟩)] (by go_simp) (fillFrame_nil w1 B N vb at1.out) ?_
  rintro e ww ⟨hw_, rfl⟩
  rw [hw_]
  clear hw_
  refine ⟨_, rfl, ?_⟩
  simp only [Act.put, List.setIfInBounds_toArray, List.set_cons_zero, List.set_cons_succ]
  go_upto_region 8 with (fail)
  refine wp_region_lit ?_
  refine wpList_reads (by kernel_rfl) (.pointer (some ⟨B, 0, none⟩)) (by go_simp) ?_
  simp only [Act.put, List.setIfInBounds_toArray, List.set_cons_zero, List.set_cons_succ]
  refine wpList_enter (by kernel_rfl) 26 #[.pointer (some ⟨B, 0, none⟩)] (by go_simp) (fillField_nil w1 B N vb at1.out) ?_
  rintro e ww ⟨hw_, rfl⟩
  rw [hw_]
  clear hw_
  refine ⟨_, rfl, ?_⟩
  simp only [Act.put, List.setIfInBounds_toArray, List.set_cons_zero, List.set_cons_succ]
  go_upto_region 9 with (fail)
  refine wp_region_lit ?_
  refine wpList_reads (by kernel_rfl) (.pointer (some ⟨B, 0, none⟩)) (by go_simp) ?_
  simp only [Act.put, List.setIfInBounds_toArray, List.set_cons_zero, List.set_cons_succ]
  refine wpList_enter (by kernel_rfl) 27 #[.pointer (some ⟨B, 0, none⟩)] (by go_simp) (fillMessage_nil w1 B N vb at1.out) ?_
  rintro e ww ⟨hw_, rfl⟩
  rw [hw_]
  clear hw_
  refine ⟨_, rfl, ?_⟩
  simp only [Act.put, List.setIfInBounds_toArray, List.set_cons_zero, List.set_cons_succ]
  go_upto_region 10 with (fail)
  refine wp_region_lit ?_
  refine wpList_reads (by kernel_rfl) (.pointer (some ⟨B, 0, none⟩)) (by go_simp) ?_
  simp only [Act.put, List.setIfInBounds_toArray, List.set_cons_zero, List.set_cons_succ]
  refine wpList_enter (by kernel_rfl) 28 #[.pointer (some ⟨B, 0, none⟩)] (by go_simp) (fillRule_nil w1 B N vb at1.out) ?_
  rintro e ww ⟨hw_, rfl⟩
  rw [hw_]
  clear hw_
  refine ⟨_, rfl, ?_⟩
  simp only [Act.put, List.setIfInBounds_toArray, List.set_cons_zero, List.set_cons_succ]
  go_upto_region 11 with (fail)
  refine wp_region_lit ?_
  refine wpList_reads (by kernel_rfl) (.pointer (some ⟨B, 0, none⟩)) (by go_simp) ?_
  simp only [Act.put, List.setIfInBounds_toArray, List.set_cons_zero, List.set_cons_succ]
  refine wpList_enter (by kernel_rfl) 29 #[.pointer (some ⟨B, 0, none⟩)] (by go_simp) (fillEvent_nil w1 B N vb at1.out) ?_
  rintro e ww ⟨hw_, rfl⟩
  rw [hw_]
  clear hw_
  refine ⟨_, rfl, ?_⟩
  simp only [Act.put, List.setIfInBounds_toArray, List.set_cons_zero, List.set_cons_succ]
  go_upto_region 12 with (fail)
  refine wp_region_lit ?_
  refine wpList_reads (by kernel_rfl) (.pointer (some ⟨B, 0, none⟩)) (by go_simp) ?_
  simp only [Act.put, List.setIfInBounds_toArray, List.set_cons_zero, List.set_cons_succ]
  refine wpList_enter (by kernel_rfl) 30 #[.pointer (some ⟨B, 0, none⟩)] (by go_simp) (fillReply_nil w1 B N vb at1.out) ?_
  rintro e ww ⟨hw_, rfl⟩
  rw [hw_]
  clear hw_
  refine ⟨_, rfl, ?_⟩
  simp only [Act.put, List.setIfInBounds_toArray, List.set_cons_zero, List.set_cons_succ]
  go_upto_region 13 with (fail)
  refine wp_region_lit ?_
  refine wpList_reads (by kernel_rfl) (.pointer (some ⟨B, 0, none⟩)) (by go_simp) ?_
  simp only [Act.put, List.setIfInBounds_toArray, List.set_cons_zero, List.set_cons_succ]
  refine wpList_enter (by kernel_rfl) 31 #[.pointer (some ⟨B, 0, none⟩)] (by go_simp) (growByte_any w1 base B N vb L (fun i => (xs i).length) ok1.out) ?_
  rintro e w2 ⟨rfl, m2, Lo, gr2⟩
  have m02 := m1.out.trans m2
  have at2 := gr2.at_
  replace m02 := Lib.hid m02
  replace gr2 := Lib.hid gr2
  replace at2 := Lib.hid at2
  clear m2
  refine ⟨_, rfl, ?_⟩
  simp only [Act.put, List.setIfInBounds_toArray, List.set_cons_zero, List.set_cons_succ]
  go_upto_region 14 with (fail)
  refine wp_region_lit ?_
  refine wpList_reads (by kernel_rfl) (.pointer (some ⟨B, 0, none⟩)) (by go_simp) ?_
  simp only [Act.put, List.setIfInBounds_toArray, List.set_cons_zero, List.set_cons_succ]
  refine wpList_enter (by kernel_rfl) 32 #[.pointer (some ⟨B, 0, none⟩)] (by go_simp) (growNumber_nil w2 B N vb at2.out) ?_
  rintro e ww ⟨hw_, rfl⟩
  rw [hw_]
  clear hw_
  refine ⟨_, rfl, ?_⟩
  simp only [Act.put, List.setIfInBounds_toArray, List.set_cons_zero, List.set_cons_succ]
  go_upto_region 15 with (fail)
  refine wp_region_lit ?_
  refine wpList_reads (by kernel_rfl) (.pointer (some ⟨B, 0, none⟩)) (by go_simp) ?_
  simp only [Act.put, List.setIfInBounds_toArray, List.set_cons_zero, List.set_cons_succ]
  refine wpList_enter (by kernel_rfl) 33 #[.pointer (some ⟨B, 0, none⟩)] (by go_simp) (growInt_nil w2 B N vb at2.out) ?_
  rintro e ww ⟨hw_, rfl⟩
  rw [hw_]
  clear hw_
  refine ⟨_, rfl, ?_⟩
  simp only [Act.put, List.setIfInBounds_toArray, List.set_cons_zero, List.set_cons_succ]
  go_upto_region 16 with (fail)
  refine wp_region_lit ?_
  refine wpList_reads (by kernel_rfl) (.pointer (some ⟨B, 0, none⟩)) (by go_simp) ?_
  simp only [Act.put, List.setIfInBounds_toArray, List.set_cons_zero, List.set_cons_succ]
  refine wpList_enter (by kernel_rfl) 34 #[.pointer (some ⟨B, 0, none⟩)] (by go_simp) (growText_nil w2 B N vb at2.out) ?_
  rintro e ww ⟨hw_, rfl⟩
  rw [hw_]
  clear hw_
  refine ⟨_, rfl, ?_⟩
  simp only [Act.put, List.setIfInBounds_toArray, List.set_cons_zero, List.set_cons_succ]
  go_upto_region 17 with (fail)
  refine wp_region_lit ?_
  refine wpList_reads (by kernel_rfl) (.pointer (some ⟨B, 0, none⟩)) (by go_simp) ?_
  simp only [Act.put, List.setIfInBounds_toArray, List.set_cons_zero, List.set_cons_succ]
  refine wpList_enter (by kernel_rfl) 35 #[.pointer (some ⟨B, 0, none⟩)] (by go_simp) (growBlob_nil w2 B N vb at2.out) ?_
  rintro e ww ⟨hw_, rfl⟩
  rw [hw_]
  clear hw_
  refine ⟨_, rfl, ?_⟩
  simp only [Act.put, List.setIfInBounds_toArray, List.set_cons_zero, List.set_cons_succ]
  go_upto_region 18 with (fail)
  refine wp_region_lit ?_
  refine wpList_reads (by kernel_rfl) (.pointer (some ⟨B, 0, none⟩)) (by go_simp) ?_
  simp only [Act.put, List.setIfInBounds_toArray, List.set_cons_zero, List.set_cons_succ]
  refine wpList_enter (by kernel_rfl) 36 #[.pointer (some ⟨B, 0, none⟩)] (by go_simp) (growRange_nil w2 B N vb at2.out) ?_
  rintro e ww ⟨hw_, rfl⟩
  rw [hw_]
  clear hw_
  refine ⟨_, rfl, ?_⟩
  simp only [Act.put, List.setIfInBounds_toArray, List.set_cons_zero, List.set_cons_succ]
  go_upto_region 19 with (fail)
  refine wp_region_lit ?_
  refine wpList_reads (by kernel_rfl) (.pointer (some ⟨B, 0, none⟩)) (by go_simp) ?_
  simp only [Act.put, List.setIfInBounds_toArray, List.set_cons_zero, List.set_cons_succ]
  refine wpList_enter (by kernel_rfl) 37 #[.pointer (some ⟨B, 0, none⟩)] (by go_simp) (growFrame_nil w2 B N vb at2.out) ?_
  rintro e ww ⟨hw_, rfl⟩
  rw [hw_]
  clear hw_
  refine ⟨_, rfl, ?_⟩
  simp only [Act.put, List.setIfInBounds_toArray, List.set_cons_zero, List.set_cons_succ]
  go_upto_region 20 with (fail)
  refine wp_region_lit ?_
  refine wpList_reads (by kernel_rfl) (.pointer (some ⟨B, 0, none⟩)) (by go_simp) ?_
  simp only [Act.put, List.setIfInBounds_toArray, List.set_cons_zero, List.set_cons_succ]
  refine wpList_enter (by kernel_rfl) 38 #[.pointer (some ⟨B, 0, none⟩)] (by go_simp) (growField_nil w2 B N vb at2.out) ?_
  rintro e ww ⟨hw_, rfl⟩
  rw [hw_]
  clear hw_
  refine ⟨_, rfl, ?_⟩
  simp only [Act.put, List.setIfInBounds_toArray, List.set_cons_zero, List.set_cons_succ]
  go_upto_region 21 with (fail)
  refine wp_region_lit ?_
  refine wpList_reads (by kernel_rfl) (.pointer (some ⟨B, 0, none⟩)) (by go_simp) ?_
  simp only [Act.put, List.setIfInBounds_toArray, List.set_cons_zero, List.set_cons_succ]
  refine wpList_enter (by kernel_rfl) 39 #[.pointer (some ⟨B, 0, none⟩)] (by go_simp) (growMessage_nil w2 B N vb at2.out) ?_
  rintro e ww ⟨hw_, rfl⟩
  rw [hw_]
  clear hw_
  refine ⟨_, rfl, ?_⟩
  simp only [Act.put, List.setIfInBounds_toArray, List.set_cons_zero, List.set_cons_succ]
  go_upto_region 22 with (fail)
  refine wp_region_lit ?_
  refine wpList_reads (by kernel_rfl) (.pointer (some ⟨B, 0, none⟩)) (by go_simp) ?_
  simp only [Act.put, List.setIfInBounds_toArray, List.set_cons_zero, List.set_cons_succ]
  refine wpList_enter (by kernel_rfl) 40 #[.pointer (some ⟨B, 0, none⟩)] (by go_simp) (growRule_nil w2 B N vb at2.out) ?_
  rintro e ww ⟨hw_, rfl⟩
  rw [hw_]
  clear hw_
  refine ⟨_, rfl, ?_⟩
  simp only [Act.put, List.setIfInBounds_toArray, List.set_cons_zero, List.set_cons_succ]
  go_upto_region 23 with (fail)
  refine wp_region_lit ?_
  refine wpList_reads (by kernel_rfl) (.pointer (some ⟨B, 0, none⟩)) (by go_simp) ?_
  simp only [Act.put, List.setIfInBounds_toArray, List.set_cons_zero, List.set_cons_succ]
  refine wpList_enter (by kernel_rfl) 41 #[.pointer (some ⟨B, 0, none⟩)] (by go_simp) (growEvent_nil w2 B N vb at2.out) ?_
  rintro e ww ⟨hw_, rfl⟩
  rw [hw_]
  clear hw_
  refine ⟨_, rfl, ?_⟩
  simp only [Act.put, List.setIfInBounds_toArray, List.set_cons_zero, List.set_cons_succ]
  go_upto_region 24 with (fail)
  refine wp_region_lit ?_
  refine wpList_reads (by kernel_rfl) (.pointer (some ⟨B, 0, none⟩)) (by go_simp) ?_
  simp only [Act.put, List.setIfInBounds_toArray, List.set_cons_zero, List.set_cons_succ]
  refine wpList_enter (by kernel_rfl) 42 #[.pointer (some ⟨B, 0, none⟩)] (by go_simp) (growReply_nil w2 B N vb at2.out) ?_
  rintro e ww ⟨hw_, rfl⟩
  rw [hw_]
  clear hw_
  refine ⟨_, rfl, ?_⟩
  simp only [Act.put, List.setIfInBounds_toArray, List.set_cons_zero, List.set_cons_succ]
  go_upto_region 25 with (fail)
  refine wp_region_lit ?_
  refine wpList_reads (by kernel_rfl) (.pointer (some ⟨B, 0, none⟩)) (by go_simp) ?_
  simp only [Act.put, List.setIfInBounds_toArray, List.set_cons_zero, List.set_cons_succ]
  refine wpList_enter (by kernel_rfl) 43 #[.pointer (some ⟨B, 0, none⟩)] (by go_simp) (lookByte_any w2 base B N vb L Lo (fun i => (xs i).length) hfew hsh gr2.out) ?_
  rintro e w3 ⟨rfl, m3⟩
  have m03 := m02.out.trans' m3 (fun _ _ h => h.elim)
  have at3 : bookAt w3 B N vb := m3.heap at2.out (fun h => h)
  replace m03 := Lib.hid m03
  replace at3 := Lib.hid at3
  clear m3
  refine ⟨_, rfl, ?_⟩
  simp only [Act.put, List.setIfInBounds_toArray, List.set_cons_zero, List.set_cons_succ]
  refine wpList_reads (by kernel_rfl) (.bool true) (by go_simp) ?_
  simp only [Act.put, List.setIfInBounds_toArray, List.set_cons_zero, List.set_cons_succ]
  refine wpList_reads (by kernel_rfl) (.pointer (some ⟨B, 0, none⟩)) (by go_simp) ?_
  simp only [Act.put, List.setIfInBounds_toArray, List.set_cons_zero, List.set_cons_succ]
  refine wpList_enter (by kernel_rfl) 44 #[.pointer (some ⟨B, 0, none⟩)] (by go_simp) (lookNumber_nil w3 B N vb at3.out) ?_
  rintro e ww ⟨hw_, rfl⟩
  rw [hw_]
  clear hw_
  refine ⟨_, rfl, ?_⟩
  simp only [Act.put, List.setIfInBounds_toArray, List.set_cons_zero, List.set_cons_succ]
  refine wpList_reads (by kernel_rfl) (.bool true) (by go_simp) ?_
  simp only [Act.put, List.setIfInBounds_toArray, List.set_cons_zero, List.set_cons_succ]
  refine wpList_reads (by kernel_rfl) (.bool true) (by go_simp) ?_
  simp only [Act.put, List.setIfInBounds_toArray, List.set_cons_zero, List.set_cons_succ]
  refine wpList_reads (by kernel_rfl) (.pointer (some ⟨B, 0, none⟩)) (by go_simp) ?_
  simp only [Act.put, List.setIfInBounds_toArray, List.set_cons_zero, List.set_cons_succ]
  refine wpList_enter (by kernel_rfl) 45 #[.pointer (some ⟨B, 0, none⟩)] (by go_simp) (lookInt_nil w3 B N vb at3.out) ?_
  rintro e ww ⟨hw_, rfl⟩
  rw [hw_]
  clear hw_
  refine ⟨_, rfl, ?_⟩
  simp only [Act.put, List.setIfInBounds_toArray, List.set_cons_zero, List.set_cons_succ]
  refine wpList_reads (by kernel_rfl) (.bool true) (by go_simp) ?_
  simp only [Act.put, List.setIfInBounds_toArray, List.set_cons_zero, List.set_cons_succ]
  refine wpList_reads (by kernel_rfl) (.bool true) (by go_simp) ?_
  simp only [Act.put, List.setIfInBounds_toArray, List.set_cons_zero, List.set_cons_succ]
  refine wpList_reads (by kernel_rfl) (.pointer (some ⟨B, 0, none⟩)) (by go_simp) ?_
  simp only [Act.put, List.setIfInBounds_toArray, List.set_cons_zero, List.set_cons_succ]
  refine wpList_enter (by kernel_rfl) 46 #[.pointer (some ⟨B, 0, none⟩)] (by go_simp) (lookText_nil w3 B N vb at3.out) ?_
  rintro e ww ⟨hw_, rfl⟩
  rw [hw_]
  clear hw_
  refine ⟨_, rfl, ?_⟩
  simp only [Act.put, List.setIfInBounds_toArray, List.set_cons_zero, List.set_cons_succ]
  refine wpList_reads (by kernel_rfl) (.bool true) (by go_simp) ?_
  simp only [Act.put, List.setIfInBounds_toArray, List.set_cons_zero, List.set_cons_succ]
  refine wpList_reads (by kernel_rfl) (.bool true) (by go_simp) ?_
  simp only [Act.put, List.setIfInBounds_toArray, List.set_cons_zero, List.set_cons_succ]
  refine wpList_reads (by kernel_rfl) (.pointer (some ⟨B, 0, none⟩)) (by go_simp) ?_
  simp only [Act.put, List.setIfInBounds_toArray, List.set_cons_zero, List.set_cons_succ]
  refine wpList_enter (by kernel_rfl) 47 #[.pointer (some ⟨B, 0, none⟩)] (by go_simp) (lookBlob_nil w3 B N vb at3.out) ?_
  rintro e ww ⟨hw_, rfl⟩
  rw [hw_]
  clear hw_
  refine ⟨_, rfl, ?_⟩
  simp only [Act.put, List.setIfInBounds_toArray, List.set_cons_zero, List.set_cons_succ]
  refine wpList_reads (by kernel_rfl) (.bool true) (by go_simp) ?_
  simp only [Act.put, List.setIfInBounds_toArray, List.set_cons_zero, List.set_cons_succ]
  refine wpList_reads (by kernel_rfl) (.bool true) (by go_simp) ?_
  simp only [Act.put, List.setIfInBounds_toArray, List.set_cons_zero, List.set_cons_succ]
  refine wpList_reads (by kernel_rfl) (.pointer (some ⟨B, 0, none⟩)) (by go_simp) ?_
  simp only [Act.put, List.setIfInBounds_toArray, List.set_cons_zero, List.set_cons_succ]
  refine wpList_enter (by kernel_rfl) 48 #[.pointer (some ⟨B, 0, none⟩)] (by go_simp) (lookRange_nil w3 B N vb at3.out) ?_
  rintro e ww ⟨hw_, rfl⟩
  rw [hw_]
  clear hw_
  refine ⟨_, rfl, ?_⟩
  simp only [Act.put, List.setIfInBounds_toArray, List.set_cons_zero, List.set_cons_succ]
  refine wpList_reads (by kernel_rfl) (.bool true) (by go_simp) ?_
  simp only [Act.put, List.setIfInBounds_toArray, List.set_cons_zero, List.set_cons_succ]
  refine wpList_reads (by kernel_rfl) (.bool true) (by go_simp) ?_
  simp only [Act.put, List.setIfInBounds_toArray, List.set_cons_zero, List.set_cons_succ]
  refine wpList_reads (by kernel_rfl) (.pointer (some ⟨B, 0, none⟩)) (by go_simp) ?_
  simp only [Act.put, List.setIfInBounds_toArray, List.set_cons_zero, List.set_cons_succ]
  refine wpList_enter (by kernel_rfl) 49 #[.pointer (some ⟨B, 0, none⟩)] (by go_simp) (lookFrame_nil w3 B N vb at3.out) ?_
  rintro e ww ⟨hw_, rfl⟩
  rw [hw_]
  clear hw_
  refine ⟨_, rfl, ?_⟩
  simp only [Act.put, List.setIfInBounds_toArray, List.set_cons_zero, List.set_cons_succ]
  refine wpList_reads (by kernel_rfl) (.bool true) (by go_simp) ?_
  simp only [Act.put, List.setIfInBounds_toArray, List.set_cons_zero, List.set_cons_succ]
  refine wpList_reads (by kernel_rfl) (.bool true) (by go_simp) ?_
  simp only [Act.put, List.setIfInBounds_toArray, List.set_cons_zero, List.set_cons_succ]
  refine wpList_reads (by kernel_rfl) (.pointer (some ⟨B, 0, none⟩)) (by go_simp) ?_
  simp only [Act.put, List.setIfInBounds_toArray, List.set_cons_zero, List.set_cons_succ]
  refine wpList_enter (by kernel_rfl) 50 #[.pointer (some ⟨B, 0, none⟩)] (by go_simp) (lookField_nil w3 B N vb at3.out) ?_
  rintro e ww ⟨hw_, rfl⟩
  rw [hw_]
  clear hw_
  refine ⟨_, rfl, ?_⟩
  simp only [Act.put, List.setIfInBounds_toArray, List.set_cons_zero, List.set_cons_succ]
  refine wpList_reads (by kernel_rfl) (.bool true) (by go_simp) ?_
  simp only [Act.put, List.setIfInBounds_toArray, List.set_cons_zero, List.set_cons_succ]
  refine wpList_reads (by kernel_rfl) (.bool true) (by go_simp) ?_
  simp only [Act.put, List.setIfInBounds_toArray, List.set_cons_zero, List.set_cons_succ]
  refine wpList_reads (by kernel_rfl) (.pointer (some ⟨B, 0, none⟩)) (by go_simp) ?_
  simp only [Act.put, List.setIfInBounds_toArray, List.set_cons_zero, List.set_cons_succ]
  refine wpList_enter (by kernel_rfl) 51 #[.pointer (some ⟨B, 0, none⟩)] (by go_simp) (lookMessage_nil w3 B N vb at3.out) ?_
  rintro e ww ⟨hw_, rfl⟩
  rw [hw_]
  clear hw_
  refine ⟨_, rfl, ?_⟩
  simp only [Act.put, List.setIfInBounds_toArray, List.set_cons_zero, List.set_cons_succ]
  refine wpList_reads (by kernel_rfl) (.bool true) (by go_simp) ?_
  simp only [Act.put, List.setIfInBounds_toArray, List.set_cons_zero, List.set_cons_succ]
  refine wpList_reads (by kernel_rfl) (.bool true) (by go_simp) ?_
  simp only [Act.put, List.setIfInBounds_toArray, List.set_cons_zero, List.set_cons_succ]
  refine wpList_reads (by kernel_rfl) (.pointer (some ⟨B, 0, none⟩)) (by go_simp) ?_
  simp only [Act.put, List.setIfInBounds_toArray, List.set_cons_zero, List.set_cons_succ]
  refine wpList_enter (by kernel_rfl) 52 #[.pointer (some ⟨B, 0, none⟩)] (by go_simp) (lookRule_nil w3 B N vb at3.out) ?_
  rintro e ww ⟨hw_, rfl⟩
  rw [hw_]
  clear hw_
  refine ⟨_, rfl, ?_⟩
  simp only [Act.put, List.setIfInBounds_toArray, List.set_cons_zero, List.set_cons_succ]
  refine wpList_reads (by kernel_rfl) (.bool true) (by go_simp) ?_
  simp only [Act.put, List.setIfInBounds_toArray, List.set_cons_zero, List.set_cons_succ]
  refine wpList_reads (by kernel_rfl) (.bool true) (by go_simp) ?_
  simp only [Act.put, List.setIfInBounds_toArray, List.set_cons_zero, List.set_cons_succ]
  refine wpList_reads (by kernel_rfl) (.pointer (some ⟨B, 0, none⟩)) (by go_simp) ?_
  simp only [Act.put, List.setIfInBounds_toArray, List.set_cons_zero, List.set_cons_succ]
  refine wpList_enter (by kernel_rfl) 53 #[.pointer (some ⟨B, 0, none⟩)] (by go_simp) (lookEvent_nil w3 B N vb at3.out) ?_
  rintro e ww ⟨hw_, rfl⟩
  rw [hw_]
  clear hw_
  refine ⟨_, rfl, ?_⟩
  simp only [Act.put, List.setIfInBounds_toArray, List.set_cons_zero, List.set_cons_succ]
  refine wpList_reads (by kernel_rfl) (.bool true) (by go_simp) ?_
  simp only [Act.put, List.setIfInBounds_toArray, List.set_cons_zero, List.set_cons_succ]
  refine wpList_reads (by kernel_rfl) (.bool true) (by go_simp) ?_
  simp only [Act.put, List.setIfInBounds_toArray, List.set_cons_zero, List.set_cons_succ]
  refine wpList_reads (by kernel_rfl) (.pointer (some ⟨B, 0, none⟩)) (by go_simp) ?_
  simp only [Act.put, List.setIfInBounds_toArray, List.set_cons_zero, List.set_cons_succ]
  refine wpList_enter (by kernel_rfl) 54 #[.pointer (some ⟨B, 0, none⟩)] (by go_simp) (lookReply_nil w3 B N vb at3.out) ?_
  rintro e ww ⟨hw_, rfl⟩
  rw [hw_]
  clear hw_
  refine ⟨_, rfl, ?_⟩
  simp only [Act.put, List.setIfInBounds_toArray, List.set_cons_zero, List.set_cons_succ]
  refine wpList_reads (by kernel_rfl) (.bool true) (by go_simp) ?_
  simp only [Act.put, List.setIfInBounds_toArray, List.set_cons_zero, List.set_cons_succ]
  refine wpList_reads (by kernel_rfl) (.bool true) (by go_simp) ?_
  simp only [Act.put, List.setIfInBounds_toArray, List.set_cons_zero, List.set_cons_succ]
  go_wp2
  go_ret
  exact ⟨rfl, m03.out⟩
end Go.Proofs.YthhbomiknikjpaaGreatDoor
