/-
  mailcoachref06.key32, nonce12, filled, eight, Sum. Printed by gen/pr5.py.
-/
import Derived.Test.YtbiijcljpgannaaGreatDoorYy
import Derived.Test.YtbiijcljpgannaaGreatDoorYl
import Derived.Test.YtbiijcljpgannaaGreatDoorX1
namespace Go.Proofs.YtbiijcljpgannaaGreatDoor
set_option maxRecDepth 100000
open Go Go.RowKit Go.Lib
set_option linter.unusedSimpArgs false
set_option linter.unusedVariables false

def filT (l : List (BitVec 8)) (m j : Nat) : List (BitVec 8) := l.take j ++ List.replicate (m - j) 0
theorem filT_length {l : List (BitVec 8)} {m j : Nat} (hl : l.length = m) (hj : j ≤ m) : (filT l m j).length = m := by simp [filT, hl]; omega
theorem filT_all {l : List (BitVec 8)} {m : Nat} (hl : l.length = m) : filT l m m = l := by simp [filT, ← hl]
theorem filT_zero (l : List (BitVec 8)) (m : Nat) : filT l m 0 = List.replicate m 0 := by simp [filT]
theorem filT_set {l : List (BitVec 8)} {m j : Nat} (hl : l.length = m) (hj : j < m) : (filT l m j).set j (l.getD j 0) = filT l m (j + 1) := by
  apply List.ext_getElem
  · simp [filT, hl]; omega
  · intro i h1 h2
    rw [List.getElem_set]
    have hi : i < m := by rw [filT_length hl (by omega)] at h2; exact h2
    by_cases hij : j = i
    · subst hij
      rw [if_pos rfl]
      simp only [filT]
      rw [List.getElem_append_left (by simp [hl]; omega), List.getElem_take, List.getD_eq_getElem?_getD, List.getElem?_eq_getElem (by omega)]
      rfl
    · rw [if_neg hij]
      simp only [filT]
      by_cases h : i < j
      · rw [List.getElem_append_left (by simp [hl]; omega), List.getElem_append_left (by simp [hl]; omega), List.getElem_take, List.getElem_take]
      · rw [List.getElem_append_right (by simp [hl]; omega), List.getElem_append_right (by simp [hl]; omega)]
        simp
theorem cellU {w : World} {g : Nat} {t : TypeId} {l : List (BitVec 8)} (h : w.heap[g]? = some (.cells (encB l) t (0,0))) {j : Nat} (hj : j < l.length) : w.cell? ⟨g, j, none⟩ = some (.int .u8 ((l.getD j 0).toNat : Int)) := by
  rw [cell_of_row _ _ _ _ _ _ h, encB_get hj]
theorem putU {w : World} {g : Nat} {t : TypeId} {l : List (BitVec 8)} (h : w.heap[g]? = some (.cells (encB l) t (0,0))) {j : Nat} (hj : j < l.length) (z : BitVec 8) :
    ∃ w', (storeVar 5 ⟨g, j, none⟩ (.int .u8 (z.toNat : Int))).run Tryz.prog w = .ok () w' ∧ Mod (fun k => k = g) w w' ∧ w'.heap[g]? = some (.cells (encB (l.set j z)) t (0,0)) := by
  refine ⟨_, store_u8P (cellU h hj) (frozen_of_row w g j _ _ h), Mod.one_setCell _ _ _ _, ?_⟩
  rw [setCell_row _ _ _ _ _ _ h, setRow_heap _ _ _ _ _ _ h]
  congr 2
  simp [encB, List.map_set]
theorem lt_of_cell {w : World} {g off : Nat} {v : Value} (h : w.cell? ⟨g, off, none⟩ = some v) : g < w.heap.size := by
  rcases Nat.lt_or_ge g w.heap.size with h' | h'
  · exact h'
  · simp [World.cell?, Array.getElem?_eq_none h'] at h
def lenV : Value → Nat
  | .slice _ n _ => n
  | _ => 0
theorem ByteAt.cells {w : World} {v : Value} {bs : List (BitVec 8)} (h : ByteAt w v bs) (h0 : 0 < bs.length) : ∃ g off cap, v = .slice (some ⟨g, off, none⟩) bs.length cap ∧ ∀ j, j < bs.length → w.cell? ⟨g, off + j, none⟩ = some (.int .u8 ((bs.getD j 0).toNat : Int)) := by
  rcases h with ⟨ad, cap, rfl, rfl⟩ | ⟨g, off, cap, rfl, _, h2⟩
  · simp at h0
  · exact ⟨g, off, cap, rfl, h2⟩
theorem eights_succ (B P j : Nat) (hj : j < 16) : (eightS B ++ eightS P).take (j + 1) = (eightS B ++ eightS P).take j ++ [BitVec.ofNat 8 ((if 8 ≤ j then P else B) / 2 ^ (8 * (j % 8)))] := by
  have hl : (eightS B ++ eightS P).length = 16 := by simp [eightS, eightTo_length]
  rw [List.take_add_one, List.getElem?_eq_getElem (by omega)]
  congr 1
  simp only [Option.toList_some, List.cons.injEq, and_true]
  by_cases h : j < 8
  · rw [List.getElem_append_left (by simp [eightS, eightTo_length]; exact h), if_neg (by omega), show j % 8 = j by omega]
    simp [eightS, eightTo]
  · rw [List.getElem_append_right (by simp [eightS, eightTo_length]; omega), if_pos (by omega), show j % 8 = j - 8 by omega]
    simp [eightS, eightTo]
theorem pad_behind (b s : List (BitVec 8)) : (padZ (b ++ padZ b ++ s)) = padZ s := by
  unfold padZ
  congr 1
  simp only [List.length_append, List.length_replicate]
  omega
theorem mac_parts (b s : List (BitVec 8)) : macB s b = b ++ padZ b ++ s ++ padZ s ++ (eightS b.length ++ eightS s.length) := by
  simp [macB, macL]
set_option maxRecDepth 100000 in
set_option maxHeartbeats 4000000 in
theorem rkey32_any (v : Value) (b : List (BitVec 8)) (hb : b.length = 32) (w : World) (hv : ByteAt w v b) : Calls Tryz.prog 21 #[v] w fun e w' => Mod (fun _ => False) w w' ∧ e = .returned (.agg (encB b)) := by
  obtain ⟨gb, ob, cb, rfl, hcells⟩ := hv.cells (by omega)
  rw [hb] at hcells ⊢
  obtain ⟨w1, hw1⟩ : ∃ x, x = w.alloc (.cells (encB (List.replicate 32 0)) 49) := ⟨_, rfl⟩
  obtain ⟨g2, hg2⟩ : ∃ x, x = w.heap.size := ⟨_, rfl⟩
  have m1 : Mod (fun _ => False) w w1 := by rw [hw1]; exact (Mod.refl _ _).alloc _
  have x2 : w1.heap[g2]? = some (.cells (encB (List.replicate 32 0)) 49 (0,0)) := by rw [hw1]; exact hp_new _ _ _ hg2
  obtain ⟨w2, hw2⟩ : ∃ x, x = w1.alloc (.cells (encB (List.replicate 32 0)) 49) := ⟨_, rfl⟩
  obtain ⟨g3, hg3⟩ : ∃ x, x = w1.heap.size := ⟨_, rfl⟩
  have m2 : Mod (fun _ => False) w1 w2 := by rw [hw2]; exact (Mod.refl _ _).alloc _
  have x3 : w2.heap[g3]? = some (.cells (encB (filT b 32 0)) 49 (0,0)) := by rw [hw2, filT_zero]; exact hp_new _ _ _ hg3
  have y2 := m2.heap x2 (fun h => h)
  have h23 : g2 < g3 := by rw [hg3]; exact lt_of_heap x2
  have m02 := m1.trans m2
  have h2w : w.heap.size ≤ g2 := by rw [hg2]; exact Nat.le_refl _
  have hgb : gb < w.heap.size := lt_of_cell (hcells 0 (by omega))
  replace hb := Lib.hid hb
  replace hcells := Lib.hid hcells
  replace hw1 := Lib.hid hw1
  replace hg2 := Lib.hid hg2
  replace hw2 := Lib.hid hw2
  replace hg3 := Lib.hid hg3
  replace x3 := Lib.hid x3
  replace y2 := Lib.hid y2
  replace h23 := Lib.hid h23
  replace m02 := Lib.hid m02
  replace h2w := Lib.hid h2w
  replace hgb := Lib.hid hgb
  clear m1 m2 x2
  go_enter Tryz.func21, Tryz.ntmps21
  go_upto_region 0 with (fail)
  refine wp_region_lit ?_
  refine wpList_yields (by kernel_rfl) _ _ (alloc_arrY 49 _ zeroY32 _ _ _ rfl) ?_
  simp only [Act.put, List.setIfInBounds_toArray, List.set_cons_zero, List.set_cons_succ]
  rw [← hg2.out, ← hw1.out]
  go_upto_region 1 with (fail)
  refine wp_region_lit ?_
  refine wpList_yields (by kernel_rfl) _ _ (alloc_arrY 49 _ zeroY32 _ _ _ rfl) ?_
  simp only [Act.put, List.setIfInBounds_toArray, List.set_cons_zero, List.set_cons_succ]
  rw [← hg3.out, ← hw2.out]
  go_wp2
  go_loopw [4] (fun iv wr => ∃ j : Nat, j ≤ 32 ∧ iv = .int .i64 (j : Int) ∧ Mod (fun i => i = g3) w2 wr ∧ wr.heap[g3]? = some (.cells (encB (filT b 32 j)) 49 (0,0))) (fun iv _ => 32 - (intOf iv).toNat)
  case atStart => exact ⟨0, by omega, rfl, Mod.refl _ _, x3.out⟩
  case round =>
    obtain ⟨j, hjN, rfl, mr, yr⟩ := hrel
    have bj0 : (0 : Int) ≤ (j : Int) := by omega
    have MR := m02.out.trans' mr (fun i hi h => by have := h23.out; have := h2w.out; omega)
    by_cases hjlt : j < 32
    · have hdj : decide ((j : Int) < 32) = true := by rw [decide_eq_true_iff]; omega
      have bjN : (j : Int) < 32 := by omega
      obtain ⟨z, hz⟩ : ∃ z, z = b.getD j 0 := ⟨_, rfl⟩
      have hcz : wr.cell? ⟨gb, ob + j, none⟩ = some (.int .u8 (z.toNat : Int)) := by rw [hz]; exact cell_mod MR (hcells.out j hjlt) (fun h => h)
      have lz := ld_u8P hcz
      obtain ⟨w', st, nm, y'⟩ := putU yr (j := j) (by rw [filT_length hb.out (by omega)]; exact hjlt) z
      rw [hz, filT_set hb.out hjlt] at y'
      have mf := mr.trans nm
      replace y' := Lib.hid y'
      replace mf := Lib.hid mf
      clear nm mr yr MR hcz
      go_upto_region 5 with (fail)
      refine wp_region_lit ?_
      refine wpList_reads (by kernel_rfl) (.int .i64 (j : Int)) (by go_simp) ?_
      simp only [Act.put, List.setIfInBounds_toArray, List.set_cons_zero, List.set_cons_succ]
      refine wpList_reads (by kernel_rfl) (.slice (some ⟨gb, ob, none⟩) 32 cb) (by go_simp) ?_
      simp only [Act.put, List.setIfInBounds_toArray, List.set_cons_zero, List.set_cons_succ]
      refine wpList_reads (by kernel_rfl) (.int .i64 (j : Int)) (by go_simp) ?_
      simp only [Act.put, List.setIfInBounds_toArray, List.set_cons_zero, List.set_cons_succ]
      refine wpList_reads (by kernel_rfl) (.pointer (some ⟨gb, ob + j, none⟩)) (by go_simp) ?_
      simp only [Act.put, List.setIfInBounds_toArray, List.set_cons_zero, List.set_cons_succ]
      refine wpList_reads (by kernel_rfl) (.int .u8 (z.toNat : Int)) (run_load_op rfl rfl lz) ?_
      simp only [Act.put, List.setIfInBounds_toArray, List.set_cons_zero, List.set_cons_succ]
      refine wpList_reads (by kernel_rfl) (.pointer (some ⟨g3, j, none⟩)) (by go_simp) ?_
      simp only [Act.put, List.setIfInBounds_toArray, List.set_cons_zero, List.set_cons_succ]
      refine wpList_store_to rfl _ _ _ rfl _ _ _ rfl rfl _ st ?_
      simp only [Act.put, List.setIfInBounds_toArray, List.set_cons_zero, List.set_cons_succ]
      clear st lz
      replace hz := Lib.hid hz
      go_wp2
      go_roundw
      case measure => simp [intOf]; omega
      case rel => exact ⟨j + 1, by omega, by go_num, mf.out, y'.out⟩
    · have hj : 32 = j := by omega
      subst hj
      have hdj : decide (((32 : Nat) : Int) < 32) = false := by decide
      rw [filT_all hb.out] at yr
      have l3 := loadY32 yr hb.out
      have y2r := mr.heap y2.out (by have := h23.out; omega)
      obtain ⟨w5, s5, n5, x5⟩ := storeY32 y2r (s' := b) (by simp) hb.out
      have mf : Mod (fun _ => False) w w5 := MR.trans' n5 (fun k hk h => by have := h2w.out; omega)
      replace x5 := Lib.hid x5
      replace mf := Lib.hid mf
      clear n5 mr MR yr y2r hjlt hjN
      go_upto_region 6 with (fail)
      refine wp_region_lit ?_
      refine wpList_reads (by kernel_rfl) (.agg (encB b)) (run_load_op rfl rfl l3) ?_
      simp only [Act.put, List.setIfInBounds_toArray, List.set_cons_zero, List.set_cons_succ]
      refine wpList_store_to rfl _ _ _ rfl _ _ _ rfl rfl _ s5 ?_
      simp only [Act.put, List.setIfInBounds_toArray, List.set_cons_zero, List.set_cons_succ]
      clear l3 s5
      go_wp2
      refine bodyPost_ret (v := .agg (encB b)) (resultsY32 rfl _ _ _ _ rfl x5.out hb.out) rfl ?_
      exact ⟨mf.out, rfl⟩
set_option maxRecDepth 100000 in
set_option maxHeartbeats 4000000 in
theorem rnonce12_any (v : Value) (b : List (BitVec 8)) (hb : b.length = 12) (w : World) (hv : ByteAt w v b) : Calls Tryz.prog 22 #[v] w fun e w' => Mod (fun _ => False) w w' ∧ e = .returned (.agg (encB b)) := by
  obtain ⟨gb, ob, cb, rfl, hcells⟩ := hv.cells (by omega)
  rw [hb] at hcells ⊢
  obtain ⟨w1, hw1⟩ : ∃ x, x = w.alloc (.cells (encB (List.replicate 12 0)) 50) := ⟨_, rfl⟩
  obtain ⟨g2, hg2⟩ : ∃ x, x = w.heap.size := ⟨_, rfl⟩
  have m1 : Mod (fun _ => False) w w1 := by rw [hw1]; exact (Mod.refl _ _).alloc _
  have x2 : w1.heap[g2]? = some (.cells (encB (List.replicate 12 0)) 50 (0,0)) := by rw [hw1]; exact hp_new _ _ _ hg2
  obtain ⟨w2, hw2⟩ : ∃ x, x = w1.alloc (.cells (encB (List.replicate 12 0)) 50) := ⟨_, rfl⟩
  obtain ⟨g3, hg3⟩ : ∃ x, x = w1.heap.size := ⟨_, rfl⟩
  have m2 : Mod (fun _ => False) w1 w2 := by rw [hw2]; exact (Mod.refl _ _).alloc _
  have x3 : w2.heap[g3]? = some (.cells (encB (filT b 12 0)) 50 (0,0)) := by rw [hw2, filT_zero]; exact hp_new _ _ _ hg3
  have y2 := m2.heap x2 (fun h => h)
  have h23 : g2 < g3 := by rw [hg3]; exact lt_of_heap x2
  have m02 := m1.trans m2
  have h2w : w.heap.size ≤ g2 := by rw [hg2]; exact Nat.le_refl _
  have hgb : gb < w.heap.size := lt_of_cell (hcells 0 (by omega))
  replace hb := Lib.hid hb
  replace hcells := Lib.hid hcells
  replace hw1 := Lib.hid hw1
  replace hg2 := Lib.hid hg2
  replace hw2 := Lib.hid hw2
  replace hg3 := Lib.hid hg3
  replace x3 := Lib.hid x3
  replace y2 := Lib.hid y2
  replace h23 := Lib.hid h23
  replace m02 := Lib.hid m02
  replace h2w := Lib.hid h2w
  replace hgb := Lib.hid hgb
  clear m1 m2 x2
  go_enter Tryz.func22, Tryz.ntmps22
  go_upto_region 0 with (fail)
  refine wp_region_lit ?_
  refine wpList_yields (by kernel_rfl) _ _ (alloc_arrY 50 _ zeroY12 _ _ _ rfl) ?_
  simp only [Act.put, List.setIfInBounds_toArray, List.set_cons_zero, List.set_cons_succ]
  rw [← hg2.out, ← hw1.out]
  go_upto_region 1 with (fail)
  refine wp_region_lit ?_
  refine wpList_yields (by kernel_rfl) _ _ (alloc_arrY 50 _ zeroY12 _ _ _ rfl) ?_
  simp only [Act.put, List.setIfInBounds_toArray, List.set_cons_zero, List.set_cons_succ]
  rw [← hg3.out, ← hw2.out]
  go_wp2
  go_loopw [4] (fun iv wr => ∃ j : Nat, j ≤ 12 ∧ iv = .int .i64 (j : Int) ∧ Mod (fun i => i = g3) w2 wr ∧ wr.heap[g3]? = some (.cells (encB (filT b 12 j)) 50 (0,0))) (fun iv _ => 12 - (intOf iv).toNat)
  case atStart => exact ⟨0, by omega, rfl, Mod.refl _ _, x3.out⟩
  case round =>
    obtain ⟨j, hjN, rfl, mr, yr⟩ := hrel
    have bj0 : (0 : Int) ≤ (j : Int) := by omega
    have MR := m02.out.trans' mr (fun i hi h => by have := h23.out; have := h2w.out; omega)
    by_cases hjlt : j < 12
    · have hdj : decide ((j : Int) < 12) = true := by rw [decide_eq_true_iff]; omega
      have bjN : (j : Int) < 12 := by omega
      obtain ⟨z, hz⟩ : ∃ z, z = b.getD j 0 := ⟨_, rfl⟩
      have hcz : wr.cell? ⟨gb, ob + j, none⟩ = some (.int .u8 (z.toNat : Int)) := by rw [hz]; exact cell_mod MR (hcells.out j hjlt) (fun h => h)
      have lz := ld_u8P hcz
      obtain ⟨w', st, nm, y'⟩ := putU yr (j := j) (by rw [filT_length hb.out (by omega)]; exact hjlt) z
      rw [hz, filT_set hb.out hjlt] at y'
      have mf := mr.trans nm
      replace y' := Lib.hid y'
      replace mf := Lib.hid mf
      clear nm mr yr MR hcz
      go_upto_region 5 with (fail)
      refine wp_region_lit ?_
      refine wpList_reads (by kernel_rfl) (.int .i64 (j : Int)) (by go_simp) ?_
      simp only [Act.put, List.setIfInBounds_toArray, List.set_cons_zero, List.set_cons_succ]
      refine wpList_reads (by kernel_rfl) (.slice (some ⟨gb, ob, none⟩) 12 cb) (by go_simp) ?_
      simp only [Act.put, List.setIfInBounds_toArray, List.set_cons_zero, List.set_cons_succ]
      refine wpList_reads (by kernel_rfl) (.int .i64 (j : Int)) (by go_simp) ?_
      simp only [Act.put, List.setIfInBounds_toArray, List.set_cons_zero, List.set_cons_succ]
      refine wpList_reads (by kernel_rfl) (.pointer (some ⟨gb, ob + j, none⟩)) (by go_simp) ?_
      simp only [Act.put, List.setIfInBounds_toArray, List.set_cons_zero, List.set_cons_succ]
      refine wpList_reads (by kernel_rfl) (.int .u8 (z.toNat : Int)) (run_load_op rfl rfl lz) ?_
      simp only [Act.put, List.setIfInBounds_toArray, List.set_cons_zero, List.set_cons_succ]
      refine wpList_reads (by kernel_rfl) (.pointer (some ⟨g3, j, none⟩)) (by go_simp) ?_
      simp only [Act.put, List.setIfInBounds_toArray, List.set_cons_zero, List.set_cons_succ]
      refine wpList_store_to rfl _ _ _ rfl _ _ _ rfl rfl _ st ?_
      simp only [Act.put, List.setIfInBounds_toArray, List.set_cons_zero, List.set_cons_succ]
      clear st lz
      replace hz := Lib.hid hz
      go_wp2
      go_roundw
      case measure => simp [intOf]; omega
      case rel => exact ⟨j + 1, by omega, by go_num, mf.out, y'.out⟩
    · have hj : 12 = j := by omega
      subst hj
      have hdj : decide (((12 : Nat) : Int) < 12) = false := by decide
      rw [filT_all hb.out] at yr
      have l3 := loadY12 yr hb.out
      have y2r := mr.heap y2.out (by have := h23.out; omega)
      obtain ⟨w5, s5, n5, x5⟩ := storeY12 y2r (s' := b) (by simp) hb.out
      have mf : Mod (fun _ => False) w w5 := MR.trans' n5 (fun k hk h => by have := h2w.out; omega)
      replace x5 := Lib.hid x5
      replace mf := Lib.hid mf
      clear n5 mr MR yr y2r hjlt hjN
      go_upto_region 6 with (fail)
      refine wp_region_lit ?_
      refine wpList_reads (by kernel_rfl) (.agg (encB b)) (run_load_op rfl rfl l3) ?_
      simp only [Act.put, List.setIfInBounds_toArray, List.set_cons_zero, List.set_cons_succ]
      refine wpList_store_to rfl _ _ _ rfl _ _ _ rfl rfl _ s5 ?_
      simp only [Act.put, List.setIfInBounds_toArray, List.set_cons_zero, List.set_cons_succ]
      clear l3 s5
      go_wp2
      refine bodyPost_ret (v := .agg (encB b)) (resultsY12 rfl _ _ _ _ rfl x5.out hb.out) rfl ?_
      exact ⟨mf.out, rfl⟩
set_option maxRecDepth 100000 in
set_option maxHeartbeats 4000000 in
theorem rfilled_any (R0 : Nat) (v : Value) (b : List (BitVec 8)) (hbl : b.length ≤ 4194304) (w : World) (hR : R0 ≤ w.heap.size) (own0 : w.ownsRow R0 5 1 v b.length (bytesV b)) :
    Calls Tryz.prog 74 #[v] w fun e w' => Mod (fun k => R0 ≤ k) w w' ∧ ∃ v', e = .returned v' ∧ w'.ownsRow R0 5 1 v' (b ++ padZ b).length (bytesV (b ++ padZ b)) := by
  obtain ⟨NB, hNB⟩ : ∃ n, n = b.length := ⟨_, rfl⟩
  obtain ⟨PD, hPD⟩ : ∃ x, x = (16 - b.length % 16) % 16 := ⟨_, rfl⟩
  have hPDb : PD ≤ 15 := by omega
  have hpad : ∀ i, i ≤ PD → ((NB + i) % 16 = 0 ↔ i = PD) := by intro i hi; rw [hNB]; constructor <;> intro h <;> omega
  have hNBb : NB ≤ 4194304 := by omega
  rw [← hNB] at own0
  replace hNB := Lib.hid hNB
  replace hPD := Lib.hid hPD
  replace hPDb := Lib.hid hPDb
  replace hpad := Lib.hid hpad
  replace hNBb := Lib.hid hNBb
  replace hR := Lib.hid hR
  replace own0 := Lib.hid own0
  clear hbl
  go_enter Tryz.func74, Tryz.ntmps74
  go_wp2
  go_loopw [0] (fun lv wr => ∃ i : Nat, i ≤ PD ∧ Mod (fun i => R0 ≤ i) w wr ∧ wr.ownsRow R0 5 1 lv (NB + i) (bytesV (b ++ List.replicate i 0))) (fun lv _ => NB + PD - lenV lv)
  case atStart => exact ⟨0, by omega, Mod.refl _ _, by have h := own0.out; simp only [List.replicate_zero, List.append_nil, Nat.add_zero]; exact h⟩
  case round =>
    obtain ⟨i, hiN, mr, ownr⟩ := hrel
    obtain ⟨ai, ci, hov⟩ := own_sliceP ownr
    subst hov
    obtain ⟨NN2, hNN2⟩ : ∃ x, x = NB + i := ⟨_, rfl⟩
    rw [← hNN2] at ownr ⊢
    have bN0 : (0 : Int) ≤ (NN2 : Int) := by omega
    have hNNb : NN2 ≤ 140737488351232 := by have := hNBb.out; have := hPDb.out; omega
    have hmd := hpad.out i hiN
    rw [← hNN2] at hmd
    by_cases hilt : i < PD
    · have hm0 : NN2 % 16 ≠ 0 := fun h => by have := hmd.1 h; omega
      obtain ⟨q, hq⟩ : ∃ q, q = NN2 % 16 := ⟨_, rfl⟩
      have hqt : Int.tmod (NN2 : Int) 16 = (q : Int) := by rw [hq]; rfl
      have hqe : (NN2 : Int) % 16 = (q : Int) := by omega
      have hq0 : ((q : Int) == 0) = false := by rw [beq_eq_false_iff_ne]; omega
      have hq0' : ((q : Int) != 0) = true := by rw [bne_iff_ne]; omega
      have hq0'' : ¬ (q : Int) = 0 := by omega
      have bq0 : (0 : Int) ≤ (q : Int) := by omega
      have hwq : IntKind.i64.wrap (q : Int) = (q : Int) := by rw [IntKind.wrap_i64]; omega
      obtain ⟨wa, hwa⟩ : ∃ wa, wa = wr.alloc (.cells #[.int .u8 0] 5) := ⟨_, rfl⟩
      obtain ⟨ga, hga⟩ : ∃ ga, ga = wr.heap.size := ⟨_, rfl⟩
      have ma : Mod (fun _ => False) wr wa := by rw [hwa]; exact (Mod.refl _ _).alloc _
      have ra : wa.heap[ga]? = some (.cells (encB [0]) 5 (0,0)) := by rw [hwa]; exact hp_new _ _ _ hga
      have ownA := ownsRow_keep0 ownr ma
      have hsza : R0 ≤ wa.heap.size := Nat.le_trans hR.out (Nat.le_trans mr.size ma.size)
      obtain ⟨v6, w6', hr6, own6, m6, nb6, _⟩ := run_append_one ownA ra (by omega) hsza 22
      have mia : Mod (fun i => R0 ≤ i) w wa := mr.trans' ma (fun _ _ h => h.elim)
      have mf : Mod (fun i => R0 ≤ i) w w6' := mia.trans' m6 (fun k hk h => by have := (ownsRow_in ownA h).1; omega)
      obtain ⟨a6, c6, hov⟩ := own_sliceP own6
      subst hov
      have hrs : List.replicate (i + 1) (0 : BitVec 8) = List.replicate i 0 ++ [0] := List.replicate_succ'
      replace hNN2 := Lib.hid hNN2
      replace hwa := Lib.hid hwa
      replace hga := Lib.hid hga
      replace own6 := Lib.hid own6
      replace mf := Lib.hid mf
      replace hq := Lib.hid hq
      replace hrs := Lib.hid hrs
      replace hmd := Lib.hid hmd
      replace hm0 := Lib.hid hm0
      clear ma ra ownA ownr mia m6 nb6 mr hsza
      go_upto_region 2 with (fail)
      refine wp_region_lit ?_
      refine wpList_reads (by kernel_rfl) (.slice ai NN2 ci) (by go_simp) ?_
      simp only [Act.put, List.setIfInBounds_toArray, List.set_cons_zero, List.set_cons_succ]
      refine wpList_yields (by kernel_rfl) (.slice (some ⟨ga, 0, none⟩) 1 1) wa (by rw [hwa.out, hga.out]; go_simp) ?_
      simp only [Act.put, List.setIfInBounds_toArray, List.set_cons_zero, List.set_cons_succ]
      refine wpList_yields (by kernel_rfl) (.slice a6 (NN2 + 1) c6) w6' (run_append_opP rfl rfl rfl hr6) ?_
      simp only [Act.put, List.setIfInBounds_toArray, List.set_cons_zero, List.set_cons_succ]
      clear hr6
      refine wpList_reads (by kernel_rfl) (.slice a6 (NN2 + 1) c6) (by go_simp) ?_
      simp only [Act.put, List.setIfInBounds_toArray, List.set_cons_zero, List.set_cons_succ]
      go_wp2
      go_roundw
      case measure => have := hNN2.out; simp only [lenV]; omega
      case rel => exact ⟨i + 1, by omega, mf.out, by have h := own6.out; rw [List.append_assoc, ← hrs.out] at h; rw [show NB + (i + 1) = NN2 + 1 by have := hNN2.out; omega]; exact h⟩
    · have hi : PD = i := by omega
      subst hi
      have hm0 : NN2 % 16 = 0 := hmd.2 rfl
      have hqt : Int.tmod (NN2 : Int) 16 = 0 := by
        have : Int.tmod (NN2 : Int) 16 = ((NN2 % 16 : Nat) : Int) := rfl
        rw [this, hm0]; rfl
      have hqe : (NN2 : Int) % 16 = 0 := by omega
      have hfin : b ++ List.replicate PD 0 = b ++ padZ b := by rw [hPD.out]; rfl
      have hfl : (b ++ padZ b).length = NN2 := by rw [← hfin, List.length_append, List.length_replicate, hNN2, hNB.out]
      rw [hfin] at ownr
      replace ownr := Lib.hid ownr
      replace mr := Lib.hid mr
      replace hNN2 := Lib.hid hNN2
      replace hfl := Lib.hid hfl
      clear hilt hiN hmd hm0 hfin
      go_wp2
      go_ret
      exact ⟨mr.out, _, rfl, by rw [hfl.out]; exact ownr.out⟩
set_option maxRecDepth 100000 in
set_option maxHeartbeats 4000000 in
theorem reight_any (R0 : Nat) (v : Value) (b : List (BitVec 8)) (hbl : b.length ≤ 8388608) (x : Nat) (hx : x ≤ 4194304) (w : World) (hR : R0 ≤ w.heap.size) (own0 : w.ownsRow R0 5 1 v b.length (bytesV b)) :
    Calls Tryz.prog 75 #[v, .int .i64 (x : Int)] w fun e w' => Mod (fun k => R0 ≤ k) w w' ∧ ∃ v', e = .returned v' ∧ w'.ownsRow R0 5 1 v' (b ++ eightS x).length (bytesV (b ++ eightS x)) := by
  obtain ⟨N, hN⟩ : ∃ n, n = b.length := ⟨_, rfl⟩
  have hNb : N ≤ 8388608 := by omega
  rw [← hN] at own0
  have bx0 : (0 : Int) ≤ (x : Int) := by omega
  have hwx : IntKind.u64.wrap (x : Int) = (x : Int) := by rw [IntKind.wrap_u64]; omega
  have own1 : w.ownsRow R0 5 1 v (N + 0) (bytesV (b ++ eightTo x 0)) := by rw [show eightTo x 0 = [] from rfl, List.append_nil]; exact own0
  replace hN := Lib.hid hN
  replace hNb := Lib.hid hNb
  replace hR := Lib.hid hR
  replace own1 := Lib.hid own1
  clear hbl own0
  go_enter Tryz.func75, Tryz.ntmps75
  go_wp2
  go_loopw [0, 5] (fun ov iv wr => ∃ i : Nat, i ≤ 8 ∧ iv = .int .i64 (i : Int) ∧ Mod (fun i => R0 ≤ i) w wr ∧ wr.ownsRow R0 5 1 ov (N + i) (bytesV (b ++ eightTo x i))) (fun _ iv _ => 8 - (intOf iv).toNat)
  case atStart => exact ⟨0, by omega, rfl, Mod.refl _ _, own1.out⟩
  case round =>
    obtain ⟨i, hi8, rfl, mi, owni⟩ := hrel
    have bi0 : (0 : Int) ≤ (i : Int) := by omega
    by_cases hilt : i < 8
    · have hdi : decide ((i : Int) < 8) = true := by rw [decide_eq_true_iff]; omega
      have bi8 : ¬ (8 : Int) ≤ (i : Int) := by omega
      obtain ⟨s, hs8⟩ : ∃ s, s = 8 * i := ⟨_, rfl⟩
      have hsi : 8 * (i : Int) = (s : Int) := by omega
      have hws : IntKind.i64.wrap (s : Int) = (s : Int) := by rw [IntKind.wrap_i64]; omega
      have bs0 : (0 : Int) ≤ (s : Int) := by omega
      have bs64 : (s : Int) < 64 := by omega
      have bs64' : s < 64 := by omega
      obtain ⟨y, hy⟩ : ∃ y, y = x / 2 ^ s := ⟨_, rfl⟩
      have hyi : (x : Int) / 2 ^ s = (y : Int) := by rw [hy]; simp
      have hyb : y ≤ 4194304 := by rw [hy]; exact Nat.le_trans (Nat.div_le_self _ _) hx
      have by0 : (0 : Int) ≤ (y : Int) := by omega
      have hwy : IntKind.u64.wrap (y : Int) = (y : Int) := by rw [IntKind.wrap_u64]; omega
      obtain ⟨z, hz⟩ : ∃ z, z = BitVec.ofNat 8 y := ⟨_, rfl⟩
      have hzi : IntKind.u8.wrap (y : Int) = (z.toNat : Int) := by rw [hz, BitVec.toNat_ofNat, IntKind.wrap_u8]; omega
      have hsu : eightTo x (i + 1) = eightTo x i ++ [z] := by rw [eightTo_succ, hz, hy, hs8]
      obtain ⟨ai, ci, hov⟩ := own_sliceP owni
      subst hov
      have hlp : (eightTo x i).length = i := eightTo_length x i
      obtain ⟨O, hO⟩ : ∃ O, O = b ++ eightTo x i := ⟨_, rfl⟩
      rw [← hO] at owni
      obtain ⟨M, hM⟩ : ∃ M, M = N + i := ⟨_, rfl⟩
      rw [← hM] at owni ⊢
      obtain ⟨wa, hwa⟩ : ∃ wa, wa = wr.alloc (.cells #[.int .u8 (z.toNat : Int)] 5) := ⟨_, rfl⟩
      obtain ⟨ga, hga⟩ : ∃ ga, ga = wr.heap.size := ⟨_, rfl⟩
      have ma : Mod (fun _ => False) wr wa := by rw [hwa]; exact (Mod.refl _ _).alloc _
      have ra : wa.heap[ga]? = some (.cells (encB [z]) 5 (0,0)) := by rw [hwa]; exact hp_new _ _ _ hga
      have ownA := ownsRow_keep0 owni ma
      have hsza : R0 ≤ wa.heap.size := Nat.le_trans hR.out (Nat.le_trans mi.size ma.size)
      obtain ⟨v6, w6, hr6, own6, m6, nb6, _⟩ := run_append_one ownA ra (by have := hNb.out; omega) hsza 22
      have mia : Mod (fun i => R0 ≤ i) w wa := mi.trans' ma (fun _ _ h => h.elim)
      have mf : Mod (fun i => R0 ≤ i) w w6 := mia.trans' m6 (fun k hk h => by have := (ownsRow_in ownA h).1; omega)
      replace hs8 := Lib.hid hs8
      replace hy := Lib.hid hy
      replace hz := Lib.hid hz
      replace hsu := Lib.hid hsu
      replace hlp := Lib.hid hlp
      replace hO := Lib.hid hO
      replace hM := Lib.hid hM
      replace hwa := Lib.hid hwa
      replace hga := Lib.hid hga
      replace mi := Lib.hid mi
      replace own6 := Lib.hid own6
      replace mf := Lib.hid mf
      clear ma ra ownA owni mia m6 nb6 hsza
      go_upto_region 4 with (fail)
      refine wp_region_lit ?_
      refine wpList_reads (by kernel_rfl) (.slice ai M ci) (by go_simp) ?_
      simp only [Act.put, List.setIfInBounds_toArray, List.set_cons_zero, List.set_cons_succ]
      refine wpList_reads (by kernel_rfl) (.int .i64 (x : Int)) (by go_simp) ?_
      simp only [Act.put, List.setIfInBounds_toArray, List.set_cons_zero, List.set_cons_succ]
      refine wpList_reads (by kernel_rfl) (.int .u64 (x : Int)) (by go_simp) ?_
      simp only [Act.put, List.setIfInBounds_toArray, List.set_cons_zero, List.set_cons_succ]
      refine wpList_reads (by kernel_rfl) (.int .i64 (i : Int)) (by go_simp) ?_
      simp only [Act.put, List.setIfInBounds_toArray, List.set_cons_zero, List.set_cons_succ]
      refine wpList_reads (by kernel_rfl) (.int .i64 (s : Int)) (by go_simp) ?_
      simp only [Act.put, List.setIfInBounds_toArray, List.set_cons_zero, List.set_cons_succ]
      refine wpList_reads (by kernel_rfl) (.int .u64 (y : Int)) (by go_simp) ?_
      simp only [Act.put, List.setIfInBounds_toArray, List.set_cons_zero, List.set_cons_succ]
      refine wpList_reads (by kernel_rfl) (.int .u8 (z.toNat : Int)) (by go_simp) ?_
      simp only [Act.put, List.setIfInBounds_toArray, List.set_cons_zero, List.set_cons_succ]
      refine wpList_yields (by kernel_rfl) (.slice (some ⟨ga, 0, none⟩) 1 1) wa (by rw [hwa.out, hga.out]; go_simp) ?_
      simp only [Act.put, List.setIfInBounds_toArray, List.set_cons_zero, List.set_cons_succ]
      refine wpList_yields (by kernel_rfl) v6 w6 (run_append_opP rfl rfl rfl hr6) ?_
      simp only [Act.put, List.setIfInBounds_toArray, List.set_cons_zero, List.set_cons_succ]
      clear hr6
      refine wpList_reads (by kernel_rfl) (v6) (by go_simp) ?_
      simp only [Act.put, List.setIfInBounds_toArray, List.set_cons_zero, List.set_cons_succ]
      go_wp2
      go_roundw
      case measure => simp [intOf]; omega
      case rel => exact ⟨i + 1, by omega, by go_num, mf.out, by have h := own6.out; rw [hM.out, hO.out, List.append_assoc, ← hsu.out] at h; exact h⟩
    · have hi : 8 = i := by omega
      subst hi
      have hdi : decide (((8 : Nat) : Int) < 8) = false := by decide
      have hfl : (b ++ eightS x).length = N + 8 := by rw [List.length_append, eightS, eightTo_length, hN.out]
      replace owni := Lib.hid owni
      replace mi := Lib.hid mi
      replace hfl := Lib.hid hfl
      clear hilt hi8
      go_wp2
      go_ret
      exact ⟨mi.out, _, rfl, by rw [hfl.out]; exact owni.out⟩
set_option maxRecDepth 100000 in
set_option maxHeartbeats 4000000 in
theorem rsum_any (key nonce : List (BitVec 8)) (hk : key.length = 32) (hn : nonce.length = 12) (vs vb : Value) (s b : List (BitVec 8)) (hsl : s.length ≤ 1048592) (hbl : b.length ≤ 1048592) (w : World) (hs : ByteAt w vs s) (hb : ByteAt w vb b) :
    Calls Tryz.prog 24 #[.agg (encB key), .agg (encB nonce), vs, vb] w fun e w' => Mod (fun _ => False) w w' ∧ e = .returned (.agg (encB (aTag key nonce s b))) := by
  obtain ⟨NS, hNS⟩ : ∃ n, n = s.length := ⟨_, rfl⟩
  obtain ⟨NB, hNB⟩ : ∃ n, n = b.length := ⟨_, rfl⟩
  obtain ⟨ss, cs, rfl⟩ := hs.sliceN hNS.symm
  obtain ⟨sb, cb, rfl⟩ := hb.sliceN hNB.symm
  have bns : (0 : Int) ≤ (NS : Int) := by omega
  have bnb : (0 : Int) ≤ (NB : Int) := by omega
  obtain ⟨w1, hw1⟩ : ∃ x, x = w.alloc (.cells (encB key) 49) := ⟨_, rfl⟩
  obtain ⟨g4, hg4⟩ : ∃ x, x = w.heap.size := ⟨_, rfl⟩
  have m1 : Mod (fun _ => False) w w1 := by rw [hw1]; exact (Mod.refl _ _).alloc _
  have x4 : w1.heap[g4]? = some (.cells (encB key) 49 (0,0)) := by rw [hw1]; exact hp_new _ _ _ hg4
  obtain ⟨w2, hw2⟩ : ∃ x, x = w1.alloc (.cells (encB nonce) 50) := ⟨_, rfl⟩
  obtain ⟨g5, hg5⟩ : ∃ x, x = w1.heap.size := ⟨_, rfl⟩
  have m2 : Mod (fun _ => False) w1 w2 := by rw [hw2]; exact (Mod.refl _ _).alloc _
  have x5 : w2.heap[g5]? = some (.cells (encB nonce) 50 (0,0)) := by rw [hw2]; exact hp_new _ _ _ hg5
  obtain ⟨w3, hw3⟩ : ∃ x, x = w2.alloc (.cells (encB (List.replicate 16 0)) 61) := ⟨_, rfl⟩
  obtain ⟨g8, hg8⟩ : ∃ x, x = w2.heap.size := ⟨_, rfl⟩
  have m3 : Mod (fun _ => False) w2 w3 := by rw [hw3]; exact (Mod.refl _ _).alloc _
  have x8 : BytesAt16 w3 g8 (List.replicate 16 0) := by rw [hw3]; exact hp_new _ _ _ hg8
  have y5 := m3.heap x5 (fun h => h)
  have y4 := (m2.trans m3).heap x4 (fun h => h)
  have m03 := m1.trans (m2.trans m3)
  have hs3 := hs.mod m03 (fun _ _ h => h)
  have hb3 := hb.mod m03 (fun _ _ h => h)
  obtain ⟨R0, hR0⟩ : ∃ x, x = w3.heap.size := ⟨_, rfl⟩
  have h4R : g4 < R0 := by rw [hR0]; exact lt_of_heap y4
  have h5R : g5 < R0 := by rw [hR0]; exact lt_of_heap y5
  have h8R : g8 < R0 := by rw [hR0]; exact lt_of_heap x8
  have hwR : w.heap.size ≤ R0 := by rw [hR0]; exact m03.size
  have h8w : w.heap.size ≤ g8 := by rw [hg8]; exact (m1.trans m2).size
  have own0 : w3.ownsRow R0 5 1 (.slice none 0 0) 0 (bytesV []) := World.ownsRow_nil _ _ _ _
  obtain ⟨v1, w4, r4, own4, g4m, _⟩ := run_append_bytes2 own0 hb3 (by omega) (by rw [hR0]; exact Nat.le_refl _) 22
  rw [List.nil_append, Nat.zero_add] at own4
  have M4 : Mod (fun k => R0 ≤ k) w3 w4 := own_grown (base' := 0) own0 g4m
  have hp1 := padZ_length b
  have hp2 := padZ_length s
  have hmac := macB_length s b
  have hparts := mac_parts b s
  obtain ⟨TT, hTT⟩ : ∃ T, T = aTag key nonce s b := ⟨_, rfl⟩
  have hTTl : TT.length = 16 := by rw [hTT]; exact aTag_length _ _ _ _
  rw [← hTT]
  replace hNS := Lib.hid hNS
  replace hNB := Lib.hid hNB
  replace hw1 := Lib.hid hw1
  replace hg4 := Lib.hid hg4
  replace hw2 := Lib.hid hw2
  replace hg5 := Lib.hid hg5
  replace hw3 := Lib.hid hw3
  replace hg8 := Lib.hid hg8
  replace x8 := Lib.hid x8
  replace y5 := Lib.hid y5
  replace y4 := Lib.hid y4
  replace m03 := Lib.hid m03
  replace hs3 := Lib.hid hs3
  replace hb3 := Lib.hid hb3
  replace hR0 := Lib.hid hR0
  replace h4R := Lib.hid h4R
  replace h5R := Lib.hid h5R
  replace h8R := Lib.hid h8R
  replace hwR := Lib.hid hwR
  replace h8w := Lib.hid h8w
  replace own4 := Lib.hid own4
  replace M4 := Lib.hid M4
  replace hp1 := Lib.hid hp1
  replace hp2 := Lib.hid hp2
  replace hmac := Lib.hid hmac
  replace hparts := Lib.hid hparts
  replace hTT := Lib.hid hTT
  replace hTTl := Lib.hid hTTl
  replace hk := Lib.hid hk
  replace hn := Lib.hid hn
  replace hsl := Lib.hid hsl
  replace hbl := Lib.hid hbl
  clear m1 m2 m3 x4 x5 hs hb own0 g4m
  go_enter Tryz.func24, Tryz.ntmps24
  go_upto_region 0 with (fail)
  refine wp_region_lit ?_
  refine wpList_yields (by kernel_rfl) (.pointer (some ⟨g4, 0, none⟩)) w1 (by rw [hw1.out, hg4.out]; simp [execOp, Instr.box, Sem.run_bind, newVar, newRow, Value.cells]; rfl) ?_
  simp only [Act.put, List.setIfInBounds_toArray, List.set_cons_zero, List.set_cons_succ]
  refine wpList_yields (by kernel_rfl) (.pointer (some ⟨g5, 0, none⟩)) w2 (by rw [hw2.out, hg5.out]; simp [execOp, Instr.box, Sem.run_bind, newVar, newRow, Value.cells]; rfl) ?_
  simp only [Act.put, List.setIfInBounds_toArray, List.set_cons_zero, List.set_cons_succ]
  refine wpList_yields (by kernel_rfl) _ _ (alloc16P _ _ _ rfl) ?_
  simp only [Act.put, List.setIfInBounds_toArray, List.set_cons_zero, List.set_cons_succ]
  rw [← hg8.out, ← hw3.out]
  go_upto_region 2 with (fail)
  refine wp_region_lit ?_
  refine wpList_reads (by kernel_rfl) (.slice none 0 0) (by go_simp) ?_
  simp only [Act.put, List.setIfInBounds_toArray, List.set_cons_zero, List.set_cons_succ]
  refine wpList_reads (by kernel_rfl) (.slice sb NB cb) (by go_simp) ?_
  simp only [Act.put, List.setIfInBounds_toArray, List.set_cons_zero, List.set_cons_succ]
  refine wpList_yields (by kernel_rfl) v1 w4 (run_append_opP rfl rfl rfl r4) ?_
  simp only [Act.put, List.setIfInBounds_toArray, List.set_cons_zero, List.set_cons_succ]
  clear r4
  refine wpList_enter (by kernel_rfl) 74 #[v1] (by go_simp) (rfilled_any R0 v1 b (by have := hbl.out; omega) w4 (by rw [hR0.out]; exact M4.out.size) own4.out) ?_
  rintro e w5 ⟨m5, v5, rfl, own5⟩
  have M5 := M4.out.trans m5
  have hR5 : R0 ≤ w5.heap.size := by rw [hR0.out]; exact M5.size
  have hs5 := hs3.out.mod M5 (fun k hk h => by have := hR0.out; omega)
  obtain ⟨v6, w6, r6, own6, g6m, _⟩ := run_append_bytes2 own5 hs5 (by rw [List.length_append]; have := hbl.out; have := hsl.out; have := hp1.out; omega) hR5 22
  rw [← List.length_append] at own6
  have M6 := M5.trans (own_grown (base' := 0) own5 g6m)
  replace own6 := Lib.hid own6
  replace M6 := Lib.hid M6
  clear m5 M5 hR5 hs5 own5 g6m own4 M4
  refine ⟨_, rfl, ?_⟩
  simp only [Act.put, List.setIfInBounds_toArray, List.set_cons_zero, List.set_cons_succ]
  refine wpList_reads (by kernel_rfl) (v5) (by go_simp) ?_
  simp only [Act.put, List.setIfInBounds_toArray, List.set_cons_zero, List.set_cons_succ]
  go_upto_region 3 with (fail)
  refine wp_region_lit ?_
  refine wpList_reads (by kernel_rfl) (v5) (by go_simp) ?_
  simp only [Act.put, List.setIfInBounds_toArray, List.set_cons_zero, List.set_cons_succ]
  refine wpList_reads (by kernel_rfl) (.slice ss NS cs) (by go_simp) ?_
  simp only [Act.put, List.setIfInBounds_toArray, List.set_cons_zero, List.set_cons_succ]
  refine wpList_yields (by kernel_rfl) v6 w6 (run_append_opP rfl rfl rfl r6) ?_
  simp only [Act.put, List.setIfInBounds_toArray, List.set_cons_zero, List.set_cons_succ]
  clear r6
  refine wpList_enter (by kernel_rfl) 74 #[v6] (by go_simp) (rfilled_any R0 v6 (b ++ padZ b ++ s) (by simp only [List.length_append]; have := hbl.out; have := hsl.out; have := hp1.out; omega) w6 (by rw [hR0.out]; exact M6.out.size) own6.out) ?_
  rintro e w7 ⟨m7, v7, rfl, own7⟩
  rw [pad_behind] at own7
  have M7 := M6.out.trans m7
  replace own7 := Lib.hid own7
  replace M7 := Lib.hid M7
  clear m7 own6 M6
  refine ⟨_, rfl, ?_⟩
  simp only [Act.put, List.setIfInBounds_toArray, List.set_cons_zero, List.set_cons_succ]
  refine wpList_reads (by kernel_rfl) (v7) (by go_simp) ?_
  simp only [Act.put, List.setIfInBounds_toArray, List.set_cons_zero, List.set_cons_succ]
  go_upto_region 4 with (fail)
  refine wp_region_lit ?_
  refine wpList_reads (by kernel_rfl) (v7) (by go_simp) ?_
  simp only [Act.put, List.setIfInBounds_toArray, List.set_cons_zero, List.set_cons_succ]
  refine wpList_reads (by kernel_rfl) (.slice sb NB cb) (by go_simp) ?_
  simp only [Act.put, List.setIfInBounds_toArray, List.set_cons_zero, List.set_cons_succ]
  refine wpList_reads (by kernel_rfl) (.int .i64 (NB : Int)) (by go_simp) ?_
  simp only [Act.put, List.setIfInBounds_toArray, List.set_cons_zero, List.set_cons_succ]
  refine wpList_enter (by kernel_rfl) 75 #[v7, .int .i64 (NB : Int)] (by go_simp) (reight_any R0 v7 (b ++ padZ b ++ s ++ padZ s) (by simp only [List.length_append]; have := hbl.out; have := hsl.out; have := hp1.out; have := hp2.out; omega) NB (by rw [hNB.out]; have := hbl.out; omega) w7 (by rw [hR0.out]; exact M7.out.size) own7.out) ?_
  rintro e w8 ⟨m8, v8, rfl, own8⟩
  have M8 := M7.out.trans m8
  replace own8 := Lib.hid own8
  replace M8 := Lib.hid M8
  clear m8 own7 M7
  refine ⟨_, rfl, ?_⟩
  simp only [Act.put, List.setIfInBounds_toArray, List.set_cons_zero, List.set_cons_succ]
  refine wpList_reads (by kernel_rfl) (v8) (by go_simp) ?_
  simp only [Act.put, List.setIfInBounds_toArray, List.set_cons_zero, List.set_cons_succ]
  go_upto_region 5 with (fail)
  refine wp_region_lit ?_
  refine wpList_reads (by kernel_rfl) (v8) (by go_simp) ?_
  simp only [Act.put, List.setIfInBounds_toArray, List.set_cons_zero, List.set_cons_succ]
  refine wpList_reads (by kernel_rfl) (.slice ss NS cs) (by go_simp) ?_
  simp only [Act.put, List.setIfInBounds_toArray, List.set_cons_zero, List.set_cons_succ]
  refine wpList_reads (by kernel_rfl) (.int .i64 (NS : Int)) (by go_simp) ?_
  simp only [Act.put, List.setIfInBounds_toArray, List.set_cons_zero, List.set_cons_succ]
  refine wpList_enter (by kernel_rfl) 75 #[v8, .int .i64 (NS : Int)] (by go_simp) (reight_any R0 v8 (b ++ padZ b ++ s ++ padZ s ++ eightS NB) (by simp only [List.length_append, eightS, eightTo_length]; have := hbl.out; have := hsl.out; have := hp1.out; have := hp2.out; omega) NS (by rw [hNS.out]; have := hsl.out; omega) w8 (by rw [hR0.out]; exact M8.out.size) own8.out) ?_
  rintro e w9 ⟨m9, v9, rfl, own9⟩
  obtain ⟨L, hL⟩ : ∃ L, L = macB s b := ⟨_, rfl⟩
  have hL' : b ++ padZ b ++ s ++ padZ s ++ eightS NB ++ eightS NS = L := by rw [hL, hparts.out, hNB.out, hNS.out, List.append_assoc _ (eightS b.length)]
  rw [hL'] at own9
  have kL := byteAt_of_own own9
  have hLl : L.length ≤ 4194304 := by have := hmac.out; rw [← hL] at this; have := hbl.out; have := hsl.out; omega
  have M9 := M8.out.trans m9
  have z4 := M9.heap y4.out (by have := h4R.out; omega)
  have z5 := M9.heap y5.out (by have := h5R.out; omega)
  have z8 : BytesAt16 w9 g8 (List.replicate 16 0) := M9.heap x8.out (by have := h8R.out; omega)
  have lk := loadY32 z4 hk.out
  have ln := loadY12 z5 hn.out
  have m09 : Mod (fun _ => False) w w9 := m03.out.trans' M9 (fun k hk h => by have := hwR.out; omega)
  replace kL := Lib.hid kL
  replace hLl := Lib.hid hLl
  replace hL := Lib.hid hL
  replace z8 := Lib.hid z8
  replace m09 := Lib.hid m09
  clear m9 own8 M8 own9 M9 z4 z5 hL'
  refine ⟨_, rfl, ?_⟩
  simp only [Act.put, List.setIfInBounds_toArray, List.set_cons_zero, List.set_cons_succ]
  refine wpList_reads (by kernel_rfl) (v9) (by go_simp) ?_
  simp only [Act.put, List.setIfInBounds_toArray, List.set_cons_zero, List.set_cons_succ]
  go_upto_region 6 with (fail)
  refine wp_region_lit ?_
  refine wpList_reads (by kernel_rfl) (.agg (encB key)) (run_load_op rfl rfl lk) ?_
  simp only [Act.put, List.setIfInBounds_toArray, List.set_cons_zero, List.set_cons_succ]
  refine wpList_reads (by kernel_rfl) (.agg (encB nonce)) (run_load_op rfl rfl ln) ?_
  simp only [Act.put, List.setIfInBounds_toArray, List.set_cons_zero, List.set_cons_succ]
  clear lk ln
  refine wpList_enter (by kernel_rfl) 73 #[.agg (encB key), .int .u32 0, .agg (encB nonce)] (by go_simp) (Cc.refblock_any key nonce hk.out hn.out 0 w9) ?_
  rintro e w10 ⟨rfl, m10⟩
  obtain ⟨O, hO⟩ : ∃ O, O = Cc.blockS key nonce 0 := ⟨_, rfl⟩
  have hOl : O.length = 64 := by rw [hO, Cc.blockS, Cc.outTo_length]
  rw [← hO]
  obtain ⟨H, hH⟩ : ∃ H, H = O.take 32 := ⟨_, rfl⟩
  have hHl : H.length = 32 := by rw [hH, List.length_take, hOl]; rfl
  have hTH : TT = tagS H L := by rw [hTT.out, hH, hO, hL.out]; rfl
  obtain ⟨w11, hw11⟩ : ∃ x, x = w10.alloc (.cells (encB (List.replicate 64 0)) 72) := ⟨_, rfl⟩
  obtain ⟨g10, hg10⟩ : ∃ x, x = w10.heap.size := ⟨_, rfl⟩
  have m11 : Mod (fun _ => False) w10 w11 := by rw [hw11]; exact (Mod.refl _ _).alloc _
  have x11 : w11.heap[g10]? = some (.cells (encB (List.replicate 64 0)) 72 (0,0)) := by rw [hw11]; exact hp_new _ _ _ hg10
  obtain ⟨w12, s12, n12, x12⟩ := storeY64 x11 (s' := O) (by simp) hOl
  have m12 : Mod (fun _ => False) w9 w12 := m10.trans (m11.trans' n12 (fun k hk h => by omega))
  have kL12 := kL.out.mod m12 (fun _ _ h => h)
  have z812 : BytesAt16 w12 g8 (List.replicate 16 0) := m12.heap z8.out (fun h => h)
  have m012 := m09.out.trans m12
  have kH : ByteAt w12 (.slice (some ⟨g10, 0, none⟩) 32 64) H := by
    have := ByteAt.part (off := 0) (n := 32) (cap := 64) x12 (by omega) (by omega)
    rw [hH]
    simpa using this
  replace hO := Lib.hid hO
  replace hOl := Lib.hid hOl
  replace hH := Lib.hid hH
  replace hHl := Lib.hid hHl
  replace hTH := Lib.hid hTH
  replace hw11 := Lib.hid hw11
  replace hg10 := Lib.hid hg10
  replace kL12 := Lib.hid kL12
  replace z812 := Lib.hid z812
  replace m012 := Lib.hid m012
  replace kH := Lib.hid kH
  clear m10 m11 x11 n12 x12 m12 kL z8 m09
  refine ⟨_, rfl, ?_⟩
  simp only [Act.put, List.setIfInBounds_toArray, List.set_cons_zero, List.set_cons_succ]
  refine wpList_yields (by kernel_rfl) _ _ (alloc_arrY 72 _ zeroY64 _ _ _ rfl) ?_
  simp only [Act.put, List.setIfInBounds_toArray, List.set_cons_zero, List.set_cons_succ]
  rw [← hg10.out, ← hw11.out]
  refine wpList_store_to rfl _ _ _ rfl _ _ _ rfl rfl _ s12 ?_
  simp only [Act.put, List.setIfInBounds_toArray, List.set_cons_zero, List.set_cons_succ]
  clear s12
  go_upto_region 7 with (fail)
  refine wp_region_lit ?_
  refine wpList_reads (by kernel_rfl) (.slice (some ⟨g10, 0, none⟩) 32 64) (by go_simp) ?_
  simp only [Act.put, List.setIfInBounds_toArray, List.set_cons_zero, List.set_cons_succ]
  refine wpList_enter (by kernel_rfl) 21 #[.slice (some ⟨g10, 0, none⟩) 32 64] (by go_simp) (rkey32_any _ H hHl.out w12 kH.out) ?_
  rintro e w13 ⟨m13, rfl⟩
  have kL13 := kL12.out.mod m13 (fun _ _ h => h)
  have z813 : BytesAt16 w13 g8 (List.replicate 16 0) := m13.heap z812.out (fun h => h)
  have m013 := m012.out.trans m13
  replace kL13 := Lib.hid kL13
  replace z813 := Lib.hid z813
  replace m013 := Lib.hid m013
  clear m13 kL12 z812 m012 kH
  refine ⟨_, rfl, ?_⟩
  simp only [Act.put, List.setIfInBounds_toArray, List.set_cons_zero, List.set_cons_succ]
  refine wpList_reads (by kernel_rfl) (v9) (by go_simp) ?_
  simp only [Act.put, List.setIfInBounds_toArray, List.set_cons_zero, List.set_cons_succ]
  refine wpList_enter (by kernel_rfl) 76 #[.agg (encB H), v9] (by go_simp) (refTag_any H hHl.out v9 L w13 kL13.out hLl.out) ?_
  rintro e w14 ⟨m14, rfl⟩
  rw [← hTH.out]
  obtain ⟨w15, hw15⟩ : ∃ x, x = w14.alloc (.cells (encB (List.replicate 16 0)) 61) := ⟨_, rfl⟩
  obtain ⟨g11, hg11⟩ : ∃ x, x = w14.heap.size := ⟨_, rfl⟩
  have m15 : Mod (fun _ => False) w14 w15 := by rw [hw15]; exact (Mod.refl _ _).alloc _
  have x15 : BytesAt16 w15 g11 (List.replicate 16 0) := by rw [hw15]; exact hp_new _ _ _ hg11
  obtain ⟨w16, s16, n16, x16⟩ := store16P x15 (s' := TT) (by simp) hTTl.out
  have m16 : Mod (fun _ => False) w13 w16 := m14.trans (m15.trans' n16 (fun k hk h => by omega))
  have l16 := load16P x16 hTTl.out
  have z816 : BytesAt16 w16 g8 (List.replicate 16 0) := m16.heap z813.out (fun h => h)
  obtain ⟨w17, s17, n17, x17⟩ := store16P z816 (s' := TT) (by simp) hTTl.out
  have mf : Mod (fun _ => False) w w17 := (m013.out.trans m16).trans' n17 (fun k hk h => by have := h8w.out; omega)
  replace hw15 := Lib.hid hw15
  replace hg11 := Lib.hid hg11
  replace x17 := Lib.hid x17
  replace mf := Lib.hid mf
  clear m14 m15 x15 n16 x16 m16 z816 n17 z813 m013
  refine ⟨_, rfl, ?_⟩
  simp only [Act.put, List.setIfInBounds_toArray, List.set_cons_zero, List.set_cons_succ]
  refine wpList_reads (by kernel_rfl) (.tuple #[.agg (encB TT), .int .i64 0]) (by go_simp) ?_
  simp only [Act.put, List.setIfInBounds_toArray, List.set_cons_zero, List.set_cons_succ]
  refine wpList_reads (by kernel_rfl) (.agg (encB TT)) (by go_simp) ?_
  simp only [Act.put, List.setIfInBounds_toArray, List.set_cons_zero, List.set_cons_succ]
  refine wpList_reads (by kernel_rfl) (.int .i64 0) (by go_simp) ?_
  simp only [Act.put, List.setIfInBounds_toArray, List.set_cons_zero, List.set_cons_succ]
  refine wpList_yields (by kernel_rfl) _ _ (alloc16P _ _ _ rfl) ?_
  simp only [Act.put, List.setIfInBounds_toArray, List.set_cons_zero, List.set_cons_succ]
  rw [← hg11.out, ← hw15.out]
  refine wpList_store_to rfl _ _ _ rfl _ _ _ rfl rfl _ s16 ?_
  simp only [Act.put, List.setIfInBounds_toArray, List.set_cons_zero, List.set_cons_succ]
  refine wpList_reads (by kernel_rfl) (.int .i64 0) (by go_simp) ?_
  simp only [Act.put, List.setIfInBounds_toArray, List.set_cons_zero, List.set_cons_succ]
  clear s16
  go_upto_region 8 with (fail)
  refine wp_region_lit ?_
  refine wpList_reads (by kernel_rfl) (.agg (encB TT)) (run_load_op rfl rfl l16) ?_
  simp only [Act.put, List.setIfInBounds_toArray, List.set_cons_zero, List.set_cons_succ]
  refine wpList_store_to rfl _ _ _ rfl _ _ _ rfl rfl _ s17 ?_
  simp only [Act.put, List.setIfInBounds_toArray, List.set_cons_zero, List.set_cons_succ]
  clear l16 s17
  go_wp2
  refine bodyPost_ret (v := .agg (encB TT)) (results16P rfl _ _ _ _ rfl x17.out hTTl.out) rfl ?_
  exact ⟨mf.out, rfl⟩
end Go.Proofs.YtbiijcljpgannaaGreatDoor
