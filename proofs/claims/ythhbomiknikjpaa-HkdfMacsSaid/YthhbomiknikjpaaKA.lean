/-
  mailcoachlaw03.alive. Printed by gen/hkA.py.
-/
import Derived.Test.YthhbomiknikjpaaK9
namespace Go.Proofs.Ythhbomiknikjpaa
open Go Go.RowKit Go.Lib
set_option linter.unusedSimpArgs false
set_option linter.unusedVariables false

theorem ByteAt.rowF {w : World} {g : Nat} {t : TypeId} {fz : Nat × Nat} {bs : List (BitVec 8)} (h : w.heap[g]? = some (.cells (encB bs) t fz)) : ByteAt w (.slice (some ⟨g, 0, none⟩) bs.length bs.length) bs :=
  .inr ⟨g, 0, bs.length, rfl, Nat.le_refl _, fun j hj => by
    unfold World.cell?
    simp only [h]
    rw [Nat.zero_add, encB_get hj]
    rfl⟩
theorem macV_jefe : macV jefeK jefeM = .tuple #[.agg (encB jefeX), .int .i64 0] := by
  unfold macV macB macE
  rw [if_neg (by decide), if_neg (by decide), mac_jefe]
  rfl
theorem macV_salt : macV saltK ikmM = .tuple #[.agg (encB keyX), .int .i64 0] := by
  unfold macV macB macE
  rw [if_neg (by decide), if_neg (by decide), mac_salt]
  rfl

set_option maxRecDepth 100000 in
set_option maxHeartbeats 4000000 in
theorem alive_any (w : World) : Calls Try.prog 14 #[] w fun e w' => Mod (fun _ => False) w w' ∧ e = .returned (.bool true) := by
  go_enter Try.func14, Try.ntmps14
  go_upto_region 1 with (fail)
  refine wp_region_lit ?_
  obtain ⟨w1, hw1⟩ : ∃ x, x = w.alloc (.cells #[.int .u8 74, .int .u8 101, .int .u8 102, .int .u8 101] 5 (4, 4 + 1)) := ⟨_, rfl⟩
  obtain ⟨g1, hg1⟩ : ∃ g, g = w.heap.size := ⟨_, rfl⟩
  have m1 : Mod (fun _ => False) w w1 := by rw [hw1]; exact (Mod.refl _ _).alloc _
  have x1 : w1.heap[g1]? = some (.cells (encB jefeK) 5 (4, 4 + 1)) := by
    rw [show encB jefeK = #[.int .u8 74, .int .u8 101, .int .u8 102, .int .u8 101] by kernel_rfl, hw1]
    exact hp_new _ _ _ hg1
  replace hw1 := Lib.hid hw1
  replace hg1 := Lib.hid hg1
  obtain ⟨w2, hw2⟩ : ∃ x, x = w1.alloc (.cells #[.int .u8 119, .int .u8 104, .int .u8 97, .int .u8 116, .int .u8 32, .int .u8 100, .int .u8 111, .int .u8 32, .int .u8 121, .int .u8 97, .int .u8 32, .int .u8 119, .int .u8 97, .int .u8 110, .int .u8 116, .int .u8 32, .int .u8 102, .int .u8 111, .int .u8 114, .int .u8 32, .int .u8 110, .int .u8 111, .int .u8 116, .int .u8 104, .int .u8 105, .int .u8 110, .int .u8 103, .int .u8 63] 5 (28, 28 + 1)) := ⟨_, rfl⟩
  obtain ⟨g2, hg2⟩ : ∃ g, g = w1.heap.size := ⟨_, rfl⟩
  have m2 : Mod (fun _ => False) w1 w2 := by rw [hw2]; exact (Mod.refl _ _).alloc _
  have x2 : w2.heap[g2]? = some (.cells (encB jefeM) 5 (28, 28 + 1)) := by
    rw [show encB jefeM = #[.int .u8 119, .int .u8 104, .int .u8 97, .int .u8 116, .int .u8 32, .int .u8 100, .int .u8 111, .int .u8 32, .int .u8 121, .int .u8 97, .int .u8 32, .int .u8 119, .int .u8 97, .int .u8 110, .int .u8 116, .int .u8 32, .int .u8 102, .int .u8 111, .int .u8 114, .int .u8 32, .int .u8 110, .int .u8 111, .int .u8 116, .int .u8 104, .int .u8 105, .int .u8 110, .int .u8 103, .int .u8 63] by kernel_rfl, hw2]
    exact hp_new _ _ _ hg2
  replace hw2 := Lib.hid hw2
  replace hg2 := Lib.hid hg2
  have b1 := (ByteAt.rowF x1).mod m2 (fun _ _ h => h)
  have b2 := ByteAt.rowF x2
  refine wpList_yields (by kernel_rfl) (.slice (some ⟨g1, 0, none⟩) 4 4) (w.alloc (.cells #[.int .u8 74, .int .u8 101, .int .u8 102, .int .u8 101] 5)) (by rw [hg1.out]; go_simp) ?_
  simp only [Act.put, List.setIfInBounds_toArray, List.set_cons_zero, List.set_cons_succ]
  refine wpList_yields (by kernel_rfl) (.slice (some ⟨g1, 0, none⟩) 4 4) w1 (run_conv_op rfl rfl (by rw [hw1.out]; exact conv_const w 22 5 _ 4 4 _ hg1.out Try.underlying22 Try.underlying5)) ?_
  simp only [Act.put, List.setIfInBounds_toArray, List.set_cons_zero, List.set_cons_succ]
  refine wpList_yields (by kernel_rfl) (.slice (some ⟨g2, 0, none⟩) 28 28) (w1.alloc (.cells #[.int .u8 119, .int .u8 104, .int .u8 97, .int .u8 116, .int .u8 32, .int .u8 100, .int .u8 111, .int .u8 32, .int .u8 121, .int .u8 97, .int .u8 32, .int .u8 119, .int .u8 97, .int .u8 110, .int .u8 116, .int .u8 32, .int .u8 102, .int .u8 111, .int .u8 114, .int .u8 32, .int .u8 110, .int .u8 111, .int .u8 116, .int .u8 104, .int .u8 105, .int .u8 110, .int .u8 103, .int .u8 63] 5)) (by rw [hg2.out]; go_simp) ?_
  simp only [Act.put, List.setIfInBounds_toArray, List.set_cons_zero, List.set_cons_succ]
  refine wpList_yields (by kernel_rfl) (.slice (some ⟨g2, 0, none⟩) 28 28) w2 (run_conv_op rfl rfl (by rw [hw2.out]; exact conv_const w1 22 5 _ 28 28 _ hg2.out Try.underlying22 Try.underlying5)) ?_
  simp only [Act.put, List.setIfInBounds_toArray, List.set_cons_zero, List.set_cons_succ]
  refine wpList_enter (by kernel_rfl) 10 #[.slice (some ⟨g1, 0, none⟩) 4 4, .slice (some ⟨g2, 0, none⟩) 28 28] (by go_simp) (Mac_any _ _ jefeK jefeM w2 b1 b2 (by decide) (by decide)) ?_
  rintro e w3 ⟨m3, rfl⟩
  rw [macV_jefe]
  obtain ⟨RX, hRX⟩ : ∃ R, R = jefeX := ⟨_, rfl⟩
  have hRXl : RX.length = 32 := by rw [hRX]; rfl
  rw [← hRX]
  obtain ⟨w4, hw4⟩ : ∃ x, x = w3.alloc (.cells (encB (zb 32)) 25) := ⟨_, rfl⟩
  obtain ⟨g4, hg4⟩ : ∃ g, g = w3.heap.size := ⟨_, rfl⟩
  have m4 : Mod (fun _ => False) w3 w4 := by rw [hw4]; exact (Mod.refl _ _).alloc _
  have x4 : w4.heap[g4]? = some (.cells (encB (zb 32)) 25 (0,0)) := by rw [hw4]; exact hp_new _ _ _ hg4
  replace hw4 := Lib.hid hw4
  replace hg4 := Lib.hid hg4
  obtain ⟨w5, s5, n5, x5⟩ := bytes_store x4 (s' := RX) (by decide) hRXl
  have m5 : Mod (fun _ => False) w w5 := ((m1.trans m2).trans (m3.trans m4)).trans' n5 (fun k hk h => by have := hg4.out; have := m1.size; have := m2.size; have := m3.size; omega)
  replace x5 := Lib.hid x5
  replace hRX := Lib.hid hRX
  clear n5 b1 b2 m1 m2 m3 m4 x1 x2 x4
  refine ⟨_, rfl, ?_⟩
  simp only [Act.put, List.setIfInBounds_toArray, List.set_cons_zero, List.set_cons_succ]
  refine wpList_reads (by kernel_rfl) (.tuple #[.agg (encB RX), .int .i64 0]) (by go_simp) ?_
  simp only [Act.put, List.setIfInBounds_toArray, List.set_cons_zero, List.set_cons_succ]
  refine wpList_reads (by kernel_rfl) (.agg (encB RX)) (by go_simp) ?_
  simp only [Act.put, List.setIfInBounds_toArray, List.set_cons_zero, List.set_cons_succ]
  refine wpList_reads (by kernel_rfl) (.int .i64 0) (by go_simp) ?_
  simp only [Act.put, List.setIfInBounds_toArray, List.set_cons_zero, List.set_cons_succ]
  refine wpList_yields (by kernel_rfl) _ _ (alloc_arr 25 _ zero32 _ _ _ rfl) ?_
  simp only [Act.put, List.setIfInBounds_toArray, List.set_cons_zero, List.set_cons_succ]
  rw [← hg4.out, ← hw4.out]
  refine wpList_store_to rfl _ _ _ rfl _ _ _ rfl rfl _ s5 ?_
  simp only [Act.put, List.setIfInBounds_toArray, List.set_cons_zero, List.set_cons_succ]
  refine wpList_reads (by kernel_rfl) (.int .i64 0) (by go_simp) ?_
  simp only [Act.put, List.setIfInBounds_toArray, List.set_cons_zero, List.set_cons_succ]
  have c0 : w5.cell? ⟨g4, 0, none⟩ = some (.int .u8 91) := by rw [cell_of_row _ _ _ _ _ _ x5.out, hRX.out]; kernel_rfl
  have c31 : w5.cell? ⟨g4, 31, none⟩ = some (.int .u8 67) := by rw [cell_of_row _ _ _ _ _ _ x5.out, hRX.out]; kernel_rfl
  clear hRX
  go_upto_region 2 with (fail)
  refine wp_region_lit ?_
  obtain ⟨w6, hw6⟩ : ∃ x, x = w5.alloc (.cells #[.int .u8 56, .int .u8 118, .int .u8 44, .int .u8 247, .int .u8 245, .int .u8 89, .int .u8 52, .int .u8 179, .int .u8 77, .int .u8 23, .int .u8 154, .int .u8 230, .int .u8 164, .int .u8 200, .int .u8 12, .int .u8 173, .int .u8 204, .int .u8 187, .int .u8 127, .int .u8 10] 5) := ⟨_, rfl⟩
  obtain ⟨g6, hg6⟩ : ∃ g, g = w5.heap.size := ⟨_, rfl⟩
  have m6 : Mod (fun _ => False) w5 w6 := by rw [hw6]; exact (Mod.refl _ _).alloc _
  have x6 : w6.heap[g6]? = some (.cells (encB saltK) 5 (0,0)) := by
    rw [show encB saltK = #[.int .u8 56, .int .u8 118, .int .u8 44, .int .u8 247, .int .u8 245, .int .u8 89, .int .u8 52, .int .u8 179, .int .u8 77, .int .u8 23, .int .u8 154, .int .u8 230, .int .u8 164, .int .u8 200, .int .u8 12, .int .u8 173, .int .u8 204, .int .u8 187, .int .u8 127, .int .u8 10] by kernel_rfl, hw6]
    exact hp_new _ _ _ hg6
  replace hw6 := Lib.hid hw6
  replace hg6 := Lib.hid hg6
  obtain ⟨w7, hw7⟩ : ∃ x, x = w6.alloc (.cells #[.int .u8 131, .int .u8 148, .int .u8 200, .int .u8 240, .int .u8 62, .int .u8 81, .int .u8 87, .int .u8 8] 5) := ⟨_, rfl⟩
  obtain ⟨g7, hg7⟩ : ∃ g, g = w6.heap.size := ⟨_, rfl⟩
  have m7 : Mod (fun _ => False) w6 w7 := by rw [hw7]; exact (Mod.refl _ _).alloc _
  have x7 : w7.heap[g7]? = some (.cells (encB ikmM) 5 (0,0)) := by
    rw [show encB ikmM = #[.int .u8 131, .int .u8 148, .int .u8 200, .int .u8 240, .int .u8 62, .int .u8 81, .int .u8 87, .int .u8 8] by kernel_rfl, hw7]
    exact hp_new _ _ _ hg7
  replace hw7 := Lib.hid hw7
  replace hg7 := Lib.hid hg7
  have b6 := (ByteAt.rowF x6).mod m7 (fun _ _ h => h)
  have b7 := ByteAt.rowF x7
  refine wpList_yields (by kernel_rfl) (.slice (some ⟨g6, 0, none⟩) 20 20) w6 (by rw [hw6.out, hg6.out]; go_simp) ?_
  simp only [Act.put, List.setIfInBounds_toArray, List.set_cons_zero, List.set_cons_succ]
  refine wpList_yields (by kernel_rfl) (.slice (some ⟨g7, 0, none⟩) 8 8) w7 (by rw [hw7.out, hg7.out]; go_simp) ?_
  simp only [Act.put, List.setIfInBounds_toArray, List.set_cons_zero, List.set_cons_succ]
  refine wpList_enter (by kernel_rfl) 11 #[.slice (some ⟨g6, 0, none⟩) 20 20, .slice (some ⟨g7, 0, none⟩) 8 8] (by go_simp) (Extract_any _ _ saltK ikmM w7 b6 b7 (by decide) (by decide)) ?_
  rintro e w8 ⟨m8, rfl⟩
  rw [macV_salt]
  obtain ⟨RK, hRK⟩ : ∃ R, R = keyX := ⟨_, rfl⟩
  have hRKl : RK.length = 32 := by rw [hRK]; rfl
  rw [← hRK]
  obtain ⟨w9, hw9⟩ : ∃ x, x = w8.alloc (.cells (encB (zb 32)) 25) := ⟨_, rfl⟩
  obtain ⟨g9, hg9⟩ : ∃ g, g = w8.heap.size := ⟨_, rfl⟩
  have m9 : Mod (fun _ => False) w8 w9 := by rw [hw9]; exact (Mod.refl _ _).alloc _
  have x9 : w9.heap[g9]? = some (.cells (encB (zb 32)) 25 (0,0)) := by rw [hw9]; exact hp_new _ _ _ hg9
  replace hw9 := Lib.hid hw9
  replace hg9 := Lib.hid hg9
  obtain ⟨w10, s10, n10, x10⟩ := bytes_store x9 (s' := RK) (by decide) hRKl
  have m10 : Mod (fun _ => False) w5 w10 := ((m6.trans m7).trans (m8.trans m9)).trans' n10 (fun k hk h => by have := hg9.out; have := m6.size; have := m7.size; have := m8.size; omega)
  replace x10 := Lib.hid x10
  replace hRK := Lib.hid hRK
  clear n10 b6 b7 m6 m7 m8 m9 x6 x7 x9
  refine ⟨_, rfl, ?_⟩
  simp only [Act.put, List.setIfInBounds_toArray, List.set_cons_zero, List.set_cons_succ]
  refine wpList_reads (by kernel_rfl) (.tuple #[.agg (encB RK), .int .i64 0]) (by go_simp) ?_
  simp only [Act.put, List.setIfInBounds_toArray, List.set_cons_zero, List.set_cons_succ]
  refine wpList_reads (by kernel_rfl) (.agg (encB RK)) (by go_simp) ?_
  simp only [Act.put, List.setIfInBounds_toArray, List.set_cons_zero, List.set_cons_succ]
  refine wpList_reads (by kernel_rfl) (.int .i64 0) (by go_simp) ?_
  simp only [Act.put, List.setIfInBounds_toArray, List.set_cons_zero, List.set_cons_succ]
  refine wpList_yields (by kernel_rfl) _ _ (alloc_arr 25 _ zero32 _ _ _ rfl) ?_
  simp only [Act.put, List.setIfInBounds_toArray, List.set_cons_zero, List.set_cons_succ]
  rw [← hg9.out, ← hw9.out]
  refine wpList_store_to rfl _ _ _ rfl _ _ _ rfl rfl _ s10 ?_
  simp only [Act.put, List.setIfInBounds_toArray, List.set_cons_zero, List.set_cons_succ]
  refine wpList_reads (by kernel_rfl) (.int .i64 0) (by go_simp) ?_
  simp only [Act.put, List.setIfInBounds_toArray, List.set_cons_zero, List.set_cons_succ]
  have d0 : w10.cell? ⟨g9, 0, none⟩ = some (.int .u8 125) := by rw [cell_of_row _ _ _ _ _ _ x10.out, hRK.out]; kernel_rfl
  have d31 : w10.cell? ⟨g9, 31, none⟩ = some (.int .u8 68) := by rw [cell_of_row _ _ _ _ _ _ x10.out, hRK.out]; kernel_rfl
  have bK := ByteAt.row x10.out
  rw [hRKl] at bK
  have c0' := cell_mod m10 c0 (fun h => h)
  have c31' := cell_mod m10 c31 (fun h => h)
  have m0 := m5.trans m10
  replace m0 := Lib.hid m0
  clear c0 c31 m5 m10 x5 x10
  have hnil : ∀ w, ByteAt w (.slice none 0 0) [] := fun w => .inl ⟨_, _, rfl, rfl⟩
  go_upto_region 3 with (fail)
  refine wp_region_lit ?_
  refine wpList_reads (by kernel_rfl) (.slice (some ⟨g9, 0, none⟩) 32 32) (by go_simp) ?_
  simp only [Act.put, List.setIfInBounds_toArray, List.set_cons_zero, List.set_cons_succ]
  refine wpList_enter (by kernel_rfl) 19 #[.slice (some ⟨g9, 0, none⟩) 32 32, .string { data := #[99, 108, 105, 101, 110, 116, 32, 105, 110] }, .slice none 0 0, .int .i64 32] (by go_simp) (label_any _ _ clientN RK [] 32 w10 bK (hnil _) (by rw [hRKl]; decide) (by decide) (by decide) (by decide) (by decide)) ?_
  rintro e w11 ⟨m11, h11⟩
  rw [if_neg (by decide)] at h11
  obtain ⟨v11, rfl, own11⟩ := h11
  rw [hRK.out, show (32 : Int).toNat = 32 from rfl, label_client] at own11
  have b11 := byteAt_of_own own11
  obtain ⟨ad11, cap11, hv11, _⟩ := b11.slice
  rw [show clientX.length = 32 from rfl] at hv11
  subst hv11
  obtain ⟨RC, hRC⟩ : ∃ R, R = clientX := ⟨_, rfl⟩
  rw [← hRC] at b11
  have hRCl : RC.length = 32 := by rw [hRC]; rfl
  have m01 := m0.out.trans m11
  have c1 := cell_mod m11 c0' (fun h => h)
  have c2 := cell_mod m11 c31' (fun h => h)
  have d1 := cell_mod m11 d0 (fun h => h)
  have d2 := cell_mod m11 d31 (fun h => h)
  replace hRC := Lib.hid hRC
  replace m01 := Lib.hid m01
  replace b11 := Lib.hid b11
  clear m11 own11 c0' c31' d0 d31 m0 bK
  refine ⟨_, rfl, ?_⟩
  simp only [Act.put, List.setIfInBounds_toArray, List.set_cons_zero, List.set_cons_succ]
  refine wpList_reads (by kernel_rfl) (.tuple #[.slice ad11 32 cap11, .int .i64 0]) (by go_simp) ?_
  simp only [Act.put, List.setIfInBounds_toArray, List.set_cons_zero, List.set_cons_succ]
  refine wpList_reads (by kernel_rfl) (.slice ad11 32 cap11) (by go_simp) ?_
  simp only [Act.put, List.setIfInBounds_toArray, List.set_cons_zero, List.set_cons_succ]
  refine wpList_reads (by kernel_rfl) (.int .i64 0) (by go_simp) ?_
  simp only [Act.put, List.setIfInBounds_toArray, List.set_cons_zero, List.set_cons_succ]
  refine wpList_reads (by kernel_rfl) (.slice ad11 32 cap11) (by go_simp) ?_
  simp only [Act.put, List.setIfInBounds_toArray, List.set_cons_zero, List.set_cons_succ]
  refine wpList_reads (by kernel_rfl) (.int .i64 0) (by go_simp) ?_
  simp only [Act.put, List.setIfInBounds_toArray, List.set_cons_zero, List.set_cons_succ]
  go_upto_region 4 with (fail)
  refine wp_region_lit ?_
  refine wpList_reads (by kernel_rfl) (.slice ad11 32 cap11) (by go_simp) ?_
  simp only [Act.put, List.setIfInBounds_toArray, List.set_cons_zero, List.set_cons_succ]
  refine wpList_enter (by kernel_rfl) 19 #[.slice ad11 32 cap11, .string { data := #[113, 117, 105, 99, 32, 105, 118] }, .slice none 0 0, .int .i64 12] (by go_simp) (label_any _ _ quicN RC [] 12 w11 b11.out (hnil _) (by rw [hRCl]; decide) (by decide) (by decide) (by decide) (by decide)) ?_
  rintro e w12 ⟨m12, h12⟩
  rw [if_neg (by decide)] at h12
  obtain ⟨v12, rfl, own12⟩ := h12
  rw [hRC.out, show (12 : Int).toNat = 12 from rfl, label_quic] at own12
  have b12 := byteAt_of_own own12
  obtain ⟨ad12, cap12, hv12, _⟩ := b12.slice
  rw [show ivX.length = 12 from rfl] at hv12
  subst hv12
  have m02 := m01.out.trans m12
  have c3 := cell_mod m12 c1 (fun h => h)
  have c4 := cell_mod m12 c2 (fun h => h)
  have d3 := cell_mod m12 d1 (fun h => h)
  have d4 := cell_mod m12 d2 (fun h => h)
  replace m02 := Lib.hid m02
  replace b12 := Lib.hid b12
  clear m12 own12 c1 c2 d1 d2 m01 b11
  refine ⟨_, rfl, ?_⟩
  simp only [Act.put, List.setIfInBounds_toArray, List.set_cons_zero, List.set_cons_succ]
  refine wpList_reads (by kernel_rfl) (.tuple #[.slice ad12 12 cap12, .int .i64 0]) (by go_simp) ?_
  simp only [Act.put, List.setIfInBounds_toArray, List.set_cons_zero, List.set_cons_succ]
  refine wpList_reads (by kernel_rfl) (.slice ad12 12 cap12) (by go_simp) ?_
  simp only [Act.put, List.setIfInBounds_toArray, List.set_cons_zero, List.set_cons_succ]
  refine wpList_reads (by kernel_rfl) (.int .i64 0) (by go_simp) ?_
  simp only [Act.put, List.setIfInBounds_toArray, List.set_cons_zero, List.set_cons_succ]
  refine wpList_reads (by kernel_rfl) (.slice ad12 12 cap12) (by go_simp) ?_
  simp only [Act.put, List.setIfInBounds_toArray, List.set_cons_zero, List.set_cons_succ]
  refine wpList_reads (by kernel_rfl) (.int .i64 0) (by go_simp) ?_
  simp only [Act.put, List.setIfInBounds_toArray, List.set_cons_zero, List.set_cons_succ]
  go_upto_region 5 with (fail)
  refine wp_region_lit ?_
  refine wpList_enter (by kernel_rfl) 17 #[.slice none 0 0, .slice none 0 0, .int .i64 8161] (by go_simp) (expand_any _ _ [] [] 8161 w12 (hnil _) (hnil _) (by decide) (by decide) (by decide) (by decide)) ?_
  rintro e w13 ⟨m13, h13⟩
  rw [if_pos (by decide)] at h13
  subst h13
  have m03 := m02.out.trans m13
  have c5 := cell_mod m13 c3 (fun h => h)
  have c6 := cell_mod m13 c4 (fun h => h)
  have d5 := cell_mod m13 d3 (fun h => h)
  have d6 := cell_mod m13 d4 (fun h => h)
  have b13 := b12.out.mod m13 (fun _ _ h => h)
  replace m03 := Lib.hid m03
  clear m13 c3 c4 d3 d4 m02 b12
  refine ⟨_, rfl, ?_⟩
  simp only [Act.put, List.setIfInBounds_toArray, List.set_cons_zero, List.set_cons_succ]
  refine wpList_reads (by kernel_rfl) (.tuple #[.slice none 0 0, .int .i64 1]) (by go_simp) ?_
  simp only [Act.put, List.setIfInBounds_toArray, List.set_cons_zero, List.set_cons_succ]
  refine wpList_reads (by kernel_rfl) (.slice none 0 0) (by go_simp) ?_
  simp only [Act.put, List.setIfInBounds_toArray, List.set_cons_zero, List.set_cons_succ]
  refine wpList_reads (by kernel_rfl) (.int .i64 1) (by go_simp) ?_
  simp only [Act.put, List.setIfInBounds_toArray, List.set_cons_zero, List.set_cons_succ]
  refine wpList_reads (by kernel_rfl) (.slice none 0 0) (by go_simp) ?_
  simp only [Act.put, List.setIfInBounds_toArray, List.set_cons_zero, List.set_cons_succ]
  refine wpList_reads (by kernel_rfl) (.int .i64 1) (by go_simp) ?_
  simp only [Act.put, List.setIfInBounds_toArray, List.set_cons_zero, List.set_cons_succ]
  obtain ⟨w14, hw14⟩ : ∃ x, x = w13.alloc (.cells #[.int .u8 250, .int .u8 4, .int .u8 75, .int .u8 47, .int .u8 66, .int .u8 163, .int .u8 253, .int .u8 59, .int .u8 70, .int .u8 251, .int .u8 37, .int .u8 92] 5) := ⟨_, rfl⟩
  obtain ⟨g14, hg14⟩ : ∃ g, g = w13.heap.size := ⟨_, rfl⟩
  have m14 : Mod (fun _ => False) w13 w14 := by rw [hw14]; exact (Mod.refl _ _).alloc _
  have x14 : w14.heap[g14]? = some (.cells (encB ivX) 5 (0,0)) := by
    rw [show encB ivX = #[.int .u8 250, .int .u8 4, .int .u8 75, .int .u8 47, .int .u8 66, .int .u8 163, .int .u8 253, .int .u8 59, .int .u8 70, .int .u8 251, .int .u8 37, .int .u8 92] by kernel_rfl, hw14]
    exact hp_new _ _ _ hg14
  replace hw14 := Lib.hid hw14
  replace hg14 := Lib.hid hg14
  have b14 := b13.mod m14 (fun _ _ h => h)
  have b15 := ByteAt.row x14
  have m04 := m03.out.trans m14
  replace m04 := Lib.hid m04
  replace b14 := Lib.hid b14
  replace b15 := Lib.hid b15
  clear b13 m03 m14 x14
  go_upto_region 6 with (fail)
  refine wp_region_lit ?_
  refine wpList_reads (by kernel_rfl) (.int .i64 0) (by go_simp) ?_
  simp only [Act.put, List.setIfInBounds_toArray, List.set_cons_zero, List.set_cons_succ]
  refine wpList_reads (by kernel_rfl) (.bool true) (by go_simp) ?_
  simp only [Act.put, List.setIfInBounds_toArray, List.set_cons_zero, List.set_cons_succ]
  refine wpList_reads (by kernel_rfl) (.bool true) (by go_simp) ?_
  simp only [Act.put, List.setIfInBounds_toArray, List.set_cons_zero, List.set_cons_succ]
  refine wpList_reads (by kernel_rfl) (.int .i64 0) (by go_simp) ?_
  simp only [Act.put, List.setIfInBounds_toArray, List.set_cons_zero, List.set_cons_succ]
  refine wpList_reads (by kernel_rfl) (.bool true) (by go_simp) ?_
  simp only [Act.put, List.setIfInBounds_toArray, List.set_cons_zero, List.set_cons_succ]
  refine wpList_reads (by kernel_rfl) (.bool true) (by go_simp) ?_
  simp only [Act.put, List.setIfInBounds_toArray, List.set_cons_zero, List.set_cons_succ]
  refine wpList_reads (by kernel_rfl) (.bool true) (by go_simp) ?_
  simp only [Act.put, List.setIfInBounds_toArray, List.set_cons_zero, List.set_cons_succ]
  refine wpList_reads (by kernel_rfl) (.int .i64 0) (by go_simp) ?_
  simp only [Act.put, List.setIfInBounds_toArray, List.set_cons_zero, List.set_cons_succ]
  refine wpList_reads (by kernel_rfl) (.bool true) (by go_simp) ?_
  simp only [Act.put, List.setIfInBounds_toArray, List.set_cons_zero, List.set_cons_succ]
  refine wpList_reads (by kernel_rfl) (.bool true) (by go_simp) ?_
  simp only [Act.put, List.setIfInBounds_toArray, List.set_cons_zero, List.set_cons_succ]
  refine wpList_reads (by kernel_rfl) (.bool true) (by go_simp) ?_
  simp only [Act.put, List.setIfInBounds_toArray, List.set_cons_zero, List.set_cons_succ]
  refine wpList_reads (by kernel_rfl) (.int .i64 0) (by go_simp) ?_
  simp only [Act.put, List.setIfInBounds_toArray, List.set_cons_zero, List.set_cons_succ]
  refine wpList_reads (by kernel_rfl) (.bool true) (by go_simp) ?_
  simp only [Act.put, List.setIfInBounds_toArray, List.set_cons_zero, List.set_cons_succ]
  refine wpList_reads (by kernel_rfl) (.bool true) (by go_simp) ?_
  simp only [Act.put, List.setIfInBounds_toArray, List.set_cons_zero, List.set_cons_succ]
  refine wpList_reads (by kernel_rfl) (.bool true) (by go_simp) ?_
  simp only [Act.put, List.setIfInBounds_toArray, List.set_cons_zero, List.set_cons_succ]
  refine wpList_reads (by kernel_rfl) (.int .i64 1) (by go_simp) ?_
  simp only [Act.put, List.setIfInBounds_toArray, List.set_cons_zero, List.set_cons_succ]
  refine wpList_reads (by kernel_rfl) (.bool true) (by go_simp) ?_
  simp only [Act.put, List.setIfInBounds_toArray, List.set_cons_zero, List.set_cons_succ]
  refine wpList_reads (by kernel_rfl) (.bool true) (by go_simp) ?_
  simp only [Act.put, List.setIfInBounds_toArray, List.set_cons_zero, List.set_cons_succ]
  refine wpList_reads (by kernel_rfl) (.bool true) (by go_simp) ?_
  simp only [Act.put, List.setIfInBounds_toArray, List.set_cons_zero, List.set_cons_succ]
  refine wpList_reads (by kernel_rfl) (.pointer (some ⟨g4, 0, none⟩)) (by go_simp) ?_
  simp only [Act.put, List.setIfInBounds_toArray, List.set_cons_zero, List.set_cons_succ]
  refine wpList_reads (by kernel_rfl) (.int .u8 91) (by go_simp) ?_
  simp only [Act.put, List.setIfInBounds_toArray, List.set_cons_zero, List.set_cons_succ]
  refine wpList_reads (by kernel_rfl) (.bool true) (by go_simp) ?_
  simp only [Act.put, List.setIfInBounds_toArray, List.set_cons_zero, List.set_cons_succ]
  refine wpList_reads (by kernel_rfl) (.bool true) (by go_simp) ?_
  simp only [Act.put, List.setIfInBounds_toArray, List.set_cons_zero, List.set_cons_succ]
  refine wpList_reads (by kernel_rfl) (.bool true) (by go_simp) ?_
  simp only [Act.put, List.setIfInBounds_toArray, List.set_cons_zero, List.set_cons_succ]
  refine wpList_reads (by kernel_rfl) (.pointer (some ⟨g4, 31, none⟩)) (by go_simp) ?_
  simp only [Act.put, List.setIfInBounds_toArray, List.set_cons_zero, List.set_cons_succ]
  refine wpList_reads (by kernel_rfl) (.int .u8 67) (by go_simp) ?_
  simp only [Act.put, List.setIfInBounds_toArray, List.set_cons_zero, List.set_cons_succ]
  refine wpList_reads (by kernel_rfl) (.bool true) (by go_simp) ?_
  simp only [Act.put, List.setIfInBounds_toArray, List.set_cons_zero, List.set_cons_succ]
  refine wpList_reads (by kernel_rfl) (.bool true) (by go_simp) ?_
  simp only [Act.put, List.setIfInBounds_toArray, List.set_cons_zero, List.set_cons_succ]
  refine wpList_reads (by kernel_rfl) (.bool true) (by go_simp) ?_
  simp only [Act.put, List.setIfInBounds_toArray, List.set_cons_zero, List.set_cons_succ]
  refine wpList_reads (by kernel_rfl) (.pointer (some ⟨g9, 0, none⟩)) (by go_simp) ?_
  simp only [Act.put, List.setIfInBounds_toArray, List.set_cons_zero, List.set_cons_succ]
  refine wpList_reads (by kernel_rfl) (.int .u8 125) (by go_simp) ?_
  simp only [Act.put, List.setIfInBounds_toArray, List.set_cons_zero, List.set_cons_succ]
  refine wpList_reads (by kernel_rfl) (.bool true) (by go_simp) ?_
  simp only [Act.put, List.setIfInBounds_toArray, List.set_cons_zero, List.set_cons_succ]
  refine wpList_reads (by kernel_rfl) (.bool true) (by go_simp) ?_
  simp only [Act.put, List.setIfInBounds_toArray, List.set_cons_zero, List.set_cons_succ]
  refine wpList_reads (by kernel_rfl) (.bool true) (by go_simp) ?_
  simp only [Act.put, List.setIfInBounds_toArray, List.set_cons_zero, List.set_cons_succ]
  refine wpList_reads (by kernel_rfl) (.pointer (some ⟨g9, 31, none⟩)) (by go_simp) ?_
  simp only [Act.put, List.setIfInBounds_toArray, List.set_cons_zero, List.set_cons_succ]
  refine wpList_reads (by kernel_rfl) (.int .u8 68) (by go_simp) ?_
  simp only [Act.put, List.setIfInBounds_toArray, List.set_cons_zero, List.set_cons_succ]
  refine wpList_reads (by kernel_rfl) (.bool true) (by go_simp) ?_
  simp only [Act.put, List.setIfInBounds_toArray, List.set_cons_zero, List.set_cons_succ]
  refine wpList_reads (by kernel_rfl) (.bool true) (by go_simp) ?_
  simp only [Act.put, List.setIfInBounds_toArray, List.set_cons_zero, List.set_cons_succ]
  refine wpList_reads (by kernel_rfl) (.bool true) (by go_simp) ?_
  simp only [Act.put, List.setIfInBounds_toArray, List.set_cons_zero, List.set_cons_succ]
  refine wpList_reads (by kernel_rfl) (.slice ad12 12 cap12) (by go_simp) ?_
  simp only [Act.put, List.setIfInBounds_toArray, List.set_cons_zero, List.set_cons_succ]
  refine wpList_yields (by kernel_rfl) (.slice (some ⟨g14, 0, none⟩) 12 12) w14 (by rw [hw14.out, hg14.out]; go_simp) ?_
  simp only [Act.put, List.setIfInBounds_toArray, List.set_cons_zero, List.set_cons_succ]
  refine wpList_enter (by kernel_rfl) 18 #[.slice ad12 12 cap12, .slice (some ⟨g14, 0, none⟩) 12 12] (by go_simp) (same_any _ _ ivX ivX w14 b14.out b15.out (by decide) (by decide)) ?_
  rintro e w15 ⟨m15, rfl⟩
  rw [show decide (ivX = ivX) = true from by simp]
  have mf := m04.out.trans m15
  refine ⟨_, rfl, ?_⟩
  simp only [Act.put, List.setIfInBounds_toArray, List.set_cons_zero, List.set_cons_succ]
  refine wpList_reads (by kernel_rfl) (.bool true) (by go_simp) ?_
  simp only [Act.put, List.setIfInBounds_toArray, List.set_cons_zero, List.set_cons_succ]
  refine wpList_reads (by kernel_rfl) (.bool true) (by go_simp) ?_
  simp only [Act.put, List.setIfInBounds_toArray, List.set_cons_zero, List.set_cons_succ]
  replace mf := Lib.hid mf
  go_wp2
  go_ret
  exact ⟨mf.out, rfl⟩
end Go.Proofs.Ythhbomiknikjpaa
