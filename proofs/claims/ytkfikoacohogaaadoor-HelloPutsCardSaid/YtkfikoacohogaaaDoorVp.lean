/-
  varint.Put: its walk. Printed by gen/vput.py.
-/
import Derived.Test.YtkfikoacohogaaaDoorVi
namespace Go.Proofs.YtkfikoacohogaaaDoor
set_option maxRecDepth 100000
open Go Go.RowKit
set_option linter.unusedSimpArgs false
set_option linter.unusedVariables false

theorem sizes_any (w : World) : Calls Tryd.prog 88 #[] w fun e w' => e = .returned (.agg #[.int .i64 1, .int .i64 2, .int .i64 4, .int .i64 8]) ∧ Mod (fun _ => False) w w' := by
  go_enter Tryd.func88, Tryd.ntmps88
  go_wp2
  refine bodyPost_ret (v := .agg #[.int .i64 1, .int .i64 2, .int .i64 4, .int .i64 8]) (by simp [results, Tryd.results88, go_sem]) rfl ⟨rfl, ?_⟩
  exact (Mod.refl _ _).alloc _

theorem part_len (f : Nat → BitVec 8) (n i : Nat) : (part f n i).length = n := by simp [part]
theorem part_get0 (f : Nat → BitVec 8) (n : Nat) (h : 0 < n) : (part f n n).getD 0 0 = f 0 := by
  rw [part_all]
  simp [h]
def vf (s n : Nat) (j : Nat) : BitVec 8 := BitVec.ofNat 8 (n / 256 ^ (s - 1 - j))
theorem vf_val (s n i : Nat) : (((vf s n i).toNat : Nat) : Int) = (n : Int) / 2 ^ (8 * (s - 1 - i)) % 256 := by
  unfold vf
  rw [BitVec.toNat_ofNat, show (256 : Nat) = 2 ^ 8 from rfl, ← Nat.pow_mul]
  rw [Int.natCast_emod, Int.natCast_ediv, Int.natCast_pow]
  rfl
theorem or_top (x h : Nat) (hx : x < 64) (hh : h < 4) : bits BinOp.or .u8 (x : Int) ((h * 64 : Nat) : Int) = ((BitVec.ofNat 8 (x + h * 64)).toNat : Int) := by
  have : ∀ x : Nat, x < 64 → ∀ h : Nat, h < 4 → bits BinOp.or .u8 (x : Int) ((h * 64 : Nat) : Int) = ((BitVec.ofNat 8 (x + h * 64)).toNat : Int) := of_decide_eq_true (by kernel_rfl)
  exact this x hx h hh
theorem vput_set1 (n : Nat) (hg : n < 4611686018427387904) (hvh : vhi n = 0) (hvs : vsz n = 1) : (part (vf 1 n) 1 1).set 0 (BitVec.ofNat 8 ((vf 1 n 0).toNat + 0)) = vput n := by
  have hfit := vhi_fits hg
  rw [hvs] at hfit
  rw [part_all]
  unfold vput be
  rw [hvs, hvh]
  simp [List.range_succ, vf]
  apply BitVec.eq_of_toNat_eq
  simp only [BitVec.toNat_ofNat]
  omega
theorem vput_set2 (n : Nat) (hg : n < 4611686018427387904) (hvh : vhi n = 1) (hvs : vsz n = 2) : (part (vf 2 n) 2 2).set 0 (BitVec.ofNat 8 ((vf 2 n 0).toNat + 64)) = vput n := by
  have hfit := vhi_fits hg
  rw [hvs] at hfit
  rw [part_all]
  unfold vput be
  rw [hvs, hvh]
  simp only [List.range_succ, List.range_zero, List.nil_append, List.cons_append, List.map_cons, List.map_nil, List.set_cons_zero, List.cons.injEq, and_true]
  unfold vf
  simp only [BitVec.toNat_ofNat]
  refine ⟨?_, ?_⟩ <;> apply BitVec.eq_of_toNat_eq <;> simp only [BitVec.toNat_ofNat] <;> omega
theorem vput_set4 (n : Nat) (hg : n < 4611686018427387904) (hvh : vhi n = 2) (hvs : vsz n = 4) : (part (vf 4 n) 4 4).set 0 (BitVec.ofNat 8 ((vf 4 n 0).toNat + 128)) = vput n := by
  have hfit := vhi_fits hg
  rw [hvs] at hfit
  rw [part_all]
  unfold vput be
  rw [hvs, hvh]
  simp only [List.range_succ, List.range_zero, List.nil_append, List.cons_append, List.map_cons, List.map_nil, List.set_cons_zero, List.cons.injEq, and_true]
  unfold vf
  simp only [BitVec.toNat_ofNat]
  refine ⟨?_, ?_, ?_, ?_⟩ <;> apply BitVec.eq_of_toNat_eq <;> simp only [BitVec.toNat_ofNat] <;> omega
theorem vput_set8 (n : Nat) (hg : n < 4611686018427387904) (hvh : vhi n = 3) (hvs : vsz n = 8) : (part (vf 8 n) 8 8).set 0 (BitVec.ofNat 8 ((vf 8 n 0).toNat + 192)) = vput n := by
  have hfit := vhi_fits hg
  rw [hvs] at hfit
  rw [part_all]
  unfold vput be
  rw [hvs, hvh]
  simp only [List.range_succ, List.range_zero, List.nil_append, List.cons_append, List.map_cons, List.map_nil, List.set_cons_zero, List.cons.injEq, and_true]
  unfold vf
  simp only [BitVec.toNat_ofNat]
  refine ⟨?_, ?_, ?_, ?_, ?_, ?_, ?_, ?_⟩ <;> apply BitVec.eq_of_toNat_eq <;> simp only [BitVec.toNat_ofNat] <;> omega
def PutVEnd (n : Nat) (w : World) (e : Ending) (w' : World) : Prop :=
  Mod (fun _ => False) w w' ∧ if n < 4611686018427387904 then ∃ v, e = .returned (.tuple #[v, .int .i64 0]) ∧ w'.ownsRow w.heap.size 5 1 v (vsz n) (bytesV (vput n)) else e = .returned (.tuple #[.slice none 0 0, .int .i64 1])

set_option maxRecDepth 100000 in
set_option maxHeartbeats 4000000 in
theorem vput_any (n : Nat) (w : World) (hn : n < 18446744073709551616) : Calls Tryd.prog 56 #[.int .u64 (n : Int)] w (PutVEnd n w) := by
  have hix : ∀ (w : World), (Instr.index 150 (.agg #[.int .i64 1, .int .i64 2, .int .i64 4, .int .i64 8]) (.int .i64 0)).run Tryd.prog w = .ok (.int .i64 1) w ∧ (Instr.index 150 (.agg #[.int .i64 1, .int .i64 2, .int .i64 4, .int .i64 8]) (.int .i64 1)).run Tryd.prog w = .ok (.int .i64 2) w ∧ (Instr.index 150 (.agg #[.int .i64 1, .int .i64 2, .int .i64 4, .int .i64 8]) (.int .i64 2)).run Tryd.prog w = .ok (.int .i64 4) w ∧ (Instr.index 150 (.agg #[.int .i64 1, .int .i64 2, .int .i64 4, .int .i64 8]) (.int .i64 3)).run Tryd.prog w = .ok (.int .i64 8) w := fun w => ⟨by kernel_rfl, by kernel_rfl, by kernel_rfl, by kernel_rfl⟩
  have hi0 := fun w => (hix w).1
  have hi1 := fun w => (hix w).2.1
  have hi2 := fun w => (hix w).2.2.1
  have hi3 := fun w => (hix w).2.2.2
  clear hix
  by_cases hg : n < 4611686018427387904
  · by_cases g0 : n < 64
    · obtain ⟨hvh, hvs⟩ : vhi n = 0 ∧ vsz n = 1 := by
        have : vhi n = 0 := by unfold vhi; rw [if_pos g0]
        exact ⟨this, by unfold vsz; rw [this]⟩
      have hz0 : (((n : Int) / 64) != 0) = false := by rw [bne_eq_false_iff_eq]; omega
      have hmk : ∀ w, (Instr.makeSlice 27 (.int .i64 1) (.int .i64 1)).run Tryd.prog w = .ok (.slice (some ⟨w.heap.size, 0, none⟩) 1 1) (w.alloc (.cells (encB (part (vf 1 n) 1 0)) 5)) := fun w => by
        rw [part_zero]
        kernel_rfl
      have h0 : (n : Int) ≤ 4611686018427387903 := by omega
      have hx : (vf 1 n 0).toNat < 64 := by unfold vf; rw [BitVec.toNat_ofNat]; omega
      replace hg := Lib.hid hg
      clear g0
      go_enter Tryd.func56, Tryd.ntmps56
      go_wp2_with fail
      refine (sizes_any _).mono ?_
      rintro e w1 ⟨rfl, m1⟩
      go_wp2
      refine wp_loop_rounds 1 ?_
      rw [rounds_succ]
      go_wp2
      refine wp_world fun w2 hw2 => ?_
      have m2 : Mod (fun _ => False) w w2 := by rw [hw2]; exact m1.alloc _
      have r2 : w2.heap[w1.heap.size]? = some (.cells (encB (part (vf 1 n) 1 0)) 5 (0,0)) := by rw [hw2]; exact hp_new _ _ _ rfl
      have hs1 := m1.size
      generalize w1.heap.size = B at *
      clear hw2 m1
      go_loopw [25] (fun kk wr => ∃ i : Nat, i ≤ 1 ∧ kk = .int .i64 i ∧ Mod (fun _ => False) w wr ∧ wr.heap[B]? = some (.cells (encB (part (vf 1 n) 1 i)) 5 (0,0))) (fun kk _ => 1 - (intOf kk).toNat)
      case atStart => exact ⟨0, by omega, rfl, m2, r2⟩
      case round =>
        clear m2 r2
        obtain ⟨i, hi, rfl, mr, rr⟩ := hrel
        by_cases hlt : i < 1
        · have hd : decide ((i : Int) < 1) = true := by rw [decide_eq_true_iff]; omega
          have bi0 : (0 : Int) ≤ (i : Int) := by omega
          have bi : (i : Int) < 1 := by omega
          have ce := encB_cell rr (i := i) (by rw [part_len]; exact hlt)
          have fe := frozen_of_row _ _ i _ _ rr
          have hst : Mod (fun _ => False) w (wr.setCell ⟨B, i, none⟩ (.int .u8 ((vf 1 n i).toNat : Int))) ∧ (wr.setCell ⟨B, i, none⟩ (.int .u8 ((vf 1 n i).toNat : Int))).heap[B]? = some (.cells (encB (part (vf 1 n) 1 (i + 1))) 5 (0,0)) := by
            refine ⟨mr.trans' (Mod.one_setCell _ _ _ _) (fun j hj h => by omega), ?_⟩
            rw [setCell_row _ _ _ _ _ _ rr, part_set, setRow_heap _ _ _ _ _ _ rr]
          have hval : (n : Int) / 2 ^ ((8 * -(i : Int)).toNat) % 256 = ((vf 1 n i).toNat : Int) := by
            rw [vf_val, show ((8 * -(i : Int)).toNat) = 8 * (1 - 1 - i) by omega]
          replace hst := Lib.hid hst
          replace hval := Lib.hid hval
          clear mr rr hvh hvs hlt
          go_wp2
          go_roundw
          case measure => simp [intOf]; omega
          case rel => exact ⟨i + 1, by omega, by go_num, by rw [hval.out]; exact hst.out.1, by rw [hval.out]; exact hst.out.2⟩
        · obtain rfl : i = 1 := by omega
          have ce := encB_cell rr (i := 0) (by rw [part_len]; decide)
          have fe := frozen_of_row _ _ 0 _ _ rr
          rw [part_get0 _ _ (by decide)] at ce
          have hor : bits BinOp.or .u8 ((vf 1 n 0).toNat : Int) 0 = ((BitVec.ofNat 8 ((vf 1 n 0).toNat + 0)).toNat : Int) := or_top _ 0 hx (by decide)
          have hst : Mod (fun _ => False) w (wr.setCell ⟨B, 0, none⟩ (.int .u8 ((BitVec.ofNat 8 ((vf 1 n 0).toNat + 0)).toNat : Int))) ∧ (wr.setCell ⟨B, 0, none⟩ (.int .u8 ((BitVec.ofNat 8 ((vf 1 n 0).toNat + 0)).toNat : Int))).ownsRow w.heap.size 5 1 (.slice (some ⟨B, 0, none⟩) 1 1) 1 (bytesV (vput n)) := by
            refine ⟨mr.trans' (Mod.one_setCell _ _ _ _) (fun j hj h => by omega), ?_⟩
            rw [setCell_row _ _ _ _ _ _ rr, encB_set, vput_set1 n hg.out hvh hvs]
            have h1 := own_of_row (B := w.heap.size) (t := 5) (bs := vput n) hs1 (setRow_heap _ _ _ _ _ _ rr) (by rw [vput_length, hvs]; decide)
            rwa [vput_length, hvs] at h1
          replace hst := Lib.hid hst
          replace hor := Lib.hid hor
          clear hi hlt mr rr hx
          generalize (vf 1 n 0).toNat = x at *
          go_wp2
          go_ret2
          rw [hor.out]
          refine ⟨hst.out.1, ?_⟩
          rw [if_pos hg.out, hvs]
          exact ⟨_, rfl, hst.out.2⟩
    · by_cases g1 : n < 16384
      · obtain ⟨hvh, hvs⟩ : vhi n = 1 ∧ vsz n = 2 := by
          have : vhi n = 1 := by unfold vhi; rw [if_neg g0, if_pos g1]
          exact ⟨this, by unfold vsz; rw [this]⟩
        have hz0 : (((n : Int) / 64) != 0) = true := by rw [bne_iff_ne]; omega
        have hz1 : (((n : Int) / 16384) != 0) = false := by rw [bne_eq_false_iff_eq]; omega
        have hmk : ∀ w, (Instr.makeSlice 27 (.int .i64 2) (.int .i64 2)).run Tryd.prog w = .ok (.slice (some ⟨w.heap.size, 0, none⟩) 2 2) (w.alloc (.cells (encB (part (vf 2 n) 2 0)) 5)) := fun w => by
          rw [part_zero]
          kernel_rfl
        have h0 : (n : Int) ≤ 4611686018427387903 := by omega
        have hx : (vf 2 n 0).toNat < 64 := by unfold vf; rw [BitVec.toNat_ofNat]; omega
        replace hg := Lib.hid hg
        clear g0 g1
        go_enter Tryd.func56, Tryd.ntmps56
        go_wp2_with fail
        refine (sizes_any _).mono ?_
        rintro e w1 ⟨rfl, m1⟩
        go_wp2
        refine wp_loop_rounds 2 ?_
        rw [rounds_succ]
        go_wp2
        rw [rounds_succ]
        go_wp2
        refine wp_world fun w2 hw2 => ?_
        have m2 : Mod (fun _ => False) w w2 := by rw [hw2]; exact m1.alloc _
        have r2 : w2.heap[w1.heap.size]? = some (.cells (encB (part (vf 2 n) 2 0)) 5 (0,0)) := by rw [hw2]; exact hp_new _ _ _ rfl
        have hs1 := m1.size
        generalize w1.heap.size = B at *
        clear hw2 m1
        go_loopw [25] (fun kk wr => ∃ i : Nat, i ≤ 2 ∧ kk = .int .i64 i ∧ Mod (fun _ => False) w wr ∧ wr.heap[B]? = some (.cells (encB (part (vf 2 n) 2 i)) 5 (0,0))) (fun kk _ => 2 - (intOf kk).toNat)
        case atStart => exact ⟨0, by omega, rfl, m2, r2⟩
        case round =>
          clear m2 r2
          obtain ⟨i, hi, rfl, mr, rr⟩ := hrel
          by_cases hlt : i < 2
          · have hd : decide ((i : Int) < 2) = true := by rw [decide_eq_true_iff]; omega
            have bi0 : (0 : Int) ≤ (i : Int) := by omega
            have bi : (i : Int) < 2 := by omega
            have ce := encB_cell rr (i := i) (by rw [part_len]; exact hlt)
            have fe := frozen_of_row _ _ i _ _ rr
            have hst : Mod (fun _ => False) w (wr.setCell ⟨B, i, none⟩ (.int .u8 ((vf 2 n i).toNat : Int))) ∧ (wr.setCell ⟨B, i, none⟩ (.int .u8 ((vf 2 n i).toNat : Int))).heap[B]? = some (.cells (encB (part (vf 2 n) 2 (i + 1))) 5 (0,0)) := by
              refine ⟨mr.trans' (Mod.one_setCell _ _ _ _) (fun j hj h => by omega), ?_⟩
              rw [setCell_row _ _ _ _ _ _ rr, part_set, setRow_heap _ _ _ _ _ _ rr]
            have hval : (n : Int) / 2 ^ (8 * (1 - i)) % 256 = ((vf 2 n i).toNat : Int) := by
              rw [vf_val, show (8 * (1 - i)) = 8 * (2 - 1 - i) by omega]
            replace hst := Lib.hid hst
            replace hval := Lib.hid hval
            clear mr rr hvh hvs hlt
            go_wp2
            go_roundw
            case measure => simp [intOf]; omega
            case rel => exact ⟨i + 1, by omega, by go_num, by rw [hval.out]; exact hst.out.1, by rw [hval.out]; exact hst.out.2⟩
          · obtain rfl : i = 2 := by omega
            have ce := encB_cell rr (i := 0) (by rw [part_len]; decide)
            have fe := frozen_of_row _ _ 0 _ _ rr
            rw [part_get0 _ _ (by decide)] at ce
            have hor : bits BinOp.or .u8 ((vf 2 n 0).toNat : Int) 64 = ((BitVec.ofNat 8 ((vf 2 n 0).toNat + 64)).toNat : Int) := or_top _ 1 hx (by decide)
            have hst : Mod (fun _ => False) w (wr.setCell ⟨B, 0, none⟩ (.int .u8 ((BitVec.ofNat 8 ((vf 2 n 0).toNat + 64)).toNat : Int))) ∧ (wr.setCell ⟨B, 0, none⟩ (.int .u8 ((BitVec.ofNat 8 ((vf 2 n 0).toNat + 64)).toNat : Int))).ownsRow w.heap.size 5 1 (.slice (some ⟨B, 0, none⟩) 2 2) 2 (bytesV (vput n)) := by
              refine ⟨mr.trans' (Mod.one_setCell _ _ _ _) (fun j hj h => by omega), ?_⟩
              rw [setCell_row _ _ _ _ _ _ rr, encB_set, vput_set2 n hg.out hvh hvs]
              have h1 := own_of_row (B := w.heap.size) (t := 5) (bs := vput n) hs1 (setRow_heap _ _ _ _ _ _ rr) (by rw [vput_length, hvs]; decide)
              rwa [vput_length, hvs] at h1
            replace hst := Lib.hid hst
            replace hor := Lib.hid hor
            clear hi hlt mr rr hx
            generalize (vf 2 n 0).toNat = x at *
            go_wp2
            go_ret2
            rw [hor.out]
            refine ⟨hst.out.1, ?_⟩
            rw [if_pos hg.out, hvs]
            exact ⟨_, rfl, hst.out.2⟩
      · by_cases g2 : n < 1073741824
        · obtain ⟨hvh, hvs⟩ : vhi n = 2 ∧ vsz n = 4 := by
            have : vhi n = 2 := by unfold vhi; rw [if_neg g0, if_neg g1, if_pos g2]
            exact ⟨this, by unfold vsz; rw [this]⟩
          have hz0 : (((n : Int) / 64) != 0) = true := by rw [bne_iff_ne]; omega
          have hz1 : (((n : Int) / 16384) != 0) = true := by rw [bne_iff_ne]; omega
          have hz2 : (((n : Int) / 1073741824) != 0) = false := by rw [bne_eq_false_iff_eq]; omega
          have hmk : ∀ w, (Instr.makeSlice 27 (.int .i64 4) (.int .i64 4)).run Tryd.prog w = .ok (.slice (some ⟨w.heap.size, 0, none⟩) 4 4) (w.alloc (.cells (encB (part (vf 4 n) 4 0)) 5)) := fun w => by
            rw [part_zero]
            kernel_rfl
          have h0 : (n : Int) ≤ 4611686018427387903 := by omega
          have hx : (vf 4 n 0).toNat < 64 := by unfold vf; rw [BitVec.toNat_ofNat]; omega
          replace hg := Lib.hid hg
          clear g0 g1 g2
          go_enter Tryd.func56, Tryd.ntmps56
          go_wp2_with fail
          refine (sizes_any _).mono ?_
          rintro e w1 ⟨rfl, m1⟩
          go_wp2
          refine wp_loop_rounds 3 ?_
          rw [rounds_succ]
          go_wp2
          rw [rounds_succ]
          go_wp2
          rw [rounds_succ]
          go_wp2
          refine wp_world fun w2 hw2 => ?_
          have m2 : Mod (fun _ => False) w w2 := by rw [hw2]; exact m1.alloc _
          have r2 : w2.heap[w1.heap.size]? = some (.cells (encB (part (vf 4 n) 4 0)) 5 (0,0)) := by rw [hw2]; exact hp_new _ _ _ rfl
          have hs1 := m1.size
          generalize w1.heap.size = B at *
          clear hw2 m1
          go_loopw [25] (fun kk wr => ∃ i : Nat, i ≤ 4 ∧ kk = .int .i64 i ∧ Mod (fun _ => False) w wr ∧ wr.heap[B]? = some (.cells (encB (part (vf 4 n) 4 i)) 5 (0,0))) (fun kk _ => 4 - (intOf kk).toNat)
          case atStart => exact ⟨0, by omega, rfl, m2, r2⟩
          case round =>
            clear m2 r2
            obtain ⟨i, hi, rfl, mr, rr⟩ := hrel
            by_cases hlt : i < 4
            · have hd : decide ((i : Int) < 4) = true := by rw [decide_eq_true_iff]; omega
              have bi0 : (0 : Int) ≤ (i : Int) := by omega
              have bi : (i : Int) < 4 := by omega
              have ce := encB_cell rr (i := i) (by rw [part_len]; exact hlt)
              have fe := frozen_of_row _ _ i _ _ rr
              have hst : Mod (fun _ => False) w (wr.setCell ⟨B, i, none⟩ (.int .u8 ((vf 4 n i).toNat : Int))) ∧ (wr.setCell ⟨B, i, none⟩ (.int .u8 ((vf 4 n i).toNat : Int))).heap[B]? = some (.cells (encB (part (vf 4 n) 4 (i + 1))) 5 (0,0)) := by
                refine ⟨mr.trans' (Mod.one_setCell _ _ _ _) (fun j hj h => by omega), ?_⟩
                rw [setCell_row _ _ _ _ _ _ rr, part_set, setRow_heap _ _ _ _ _ _ rr]
              have hval : (n : Int) / 2 ^ (8 * (3 - i)) % 256 = ((vf 4 n i).toNat : Int) := by
                rw [vf_val, show (8 * (3 - i)) = 8 * (4 - 1 - i) by omega]
              replace hst := Lib.hid hst
              replace hval := Lib.hid hval
              clear mr rr hvh hvs hlt
              go_wp2
              go_roundw
              case measure => simp [intOf]; omega
              case rel => exact ⟨i + 1, by omega, by go_num, by rw [hval.out]; exact hst.out.1, by rw [hval.out]; exact hst.out.2⟩
            · obtain rfl : i = 4 := by omega
              have ce := encB_cell rr (i := 0) (by rw [part_len]; decide)
              have fe := frozen_of_row _ _ 0 _ _ rr
              rw [part_get0 _ _ (by decide)] at ce
              have hor : bits BinOp.or .u8 ((vf 4 n 0).toNat : Int) 128 = ((BitVec.ofNat 8 ((vf 4 n 0).toNat + 128)).toNat : Int) := or_top _ 2 hx (by decide)
              have hst : Mod (fun _ => False) w (wr.setCell ⟨B, 0, none⟩ (.int .u8 ((BitVec.ofNat 8 ((vf 4 n 0).toNat + 128)).toNat : Int))) ∧ (wr.setCell ⟨B, 0, none⟩ (.int .u8 ((BitVec.ofNat 8 ((vf 4 n 0).toNat + 128)).toNat : Int))).ownsRow w.heap.size 5 1 (.slice (some ⟨B, 0, none⟩) 4 4) 4 (bytesV (vput n)) := by
                refine ⟨mr.trans' (Mod.one_setCell _ _ _ _) (fun j hj h => by omega), ?_⟩
                rw [setCell_row _ _ _ _ _ _ rr, encB_set, vput_set4 n hg.out hvh hvs]
                have h1 := own_of_row (B := w.heap.size) (t := 5) (bs := vput n) hs1 (setRow_heap _ _ _ _ _ _ rr) (by rw [vput_length, hvs]; decide)
                rwa [vput_length, hvs] at h1
              replace hst := Lib.hid hst
              replace hor := Lib.hid hor
              clear hi hlt mr rr hx
              generalize (vf 4 n 0).toNat = x at *
              go_wp2
              go_ret2
              rw [hor.out]
              refine ⟨hst.out.1, ?_⟩
              rw [if_pos hg.out, hvs]
              exact ⟨_, rfl, hst.out.2⟩
        · obtain ⟨hvh, hvs⟩ : vhi n = 3 ∧ vsz n = 8 := by
            have : vhi n = 3 := by unfold vhi; rw [if_neg g0, if_neg g1, if_neg g2]
            exact ⟨this, by unfold vsz; rw [this]⟩
          have hz0 : (((n : Int) / 64) != 0) = true := by rw [bne_iff_ne]; omega
          have hz1 : (((n : Int) / 16384) != 0) = true := by rw [bne_iff_ne]; omega
          have hz2 : (((n : Int) / 1073741824) != 0) = true := by rw [bne_iff_ne]; omega
          have hz3 : (((n : Int) / 4611686018427387904) != 0) = false := by rw [bne_eq_false_iff_eq]; omega
          have hmk : ∀ w, (Instr.makeSlice 27 (.int .i64 8) (.int .i64 8)).run Tryd.prog w = .ok (.slice (some ⟨w.heap.size, 0, none⟩) 8 8) (w.alloc (.cells (encB (part (vf 8 n) 8 0)) 5)) := fun w => by
            rw [part_zero]
            kernel_rfl
          have h0 : (n : Int) ≤ 4611686018427387903 := by omega
          have hx : (vf 8 n 0).toNat < 64 := by unfold vf; rw [BitVec.toNat_ofNat]; omega
          replace hg := Lib.hid hg
          clear g0 g1 g2
          go_enter Tryd.func56, Tryd.ntmps56
          go_wp2_with fail
          refine (sizes_any _).mono ?_
          rintro e w1 ⟨rfl, m1⟩
          go_wp2
          refine wp_loop_rounds 4 ?_
          rw [rounds_succ]
          go_wp2
          rw [rounds_succ]
          go_wp2
          rw [rounds_succ]
          go_wp2
          rw [rounds_succ]
          go_wp2
          refine wp_world fun w2 hw2 => ?_
          have m2 : Mod (fun _ => False) w w2 := by rw [hw2]; exact m1.alloc _
          have r2 : w2.heap[w1.heap.size]? = some (.cells (encB (part (vf 8 n) 8 0)) 5 (0,0)) := by rw [hw2]; exact hp_new _ _ _ rfl
          have hs1 := m1.size
          generalize w1.heap.size = B at *
          clear hw2 m1
          go_loopw [25] (fun kk wr => ∃ i : Nat, i ≤ 8 ∧ kk = .int .i64 i ∧ Mod (fun _ => False) w wr ∧ wr.heap[B]? = some (.cells (encB (part (vf 8 n) 8 i)) 5 (0,0))) (fun kk _ => 8 - (intOf kk).toNat)
          case atStart => exact ⟨0, by omega, rfl, m2, r2⟩
          case round =>
            clear m2 r2
            obtain ⟨i, hi, rfl, mr, rr⟩ := hrel
            by_cases hlt : i < 8
            · have hd : decide ((i : Int) < 8) = true := by rw [decide_eq_true_iff]; omega
              have bi0 : (0 : Int) ≤ (i : Int) := by omega
              have bi : (i : Int) < 8 := by omega
              have ce := encB_cell rr (i := i) (by rw [part_len]; exact hlt)
              have fe := frozen_of_row _ _ i _ _ rr
              have hst : Mod (fun _ => False) w (wr.setCell ⟨B, i, none⟩ (.int .u8 ((vf 8 n i).toNat : Int))) ∧ (wr.setCell ⟨B, i, none⟩ (.int .u8 ((vf 8 n i).toNat : Int))).heap[B]? = some (.cells (encB (part (vf 8 n) 8 (i + 1))) 5 (0,0)) := by
                refine ⟨mr.trans' (Mod.one_setCell _ _ _ _) (fun j hj h => by omega), ?_⟩
                rw [setCell_row _ _ _ _ _ _ rr, part_set, setRow_heap _ _ _ _ _ _ rr]
              have hval : (n : Int) / 2 ^ (8 * (7 - i)) % 256 = ((vf 8 n i).toNat : Int) := by
                rw [vf_val, show (8 * (7 - i)) = 8 * (8 - 1 - i) by omega]
              replace hst := Lib.hid hst
              replace hval := Lib.hid hval
              clear mr rr hvh hvs hlt
              go_wp2
              go_roundw
              case measure => simp [intOf]; omega
              case rel => exact ⟨i + 1, by omega, by go_num, by rw [hval.out]; exact hst.out.1, by rw [hval.out]; exact hst.out.2⟩
            · obtain rfl : i = 8 := by omega
              have ce := encB_cell rr (i := 0) (by rw [part_len]; decide)
              have fe := frozen_of_row _ _ 0 _ _ rr
              rw [part_get0 _ _ (by decide)] at ce
              have hor : bits BinOp.or .u8 ((vf 8 n 0).toNat : Int) 192 = ((BitVec.ofNat 8 ((vf 8 n 0).toNat + 192)).toNat : Int) := or_top _ 3 hx (by decide)
              have hst : Mod (fun _ => False) w (wr.setCell ⟨B, 0, none⟩ (.int .u8 ((BitVec.ofNat 8 ((vf 8 n 0).toNat + 192)).toNat : Int))) ∧ (wr.setCell ⟨B, 0, none⟩ (.int .u8 ((BitVec.ofNat 8 ((vf 8 n 0).toNat + 192)).toNat : Int))).ownsRow w.heap.size 5 1 (.slice (some ⟨B, 0, none⟩) 8 8) 8 (bytesV (vput n)) := by
                refine ⟨mr.trans' (Mod.one_setCell _ _ _ _) (fun j hj h => by omega), ?_⟩
                rw [setCell_row _ _ _ _ _ _ rr, encB_set, vput_set8 n hg.out hvh hvs]
                have h1 := own_of_row (B := w.heap.size) (t := 5) (bs := vput n) hs1 (setRow_heap _ _ _ _ _ _ rr) (by rw [vput_length, hvs]; decide)
                rwa [vput_length, hvs] at h1
              replace hst := Lib.hid hst
              replace hor := Lib.hid hor
              clear hi hlt mr rr hx
              generalize (vf 8 n 0).toNat = x at *
              go_wp2
              go_ret2
              rw [hor.out]
              refine ⟨hst.out.1, ?_⟩
              rw [if_pos hg.out, hvs]
              exact ⟨_, rfl, hst.out.2⟩
  · have h0 : decide ((4611686018427387903 : Int) < (n : Int)) = true := by rw [decide_eq_true_iff]; omega
    go_enter Tryd.func56, Tryd.ntmps56
    go_wp2
    go_ret2
    refine ⟨Mod.refl _ _, ?_⟩
    rw [if_neg hg]
    rfl
end Go.Proofs.YtkfikoacohogaaaDoor
