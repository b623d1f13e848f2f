/-
  slices.Grow of nothing, slices.Concat of lists of bytes.
-/
import Derived.Lib.AppendZeros
import Derived.Test.YtbiijcljpgannaaGreatDoorY7
import Derived.Test.YtbiijcljpgannaaGreatDoorMA
namespace Go.Proofs.YtbiijcljpgannaaGreatDoor
set_option maxRecDepth 100000
open Go Go.RowKit Go.Lib
set_option linter.unusedSimpArgs false
set_option linter.unusedVariables false

theorem run_cutTo {ad : Option Addr} {n cap h : Nat} (h2 : h ≤ cap) (h3 : n ≤ cap) (w' : World) : (Instr.slice 22 (.slice ad n cap) none (some (.int .i64 (h : Int))) none).run Tryz.prog w' = .ok (sliced ad 0 h cap 1) w' := by
  rw [run_slice_h w' 22 ad n cap Tryz.underlying22 .i64 _ (by omega) (by omega), size_u8C]
  rfl
theorem run_cutFrom {ad : Option Addr} {n cap l : Nat} (h2 : l ≤ n) (h3 : n ≤ cap) (w' : World) : (Instr.slice 22 (.slice ad n cap) (some (.int .i64 (l : Int))) none none).run Tryz.prog w' = .ok (sliced ad l n cap 1) w' := by
  rw [run_slice_l w' 22 ad n cap Tryz.underlying22 .i64 _ (by omega) (by omega), size_u8C]
  rfl

set_option maxRecDepth 100000 in
theorem grow_any (n : Nat) (hn : n ≤ 100000000) (w : World) : Calls Tryz.prog 68 #[.slice none 0 0, .int .i64 (n : Int)] w fun e w' => Mod (fun _ => False) w w' ∧ ∃ v, e = .returned v ∧ w'.ownsRow w.heap.size 5 1 v 0 (bytesV []) := by
  have bn0 : (0 : Int) ≤ (n : Int) := by omega
  have bn : (n : Int) ≤ 100000000 := by omega
  have hd0 : decide ((n : Int) < 0) = false := by rw [decide_eq_false_iff_not]; omega
  go_enter Tryz.func68, Tryz.ntmps68
  by_cases h0 : n = 0
  · subst h0
    go_wp2
    go_ret
    exact ⟨Mod.refl _ _, _, rfl, rfl, .inl ⟨rfl, rfl⟩⟩
  · obtain ⟨i0, hi, hz0, hz1, hz2⟩ := info_parts infoU8
    have hrun := fun ty => run_append_nil_zeros (P := Tryz.prog) w 22 3 ty 5 i0 (.int .u8 0) .i64 .i64 Tryz.underlying22 Tryz.underlying3 hi hz0 n (by omega) (by rw [hz1]; decide) (by omega) (by rw [hz2]; omega)
    have hge := grownCap_ge w n 0 5
    have hle := grownCap_le_maxLen w n 0 5 (by unfold maxLen; omega)
    obtain ⟨C, hC⟩ : ∃ C, C = grownCap w n 0 5 := ⟨_, rfl⟩
    rw [← hC] at hge hle
    rw [← hC] at hrun
    obtain ⟨cs, hcs⟩ : ∃ cs, cs = Builtin.zeroCells (Value.int .u8 0).cells n ++ Builtin.zeroCells (Value.int .u8 0).cells (C - n) := ⟨_, rfl⟩
    have hcsz : cs.size = C := by rw [hcs]; simp [Builtin.zeroCells, Value.cells]; omega
    rw [← hcs] at hrun
    obtain ⟨w1, hw1⟩ : ∃ w1, w1 = w.drew.alloc (.cells cs 5) := ⟨_, rfl⟩
    have m1 : Mod (fun _ => False) w w1 := by rw [hw1]; exact (Mod.refl _ _).drew.alloc _
    have r1 : w1.heap[w.heap.size]? = some (.cells cs 5 (0,0)) := by rw [hw1]; exact hp_new _ _ _ rfl
    rw [← hw1] at hrun
    have own : w1.ownsRow w.heap.size 5 1 (.slice (some ⟨w.heap.size, 0, none⟩) 0 C) 0 (bytesV []) := ⟨rfl, .inr ⟨w.heap.size, C, cs, rfl, Nat.le_refl _, r1, Nat.zero_le _, hle, by rw [hcsz]; omega, by simp [bytesV]⟩⟩
    have hsl0 : sliced none 0 0 0 1 = .slice none 0 0 := rfl
    have hsl1 : sliced (some ⟨w.heap.size, 0, none⟩) 0 0 C 1 = .slice (some ⟨w.heap.size, 0, none⟩) 0 C := by
      unfold Go.sliced
      split
      · rename_i h
        rw [h]
      · rfl
    have hcut := fun w' => run_cutTo (ad := some ⟨w.heap.size, 0, none⟩) (n := n) (cap := C) (h := 0) (by omega) hge w'
    rw [hsl1] at hcut
    have hcut0 := fun w' => run_cutTo (ad := none) (n := 0) (cap := 0) (h := 0) (by omega) (by omega) w'
    rw [hsl0] at hcut0
    have hcut' : ∀ w', (Instr.slice 22 (.slice (some ⟨w.heap.size, 0, none⟩) n C) none (some (.int .i64 0)) none).run Tryz.prog w' = .ok (.slice (some ⟨w.heap.size, 0, none⟩) 0 C) w' := hcut
    have hcut0' : ∀ w', (Instr.slice 22 (.slice none 0 0) none (some (.int .i64 0)) none).run Tryz.prog w' = .ok (.slice none 0 0) w' := hcut0
    have hd1 : decide ((0 : Int) < (n : Int)) = true := by rw [decide_eq_true_iff]; omega
    replace hcs := Lib.hid hcs
    replace hC := Lib.hid hC
    replace hw1 := Lib.hid hw1
    replace own := Lib.hid own
    replace m1 := Lib.hid m1
    clear hcut hcut0 r1 hsl0 hsl1 hcsz hge hle
    go_wp2_with (first | fail | (at_builtin; refine Lib.wpList_append_run _ rfl _ _ _ _ rfl _ _ rfl rfl _ _ (hrun _) ?_))
    go_ret
    exact ⟨m1.out, _, rfl, own.out⟩

/-- A list of lists of bytes in memory. -/
def ListAt (w : World) (v : Value) (bss : List (List (BitVec 8))) : Prop := ∃ B off cap, v = .slice (some ⟨B, off, none⟩) bss.length cap ∧ ∀ j, j < bss.length → ∃ x, w.cell? ⟨B, off + j, none⟩ = some x ∧ ByteAt w x (bss.getD j [])
theorem take_flat (bss : List (List (BitVec 8))) (j : Nat) (hj : j < bss.length) : (bss.take (j + 1)).flatten = (bss.take j).flatten ++ bss.getD j [] := by
  rw [List.take_add_one, List.getElem?_eq_getElem hj, List.flatten_append, List.getD_eq_getElem?_getD, List.getElem?_eq_getElem hj]
  simp
theorem flat_le (bss : List (List (BitVec 8))) (j : Nat) : (bss.take j).flatten.length ≤ bss.flatten.length := by
  conv => rhs; rw [← List.take_append_drop j bss]
  rw [List.flatten_append, List.length_append]
  omega

set_option maxRecDepth 100000 in
set_option maxHeartbeats 2000000 in
theorem concat_any (v : Value) (bss : List (List (BitVec 8))) (w : World) (hv : ListAt w v bss) (hk : bss.length ≤ 100) (hl : bss.flatten.length ≤ 100000000) :
    Calls Tryz.prog 19 #[v] w fun e w' => Mod (fun _ => False) w w' ∧ ∃ v, e = .returned v ∧ w'.ownsRow w.heap.size 5 1 v bss.flatten.length (bytesV bss.flatten) := by
  obtain ⟨B, off, cap, rfl, hcell⟩ := hv
  obtain ⟨k, hkk⟩ : ∃ k, k = bss.length := ⟨_, rfl⟩
  rw [← hkk] at hcell hk ⊢
  have bk : (k : Int) ≤ 100 := by omega
  have bk0 : (0 : Int) ≤ (k : Int) := by omega
  replace hcell := Lib.hid hcell
  replace hkk := Lib.hid hkk
  replace hl := Lib.hid hl
  replace hk := Lib.hid hk
  go_enter Tryz.func19, Tryz.ntmps19
  go_wp2
  go_loopw [3, 11] (fun sv iv wr => ∃ j : Nat, j ≤ k ∧ sv = .int .i64 (((bss.take j).flatten.length : Nat) : Int) ∧ iv = .int .i64 (j : Int) ∧ wr = w) (fun _ iv _ => k - (intOf iv).toNat)
  case atStart => exact ⟨0, by omega, rfl, rfl, rfl⟩
  case round =>
    obtain ⟨j, hj, rfl, rfl, rfl⟩ := hrel
    have bj0 : (0 : Int) ≤ (j : Int) := by omega
    have bj : (j : Int) ≤ (k : Int) := by omega
    have hfl := flat_le bss j
    obtain ⟨s, hs⟩ : ∃ s, s = (bss.take j).flatten.length := ⟨_, rfl⟩
    rw [← hs] at hfl ⊢
    have bs : (s : Int) ≤ 100000000 := by have := hl.out; omega
    have bs0 : (0 : Int) ≤ (s : Int) := by omega
    by_cases hlt : j < k
    · have hd : decide ((j : Int) < (k : Int)) = true := by rw [decide_eq_true_iff]; omega
      obtain ⟨x, hc, hb⟩ := hcell.out j hlt
      obtain ⟨ad, cap', rfl, _⟩ := hb.slice
      obtain ⟨m, hm⟩ : ∃ m, m = (bss.getD j []).length := ⟨_, rfl⟩
      rw [← hm] at hc
      have hnx : (bss.take (j + 1)).flatten.length = s + m := by rw [take_flat bss j (by rw [← hkk.out]; exact hlt), List.length_append, ← hs, ← hm]
      have hfl2 := flat_le bss (j + 1)
      rw [hnx] at hfl2
      have bm : (m : Int) ≤ 100000000 := by have := hl.out; omega
      have bm0 : (0 : Int) ≤ (m : Int) := by omega
      have hds : decide ((s : Int) + (m : Int) < 0) = false := by rw [decide_eq_false_iff_not]; omega
      replace hnx := Lib.hid hnx
      replace hlt := Lib.hid hlt
      replace hs := Lib.hid hs
      replace hm := Lib.hid hm
      clear hb hfl hfl2 hj
      go_wp2
      go_roundw
      case measure => have := hlt.out; simp [intOf]; omega
      case rel => exact ⟨j + 1, by have := hlt.out; omega, by rw [hnx.out]; rfl, by go_num, trivial⟩
    · have hjk : j = k := by omega
      have hd : decide (j < k) = false := by rw [decide_eq_false_iff_not]; omega
      have hsn : s = bss.flatten.length := by rw [hs, hjk, List.take_of_length_le (by rw [← hkk.out]; exact Nat.le_refl _)]
      replace hjk := Lib.hid hjk
      replace hs := Lib.hid hs
      replace hsn := Lib.hid hsn
      clear hlt hfl hj
      go_wp2_with fail
      refine (grow_any s (by omega) wr).mono ?_
      rintro e w1 ⟨m1, v1, rfl, own1⟩
      obtain ⟨ad1, cap1, hv1, _⟩ := (byteAt_of_own own1).slice
      replace hv1 : v1 = .slice ad1 0 cap1 := hv1
      subst hv1
      replace m1 := Lib.hid m1
      replace own1 := Lib.hid own1
      obtain ⟨w0, hw0⟩ : ∃ w0, w0 = wr := ⟨_, rfl⟩
      rw [← hw0] at m1 own1 hcell
      replace hw0 := Lib.hid hw0
      go_wp2
      go_loopw [6, 27] (fun ov iv wq => ∃ j : Nat, j ≤ k ∧ iv = .int .i64 (j : Int) ∧ Mod (fun _ => False) w0 wq ∧ wq.ownsRow w0.heap.size 5 1 ov (bss.take j).flatten.length (bytesV (bss.take j).flatten)) (fun _ iv _ => k - (intOf iv).toNat)
      case atStart => exact ⟨0, by omega, rfl, m1.out, own1.out⟩
      case round =>
        obtain ⟨i, hi, rfl, mr, ownr⟩ := hrel
        have bi0 : (0 : Int) ≤ (i : Int) := by omega
        have bi : (i : Int) ≤ (k : Int) := by omega
        obtain ⟨ad2, cap2, hv2, _⟩ := (byteAt_of_own ownr).slice
        subst hv2
        by_cases hlt : i < k
        · have hd : decide (i < k) = true := by rw [decide_eq_true_iff]; exact hlt
          obtain ⟨x, hc, hb⟩ := hcell.out i hlt
          obtain ⟨ad', cap', rfl, _⟩ := hb.slice
          have hcr := cell_mod mr hc (fun h => h)
          have hbr := hb.mod mr (fun _ _ h => h)
          have htk := take_flat bss i (by rw [← hkk.out]; exact hlt)
          have hfl := flat_le bss (i + 1)
          have hsz := mr.size
          obtain ⟨Y, hY⟩ : ∃ Y, Y = (bss.take i).flatten := ⟨_, rfl⟩
          obtain ⟨Z, hZ⟩ : ∃ Z, Z = bss.getD i [] := ⟨_, rfl⟩
          rw [← hY] at ownr htk ⊢
          rw [← hZ] at hcr hbr htk
          rw [htk, List.length_append] at hfl
          have hfit : Y.length + Z.length ≤ 140737488355328 := by have := hl.out; omega
          obtain ⟨y, hy⟩ : ∃ y, y = Y.length := ⟨_, rfl⟩
          obtain ⟨z, hz⟩ : ∃ z, z = Z.length := ⟨_, rfl⟩
          rw [← hy] at ownr hfit ⊢
          rw [← hz] at hcr hbr
          replace hbr := Lib.hid hbr
          replace ownr := Lib.hid ownr
          replace htk := Lib.hid htk
          replace hlt := Lib.hid hlt
          replace mr := Lib.hid mr
          replace hY := Lib.hid hY
          replace hZ := Lib.hid hZ
          replace hy := Lib.hid hy
          replace hz := Lib.hid hz
          replace hfit := Lib.hid hfit
          replace hsz := Lib.hid hsz
          clear hc hb hfl hi
          go_wp2_with (first | fail | (at_builtin; refine wpList_append_bytes rfl _ _ rfl w0.heap.size y _ _ Y Z rfl rfl ownr.out hbr.out (hfit.out) hsz.out ?_))
          intro v8 w8 own8 grow8
          have m8 := own_grown (base' := 0) ownr.out grow8
          have m08 : Mod (fun _ => False) w0 w8 := mr.out.trans' m8 (fun i hi h => by omega)
          replace own8 := Lib.hid own8
          replace m08 := Lib.hid m08
          clear grow8 m8
          go_wp2
          go_roundw
          case measure => have := hlt.out; simp [intOf]; omega
          case rel => exact ⟨i + 1, by have := hlt.out; omega, by go_num, m08.out, by have h := own8.out; rw [hy.out, ← List.length_append, ← htk.out] at h; exact h⟩
        · have hik : i = k := by omega
          have hd : decide (i < k) = false := by rw [decide_eq_false_iff_not]; exact hlt
          have hall : (bss.take i).flatten = bss.flatten := by rw [hik, List.take_of_length_le (by rw [← hkk.out]; exact Nat.le_refl _)]
          replace hall := Lib.hid hall
          have hfin := mr
          rw [hw0.out] at hfin
          replace ownr := Lib.hid ownr
          replace hik := Lib.hid hik
          replace hfin := Lib.hid hfin
          clear mr hlt hi
          go_wp2
          go_ret
          exact ⟨hfin.out, _, rfl, by have h := ownr.out; rw [hw0.out] at h; rw [← hall.out]; exact h⟩
end Go.Proofs.YtbiijcljpgannaaGreatDoor
