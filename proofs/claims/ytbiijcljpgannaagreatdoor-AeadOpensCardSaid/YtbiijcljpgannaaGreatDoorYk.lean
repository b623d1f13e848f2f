/-
  mailcoachlaw06.great. Printed by gen/pa5.py.
-/
import Derived.Test.YtbiijcljpgannaaGreatDoorYj
namespace Go.Proofs.YtbiijcljpgannaaGreatDoor
set_option maxRecDepth 100000
open Go Go.RowKit Go.Lib
set_option linter.unusedSimpArgs false
set_option linter.unusedVariables false


def withC (vk vn vb : Value) : Array Value := #[vk, vn, vb]
def WithAt (w : World) (g : Nat) (vk vn vb : Value) : Prop := w.heap[g]? = some (.cells #[vk, vn, vb] 24 (0,0))
theorem ld_slC1 {w : World} {g off n cap : Nat} {ad : Option Addr} (h : w.cell? ⟨g, off, none⟩ = some (.slice ad n cap)) : (loadVar 22 ⟨g, off, none⟩).run Tryz.prog w = .ok (.slice ad n cap) w := by go_simp
set_option maxRecDepth 100000 in
set_option maxHeartbeats 4000000 in
theorem great_any (ak an ab ap : Option Addr) (K N B P ck cn cb cp : Nat) (hK : K ≤ 140737488351232) (hN : N ≤ 140737488351232) (hB : B ≤ 140737488351232) (hP : P ≤ 140737488351232) (w : World) :
    Calls Tryz.prog 5 #[.agg #[.slice ak K ck, .slice an N cn, .slice ab B cb], .slice ap P cp] w fun e w' => Mod (fun _ => False) w w' ∧ ∃ d, e = .returned (.bool d) := by
  have bK0 : (0 : Int) ≤ (K : Int) := by omega
  have bN0 : (0 : Int) ≤ (N : Int) := by omega
  have bB0 : (0 : Int) ≤ (B : Int) := by omega
  have bP0 : (0 : Int) ≤ (P : Int) := by omega
  obtain ⟨S, hS⟩ : ∃ S : Nat, S = B + P := ⟨_, rfl⟩
  obtain ⟨T, hT⟩ : ∃ T : Nat, T = K + N := ⟨_, rfl⟩
  have hSi : (B : Int) + (P : Int) = (S : Int) := by omega
  have hTi : (K : Int) + (N : Int) = (T : Int) := by omega
  have wS : IntKind.i64.wrap (S : Int) = (S : Int) := by rw [IntKind.wrap_i64]; omega
  have wT : IntKind.i64.wrap (T : Int) = (T : Int) := by rw [IntKind.wrap_i64]; omega
  obtain ⟨w1, hw1⟩ : ∃ x, x = w.alloc (.cells #[.slice ak K ck, .slice an N cn, .slice ab B cb] 24) := ⟨_, rfl⟩
  obtain ⟨g1, hg1⟩ : ∃ x, x = w.heap.size := ⟨_, rfl⟩
  have m1 : Mod (fun _ => False) w w1 := by rw [hw1]; exact (Mod.refl _ _).alloc _
  have x1 : w1.heap[g1]? = some (.cells #[.slice ak K ck, .slice an N cn, .slice ab B cb] 24 (0,0)) := by rw [hw1]; exact hp_new _ _ _ hg1
  have l0 := ld_slC (show w1.cell? ⟨g1, 0, none⟩ = _ from cell_of_row _ _ _ _ _ _ x1)
  have l1 := ld_slC1 (show w1.cell? ⟨g1, 1, none⟩ = _ from cell_of_row _ _ _ _ _ _ x1)
  have l2 := ld_slC1 (show w1.cell? ⟨g1, 2, none⟩ = _ from cell_of_row _ _ _ _ _ _ x1)
  have cc0 : w1.cell? ⟨g1, 0, none⟩ = some (.slice ak K ck) := cell_of_row _ _ _ _ _ _ x1
  have cc1 : w1.cell? ⟨g1, 1, none⟩ = some (.slice an N cn) := cell_of_row _ _ _ _ _ _ x1
  have cc2 : w1.cell? ⟨g1, 2, none⟩ = some (.slice ab B cb) := cell_of_row _ _ _ _ _ _ x1
  clear x1 hS hT
  replace hw1 := Lib.hid hw1
  replace hg1 := Lib.hid hg1
  replace m1 := Lib.hid m1
  go_enter Tryz.func5, Tryz.ntmps5
  go_upto_region 0 with (fail)
  refine wp_region_lit ?_
  refine wpList_yields (by kernel_rfl) (.pointer (some ⟨g1, 0, none⟩)) w1 (by rw [hw1.out, hg1.out]; simp [execOp, Instr.box, Sem.run_bind, newVar, newRow, Value.cells]; rfl) ?_
  simp only [Act.put, List.setIfInBounds_toArray, List.set_cons_zero, List.set_cons_succ]
  refine wpList_reads (by kernel_rfl) (.bool false) (by go_simp) ?_
  simp only [Act.put, List.setIfInBounds_toArray, List.set_cons_zero, List.set_cons_succ]
  go_upto_region 1 with (fail)
  refine wp_region_lit ?_
  refine wpList_reads (by kernel_rfl) (.pointer (some ⟨g1, 2, none⟩)) (by go_simp) ?_
  simp only [Act.put, List.setIfInBounds_toArray, List.set_cons_zero, List.set_cons_succ]
  refine wpList_reads (by kernel_rfl) (.slice ab B cb) (run_load_op rfl rfl l2) ?_
  simp only [Act.put, List.setIfInBounds_toArray, List.set_cons_zero, List.set_cons_succ]
  refine wpList_reads (by kernel_rfl) (.int .i64 (B : Int)) (by go_simp) ?_
  simp only [Act.put, List.setIfInBounds_toArray, List.set_cons_zero, List.set_cons_succ]
  refine wpList_reads (by kernel_rfl) (.slice ap P cp) (by go_simp) ?_
  simp only [Act.put, List.setIfInBounds_toArray, List.set_cons_zero, List.set_cons_succ]
  refine wpList_reads (by kernel_rfl) (.int .i64 (P : Int)) (by go_simp) ?_
  simp only [Act.put, List.setIfInBounds_toArray, List.set_cons_zero, List.set_cons_succ]
  refine wpList_reads (by kernel_rfl) (.int .i64 (S : Int)) (by go_simp) ?_
  simp only [Act.put, List.setIfInBounds_toArray, List.set_cons_zero, List.set_cons_succ]
  refine wpList_reads (by kernel_rfl) (.int .i64 (S : Int)) (by go_simp) ?_
  simp only [Act.put, List.setIfInBounds_toArray, List.set_cons_zero, List.set_cons_succ]
  by_cases c1 : (50000 : Int) < (S : Int)
  · have h1 : decide ((50000 : Int) < (S : Int)) = true := by rw [decide_eq_true_iff]; exact c1
    clear c1
    by_cases c2 : (B : Int) ≤ (1048576 : Int)
    · have h2 : decide ((B : Int) ≤ (1048576 : Int)) = true := by rw [decide_eq_true_iff]; exact c2
      clear c2
      by_cases c3 : (P : Int) ≤ (1048592 : Int)
      · have h3 : decide ((P : Int) ≤ (1048592 : Int)) = true := by rw [decide_eq_true_iff]; exact c3
        clear c3
        go_wp2
        go_ret
        exact ⟨m1.out, _, rfl⟩
      · have h3 : decide ((P : Int) ≤ (1048592 : Int)) = false := by rw [decide_eq_false_iff_not]; exact c3
        clear c3
        by_cases c4 : (4194304 : Int) < (S : Int)
        · have h4 : decide ((4194304 : Int) < (S : Int)) = true := by rw [decide_eq_true_iff]; exact c4
          clear c4
          go_wp2
          go_ret
          exact ⟨m1.out, _, rfl⟩
        · have h4 : decide ((4194304 : Int) < (S : Int)) = false := by rw [decide_eq_false_iff_not]; exact c4
          clear c4
          by_cases c5 : (100000 : Int) < (T : Int)
          · have h5 : decide ((100000 : Int) < (T : Int)) = true := by rw [decide_eq_true_iff]; exact c5
            clear c5
            go_wp2
            go_ret
            exact ⟨m1.out, _, rfl⟩
          · have h5 : decide ((100000 : Int) < (T : Int)) = false := by rw [decide_eq_false_iff_not]; exact c5
            clear c5
            go_wp2
            go_ret
            exact ⟨m1.out, _, rfl⟩
    · have h2 : decide ((B : Int) ≤ (1048576 : Int)) = false := by rw [decide_eq_false_iff_not]; exact c2
      clear c2
      by_cases c4 : (4194304 : Int) < (S : Int)
      · have h4 : decide ((4194304 : Int) < (S : Int)) = true := by rw [decide_eq_true_iff]; exact c4
        clear c4
        go_wp2
        go_ret
        exact ⟨m1.out, _, rfl⟩
      · have h4 : decide ((4194304 : Int) < (S : Int)) = false := by rw [decide_eq_false_iff_not]; exact c4
        clear c4
        by_cases c5 : (100000 : Int) < (T : Int)
        · have h5 : decide ((100000 : Int) < (T : Int)) = true := by rw [decide_eq_true_iff]; exact c5
          clear c5
          go_wp2
          go_ret
          exact ⟨m1.out, _, rfl⟩
        · have h5 : decide ((100000 : Int) < (T : Int)) = false := by rw [decide_eq_false_iff_not]; exact c5
          clear c5
          go_wp2
          go_ret
          exact ⟨m1.out, _, rfl⟩
  · have h1 : decide ((50000 : Int) < (S : Int)) = false := by rw [decide_eq_false_iff_not]; exact c1
    clear c1
    by_cases c4 : (4194304 : Int) < (S : Int)
    · have h4 : decide ((4194304 : Int) < (S : Int)) = true := by rw [decide_eq_true_iff]; exact c4
      clear c4
      go_wp2
      go_ret
      exact ⟨m1.out, _, rfl⟩
    · have h4 : decide ((4194304 : Int) < (S : Int)) = false := by rw [decide_eq_false_iff_not]; exact c4
      clear c4
      by_cases c5 : (100000 : Int) < (T : Int)
      · have h5 : decide ((100000 : Int) < (T : Int)) = true := by rw [decide_eq_true_iff]; exact c5
        clear c5
        go_wp2
        go_ret
        exact ⟨m1.out, _, rfl⟩
      · have h5 : decide ((100000 : Int) < (T : Int)) = false := by rw [decide_eq_false_iff_not]; exact c5
        clear c5
        go_wp2
        go_ret
        exact ⟨m1.out, _, rfl⟩
end Go.Proofs.YtbiijcljpgannaaGreatDoor
