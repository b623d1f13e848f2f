/-
  mailcoachlaw03.great of two.
-/
import Derived.Test.YthhbomiknikjpaaGreatDoorSt
namespace Go.Proofs.YthhbomiknikjpaaGreatDoor
set_option maxRecDepth 100000
open Go Go.RowKit Go.Lib
set_option linter.unusedSimpArgs false
set_option linter.unusedVariables false

theorem two_cells {w : World} {g : Nat} {a b : Value} {t : TypeId} {fr : Nat × Nat} (h : w.heap[g]? = some (.cells #[a, b] t fr)) : w.cell? ⟨g, 0, none⟩ = some a ∧ w.cell? ⟨g, 1, none⟩ = some b := by
  unfold World.cell?
  simp only [h]
  exact ⟨rfl, rfl⟩
set_option maxRecDepth 100000 in
set_option maxHeartbeats 4000000 in
theorem great_any2 (g : Nat) (a1 a2 : Option Addr) (m n c1 c2 : Nat) (t : TypeId) (w : World) (hx : w.heap[g]? = some (.cells #[.slice a1 m c1, .slice a2 n c2] t (0,0))) (hm : m < 4611686018427387904) (hn : n < 4611686018427387904) :
    Calls Tryz.prog 5 #[.slice (some ⟨g, 0, none⟩) 2 2] w fun e w' => Mod (fun _ => False) w w' ∧ e = .returned (.bool (decide (3145728 < m + n))) := by
  obtain ⟨h0, h1⟩ := two_cells hx
  have bm0 : (0 : Int) ≤ (m : Int) := by omega
  have bn0 : (0 : Int) ≤ (n : Int) := by omega
  obtain ⟨s, hs⟩ : ∃ s, s = m + n := ⟨_, rfl⟩
  have hs1 : (m : Int) + (n : Int) = (s : Int) := by omega
  have bs : (s : Int) ≤ 9223372036854775807 := by omega
  have bs0 : (0 : Int) ≤ (s : Int) := by omega
  have hws : IntKind.i64.wrap (s : Int) = (s : Int) := by rw [IntKind.wrap_i64]; omega
  rw [← hs]
  replace hs := Lib.hid hs
  replace hx := Lib.hid hx
  go_enter Tryz.func5, Tryz.ntmps5
  go_wp2
  go_loopg [3, 4] 2 (fun gh sv iv wr => Mod (fun _ => False) w wr ∧ ((gh = 2 ∧ sv = .int .i64 0 ∧ iv = .int .i64 0) ∨ (gh = 1 ∧ sv = .int .i64 (m : Int) ∧ iv = .int .i64 1) ∨ (gh = 0 ∧ sv = .int .i64 (s : Int) ∧ iv = .int .i64 2 ∧ s ≤ 3145728)))
  case atStart => exact ⟨Mod.refl _ _, .inl ⟨rfl, rfl, rfl⟩⟩
  case round =>
    obtain ⟨mr, h⟩ := hrel
    have c0 := cell_mod mr h0 (fun h => h)
    have c1' := cell_mod mr h1 (fun h => h)
    replace mr := Lib.hid mr
    rcases h with ⟨hg, rfl, rfl⟩ | ⟨hg, rfl, rfl⟩ | ⟨hg, rfl, rfl, hle⟩
    · by_cases hbig : 3145728 < m
      · have hd : decide ((3145728 : Int) < (m : Int)) = true := by rw [decide_eq_true_iff]; omega
        have hf : decide (3145728 < s) = true := by rw [decide_eq_true_iff]; have := hs.out; omega
        replace hg := Lib.hid hg
        replace hbig := Lib.hid hbig
        go_wp2
        go_ret
        exact ⟨mr.out, by rw [hf]; rfl⟩
      · have hd : decide ((3145728 : Int) < (m : Int)) = false := by rw [decide_eq_false_iff_not]; omega
        replace hg := Lib.hid hg
        replace hbig := Lib.hid hbig
        go_wp2
        go_roundg (gk - 1)
        case measure => have := hg.out; omega
        case rel => exact ⟨mr.out, .inr (.inl ⟨by have := hg.out; omega, rfl, rfl⟩)⟩
    · by_cases hbig : 3145728 < s
      · have hd : decide ((3145728 : Int) < (s : Int)) = true := by rw [decide_eq_true_iff]; omega
        have hf : decide (3145728 < s) = true := by rw [decide_eq_true_iff]; exact hbig
        replace hg := Lib.hid hg
        replace hbig := Lib.hid hbig
        replace hf := Lib.hid hf
        go_wp2
        go_ret
        exact ⟨mr.out, by rw [hf.out]; rfl⟩
      · have hd : decide ((3145728 : Int) < (s : Int)) = false := by rw [decide_eq_false_iff_not]; omega
        have hle : s ≤ 3145728 := by omega
        replace hg := Lib.hid hg
        replace hbig := Lib.hid hbig
        replace hle := Lib.hid hle
        go_wp2
        go_roundg (gk - 1)
        case measure => have := hg.out; omega
        case rel => exact ⟨mr.out, .inr (.inr ⟨by have := hg.out; omega, rfl, rfl, hle.out⟩)⟩
    · have hf : decide (3145728 < s) = false := by rw [decide_eq_false_iff_not]; omega
      replace hg := Lib.hid hg
      replace hle := Lib.hid hle
      replace hf := Lib.hid hf
      go_wp2
      go_ret
      exact ⟨mr.out, by rw [hf.out]; rfl⟩

end Go.Proofs.YthhbomiknikjpaaGreatDoor
