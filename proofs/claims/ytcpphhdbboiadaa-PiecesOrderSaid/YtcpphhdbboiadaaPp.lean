/-
  pieces: New, gone, Read, Held, Put.
-/
import Derived.WalkSpells
import Derived.Test.YtcpphhdbboiadaaPm
namespace Go.Proofs.Ytcpphhdbboiadaa
open Go Go.RowKit
set_option linter.unusedSimpArgs false
set_option linter.unusedVariables false

structure PS where
  room : Nat
  read : Nat
  come : Nat
  fin : Nat
  known : Bool
  f : Held
def PS.cells (s : PS) (M : Nat) : Array Value := #[.map (some M), .int .u64 (s.room : Int), .int .u64 (s.read : Int), .int .u64 (s.come : Int), .int .u64 (s.fin : Int), .bool s.known]
structure IsP (w : World) (p M : Nat) (s : PS) (c : Nat) : Prop where
  row : w.heap[p]? = some (.cells (s.cells M) 50 (0,0))
  map : MapAt w M s.f c
  ne : p ≠ M
theorem IsP.mod {S : Nat → Prop} {w w' : World} {p M c : Nat} {s : PS} (h : IsP w p M s c) (m : Mod S w w') (hp : ¬ S p) (hM : ¬ S M) : IsP w' p M s c :=
  ⟨m.heap h.row hp, h.map.mod m hM, h.ne⟩
theorem IsP.lt {w : World} {p M c : Nat} {s : PS} (h : IsP w p M s c) : p < w.heap.size ∧ M < w.heap.size := ⟨lt_of_heap h.row, h.map.lt⟩
theorem IsP.c0 {w : World} {p M c : Nat} {s : PS} (h : IsP w p M s c) : w.cell? ⟨p, 0, none⟩ = some (.map (some M)) := by rw [cell_of_row _ _ _ _ _ _ h.row]; rfl
theorem IsP.c1 {w : World} {p M c : Nat} {s : PS} (h : IsP w p M s c) : w.cell? ⟨p, 1, none⟩ = some (.int .u64 (s.room : Int)) := by rw [cell_of_row _ _ _ _ _ _ h.row]; rfl
theorem IsP.c2 {w : World} {p M c : Nat} {s : PS} (h : IsP w p M s c) : w.cell? ⟨p, 2, none⟩ = some (.int .u64 (s.read : Int)) := by rw [cell_of_row _ _ _ _ _ _ h.row]; rfl
theorem IsP.c3 {w : World} {p M c : Nat} {s : PS} (h : IsP w p M s c) : w.cell? ⟨p, 3, none⟩ = some (.int .u64 (s.come : Int)) := by rw [cell_of_row _ _ _ _ _ _ h.row]; rfl
theorem IsP.c4 {w : World} {p M c : Nat} {s : PS} (h : IsP w p M s c) : w.cell? ⟨p, 4, none⟩ = some (.int .u64 (s.fin : Int)) := by rw [cell_of_row _ _ _ _ _ _ h.row]; rfl
theorem IsP.c5 {w : World} {p M c : Nat} {s : PS} (h : IsP w p M s c) : w.cell? ⟨p, 5, none⟩ = some (.bool s.known) := by rw [cell_of_row _ _ _ _ _ _ h.row]; rfl

theorem gone_no (p M : Nat) (w : World) (h : w.cell? ⟨p, 0, none⟩ = some (.map (some M))) :
    Calls Try.prog 15 #[.pointer (some ⟨p, 0, none⟩)] w fun e w' => e = .returned (.bool false) ∧ w' = w := by
  have hq : ∀ (w : World), (binOp .eql 48 (.map (some M)) (.map none)).run Try.prog w = .ok (.bool false) w := fun w => run_eql_map_nil w _ _ _ _ Try.underlying48
  go_enter Try.func15, Try.ntmps15
  go_wp2
  go_ret
  exact ⟨rfl, rfl⟩

theorem new_ok (room : Nat) (hr : room ≤ 1048576) (w : World) :
    Calls Try.prog 8 #[.int .i64 (room : Int)] w fun e w' => Mod (fun _ => False) w w' ∧ ∃ p M, w.heap.size ≤ p ∧ w.heap.size ≤ M ∧ e = .returned (.tuple #[.pointer (some ⟨p, 0, none⟩), .int .i64 0]) ∧ IsP w' p M ⟨room, 0, 0, 0, false, fun _ => none⟩ 0 := by
  have hmm := @run_makeMap Try.prog
  have h1 : decide ((room : Int) < 0) = false := by rw [decide_eq_false_iff_not]; omega
  have h2 : decide ((1048576 : Int) < (room : Int)) = false := by rw [decide_eq_false_iff_not]; omega
  go_enter Try.func8, Try.ntmps8
  go_wp2
  go_ret2
  refine ⟨((Mod.refl _ w).alloc _).alloc _, w.heap.size + 1, w.heap.size, by omega, by omega, rfl, ?_, (mapAt_made w).mod ((Mod.refl (fun _ => False) _).alloc _) (fun h => h), by omega⟩
  exact hp_new _ _ _ (by simp)
theorem read_any (p M c : Nat) (s : PS) (w : World) (h : IsP w p M s c) :
    Calls Try.prog 12 #[.pointer (some ⟨p, 0, none⟩)] w fun e w' => e = .returned (.int .u64 (s.read : Int)) ∧ w' = w := by
  have c0 := h.c0
  have c2 := h.c2
  clear h
  go_enter Try.func12, Try.ntmps12
  go_wp2_with fail
  refine (gone_no p M _ c0).mono ?_
  rintro e w' ⟨rfl, rfl⟩
  go_wp2
  go_ret
  exact ⟨rfl, rfl⟩
theorem held_any (p M c : Nat) (s : PS) (w : World) (h : IsP w p M s c) :
    Calls Try.prog 14 #[.pointer (some ⟨p, 0, none⟩)] w fun e w' => e = .returned (.int .i64 (c : Int)) ∧ w' = w := by
  have c0 := h.c0
  have hl := h.map.len
  clear h
  go_enter Try.func14, Try.ntmps14
  go_wp2_with fail
  refine (gone_no p M _ c0).mono ?_
  rintro e w' ⟨rfl, rfl⟩
  go_wp2
  go_ret
  exact ⟨rfl, rfl⟩
end Go.Proofs.Ytcpphhdbboiadaa
