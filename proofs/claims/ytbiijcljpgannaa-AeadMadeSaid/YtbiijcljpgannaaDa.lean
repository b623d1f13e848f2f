/-
  chacha.mix: one word is added to another, that is taken against a third, which is turned.
-/
import Derived.Test.YtbiijcljpgannaaDw
namespace Go.Proofs.Ytbiijcljpgannaa.Cc
open Go Go.RowKit

/-- What mix does to a state. -/
def mixS (n : Nat) (s : List (BitVec 32)) (i j k : Nat) : List (BitVec 32) :=
  (s.set i (s.getD i 0 + s.getD j 0)).set k ((s.getD k 0 ^^^ (s.getD i 0 + s.getD j 0)).rotateLeft n)
theorem mixS_length (n : Nat) (s : List (BitVec 32)) (i j k : Nat) : (mixS n s i j k).length = s.length := by simp [mixS]

set_option maxHeartbeats 400000 in
theorem mix_any (n : Nat) (hn : n = 16 ∨ n = 12 ∨ n = 8 ∨ n = 7) (g : Nat) (t : TypeId) (s : List (BitVec 32)) (i j k : Nat) (w : World) (hg : w.heap[g]? = some (.cells (enc s) t (0,0)))
    (hi : i < s.length) (hj : j < s.length) (hk : k < s.length) (hik : i ≠ k) :
    Calls Try.prog 36 #[.pointer (some ⟨g, i, none⟩), .pointer (some ⟨g, j, none⟩), .pointer (some ⟨g, k, none⟩), .int .i64 n] w fun e w' => e = .returned (.tuple #[]) ∧ ∃ m, w' = (w.setRow g (enc (mixS n s i j k))).drewN m := by
  unfold mixS
  have ci : w.cell? ⟨g, i, none⟩ = some (.int .u32 ((s.getD i 0).toNat : Int)) := by rw [cell_of_row _ _ _ _ _ _ hg]; exact enc_get hi
  have cj : w.cell? ⟨g, j, none⟩ = some (.int .u32 ((s.getD j 0).toNat : Int)) := by rw [cell_of_row _ _ _ _ _ _ hg]; exact enc_get hj
  have hz : (s.set i (s.getD i 0 + s.getD j 0)).getD k 0 = s.getD k 0 := by simp [List.getElem?_set_ne hik]
  have hz' : (s.set i (s.getD i 0 + s.getD j 0)).getD i 0 = s.getD i 0 + s.getD j 0 := by simp [hi]
  generalize s.getD i 0 = x at *
  generalize s.getD j 0 = y at *
  generalize s.getD k 0 = z at *
  have fi := frozen_of_row w g i _ _ hg
  obtain ⟨w1, hw1⟩ : ∃ w1, w1 = w.setRow g (enc (s.set i (x + y))) := ⟨_, rfl⟩
  have hg1 : w1.heap[g]? = some (.cells (enc (s.set i (x + y))) t (0,0)) := by rw [hw1]; exact setRow_heap w g _ _ t _ hg
  have ci1 : w1.cell? ⟨g, i, none⟩ = some (.int .u32 ((x + y).toNat : Int)) := by rw [cell_of_row _ _ _ _ _ _ hg1]; exact (enc_get (by simpa using hi)).trans (by rw [hz'])
  have ck1 : w1.cell? ⟨g, k, none⟩ = some (.int .u32 (z.toNat : Int)) := by rw [cell_of_row _ _ _ _ _ _ hg1]; exact (enc_get (by simpa using hk)).trans (by rw [hz])
  have fk1 := frozen_of_row w1 g k _ _ hg1
  have H1 : w.setCell ⟨g, i, none⟩ (.int .u32 (((x.toNat : Int) + (y.toNat : Int)) % 4294967296)) = w1 := by
    rw [add32, hw1, setCell_row w g i _ t _ hg, ← enc_set]; rfl
  have H2 : ∀ v, w1.setCell ⟨g, k, none⟩ (W v) = w.setRow g (enc ((s.set i (x + y)).set k v)) := by
    intro v; rw [setCell_row w1 g k _ t _ hg1, hw1, setRow_setRow, enc_set]
  replace H1 := Lib.hid H1
  replace H2 := Lib.hid H2
  clear hg hi hj hk hg1 hw1 hz hz'
  go_enter Try.func36, Try.ntmps36
  go_wp2_with fail
  refine region_tail 8 (by kernel_rfl) (by kernel_rfl) ?_
  simp only [List.take_succ_cons, List.take_zero, List.drop_succ_cons, List.drop_zero]
  repeat still_step
  refine wpStill_nil ?_
  go_wp2
  rw [H1.out]
  refine region_tail 11 (by kernel_rfl) (by kernel_rfl) ?_
  simp only [List.take_succ_cons, List.take_zero, List.drop_succ_cons, List.drop_zero]
  repeat still_step
  still_call (rot_any n hn _ (z ^^^ (x + y)) (bits_xor32 _ _) _)
  repeat still_step
  refine wpStill_nil ?_
  unfold W
  go_wp2
  go_end0
  refine ⟨rfl, 2, ?_⟩
  rw [← H2.out]
  rfl

theorem mix_mod (n : Nat) (hn : n = 16 ∨ n = 12 ∨ n = 8 ∨ n = 7) (g : Nat) (t : TypeId) (s : List (BitVec 32)) (i j k : Nat) (w : World) (hg : w.heap[g]? = some (.cells (enc s) t (0,0)))
    (hi : i < s.length) (hj : j < s.length) (hk : k < s.length) (hik : i ≠ k) :
    Calls Try.prog 36 #[.pointer (some ⟨g, i, none⟩), .pointer (some ⟨g, j, none⟩), .pointer (some ⟨g, k, none⟩), .int .i64 n] w fun e w' => e = .returned (.tuple #[]) ∧ Mod (· = g) w w' ∧ w'.heap[g]? = some (.cells (enc (mixS n s i j k)) t (0,0)) := by
  refine (mix_any n hn g t s i j k w hg hi hj hk hik).mono ?_
  rintro e w' ⟨rfl, m, rfl⟩
  exact ⟨rfl, ((Mod.refl (fun x => x = g) w).setRow (fun _ => rfl) _).drewN m, setRow_heap w g _ _ t _ hg⟩
end Go.Proofs.Ytbiijcljpgannaa.Cc
