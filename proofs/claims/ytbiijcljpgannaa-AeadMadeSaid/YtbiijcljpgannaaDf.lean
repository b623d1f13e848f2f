/-
  chacha.fours and (*chacha.state).further: two rounds.
-/
import Derived.Test.YtbiijcljpgannaaDa
namespace Go.Proofs.Ytbiijcljpgannaa.Cc
open Go Go.RowKit

def fA (k : Nat) : Nat := [0, 1, 2, 3, 0, 1, 2, 3].getD k 0
def fB (k : Nat) : Nat := [4, 5, 6, 7, 5, 6, 7, 4].getD k 0
def fC (k : Nat) : Nat := [8, 9, 10, 11, 10, 11, 8, 9].getD k 0
def fD (k : Nat) : Nat := [12, 13, 14, 15, 15, 12, 13, 14].getD k 0
def foursV : Array Value := #[.int .i64 0, .int .i64 4, .int .i64 8, .int .i64 12, .int .i64 1, .int .i64 5, .int .i64 9, .int .i64 13, .int .i64 2, .int .i64 6, .int .i64 10, .int .i64 14, .int .i64 3, .int .i64 7, .int .i64 11, .int .i64 15, .int .i64 0, .int .i64 5, .int .i64 10, .int .i64 15, .int .i64 1, .int .i64 6, .int .i64 11, .int .i64 12, .int .i64 2, .int .i64 7, .int .i64 8, .int .i64 13, .int .i64 3, .int .i64 4, .int .i64 9, .int .i64 14]

def qr (s : List (BitVec 32)) (a b c d : Nat) : List (BitVec 32) := mixS 7 (mixS 8 (mixS 12 (mixS 16 s a b d) c d b) a b d) c d b
theorem qr_length (s : List (BitVec 32)) (a b c d : Nat) : (qr s a b c d).length = s.length := by simp [qr, mixS_length]
def qrs : Nat → List (BitVec 32) → List (BitVec 32)
  | 0, s => s
  | k + 1, s => qr (qrs k s) (fA k) (fB k) (fC k) (fD k)
theorem qrs_length (k : Nat) (s : List (BitVec 32)) : (qrs k s).length = s.length := by
  induction k with
  | zero => rfl
  | succ k ih => simp [qrs, qr_length, ih]

theorem fours_any (w : World) : Calls Try.prog 20 #[] w fun e w' => e = .returned (.agg foursV) ∧ Mod (fun _ => False) w w' := by
  go_enter Try.func20, Try.ntmps20
  go_wp2_with (refine wpList_store_row rfl 54 _ _ rfl _ foursV rfl rfl _ _ (heap_alloc_new w _) (by kernel_rfl) (by kernel_rfl) (by kernel_rfl) ?_)
  refine bodyPost_ret (results_cell_row Try.results20 _ _ w.heap.size _ foursV (0,0) _ rfl (setRow_heap _ _ _ _ _ _ (heap_alloc_new w _)) Try.underlying54 rfl (by kernel_rfl)) rfl ⟨rfl, ?_⟩
  exact ((Mod.refl (fun _ => False) w).alloc _).setRow (fun h => by omega) _

theorem four_at (k : Nat) (hk : k < 8) (w : World) : (Instr.index 54 (.agg foursV) (.int .i64 k)).run Try.prog w = .ok (.agg #[.int .i64 (fA k), .int .i64 (fB k), .int .i64 (fC k), .int .i64 (fD k)]) w := by
  rcases k with _ | _ | _ | _ | _ | _ | _ | _ | k
  · kernel_rfl
  · kernel_rfl
  · kernel_rfl
  · kernel_rfl
  · kernel_rfl
  · kernel_rfl
  · kernel_rfl
  · kernel_rfl
  · omega
theorem f_lt : ∀ k, k < 8 → fA k < 16 ∧ fB k < 16 ∧ fC k < 16 ∧ fD k < 16 ∧ fA k ≠ fD k ∧ fC k ≠ fB k := by decide

theorem further_any (g : Nat) (t : TypeId) (s : List (BitVec 32)) (w : World) (hs : s.length = 16) (hg : w.heap[g]? = some (.cells (enc s) t (0,0))) :
    Calls Try.prog 19 #[.pointer (some ⟨g, 0, none⟩), .agg foursV] w fun e w' => e = .returned (.tuple #[]) ∧ Mod (· = g) w w' ∧ w'.heap[g]? = some (.cells (enc (qrs 8 s)) t (0,0)) := by
  have hlt := lt_of_heap hg
  have h48 := Try.underlying54
  go_enter Try.func19, Try.ntmps19
  go_wp2_with (refine wpList_load_row rfl 54 _ rfl _ rfl _ _ (0,0) _ (heap_alloc_new w _) Try.underlying54 rfl (by kernel_rfl) ?_)
  go_loopw [11] (fun i wr => ∃ k : Nat, k ≤ 8 ∧ i = .int .i64 k ∧ Mod (fun x => x = g) w wr ∧ wr.heap[g]? = some (.cells (enc (qrs k s)) t (0,0))) (fun i _ => 8 - (intOf i).toNat)
  case atStart => exact ⟨0, Nat.zero_le _, rfl, (Mod.refl (fun x => x = g) w).alloc _, (Below.heap_alloc _ _ _ hlt).trans hg⟩
  case round =>
    obtain ⟨k, hk8, rfl, hM, hgr⟩ := hrel
    have hltr := lt_of_heap hgr
    by_cases hlt : k < 8
    · have h4 := four_at k hlt
      obtain ⟨fa, fb, fc, fd, fe, ff⟩ := f_lt k hlt
      have ga : (fA k : Int) < 16 := by omega
      have gb : (fB k : Int) < 16 := by omega
      have gc : (fC k : Int) < 16 := by omega
      have gd : (fD k : Int) < 16 := by omega
      have hl : (qrs k s).length = 16 := by rw [qrs_length, hs]
      replace hl := Lib.hid hl
      replace hs := Lib.hid hs
      clear h48 hk8
      go_wp2
      go_quiet (fail)
      go_wp2_with fail
      refine calls_world ?_
      intro w1 hw1
      have hg1 : w1.heap[g]? = some (.cells (enc (qrs k s)) t (0,0)) := by rw [hw1]; exact (Below.heap_alloc _ _ _ hltr).trans hgr
      have hM1 : Mod (fun x => x = g) w w1 := by rw [hw1]; exact (hM.alloc _).drewN _
      replace hw1 := Lib.hid hw1
      clear hgr hM
      refine (mix_mod 16 (.inl rfl) g t _ _ _ _ _ hg1 (by rw [hl.out]; exact fa) (by rw [hl.out]; exact fb) (by rw [hl.out]; exact fd) fe).mono ?_
      rintro e w2 ⟨rfl, hM2, hg2⟩
      replace hM2 := hM1.trans hM2
      clear hg1 hM1
      go_wp2_with fail
      refine (mix_mod 12 (.inr (.inl rfl)) g t _ _ _ _ _ hg2 (by rw [mixS_length, hl.out]; exact fc) (by rw [mixS_length, hl.out]; exact fd) (by rw [mixS_length, hl.out]; exact fb) ff).mono ?_
      rintro e w3 ⟨rfl, hM3, hg3⟩
      replace hM3 := hM2.trans hM3
      clear hg2 hM2
      go_wp2_with fail
      refine (mix_mod 8 (.inr (.inr (.inl rfl))) g t _ _ _ _ _ hg3 (by rw [mixS_length, mixS_length, hl.out]; exact fa) (by rw [mixS_length, mixS_length, hl.out]; exact fb) (by rw [mixS_length, mixS_length, hl.out]; exact fd) fe).mono ?_
      rintro e w4 ⟨rfl, hM4, hg4⟩
      replace hM4 := hM3.trans hM4
      clear hg3 hM3
      go_wp2_with fail
      refine (mix_mod 7 (.inr (.inr (.inr rfl))) g t _ _ _ _ _ hg4 (by rw [mixS_length, mixS_length, mixS_length, hl.out]; exact fc) (by rw [mixS_length, mixS_length, mixS_length, hl.out]; exact fd) (by rw [mixS_length, mixS_length, mixS_length, hl.out]; exact fb) ff).mono ?_
      rintro e w5 ⟨rfl, hM5, hg5⟩
      replace hM5 := hM4.trans hM5
      clear hg4 hM4
      go_wp2
      go_roundw
      case rel => exact ⟨k + 1, by omega, by go_num, hM5, hg5⟩
      case measure => simp [intOf]; omega
    · obtain rfl : k = 8 := by omega
      go_wp2
      go_end0
      exact ⟨rfl, hM, hgr⟩
end Go.Proofs.Ytbiijcljpgannaa.Cc
