/-
  mailcoachlaw04: left, undo: what undoes a quarter round.
-/
import Derived.Test.YtndfgjajpmccjaaRcq
namespace Go.Proofs.Ytndfgjajpmccjaa
open Go Go.RowKit
set_option linter.unusedSimpArgs false

def unS (s : List (BitVec 32)) (i j : Nat) : List (BitVec 32) := s.set i (s.getD i 0 - s.getD j 0)
def unX (n : Nat) (s : List (BitVec 32)) (k i : Nat) : List (BitVec 32) := s.set k ((s.getD k 0).rotateLeft n ^^^ s.getD i 0)
theorem unS_length (s : List (BitVec 32)) (i j : Nat) : (unS s i j).length = s.length := by simp [unS]
theorem unX_length (n : Nat) (s : List (BitVec 32)) (i j : Nat) : (unX n s i j).length = s.length := by simp [unX]
theorem sub32 (a b : BitVec 32) : ((a.toNat : Int) - (b.toNat : Int)) % 4294967296 = ((a - b).toNat : Int) := by
  rw [BitVec.toNat_sub]; omega

theorem unleft_any (n : Nat) (hn : n = 25 ∨ n = 24 ∨ n = 20 ∨ n = 16) (v : Int) (x : BitVec 32) (hv : v = x.toNat) (z : BitVec 32) (hz : z = x.rotateLeft n) (w : World) : Calls Try.prog 20 #[.int .u32 v, .int .i64 n] w fun e w' => e = .returned (.int .u32 (z.toNat : Int)) ∧ ∃ m, w' = w.drewN m := by
  subst hv
  replace hz := Lib.hid hz
  rcases hn with rfl | rfl | rfl | rfl
  · have H := rot32 x 33554432 128 25 7 (by omega) rfl rfl rfl
    replace H := Lib.hid H
    go_enter Try.func20, Try.ntmps20
    go_wp2_with fail
    go_quiet (fail)
    go_wp2
    go_ret
    exact ⟨ret_int (by rw [hz.out]; exact H.out), nq, rfl⟩
  · have H := rot32 x 16777216 256 24 8 (by omega) rfl rfl rfl
    replace H := Lib.hid H
    go_enter Try.func20, Try.ntmps20
    go_wp2_with fail
    go_quiet (fail)
    go_wp2
    go_ret
    exact ⟨ret_int (by rw [hz.out]; exact H.out), nq, rfl⟩
  · have H := rot32 x 1048576 4096 20 12 (by omega) rfl rfl rfl
    replace H := Lib.hid H
    go_enter Try.func20, Try.ntmps20
    go_wp2_with fail
    go_quiet (fail)
    go_wp2
    go_ret
    exact ⟨ret_int (by rw [hz.out]; exact H.out), nq, rfl⟩
  · have H := rot32 x 65536 65536 16 16 (by omega) rfl rfl rfl
    replace H := Lib.hid H
    go_enter Try.func20, Try.ntmps20
    go_wp2_with fail
    go_quiet (fail)
    go_wp2
    go_ret
    exact ⟨ret_int (by rw [hz.out]; exact H.out), nq, rfl⟩

set_option maxRecDepth 100000 in
set_option maxHeartbeats 1000000 in
theorem undo_steps (g : Nat) (t : TypeId) (s : List (BitVec 32)) (a b c d : Nat) (w : World) (hs : s.length = 16) (hg : w.heap[g]? = some (.cells (enc s) t (0,0)))
    (ha : (a : Int) < 16) (hb : (b : Int) < 16) (hc : (c : Int) < 16) (hd : (d : Int) < 16) :
    Calls Try.prog 13 #[.pointer (some ⟨g, 0, none⟩), .int .i64 a, .int .i64 b, .int .i64 c, .int .i64 d] w fun e w' => e = .returned (.tuple #[]) ∧ Mod (fun x => x = g) w w' ∧ w'.heap[g]? = some (.cells (enc (unS (unX 16 (unS (unX 20 (unS (unX 24 (unS (unX 25 (s) b c) c d) d a) a b) b c) c d) d a) a b)) t (0,0)) := by
  have hM : Mod (fun x => x = g) w w := Mod.refl _ w
  replace hs := Lib.hid hs
  go_enter Try.func13, Try.ntmps13
  go_wp2_with fail
  obtain ⟨x0, hx⟩ : ∃ x, x = (s).getD b 0 := ⟨_, rfl⟩
  obtain ⟨y0, hy⟩ : ∃ y, y = (s).getD c 0 := ⟨_, rfl⟩
  have cT := enc_cell hg (i := b) (by simp only [unS_length, unX_length, hs.out]; omega)
  have cO := enc_cell hg (i := c) (by simp only [unS_length, unX_length, hs.out]; omega)
  have fT := frozen_of_row w g b _ _ hg
  rw [← hx] at cT
  rw [← hy] at cO
  have e0 : (s).set b (x0.rotateLeft 25 ^^^ y0) = unX 25 (s) b c := by rw [hx, hy]; rfl
  replace e0 := Lib.hid e0
  obtain ⟨z0, hz0⟩ : ∃ z, z = x0.rotateLeft 25 := ⟨_, rfl⟩
  rw [← hz0] at e0
  replace hz0 := Lib.hid hz0
  clear hx hy
  refine region_qtail 16 (by kernel_rfl) (by kernel_rfl) ?_
  simp only [List.take_succ_cons, List.take_zero, List.drop_succ_cons, List.drop_zero]
  repeat (go_big_quiet_step (refine Calls.quiet_of (unleft_any 25 (.inl rfl) _ x0 rfl z0 hz0.out _)))
  refine wpQuiet_nil ?_
  rintro _ ⟨nq, rfl⟩
  go_wp2_with fail
  refine wp_world ?_
  intro w1 hw1
  obtain ⟨hg1, m1⟩ : w1.heap[g]? = some (.cells (enc (unX 25 (s) b c)) t (0,0)) ∧ Mod (fun x => x = g) w w1 := by
    rw [hw1, ← e0.out]
    exact row_store w g b _ t _ _ hg (bits_xor32 _ _) nq
  replace hM := hM.trans m1
  clear hw1 m1 cT cO fT hg e0
  obtain ⟨x1, hx⟩ : ∃ x, x = (unX 25 (s) b c).getD c 0 := ⟨_, rfl⟩
  obtain ⟨y1, hy⟩ : ∃ y, y = (unX 25 (s) b c).getD d 0 := ⟨_, rfl⟩
  have cT := enc_cell hg1 (i := c) (by simp only [unS_length, unX_length, hs.out]; omega)
  have cO := enc_cell hg1 (i := d) (by simp only [unS_length, unX_length, hs.out]; omega)
  have fT := frozen_of_row w1 g c _ _ hg1
  rw [← hx] at cT
  rw [← hy] at cO
  have e1 : (unX 25 (s) b c).set c (x1 - y1) = unS (unX 25 (s) b c) c d := by rw [hx, hy]; rfl
  replace e1 := Lib.hid e1
  clear hx hy
  refine region_qtail 15 (by kernel_rfl) (by kernel_rfl) ?_
  simp only [List.take_succ_cons, List.take_zero, List.drop_succ_cons, List.drop_zero]
  repeat (go_big_quiet_step (fail))
  refine wpQuiet_nil ?_
  rintro _ ⟨nq, rfl⟩
  go_wp2_with fail
  refine wp_world ?_
  intro w2 hw1
  obtain ⟨hg2, m1⟩ : w2.heap[g]? = some (.cells (enc (unS (unX 25 (s) b c) c d)) t (0,0)) ∧ Mod (fun x => x = g) w1 w2 := by
    rw [hw1, ← e1.out]
    exact row_store w1 g c _ t _ _ hg1 (sub32 _ _) nq
  replace hM := hM.trans m1
  clear hw1 m1 cT cO fT hg1 e1
  obtain ⟨x2, hx⟩ : ∃ x, x = (unS (unX 25 (s) b c) c d).getD d 0 := ⟨_, rfl⟩
  obtain ⟨y2, hy⟩ : ∃ y, y = (unS (unX 25 (s) b c) c d).getD a 0 := ⟨_, rfl⟩
  have cT := enc_cell hg2 (i := d) (by simp only [unS_length, unX_length, hs.out]; omega)
  have cO := enc_cell hg2 (i := a) (by simp only [unS_length, unX_length, hs.out]; omega)
  have fT := frozen_of_row w2 g d _ _ hg2
  rw [← hx] at cT
  rw [← hy] at cO
  have e2 : (unS (unX 25 (s) b c) c d).set d (x2.rotateLeft 24 ^^^ y2) = unX 24 (unS (unX 25 (s) b c) c d) d a := by rw [hx, hy]; rfl
  replace e2 := Lib.hid e2
  obtain ⟨z2, hz2⟩ : ∃ z, z = x2.rotateLeft 24 := ⟨_, rfl⟩
  rw [← hz2] at e2
  replace hz2 := Lib.hid hz2
  clear hx hy
  refine region_qtail 16 (by kernel_rfl) (by kernel_rfl) ?_
  simp only [List.take_succ_cons, List.take_zero, List.drop_succ_cons, List.drop_zero]
  repeat (go_big_quiet_step (refine Calls.quiet_of (unleft_any 24 (.inr (.inl rfl)) _ x2 rfl z2 hz2.out _)))
  refine wpQuiet_nil ?_
  rintro _ ⟨nq, rfl⟩
  go_wp2_with fail
  refine wp_world ?_
  intro w3 hw1
  obtain ⟨hg3, m1⟩ : w3.heap[g]? = some (.cells (enc (unX 24 (unS (unX 25 (s) b c) c d) d a)) t (0,0)) ∧ Mod (fun x => x = g) w2 w3 := by
    rw [hw1, ← e2.out]
    exact row_store w2 g d _ t _ _ hg2 (bits_xor32 _ _) nq
  replace hM := hM.trans m1
  clear hw1 m1 cT cO fT hg2 e2
  obtain ⟨x3, hx⟩ : ∃ x, x = (unX 24 (unS (unX 25 (s) b c) c d) d a).getD a 0 := ⟨_, rfl⟩
  obtain ⟨y3, hy⟩ : ∃ y, y = (unX 24 (unS (unX 25 (s) b c) c d) d a).getD b 0 := ⟨_, rfl⟩
  have cT := enc_cell hg3 (i := a) (by simp only [unS_length, unX_length, hs.out]; omega)
  have cO := enc_cell hg3 (i := b) (by simp only [unS_length, unX_length, hs.out]; omega)
  have fT := frozen_of_row w3 g a _ _ hg3
  rw [← hx] at cT
  rw [← hy] at cO
  have e3 : (unX 24 (unS (unX 25 (s) b c) c d) d a).set a (x3 - y3) = unS (unX 24 (unS (unX 25 (s) b c) c d) d a) a b := by rw [hx, hy]; rfl
  replace e3 := Lib.hid e3
  clear hx hy
  refine region_qtail 15 (by kernel_rfl) (by kernel_rfl) ?_
  simp only [List.take_succ_cons, List.take_zero, List.drop_succ_cons, List.drop_zero]
  repeat (go_big_quiet_step (fail))
  refine wpQuiet_nil ?_
  rintro _ ⟨nq, rfl⟩
  go_wp2_with fail
  refine wp_world ?_
  intro w4 hw1
  obtain ⟨hg4, m1⟩ : w4.heap[g]? = some (.cells (enc (unS (unX 24 (unS (unX 25 (s) b c) c d) d a) a b)) t (0,0)) ∧ Mod (fun x => x = g) w3 w4 := by
    rw [hw1, ← e3.out]
    exact row_store w3 g a _ t _ _ hg3 (sub32 _ _) nq
  replace hM := hM.trans m1
  clear hw1 m1 cT cO fT hg3 e3
  obtain ⟨x4, hx⟩ : ∃ x, x = (unS (unX 24 (unS (unX 25 (s) b c) c d) d a) a b).getD b 0 := ⟨_, rfl⟩
  obtain ⟨y4, hy⟩ : ∃ y, y = (unS (unX 24 (unS (unX 25 (s) b c) c d) d a) a b).getD c 0 := ⟨_, rfl⟩
  have cT := enc_cell hg4 (i := b) (by simp only [unS_length, unX_length, hs.out]; omega)
  have cO := enc_cell hg4 (i := c) (by simp only [unS_length, unX_length, hs.out]; omega)
  have fT := frozen_of_row w4 g b _ _ hg4
  rw [← hx] at cT
  rw [← hy] at cO
  have e4 : (unS (unX 24 (unS (unX 25 (s) b c) c d) d a) a b).set b (x4.rotateLeft 20 ^^^ y4) = unX 20 (unS (unX 24 (unS (unX 25 (s) b c) c d) d a) a b) b c := by rw [hx, hy]; rfl
  replace e4 := Lib.hid e4
  obtain ⟨z4, hz4⟩ : ∃ z, z = x4.rotateLeft 20 := ⟨_, rfl⟩
  rw [← hz4] at e4
  replace hz4 := Lib.hid hz4
  clear hx hy
  refine region_qtail 16 (by kernel_rfl) (by kernel_rfl) ?_
  simp only [List.take_succ_cons, List.take_zero, List.drop_succ_cons, List.drop_zero]
  repeat (go_big_quiet_step (refine Calls.quiet_of (unleft_any 20 (.inr (.inr (.inl rfl))) _ x4 rfl z4 hz4.out _)))
  refine wpQuiet_nil ?_
  rintro _ ⟨nq, rfl⟩
  go_wp2_with fail
  refine wp_world ?_
  intro w5 hw1
  obtain ⟨hg5, m1⟩ : w5.heap[g]? = some (.cells (enc (unX 20 (unS (unX 24 (unS (unX 25 (s) b c) c d) d a) a b) b c)) t (0,0)) ∧ Mod (fun x => x = g) w4 w5 := by
    rw [hw1, ← e4.out]
    exact row_store w4 g b _ t _ _ hg4 (bits_xor32 _ _) nq
  replace hM := hM.trans m1
  clear hw1 m1 cT cO fT hg4 e4
  obtain ⟨x5, hx⟩ : ∃ x, x = (unX 20 (unS (unX 24 (unS (unX 25 (s) b c) c d) d a) a b) b c).getD c 0 := ⟨_, rfl⟩
  obtain ⟨y5, hy⟩ : ∃ y, y = (unX 20 (unS (unX 24 (unS (unX 25 (s) b c) c d) d a) a b) b c).getD d 0 := ⟨_, rfl⟩
  have cT := enc_cell hg5 (i := c) (by simp only [unS_length, unX_length, hs.out]; omega)
  have cO := enc_cell hg5 (i := d) (by simp only [unS_length, unX_length, hs.out]; omega)
  have fT := frozen_of_row w5 g c _ _ hg5
  rw [← hx] at cT
  rw [← hy] at cO
  have e5 : (unX 20 (unS (unX 24 (unS (unX 25 (s) b c) c d) d a) a b) b c).set c (x5 - y5) = unS (unX 20 (unS (unX 24 (unS (unX 25 (s) b c) c d) d a) a b) b c) c d := by rw [hx, hy]; rfl
  replace e5 := Lib.hid e5
  clear hx hy
  refine region_qtail 15 (by kernel_rfl) (by kernel_rfl) ?_
  simp only [List.take_succ_cons, List.take_zero, List.drop_succ_cons, List.drop_zero]
  repeat (go_big_quiet_step (fail))
  refine wpQuiet_nil ?_
  rintro _ ⟨nq, rfl⟩
  go_wp2_with fail
  refine wp_world ?_
  intro w6 hw1
  obtain ⟨hg6, m1⟩ : w6.heap[g]? = some (.cells (enc (unS (unX 20 (unS (unX 24 (unS (unX 25 (s) b c) c d) d a) a b) b c) c d)) t (0,0)) ∧ Mod (fun x => x = g) w5 w6 := by
    rw [hw1, ← e5.out]
    exact row_store w5 g c _ t _ _ hg5 (sub32 _ _) nq
  replace hM := hM.trans m1
  clear hw1 m1 cT cO fT hg5 e5
  obtain ⟨x6, hx⟩ : ∃ x, x = (unS (unX 20 (unS (unX 24 (unS (unX 25 (s) b c) c d) d a) a b) b c) c d).getD d 0 := ⟨_, rfl⟩
  obtain ⟨y6, hy⟩ : ∃ y, y = (unS (unX 20 (unS (unX 24 (unS (unX 25 (s) b c) c d) d a) a b) b c) c d).getD a 0 := ⟨_, rfl⟩
  have cT := enc_cell hg6 (i := d) (by simp only [unS_length, unX_length, hs.out]; omega)
  have cO := enc_cell hg6 (i := a) (by simp only [unS_length, unX_length, hs.out]; omega)
  have fT := frozen_of_row w6 g d _ _ hg6
  rw [← hx] at cT
  rw [← hy] at cO
  have e6 : (unS (unX 20 (unS (unX 24 (unS (unX 25 (s) b c) c d) d a) a b) b c) c d).set d (x6.rotateLeft 16 ^^^ y6) = unX 16 (unS (unX 20 (unS (unX 24 (unS (unX 25 (s) b c) c d) d a) a b) b c) c d) d a := by rw [hx, hy]; rfl
  replace e6 := Lib.hid e6
  obtain ⟨z6, hz6⟩ : ∃ z, z = x6.rotateLeft 16 := ⟨_, rfl⟩
  rw [← hz6] at e6
  replace hz6 := Lib.hid hz6
  clear hx hy
  refine region_qtail 16 (by kernel_rfl) (by kernel_rfl) ?_
  simp only [List.take_succ_cons, List.take_zero, List.drop_succ_cons, List.drop_zero]
  repeat (go_big_quiet_step (refine Calls.quiet_of (unleft_any 16 (.inr (.inr (.inr rfl))) _ x6 rfl z6 hz6.out _)))
  refine wpQuiet_nil ?_
  rintro _ ⟨nq, rfl⟩
  go_wp2_with fail
  refine wp_world ?_
  intro w7 hw1
  obtain ⟨hg7, m1⟩ : w7.heap[g]? = some (.cells (enc (unX 16 (unS (unX 20 (unS (unX 24 (unS (unX 25 (s) b c) c d) d a) a b) b c) c d) d a)) t (0,0)) ∧ Mod (fun x => x = g) w6 w7 := by
    rw [hw1, ← e6.out]
    exact row_store w6 g d _ t _ _ hg6 (bits_xor32 _ _) nq
  replace hM := hM.trans m1
  clear hw1 m1 cT cO fT hg6 e6
  obtain ⟨x7, hx⟩ : ∃ x, x = (unX 16 (unS (unX 20 (unS (unX 24 (unS (unX 25 (s) b c) c d) d a) a b) b c) c d) d a).getD a 0 := ⟨_, rfl⟩
  obtain ⟨y7, hy⟩ : ∃ y, y = (unX 16 (unS (unX 20 (unS (unX 24 (unS (unX 25 (s) b c) c d) d a) a b) b c) c d) d a).getD b 0 := ⟨_, rfl⟩
  have cT := enc_cell hg7 (i := a) (by simp only [unS_length, unX_length, hs.out]; omega)
  have cO := enc_cell hg7 (i := b) (by simp only [unS_length, unX_length, hs.out]; omega)
  have fT := frozen_of_row w7 g a _ _ hg7
  rw [← hx] at cT
  rw [← hy] at cO
  have e7 : (unX 16 (unS (unX 20 (unS (unX 24 (unS (unX 25 (s) b c) c d) d a) a b) b c) c d) d a).set a (x7 - y7) = unS (unX 16 (unS (unX 20 (unS (unX 24 (unS (unX 25 (s) b c) c d) d a) a b) b c) c d) d a) a b := by rw [hx, hy]; rfl
  replace e7 := Lib.hid e7
  clear hx hy
  refine region_qtail 15 (by kernel_rfl) (by kernel_rfl) ?_
  simp only [List.take_succ_cons, List.take_zero, List.drop_succ_cons, List.drop_zero]
  repeat (go_big_quiet_step (fail))
  refine wpQuiet_nil ?_
  rintro _ ⟨nq, rfl⟩
  go_wp2
  go_end0
  refine ⟨rfl, ?_⟩
  obtain ⟨h1, h2⟩ := row_store w7 g a _ t _ _ hg7 (sub32 _ _) nq
  rw [e7.out] at h1
  exact ⟨hM.trans h2, h1⟩
end Go.Proofs.Ytndfgjajpmccjaa
