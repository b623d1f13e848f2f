/-
  mailcoachref04: left, quarter.
-/
import Derived.Test.YtndfgjajpmccjaaChb
namespace Go.Proofs.Ytndfgjajpmccjaa
open Go Go.RowKit
set_option linter.unusedSimpArgs false

def stepA (s : List (BitVec 32)) (i j : Nat) : List (BitVec 32) := s.set i (s.getD i 0 + s.getD j 0)
def stepX (n : Nat) (s : List (BitVec 32)) (k i : Nat) : List (BitVec 32) := s.set k ((s.getD k 0 ^^^ s.getD i 0).rotateLeft n)
theorem stepA_length (s : List (BitVec 32)) (i j : Nat) : (stepA s i j).length = s.length := by simp [stepA]
theorem stepX_length (n : Nat) (s : List (BitVec 32)) (i j : Nat) : (stepX n s i j).length = s.length := by simp [stepX]
theorem mixS_steps (n : Nat) (s : List (BitVec 32)) (i j k : Nat) (hi : i < s.length) (hik : i ≠ k) : stepX n (stepA s i j) k i = mixS n s i j k := by
  unfold stepX stepA mixS
  have h1 : (s.set i (s.getD i 0 + s.getD j 0)).getD k 0 = s.getD k 0 := by simp [List.getElem?_set_ne hik]
  have h2 : (s.set i (s.getD i 0 + s.getD j 0)).getD i 0 = s.getD i 0 + s.getD j 0 := by simp [hi]
  rw [h1, h2]
theorem row_store (w : World) (g i : Nat) (s : List (BitVec 32)) (t : TypeId) (v : Int) (x : BitVec 32) (hg : w.heap[g]? = some (.cells (enc s) t (0,0))) (hv : v = (x.toNat : Int)) (nq : Nat) :
    ((w.drewN nq).setCell ⟨g, i, none⟩ (.int .u32 v)).heap[g]? = some (.cells (enc (s.set i x)) t (0,0)) ∧ Mod (fun x => x = g) w ((w.drewN nq).setCell ⟨g, i, none⟩ (.int .u32 v)) := by
  have e : (w.drewN nq).setCell ⟨g, i, none⟩ (.int .u32 v) = (w.setRow g (enc (s.set i x))).drewN nq := by
    rw [setCell_row _ _ _ _ _ _ (show (w.drewN nq).heap[g]? = _ from hg), hv]
    exact congrArg (fun z => (w.setRow g z).drewN nq) (enc_set _ _ _)
  rw [e]
  exact ⟨setRow_heap _ _ _ _ _ _ hg, (Mod.one_setRow w g _).drewN nq⟩

theorem left_any (n : Nat) (hn : n = 16 ∨ n = 12 ∨ n = 8 ∨ n = 7) (v : Int) (x : BitVec 32) (hv : v = x.toNat) (z : BitVec 32) (hz : z = x.rotateLeft n) (w : World) : Calls Try.prog 23 #[.int .u32 v, .int .i64 n] w fun e w' => e = .returned (.int .u32 (z.toNat : Int)) ∧ ∃ m, w' = w.drewN m := by
  subst hv
  replace hz := Lib.hid hz
  rcases hn with rfl | rfl | rfl | rfl
  · have H := rot32 x 65536 65536 16 16 (by omega) rfl rfl rfl
    replace H := Lib.hid H
    go_enter Try.func23, Try.ntmps23
    go_wp2_with fail
    go_quiet (fail)
    go_wp2
    go_ret
    exact ⟨ret_int (by rw [hz.out]; exact H.out), nq, rfl⟩
  · have H := rot32 x 4096 1048576 12 20 (by omega) rfl rfl rfl
    replace H := Lib.hid H
    go_enter Try.func23, Try.ntmps23
    go_wp2_with fail
    go_quiet (fail)
    go_wp2
    go_ret
    exact ⟨ret_int (by rw [hz.out]; exact H.out), nq, rfl⟩
  · have H := rot32 x 256 16777216 8 24 (by omega) rfl rfl rfl
    replace H := Lib.hid H
    go_enter Try.func23, Try.ntmps23
    go_wp2_with fail
    go_quiet (fail)
    go_wp2
    go_ret
    exact ⟨ret_int (by rw [hz.out]; exact H.out), nq, rfl⟩
  · have H := rot32 x 128 33554432 7 25 (by omega) rfl rfl rfl
    replace H := Lib.hid H
    go_enter Try.func23, Try.ntmps23
    go_wp2_with fail
    go_quiet (fail)
    go_wp2
    go_ret
    exact ⟨ret_int (by rw [hz.out]; exact H.out), nq, rfl⟩

set_option maxRecDepth 100000 in
set_option maxHeartbeats 1000000 in
theorem quarter_steps (g : Nat) (t : TypeId) (s : List (BitVec 32)) (a b c d : Nat) (w : World) (hs : s.length = 16) (hg : w.heap[g]? = some (.cells (enc s) t (0,0)))
    (ha : (a : Int) < 16) (hb : (b : Int) < 16) (hc : (c : Int) < 16) (hd : (d : Int) < 16) :
    Calls Try.prog 18 #[.pointer (some ⟨g, 0, none⟩), .int .i64 a, .int .i64 b, .int .i64 c, .int .i64 d] w fun e w' => e = .returned (.tuple #[]) ∧ Mod (fun x => x = g) w w' ∧ w'.heap[g]? = some (.cells (enc (stepX 7 (stepA (stepX 8 (stepA (stepX 12 (stepA (stepX 16 (stepA (s) a b) d a) c d) b c) a b) d a) c d) b c)) t (0,0)) := by
  have hM : Mod (fun x => x = g) w w := Mod.refl _ w
  replace hs := Lib.hid hs
  go_enter Try.func18, Try.ntmps18
  go_wp2_with fail
  obtain ⟨x0, hx⟩ : ∃ x, x = (s).getD a 0 := ⟨_, rfl⟩
  obtain ⟨y0, hy⟩ : ∃ y, y = (s).getD b 0 := ⟨_, rfl⟩
  have cT := enc_cell hg (i := a) (by simp only [stepA_length, stepX_length, hs.out]; omega)
  have cO := enc_cell hg (i := b) (by simp only [stepA_length, stepX_length, hs.out]; omega)
  have fT := frozen_of_row w g a _ _ hg
  rw [← hx] at cT
  rw [← hy] at cO
  have e0 : (s).set a (x0 + y0) = stepA (s) a b := by rw [hx, hy]; rfl
  replace e0 := Lib.hid e0
  clear hx hy
  refine region_qtail 15 (by kernel_rfl) (by kernel_rfl) ?_
  simp only [List.take_succ_cons, List.take_zero, List.drop_succ_cons, List.drop_zero]
  repeat (go_big_quiet_step (fail))
  refine wpQuiet_nil ?_
  rintro _ ⟨nq, rfl⟩
  go_wp2_with fail
  refine wp_world ?_
  intro w1 hw1
  obtain ⟨hg1, m1⟩ : w1.heap[g]? = some (.cells (enc (stepA (s) a b)) t (0,0)) ∧ Mod (fun x => x = g) w w1 := by
    rw [hw1, ← e0.out]
    exact row_store w g a _ t _ _ hg (add32 _ _) nq
  replace hM := hM.trans m1
  clear hw1 m1 cT cO fT hg e0
  obtain ⟨x1, hx⟩ : ∃ x, x = (stepA (s) a b).getD d 0 := ⟨_, rfl⟩
  obtain ⟨y1, hy⟩ : ∃ y, y = (stepA (s) a b).getD a 0 := ⟨_, rfl⟩
  have cT := enc_cell hg1 (i := d) (by simp only [stepA_length, stepX_length, hs.out]; omega)
  have cO := enc_cell hg1 (i := a) (by simp only [stepA_length, stepX_length, hs.out]; omega)
  have fT := frozen_of_row w1 g d _ _ hg1
  rw [← hx] at cT
  rw [← hy] at cO
  have e1 : (stepA (s) a b).set d ((x1 ^^^ y1).rotateLeft 16) = stepX 16 (stepA (s) a b) d a := by rw [hx, hy]; rfl
  replace e1 := Lib.hid e1
  obtain ⟨z1, hz1⟩ : ∃ z, z = (x1 ^^^ y1).rotateLeft 16 := ⟨_, rfl⟩
  rw [← hz1] at e1
  replace hz1 := Lib.hid hz1
  clear hx hy
  refine region_qtail 16 (by kernel_rfl) (by kernel_rfl) ?_
  simp only [List.take_succ_cons, List.take_zero, List.drop_succ_cons, List.drop_zero]
  repeat (go_big_quiet_step (refine Calls.quiet_of (left_any 16 (.inl rfl) _ (x1 ^^^ y1) (bits_xor32 _ _) z1 hz1.out _)))
  refine wpQuiet_nil ?_
  rintro _ ⟨nq, rfl⟩
  go_wp2_with fail
  refine wp_world ?_
  intro w2 hw1
  obtain ⟨hg2, m1⟩ : w2.heap[g]? = some (.cells (enc (stepX 16 (stepA (s) a b) d a)) t (0,0)) ∧ Mod (fun x => x = g) w1 w2 := by
    rw [hw1, ← e1.out]
    exact row_store w1 g d _ t _ _ hg1 rfl nq
  replace hM := hM.trans m1
  clear hw1 m1 cT cO fT hg1 e1
  obtain ⟨x2, hx⟩ : ∃ x, x = (stepX 16 (stepA (s) a b) d a).getD c 0 := ⟨_, rfl⟩
  obtain ⟨y2, hy⟩ : ∃ y, y = (stepX 16 (stepA (s) a b) d a).getD d 0 := ⟨_, rfl⟩
  have cT := enc_cell hg2 (i := c) (by simp only [stepA_length, stepX_length, hs.out]; omega)
  have cO := enc_cell hg2 (i := d) (by simp only [stepA_length, stepX_length, hs.out]; omega)
  have fT := frozen_of_row w2 g c _ _ hg2
  rw [← hx] at cT
  rw [← hy] at cO
  have e2 : (stepX 16 (stepA (s) a b) d a).set c (x2 + y2) = stepA (stepX 16 (stepA (s) a b) d a) c d := by rw [hx, hy]; rfl
  replace e2 := Lib.hid e2
  clear hx hy
  refine region_qtail 15 (by kernel_rfl) (by kernel_rfl) ?_
  simp only [List.take_succ_cons, List.take_zero, List.drop_succ_cons, List.drop_zero]
  repeat (go_big_quiet_step (fail))
  refine wpQuiet_nil ?_
  rintro _ ⟨nq, rfl⟩
  go_wp2_with fail
  refine wp_world ?_
  intro w3 hw1
  obtain ⟨hg3, m1⟩ : w3.heap[g]? = some (.cells (enc (stepA (stepX 16 (stepA (s) a b) d a) c d)) t (0,0)) ∧ Mod (fun x => x = g) w2 w3 := by
    rw [hw1, ← e2.out]
    exact row_store w2 g c _ t _ _ hg2 (add32 _ _) nq
  replace hM := hM.trans m1
  clear hw1 m1 cT cO fT hg2 e2
  obtain ⟨x3, hx⟩ : ∃ x, x = (stepA (stepX 16 (stepA (s) a b) d a) c d).getD b 0 := ⟨_, rfl⟩
  obtain ⟨y3, hy⟩ : ∃ y, y = (stepA (stepX 16 (stepA (s) a b) d a) c d).getD c 0 := ⟨_, rfl⟩
  have cT := enc_cell hg3 (i := b) (by simp only [stepA_length, stepX_length, hs.out]; omega)
  have cO := enc_cell hg3 (i := c) (by simp only [stepA_length, stepX_length, hs.out]; omega)
  have fT := frozen_of_row w3 g b _ _ hg3
  rw [← hx] at cT
  rw [← hy] at cO
  have e3 : (stepA (stepX 16 (stepA (s) a b) d a) c d).set b ((x3 ^^^ y3).rotateLeft 12) = stepX 12 (stepA (stepX 16 (stepA (s) a b) d a) c d) b c := by rw [hx, hy]; rfl
  replace e3 := Lib.hid e3
  obtain ⟨z3, hz3⟩ : ∃ z, z = (x3 ^^^ y3).rotateLeft 12 := ⟨_, rfl⟩
  rw [← hz3] at e3
  replace hz3 := Lib.hid hz3
  clear hx hy
  refine region_qtail 16 (by kernel_rfl) (by kernel_rfl) ?_
  simp only [List.take_succ_cons, List.take_zero, List.drop_succ_cons, List.drop_zero]
  repeat (go_big_quiet_step (refine Calls.quiet_of (left_any 12 (.inr (.inl rfl)) _ (x3 ^^^ y3) (bits_xor32 _ _) z3 hz3.out _)))
  refine wpQuiet_nil ?_
  rintro _ ⟨nq, rfl⟩
  go_wp2_with fail
  refine wp_world ?_
  intro w4 hw1
  obtain ⟨hg4, m1⟩ : w4.heap[g]? = some (.cells (enc (stepX 12 (stepA (stepX 16 (stepA (s) a b) d a) c d) b c)) t (0,0)) ∧ Mod (fun x => x = g) w3 w4 := by
    rw [hw1, ← e3.out]
    exact row_store w3 g b _ t _ _ hg3 rfl nq
  replace hM := hM.trans m1
  clear hw1 m1 cT cO fT hg3 e3
  obtain ⟨x4, hx⟩ : ∃ x, x = (stepX 12 (stepA (stepX 16 (stepA (s) a b) d a) c d) b c).getD a 0 := ⟨_, rfl⟩
  obtain ⟨y4, hy⟩ : ∃ y, y = (stepX 12 (stepA (stepX 16 (stepA (s) a b) d a) c d) b c).getD b 0 := ⟨_, rfl⟩
  have cT := enc_cell hg4 (i := a) (by simp only [stepA_length, stepX_length, hs.out]; omega)
  have cO := enc_cell hg4 (i := b) (by simp only [stepA_length, stepX_length, hs.out]; omega)
  have fT := frozen_of_row w4 g a _ _ hg4
  rw [← hx] at cT
  rw [← hy] at cO
  have e4 : (stepX 12 (stepA (stepX 16 (stepA (s) a b) d a) c d) b c).set a (x4 + y4) = stepA (stepX 12 (stepA (stepX 16 (stepA (s) a b) d a) c d) b c) a b := by rw [hx, hy]; rfl
  replace e4 := Lib.hid e4
  clear hx hy
  refine region_qtail 15 (by kernel_rfl) (by kernel_rfl) ?_
  simp only [List.take_succ_cons, List.take_zero, List.drop_succ_cons, List.drop_zero]
  repeat (go_big_quiet_step (fail))
  refine wpQuiet_nil ?_
  rintro _ ⟨nq, rfl⟩
  go_wp2_with fail
  refine wp_world ?_
  intro w5 hw1
  obtain ⟨hg5, m1⟩ : w5.heap[g]? = some (.cells (enc (stepA (stepX 12 (stepA (stepX 16 (stepA (s) a b) d a) c d) b c) a b)) t (0,0)) ∧ Mod (fun x => x = g) w4 w5 := by
    rw [hw1, ← e4.out]
    exact row_store w4 g a _ t _ _ hg4 (add32 _ _) nq
  replace hM := hM.trans m1
  clear hw1 m1 cT cO fT hg4 e4
  obtain ⟨x5, hx⟩ : ∃ x, x = (stepA (stepX 12 (stepA (stepX 16 (stepA (s) a b) d a) c d) b c) a b).getD d 0 := ⟨_, rfl⟩
  obtain ⟨y5, hy⟩ : ∃ y, y = (stepA (stepX 12 (stepA (stepX 16 (stepA (s) a b) d a) c d) b c) a b).getD a 0 := ⟨_, rfl⟩
  have cT := enc_cell hg5 (i := d) (by simp only [stepA_length, stepX_length, hs.out]; omega)
  have cO := enc_cell hg5 (i := a) (by simp only [stepA_length, stepX_length, hs.out]; omega)
  have fT := frozen_of_row w5 g d _ _ hg5
  rw [← hx] at cT
  rw [← hy] at cO
  have e5 : (stepA (stepX 12 (stepA (stepX 16 (stepA (s) a b) d a) c d) b c) a b).set d ((x5 ^^^ y5).rotateLeft 8) = stepX 8 (stepA (stepX 12 (stepA (stepX 16 (stepA (s) a b) d a) c d) b c) a b) d a := by rw [hx, hy]; rfl
  replace e5 := Lib.hid e5
  obtain ⟨z5, hz5⟩ : ∃ z, z = (x5 ^^^ y5).rotateLeft 8 := ⟨_, rfl⟩
  rw [← hz5] at e5
  replace hz5 := Lib.hid hz5
  clear hx hy
  refine region_qtail 16 (by kernel_rfl) (by kernel_rfl) ?_
  simp only [List.take_succ_cons, List.take_zero, List.drop_succ_cons, List.drop_zero]
  repeat (go_big_quiet_step (refine Calls.quiet_of (left_any 8 (.inr (.inr (.inl rfl))) _ (x5 ^^^ y5) (bits_xor32 _ _) z5 hz5.out _)))
  refine wpQuiet_nil ?_
  rintro _ ⟨nq, rfl⟩
  go_wp2_with fail
  refine wp_world ?_
  intro w6 hw1
  obtain ⟨hg6, m1⟩ : w6.heap[g]? = some (.cells (enc (stepX 8 (stepA (stepX 12 (stepA (stepX 16 (stepA (s) a b) d a) c d) b c) a b) d a)) t (0,0)) ∧ Mod (fun x => x = g) w5 w6 := by
    rw [hw1, ← e5.out]
    exact row_store w5 g d _ t _ _ hg5 rfl nq
  replace hM := hM.trans m1
  clear hw1 m1 cT cO fT hg5 e5
  obtain ⟨x6, hx⟩ : ∃ x, x = (stepX 8 (stepA (stepX 12 (stepA (stepX 16 (stepA (s) a b) d a) c d) b c) a b) d a).getD c 0 := ⟨_, rfl⟩
  obtain ⟨y6, hy⟩ : ∃ y, y = (stepX 8 (stepA (stepX 12 (stepA (stepX 16 (stepA (s) a b) d a) c d) b c) a b) d a).getD d 0 := ⟨_, rfl⟩
  have cT := enc_cell hg6 (i := c) (by simp only [stepA_length, stepX_length, hs.out]; omega)
  have cO := enc_cell hg6 (i := d) (by simp only [stepA_length, stepX_length, hs.out]; omega)
  have fT := frozen_of_row w6 g c _ _ hg6
  rw [← hx] at cT
  rw [← hy] at cO
  have e6 : (stepX 8 (stepA (stepX 12 (stepA (stepX 16 (stepA (s) a b) d a) c d) b c) a b) d a).set c (x6 + y6) = stepA (stepX 8 (stepA (stepX 12 (stepA (stepX 16 (stepA (s) a b) d a) c d) b c) a b) d a) c d := by rw [hx, hy]; rfl
  replace e6 := Lib.hid e6
  clear hx hy
  refine region_qtail 15 (by kernel_rfl) (by kernel_rfl) ?_
  simp only [List.take_succ_cons, List.take_zero, List.drop_succ_cons, List.drop_zero]
  repeat (go_big_quiet_step (fail))
  refine wpQuiet_nil ?_
  rintro _ ⟨nq, rfl⟩
  go_wp2_with fail
  refine wp_world ?_
  intro w7 hw1
  obtain ⟨hg7, m1⟩ : w7.heap[g]? = some (.cells (enc (stepA (stepX 8 (stepA (stepX 12 (stepA (stepX 16 (stepA (s) a b) d a) c d) b c) a b) d a) c d)) t (0,0)) ∧ Mod (fun x => x = g) w6 w7 := by
    rw [hw1, ← e6.out]
    exact row_store w6 g c _ t _ _ hg6 (add32 _ _) nq
  replace hM := hM.trans m1
  clear hw1 m1 cT cO fT hg6 e6
  obtain ⟨x7, hx⟩ : ∃ x, x = (stepA (stepX 8 (stepA (stepX 12 (stepA (stepX 16 (stepA (s) a b) d a) c d) b c) a b) d a) c d).getD b 0 := ⟨_, rfl⟩
  obtain ⟨y7, hy⟩ : ∃ y, y = (stepA (stepX 8 (stepA (stepX 12 (stepA (stepX 16 (stepA (s) a b) d a) c d) b c) a b) d a) c d).getD c 0 := ⟨_, rfl⟩
  have cT := enc_cell hg7 (i := b) (by simp only [stepA_length, stepX_length, hs.out]; omega)
  have cO := enc_cell hg7 (i := c) (by simp only [stepA_length, stepX_length, hs.out]; omega)
  have fT := frozen_of_row w7 g b _ _ hg7
  rw [← hx] at cT
  rw [← hy] at cO
  have e7 : (stepA (stepX 8 (stepA (stepX 12 (stepA (stepX 16 (stepA (s) a b) d a) c d) b c) a b) d a) c d).set b ((x7 ^^^ y7).rotateLeft 7) = stepX 7 (stepA (stepX 8 (stepA (stepX 12 (stepA (stepX 16 (stepA (s) a b) d a) c d) b c) a b) d a) c d) b c := by rw [hx, hy]; rfl
  replace e7 := Lib.hid e7
  obtain ⟨z7, hz7⟩ : ∃ z, z = (x7 ^^^ y7).rotateLeft 7 := ⟨_, rfl⟩
  rw [← hz7] at e7
  replace hz7 := Lib.hid hz7
  clear hx hy
  refine region_qtail 16 (by kernel_rfl) (by kernel_rfl) ?_
  simp only [List.take_succ_cons, List.take_zero, List.drop_succ_cons, List.drop_zero]
  repeat (go_big_quiet_step (refine Calls.quiet_of (left_any 7 (.inr (.inr (.inr rfl))) _ (x7 ^^^ y7) (bits_xor32 _ _) z7 hz7.out _)))
  refine wpQuiet_nil ?_
  rintro _ ⟨nq, rfl⟩
  go_wp2
  go_end0
  refine ⟨rfl, ?_⟩
  obtain ⟨h1, h2⟩ := row_store w7 g b _ t _ _ hg7 (rfl) nq
  rw [e7.out] at h1
  exact ⟨hM.trans h2, h1⟩

theorem quarter_any (g : Nat) (t : TypeId) (s : List (BitVec 32)) (a b c d : Nat) (w : World) (hs : s.length = 16) (hg : w.heap[g]? = some (.cells (enc s) t (0,0)))
    (ha : a < 16) (hb : b < 16) (hc : c < 16) (hd : d < 16) (had : a ≠ d) (hcb : c ≠ b) :
    Calls Try.prog 18 #[.pointer (some ⟨g, 0, none⟩), .int .i64 a, .int .i64 b, .int .i64 c, .int .i64 d] w fun e w' => e = .returned (.tuple #[]) ∧ Mod (fun x => x = g) w w' ∧ w'.heap[g]? = some (.cells (enc (qr s a b c d)) t (0,0)) := by
  refine (quarter_steps g t s a b c d w hs hg (by omega) (by omega) (by omega) (by omega)).mono ?_
  rintro e w' ⟨h1, h2, h3⟩
  rw [mixS_steps 16 _ _ _ _ (by omega) had, mixS_steps 12 _ _ _ _ (by simp [mixS_length]; omega) hcb, mixS_steps 8 _ _ _ _ (by simp [mixS_length]; omega) had, mixS_steps 7 _ _ _ _ (by simp [mixS_length]; omega) hcb] at h3
  exact ⟨h1, h2, h3⟩
end Go.Proofs.Ytndfgjajpmccjaa
