/- Several small texts in one: Dq Dr Dt Dk. -/
import Derived.Test.YtbiijcljpgannaaGreatDoorMC

namespace Go.Proofs.YtbiijcljpgannaaGreatDoor.Cc
set_option maxRecDepth 100000
open Go Go.RowKit
set_option linter.unusedSimpArgs false

def stepA (s : List (BitVec 32)) (i j : Nat) : List (BitVec 32) := s.set i (s.getD i 0 + s.getD j 0)
def stepX (n : Nat) (s : List (BitVec 32)) (k i : Nat) : List (BitVec 32) := s.set k ((s.getD k 0 ^^^ s.getD i 0).rotateLeft n)
theorem stepA_length (s : List (BitVec 32)) (i j : Nat) : (stepA s i j).length = s.length := by simp [stepA]
theorem stepX_length (n : Nat) (s : List (BitVec 32)) (i j : Nat) : (stepX n s i j).length = s.length := by simp [stepX]
theorem mixS_steps (n : Nat) (s : List (BitVec 32)) (i j k : Nat) (hi : i < s.length) (hik : i ≠ k) : stepX n (stepA s i j) k i = mixS n s i j k := by
  unfold stepX stepA mixS
  have h1 : (s.set i (s.getD i 0 + s.getD j 0)).getD k 0 = s.getD k 0 := by simp [List.getElem?_set_ne hik]
  have h2 : (s.set i (s.getD i 0 + s.getD j 0)).getD i 0 = s.getD i 0 + s.getD j 0 := by simp [hi]
  rw [h1, h2]
theorem row_store (w : World) (g i : Nat) (s : List (BitVec 32)) (t : TypeId) (v : Int) (x : BitVec 32) (hg : w.heap[g]? = some (.cells (enc s) t (0,0))) (hv : v = (x.toNat : Int)) (nq : Nat) :
    ((w.drewN nq).setCell ⟨g, i, none⟩ (.int .u32 v)).heap[g]? = some (.cells (enc (s.set i x)) t (0,0)) ∧ Mod (fun x => x = g) w ((w.drewN nq).setCell ⟨g, i, none⟩ (.int .u32 v)) := by
  have e : (w.drewN nq).setCell ⟨g, i, none⟩ (.int .u32 v) = (w.setRow g (enc (s.set i x))).drewN nq := by
    rw [setCell_row _ _ _ _ _ _ (show (w.drewN nq).heap[g]? = _ from hg), hv]
    exact congrArg (fun z => (w.setRow g z).drewN nq) (enc_set _ _ _)
  rw [e]
  exact ⟨setRow_heap _ _ _ _ _ _ hg, (Mod.one_setRow w g _).drewN nq⟩

theorem left_any (n : Nat) (hn : n = 16 ∨ n = 12 ∨ n = 8 ∨ n = 7) (v : Int) (x : BitVec 32) (hv : v = x.toNat) (z : BitVec 32) (hz : z = x.rotateLeft n) (w : World) : Calls Tryz.prog 125 #[.int .u32 v, .int .i64 n] w fun e w' => e = .returned (.int .u32 (z.toNat : Int)) ∧ ∃ m, w' = w.drewN m := by
  subst hv
  replace hz := Lib.hid hz
  rcases hn with rfl | rfl | rfl | rfl
  · have H := rot32 x 65536 65536 16 16 (by omega) rfl rfl rfl
    replace H := Lib.hid H
    go_enter Tryz.func125, Tryz.ntmps125
    go_wp2_with fail
    go_quiet (fail)
    go_wp2
    go_ret
    exact ⟨ret_int (by rw [hz.out]; exact H.out), nq, rfl⟩
  · have H := rot32 x 4096 1048576 12 20 (by omega) rfl rfl rfl
    replace H := Lib.hid H
    go_enter Tryz.func125, Tryz.ntmps125
    go_wp2_with fail
    go_quiet (fail)
    go_wp2
    go_ret
    exact ⟨ret_int (by rw [hz.out]; exact H.out), nq, rfl⟩
  · have H := rot32 x 256 16777216 8 24 (by omega) rfl rfl rfl
    replace H := Lib.hid H
    go_enter Tryz.func125, Tryz.ntmps125
    go_wp2_with fail
    go_quiet (fail)
    go_wp2
    go_ret
    exact ⟨ret_int (by rw [hz.out]; exact H.out), nq, rfl⟩
  · have H := rot32 x 128 33554432 7 25 (by omega) rfl rfl rfl
    replace H := Lib.hid H
    go_enter Tryz.func125, Tryz.ntmps125
    go_wp2_with fail
    go_quiet (fail)
    go_wp2
    go_ret
    exact ⟨ret_int (by rw [hz.out]; exact H.out), nq, rfl⟩

set_option maxRecDepth 100000 in
set_option maxHeartbeats 1000000 in
theorem quarter_steps (g : Nat) (t : TypeId) (s : List (BitVec 32)) (a b c d : Nat) (w : World) (hs : s.length = 16) (hg : w.heap[g]? = some (.cells (enc s) t (0,0)))
    (ha : (a : Int) < 16) (hb : (b : Int) < 16) (hc : (c : Int) < 16) (hd : (d : Int) < 16) :
    Calls Tryz.prog 113 #[.pointer (some ⟨g, 0, none⟩), .int .i64 a, .int .i64 b, .int .i64 c, .int .i64 d] w fun e w' => e = .returned (.tuple #[]) ∧ Mod (fun x => x = g) w w' ∧ w'.heap[g]? = some (.cells (enc (stepX 7 (stepA (stepX 8 (stepA (stepX 12 (stepA (stepX 16 (stepA (s) a b) d a) c d) b c) a b) d a) c d) b c)) t (0,0)) := by
  have hM : Mod (fun x => x = g) w w := Mod.refl _ w
  replace hs := Lib.hid hs
  go_enter Tryz.func113, Tryz.ntmps113
  go_wp2_with fail
  obtain ⟨x0, hx⟩ : ∃ x, x = (s).getD a 0 := ⟨_, rfl⟩
  obtain ⟨y0, hy⟩ : ∃ y, y = (s).getD b 0 := ⟨_, rfl⟩
  have cT := enc_cell hg (i := a) (by simp only [stepA_length, stepX_length, hs.out]; omega)
  have cO := enc_cell hg (i := b) (by simp only [stepA_length, stepX_length, hs.out]; omega)
  have fT := frozen_of_row w g a _ _ hg
  rw [← hx] at cT
  rw [← hy] at cO
  have e0 : (s).set a (x0 + y0) = stepA (s) a b := by rw [hx, hy]; rfl
  replace e0 := Lib.hid e0
  clear hx hy
  refine region_qtail 15 (by kernel_rfl) (by kernel_rfl) ?_
  simp only [List.take_succ_cons, List.take_zero, List.drop_succ_cons, List.drop_zero]
  repeat (go_big_quiet_step (fail))
  refine wpQuiet_nil ?_
  rintro _ ⟨nq, rfl⟩
  go_wp2_with fail
  refine wp_world ?_
  intro w1 hw1
  obtain ⟨hg1, m1⟩ : w1.heap[g]? = some (.cells (enc (stepA (s) a b)) t (0,0)) ∧ Mod (fun x => x = g) w w1 := by
    rw [hw1, ← e0.out]
    exact row_store w g a _ t _ _ hg (add32 _ _) nq
  replace hM := hM.trans m1
  clear hw1 m1 cT cO fT hg e0
  obtain ⟨x1, hx⟩ : ∃ x, x = (stepA (s) a b).getD d 0 := ⟨_, rfl⟩
  obtain ⟨y1, hy⟩ : ∃ y, y = (stepA (s) a b).getD a 0 := ⟨_, rfl⟩
  have cT := enc_cell hg1 (i := d) (by simp only [stepA_length, stepX_length, hs.out]; omega)
  have cO := enc_cell hg1 (i := a) (by simp only [stepA_length, stepX_length, hs.out]; omega)
  have fT := frozen_of_row w1 g d _ _ hg1
  rw [← hx] at cT
  rw [← hy] at cO
  have e1 : (stepA (s) a b).set d ((x1 ^^^ y1).rotateLeft 16) = stepX 16 (stepA (s) a b) d a := by rw [hx, hy]; rfl
  replace e1 := Lib.hid e1
  obtain ⟨z1, hz1⟩ : ∃ z, z = (x1 ^^^ y1).rotateLeft 16 := ⟨_, rfl⟩
  rw [← hz1] at e1
  replace hz1 := Lib.hid hz1
  clear hx hy
  refine region_qtail 16 (by kernel_rfl) (by kernel_rfl) ?_
  simp only [List.take_succ_cons, List.take_zero, List.drop_succ_cons, List.drop_zero]
  repeat (go_big_quiet_step (refine Calls.quiet_of (left_any 16 (.inl rfl) _ (x1 ^^^ y1) (bits_xor32 _ _) z1 hz1.out _)))
  refine wpQuiet_nil ?_
  rintro _ ⟨nq, rfl⟩
  go_wp2_with fail
  refine wp_world ?_
  intro w2 hw1
  obtain ⟨hg2, m1⟩ : w2.heap[g]? = some (.cells (enc (stepX 16 (stepA (s) a b) d a)) t (0,0)) ∧ Mod (fun x => x = g) w1 w2 := by
    rw [hw1, ← e1.out]
    exact row_store w1 g d _ t _ _ hg1 rfl nq
  replace hM := hM.trans m1
  clear hw1 m1 cT cO fT hg1 e1
  obtain ⟨x2, hx⟩ : ∃ x, x = (stepX 16 (stepA (s) a b) d a).getD c 0 := ⟨_, rfl⟩
  obtain ⟨y2, hy⟩ : ∃ y, y = (stepX 16 (stepA (s) a b) d a).getD d 0 := ⟨_, rfl⟩
  have cT := enc_cell hg2 (i := c) (by simp only [stepA_length, stepX_length, hs.out]; omega)
  have cO := enc_cell hg2 (i := d) (by simp only [stepA_length, stepX_length, hs.out]; omega)
  have fT := frozen_of_row w2 g c _ _ hg2
  rw [← hx] at cT
  rw [← hy] at cO
  have e2 : (stepX 16 (stepA (s) a b) d a).set c (x2 + y2) = stepA (stepX 16 (stepA (s) a b) d a) c d := by rw [hx, hy]; rfl
  replace e2 := Lib.hid e2
  clear hx hy
  refine region_qtail 15 (by kernel_rfl) (by kernel_rfl) ?_
  simp only [List.take_succ_cons, List.take_zero, List.drop_succ_cons, List.drop_zero]
  repeat (go_big_quiet_step (fail))
  refine wpQuiet_nil ?_
  rintro _ ⟨nq, rfl⟩
  go_wp2_with fail
  refine wp_world ?_
  intro w3 hw1
  obtain ⟨hg3, m1⟩ : w3.heap[g]? = some (.cells (enc (stepA (stepX 16 (stepA (s) a b) d a) c d)) t (0,0)) ∧ Mod (fun x => x = g) w2 w3 := by
    rw [hw1, ← e2.out]
    exact row_store w2 g c _ t _ _ hg2 (add32 _ _) nq
  replace hM := hM.trans m1
  clear hw1 m1 cT cO fT hg2 e2
  obtain ⟨x3, hx⟩ : ∃ x, x = (stepA (stepX 16 (stepA (s) a b) d a) c d).getD b 0 := ⟨_, rfl⟩
  obtain ⟨y3, hy⟩ : ∃ y, y = (stepA (stepX 16 (stepA (s) a b) d a) c d).getD c 0 := ⟨_, rfl⟩
  have cT := enc_cell hg3 (i := b) (by simp only [stepA_length, stepX_length, hs.out]; omega)
  have cO := enc_cell hg3 (i := c) (by simp only [stepA_length, stepX_length, hs.out]; omega)
  have fT := frozen_of_row w3 g b _ _ hg3
  rw [← hx] at cT
  rw [← hy] at cO
  have e3 : (stepA (stepX 16 (stepA (s) a b) d a) c d).set b ((x3 ^^^ y3).rotateLeft 12) = stepX 12 (stepA (stepX 16 (stepA (s) a b) d a) c d) b c := by rw [hx, hy]; rfl
  replace e3 := Lib.hid e3
  obtain ⟨z3, hz3⟩ : ∃ z, z = (x3 ^^^ y3).rotateLeft 12 := ⟨_, rfl⟩
  rw [← hz3] at e3
  replace hz3 := Lib.hid hz3
  clear hx hy
  refine region_qtail 16 (by kernel_rfl) (by kernel_rfl) ?_
  simp only [List.take_succ_cons, List.take_zero, List.drop_succ_cons, List.drop_zero]
  repeat (go_big_quiet_step (refine Calls.quiet_of (left_any 12 (.inr (.inl rfl)) _ (x3 ^^^ y3) (bits_xor32 _ _) z3 hz3.out _)))
  refine wpQuiet_nil ?_
  rintro _ ⟨nq, rfl⟩
  go_wp2_with fail
  refine wp_world ?_
  intro w4 hw1
  obtain ⟨hg4, m1⟩ : w4.heap[g]? = some (.cells (enc (stepX 12 (stepA (stepX 16 (stepA (s) a b) d a) c d) b c)) t (0,0)) ∧ Mod (fun x => x = g) w3 w4 := by
    rw [hw1, ← e3.out]
    exact row_store w3 g b _ t _ _ hg3 rfl nq
  replace hM := hM.trans m1
  clear hw1 m1 cT cO fT hg3 e3
  obtain ⟨x4, hx⟩ : ∃ x, x = (stepX 12 (stepA (stepX 16 (stepA (s) a b) d a) c d) b c).getD a 0 := ⟨_, rfl⟩
  obtain ⟨y4, hy⟩ : ∃ y, y = (stepX 12 (stepA (stepX 16 (stepA (s) a b) d a) c d) b c).getD b 0 := ⟨_, rfl⟩
  have cT := enc_cell hg4 (i := a) (by simp only [stepA_length, stepX_length, hs.out]; omega)
  have cO := enc_cell hg4 (i := b) (by simp only [stepA_length, stepX_length, hs.out]; omega)
  have fT := frozen_of_row w4 g a _ _ hg4
  rw [← hx] at cT
  rw [← hy] at cO
  have e4 : (stepX 12 (stepA (stepX 16 (stepA (s) a b) d a) c d) b c).set a (x4 + y4) = stepA (stepX 12 (stepA (stepX 16 (stepA (s) a b) d a) c d) b c) a b := by rw [hx, hy]; rfl
  replace e4 := Lib.hid e4
  clear hx hy
  refine region_qtail 15 (by kernel_rfl) (by kernel_rfl) ?_
  simp only [List.take_succ_cons, List.take_zero, List.drop_succ_cons, List.drop_zero]
  repeat (go_big_quiet_step (fail))
  refine wpQuiet_nil ?_
  rintro _ ⟨nq, rfl⟩
  go_wp2_with fail
  refine wp_world ?_
  intro w5 hw1
  obtain ⟨hg5, m1⟩ : w5.heap[g]? = some (.cells (enc (stepA (stepX 12 (stepA (stepX 16 (stepA (s) a b) d a) c d) b c) a b)) t (0,0)) ∧ Mod (fun x => x = g) w4 w5 := by
    rw [hw1, ← e4.out]
    exact row_store w4 g a _ t _ _ hg4 (add32 _ _) nq
  replace hM := hM.trans m1
  clear hw1 m1 cT cO fT hg4 e4
  obtain ⟨x5, hx⟩ : ∃ x, x = (stepA (stepX 12 (stepA (stepX 16 (stepA (s) a b) d a) c d) b c) a b).getD d 0 := ⟨_, rfl⟩
  obtain ⟨y5, hy⟩ : ∃ y, y = (stepA (stepX 12 (stepA (stepX 16 (stepA (s) a b) d a) c d) b c) a b).getD a 0 := ⟨_, rfl⟩
  have cT := enc_cell hg5 (i := d) (by simp only [stepA_length, stepX_length, hs.out]; omega)
  have cO := enc_cell hg5 (i := a) (by simp only [stepA_length, stepX_length, hs.out]; omega)
  have fT := frozen_of_row w5 g d _ _ hg5
  rw [← hx] at cT
  rw [← hy] at cO
  have e5 : (stepA (stepX 12 (stepA (stepX 16 (stepA (s) a b) d a) c d) b c) a b).set d ((x5 ^^^ y5).rotateLeft 8) = stepX 8 (stepA (stepX 12 (stepA (stepX 16 (stepA (s) a b) d a) c d) b c) a b) d a := by rw [hx, hy]; rfl
  replace e5 := Lib.hid e5
  obtain ⟨z5, hz5⟩ : ∃ z, z = (x5 ^^^ y5).rotateLeft 8 := ⟨_, rfl⟩
  rw [← hz5] at e5
  replace hz5 := Lib.hid hz5
  clear hx hy
  refine region_qtail 16 (by kernel_rfl) (by kernel_rfl) ?_
  simp only [List.take_succ_cons, List.take_zero, List.drop_succ_cons, List.drop_zero]
  repeat (go_big_quiet_step (refine Calls.quiet_of (left_any 8 (.inr (.inr (.inl rfl))) _ (x5 ^^^ y5) (bits_xor32 _ _) z5 hz5.out _)))
  refine wpQuiet_nil ?_
  rintro _ ⟨nq, rfl⟩
  go_wp2_with fail
  refine wp_world ?_
  intro w6 hw1
  obtain ⟨hg6, m1⟩ : w6.heap[g]? = some (.cells (enc (stepX 8 (stepA (stepX 12 (stepA (stepX 16 (stepA (s) a b) d a) c d) b c) a b) d a)) t (0,0)) ∧ Mod (fun x => x = g) w5 w6 := by
    rw [hw1, ← e5.out]
    exact row_store w5 g d _ t _ _ hg5 rfl nq
  replace hM := hM.trans m1
  clear hw1 m1 cT cO fT hg5 e5
  obtain ⟨x6, hx⟩ : ∃ x, x = (stepX 8 (stepA (stepX 12 (stepA (stepX 16 (stepA (s) a b) d a) c d) b c) a b) d a).getD c 0 := ⟨_, rfl⟩
  obtain ⟨y6, hy⟩ : ∃ y, y = (stepX 8 (stepA (stepX 12 (stepA (stepX 16 (stepA (s) a b) d a) c d) b c) a b) d a).getD d 0 := ⟨_, rfl⟩
  have cT := enc_cell hg6 (i := c) (by simp only [stepA_length, stepX_length, hs.out]; omega)
  have cO := enc_cell hg6 (i := d) (by simp only [stepA_length, stepX_length, hs.out]; omega)
  have fT := frozen_of_row w6 g c _ _ hg6
  rw [← hx] at cT
  rw [← hy] at cO
  have e6 : (stepX 8 (stepA (stepX 12 (stepA (stepX 16 (stepA (s) a b) d a) c d) b c) a b) d a).set c (x6 + y6) = stepA (stepX 8 (stepA (stepX 12 (stepA (stepX 16 (stepA (s) a b) d a) c d) b c) a b) d a) c d := by rw [hx, hy]; rfl
  replace e6 := Lib.hid e6
  clear hx hy
  refine region_qtail 15 (by kernel_rfl) (by kernel_rfl) ?_
  simp only [List.take_succ_cons, List.take_zero, List.drop_succ_cons, List.drop_zero]
  repeat (go_big_quiet_step (fail))
  refine wpQuiet_nil ?_
  rintro _ ⟨nq, rfl⟩
  go_wp2_with fail
  refine wp_world ?_
  intro w7 hw1
  obtain ⟨hg7, m1⟩ : w7.heap[g]? = some (.cells (enc (stepA (stepX 8 (stepA (stepX 12 (stepA (stepX 16 (stepA (s) a b) d a) c d) b c) a b) d a) c d)) t (0,0)) ∧ Mod (fun x => x = g) w6 w7 := by
    rw [hw1, ← e6.out]
    exact row_store w6 g c _ t _ _ hg6 (add32 _ _) nq
  replace hM := hM.trans m1
  clear hw1 m1 cT cO fT hg6 e6
  obtain ⟨x7, hx⟩ : ∃ x, x = (stepA (stepX 8 (stepA (stepX 12 (stepA (stepX 16 (stepA (s) a b) d a) c d) b c) a b) d a) c d).getD b 0 := ⟨_, rfl⟩
  obtain ⟨y7, hy⟩ : ∃ y, y = (stepA (stepX 8 (stepA (stepX 12 (stepA (stepX 16 (stepA (s) a b) d a) c d) b c) a b) d a) c d).getD c 0 := ⟨_, rfl⟩
  have cT := enc_cell hg7 (i := b) (by simp only [stepA_length, stepX_length, hs.out]; omega)
  have cO := enc_cell hg7 (i := c) (by simp only [stepA_length, stepX_length, hs.out]; omega)
  have fT := frozen_of_row w7 g b _ _ hg7
  rw [← hx] at cT
  rw [← hy] at cO
  have e7 : (stepA (stepX 8 (stepA (stepX 12 (stepA (stepX 16 (stepA (s) a b) d a) c d) b c) a b) d a) c d).set b ((x7 ^^^ y7).rotateLeft 7) = stepX 7 (stepA (stepX 8 (stepA (stepX 12 (stepA (stepX 16 (stepA (s) a b) d a) c d) b c) a b) d a) c d) b c := by rw [hx, hy]; rfl
  replace e7 := Lib.hid e7
  obtain ⟨z7, hz7⟩ : ∃ z, z = (x7 ^^^ y7).rotateLeft 7 := ⟨_, rfl⟩
  rw [← hz7] at e7
  replace hz7 := Lib.hid hz7
  clear hx hy
  refine region_qtail 16 (by kernel_rfl) (by kernel_rfl) ?_
  simp only [List.take_succ_cons, List.take_zero, List.drop_succ_cons, List.drop_zero]
  repeat (go_big_quiet_step (refine Calls.quiet_of (left_any 7 (.inr (.inr (.inr rfl))) _ (x7 ^^^ y7) (bits_xor32 _ _) z7 hz7.out _)))
  refine wpQuiet_nil ?_
  rintro _ ⟨nq, rfl⟩
  go_wp2
  go_end0
  refine ⟨rfl, ?_⟩
  obtain ⟨h1, h2⟩ := row_store w7 g b _ t _ _ hg7 (rfl) nq
  rw [e7.out] at h1
  exact ⟨hM.trans h2, h1⟩

theorem quarter_any (g : Nat) (t : TypeId) (s : List (BitVec 32)) (a b c d : Nat) (w : World) (hs : s.length = 16) (hg : w.heap[g]? = some (.cells (enc s) t (0,0)))
    (ha : a < 16) (hb : b < 16) (hc : c < 16) (hd : d < 16) (had : a ≠ d) (hcb : c ≠ b) :
    Calls Tryz.prog 113 #[.pointer (some ⟨g, 0, none⟩), .int .i64 a, .int .i64 b, .int .i64 c, .int .i64 d] w fun e w' => e = .returned (.tuple #[]) ∧ Mod (fun x => x = g) w w' ∧ w'.heap[g]? = some (.cells (enc (qr s a b c d)) t (0,0)) := by
  refine (quarter_steps g t s a b c d w hs hg (by omega) (by omega) (by omega) (by omega)).mono ?_
  rintro e w' ⟨h1, h2, h3⟩
  rw [mixS_steps 16 _ _ _ _ (by omega) had, mixS_steps 12 _ _ _ _ (by simp [mixS_length]; omega) hcb, mixS_steps 8 _ _ _ _ (by simp [mixS_length]; omega) had, mixS_steps 7 _ _ _ _ (by simp [mixS_length]; omega) hcb] at h3
  exact ⟨h1, h2, h3⟩
end Go.Proofs.YtbiijcljpgannaaGreatDoor.Cc

namespace Go.Proofs.YtbiijcljpgannaaGreatDoor.Cc
set_option maxRecDepth 100000
open Go Go.RowKit
set_option linter.unusedSimpArgs false

def wd4 (a b c d : BitVec 8) : BitVec 32 := ((a.setWidth 32 ||| (b.setWidth 32 <<< 8)) ||| (c.setWidth 32 <<< 16)) ||| (d.setWidth 32 <<< 24)
theorem wd4_bits (a b c d : BitVec 8) : bits .or .u32 (bits .or .u32 (bits .or .u32 (a.toNat : Int) ((b.toNat : Int) * (256 : Nat))) ((c.toNat : Int) * (65536 : Nat))) ((d.toNat : Int) * (16777216 : Nat)) = ((wd4 a b c d).toNat : Int) := by
  have h : (a.toNat : Int) = ((a.setWidth 32).toNat : Int) := by rw [BitVec.toNat_setWidth, Nat.mod_eq_of_lt (a := a.toNat) (by have := a.isLt; omega)]
  rw [h, shl_byte _ b 8 256 rfl (by omega), shl_byte _ c 16 65536 rfl (by omega), shl_byte _ d 24 16777216 rfl (by omega)]
  rfl
def kTo (s : List (BitVec 32)) (at' : Nat) (bs : List (BitVec 8)) : Nat → List (BitVec 32)
  | 0 => s
  | i + 1 => (kTo s at' bs i).set (at' + i) (wd4 (bs.getD (4 * i) 0) (bs.getD (4 * i + 1) 0) (bs.getD (4 * i + 2) 0) (bs.getD (4 * i + 3) 0))
theorem kTo_length (s : List (BitVec 32)) (at' : Nat) (bs : List (BitVec 8)) (i : Nat) : (kTo s at' bs i).length = s.length := by
  induction i with
  | zero => rfl
  | succ i ih => simp [kTo, ih]
theorem kTo_ge (s : List (BitVec 32)) (at' : Nat) (bs : List (BitVec 8)) (i j : Nat) (h : at' + i ≤ j) : (kTo s at' bs i)[j]?.getD 0 = s[j]?.getD 0 := by
  induction i with
  | zero => rfl
  | succ i ih =>
    rw [kTo, List.getElem?_set_ne (by omega)]
    exact ih (by omega)
theorem words_eq (s : List (BitVec 32)) (at' : Nat) (bs : List (BitVec 8)) (m : Nat) (hm : at' + m ≤ s.length) (hz : ∀ j, j < m → s[at' + j]?.getD 0 = 0) : wordsTo s at' bs (4 * m) = kTo s at' bs m := by
  induction m with
  | zero => rfl
  | succ m ih =>
    have h0 := ih (by omega) (fun j hj => hz j (by omega))
    have hlt : at' + m < (kTo s at' bs m).length := by rw [kTo_length]; omega
    have hg : (kTo s at' bs m)[at' + m]?.getD 0 = 0 := by rw [kTo_ge _ _ _ _ _ (by omega)]; exact hz m (by omega)
    rw [show 4 * (m + 1) = 4 * m + 1 + 1 + 1 + 1 by omega]
    simp only [wordsTo, h0, kTo]
    rw [show 4 * m / 4 = m by omega, show (4 * m + 1) / 4 = m by omega, show (4 * m + 1 + 1) / 4 = m by omega, show (4 * m + 1 + 1 + 1) / 4 = m by omega,
      show 4 * m % 4 = 0 by omega, show (4 * m + 1) % 4 = 1 by omega, show (4 * m + 1 + 1) % 4 = 2 by omega, show (4 * m + 1 + 1 + 1) % 4 = 3 by omega]
    simp only [List.set_set, List.getD_eq_getElem?_getD, List.getElem?_set, hlt, if_true, List.length_set, hg, Option.getD_some]
    simp only [wd4, Nat.zero_mul, Nat.one_mul, BitVec.shiftLeft_zero, BitVec.ofNat_eq_ofNat, BitVec.zero_or, Nat.reduceMul, List.getD_eq_getElem?_getD]
def first4 : List (BitVec 32) := [1634760805, 857760878, 2036477234, 1797285236, 0, 0, 0, 0, 0, 0, 0, 0, 0, 0, 0, 0]
theorem fromS_eq (key nonce : List (BitVec 8)) (count : BitVec 32) : fromS key nonce count = kTo ((kTo first4 4 key 8).set 12 count) 13 nonce 3 := by
  have h0 : wordsTo (List.replicate 16 0) 0 sigma 16 = first4 := by decide +kernel
  have h1 : wordsTo first4 4 key 32 = kTo first4 4 key 8 := words_eq first4 4 key 8 (by decide) (by decide)
  have h2 : wordsTo ((kTo first4 4 key 8).set 12 count) 13 nonce 12 = kTo ((kTo first4 4 key 8).set 12 count) 13 nonce 3 := by
    refine words_eq _ 13 nonce 3 (by simp [kTo_length, first4]) ?_
    intro j hj
    rw [List.getElem?_set_ne (by omega), kTo_ge _ _ _ _ _ (by omega)]
    rcases j with _ | _ | _ | j
    · rfl
    · rfl
    · rfl
    · omega
  rw [fromS, h0, h1, h2]

theorem word_any (bs : List (BitVec 8)) (bb bo n cap : Nat) (hn : 4 ≤ n) (w : World)
    (h0 : w.cell? ⟨bb, bo, none⟩ = some (.int .u8 ((bs.getD 0 0).toNat : Int))) (h1 : w.cell? ⟨bb, bo + 1, none⟩ = some (.int .u8 ((bs.getD 1 0).toNat : Int)))
    (h2 : w.cell? ⟨bb, bo + 2, none⟩ = some (.int .u8 ((bs.getD 2 0).toNat : Int))) (h3 : w.cell? ⟨bb, bo + 3, none⟩ = some (.int .u8 ((bs.getD 3 0).toNat : Int))) :
    Calls Tryz.prog 124 #[.slice (some ⟨bb, bo, none⟩) n cap] w fun e w' => e = .returned (.int .u32 ((wd4 (bs.getD 0 0) (bs.getD 1 0) (bs.getD 2 0) (bs.getD 3 0)).toNat : Int)) ∧ ∃ m, w' = w.drewN m := by
  have H := wd4_bits (bs.getD 0 0) (bs.getD 1 0) (bs.getD 2 0) (bs.getD 3 0)
  generalize wd4 (bs.getD 0 0) (bs.getD 1 0) (bs.getD 2 0) (bs.getD 3 0) = z at *
  generalize bs.getD 0 0 = a at *
  generalize bs.getD 1 0 = b at *
  generalize bs.getD 2 0 = c at *
  generalize bs.getD 3 0 = d at *
  replace H := Lib.hid H
  have g0 : (0 : Int) < (n : Int) := by omega
  have g1 : (1 : Int) < (n : Int) := by omega
  have g2 : (2 : Int) < (n : Int) := by omega
  have g3 : (3 : Int) < (n : Int) := by omega
  go_enter Tryz.func124, Tryz.ntmps124
  go_wp2_with fail
  go_quiet (fail)
  go_wp2
  go_ret
  exact ⟨ret_int H.out, nq, rfl⟩
end Go.Proofs.YtbiijcljpgannaaGreatDoor.Cc

namespace Go.Proofs.YtbiijcljpgannaaGreatDoor.Cc
set_option maxRecDepth 100000
open Go Go.RowKit
set_option linter.unusedSimpArgs false

theorem word_at (a b c d : BitVec 8) (bb bo n cap : Nat) (hn : 4 ≤ n) (w : World)
    (h0 : w.cell? ⟨bb, bo, none⟩ = some (.int .u8 (a.toNat : Int))) (h1 : w.cell? ⟨bb, bo + 1, none⟩ = some (.int .u8 (b.toNat : Int)))
    (h2 : w.cell? ⟨bb, bo + 2, none⟩ = some (.int .u8 (c.toNat : Int))) (h3 : w.cell? ⟨bb, bo + 3, none⟩ = some (.int .u8 (d.toNat : Int))) :
    Calls Tryz.prog 124 #[.slice (some ⟨bb, bo, none⟩) n cap] w fun e w' => e = .returned (.int .u32 ((wd4 a b c d).toNat : Int)) ∧ ∃ m, w' = w.drewN m :=
  word_any [a, b, c, d] bb bo n cap hn w h0 h1 h2 h3

attribute [local irreducible] kTo fromS in
set_option maxHeartbeats 1000000 in
theorem state_any (key nonce : List (BitVec 8)) (hk : key.length = 32) (hn : nonce.length = 12) (count : BitVec 32) (w : World) :
    Calls Tryz.prog 112 #[.agg (encB key), .int .u32 (count.toNat : Int), .agg (encB nonce)] w fun e w' => e = .returned (.agg (enc (fromS key nonce count))) ∧ Mod (fun _ => False) w w' := by
  have h40 : (Tryz.prog.info? 154).map (·.size) = some (enc first4).size := by kernel_rfl
  replace hk := Lib.hid hk
  replace hn := Lib.hid hn
  replace h40 := Lib.hid h40
  go_enter Tryz.func112, Tryz.ntmps112
  go_wp2_with (refine wpList_store_row rfl 154 _ _ rfl _ (enc first4) rfl (by kernel_rfl) _ _ (hp_new _ _ _ (by simp)) h40.out rfl (enc_one first4) ?_)
  go_loopw [8] (fun i wr => ∃ k : Nat, k ≤ 8 ∧ i = .int .i64 k ∧ Mod (fun _ => False) w wr ∧ wr.heap[w.heap.size]? = some (.cells (encB key) 49 (0,0)) ∧ wr.heap[w.heap.size + 1]? = some (.cells (encB nonce) 50 (0,0)) ∧
    wr.heap[w.heap.size + 1 + 1]? = some (.cells (enc (List.replicate 16 0)) 154 (0,0)) ∧ wr.heap[w.heap.size + 1 + 1 + 1]? = some (.cells (enc (kTo first4 4 key k)) 154 (0,0))) (fun i _ => 8 - (intOf i).toNat)
  case atStart =>
    refine ⟨0, Nat.zero_le _, rfl, ((((Mod.refl _ w).alloc _).alloc _).alloc _).alloc _ |>.setRow (fun h => by omega) _, ?_, ?_, ?_, ?_⟩
    · rw [setRow_other _ _ _ _ (by omega)]
      rw [hp_old _ _ _ (by simp only [World.size_alloc]; omega), hp_old _ _ _ (by simp only [World.size_alloc]; omega), hp_old _ _ _ (by simp only [World.size_alloc]; omega), hp_new _ _ _ (by simp)]
    · rw [setRow_other _ _ _ _ (by omega)]
      rw [hp_old _ _ _ (by simp only [World.size_alloc]; omega), hp_old _ _ _ (by simp only [World.size_alloc]; omega), hp_new _ _ _ (by simp)]
    · rw [setRow_other _ _ _ _ (by omega)]
      rw [hp_old _ _ _ (by simp only [World.size_alloc]; omega), hp_new _ _ _ (by simp)]
      rfl
    · rw [kTo]
      exact setRow_heap _ _ _ _ _ _ (hp_new _ _ _ (by simp))
  case round =>
    obtain ⟨k, hk8, rfl, mr, ar, br, cr, dr⟩ := hrel
    by_cases hlt : k < 8
    · have c0 := encB_cell ar (i := 4 * k) (by rw [hk.out]; omega)
      have c1 := encB_cell ar (i := 4 * k + 1) (by rw [hk.out]; omega)
      have c2 := encB_cell ar (i := 4 * k + 2) (by rw [hk.out]; omega)
      have c3 := encB_cell ar (i := 4 * k + 3) (by rw [hk.out]; omega)
      have cd := enc_cell dr (i := 4 + k) (by rw [kTo_length]; simp [first4]; omega)
      have fd := frozen_of_row wr (w.heap.size + 1 + 1 + 1) (4 + k) _ _ dr
      have hlt' : (k : Int) < 8 := by omega
      have hsl := slice_array wr 49 5 32 w.heap.size Tryz.underlying49 rfl rfl (fun _ => by kernel_rfl) (4 * (k : Int)) (4 * (k : Int) + 4) (4 * k) (4 * k + 4) (by omega) (by omega) (by omega) (by omega) (by omega)
      rw [show 4 * k + 4 - 4 * k = 4 by omega] at hsl
      have H : ∀ nq, (wr.drewN nq).setCell ⟨w.heap.size + 1 + 1 + 1, 4 + k, none⟩ (.int .u32 ((wd4 (key.getD (4 * k) 0) (key.getD (4 * k + 1) 0) (key.getD (4 * k + 2) 0) (key.getD (4 * k + 3) 0)).toNat : Int)) = (wr.setRow (w.heap.size + 1 + 1 + 1) (enc (kTo first4 4 key (k + 1)))).drewN nq := by
        intro nq
        rw [setCell_row _ _ _ _ _ _ (show (wr.drewN nq).heap[w.heap.size + 1 + 1 + 1]? = _ from dr)]
        exact congrArg (fun z => (wr.setRow _ z).drewN nq) (by rw [kTo]; exact enc_set _ _ _)
      generalize key.getD (4 * k) 0 = x0 at *
      generalize key.getD (4 * k + 1) 0 = x1 at *
      generalize key.getD (4 * k + 2) 0 = x2 at *
      generalize key.getD (4 * k + 3) 0 = x3 at *
      generalize (kTo first4 4 key k).getD (4 + k) 0 = y at *
      replace H := Lib.hid H
      go_wp2_with fail
      refine (word_at x0 x1 x2 x3 _ _ _ _ (by omega) _ c0 c1 c2 c3).mono ?_
      rintro e w2 ⟨rfl, nq, rfl⟩
      generalize wd4 x0 x1 x2 x3 = z at *
      go_wp2
      go_roundw
      case rel =>
        refine ⟨k + 1, by omega, by go_num, ?_⟩
        rw [H.out]
        exact ⟨(mr.setRow (fun h => by omega) _).drewN nq, (setRow_other _ _ _ _ (by omega)).trans ar, (setRow_other _ _ _ _ (by omega)).trans br, (setRow_other _ _ _ _ (by omega)).trans cr, setRow_heap _ _ _ _ _ _ dr⟩
      case measure => simp [intOf]; omega
    · obtain rfl : k = 8 := by omega
      rw [show ((8 : Nat) : Int) = 8 from rfl]
      have l8 : (kTo first4 4 key 8).length = 16 := by rw [kTo_length]; rfl
      have hfin : fromS key nonce count = kTo ((kTo first4 4 key 8).set 12 count) 13 nonce 3 := fromS_eq key nonce count
      generalize kTo first4 4 key 8 = f at *
      have cd := enc_cell dr (i := 12) (by rw [l8]; decide)
      have fd := frozen_of_row wr (w.heap.size + 1 + 1 + 1) 12 _ _ dr
      obtain ⟨f1, hf1⟩ : ∃ f1, f1 = f.set 12 count := ⟨_, rfl⟩
      have l1 : f1.length = 16 := by rw [hf1, List.length_set, l8]
      have d1 : (wr.setCell ⟨w.heap.size + 1 + 1 + 1, 12, none⟩ (.int .u32 (count.toNat : Int))).heap[w.heap.size + 1 + 1 + 1]? = some (.cells (enc f1) 154 (0,0)) := by
        rw [setCell_row _ _ _ _ _ _ dr, hf1, ← enc_set]; exact setRow_heap _ _ _ _ _ _ dr
      have m1 : Mod (fun _ => False) w (wr.setCell ⟨w.heap.size + 1 + 1 + 1, 12, none⟩ (.int .u32 (count.toNat : Int))) := mr.setCell (fun h => by simp at h; omega) _
      have b1 := (Mod.one_setCell wr (w.heap.size + 1 + 1 + 1) 12 (.int .u32 (count.toNat : Int))).heap br (by omega)
      have c1 := (Mod.one_setCell wr (w.heap.size + 1 + 1 + 1) 12 (.int .u32 (count.toNat : Int))).heap cr (by omega)
      rw [← hf1] at hfin
      replace l8 := Lib.hid l8
      replace l1 := Lib.hid l1
      replace hf1 := Lib.hid hf1
      replace hfin := Lib.hid hfin
      replace d1 := Lib.hid d1
      replace m1 := Lib.hid m1
      replace b1 := Lib.hid b1
      replace c1 := Lib.hid c1
      obtain ⟨wo, rfl⟩ : ∃ wo : World, wo = wr := ⟨_, rfl⟩
      go_wp2
      go_loopw [9] (fun i wr => ∃ k : Nat, k ≤ 3 ∧ i = .int .i64 k ∧ Mod (fun _ => False) w wr ∧ wr.heap[w.heap.size + 1]? = some (.cells (encB nonce) 50 (0,0)) ∧
        wr.heap[w.heap.size + 1 + 1]? = some (.cells (enc (List.replicate 16 0)) 154 (0,0)) ∧ wr.heap[w.heap.size + 1 + 1 + 1]? = some (.cells (enc (kTo f1 13 nonce k)) 154 (0,0))) (fun i _ => 3 - (intOf i).toNat)
      case atStart => exact ⟨0, Nat.zero_le _, rfl, m1.out, b1.out, c1.out, by rw [kTo]; exact d1.out⟩
      case round =>
        clear mr ar br cr dr cd fd m1 b1 c1 d1
        obtain ⟨k, hk8, rfl, mr, br, cr, dr⟩ := hrel
        by_cases hlt : k < 3
        · have c0 := encB_cell br (i := 4 * k) (by rw [hn.out]; omega)
          have c1 := encB_cell br (i := 4 * k + 1) (by rw [hn.out]; omega)
          have c2 := encB_cell br (i := 4 * k + 2) (by rw [hn.out]; omega)
          have c3 := encB_cell br (i := 4 * k + 3) (by rw [hn.out]; omega)
          have cd := enc_cell dr (i := 13 + k) (by rw [kTo_length, l1.out]; omega)
          have fd := frozen_of_row wr (w.heap.size + 1 + 1 + 1) (13 + k) _ _ dr
          have hlt' : (k : Int) < 3 := by omega
          have hsl := slice_array wr 50 5 12 (w.heap.size + 1) Tryz.underlying50 rfl rfl (fun _ => by kernel_rfl) (4 * (k : Int)) (4 * (k : Int) + 4) (4 * k) (4 * k + 4) (by omega) (by omega) (by omega) (by omega) (by omega)
          rw [show 4 * k + 4 - 4 * k = 4 by omega] at hsl
          have H : ∀ nq, (wr.drewN nq).setCell ⟨w.heap.size + 1 + 1 + 1, 13 + k, none⟩ (.int .u32 ((wd4 (nonce.getD (4 * k) 0) (nonce.getD (4 * k + 1) 0) (nonce.getD (4 * k + 2) 0) (nonce.getD (4 * k + 3) 0)).toNat : Int)) = (wr.setRow (w.heap.size + 1 + 1 + 1) (enc (kTo f1 13 nonce (k + 1)))).drewN nq := by
            intro nq
            rw [setCell_row _ _ _ _ _ _ (show (wr.drewN nq).heap[w.heap.size + 1 + 1 + 1]? = _ from dr)]
            exact congrArg (fun z => (wr.setRow _ z).drewN nq) (by rw [kTo]; exact enc_set _ _ _)
          generalize nonce.getD (4 * k) 0 = x0 at *
          generalize nonce.getD (4 * k + 1) 0 = x1 at *
          generalize nonce.getD (4 * k + 2) 0 = x2 at *
          generalize nonce.getD (4 * k + 3) 0 = x3 at *
          generalize (kTo f1 13 nonce k).getD (13 + k) 0 = y at *
          replace H := Lib.hid H
          go_wp2_with fail
          refine (word_at x0 x1 x2 x3 _ _ _ _ (by omega) _ c0 c1 c2 c3).mono ?_
          rintro e w2 ⟨rfl, nq, rfl⟩
          generalize wd4 x0 x1 x2 x3 = z at *
          go_wp2
          go_roundw
          case rel =>
            refine ⟨k + 1, by omega, by go_num, ?_⟩
            rw [H.out]
            exact ⟨(mr.setRow (fun h => by omega) _).drewN nq, (setRow_other _ _ _ _ (by omega)).trans br, (setRow_other _ _ _ _ (by omega)).trans cr, setRow_heap _ _ _ _ _ _ dr⟩
          case measure => simp [intOf]; omega
        · obtain rfl : k = 3 := by omega
          have lb : (fromS key nonce count).length = 16 := fromS_length key nonce count
          rw [← hfin.out] at dr
          generalize hbs : fromS key nonce count = b at *
          have h4 : (Tryz.prog.info? 154).map (·.size) = some (enc b).size := by rw [enc_size, lb]; kernel_rfl
          have hz : (enc (List.replicate 16 0)).size = (enc b).size := by rw [enc_size, enc_size, lb]; rfl
          replace hbs := Lib.hid hbs
          replace h4 := Lib.hid h4
          replace lb := Lib.hid lb
          replace hz := Lib.hid hz
          go_wp2_with (first | (refine wpList_load_row rfl 154 _ rfl _ rfl _ _ (0,0) _ dr Tryz.underlying154 rfl h4.out ?_) | (refine wpList_store_row rfl 154 _ _ rfl _ (enc b) rfl rfl _ _ cr h4.out hz.out (enc_one b) ?_))
          refine bodyPost_ret (results_cell_row Tryz.results112 _ _ (w.heap.size + 1 + 1) _ (enc b) (0,0) _ rfl (setRow_heap _ _ _ _ _ _ cr) Tryz.underlying154 rfl h4.out) rfl ⟨by rw [hbs.out], ?_⟩
          exact mr.setRow (fun h => by omega) _
end Go.Proofs.YtbiijcljpgannaaGreatDoor.Cc

namespace Go.Proofs.YtbiijcljpgannaaGreatDoor.Cc
set_option maxRecDepth 100000
open Go Go.RowKit
set_option linter.unusedSimpArgs false

theorem rounds_succ_qr (k : Nat) (f : List (BitVec 32)) : rounds (k + 1) f = qr (qr (qr (qr (qr (qr (qr (qr (rounds k f) 0 4 8 12) 1 5 9 13) 2 6 10 14) 3 7 11 15) 0 5 10 15) 1 6 11 12) 2 7 8 13) 3 4 9 14 := rfl

attribute [local irreducible] outTo rounds fromS blockS kTo qr in
set_option maxRecDepth 10000 in
set_option maxHeartbeats 1000000 in
theorem refblock_any (key nonce : List (BitVec 8)) (hk : key.length = 32) (hn : nonce.length = 12) (count : BitVec 32) (w : World) :
    Calls Tryz.prog 73 #[.agg (encB key), .int .u32 (count.toNat : Int), .agg (encB nonce)] w fun e w' => e = .returned (.agg (encB (blockS key nonce count))) ∧ Mod (fun _ => False) w w' := by
  have h22 : (Tryz.prog.info? 49).map (·.size) = some (encB key).size := by rw [encB_size, hk]; kernel_rfl
  have h24 : (Tryz.prog.info? 50).map (·.size) = some (encB nonce).size := by rw [encB_size, hn]; kernel_rfl
  replace h22 := Lib.hid h22
  replace h24 := Lib.hid h24
  go_enter Tryz.func73, Tryz.ntmps73
  have a0 : ∀ o, (((w.alloc (.cells (encB key) 49)).alloc (.cells (encB nonce) 50)).alloc o).heap[w.heap.size]? = some (.cells (encB key) 49 (0,0)) := by
    intro o
    rw [hp_old _ _ _ (by simp only [World.size_alloc]; omega), hp_old _ _ _ (by simp only [World.size_alloc]; omega), hp_new _ _ _ (by simp)]
  have b0 : ∀ o, (((w.alloc (.cells (encB key) 49)).alloc (.cells (encB nonce) 50)).alloc o).heap[w.heap.size + 1]? = some (.cells (encB nonce) 50 (0,0)) := by
    intro o
    rw [hp_old _ _ _ (by simp only [World.size_alloc]; omega), hp_new _ _ _ (by simp)]
  replace a0 := Lib.hid a0
  replace b0 := Lib.hid b0
  go_wp2_with (first | (refine wpList_load_row rfl 49 _ rfl _ rfl _ _ (0,0) _ (a0.out _) Tryz.underlying49 rfl h22.out ?_) | (refine wpList_load_row rfl 50 _ rfl _ rfl _ _ (0,0) _ (b0.out _) Tryz.underlying50 rfl h24.out ?_))
  refine calls_world ?_
  intro w1 hw1
  have s1 : w.heap.size + 3 ≤ w1.heap.size := by rw [hw1]; simp
  have m1 : Mod (fun _ => False) w w1 := by rw [hw1]; exact (((Mod.refl _ w).alloc _).alloc _).alloc _
  have c1 : w1.heap[w.heap.size + 1 + 1]? = some (.cells (encB (List.replicate 64 0)) 72 (0,0)) := by
    rw [hw1]
    rw [hp_new _ _ _ (by simp)]
    rfl
  clear hw1
  refine (state_any key nonce hk hn count w1).mono ?_
  rintro e w5 ⟨rfl, m5⟩
  have c5 := m5.heap c1 (fun h => h)
  replace s1 := Nat.le_trans s1 m5.size
  replace m5 := m1.trans m5
  clear c1
  have lf := fromS_length key nonce count
  have hout : blockS key nonce count = outTo (rounds 10 (fromS key nonce count)) (fromS key nonce count) 64 := by rw [blockS]
  generalize fromS key nonce count = f at *
  have h40 : (Tryz.prog.info? 154).map (·.size) = some (enc f).size := by rw [enc_size, lf]; kernel_rfl
  have hz : (16 : Nat) = (enc f).size := by rw [enc_size, lf]
  replace h40 := Lib.hid h40
  replace hz := Lib.hid hz
  replace lf := Lib.hid lf
  replace hout := Lib.hid hout
  replace hk := Lib.hid hk
  replace hn := Lib.hid hn
  go_wp2_with (first | (refine wpList_store_row rfl 154 _ _ rfl _ (enc f) rfl rfl _ _ (hp_new _ _ _ (by simp)) h40.out hz.out (enc_one f) ?_) | (refine wpList_load_row rfl 154 _ rfl _ rfl 154 (enc f) (0,0) _ (setRow_heap _ _ _ _ _ _ (hp_new _ _ _ (by simp))) Tryz.underlying154 rfl h40.out ?_))
  go_loopw [9] (fun i wr => ∃ k : Nat, k ≤ 10 ∧ i = .int .i64 k ∧ Mod (fun _ => False) w wr ∧ w5.heap.size + 1 < wr.heap.size ∧ wr.heap[w.heap.size + 1 + 1]? = some (.cells (encB (List.replicate 64 0)) 72 (0,0)) ∧ wr.heap[w5.heap.size]? = some (.cells (enc f) 154 (0,0)) ∧ wr.heap[w5.heap.size + 1]? = some (.cells (enc (rounds k f)) 154 (0,0))) (fun i _ => 10 - (intOf i).toNat)
  case atStart =>
    refine ⟨0, Nat.zero_le _, rfl, (((m5.alloc _).setRow (fun h => by omega) _).alloc _).setRow (fun h => by omega) _, by simp, ?_, ?_, ?_⟩
    · rw [setRow_other _ _ _ _ (by omega), hp_old _ _ _ (by simp; omega), setRow_other _ _ _ _ (by omega), hp_old _ _ _ (by omega)]; exact c5
    · rw [setRow_other _ _ _ _ (by omega), hp_old _ _ _ (by simp)]; exact setRow_heap _ _ _ _ _ _ (heap_alloc_new w5 _)
    · rw [rounds]; exact setRow_heap _ _ _ _ _ _ (hp_new _ _ _ (by simp))
  case round =>
    obtain ⟨k, hk, rfl, mr, sr, cr, dr, er⟩ := hrel
    by_cases hlt : k < 10
    · clear c5
      go_wp2_with fail
      refine (quarter_any _ _ _ 0 4 8 12 _ (by simp only [qr_length, rounds_length]; exact lf.out) er (by decide) (by decide) (by decide) (by decide) (by decide) (by decide)).mono ?_
      rintro e w7 ⟨rfl, m7, e7⟩
      replace dr := m7.heap dr (by omega)
      replace cr := m7.heap cr (by omega)
      replace sr := Nat.lt_of_lt_of_le sr m7.size
      replace mr := mr.trans' m7 (fun i hi e => by have := m1.size; omega)
      replace er := e7
      clear e7 m7
      go_wp2_with fail
      refine (quarter_any _ _ _ 1 5 9 13 _ (by simp only [qr_length, rounds_length]; exact lf.out) er (by decide) (by decide) (by decide) (by decide) (by decide) (by decide)).mono ?_
      rintro e w7 ⟨rfl, m7, e7⟩
      replace dr := m7.heap dr (by omega)
      replace cr := m7.heap cr (by omega)
      replace sr := Nat.lt_of_lt_of_le sr m7.size
      replace mr := mr.trans' m7 (fun i hi e => by have := m1.size; omega)
      replace er := e7
      clear e7 m7
      go_wp2_with fail
      refine (quarter_any _ _ _ 2 6 10 14 _ (by simp only [qr_length, rounds_length]; exact lf.out) er (by decide) (by decide) (by decide) (by decide) (by decide) (by decide)).mono ?_
      rintro e w7 ⟨rfl, m7, e7⟩
      replace dr := m7.heap dr (by omega)
      replace cr := m7.heap cr (by omega)
      replace sr := Nat.lt_of_lt_of_le sr m7.size
      replace mr := mr.trans' m7 (fun i hi e => by have := m1.size; omega)
      replace er := e7
      clear e7 m7
      go_wp2_with fail
      refine (quarter_any _ _ _ 3 7 11 15 _ (by simp only [qr_length, rounds_length]; exact lf.out) er (by decide) (by decide) (by decide) (by decide) (by decide) (by decide)).mono ?_
      rintro e w7 ⟨rfl, m7, e7⟩
      replace dr := m7.heap dr (by omega)
      replace cr := m7.heap cr (by omega)
      replace sr := Nat.lt_of_lt_of_le sr m7.size
      replace mr := mr.trans' m7 (fun i hi e => by have := m1.size; omega)
      replace er := e7
      clear e7 m7
      go_wp2_with fail
      refine (quarter_any _ _ _ 0 5 10 15 _ (by simp only [qr_length, rounds_length]; exact lf.out) er (by decide) (by decide) (by decide) (by decide) (by decide) (by decide)).mono ?_
      rintro e w7 ⟨rfl, m7, e7⟩
      replace dr := m7.heap dr (by omega)
      replace cr := m7.heap cr (by omega)
      replace sr := Nat.lt_of_lt_of_le sr m7.size
      replace mr := mr.trans' m7 (fun i hi e => by have := m1.size; omega)
      replace er := e7
      clear e7 m7
      go_wp2_with fail
      refine (quarter_any _ _ _ 1 6 11 12 _ (by simp only [qr_length, rounds_length]; exact lf.out) er (by decide) (by decide) (by decide) (by decide) (by decide) (by decide)).mono ?_
      rintro e w7 ⟨rfl, m7, e7⟩
      replace dr := m7.heap dr (by omega)
      replace cr := m7.heap cr (by omega)
      replace sr := Nat.lt_of_lt_of_le sr m7.size
      replace mr := mr.trans' m7 (fun i hi e => by have := m1.size; omega)
      replace er := e7
      clear e7 m7
      go_wp2_with fail
      refine (quarter_any _ _ _ 2 7 8 13 _ (by simp only [qr_length, rounds_length]; exact lf.out) er (by decide) (by decide) (by decide) (by decide) (by decide) (by decide)).mono ?_
      rintro e w7 ⟨rfl, m7, e7⟩
      replace dr := m7.heap dr (by omega)
      replace cr := m7.heap cr (by omega)
      replace sr := Nat.lt_of_lt_of_le sr m7.size
      replace mr := mr.trans' m7 (fun i hi e => by have := m1.size; omega)
      replace er := e7
      clear e7 m7
      go_wp2_with fail
      refine (quarter_any _ _ _ 3 4 9 14 _ (by simp only [qr_length, rounds_length]; exact lf.out) er (by decide) (by decide) (by decide) (by decide) (by decide) (by decide)).mono ?_
      rintro e w7 ⟨rfl, m7, e7⟩
      replace dr := m7.heap dr (by omega)
      replace cr := m7.heap cr (by omega)
      replace sr := Nat.lt_of_lt_of_le sr m7.size
      replace mr := mr.trans' m7 (fun i hi e => by have := m1.size; omega)
      replace er := e7
      clear e7 m7
      go_wp2
      go_roundw
      case rel => exact ⟨k + 1, by omega, by go_num, mr, sr, cr, dr, by rw [rounds_succ_qr]; exact er⟩
      case measure => simp [intOf]; omega
    · obtain rfl : k = 10 := by omega
      rw [show ((10 : Nat) : Int) = 10 from rfl]
      clear c5 m5 s1
      have ls : (rounds 10 f).length = 16 := by rw [rounds_length]; exact lf.out
      generalize rounds 10 f = s at *
      replace ls := Lib.hid ls
      obtain ⟨wo, rfl⟩ : ∃ wo : World, wo = wr := ⟨_, rfl⟩
      go_wp2
      go_loopw [11] (fun i wr => ∃ k : Nat, k ≤ 64 ∧ i = .int .i64 k ∧ Mod (fun _ => False) w wr ∧ wr.heap[w.heap.size + 1 + 1]? = some (.cells (encB (List.replicate 64 0)) 72 (0,0)) ∧ wr.heap[w5.heap.size]? = some (.cells (enc f) 154 (0,0)) ∧ wr.heap[w5.heap.size + 1]? = some (.cells (enc s) 154 (0,0)) ∧ wr.heap[wo.heap.size]? = some (.cells (encB (outTo s f k)) 72 (0,0))) (fun i _ => 64 - (intOf i).toNat)
      case atStart =>
        refine ⟨0, Nat.zero_le _, rfl, mr.alloc _, ?_, ?_, ?_, ?_⟩
        · rw [hp_old _ _ _ (lt_of_heap cr)]; exact cr
        · rw [hp_old _ _ _ (lt_of_heap dr)]; exact dr
        · rw [hp_old _ _ _ (lt_of_heap er)]; exact er
        · rw [hp_new _ _ _ rfl, outTo]; rfl
      case round =>
        have hC := lt_of_heap cr
        have hS := mr.size
        clear mr cr dr er
        obtain ⟨k, hk, rfl, mr, cr, dr, er, orr⟩ := hrel
        by_cases hlt : k < 64
        · have hl : k < (outTo s f k).length := by rw [outTo_length]; exact hlt
          obtain ⟨q, r, hkq, hr⟩ : ∃ q r, k = 4 * q + r ∧ r < 4 := ⟨k / 4, k % 4, by omega, by omega⟩
          have hq : (k : Int) / 4 = (q : Nat) := by omega
          have hq16 : (q : Int) < 16 := by omega
          have cs := enc_cell er (i := q) (by rw [ls.out]; omega)
          have cf := enc_cell dr (i := q) (by rw [lf.out]; omega)
          have co := encB_cell orr hl
          have fo := frozen_of_row wr wo.heap.size k _ _ orr
          have H : ∀ (nq m : Nat) (v : Int), k % 4 * 8 = m → v = ((((s.getD q 0 + f.getD q 0) >>> m).setWidth 8 : BitVec 8).toNat : Int) →
              Mod (fun _ => False) w ((wr.drewN nq).setCell ⟨wo.heap.size, k, none⟩ (.int .u8 v)) ∧ ((wr.drewN nq).setCell ⟨wo.heap.size, k, none⟩ (.int .u8 v)).heap[w.heap.size + 1 + 1]? = some (.cells (encB (List.replicate 64 0)) 72 (0,0)) ∧
              ((wr.drewN nq).setCell ⟨wo.heap.size, k, none⟩ (.int .u8 v)).heap[w5.heap.size]? = some (.cells (enc f) 154 (0,0)) ∧ ((wr.drewN nq).setCell ⟨wo.heap.size, k, none⟩ (.int .u8 v)).heap[w5.heap.size + 1]? = some (.cells (enc s) 154 (0,0)) ∧ ((wr.drewN nq).setCell ⟨wo.heap.size, k, none⟩ (.int .u8 v)).heap[wo.heap.size]? = some (.cells (encB (outTo s f (k + 1))) 72 (0,0)) := by
            intro nq m v h1 h2
            have e : (wr.drewN nq).setCell ⟨wo.heap.size, k, none⟩ (.int .u8 v) = (wr.setRow wo.heap.size (encB (outTo s f (k + 1)))).drewN nq := by
              rw [setCell_row _ _ _ _ _ _ (show (wr.drewN nq).heap[wo.heap.size]? = _ from orr), h2, ← h1]
              exact congrArg (fun z => (wr.setRow _ z).drewN nq) (by rw [outTo, encB_set, outAt, show k / 4 = q by omega])
            rw [e]
            exact ⟨(mr.setRow (fun h => by omega) _).drewN nq, (setRow_other _ _ _ _ (by omega)).trans cr, (setRow_other _ _ _ _ (by omega)).trans dr, (setRow_other _ _ _ _ (by omega)).trans er, setRow_heap _ _ _ _ _ _ orr⟩
          generalize s.getD q 0 = x at *
          generalize f.getD q 0 = y at *
          generalize (outTo s f k).getD k 0 = z at *
          replace H := Lib.hid H
          replace hkq := Lib.hid hkq
          clear mr cr dr er orr hl sr hC hS
          have h4 : r = 0 ∨ r = 1 ∨ r = 2 ∨ r = 3 := by omega
          rcases h4 with rfl | rfl | rfl | rfl
          · have er : (k : Int) % 4 = 0 := by have := hkq.out; omega
            go_wp2
            refine region_qtail 16 (by kernel_rfl) (by kernel_rfl) ?_
            simp only [List.take_succ_cons, List.take_zero, List.drop_succ_cons, List.drop_zero]
            repeat (go_big_quiet_step (fail))
            refine wpQuiet_nil ?_
            rintro _ ⟨nq, rfl⟩
            go_wp2
            go_roundw
            case rel => exact ⟨k + 1, by omega, by go_num, H.out nq 0 _ (by have := hkq.out; omega) (by rw [← byte_of x y 0 1 rfl]; omega)⟩
            case measure => simp [intOf]; omega
          · have er : (k : Int) % 4 = 1 := by have := hkq.out; omega
            go_wp2
            refine region_qtail 16 (by kernel_rfl) (by kernel_rfl) ?_
            simp only [List.take_succ_cons, List.take_zero, List.drop_succ_cons, List.drop_zero]
            repeat (go_big_quiet_step (fail))
            refine wpQuiet_nil ?_
            rintro _ ⟨nq, rfl⟩
            go_wp2
            go_roundw
            case rel => exact ⟨k + 1, by omega, by go_num, H.out nq 8 _ (by have := hkq.out; omega) (byte_of x y 8 256 rfl)⟩
            case measure => simp [intOf]; omega
          · have er : (k : Int) % 4 = 2 := by have := hkq.out; omega
            go_wp2
            refine region_qtail 16 (by kernel_rfl) (by kernel_rfl) ?_
            simp only [List.take_succ_cons, List.take_zero, List.drop_succ_cons, List.drop_zero]
            repeat (go_big_quiet_step (fail))
            refine wpQuiet_nil ?_
            rintro _ ⟨nq, rfl⟩
            go_wp2
            go_roundw
            case rel => exact ⟨k + 1, by omega, by go_num, H.out nq 16 _ (by have := hkq.out; omega) (byte_of x y 16 65536 rfl)⟩
            case measure => simp [intOf]; omega
          · have er : (k : Int) % 4 = 3 := by have := hkq.out; omega
            go_wp2
            refine region_qtail 16 (by kernel_rfl) (by kernel_rfl) ?_
            simp only [List.take_succ_cons, List.take_zero, List.drop_succ_cons, List.drop_zero]
            repeat (go_big_quiet_step (fail))
            refine wpQuiet_nil ?_
            rintro _ ⟨nq, rfl⟩
            go_wp2
            go_roundw
            case rel => exact ⟨k + 1, by omega, by go_num, H.out nq 24 _ (by have := hkq.out; omega) (by rw [← byte_of x y 24 16777216 rfl]; omega)⟩
            case measure => simp [intOf]; omega
        · obtain rfl : k = 64 := by omega
          rw [← hout.out] at orr
          have lb : (blockS key nonce count).length = 64 := by rw [hout.out, outTo_length]
          generalize hbs : blockS key nonce count = b at *
          have h27 : (Tryz.prog.info? 72).map (·.size) = some (encB b).size := by rw [encB_size, lb]; kernel_rfl
          have hzz : (encB (List.replicate 64 0)).size = (encB b).size := by rw [encB_size, encB_size, lb]; rfl
          replace hbs := Lib.hid hbs
          replace h27 := Lib.hid h27
          replace hzz := Lib.hid hzz
          replace lb := Lib.hid lb
          go_wp2_with (first | (refine wpList_load_row rfl 72 _ rfl _ rfl _ _ (0,0) _ orr Tryz.underlying72 rfl h27.out ?_) | (refine wpList_store_row rfl 72 _ _ rfl _ (encB b) rfl rfl _ _ cr h27.out hzz.out (encB_one b) ?_))
          refine bodyPost_ret (results_cell_row Tryz.results73 _ _ (w.heap.size + 1 + 1) _ (encB b) (0,0) _ rfl (setRow_heap _ _ _ _ _ _ cr) Tryz.underlying72 rfl h27.out) rfl ⟨by rw [hbs.out], ?_⟩
          exact mr.setRow (fun h => by omega) _
end Go.Proofs.YtbiijcljpgannaaGreatDoor.Cc
