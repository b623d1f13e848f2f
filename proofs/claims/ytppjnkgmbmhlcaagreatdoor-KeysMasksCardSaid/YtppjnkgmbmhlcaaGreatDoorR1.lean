/-
  mailcoachref02: a word turned, the words, the first state. Printed by gen/ref1.py.
-/
import Derived.BigQuiet
import Derived.Test.YtppjnkgmbmhlcaaGreatDoorK9
namespace Go.Proofs.YtppjnkgmbmhlcaaGreatDoor
set_option maxRecDepth 100000
open Go Go.RowKit Go.Lib
set_option linter.unusedSimpArgs false
set_option linter.unusedVariables false

theorem rot32r (x : BitVec 32) (p q : Nat) (n m : Nat) (hm : m = 32 - n) (hp : p = 2 ^ m) (hq : q = 2 ^ n) : bits .or .u32 ((x.toNat : Int) / (q : Nat)) ((x.toNat : Int) * (p : Nat) % 4294967296) = ((rr x n).toNat : Int) := by
  rw [shl32 x p m hp, shr32 x q n hq, bits_or32, rr, hm]
theorem turn17_u (x : BitVec 32) (w : World) : Calls Tryz.prog 130 #[.int .u32 (x.toNat : Int), .int .i64 17] w fun e w' => e = .returned (.int .u32 ((rr x 17).toNat : Int)) ∧ ∃ m, w' = w.drewN m := by
  have H := rot32r x 32768 131072 17 15 (by omega) rfl rfl
  replace H := Lib.hid H
  go_enter Tryz.func130, Tryz.ntmps130
  go_upto_region 1 with (fail)
  go_quiet (fail)
  go_wp2
  go_ret
  exact ⟨ret_int H.out, nq, rfl⟩
theorem turn19_u (x : BitVec 32) (w : World) : Calls Tryz.prog 130 #[.int .u32 (x.toNat : Int), .int .i64 19] w fun e w' => e = .returned (.int .u32 ((rr x 19).toNat : Int)) ∧ ∃ m, w' = w.drewN m := by
  have H := rot32r x 8192 524288 19 13 (by omega) rfl rfl
  replace H := Lib.hid H
  go_enter Tryz.func130, Tryz.ntmps130
  go_upto_region 1 with (fail)
  go_quiet (fail)
  go_wp2
  go_ret
  exact ⟨ret_int H.out, nq, rfl⟩
theorem turn7_u (x : BitVec 32) (w : World) : Calls Tryz.prog 130 #[.int .u32 (x.toNat : Int), .int .i64 7] w fun e w' => e = .returned (.int .u32 ((rr x 7).toNat : Int)) ∧ ∃ m, w' = w.drewN m := by
  have H := rot32r x 33554432 128 7 25 (by omega) rfl rfl
  replace H := Lib.hid H
  go_enter Tryz.func130, Tryz.ntmps130
  go_upto_region 1 with (fail)
  go_quiet (fail)
  go_wp2
  go_ret
  exact ⟨ret_int H.out, nq, rfl⟩
theorem turn18_u (x : BitVec 32) (w : World) : Calls Tryz.prog 130 #[.int .u32 (x.toNat : Int), .int .i64 18] w fun e w' => e = .returned (.int .u32 ((rr x 18).toNat : Int)) ∧ ∃ m, w' = w.drewN m := by
  have H := rot32r x 16384 262144 18 14 (by omega) rfl rfl
  replace H := Lib.hid H
  go_enter Tryz.func130, Tryz.ntmps130
  go_upto_region 1 with (fail)
  go_quiet (fail)
  go_wp2
  go_ret
  exact ⟨ret_int H.out, nq, rfl⟩
theorem turn6_u (x : BitVec 32) (w : World) : Calls Tryz.prog 130 #[.int .u32 (x.toNat : Int), .int .i64 6] w fun e w' => e = .returned (.int .u32 ((rr x 6).toNat : Int)) ∧ ∃ m, w' = w.drewN m := by
  have H := rot32r x 67108864 64 6 26 (by omega) rfl rfl
  replace H := Lib.hid H
  go_enter Tryz.func130, Tryz.ntmps130
  go_upto_region 1 with (fail)
  go_quiet (fail)
  go_wp2
  go_ret
  exact ⟨ret_int H.out, nq, rfl⟩
theorem turn11_u (x : BitVec 32) (w : World) : Calls Tryz.prog 130 #[.int .u32 (x.toNat : Int), .int .i64 11] w fun e w' => e = .returned (.int .u32 ((rr x 11).toNat : Int)) ∧ ∃ m, w' = w.drewN m := by
  have H := rot32r x 2097152 2048 11 21 (by omega) rfl rfl
  replace H := Lib.hid H
  go_enter Tryz.func130, Tryz.ntmps130
  go_upto_region 1 with (fail)
  go_quiet (fail)
  go_wp2
  go_ret
  exact ⟨ret_int H.out, nq, rfl⟩
theorem turn25_u (x : BitVec 32) (w : World) : Calls Tryz.prog 130 #[.int .u32 (x.toNat : Int), .int .i64 25] w fun e w' => e = .returned (.int .u32 ((rr x 25).toNat : Int)) ∧ ∃ m, w' = w.drewN m := by
  have H := rot32r x 128 33554432 25 7 (by omega) rfl rfl
  replace H := Lib.hid H
  go_enter Tryz.func130, Tryz.ntmps130
  go_upto_region 1 with (fail)
  go_quiet (fail)
  go_wp2
  go_ret
  exact ⟨ret_int H.out, nq, rfl⟩
theorem turn2_u (x : BitVec 32) (w : World) : Calls Tryz.prog 130 #[.int .u32 (x.toNat : Int), .int .i64 2] w fun e w' => e = .returned (.int .u32 ((rr x 2).toNat : Int)) ∧ ∃ m, w' = w.drewN m := by
  have H := rot32r x 1073741824 4 2 30 (by omega) rfl rfl
  replace H := Lib.hid H
  go_enter Tryz.func130, Tryz.ntmps130
  go_upto_region 1 with (fail)
  go_quiet (fail)
  go_wp2
  go_ret
  exact ⟨ret_int H.out, nq, rfl⟩
theorem turn13_u (x : BitVec 32) (w : World) : Calls Tryz.prog 130 #[.int .u32 (x.toNat : Int), .int .i64 13] w fun e w' => e = .returned (.int .u32 ((rr x 13).toNat : Int)) ∧ ∃ m, w' = w.drewN m := by
  have H := rot32r x 524288 8192 13 19 (by omega) rfl rfl
  replace H := Lib.hid H
  go_enter Tryz.func130, Tryz.ntmps130
  go_upto_region 1 with (fail)
  go_quiet (fail)
  go_wp2
  go_ret
  exact ⟨ret_int H.out, nq, rfl⟩
theorem turn22_u (x : BitVec 32) (w : World) : Calls Tryz.prog 130 #[.int .u32 (x.toNat : Int), .int .i64 22] w fun e w' => e = .returned (.int .u32 ((rr x 22).toNat : Int)) ∧ ∃ m, w' = w.drewN m := by
  have H := rot32r x 1024 4194304 22 10 (by omega) rfl rfl
  replace H := Lib.hid H
  go_enter Tryz.func130, Tryz.ntmps130
  go_upto_region 1 with (fail)
  go_quiet (fail)
  go_wp2
  go_ret
  exact ⟨ret_int H.out, nq, rfl⟩
theorem refWords_any (w : World) : Calls Tryz.prog 131 #[] w fun e w' => Mod (fun _ => False) w w' ∧ e = .returned (.agg (encW K0).toArray) := by
  obtain ⟨w1, hw1⟩ : ∃ w1, w1 = w.alloc (.cells (encW (zw 64)).toArray 168) := ⟨_, rfl⟩
  have x1 : WordsAt w1 w.heap.size 168 (zw 64) := by rw [hw1]; exact hp_new _ _ _ rfl
  have m1 : Mod (fun _ => False) w w1 := by rw [hw1]; exact (Mod.refl _ _).alloc _
  have hlen : K0.length = 64 := rfl
  obtain ⟨w2, s2, m2, x2⟩ := words_store x1 (s' := K0) rfl (by rw [hlen]; exact info64)
  have hfin : Mod (fun _ => False) w w2 := m1.trans' m2 (fun i hi h => by omega)
  replace hw1 := Lib.hid hw1
  replace hfin := Lib.hid hfin
  clear m1 m2 x1
  go_enter Tryz.func131, Tryz.ntmps131
  go_upto_region 0 with (fail)
  refine wp_region_lit ?_
  refine wpList_yields (by kernel_rfl) _ _ (alloc_arr 168 _ zero64 _ _ _ rfl) ?_
  simp only [Act.put, List.setIfInBounds_toArray, List.set_cons_zero, List.set_cons_succ]
  rw [← hw1.out]
  go_upto_region 1 with (fail)
  refine wp_region_lit ?_
  refine wpList_yields (by kernel_rfl) (.agg (encW K0).toArray) w1 (by kernel_rfl) ?_
  simp only [Act.put, List.setIfInBounds_toArray, List.set_cons_zero, List.set_cons_succ]
  refine wpList_store_to rfl _ _ _ rfl _ _ _ rfl rfl _ s2 ?_
  simp only [Act.put, List.setIfInBounds_toArray, List.set_cons_zero, List.set_cons_succ]
  go_wp2
  exact bodyPost_ret (results_words rfl _ _ w.heap.size _ rfl x2 Tryz.underlying168 rfl (by rw [hlen]; exact info64)) rfl ⟨hfin.out, rfl⟩
theorem refBegin_any (w : World) : Calls Tryz.prog 112 #[] w fun e w' => Mod (fun _ => False) w w' ∧ e = .returned (.agg (encW H0).toArray) := by
  obtain ⟨w1, hw1⟩ : ∃ w1, w1 = w.alloc (.cells (encW (zw 8)).toArray 166) := ⟨_, rfl⟩
  have x1 : WordsAt w1 w.heap.size 166 (zw 8) := by rw [hw1]; exact hp_new _ _ _ rfl
  have m1 : Mod (fun _ => False) w w1 := by rw [hw1]; exact (Mod.refl _ _).alloc _
  have hlen : H0.length = 8 := rfl
  obtain ⟨w2, s2, m2, x2⟩ := words_store x1 (s' := H0) rfl (by rw [hlen]; exact info8)
  have hfin : Mod (fun _ => False) w w2 := m1.trans' m2 (fun i hi h => by omega)
  replace hw1 := Lib.hid hw1
  replace hfin := Lib.hid hfin
  clear m1 m2 x1
  go_enter Tryz.func112, Tryz.ntmps112
  go_upto_region 0 with (fail)
  refine wp_region_lit ?_
  refine wpList_yields (by kernel_rfl) _ _ (alloc_arr 166 _ zero8 _ _ _ rfl) ?_
  simp only [Act.put, List.setIfInBounds_toArray, List.set_cons_zero, List.set_cons_succ]
  rw [← hw1.out]
  go_upto_region 1 with (fail)
  refine wp_region_lit ?_
  refine wpList_yields (by kernel_rfl) (.agg (encW H0).toArray) w1 (by kernel_rfl) ?_
  simp only [Act.put, List.setIfInBounds_toArray, List.set_cons_zero, List.set_cons_succ]
  refine wpList_store_to rfl _ _ _ rfl _ _ _ rfl rfl _ s2 ?_
  simp only [Act.put, List.setIfInBounds_toArray, List.set_cons_zero, List.set_cons_succ]
  go_wp2
  exact bodyPost_ret (results_words rfl _ _ w.heap.size _ rfl x2 Tryz.underlying166 rfl (by rw [hlen]; exact info8)) rfl ⟨hfin.out, rfl⟩
end Go.Proofs.YtppjnkgmbmhlcaaGreatDoor
