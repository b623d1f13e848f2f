/-
  The walk of ChachaBlocks: the block of the program and the document's block are one.
-/
import Derived.Test.YtndfgjajpmccjaaFrom
namespace Go.Proofs.Ytndfgjajpmccjaa
open Go Go.RowKit
set_option linter.unusedSimpArgs false

theorem blockS_length (key nonce : List (BitVec 8)) (count : BitVec 32) : (blockS key nonce count).length = 64 := by rw [blockS, outTo_length]

attribute [local irreducible] blockS in
theorem blocks_walk (key nonce : List (BitVec 8)) (count : BitVec 32) (hk : key.length = 32) (hn : nonce.length = 12) (w : World) :
    Calls Try.prog 3 #[.agg (fromC key count nonce)] w fun e w' => e = .returned (.bool true) ∧ Below w.heap.size w w' := by
  obtain ⟨w1, hw1⟩ : ∃ w1, w1 = w.alloc (.cells (fromC key count nonce) 26) := ⟨_, rfl⟩
  have hg : w1.heap[w.heap.size]? = some (.cells (fromC key count nonce) 26 (0,0)) := by rw [hw1]; exact heap_alloc_new w _
  have m1 : Mod (fun _ => False) w w1 := by rw [hw1]; exact (Mod.refl _ w).alloc _
  have lk : ∀ w', Mod (fun _ => False) w1 w' → (loadVar 22 ⟨w.heap.size, 0, none⟩).run Try.prog w' = .ok (.agg (encB key)) w' := fun w' h => load_key key count nonce hk w' _ _ (h.heap hg (fun h => h))
  have lc : ∀ w', Mod (fun _ => False) w1 w' → (loadVar 23 ⟨w.heap.size, 32, none⟩).run Try.prog w' = .ok (.int .u32 (count.toNat : Int)) w' := fun w' h => load_count key count nonce hk w' _ _ (h.heap hg (fun h => h))
  have ln : ∀ w', Mod (fun _ => False) w1 w' → (loadVar 24 ⟨w.heap.size, 33, none⟩).run Try.prog w' = .ok (.agg (encB nonce)) w' := fun w' h => load_nonce key count nonce hk hn w' _ _ (h.heap hg (fun h => h))
  have pb : ∀ u : MW (fun _ => False) w1, Calls Try.prog 7 #[.agg (encB key), .int .u32 (count.toNat : Int), .agg (encB nonce)] u.w fun e w'' => e = .returned (.agg (encB (blockS key nonce count))) ∧ ∃ u' : MW (fun _ => False) w1, w'' = u'.w :=
    fun u => (block_any key nonce hk hn count u.w).mono fun e w'' ⟨h1, h2⟩ => ⟨h1, ⟨w'', u.h.trans h2⟩, rfl⟩
  have rb : ∀ u : MW (fun _ => False) w1, Calls Try.prog 8 #[.agg (encB key), .int .u32 (count.toNat : Int), .agg (encB nonce)] u.w fun e w'' => e = .returned (.agg (encB (blockS key nonce count))) ∧ ∃ u' : MW (fun _ => False) w1, w'' = u'.w :=
    fun u => (refblock_any key nonce hk hn count u.w).mono fun e w'' ⟨h1, h2⟩ => ⟨h1, ⟨w'', u.h.trans h2⟩, rfl⟩
  have eb : ∀ w', (binOp .eql 27 (.agg (encB (blockS key nonce count))) (.agg (encB (blockS key nonce count)))).run Try.prog w' = .ok (.bool true) w' := fun w' => by
    obtain ⟨i0, hi⟩ : ∃ i0, Try.prog.info? 5 = some i0 := ⟨_, rfl⟩
    rw [run_eql_bytes w' 27 5 64 i0 Try.underlying27 Try.underlying5 hi (by kernel_rfl) _ _ (blockS_length _ _ _) (blockS_length _ _ _)]
    simp
  generalize blockS key nonce count = b at *
  replace hw1 := Lib.hid hw1
  replace hk := Lib.hid hk
  replace hn := Lib.hid hn
  replace lk := Lib.hid lk
  replace lc := Lib.hid lc
  replace ln := Lib.hid ln
  replace pb := Lib.hid pb
  replace eb := Lib.hid eb
  replace rb := Lib.hid rb
  go_enter Try.func3, Try.ntmps3
  go_wp2_with fail
  rw [← hw1.out]
  refine region_quietM (fun _ => False) (by kernel_rfl) (by kernel_rfl) ?_
  go_big_quiet_step (fail)
  go_big_quiet_want
  refine quiet_load 22 _ rfl _ _ rfl _ (fun w' h => by obtain ⟨u, rfl⟩ := h; exact lk.out _ u.h) ?_
  simp only [Act.put, List.setIfInBounds_toArray, List.set_cons_succ, List.set_cons_zero]
  go_big_quiet_on
  go_big_quiet_step (fail)
  go_big_quiet_want
  refine quiet_load 23 _ rfl _ _ rfl _ (fun w' h => by obtain ⟨u, rfl⟩ := h; exact lc.out _ u.h) ?_
  simp only [Act.put, List.setIfInBounds_toArray, List.set_cons_succ, List.set_cons_zero]
  go_big_quiet_on
  go_big_quiet_step (fail)
  go_big_quiet_want
  refine quiet_load 24 _ rfl _ _ rfl _ (fun w' h => by obtain ⟨u, rfl⟩ := h; exact ln.out _ u.h) ?_
  simp only [Act.put, List.setIfInBounds_toArray, List.set_cons_succ, List.set_cons_zero]
  go_big_quiet_on
  go_big_quiet_step (exact pb.out _)
  go_big_quiet_step (fail)
  go_big_quiet_want
  refine quiet_load 22 _ rfl _ _ rfl _ (fun w' h => by obtain ⟨u, rfl⟩ := h; exact lk.out _ u.h) ?_
  simp only [Act.put, List.setIfInBounds_toArray, List.set_cons_succ, List.set_cons_zero]
  go_big_quiet_on
  go_big_quiet_step (fail)
  go_big_quiet_want
  refine quiet_load 23 _ rfl _ _ rfl _ (fun w' h => by obtain ⟨u, rfl⟩ := h; exact lc.out _ u.h) ?_
  simp only [Act.put, List.setIfInBounds_toArray, List.set_cons_succ, List.set_cons_zero]
  go_big_quiet_on
  go_big_quiet_step (fail)
  go_big_quiet_want
  refine quiet_load 24 _ rfl _ _ rfl _ (fun w' h => by obtain ⟨u, rfl⟩ := h; exact ln.out _ u.h) ?_
  simp only [Act.put, List.setIfInBounds_toArray, List.set_cons_succ, List.set_cons_zero]
  go_big_quiet_on
  go_big_quiet_step (exact rb.out _)
  go_big_quiet_want
  refine quiet_eql 27 _ _ _ rfl _ _ rfl rfl true (fun w' => run_eqGuard_agg w' .eql _ _ _ _ _ (by kernel_rfl)) eb.out ?_
  simp only [Act.put, List.setIfInBounds_toArray, List.set_cons_succ, List.set_cons_zero]
  go_big_quiet_on
  go_big_quiet_step (fail)
  refine wpQuiet_nil ?_
  intro w' hw'
  go_wp2
  go_ret
  exact ⟨rfl, (m1.trans hw').below (Nat.le_refl _) (fun i h => h.elim)⟩
end Go.Proofs.Ytndfgjajpmccjaa
