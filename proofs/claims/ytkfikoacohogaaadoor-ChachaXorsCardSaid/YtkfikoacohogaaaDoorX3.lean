/-
  mailcoachlaw04.ChachaXors. Printed by gen/kx2.py.
-/
import Derived.Test.YtkfikoacohogaaaDoorX2
namespace Go.Proofs.YtkfikoacohogaaaDoor
set_option maxRecDepth 100000
open Go Go.RowKit Go.Lib
set_option linter.unusedSimpArgs false
set_option linter.unusedVariables false

attribute [local irreducible] Cc.blockS Cc.xorS Cc.streamAt in
set_option maxRecDepth 100000 in
set_option maxHeartbeats 4000000 in
theorem xors_any (key nonce : List (BitVec 8)) (hk : key.length = 32) (hn : nonce.length = 12) (count : BitVec 32) (vb : Value) (b : List (BitVec 8)) (w : World) (hb : ByteAt w vb b) (hbl : b.length ≤ 140737488351232) :
    Calls Tryd.prog 3 #[.agg (fromV key count nonce), vb] w fun e w' => Mod (fun _ => False) w w' ∧ e = .returned (.bool true) := by
  obtain ⟨ab, cb, rfl, _⟩ := hb.slice
  obtain ⟨n, hm⟩ : ∃ m, m = b.length := ⟨_, rfl⟩
  rw [← hm] at hb ⊢
  have bn0 : (0 : Int) ≤ (n : Int) := by omega
  obtain ⟨C, hC⟩ : ∃ C : Int, C = (count.toNat : Int) := ⟨_, rfl⟩
  obtain ⟨w0, hw0⟩ : ∃ q, q = w.alloc (.cells (fromV key count nonce) 26) := ⟨_, rfl⟩
  obtain ⟨G, hG⟩ : ∃ g, g = w.heap.size := ⟨_, rfl⟩
  have m0 : Mod (fun _ => False) w w0 := by rw [hw0]; exact (Mod.refl _ _).alloc _
  have xG : w0.heap[G]? = some (.cells (fromV key count nonce) 26 (0,0)) := by rw [hw0]; exact hp_new _ _ _ hG
  have hb := hb.mod m0 (fun _ _ h => h)
  obtain ⟨fv, hfv⟩ : ∃ f, f = fromV key count nonce := ⟨_, rfl⟩
  have lk := fun (w' : World) (x : w'.heap[G]? = some (.cells (fromV key count nonce) 26 (0,0))) => from_key hk x
  have ln := fun (w' : World) (x : w'.heap[G]? = some (.cells (fromV key count nonce) 26 (0,0))) => from_nonce hk hn x
  have lc := fun (w' : World) (x : w'.heap[G]? = some (.cells (fromV key count nonce) 26 (0,0))) => from_count hk x
  rw [← hfv] at xG hw0 lk ln lc ⊢
  rw [← hC] at lc
  obtain ⟨E, hE⟩ : ∃ E, E = xoE count b.length := ⟨_, rfl⟩
  have hEE : (E != E) = false := by simp
  obtain ⟨X, hX⟩ : ∃ X, X = xoX key nonce count b := ⟨_, rfl⟩
  have hXl : X.length ≤ 1048576 := by rw [hX]; exact xoX_length _ _ _ _
  replace hm := Lib.hid hm
  replace hb := Lib.hid hb
  replace hw0 := Lib.hid hw0
  replace hG := Lib.hid hG
  replace xG := Lib.hid xG
  replace m0 := Lib.hid m0
  replace hE := Lib.hid hE
  replace hX := Lib.hid hX
  replace hXl := Lib.hid hXl
  replace hbl := Lib.hid hbl
  replace hfv := Lib.hid hfv
  replace lk := Lib.hid lk
  replace ln := Lib.hid ln
  replace lc := Lib.hid lc
  replace hC := Lib.hid hC
  replace hk := Lib.hid hk
  replace hn := Lib.hid hn
  go_enter Tryd.func3, Tryd.ntmps3
  go_upto_region 0 with (fail)
  refine wp_region_lit ?_
  refine wpList_yields (by kernel_rfl) (.pointer (some ⟨G, 0, none⟩)) w0 (by rw [hw0.out, hG.out]; simp [execOp, Sem.run_bind, newVar, newRow, Value.cells]; rfl) ?_
  simp only [Act.put, List.setIfInBounds_toArray, List.set_cons_zero, List.set_cons_succ]
  refine wpList_reads (by kernel_rfl) (.bool false) (by go_simp) ?_
  simp only [Act.put, List.setIfInBounds_toArray, List.set_cons_zero, List.set_cons_succ]
  by_cases c1 : 2097152 < n
  · have e1 : decide ((2097152 : Int) < (n : Int)) = true := by rw [decide_eq_true_iff]; omega
    clear c1
    go_wp2
    go_ret
    exact ⟨m0.out, rfl⟩
  · have e1 : decide ((2097152 : Int) < (n : Int)) = false := by rw [decide_eq_false_iff_not]; omega
    have hnl : b.length ≤ 2097152 := by rw [← hm.out]; omega
    replace hnl := Lib.hid hnl
    clear c1
    go_upto_region 3 with (fail)
    refine wp_region_lit ?_
    refine wpList_reads (by kernel_rfl) (.slice ab n cb) (by go_simp) ?_
    simp only [Act.put, List.setIfInBounds_toArray, List.set_cons_zero, List.set_cons_succ]
    refine wpList_enter (by kernel_rfl) 5 #[.slice ab n cb] (by go_simp) (twin_new _ b w0 hb.out (by have := hbl.out; omega)) ?_
    rintro e w1 ⟨m1, vt1, rfl, tw1, tb⟩
    obtain ⟨gt1, hvt⟩ : ∃ g, vt1 = .slice (some ⟨g, 0, none⟩) n (n + 1) := by obtain ⟨g, h, _⟩ := tw1; exact ⟨g, by rw [h, hm.out]⟩
    subst hvt
    have l1 : ∀ x, (Value.slice (some ⟨gt1, 0, none⟩) n (n + 1)).ownBlock = some x → w0.heap.size ≤ x ∧ x < w1.heap.size := by
      obtain ⟨g, h, h2⟩ := tw1
      intro x hx
      refine ⟨tb x hx, ?_⟩
      rw [h] at hx
      have h3 : g = x := by injection hx
      exact h3 ▸ lt_of_heap h2
    have q1 := clip_base0 (twin_clip tw1 tb (by have := hbl.out; omega)) m0.out.size
    have z1 := m1.size
    replace hb := Lib.hid (hb.out.mod m1 (fun _ _ h => h))
    replace m0 := Lib.hid (m0.out.trans m1)
    replace xG := Lib.hid (m1.heap xG.out (fun h => h))
    replace tw1 := Lib.hid tw1
    replace q1 := Lib.hid q1
    replace l1 := Lib.hid l1
    replace z1 := Lib.hid z1
    clear m1 tb
    refine ⟨_, rfl, ?_⟩
    simp only [Act.put, List.setIfInBounds_toArray, List.set_cons_zero, List.set_cons_succ]
    refine wpList_reads (by kernel_rfl) (.slice (some ⟨gt1, 0, none⟩) n (n + 1)) (by go_simp) ?_
    simp only [Act.put, List.setIfInBounds_toArray, List.set_cons_zero, List.set_cons_succ]
    go_upto_region 4 with (fail)
    refine wp_region_lit ?_
    refine wpList_reads (by kernel_rfl) (.pointer (some ⟨G, 0, none⟩)) (by go_simp) ?_
    simp only [Act.put, List.setIfInBounds_toArray, List.set_cons_zero, List.set_cons_succ]
    refine wpList_reads (by kernel_rfl) (.agg (encB key)) (run_load_op rfl rfl (lk.out _ xG.out)) ?_
    simp only [Act.put, List.setIfInBounds_toArray, List.set_cons_zero, List.set_cons_succ]
    refine wpList_reads (by kernel_rfl) (.pointer (some ⟨G, 32, none⟩)) (by go_simp) ?_
    simp only [Act.put, List.setIfInBounds_toArray, List.set_cons_zero, List.set_cons_succ]
    refine wpList_reads (by kernel_rfl) (.int .u32 C) (run_load_op rfl rfl (lc.out _ xG.out)) ?_
    simp only [Act.put, List.setIfInBounds_toArray, List.set_cons_zero, List.set_cons_succ]
    refine wpList_reads (by kernel_rfl) (.pointer (some ⟨G, 33, none⟩)) (by go_simp) ?_
    simp only [Act.put, List.setIfInBounds_toArray, List.set_cons_zero, List.set_cons_succ]
    refine wpList_reads (by kernel_rfl) (.agg (encB nonce)) (run_load_op rfl rfl (ln.out _ xG.out)) ?_
    simp only [Act.put, List.setIfInBounds_toArray, List.set_cons_zero, List.set_cons_succ]
    refine wpList_reads (by kernel_rfl) (.slice (some ⟨gt1, 0, none⟩) n (n + 1)) (by go_simp) ?_
    simp only [Act.put, List.setIfInBounds_toArray, List.set_cons_zero, List.set_cons_succ]
    refine wpList_enter (by kernel_rfl) 6 #[.agg (encB key), .int .u32 C, .agg (encB nonce), .slice (some ⟨gt1, 0, none⟩) n (n + 1)] (by go_simp) (hC.out ▸ xorall_any key nonce hk.out hn.out count _ b w1 tw1.out.byteAt hnl.out) ?_
    rintro e w2 ⟨m2, va, rfl, q2⟩
    rw [← hE.out]
    rw [← hX.out] at q2
    have l2 := q2.lt
    have z2 := m2.size
    have q2 := clip_base0 q2 m0.out.size
    replace hb := Lib.hid (hb.out.mod m2 (fun _ _ h => h))
    replace m0 := Lib.hid (m0.out.trans m2)
    replace xG := Lib.hid (m2.heap xG.out (fun h => h))
    replace tw1 := Lib.hid (tw1.out.mod m2 (fun _ h => h))
    replace q1 := Lib.hid (clip_keep0 q1.out m2)
    replace q2 := Lib.hid q2
    replace l2 := Lib.hid l2
    replace z2 := Lib.hid z2
    clear m2
    refine ⟨_, rfl, ?_⟩
    simp only [Act.put, List.setIfInBounds_toArray, List.set_cons_zero, List.set_cons_succ]
    refine wpList_reads (by kernel_rfl) (.tuple #[va, .int .i64 E]) (by go_simp) ?_
    simp only [Act.put, List.setIfInBounds_toArray, List.set_cons_zero, List.set_cons_succ]
    refine wpList_reads (by kernel_rfl) (va) (by go_simp) ?_
    simp only [Act.put, List.setIfInBounds_toArray, List.set_cons_zero, List.set_cons_succ]
    refine wpList_reads (by kernel_rfl) (.int .i64 E) (by go_simp) ?_
    simp only [Act.put, List.setIfInBounds_toArray, List.set_cons_zero, List.set_cons_succ]
    refine wpList_reads (by kernel_rfl) (va) (by go_simp) ?_
    simp only [Act.put, List.setIfInBounds_toArray, List.set_cons_zero, List.set_cons_succ]
    refine wpList_reads (by kernel_rfl) (.int .i64 E) (by go_simp) ?_
    simp only [Act.put, List.setIfInBounds_toArray, List.set_cons_zero, List.set_cons_succ]
    go_upto_region 5 with (fail)
    refine wp_region_lit ?_
    refine wpList_reads (by kernel_rfl) (.pointer (some ⟨G, 0, none⟩)) (by go_simp) ?_
    simp only [Act.put, List.setIfInBounds_toArray, List.set_cons_zero, List.set_cons_succ]
    refine wpList_reads (by kernel_rfl) (.agg (encB key)) (run_load_op rfl rfl (lk.out _ xG.out)) ?_
    simp only [Act.put, List.setIfInBounds_toArray, List.set_cons_zero, List.set_cons_succ]
    refine wpList_reads (by kernel_rfl) (.pointer (some ⟨G, 32, none⟩)) (by go_simp) ?_
    simp only [Act.put, List.setIfInBounds_toArray, List.set_cons_zero, List.set_cons_succ]
    refine wpList_reads (by kernel_rfl) (.int .u32 C) (run_load_op rfl rfl (lc.out _ xG.out)) ?_
    simp only [Act.put, List.setIfInBounds_toArray, List.set_cons_zero, List.set_cons_succ]
    refine wpList_reads (by kernel_rfl) (.pointer (some ⟨G, 33, none⟩)) (by go_simp) ?_
    simp only [Act.put, List.setIfInBounds_toArray, List.set_cons_zero, List.set_cons_succ]
    refine wpList_reads (by kernel_rfl) (.agg (encB nonce)) (run_load_op rfl rfl (ln.out _ xG.out)) ?_
    simp only [Act.put, List.setIfInBounds_toArray, List.set_cons_zero, List.set_cons_succ]
    refine wpList_reads (by kernel_rfl) (.slice (some ⟨gt1, 0, none⟩) n (n + 1)) (by go_simp) ?_
    simp only [Act.put, List.setIfInBounds_toArray, List.set_cons_zero, List.set_cons_succ]
    refine wpList_enter (by kernel_rfl) 6 #[.agg (encB key), .int .u32 C, .agg (encB nonce), .slice (some ⟨gt1, 0, none⟩) n (n + 1)] (by go_simp) (hC.out ▸ xorall_any key nonce hk.out hn.out count _ b w2 tw1.out.byteAt hnl.out) ?_
    rintro e w3 ⟨m3, vb2, rfl, q3⟩
    rw [← hE.out]
    rw [← hX.out] at q3
    have l3 := q3.lt
    have z3 := m3.size
    have q3 := clip_base0 q3 m0.out.size
    replace hb := Lib.hid (hb.out.mod m3 (fun _ _ h => h))
    replace m0 := Lib.hid (m0.out.trans m3)
    replace xG := Lib.hid (m3.heap xG.out (fun h => h))
    replace tw1 := Lib.hid (tw1.out.mod m3 (fun _ h => h))
    replace q1 := Lib.hid (clip_keep0 q1.out m3)
    replace q2 := Lib.hid (clip_keep0 q2.out m3)
    replace q3 := Lib.hid q3
    replace l3 := Lib.hid l3
    replace z3 := Lib.hid z3
    clear m3
    refine ⟨_, rfl, ?_⟩
    simp only [Act.put, List.setIfInBounds_toArray, List.set_cons_zero, List.set_cons_succ]
    refine wpList_reads (by kernel_rfl) (.tuple #[vb2, .int .i64 E]) (by go_simp) ?_
    simp only [Act.put, List.setIfInBounds_toArray, List.set_cons_zero, List.set_cons_succ]
    refine wpList_reads (by kernel_rfl) (vb2) (by go_simp) ?_
    simp only [Act.put, List.setIfInBounds_toArray, List.set_cons_zero, List.set_cons_succ]
    refine wpList_reads (by kernel_rfl) (.int .i64 E) (by go_simp) ?_
    simp only [Act.put, List.setIfInBounds_toArray, List.set_cons_zero, List.set_cons_succ]
    refine wpList_reads (by kernel_rfl) (vb2) (by go_simp) ?_
    simp only [Act.put, List.setIfInBounds_toArray, List.set_cons_zero, List.set_cons_succ]
    refine wpList_reads (by kernel_rfl) (.int .i64 E) (by go_simp) ?_
    simp only [Act.put, List.setIfInBounds_toArray, List.set_cons_zero, List.set_cons_succ]
    go_upto_region 6 with (fail)
    refine wp_region_lit ?_
    refine wpList_reads (by kernel_rfl) (.pointer (some ⟨G, 0, none⟩)) (by go_simp) ?_
    simp only [Act.put, List.setIfInBounds_toArray, List.set_cons_zero, List.set_cons_succ]
    refine wpList_reads (by kernel_rfl) (.agg (encB key)) (run_load_op rfl rfl (lk.out _ xG.out)) ?_
    simp only [Act.put, List.setIfInBounds_toArray, List.set_cons_zero, List.set_cons_succ]
    refine wpList_reads (by kernel_rfl) (.pointer (some ⟨G, 32, none⟩)) (by go_simp) ?_
    simp only [Act.put, List.setIfInBounds_toArray, List.set_cons_zero, List.set_cons_succ]
    refine wpList_reads (by kernel_rfl) (.int .u32 C) (run_load_op rfl rfl (lc.out _ xG.out)) ?_
    simp only [Act.put, List.setIfInBounds_toArray, List.set_cons_zero, List.set_cons_succ]
    refine wpList_reads (by kernel_rfl) (.pointer (some ⟨G, 33, none⟩)) (by go_simp) ?_
    simp only [Act.put, List.setIfInBounds_toArray, List.set_cons_zero, List.set_cons_succ]
    refine wpList_reads (by kernel_rfl) (.agg (encB nonce)) (run_load_op rfl rfl (ln.out _ xG.out)) ?_
    simp only [Act.put, List.setIfInBounds_toArray, List.set_cons_zero, List.set_cons_succ]
    refine wpList_reads (by kernel_rfl) (.slice ab n cb) (by go_simp) ?_
    simp only [Act.put, List.setIfInBounds_toArray, List.set_cons_zero, List.set_cons_succ]
    refine wpList_enter (by kernel_rfl) 7 #[.agg (encB key), .int .u32 C, .agg (encB nonce), .slice ab n cb] (by go_simp) (hC.out ▸ refxor_any key nonce hk.out hn.out count _ b w3 hb.out hnl.out) ?_
    rintro e w4 ⟨m4, vc, rfl, q4⟩
    rw [← hE.out]
    rw [← hX.out] at q4
    have l4 := q4.lt
    have z4 := m4.size
    have q4 := clip_base0 q4 m0.out.size
    replace hb := Lib.hid (hb.out.mod m4 (fun _ _ h => h))
    replace m0 := Lib.hid (m0.out.trans m4)
    replace xG := Lib.hid (m4.heap xG.out (fun h => h))
    replace tw1 := Lib.hid (tw1.out.mod m4 (fun _ h => h))
    replace q1 := Lib.hid (clip_keep0 q1.out m4)
    replace q2 := Lib.hid (clip_keep0 q2.out m4)
    replace q3 := Lib.hid (clip_keep0 q3.out m4)
    replace q4 := Lib.hid q4
    replace l4 := Lib.hid l4
    replace z4 := Lib.hid z4
    clear m4
    refine ⟨_, rfl, ?_⟩
    simp only [Act.put, List.setIfInBounds_toArray, List.set_cons_zero, List.set_cons_succ]
    refine wpList_reads (by kernel_rfl) (.tuple #[vc, .int .i64 E]) (by go_simp) ?_
    simp only [Act.put, List.setIfInBounds_toArray, List.set_cons_zero, List.set_cons_succ]
    refine wpList_reads (by kernel_rfl) (vc) (by go_simp) ?_
    simp only [Act.put, List.setIfInBounds_toArray, List.set_cons_zero, List.set_cons_succ]
    refine wpList_reads (by kernel_rfl) (.int .i64 E) (by go_simp) ?_
    simp only [Act.put, List.setIfInBounds_toArray, List.set_cons_zero, List.set_cons_succ]
    refine wpList_reads (by kernel_rfl) (vc) (by go_simp) ?_
    simp only [Act.put, List.setIfInBounds_toArray, List.set_cons_zero, List.set_cons_succ]
    refine wpList_reads (by kernel_rfl) (.int .i64 E) (by go_simp) ?_
    simp only [Act.put, List.setIfInBounds_toArray, List.set_cons_zero, List.set_cons_succ]
    clear xG
    go_upto_region 7 with (fail)
    refine wp_region_lit ?_
    refine wpList_reads (by kernel_rfl) (va) (by go_simp) ?_
    simp only [Act.put, List.setIfInBounds_toArray, List.set_cons_zero, List.set_cons_succ]
    refine wpList_reads (by kernel_rfl) (vc) (by go_simp) ?_
    simp only [Act.put, List.setIfInBounds_toArray, List.set_cons_zero, List.set_cons_succ]
    refine wpList_enter (by kernel_rfl) 8 #[va, vc] (by go_simp) (same_any _ _ X X w4 (clip_byteAt q2.out) (clip_byteAt q4.out) (by have := hXl.out; omega) (by have := hXl.out; omega)) ?_
    rintro e w5 ⟨m5, rfl⟩
    rw [show decide (X = X) = true by simp]
    replace hb := Lib.hid (hb.out.mod m5 (fun _ _ h => h))
    replace m0 := Lib.hid (m0.out.trans m5)
    replace tw1 := Lib.hid (tw1.out.mod m5 (fun _ h => h))
    replace q1 := Lib.hid (clip_keep0 q1.out m5)
    replace q2 := Lib.hid (clip_keep0 q2.out m5)
    replace q3 := Lib.hid (clip_keep0 q3.out m5)
    replace q4 := Lib.hid (clip_keep0 q4.out m5)
    have z5 := Lib.hid m5.size
    clear m5
    refine ⟨_, rfl, ?_⟩
    simp only [Act.put, List.setIfInBounds_toArray, List.set_cons_zero, List.set_cons_succ]
    refine wpList_reads (by kernel_rfl) (.bool false) (by go_simp) ?_
    simp only [Act.put, List.setIfInBounds_toArray, List.set_cons_zero, List.set_cons_succ]
    refine wpList_reads (by kernel_rfl) (.bool false) (by go_simp) ?_
    simp only [Act.put, List.setIfInBounds_toArray, List.set_cons_zero, List.set_cons_succ]
    refine wpList_reads (by kernel_rfl) (vb2) (by go_simp) ?_
    simp only [Act.put, List.setIfInBounds_toArray, List.set_cons_zero, List.set_cons_succ]
    refine wpList_reads (by kernel_rfl) (vc) (by go_simp) ?_
    simp only [Act.put, List.setIfInBounds_toArray, List.set_cons_zero, List.set_cons_succ]
    refine wpList_enter (by kernel_rfl) 8 #[vb2, vc] (by go_simp) (same_any _ _ X X w5 (clip_byteAt q3.out) (clip_byteAt q4.out) (by have := hXl.out; omega) (by have := hXl.out; omega)) ?_
    rintro e w6 ⟨m6, rfl⟩
    rw [show decide (X = X) = true by simp]
    replace hb := Lib.hid (hb.out.mod m6 (fun _ _ h => h))
    replace m0 := Lib.hid (m0.out.trans m6)
    replace tw1 := Lib.hid (tw1.out.mod m6 (fun _ h => h))
    replace q1 := Lib.hid (clip_keep0 q1.out m6)
    replace q2 := Lib.hid (clip_keep0 q2.out m6)
    replace q3 := Lib.hid (clip_keep0 q3.out m6)
    replace q4 := Lib.hid (clip_keep0 q4.out m6)
    have z6 := Lib.hid m6.size
    clear m6
    clear q4
    refine ⟨_, rfl, ?_⟩
    simp only [Act.put, List.setIfInBounds_toArray, List.set_cons_zero, List.set_cons_succ]
    refine wpList_reads (by kernel_rfl) (.bool false) (by go_simp) ?_
    simp only [Act.put, List.setIfInBounds_toArray, List.set_cons_zero, List.set_cons_succ]
    refine wpList_reads (by kernel_rfl) (.bool false) (by go_simp) ?_
    simp only [Act.put, List.setIfInBounds_toArray, List.set_cons_zero, List.set_cons_succ]
    refine wpList_reads (by kernel_rfl) (.bool false) (by go_simp) ?_
    simp only [Act.put, List.setIfInBounds_toArray, List.set_cons_zero, List.set_cons_succ]
    refine wpList_reads (by kernel_rfl) (.int .i64 E) (by go_simp) ?_
    simp only [Act.put, List.setIfInBounds_toArray, List.set_cons_zero, List.set_cons_succ]
    refine wpList_reads (by kernel_rfl) (.int .i64 E) (by go_simp) ?_
    simp only [Act.put, List.setIfInBounds_toArray, List.set_cons_zero, List.set_cons_succ]
    refine wpList_reads (by kernel_rfl) (.bool false) (by go_simp) ?_
    simp only [Act.put, List.setIfInBounds_toArray, List.set_cons_zero, List.set_cons_succ]
    refine wpList_reads (by kernel_rfl) (.bool false) (by go_simp) ?_
    simp only [Act.put, List.setIfInBounds_toArray, List.set_cons_zero, List.set_cons_succ]
    refine wpList_reads (by kernel_rfl) (.bool false) (by go_simp) ?_
    simp only [Act.put, List.setIfInBounds_toArray, List.set_cons_zero, List.set_cons_succ]
    refine wpList_reads (by kernel_rfl) (.slice (some ⟨gt1, 0, none⟩) n (n + 1)) (by go_simp) ?_
    simp only [Act.put, List.setIfInBounds_toArray, List.set_cons_zero, List.set_cons_succ]
    refine wpList_reads (by kernel_rfl) (.slice ab n cb) (by go_simp) ?_
    simp only [Act.put, List.setIfInBounds_toArray, List.set_cons_zero, List.set_cons_succ]
    refine wpList_enter (by kernel_rfl) 9 #[.slice (some ⟨gt1, 0, none⟩) n (n + 1), .slice ab n cb] (by go_simp) (left_any _ _ b w6 tw1.out hb.out (by have := hbl.out; omega)) ?_
    rintro e w7 ⟨m7, rfl⟩
    replace hb := Lib.hid (hb.out.mod m7 (fun _ _ h => h))
    replace m0 := Lib.hid (m0.out.trans m7)
    replace tw1 := Lib.hid (tw1.out.mod m7 (fun _ h => h))
    replace q1 := Lib.hid (clip_keep0 q1.out m7)
    replace q2 := Lib.hid (clip_keep0 q2.out m7)
    replace q3 := Lib.hid (clip_keep0 q3.out m7)
    have z7 := Lib.hid m7.size
    clear m7
    clear tw1 hb
    refine ⟨_, rfl, ?_⟩
    simp only [Act.put, List.setIfInBounds_toArray, List.set_cons_zero, List.set_cons_succ]
    refine wpList_reads (by kernel_rfl) (.bool false) (by go_simp) ?_
    simp only [Act.put, List.setIfInBounds_toArray, List.set_cons_zero, List.set_cons_succ]
    refine wpList_reads (by kernel_rfl) (.bool false) (by go_simp) ?_
    simp only [Act.put, List.setIfInBounds_toArray, List.set_cons_zero, List.set_cons_succ]
    obtain ⟨t1, ht1⟩ : ∃ t, t = w1.heap.size := ⟨_, rfl⟩
    obtain ⟨t2, ht2⟩ : ∃ t, t = w2.heap.size := ⟨_, rfl⟩
    obtain ⟨t3, ht3⟩ : ∃ t, t = w3.heap.size := ⟨_, rfl⟩
    obtain ⟨t4, ht4⟩ : ∃ t, t = w4.heap.size := ⟨_, rfl⟩
    obtain ⟨t5, ht5⟩ : ∃ t, t = w5.heap.size := ⟨_, rfl⟩
    obtain ⟨t6, ht6⟩ : ∃ t, t = w6.heap.size := ⟨_, rfl⟩
    obtain ⟨t7, ht7⟩ : ∃ t, t = w7.heap.size := ⟨_, rfl⟩
    obtain ⟨t0, ht0⟩ : ∃ t, t = w0.heap.size := ⟨_, rfl⟩
    have z1 := z1.out
    rw [← ht1, ← ht0] at z1
    have z2 := z2.out
    rw [← ht2, ← ht1] at z2
    have z3 := z3.out
    rw [← ht3, ← ht2] at z3
    have z4 := z4.out
    rw [← ht4, ← ht3] at z4
    have z5 := z5.out
    rw [← ht5, ← ht4] at z5
    have z6 := z6.out
    rw [← ht6, ← ht5] at z6
    have z7 := z7.out
    rw [← ht7, ← ht6] at z7
    have l1 := l1.out
    rw [← ht1, ← ht0] at l1
    have l2 := l2.out
    rw [← ht2, ← ht1] at l2
    have l3 := l3.out
    rw [← ht3, ← ht2] at l3
    have hz7 : t7 ≤ w7.heap.size := by rw [ht7]; exact Nat.le_refl _
    replace z1 := Lib.hid z1
    replace z2 := Lib.hid z2
    replace z3 := Lib.hid z3
    replace z4 := Lib.hid z4
    replace z5 := Lib.hid z5
    replace z6 := Lib.hid z6
    replace z7 := Lib.hid z7
    replace l1 := Lib.hid l1
    replace l2 := Lib.hid l2
    replace l3 := Lib.hid l3
    replace ht0 := Lib.hid ht0
    replace ht1 := Lib.hid ht1
    replace ht2 := Lib.hid ht2
    replace ht3 := Lib.hid ht3
    replace ht4 := Lib.hid ht4
    replace ht5 := Lib.hid ht5
    replace ht6 := Lib.hid ht6
    replace ht7 := Lib.hid ht7
    replace hz7 := Lib.hid hz7
    obtain ⟨wx, hwx⟩ : ∃ x, x = w7.alloc (.cells (bookC 0 (.slice none 0 0)).toArray 46) := ⟨_, rfl⟩
    obtain ⟨B, hB⟩ : ∃ g, g = w7.heap.size := ⟨_, rfl⟩
    obtain ⟨wb, sb, mb, bk⟩ := BookT.made (w := w7) (base := w.heap.size) m0.out.size
    rw [← hwx, ← hB] at sb
    rw [← hB] at bk
    have hBt : t7 ≤ B := by rw [hB]; exact hz7.out
    have hBw : w.heap.size ≤ B := by rw [hB]; exact m0.out.size
    replace m0 := Lib.hid (m0.out.trans mb)
    replace q1 := Lib.hid (clip_keep0 q1.out mb)
    replace q2 := Lib.hid (clip_keep0 q2.out mb)
    replace q3 := Lib.hid (clip_keep0 q3.out mb)
    replace hwx := Lib.hid hwx
    replace hB := Lib.hid hB
    replace hBw := Lib.hid hBw
    replace bk := Lib.hid bk
    replace hBt := Lib.hid hBt
    have u1 : ∀ x, (.slice (some ⟨gt1, 0, none⟩) n (n + 1) : Value).ownBlock = some x → x < B := fun x hx => by have := (l1.out x hx).2; have := hBt.out; have := z2.out; have := z3.out; have := z4.out; have := z5.out; have := z6.out; have := z7.out; omega
    have u2 : ∀ x, (va : Value).ownBlock = some x → x < B := fun x hx => by have := (l2.out x hx).2; have := hBt.out; have := z2.out; have := z3.out; have := z4.out; have := z5.out; have := z6.out; have := z7.out; omega
    have u3 : ∀ x, (vb2 : Value).ownBlock = some x → x < B := fun x hx => by have := (l3.out x hx).2; have := hBt.out; have := z2.out; have := z3.out; have := z4.out; have := z5.out; have := z6.out; have := z7.out; omega
    replace u1 := Lib.hid u1
    replace u2 := Lib.hid u2
    replace u3 := Lib.hid u3
    clear mb
    go_upto_region 9 with (fail)
    refine wp_region_lit ?_
    refine wpList_yields (by kernel_rfl) _ _ (build_book _ _ _ rfl) ?_
    simp only [Act.put, List.setIfInBounds_toArray, List.set_cons_zero, List.set_cons_succ]
    refine wpList_yields (by kernel_rfl) _ _ (alloc_book _ _ _ rfl) ?_
    simp only [Act.put, List.setIfInBounds_toArray, List.set_cons_zero, List.set_cons_succ]
    rw [← hB.out, ← hwx.out]
    refine wpList_store_to rfl _ _ _ rfl _ _ _ rfl rfl _ sb ?_
    simp only [Act.put, List.setIfInBounds_toArray, List.set_cons_zero, List.set_cons_succ]
    clear sb
    have kp := keepT wb w.heap.size B 0 _ _ bk.out (.slice (some ⟨gt1, 0, none⟩) n (n + 1)) b q1.out (fun x hx => ⟨fun h => h, u1.out x hx⟩) (by omega) (hbl.out)
    go_upto_region 10 with (fail)
    refine wp_region_lit ?_
    refine wpList_reads (by kernel_rfl) (.slice (some ⟨gt1, 0, none⟩) n (n + 1)) (by go_simp) ?_
    simp only [Act.put, List.setIfInBounds_toArray, List.set_cons_zero, List.set_cons_succ]
    refine wpList_enter (by kernel_rfl) 10 #[.pointer (some ⟨B, 0, none⟩), .slice (some ⟨gt1, 0, none⟩) n (n + 1)] (by go_simp) (kp) ?_
    rintro e b1 ⟨rfl, mk, vk1, bk⟩
    clear kp
    clear q1
    replace m0 := Lib.hid (m0.out.trans' mk (fun x hx h => by have := hBw.out; omega))
    replace q2 := Lib.hid (clip_below q2.out mk u2.out)
    replace q3 := Lib.hid (clip_below q3.out mk u3.out)
    replace bk := Lib.hid (bk.mono (T' := fun x => x < t1) (fun x hx => hx.elim (fun h => h.elim) (fun h => (l1.out x h).2)))
    clear mk
    refine ⟨_, rfl, ?_⟩
    simp only [Act.put, List.setIfInBounds_toArray, List.set_cons_zero, List.set_cons_succ]
    have kp := keepT b1 w.heap.size B 1 _ _ bk.out (va) X q2.out (fun x hx => ⟨fun h => by have := (l2.out x hx).1; have := z2.out; have := z3.out; have := z4.out; have := z5.out; have := z6.out; have := z7.out; omega, u2.out x hx⟩) (by omega) (by have := hXl.out; omega)
    go_upto_region 11 with (fail)
    refine wp_region_lit ?_
    refine wpList_reads (by kernel_rfl) (va) (by go_simp) ?_
    simp only [Act.put, List.setIfInBounds_toArray, List.set_cons_zero, List.set_cons_succ]
    refine wpList_enter (by kernel_rfl) 10 #[.pointer (some ⟨B, 0, none⟩), va] (by go_simp) (kp) ?_
    rintro e b2 ⟨rfl, mk, vk2, bk⟩
    clear kp
    clear q2
    replace m0 := Lib.hid (m0.out.trans' mk (fun x hx h => by have := hBw.out; omega))
    replace q3 := Lib.hid (clip_below q3.out mk u3.out)
    replace bk := Lib.hid (bk.mono (T' := fun x => x < t2) (fun x hx => hx.elim (fun h => by have := z2.out; have := z3.out; have := z4.out; have := z5.out; have := z6.out; have := z7.out; omega) (fun h => (l2.out x h).2)))
    clear mk
    refine ⟨_, rfl, ?_⟩
    simp only [Act.put, List.setIfInBounds_toArray, List.set_cons_zero, List.set_cons_succ]
    have kp := keepT b2 w.heap.size B 2 _ _ bk.out (vb2) X q3.out (fun x hx => ⟨fun h => by have := (l3.out x hx).1; have := z2.out; have := z3.out; have := z4.out; have := z5.out; have := z6.out; have := z7.out; omega, u3.out x hx⟩) (by omega) (by have := hXl.out; omega)
    go_upto_region 12 with (fail)
    refine wp_region_lit ?_
    refine wpList_reads (by kernel_rfl) (vb2) (by go_simp) ?_
    simp only [Act.put, List.setIfInBounds_toArray, List.set_cons_zero, List.set_cons_succ]
    refine wpList_enter (by kernel_rfl) 10 #[.pointer (some ⟨B, 0, none⟩), vb2] (by go_simp) (kp) ?_
    rintro e b3 ⟨rfl, mk, vk3, bk⟩
    clear kp
    clear q3
    replace m0 := Lib.hid (m0.out.trans' mk (fun x hx h => by have := hBw.out; omega))
    replace bk := Lib.hid (bk.mono (T' := fun x => x < t3) (fun x hx => hx.elim (fun h => by have := z2.out; have := z3.out; have := z4.out; have := z5.out; have := z6.out; have := z7.out; omega) (fun h => (l3.out x h).2)))
    clear mk
    refine ⟨_, rfl, ?_⟩
    simp only [Act.put, List.setIfInBounds_toArray, List.set_cons_zero, List.set_cons_succ]
    go_upto_region 13 with (fail)
    refine wp_region_lit ?_
    refine wpList_enter (by kernel_rfl) 11 #[.pointer (some ⟨B, 0, none⟩)] (by go_simp) (apartT b3 w.heap.size B 3 _ _ bk.out) ?_
    rintro e y1 ⟨rfl, ma⟩
    have mf := m0.out.trans' ma (fun x hx h => by omega)
    replace mf := Lib.hid mf
    clear ma bk
    refine ⟨_, rfl, ?_⟩
    simp only [Act.put, List.setIfInBounds_toArray, List.set_cons_zero, List.set_cons_succ]
    refine wpList_reads (by kernel_rfl) (.bool true) (by go_simp) ?_
    simp only [Act.put, List.setIfInBounds_toArray, List.set_cons_zero, List.set_cons_succ]
    go_wp2
    go_ret
    exact ⟨mf.out, rfl⟩
end Go.Proofs.YtkfikoacohogaaaDoor
