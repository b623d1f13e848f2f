/-
  mailcoachlaw12.KeysMasks. Printed by gen/kq2.py.
-/
import Derived.Test.YtppjnkgmbmhlcaaGreatDoorN6
import Derived.Test.YtppjnkgmbmhlcaaGreatDoorQ1
namespace Go.Proofs.YtppjnkgmbmhlcaaGreatDoor
set_option maxRecDepth 100000
open Go Go.RowKit Go.Lib
set_option linter.unusedSimpArgs false
set_option linter.unusedVariables false

set_option maxRecDepth 100000 in
set_option maxHeartbeats 4000000 in
theorem masks_any (vi vx vy : Value) (iv x y : List (BitVec 8)) (N : Nat) (hN : N < 18446744073709551616) (w : World) (hi : ByteAt w vi iv) (hx : ByteAt w vx x) (hy : ByteAt w vy y) (hil : iv.length ≤ 140737488351232) (hxl : x.length ≤ 140737488351232) (hyl : y.length ≤ 140737488351232) :
    Calls Tryz.prog 3 #[vi, .int .u64 (N : Int), .agg #[vx, vy]] w fun e w' => Mod (fun _ => False) w w' ∧ e = .returned (.bool true) := by
  obtain ⟨ai, ci, rfl, _⟩ := hi.slice
  obtain ⟨ax, cx, rfl, _⟩ := hx.slice
  obtain ⟨ay, cy, rfl, _⟩ := hy.slice
  obtain ⟨p, hp⟩ : ∃ m, m = iv.length := ⟨_, rfl⟩
  obtain ⟨m, hm⟩ : ∃ m, m = x.length := ⟨_, rfl⟩
  obtain ⟨n, hn⟩ : ∃ p, p = y.length := ⟨_, rfl⟩
  rw [← hp] at hi ⊢
  rw [← hm] at hx ⊢
  rw [← hn] at hy ⊢
  have bN0 : (0 : Int) ≤ (N : Int) := by omega
  obtain ⟨w0, hw0⟩ : ∃ q, q = w.alloc (.cells #[.slice ax m cx, .slice ay n cy] 24) := ⟨_, rfl⟩
  obtain ⟨G, hG⟩ : ∃ g, g = w.heap.size := ⟨_, rfl⟩
  have m0 : Mod (fun _ => False) w w0 := by rw [hw0]; exact (Mod.refl _ _).alloc _
  have xG : w0.heap[G]? = some (.cells #[.slice ax m cx, .slice ay n cy] 24 (0,0)) := by rw [hw0]; exact hp_new _ _ _ hG
  have hi := hi.mod m0 (fun _ _ h => h)
  have hx := hx.mod m0 (fun _ _ h => h)
  have hy := hy.mod m0 (fun _ _ h => h)
  obtain ⟨E, hE⟩ : ∃ E, E = nonE iv N := ⟨_, rfl⟩
  have hEE : (E != E) = false := by simp
  obtain ⟨X, hX⟩ : ∃ X, X = nonX iv N := ⟨_, rfl⟩
  have hXl : X.length ≤ 32 := by rw [hX]; exact nonX_length _ _
  obtain ⟨D, hD⟩ : ∃ E, E = maskE x y := ⟨_, rfl⟩
  have hDD : (D != D) = false := by simp
  obtain ⟨Y, hY⟩ : ∃ X, X = maskX x y := ⟨_, rfl⟩
  have hYl : Y.length ≤ 32 := by rw [hY]; exact maskX_length _ _
  replace hm := Lib.hid hm
  replace hn := Lib.hid hn
  replace hp := Lib.hid hp
  replace hi := Lib.hid hi
  replace hx := Lib.hid hx
  replace hy := Lib.hid hy
  replace hw0 := Lib.hid hw0
  replace hG := Lib.hid hG
  replace xG := Lib.hid xG
  replace m0 := Lib.hid m0
  replace hE := Lib.hid hE
  replace hX := Lib.hid hX
  replace hXl := Lib.hid hXl
  replace hD := Lib.hid hD
  replace hY := Lib.hid hY
  replace hYl := Lib.hid hYl
  replace hil := Lib.hid hil
  replace hxl := Lib.hid hxl
  replace hyl := Lib.hid hyl
  replace hN := Lib.hid hN
  go_enter Tryz.func3, Tryz.ntmps3
  go_upto_region 0 with (fail)
  refine wp_region_lit ?_
  refine wpList_yields (by kernel_rfl) (.pointer (some ⟨G, 0, none⟩)) w0 (by rw [hw0.out, hG.out]; go_simp) ?_
  simp only [Act.put, List.setIfInBounds_toArray, List.set_cons_zero, List.set_cons_succ]
  refine wpList_reads (by kernel_rfl) (.bool false) (by go_simp) ?_
  simp only [Act.put, List.setIfInBounds_toArray, List.set_cons_zero, List.set_cons_succ]
  go_upto_region 1 with (fail)
  refine wp_region_lit ?_
  refine wpList_reads (by kernel_rfl) (.slice ai p ci) (by go_simp) ?_
  simp only [Act.put, List.setIfInBounds_toArray, List.set_cons_zero, List.set_cons_succ]
  refine wpList_enter (by kernel_rfl) 6 #[.slice ai p ci] (by go_simp) (twin_new _ iv w0 hi.out (by have := hil.out; omega)) ?_
  rintro e w1 ⟨m1, vt1, rfl, tw1, tb⟩
  obtain ⟨gt1, hvt⟩ : ∃ g, vt1 = .slice (some ⟨g, 0, none⟩) p (p + 1) := by obtain ⟨g, h, _⟩ := tw1; exact ⟨g, by rw [h, hp.out]⟩
  subst hvt
  have l1 : ∀ x, (Value.slice (some ⟨gt1, 0, none⟩) p (p + 1)).ownBlock = some x → w0.heap.size ≤ x ∧ x < w1.heap.size := by
    obtain ⟨g, h, h2⟩ := tw1
    intro x hx
    refine ⟨tb x hx, ?_⟩
    rw [h] at hx
    have h3 : g = x := by injection hx
    exact h3 ▸ lt_of_heap h2
  have q1 := clip_base0 (twin_clip tw1 tb (by have := hil.out; omega)) m0.out.size
  have z1 := m1.size
  replace hi := Lib.hid (hi.out.mod m1 (fun _ _ h => h))
  replace hx := Lib.hid (hx.out.mod m1 (fun _ _ h => h))
  replace hy := Lib.hid (hy.out.mod m1 (fun _ _ h => h))
  replace m0 := Lib.hid (m0.out.trans m1)
  replace xG := Lib.hid (m1.heap xG.out (fun h => h))
  replace tw1 := Lib.hid tw1
  replace q1 := Lib.hid q1
  replace l1 := Lib.hid l1
  replace z1 := Lib.hid z1
  clear m1 tb
  refine ⟨_, rfl, ?_⟩
  simp only [Act.put, List.setIfInBounds_toArray, List.set_cons_zero, List.set_cons_succ]
  refine wpList_reads (by kernel_rfl) (.slice (some ⟨gt1, 0, none⟩) p (p + 1)) (by go_simp) ?_
  simp only [Act.put, List.setIfInBounds_toArray, List.set_cons_zero, List.set_cons_succ]
  go_upto_region 2 with (fail)
  refine wp_region_lit ?_
  refine wpList_reads (by kernel_rfl) (.pointer (some ⟨G, 0, none⟩)) (by go_simp) ?_
  simp only [Act.put, List.setIfInBounds_toArray, List.set_cons_zero, List.set_cons_succ]
  refine wpList_reads (by kernel_rfl) (.slice ax m cx) (run_load_op rfl rfl (ld_sl (by rw [cell_of_row _ _ _ _ _ _ xG.out]; rfl))) ?_
  simp only [Act.put, List.setIfInBounds_toArray, List.set_cons_zero, List.set_cons_succ]
  refine wpList_enter (by kernel_rfl) 6 #[.slice ax m cx] (by go_simp) (twin_new _ x w1 hx.out (by have := hxl.out; omega)) ?_
  rintro e w2 ⟨m2, vt2, rfl, tw2, tb⟩
  obtain ⟨gt2, hvt⟩ : ∃ g, vt2 = .slice (some ⟨g, 0, none⟩) m (m + 1) := by obtain ⟨g, h, _⟩ := tw2; exact ⟨g, by rw [h, hm.out]⟩
  subst hvt
  have l2 : ∀ x, (Value.slice (some ⟨gt2, 0, none⟩) m (m + 1)).ownBlock = some x → w1.heap.size ≤ x ∧ x < w2.heap.size := by
    obtain ⟨g, h, h2⟩ := tw2
    intro x hx
    refine ⟨tb x hx, ?_⟩
    rw [h] at hx
    have h3 : g = x := by injection hx
    exact h3 ▸ lt_of_heap h2
  have q2 := clip_base0 (twin_clip tw2 tb (by have := hxl.out; omega)) m0.out.size
  have z2 := m2.size
  replace hi := Lib.hid (hi.out.mod m2 (fun _ _ h => h))
  replace hx := Lib.hid (hx.out.mod m2 (fun _ _ h => h))
  replace hy := Lib.hid (hy.out.mod m2 (fun _ _ h => h))
  replace m0 := Lib.hid (m0.out.trans m2)
  replace xG := Lib.hid (m2.heap xG.out (fun h => h))
  replace tw1 := Lib.hid (tw1.out.mod m2 (fun _ h => h))
  replace q1 := Lib.hid (clip_keep0 q1.out m2)
  replace tw2 := Lib.hid tw2
  replace q2 := Lib.hid q2
  replace l2 := Lib.hid l2
  replace z2 := Lib.hid z2
  clear m2 tb
  refine ⟨_, rfl, ?_⟩
  simp only [Act.put, List.setIfInBounds_toArray, List.set_cons_zero, List.set_cons_succ]
  refine wpList_reads (by kernel_rfl) (.slice (some ⟨gt2, 0, none⟩) m (m + 1)) (by go_simp) ?_
  simp only [Act.put, List.setIfInBounds_toArray, List.set_cons_zero, List.set_cons_succ]
  go_upto_region 3 with (fail)
  refine wp_region_lit ?_
  refine wpList_reads (by kernel_rfl) (.pointer (some ⟨G, 1, none⟩)) (by go_simp) ?_
  simp only [Act.put, List.setIfInBounds_toArray, List.set_cons_zero, List.set_cons_succ]
  refine wpList_reads (by kernel_rfl) (.slice ay n cy) (run_load_op rfl rfl (ld_sl (by rw [cell_of_row _ _ _ _ _ _ xG.out]; rfl))) ?_
  simp only [Act.put, List.setIfInBounds_toArray, List.set_cons_zero, List.set_cons_succ]
  refine wpList_enter (by kernel_rfl) 6 #[.slice ay n cy] (by go_simp) (twin_new _ y w2 hy.out (by have := hyl.out; omega)) ?_
  rintro e w3 ⟨m3, vt3, rfl, tw3, tb⟩
  obtain ⟨gt3, hvt⟩ : ∃ g, vt3 = .slice (some ⟨g, 0, none⟩) n (n + 1) := by obtain ⟨g, h, _⟩ := tw3; exact ⟨g, by rw [h, hn.out]⟩
  subst hvt
  have l3 : ∀ x, (Value.slice (some ⟨gt3, 0, none⟩) n (n + 1)).ownBlock = some x → w2.heap.size ≤ x ∧ x < w3.heap.size := by
    obtain ⟨g, h, h2⟩ := tw3
    intro x hx
    refine ⟨tb x hx, ?_⟩
    rw [h] at hx
    have h3 : g = x := by injection hx
    exact h3 ▸ lt_of_heap h2
  have q3 := clip_base0 (twin_clip tw3 tb (by have := hyl.out; omega)) m0.out.size
  have z3 := m3.size
  replace hi := Lib.hid (hi.out.mod m3 (fun _ _ h => h))
  replace hx := Lib.hid (hx.out.mod m3 (fun _ _ h => h))
  replace hy := Lib.hid (hy.out.mod m3 (fun _ _ h => h))
  replace m0 := Lib.hid (m0.out.trans m3)
  replace xG := Lib.hid (m3.heap xG.out (fun h => h))
  replace tw1 := Lib.hid (tw1.out.mod m3 (fun _ h => h))
  replace q1 := Lib.hid (clip_keep0 q1.out m3)
  replace tw2 := Lib.hid (tw2.out.mod m3 (fun _ h => h))
  replace q2 := Lib.hid (clip_keep0 q2.out m3)
  replace tw3 := Lib.hid tw3
  replace q3 := Lib.hid q3
  replace l3 := Lib.hid l3
  replace z3 := Lib.hid z3
  clear m3 tb
  refine ⟨_, rfl, ?_⟩
  simp only [Act.put, List.setIfInBounds_toArray, List.set_cons_zero, List.set_cons_succ]
  refine wpList_reads (by kernel_rfl) (.slice (some ⟨gt3, 0, none⟩) n (n + 1)) (by go_simp) ?_
  simp only [Act.put, List.setIfInBounds_toArray, List.set_cons_zero, List.set_cons_succ]
  go_upto_region 4 with (fail)
  refine wp_region_lit ?_
  refine wpList_reads (by kernel_rfl) (.slice (some ⟨gt1, 0, none⟩) p (p + 1)) (by go_simp) ?_
  simp only [Act.put, List.setIfInBounds_toArray, List.set_cons_zero, List.set_cons_succ]
  refine wpList_reads (by kernel_rfl) (.int .u64 (N : Int)) (by go_simp) ?_
  simp only [Act.put, List.setIfInBounds_toArray, List.set_cons_zero, List.set_cons_succ]
  refine wpList_enter (by kernel_rfl) 7 #[.slice (some ⟨gt1, 0, none⟩) p (p + 1), .int .u64 (N : Int)] (by go_simp) (Calls.mono (Nonce_any _ iv N hN.out w3 tw1.out.byteAt (by have := hil.out; omega)) (fun _ _ h => h.uni)) ?_
  rintro e w4 ⟨m4, va, rfl, q4⟩
  rw [← hE.out]
  rw [← hX.out] at q4
  have l4 := q4.lt
  have z4 := m4.size
  have q4 := clip_base0 q4 m0.out.size
  replace hi := Lib.hid (hi.out.mod m4 (fun _ _ h => h))
  replace hx := Lib.hid (hx.out.mod m4 (fun _ _ h => h))
  replace hy := Lib.hid (hy.out.mod m4 (fun _ _ h => h))
  replace m0 := Lib.hid (m0.out.trans m4)
  replace xG := Lib.hid (m4.heap xG.out (fun h => h))
  replace tw1 := Lib.hid (tw1.out.mod m4 (fun _ h => h))
  replace q1 := Lib.hid (clip_keep0 q1.out m4)
  replace tw2 := Lib.hid (tw2.out.mod m4 (fun _ h => h))
  replace q2 := Lib.hid (clip_keep0 q2.out m4)
  replace tw3 := Lib.hid (tw3.out.mod m4 (fun _ h => h))
  replace q3 := Lib.hid (clip_keep0 q3.out m4)
  replace q4 := Lib.hid q4
  replace l4 := Lib.hid l4
  replace z4 := Lib.hid z4
  clear m4
  refine ⟨_, rfl, ?_⟩
  simp only [Act.put, List.setIfInBounds_toArray, List.set_cons_zero, List.set_cons_succ]
  refine wpList_reads (by kernel_rfl) (.tuple #[va, .int .i64 E]) (by go_simp) ?_
  simp only [Act.put, List.setIfInBounds_toArray, List.set_cons_zero, List.set_cons_succ]
  refine wpList_reads (by kernel_rfl) (va) (by go_simp) ?_
  simp only [Act.put, List.setIfInBounds_toArray, List.set_cons_zero, List.set_cons_succ]
  refine wpList_reads (by kernel_rfl) (.int .i64 E) (by go_simp) ?_
  simp only [Act.put, List.setIfInBounds_toArray, List.set_cons_zero, List.set_cons_succ]
  refine wpList_reads (by kernel_rfl) (va) (by go_simp) ?_
  simp only [Act.put, List.setIfInBounds_toArray, List.set_cons_zero, List.set_cons_succ]
  refine wpList_reads (by kernel_rfl) (.int .i64 E) (by go_simp) ?_
  simp only [Act.put, List.setIfInBounds_toArray, List.set_cons_zero, List.set_cons_succ]
  go_upto_region 5 with (fail)
  refine wp_region_lit ?_
  refine wpList_reads (by kernel_rfl) (.slice (some ⟨gt2, 0, none⟩) m (m + 1)) (by go_simp) ?_
  simp only [Act.put, List.setIfInBounds_toArray, List.set_cons_zero, List.set_cons_succ]
  refine wpList_reads (by kernel_rfl) (.slice (some ⟨gt3, 0, none⟩) n (n + 1)) (by go_simp) ?_
  simp only [Act.put, List.setIfInBounds_toArray, List.set_cons_zero, List.set_cons_succ]
  refine wpList_enter (by kernel_rfl) 8 #[.slice (some ⟨gt2, 0, none⟩) m (m + 1), .slice (some ⟨gt3, 0, none⟩) n (n + 1)] (by go_simp) (Calls.mono (Mask_any _ _ x y w4 tw2.out.byteAt tw3.out.byteAt (by have := hxl.out; omega) (by have := hyl.out; omega)) (fun _ _ h => h.uni)) ?_
  rintro e w5 ⟨m5, vb, rfl, q5⟩
  rw [← hD.out]
  rw [← hY.out] at q5
  have l5 := q5.lt
  have z5 := m5.size
  have q5 := clip_base0 q5 m0.out.size
  replace hi := Lib.hid (hi.out.mod m5 (fun _ _ h => h))
  replace hx := Lib.hid (hx.out.mod m5 (fun _ _ h => h))
  replace hy := Lib.hid (hy.out.mod m5 (fun _ _ h => h))
  replace m0 := Lib.hid (m0.out.trans m5)
  replace xG := Lib.hid (m5.heap xG.out (fun h => h))
  replace tw1 := Lib.hid (tw1.out.mod m5 (fun _ h => h))
  replace q1 := Lib.hid (clip_keep0 q1.out m5)
  replace tw2 := Lib.hid (tw2.out.mod m5 (fun _ h => h))
  replace q2 := Lib.hid (clip_keep0 q2.out m5)
  replace tw3 := Lib.hid (tw3.out.mod m5 (fun _ h => h))
  replace q3 := Lib.hid (clip_keep0 q3.out m5)
  replace q4 := Lib.hid (clip_keep0 q4.out m5)
  replace q5 := Lib.hid q5
  replace l5 := Lib.hid l5
  replace z5 := Lib.hid z5
  clear m5
  refine ⟨_, rfl, ?_⟩
  simp only [Act.put, List.setIfInBounds_toArray, List.set_cons_zero, List.set_cons_succ]
  refine wpList_reads (by kernel_rfl) (.tuple #[vb, .int .i64 D]) (by go_simp) ?_
  simp only [Act.put, List.setIfInBounds_toArray, List.set_cons_zero, List.set_cons_succ]
  refine wpList_reads (by kernel_rfl) (vb) (by go_simp) ?_
  simp only [Act.put, List.setIfInBounds_toArray, List.set_cons_zero, List.set_cons_succ]
  refine wpList_reads (by kernel_rfl) (.int .i64 D) (by go_simp) ?_
  simp only [Act.put, List.setIfInBounds_toArray, List.set_cons_zero, List.set_cons_succ]
  refine wpList_reads (by kernel_rfl) (vb) (by go_simp) ?_
  simp only [Act.put, List.setIfInBounds_toArray, List.set_cons_zero, List.set_cons_succ]
  refine wpList_reads (by kernel_rfl) (.int .i64 D) (by go_simp) ?_
  simp only [Act.put, List.setIfInBounds_toArray, List.set_cons_zero, List.set_cons_succ]
  go_upto_region 6 with (fail)
  refine wp_region_lit ?_
  refine wpList_reads (by kernel_rfl) (.slice ai p ci) (by go_simp) ?_
  simp only [Act.put, List.setIfInBounds_toArray, List.set_cons_zero, List.set_cons_succ]
  refine wpList_reads (by kernel_rfl) (.int .u64 (N : Int)) (by go_simp) ?_
  simp only [Act.put, List.setIfInBounds_toArray, List.set_cons_zero, List.set_cons_succ]
  refine wpList_enter (by kernel_rfl) 9 #[.slice ai p ci, .int .u64 (N : Int)] (by go_simp) (Calls.mono (refNonce_any _ iv N hN.out w5 hi.out (by have := hil.out; omega)) (fun _ _ h => h.uni)) ?_
  rintro e w6 ⟨m6, vc, rfl, q6⟩
  rw [← hE.out]
  rw [← hX.out] at q6
  have l6 := q6.lt
  have z6 := m6.size
  have q6 := clip_base0 q6 m0.out.size
  replace hi := Lib.hid (hi.out.mod m6 (fun _ _ h => h))
  replace hx := Lib.hid (hx.out.mod m6 (fun _ _ h => h))
  replace hy := Lib.hid (hy.out.mod m6 (fun _ _ h => h))
  replace m0 := Lib.hid (m0.out.trans m6)
  replace xG := Lib.hid (m6.heap xG.out (fun h => h))
  replace tw1 := Lib.hid (tw1.out.mod m6 (fun _ h => h))
  replace q1 := Lib.hid (clip_keep0 q1.out m6)
  replace tw2 := Lib.hid (tw2.out.mod m6 (fun _ h => h))
  replace q2 := Lib.hid (clip_keep0 q2.out m6)
  replace tw3 := Lib.hid (tw3.out.mod m6 (fun _ h => h))
  replace q3 := Lib.hid (clip_keep0 q3.out m6)
  replace q4 := Lib.hid (clip_keep0 q4.out m6)
  replace q5 := Lib.hid (clip_keep0 q5.out m6)
  replace q6 := Lib.hid q6
  replace l6 := Lib.hid l6
  replace z6 := Lib.hid z6
  clear m6
  refine ⟨_, rfl, ?_⟩
  simp only [Act.put, List.setIfInBounds_toArray, List.set_cons_zero, List.set_cons_succ]
  refine wpList_reads (by kernel_rfl) (.tuple #[vc, .int .i64 E]) (by go_simp) ?_
  simp only [Act.put, List.setIfInBounds_toArray, List.set_cons_zero, List.set_cons_succ]
  refine wpList_reads (by kernel_rfl) (vc) (by go_simp) ?_
  simp only [Act.put, List.setIfInBounds_toArray, List.set_cons_zero, List.set_cons_succ]
  refine wpList_reads (by kernel_rfl) (.int .i64 E) (by go_simp) ?_
  simp only [Act.put, List.setIfInBounds_toArray, List.set_cons_zero, List.set_cons_succ]
  refine wpList_reads (by kernel_rfl) (vc) (by go_simp) ?_
  simp only [Act.put, List.setIfInBounds_toArray, List.set_cons_zero, List.set_cons_succ]
  refine wpList_reads (by kernel_rfl) (.int .i64 E) (by go_simp) ?_
  simp only [Act.put, List.setIfInBounds_toArray, List.set_cons_zero, List.set_cons_succ]
  go_upto_region 7 with (fail)
  refine wp_region_lit ?_
  refine wpList_reads (by kernel_rfl) (.pointer (some ⟨G, 0, none⟩)) (by go_simp) ?_
  simp only [Act.put, List.setIfInBounds_toArray, List.set_cons_zero, List.set_cons_succ]
  refine wpList_reads (by kernel_rfl) (.slice ax m cx) (run_load_op rfl rfl (ld_sl (by rw [cell_of_row _ _ _ _ _ _ xG.out]; rfl))) ?_
  simp only [Act.put, List.setIfInBounds_toArray, List.set_cons_zero, List.set_cons_succ]
  refine wpList_reads (by kernel_rfl) (.pointer (some ⟨G, 1, none⟩)) (by go_simp) ?_
  simp only [Act.put, List.setIfInBounds_toArray, List.set_cons_zero, List.set_cons_succ]
  refine wpList_reads (by kernel_rfl) (.slice ay n cy) (run_load_op rfl rfl (ld_sl (by rw [cell_of_row _ _ _ _ _ _ xG.out]; rfl))) ?_
  simp only [Act.put, List.setIfInBounds_toArray, List.set_cons_zero, List.set_cons_succ]
  refine wpList_enter (by kernel_rfl) 10 #[.slice ax m cx, .slice ay n cy] (by go_simp) (Calls.mono (refMask_any _ _ x y w6 hx.out hy.out (by have := hxl.out; omega) (by have := hyl.out; omega)) (fun _ _ h => h.uni)) ?_
  rintro e w7 ⟨m7, vd, rfl, q7⟩
  rw [← hD.out]
  rw [← hY.out] at q7
  have l7 := q7.lt
  have z7 := m7.size
  have q7 := clip_base0 q7 m0.out.size
  replace hi := Lib.hid (hi.out.mod m7 (fun _ _ h => h))
  replace hx := Lib.hid (hx.out.mod m7 (fun _ _ h => h))
  replace hy := Lib.hid (hy.out.mod m7 (fun _ _ h => h))
  replace m0 := Lib.hid (m0.out.trans m7)
  replace xG := Lib.hid (m7.heap xG.out (fun h => h))
  replace tw1 := Lib.hid (tw1.out.mod m7 (fun _ h => h))
  replace q1 := Lib.hid (clip_keep0 q1.out m7)
  replace tw2 := Lib.hid (tw2.out.mod m7 (fun _ h => h))
  replace q2 := Lib.hid (clip_keep0 q2.out m7)
  replace tw3 := Lib.hid (tw3.out.mod m7 (fun _ h => h))
  replace q3 := Lib.hid (clip_keep0 q3.out m7)
  replace q4 := Lib.hid (clip_keep0 q4.out m7)
  replace q5 := Lib.hid (clip_keep0 q5.out m7)
  replace q6 := Lib.hid (clip_keep0 q6.out m7)
  replace q7 := Lib.hid q7
  replace l7 := Lib.hid l7
  replace z7 := Lib.hid z7
  clear m7
  refine ⟨_, rfl, ?_⟩
  simp only [Act.put, List.setIfInBounds_toArray, List.set_cons_zero, List.set_cons_succ]
  refine wpList_reads (by kernel_rfl) (.tuple #[vd, .int .i64 D]) (by go_simp) ?_
  simp only [Act.put, List.setIfInBounds_toArray, List.set_cons_zero, List.set_cons_succ]
  refine wpList_reads (by kernel_rfl) (vd) (by go_simp) ?_
  simp only [Act.put, List.setIfInBounds_toArray, List.set_cons_zero, List.set_cons_succ]
  refine wpList_reads (by kernel_rfl) (.int .i64 D) (by go_simp) ?_
  simp only [Act.put, List.setIfInBounds_toArray, List.set_cons_zero, List.set_cons_succ]
  refine wpList_reads (by kernel_rfl) (vd) (by go_simp) ?_
  simp only [Act.put, List.setIfInBounds_toArray, List.set_cons_zero, List.set_cons_succ]
  refine wpList_reads (by kernel_rfl) (.int .i64 D) (by go_simp) ?_
  simp only [Act.put, List.setIfInBounds_toArray, List.set_cons_zero, List.set_cons_succ]
  go_upto_region 8 with (fail)
  refine wp_region_lit ?_
  refine wpList_reads (by kernel_rfl) (.int .i64 E) (by go_simp) ?_
  simp only [Act.put, List.setIfInBounds_toArray, List.set_cons_zero, List.set_cons_succ]
  refine wpList_reads (by kernel_rfl) (.int .i64 E) (by go_simp) ?_
  simp only [Act.put, List.setIfInBounds_toArray, List.set_cons_zero, List.set_cons_succ]
  refine wpList_reads (by kernel_rfl) (.bool false) (by go_simp) ?_
  simp only [Act.put, List.setIfInBounds_toArray, List.set_cons_zero, List.set_cons_succ]
  refine wpList_reads (by kernel_rfl) (.bool false) (by go_simp) ?_
  simp only [Act.put, List.setIfInBounds_toArray, List.set_cons_zero, List.set_cons_succ]
  refine wpList_reads (by kernel_rfl) (.int .i64 D) (by go_simp) ?_
  simp only [Act.put, List.setIfInBounds_toArray, List.set_cons_zero, List.set_cons_succ]
  refine wpList_reads (by kernel_rfl) (.int .i64 D) (by go_simp) ?_
  simp only [Act.put, List.setIfInBounds_toArray, List.set_cons_zero, List.set_cons_succ]
  refine wpList_reads (by kernel_rfl) (.bool false) (by go_simp) ?_
  simp only [Act.put, List.setIfInBounds_toArray, List.set_cons_zero, List.set_cons_succ]
  refine wpList_reads (by kernel_rfl) (.bool false) (by go_simp) ?_
  simp only [Act.put, List.setIfInBounds_toArray, List.set_cons_zero, List.set_cons_succ]
  refine wpList_reads (by kernel_rfl) (.bool false) (by go_simp) ?_
  simp only [Act.put, List.setIfInBounds_toArray, List.set_cons_zero, List.set_cons_succ]
  refine wpList_reads (by kernel_rfl) (va) (by go_simp) ?_
  simp only [Act.put, List.setIfInBounds_toArray, List.set_cons_zero, List.set_cons_succ]
  refine wpList_reads (by kernel_rfl) (vc) (by go_simp) ?_
  simp only [Act.put, List.setIfInBounds_toArray, List.set_cons_zero, List.set_cons_succ]
  refine wpList_enter (by kernel_rfl) 11 #[va, vc] (by go_simp) (same_any _ _ X X w7 (clip_byteAt q4.out) (clip_byteAt q6.out) (by have := hXl.out; omega) (by have := hXl.out; omega)) ?_
  rintro e w8 ⟨m8, rfl⟩
  rw [show decide (X = X) = true by simp]
  replace hi := Lib.hid (hi.out.mod m8 (fun _ _ h => h))
  replace hx := Lib.hid (hx.out.mod m8 (fun _ _ h => h))
  replace hy := Lib.hid (hy.out.mod m8 (fun _ _ h => h))
  replace m0 := Lib.hid (m0.out.trans m8)
  replace xG := Lib.hid (m8.heap xG.out (fun h => h))
  replace tw1 := Lib.hid (tw1.out.mod m8 (fun _ h => h))
  replace q1 := Lib.hid (clip_keep0 q1.out m8)
  replace tw2 := Lib.hid (tw2.out.mod m8 (fun _ h => h))
  replace q2 := Lib.hid (clip_keep0 q2.out m8)
  replace tw3 := Lib.hid (tw3.out.mod m8 (fun _ h => h))
  replace q3 := Lib.hid (clip_keep0 q3.out m8)
  replace q4 := Lib.hid (clip_keep0 q4.out m8)
  replace q5 := Lib.hid (clip_keep0 q5.out m8)
  replace q6 := Lib.hid (clip_keep0 q6.out m8)
  replace q7 := Lib.hid (clip_keep0 q7.out m8)
  have z8 := Lib.hid m8.size
  clear m8
  clear q6
  refine ⟨_, rfl, ?_⟩
  simp only [Act.put, List.setIfInBounds_toArray, List.set_cons_zero, List.set_cons_succ]
  refine wpList_reads (by kernel_rfl) (.bool false) (by go_simp) ?_
  simp only [Act.put, List.setIfInBounds_toArray, List.set_cons_zero, List.set_cons_succ]
  refine wpList_reads (by kernel_rfl) (.bool false) (by go_simp) ?_
  simp only [Act.put, List.setIfInBounds_toArray, List.set_cons_zero, List.set_cons_succ]
  refine wpList_reads (by kernel_rfl) (.bool false) (by go_simp) ?_
  simp only [Act.put, List.setIfInBounds_toArray, List.set_cons_zero, List.set_cons_succ]
  refine wpList_reads (by kernel_rfl) (vb) (by go_simp) ?_
  simp only [Act.put, List.setIfInBounds_toArray, List.set_cons_zero, List.set_cons_succ]
  refine wpList_reads (by kernel_rfl) (vd) (by go_simp) ?_
  simp only [Act.put, List.setIfInBounds_toArray, List.set_cons_zero, List.set_cons_succ]
  refine wpList_enter (by kernel_rfl) 11 #[vb, vd] (by go_simp) (same_any _ _ Y Y w8 (clip_byteAt q5.out) (clip_byteAt q7.out) (by have := hYl.out; omega) (by have := hYl.out; omega)) ?_
  rintro e w9 ⟨m9, rfl⟩
  rw [show decide (Y = Y) = true by simp]
  replace hi := Lib.hid (hi.out.mod m9 (fun _ _ h => h))
  replace hx := Lib.hid (hx.out.mod m9 (fun _ _ h => h))
  replace hy := Lib.hid (hy.out.mod m9 (fun _ _ h => h))
  replace m0 := Lib.hid (m0.out.trans m9)
  replace xG := Lib.hid (m9.heap xG.out (fun h => h))
  replace tw1 := Lib.hid (tw1.out.mod m9 (fun _ h => h))
  replace q1 := Lib.hid (clip_keep0 q1.out m9)
  replace tw2 := Lib.hid (tw2.out.mod m9 (fun _ h => h))
  replace q2 := Lib.hid (clip_keep0 q2.out m9)
  replace tw3 := Lib.hid (tw3.out.mod m9 (fun _ h => h))
  replace q3 := Lib.hid (clip_keep0 q3.out m9)
  replace q4 := Lib.hid (clip_keep0 q4.out m9)
  replace q5 := Lib.hid (clip_keep0 q5.out m9)
  replace q7 := Lib.hid (clip_keep0 q7.out m9)
  have z9 := Lib.hid m9.size
  clear m9
  clear q7
  refine ⟨_, rfl, ?_⟩
  simp only [Act.put, List.setIfInBounds_toArray, List.set_cons_zero, List.set_cons_succ]
  refine wpList_reads (by kernel_rfl) (.bool false) (by go_simp) ?_
  simp only [Act.put, List.setIfInBounds_toArray, List.set_cons_zero, List.set_cons_succ]
  refine wpList_reads (by kernel_rfl) (.bool false) (by go_simp) ?_
  simp only [Act.put, List.setIfInBounds_toArray, List.set_cons_zero, List.set_cons_succ]
  refine wpList_reads (by kernel_rfl) (.bool false) (by go_simp) ?_
  simp only [Act.put, List.setIfInBounds_toArray, List.set_cons_zero, List.set_cons_succ]
  refine wpList_reads (by kernel_rfl) (.slice (some ⟨gt1, 0, none⟩) p (p + 1)) (by go_simp) ?_
  simp only [Act.put, List.setIfInBounds_toArray, List.set_cons_zero, List.set_cons_succ]
  refine wpList_reads (by kernel_rfl) (.slice ai p ci) (by go_simp) ?_
  simp only [Act.put, List.setIfInBounds_toArray, List.set_cons_zero, List.set_cons_succ]
  refine wpList_enter (by kernel_rfl) 12 #[.slice (some ⟨gt1, 0, none⟩) p (p + 1), .slice ai p ci] (by go_simp) (left_any _ _ iv w9 tw1.out hi.out (by have := hil.out; omega)) ?_
  rintro e w10 ⟨m10, rfl⟩
  replace hi := Lib.hid (hi.out.mod m10 (fun _ _ h => h))
  replace hx := Lib.hid (hx.out.mod m10 (fun _ _ h => h))
  replace hy := Lib.hid (hy.out.mod m10 (fun _ _ h => h))
  replace m0 := Lib.hid (m0.out.trans m10)
  replace xG := Lib.hid (m10.heap xG.out (fun h => h))
  replace tw1 := Lib.hid (tw1.out.mod m10 (fun _ h => h))
  replace q1 := Lib.hid (clip_keep0 q1.out m10)
  replace tw2 := Lib.hid (tw2.out.mod m10 (fun _ h => h))
  replace q2 := Lib.hid (clip_keep0 q2.out m10)
  replace tw3 := Lib.hid (tw3.out.mod m10 (fun _ h => h))
  replace q3 := Lib.hid (clip_keep0 q3.out m10)
  replace q4 := Lib.hid (clip_keep0 q4.out m10)
  replace q5 := Lib.hid (clip_keep0 q5.out m10)
  have z10 := Lib.hid m10.size
  clear m10
  clear tw1 hi
  refine ⟨_, rfl, ?_⟩
  simp only [Act.put, List.setIfInBounds_toArray, List.set_cons_zero, List.set_cons_succ]
  refine wpList_reads (by kernel_rfl) (.bool false) (by go_simp) ?_
  simp only [Act.put, List.setIfInBounds_toArray, List.set_cons_zero, List.set_cons_succ]
  refine wpList_reads (by kernel_rfl) (.bool false) (by go_simp) ?_
  simp only [Act.put, List.setIfInBounds_toArray, List.set_cons_zero, List.set_cons_succ]
  refine wpList_reads (by kernel_rfl) (.bool false) (by go_simp) ?_
  simp only [Act.put, List.setIfInBounds_toArray, List.set_cons_zero, List.set_cons_succ]
  refine wpList_reads (by kernel_rfl) (.slice (some ⟨gt2, 0, none⟩) m (m + 1)) (by go_simp) ?_
  simp only [Act.put, List.setIfInBounds_toArray, List.set_cons_zero, List.set_cons_succ]
  refine wpList_reads (by kernel_rfl) (.pointer (some ⟨G, 0, none⟩)) (by go_simp) ?_
  simp only [Act.put, List.setIfInBounds_toArray, List.set_cons_zero, List.set_cons_succ]
  refine wpList_reads (by kernel_rfl) (.slice ax m cx) (run_load_op rfl rfl (ld_sl (by rw [cell_of_row _ _ _ _ _ _ xG.out]; rfl))) ?_
  simp only [Act.put, List.setIfInBounds_toArray, List.set_cons_zero, List.set_cons_succ]
  refine wpList_enter (by kernel_rfl) 12 #[.slice (some ⟨gt2, 0, none⟩) m (m + 1), .slice ax m cx] (by go_simp) (left_any _ _ x w10 tw2.out hx.out (by have := hxl.out; omega)) ?_
  rintro e w11 ⟨m11, rfl⟩
  replace hx := Lib.hid (hx.out.mod m11 (fun _ _ h => h))
  replace hy := Lib.hid (hy.out.mod m11 (fun _ _ h => h))
  replace m0 := Lib.hid (m0.out.trans m11)
  replace xG := Lib.hid (m11.heap xG.out (fun h => h))
  replace q1 := Lib.hid (clip_keep0 q1.out m11)
  replace tw2 := Lib.hid (tw2.out.mod m11 (fun _ h => h))
  replace q2 := Lib.hid (clip_keep0 q2.out m11)
  replace tw3 := Lib.hid (tw3.out.mod m11 (fun _ h => h))
  replace q3 := Lib.hid (clip_keep0 q3.out m11)
  replace q4 := Lib.hid (clip_keep0 q4.out m11)
  replace q5 := Lib.hid (clip_keep0 q5.out m11)
  have z11 := Lib.hid m11.size
  clear m11
  clear tw2 hx
  refine ⟨_, rfl, ?_⟩
  simp only [Act.put, List.setIfInBounds_toArray, List.set_cons_zero, List.set_cons_succ]
  refine wpList_reads (by kernel_rfl) (.bool false) (by go_simp) ?_
  simp only [Act.put, List.setIfInBounds_toArray, List.set_cons_zero, List.set_cons_succ]
  refine wpList_reads (by kernel_rfl) (.bool false) (by go_simp) ?_
  simp only [Act.put, List.setIfInBounds_toArray, List.set_cons_zero, List.set_cons_succ]
  refine wpList_reads (by kernel_rfl) (.bool false) (by go_simp) ?_
  simp only [Act.put, List.setIfInBounds_toArray, List.set_cons_zero, List.set_cons_succ]
  refine wpList_reads (by kernel_rfl) (.slice (some ⟨gt3, 0, none⟩) n (n + 1)) (by go_simp) ?_
  simp only [Act.put, List.setIfInBounds_toArray, List.set_cons_zero, List.set_cons_succ]
  refine wpList_reads (by kernel_rfl) (.pointer (some ⟨G, 1, none⟩)) (by go_simp) ?_
  simp only [Act.put, List.setIfInBounds_toArray, List.set_cons_zero, List.set_cons_succ]
  refine wpList_reads (by kernel_rfl) (.slice ay n cy) (run_load_op rfl rfl (ld_sl (by rw [cell_of_row _ _ _ _ _ _ xG.out]; rfl))) ?_
  simp only [Act.put, List.setIfInBounds_toArray, List.set_cons_zero, List.set_cons_succ]
  refine wpList_enter (by kernel_rfl) 12 #[.slice (some ⟨gt3, 0, none⟩) n (n + 1), .slice ay n cy] (by go_simp) (left_any _ _ y w11 tw3.out hy.out (by have := hyl.out; omega)) ?_
  rintro e w12 ⟨m12, rfl⟩
  replace hy := Lib.hid (hy.out.mod m12 (fun _ _ h => h))
  replace m0 := Lib.hid (m0.out.trans m12)
  replace xG := Lib.hid (m12.heap xG.out (fun h => h))
  replace q1 := Lib.hid (clip_keep0 q1.out m12)
  replace q2 := Lib.hid (clip_keep0 q2.out m12)
  replace tw3 := Lib.hid (tw3.out.mod m12 (fun _ h => h))
  replace q3 := Lib.hid (clip_keep0 q3.out m12)
  replace q4 := Lib.hid (clip_keep0 q4.out m12)
  replace q5 := Lib.hid (clip_keep0 q5.out m12)
  have z12 := Lib.hid m12.size
  clear m12
  clear tw3 hy xG
  refine ⟨_, rfl, ?_⟩
  simp only [Act.put, List.setIfInBounds_toArray, List.set_cons_zero, List.set_cons_succ]
  refine wpList_reads (by kernel_rfl) (.bool false) (by go_simp) ?_
  simp only [Act.put, List.setIfInBounds_toArray, List.set_cons_zero, List.set_cons_succ]
  refine wpList_reads (by kernel_rfl) (.bool false) (by go_simp) ?_
  simp only [Act.put, List.setIfInBounds_toArray, List.set_cons_zero, List.set_cons_succ]
  obtain ⟨t1, ht1⟩ : ∃ t, t = w1.heap.size := ⟨_, rfl⟩
  obtain ⟨t2, ht2⟩ : ∃ t, t = w2.heap.size := ⟨_, rfl⟩
  obtain ⟨t3, ht3⟩ : ∃ t, t = w3.heap.size := ⟨_, rfl⟩
  obtain ⟨t4, ht4⟩ : ∃ t, t = w4.heap.size := ⟨_, rfl⟩
  obtain ⟨t5, ht5⟩ : ∃ t, t = w5.heap.size := ⟨_, rfl⟩
  obtain ⟨t6, ht6⟩ : ∃ t, t = w6.heap.size := ⟨_, rfl⟩
  obtain ⟨t7, ht7⟩ : ∃ t, t = w7.heap.size := ⟨_, rfl⟩
  obtain ⟨t8, ht8⟩ : ∃ t, t = w8.heap.size := ⟨_, rfl⟩
  obtain ⟨t9, ht9⟩ : ∃ t, t = w9.heap.size := ⟨_, rfl⟩
  obtain ⟨t10, ht10⟩ : ∃ t, t = w10.heap.size := ⟨_, rfl⟩
  obtain ⟨t11, ht11⟩ : ∃ t, t = w11.heap.size := ⟨_, rfl⟩
  obtain ⟨t12, ht12⟩ : ∃ t, t = w12.heap.size := ⟨_, rfl⟩
  obtain ⟨t0, ht0⟩ : ∃ t, t = w0.heap.size := ⟨_, rfl⟩
  have z1 := z1.out
  rw [← ht1, ← ht0] at z1
  have z2 := z2.out
  rw [← ht2, ← ht1] at z2
  have z3 := z3.out
  rw [← ht3, ← ht2] at z3
  have z4 := z4.out
  rw [← ht4, ← ht3] at z4
  have z5 := z5.out
  rw [← ht5, ← ht4] at z5
  have z6 := z6.out
  rw [← ht6, ← ht5] at z6
  have z7 := z7.out
  rw [← ht7, ← ht6] at z7
  have z8 := z8.out
  rw [← ht8, ← ht7] at z8
  have z9 := z9.out
  rw [← ht9, ← ht8] at z9
  have z10 := z10.out
  rw [← ht10, ← ht9] at z10
  have z11 := z11.out
  rw [← ht11, ← ht10] at z11
  have z12 := z12.out
  rw [← ht12, ← ht11] at z12
  have l1 := l1.out
  rw [← ht1, ← ht0] at l1
  have l2 := l2.out
  rw [← ht2, ← ht1] at l2
  have l3 := l3.out
  rw [← ht3, ← ht2] at l3
  have l4 := l4.out
  rw [← ht4, ← ht3] at l4
  have l5 := l5.out
  rw [← ht5, ← ht4] at l5
  have hz12 : t12 ≤ w12.heap.size := by rw [ht12]; exact Nat.le_refl _
  replace z1 := Lib.hid z1
  replace z2 := Lib.hid z2
  replace z3 := Lib.hid z3
  replace z4 := Lib.hid z4
  replace z5 := Lib.hid z5
  replace z6 := Lib.hid z6
  replace z7 := Lib.hid z7
  replace z8 := Lib.hid z8
  replace z9 := Lib.hid z9
  replace z10 := Lib.hid z10
  replace z11 := Lib.hid z11
  replace z12 := Lib.hid z12
  replace l1 := Lib.hid l1
  replace l2 := Lib.hid l2
  replace l3 := Lib.hid l3
  replace l4 := Lib.hid l4
  replace l5 := Lib.hid l5
  replace ht0 := Lib.hid ht0
  replace ht1 := Lib.hid ht1
  replace ht2 := Lib.hid ht2
  replace ht3 := Lib.hid ht3
  replace ht4 := Lib.hid ht4
  replace ht5 := Lib.hid ht5
  replace ht6 := Lib.hid ht6
  replace ht7 := Lib.hid ht7
  replace ht8 := Lib.hid ht8
  replace ht9 := Lib.hid ht9
  replace ht10 := Lib.hid ht10
  replace ht11 := Lib.hid ht11
  replace ht12 := Lib.hid ht12
  replace hz12 := Lib.hid hz12
  obtain ⟨wb, hwb⟩ : ∃ x, x = w12.alloc (.cells (bookC 0 (.slice none 0 0)).toArray 44) := ⟨_, rfl⟩
  obtain ⟨B, hB⟩ : ∃ g, g = w12.heap.size := ⟨_, rfl⟩
  have mb : Mod (fun _ => False) w12 wb := by rw [hwb]; exact (Mod.refl _ _).alloc _
  have hBt : t12 ≤ B := by rw [hB]; exact hz12.out
  have hBw : w.heap.size ≤ B := by rw [hB]; exact m0.out.size
  have bk : BookT wb w.heap.size B 0 (fun _ => False) (.slice none 0 0) := by rw [hwb, hB]; exact BookT.make m0.out.size
  replace m0 := Lib.hid (m0.out.trans mb)
  replace q1 := Lib.hid (clip_keep0 q1.out mb)
  replace q2 := Lib.hid (clip_keep0 q2.out mb)
  replace q3 := Lib.hid (clip_keep0 q3.out mb)
  replace q4 := Lib.hid (clip_keep0 q4.out mb)
  replace q5 := Lib.hid (clip_keep0 q5.out mb)
  replace hwb := Lib.hid hwb
  replace hB := Lib.hid hB
  replace hBw := Lib.hid hBw
  replace bk := Lib.hid bk
  replace hBt := Lib.hid hBt
  have u1 : ∀ x, (.slice (some ⟨gt1, 0, none⟩) p (p + 1) : Value).ownBlock = some x → x < B := fun x hx => by have := (l1.out x hx).2; have := hBt.out; have := z2.out; have := z3.out; have := z4.out; have := z5.out; have := z6.out; have := z7.out; have := z8.out; have := z9.out; have := z10.out; have := z11.out; have := z12.out; omega
  have u2 : ∀ x, (.slice (some ⟨gt2, 0, none⟩) m (m + 1) : Value).ownBlock = some x → x < B := fun x hx => by have := (l2.out x hx).2; have := hBt.out; have := z2.out; have := z3.out; have := z4.out; have := z5.out; have := z6.out; have := z7.out; have := z8.out; have := z9.out; have := z10.out; have := z11.out; have := z12.out; omega
  have u3 : ∀ x, (.slice (some ⟨gt3, 0, none⟩) n (n + 1) : Value).ownBlock = some x → x < B := fun x hx => by have := (l3.out x hx).2; have := hBt.out; have := z2.out; have := z3.out; have := z4.out; have := z5.out; have := z6.out; have := z7.out; have := z8.out; have := z9.out; have := z10.out; have := z11.out; have := z12.out; omega
  have u4 : ∀ x, (va : Value).ownBlock = some x → x < B := fun x hx => by have := (l4.out x hx).2; have := hBt.out; have := z2.out; have := z3.out; have := z4.out; have := z5.out; have := z6.out; have := z7.out; have := z8.out; have := z9.out; have := z10.out; have := z11.out; have := z12.out; omega
  have u5 : ∀ x, (vb : Value).ownBlock = some x → x < B := fun x hx => by have := (l5.out x hx).2; have := hBt.out; have := z2.out; have := z3.out; have := z4.out; have := z5.out; have := z6.out; have := z7.out; have := z8.out; have := z9.out; have := z10.out; have := z11.out; have := z12.out; omega
  replace u1 := Lib.hid u1
  replace u2 := Lib.hid u2
  replace u3 := Lib.hid u3
  replace u4 := Lib.hid u4
  replace u5 := Lib.hid u5
  clear mb
  go_upto_region 10 with (fail)
  refine wp_region_lit ?_
  refine wpList_yields (by kernel_rfl) _ _ (alloc_book _ _ _ rfl) ?_
  simp only [Act.put, List.setIfInBounds_toArray, List.set_cons_zero, List.set_cons_succ]
  rw [← hB.out, ← hwb.out]
  have kp := keepT wb w.heap.size B 0 _ _ bk.out (.slice (some ⟨gt1, 0, none⟩) p (p + 1)) iv q1.out (fun x hx => ⟨fun h => h, u1.out x hx⟩) (by omega) (hil.out)
  go_upto_region 11 with (fail)
  refine wp_region_lit ?_
  refine wpList_reads (by kernel_rfl) (.slice (some ⟨gt1, 0, none⟩) p (p + 1)) (by go_simp) ?_
  simp only [Act.put, List.setIfInBounds_toArray, List.set_cons_zero, List.set_cons_succ]
  refine wpList_enter (by kernel_rfl) 13 #[.pointer (some ⟨B, 0, none⟩), .slice (some ⟨gt1, 0, none⟩) p (p + 1)] (by go_simp) (kp) ?_
  rintro e b1 ⟨rfl, mk, vk1, bk⟩
  clear kp
  clear q1
  replace m0 := Lib.hid (m0.out.trans' mk (fun x hx h => by have := hBw.out; omega))
  replace q2 := Lib.hid (clip_below q2.out mk u2.out)
  replace q3 := Lib.hid (clip_below q3.out mk u3.out)
  replace q4 := Lib.hid (clip_below q4.out mk u4.out)
  replace q5 := Lib.hid (clip_below q5.out mk u5.out)
  replace bk := Lib.hid (bk.mono (T' := fun x => x < t1) (fun x hx => hx.elim (fun h => h.elim) (fun h => (l1.out x h).2)))
  clear mk
  refine ⟨_, rfl, ?_⟩
  simp only [Act.put, List.setIfInBounds_toArray, List.set_cons_zero, List.set_cons_succ]
  have kp := keepT b1 w.heap.size B 1 _ _ bk.out (.slice (some ⟨gt2, 0, none⟩) m (m + 1)) x q2.out (fun x hx => ⟨fun h => by have := (l2.out x hx).1; have := z2.out; have := z3.out; have := z4.out; have := z5.out; have := z6.out; have := z7.out; have := z8.out; have := z9.out; have := z10.out; have := z11.out; have := z12.out; omega, u2.out x hx⟩) (by omega) (hxl.out)
  go_upto_region 12 with (fail)
  refine wp_region_lit ?_
  refine wpList_reads (by kernel_rfl) (.slice (some ⟨gt2, 0, none⟩) m (m + 1)) (by go_simp) ?_
  simp only [Act.put, List.setIfInBounds_toArray, List.set_cons_zero, List.set_cons_succ]
  refine wpList_enter (by kernel_rfl) 13 #[.pointer (some ⟨B, 0, none⟩), .slice (some ⟨gt2, 0, none⟩) m (m + 1)] (by go_simp) (kp) ?_
  rintro e b2 ⟨rfl, mk, vk2, bk⟩
  clear kp
  clear q2
  replace m0 := Lib.hid (m0.out.trans' mk (fun x hx h => by have := hBw.out; omega))
  replace q3 := Lib.hid (clip_below q3.out mk u3.out)
  replace q4 := Lib.hid (clip_below q4.out mk u4.out)
  replace q5 := Lib.hid (clip_below q5.out mk u5.out)
  replace bk := Lib.hid (bk.mono (T' := fun x => x < t2) (fun x hx => hx.elim (fun h => by have := z2.out; have := z3.out; have := z4.out; have := z5.out; have := z6.out; have := z7.out; have := z8.out; have := z9.out; have := z10.out; have := z11.out; have := z12.out; omega) (fun h => (l2.out x h).2)))
  clear mk
  refine ⟨_, rfl, ?_⟩
  simp only [Act.put, List.setIfInBounds_toArray, List.set_cons_zero, List.set_cons_succ]
  have kp := keepT b2 w.heap.size B 2 _ _ bk.out (.slice (some ⟨gt3, 0, none⟩) n (n + 1)) y q3.out (fun x hx => ⟨fun h => by have := (l3.out x hx).1; have := z2.out; have := z3.out; have := z4.out; have := z5.out; have := z6.out; have := z7.out; have := z8.out; have := z9.out; have := z10.out; have := z11.out; have := z12.out; omega, u3.out x hx⟩) (by omega) (hyl.out)
  go_upto_region 13 with (fail)
  refine wp_region_lit ?_
  refine wpList_reads (by kernel_rfl) (.slice (some ⟨gt3, 0, none⟩) n (n + 1)) (by go_simp) ?_
  simp only [Act.put, List.setIfInBounds_toArray, List.set_cons_zero, List.set_cons_succ]
  refine wpList_enter (by kernel_rfl) 13 #[.pointer (some ⟨B, 0, none⟩), .slice (some ⟨gt3, 0, none⟩) n (n + 1)] (by go_simp) (kp) ?_
  rintro e b3 ⟨rfl, mk, vk3, bk⟩
  clear kp
  clear q3
  replace m0 := Lib.hid (m0.out.trans' mk (fun x hx h => by have := hBw.out; omega))
  replace q4 := Lib.hid (clip_below q4.out mk u4.out)
  replace q5 := Lib.hid (clip_below q5.out mk u5.out)
  replace bk := Lib.hid (bk.mono (T' := fun x => x < t3) (fun x hx => hx.elim (fun h => by have := z2.out; have := z3.out; have := z4.out; have := z5.out; have := z6.out; have := z7.out; have := z8.out; have := z9.out; have := z10.out; have := z11.out; have := z12.out; omega) (fun h => (l3.out x h).2)))
  clear mk
  refine ⟨_, rfl, ?_⟩
  simp only [Act.put, List.setIfInBounds_toArray, List.set_cons_zero, List.set_cons_succ]
  have kp := keepT b3 w.heap.size B 3 _ _ bk.out (va) X q4.out (fun x hx => ⟨fun h => by have := (l4.out x hx).1; have := z2.out; have := z3.out; have := z4.out; have := z5.out; have := z6.out; have := z7.out; have := z8.out; have := z9.out; have := z10.out; have := z11.out; have := z12.out; omega, u4.out x hx⟩) (by omega) (by have := hXl.out; omega)
  go_upto_region 14 with (fail)
  refine wp_region_lit ?_
  refine wpList_reads (by kernel_rfl) (va) (by go_simp) ?_
  simp only [Act.put, List.setIfInBounds_toArray, List.set_cons_zero, List.set_cons_succ]
  refine wpList_enter (by kernel_rfl) 13 #[.pointer (some ⟨B, 0, none⟩), va] (by go_simp) (kp) ?_
  rintro e b4 ⟨rfl, mk, vk4, bk⟩
  clear kp
  clear q4
  replace m0 := Lib.hid (m0.out.trans' mk (fun x hx h => by have := hBw.out; omega))
  replace q5 := Lib.hid (clip_below q5.out mk u5.out)
  replace bk := Lib.hid (bk.mono (T' := fun x => x < t4) (fun x hx => hx.elim (fun h => by have := z2.out; have := z3.out; have := z4.out; have := z5.out; have := z6.out; have := z7.out; have := z8.out; have := z9.out; have := z10.out; have := z11.out; have := z12.out; omega) (fun h => (l4.out x h).2)))
  clear mk
  refine ⟨_, rfl, ?_⟩
  simp only [Act.put, List.setIfInBounds_toArray, List.set_cons_zero, List.set_cons_succ]
  have kp := keepT b4 w.heap.size B 4 _ _ bk.out (vb) Y q5.out (fun x hx => ⟨fun h => by have := (l5.out x hx).1; have := z2.out; have := z3.out; have := z4.out; have := z5.out; have := z6.out; have := z7.out; have := z8.out; have := z9.out; have := z10.out; have := z11.out; have := z12.out; omega, u5.out x hx⟩) (by omega) (by have := hYl.out; omega)
  go_upto_region 15 with (fail)
  refine wp_region_lit ?_
  refine wpList_reads (by kernel_rfl) (vb) (by go_simp) ?_
  simp only [Act.put, List.setIfInBounds_toArray, List.set_cons_zero, List.set_cons_succ]
  refine wpList_enter (by kernel_rfl) 13 #[.pointer (some ⟨B, 0, none⟩), vb] (by go_simp) (kp) ?_
  rintro e b5 ⟨rfl, mk, vk5, bk⟩
  clear kp
  clear q5
  replace m0 := Lib.hid (m0.out.trans' mk (fun x hx h => by have := hBw.out; omega))
  replace bk := Lib.hid (bk.mono (T' := fun x => x < t5) (fun x hx => hx.elim (fun h => by have := z2.out; have := z3.out; have := z4.out; have := z5.out; have := z6.out; have := z7.out; have := z8.out; have := z9.out; have := z10.out; have := z11.out; have := z12.out; omega) (fun h => (l5.out x h).2)))
  clear mk
  refine ⟨_, rfl, ?_⟩
  simp only [Act.put, List.setIfInBounds_toArray, List.set_cons_zero, List.set_cons_succ]
  go_upto_region 16 with (fail)
  refine wp_region_lit ?_
  refine wpList_enter (by kernel_rfl) 14 #[.pointer (some ⟨B, 0, none⟩)] (by go_simp) (apartT b5 w.heap.size B 5 _ _ bk.out) ?_
  rintro e y1 ⟨rfl, ma⟩
  have mf := m0.out.trans' ma (fun x hx h => by omega)
  replace mf := Lib.hid mf
  clear ma bk
  refine ⟨_, rfl, ?_⟩
  simp only [Act.put, List.setIfInBounds_toArray, List.set_cons_zero, List.set_cons_succ]
  refine wpList_reads (by kernel_rfl) (.bool true) (by go_simp) ?_
  simp only [Act.put, List.setIfInBounds_toArray, List.set_cons_zero, List.set_cons_succ]
  refine wpList_enter (by kernel_rfl) 15 #[] (by go_simp) (lives_any y1) ?_
  rintro e y2 ⟨m5, rfl⟩
  replace mf := Lib.hid (mf.out.trans m5)
  clear m5
  refine ⟨_, rfl, ?_⟩
  simp only [Act.put, List.setIfInBounds_toArray, List.set_cons_zero, List.set_cons_succ]
  refine wpList_reads (by kernel_rfl) (.bool true) (by go_simp) ?_
  simp only [Act.put, List.setIfInBounds_toArray, List.set_cons_zero, List.set_cons_succ]
  refine wpList_reads (by kernel_rfl) (.bool true) (by go_simp) ?_
  simp only [Act.put, List.setIfInBounds_toArray, List.set_cons_zero, List.set_cons_succ]
  go_wp2
  go_ret
  exact ⟨mf.out, rfl⟩
end Go.Proofs.YtppjnkgmbmhlcaaGreatDoor
