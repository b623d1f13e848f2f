/-
  mailcoachlaw12.KeysOf. Printed by gen/ko2.py.
-/
import Derived.Test.YtppjnkgmbmhlcaaGreatDoorN6
import Derived.Test.YtppjnkgmbmhlcaaGreatDoorO1
namespace Go.Proofs.YtppjnkgmbmhlcaaGreatDoor
set_option maxRecDepth 100000
open Go Go.RowKit Go.Lib
set_option linter.unusedSimpArgs false
set_option linter.unusedVariables false

set_option maxRecDepth 100000 in
set_option maxHeartbeats 4000000 in
theorem keysof_any (v : Value) (k : List (BitVec 8)) (w : World) (hk : ByteAt w v k) (hkl : k.length ≤ 140737488351232) :
    Calls Tryz.prog 4 #[v] w fun e w' => Mod (fun _ => False) w w' ∧ e = .returned (.bool true) := by
  obtain ⟨ak, ck, rfl, _⟩ := hk.slice
  obtain ⟨n, hn⟩ : ∃ m, m = k.length := ⟨_, rfl⟩
  rw [← hn] at hk ⊢
  have m0 : Mod (fun _ => False) w w := Mod.refl _ _
  obtain ⟨E, hE⟩ : ∃ E, E = ofE k := ⟨_, rfl⟩
  have hEE : (E != E) = false := by simp
  have hX := ofX_length k
  have hY := nextX_length k
  obtain ⟨X, hXd⟩ : ∃ X, X = ofX k := ⟨_, rfl⟩
  obtain ⟨Y, hYd⟩ : ∃ Y, Y = nextX k := ⟨_, rfl⟩
  rw [← hXd] at hX
  rw [← hYd] at hY
  replace hn := Lib.hid hn
  replace hk := Lib.hid hk
  replace m0 := Lib.hid m0
  replace hE := Lib.hid hE
  replace hXd := Lib.hid hXd
  replace hYd := Lib.hid hYd
  replace hX := Lib.hid hX
  replace hY := Lib.hid hY
  replace hkl := Lib.hid hkl
  go_enter Tryz.func4, Tryz.ntmps4
  go_upto_region 1 with (fail)
  refine wp_region_lit ?_
  refine wpList_reads (by kernel_rfl) (.slice ak n ck) (by go_simp) ?_
  simp only [Act.put, List.setIfInBounds_toArray, List.set_cons_zero, List.set_cons_succ]
  refine wpList_enter (by kernel_rfl) 6 #[.slice ak n ck] (by go_simp) (twin_new _ k w hk.out (by have := hkl.out; omega)) ?_
  rintro e w1 ⟨m1, vt, rfl, tw, tb⟩
  obtain ⟨gt, hvt⟩ : ∃ g, vt = .slice (some ⟨g, 0, none⟩) n (n + 1) := by obtain ⟨g, h, _⟩ := tw; exact ⟨g, by rw [h, hn.out]⟩
  subst hvt
  have tlt : ∀ x, (Value.slice (some ⟨gt, 0, none⟩) n (n + 1)).ownBlock = some x → x < w1.heap.size := by
    obtain ⟨g, h, h2⟩ := tw
    intro x hx
    rw [h] at hx
    have h3 : g = x := by injection hx
    exact h3 ▸ lt_of_heap h2
  have q0 := twin_clip tw tb (by have := hkl.out; omega)
  replace hk := Lib.hid (hk.out.mod m1 (fun _ _ h => h))
  replace m0 := Lib.hid (m0.out.trans m1)
  have s1 := m0.out.size
  clear m1
  replace tw := Lib.hid tw
  replace q0 := Lib.hid q0
  replace tlt := Lib.hid tlt
  replace tb := Lib.hid tb
  replace s1 := Lib.hid s1
  refine ⟨_, rfl, ?_⟩
  simp only [Act.put, List.setIfInBounds_toArray, List.set_cons_zero, List.set_cons_succ]
  refine wpList_reads (by kernel_rfl) (.slice (some ⟨gt, 0, none⟩) n (n + 1)) (by go_simp) ?_
  simp only [Act.put, List.setIfInBounds_toArray, List.set_cons_zero, List.set_cons_succ]
  go_upto_region 2 with (fail)
  refine wp_region_lit ?_
  refine wpList_reads (by kernel_rfl) (.slice (some ⟨gt, 0, none⟩) n (n + 1)) (by go_simp) ?_
  simp only [Act.put, List.setIfInBounds_toArray, List.set_cons_zero, List.set_cons_succ]
  refine wpList_enter (by kernel_rfl) 16 #[.slice (some ⟨gt, 0, none⟩) n (n + 1)] (by go_simp) (Calls.mono (Of_any _ k w1 tw.out.byteAt (by have := hkl.out; omega)) (fun _ _ h => h.uni)) ?_
  rintro e w2 ⟨m2, va, rfl, r2⟩
  rw [← hE.out]
  rw [← hXd.out] at r2
  have l2 := r2.in_
  have z2 := m2.size
  have r2 := r2.base0 m0.out.size
  obtain ⟨w2a, hw2a⟩ : ∃ x, x = w2.alloc (.cells #[.slice none 0 0, .slice none 0 0, .slice none 0 0] 49) := ⟨_, rfl⟩
  obtain ⟨G4, hG4⟩ : ∃ g, g = w2.heap.size := ⟨_, rfl⟩
  have ma : Mod (fun _ => False) w2 w2a := by rw [hw2a]; exact (Mod.refl _ _).alloc _
  have xa : w2a.heap[G4]? = some (.cells #[.slice none 0 0, .slice none 0 0, .slice none 0 0] 49 (0,0)) := by rw [hw2a]; exact hp_new _ _ _ hG4
  obtain ⟨w2s, st, ms, cG4⟩ := keys_store xa (r2.one 0 (by omega)) (r2.one 1 (by omega)) (r2.one 2 (by omega))
  have mas : Mod (fun _ => False) w2 w2s := ma.trans' ms (fun x hx h => by omega)
  have n2 := mas.size
  have uG4 : G4 < w2s.heap.size := lt_of_heap cG4
  have r2 := r2.keep0 mas
  have mm := m2.trans mas
  replace hk := Lib.hid (hk.out.mod mm (fun _ _ h => h))
  replace m0 := Lib.hid (m0.out.trans mm)
  replace tw := Lib.hid (tw.out.mod mm (fun _ h => h))
  replace q0 := Lib.hid (clip_keep0 q0.out mm)
  replace r2 := Lib.hid r2
  replace cG4 := Lib.hid cG4
  replace l2 := Lib.hid l2
  replace z2 := Lib.hid z2
  replace n2 := Lib.hid n2
  replace hw2a := Lib.hid hw2a
  replace hG4 := Lib.hid hG4
  replace uG4 := Lib.hid uG4
  clear ma xa ms mas mm m2
  refine ⟨_, rfl, ?_⟩
  simp only [Act.put, List.setIfInBounds_toArray, List.set_cons_zero, List.set_cons_succ]
  refine wpList_reads (by kernel_rfl) (.tuple #[.agg #[va 0, va 1, va 2], .int .i64 E]) (by go_simp) ?_
  simp only [Act.put, List.setIfInBounds_toArray, List.set_cons_zero, List.set_cons_succ]
  refine wpList_reads (by kernel_rfl) (.agg #[va 0, va 1, va 2]) (by go_simp) ?_
  simp only [Act.put, List.setIfInBounds_toArray, List.set_cons_zero, List.set_cons_succ]
  refine wpList_reads (by kernel_rfl) (.int .i64 E) (by go_simp) ?_
  simp only [Act.put, List.setIfInBounds_toArray, List.set_cons_zero, List.set_cons_succ]
  refine wpList_yields (by kernel_rfl) _ _ (alloc_keys _ _ _ rfl) ?_
  simp only [Act.put, List.setIfInBounds_toArray, List.set_cons_zero, List.set_cons_succ]
  rw [← hG4.out, ← hw2a.out]
  refine wpList_store_to rfl _ _ _ rfl _ _ _ rfl rfl _ st ?_
  simp only [Act.put, List.setIfInBounds_toArray, List.set_cons_zero, List.set_cons_succ]
  refine wpList_reads (by kernel_rfl) (.int .i64 E) (by go_simp) ?_
  simp only [Act.put, List.setIfInBounds_toArray, List.set_cons_zero, List.set_cons_succ]
  clear st
  go_upto_region 3 with (fail)
  refine wp_region_lit ?_
  refine wpList_reads (by kernel_rfl) (.slice (some ⟨gt, 0, none⟩) n (n + 1)) (by go_simp) ?_
  simp only [Act.put, List.setIfInBounds_toArray, List.set_cons_zero, List.set_cons_succ]
  refine wpList_enter (by kernel_rfl) 16 #[.slice (some ⟨gt, 0, none⟩) n (n + 1)] (by go_simp) (Calls.mono (Of_any _ k w2s tw.out.byteAt (by have := hkl.out; omega)) (fun _ _ h => h.uni)) ?_
  rintro e w3 ⟨m3, vb, rfl, r3⟩
  rw [← hE.out]
  rw [← hXd.out] at r3
  have l3 := r3.in_
  have z3 := m3.size
  have r3 := r3.base0 m0.out.size
  obtain ⟨w3a, hw3a⟩ : ∃ x, x = w3.alloc (.cells #[.slice none 0 0, .slice none 0 0, .slice none 0 0] 49) := ⟨_, rfl⟩
  obtain ⟨G6, hG6⟩ : ∃ g, g = w3.heap.size := ⟨_, rfl⟩
  have ma : Mod (fun _ => False) w3 w3a := by rw [hw3a]; exact (Mod.refl _ _).alloc _
  have xa : w3a.heap[G6]? = some (.cells #[.slice none 0 0, .slice none 0 0, .slice none 0 0] 49 (0,0)) := by rw [hw3a]; exact hp_new _ _ _ hG6
  obtain ⟨w3s, st, ms, cG6⟩ := keys_store xa (r3.one 0 (by omega)) (r3.one 1 (by omega)) (r3.one 2 (by omega))
  have mas : Mod (fun _ => False) w3 w3s := ma.trans' ms (fun x hx h => by omega)
  have n3 := mas.size
  have uG6 : G6 < w3s.heap.size := lt_of_heap cG6
  have r3 := r3.keep0 mas
  have mm := m3.trans mas
  replace hk := Lib.hid (hk.out.mod mm (fun _ _ h => h))
  replace m0 := Lib.hid (m0.out.trans mm)
  replace tw := Lib.hid (tw.out.mod mm (fun _ h => h))
  replace q0 := Lib.hid (clip_keep0 q0.out mm)
  replace r2 := Lib.hid (r2.out.keep0 mm)
  replace cG4 := Lib.hid (mm.heap cG4.out (fun h => h))
  replace r3 := Lib.hid r3
  replace cG6 := Lib.hid cG6
  replace l3 := Lib.hid l3
  replace z3 := Lib.hid z3
  replace n3 := Lib.hid n3
  replace hw3a := Lib.hid hw3a
  replace hG6 := Lib.hid hG6
  replace uG6 := Lib.hid uG6
  clear ma xa ms mas mm m3
  refine ⟨_, rfl, ?_⟩
  simp only [Act.put, List.setIfInBounds_toArray, List.set_cons_zero, List.set_cons_succ]
  refine wpList_reads (by kernel_rfl) (.tuple #[.agg #[vb 0, vb 1, vb 2], .int .i64 E]) (by go_simp) ?_
  simp only [Act.put, List.setIfInBounds_toArray, List.set_cons_zero, List.set_cons_succ]
  refine wpList_reads (by kernel_rfl) (.agg #[vb 0, vb 1, vb 2]) (by go_simp) ?_
  simp only [Act.put, List.setIfInBounds_toArray, List.set_cons_zero, List.set_cons_succ]
  refine wpList_reads (by kernel_rfl) (.int .i64 E) (by go_simp) ?_
  simp only [Act.put, List.setIfInBounds_toArray, List.set_cons_zero, List.set_cons_succ]
  refine wpList_yields (by kernel_rfl) _ _ (alloc_keys _ _ _ rfl) ?_
  simp only [Act.put, List.setIfInBounds_toArray, List.set_cons_zero, List.set_cons_succ]
  rw [← hG6.out, ← hw3a.out]
  refine wpList_store_to rfl _ _ _ rfl _ _ _ rfl rfl _ st ?_
  simp only [Act.put, List.setIfInBounds_toArray, List.set_cons_zero, List.set_cons_succ]
  refine wpList_reads (by kernel_rfl) (.int .i64 E) (by go_simp) ?_
  simp only [Act.put, List.setIfInBounds_toArray, List.set_cons_zero, List.set_cons_succ]
  clear st
  go_upto_region 4 with (fail)
  refine wp_region_lit ?_
  refine wpList_reads (by kernel_rfl) (.slice (some ⟨gt, 0, none⟩) n (n + 1)) (by go_simp) ?_
  simp only [Act.put, List.setIfInBounds_toArray, List.set_cons_zero, List.set_cons_succ]
  refine wpList_enter (by kernel_rfl) 17 #[.slice (some ⟨gt, 0, none⟩) n (n + 1)] (by go_simp) (next_any _ k w3s tw.out.byteAt (by have := hkl.out; omega)) ?_
  rintro e w4 ⟨m4, vn, rfl, r4⟩
  rw [← hE.out]
  rw [← hYd.out] at r4
  have l4 := r4.lt
  have z4 := m4.size
  have r4 := clip_base0 r4 m0.out.size
  replace hk := Lib.hid (hk.out.mod m4 (fun _ _ h => h))
  replace m0 := Lib.hid (m0.out.trans m4)
  replace tw := Lib.hid (tw.out.mod m4 (fun _ h => h))
  replace q0 := Lib.hid (clip_keep0 q0.out m4)
  replace r2 := Lib.hid (r2.out.keep0 m4)
  replace cG4 := Lib.hid (m4.heap cG4.out (fun h => h))
  replace r3 := Lib.hid (r3.out.keep0 m4)
  replace cG6 := Lib.hid (m4.heap cG6.out (fun h => h))
  replace r4 := Lib.hid r4
  replace l4 := Lib.hid l4
  replace z4 := Lib.hid z4
  clear m4
  refine ⟨_, rfl, ?_⟩
  simp only [Act.put, List.setIfInBounds_toArray, List.set_cons_zero, List.set_cons_succ]
  refine wpList_reads (by kernel_rfl) (.tuple #[vn, .int .i64 E]) (by go_simp) ?_
  simp only [Act.put, List.setIfInBounds_toArray, List.set_cons_zero, List.set_cons_succ]
  refine wpList_reads (by kernel_rfl) (vn) (by go_simp) ?_
  simp only [Act.put, List.setIfInBounds_toArray, List.set_cons_zero, List.set_cons_succ]
  refine wpList_reads (by kernel_rfl) (.int .i64 E) (by go_simp) ?_
  simp only [Act.put, List.setIfInBounds_toArray, List.set_cons_zero, List.set_cons_succ]
  refine wpList_reads (by kernel_rfl) (vn) (by go_simp) ?_
  simp only [Act.put, List.setIfInBounds_toArray, List.set_cons_zero, List.set_cons_succ]
  refine wpList_reads (by kernel_rfl) (.int .i64 E) (by go_simp) ?_
  simp only [Act.put, List.setIfInBounds_toArray, List.set_cons_zero, List.set_cons_succ]
  go_upto_region 5 with (fail)
  refine wp_region_lit ?_
  refine wpList_reads (by kernel_rfl) (.slice ak n ck) (by go_simp) ?_
  simp only [Act.put, List.setIfInBounds_toArray, List.set_cons_zero, List.set_cons_succ]
  refine wpList_enter (by kernel_rfl) 18 #[.slice ak n ck] (by go_simp) (refOf_any _ k w4 hk.out (by have := hkl.out; omega)) ?_
  rintro e w5 ⟨m5, vc, rfl, r5⟩
  have sz := m5.size
  rw [← hE.out]
  rw [← hXd.out] at r5
  have l5 := r5.in_
  have z5 := m5.size
  have r5 := r5.base0 m0.out.size
  obtain ⟨w5a, hw5a⟩ : ∃ x, x = w5.alloc (.cells #[.slice none 0 0, .slice none 0 0, .slice none 0 0] 49) := ⟨_, rfl⟩
  obtain ⟨G10, hG10⟩ : ∃ g, g = w5.heap.size := ⟨_, rfl⟩
  have ma : Mod (fun _ => False) w5 w5a := by rw [hw5a]; exact (Mod.refl _ _).alloc _
  have xa : w5a.heap[G10]? = some (.cells #[.slice none 0 0, .slice none 0 0, .slice none 0 0] 49 (0,0)) := by rw [hw5a]; exact hp_new _ _ _ hG10
  obtain ⟨w5s, st, ms, cG10⟩ := keys_store xa (r5.one 0 (by omega)) (r5.one 1 (by omega)) (r5.one 2 (by omega))
  have mas : Mod (fun _ => False) w5 w5s := ma.trans' ms (fun x hx h => by omega)
  have n5 := mas.size
  replace sz := Lib.hid (Nat.le_trans sz n5)
  have uG10 : G10 < w5s.heap.size := lt_of_heap cG10
  have r5 := r5.keep0 mas
  have mm := m5.trans mas
  replace hk := Lib.hid (hk.out.mod mm (fun _ _ h => h))
  replace m0 := Lib.hid (m0.out.trans mm)
  replace tw := Lib.hid (tw.out.mod mm (fun _ h => h))
  replace q0 := Lib.hid (clip_keep0 q0.out mm)
  replace r2 := Lib.hid (r2.out.keep0 mm)
  replace cG4 := Lib.hid (mm.heap cG4.out (fun h => h))
  replace r3 := Lib.hid (r3.out.keep0 mm)
  replace cG6 := Lib.hid (mm.heap cG6.out (fun h => h))
  replace r4 := Lib.hid (clip_keep0 r4.out mm)
  replace r5 := Lib.hid r5
  replace cG10 := Lib.hid cG10
  replace l5 := Lib.hid l5
  replace z5 := Lib.hid z5
  replace n5 := Lib.hid n5
  replace hw5a := Lib.hid hw5a
  replace hG10 := Lib.hid hG10
  replace uG10 := Lib.hid uG10
  clear ma xa ms mas mm m5
  refine ⟨_, rfl, ?_⟩
  simp only [Act.put, List.setIfInBounds_toArray, List.set_cons_zero, List.set_cons_succ]
  refine wpList_reads (by kernel_rfl) (.tuple #[.agg #[vc 0, vc 1, vc 2], .int .i64 E]) (by go_simp) ?_
  simp only [Act.put, List.setIfInBounds_toArray, List.set_cons_zero, List.set_cons_succ]
  refine wpList_reads (by kernel_rfl) (.agg #[vc 0, vc 1, vc 2]) (by go_simp) ?_
  simp only [Act.put, List.setIfInBounds_toArray, List.set_cons_zero, List.set_cons_succ]
  refine wpList_reads (by kernel_rfl) (.int .i64 E) (by go_simp) ?_
  simp only [Act.put, List.setIfInBounds_toArray, List.set_cons_zero, List.set_cons_succ]
  refine wpList_yields (by kernel_rfl) _ _ (alloc_keys _ _ _ rfl) ?_
  simp only [Act.put, List.setIfInBounds_toArray, List.set_cons_zero, List.set_cons_succ]
  rw [← hG10.out, ← hw5a.out]
  refine wpList_store_to rfl _ _ _ rfl _ _ _ rfl rfl _ st ?_
  simp only [Act.put, List.setIfInBounds_toArray, List.set_cons_zero, List.set_cons_succ]
  refine wpList_reads (by kernel_rfl) (.int .i64 E) (by go_simp) ?_
  simp only [Act.put, List.setIfInBounds_toArray, List.set_cons_zero, List.set_cons_succ]
  clear st
  go_upto_region 6 with (fail)
  refine wp_region_lit ?_
  refine wpList_reads (by kernel_rfl) (.slice ak n ck) (by go_simp) ?_
  simp only [Act.put, List.setIfInBounds_toArray, List.set_cons_zero, List.set_cons_succ]
  refine wpList_enter (by kernel_rfl) 19 #[.slice ak n ck] (by go_simp) (refnext_any _ k w5s hk.out (by have := hkl.out; omega)) ?_
  rintro e w6 ⟨m6, vm, rfl, r6⟩
  rw [← hE.out]
  rw [← hYd.out] at r6
  have l6 := r6.lt
  have z6 := m6.size
  have r6 := clip_base0 r6 m0.out.size
  replace hk := Lib.hid (hk.out.mod m6 (fun _ _ h => h))
  replace m0 := Lib.hid (m0.out.trans m6)
  replace tw := Lib.hid (tw.out.mod m6 (fun _ h => h))
  replace q0 := Lib.hid (clip_keep0 q0.out m6)
  replace r2 := Lib.hid (r2.out.keep0 m6)
  replace cG4 := Lib.hid (m6.heap cG4.out (fun h => h))
  replace r3 := Lib.hid (r3.out.keep0 m6)
  replace cG6 := Lib.hid (m6.heap cG6.out (fun h => h))
  replace r4 := Lib.hid (clip_keep0 r4.out m6)
  replace r5 := Lib.hid (r5.out.keep0 m6)
  replace cG10 := Lib.hid (m6.heap cG10.out (fun h => h))
  replace r6 := Lib.hid r6
  replace l6 := Lib.hid l6
  replace z6 := Lib.hid z6
  replace sz := Lib.hid (Nat.le_trans sz.out m6.size)
  clear m6
  refine ⟨_, rfl, ?_⟩
  simp only [Act.put, List.setIfInBounds_toArray, List.set_cons_zero, List.set_cons_succ]
  refine wpList_reads (by kernel_rfl) (.tuple #[vm, .int .i64 E]) (by go_simp) ?_
  simp only [Act.put, List.setIfInBounds_toArray, List.set_cons_zero, List.set_cons_succ]
  refine wpList_reads (by kernel_rfl) (vm) (by go_simp) ?_
  simp only [Act.put, List.setIfInBounds_toArray, List.set_cons_zero, List.set_cons_succ]
  refine wpList_reads (by kernel_rfl) (.int .i64 E) (by go_simp) ?_
  simp only [Act.put, List.setIfInBounds_toArray, List.set_cons_zero, List.set_cons_succ]
  refine wpList_reads (by kernel_rfl) (vm) (by go_simp) ?_
  simp only [Act.put, List.setIfInBounds_toArray, List.set_cons_zero, List.set_cons_succ]
  refine wpList_reads (by kernel_rfl) (.int .i64 E) (by go_simp) ?_
  simp only [Act.put, List.setIfInBounds_toArray, List.set_cons_zero, List.set_cons_succ]
  go_upto_region 7 with (fail)
  refine wp_region_lit ?_
  refine wpList_reads (by kernel_rfl) (.int .i64 E) (by go_simp) ?_
  simp only [Act.put, List.setIfInBounds_toArray, List.set_cons_zero, List.set_cons_succ]
  refine wpList_reads (by kernel_rfl) (.int .i64 E) (by go_simp) ?_
  simp only [Act.put, List.setIfInBounds_toArray, List.set_cons_zero, List.set_cons_succ]
  refine wpList_reads (by kernel_rfl) (.bool false) (by go_simp) ?_
  simp only [Act.put, List.setIfInBounds_toArray, List.set_cons_zero, List.set_cons_succ]
  refine wpList_reads (by kernel_rfl) (.bool false) (by go_simp) ?_
  simp only [Act.put, List.setIfInBounds_toArray, List.set_cons_zero, List.set_cons_succ]
  refine wpList_reads (by kernel_rfl) (.int .i64 E) (by go_simp) ?_
  simp only [Act.put, List.setIfInBounds_toArray, List.set_cons_zero, List.set_cons_succ]
  refine wpList_reads (by kernel_rfl) (.int .i64 E) (by go_simp) ?_
  simp only [Act.put, List.setIfInBounds_toArray, List.set_cons_zero, List.set_cons_succ]
  refine wpList_reads (by kernel_rfl) (.bool false) (by go_simp) ?_
  simp only [Act.put, List.setIfInBounds_toArray, List.set_cons_zero, List.set_cons_succ]
  refine wpList_reads (by kernel_rfl) (.bool false) (by go_simp) ?_
  simp only [Act.put, List.setIfInBounds_toArray, List.set_cons_zero, List.set_cons_succ]
  refine wpList_reads (by kernel_rfl) (.bool false) (by go_simp) ?_
  simp only [Act.put, List.setIfInBounds_toArray, List.set_cons_zero, List.set_cons_succ]
  refine wpList_reads (by kernel_rfl) (.agg #[va 0, va 1, va 2]) (run_load_op rfl rfl (keys_load cG4.out)) ?_
  simp only [Act.put, List.setIfInBounds_toArray, List.set_cons_zero, List.set_cons_succ]
  refine wpList_reads (by kernel_rfl) (.agg #[vc 0, vc 1, vc 2]) (run_load_op rfl rfl (keys_load cG10.out)) ?_
  simp only [Act.put, List.setIfInBounds_toArray, List.set_cons_zero, List.set_cons_succ]
  refine wpList_enter (by kernel_rfl) 20 #[.agg #[va 0, va 1, va 2], .agg #[vc 0, vc 1, vc 2]] (by go_simp) (samekeys_any (va 0) (va 1) (va 2) (vc 0) (vc 1) (vc 2) (X 0) (X 1) (X 2) w6 (clip_byteAt (r2.out.row 0 (by omega))) (clip_byteAt (r2.out.row 1 (by omega))) (clip_byteAt (r2.out.row 2 (by omega))) (clip_byteAt (r5.out.row 0 (by omega))) (clip_byteAt (r5.out.row 1 (by omega))) (clip_byteAt (r5.out.row 2 (by omega))) (hX.out 0) (hX.out 1) (hX.out 2)) ?_
  rintro e w7 ⟨m7, rfl⟩
  replace hk := Lib.hid (hk.out.mod m7 (fun _ _ h => h))
  replace m0 := Lib.hid (m0.out.trans m7)
  replace tw := Lib.hid (tw.out.mod m7 (fun _ h => h))
  replace q0 := Lib.hid (clip_keep0 q0.out m7)
  replace r2 := Lib.hid (r2.out.keep0 m7)
  replace cG4 := Lib.hid (m7.heap cG4.out (fun h => h))
  replace r3 := Lib.hid (r3.out.keep0 m7)
  replace cG6 := Lib.hid (m7.heap cG6.out (fun h => h))
  replace r4 := Lib.hid (clip_keep0 r4.out m7)
  replace r5 := Lib.hid (r5.out.keep0 m7)
  replace cG10 := Lib.hid (m7.heap cG10.out (fun h => h))
  replace r6 := Lib.hid (clip_keep0 r6.out m7)
  replace sz := Lib.hid (Nat.le_trans sz.out m7.size)
  clear m7
  clear cG10 r5
  refine ⟨_, rfl, ?_⟩
  simp only [Act.put, List.setIfInBounds_toArray, List.set_cons_zero, List.set_cons_succ]
  refine wpList_reads (by kernel_rfl) (.bool false) (by go_simp) ?_
  simp only [Act.put, List.setIfInBounds_toArray, List.set_cons_zero, List.set_cons_succ]
  refine wpList_reads (by kernel_rfl) (.bool false) (by go_simp) ?_
  simp only [Act.put, List.setIfInBounds_toArray, List.set_cons_zero, List.set_cons_succ]
  refine wpList_reads (by kernel_rfl) (.bool false) (by go_simp) ?_
  simp only [Act.put, List.setIfInBounds_toArray, List.set_cons_zero, List.set_cons_succ]
  refine wpList_reads (by kernel_rfl) (vn) (by go_simp) ?_
  simp only [Act.put, List.setIfInBounds_toArray, List.set_cons_zero, List.set_cons_succ]
  refine wpList_reads (by kernel_rfl) (vm) (by go_simp) ?_
  simp only [Act.put, List.setIfInBounds_toArray, List.set_cons_zero, List.set_cons_succ]
  refine wpList_enter (by kernel_rfl) 11 #[vn, vm] (by go_simp) (same_any _ _ Y Y w7 (clip_byteAt r4.out) (clip_byteAt r6.out) (by have := hY.out; omega) (by have := hY.out; omega)) ?_
  rintro e w8 ⟨m8, rfl⟩
  rw [show decide (Y = Y) = true by simp]
  replace hk := Lib.hid (hk.out.mod m8 (fun _ _ h => h))
  replace m0 := Lib.hid (m0.out.trans m8)
  replace tw := Lib.hid (tw.out.mod m8 (fun _ h => h))
  replace q0 := Lib.hid (clip_keep0 q0.out m8)
  replace r2 := Lib.hid (r2.out.keep0 m8)
  replace cG4 := Lib.hid (m8.heap cG4.out (fun h => h))
  replace r3 := Lib.hid (r3.out.keep0 m8)
  replace cG6 := Lib.hid (m8.heap cG6.out (fun h => h))
  replace r4 := Lib.hid (clip_keep0 r4.out m8)
  replace r6 := Lib.hid (clip_keep0 r6.out m8)
  replace sz := Lib.hid (Nat.le_trans sz.out m8.size)
  clear m8
  clear r6
  refine ⟨_, rfl, ?_⟩
  simp only [Act.put, List.setIfInBounds_toArray, List.set_cons_zero, List.set_cons_succ]
  refine wpList_reads (by kernel_rfl) (.bool false) (by go_simp) ?_
  simp only [Act.put, List.setIfInBounds_toArray, List.set_cons_zero, List.set_cons_succ]
  refine wpList_reads (by kernel_rfl) (.bool false) (by go_simp) ?_
  simp only [Act.put, List.setIfInBounds_toArray, List.set_cons_zero, List.set_cons_succ]
  refine wpList_reads (by kernel_rfl) (.bool false) (by go_simp) ?_
  simp only [Act.put, List.setIfInBounds_toArray, List.set_cons_zero, List.set_cons_succ]
  refine wpList_reads (by kernel_rfl) (.slice (some ⟨gt, 0, none⟩) n (n + 1)) (by go_simp) ?_
  simp only [Act.put, List.setIfInBounds_toArray, List.set_cons_zero, List.set_cons_succ]
  refine wpList_reads (by kernel_rfl) (.slice ak n ck) (by go_simp) ?_
  simp only [Act.put, List.setIfInBounds_toArray, List.set_cons_zero, List.set_cons_succ]
  refine wpList_enter (by kernel_rfl) 12 #[.slice (some ⟨gt, 0, none⟩) n (n + 1), .slice ak n ck] (by go_simp) (left_any _ _ k w8 tw.out hk.out (by have := hkl.out; omega)) ?_
  rintro e w9 ⟨m9, rfl⟩
  clear tw hk
  replace m0 := Lib.hid (m0.out.trans m9)
  replace q0 := Lib.hid (clip_keep0 q0.out m9)
  replace r2 := Lib.hid (r2.out.keep0 m9)
  replace cG4 := Lib.hid (m9.heap cG4.out (fun h => h))
  replace r3 := Lib.hid (r3.out.keep0 m9)
  replace cG6 := Lib.hid (m9.heap cG6.out (fun h => h))
  replace r4 := Lib.hid (clip_keep0 r4.out m9)
  replace sz := Lib.hid (Nat.le_trans sz.out m9.size)
  clear m9
  refine ⟨_, rfl, ?_⟩
  simp only [Act.put, List.setIfInBounds_toArray, List.set_cons_zero, List.set_cons_succ]
  refine wpList_reads (by kernel_rfl) (.bool false) (by go_simp) ?_
  simp only [Act.put, List.setIfInBounds_toArray, List.set_cons_zero, List.set_cons_succ]
  refine wpList_reads (by kernel_rfl) (.bool false) (by go_simp) ?_
  simp only [Act.put, List.setIfInBounds_toArray, List.set_cons_zero, List.set_cons_succ]
  have hs2 := z2.out
  have hs2' := n2.out
  have hs3 := z3.out
  have hs3' := n3.out
  have hs4 := z4.out
  obtain ⟨t1, ht1⟩ : ∃ t, t = w1.heap.size := ⟨_, rfl⟩
  obtain ⟨t2, ht2⟩ : ∃ t, t = w2.heap.size := ⟨_, rfl⟩
  obtain ⟨t2s, ht2s⟩ : ∃ t, t = w2s.heap.size := ⟨_, rfl⟩
  obtain ⟨t3, ht3⟩ : ∃ t, t = w3.heap.size := ⟨_, rfl⟩
  obtain ⟨t3s, ht3s⟩ : ∃ t, t = w3s.heap.size := ⟨_, rfl⟩
  obtain ⟨t4, ht4⟩ : ∃ t, t = w4.heap.size := ⟨_, rfl⟩
  have L1 := tlt.out
  have L2 := l2.out
  have L3 := l3.out
  have L4 := l4.out
  have hG4 : G4 < t2s := by rw [ht2s]; exact uG4.out
  have hG6 : G6 < t3s := by rw [ht3s]; exact uG6.out
  rw [← ht1] at L1 L2 hs2
  rw [← ht2] at L2 hs2 hs2'
  rw [← ht2s] at L3 hs2' hs3
  rw [← ht3] at L3 hs3 hs3'
  rw [← ht3s] at L4 hs3' hs4
  rw [← ht4] at L4 hs4
  have ht9 : t4 ≤ w9.heap.size := by rw [ht4]; exact sz.out
  replace L1 := Lib.hid L1
  replace L2 := Lib.hid L2
  replace L3 := Lib.hid L3
  replace L4 := Lib.hid L4
  replace ht1 := Lib.hid ht1
  replace ht2 := Lib.hid ht2
  replace ht2s := Lib.hid ht2s
  replace ht3 := Lib.hid ht3
  replace ht3s := Lib.hid ht3s
  replace ht4 := Lib.hid ht4
  replace hs2 := Lib.hid hs2
  replace hs2' := Lib.hid hs2'
  replace hs3 := Lib.hid hs3
  replace hs3' := Lib.hid hs3'
  replace hs4 := Lib.hid hs4
  replace ht9 := Lib.hid ht9
  replace hG4 := Lib.hid hG4
  replace hG6 := Lib.hid hG6
  clear tlt tb l2 l3 l4 z2 n2 z3 n3 z4 z5 n5 z6 s1 uG4 uG6 uG10 l5 l6 sz
  obtain ⟨wb, hwb⟩ : ∃ x, x = w9.alloc (.cells (bookC 0 (.slice none 0 0)).toArray 44) := ⟨_, rfl⟩
  obtain ⟨B, hB⟩ : ∃ g, g = w9.heap.size := ⟨_, rfl⟩
  have mb : Mod (fun _ => False) w9 wb := by rw [hwb]; exact (Mod.refl _ _).alloc _
  have hB9 : t4 ≤ B := by rw [hB]; exact ht9.out
  have hBw : w.heap.size ≤ B := by rw [hB]; exact m0.out.size
  have bk : BookT wb w.heap.size B 0 (fun _ => False) (.slice none 0 0) := by rw [hwb, hB]; exact BookT.make m0.out.size
  replace m0 := Lib.hid (m0.out.trans mb)
  replace q0 := Lib.hid (clip_keep0 q0.out mb)
  replace r2 := Lib.hid (r2.out.keep0 mb)
  replace cG4 := Lib.hid (mb.heap cG4.out (fun h => h))
  replace r3 := Lib.hid (r3.out.keep0 mb)
  replace cG6 := Lib.hid (mb.heap cG6.out (fun h => h))
  replace r4 := Lib.hid (clip_keep0 r4.out mb)
  replace hwb := Lib.hid hwb
  replace hB := Lib.hid hB
  replace hBw := Lib.hid hBw
  replace bk := Lib.hid bk
  have hs2 := hs2.out
  have hs2' := hs2'.out
  have hs3 := hs3.out
  have hs3' := hs3'.out
  have hs4 := hs4.out
  have lq0 : ∀ x, (Value.slice (some ⟨gt, 0, none⟩) n (n + 1)).ownBlock = some x → x < B := fun x hx => by have := L1.out x hx; omega
  have lr2 : ∀ j, j < 3 → ∀ k, (va j).ownBlock = some k → k < B := fun j hj x hx => by have := L2.out j hj x hx; omega
  have lr3 : ∀ j, j < 3 → ∀ k, (vb j).ownBlock = some k → k < B := fun j hj x hx => by have := L3.out j hj x hx; omega
  have lr4 : ∀ x, vn.ownBlock = some x → x < B := fun x hx => by have := L4.out x hx; omega
  have lG4 : G4 < B := by have := hG4.out; omega
  have lG6 : G6 < B := by have := hG6.out; omega
  replace lq0 := Lib.hid lq0
  replace lr2 := Lib.hid lr2
  replace lr3 := Lib.hid lr3
  replace lr4 := Lib.hid lr4
  replace lG4 := Lib.hid lG4
  replace lG6 := Lib.hid lG6
  replace hs2 := Lib.hid hs2
  replace hs2' := Lib.hid hs2'
  replace hs3 := Lib.hid hs3
  replace hs3' := Lib.hid hs3'
  replace hs4 := Lib.hid hs4
  replace hB9 := Lib.hid hB9
  clear mb
  go_upto_region 9 with (fail)
  refine wp_region_lit ?_
  refine wpList_yields (by kernel_rfl) _ _ (alloc_book _ _ _ rfl) ?_
  simp only [Act.put, List.setIfInBounds_toArray, List.set_cons_zero, List.set_cons_succ]
  rw [← hB.out, ← hwb.out]
  have kp := keepT wb w.heap.size B 0 _ _ bk.out (.slice (some ⟨gt, 0, none⟩) n (n + 1)) k (by rw [← hn.out]; exact hn.out ▸ q0.out) (fun x hx => ⟨fun h => h, lq0.out x hx⟩) (by omega) hkl.out
  go_upto_region 10 with (fail)
  refine wp_region_lit ?_
  refine wpList_reads (by kernel_rfl) (.slice (some ⟨gt, 0, none⟩) n (n + 1)) (by go_simp) ?_
  simp only [Act.put, List.setIfInBounds_toArray, List.set_cons_zero, List.set_cons_succ]
  refine wpList_enter (by kernel_rfl) 13 #[.pointer (some ⟨B, 0, none⟩), .slice (some ⟨gt, 0, none⟩) n (n + 1)] (by go_simp) (kp) ?_
  rintro e u0 ⟨rfl, mk, vk0, bk⟩
  clear kp
  replace m0 := Lib.hid (m0.out.trans' mk (fun x hx h => by have := hBw.out; omega))
  replace q0 := Lib.hid (clip_below q0.out mk lq0.out)
  replace r2 := Lib.hid (r2.out.below mk lr2.out)
  replace cG4 := Lib.hid (mk.heap cG4.out (by have := lG4.out; omega))
  replace r3 := Lib.hid (r3.out.below mk lr3.out)
  replace cG6 := Lib.hid (mk.heap cG6.out (by have := lG6.out; omega))
  replace r4 := Lib.hid (clip_below r4.out mk lr4.out)
  replace bk := Lib.hid (bk.mono (T' := fun x => x < t1) (fun x hx => hx.elim (fun h => h.elim) (fun h => L1.out x h)))
  clear mk
  refine ⟨_, rfl, ?_⟩
  simp only [Act.put, List.setIfInBounds_toArray, List.set_cons_zero, List.set_cons_succ]
  clear q0
  have kp := keysT u0 w.heap.size B 1 _ _ bk.out va X r2.out (fun j hj x hx => ⟨fun h => by have := L2.out j hj x hx; omega, lr2.out j hj x hx⟩) (by omega) hX.out
  go_upto_region 11 with (fail)
  refine wp_region_lit ?_
  refine wpList_reads (by kernel_rfl) (.agg #[va 0, va 1, va 2]) (run_load_op rfl rfl (keys_load cG4.out)) ?_
  simp only [Act.put, List.setIfInBounds_toArray, List.set_cons_zero, List.set_cons_succ]
  refine wpList_enter (by kernel_rfl) 21 #[.pointer (some ⟨B, 0, none⟩), .agg #[va 0, va 1, va 2]] (by go_simp) (kp) ?_
  rintro e u1 ⟨rfl, mk, vk1, bk⟩
  clear kp
  replace m0 := Lib.hid (m0.out.trans' mk (fun x hx h => by have := hBw.out; omega))
  replace r2 := Lib.hid (r2.out.below mk lr2.out)
  replace cG4 := Lib.hid (mk.heap cG4.out (by have := lG4.out; omega))
  replace r3 := Lib.hid (r3.out.below mk lr3.out)
  replace cG6 := Lib.hid (mk.heap cG6.out (by have := lG6.out; omega))
  replace r4 := Lib.hid (clip_below r4.out mk lr4.out)
  replace bk := Lib.hid (bk.mono (T' := fun x => x < t2) (fun x hx => hx.elim (fun h => by have := hs2.out; omega) (fun ⟨j, hj, h⟩ => (L2.out j hj x h).2)))
  clear mk
  refine ⟨_, rfl, ?_⟩
  simp only [Act.put, List.setIfInBounds_toArray, List.set_cons_zero, List.set_cons_succ]
  clear r2 cG4
  have kp := keysT u1 w.heap.size B 4 _ _ bk.out vb X r3.out (fun j hj x hx => ⟨fun h => by have := L3.out j hj x hx; have := hs2'.out; omega, lr3.out j hj x hx⟩) (by omega) hX.out
  go_upto_region 12 with (fail)
  refine wp_region_lit ?_
  refine wpList_reads (by kernel_rfl) (.agg #[vb 0, vb 1, vb 2]) (run_load_op rfl rfl (keys_load cG6.out)) ?_
  simp only [Act.put, List.setIfInBounds_toArray, List.set_cons_zero, List.set_cons_succ]
  refine wpList_enter (by kernel_rfl) 21 #[.pointer (some ⟨B, 0, none⟩), .agg #[vb 0, vb 1, vb 2]] (by go_simp) (kp) ?_
  rintro e u2 ⟨rfl, mk, vk2, bk⟩
  clear kp
  replace m0 := Lib.hid (m0.out.trans' mk (fun x hx h => by have := hBw.out; omega))
  replace r3 := Lib.hid (r3.out.below mk lr3.out)
  replace cG6 := Lib.hid (mk.heap cG6.out (by have := lG6.out; omega))
  replace r4 := Lib.hid (clip_below r4.out mk lr4.out)
  replace bk := Lib.hid (bk.mono (T' := fun x => x < t3) (fun x hx => hx.elim (fun h => by have := hs2'.out; have := hs3.out; omega) (fun ⟨j, hj, h⟩ => (L3.out j hj x h).2)))
  clear mk
  refine ⟨_, rfl, ?_⟩
  simp only [Act.put, List.setIfInBounds_toArray, List.set_cons_zero, List.set_cons_succ]
  clear r3 cG6
  have kp := keepT u2 w.heap.size B 7 _ _ bk.out vn Y r4.out (fun x hx => ⟨fun h => by have := L4.out x hx; have := hs3'.out; omega, lr4.out x hx⟩) (by omega) (by have := hY.out; omega)
  go_upto_region 13 with (fail)
  refine wp_region_lit ?_
  refine wpList_reads (by kernel_rfl) (vn) (by go_simp) ?_
  simp only [Act.put, List.setIfInBounds_toArray, List.set_cons_zero, List.set_cons_succ]
  refine wpList_enter (by kernel_rfl) 13 #[.pointer (some ⟨B, 0, none⟩), vn] (by go_simp) (kp) ?_
  rintro e u3 ⟨rfl, mk, vk3, bk⟩
  clear kp
  replace m0 := Lib.hid (m0.out.trans' mk (fun x hx h => by have := hBw.out; omega))
  replace r4 := Lib.hid (clip_below r4.out mk lr4.out)
  replace bk := Lib.hid (bk.mono (T' := fun x => x < t4) (fun x hx => hx.elim (fun h => by have := hs3'.out; have := hs4.out; omega) (fun h => (L4.out x h).2)))
  clear mk
  refine ⟨_, rfl, ?_⟩
  simp only [Act.put, List.setIfInBounds_toArray, List.set_cons_zero, List.set_cons_succ]
  clear r4
  go_upto_region 14 with (fail)
  refine wp_region_lit ?_
  refine wpList_enter (by kernel_rfl) 14 #[.pointer (some ⟨B, 0, none⟩)] (by go_simp) (apartT u3 w.heap.size B 8 _ _ bk.out) ?_
  rintro e u4 ⟨rfl, ma⟩
  have mf := m0.out.trans' ma (fun x hx h => by omega)
  replace mf := Lib.hid mf
  clear ma bk
  refine ⟨_, rfl, ?_⟩
  simp only [Act.put, List.setIfInBounds_toArray, List.set_cons_zero, List.set_cons_succ]
  refine wpList_reads (by kernel_rfl) (.bool true) (by go_simp) ?_
  simp only [Act.put, List.setIfInBounds_toArray, List.set_cons_zero, List.set_cons_succ]
  refine wpList_enter (by kernel_rfl) 15 #[] (by go_simp) (lives_any u4) ?_
  rintro e u5 ⟨m5, rfl⟩
  replace mf := Lib.hid (mf.out.trans m5)
  clear m5
  refine ⟨_, rfl, ?_⟩
  simp only [Act.put, List.setIfInBounds_toArray, List.set_cons_zero, List.set_cons_succ]
  refine wpList_reads (by kernel_rfl) (.bool true) (by go_simp) ?_
  simp only [Act.put, List.setIfInBounds_toArray, List.set_cons_zero, List.set_cons_succ]
  refine wpList_reads (by kernel_rfl) (.bool true) (by go_simp) ?_
  simp only [Act.put, List.setIfInBounds_toArray, List.set_cons_zero, List.set_cons_succ]
  go_wp2
  go_ret
  exact ⟨mf.out, rfl⟩
end Go.Proofs.YtppjnkgmbmhlcaaGreatDoor
