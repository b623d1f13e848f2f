/-
  mailcoachlaw17.HelloPuts. Printed by gen/rhello.py.
-/
import Derived.Test.YtkfikoacohogaaaDoorHr
import Derived.Test.YtkfikoacohogaaaDoorBt
namespace Go.Proofs.YtkfikoacohogaaaDoor
set_option maxRecDepth 100000
open Go Go.RowKit Go.Lib
set_option linter.unusedSimpArgs false
set_option linter.unusedVariables false

set_option maxRecDepth 100000 in
set_option maxHeartbeats 4000000 in
theorem hputs_any (h : HD) (o : h.Ok) (w : World) : Calls Tryd.prog 4 #[.agg (helloC h)] w fun e w' => Mod (fun _ => False) w w' ∧ e = .returned (.bool true) := by
  obtain ⟨w0, hw0⟩ : ∃ x, x = w.alloc (.cells (helloC h) 54) := ⟨_, rfl⟩
  obtain ⟨G, hG⟩ : ∃ g, g = w.heap.size := ⟨_, rfl⟩
  have m0 : Mod (fun _ => False) w w0 := by rw [hw0]; exact (Mod.refl _ _).alloc _
  have xG : w0.heap[G]? = some (.cells (helloC h) 54 (0,0)) := by rw [hw0]; exact hp_new _ _ _ hG
  obtain ⟨E, hE⟩ : ∃ E, E = hE h := ⟨_, rfl⟩
  have hEE : (E == E) = true := by simp
  obtain ⟨X, hX⟩ : ∃ X, X = hX h := ⟨_, rfl⟩
  have hXl : X.length ≤ 1000 := by rw [hX]; exact hX_length h o
  have hl := fun (w' : World) (x : w'.heap[G]? = some (.cells (helloC h) 54 (0,0))) => hello_load o x
  have hp := fun (w' : World) => Calls.mono (hputR_any h o w') (fun _ _ x => x.all)
  have hof := fun (w' : World) => of_hello h o w'
  have hrp := fun (w' : World) => refhput_any h o w'
  obtain ⟨F, hF⟩ : ∃ F, F = helloC h := ⟨_, rfl⟩
  rw [← hF] at hw0 xG hl hof hrp hp ⊢
  replace hw0 := Lib.hid hw0
  replace hG := Lib.hid hG
  replace xG := Lib.hid xG
  replace m0 := Lib.hid m0
  replace hE := Lib.hid hE
  replace hX := Lib.hid hX
  replace hXl := Lib.hid hXl
  replace hF := Lib.hid hF
  replace hl := Lib.hid hl
  replace hp := Lib.hid hp
  replace hof := Lib.hid hof
  replace hrp := Lib.hid hrp
  go_enter Tryd.func4, Tryd.ntmps4
  go_upto_region 0 with (fail)
  refine wp_region_lit ?_
  refine wpList_yields (by kernel_rfl) (.pointer (some ⟨G, 0, none⟩)) w0 (by rw [hw0.out, hG.out]; simp [execOp, Sem.run_bind, newVar, newRow, Value.cells]; rfl) ?_
  simp only [Act.put, List.setIfInBounds_toArray, List.set_cons_zero, List.set_cons_succ]
  refine wpList_reads (by kernel_rfl) (.bool false) (by go_simp) ?_
  simp only [Act.put, List.setIfInBounds_toArray, List.set_cons_zero, List.set_cons_succ]
  go_upto_region 1 with (fail)
  refine wp_region_lit ?_
  refine wpList_reads (by kernel_rfl) (.agg F) (run_load_op rfl rfl (hl.out _ xG.out)) ?_
  simp only [Act.put, List.setIfInBounds_toArray, List.set_cons_zero, List.set_cons_succ]
  refine wpList_enter (by kernel_rfl) 12 #[.agg F] (by go_simp) (hp.out w0) ?_
  rintro e w1 ⟨m1, va, rfl, q1⟩
  rw [← hE.out]
  rw [← hX.out] at q1
  have l1 := q1.lt
  have z1 := m1.size
  have q1 := clip_base0 q1 m0.out.size
  replace m0 := Lib.hid (m0.out.trans m1)
  replace xG := Lib.hid (m1.heap xG.out (fun h => h))
  replace q1 := Lib.hid q1
  replace l1 := Lib.hid l1
  replace z1 := Lib.hid z1
  clear m1
  refine ⟨_, rfl, ?_⟩
  simp only [Act.put, List.setIfInBounds_toArray, List.set_cons_zero, List.set_cons_succ]
  refine wpList_reads (by kernel_rfl) (.tuple #[va, .int .i64 E]) (by go_simp) ?_
  simp only [Act.put, List.setIfInBounds_toArray, List.set_cons_zero, List.set_cons_succ]
  refine wpList_reads (by kernel_rfl) (va) (by go_simp) ?_
  simp only [Act.put, List.setIfInBounds_toArray, List.set_cons_zero, List.set_cons_succ]
  refine wpList_reads (by kernel_rfl) (.int .i64 E) (by go_simp) ?_
  simp only [Act.put, List.setIfInBounds_toArray, List.set_cons_zero, List.set_cons_succ]
  refine wpList_reads (by kernel_rfl) (va) (by go_simp) ?_
  simp only [Act.put, List.setIfInBounds_toArray, List.set_cons_zero, List.set_cons_succ]
  refine wpList_reads (by kernel_rfl) (.int .i64 E) (by go_simp) ?_
  simp only [Act.put, List.setIfInBounds_toArray, List.set_cons_zero, List.set_cons_succ]
  go_upto_region 2 with (fail)
  refine wp_region_lit ?_
  refine wpList_reads (by kernel_rfl) (.agg F) (run_load_op rfl rfl (hl.out _ xG.out)) ?_
  simp only [Act.put, List.setIfInBounds_toArray, List.set_cons_zero, List.set_cons_succ]
  refine wpList_enter (by kernel_rfl) 12 #[.agg F] (by go_simp) (hp.out w1) ?_
  rintro e w2 ⟨m2, vb, rfl, q2⟩
  rw [← hE.out]
  rw [← hX.out] at q2
  have l2 := q2.lt
  have z2 := m2.size
  have q2 := clip_base0 q2 m0.out.size
  replace m0 := Lib.hid (m0.out.trans m2)
  replace xG := Lib.hid (m2.heap xG.out (fun h => h))
  replace q1 := Lib.hid (clip_keep0 q1.out m2)
  replace q2 := Lib.hid q2
  replace l2 := Lib.hid l2
  replace z2 := Lib.hid z2
  clear m2
  refine ⟨_, rfl, ?_⟩
  simp only [Act.put, List.setIfInBounds_toArray, List.set_cons_zero, List.set_cons_succ]
  refine wpList_reads (by kernel_rfl) (.tuple #[vb, .int .i64 E]) (by go_simp) ?_
  simp only [Act.put, List.setIfInBounds_toArray, List.set_cons_zero, List.set_cons_succ]
  refine wpList_reads (by kernel_rfl) (vb) (by go_simp) ?_
  simp only [Act.put, List.setIfInBounds_toArray, List.set_cons_zero, List.set_cons_succ]
  refine wpList_reads (by kernel_rfl) (.int .i64 E) (by go_simp) ?_
  simp only [Act.put, List.setIfInBounds_toArray, List.set_cons_zero, List.set_cons_succ]
  refine wpList_reads (by kernel_rfl) (vb) (by go_simp) ?_
  simp only [Act.put, List.setIfInBounds_toArray, List.set_cons_zero, List.set_cons_succ]
  refine wpList_reads (by kernel_rfl) (.int .i64 E) (by go_simp) ?_
  simp only [Act.put, List.setIfInBounds_toArray, List.set_cons_zero, List.set_cons_succ]
  go_upto_region 3 with (fail)
  refine wp_region_lit ?_
  refine wpList_reads (by kernel_rfl) (.agg F) (run_load_op rfl rfl (hl.out _ xG.out)) ?_
  simp only [Act.put, List.setIfInBounds_toArray, List.set_cons_zero, List.set_cons_succ]
  refine wpList_enter (by kernel_rfl) 14 #[.agg F] (by go_simp) (hof.out w2) ?_
  rintro e wo ⟨mo, rfl⟩
  replace m0 := Lib.hid (m0.out.trans mo)
  replace xG := Lib.hid (mo.heap xG.out (fun h => h))
  replace q1 := Lib.hid (clip_keep0 q1.out mo)
  replace q2 := Lib.hid (clip_keep0 q2.out mo)
  have zo := Lib.hid mo.size
  clear mo
  refine ⟨_, rfl, ?_⟩
  simp only [Act.put, List.setIfInBounds_toArray, List.set_cons_zero, List.set_cons_succ]
  refine wpList_enter (by kernel_rfl) 13 #[.agg F] (by go_simp) (hrp.out wo) ?_
  rintro e w3 ⟨m3, vc, rfl, q3⟩
  rw [← hE.out]
  rw [← hX.out] at q3
  have zo' := zo.out
  have l3 : ∀ x, vc.ownBlock = some x → w2.heap.size ≤ x ∧ x < w3.heap.size := fun x hx => ⟨Nat.le_trans zo' (q3.lt x hx).1, (q3.lt x hx).2⟩
  have z3 := Nat.le_trans zo' m3.size
  clear zo' zo
  have q3 := clip_base0 q3 m0.out.size
  replace m0 := Lib.hid (m0.out.trans m3)
  replace xG := Lib.hid (m3.heap xG.out (fun h => h))
  replace q1 := Lib.hid (clip_keep0 q1.out m3)
  replace q2 := Lib.hid (clip_keep0 q2.out m3)
  replace q3 := Lib.hid q3
  replace l3 := Lib.hid l3
  replace z3 := Lib.hid z3
  clear m3
  refine ⟨_, rfl, ?_⟩
  simp only [Act.put, List.setIfInBounds_toArray, List.set_cons_zero, List.set_cons_succ]
  refine wpList_reads (by kernel_rfl) (.tuple #[vc, .int .i64 E]) (by go_simp) ?_
  simp only [Act.put, List.setIfInBounds_toArray, List.set_cons_zero, List.set_cons_succ]
  refine wpList_reads (by kernel_rfl) (vc) (by go_simp) ?_
  simp only [Act.put, List.setIfInBounds_toArray, List.set_cons_zero, List.set_cons_succ]
  refine wpList_reads (by kernel_rfl) (.int .i64 E) (by go_simp) ?_
  simp only [Act.put, List.setIfInBounds_toArray, List.set_cons_zero, List.set_cons_succ]
  refine wpList_reads (by kernel_rfl) (vc) (by go_simp) ?_
  simp only [Act.put, List.setIfInBounds_toArray, List.set_cons_zero, List.set_cons_succ]
  refine wpList_reads (by kernel_rfl) (.int .i64 E) (by go_simp) ?_
  simp only [Act.put, List.setIfInBounds_toArray, List.set_cons_zero, List.set_cons_succ]
  clear xG
  obtain ⟨t1, ht1⟩ : ∃ t, t = w1.heap.size := ⟨_, rfl⟩
  obtain ⟨t2, ht2⟩ : ∃ t, t = w2.heap.size := ⟨_, rfl⟩
  obtain ⟨t3, ht3⟩ : ∃ t, t = w3.heap.size := ⟨_, rfl⟩
  obtain ⟨t0, ht0⟩ : ∃ t, t = w0.heap.size := ⟨_, rfl⟩
  have z1 := z1.out
  rw [← ht1, ← ht0] at z1
  have z2 := z2.out
  rw [← ht2, ← ht1] at z2
  have z3 := z3.out
  rw [← ht3, ← ht2] at z3
  have l1 := l1.out
  rw [← ht1, ← ht0] at l1
  have l2 := l2.out
  rw [← ht2, ← ht1] at l2
  have l3 := l3.out
  rw [← ht3, ← ht2] at l3
  have hz3 : t3 ≤ w3.heap.size := by rw [ht3]; exact Nat.le_refl _
  replace z1 := Lib.hid z1
  replace z2 := Lib.hid z2
  replace z3 := Lib.hid z3
  replace l1 := Lib.hid l1
  replace l2 := Lib.hid l2
  replace l3 := Lib.hid l3
  replace ht0 := Lib.hid ht0
  replace ht1 := Lib.hid ht1
  replace ht2 := Lib.hid ht2
  replace ht3 := Lib.hid ht3
  replace hz3 := Lib.hid hz3
  obtain ⟨wb, hwb⟩ : ∃ x, x = w3.alloc (.cells (bookC 0 (.slice none 0 0)).toArray 46) := ⟨_, rfl⟩
  obtain ⟨B, hB⟩ : ∃ g, g = w3.heap.size := ⟨_, rfl⟩
  have mb : Mod (fun _ => False) w3 wb := by rw [hwb]; exact (Mod.refl _ _).alloc _
  have hBt : t3 ≤ B := by rw [hB]; exact hz3.out
  have hBw : w.heap.size ≤ B := by rw [hB]; exact m0.out.size
  have bk : BookT wb w.heap.size B 0 (fun _ => False) (.slice none 0 0) := by rw [hwb, hB]; exact BookT.make m0.out.size
  replace m0 := Lib.hid (m0.out.trans mb)
  replace q1 := Lib.hid (clip_keep0 q1.out mb)
  replace q2 := Lib.hid (clip_keep0 q2.out mb)
  replace q3 := Lib.hid (clip_keep0 q3.out mb)
  replace hwb := Lib.hid hwb
  replace hB := Lib.hid hB
  replace hBw := Lib.hid hBw
  replace bk := Lib.hid bk
  replace hBt := Lib.hid hBt
  have u1 : ∀ x, (va : Value).ownBlock = some x → x < B := fun x hx => by have := (l1.out x hx).2; have := hBt.out; have := z2.out; have := z3.out; omega
  have u2 : ∀ x, (vb : Value).ownBlock = some x → x < B := fun x hx => by have := (l2.out x hx).2; have := hBt.out; have := z2.out; have := z3.out; omega
  have u3 : ∀ x, (vc : Value).ownBlock = some x → x < B := fun x hx => by have := (l3.out x hx).2; have := hBt.out; have := z2.out; have := z3.out; omega
  replace u1 := Lib.hid u1
  replace u2 := Lib.hid u2
  replace u3 := Lib.hid u3
  clear mb
  go_upto_region 4 with (fail)
  refine wp_region_lit ?_
  refine wpList_yields (by kernel_rfl) _ _ (alloc_book _ _ _ rfl) ?_
  simp only [Act.put, List.setIfInBounds_toArray, List.set_cons_zero, List.set_cons_succ]
  rw [← hB.out, ← hwb.out]
  have kp := keepT wb w.heap.size B 0 _ _ bk.out (va) X q1.out (fun x hx => ⟨fun h => h, u1.out x hx⟩) (by omega) (by have := hXl.out; omega)
  go_upto_region 5 with (fail)
  refine wp_region_lit ?_
  refine wpList_reads (by kernel_rfl) (va) (by go_simp) ?_
  simp only [Act.put, List.setIfInBounds_toArray, List.set_cons_zero, List.set_cons_succ]
  refine wpList_enter (by kernel_rfl) 10 #[.pointer (some ⟨B, 0, none⟩), va] (by go_simp) (kp) ?_
  rintro e b1 ⟨rfl, mk, vk1, bk⟩
  clear kp
  replace m0 := Lib.hid (m0.out.trans' mk (fun x hx h => by have := hBw.out; omega))
  replace q1 := Lib.hid (clip_below q1.out mk u1.out)
  replace q2 := Lib.hid (clip_below q2.out mk u2.out)
  replace q3 := Lib.hid (clip_below q3.out mk u3.out)
  replace bk := Lib.hid (bk.mono (T' := fun x => x < t1) (fun x hx => hx.elim (fun h => h.elim) (fun h => (l1.out x h).2)))
  clear mk
  refine ⟨_, rfl, ?_⟩
  simp only [Act.put, List.setIfInBounds_toArray, List.set_cons_zero, List.set_cons_succ]
  have kp := keepT b1 w.heap.size B 1 _ _ bk.out (vb) X q2.out (fun x hx => ⟨fun h => by have := (l2.out x hx).1; have := z2.out; have := z3.out; omega, u2.out x hx⟩) (by omega) (by have := hXl.out; omega)
  go_upto_region 6 with (fail)
  refine wp_region_lit ?_
  refine wpList_reads (by kernel_rfl) (vb) (by go_simp) ?_
  simp only [Act.put, List.setIfInBounds_toArray, List.set_cons_zero, List.set_cons_succ]
  refine wpList_enter (by kernel_rfl) 10 #[.pointer (some ⟨B, 0, none⟩), vb] (by go_simp) (kp) ?_
  rintro e b2 ⟨rfl, mk, vk2, bk⟩
  clear kp
  clear q2
  replace m0 := Lib.hid (m0.out.trans' mk (fun x hx h => by have := hBw.out; omega))
  replace q1 := Lib.hid (clip_below q1.out mk u1.out)
  replace q3 := Lib.hid (clip_below q3.out mk u3.out)
  replace bk := Lib.hid (bk.mono (T' := fun x => x < t2) (fun x hx => hx.elim (fun h => by have := z2.out; have := z3.out; omega) (fun h => (l2.out x h).2)))
  clear mk
  refine ⟨_, rfl, ?_⟩
  simp only [Act.put, List.setIfInBounds_toArray, List.set_cons_zero, List.set_cons_succ]
  go_upto_region 7 with (fail)
  refine wp_region_lit ?_
  refine wpList_reads (by kernel_rfl) (.int .i64 E) (by go_simp) ?_
  simp only [Act.put, List.setIfInBounds_toArray, List.set_cons_zero, List.set_cons_succ]
  refine wpList_reads (by kernel_rfl) (.int .i64 E) (by go_simp) ?_
  simp only [Act.put, List.setIfInBounds_toArray, List.set_cons_zero, List.set_cons_succ]
  refine wpList_reads (by kernel_rfl) (.bool true) (by go_simp) ?_
  simp only [Act.put, List.setIfInBounds_toArray, List.set_cons_zero, List.set_cons_succ]
  refine wpList_reads (by kernel_rfl) (.bool true) (by go_simp) ?_
  simp only [Act.put, List.setIfInBounds_toArray, List.set_cons_zero, List.set_cons_succ]
  refine wpList_reads (by kernel_rfl) (va) (by go_simp) ?_
  simp only [Act.put, List.setIfInBounds_toArray, List.set_cons_zero, List.set_cons_succ]
  refine wpList_reads (by kernel_rfl) (vc) (by go_simp) ?_
  simp only [Act.put, List.setIfInBounds_toArray, List.set_cons_zero, List.set_cons_succ]
  refine wpList_enter (by kernel_rfl) 8 #[va, vc] (by go_simp) (same_any _ _ X X b2 (clip_byteAt q1.out) (clip_byteAt q3.out) (by have := hXl.out; omega) (by have := hXl.out; omega)) ?_
  rintro e y0 ⟨my, rfl⟩
  rw [show decide (X = X) = true by simp]
  replace m0 := Lib.hid (m0.out.trans my)
  replace q1 := Lib.hid (clip_keep0 q1.out my)
  replace q3 := Lib.hid (clip_keep0 q3.out my)
  replace bk := Lib.hid (bk.out.keep0 my)
  clear my
  refine ⟨_, rfl, ?_⟩
  simp only [Act.put, List.setIfInBounds_toArray, List.set_cons_zero, List.set_cons_succ]
  refine wpList_reads (by kernel_rfl) (.bool true) (by go_simp) ?_
  simp only [Act.put, List.setIfInBounds_toArray, List.set_cons_zero, List.set_cons_succ]
  refine wpList_reads (by kernel_rfl) (.bool true) (by go_simp) ?_
  simp only [Act.put, List.setIfInBounds_toArray, List.set_cons_zero, List.set_cons_succ]
  refine wpList_enter (by kernel_rfl) 11 #[.pointer (some ⟨B, 0, none⟩)] (by go_simp) (apartT y0 w.heap.size B 2 _ _ bk.out) ?_
  rintro e y1 ⟨rfl, ma⟩
  have mf := m0.out.trans' ma (fun x hx h => by omega)
  replace mf := Lib.hid mf
  clear ma bk
  refine ⟨_, rfl, ?_⟩
  simp only [Act.put, List.setIfInBounds_toArray, List.set_cons_zero, List.set_cons_succ]
  refine wpList_reads (by kernel_rfl) (.bool true) (by go_simp) ?_
  simp only [Act.put, List.setIfInBounds_toArray, List.set_cons_zero, List.set_cons_succ]
  refine wpList_reads (by kernel_rfl) (.bool true) (by go_simp) ?_
  simp only [Act.put, List.setIfInBounds_toArray, List.set_cons_zero, List.set_cons_succ]
  refine wpList_enter (by kernel_rfl) 15 #[] (by go_simp) (lives_any y1) ?_
  rintro e y2 ⟨m5, rfl⟩
  replace mf := Lib.hid (mf.out.trans m5)
  clear m5
  refine ⟨_, rfl, ?_⟩
  simp only [Act.put, List.setIfInBounds_toArray, List.set_cons_zero, List.set_cons_succ]
  refine wpList_reads (by kernel_rfl) (.bool true) (by go_simp) ?_
  simp only [Act.put, List.setIfInBounds_toArray, List.set_cons_zero, List.set_cons_succ]
  refine wpList_reads (by kernel_rfl) (.bool true) (by go_simp) ?_
  simp only [Act.put, List.setIfInBounds_toArray, List.set_cons_zero, List.set_cons_succ]
  go_wp2
  go_ret
  exact ⟨mf.out, rfl⟩
end Go.Proofs.YtkfikoacohogaaaDoor
