/-
  mailcoachlaw12.KeysSecrets. Printed by gen/kp2.py.
-/
import Derived.Test.YtppjnkgmbmhlcaaGreatDoorN6
import Derived.Test.YtppjnkgmbmhlcaaGreatDoorP1
namespace Go.Proofs.YtppjnkgmbmhlcaaGreatDoor
set_option maxRecDepth 100000
open Go Go.RowKit Go.Lib
set_option linter.unusedSimpArgs false
set_option linter.unusedVariables false

set_option maxRecDepth 100000 in
set_option maxHeartbeats 4000000 in
theorem secrets_any (vs vd : Value) (s d : List (BitVec 8)) (cl : Bool) (w : World) (hs : ByteAt w vs s) (hd : ByteAt w vd d) (hsl : s.length ≤ 140737488351232) (hdl : d.length ≤ 140737488351232) :
    Calls Tryz.prog 5 #[vs, vd, .bool cl] w fun e w' => Mod (fun _ => False) w w' ∧ e = .returned (.bool true) := by
  obtain ⟨aS, cS, rfl, _⟩ := hs.slice
  obtain ⟨ad, cd, rfl, _⟩ := hd.slice
  obtain ⟨m, hm⟩ : ∃ m, m = s.length := ⟨_, rfl⟩
  obtain ⟨p, hp⟩ : ∃ p, p = d.length := ⟨_, rfl⟩
  rw [← hm] at hs ⊢
  rw [← hp] at hd ⊢
  have bm0 : (0 : Int) ≤ (m : Int) := by omega
  have bp0 : (0 : Int) ≤ (p : Int) := by omega
  have m0 : Mod (fun _ => False) w w := Mod.refl _ _
  obtain ⟨E, hE⟩ : ∃ E, E = secE s d := ⟨_, rfl⟩
  have hEE : (E != E) = false := by simp
  obtain ⟨X, hX⟩ : ∃ X, X = secX s d cl := ⟨_, rfl⟩
  have hXl : X.length ≤ 32 := by rw [hX]; exact secX_length _ _ _
  replace hm := Lib.hid hm
  replace hp := Lib.hid hp
  replace hs := Lib.hid hs
  replace hd := Lib.hid hd
  replace m0 := Lib.hid m0
  replace hE := Lib.hid hE
  replace hX := Lib.hid hX
  replace hXl := Lib.hid hXl
  replace hsl := Lib.hid hsl
  replace hdl := Lib.hid hdl
  by_cases c1 : 20000 < p
  · have e1 : decide ((20000 : Int) < (p : Int)) = true := by rw [decide_eq_true_iff]; omega
    by_cases c2 : p ≤ 1048576
    · have e2 : decide ((p : Int) ≤ (1048576 : Int)) = true := by rw [decide_eq_true_iff]; omega
      clear c1 c2
      go_enter Tryz.func5, Tryz.ntmps5
      go_upto_region 2 with (fail)
      refine wp_region_lit ?_
      refine wpList_enter (by kernel_rfl) 15 #[] (by go_simp) (lives_any w) ?_
      rintro e w1 ⟨m1, rfl⟩
      replace m1 := Lib.hid m1
      refine ⟨_, rfl, ?_⟩
      simp only [Act.put, List.setIfInBounds_toArray, List.set_cons_zero, List.set_cons_succ]
      refine wpList_reads (by kernel_rfl) (.bool true) (by go_simp) ?_
      simp only [Act.put, List.setIfInBounds_toArray, List.set_cons_zero, List.set_cons_succ]
      go_wp2
      go_ret
      exact ⟨m1.out, rfl⟩
    · have e2 : decide ((p : Int) ≤ (1048576 : Int)) = false := by rw [decide_eq_false_iff_not]; omega
      clear c1 c2
      go_enter Tryz.func5, Tryz.ntmps5
      go_upto_region 3 with (fail)
      refine wp_region_lit ?_
      refine wpList_reads (by kernel_rfl) (.slice aS m cS) (by go_simp) ?_
      simp only [Act.put, List.setIfInBounds_toArray, List.set_cons_zero, List.set_cons_succ]
      refine wpList_enter (by kernel_rfl) 6 #[.slice aS m cS] (by go_simp) (twin_new _ s w hs.out (by have := hsl.out; omega)) ?_
      rintro e w1 ⟨m1, vt1, rfl, tw1, tb⟩
      obtain ⟨gt1, hvt⟩ : ∃ g, vt1 = .slice (some ⟨g, 0, none⟩) m (m + 1) := by obtain ⟨g, h, _⟩ := tw1; exact ⟨g, by rw [h, hm.out]⟩
      subst hvt
      have l1 : ∀ x, (Value.slice (some ⟨gt1, 0, none⟩) m (m + 1)).ownBlock = some x → w.heap.size ≤ x ∧ x < w1.heap.size := by
        obtain ⟨g, h, h2⟩ := tw1
        intro x hx
        refine ⟨tb x hx, ?_⟩
        rw [h] at hx
        have h3 : g = x := by injection hx
        exact h3 ▸ lt_of_heap h2
      have q1 := clip_base0 (twin_clip tw1 tb (by have := hsl.out; omega)) m0.out.size
      have z1 := m1.size
      replace hs := Lib.hid (hs.out.mod m1 (fun _ _ h => h))
      replace hd := Lib.hid (hd.out.mod m1 (fun _ _ h => h))
      replace m0 := Lib.hid (m0.out.trans m1)
      replace tw1 := Lib.hid tw1
      replace q1 := Lib.hid q1
      replace l1 := Lib.hid l1
      replace z1 := Lib.hid z1
      clear m1 tb
      refine ⟨_, rfl, ?_⟩
      simp only [Act.put, List.setIfInBounds_toArray, List.set_cons_zero, List.set_cons_succ]
      refine wpList_reads (by kernel_rfl) (.slice (some ⟨gt1, 0, none⟩) m (m + 1)) (by go_simp) ?_
      simp only [Act.put, List.setIfInBounds_toArray, List.set_cons_zero, List.set_cons_succ]
      go_upto_region 4 with (fail)
      refine wp_region_lit ?_
      refine wpList_reads (by kernel_rfl) (.slice ad p cd) (by go_simp) ?_
      simp only [Act.put, List.setIfInBounds_toArray, List.set_cons_zero, List.set_cons_succ]
      refine wpList_enter (by kernel_rfl) 6 #[.slice ad p cd] (by go_simp) (twin_new _ d w1 hd.out (by have := hdl.out; omega)) ?_
      rintro e w2 ⟨m2, vt2, rfl, tw2, tb⟩
      obtain ⟨gt2, hvt⟩ : ∃ g, vt2 = .slice (some ⟨g, 0, none⟩) p (p + 1) := by obtain ⟨g, h, _⟩ := tw2; exact ⟨g, by rw [h, hp.out]⟩
      subst hvt
      have l2 : ∀ x, (Value.slice (some ⟨gt2, 0, none⟩) p (p + 1)).ownBlock = some x → w1.heap.size ≤ x ∧ x < w2.heap.size := by
        obtain ⟨g, h, h2⟩ := tw2
        intro x hx
        refine ⟨tb x hx, ?_⟩
        rw [h] at hx
        have h3 : g = x := by injection hx
        exact h3 ▸ lt_of_heap h2
      have q2 := clip_base0 (twin_clip tw2 tb (by have := hdl.out; omega)) m0.out.size
      have z2 := m2.size
      replace hs := Lib.hid (hs.out.mod m2 (fun _ _ h => h))
      replace hd := Lib.hid (hd.out.mod m2 (fun _ _ h => h))
      replace m0 := Lib.hid (m0.out.trans m2)
      replace tw1 := Lib.hid (tw1.out.mod m2 (fun _ h => h))
      replace q1 := Lib.hid (clip_keep0 q1.out m2)
      replace tw2 := Lib.hid tw2
      replace q2 := Lib.hid q2
      replace l2 := Lib.hid l2
      replace z2 := Lib.hid z2
      clear m2 tb
      refine ⟨_, rfl, ?_⟩
      simp only [Act.put, List.setIfInBounds_toArray, List.set_cons_zero, List.set_cons_succ]
      refine wpList_reads (by kernel_rfl) (.slice (some ⟨gt2, 0, none⟩) p (p + 1)) (by go_simp) ?_
      simp only [Act.put, List.setIfInBounds_toArray, List.set_cons_zero, List.set_cons_succ]
      go_upto_region 5 with (fail)
      refine wp_region_lit ?_
      refine wpList_reads (by kernel_rfl) (.slice (some ⟨gt1, 0, none⟩) m (m + 1)) (by go_simp) ?_
      simp only [Act.put, List.setIfInBounds_toArray, List.set_cons_zero, List.set_cons_succ]
      refine wpList_reads (by kernel_rfl) (.slice (some ⟨gt2, 0, none⟩) p (p + 1)) (by go_simp) ?_
      simp only [Act.put, List.setIfInBounds_toArray, List.set_cons_zero, List.set_cons_succ]
      refine wpList_reads (by kernel_rfl) (.bool cl) (by go_simp) ?_
      simp only [Act.put, List.setIfInBounds_toArray, List.set_cons_zero, List.set_cons_succ]
      refine wpList_enter (by kernel_rfl) 22 #[.slice (some ⟨gt1, 0, none⟩) m (m + 1), .slice (some ⟨gt2, 0, none⟩) p (p + 1), .bool cl] (by go_simp) (secret_any _ _ s d cl w2 tw1.out.byteAt tw2.out.byteAt (by have := hsl.out; omega) (by have := hdl.out; omega)) ?_
      rintro e w3 ⟨m3, va, rfl, q3⟩
      rw [← hE.out]
      rw [← hX.out] at q3
      have l3 := q3.lt
      have z3 := m3.size
      have q3 := clip_base0 q3 m0.out.size
      replace hs := Lib.hid (hs.out.mod m3 (fun _ _ h => h))
      replace hd := Lib.hid (hd.out.mod m3 (fun _ _ h => h))
      replace m0 := Lib.hid (m0.out.trans m3)
      replace tw1 := Lib.hid (tw1.out.mod m3 (fun _ h => h))
      replace q1 := Lib.hid (clip_keep0 q1.out m3)
      replace tw2 := Lib.hid (tw2.out.mod m3 (fun _ h => h))
      replace q2 := Lib.hid (clip_keep0 q2.out m3)
      replace q3 := Lib.hid q3
      replace l3 := Lib.hid l3
      replace z3 := Lib.hid z3
      clear m3
      refine ⟨_, rfl, ?_⟩
      simp only [Act.put, List.setIfInBounds_toArray, List.set_cons_zero, List.set_cons_succ]
      refine wpList_reads (by kernel_rfl) (.tuple #[va, .int .i64 E]) (by go_simp) ?_
      simp only [Act.put, List.setIfInBounds_toArray, List.set_cons_zero, List.set_cons_succ]
      refine wpList_reads (by kernel_rfl) (va) (by go_simp) ?_
      simp only [Act.put, List.setIfInBounds_toArray, List.set_cons_zero, List.set_cons_succ]
      refine wpList_reads (by kernel_rfl) (.int .i64 E) (by go_simp) ?_
      simp only [Act.put, List.setIfInBounds_toArray, List.set_cons_zero, List.set_cons_succ]
      refine wpList_reads (by kernel_rfl) (va) (by go_simp) ?_
      simp only [Act.put, List.setIfInBounds_toArray, List.set_cons_zero, List.set_cons_succ]
      refine wpList_reads (by kernel_rfl) (.int .i64 E) (by go_simp) ?_
      simp only [Act.put, List.setIfInBounds_toArray, List.set_cons_zero, List.set_cons_succ]
      go_upto_region 6 with (fail)
      refine wp_region_lit ?_
      refine wpList_reads (by kernel_rfl) (.slice (some ⟨gt1, 0, none⟩) m (m + 1)) (by go_simp) ?_
      simp only [Act.put, List.setIfInBounds_toArray, List.set_cons_zero, List.set_cons_succ]
      refine wpList_reads (by kernel_rfl) (.slice (some ⟨gt2, 0, none⟩) p (p + 1)) (by go_simp) ?_
      simp only [Act.put, List.setIfInBounds_toArray, List.set_cons_zero, List.set_cons_succ]
      refine wpList_reads (by kernel_rfl) (.bool cl) (by go_simp) ?_
      simp only [Act.put, List.setIfInBounds_toArray, List.set_cons_zero, List.set_cons_succ]
      refine wpList_enter (by kernel_rfl) 22 #[.slice (some ⟨gt1, 0, none⟩) m (m + 1), .slice (some ⟨gt2, 0, none⟩) p (p + 1), .bool cl] (by go_simp) (secret_any _ _ s d cl w3 tw1.out.byteAt tw2.out.byteAt (by have := hsl.out; omega) (by have := hdl.out; omega)) ?_
      rintro e w4 ⟨m4, vb, rfl, q4⟩
      rw [← hE.out]
      rw [← hX.out] at q4
      have l4 := q4.lt
      have z4 := m4.size
      have q4 := clip_base0 q4 m0.out.size
      replace hs := Lib.hid (hs.out.mod m4 (fun _ _ h => h))
      replace hd := Lib.hid (hd.out.mod m4 (fun _ _ h => h))
      replace m0 := Lib.hid (m0.out.trans m4)
      replace tw1 := Lib.hid (tw1.out.mod m4 (fun _ h => h))
      replace q1 := Lib.hid (clip_keep0 q1.out m4)
      replace tw2 := Lib.hid (tw2.out.mod m4 (fun _ h => h))
      replace q2 := Lib.hid (clip_keep0 q2.out m4)
      replace q3 := Lib.hid (clip_keep0 q3.out m4)
      replace q4 := Lib.hid q4
      replace l4 := Lib.hid l4
      replace z4 := Lib.hid z4
      clear m4
      refine ⟨_, rfl, ?_⟩
      simp only [Act.put, List.setIfInBounds_toArray, List.set_cons_zero, List.set_cons_succ]
      refine wpList_reads (by kernel_rfl) (.tuple #[vb, .int .i64 E]) (by go_simp) ?_
      simp only [Act.put, List.setIfInBounds_toArray, List.set_cons_zero, List.set_cons_succ]
      refine wpList_reads (by kernel_rfl) (vb) (by go_simp) ?_
      simp only [Act.put, List.setIfInBounds_toArray, List.set_cons_zero, List.set_cons_succ]
      refine wpList_reads (by kernel_rfl) (.int .i64 E) (by go_simp) ?_
      simp only [Act.put, List.setIfInBounds_toArray, List.set_cons_zero, List.set_cons_succ]
      refine wpList_reads (by kernel_rfl) (vb) (by go_simp) ?_
      simp only [Act.put, List.setIfInBounds_toArray, List.set_cons_zero, List.set_cons_succ]
      refine wpList_reads (by kernel_rfl) (.int .i64 E) (by go_simp) ?_
      simp only [Act.put, List.setIfInBounds_toArray, List.set_cons_zero, List.set_cons_succ]
      go_upto_region 7 with (fail)
      refine wp_region_lit ?_
      refine wpList_reads (by kernel_rfl) (.slice aS m cS) (by go_simp) ?_
      simp only [Act.put, List.setIfInBounds_toArray, List.set_cons_zero, List.set_cons_succ]
      refine wpList_reads (by kernel_rfl) (.slice ad p cd) (by go_simp) ?_
      simp only [Act.put, List.setIfInBounds_toArray, List.set_cons_zero, List.set_cons_succ]
      refine wpList_reads (by kernel_rfl) (.bool cl) (by go_simp) ?_
      simp only [Act.put, List.setIfInBounds_toArray, List.set_cons_zero, List.set_cons_succ]
      refine wpList_enter (by kernel_rfl) 23 #[.slice aS m cS, .slice ad p cd, .bool cl] (by go_simp) (refsecret_any _ _ s d cl w4 hs.out hd.out (by have := hsl.out; omega) (by have := hdl.out; omega)) ?_
      rintro e w5 ⟨m5, vc, rfl, q5⟩
      rw [← hE.out]
      rw [← hX.out] at q5
      have l5 := q5.lt
      have z5 := m5.size
      have q5 := clip_base0 q5 m0.out.size
      replace hs := Lib.hid (hs.out.mod m5 (fun _ _ h => h))
      replace hd := Lib.hid (hd.out.mod m5 (fun _ _ h => h))
      replace m0 := Lib.hid (m0.out.trans m5)
      replace tw1 := Lib.hid (tw1.out.mod m5 (fun _ h => h))
      replace q1 := Lib.hid (clip_keep0 q1.out m5)
      replace tw2 := Lib.hid (tw2.out.mod m5 (fun _ h => h))
      replace q2 := Lib.hid (clip_keep0 q2.out m5)
      replace q3 := Lib.hid (clip_keep0 q3.out m5)
      replace q4 := Lib.hid (clip_keep0 q4.out m5)
      replace q5 := Lib.hid q5
      replace l5 := Lib.hid l5
      replace z5 := Lib.hid z5
      clear m5
      refine ⟨_, rfl, ?_⟩
      simp only [Act.put, List.setIfInBounds_toArray, List.set_cons_zero, List.set_cons_succ]
      refine wpList_reads (by kernel_rfl) (.tuple #[vc, .int .i64 E]) (by go_simp) ?_
      simp only [Act.put, List.setIfInBounds_toArray, List.set_cons_zero, List.set_cons_succ]
      refine wpList_reads (by kernel_rfl) (vc) (by go_simp) ?_
      simp only [Act.put, List.setIfInBounds_toArray, List.set_cons_zero, List.set_cons_succ]
      refine wpList_reads (by kernel_rfl) (.int .i64 E) (by go_simp) ?_
      simp only [Act.put, List.setIfInBounds_toArray, List.set_cons_zero, List.set_cons_succ]
      refine wpList_reads (by kernel_rfl) (vc) (by go_simp) ?_
      simp only [Act.put, List.setIfInBounds_toArray, List.set_cons_zero, List.set_cons_succ]
      refine wpList_reads (by kernel_rfl) (.int .i64 E) (by go_simp) ?_
      simp only [Act.put, List.setIfInBounds_toArray, List.set_cons_zero, List.set_cons_succ]
      go_upto_region 8 with (fail)
      refine wp_region_lit ?_
      refine wpList_reads (by kernel_rfl) (.int .i64 E) (by go_simp) ?_
      simp only [Act.put, List.setIfInBounds_toArray, List.set_cons_zero, List.set_cons_succ]
      refine wpList_reads (by kernel_rfl) (.int .i64 E) (by go_simp) ?_
      simp only [Act.put, List.setIfInBounds_toArray, List.set_cons_zero, List.set_cons_succ]
      refine wpList_reads (by kernel_rfl) (.bool false) (by go_simp) ?_
      simp only [Act.put, List.setIfInBounds_toArray, List.set_cons_zero, List.set_cons_succ]
      refine wpList_reads (by kernel_rfl) (.bool false) (by go_simp) ?_
      simp only [Act.put, List.setIfInBounds_toArray, List.set_cons_zero, List.set_cons_succ]
      refine wpList_reads (by kernel_rfl) (va) (by go_simp) ?_
      simp only [Act.put, List.setIfInBounds_toArray, List.set_cons_zero, List.set_cons_succ]
      refine wpList_reads (by kernel_rfl) (vc) (by go_simp) ?_
      simp only [Act.put, List.setIfInBounds_toArray, List.set_cons_zero, List.set_cons_succ]
      refine wpList_enter (by kernel_rfl) 11 #[va, vc] (by go_simp) (same_any _ _ X X w5 (clip_byteAt q3.out) (clip_byteAt q5.out) (by have := hXl.out; omega) (by have := hXl.out; omega)) ?_
      rintro e w6 ⟨m6, rfl⟩
      rw [show decide (X = X) = true by simp]
      replace hs := Lib.hid (hs.out.mod m6 (fun _ _ h => h))
      replace hd := Lib.hid (hd.out.mod m6 (fun _ _ h => h))
      replace m0 := Lib.hid (m0.out.trans m6)
      replace tw1 := Lib.hid (tw1.out.mod m6 (fun _ h => h))
      replace q1 := Lib.hid (clip_keep0 q1.out m6)
      replace tw2 := Lib.hid (tw2.out.mod m6 (fun _ h => h))
      replace q2 := Lib.hid (clip_keep0 q2.out m6)
      replace q3 := Lib.hid (clip_keep0 q3.out m6)
      replace q4 := Lib.hid (clip_keep0 q4.out m6)
      replace q5 := Lib.hid (clip_keep0 q5.out m6)
      have z6 := Lib.hid m6.size
      clear m6
      clear q5
      refine ⟨_, rfl, ?_⟩
      simp only [Act.put, List.setIfInBounds_toArray, List.set_cons_zero, List.set_cons_succ]
      refine wpList_reads (by kernel_rfl) (.bool false) (by go_simp) ?_
      simp only [Act.put, List.setIfInBounds_toArray, List.set_cons_zero, List.set_cons_succ]
      refine wpList_reads (by kernel_rfl) (.bool false) (by go_simp) ?_
      simp only [Act.put, List.setIfInBounds_toArray, List.set_cons_zero, List.set_cons_succ]
      refine wpList_reads (by kernel_rfl) (.bool false) (by go_simp) ?_
      simp only [Act.put, List.setIfInBounds_toArray, List.set_cons_zero, List.set_cons_succ]
      refine wpList_reads (by kernel_rfl) (.slice (some ⟨gt1, 0, none⟩) m (m + 1)) (by go_simp) ?_
      simp only [Act.put, List.setIfInBounds_toArray, List.set_cons_zero, List.set_cons_succ]
      refine wpList_reads (by kernel_rfl) (.slice aS m cS) (by go_simp) ?_
      simp only [Act.put, List.setIfInBounds_toArray, List.set_cons_zero, List.set_cons_succ]
      refine wpList_enter (by kernel_rfl) 12 #[.slice (some ⟨gt1, 0, none⟩) m (m + 1), .slice aS m cS] (by go_simp) (left_any _ _ s w6 tw1.out hs.out (by have := hsl.out; omega)) ?_
      rintro e w7 ⟨m7, rfl⟩
      replace hs := Lib.hid (hs.out.mod m7 (fun _ _ h => h))
      replace hd := Lib.hid (hd.out.mod m7 (fun _ _ h => h))
      replace m0 := Lib.hid (m0.out.trans m7)
      replace tw1 := Lib.hid (tw1.out.mod m7 (fun _ h => h))
      replace q1 := Lib.hid (clip_keep0 q1.out m7)
      replace tw2 := Lib.hid (tw2.out.mod m7 (fun _ h => h))
      replace q2 := Lib.hid (clip_keep0 q2.out m7)
      replace q3 := Lib.hid (clip_keep0 q3.out m7)
      replace q4 := Lib.hid (clip_keep0 q4.out m7)
      have z7 := Lib.hid m7.size
      clear m7
      clear tw1 hs
      refine ⟨_, rfl, ?_⟩
      simp only [Act.put, List.setIfInBounds_toArray, List.set_cons_zero, List.set_cons_succ]
      refine wpList_reads (by kernel_rfl) (.bool false) (by go_simp) ?_
      simp only [Act.put, List.setIfInBounds_toArray, List.set_cons_zero, List.set_cons_succ]
      refine wpList_reads (by kernel_rfl) (.bool false) (by go_simp) ?_
      simp only [Act.put, List.setIfInBounds_toArray, List.set_cons_zero, List.set_cons_succ]
      refine wpList_reads (by kernel_rfl) (.bool false) (by go_simp) ?_
      simp only [Act.put, List.setIfInBounds_toArray, List.set_cons_zero, List.set_cons_succ]
      refine wpList_reads (by kernel_rfl) (.slice (some ⟨gt2, 0, none⟩) p (p + 1)) (by go_simp) ?_
      simp only [Act.put, List.setIfInBounds_toArray, List.set_cons_zero, List.set_cons_succ]
      refine wpList_reads (by kernel_rfl) (.slice ad p cd) (by go_simp) ?_
      simp only [Act.put, List.setIfInBounds_toArray, List.set_cons_zero, List.set_cons_succ]
      refine wpList_enter (by kernel_rfl) 12 #[.slice (some ⟨gt2, 0, none⟩) p (p + 1), .slice ad p cd] (by go_simp) (left_any _ _ d w7 tw2.out hd.out (by have := hdl.out; omega)) ?_
      rintro e w8 ⟨m8, rfl⟩
      replace hd := Lib.hid (hd.out.mod m8 (fun _ _ h => h))
      replace m0 := Lib.hid (m0.out.trans m8)
      replace q1 := Lib.hid (clip_keep0 q1.out m8)
      replace tw2 := Lib.hid (tw2.out.mod m8 (fun _ h => h))
      replace q2 := Lib.hid (clip_keep0 q2.out m8)
      replace q3 := Lib.hid (clip_keep0 q3.out m8)
      replace q4 := Lib.hid (clip_keep0 q4.out m8)
      have z8 := Lib.hid m8.size
      clear m8
      clear tw2 hd
      refine ⟨_, rfl, ?_⟩
      simp only [Act.put, List.setIfInBounds_toArray, List.set_cons_zero, List.set_cons_succ]
      refine wpList_reads (by kernel_rfl) (.bool false) (by go_simp) ?_
      simp only [Act.put, List.setIfInBounds_toArray, List.set_cons_zero, List.set_cons_succ]
      refine wpList_reads (by kernel_rfl) (.bool false) (by go_simp) ?_
      simp only [Act.put, List.setIfInBounds_toArray, List.set_cons_zero, List.set_cons_succ]
      obtain ⟨t1, ht1⟩ : ∃ t, t = w1.heap.size := ⟨_, rfl⟩
      obtain ⟨t2, ht2⟩ : ∃ t, t = w2.heap.size := ⟨_, rfl⟩
      obtain ⟨t3, ht3⟩ : ∃ t, t = w3.heap.size := ⟨_, rfl⟩
      obtain ⟨t4, ht4⟩ : ∃ t, t = w4.heap.size := ⟨_, rfl⟩
      obtain ⟨t5, ht5⟩ : ∃ t, t = w5.heap.size := ⟨_, rfl⟩
      obtain ⟨t6, ht6⟩ : ∃ t, t = w6.heap.size := ⟨_, rfl⟩
      obtain ⟨t7, ht7⟩ : ∃ t, t = w7.heap.size := ⟨_, rfl⟩
      obtain ⟨t8, ht8⟩ : ∃ t, t = w8.heap.size := ⟨_, rfl⟩
      obtain ⟨t0, ht0⟩ : ∃ t, t = w.heap.size := ⟨_, rfl⟩
      have z1 := z1.out
      rw [← ht1, ← ht0] at z1
      have z2 := z2.out
      rw [← ht2, ← ht1] at z2
      have z3 := z3.out
      rw [← ht3, ← ht2] at z3
      have z4 := z4.out
      rw [← ht4, ← ht3] at z4
      have z5 := z5.out
      rw [← ht5, ← ht4] at z5
      have z6 := z6.out
      rw [← ht6, ← ht5] at z6
      have z7 := z7.out
      rw [← ht7, ← ht6] at z7
      have z8 := z8.out
      rw [← ht8, ← ht7] at z8
      have l1 := l1.out
      rw [← ht1, ← ht0] at l1
      have l2 := l2.out
      rw [← ht2, ← ht1] at l2
      have l3 := l3.out
      rw [← ht3, ← ht2] at l3
      have l4 := l4.out
      rw [← ht4, ← ht3] at l4
      have hz8 : t8 ≤ w8.heap.size := by rw [ht8]; exact Nat.le_refl _
      replace z1 := Lib.hid z1
      replace z2 := Lib.hid z2
      replace z3 := Lib.hid z3
      replace z4 := Lib.hid z4
      replace z5 := Lib.hid z5
      replace z6 := Lib.hid z6
      replace z7 := Lib.hid z7
      replace z8 := Lib.hid z8
      replace l1 := Lib.hid l1
      replace l2 := Lib.hid l2
      replace l3 := Lib.hid l3
      replace l4 := Lib.hid l4
      replace ht0 := Lib.hid ht0
      replace ht1 := Lib.hid ht1
      replace ht2 := Lib.hid ht2
      replace ht3 := Lib.hid ht3
      replace ht4 := Lib.hid ht4
      replace ht5 := Lib.hid ht5
      replace ht6 := Lib.hid ht6
      replace ht7 := Lib.hid ht7
      replace ht8 := Lib.hid ht8
      replace hz8 := Lib.hid hz8
      obtain ⟨wb, hwb⟩ : ∃ x, x = w8.alloc (.cells (bookC 0 (.slice none 0 0)).toArray 44) := ⟨_, rfl⟩
      obtain ⟨B, hB⟩ : ∃ g, g = w8.heap.size := ⟨_, rfl⟩
      have mb : Mod (fun _ => False) w8 wb := by rw [hwb]; exact (Mod.refl _ _).alloc _
      have hBt : t8 ≤ B := by rw [hB]; exact hz8.out
      have hBw : w.heap.size ≤ B := by rw [hB]; exact m0.out.size
      have bk : BookT wb w.heap.size B 0 (fun _ => False) (.slice none 0 0) := by rw [hwb, hB]; exact BookT.make m0.out.size
      replace m0 := Lib.hid (m0.out.trans mb)
      replace q1 := Lib.hid (clip_keep0 q1.out mb)
      replace q2 := Lib.hid (clip_keep0 q2.out mb)
      replace q3 := Lib.hid (clip_keep0 q3.out mb)
      replace q4 := Lib.hid (clip_keep0 q4.out mb)
      replace hwb := Lib.hid hwb
      replace hB := Lib.hid hB
      replace hBw := Lib.hid hBw
      replace bk := Lib.hid bk
      replace hBt := Lib.hid hBt
      have u1 : ∀ x, (.slice (some ⟨gt1, 0, none⟩) m (m + 1) : Value).ownBlock = some x → x < B := fun x hx => by have := (l1.out x hx).2; have := hBt.out; have := z2.out; have := z3.out; have := z4.out; have := z5.out; have := z6.out; have := z7.out; have := z8.out; omega
      have u2 : ∀ x, (.slice (some ⟨gt2, 0, none⟩) p (p + 1) : Value).ownBlock = some x → x < B := fun x hx => by have := (l2.out x hx).2; have := hBt.out; have := z2.out; have := z3.out; have := z4.out; have := z5.out; have := z6.out; have := z7.out; have := z8.out; omega
      have u3 : ∀ x, (va : Value).ownBlock = some x → x < B := fun x hx => by have := (l3.out x hx).2; have := hBt.out; have := z2.out; have := z3.out; have := z4.out; have := z5.out; have := z6.out; have := z7.out; have := z8.out; omega
      have u4 : ∀ x, (vb : Value).ownBlock = some x → x < B := fun x hx => by have := (l4.out x hx).2; have := hBt.out; have := z2.out; have := z3.out; have := z4.out; have := z5.out; have := z6.out; have := z7.out; have := z8.out; omega
      replace u1 := Lib.hid u1
      replace u2 := Lib.hid u2
      replace u3 := Lib.hid u3
      replace u4 := Lib.hid u4
      clear mb
      go_upto_region 10 with (fail)
      refine wp_region_lit ?_
      refine wpList_yields (by kernel_rfl) _ _ (alloc_book _ _ _ rfl) ?_
      simp only [Act.put, List.setIfInBounds_toArray, List.set_cons_zero, List.set_cons_succ]
      rw [← hB.out, ← hwb.out]
      have kp := keepT wb w.heap.size B 0 _ _ bk.out (.slice (some ⟨gt1, 0, none⟩) m (m + 1)) s q1.out (fun x hx => ⟨fun h => h, u1.out x hx⟩) (by omega) (hsl.out)
      go_upto_region 11 with (fail)
      refine wp_region_lit ?_
      refine wpList_reads (by kernel_rfl) (.slice (some ⟨gt1, 0, none⟩) m (m + 1)) (by go_simp) ?_
      simp only [Act.put, List.setIfInBounds_toArray, List.set_cons_zero, List.set_cons_succ]
      refine wpList_enter (by kernel_rfl) 13 #[.pointer (some ⟨B, 0, none⟩), .slice (some ⟨gt1, 0, none⟩) m (m + 1)] (by go_simp) (kp) ?_
      rintro e b1 ⟨rfl, mk, vk1, bk⟩
      clear kp
      clear q1
      replace m0 := Lib.hid (m0.out.trans' mk (fun x hx h => by have := hBw.out; omega))
      replace q2 := Lib.hid (clip_below q2.out mk u2.out)
      replace q3 := Lib.hid (clip_below q3.out mk u3.out)
      replace q4 := Lib.hid (clip_below q4.out mk u4.out)
      replace bk := Lib.hid (bk.mono (T' := fun x => x < t1) (fun x hx => hx.elim (fun h => h.elim) (fun h => (l1.out x h).2)))
      clear mk
      refine ⟨_, rfl, ?_⟩
      simp only [Act.put, List.setIfInBounds_toArray, List.set_cons_zero, List.set_cons_succ]
      have kp := keepT b1 w.heap.size B 1 _ _ bk.out (.slice (some ⟨gt2, 0, none⟩) p (p + 1)) d q2.out (fun x hx => ⟨fun h => by have := (l2.out x hx).1; have := z2.out; have := z3.out; have := z4.out; have := z5.out; have := z6.out; have := z7.out; have := z8.out; omega, u2.out x hx⟩) (by omega) (hdl.out)
      go_upto_region 12 with (fail)
      refine wp_region_lit ?_
      refine wpList_reads (by kernel_rfl) (.slice (some ⟨gt2, 0, none⟩) p (p + 1)) (by go_simp) ?_
      simp only [Act.put, List.setIfInBounds_toArray, List.set_cons_zero, List.set_cons_succ]
      refine wpList_enter (by kernel_rfl) 13 #[.pointer (some ⟨B, 0, none⟩), .slice (some ⟨gt2, 0, none⟩) p (p + 1)] (by go_simp) (kp) ?_
      rintro e b2 ⟨rfl, mk, vk2, bk⟩
      clear kp
      clear q2
      replace m0 := Lib.hid (m0.out.trans' mk (fun x hx h => by have := hBw.out; omega))
      replace q3 := Lib.hid (clip_below q3.out mk u3.out)
      replace q4 := Lib.hid (clip_below q4.out mk u4.out)
      replace bk := Lib.hid (bk.mono (T' := fun x => x < t2) (fun x hx => hx.elim (fun h => by have := z2.out; have := z3.out; have := z4.out; have := z5.out; have := z6.out; have := z7.out; have := z8.out; omega) (fun h => (l2.out x h).2)))
      clear mk
      refine ⟨_, rfl, ?_⟩
      simp only [Act.put, List.setIfInBounds_toArray, List.set_cons_zero, List.set_cons_succ]
      have kp := keepT b2 w.heap.size B 2 _ _ bk.out (va) X q3.out (fun x hx => ⟨fun h => by have := (l3.out x hx).1; have := z2.out; have := z3.out; have := z4.out; have := z5.out; have := z6.out; have := z7.out; have := z8.out; omega, u3.out x hx⟩) (by omega) (by have := hXl.out; omega)
      go_upto_region 13 with (fail)
      refine wp_region_lit ?_
      refine wpList_reads (by kernel_rfl) (va) (by go_simp) ?_
      simp only [Act.put, List.setIfInBounds_toArray, List.set_cons_zero, List.set_cons_succ]
      refine wpList_enter (by kernel_rfl) 13 #[.pointer (some ⟨B, 0, none⟩), va] (by go_simp) (kp) ?_
      rintro e b3 ⟨rfl, mk, vk3, bk⟩
      clear kp
      clear q3
      replace m0 := Lib.hid (m0.out.trans' mk (fun x hx h => by have := hBw.out; omega))
      replace q4 := Lib.hid (clip_below q4.out mk u4.out)
      replace bk := Lib.hid (bk.mono (T' := fun x => x < t3) (fun x hx => hx.elim (fun h => by have := z2.out; have := z3.out; have := z4.out; have := z5.out; have := z6.out; have := z7.out; have := z8.out; omega) (fun h => (l3.out x h).2)))
      clear mk
      refine ⟨_, rfl, ?_⟩
      simp only [Act.put, List.setIfInBounds_toArray, List.set_cons_zero, List.set_cons_succ]
      have kp := keepT b3 w.heap.size B 3 _ _ bk.out (vb) X q4.out (fun x hx => ⟨fun h => by have := (l4.out x hx).1; have := z2.out; have := z3.out; have := z4.out; have := z5.out; have := z6.out; have := z7.out; have := z8.out; omega, u4.out x hx⟩) (by omega) (by have := hXl.out; omega)
      go_upto_region 14 with (fail)
      refine wp_region_lit ?_
      refine wpList_reads (by kernel_rfl) (vb) (by go_simp) ?_
      simp only [Act.put, List.setIfInBounds_toArray, List.set_cons_zero, List.set_cons_succ]
      refine wpList_enter (by kernel_rfl) 13 #[.pointer (some ⟨B, 0, none⟩), vb] (by go_simp) (kp) ?_
      rintro e b4 ⟨rfl, mk, vk4, bk⟩
      clear kp
      clear q4
      replace m0 := Lib.hid (m0.out.trans' mk (fun x hx h => by have := hBw.out; omega))
      replace bk := Lib.hid (bk.mono (T' := fun x => x < t4) (fun x hx => hx.elim (fun h => by have := z2.out; have := z3.out; have := z4.out; have := z5.out; have := z6.out; have := z7.out; have := z8.out; omega) (fun h => (l4.out x h).2)))
      clear mk
      refine ⟨_, rfl, ?_⟩
      simp only [Act.put, List.setIfInBounds_toArray, List.set_cons_zero, List.set_cons_succ]
      go_upto_region 15 with (fail)
      refine wp_region_lit ?_
      refine wpList_enter (by kernel_rfl) 14 #[.pointer (some ⟨B, 0, none⟩)] (by go_simp) (apartT b4 w.heap.size B 4 _ _ bk.out) ?_
      rintro e y1 ⟨rfl, ma⟩
      have mf := m0.out.trans' ma (fun x hx h => by omega)
      replace mf := Lib.hid mf
      clear ma bk
      refine ⟨_, rfl, ?_⟩
      simp only [Act.put, List.setIfInBounds_toArray, List.set_cons_zero, List.set_cons_succ]
      refine wpList_reads (by kernel_rfl) (.bool true) (by go_simp) ?_
      simp only [Act.put, List.setIfInBounds_toArray, List.set_cons_zero, List.set_cons_succ]
      refine wpList_enter (by kernel_rfl) 15 #[] (by go_simp) (lives_any y1) ?_
      rintro e y2 ⟨m5, rfl⟩
      replace mf := Lib.hid (mf.out.trans m5)
      clear m5
      refine ⟨_, rfl, ?_⟩
      simp only [Act.put, List.setIfInBounds_toArray, List.set_cons_zero, List.set_cons_succ]
      refine wpList_reads (by kernel_rfl) (.bool true) (by go_simp) ?_
      simp only [Act.put, List.setIfInBounds_toArray, List.set_cons_zero, List.set_cons_succ]
      refine wpList_reads (by kernel_rfl) (.bool true) (by go_simp) ?_
      simp only [Act.put, List.setIfInBounds_toArray, List.set_cons_zero, List.set_cons_succ]
      go_wp2
      go_ret
      exact ⟨mf.out, rfl⟩
  · have e1 : decide ((20000 : Int) < (p : Int)) = false := by rw [decide_eq_false_iff_not]; omega
    clear c1
    go_enter Tryz.func5, Tryz.ntmps5
    go_upto_region 3 with (fail)
    refine wp_region_lit ?_
    refine wpList_reads (by kernel_rfl) (.slice aS m cS) (by go_simp) ?_
    simp only [Act.put, List.setIfInBounds_toArray, List.set_cons_zero, List.set_cons_succ]
    refine wpList_enter (by kernel_rfl) 6 #[.slice aS m cS] (by go_simp) (twin_new _ s w hs.out (by have := hsl.out; omega)) ?_
    rintro e w1 ⟨m1, vt1, rfl, tw1, tb⟩
    obtain ⟨gt1, hvt⟩ : ∃ g, vt1 = .slice (some ⟨g, 0, none⟩) m (m + 1) := by obtain ⟨g, h, _⟩ := tw1; exact ⟨g, by rw [h, hm.out]⟩
    subst hvt
    have l1 : ∀ x, (Value.slice (some ⟨gt1, 0, none⟩) m (m + 1)).ownBlock = some x → w.heap.size ≤ x ∧ x < w1.heap.size := by
      obtain ⟨g, h, h2⟩ := tw1
      intro x hx
      refine ⟨tb x hx, ?_⟩
      rw [h] at hx
      have h3 : g = x := by injection hx
      exact h3 ▸ lt_of_heap h2
    have q1 := clip_base0 (twin_clip tw1 tb (by have := hsl.out; omega)) m0.out.size
    have z1 := m1.size
    replace hs := Lib.hid (hs.out.mod m1 (fun _ _ h => h))
    replace hd := Lib.hid (hd.out.mod m1 (fun _ _ h => h))
    replace m0 := Lib.hid (m0.out.trans m1)
    replace tw1 := Lib.hid tw1
    replace q1 := Lib.hid q1
    replace l1 := Lib.hid l1
    replace z1 := Lib.hid z1
    clear m1 tb
    refine ⟨_, rfl, ?_⟩
    simp only [Act.put, List.setIfInBounds_toArray, List.set_cons_zero, List.set_cons_succ]
    refine wpList_reads (by kernel_rfl) (.slice (some ⟨gt1, 0, none⟩) m (m + 1)) (by go_simp) ?_
    simp only [Act.put, List.setIfInBounds_toArray, List.set_cons_zero, List.set_cons_succ]
    go_upto_region 4 with (fail)
    refine wp_region_lit ?_
    refine wpList_reads (by kernel_rfl) (.slice ad p cd) (by go_simp) ?_
    simp only [Act.put, List.setIfInBounds_toArray, List.set_cons_zero, List.set_cons_succ]
    refine wpList_enter (by kernel_rfl) 6 #[.slice ad p cd] (by go_simp) (twin_new _ d w1 hd.out (by have := hdl.out; omega)) ?_
    rintro e w2 ⟨m2, vt2, rfl, tw2, tb⟩
    obtain ⟨gt2, hvt⟩ : ∃ g, vt2 = .slice (some ⟨g, 0, none⟩) p (p + 1) := by obtain ⟨g, h, _⟩ := tw2; exact ⟨g, by rw [h, hp.out]⟩
    subst hvt
    have l2 : ∀ x, (Value.slice (some ⟨gt2, 0, none⟩) p (p + 1)).ownBlock = some x → w1.heap.size ≤ x ∧ x < w2.heap.size := by
      obtain ⟨g, h, h2⟩ := tw2
      intro x hx
      refine ⟨tb x hx, ?_⟩
      rw [h] at hx
      have h3 : g = x := by injection hx
      exact h3 ▸ lt_of_heap h2
    have q2 := clip_base0 (twin_clip tw2 tb (by have := hdl.out; omega)) m0.out.size
    have z2 := m2.size
    replace hs := Lib.hid (hs.out.mod m2 (fun _ _ h => h))
    replace hd := Lib.hid (hd.out.mod m2 (fun _ _ h => h))
    replace m0 := Lib.hid (m0.out.trans m2)
    replace tw1 := Lib.hid (tw1.out.mod m2 (fun _ h => h))
    replace q1 := Lib.hid (clip_keep0 q1.out m2)
    replace tw2 := Lib.hid tw2
    replace q2 := Lib.hid q2
    replace l2 := Lib.hid l2
    replace z2 := Lib.hid z2
    clear m2 tb
    refine ⟨_, rfl, ?_⟩
    simp only [Act.put, List.setIfInBounds_toArray, List.set_cons_zero, List.set_cons_succ]
    refine wpList_reads (by kernel_rfl) (.slice (some ⟨gt2, 0, none⟩) p (p + 1)) (by go_simp) ?_
    simp only [Act.put, List.setIfInBounds_toArray, List.set_cons_zero, List.set_cons_succ]
    go_upto_region 5 with (fail)
    refine wp_region_lit ?_
    refine wpList_reads (by kernel_rfl) (.slice (some ⟨gt1, 0, none⟩) m (m + 1)) (by go_simp) ?_
    simp only [Act.put, List.setIfInBounds_toArray, List.set_cons_zero, List.set_cons_succ]
    refine wpList_reads (by kernel_rfl) (.slice (some ⟨gt2, 0, none⟩) p (p + 1)) (by go_simp) ?_
    simp only [Act.put, List.setIfInBounds_toArray, List.set_cons_zero, List.set_cons_succ]
    refine wpList_reads (by kernel_rfl) (.bool cl) (by go_simp) ?_
    simp only [Act.put, List.setIfInBounds_toArray, List.set_cons_zero, List.set_cons_succ]
    refine wpList_enter (by kernel_rfl) 22 #[.slice (some ⟨gt1, 0, none⟩) m (m + 1), .slice (some ⟨gt2, 0, none⟩) p (p + 1), .bool cl] (by go_simp) (secret_any _ _ s d cl w2 tw1.out.byteAt tw2.out.byteAt (by have := hsl.out; omega) (by have := hdl.out; omega)) ?_
    rintro e w3 ⟨m3, va, rfl, q3⟩
    rw [← hE.out]
    rw [← hX.out] at q3
    have l3 := q3.lt
    have z3 := m3.size
    have q3 := clip_base0 q3 m0.out.size
    replace hs := Lib.hid (hs.out.mod m3 (fun _ _ h => h))
    replace hd := Lib.hid (hd.out.mod m3 (fun _ _ h => h))
    replace m0 := Lib.hid (m0.out.trans m3)
    replace tw1 := Lib.hid (tw1.out.mod m3 (fun _ h => h))
    replace q1 := Lib.hid (clip_keep0 q1.out m3)
    replace tw2 := Lib.hid (tw2.out.mod m3 (fun _ h => h))
    replace q2 := Lib.hid (clip_keep0 q2.out m3)
    replace q3 := Lib.hid q3
    replace l3 := Lib.hid l3
    replace z3 := Lib.hid z3
    clear m3
    refine ⟨_, rfl, ?_⟩
    simp only [Act.put, List.setIfInBounds_toArray, List.set_cons_zero, List.set_cons_succ]
    refine wpList_reads (by kernel_rfl) (.tuple #[va, .int .i64 E]) (by go_simp) ?_
    simp only [Act.put, List.setIfInBounds_toArray, List.set_cons_zero, List.set_cons_succ]
    refine wpList_reads (by kernel_rfl) (va) (by go_simp) ?_
    simp only [Act.put, List.setIfInBounds_toArray, List.set_cons_zero, List.set_cons_succ]
    refine wpList_reads (by kernel_rfl) (.int .i64 E) (by go_simp) ?_
    simp only [Act.put, List.setIfInBounds_toArray, List.set_cons_zero, List.set_cons_succ]
    refine wpList_reads (by kernel_rfl) (va) (by go_simp) ?_
    simp only [Act.put, List.setIfInBounds_toArray, List.set_cons_zero, List.set_cons_succ]
    refine wpList_reads (by kernel_rfl) (.int .i64 E) (by go_simp) ?_
    simp only [Act.put, List.setIfInBounds_toArray, List.set_cons_zero, List.set_cons_succ]
    go_upto_region 6 with (fail)
    refine wp_region_lit ?_
    refine wpList_reads (by kernel_rfl) (.slice (some ⟨gt1, 0, none⟩) m (m + 1)) (by go_simp) ?_
    simp only [Act.put, List.setIfInBounds_toArray, List.set_cons_zero, List.set_cons_succ]
    refine wpList_reads (by kernel_rfl) (.slice (some ⟨gt2, 0, none⟩) p (p + 1)) (by go_simp) ?_
    simp only [Act.put, List.setIfInBounds_toArray, List.set_cons_zero, List.set_cons_succ]
    refine wpList_reads (by kernel_rfl) (.bool cl) (by go_simp) ?_
    simp only [Act.put, List.setIfInBounds_toArray, List.set_cons_zero, List.set_cons_succ]
    refine wpList_enter (by kernel_rfl) 22 #[.slice (some ⟨gt1, 0, none⟩) m (m + 1), .slice (some ⟨gt2, 0, none⟩) p (p + 1), .bool cl] (by go_simp) (secret_any _ _ s d cl w3 tw1.out.byteAt tw2.out.byteAt (by have := hsl.out; omega) (by have := hdl.out; omega)) ?_
    rintro e w4 ⟨m4, vb, rfl, q4⟩
    rw [← hE.out]
    rw [← hX.out] at q4
    have l4 := q4.lt
    have z4 := m4.size
    have q4 := clip_base0 q4 m0.out.size
    replace hs := Lib.hid (hs.out.mod m4 (fun _ _ h => h))
    replace hd := Lib.hid (hd.out.mod m4 (fun _ _ h => h))
    replace m0 := Lib.hid (m0.out.trans m4)
    replace tw1 := Lib.hid (tw1.out.mod m4 (fun _ h => h))
    replace q1 := Lib.hid (clip_keep0 q1.out m4)
    replace tw2 := Lib.hid (tw2.out.mod m4 (fun _ h => h))
    replace q2 := Lib.hid (clip_keep0 q2.out m4)
    replace q3 := Lib.hid (clip_keep0 q3.out m4)
    replace q4 := Lib.hid q4
    replace l4 := Lib.hid l4
    replace z4 := Lib.hid z4
    clear m4
    refine ⟨_, rfl, ?_⟩
    simp only [Act.put, List.setIfInBounds_toArray, List.set_cons_zero, List.set_cons_succ]
    refine wpList_reads (by kernel_rfl) (.tuple #[vb, .int .i64 E]) (by go_simp) ?_
    simp only [Act.put, List.setIfInBounds_toArray, List.set_cons_zero, List.set_cons_succ]
    refine wpList_reads (by kernel_rfl) (vb) (by go_simp) ?_
    simp only [Act.put, List.setIfInBounds_toArray, List.set_cons_zero, List.set_cons_succ]
    refine wpList_reads (by kernel_rfl) (.int .i64 E) (by go_simp) ?_
    simp only [Act.put, List.setIfInBounds_toArray, List.set_cons_zero, List.set_cons_succ]
    refine wpList_reads (by kernel_rfl) (vb) (by go_simp) ?_
    simp only [Act.put, List.setIfInBounds_toArray, List.set_cons_zero, List.set_cons_succ]
    refine wpList_reads (by kernel_rfl) (.int .i64 E) (by go_simp) ?_
    simp only [Act.put, List.setIfInBounds_toArray, List.set_cons_zero, List.set_cons_succ]
    go_upto_region 7 with (fail)
    refine wp_region_lit ?_
    refine wpList_reads (by kernel_rfl) (.slice aS m cS) (by go_simp) ?_
    simp only [Act.put, List.setIfInBounds_toArray, List.set_cons_zero, List.set_cons_succ]
    refine wpList_reads (by kernel_rfl) (.slice ad p cd) (by go_simp) ?_
    simp only [Act.put, List.setIfInBounds_toArray, List.set_cons_zero, List.set_cons_succ]
    refine wpList_reads (by kernel_rfl) (.bool cl) (by go_simp) ?_
    simp only [Act.put, List.setIfInBounds_toArray, List.set_cons_zero, List.set_cons_succ]
    refine wpList_enter (by kernel_rfl) 23 #[.slice aS m cS, .slice ad p cd, .bool cl] (by go_simp) (refsecret_any _ _ s d cl w4 hs.out hd.out (by have := hsl.out; omega) (by have := hdl.out; omega)) ?_
    rintro e w5 ⟨m5, vc, rfl, q5⟩
    rw [← hE.out]
    rw [← hX.out] at q5
    have l5 := q5.lt
    have z5 := m5.size
    have q5 := clip_base0 q5 m0.out.size
    replace hs := Lib.hid (hs.out.mod m5 (fun _ _ h => h))
    replace hd := Lib.hid (hd.out.mod m5 (fun _ _ h => h))
    replace m0 := Lib.hid (m0.out.trans m5)
    replace tw1 := Lib.hid (tw1.out.mod m5 (fun _ h => h))
    replace q1 := Lib.hid (clip_keep0 q1.out m5)
    replace tw2 := Lib.hid (tw2.out.mod m5 (fun _ h => h))
    replace q2 := Lib.hid (clip_keep0 q2.out m5)
    replace q3 := Lib.hid (clip_keep0 q3.out m5)
    replace q4 := Lib.hid (clip_keep0 q4.out m5)
    replace q5 := Lib.hid q5
    replace l5 := Lib.hid l5
    replace z5 := Lib.hid z5
    clear m5
    refine ⟨_, rfl, ?_⟩
    simp only [Act.put, List.setIfInBounds_toArray, List.set_cons_zero, List.set_cons_succ]
    refine wpList_reads (by kernel_rfl) (.tuple #[vc, .int .i64 E]) (by go_simp) ?_
    simp only [Act.put, List.setIfInBounds_toArray, List.set_cons_zero, List.set_cons_succ]
    refine wpList_reads (by kernel_rfl) (vc) (by go_simp) ?_
    simp only [Act.put, List.setIfInBounds_toArray, List.set_cons_zero, List.set_cons_succ]
    refine wpList_reads (by kernel_rfl) (.int .i64 E) (by go_simp) ?_
    simp only [Act.put, List.setIfInBounds_toArray, List.set_cons_zero, List.set_cons_succ]
    refine wpList_reads (by kernel_rfl) (vc) (by go_simp) ?_
    simp only [Act.put, List.setIfInBounds_toArray, List.set_cons_zero, List.set_cons_succ]
    refine wpList_reads (by kernel_rfl) (.int .i64 E) (by go_simp) ?_
    simp only [Act.put, List.setIfInBounds_toArray, List.set_cons_zero, List.set_cons_succ]
    go_upto_region 8 with (fail)
    refine wp_region_lit ?_
    refine wpList_reads (by kernel_rfl) (.int .i64 E) (by go_simp) ?_
    simp only [Act.put, List.setIfInBounds_toArray, List.set_cons_zero, List.set_cons_succ]
    refine wpList_reads (by kernel_rfl) (.int .i64 E) (by go_simp) ?_
    simp only [Act.put, List.setIfInBounds_toArray, List.set_cons_zero, List.set_cons_succ]
    refine wpList_reads (by kernel_rfl) (.bool false) (by go_simp) ?_
    simp only [Act.put, List.setIfInBounds_toArray, List.set_cons_zero, List.set_cons_succ]
    refine wpList_reads (by kernel_rfl) (.bool false) (by go_simp) ?_
    simp only [Act.put, List.setIfInBounds_toArray, List.set_cons_zero, List.set_cons_succ]
    refine wpList_reads (by kernel_rfl) (va) (by go_simp) ?_
    simp only [Act.put, List.setIfInBounds_toArray, List.set_cons_zero, List.set_cons_succ]
    refine wpList_reads (by kernel_rfl) (vc) (by go_simp) ?_
    simp only [Act.put, List.setIfInBounds_toArray, List.set_cons_zero, List.set_cons_succ]
    refine wpList_enter (by kernel_rfl) 11 #[va, vc] (by go_simp) (same_any _ _ X X w5 (clip_byteAt q3.out) (clip_byteAt q5.out) (by have := hXl.out; omega) (by have := hXl.out; omega)) ?_
    rintro e w6 ⟨m6, rfl⟩
    rw [show decide (X = X) = true by simp]
    replace hs := Lib.hid (hs.out.mod m6 (fun _ _ h => h))
    replace hd := Lib.hid (hd.out.mod m6 (fun _ _ h => h))
    replace m0 := Lib.hid (m0.out.trans m6)
    replace tw1 := Lib.hid (tw1.out.mod m6 (fun _ h => h))
    replace q1 := Lib.hid (clip_keep0 q1.out m6)
    replace tw2 := Lib.hid (tw2.out.mod m6 (fun _ h => h))
    replace q2 := Lib.hid (clip_keep0 q2.out m6)
    replace q3 := Lib.hid (clip_keep0 q3.out m6)
    replace q4 := Lib.hid (clip_keep0 q4.out m6)
    replace q5 := Lib.hid (clip_keep0 q5.out m6)
    have z6 := Lib.hid m6.size
    clear m6
    clear q5
    refine ⟨_, rfl, ?_⟩
    simp only [Act.put, List.setIfInBounds_toArray, List.set_cons_zero, List.set_cons_succ]
    refine wpList_reads (by kernel_rfl) (.bool false) (by go_simp) ?_
    simp only [Act.put, List.setIfInBounds_toArray, List.set_cons_zero, List.set_cons_succ]
    refine wpList_reads (by kernel_rfl) (.bool false) (by go_simp) ?_
    simp only [Act.put, List.setIfInBounds_toArray, List.set_cons_zero, List.set_cons_succ]
    refine wpList_reads (by kernel_rfl) (.bool false) (by go_simp) ?_
    simp only [Act.put, List.setIfInBounds_toArray, List.set_cons_zero, List.set_cons_succ]
    refine wpList_reads (by kernel_rfl) (.slice (some ⟨gt1, 0, none⟩) m (m + 1)) (by go_simp) ?_
    simp only [Act.put, List.setIfInBounds_toArray, List.set_cons_zero, List.set_cons_succ]
    refine wpList_reads (by kernel_rfl) (.slice aS m cS) (by go_simp) ?_
    simp only [Act.put, List.setIfInBounds_toArray, List.set_cons_zero, List.set_cons_succ]
    refine wpList_enter (by kernel_rfl) 12 #[.slice (some ⟨gt1, 0, none⟩) m (m + 1), .slice aS m cS] (by go_simp) (left_any _ _ s w6 tw1.out hs.out (by have := hsl.out; omega)) ?_
    rintro e w7 ⟨m7, rfl⟩
    replace hs := Lib.hid (hs.out.mod m7 (fun _ _ h => h))
    replace hd := Lib.hid (hd.out.mod m7 (fun _ _ h => h))
    replace m0 := Lib.hid (m0.out.trans m7)
    replace tw1 := Lib.hid (tw1.out.mod m7 (fun _ h => h))
    replace q1 := Lib.hid (clip_keep0 q1.out m7)
    replace tw2 := Lib.hid (tw2.out.mod m7 (fun _ h => h))
    replace q2 := Lib.hid (clip_keep0 q2.out m7)
    replace q3 := Lib.hid (clip_keep0 q3.out m7)
    replace q4 := Lib.hid (clip_keep0 q4.out m7)
    have z7 := Lib.hid m7.size
    clear m7
    clear tw1 hs
    refine ⟨_, rfl, ?_⟩
    simp only [Act.put, List.setIfInBounds_toArray, List.set_cons_zero, List.set_cons_succ]
    refine wpList_reads (by kernel_rfl) (.bool false) (by go_simp) ?_
    simp only [Act.put, List.setIfInBounds_toArray, List.set_cons_zero, List.set_cons_succ]
    refine wpList_reads (by kernel_rfl) (.bool false) (by go_simp) ?_
    simp only [Act.put, List.setIfInBounds_toArray, List.set_cons_zero, List.set_cons_succ]
    refine wpList_reads (by kernel_rfl) (.bool false) (by go_simp) ?_
    simp only [Act.put, List.setIfInBounds_toArray, List.set_cons_zero, List.set_cons_succ]
    refine wpList_reads (by kernel_rfl) (.slice (some ⟨gt2, 0, none⟩) p (p + 1)) (by go_simp) ?_
    simp only [Act.put, List.setIfInBounds_toArray, List.set_cons_zero, List.set_cons_succ]
    refine wpList_reads (by kernel_rfl) (.slice ad p cd) (by go_simp) ?_
    simp only [Act.put, List.setIfInBounds_toArray, List.set_cons_zero, List.set_cons_succ]
    refine wpList_enter (by kernel_rfl) 12 #[.slice (some ⟨gt2, 0, none⟩) p (p + 1), .slice ad p cd] (by go_simp) (left_any _ _ d w7 tw2.out hd.out (by have := hdl.out; omega)) ?_
    rintro e w8 ⟨m8, rfl⟩
    replace hd := Lib.hid (hd.out.mod m8 (fun _ _ h => h))
    replace m0 := Lib.hid (m0.out.trans m8)
    replace q1 := Lib.hid (clip_keep0 q1.out m8)
    replace tw2 := Lib.hid (tw2.out.mod m8 (fun _ h => h))
    replace q2 := Lib.hid (clip_keep0 q2.out m8)
    replace q3 := Lib.hid (clip_keep0 q3.out m8)
    replace q4 := Lib.hid (clip_keep0 q4.out m8)
    have z8 := Lib.hid m8.size
    clear m8
    clear tw2 hd
    refine ⟨_, rfl, ?_⟩
    simp only [Act.put, List.setIfInBounds_toArray, List.set_cons_zero, List.set_cons_succ]
    refine wpList_reads (by kernel_rfl) (.bool false) (by go_simp) ?_
    simp only [Act.put, List.setIfInBounds_toArray, List.set_cons_zero, List.set_cons_succ]
    refine wpList_reads (by kernel_rfl) (.bool false) (by go_simp) ?_
    simp only [Act.put, List.setIfInBounds_toArray, List.set_cons_zero, List.set_cons_succ]
    obtain ⟨t1, ht1⟩ : ∃ t, t = w1.heap.size := ⟨_, rfl⟩
    obtain ⟨t2, ht2⟩ : ∃ t, t = w2.heap.size := ⟨_, rfl⟩
    obtain ⟨t3, ht3⟩ : ∃ t, t = w3.heap.size := ⟨_, rfl⟩
    obtain ⟨t4, ht4⟩ : ∃ t, t = w4.heap.size := ⟨_, rfl⟩
    obtain ⟨t5, ht5⟩ : ∃ t, t = w5.heap.size := ⟨_, rfl⟩
    obtain ⟨t6, ht6⟩ : ∃ t, t = w6.heap.size := ⟨_, rfl⟩
    obtain ⟨t7, ht7⟩ : ∃ t, t = w7.heap.size := ⟨_, rfl⟩
    obtain ⟨t8, ht8⟩ : ∃ t, t = w8.heap.size := ⟨_, rfl⟩
    obtain ⟨t0, ht0⟩ : ∃ t, t = w.heap.size := ⟨_, rfl⟩
    have z1 := z1.out
    rw [← ht1, ← ht0] at z1
    have z2 := z2.out
    rw [← ht2, ← ht1] at z2
    have z3 := z3.out
    rw [← ht3, ← ht2] at z3
    have z4 := z4.out
    rw [← ht4, ← ht3] at z4
    have z5 := z5.out
    rw [← ht5, ← ht4] at z5
    have z6 := z6.out
    rw [← ht6, ← ht5] at z6
    have z7 := z7.out
    rw [← ht7, ← ht6] at z7
    have z8 := z8.out
    rw [← ht8, ← ht7] at z8
    have l1 := l1.out
    rw [← ht1, ← ht0] at l1
    have l2 := l2.out
    rw [← ht2, ← ht1] at l2
    have l3 := l3.out
    rw [← ht3, ← ht2] at l3
    have l4 := l4.out
    rw [← ht4, ← ht3] at l4
    have hz8 : t8 ≤ w8.heap.size := by rw [ht8]; exact Nat.le_refl _
    replace z1 := Lib.hid z1
    replace z2 := Lib.hid z2
    replace z3 := Lib.hid z3
    replace z4 := Lib.hid z4
    replace z5 := Lib.hid z5
    replace z6 := Lib.hid z6
    replace z7 := Lib.hid z7
    replace z8 := Lib.hid z8
    replace l1 := Lib.hid l1
    replace l2 := Lib.hid l2
    replace l3 := Lib.hid l3
    replace l4 := Lib.hid l4
    replace ht0 := Lib.hid ht0
    replace ht1 := Lib.hid ht1
    replace ht2 := Lib.hid ht2
    replace ht3 := Lib.hid ht3
    replace ht4 := Lib.hid ht4
    replace ht5 := Lib.hid ht5
    replace ht6 := Lib.hid ht6
    replace ht7 := Lib.hid ht7
    replace ht8 := Lib.hid ht8
    replace hz8 := Lib.hid hz8
    obtain ⟨wb, hwb⟩ : ∃ x, x = w8.alloc (.cells (bookC 0 (.slice none 0 0)).toArray 44) := ⟨_, rfl⟩
    obtain ⟨B, hB⟩ : ∃ g, g = w8.heap.size := ⟨_, rfl⟩
    have mb : Mod (fun _ => False) w8 wb := by rw [hwb]; exact (Mod.refl _ _).alloc _
    have hBt : t8 ≤ B := by rw [hB]; exact hz8.out
    have hBw : w.heap.size ≤ B := by rw [hB]; exact m0.out.size
    have bk : BookT wb w.heap.size B 0 (fun _ => False) (.slice none 0 0) := by rw [hwb, hB]; exact BookT.make m0.out.size
    replace m0 := Lib.hid (m0.out.trans mb)
    replace q1 := Lib.hid (clip_keep0 q1.out mb)
    replace q2 := Lib.hid (clip_keep0 q2.out mb)
    replace q3 := Lib.hid (clip_keep0 q3.out mb)
    replace q4 := Lib.hid (clip_keep0 q4.out mb)
    replace hwb := Lib.hid hwb
    replace hB := Lib.hid hB
    replace hBw := Lib.hid hBw
    replace bk := Lib.hid bk
    replace hBt := Lib.hid hBt
    have u1 : ∀ x, (.slice (some ⟨gt1, 0, none⟩) m (m + 1) : Value).ownBlock = some x → x < B := fun x hx => by have := (l1.out x hx).2; have := hBt.out; have := z2.out; have := z3.out; have := z4.out; have := z5.out; have := z6.out; have := z7.out; have := z8.out; omega
    have u2 : ∀ x, (.slice (some ⟨gt2, 0, none⟩) p (p + 1) : Value).ownBlock = some x → x < B := fun x hx => by have := (l2.out x hx).2; have := hBt.out; have := z2.out; have := z3.out; have := z4.out; have := z5.out; have := z6.out; have := z7.out; have := z8.out; omega
    have u3 : ∀ x, (va : Value).ownBlock = some x → x < B := fun x hx => by have := (l3.out x hx).2; have := hBt.out; have := z2.out; have := z3.out; have := z4.out; have := z5.out; have := z6.out; have := z7.out; have := z8.out; omega
    have u4 : ∀ x, (vb : Value).ownBlock = some x → x < B := fun x hx => by have := (l4.out x hx).2; have := hBt.out; have := z2.out; have := z3.out; have := z4.out; have := z5.out; have := z6.out; have := z7.out; have := z8.out; omega
    replace u1 := Lib.hid u1
    replace u2 := Lib.hid u2
    replace u3 := Lib.hid u3
    replace u4 := Lib.hid u4
    clear mb
    go_upto_region 10 with (fail)
    refine wp_region_lit ?_
    refine wpList_yields (by kernel_rfl) _ _ (alloc_book _ _ _ rfl) ?_
    simp only [Act.put, List.setIfInBounds_toArray, List.set_cons_zero, List.set_cons_succ]
    rw [← hB.out, ← hwb.out]
    have kp := keepT wb w.heap.size B 0 _ _ bk.out (.slice (some ⟨gt1, 0, none⟩) m (m + 1)) s q1.out (fun x hx => ⟨fun h => h, u1.out x hx⟩) (by omega) (hsl.out)
    go_upto_region 11 with (fail)
    refine wp_region_lit ?_
    refine wpList_reads (by kernel_rfl) (.slice (some ⟨gt1, 0, none⟩) m (m + 1)) (by go_simp) ?_
    simp only [Act.put, List.setIfInBounds_toArray, List.set_cons_zero, List.set_cons_succ]
    refine wpList_enter (by kernel_rfl) 13 #[.pointer (some ⟨B, 0, none⟩), .slice (some ⟨gt1, 0, none⟩) m (m + 1)] (by go_simp) (kp) ?_
    rintro e b1 ⟨rfl, mk, vk1, bk⟩
    clear kp
    clear q1
    replace m0 := Lib.hid (m0.out.trans' mk (fun x hx h => by have := hBw.out; omega))
    replace q2 := Lib.hid (clip_below q2.out mk u2.out)
    replace q3 := Lib.hid (clip_below q3.out mk u3.out)
    replace q4 := Lib.hid (clip_below q4.out mk u4.out)
    replace bk := Lib.hid (bk.mono (T' := fun x => x < t1) (fun x hx => hx.elim (fun h => h.elim) (fun h => (l1.out x h).2)))
    clear mk
    refine ⟨_, rfl, ?_⟩
    simp only [Act.put, List.setIfInBounds_toArray, List.set_cons_zero, List.set_cons_succ]
    have kp := keepT b1 w.heap.size B 1 _ _ bk.out (.slice (some ⟨gt2, 0, none⟩) p (p + 1)) d q2.out (fun x hx => ⟨fun h => by have := (l2.out x hx).1; have := z2.out; have := z3.out; have := z4.out; have := z5.out; have := z6.out; have := z7.out; have := z8.out; omega, u2.out x hx⟩) (by omega) (hdl.out)
    go_upto_region 12 with (fail)
    refine wp_region_lit ?_
    refine wpList_reads (by kernel_rfl) (.slice (some ⟨gt2, 0, none⟩) p (p + 1)) (by go_simp) ?_
    simp only [Act.put, List.setIfInBounds_toArray, List.set_cons_zero, List.set_cons_succ]
    refine wpList_enter (by kernel_rfl) 13 #[.pointer (some ⟨B, 0, none⟩), .slice (some ⟨gt2, 0, none⟩) p (p + 1)] (by go_simp) (kp) ?_
    rintro e b2 ⟨rfl, mk, vk2, bk⟩
    clear kp
    clear q2
    replace m0 := Lib.hid (m0.out.trans' mk (fun x hx h => by have := hBw.out; omega))
    replace q3 := Lib.hid (clip_below q3.out mk u3.out)
    replace q4 := Lib.hid (clip_below q4.out mk u4.out)
    replace bk := Lib.hid (bk.mono (T' := fun x => x < t2) (fun x hx => hx.elim (fun h => by have := z2.out; have := z3.out; have := z4.out; have := z5.out; have := z6.out; have := z7.out; have := z8.out; omega) (fun h => (l2.out x h).2)))
    clear mk
    refine ⟨_, rfl, ?_⟩
    simp only [Act.put, List.setIfInBounds_toArray, List.set_cons_zero, List.set_cons_succ]
    have kp := keepT b2 w.heap.size B 2 _ _ bk.out (va) X q3.out (fun x hx => ⟨fun h => by have := (l3.out x hx).1; have := z2.out; have := z3.out; have := z4.out; have := z5.out; have := z6.out; have := z7.out; have := z8.out; omega, u3.out x hx⟩) (by omega) (by have := hXl.out; omega)
    go_upto_region 13 with (fail)
    refine wp_region_lit ?_
    refine wpList_reads (by kernel_rfl) (va) (by go_simp) ?_
    simp only [Act.put, List.setIfInBounds_toArray, List.set_cons_zero, List.set_cons_succ]
    refine wpList_enter (by kernel_rfl) 13 #[.pointer (some ⟨B, 0, none⟩), va] (by go_simp) (kp) ?_
    rintro e b3 ⟨rfl, mk, vk3, bk⟩
    clear kp
    clear q3
    replace m0 := Lib.hid (m0.out.trans' mk (fun x hx h => by have := hBw.out; omega))
    replace q4 := Lib.hid (clip_below q4.out mk u4.out)
    replace bk := Lib.hid (bk.mono (T' := fun x => x < t3) (fun x hx => hx.elim (fun h => by have := z2.out; have := z3.out; have := z4.out; have := z5.out; have := z6.out; have := z7.out; have := z8.out; omega) (fun h => (l3.out x h).2)))
    clear mk
    refine ⟨_, rfl, ?_⟩
    simp only [Act.put, List.setIfInBounds_toArray, List.set_cons_zero, List.set_cons_succ]
    have kp := keepT b3 w.heap.size B 3 _ _ bk.out (vb) X q4.out (fun x hx => ⟨fun h => by have := (l4.out x hx).1; have := z2.out; have := z3.out; have := z4.out; have := z5.out; have := z6.out; have := z7.out; have := z8.out; omega, u4.out x hx⟩) (by omega) (by have := hXl.out; omega)
    go_upto_region 14 with (fail)
    refine wp_region_lit ?_
    refine wpList_reads (by kernel_rfl) (vb) (by go_simp) ?_
    simp only [Act.put, List.setIfInBounds_toArray, List.set_cons_zero, List.set_cons_succ]
    refine wpList_enter (by kernel_rfl) 13 #[.pointer (some ⟨B, 0, none⟩), vb] (by go_simp) (kp) ?_
    rintro e b4 ⟨rfl, mk, vk4, bk⟩
    clear kp
    clear q4
    replace m0 := Lib.hid (m0.out.trans' mk (fun x hx h => by have := hBw.out; omega))
    replace bk := Lib.hid (bk.mono (T' := fun x => x < t4) (fun x hx => hx.elim (fun h => by have := z2.out; have := z3.out; have := z4.out; have := z5.out; have := z6.out; have := z7.out; have := z8.out; omega) (fun h => (l4.out x h).2)))
    clear mk
    refine ⟨_, rfl, ?_⟩
    simp only [Act.put, List.setIfInBounds_toArray, List.set_cons_zero, List.set_cons_succ]
    go_upto_region 15 with (fail)
    refine wp_region_lit ?_
    refine wpList_enter (by kernel_rfl) 14 #[.pointer (some ⟨B, 0, none⟩)] (by go_simp) (apartT b4 w.heap.size B 4 _ _ bk.out) ?_
    rintro e y1 ⟨rfl, ma⟩
    have mf := m0.out.trans' ma (fun x hx h => by omega)
    replace mf := Lib.hid mf
    clear ma bk
    refine ⟨_, rfl, ?_⟩
    simp only [Act.put, List.setIfInBounds_toArray, List.set_cons_zero, List.set_cons_succ]
    refine wpList_reads (by kernel_rfl) (.bool true) (by go_simp) ?_
    simp only [Act.put, List.setIfInBounds_toArray, List.set_cons_zero, List.set_cons_succ]
    refine wpList_enter (by kernel_rfl) 15 #[] (by go_simp) (lives_any y1) ?_
    rintro e y2 ⟨m5, rfl⟩
    replace mf := Lib.hid (mf.out.trans m5)
    clear m5
    refine ⟨_, rfl, ?_⟩
    simp only [Act.put, List.setIfInBounds_toArray, List.set_cons_zero, List.set_cons_succ]
    refine wpList_reads (by kernel_rfl) (.bool true) (by go_simp) ?_
    simp only [Act.put, List.setIfInBounds_toArray, List.set_cons_zero, List.set_cons_succ]
    refine wpList_reads (by kernel_rfl) (.bool true) (by go_simp) ?_
    simp only [Act.put, List.setIfInBounds_toArray, List.set_cons_zero, List.set_cons_succ]
    go_wp2
    go_ret
    exact ⟨mf.out, rfl⟩
end Go.Proofs.YtppjnkgmbmhlcaaGreatDoor
