/-
  mailcoachlaw12.Known, lives. Printed by gen/kn6.py.
-/
import Derived.Test.YtppjnkgmbmhlcaaGreatDoorN5
namespace Go.Proofs.YtppjnkgmbmhlcaaGreatDoor
set_option maxRecDepth 100000
open Go Go.RowKit Go.Lib
set_option linter.unusedSimpArgs false
set_option linter.unusedVariables false

set_option maxRecDepth 100000 in
theorem known_any (w : World) : Calls Tryz.prog 65 #[] w fun e w' => Mod (fun _ => False) w w' ∧ ∃ v, e = .returned v ∧ w'.ownsRow w.heap.size 5 1 v 32 (bytesV knownL) := by
  go_enter Tryz.func65, Tryz.ntmps65
  go_upto_region 1 with (fail)
  refine wp_region_lit ?_
  refine wpList_enter (by kernel_rfl) 66 #[.string knownT] (by unfold knownT; go_simp) (unhex_any knownT 32 known_size (by omega) w) ?_
  rintro e w1 ⟨m1, v1, rfl, own1⟩
  rw [known_hex] at own1
  replace own1 := Lib.hid own1
  replace m1 := Lib.hid m1
  refine ⟨_, rfl, ?_⟩
  simp only [Act.put, List.setIfInBounds_toArray, List.set_cons_zero, List.set_cons_succ]
  refine wpList_reads (by kernel_rfl) (v1) (by go_simp) ?_
  simp only [Act.put, List.setIfInBounds_toArray, List.set_cons_zero, List.set_cons_succ]
  go_wp2
  go_ret
  exact ⟨m1.out, _, rfl, own1.out⟩

set_option maxRecDepth 100000 in
set_option maxHeartbeats 4000000 in
theorem lives_any (w : World) : Calls Tryz.prog 15 #[] w fun e w' => Mod (fun _ => False) w w' ∧ e = .returned (.bool true) := by
  go_enter Tryz.func15, Tryz.ntmps15
  go_upto_region 1 with (fail)
  refine wp_region_lit ?_
  refine wpList_enter (by kernel_rfl) 65 #[] (by go_simp) (known_any w) ?_
  rintro e w1 ⟨m1, v1, rfl, own1⟩
  have b1 := byteAt_of_own own1
  refine ⟨_, rfl, ?_⟩
  simp only [Act.put, List.setIfInBounds_toArray, List.set_cons_zero, List.set_cons_succ]
  refine wpList_enter (by kernel_rfl) 16 #[v1] (by go_simp) (Of_any v1 knownL w1 b1 (by decide)) ?_
  rintro e w2 ⟨m2, h2⟩
  rw [if_pos (show knownL.length = 32 from rfl)] at h2
  obtain ⟨vs, hvs, rfl⟩ := h2
  have m02 := m1.trans m2
  have o0 := hvs.own 0 (by omega)
  have o1 := hvs.own 1 (by omega)
  have o2 := hvs.own 2 (by omega)
  obtain ⟨p0, hp0⟩ : ∃ p, p = vs 0 := ⟨_, rfl⟩
  obtain ⟨p1, hp1⟩ : ∃ p, p = vs 1 := ⟨_, rfl⟩
  obtain ⟨p2, hp2⟩ : ∃ p, p = vs 2 := ⟨_, rfl⟩
  have q0 := own_one o0
  have q1 := own_one o1
  have q2 := own_one o2
  have b0 := byteAt_of_own o0
  have b1' := byteAt_of_own o1
  have b2 := byteAt_of_own o2
  rw [label_key] at b0
  rw [label_iv] at b1'
  rw [label_hp] at b2
  rw [← hp0] at b0 q0 ⊢
  rw [← hp1] at b1' q1 ⊢
  rw [← hp2] at b2 q2 ⊢
  clear o0 o1 o2 hvs hp0 hp1 hp2 own1 b1 m1 m2
  obtain ⟨a0, c0, hs0⟩ : ∃ a c, p0 = .slice a 32 c := by obtain ⟨a, c, h, _⟩ := b0.slice; exact ⟨a, c, h⟩
  obtain ⟨a1, c1, hs1⟩ : ∃ a c, p1 = .slice a 12 c := by obtain ⟨a, c, h, _⟩ := b1'.slice; exact ⟨a, c, h⟩
  obtain ⟨a2, c2, hs2⟩ : ∃ a c, p2 = .slice a 32 c := by obtain ⟨a, c, h, _⟩ := b2.slice; exact ⟨a, c, h⟩
  obtain ⟨wa, hwa⟩ : ∃ x, x = w2.alloc (.cells #[.slice none 0 0, .slice none 0 0, .slice none 0 0] 49) := ⟨_, rfl⟩
  obtain ⟨G, hG⟩ : ∃ g, g = w2.heap.size := ⟨_, rfl⟩
  have ma : Mod (fun _ => False) w2 wa := by rw [hwa]; exact (Mod.refl _ _).alloc _
  have xa : wa.heap[G]? = some (.cells #[.slice none 0 0, .slice none 0 0, .slice none 0 0] 49 (0,0)) := by rw [hwa]; exact hp_new _ _ _ hG
  obtain ⟨w3, s3, m3', x3⟩ := keys_store xa q0 q1 q2
  have m23 : Mod (fun _ => False) w2 w3 := ma.trans' m3' (fun x hx h => by omega)
  have m03 := m02.trans m23
  have d0 := b0.mod m23 (fun _ _ h => h)
  have d1 := b1'.mod m23 (fun _ _ h => h)
  have d2 := b2.mod m23 (fun _ _ h => h)
  replace hwa := Lib.hid hwa
  replace hG := Lib.hid hG
  replace m03 := Lib.hid m03
  clear ma xa m3' m23 m02 b0 b1' b2 q0 q1 q2
  refine ⟨_, rfl, ?_⟩
  simp only [Act.put, List.setIfInBounds_toArray, List.set_cons_zero, List.set_cons_succ]
  refine wpList_reads (by kernel_rfl) (.tuple #[.agg #[p0, p1, p2], .int .i64 0]) (by go_simp) ?_
  simp only [Act.put, List.setIfInBounds_toArray, List.set_cons_zero, List.set_cons_succ]
  refine wpList_reads (by kernel_rfl) (.agg #[p0, p1, p2]) (by go_simp) ?_
  simp only [Act.put, List.setIfInBounds_toArray, List.set_cons_zero, List.set_cons_succ]
  refine wpList_reads (by kernel_rfl) (.int .i64 0) (by go_simp) ?_
  simp only [Act.put, List.setIfInBounds_toArray, List.set_cons_zero, List.set_cons_succ]
  refine wpList_yields (by kernel_rfl) (.pointer (some ⟨G, 0, none⟩)) wa (by rw [hwa.out, hG.out]; exact alloc_keys _ _ _ rfl) ?_
  simp only [Act.put, List.setIfInBounds_toArray, List.set_cons_zero, List.set_cons_succ]
  refine wpList_store_to rfl _ _ _ rfl _ _ _ rfl rfl _ s3 ?_
  simp only [Act.put, List.setIfInBounds_toArray, List.set_cons_zero, List.set_cons_succ]
  refine wpList_reads (by kernel_rfl) (.int .i64 0) (by go_simp) ?_
  simp only [Act.put, List.setIfInBounds_toArray, List.set_cons_zero, List.set_cons_succ]
  clear s3
  have cell : ∀ w', Mod (fun _ => False) w3 w' → w'.cell? ⟨G, 0, none⟩ = some p0 ∧ w'.cell? ⟨G, 1, none⟩ = some p1 ∧ w'.cell? ⟨G, 2, none⟩ = some p2 := by
    intro w' m
    have x := m.heap x3 (fun h => h)
    exact ⟨by rw [cell_of_row _ _ _ _ _ _ x]; rfl, by rw [cell_of_row _ _ _ _ _ _ x]; rfl, by rw [cell_of_row _ _ _ _ _ _ x]; rfl⟩
  have ld0 : ∀ w', Mod (fun _ => False) w3 w' → (loadVar 22 ⟨G, 0, none⟩).run Tryz.prog w' = .ok p0 w' := by
    intro w' m
    have c := (cell w' m).1
    rw [hs0] at c ⊢
    go_simp
  have ld1 : ∀ w', Mod (fun _ => False) w3 w' → (loadVar 22 ⟨G, 1, none⟩).run Tryz.prog w' = .ok p1 w' := by
    intro w' m
    have c := (cell w' m).2.1
    rw [hs1] at c ⊢
    go_simp
  have ld2 : ∀ w', Mod (fun _ => False) w3 w' → (loadVar 22 ⟨G, 2, none⟩).run Tryz.prog w' = .ok p2 w' := by
    intro w' m
    have c := (cell w' m).2.2
    rw [hs2] at c ⊢
    go_simp
  replace cell := Lib.hid cell
  replace hs0 := Lib.hid hs0
  replace hs1 := Lib.hid hs1
  replace hs2 := Lib.hid hs2
  go_upto_region 2 with (fail)
  refine wp_region_lit ?_
  refine wpList_reads (by kernel_rfl) (.pointer (some ⟨G, 1, none⟩)) (by go_simp) ?_
  simp only [Act.put, List.setIfInBounds_toArray, List.set_cons_zero, List.set_cons_succ]
  refine wpList_reads (by kernel_rfl) (p1) (run_load_op rfl rfl (ld1 _ (Mod.refl _ _))) ?_
  simp only [Act.put, List.setIfInBounds_toArray, List.set_cons_zero, List.set_cons_succ]
  have hN := Nonce_any p1 ivL 654360564 (by omega) w3 d1 (by decide)
  rw [show ((654360564 : Nat) : Int) = 654360564 from rfl] at hN
  refine wpList_enter (by kernel_rfl) 7 #[p1, .int .u64 654360564] (by go_simp) (hN) ?_
  rintro e w4 ⟨m4, h4⟩
  rw [if_pos (show ivL.length = 12 ∧ 654360564 ≤ 4611686018427387903 from ⟨rfl, by omega⟩)] at h4
  obtain ⟨v4, own4, rfl⟩ := h4
  have b4 := clip_byteAt own4
  rw [nonce_known] at b4
  replace m4 := Lib.hid m4
  clear own4 hN
  refine ⟨_, rfl, ?_⟩
  simp only [Act.put, List.setIfInBounds_toArray, List.set_cons_zero, List.set_cons_succ]
  refine wpList_reads (by kernel_rfl) (.tuple #[v4, .int .i64 0]) (by go_simp) ?_
  simp only [Act.put, List.setIfInBounds_toArray, List.set_cons_zero, List.set_cons_succ]
  refine wpList_reads (by kernel_rfl) (v4) (by go_simp) ?_
  simp only [Act.put, List.setIfInBounds_toArray, List.set_cons_zero, List.set_cons_succ]
  refine wpList_reads (by kernel_rfl) (.int .i64 0) (by go_simp) ?_
  simp only [Act.put, List.setIfInBounds_toArray, List.set_cons_zero, List.set_cons_succ]
  refine wpList_reads (by kernel_rfl) (v4) (by go_simp) ?_
  simp only [Act.put, List.setIfInBounds_toArray, List.set_cons_zero, List.set_cons_succ]
  refine wpList_reads (by kernel_rfl) (.int .i64 0) (by go_simp) ?_
  simp only [Act.put, List.setIfInBounds_toArray, List.set_cons_zero, List.set_cons_succ]
  go_upto_region 3 with (fail)
  refine wp_region_any (by kernel_rfl) (any_of_Z (S := fun w' => Mod (fun _ => False) w3 w') (z := 99) _ _ _ _ ?_)
  change anyZ _ _ _ _ _ _ _ _ _ w4.drew
  have m5 : Mod (fun _ => False) w3 w4.drew := m4.out.drew
  have b5 := b4.mod ((Mod.refl (fun _ => False) w4).drew) (fun _ _ h => h)
  obtain ⟨w5, hw5⟩ : ∃ x, x = w4.drew := ⟨_, rfl⟩
  rw [← hw5] at m5 b5 ⊢
  replace hw5 := Lib.hid hw5
  clear b4
  simp only [List.size_toArray, List.length_cons, List.length_nil, Nat.reduceAdd, Array.replicate_succ, Array.replicate_zero, List.push_toArray, List.nil_append, List.cons_append]
  refine anyZ_take 0 _ (some 19) (.pointer (some ⟨G, 2, none⟩)) rfl (by kernel_rfl) (by kernel_rfl) (by kernel_rfl) (by kernel_rfl) (by kernel_rfl) (by decide) rfl (fun w' hS => ?_) m5 ?_
  · go_simp
  simp only [Act.put, List.setIfInBounds_toArray, List.set_cons_zero, List.set_cons_succ]
  refine anyZ_take 1 _ (some 20) (p2) rfl (by kernel_rfl) (by kernel_rfl) (by kernel_rfl) (by kernel_rfl) (by kernel_rfl) (by decide) rfl (fun w' hS => ?_) m5 ?_
  · exact run_load_op rfl rfl (ld2 _ hS)
  simp only [Act.put, List.setIfInBounds_toArray, List.set_cons_zero, List.set_cons_succ]
  refine anyZ_call 2 _ (some 21) rfl (by kernel_rfl) (by kernel_rfl) rfl 66 #[.string smpT] (by unfold smpT; go_simp) ?_
  refine (unhex_any smpT 16 smp_size (by omega) w5).mono ?_
  rintro e w6 ⟨mw6, vw6, rfl, ow6⟩
  rw [smp_hex] at ow6
  have yw6 := byteAt_of_own ow6
  have nw6 := m5.trans mw6
  refine ⟨_, rfl, fun _ => nw6, ?_⟩
  simp only [Act.put, List.setIfInBounds_toArray, List.set_cons_zero, List.set_cons_succ]
  have d26 := d2.mod nw6 (fun _ _ h => h)
  refine anyZ_call 3 _ (some 22) rfl (by kernel_rfl) (by kernel_rfl) rfl 8 #[p2, vw6] (by go_simp) ?_
  refine (Mask_any p2 vw6 hpL smpL w6 d26 yw6 (by decide) (by decide)).mono ?_
  rintro e w7 ⟨m7, h7⟩
  rw [if_pos (show hpL.length = 32 ∧ smpL.length = 16 from ⟨rfl, rfl⟩)] at h7
  obtain ⟨v7, own7, rfl⟩ := h7
  have b7 := clip_byteAt own7
  rw [mask_known] at b7
  have n7 := nw6.trans m7
  have b57 := (b5.mod mw6 (fun _ _ h => h)).mod m7 (fun _ _ h => h)
  refine ⟨_, rfl, fun _ => n7, ?_⟩
  simp only [Act.put, List.setIfInBounds_toArray, List.set_cons_zero, List.set_cons_succ]
  refine anyZ_take 4 _ (some 18) (.tuple #[v7, .int .i64 0]) rfl (by kernel_rfl) (by kernel_rfl) (by kernel_rfl) (by kernel_rfl) (by kernel_rfl) (by decide) rfl (fun w' hS => ?_) n7 ?_
  · go_simp
  simp only [Act.put, List.setIfInBounds_toArray, List.set_cons_zero, List.set_cons_succ]
  refine anyZ_take 5 _ (some 23) (v7) rfl (by kernel_rfl) (by kernel_rfl) (by kernel_rfl) (by kernel_rfl) (by kernel_rfl) (by decide) rfl (fun w' hS => ?_) n7 ?_
  · go_simp
  simp only [Act.put, List.setIfInBounds_toArray, List.set_cons_zero, List.set_cons_succ]
  refine anyZ_take 6 _ (some 24) (.int .i64 0) rfl (by kernel_rfl) (by kernel_rfl) (by kernel_rfl) (by kernel_rfl) (by kernel_rfl) (by decide) rfl (fun w' hS => ?_) n7 ?_
  · go_simp
  simp only [Act.put, List.setIfInBounds_toArray, List.set_cons_zero, List.set_cons_succ]
  refine anyZ_take 7 _ (some 5) (v7) rfl (by kernel_rfl) (by kernel_rfl) (by kernel_rfl) (by kernel_rfl) (by kernel_rfl) (by decide) rfl (fun w' hS => ?_) n7 ?_
  · go_simp
  simp only [Act.put, List.setIfInBounds_toArray, List.set_cons_zero, List.set_cons_succ]
  refine anyZ_take 8 _ (some 6) (.int .i64 0) rfl (by kernel_rfl) (by kernel_rfl) (by kernel_rfl) (by kernel_rfl) (by kernel_rfl) (by decide) rfl (fun w' hS => ?_) n7 ?_
  · go_simp
  simp only [Act.put, List.setIfInBounds_toArray, List.set_cons_zero, List.set_cons_succ]
  refine anyZ_done (by kernel_rfl) ?_ _
  clear own7 yw6 ow6 mw6 m7 d26 nw6 m5 b5
  go_upto_region 4 with (fail)
  refine wp_region_any (by kernel_rfl) (any_of_Z (S := fun w' => Mod (fun _ => False) w3 w') (z := 99) _ _ _ _ ?_)
  change anyZ _ _ _ _ _ _ _ _ _ w7.drew
  have n8 : Mod (fun _ => False) w3 w7.drew := n7.drew
  have b48 := b57.mod ((Mod.refl (fun _ => False) w7).drew) (fun _ _ h => h)
  have b78 := b7.mod ((Mod.refl (fun _ => False) w7).drew) (fun _ _ h => h)
  obtain ⟨w8, hw8⟩ : ∃ x, x = w7.drew := ⟨_, rfl⟩
  rw [← hw8] at n8 b48 b78 ⊢
  replace hw8 := Lib.hid hw8
  clear b7 b57 n7
  simp only [List.size_toArray, List.length_cons, List.length_nil, Nat.reduceAdd, Array.replicate_succ, Array.replicate_zero, List.push_toArray, List.nil_append, List.cons_append]
  refine anyZ_take 0 _ (some 25) (.int .i64 0) rfl (by kernel_rfl) (by kernel_rfl) (by kernel_rfl) (by kernel_rfl) (by kernel_rfl) (by decide) rfl (fun w' hS => ?_) n8 ?_
  · go_simp
  simp only [Act.put, List.setIfInBounds_toArray, List.set_cons_zero, List.set_cons_succ]
  refine anyZ_take 1 _ (some 26) (.bool true) rfl (by kernel_rfl) (by kernel_rfl) (by kernel_rfl) (by kernel_rfl) (by kernel_rfl) (by decide) rfl (fun w' hS => ?_) n8 ?_
  · go_simp
  simp only [Act.put, List.setIfInBounds_toArray, List.set_cons_zero, List.set_cons_succ]
  refine anyZ_take 2 _ (some 27) (.bool true) rfl (by kernel_rfl) (by kernel_rfl) (by kernel_rfl) (by kernel_rfl) (by kernel_rfl) (by decide) rfl (fun w' hS => ?_) n8 ?_
  · go_simp
  simp only [Act.put, List.setIfInBounds_toArray, List.set_cons_zero, List.set_cons_succ]
  refine anyZ_take 3 _ (some 28) (.int .i64 0) rfl (by kernel_rfl) (by kernel_rfl) (by kernel_rfl) (by kernel_rfl) (by kernel_rfl) (by decide) rfl (fun w' hS => ?_) n8 ?_
  · go_simp
  simp only [Act.put, List.setIfInBounds_toArray, List.set_cons_zero, List.set_cons_succ]
  refine anyZ_take 4 _ (some 29) (.bool true) rfl (by kernel_rfl) (by kernel_rfl) (by kernel_rfl) (by kernel_rfl) (by kernel_rfl) (by decide) rfl (fun w' hS => ?_) n8 ?_
  · go_simp
  simp only [Act.put, List.setIfInBounds_toArray, List.set_cons_zero, List.set_cons_succ]
  refine anyZ_take 5 _ (some 30) (.bool true) rfl (by kernel_rfl) (by kernel_rfl) (by kernel_rfl) (by kernel_rfl) (by kernel_rfl) (by decide) rfl (fun w' hS => ?_) n8 ?_
  · go_simp
  simp only [Act.put, List.setIfInBounds_toArray, List.set_cons_zero, List.set_cons_succ]
  refine anyZ_take 6 _ (some 31) (.bool true) rfl (by kernel_rfl) (by kernel_rfl) (by kernel_rfl) (by kernel_rfl) (by kernel_rfl) (by decide) rfl (fun w' hS => ?_) n8 ?_
  · go_simp
  simp only [Act.put, List.setIfInBounds_toArray, List.set_cons_zero, List.set_cons_succ]
  refine anyZ_take 7 _ (some 32) (.int .i64 0) rfl (by kernel_rfl) (by kernel_rfl) (by kernel_rfl) (by kernel_rfl) (by kernel_rfl) (by decide) rfl (fun w' hS => ?_) n8 ?_
  · go_simp
  simp only [Act.put, List.setIfInBounds_toArray, List.set_cons_zero, List.set_cons_succ]
  refine anyZ_take 8 _ (some 33) (.bool true) rfl (by kernel_rfl) (by kernel_rfl) (by kernel_rfl) (by kernel_rfl) (by kernel_rfl) (by decide) rfl (fun w' hS => ?_) n8 ?_
  · go_simp
  simp only [Act.put, List.setIfInBounds_toArray, List.set_cons_zero, List.set_cons_succ]
  refine anyZ_take 9 _ (some 34) (.bool true) rfl (by kernel_rfl) (by kernel_rfl) (by kernel_rfl) (by kernel_rfl) (by kernel_rfl) (by decide) rfl (fun w' hS => ?_) n8 ?_
  · go_simp
  simp only [Act.put, List.setIfInBounds_toArray, List.set_cons_zero, List.set_cons_succ]
  refine anyZ_take 10 _ (some 35) (.bool true) rfl (by kernel_rfl) (by kernel_rfl) (by kernel_rfl) (by kernel_rfl) (by kernel_rfl) (by decide) rfl (fun w' hS => ?_) n8 ?_
  · go_simp
  simp only [Act.put, List.setIfInBounds_toArray, List.set_cons_zero, List.set_cons_succ]
  refine anyZ_take 11 _ (some 36) (.pointer (some ⟨G, 0, none⟩)) rfl (by kernel_rfl) (by kernel_rfl) (by kernel_rfl) (by kernel_rfl) (by kernel_rfl) (by decide) rfl (fun w' hS => ?_) n8 ?_
  · go_simp
  simp only [Act.put, List.setIfInBounds_toArray, List.set_cons_zero, List.set_cons_succ]
  refine anyZ_take 12 _ (some 37) (p0) rfl (by kernel_rfl) (by kernel_rfl) (by kernel_rfl) (by kernel_rfl) (by kernel_rfl) (by decide) rfl (fun w' hS => ?_) n8 ?_
  · exact run_load_op rfl rfl (ld0 _ hS)
  simp only [Act.put, List.setIfInBounds_toArray, List.set_cons_zero, List.set_cons_succ]
  refine anyZ_call 13 _ (some 38) rfl (by kernel_rfl) (by kernel_rfl) rfl 66 #[.string keyT] (by unfold keyT; go_simp) ?_
  refine (unhex_any keyT 32 key_size (by omega) w8).mono ?_
  rintro e wA ⟨mwA, vwA, rfl, owA⟩
  rw [key_hex] at owA
  have ywA := byteAt_of_own owA
  have nwA := n8.trans mwA
  refine ⟨_, rfl, fun _ => nwA, ?_⟩
  simp only [Act.put, List.setIfInBounds_toArray, List.set_cons_zero, List.set_cons_succ]
  have ewA := d0.mod nwA (fun _ _ h => h)
  refine anyZ_call 14 _ (some 39) rfl (by kernel_rfl) (by kernel_rfl) rfl 11 #[p0, vwA] (by go_simp) ?_
  refine (same_any p0 vwA keyL keyL wA ewA ywA (by decide) (by decide)).mono ?_
  rintro e wAs ⟨mwAs, rfl⟩
  rw [show decide (keyL = keyL) = true from decide_eq_true rfl]
  have nwAs := nwA.trans mwAs
  have b4wAs := ((b48).mod mwA (fun _ _ h => h)).mod mwAs (fun _ _ h => h)
  have b7wAs := ((b78).mod mwA (fun _ _ h => h)).mod mwAs (fun _ _ h => h)
  refine ⟨_, rfl, fun _ => nwAs, ?_⟩
  simp only [Act.put, List.setIfInBounds_toArray, List.set_cons_zero, List.set_cons_succ]
  refine anyZ_take 15 _ (some 40) (.bool true) rfl (by kernel_rfl) (by kernel_rfl) (by kernel_rfl) (by kernel_rfl) (by kernel_rfl) (by decide) rfl (fun w' hS => ?_) nwAs ?_
  · go_simp
  simp only [Act.put, List.setIfInBounds_toArray, List.set_cons_zero, List.set_cons_succ]
  refine anyZ_take 16 _ (some 41) (.bool true) rfl (by kernel_rfl) (by kernel_rfl) (by kernel_rfl) (by kernel_rfl) (by kernel_rfl) (by decide) rfl (fun w' hS => ?_) nwAs ?_
  · go_simp
  simp only [Act.put, List.setIfInBounds_toArray, List.set_cons_zero, List.set_cons_succ]
  refine anyZ_take 17 _ (some 42) (.pointer (some ⟨G, 1, none⟩)) rfl (by kernel_rfl) (by kernel_rfl) (by kernel_rfl) (by kernel_rfl) (by kernel_rfl) (by decide) rfl (fun w' hS => ?_) nwAs ?_
  · go_simp
  simp only [Act.put, List.setIfInBounds_toArray, List.set_cons_zero, List.set_cons_succ]
  refine anyZ_take 18 _ (some 43) (p1) rfl (by kernel_rfl) (by kernel_rfl) (by kernel_rfl) (by kernel_rfl) (by kernel_rfl) (by decide) rfl (fun w' hS => ?_) nwAs ?_
  · exact run_load_op rfl rfl (ld1 _ hS)
  simp only [Act.put, List.setIfInBounds_toArray, List.set_cons_zero, List.set_cons_succ]
  refine anyZ_call 19 _ (some 44) rfl (by kernel_rfl) (by kernel_rfl) rfl 66 #[.string ivT] (by unfold ivT; go_simp) ?_
  refine (unhex_any ivT 12 iv_size (by omega) wAs).mono ?_
  rintro e wB ⟨mwB, vwB, rfl, owB⟩
  rw [iv_hex] at owB
  have ywB := byteAt_of_own owB
  have nwB := nwAs.trans mwB
  refine ⟨_, rfl, fun _ => nwB, ?_⟩
  simp only [Act.put, List.setIfInBounds_toArray, List.set_cons_zero, List.set_cons_succ]
  have ewB := d1.mod nwB (fun _ _ h => h)
  refine anyZ_call 20 _ (some 45) rfl (by kernel_rfl) (by kernel_rfl) rfl 11 #[p1, vwB] (by go_simp) ?_
  refine (same_any p1 vwB ivL ivL wB ewB ywB (by decide) (by decide)).mono ?_
  rintro e wBs ⟨mwBs, rfl⟩
  rw [show decide (ivL = ivL) = true from decide_eq_true rfl]
  have nwBs := nwB.trans mwBs
  have b4wBs := ((b4wAs).mod mwB (fun _ _ h => h)).mod mwBs (fun _ _ h => h)
  have b7wBs := ((b7wAs).mod mwB (fun _ _ h => h)).mod mwBs (fun _ _ h => h)
  refine ⟨_, rfl, fun _ => nwBs, ?_⟩
  simp only [Act.put, List.setIfInBounds_toArray, List.set_cons_zero, List.set_cons_succ]
  refine anyZ_take 21 _ (some 46) (.bool true) rfl (by kernel_rfl) (by kernel_rfl) (by kernel_rfl) (by kernel_rfl) (by kernel_rfl) (by decide) rfl (fun w' hS => ?_) nwBs ?_
  · go_simp
  simp only [Act.put, List.setIfInBounds_toArray, List.set_cons_zero, List.set_cons_succ]
  refine anyZ_take 22 _ (some 47) (.bool true) rfl (by kernel_rfl) (by kernel_rfl) (by kernel_rfl) (by kernel_rfl) (by kernel_rfl) (by decide) rfl (fun w' hS => ?_) nwBs ?_
  · go_simp
  simp only [Act.put, List.setIfInBounds_toArray, List.set_cons_zero, List.set_cons_succ]
  refine anyZ_take 23 _ (some 48) (v4) rfl (by kernel_rfl) (by kernel_rfl) (by kernel_rfl) (by kernel_rfl) (by kernel_rfl) (by decide) rfl (fun w' hS => ?_) nwBs ?_
  · go_simp
  simp only [Act.put, List.setIfInBounds_toArray, List.set_cons_zero, List.set_cons_succ]
  refine anyZ_call 24 _ (some 49) rfl (by kernel_rfl) (by kernel_rfl) rfl 66 #[.string nonT] (by unfold nonT; go_simp) ?_
  refine (unhex_any nonT 12 non_size (by omega) wBs).mono ?_
  rintro e wC ⟨mwC, vwC, rfl, owC⟩
  rw [non_hex] at owC
  have ywC := byteAt_of_own owC
  have nwC := nwBs.trans mwC
  refine ⟨_, rfl, fun _ => nwC, ?_⟩
  simp only [Act.put, List.setIfInBounds_toArray, List.set_cons_zero, List.set_cons_succ]
  have ewC := (b4wBs).mod mwC (fun _ _ h => h)
  refine anyZ_call 25 _ (some 50) rfl (by kernel_rfl) (by kernel_rfl) rfl 11 #[v4, vwC] (by go_simp) ?_
  refine (same_any v4 vwC nonL nonL wC ewC ywC (by decide) (by decide)).mono ?_
  rintro e wCs ⟨mwCs, rfl⟩
  rw [show decide (nonL = nonL) = true from decide_eq_true rfl]
  have nwCs := nwC.trans mwCs
  have b4wCs := ((b4wBs).mod mwC (fun _ _ h => h)).mod mwCs (fun _ _ h => h)
  have b7wCs := ((b7wBs).mod mwC (fun _ _ h => h)).mod mwCs (fun _ _ h => h)
  refine ⟨_, rfl, fun _ => nwCs, ?_⟩
  simp only [Act.put, List.setIfInBounds_toArray, List.set_cons_zero, List.set_cons_succ]
  refine anyZ_take 26 _ (some 51) (.bool true) rfl (by kernel_rfl) (by kernel_rfl) (by kernel_rfl) (by kernel_rfl) (by kernel_rfl) (by decide) rfl (fun w' hS => ?_) nwCs ?_
  · go_simp
  simp only [Act.put, List.setIfInBounds_toArray, List.set_cons_zero, List.set_cons_succ]
  refine anyZ_take 27 _ (some 52) (.bool true) rfl (by kernel_rfl) (by kernel_rfl) (by kernel_rfl) (by kernel_rfl) (by kernel_rfl) (by decide) rfl (fun w' hS => ?_) nwCs ?_
  · go_simp
  simp only [Act.put, List.setIfInBounds_toArray, List.set_cons_zero, List.set_cons_succ]
  refine anyZ_take 28 _ (some 53) (v7) rfl (by kernel_rfl) (by kernel_rfl) (by kernel_rfl) (by kernel_rfl) (by kernel_rfl) (by decide) rfl (fun w' hS => ?_) nwCs ?_
  · go_simp
  simp only [Act.put, List.setIfInBounds_toArray, List.set_cons_zero, List.set_cons_succ]
  refine anyZ_call 29 _ (some 54) rfl (by kernel_rfl) (by kernel_rfl) rfl 66 #[.string mskT] (by unfold mskT; go_simp) ?_
  refine (unhex_any mskT 5 msk_size (by omega) wCs).mono ?_
  rintro e wD ⟨mwD, vwD, rfl, owD⟩
  rw [msk_hex] at owD
  have ywD := byteAt_of_own owD
  have nwD := nwCs.trans mwD
  refine ⟨_, rfl, fun _ => nwD, ?_⟩
  simp only [Act.put, List.setIfInBounds_toArray, List.set_cons_zero, List.set_cons_succ]
  have ewD := (b7wCs).mod mwD (fun _ _ h => h)
  refine anyZ_call 30 _ (some 55) rfl (by kernel_rfl) (by kernel_rfl) rfl 11 #[v7, vwD] (by go_simp) ?_
  refine (same_any v7 vwD mskL mskL wD ewD ywD (by decide) (by decide)).mono ?_
  rintro e wDs ⟨mwDs, rfl⟩
  rw [show decide (mskL = mskL) = true from decide_eq_true rfl]
  have nwDs := nwD.trans mwDs
  have b4wDs := ((b4wCs).mod mwD (fun _ _ h => h)).mod mwDs (fun _ _ h => h)
  have b7wDs := ((b7wCs).mod mwD (fun _ _ h => h)).mod mwDs (fun _ _ h => h)
  refine ⟨_, rfl, fun _ => nwDs, ?_⟩
  simp only [Act.put, List.setIfInBounds_toArray, List.set_cons_zero, List.set_cons_succ]
  refine anyZ_take 31 _ (some 56) (.bool true) rfl (by kernel_rfl) (by kernel_rfl) (by kernel_rfl) (by kernel_rfl) (by kernel_rfl) (by decide) rfl (fun w' hS => ?_) nwDs ?_
  · go_simp
  simp only [Act.put, List.setIfInBounds_toArray, List.set_cons_zero, List.set_cons_succ]
  refine anyZ_take 32 _ (some 0) (.bool true) rfl (by kernel_rfl) (by kernel_rfl) (by kernel_rfl) (by kernel_rfl) (by kernel_rfl) (by decide) rfl (fun w' hS => ?_) nwDs ?_
  · go_simp
  simp only [Act.put, List.setIfInBounds_toArray, List.set_cons_zero, List.set_cons_succ]
  refine anyZ_done (by kernel_rfl) ?_ _
  have mf := m03.out.trans nwDs
  replace mf := Lib.hid mf
  go_wp2
  go_ret
  exact ⟨mf.out, rfl⟩
end Go.Proofs.YtppjnkgmbmhlcaaGreatDoor
