/-
  mailcoachref03.mac, Mac: the MAC, by definition. Printed by gen/ref6.py.
-/
import Derived.Test.YtppjnkgmbmhlcaaGreatDoorR5
import Derived.Test.YtppjnkgmbmhlcaaGreatDoorK0
namespace Go.Proofs.YtppjnkgmbmhlcaaGreatDoor
set_option maxRecDepth 100000
open Go Go.RowKit Go.Lib
set_option linter.unusedSimpArgs false
set_option linter.unusedVariables false

set_option maxRecDepth 100000 in
set_option maxHeartbeats 4000000 in
theorem refmac_any (vk vb : Value) (k b : List (BitVec 8)) (w : World) (hk : ByteAt w vk k) (hb : ByteAt w vb b) (hkl : k.length ≤ 1048576) (hbl : b.length ≤ 1048512) :
    Calls Tryz.prog 121 #[vk, vb] w fun e w' => Mod (fun _ => False) w w' ∧ e = .returned (.agg (encB (macS (keyS k) b))) := by
  obtain ⟨ak, ck, rfl, _⟩ := hk.slice
  obtain ⟨ab, cb, rfl, _⟩ := hb.slice
  obtain ⟨m, hm⟩ : ∃ m, m = k.length := ⟨_, rfl⟩
  obtain ⟨n, hn⟩ : ∃ n, n = b.length := ⟨_, rfl⟩
  obtain ⟨w1, hw1⟩ : ∃ w1, w1 = w.alloc (.cells (encB (zb 32)) 62) := ⟨_, rfl⟩
  obtain ⟨G, hG⟩ : ∃ G, G = w.heap.size := ⟨_, rfl⟩
  have m1 : Mod (fun _ => False) w w1 := by rw [hw1]; exact (Mod.refl _ _).alloc _
  have x1 : w1.heap[G]? = some (.cells (encB (zb 32)) 62 (0,0)) := by rw [hw1]; exact hp_new _ _ _ hG
  have hk1 := hk.mod m1 (fun _ _ h => h)
  have hb1 := hb.mod m1 (fun _ _ h => h)
  rw [← hm] at hk1 hkl ⊢
  rw [← hn] at hb1 hbl ⊢
  have bm0 : (0 : Int) ≤ (m : Int) := by omega
  have bn0 : (0 : Int) ≤ (n : Int) := by omega
  have hk' : k.length ≤ 1048576 := by rw [← hm]; exact hkl
  replace hk' := Lib.hid hk'
  replace hw1 := Lib.hid hw1
  replace hG := Lib.hid hG
  replace hk1 := Lib.hid hk1
  replace hb1 := Lib.hid hb1
  replace m1 := Lib.hid m1
  replace x1 := Lib.hid x1
  replace hm := Lib.hid hm
  replace hn := Lib.hid hn
  clear hk hb
  go_enter Tryz.func121, Tryz.ntmps121
  go_upto_region 0 with (fail)
  refine wp_region_lit ?_
  refine wpList_yields (by kernel_rfl) _ _ (alloc_arr 62 _ zero32 _ _ _ rfl) ?_
  simp only [Act.put, List.setIfInBounds_toArray, List.set_cons_zero, List.set_cons_succ]
  rw [← hG.out, ← hw1.out]
  go_upto_region 1 with (fail)
  refine wp_region_lit ?_
  refine wpList_reads (by kernel_rfl) (.slice ak m ck) (by go_simp) ?_
  simp only [Act.put, List.setIfInBounds_toArray, List.set_cons_zero, List.set_cons_succ]
  refine wpList_enter (by kernel_rfl) 135 #[.slice ak m ck, .int .u8 54] (by go_simp) (refpad_any _ k 54 w1 hk1.out hk'.out) ?_
  rintro e w2 ⟨m2, v2, rfl, own2⟩
  have hk2 := hk1.out.mod m2 (fun _ _ h => h)
  have hb2 := hb1.out.mod m2 (fun _ _ h => h)
  obtain ⟨K, hK⟩ : ∃ K, K = keyS k := ⟨_, rfl⟩
  have hKl : K.length = 64 := by rw [hK]; exact keyS_length _
  rw [← hK] at own2
  refine ⟨_, rfl, ?_⟩
  simp only [Act.put, List.setIfInBounds_toArray, List.set_cons_zero, List.set_cons_succ]
  refine wpList_reads (by kernel_rfl) (.slice ab n cb) (by go_simp) ?_
  simp only [Act.put, List.setIfInBounds_toArray, List.set_cons_zero, List.set_cons_succ]
  refine wpList_append_bytes rfl _ _ rfl w1.heap.size 64 v2 (.slice ab n cb) (xorAll K 54) b rfl rfl own2 hb2 (by rw [← hn.out]; omega) m2.size ?_
  intro v3 w3 own3 grow3
  have m3 : Mod (fun k => w1.heap.size ≤ k) w2 w3 := (Mod.refl _ _).grown grow3 (fun k hk _ => (own2.lt k hk).1)
  have m13 : Mod (fun _ => False) w1 w3 := m2.trans' m3 (fun k hk h => by omega)
  have b3 := byteAt_of_own own3
  have hxl : (xorAll K 54 ++ b).length = 64 + n := by rw [List.length_append, xorAll, List.length_map, hKl, hn.out]
  have hk3 := hk1.out.mod m13 (fun _ _ h => h)
  simp only [Act.put, List.setIfInBounds_toArray, List.set_cons_zero, List.set_cons_succ]
  refine wpList_enter (by kernel_rfl) 72 #[v3] (by go_simp) (refSum_any _ (xorAll K 54 ++ b) w3 b3 (by rw [hxl]; omega)) ?_
  rintro e w4 ⟨m4, rfl⟩
  rw [show sumV (xorAll K 54 ++ b) = .tuple #[.agg (encB (shaS (xorAll K 54 ++ b))), .int .i64 0] by unfold sumV; rw [if_neg (by rw [hxl]; omega)]]
  obtain ⟨RR, hR⟩ : ∃ R, R = shaS (xorAll K 54 ++ b) := ⟨_, rfl⟩
  have hRl : RR.length = 32 := by rw [hR]; exact shaS_length _
  rw [← hR]
  obtain ⟨w5, hw5⟩ : ∃ x, x = w4.alloc (.cells (encB (zb 32)) 62) := ⟨_, rfl⟩
  obtain ⟨g5, hg5⟩ : ∃ g, g = w4.heap.size := ⟨_, rfl⟩
  have m5 : Mod (fun _ => False) w4 w5 := by rw [hw5]; exact (Mod.refl _ _).alloc _
  have x5 : w5.heap[g5]? = some (.cells (encB (zb 32)) 62 (0,0)) := by rw [hw5]; exact hp_new _ _ _ hg5
  obtain ⟨w6, s6, n6, x6⟩ := bytes_store x5 (s' := RR) (by decide) hRl
  have m36 : Mod (fun _ => False) w3 w6 := (m4.trans m5).trans' n6 (fun k hk h => by have := m4.size; omega)
  have m16 := m13.trans m36
  have m06 := m1.out.trans m16
  have hk6 := hk3.mod m36 (fun _ _ h => h)
  have xG6 := m16.heap x1.out (fun h => h)
  replace x6 := Lib.hid x6
  replace xG6 := Lib.hid xG6
  replace hR := Lib.hid hR
  replace hK := Lib.hid hK
  replace hg5 := Lib.hid hg5
  replace hw5 := Lib.hid hw5
  replace hk6 := Lib.hid hk6
  replace m06 := Lib.hid m06
  clear m2 own2 hk2 hb2 own3 grow3 m3 m13 b3 hxl hk3 m4 m5 x5 n6 m36 m16
  refine ⟨_, rfl, ?_⟩
  simp only [Act.put, List.setIfInBounds_toArray, List.set_cons_zero, List.set_cons_succ]
  refine wpList_reads (by kernel_rfl) (.tuple #[.agg (encB RR), .int .i64 0]) (by go_simp) ?_
  simp only [Act.put, List.setIfInBounds_toArray, List.set_cons_zero, List.set_cons_succ]
  refine wpList_reads (by kernel_rfl) (.agg (encB RR)) (by go_simp) ?_
  simp only [Act.put, List.setIfInBounds_toArray, List.set_cons_zero, List.set_cons_succ]
  refine wpList_reads (by kernel_rfl) (.int .i64 0) (by go_simp) ?_
  simp only [Act.put, List.setIfInBounds_toArray, List.set_cons_zero, List.set_cons_succ]
  refine wpList_yields (by kernel_rfl) _ _ (alloc_arr 62 _ zero32 _ _ _ rfl) ?_
  simp only [Act.put, List.setIfInBounds_toArray, List.set_cons_zero, List.set_cons_succ]
  rw [← hg5.out, ← hw5.out]
  refine wpList_store_to rfl _ _ _ rfl _ _ _ rfl rfl _ s6 ?_
  simp only [Act.put, List.setIfInBounds_toArray, List.set_cons_zero, List.set_cons_succ]
  refine wpList_reads (by kernel_rfl) (.int .i64 0) (by go_simp) ?_
  simp only [Act.put, List.setIfInBounds_toArray, List.set_cons_zero, List.set_cons_succ]
  go_upto_region 2 with (fail)
  obtain ⟨H, hH⟩ : ∃ H, H = shaS (xorAll K 92 ++ RR) := ⟨_, rfl⟩
  have hHl : H.length = 32 := by rw [hH]; exact shaS_length _
  have hxo : (xorAll K 92).length = 64 := by rw [xorAll, List.length_map, hKl]
  have hsH : sumV (xorAll K 92 ++ RR) = .tuple #[.agg (encB H), .int .i64 0] := by unfold sumV; rw [if_neg (by rw [List.length_append, hxo, hRl]; omega), hH]
  have hYl : (xorAll K 92 ++ RR).length = 96 := by rw [List.length_append, hxo, hRl]
  replace hH := Lib.hid hH
  replace hsH := Lib.hid hsH
  replace hYl := Lib.hid hYl
  refine Code.wp_mono (Q := fun e a w' => e = .normal ∧ ∃ v34 v36 g7, a = ({ tmps := #[.slice ak m ck, .slice ab n cb, undef, undef, .pointer (some ⟨G, 0, none⟩), .pointer (some ⟨g5, 0, none⟩), .int .i64 0, .pointer (some ⟨g7, 0, none⟩), .int .i64 0, .tuple #[.agg (encB RR), .int .i64 0], .slice ak m ck, v2, .slice ab n cb, v3, .tuple #[.agg (encB RR), .int .i64 0], .agg (encB RR), .int .i64 0, .tuple #[.agg (encB H), .int .i64 0], .slice ak m ck, v34, .slice (some ⟨g5, 0, none⟩) 32 32, v36, .tuple #[.agg (encB H), .int .i64 0], .agg (encB H), .int .i64 0, undef], defers := [] } : Act) ∧ Mod (fun _ => False) w6 w' ∧ w'.heap[g7]? = some (.cells (encB H) 62 (0,0))) ?_ ?_
  rotate_left
  · refine wp_region_any (by kernel_rfl) (any_of_Z (S := fun _ => True) (z := 99) _ _ _ _ ?_)
    simp only [List.size_toArray, List.length_cons, List.length_nil, Nat.reduceAdd, Array.replicate_succ, Array.replicate_zero, List.push_toArray, List.nil_append, List.cons_append]
    change anyZ _ _ _ _ _ _ _ _ _ w6.drew
    have md : Mod (fun _ => False) w6 w6.drew := (Mod.refl _ _).drew
    have bkd := hk6.out.mod md (fun _ _ h => h)
    have x5d := md.heap x6.out (fun h => h)
    obtain ⟨wd, hwd⟩ : ∃ x, x = w6.drew := ⟨_, rfl⟩
    rw [← hwd] at md bkd x5d ⊢
    clear hwd
    refine anyZ_take 0 _ (some 18) (.slice ak m ck) rfl (by kernel_rfl) (by kernel_rfl) (by kernel_rfl) (by kernel_rfl) (by kernel_rfl) (by decide) rfl (fun w' hS => ?_) trivial ?_
    · go_simp
    simp only [Act.put, List.setIfInBounds_toArray, List.set_cons_zero, List.set_cons_succ]
    refine anyZ_take 2 _ (some 20) (.slice (some ⟨g5, 0, none⟩) 32 32) rfl (by kernel_rfl) (by kernel_rfl) (by kernel_rfl) (by kernel_rfl) (by kernel_rfl) (by decide) rfl (fun w' hS => ?_) trivial ?_
    · go_simp
    simp only [Act.put, List.setIfInBounds_toArray, List.set_cons_zero, List.set_cons_succ]
    refine anyZ_fork 1 8 (by kernel_rfl) ?_ ?_
    · refine wpOp_enter _ (some 19) rfl (by kernel_rfl) rfl 135 #[.slice ak m ck, .int .u8 92] (by go_simp) ?_
      refine (refpad_any _ k 92 wd bkd hk'.out).mono ?_
      rintro e u1 ⟨lu1, vu1, rfl, pu1⟩
      rw [← hK.out] at pu1
      have bbu1 : w6.heap.size ≤ wd.heap.size := md.size
      have bsu1 : wd.heap.size ≤ u1.heap.size := lu1.size
      have mu1 := md.trans lu1
      have ku1 := bkd.mod lu1 (fun _ _ h => h)
      have ru1 := lu1.heap x5d (fun h => h)
      refine ⟨_, rfl, fun _ => trivial, ?_⟩
      simp only [Act.put, List.setIfInBounds_toArray, List.set_cons_zero, List.set_cons_succ]
      refine anyZ_fork 3 8 (by kernel_rfl) ?_ ?_
      · have bu2 := ByteAt.row ru1
        rw [hRl] at bu2
        obtain ⟨vu2, u2, hru2, pu2, gru2⟩ := run_append_bytes pu1 bu2 (by rw [hRl]; omega) (by have h1 := bsu1; omega) 22
        have qu2 : Mod (fun j => vu1.ownBlock = some j) u1 u2 := (Mod.refl _ _).grown gru2 (fun j hj _ => hj)
        have mu2 := mu1.trans' qu2 (fun j hj h => by have h1 := (pu1.lt j h).1; have h2 := bbu1; omega)
        refine wpOp_value _ (some 21) rfl (by kernel_rfl) rfl vu2 u2 (run_append_op rfl rfl rfl hru2) ⟨fun _ => trivial, ?_⟩
        simp only [Act.put, List.setIfInBounds_toArray, List.set_cons_zero, List.set_cons_succ]
        refine anyZ_fork 4 8 (by kernel_rfl) ?_ ?_
        · refine wpOp_enter _ (some 22) rfl (by kernel_rfl) rfl 72 #[vu2] (by go_simp) ?_
          refine (refSum_any _ (xorAll K 92 ++ RR) u2 (byteAt_of_own pu2) (by rw [hYl.out]; omega)).mono ?_
          rintro e u3 ⟨lu3, rfl⟩
          rw [hsH.out]
          have mu3 := mu2.trans lu3
          refine ⟨_, rfl, fun _ => trivial, ?_⟩
          simp only [Act.put, List.setIfInBounds_toArray, List.set_cons_zero, List.set_cons_succ]
          refine anyZ_take 5 _ (some 17) (.tuple #[.agg (encB H), .int .i64 0]) rfl (by kernel_rfl) (by kernel_rfl) (by kernel_rfl) (by kernel_rfl) (by kernel_rfl) (by decide) rfl (fun w' hS => ?_) trivial ?_
          · go_simp
          simp only [Act.put, List.setIfInBounds_toArray, List.set_cons_zero, List.set_cons_succ]
          refine anyZ_take 6 _ (some 23) (.agg (encB H)) rfl (by kernel_rfl) (by kernel_rfl) (by kernel_rfl) (by kernel_rfl) (by kernel_rfl) (by decide) rfl (fun w' hS => ?_) trivial ?_
          · go_simp
          simp only [Act.put, List.setIfInBounds_toArray, List.set_cons_zero, List.set_cons_succ]
          refine anyZ_take 7 _ (some 24) (.int .i64 0) rfl (by kernel_rfl) (by kernel_rfl) (by kernel_rfl) (by kernel_rfl) (by kernel_rfl) (by decide) rfl (fun w' hS => ?_) trivial ?_
          · go_simp
          simp only [Act.put, List.setIfInBounds_toArray, List.set_cons_zero, List.set_cons_succ]
          obtain ⟨u4, hu4⟩ : ∃ x, x = u3.alloc (.cells (encB (zb 32)) 62) := ⟨_, rfl⟩
          obtain ⟨gu4, hgu4⟩ : ∃ g, g = u3.heap.size := ⟨_, rfl⟩
          have lu4 : Mod (fun _ => False) u3 u4 := by rw [hu4]; exact (Mod.refl _ _).alloc _
          have xu4 : u4.heap[gu4]? = some (.cells (encB (zb 32)) 62 (0,0)) := by rw [hu4]; exact hp_new _ _ _ hgu4
          have gwu4 : w6.heap.size ≤ gu4 := by rw [hgu4]; exact mu3.size
          replace hu4 := Lib.hid hu4
          replace hgu4 := Lib.hid hgu4
          have mu4 := mu3.trans lu4
          refine anyZ_next 8 _ (some 7) rfl (by kernel_rfl) (by kernel_rfl) rfl (.pointer (some ⟨gu4, 0, none⟩)) u4 (by rw [hu4.out, hgu4.out]; exact alloc_arr 62 _ zero32 _ _ _ rfl) (fun _ => trivial) ?_
          simp only [Act.put, List.setIfInBounds_toArray, List.set_cons_zero, List.set_cons_succ]
          obtain ⟨u5, su5, nu5, yu5⟩ := bytes_store xu4 (s' := H) (by decide) hHl
          refine anyZ_skip 9 _ rfl (by kernel_rfl) (by kernel_rfl) rfl u5 (run_store_op rfl rfl rfl su5) (fun _ => trivial) ?_
          simp only [Act.put, List.setIfInBounds_toArray, List.set_cons_zero, List.set_cons_succ]
          refine anyZ_next 10 _ (some 8) rfl (by kernel_rfl) (by kernel_rfl) rfl (.int .i64 0) u5 (by go_simp) (fun _ => trivial) ?_
          simp only [Act.put, List.setIfInBounds_toArray, List.set_cons_zero, List.set_cons_succ]
          refine anyZ_done (by kernel_rfl) ?_ _
          exact ⟨rfl, _, _, gu4, rfl, mu4.trans' nu5 (fun k hk h => by have := gwu4; omega), yu5⟩
        · obtain ⟨u6, hu6⟩ : ∃ x, x = u2.alloc (.cells (encB (zb 32)) 62) := ⟨_, rfl⟩
          obtain ⟨gu6, hgu6⟩ : ∃ g, g = u2.heap.size := ⟨_, rfl⟩
          have lu6 : Mod (fun _ => False) u2 u6 := by rw [hu6]; exact (Mod.refl _ _).alloc _
          have xu6 : u6.heap[gu6]? = some (.cells (encB (zb 32)) 62 (0,0)) := by rw [hu6]; exact hp_new _ _ _ hgu6
          have gwu6 : w6.heap.size ≤ gu6 := by rw [hgu6]; exact mu2.size
          replace hu6 := Lib.hid hu6
          replace hgu6 := Lib.hid hgu6
          have neu6 : ∀ j, vu2.ownBlock = some j → j ≠ gu6 := fun j hj => by have h1 := (pu2.lt j hj).2; have h2 := hgu6.out; omega
          have mu6 := mu2.trans lu6
          have ou6 := ownsRow_kept pu2 lu6 (fun _ _ h => h)
          refine wpOp_value _ (some 7) rfl (by kernel_rfl) rfl (.pointer (some ⟨gu6, 0, none⟩)) u6 (by rw [hu6.out, hgu6.out]; exact alloc_arr 62 _ zero32 _ _ _ rfl) ⟨fun _ => trivial, ?_⟩
          simp only [Act.put, List.setIfInBounds_toArray, List.set_cons_zero, List.set_cons_succ]
          refine anyZ_call 4 _ (some 22) rfl (by kernel_rfl) (by kernel_rfl) rfl 72 #[vu2] (by go_simp) ?_
          refine (refSum_any _ (xorAll K 92 ++ RR) u6 (byteAt_of_own ou6) (by rw [hYl.out]; omega)).mono ?_
          rintro e u7 ⟨lu7, rfl⟩
          rw [hsH.out]
          have mu7 := mu6.trans lu7
          have au7 := lu7.heap xu6 (fun h => h)
          refine ⟨_, rfl, fun _ => trivial, ?_⟩
          simp only [Act.put, List.setIfInBounds_toArray, List.set_cons_zero, List.set_cons_succ]
          refine anyZ_take 5 _ (some 17) (.tuple #[.agg (encB H), .int .i64 0]) rfl (by kernel_rfl) (by kernel_rfl) (by kernel_rfl) (by kernel_rfl) (by kernel_rfl) (by decide) rfl (fun w' hS => ?_) trivial ?_
          · go_simp
          simp only [Act.put, List.setIfInBounds_toArray, List.set_cons_zero, List.set_cons_succ]
          refine anyZ_take 6 _ (some 23) (.agg (encB H)) rfl (by kernel_rfl) (by kernel_rfl) (by kernel_rfl) (by kernel_rfl) (by kernel_rfl) (by decide) rfl (fun w' hS => ?_) trivial ?_
          · go_simp
          simp only [Act.put, List.setIfInBounds_toArray, List.set_cons_zero, List.set_cons_succ]
          refine anyZ_take 7 _ (some 24) (.int .i64 0) rfl (by kernel_rfl) (by kernel_rfl) (by kernel_rfl) (by kernel_rfl) (by kernel_rfl) (by decide) rfl (fun w' hS => ?_) trivial ?_
          · go_simp
          simp only [Act.put, List.setIfInBounds_toArray, List.set_cons_zero, List.set_cons_succ]
          obtain ⟨u8, su8, nu8, yu8⟩ := bytes_store au7 (s' := H) (by decide) hHl
          refine anyZ_skip 9 _ rfl (by kernel_rfl) (by kernel_rfl) rfl u8 (run_store_op rfl rfl rfl su8) (fun _ => trivial) ?_
          simp only [Act.put, List.setIfInBounds_toArray, List.set_cons_zero, List.set_cons_succ]
          refine anyZ_next 10 _ (some 8) rfl (by kernel_rfl) (by kernel_rfl) rfl (.int .i64 0) u8 (by go_simp) (fun _ => trivial) ?_
          simp only [Act.put, List.setIfInBounds_toArray, List.set_cons_zero, List.set_cons_succ]
          refine anyZ_done (by kernel_rfl) ?_ _
          exact ⟨rfl, _, _, gu6, rfl, mu7.trans' nu8 (fun k hk h => by have := gwu6; omega), yu8⟩
      · obtain ⟨u9, hu9⟩ : ∃ x, x = u1.alloc (.cells (encB (zb 32)) 62) := ⟨_, rfl⟩
        obtain ⟨gu9, hgu9⟩ : ∃ g, g = u1.heap.size := ⟨_, rfl⟩
        have lu9 : Mod (fun _ => False) u1 u9 := by rw [hu9]; exact (Mod.refl _ _).alloc _
        have xu9 : u9.heap[gu9]? = some (.cells (encB (zb 32)) 62 (0,0)) := by rw [hu9]; exact hp_new _ _ _ hgu9
        have gwu9 : w6.heap.size ≤ gu9 := by rw [hgu9]; exact mu1.size
        replace hu9 := Lib.hid hu9
        replace hgu9 := Lib.hid hgu9
        have neu9 : ∀ j, vu1.ownBlock = some j → j ≠ gu9 := fun j hj => by have h1 := (pu1.lt j hj).2; have h2 := hgu9.out; omega
        have mu9 := mu1.trans lu9
        have ku9 := ku1.mod lu9 (fun _ _ h => h)
        have ru9 := lu9.heap ru1 (fun h => h)
        have ou9 := ownsRow_kept pu1 lu9 (fun _ _ h => h)
        refine wpOp_value _ (some 7) rfl (by kernel_rfl) rfl (.pointer (some ⟨gu9, 0, none⟩)) u9 (by rw [hu9.out, hgu9.out]; exact alloc_arr 62 _ zero32 _ _ _ rfl) ⟨fun _ => trivial, ?_⟩
        simp only [Act.put, List.setIfInBounds_toArray, List.set_cons_zero, List.set_cons_succ]
        have bu10 := ByteAt.row ru9
        rw [hRl] at bu10
        obtain ⟨vu10, u10, hru10, pu10, gru10⟩ := run_append_bytes ou9 bu10 (by rw [hRl]; omega) (by have h1 := bsu1; have h2 := lu9.size; omega) 22
        have qu10 : Mod (fun j => vu1.ownBlock = some j) u9 u10 := (Mod.refl _ _).grown gru10 (fun j hj _ => hj)
        have mu10 := mu9.trans' qu10 (fun j hj h => by have h1 := (ou9.lt j h).1; have h2 := bbu1; omega)
        have au10 := qu10.heap xu9 (fun h => neu9 _ h rfl)
        refine anyZ_next 3 _ (some 21) rfl (by kernel_rfl) (by kernel_rfl) rfl vu10 u10 (run_append_op rfl rfl rfl hru10) (fun _ => trivial) ?_
        simp only [Act.put, List.setIfInBounds_toArray, List.set_cons_zero, List.set_cons_succ]
        refine anyZ_call 4 _ (some 22) rfl (by kernel_rfl) (by kernel_rfl) rfl 72 #[vu10] (by go_simp) ?_
        refine (refSum_any _ (xorAll K 92 ++ RR) u10 (byteAt_of_own pu10) (by rw [hYl.out]; omega)).mono ?_
        rintro e u11 ⟨lu11, rfl⟩
        rw [hsH.out]
        have mu11 := mu10.trans lu11
        have au11 := lu11.heap au10 (fun h => h)
        refine ⟨_, rfl, fun _ => trivial, ?_⟩
        simp only [Act.put, List.setIfInBounds_toArray, List.set_cons_zero, List.set_cons_succ]
        refine anyZ_take 5 _ (some 17) (.tuple #[.agg (encB H), .int .i64 0]) rfl (by kernel_rfl) (by kernel_rfl) (by kernel_rfl) (by kernel_rfl) (by kernel_rfl) (by decide) rfl (fun w' hS => ?_) trivial ?_
        · go_simp
        simp only [Act.put, List.setIfInBounds_toArray, List.set_cons_zero, List.set_cons_succ]
        refine anyZ_take 6 _ (some 23) (.agg (encB H)) rfl (by kernel_rfl) (by kernel_rfl) (by kernel_rfl) (by kernel_rfl) (by kernel_rfl) (by decide) rfl (fun w' hS => ?_) trivial ?_
        · go_simp
        simp only [Act.put, List.setIfInBounds_toArray, List.set_cons_zero, List.set_cons_succ]
        refine anyZ_take 7 _ (some 24) (.int .i64 0) rfl (by kernel_rfl) (by kernel_rfl) (by kernel_rfl) (by kernel_rfl) (by kernel_rfl) (by decide) rfl (fun w' hS => ?_) trivial ?_
        · go_simp
        simp only [Act.put, List.setIfInBounds_toArray, List.set_cons_zero, List.set_cons_succ]
        obtain ⟨u12, su12, nu12, yu12⟩ := bytes_store au11 (s' := H) (by decide) hHl
        refine anyZ_skip 9 _ rfl (by kernel_rfl) (by kernel_rfl) rfl u12 (run_store_op rfl rfl rfl su12) (fun _ => trivial) ?_
        simp only [Act.put, List.setIfInBounds_toArray, List.set_cons_zero, List.set_cons_succ]
        refine anyZ_next 10 _ (some 8) rfl (by kernel_rfl) (by kernel_rfl) rfl (.int .i64 0) u12 (by go_simp) (fun _ => trivial) ?_
        simp only [Act.put, List.setIfInBounds_toArray, List.set_cons_zero, List.set_cons_succ]
        refine anyZ_done (by kernel_rfl) ?_ _
        exact ⟨rfl, _, _, gu9, rfl, mu11.trans' nu12 (fun k hk h => by have := gwu9; omega), yu12⟩
    · obtain ⟨u13, hu13⟩ : ∃ x, x = wd.alloc (.cells (encB (zb 32)) 62) := ⟨_, rfl⟩
      obtain ⟨gu13, hgu13⟩ : ∃ g, g = wd.heap.size := ⟨_, rfl⟩
      have lu13 : Mod (fun _ => False) wd u13 := by rw [hu13]; exact (Mod.refl _ _).alloc _
      have xu13 : u13.heap[gu13]? = some (.cells (encB (zb 32)) 62 (0,0)) := by rw [hu13]; exact hp_new _ _ _ hgu13
      have gwu13 : w6.heap.size ≤ gu13 := by rw [hgu13]; exact md.size
      replace hu13 := Lib.hid hu13
      replace hgu13 := Lib.hid hgu13
      have mu13 := md.trans lu13
      have ku13 := bkd.mod lu13 (fun _ _ h => h)
      have ru13 := lu13.heap x5d (fun h => h)
      refine wpOp_value _ (some 7) rfl (by kernel_rfl) rfl (.pointer (some ⟨gu13, 0, none⟩)) u13 (by rw [hu13.out, hgu13.out]; exact alloc_arr 62 _ zero32 _ _ _ rfl) ⟨fun _ => trivial, ?_⟩
      simp only [Act.put, List.setIfInBounds_toArray, List.set_cons_zero, List.set_cons_succ]
      refine anyZ_call 1 _ (some 19) rfl (by kernel_rfl) (by kernel_rfl) rfl 135 #[.slice ak m ck, .int .u8 92] (by go_simp) ?_
      refine (refpad_any _ k 92 u13 ku13 hk'.out).mono ?_
      rintro e u14 ⟨lu14, vu14, rfl, pu14⟩
      rw [← hK.out] at pu14
      have neu14 : ∀ j, vu14.ownBlock = some j → j ≠ gu13 := fun j hj => by have h1 := (pu14.lt j hj).1; have h2 := lt_of_heap xu13; omega
      have bbu14 : w6.heap.size ≤ u13.heap.size := mu13.size
      have bsu14 : u13.heap.size ≤ u14.heap.size := lu14.size
      have mu14 := mu13.trans lu14
      have ku14 := ku13.mod lu14 (fun _ _ h => h)
      have ru14 := lu14.heap ru13 (fun h => h)
      have au14 := lu14.heap xu13 (fun h => h)
      refine ⟨_, rfl, fun _ => trivial, ?_⟩
      simp only [Act.put, List.setIfInBounds_toArray, List.set_cons_zero, List.set_cons_succ]
      have bu15 := ByteAt.row ru14
      rw [hRl] at bu15
      obtain ⟨vu15, u15, hru15, pu15, gru15⟩ := run_append_bytes pu14 bu15 (by rw [hRl]; omega) (by have h1 := bsu14; omega) 22
      have qu15 : Mod (fun j => vu14.ownBlock = some j) u14 u15 := (Mod.refl _ _).grown gru15 (fun j hj _ => hj)
      have mu15 := mu14.trans' qu15 (fun j hj h => by have h1 := (pu14.lt j h).1; have h2 := bbu14; omega)
      have au15 := qu15.heap au14 (fun h => neu14 _ h rfl)
      refine anyZ_next 3 _ (some 21) rfl (by kernel_rfl) (by kernel_rfl) rfl vu15 u15 (run_append_op rfl rfl rfl hru15) (fun _ => trivial) ?_
      simp only [Act.put, List.setIfInBounds_toArray, List.set_cons_zero, List.set_cons_succ]
      refine anyZ_call 4 _ (some 22) rfl (by kernel_rfl) (by kernel_rfl) rfl 72 #[vu15] (by go_simp) ?_
      refine (refSum_any _ (xorAll K 92 ++ RR) u15 (byteAt_of_own pu15) (by rw [hYl.out]; omega)).mono ?_
      rintro e u16 ⟨lu16, rfl⟩
      rw [hsH.out]
      have mu16 := mu15.trans lu16
      have au16 := lu16.heap au15 (fun h => h)
      refine ⟨_, rfl, fun _ => trivial, ?_⟩
      simp only [Act.put, List.setIfInBounds_toArray, List.set_cons_zero, List.set_cons_succ]
      refine anyZ_take 5 _ (some 17) (.tuple #[.agg (encB H), .int .i64 0]) rfl (by kernel_rfl) (by kernel_rfl) (by kernel_rfl) (by kernel_rfl) (by kernel_rfl) (by decide) rfl (fun w' hS => ?_) trivial ?_
      · go_simp
      simp only [Act.put, List.setIfInBounds_toArray, List.set_cons_zero, List.set_cons_succ]
      refine anyZ_take 6 _ (some 23) (.agg (encB H)) rfl (by kernel_rfl) (by kernel_rfl) (by kernel_rfl) (by kernel_rfl) (by kernel_rfl) (by decide) rfl (fun w' hS => ?_) trivial ?_
      · go_simp
      simp only [Act.put, List.setIfInBounds_toArray, List.set_cons_zero, List.set_cons_succ]
      refine anyZ_take 7 _ (some 24) (.int .i64 0) rfl (by kernel_rfl) (by kernel_rfl) (by kernel_rfl) (by kernel_rfl) (by kernel_rfl) (by decide) rfl (fun w' hS => ?_) trivial ?_
      · go_simp
      simp only [Act.put, List.setIfInBounds_toArray, List.set_cons_zero, List.set_cons_succ]
      obtain ⟨u17, su17, nu17, yu17⟩ := bytes_store au16 (s' := H) (by decide) hHl
      refine anyZ_skip 9 _ rfl (by kernel_rfl) (by kernel_rfl) rfl u17 (run_store_op rfl rfl rfl su17) (fun _ => trivial) ?_
      simp only [Act.put, List.setIfInBounds_toArray, List.set_cons_zero, List.set_cons_succ]
      refine anyZ_next 10 _ (some 8) rfl (by kernel_rfl) (by kernel_rfl) rfl (.int .i64 0) u17 (by go_simp) (fun _ => trivial) ?_
      simp only [Act.put, List.setIfInBounds_toArray, List.set_cons_zero, List.set_cons_succ]
      refine anyZ_done (by kernel_rfl) ?_ _
      exact ⟨rfl, _, _, gu13, rfl, mu16.trans' nu17 (fun k hk h => by have := gwu13; omega), yu17⟩
  rintro e a wh ⟨rfl, v34, v36, g7, rfl, m7, x7⟩
  try dsimp only
  have xGh := m7.heap xG6.out (fun h => h)
  have m0h := m06.out.trans m7
  have ll := bytes_load x7 hHl
  obtain ⟨wz, sz, mz, xz⟩ := bytes_store xGh (s' := H) (by decide) hHl
  have hfin : Mod (fun _ => False) w wz := m0h.trans' mz (fun i hi h => by have := hG.out; omega)
  have hmv : macS (keyS k) b = H := by rw [hH.out, hR.out, hK.out]; rfl
  replace hfin := Lib.hid hfin
  replace hmv := Lib.hid hmv
  clear m7 x7 xGh m0h mz
  go_upto_region 3 with (fail)
  refine wp_region_lit ?_
  refine wpList_reads (by kernel_rfl) (.agg (encB H)) (run_load_op rfl rfl ll) ?_
  simp only [Act.put, List.setIfInBounds_toArray, List.set_cons_zero, List.set_cons_succ]
  refine wpList_store_to rfl _ _ _ rfl _ _ _ rfl rfl _ sz ?_
  simp only [Act.put, List.setIfInBounds_toArray, List.set_cons_zero, List.set_cons_succ]
  go_wp2
  exact bodyPost_ret (results_sum rfl _ _ G _ rfl xz hHl) rfl ⟨hfin.out, by rw [hmv.out]⟩

set_option maxRecDepth 100000 in
set_option maxHeartbeats 2000000 in
theorem refMac_any (vk vb : Value) (k b : List (BitVec 8)) (w : World) (hk : ByteAt w vk k) (hb : ByteAt w vb b) (hkl : k.length < 4611686018427387904) (hbl : b.length < 4611686018427387904) :
    Calls Tryz.prog 114 #[vk, vb] w fun e w' => Mod (fun _ => False) w w' ∧ e = .returned (macV k b) := by
  obtain ⟨ak, ck, rfl, _⟩ := hk.slice
  obtain ⟨ab, cb, rfl, _⟩ := hb.slice
  obtain ⟨m, hm⟩ : ∃ m, m = k.length := ⟨_, rfl⟩
  obtain ⟨n, hn⟩ : ∃ n, n = b.length := ⟨_, rfl⟩
  obtain ⟨w1, hw1⟩ : ∃ w1, w1 = w.alloc (.cells (encB (zb 32)) 62) := ⟨_, rfl⟩
  have m1 : Mod (fun _ => False) w w1 := by rw [hw1]; exact (Mod.refl _ _).alloc _
  have x1 : w1.heap[w.heap.size]? = some (.cells (encB (zb 32)) 62 (0,0)) := by rw [hw1]; exact hp_new _ _ _ rfl
  have hk1 := hk.mod m1 (fun _ _ h => h)
  have hb1 := hb.mod m1 (fun _ _ h => h)
  rw [← hm] at hk1 hkl ⊢
  rw [← hn] at hb1 hbl ⊢
  have bm0 : (0 : Int) ≤ (m : Int) := by omega
  have bn0 : (0 : Int) ≤ (n : Int) := by omega
  replace hw1 := Lib.hid hw1
  replace hk1 := Lib.hid hk1
  replace hb1 := Lib.hid hb1
  replace m1 := Lib.hid m1
  replace x1 := Lib.hid x1
  replace hm := Lib.hid hm
  replace hn := Lib.hid hn
  clear hk hb
  go_enter Tryz.func114, Tryz.ntmps114
  go_upto_region 0 with (fail)
  refine wp_region_lit ?_
  refine wpList_yields (by kernel_rfl) _ _ (alloc_arr 62 _ zero32 _ _ _ rfl) ?_
  simp only [Act.put, List.setIfInBounds_toArray, List.set_cons_zero, List.set_cons_succ]
  rw [← hw1.out]
  refine wpList_reads (by kernel_rfl) (.int .i64 0) (by go_simp) ?_
  simp only [Act.put, List.setIfInBounds_toArray, List.set_cons_zero, List.set_cons_succ]
  by_cases hbad : 1048576 < m ∨ 1048512 < n
  · have hv : macV k b = .tuple #[.agg (encB (zb 32)), .int .i64 3] := by unfold macV macB macE; rw [if_pos (by rw [← hm.out, ← hn.out]; exact hbad), if_pos (by rw [← hm.out, ← hn.out]; exact hbad)]; rfl
    obtain ⟨wz, sz, mz, xz⟩ := bytes_store x1.out (s' := zb 32) (by decide) (by decide)
    have mfz : Mod (fun _ => False) w wz := m1.out.trans' mz (fun i hi h => by omega)
    replace mfz := Lib.hid mfz
    replace hv := Lib.hid hv
    clear mz
    by_cases hm1 : 1048576 < m
    · have hd : decide ((1048576 : Int) < (m : Int)) = true := by rw [decide_eq_true_iff]; omega
      clear hbad hm1
      go_upto_region 2 with (fail)
      refine wp_region_lit ?_
      refine wpList_yields (by kernel_rfl) _ _ (build_zero32 _ _ _ rfl) ?_
      simp only [Act.put, List.setIfInBounds_toArray, List.set_cons_zero, List.set_cons_succ]
      refine wpList_store_to rfl _ _ _ rfl _ _ _ rfl rfl _ sz ?_
      simp only [Act.put, List.setIfInBounds_toArray, List.set_cons_zero, List.set_cons_succ]
      refine wpList_reads (by kernel_rfl) (.int .i64 3) (by go_simp) ?_
      simp only [Act.put, List.setIfInBounds_toArray, List.set_cons_zero, List.set_cons_succ]
      go_wp2
      exact bodyPost_ret (v := .tuple #[.agg (encB (zb 32)), .int .i64 3]) (results_sum2 rfl _ _ _ _ _ rfl rfl xz (by decide)) rfl ⟨mfz.out, by rw [hv.out]⟩
    · have hd : decide ((1048576 : Int) < (m : Int)) = false := by rw [decide_eq_false_iff_not]; omega
      have hd2 : decide ((1048512 : Int) < (n : Int)) = true := by rw [decide_eq_true_iff]; omega
      clear hbad hm1
      go_upto_region 2 with (fail)
      refine wp_region_lit ?_
      refine wpList_yields (by kernel_rfl) _ _ (build_zero32 _ _ _ rfl) ?_
      simp only [Act.put, List.setIfInBounds_toArray, List.set_cons_zero, List.set_cons_succ]
      refine wpList_store_to rfl _ _ _ rfl _ _ _ rfl rfl _ sz ?_
      simp only [Act.put, List.setIfInBounds_toArray, List.set_cons_zero, List.set_cons_succ]
      refine wpList_reads (by kernel_rfl) (.int .i64 3) (by go_simp) ?_
      simp only [Act.put, List.setIfInBounds_toArray, List.set_cons_zero, List.set_cons_succ]
      go_wp2
      exact bodyPost_ret (v := .tuple #[.agg (encB (zb 32)), .int .i64 3]) (results_sum2 rfl _ _ _ _ _ rfl rfl xz (by decide)) rfl ⟨mfz.out, by rw [hv.out]⟩
  · have hv : macV k b = .tuple #[.agg (encB (macS (keyS k) b)), .int .i64 0] := by unfold macV macB macE; rw [if_neg (by rw [← hm.out, ← hn.out]; exact hbad), if_neg (by rw [← hm.out, ← hn.out]; exact hbad)]; rfl
    have hd : decide ((1048576 : Int) < (m : Int)) = false := by rw [decide_eq_false_iff_not]; omega
    have hd2 : decide ((1048512 : Int) < (n : Int)) = false := by rw [decide_eq_false_iff_not]; omega
    have hml : m ≤ 1048576 := by omega
    have hnl : n ≤ 1048512 := by omega
    replace hv := Lib.hid hv
    clear hbad
    go_upto_region 3 with (fail)
    refine wp_region_lit ?_
    refine wpList_reads (by kernel_rfl) (.slice ak m ck) (by go_simp) ?_
    simp only [Act.put, List.setIfInBounds_toArray, List.set_cons_zero, List.set_cons_succ]
    refine wpList_reads (by kernel_rfl) (.slice ab n cb) (by go_simp) ?_
    simp only [Act.put, List.setIfInBounds_toArray, List.set_cons_zero, List.set_cons_succ]
    refine wpList_enter (by kernel_rfl) 121 #[.slice ak m ck, .slice ab n cb] (by go_simp) (refmac_any _ _ k b w1 hk1.out hb1.out (by rw [← hm.out]; exact hml) (by rw [← hn.out]; exact hnl)) ?_
    rintro e w2 ⟨m2, rfl⟩
    obtain ⟨RR, hR⟩ : ∃ R, R = macS (keyS k) b := ⟨_, rfl⟩
    have hRl : RR.length = 32 := by rw [hR]; exact macS_length _ _
    rw [← hR]
    have x2 := m2.heap x1.out (fun h => h)
    obtain ⟨wz, sz, mz, xz⟩ := bytes_store x2 (s' := RR) (by decide) hRl
    have hfin : Mod (fun _ => False) w wz := (m1.out.trans m2).trans' mz (fun i hi h => by omega)
    replace hfin := Lib.hid hfin
    replace hR := Lib.hid hR
    clear m2 x2 mz
    refine ⟨_, rfl, ?_⟩
    simp only [Act.put, List.setIfInBounds_toArray, List.set_cons_zero, List.set_cons_succ]
    refine wpList_store_to rfl _ _ _ rfl _ _ _ rfl rfl _ sz ?_
    simp only [Act.put, List.setIfInBounds_toArray, List.set_cons_zero, List.set_cons_succ]
    refine wpList_reads (by kernel_rfl) (.int .i64 0) (by go_simp) ?_
    simp only [Act.put, List.setIfInBounds_toArray, List.set_cons_zero, List.set_cons_succ]
    go_wp2
    exact bodyPost_ret (v := .tuple #[.agg (encB RR), .int .i64 0]) (results_sum2 rfl _ _ _ _ _ rfl rfl xz hRl) rfl ⟨hfin.out, by rw [hv.out, hR.out]⟩
end Go.Proofs.YtppjnkgmbmhlcaaGreatDoor
