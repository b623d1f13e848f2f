/-
  hkdf.of, hkdf.Mac: a key, a MAC. Printed by gen/hk2.py.
-/
import Derived.Test.YtppjnkgmbmhlcaaGreatDoorK1
namespace Go.Proofs.YtppjnkgmbmhlcaaGreatDoor
set_option maxRecDepth 100000
open Go Go.RowKit Go.Lib
set_option linter.unusedSimpArgs false
set_option linter.unusedVariables false

theorem zero64b (w : World) : (zeroValue 185).run Tryz.prog w = .ok (.agg (encB (zb 64))) w := by kernel_rfl
theorem info64b : (Tryz.prog.info? 185).map (·.size) = some 64 := by kernel_rfl
theorem key_load {w : World} {g : Nat} {s : List (BitVec 8)} (x : w.heap[g]? = some (.cells (encB s) 185 (0,0))) (hl : s.length = 64) : (loadVar 185 ⟨g, 0, none⟩).run Tryz.prog w = .ok (.agg (encB s)) w :=
  load_mid w g 0 185 _ [] (bytesV s) [] (0,0) _ (by rw [x]; simp [encB, bytesV]) rfl Tryz.underlying185 rfl (by rw [bytesV_length, hl]; exact info64b)
theorem key_store {w : World} {g : Nat} {s s' : List (BitVec 8)} (x : w.heap[g]? = some (.cells (encB s) 185 (0,0))) (hl : s.length = 64) (hl' : s'.length = 64) :
    ∃ w', (storeVar 185 ⟨g, 0, none⟩ (.agg (encB s'))).run Tryz.prog w = .ok () w' ∧ Mod (fun k => k = g) w w' ∧ w'.heap[g]? = some (.cells (encB s') 185 (0,0)) := by
  obtain ⟨w', h1, h2, h3⟩ := store_mid (P := Tryz.prog) w g 0 185 185 [] (bytesV s) [] (bytesV s') (by rw [x]; simp [encB, bytesV]) rfl (by rw [bytesV_length, bytesV_length, hl, hl']) (by rw [bytesV_length, hl']; exact info64b) (bytesV_one _)
  exact ⟨w', h1, h2, by rw [h3]; simp [encB, bytesV]⟩
theorem run_copy_to (w : World) (G N C : Nat) (t : TypeId) (Z bs : List (BitVec 8)) (v : Value) (x : w.heap[G]? = some (.cells (encB Z) t (0,0))) (hb : ByteAt w v bs) (hl : bs.length ≤ N) (hN : N ≤ Z.length) :
    ∃ w', (∀ ty, (Builtin.copy_ #[22, 22] ty #[.slice (some ⟨G, 0, none⟩) N C, v]).run Tryz.prog w = .ok (.int .i64 ((bs.length : Nat) : Int)) w') ∧ Mod (fun k => k = G) w w' ∧ w'.heap[G]? = some (.cells (encB (bs ++ Z.drop bs.length)) t (0,0)) := by
  have hs8 : (Tryz.prog.info? 5).map (·.size) = some 1 := by kernel_rfl
  rcases hb with ⟨ad, cap, rfl, rfl⟩ | ⟨g, o2, cap, rfl, hc, hcell⟩
  · exact ⟨w, fun ty => run_copy_none w 22 22 ty 5 _ _ N C 0 cap Tryz.underlying22 hs8 (Nat.zero_min _), Mod.refl _ _, by simpa using x⟩
  · have x' : w.heap[G]? = some (.cells ([] ++ (bytesV (Z.take bs.length) ++ bytesV (Z.drop bs.length))).toArray t (0,0)) := by
      rw [x, List.nil_append, ← bytesV_append, List.take_append_drop]
      rfl
    have h2 := setCells_mid G t (bytesV bs) (bytesV (Z.take bs.length)) [] _ w (by rw [bytesV_length, bytesV_length, List.length_take]; omega) x'
    have hth := there_mid (off := 0) (n := (bytesV bs).length) x (by rw [bytesV_length, encB_size]; omega)
    have hrun := fun ty => run_copy_cells (P := Tryz.prog) w 22 22 ty 5 G 0 N C ⟨g, o2, none⟩ bs.length cap (bytesV bs) Tryz.underlying22 hs8 (by rw [bytesV_length]; exact (Nat.min_eq_left hl).symm)
      (fun j u hj => by
        have hj2 : j < bs.length := by
          have := (List.getElem?_eq_some_iff.1 hj).1
          rwa [bytesV_length] at this
        rw [bytesV_get hj2] at hj
        injection hj with hj
        subst hj
        have h3 := hcell j (by omega)
        rw [show ((⟨g, o2, none⟩ : Addr).add j) = ⟨g, o2 + j, none⟩ by unfold Addr.add; split <;> simp_all, h3])
      (fun j hj => (hth j hj).1) (fun j hj => (hth j hj).2) (bytesV_one _)
    refine ⟨_, fun ty => ?_, h2.1, ?_⟩
    · rw [hrun ty, bytesV_length]
      rfl
    · have h3 := h2.2
      rw [List.nil_append, ← bytesV_append] at h3
      exact h3
theorem results_key {fn : Func} {p : Tmp} (h : fn.results = #[.cell p 185]) (tmps : Array Value) (w : World) (g : Nat) (s : List (BitVec 8)) (hp : tmps.getD p undef = .pointer (some ⟨g, 0, none⟩)) (x : w.heap[g]? = some (.cells (encB s) 185 (0,0))) (hl : s.length = 64) :
    (results fn tmps).run Tryz.prog w = .ok (.agg (encB s)) w := by
  have hp' : tmps[p]?.getD undef = .pointer (some ⟨g, 0, none⟩) := by simpa using hp
  simp [results, h, Sem.run_bind, hp', asAddr, key_load x hl]
theorem results_sum {fn : Func} {p : Tmp} (h : fn.results = #[.cell p 62]) (tmps : Array Value) (w : World) (g : Nat) (s : List (BitVec 8)) (hp : tmps.getD p undef = .pointer (some ⟨g, 0, none⟩)) (x : w.heap[g]? = some (.cells (encB s) 62 (0,0))) (hl : s.length = 32) :
    (results fn tmps).run Tryz.prog w = .ok (.agg (encB s)) w := by
  have hp' : tmps[p]?.getD undef = .pointer (some ⟨g, 0, none⟩) := by simpa using hp
  simp [results, h, Sem.run_bind, hp', asAddr, bytes_load x hl]
/-- A key, as long as a block. -/
def shortS (b : List (BitVec 8)) : List (BitVec 8) := if 64 < b.length then shaS b else b
def keyS (b : List (BitVec 8)) : List (BitVec 8) := shortS b ++ (zb 64).drop (shortS b).length
theorem shortS_length (b : List (BitVec 8)) : (shortS b).length ≤ 64 := by
  unfold shortS
  split
  · rw [shaS_length]; omega
  · omega
theorem keyS_length (b : List (BitVec 8)) : (keyS b).length = 64 := by
  have := shortS_length b
  unfold keyS
  rw [List.length_append, List.length_drop]
  simp [zb]
  omega

set_option maxRecDepth 100000 in
set_option maxHeartbeats 2000000 in
theorem of_any (v : Value) (b : List (BitVec 8)) (w : World) (hb : ByteAt w v b) (hl : b.length ≤ 1048576) : Calls Tryz.prog 128 #[v] w fun e w' => Mod (fun _ => False) w w' ∧ e = .returned (.agg (encB (keyS b))) := by
  obtain ⟨ad, cap, rfl, _⟩ := hb.slice
  obtain ⟨n, hn⟩ : ∃ n, n = b.length := ⟨_, rfl⟩
  obtain ⟨w1, hw1⟩ : ∃ w1, w1 = w.alloc (.cells (encB (zb 64)) 185) := ⟨_, rfl⟩
  have m1 : Mod (fun _ => False) w w1 := by rw [hw1]; exact (Mod.refl _ _).alloc _
  have x1 : w1.heap[w.heap.size]? = some (.cells (encB (zb 64)) 185 (0,0)) := by rw [hw1]; exact hp_new _ _ _ rfl
  have hb1 := hb.mod m1 (fun _ _ h => h)
  rw [← hn] at hb1 hl ⊢
  have bn0 : (0 : Int) ≤ (n : Int) := by omega
  replace hw1 := Lib.hid hw1
  replace hb1 := Lib.hid hb1
  replace m1 := Lib.hid m1
  replace x1 := Lib.hid x1
  replace hn := Lib.hid hn
  clear hb
  go_enter Tryz.func128, Tryz.ntmps128
  go_upto_region 0 with (fail)
  refine wp_region_lit ?_
  refine wpList_yields (by kernel_rfl) _ _ (alloc_arr 185 _ zero64b _ _ _ rfl) ?_
  simp only [Act.put, List.setIfInBounds_toArray, List.set_cons_zero, List.set_cons_succ]
  rw [← hw1.out]
  by_cases hbig : 64 < n
  · have hd : decide ((64 : Int) < (n : Int)) = true := by rw [decide_eq_true_iff]; omega
    have hsv : sumV b = .tuple #[.agg (encB (shaS b)), .int .i64 0] := by unfold sumV; rw [if_neg (by rw [← hn.out]; omega)]
    have hsh : shortS b = shaS b := by unfold shortS; rw [if_pos (by rw [← hn.out]; exact hbig)]
    replace hbig := Lib.hid hbig
    go_upto_region 2 with (fail)
    refine wp_region_lit ?_
    refine wpList_reads (by kernel_rfl) (.slice ad n cap) (by go_simp) ?_
    simp only [Act.put, List.setIfInBounds_toArray, List.set_cons_zero, List.set_cons_succ]
    refine wpList_enter (by kernel_rfl) 70 #[.slice ad n cap] (by go_simp) (sum_any _ b w1 hb1.out (by rw [← hn.out]; omega)) ?_
    rintro e w2 ⟨m2, rfl⟩
    rw [hsv]
    obtain ⟨H, hH⟩ : ∃ H, H = shaS b := ⟨_, rfl⟩
    have hHl : H.length = 32 := by rw [hH]; exact shaS_length b
    rw [← hH] at hsh ⊢
    obtain ⟨w3, hw3⟩ : ∃ w3, w3 = w2.alloc (.cells (encB (zb 32)) 62) := ⟨_, rfl⟩
    have m3 : Mod (fun _ => False) w2 w3 := by rw [hw3]; exact (Mod.refl _ _).alloc _
    have z3 : w3.heap[w2.heap.size]? = some (.cells (encB (zb 32)) 62 (0,0)) := by rw [hw3]; exact hp_new _ _ _ rfl
    obtain ⟨w4, s4, m4, z4⟩ := bytes_store z3 (s' := H) (by decide) hHl
    have hsz : w.heap.size < w2.heap.size := by have := lt_of_heap x1.out; have := m2.size; omega
    have m24 : Mod (fun _ => False) w2 w4 := m3.trans' m4 (fun i hi h => by omega)
    have x4 := m24.heap (m2.heap x1.out (fun h => h)) (fun h => h)
    have m04 := (m1.out.trans m2).trans m24
    have bH := ByteAt.row z4
    rw [hHl] at bH
    obtain ⟨wc, hcp, mc, zc⟩ := run_copy_to w4 w.heap.size 64 64 185 (zb 64) (H) (.slice (some ⟨w2.heap.size, 0, none⟩) 32 32) x4 bH (by omega) (by simp [zb])
    have hkey : (H) ++ (zb 64).drop (H).length = keyS b := by unfold keyS; rw [hsh]
    rw [hkey] at zc
    have ll := key_load zc (keyS_length b)
    obtain ⟨wz, sz, mz, xz⟩ := key_store zc (s' := keyS b) (keyS_length b) (keyS_length b)
    have hfin : Mod (fun _ => False) w wz := ((m04).trans' mc (fun i hi h => by omega)).trans' mz (fun i hi h => by omega)
    obtain ⟨KK, hKK⟩ : ∃ KK, KK = keyS b := ⟨_, rfl⟩
    have hKl : KK.length = 64 := by rw [hKK]; exact keyS_length b
    rw [← hKK] at zc ll sz xz
    replace hKK := Lib.hid hKK
    replace hfin := Lib.hid hfin
    clear mc mz zc hkey
    replace hw3 := Lib.hid hw3
    replace hH := Lib.hid hH
    clear m2 m3 z3 m4 z4 m24 x4 m04 bH hsv hsh
    refine ⟨_, rfl, ?_⟩
    simp only [Act.put, List.setIfInBounds_toArray, List.set_cons_zero, List.set_cons_succ]
    refine wpList_reads (by kernel_rfl) (.tuple #[.agg (encB H), .int .i64 0]) (by go_simp) ?_
    simp only [Act.put, List.setIfInBounds_toArray, List.set_cons_zero, List.set_cons_succ]
    refine wpList_reads (by kernel_rfl) (.agg (encB H)) (by go_simp) ?_
    simp only [Act.put, List.setIfInBounds_toArray, List.set_cons_zero, List.set_cons_succ]
    refine wpList_reads (by kernel_rfl) (.int .i64 0) (by go_simp) ?_
    simp only [Act.put, List.setIfInBounds_toArray, List.set_cons_zero, List.set_cons_succ]
    refine wpList_yields (by kernel_rfl) _ _ (alloc_arr 62 _ zero32 _ _ _ rfl) ?_
    simp only [Act.put, List.setIfInBounds_toArray, List.set_cons_zero, List.set_cons_succ]
    rw [← hw3.out]
    refine wpList_store_to rfl _ _ _ rfl _ _ _ rfl rfl _ s4 ?_
    simp only [Act.put, List.setIfInBounds_toArray, List.set_cons_zero, List.set_cons_succ]
    refine wpList_reads (by kernel_rfl) (.int .i64 0) (by go_simp) ?_
    simp only [Act.put, List.setIfInBounds_toArray, List.set_cons_zero, List.set_cons_succ]
    rw [hHl] at hcp
    go_upto_region 4 with (fail)
    refine wp_region_lit ?_
    refine wpList_reads (by kernel_rfl) (.slice (some ⟨w.heap.size, 0, none⟩) 64 64) (by go_simp) ?_
    simp only [Act.put, List.setIfInBounds_toArray, List.set_cons_zero, List.set_cons_succ]
    refine wpList_reads (by kernel_rfl) (.slice (some ⟨w2.heap.size, 0, none⟩) 32 32) (by go_simp) ?_
    simp only [Act.put, List.setIfInBounds_toArray, List.set_cons_zero, List.set_cons_succ]
    refine wpList_yields (by kernel_rfl) _ _ (run_copy_op rfl rfl rfl hcp) ?_
    simp only [Act.put, List.setIfInBounds_toArray, List.set_cons_zero, List.set_cons_succ]
    go_upto_region 5 with (fail)
    refine wp_region_lit ?_
    refine wpList_reads (by kernel_rfl) (.agg (encB KK)) (run_load_op rfl rfl ll) ?_
    simp only [Act.put, List.setIfInBounds_toArray, List.set_cons_zero, List.set_cons_succ]
    refine wpList_store_to rfl _ _ _ rfl _ _ _ rfl rfl _ sz ?_
    simp only [Act.put, List.setIfInBounds_toArray, List.set_cons_zero, List.set_cons_succ]
    go_wp2
    exact bodyPost_ret (results_key rfl _ _ w.heap.size _ rfl xz hKl) rfl ⟨hfin.out, by rw [hKK.out]⟩
  · have hd : decide ((64 : Int) < (n : Int)) = false := by rw [decide_eq_false_iff_not]; omega
    have hsh : shortS b = b := by unfold shortS; rw [if_neg (by rw [← hn.out]; exact hbig)]
    obtain ⟨wc, hcp, mc, zc⟩ := run_copy_to w1 w.heap.size 64 64 185 (zb 64) (b) (.slice ad n cap) x1.out hb1.out (by rw [← hn.out]; omega) (by simp [zb])
    have hkey : (b) ++ (zb 64).drop (b).length = keyS b := by unfold keyS; rw [hsh]
    rw [hkey] at zc
    have ll := key_load zc (keyS_length b)
    obtain ⟨wz, sz, mz, xz⟩ := key_store zc (s' := keyS b) (keyS_length b) (keyS_length b)
    have hfin : Mod (fun _ => False) w wz := ((m1.out).trans' mc (fun i hi h => by omega)).trans' mz (fun i hi h => by omega)
    obtain ⟨KK, hKK⟩ : ∃ KK, KK = keyS b := ⟨_, rfl⟩
    have hKl : KK.length = 64 := by rw [hKK]; exact keyS_length b
    rw [← hKK] at zc ll sz xz
    replace hKK := Lib.hid hKK
    replace hfin := Lib.hid hfin
    clear mc mz zc hkey
    rw [← hn.out] at hcp
    replace hbig := Lib.hid hbig
    clear hsh
    go_upto_region 4 with (fail)
    refine wp_region_lit ?_
    refine wpList_reads (by kernel_rfl) (.slice (some ⟨w.heap.size, 0, none⟩) 64 64) (by go_simp) ?_
    simp only [Act.put, List.setIfInBounds_toArray, List.set_cons_zero, List.set_cons_succ]
    refine wpList_reads (by kernel_rfl) (.slice ad n cap) (by go_simp) ?_
    simp only [Act.put, List.setIfInBounds_toArray, List.set_cons_zero, List.set_cons_succ]
    refine wpList_yields (by kernel_rfl) _ _ (run_copy_op rfl rfl rfl hcp) ?_
    simp only [Act.put, List.setIfInBounds_toArray, List.set_cons_zero, List.set_cons_succ]
    go_upto_region 5 with (fail)
    refine wp_region_lit ?_
    refine wpList_reads (by kernel_rfl) (.agg (encB KK)) (run_load_op rfl rfl ll) ?_
    simp only [Act.put, List.setIfInBounds_toArray, List.set_cons_zero, List.set_cons_succ]
    refine wpList_store_to rfl _ _ _ rfl _ _ _ rfl rfl _ sz ?_
    simp only [Act.put, List.setIfInBounds_toArray, List.set_cons_zero, List.set_cons_succ]
    go_wp2
    exact bodyPost_ret (results_key rfl _ _ w.heap.size _ rfl xz hKl) rfl ⟨hfin.out, by rw [hKK.out]⟩
end Go.Proofs.YtppjnkgmbmhlcaaGreatDoor
