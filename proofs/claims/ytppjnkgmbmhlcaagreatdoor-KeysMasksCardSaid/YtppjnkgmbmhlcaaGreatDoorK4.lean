/-
  hkdf.Mac, hkdf.Extract. Printed by gen/hk4.py.
-/
import Derived.Test.YtppjnkgmbmhlcaaGreatDoorK3
namespace Go.Proofs.YtppjnkgmbmhlcaaGreatDoor
set_option maxRecDepth 100000
open Go Go.RowKit Go.Lib
set_option linter.unusedSimpArgs false
set_option linter.unusedVariables false

theorem results_sum2 {fn : Func} {p q : Tmp} (h : fn.results = #[.cell p 62, .tmp q]) (tmps : Array Value) (w : World) (g : Nat) (s : List (BitVec 8)) (r : Value) (h1 : tmps.getD p undef = .pointer (some ⟨g, 0, none⟩)) (h2 : tmps.getD q undef = r)
    (x : w.heap[g]? = some (.cells (encB s) 62 (0,0))) (hl : s.length = 32) : (results fn tmps).run Tryz.prog w = .ok (.tuple #[.agg (encB s), r]) w := by
  have h1' : tmps[p]?.getD undef = .pointer (some ⟨g, 0, none⟩) := by simpa using h1
  have h2' : tmps[q]?.getD undef = r := by simpa using h2
  simp [results, h, Sem.run_bind, h1', h2', bytes_load x hl, asAddr]
theorem build_zero32 (w : World) (ev : Operand → Value) (o : Oper) (ho : o.op = .build 62 #[]) : (execOp ev o).run Tryz.prog w = .ok (.value (.agg (encB (zb 32)))) w := by
  have h : (Instr.build 62 #[]).run Tryz.prog w = .ok (.agg (encB (zb 32))) w := by kernel_rfl
  unfold execOp
  simp only [ho]
  simp only [List.map_toArray, List.map_cons, List.map_nil, Sem.run_bind, h, Result.andThen_ok, Sem.run_pure]
/-- What hkdf.Mac answers: the bytes, the error. -/
def macB (k b : List (BitVec 8)) : List (BitVec 8) := if 1048576 < k.length ∨ 1048512 < b.length then zb 32 else macS (keyS k) b
def macE (k b : List (BitVec 8)) : Nat := if 1048576 < k.length ∨ 1048512 < b.length then 3 else 0
theorem macB_length (k b : List (BitVec 8)) : (macB k b).length = 32 := by
  unfold macB
  split
  · rfl
  · exact macS_length _ _
def macV (k b : List (BitVec 8)) : Value := .tuple #[.agg (encB (macB k b)), .int .i64 (macE k b : Int)]

set_option maxRecDepth 100000 in
set_option maxHeartbeats 2000000 in
theorem Mac_any (vk vb : Value) (k b : List (BitVec 8)) (w : World) (hk : ByteAt w vk k) (hb : ByteAt w vb b) (hkl : k.length < 4611686018427387904) (hbl : b.length < 4611686018427387904) :
    Calls Tryz.prog 110 #[vk, vb] w fun e w' => Mod (fun _ => False) w w' ∧ e = .returned (macV k b) := by
  obtain ⟨ak, ck, rfl, _⟩ := hk.slice
  obtain ⟨ab, cb, rfl, _⟩ := hb.slice
  obtain ⟨m, hm⟩ : ∃ m, m = k.length := ⟨_, rfl⟩
  obtain ⟨n, hn⟩ : ∃ n, n = b.length := ⟨_, rfl⟩
  obtain ⟨w1, hw1⟩ : ∃ w1, w1 = w.alloc (.cells (encB (zb 32)) 62) := ⟨_, rfl⟩
  have m1 : Mod (fun _ => False) w w1 := by rw [hw1]; exact (Mod.refl _ _).alloc _
  have x1 : w1.heap[w.heap.size]? = some (.cells (encB (zb 32)) 62 (0,0)) := by rw [hw1]; exact hp_new _ _ _ rfl
  have hk1 := hk.mod m1 (fun _ _ h => h)
  have hb1 := hb.mod m1 (fun _ _ h => h)
  rw [← hm] at hk1 hkl ⊢
  rw [← hn] at hb1 hbl ⊢
  have bm0 : (0 : Int) ≤ (m : Int) := by omega
  have bn0 : (0 : Int) ≤ (n : Int) := by omega
  replace hw1 := Lib.hid hw1
  replace hk1 := Lib.hid hk1
  replace hb1 := Lib.hid hb1
  replace m1 := Lib.hid m1
  replace x1 := Lib.hid x1
  replace hm := Lib.hid hm
  replace hn := Lib.hid hn
  clear hk hb
  go_enter Tryz.func110, Tryz.ntmps110
  go_upto_region 0 with (fail)
  refine wp_region_lit ?_
  refine wpList_yields (by kernel_rfl) _ _ (alloc_arr 62 _ zero32 _ _ _ rfl) ?_
  simp only [Act.put, List.setIfInBounds_toArray, List.set_cons_zero, List.set_cons_succ]
  rw [← hw1.out]
  refine wpList_reads (by kernel_rfl) (.int .i64 0) (by go_simp) ?_
  simp only [Act.put, List.setIfInBounds_toArray, List.set_cons_zero, List.set_cons_succ]
  by_cases hbad : 1048576 < m ∨ 1048512 < n
  · have hv : macV k b = .tuple #[.agg (encB (zb 32)), .int .i64 3] := by unfold macV macB macE; rw [if_pos (by rw [← hm.out, ← hn.out]; exact hbad), if_pos (by rw [← hm.out, ← hn.out]; exact hbad)]; rfl
    obtain ⟨wz, sz, mz, xz⟩ := bytes_store x1.out (s' := zb 32) (by decide) (by decide)
    have mfz : Mod (fun _ => False) w wz := m1.out.trans' mz (fun i hi h => by omega)
    replace mfz := Lib.hid mfz
    replace hv := Lib.hid hv
    clear mz
    by_cases hm1 : 1048576 < m
    · have hd : decide ((1048576 : Int) < (m : Int)) = true := by rw [decide_eq_true_iff]; omega
      clear hbad hm1
      go_upto_region 2 with (fail)
      refine wp_region_lit ?_
      refine wpList_yields (by kernel_rfl) _ _ (build_zero32 _ _ _ rfl) ?_
      simp only [Act.put, List.setIfInBounds_toArray, List.set_cons_zero, List.set_cons_succ]
      refine wpList_store_to rfl _ _ _ rfl _ _ _ rfl rfl _ sz ?_
      simp only [Act.put, List.setIfInBounds_toArray, List.set_cons_zero, List.set_cons_succ]
      refine wpList_reads (by kernel_rfl) (.int .i64 3) (by go_simp) ?_
      simp only [Act.put, List.setIfInBounds_toArray, List.set_cons_zero, List.set_cons_succ]
      go_wp2
      exact bodyPost_ret (v := .tuple #[.agg (encB (zb 32)), .int .i64 3]) (results_sum2 rfl _ _ _ _ _ rfl rfl xz (by decide)) rfl ⟨mfz.out, by rw [hv.out]⟩
    · have hd : decide ((1048576 : Int) < (m : Int)) = false := by rw [decide_eq_false_iff_not]; omega
      have hd2 : decide ((1048512 : Int) < (n : Int)) = true := by rw [decide_eq_true_iff]; omega
      clear hbad hm1
      go_upto_region 2 with (fail)
      refine wp_region_lit ?_
      refine wpList_yields (by kernel_rfl) _ _ (build_zero32 _ _ _ rfl) ?_
      simp only [Act.put, List.setIfInBounds_toArray, List.set_cons_zero, List.set_cons_succ]
      refine wpList_store_to rfl _ _ _ rfl _ _ _ rfl rfl _ sz ?_
      simp only [Act.put, List.setIfInBounds_toArray, List.set_cons_zero, List.set_cons_succ]
      refine wpList_reads (by kernel_rfl) (.int .i64 3) (by go_simp) ?_
      simp only [Act.put, List.setIfInBounds_toArray, List.set_cons_zero, List.set_cons_succ]
      go_wp2
      exact bodyPost_ret (v := .tuple #[.agg (encB (zb 32)), .int .i64 3]) (results_sum2 rfl _ _ _ _ _ rfl rfl xz (by decide)) rfl ⟨mfz.out, by rw [hv.out]⟩
  · have hv : macV k b = .tuple #[.agg (encB (macS (keyS k) b)), .int .i64 0] := by unfold macV macB macE; rw [if_neg (by rw [← hm.out, ← hn.out]; exact hbad), if_neg (by rw [← hm.out, ← hn.out]; exact hbad)]; rfl
    have hd : decide ((1048576 : Int) < (m : Int)) = false := by rw [decide_eq_false_iff_not]; omega
    have hd2 : decide ((1048512 : Int) < (n : Int)) = false := by rw [decide_eq_false_iff_not]; omega
    have hml : m ≤ 1048576 := by omega
    have hnl : n ≤ 1048512 := by omega
    replace hml := Lib.hid hml
    replace hnl := Lib.hid hnl
    replace hv := Lib.hid hv
    replace hbad := Lib.hid hbad
    go_upto_region 3 with (fail)
    refine wp_region_lit ?_
    refine wpList_reads (by kernel_rfl) (.slice ak m ck) (by go_simp) ?_
    simp only [Act.put, List.setIfInBounds_toArray, List.set_cons_zero, List.set_cons_succ]
    refine wpList_enter (by kernel_rfl) 128 #[.slice ak m ck] (by go_simp) (of_any _ k w1 hk1.out (by rw [← hm.out]; have := hml.out; omega)) ?_
    rintro e w2 ⟨m2, rfl⟩
    obtain ⟨w3, hw3⟩ : ∃ w3, w3 = w2.alloc (.cells #[.slice ab n cb] 22) := ⟨_, rfl⟩
    have m3 : Mod (fun _ => False) w2 w3 := by rw [hw3]; exact (Mod.refl _ _).alloc _
    have g3 : w3.heap[w2.heap.size]? = some (.cells #[.slice ab n cb] 22 (0,0)) := by rw [hw3]; exact hp_new _ _ _ rfl
    have hb3 := (hb1.out.mod m2 (fun _ _ h => h)).mod m3 (fun _ _ h => h)
    have hL3 : ListAt w3 (.slice (some ⟨w2.heap.size, 0, none⟩) 1 1) [b] := by
      refine ⟨w2.heap.size, 0, 1, rfl, fun j hj => ?_⟩
      obtain rfl : j = 0 := by simp at hj; omega
      exact ⟨_, by rw [cell_of_row _ _ _ _ _ _ g3]; rfl, hb3⟩
    have m03 := (m1.out.trans m2).trans m3
    have x3 := (m2.trans m3).heap x1.out (fun h => h)
    have hfl : [b].flatten = b := by simp
    replace hw3 := Lib.hid hw3
    replace m03 := Lib.hid m03
    replace x3 := Lib.hid x3
    clear m2 m3 g3 hb3
    refine ⟨_, rfl, ?_⟩
    simp only [Act.put, List.setIfInBounds_toArray, List.set_cons_zero, List.set_cons_succ]
    refine wpList_reads (by kernel_rfl) (.slice ab n cb) (by go_simp) ?_
    simp only [Act.put, List.setIfInBounds_toArray, List.set_cons_zero, List.set_cons_succ]
    refine wpList_yields (by kernel_rfl) (.slice (some ⟨w2.heap.size, 0, none⟩) 1 1) w3 (by rw [hw3.out]; go_simp) ?_
    simp only [Act.put, List.setIfInBounds_toArray, List.set_cons_zero, List.set_cons_succ]
    refine wpList_enter (by kernel_rfl) 129 #[.agg (encB (keyS k)), .slice (some ⟨w2.heap.size, 0, none⟩) 1 1] (by go_simp) (mac_any (keyS k) (keyS_length k) _ [b] w3 hL3 (by simp) (by rw [hfl, ← hn.out]; have := hnl.out; omega)) ?_
    rintro e w4 ⟨m4, rfl⟩
    rw [hfl]
    obtain ⟨RR, hR⟩ : ∃ RR, RR = macS (keyS k) b := ⟨_, rfl⟩
    have hRl : RR.length = 32 := by rw [hR]; exact macS_length _ _
    rw [← hR]
    obtain ⟨wz, sz, mz, xz⟩ := bytes_store (m4.heap x3.out (fun h => h)) (s' := RR) (by decide) hRl
    have hfin : Mod (fun _ => False) w wz := (m03.out.trans m4).trans' mz (fun i hi h => by omega)
    replace hR := Lib.hid hR
    replace hfin := Lib.hid hfin
    clear m4 mz
    refine ⟨_, rfl, ?_⟩
    simp only [Act.put, List.setIfInBounds_toArray, List.set_cons_zero, List.set_cons_succ]
    refine wpList_store_to rfl _ _ _ rfl _ _ _ rfl rfl _ sz ?_
    simp only [Act.put, List.setIfInBounds_toArray, List.set_cons_zero, List.set_cons_succ]
    refine wpList_reads (by kernel_rfl) (.int .i64 0) (by go_simp) ?_
    simp only [Act.put, List.setIfInBounds_toArray, List.set_cons_zero, List.set_cons_succ]
    go_wp2
    exact bodyPost_ret (v := .tuple #[.agg (encB RR), .int .i64 0]) (results_sum2 rfl _ _ _ _ _ rfl rfl xz hRl) rfl ⟨hfin.out, by rw [hv.out, hR.out]⟩

set_option maxRecDepth 100000 in
set_option maxHeartbeats 2000000 in
theorem Extract_any (vk vb : Value) (k b : List (BitVec 8)) (w : World) (hk : ByteAt w vk k) (hb : ByteAt w vb b) (hkl : k.length < 4611686018427387904) (hbl : b.length < 4611686018427387904) :
    Calls Tryz.prog 71 #[vk, vb] w fun e w' => Mod (fun _ => False) w w' ∧ e = .returned (macV k b) := by
  obtain ⟨w1, hw1⟩ : ∃ w1, w1 = w.alloc (.cells (encB (zb 32)) 62) := ⟨_, rfl⟩
  have m1 : Mod (fun _ => False) w w1 := by rw [hw1]; exact (Mod.refl _ _).alloc _
  have x1 : w1.heap[w.heap.size]? = some (.cells (encB (zb 32)) 62 (0,0)) := by rw [hw1]; exact hp_new _ _ _ rfl
  have hk1 := hk.mod m1 (fun _ _ h => h)
  have hb1 := hb.mod m1 (fun _ _ h => h)
  obtain ⟨ak, ck, hvk, _⟩ := hk.slice
  obtain ⟨ab, cb, hvb, _⟩ := hb.slice
  replace hw1 := Lib.hid hw1
  replace hk1 := Lib.hid hk1
  replace hb1 := Lib.hid hb1
  replace m1 := Lib.hid m1
  replace x1 := Lib.hid x1
  replace hvk := Lib.hid hvk
  replace hvb := Lib.hid hvb
  clear hk hb
  go_enter Tryz.func71, Tryz.ntmps71
  go_upto_region 0 with (fail)
  refine wp_region_lit ?_
  refine wpList_yields (by kernel_rfl) _ _ (alloc_arr 62 _ zero32 _ _ _ rfl) ?_
  simp only [Act.put, List.setIfInBounds_toArray, List.set_cons_zero, List.set_cons_succ]
  rw [← hw1.out]
  refine wpList_reads (by kernel_rfl) (.int .i64 0) (by go_simp) ?_
  simp only [Act.put, List.setIfInBounds_toArray, List.set_cons_zero, List.set_cons_succ]
  go_upto_region 1 with (fail)
  refine wp_region_lit ?_
  refine wpList_reads (by kernel_rfl) (vk) (by go_simp) ?_
  simp only [Act.put, List.setIfInBounds_toArray, List.set_cons_zero, List.set_cons_succ]
  refine wpList_reads (by kernel_rfl) (vb) (by go_simp) ?_
  simp only [Act.put, List.setIfInBounds_toArray, List.set_cons_zero, List.set_cons_succ]
  refine wpList_enter (by kernel_rfl) 110 #[vk, vb] (by go_simp) (Mac_any _ _ k b w1 hk1.out hb1.out hkl hbl) ?_
  rintro e w2 ⟨m2, rfl⟩
  unfold macV
  obtain ⟨RR, hR⟩ : ∃ RR, RR = macB k b := ⟨_, rfl⟩
  obtain ⟨E, hE⟩ : ∃ E, E = macE k b := ⟨_, rfl⟩
  have hRl : RR.length = 32 := by rw [hR]; exact macB_length _ _
  rw [← hR, ← hE]
  obtain ⟨wz, sz, mz, xz⟩ := bytes_store (m2.heap x1.out (fun h => h)) (s' := RR) (by decide) hRl
  have hfin : Mod (fun _ => False) w wz := (m1.out.trans m2).trans' mz (fun i hi h => by omega)
  replace hR := Lib.hid hR
  replace hE := Lib.hid hE
  replace hfin := Lib.hid hfin
  clear m2 mz
  refine ⟨_, rfl, ?_⟩
  simp only [Act.put, List.setIfInBounds_toArray, List.set_cons_zero, List.set_cons_succ]
  refine wpList_reads (by kernel_rfl) (.agg (encB RR)) (by go_simp) ?_
  simp only [Act.put, List.setIfInBounds_toArray, List.set_cons_zero, List.set_cons_succ]
  refine wpList_reads (by kernel_rfl) (.int .i64 (E : Int)) (by go_simp) ?_
  simp only [Act.put, List.setIfInBounds_toArray, List.set_cons_zero, List.set_cons_succ]
  refine wpList_store_to rfl _ _ _ rfl _ _ _ rfl rfl _ sz ?_
  simp only [Act.put, List.setIfInBounds_toArray, List.set_cons_zero, List.set_cons_succ]
  refine wpList_reads (by kernel_rfl) (.int .i64 (E : Int)) (by go_simp) ?_
  simp only [Act.put, List.setIfInBounds_toArray, List.set_cons_zero, List.set_cons_succ]
  go_wp2
  exact bodyPost_ret (v := .tuple #[.agg (encB RR), .int .i64 (E : Int)]) (results_sum2 rfl _ _ _ _ _ rfl rfl xz hRl) rfl ⟨hfin.out, by unfold macV; rw [hR.out, hE.out]⟩
end Go.Proofs.YtppjnkgmbmhlcaaGreatDoor
