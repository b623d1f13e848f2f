/-
  mailcoachlaw17.lives is true.
-/
import Derived.Test.YtkfikoacohogaaaDoorHg
import Derived.Test.YtkfikoacohogaaaDoorMA
import Derived.Lib.MinMax
namespace Go.Proofs.YtkfikoacohogaaaDoor
set_option maxRecDepth 100000
open Go Go.RowKit
set_option linter.unusedSimpArgs false
set_option linter.unusedVariables false

def p7 : List (BitVec 8) := 7 :: List.replicate 31 0
def hfin : HD := ⟨3, z32, z4, p7⟩
theorem hfin_ok : hfin.Ok := ⟨by decide, by decide, by decide, by decide, by decide⟩
def hcli : HD := ⟨1, z32, z4, p7⟩
theorem hcli_ok : hcli.Ok := ⟨by decide, by decide, by decide, by decide, by decide⟩
theorem hfin_valid : HValid hfin := by decide
theorem hcli_not : ¬ HValid hcli := by decide
theorem hfin_put : hput hfin = 3 :: p7 := by decide
theorem hfin_get : hget ((3 :: p7 : List (BitVec 8)).take 32) = .inl 4 := by decide
theorem four_get : hget [4] = .inl 5 := by decide
theorem hello_set_p0 {w : World} {g : Nat} (x : HelloAt w g (hzero 3)) : HelloAt (w.setCell ⟨g, 37, none⟩ (.int .u8 7)) g hfin := by
  unfold HelloAt
  rw [setCell_row _ _ _ _ _ _ x, setRow_heap _ _ _ _ _ _ x]
  congr 2
theorem store_u8 {w : World} {g off : Nat} {x : Value} {n : Int} (hc : w.cell? ⟨g, off, none⟩ = some x) (hf : w.frozen? ⟨g, off, none⟩ = false) : (storeVar 5 ⟨g, off, none⟩ (.int .u8 n)).run Tryd.prog w = .ok () (w.setCell ⟨g, off, none⟩ (.int .u8 n)) := by
  go_simp
theorem build_cli (w : World) (ev : Operand → Value) (o : Oper) (x y : Operand) (ho : o.op = .build 54 #[(0, x), (3, y)]) (hx : ev x = .int .u8 1) (hy : ev y = .agg (bytesV p7).toArray) : (execOp ev o).run Tryd.prog w = .ok (.value (.agg (helloC hcli))) w := by
  have h : (Instr.build 54 #[(0, .int .u8 1), (3, .agg (bytesV p7).toArray)]).run Tryd.prog w = .ok (.agg (helloC hcli)) w := by kernel_rfl
  unfold execOp
  simp only [ho]
  simp only [List.map_toArray, List.map_cons, List.map_nil, hx, hy, Sem.run_bind, h, Result.andThen_ok, Sem.run_pure]

set_option maxRecDepth 100000 in
set_option maxHeartbeats 4000000 in
theorem lives_any (w : World) : Calls Tryd.prog 15 #[] w fun e w' => Mod (fun _ => False) w w' ∧ e = .returned (.bool true) := by
  have o3 : (hzero 3).Ok := hzero_ok (by decide)
  have o0 : (hzero 0).Ok := hzero_ok (by decide)
  obtain ⟨w1, hw1⟩ : ∃ w1, w1 = w.alloc (.cells (helloC (hzero 0)) 54) := ⟨_, rfl⟩
  have m1 : Mod (fun _ => False) w w1 := by rw [hw1]; exact (Mod.refl _ _).alloc _
  have x1 : HelloAt w1 w.heap.size (hzero 0) := by rw [hw1]; exact hp_new _ _ _ rfl
  obtain ⟨w2, s2, m2, x2⟩ := hello_store o0 x1 o3
  have hth := there_mid (off := 37) (n := 1) x2 (by show 38 ≤ (helloL (hzero 3)).toArray.size; rw [List.size_toArray, helloL_length o3]; omega) 0 (by omega)
  obtain ⟨hc2, hf2⟩ := hth
  obtain ⟨u2, hu2⟩ := Option.isSome_iff_exists.1 hc2
  have s3 := store_u8 (n := 7) hu2 hf2
  have x3 := hello_set_p0 x2
  have m3 := m2.trans (Mod.one_setCell w2 w.heap.size 37 (.int .u8 7))
  obtain ⟨w3, hw3⟩ : ∃ w3, w3 = w2.setCell ⟨w.heap.size, 37, none⟩ (.int .u8 7) := ⟨_, rfl⟩
  rw [Nat.add_zero, ← hw3] at s3
  rw [← hw3] at x3 m3
  have m03 : Mod (fun _ => False) w w3 := m1.trans' m3 (fun i hi h => by omega)
  have hlt := lt_of_heap x1
  have l3 := hello_load hfin_ok x3
  replace hw1 := Lib.hid hw1
  replace x1 := Lib.hid x1
  replace x3 := Lib.hid x3
  replace m03 := Lib.hid m03
  clear hw3 m3 x2 m2 hu2 hf2 hc2 m1
  go_enter Tryd.func15, Tryd.ntmps15
  go_upto_region 1 with (fail)
  refine wp_region_lit ?_
  refine wpList_yields (by kernel_rfl) _ _ (build_hello_op 3 _ _ _ _ rfl rfl) ?_
  simp only [Act.put, List.setIfInBounds_toArray, List.set_cons_zero, List.set_cons_succ]
  refine wpList_yields (by kernel_rfl) _ _ (alloc_hello _ _ _ rfl) ?_
  simp only [Act.put, List.setIfInBounds_toArray, List.set_cons_zero, List.set_cons_succ]
  rw [← hw1.out]
  refine wpList_store_to rfl _ _ _ rfl _ _ _ rfl rfl _ s2 ?_
  simp only [Act.put, List.setIfInBounds_toArray, List.set_cons_zero, List.set_cons_succ]
  go_upto_region 2 with (fail)
  refine wp_region_lit ?_
  refine wpList_reads (by kernel_rfl) (.pointer (some ⟨w.heap.size, 37, none⟩)) (by go_simp) ?_
  simp only [Act.put, List.setIfInBounds_toArray, List.set_cons_zero, List.set_cons_succ]
  refine wpList_reads (by kernel_rfl) (.pointer (some ⟨w.heap.size, 37, none⟩)) (by go_simp) ?_
  simp only [Act.put, List.setIfInBounds_toArray, List.set_cons_zero, List.set_cons_succ]
  refine wpList_store_to rfl _ _ _ rfl _ _ _ rfl rfl _ s3 ?_
  simp only [Act.put, List.setIfInBounds_toArray, List.set_cons_zero, List.set_cons_succ]
  go_upto_region 3 with (fail)
  refine wp_region_lit ?_
  refine wpList_reads (by kernel_rfl) (.agg (helloC hfin)) (run_load_op rfl rfl l3) ?_
  simp only [Act.put, List.setIfInBounds_toArray, List.set_cons_zero, List.set_cons_succ]
  refine wpList_enter (by kernel_rfl) 12 #[.agg (helloC hfin)] (by go_simp) (hput_any hfin hfin_ok _) ?_
  rintro e w4 ⟨m4, h4⟩
  rw [if_pos hfin_valid, hfin_put] at h4
  obtain ⟨v4, rfl, b4, g4, hg4, hv4⟩ := h4
  have hv4' : v4 = .slice (some ⟨g4, 0, none⟩) 33 33 := hv4
  subst hv4'
  obtain ⟨v5, b5, hcut⟩ := b4.cutTo 32 (by decide)
  have hcut' : ∀ w', (Instr.slice 27 (.slice (some ⟨g4, 0, none⟩) 33 33) none (some (.int .i64 32)) none).run Tryd.prog w' = .ok v5 w' := hcut
  have m04 := m03.out.trans m4
  have x4 := x3.out.mod m4 (fun h => h)
  have hmin : min (32 : Int) 33 = 32 := by decide
  replace b5 := Lib.hid b5
  replace b4 := Lib.hid b4
  replace m04 := Lib.hid m04
  replace x4 := Lib.hid x4
  clear m4 hv4 hcut
  refine ⟨_, rfl, ?_⟩
  simp only [Act.put, List.setIfInBounds_toArray, List.set_cons_zero, List.set_cons_succ]
  refine wpList_reads (by kernel_rfl) (.tuple #[.slice (some ⟨g4, 0, none⟩) 33 33, .int .i64 0]) (by go_simp) ?_
  simp only [Act.put, List.setIfInBounds_toArray, List.set_cons_zero, List.set_cons_succ]
  refine wpList_reads (by kernel_rfl) (.slice (some ⟨g4, 0, none⟩) 33 33) (by go_simp) ?_
  simp only [Act.put, List.setIfInBounds_toArray, List.set_cons_zero, List.set_cons_succ]
  refine wpList_reads (by kernel_rfl) (.int .i64 0) (by go_simp) ?_
  simp only [Act.put, List.setIfInBounds_toArray, List.set_cons_zero, List.set_cons_succ]
  refine wpList_reads (by kernel_rfl) (.slice (some ⟨g4, 0, none⟩) 33 33) (by go_simp) ?_
  simp only [Act.put, List.setIfInBounds_toArray, List.set_cons_zero, List.set_cons_succ]
  refine wpList_reads (by kernel_rfl) (.int .i64 0) (by go_simp) ?_
  simp only [Act.put, List.setIfInBounds_toArray, List.set_cons_zero, List.set_cons_succ]
  go_upto_region 4 with (fail)
  refine wp_region_lit ?_
  refine wpList_reads (by kernel_rfl) (.slice (some ⟨g4, 0, none⟩) 33 33) (by go_simp) ?_
  simp only [Act.put, List.setIfInBounds_toArray, List.set_cons_zero, List.set_cons_succ]
  refine wpList_reads (by kernel_rfl) (.slice (some ⟨g4, 0, none⟩) 33 33) (by go_simp) ?_
  simp only [Act.put, List.setIfInBounds_toArray, List.set_cons_zero, List.set_cons_succ]
  refine wpList_reads (by kernel_rfl) (.int .i64 33) (by go_simp) ?_
  simp only [Act.put, List.setIfInBounds_toArray, List.set_cons_zero, List.set_cons_succ]
  refine wpList_reads (by kernel_rfl) (.int .i64 32) (by go_simp) ?_
  simp only [Act.put, List.setIfInBounds_toArray, List.set_cons_zero, List.set_cons_succ]
  refine wpList_reads (by kernel_rfl) (v5) (by go_simp) ?_
  simp only [Act.put, List.setIfInBounds_toArray, List.set_cons_zero, List.set_cons_succ]
  refine wpList_enter (by kernel_rfl) 59 #[v5] (by go_simp) (hget_any v5 _ w4 b5.out (by decide)) ?_
  rintro e w5 ⟨m5, rfl⟩
  have e5 : hgV ((3 :: p7 : List (BitVec 8)).take 32) = .tuple #[.agg (helloC (hzero 0)), .int .i64 0, .int .i64 4] := by
    unfold hgV
    rw [hfin_get]
    rfl
  rw [e5]
  obtain ⟨w5a, hw5⟩ : ∃ w5a, w5a = w5.alloc (.cells (helloC (hzero 0)) 54) := ⟨_, rfl⟩
  have xa5 : HelloAt w5a w5.heap.size (hzero 0) := by rw [hw5]; exact hp_new _ _ _ rfl
  obtain ⟨w5b, s5, mb5, xb5⟩ := hello_store o0 xa5 o0
  have mc5 : Mod (fun _ => False) w5 w5b := by
    refine Mod.trans' (b := w5a) ?_ mb5 (fun i hi h => by omega)
    rw [hw5]
    exact (Mod.refl _ _).alloc _
  replace hw5 := Lib.hid hw5
  clear e5 xa5 mb5 xb5
  refine ⟨_, rfl, ?_⟩
  simp only [Act.put, List.setIfInBounds_toArray, List.set_cons_zero, List.set_cons_succ]
  refine wpList_reads (by kernel_rfl) (.tuple #[.agg (helloC (hzero 0)), .int .i64 0, .int .i64 4]) (by go_simp) ?_
  simp only [Act.put, List.setIfInBounds_toArray, List.set_cons_zero, List.set_cons_succ]
  refine wpList_reads (by kernel_rfl) (.agg (helloC (hzero 0))) (by go_simp) ?_
  simp only [Act.put, List.setIfInBounds_toArray, List.set_cons_zero, List.set_cons_succ]
  refine wpList_reads (by kernel_rfl) (.int .i64 0) (by go_simp) ?_
  simp only [Act.put, List.setIfInBounds_toArray, List.set_cons_zero, List.set_cons_succ]
  refine wpList_reads (by kernel_rfl) (.int .i64 4) (by go_simp) ?_
  simp only [Act.put, List.setIfInBounds_toArray, List.set_cons_zero, List.set_cons_succ]
  refine wpList_yields (by kernel_rfl) _ _ (alloc_hello _ _ _ rfl) ?_
  simp only [Act.put, List.setIfInBounds_toArray, List.set_cons_zero, List.set_cons_succ]
  rw [← hw5.out]
  refine wpList_store_to rfl _ _ _ rfl _ _ _ rfl rfl _ s5 ?_
  simp only [Act.put, List.setIfInBounds_toArray, List.set_cons_zero, List.set_cons_succ]
  refine wpList_reads (by kernel_rfl) (.int .i64 0) (by go_simp) ?_
  simp only [Act.put, List.setIfInBounds_toArray, List.set_cons_zero, List.set_cons_succ]
  refine wpList_reads (by kernel_rfl) (.int .i64 4) (by go_simp) ?_
  simp only [Act.put, List.setIfInBounds_toArray, List.set_cons_zero, List.set_cons_succ]
  obtain ⟨w6, hw6⟩ : ∃ w6, w6 = w5b.alloc (.cells #[.int .u8 4] 5) := ⟨_, rfl⟩
  have r6 : w6.heap[w5b.heap.size]? = some (.cells (encB [4]) 5 (0,0)) := by rw [hw6]; exact hp_new _ _ _ rfl
  have b6 := ByteAt.row r6
  have m6 : Mod (fun _ => False) w w6 := by
    refine ((m04.out.trans m5).trans mc5).trans (?_ : Mod _ w5b w6)
    rw [hw6]
    exact (Mod.refl _ _).alloc _
  have m46 : Mod (fun _ => False) w4 w6 := by
    refine (m5.trans mc5).trans (?_ : Mod _ w5b w6)
    rw [hw6]
    exact (Mod.refl _ _).alloc _
  replace hw6 := Lib.hid hw6
  replace b6 := Lib.hid b6
  replace m6 := Lib.hid m6
  replace m46 := Lib.hid m46
  clear r6 m5 mc5
  go_upto_region 5 with (fail)
  refine wp_region_lit ?_
  refine wpList_yields (by kernel_rfl) (.slice (some ⟨w5b.heap.size, 0, none⟩) 1 1) (w5b.alloc (.cells #[.int .u8 4] 5)) (by go_simp) ?_
  simp only [Act.put, List.setIfInBounds_toArray, List.set_cons_zero, List.set_cons_succ]
  rw [← hw6.out]
  refine wpList_enter (by kernel_rfl) 59 #[.slice (some ⟨w5b.heap.size, 0, none⟩) 1 1] (by go_simp) (hget_any _ [4] w6 b6.out (by decide)) ?_
  rintro e w7 ⟨m7, rfl⟩
  have e7 : hgV [4] = .tuple #[.agg (helloC (hzero 0)), .int .i64 0, .int .i64 5] := by
    unfold hgV
    rw [four_get]
    rfl
  rw [e7]
  obtain ⟨w7a, hw7⟩ : ∃ w7a, w7a = w7.alloc (.cells (helloC (hzero 0)) 54) := ⟨_, rfl⟩
  have xa7 : HelloAt w7a w7.heap.size (hzero 0) := by rw [hw7]; exact hp_new _ _ _ rfl
  obtain ⟨w7b, s7, mb7, xb7⟩ := hello_store o0 xa7 o0
  have mc7 : Mod (fun _ => False) w7 w7b := by
    refine Mod.trans' (b := w7a) ?_ mb7 (fun i hi h => by omega)
    rw [hw7]
    exact (Mod.refl _ _).alloc _
  replace hw7 := Lib.hid hw7
  clear e7 xa7 mb7 xb7
  refine ⟨_, rfl, ?_⟩
  simp only [Act.put, List.setIfInBounds_toArray, List.set_cons_zero, List.set_cons_succ]
  refine wpList_reads (by kernel_rfl) (.tuple #[.agg (helloC (hzero 0)), .int .i64 0, .int .i64 5]) (by go_simp) ?_
  simp only [Act.put, List.setIfInBounds_toArray, List.set_cons_zero, List.set_cons_succ]
  refine wpList_reads (by kernel_rfl) (.agg (helloC (hzero 0))) (by go_simp) ?_
  simp only [Act.put, List.setIfInBounds_toArray, List.set_cons_zero, List.set_cons_succ]
  refine wpList_reads (by kernel_rfl) (.int .i64 0) (by go_simp) ?_
  simp only [Act.put, List.setIfInBounds_toArray, List.set_cons_zero, List.set_cons_succ]
  refine wpList_reads (by kernel_rfl) (.int .i64 5) (by go_simp) ?_
  simp only [Act.put, List.setIfInBounds_toArray, List.set_cons_zero, List.set_cons_succ]
  refine wpList_yields (by kernel_rfl) _ _ (alloc_hello _ _ _ rfl) ?_
  simp only [Act.put, List.setIfInBounds_toArray, List.set_cons_zero, List.set_cons_succ]
  rw [← hw7.out]
  refine wpList_store_to rfl _ _ _ rfl _ _ _ rfl rfl _ s7 ?_
  simp only [Act.put, List.setIfInBounds_toArray, List.set_cons_zero, List.set_cons_succ]
  refine wpList_reads (by kernel_rfl) (.int .i64 0) (by go_simp) ?_
  simp only [Act.put, List.setIfInBounds_toArray, List.set_cons_zero, List.set_cons_succ]
  refine wpList_reads (by kernel_rfl) (.int .i64 5) (by go_simp) ?_
  simp only [Act.put, List.setIfInBounds_toArray, List.set_cons_zero, List.set_cons_succ]
  have m7b := (m46.out.trans m7).trans mc7
  have x7 := x4.out.mod m7b (fun h => h)
  have b7 := b4.out.mod m7b (fun _ _ h => h)
  have m07 := (m6.out.trans m7).trans mc7
  have lp := hello_load_p hfin_ok x7
  replace x7 := Lib.hid x7
  replace b7 := Lib.hid b7
  replace m07 := Lib.hid m07
  clear m7b m7 mc7
  go_upto_region 6 with (fail)
  refine wp_region_lit ?_
  refine wpList_reads (by kernel_rfl) (.pointer (some ⟨w.heap.size, 37, none⟩)) (by go_simp) ?_
  simp only [Act.put, List.setIfInBounds_toArray, List.set_cons_zero, List.set_cons_succ]
  refine wpList_reads (by kernel_rfl) (.agg (bytesV p7).toArray) (run_load_op rfl rfl lp) ?_
  simp only [Act.put, List.setIfInBounds_toArray, List.set_cons_zero, List.set_cons_succ]
  refine wpList_yields (by kernel_rfl) _ _ (build_cli _ _ _ _ _ rfl rfl rfl) ?_
  simp only [Act.put, List.setIfInBounds_toArray, List.set_cons_zero, List.set_cons_succ]
  refine wpList_enter (by kernel_rfl) 12 #[.agg (helloC hcli)] (by go_simp) (hput_any hcli hcli_ok _) ?_
  rintro e w8 ⟨m8, h8⟩
  rw [if_neg hcli_not] at h8
  subst h8
  have m08 := m07.out.trans m8
  have b8 := b7.out.mod m8 (fun _ _ h => h)
  obtain ⟨ad, cap, hv, hcs⟩ := b8.slice
  obtain rfl : ad = some ⟨g4, 0, none⟩ := by injection hv with h1; exact h1.symm
  obtain ⟨ga, oa, ha, _, c0⟩ := hcs 0 (by decide)
  obtain ⟨gb, ob, hb, _, c1⟩ := hcs 1 (by decide)
  obtain ⟨rfl, rfl⟩ : g4 = ga ∧ 0 = oa := by injection ha with h1; injection h1 with h1 h2; exact ⟨h1, h2⟩
  obtain ⟨rfl, rfl⟩ : g4 = gb ∧ 0 = ob := by injection hb with h1; injection h1 with h1 h2; exact ⟨h1, h2⟩
  have cb0 : w8.cell? ⟨g4, 0, none⟩ = some (.int .u8 3) := c0
  have cb1 : w8.cell? ⟨g4, 1, none⟩ = some (.int .u8 7) := c1
  replace m08 := Lib.hid m08
  clear hcs c0 c1 b8 m8 hv ha hb
  refine ⟨_, rfl, ?_⟩
  simp only [Act.put, List.setIfInBounds_toArray, List.set_cons_zero, List.set_cons_succ]
  refine wpList_reads (by kernel_rfl) (.tuple #[.slice none 0 0, .int .i64 1]) (by go_simp) ?_
  simp only [Act.put, List.setIfInBounds_toArray, List.set_cons_zero, List.set_cons_succ]
  refine wpList_reads (by kernel_rfl) (.slice none 0 0) (by go_simp) ?_
  simp only [Act.put, List.setIfInBounds_toArray, List.set_cons_zero, List.set_cons_succ]
  refine wpList_reads (by kernel_rfl) (.int .i64 1) (by go_simp) ?_
  simp only [Act.put, List.setIfInBounds_toArray, List.set_cons_zero, List.set_cons_succ]
  refine wpList_reads (by kernel_rfl) (.slice none 0 0) (by go_simp) ?_
  simp only [Act.put, List.setIfInBounds_toArray, List.set_cons_zero, List.set_cons_succ]
  refine wpList_reads (by kernel_rfl) (.int .i64 1) (by go_simp) ?_
  simp only [Act.put, List.setIfInBounds_toArray, List.set_cons_zero, List.set_cons_succ]
  go_wp2
  go_ret
  exact ⟨m08.out, rfl⟩
end Go.Proofs.YtkfikoacohogaaaDoor
