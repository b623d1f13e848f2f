/-
  HelloBack: its walk. Printed by gen/hlaws.py.
-/
import Derived.Test.YtmgamagmlokpmaaHv
namespace Go.Proofs.Ytmgamagmlokpmaa
open Go Go.RowKit
set_option linter.unusedSimpArgs false
set_option linter.unusedVariables false

set_option maxRecDepth 100000 in
set_option maxHeartbeats 4000000 in
theorem hback_walk (v : Value) (h : HD) (o : h.Ok) (cs : List (BitVec 8)) (w : World) (hm : ByteAt w v cs) (hl : cs.length ≤ 140737488351232) :
    Calls Try.prog 3 #[.agg (helloC h), v] w fun e w' => e = .returned (.bool true) ∧ Below w.heap.size w w' := by
  obtain ⟨ad, cap, rfl, _⟩ := hm.slice
  obtain ⟨w1, hw1⟩ : ∃ w1, w1 = w.alloc (.cells (helloC h) 27) := ⟨_, rfl⟩
  have x1 : HelloAt w1 w.heap.size h := by rw [hw1]; exact hp_new _ _ _ rfl
  have m1 : Mod (fun _ => False) w w1 := by rw [hw1]; exact (Mod.refl _ _).alloc _
  have l1 := hello_load o x1
  have o0 : (hzero 0).Ok := hzero_ok (by decide)
  have hpl : (hput h).length ≤ 200 := by
    have := vputs_len h.l
    unfold hput
    split <;> split <;> simp only [List.length_cons, List.length_append, List.length_nil, o.a, o.p] <;> (have := o.l; omega)
  obtain ⟨M, hM⟩ : ∃ M, M = cs.length := ⟨_, rfl⟩
  rw [← hM] at hm ⊢
  replace hw1 := Lib.hid hw1
  replace x1 := Lib.hid x1
  replace m1 := Lib.hid m1
  replace hm := Lib.hid hm
  replace hl := Lib.hid hl
  replace hM := Lib.hid hM
  replace hpl := Lib.hid hpl
  go_enter Try.func3, Try.ntmps3
  go_upto_region 1 with (fail)
  rw [← hw1.out]
  refine wp_region_lit ?_
  refine wpList_reads (by kernel_rfl) (.agg (helloC h)) (run_load_op rfl rfl l1) ?_
  simp only [Act.put, List.setIfInBounds_toArray, List.set_cons_zero, List.set_cons_succ]
  refine wpList_enter (by kernel_rfl) 6 #[.agg (helloC h)] (by go_simp) (hput_any h o w1) ?_
  rintro e w2 ⟨m2, h2⟩
  have x2 := x1.out.mod m2 (fun h => h)
  have m02 := m1.out.trans m2
  replace x2 := Lib.hid x2
  replace m02 := Lib.hid m02
  by_cases hv : HValid h
  · rw [if_pos hv] at h2
    obtain ⟨v2, rfl, b2, g2, hg2, hv2⟩ := h2
    obtain ⟨n, hn⟩ : ∃ n, n = (hput h).length := ⟨_, rfl⟩
    rw [← hn] at hv2
    subst hv2
    have hgp := hget_put o hv cs
    have hn2 : n ≤ 200 := by rw [hn]; exact hpl.out
    have own0 : w2.ownsRow w2.heap.size 5 1 (.slice none 0 0) 0 (bytesV []) := ⟨rfl, .inl ⟨rfl, rfl⟩⟩
    replace b2 := Lib.hid b2
    replace hn := Lib.hid hn
    replace hgp := Lib.hid hgp
    replace hn2 := Lib.hid hn2
    replace own0 := Lib.hid own0
    clear m2
    refine ⟨_, rfl, ?_⟩
    simp only [Act.put, List.setIfInBounds_toArray, List.set_cons_zero, List.set_cons_succ]
    refine wpList_reads (by kernel_rfl) (.tuple #[.slice (some ⟨g2, 0, none⟩) n n, .int .i64 0]) (by go_simp) ?_
    simp only [Act.put, List.setIfInBounds_toArray, List.set_cons_zero, List.set_cons_succ]
    refine wpList_reads (by kernel_rfl) (.slice (some ⟨g2, 0, none⟩) n n) (by go_simp) ?_
    simp only [Act.put, List.setIfInBounds_toArray, List.set_cons_zero, List.set_cons_succ]
    refine wpList_reads (by kernel_rfl) (.int .i64 0) (by go_simp) ?_
    simp only [Act.put, List.setIfInBounds_toArray, List.set_cons_zero, List.set_cons_succ]
    refine wpList_reads (by kernel_rfl) (.slice (some ⟨g2, 0, none⟩) n n) (by go_simp) ?_
    simp only [Act.put, List.setIfInBounds_toArray, List.set_cons_zero, List.set_cons_succ]
    refine wpList_reads (by kernel_rfl) (.int .i64 0) (by go_simp) ?_
    simp only [Act.put, List.setIfInBounds_toArray, List.set_cons_zero, List.set_cons_succ]
    go_upto_region 4 with (fail)
    refine wp_region_lit ?_
    refine wpList_reads (by kernel_rfl) (.slice (some ⟨g2, 0, none⟩) n n) (by go_simp) ?_
    simp only [Act.put, List.setIfInBounds_toArray, List.set_cons_zero, List.set_cons_succ]
    refine wpList_append_bytes rfl _ _ rfl w2.heap.size 0 _ _ [] (hput h) rfl rfl own0.out b2.out (by have := hpl.out; omega) (Nat.le_refl _) ?_
    intro v3 w3 own3 grow3
    have m3 := own_grown (base' := 0) own0.out grow3
    have bm3 := hm.out.mod (m02.out.trans' m3 (fun i hi h => by have := m02.out.size; omega)) (fun _ _ h => h)
    have hs3 := m3.size
    replace m3 := Lib.hid m3
    replace own3 := Lib.hid own3
    replace bm3 := Lib.hid bm3
    clear grow3
    simp only [Act.put, List.setIfInBounds_toArray, List.set_cons_zero, List.set_cons_succ]
    refine wpList_reads (by kernel_rfl) (.slice ad M cap) (by go_simp) ?_
    simp only [Act.put, List.setIfInBounds_toArray, List.set_cons_zero, List.set_cons_succ]
    refine wpList_append_bytes rfl _ _ rfl w2.heap.size _ _ _ ([] ++ hput h) cs rfl rfl own3.out bm3.out (by have := hpl.out; have := hl.out; omega) hs3 ?_
    intro v4 w4 own4 grow4
    have m4 := own_grown (base' := 0) own3.out grow4
    have b4 := byteAt_of_own own4
    rw [List.nil_append] at b4
    have m24 := m3.out.trans m4
    have b24 : ByteAt w4 (.slice (some ⟨g2, 0, none⟩) n n) (hput h) ∨ True := .inr trivial
    have m04 : Mod (fun _ => False) w w4 := m02.out.trans' m24 (fun i hi h => by have := m02.out.size; omega)
    have x4 : HelloAt w4 w.heap.size h := x2.out.mod m24 (fun h => by have := lt_of_heap x2.out; omega)
    replace b4 := Lib.hid b4
    replace m04 := Lib.hid m04
    replace x4 := Lib.hid x4
    clear own4 grow4 m4 m24 b24
    simp only [Act.put, List.setIfInBounds_toArray, List.set_cons_zero, List.set_cons_succ]
    refine wpList_enter (by kernel_rfl) 8 #[v4] (by go_simp) (hget_any v4 _ w4 b4.out (by rw [List.length_append]; have := hpl.out; have := hl.out; omega)) ?_
    rintro e w5 ⟨m5, rfl⟩
    rw [show hgV (hput h ++ cs) = .tuple #[.agg (helloC h), .int .i64 (n : Int), .int .i64 0] by unfold hgV; rw [hgp.out, hn.out]]
    obtain ⟨w5a, hw5⟩ : ∃ w5a, w5a = w5.alloc (.cells (helloC (hzero 0)) 27) := ⟨_, rfl⟩
    have xa5 : HelloAt w5a w5.heap.size (hzero 0) := by rw [hw5]; exact hp_new _ _ _ rfl
    obtain ⟨w5b, s5, mb5, xb5⟩ := hello_store o0 xa5 o
    have mc5 : Mod (fun _ => False) w5 w5b := by
      refine Mod.trans' (b := w5a) ?_ mb5 (fun i hi h => by omega)
      rw [hw5]
      exact (Mod.refl _ _).alloc _
    have m45 := m5.trans mc5
    have m05 := m04.out.trans m45
    have x5 := x4.out.mod m45 (fun h => h)
    have lx := hello_load o xb5
    have lh := hello_load o x5
    have hg := fun (x y : Operand) (w : World) => run_eqGuard_agg (P := Try.prog) w .eql 27 x y (helloC h) (helloC h) (by kernel_rfl)
    have he := fun (w : World) => hello_eql o o w
    rw [decide_eq_true rfl] at he
    replace hw5 := Lib.hid hw5
    replace m05 := Lib.hid m05
    replace hg := Lib.hid hg
    replace he := Lib.hid he
    clear xa5 mb5 mc5 m45 m5 xb5 x5
    refine ⟨_, rfl, ?_⟩
    simp only [Act.put, List.setIfInBounds_toArray, List.set_cons_zero, List.set_cons_succ]
    refine wpList_reads (by kernel_rfl) (.tuple #[.agg (helloC h), .int .i64 (n : Int), .int .i64 0]) (by go_simp) ?_
    simp only [Act.put, List.setIfInBounds_toArray, List.set_cons_zero, List.set_cons_succ]
    refine wpList_reads (by kernel_rfl) (.agg (helloC h)) (by go_simp) ?_
    simp only [Act.put, List.setIfInBounds_toArray, List.set_cons_zero, List.set_cons_succ]
    refine wpList_reads (by kernel_rfl) (.int .i64 (n : Int)) (by go_simp) ?_
    simp only [Act.put, List.setIfInBounds_toArray, List.set_cons_zero, List.set_cons_succ]
    refine wpList_reads (by kernel_rfl) (.int .i64 0) (by go_simp) ?_
    simp only [Act.put, List.setIfInBounds_toArray, List.set_cons_zero, List.set_cons_succ]
    refine wpList_yields (by kernel_rfl) _ _ (alloc_hello _ _ _ rfl) ?_
    simp only [Act.put, List.setIfInBounds_toArray, List.set_cons_zero, List.set_cons_succ]
    rw [← hw5.out]
    refine wpList_store_to rfl _ _ _ rfl _ _ _ rfl rfl _ s5 ?_
    simp only [Act.put, List.setIfInBounds_toArray, List.set_cons_zero, List.set_cons_succ]
    refine wpList_reads (by kernel_rfl) (.int .i64 (n : Int)) (by go_simp) ?_
    simp only [Act.put, List.setIfInBounds_toArray, List.set_cons_zero, List.set_cons_succ]
    refine wpList_reads (by kernel_rfl) (.int .i64 0) (by go_simp) ?_
    simp only [Act.put, List.setIfInBounds_toArray, List.set_cons_zero, List.set_cons_succ]
    go_upto_region 5 with (fail)
    refine wp_region_lit ?_
    refine wpList_reads (by kernel_rfl) (.int .i64 0) (by go_simp) ?_
    simp only [Act.put, List.setIfInBounds_toArray, List.set_cons_zero, List.set_cons_succ]
    refine wpList_reads (by kernel_rfl) (.bool true) (by go_simp) ?_
    simp only [Act.put, List.setIfInBounds_toArray, List.set_cons_zero, List.set_cons_succ]
    refine wpList_reads (by kernel_rfl) (.bool true) (by go_simp) ?_
    simp only [Act.put, List.setIfInBounds_toArray, List.set_cons_zero, List.set_cons_succ]
    refine wpList_reads (by kernel_rfl) (.int .i64 (n : Int)) (by go_simp) ?_
    simp only [Act.put, List.setIfInBounds_toArray, List.set_cons_zero, List.set_cons_succ]
    refine wpList_reads (by kernel_rfl) (.slice (some ⟨g2, 0, none⟩) n n) (by go_simp) ?_
    simp only [Act.put, List.setIfInBounds_toArray, List.set_cons_zero, List.set_cons_succ]
    refine wpList_reads (by kernel_rfl) (.int .i64 (n : Int)) (by go_simp) ?_
    simp only [Act.put, List.setIfInBounds_toArray, List.set_cons_zero, List.set_cons_succ]
    refine wpList_reads (by kernel_rfl) (.bool true) (by go_simp) ?_
    simp only [Act.put, List.setIfInBounds_toArray, List.set_cons_zero, List.set_cons_succ]
    refine wpList_reads (by kernel_rfl) (.bool true) (by go_simp) ?_
    simp only [Act.put, List.setIfInBounds_toArray, List.set_cons_zero, List.set_cons_succ]
    refine wpList_reads (by kernel_rfl) (.bool true) (by go_simp) ?_
    simp only [Act.put, List.setIfInBounds_toArray, List.set_cons_zero, List.set_cons_succ]
    refine wpList_reads (by kernel_rfl) (.agg (helloC h)) (run_load_op rfl rfl lx) ?_
    simp only [Act.put, List.setIfInBounds_toArray, List.set_cons_zero, List.set_cons_succ]
    refine wpList_reads (by kernel_rfl) (.agg (helloC h)) (run_load_op rfl rfl lh) ?_
    simp only [Act.put, List.setIfInBounds_toArray, List.set_cons_zero, List.set_cons_succ]
    refine wpList_reads (by kernel_rfl) (.bool true) (run_bin_op rfl rfl rfl (hg.out _ _ _) (he.out _)) ?_
    simp only [Act.put, List.setIfInBounds_toArray, List.set_cons_zero, List.set_cons_succ]
    refine wpList_reads (by kernel_rfl) (.bool true) (by go_simp) ?_
    simp only [Act.put, List.setIfInBounds_toArray, List.set_cons_zero, List.set_cons_succ]
    refine wpList_reads (by kernel_rfl) (.bool true) (by go_simp) ?_
    simp only [Act.put, List.setIfInBounds_toArray, List.set_cons_zero, List.set_cons_succ]
    go_wp2_with fail
    refine (lives_any _).mono ?_
    rintro e wl ⟨ml, rfl⟩
    have mfin := (m05.out).trans ml
    clear ml
    go_wp2
    go_ret
    exact ⟨rfl, mfin.below (Nat.le_refl _) (fun _ h => h.elim)⟩
  · rw [if_neg hv] at h2
    subst h2
    replace hv := Lib.hid hv
    clear m2
    refine ⟨_, rfl, ?_⟩
    simp only [Act.put, List.setIfInBounds_toArray, List.set_cons_zero, List.set_cons_succ]
    refine wpList_reads (by kernel_rfl) (.tuple #[.slice none 0 0, .int .i64 1]) (by go_simp) ?_
    simp only [Act.put, List.setIfInBounds_toArray, List.set_cons_zero, List.set_cons_succ]
    refine wpList_reads (by kernel_rfl) (.slice none 0 0) (by go_simp) ?_
    simp only [Act.put, List.setIfInBounds_toArray, List.set_cons_zero, List.set_cons_succ]
    refine wpList_reads (by kernel_rfl) (.int .i64 1) (by go_simp) ?_
    simp only [Act.put, List.setIfInBounds_toArray, List.set_cons_zero, List.set_cons_succ]
    refine wpList_reads (by kernel_rfl) (.slice none 0 0) (by go_simp) ?_
    simp only [Act.put, List.setIfInBounds_toArray, List.set_cons_zero, List.set_cons_succ]
    refine wpList_reads (by kernel_rfl) (.int .i64 1) (by go_simp) ?_
    simp only [Act.put, List.setIfInBounds_toArray, List.set_cons_zero, List.set_cons_succ]
    go_wp2_with fail
    refine (lives_any _).mono ?_
    rintro e wl ⟨ml, rfl⟩
    have mfin := (m02.out).trans ml
    clear ml
    go_wp2
    go_ret
    exact ⟨rfl, mfin.below (Nat.le_refl _) (fun _ h => h.elim)⟩
end Go.Proofs.Ytmgamagmlokpmaa
