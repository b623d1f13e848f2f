/-
  mailcoachref05.R, Tag. Printed by gen/pr4.py.
-/
import Derived.Lib.MinMax
import Derived.Test.YtbiijcljpgannaaGreatDoorYx
namespace Go.Proofs.YtbiijcljpgannaaGreatDoor
set_option maxRecDepth 100000
open Go Go.RowKit Go.Lib
set_option linter.unusedSimpArgs false
set_option linter.unusedVariables false

def rA1 (l : List Nat) : Nat → List Nat
  | 0 => l
  | j + 1 => (rA1 l j).set (3 + 4 * j) ((rA1 l j).getD (3 + 4 * j) 0 % 16)
def rB1 (l : List Nat) : Nat → List Nat
  | 0 => rA1 l 4
  | j + 1 => (rB1 l j).set (4 + 4 * j) ((rB1 l j).getD (4 + 4 * j) 0 - (rB1 l j).getD (4 + 4 * j) 0 % 4)
theorem rA1_length (l : List Nat) (j : Nat) : (rA1 l j).length = l.length := by
  induction j with
  | zero => rfl
  | succ j ih => unfold rA1; rw [List.length_set, ih]
theorem rB1_length (l : List Nat) (j : Nat) : (rB1 l j).length = l.length := by
  induction j with
  | zero => exact rA1_length l 4
  | succ j ih => unfold rB1; rw [List.length_set, ih]
theorem rA1_le {l : List Nat} (h : ∀ d ∈ l, d ≤ 255) : ∀ j, ∀ d ∈ rA1 l j, d ≤ 255 := by
  intro j
  induction j with
  | zero => exact h
  | succ j ih =>
    intro d hd
    unfold rA1 at hd
    rcases List.mem_or_eq_of_mem_set hd with h1 | h1
    · exact ih d h1
    · have := getD_le ih (3 + 4 * j); omega
theorem rB1_le {l : List Nat} (h : ∀ d ∈ l, d ≤ 255) : ∀ j, ∀ d ∈ rB1 l j, d ≤ 255 := by
  intro j
  induction j with
  | zero => exact rA1_le h 4
  | succ j ih =>
    intro d hd
    unfold rB1 at hd
    rcases List.mem_or_eq_of_mem_set hd with h1 | h1
    · exact ih d h1
    · have := getD_le ih (4 + 4 * j); omega
theorem and15 (x : BitVec 8) : (x &&& 15).toNat = x.toNat % 16 := by
  rw [BitVec.toNat_and]
  exact Nat.and_two_pow_sub_one_eq_mod x.toNat 4
theorem and252 : ∀ x : BitVec 8, (x &&& 252).toNat = x.toNat - x.toNat % 4 := by decide
theorem nat15 (x : BitVec 8) : x.toNat &&& 15 = x.toNat % 16 := Nat.and_two_pow_sub_one_eq_mod x.toNat 4
theorem nat252 (x : BitVec 8) : x.toNat &&& 252 = x.toNat - x.toNat % 4 := by
  have := and252 x
  rwa [BitVec.toNat_and] at this
theorem rB_clamp (key : List (BitVec 8)) (hk : key.length = 32) : rB1 (numV (key.take 16) false) 3 = natL (clampS key) ++ [0] := by
  have h16 : (key.take 16).length = 16 := by rw [List.length_take]; omega
  have hn : numV (key.take 16) false = (List.range 16).map (fun i => (key.getD i 0).toNat) ++ [0] := by
    unfold numV
    rw [h16]
    have : natL (key.take 16) = (List.range 16).map (fun i => (key.getD i 0).toNat) := by
      apply List.ext_getElem
      · simp [natL_length, h16]
      · intro i h1 h2
        simp only [natL, List.getElem_map, List.getElem_take, List.getElem_range]
        rw [List.getD_eq_getElem?_getD, List.getElem?_eq_getElem (by rw [natL_length] at h1; omega)]
        rfl
    rw [this]
    rfl
  rw [hn]
  have hc : natL (clampS key) = (List.range 16).map fun i => (clampB key i).toNat := by
    simp only [natL, clampS, clampTo, List.map_map]
    apply List.map_congr_left
    intro i hi
    have : i < 16 := List.mem_range.1 hi
    simp [this]
  rw [hc]
  simp only [rB1, rA1, show List.range 16 = [0, 1, 2, 3, 4, 5, 6, 7, 8, 9, 10, 11, 12, 13, 14, 15] from rfl, List.map_cons, List.map_nil, List.cons_append, List.nil_append]
  simp [clampB, nat15, nat252]
set_option maxRecDepth 100000 in
set_option maxHeartbeats 4000000 in
theorem refR_any (key : List (BitVec 8)) (hk : key.length = 32) (w : World) :
    Calls Tryz.prog 114 #[.agg (encB key)] w fun e w' => Mod (fun _ => False) w w' ∧ ∃ g, w.heap.size ≤ g ∧ e = .returned (.slice (some ⟨g, 0, none⟩) 17 17) ∧ RowU w' g (natL (clampS key) ++ [0]) := by
  obtain ⟨w1, hw1⟩ : ∃ x, x = w.alloc (.cells (encB key) 49) := ⟨_, rfl⟩
  obtain ⟨g1, hg1⟩ : ∃ x, x = w.heap.size := ⟨_, rfl⟩
  have m1 : Mod (fun _ => False) w w1 := by rw [hw1]; exact (Mod.refl _ _).alloc _
  have x1 : w1.heap[g1]? = some (.cells (encB key) 49 (0,0)) := by rw [hw1]; exact hp_new _ _ _ hg1
  have b1 : ByteAt w1 (.slice (some ⟨g1, 0, none⟩) 16 32) (key.take 16) := by
    have := ByteAt.part (off := 0) (n := 16) (cap := 32) x1 (by omega) (by omega)
    simpa using this
  have h16 : (key.take 16).length = 16 := by rw [List.length_take]; omega
  have hfin := rB_clamp key hk
  obtain ⟨l, hl⟩ : ∃ l, l = numV (key.take 16) false := ⟨_, rfl⟩
  have hll : l.length = 17 := by rw [hl]; exact numV_length _ _ (by omega)
  have hl8 : ∀ d ∈ l, d ≤ 255 := by rw [hl]; intro d hd; have := numV_below _ _ d hd; omega
  rw [← hl] at hfin
  replace hw1 := Lib.hid hw1
  replace hg1 := Lib.hid hg1
  replace m1 := Lib.hid m1
  replace b1 := Lib.hid b1
  replace h16 := Lib.hid h16
  replace hfin := Lib.hid hfin
  replace hl := Lib.hid hl
  replace hll := Lib.hid hll
  replace hl8 := Lib.hid hl8
  replace hk := Lib.hid hk
  clear x1
  go_enter Tryz.func114, Tryz.ntmps114
  go_upto_region 0 with (fail)
  refine wp_region_lit ?_
  refine wpList_yields (by kernel_rfl) (.pointer (some ⟨g1, 0, none⟩)) w1 (by rw [hw1.out, hg1.out]; simp [execOp, Instr.box, Sem.run_bind, newVar, newRow, Value.cells]; rfl) ?_
  simp only [Act.put, List.setIfInBounds_toArray, List.set_cons_zero, List.set_cons_succ]
  refine wpList_reads (by kernel_rfl) (.slice none 0 0) (by go_simp) ?_
  simp only [Act.put, List.setIfInBounds_toArray, List.set_cons_zero, List.set_cons_succ]
  go_upto_region 1 with (fail)
  refine wp_region_lit ?_
  refine wpList_reads (by kernel_rfl) (.slice (some ⟨g1, 0, none⟩) 16 32) (by go_simp) ?_
  simp only [Act.put, List.setIfInBounds_toArray, List.set_cons_zero, List.set_cons_succ]
  refine wpList_enter (by kernel_rfl) 115 #[.slice (some ⟨g1, 0, none⟩) 16 32, .bool false] (by go_simp) (number_any _ (key.take 16) false (by rw [h16.out]; omega) (by rw [h16.out]; omega) w1 b1.out) ?_
  rintro e w2 ⟨m2, G, hG, rfl, y2⟩
  rw [← hl.out] at y2
  have m02 := m1.out.trans m2
  have hGw : w.heap.size ≤ G := Nat.le_trans m1.out.size hG
  have z2 : RowU w2 G (rA1 l 0) := y2
  replace m02 := Lib.hid m02
  replace hGw := Lib.hid hGw
  replace z2 := Lib.hid z2
  clear m2 y2 hG
  refine ⟨_, rfl, ?_⟩
  simp only [Act.put, List.setIfInBounds_toArray, List.set_cons_zero, List.set_cons_succ]
  refine wpList_reads (by kernel_rfl) (.slice (some ⟨G, 0, none⟩) 17 17) (by go_simp) ?_
  simp only [Act.put, List.setIfInBounds_toArray, List.set_cons_zero, List.set_cons_succ]
  go_wp2
  go_loopw [4] (fun iv wr => ∃ j : Nat, j ≤ 4 ∧ iv = .int .i64 ((3 + 4 * j : Nat) : Int) ∧ Mod (fun k => k = G) w2 wr ∧ RowU wr G (rA1 l j)) (fun iv _ => 100 - (intOf iv).toNat)
  case atStart => exact ⟨0, by omega, rfl, Mod.refl _ _, z2.out⟩
  case round =>
    obtain ⟨j, hj, rfl, mr, yr⟩ := hrel
    obtain ⟨i, hi⟩ : ∃ i, i = 3 + 4 * j := ⟨_, rfl⟩
    rw [← hi]
    have bi0 : (0 : Int) ≤ (i : Int) := by omega
    by_cases hlt : j < 4
    · have hdi : decide ((i : Int) < 16) = true := by rw [decide_eq_true_iff]; omega
      have bi17 : (i : Int) < 17 := by omega
      obtain ⟨L, hL⟩ : ∃ L, L = rA1 l j := ⟨_, rfl⟩
      have hLl : L.length = 17 := by rw [hL, rA1_length, hll.out]
      rw [← hL] at yr
      obtain ⟨d, hd⟩ : ∃ d, d = L.getD i 0 := ⟨_, rfl⟩
      have hcd : wr.cell? ⟨G, i, none⟩ = some (.int .u64 (d : Int)) := by have := yr.numR i (by omega); rw [Nat.zero_add] at this; rw [this, hd]
      have ld := ld_u64R hcd
      obtain ⟨q, hq⟩ : ∃ q, q = d % 16 := ⟨_, rfl⟩
      have hqt : Int.tmod (d : Int) 16 = (q : Int) := by rw [hq]; rfl
      have hqe : (d : Int) % 16 = (q : Int) := by omega
      have bd0 : (0 : Int) ≤ (d : Int) := by omega
      have bq0 : (0 : Int) ≤ (q : Int) := by omega
      have hwq : IntKind.u64.wrap (q : Int) = (q : Int) := by rw [IntKind.wrap_u64]; omega
      obtain ⟨w6, st6, n6, y6⟩ := yr.put i q (by omega)
      have hset : L.set i q = rA1 l (j + 1) := by rw [hq, hd, hL, hi]; rfl
      rw [hset] at y6
      have mf := mr.trans n6
      obtain ⟨i4, hi4⟩ : ∃ i4, i4 = i + 4 := ⟨_, rfl⟩
      have hi4i : (i : Int) + 4 = (i4 : Int) := by omega
      have hwi4 : IntKind.i64.wrap (i4 : Int) = (i4 : Int) := by rw [IntKind.wrap_i64]; omega
      clear hcd n6 hset mr yr
      replace hi := Lib.hid hi
      replace hL := Lib.hid hL
      replace hLl := Lib.hid hLl
      replace hd := Lib.hid hd
      replace hq := Lib.hid hq
      replace y6 := Lib.hid y6
      replace mf := Lib.hid mf
      replace hi4 := Lib.hid hi4
      go_upto_region 5 with (fail)
      refine wp_region_lit ?_
      refine wpList_reads (by kernel_rfl) (.slice (some ⟨G, 0, none⟩) 17 17) (by go_simp) ?_
      simp only [Act.put, List.setIfInBounds_toArray, List.set_cons_zero, List.set_cons_succ]
      refine wpList_reads (by kernel_rfl) (.int .i64 (i : Int)) (by go_simp) ?_
      simp only [Act.put, List.setIfInBounds_toArray, List.set_cons_zero, List.set_cons_succ]
      refine wpList_reads (by kernel_rfl) (.slice (some ⟨G, 0, none⟩) 17 17) (by go_simp) ?_
      simp only [Act.put, List.setIfInBounds_toArray, List.set_cons_zero, List.set_cons_succ]
      refine wpList_reads (by kernel_rfl) (.int .i64 (i : Int)) (by go_simp) ?_
      simp only [Act.put, List.setIfInBounds_toArray, List.set_cons_zero, List.set_cons_succ]
      refine wpList_reads (by kernel_rfl) (.pointer (some ⟨G, i, none⟩)) (by go_simp) ?_
      simp only [Act.put, List.setIfInBounds_toArray, List.set_cons_zero, List.set_cons_succ]
      refine wpList_reads (by kernel_rfl) (.int .u64 (d : Int)) (run_load_op rfl rfl ld) ?_
      simp only [Act.put, List.setIfInBounds_toArray, List.set_cons_zero, List.set_cons_succ]
      refine wpList_reads (by kernel_rfl) (.int .u64 (q : Int)) (by go_simp) ?_
      simp only [Act.put, List.setIfInBounds_toArray, List.set_cons_zero, List.set_cons_succ]
      refine wpList_reads (by kernel_rfl) (.pointer (some ⟨G, i, none⟩)) (by go_simp) ?_
      simp only [Act.put, List.setIfInBounds_toArray, List.set_cons_zero, List.set_cons_succ]
      refine wpList_store_to rfl _ _ _ rfl _ _ _ rfl rfl _ st6 ?_
      simp only [Act.put, List.setIfInBounds_toArray, List.set_cons_zero, List.set_cons_succ]
      clear st6 ld
      go_wp2
      go_roundw
      case measure => have := hi.out; have := hi4.out; simp [intOf]; omega
      case rel => exact ⟨j + 1, by omega, by rw [show i4 = 3 + 4 * (j + 1) by have := hi.out; have := hi4.out; omega], mf.out, y6.out⟩
    · have hj4 : 4 = j := by omega
      subst hj4
      obtain ⟨w3, rfl⟩ : ∃ x : World, x = wr := ⟨_, rfl⟩
      have hdi : decide ((i : Int) < 16) = false := by rw [decide_eq_false_iff_not]; omega
      have z3 : RowU w3 G (rB1 l 0) := yr
      replace hi := Lib.hid hi
      replace z3 := Lib.hid z3
      replace mr := Lib.hid mr
      clear yr hlt hj
      go_wp2
      go_loopw [5] (fun iv wr => ∃ j : Nat, j ≤ 3 ∧ iv = .int .i64 ((4 + 4 * j : Nat) : Int) ∧ Mod (fun k => k = G) w2 wr ∧ RowU wr G (rB1 l j)) (fun iv _ => 100 - (intOf iv).toNat)
      case atStart => exact ⟨0, by omega, rfl, mr.out, z3.out⟩
      case round =>
        clear hdi
        obtain ⟨j, hj, rfl, mk, yr⟩ := hrel
        obtain ⟨k, hk2⟩ : ∃ k, k = 4 + 4 * j := ⟨_, rfl⟩
        rw [← hk2]
        have bk0 : (0 : Int) ≤ (k : Int) := by omega
        by_cases hlt : j < 3
        · have hdi : decide ((k : Int) < 16) = true := by rw [decide_eq_true_iff]; omega
          have bk17 : (k : Int) < 17 := by omega
          have hk17 : k < 17 := by omega
          obtain ⟨L, hL⟩ : ∃ L, L = rB1 l j := ⟨_, rfl⟩
          have hLl : L.length = 17 := by rw [hL, rB1_length, hll.out]
          rw [← hL] at yr
          obtain ⟨d, hd⟩ : ∃ d, d = L.getD k 0 := ⟨_, rfl⟩
          have hcd : wr.cell? ⟨G, k, none⟩ = some (.int .u64 (d : Int)) := by have := yr.numR k (by omega); rw [Nat.zero_add] at this; rw [this, hd]
          obtain ⟨q, hq⟩ : ∃ q, q = d % 4 := ⟨_, rfl⟩
          have hqt : Int.tmod (d : Int) 4 = (q : Int) := by rw [hq]; rfl
          have hqe : (d : Int) % 4 = (q : Int) := by omega
          have bd0 : (0 : Int) ≤ (d : Int) := by omega
          have bq0 : (0 : Int) ≤ (q : Int) := by omega
          have hwq : IntKind.u64.wrap (q : Int) = (q : Int) := by rw [IntKind.wrap_u64]; omega
          obtain ⟨s, hs⟩ : ∃ s, s = d - q := ⟨_, rfl⟩
          have hsi : (d : Int) - (q : Int) = (s : Int) := by omega
          have bs0 : (0 : Int) ≤ (s : Int) := by omega
          have hLb : d < 256 := by rw [hd]; exact Nat.lt_succ_of_le (by rw [hL]; exact getD_le (rB1_le hl8.out j) k)
          have hws : IntKind.u64.wrap (s : Int) = (s : Int) := by rw [IntKind.wrap_u64]; omega
          have hset : L.set k s = rB1 l (j + 1) := by rw [hs, hq, hd, hL, hk2]; rfl
          obtain ⟨i4, hi4⟩ : ∃ i4, i4 = k + 4 := ⟨_, rfl⟩
          have hi4i : (k : Int) + 4 = (i4 : Int) := by omega
          have hwi4 : IntKind.i64.wrap (i4 : Int) = (i4 : Int) := by rw [IntKind.wrap_i64]; omega
          replace hk2 := Lib.hid hk2
          replace hL := Lib.hid hL
          replace hLl := Lib.hid hLl
          replace hd := Lib.hid hd
          replace hq := Lib.hid hq
          replace hs := Lib.hid hs
          replace hcd := Lib.hid hcd
          replace hset := Lib.hid hset
          replace hi4 := Lib.hid hi4
          replace yr := Lib.hid yr
          go_upto_region 9 with (fail)
          refine wp_region_any (by kernel_rfl) (any_of_Z (S := fun W => Mod (fun _ => False) wr W) (z := 13) _ _ _ _ ?_)
          simp only [List.size_toArray, List.length_cons, List.length_nil, Nat.reduceAdd, Array.replicate_succ, Array.replicate_zero, List.push_toArray, List.nil_append, List.cons_append]
          have md : Mod (fun _ => False) wr wr.drew := (Mod.refl _ _).drew
          change anyZ _ _ _ _ _ _ _ _ _ wr.drew
          obtain ⟨wd, hwd⟩ : ∃ x, x = wr.drew := ⟨_, rfl⟩
          rw [← hwd] at md ⊢
          clear hwd
          refine anyZ_take 0 _ (some 24) (.slice (some ⟨G, 0, none⟩) 17 17) rfl (by kernel_rfl) (by kernel_rfl) (by kernel_rfl) (by kernel_rfl) (by kernel_rfl) (by decide) rfl (fun w' hS => ?_) md ?_
          · go_simp
          simp only [Act.put, List.setIfInBounds_toArray, List.set_cons_zero, List.set_cons_succ]
          refine anyZ_take 1 _ (some 25) (.int .i64 (k : Int)) rfl (by kernel_rfl) (by kernel_rfl) (by kernel_rfl) (by kernel_rfl) (by kernel_rfl) (by decide) rfl (fun w' hS => ?_) md ?_
          · go_simp
          simp only [Act.put, List.setIfInBounds_toArray, List.set_cons_zero, List.set_cons_succ]
          refine anyZ_take 2 _ (some 26) (.slice (some ⟨G, 0, none⟩) 17 17) rfl (by kernel_rfl) (by kernel_rfl) (by kernel_rfl) (by kernel_rfl) (by kernel_rfl) (by decide) rfl (fun w' hS => ?_) md ?_
          · go_simp
          simp only [Act.put, List.setIfInBounds_toArray, List.set_cons_zero, List.set_cons_succ]
          refine anyZ_take 3 _ (some 27) (.int .i64 (k : Int)) rfl (by kernel_rfl) (by kernel_rfl) (by kernel_rfl) (by kernel_rfl) (by kernel_rfl) (by decide) rfl (fun w' hS => ?_) md ?_
          · go_simp
          simp only [Act.put, List.setIfInBounds_toArray, List.set_cons_zero, List.set_cons_succ]
          refine anyZ_take 4 _ (some 28) (.pointer (some ⟨G, k, none⟩)) rfl (by kernel_rfl) (by kernel_rfl) (by kernel_rfl) (by kernel_rfl) (by kernel_rfl) (by decide) rfl (fun w' hS => ?_) md ?_
          · go_simp
          simp only [Act.put, List.setIfInBounds_toArray, List.set_cons_zero, List.set_cons_succ]
          refine anyZ_take 5 _ (some 29) (.int .u64 (d : Int)) rfl (by kernel_rfl) (by kernel_rfl) (by kernel_rfl) (by kernel_rfl) (by kernel_rfl) (by decide) rfl (fun w' hS => ?_) md ?_
          · exact run_load_op rfl rfl (ld_u64R (cell_mod hS hcd.out (fun h => h)))
          simp only [Act.put, List.setIfInBounds_toArray, List.set_cons_zero, List.set_cons_succ]
          refine anyZ_take 6 _ (some 30) (.slice (some ⟨G, 0, none⟩) 17 17) rfl (by kernel_rfl) (by kernel_rfl) (by kernel_rfl) (by kernel_rfl) (by kernel_rfl) (by decide) rfl (fun w' hS => ?_) md ?_
          · go_simp
          simp only [Act.put, List.setIfInBounds_toArray, List.set_cons_zero, List.set_cons_succ]
          refine anyZ_take 7 _ (some 31) (.int .i64 (k : Int)) rfl (by kernel_rfl) (by kernel_rfl) (by kernel_rfl) (by kernel_rfl) (by kernel_rfl) (by decide) rfl (fun w' hS => ?_) md ?_
          · go_simp
          simp only [Act.put, List.setIfInBounds_toArray, List.set_cons_zero, List.set_cons_succ]
          refine anyZ_take 8 _ (some 32) (.pointer (some ⟨G, k, none⟩)) rfl (by kernel_rfl) (by kernel_rfl) (by kernel_rfl) (by kernel_rfl) (by kernel_rfl) (by decide) rfl (fun w' hS => ?_) md ?_
          · go_simp
          simp only [Act.put, List.setIfInBounds_toArray, List.set_cons_zero, List.set_cons_succ]
          refine anyZ_take 9 _ (some 33) (.int .u64 (d : Int)) rfl (by kernel_rfl) (by kernel_rfl) (by kernel_rfl) (by kernel_rfl) (by kernel_rfl) (by decide) rfl (fun w' hS => ?_) md ?_
          · exact run_load_op rfl rfl (ld_u64R (cell_mod hS hcd.out (fun h => h)))
          simp only [Act.put, List.setIfInBounds_toArray, List.set_cons_zero, List.set_cons_succ]
          refine anyZ_take 10 _ (some 34) (.int .u64 (q : Int)) rfl (by kernel_rfl) (by kernel_rfl) (by kernel_rfl) (by kernel_rfl) (by kernel_rfl) (by decide) rfl (fun w' hS => ?_) md ?_
          · go_simp
          simp only [Act.put, List.setIfInBounds_toArray, List.set_cons_zero, List.set_cons_succ]
          refine anyZ_take 11 _ (some 35) (.int .u64 (s : Int)) rfl (by kernel_rfl) (by kernel_rfl) (by kernel_rfl) (by kernel_rfl) (by kernel_rfl) (by decide) rfl (fun w' hS => ?_) md ?_
          · go_simp
          simp only [Act.put, List.setIfInBounds_toArray, List.set_cons_zero, List.set_cons_succ]
          refine anyZ_take 12 _ (some 36) (.pointer (some ⟨G, k, none⟩)) rfl (by kernel_rfl) (by kernel_rfl) (by kernel_rfl) (by kernel_rfl) (by kernel_rfl) (by decide) rfl (fun w' hS => ?_) md ?_
          · go_simp
          simp only [Act.put, List.setIfInBounds_toArray, List.set_cons_zero, List.set_cons_succ]
          obtain ⟨w6, st6, n6, y6⟩ := (show RowU wd G L from md.heap yr.out (fun h => h)).put k s (by rw [hLl.out]; exact hk17)
          rw [hset.out] at y6
          have mf : Mod (fun k => k = G) w2 w6 := (mk.trans' md (fun _ _ h => h.elim)).trans n6
          refine anyZ_skip 13 _ rfl (by kernel_rfl) (by kernel_rfl) rfl w6 (run_store_op rfl rfl rfl st6) (fun h => absurd rfl h) ?_
          simp only [Act.put, List.setIfInBounds_toArray, List.set_cons_zero, List.set_cons_succ]
          clear st6 n6
          refine anyZ_done (by kernel_rfl) ?_ _
          replace mf := Lib.hid mf
          replace y6 := Lib.hid y6
          clear md mk
          go_wp2
          go_roundw
          case measure => have := hk2.out; have := hi4.out; simp [intOf]; omega
          case rel => exact ⟨j + 1, by omega, by rw [show i4 = 4 + 4 * (j + 1) by have := hk2.out; have := hi4.out; omega], mf.out, y6.out⟩
        · have hj3 : 3 = j := by omega
          subst hj3
          have hdi : decide ((k : Int) < 16) = false := by rw [decide_eq_false_iff_not]; omega
          have mf : Mod (fun _ => False) w wr := m02.out.trans' mk (fun i hi h => by have := hGw.out; omega)
          rw [hfin.out] at yr
          replace yr := Lib.hid yr
          replace mf := Lib.hid mf
          replace hk2 := Lib.hid hk2
          clear mk hlt hj
          go_wp2
          go_ret
          exact ⟨mf.out, G, hGw.out, rfl, yr.out⟩
def fil16 (l : List (BitVec 8)) (j : Nat) : List (BitVec 8) := l.take j ++ List.replicate (16 - j) 0
theorem fil16_length {l : List (BitVec 8)} {j : Nat} (hl : l.length = 16) (hj : j ≤ 16) : (fil16 l j).length = 16 := by simp [fil16, hl]; omega
theorem fil16_all {l : List (BitVec 8)} (hl : l.length = 16) : fil16 l 16 = l := by simp [fil16, ← hl]
theorem fil16_set {l : List (BitVec 8)} {j : Nat} (hl : l.length = 16) (hj : j < 16) : (fil16 l j).set j (l.getD j 0) = fil16 l (j + 1) := by
  apply List.ext_getElem
  · simp [fil16, hl]; omega
  · intro i h1 h2
    rw [List.getElem_set]
    have hi : i < 16 := by rw [fil16_length hl (by omega)] at h2; exact h2
    by_cases hij : j = i
    · subst hij
      rw [if_pos rfl]
      simp only [fil16]
      rw [List.getElem_append_left (by simp [hl]; omega), List.getElem_take, List.getD_eq_getElem?_getD, List.getElem?_eq_getElem (by omega)]
      rfl
    · rw [if_neg hij]
      simp only [fil16]
      by_cases h : i < j
      · rw [List.getElem_append_left (by simp [hl]; omega), List.getElem_append_left (by simp [hl]; omega), List.getElem_take, List.getElem_take]
      · rw [List.getElem_append_right (by simp [hl]; omega), List.getElem_append_right (by simp [hl]; omega)]
        simp
theorem cut_op3 {P : Program} {ev : Operand → Value} {o : Oper} {t : TypeId} {x y z : Operand} {ad : Option Addr} {n cap : Nat} {y' z' r : Value} {w : World} (ht : P.underlying t = some (.slice (P.elem t))) (ho : o.op = .slice t x (some y) (some z) none) (hx : ev x = .slice ad n cap) (hy : ev y = y') (hz : ev z = z') (h : (Instr.slice t (.slice ad n cap) (some y') (some z') none).run P w = .ok r w) : (execOp ev o).run P w = .ok (.value r) w := by
  unfold execOp; simp only [ho]; simp [hx, hy, hz]
  have h' : Sem.run P (Instr.sliceAt t (.slice ad n cap) (some y') (some z') none) w = .ok r w := by rw [run_sliceAt_slice (h := ht)]; exact h
  rw [h']; rfl
set_option maxRecDepth 100000 in
set_option maxHeartbeats 4000000 in
theorem refTag_any (key : List (BitVec 8)) (hk : key.length = 32) (vb : Value) (b : List (BitVec 8)) (w : World) (hb : ByteAt w vb b) (hbl : b.length ≤ 4194304) : Calls Tryz.prog 76 #[.agg (encB key), vb] w fun e w' => Mod (fun _ => False) w w' ∧ e = .returned (.tuple #[.agg (encB (tagS key b)), .int .i64 0]) := by
  rw [tagS_ref key b hk]
  obtain ⟨n, hn⟩ : ∃ n, n = b.length := ⟨_, rfl⟩
  obtain ⟨ab, cb, rfl⟩ := hb.sliceN hn.symm
  rw [← hn] at hbl
  have bn0 : (0 : Int) ≤ (n : Int) := by omega
  have bnx : (n : Int) ≤ 4194304 := by omega
  obtain ⟨w1, hw1⟩ : ∃ x, x = w.alloc (.cells (encB key) 49) := ⟨_, rfl⟩
  obtain ⟨g1, hg1⟩ : ∃ x, x = w.heap.size := ⟨_, rfl⟩
  have m1 : Mod (fun _ => False) w w1 := by rw [hw1]; exact (Mod.refl _ _).alloc _
  have x1 : w1.heap[g1]? = some (.cells (encB key) 49 (0,0)) := by rw [hw1]; exact hp_new _ _ _ hg1
  obtain ⟨w2, hw2⟩ : ∃ x, x = w1.alloc (.cells (encB (List.replicate 16 0)) 61) := ⟨_, rfl⟩
  obtain ⟨g4, hg4⟩ : ∃ x, x = w1.heap.size := ⟨_, rfl⟩
  have m2 : Mod (fun _ => False) w1 w2 := by rw [hw2]; exact (Mod.refl _ _).alloc _
  have x4 : BytesAt16 w2 g4 (List.replicate 16 0) := by rw [hw2]; exact hp_new _ _ _ hg4
  have x2 := m2.heap x1 (fun h => h)
  have lk := loadY32 x2 hk
  have hg4w : w.heap.size ≤ g4 := by rw [hg4]; exact m1.size
  have m02 := m1.trans m2
  have hb2 := hb.mod m02 (fun _ _ h => h)
  obtain ⟨r, hr⟩ : ∃ r, r = valB 256 (natL (clampS key)) := ⟨_, rfl⟩
  obtain ⟨s, hs⟩ : ∃ s, s = valB 256 (natL (key.drop 16)) := ⟨_, rfl⟩
  rw [← hr, ← hs]
  obtain ⟨F, hFT⟩ : ∃ F, F = refTagN r s b := ⟨_, rfl⟩
  rw [← hFT]
  have hb3 := hb.slice
  replace hn := Lib.hid hn
  replace hw1 := Lib.hid hw1
  replace hg1 := Lib.hid hg1
  replace hw2 := Lib.hid hw2
  replace hg4 := Lib.hid hg4
  replace x4 := Lib.hid x4
  replace x2 := Lib.hid x2
  replace m02 := Lib.hid m02
  replace hb2 := Lib.hid hb2
  replace hr := Lib.hid hr
  replace hs := Lib.hid hs
  replace hk := Lib.hid hk
  replace hFT := Lib.hid hFT
  replace hg4w := Lib.hid hg4w
  clear m1 m2 x1 hb hb3
  go_enter Tryz.func76, Tryz.ntmps76
  go_upto_region 0 with (fail)
  refine wp_region_lit ?_
  refine wpList_yields (by kernel_rfl) (.pointer (some ⟨g1, 0, none⟩)) w1 (by rw [hw1.out, hg1.out]; simp [execOp, Instr.box, Sem.run_bind, newVar, newRow, Value.cells]; rfl) ?_
  simp only [Act.put, List.setIfInBounds_toArray, List.set_cons_zero, List.set_cons_succ]
  refine wpList_yields (by kernel_rfl) _ _ (alloc16P _ _ _ rfl) ?_
  simp only [Act.put, List.setIfInBounds_toArray, List.set_cons_zero, List.set_cons_succ]
  rw [← hg4.out, ← hw2.out]
  refine wpList_reads (by kernel_rfl) (.int .i64 0) (by go_simp) ?_
  simp only [Act.put, List.setIfInBounds_toArray, List.set_cons_zero, List.set_cons_succ]
  have hd1 : decide ((4194304 : Int) < (n : Int)) = false := by rw [decide_eq_false_iff_not]; omega
  go_upto_region 3 with (fail)
  refine wp_region_lit ?_
  refine wpList_reads (by kernel_rfl) (.agg (encB key)) (run_load_op rfl rfl lk) ?_
  simp only [Act.put, List.setIfInBounds_toArray, List.set_cons_zero, List.set_cons_succ]
  clear lk
  refine wpList_enter (by kernel_rfl) 114 #[.agg (encB key)] (by go_simp) (refR_any key hk.out w2) ?_
  rintro e w3 ⟨m3, gr, hgr, rfl, yr⟩
  obtain ⟨lr, hlr⟩ : ∃ l, l = natL (clampS key) ++ [0] := ⟨_, rfl⟩
  rw [← hlr] at yr
  have hlrl : lr.length = 17 := by rw [hlr]; simp [natL_length, clampS, clampTo_length]
  have hlr8 : ∀ d ∈ lr, d < 256 := by
    rw [hlr]
    intro d hd
    rcases List.mem_append.1 hd with h | h
    · exact natL_below _ d h
    · simp at h; omega
  have hlrv : valB 256 lr = r := by rw [hlr, valB_append, hr.out]; simp [valB]
  obtain ⟨w4, hw4⟩ : ∃ x, x = w3.alloc (.cells (nums .u64 (List.replicate 17 0)).toArray 77) := ⟨_, rfl⟩
  obtain ⟨ga, hga⟩ : ∃ x, x = w3.heap.size := ⟨_, rfl⟩
  have m4 : Mod (fun _ => False) w3 w4 := by rw [hw4]; exact (Mod.refl _ _).alloc _
  have ya : RowU w4 ga (List.replicate 17 0) := by rw [hw4]; exact hp_new _ _ _ hga
  have mk := make64 17 (by decide) w3
  rw [← hga, ← hw4] at mk
  have m24 := m3.trans m4
  have m04 := m02.out.trans m24
  have hb4 := hb2.out.mod m24 (fun _ _ h => h)
  have x24 := m24.heap x2.out (fun h => h)
  have x44 : BytesAt16 w4 g4 (List.replicate 16 0) := m24.heap x4.out (fun h => h)
  have yr4 : NumR w4 gr 0 lr := yr.numR.mod m4 (fun h => h)
  have ya4 : NumR w4 ga 0 (digs 17 (accV r b 0)) := by
    show NumR w4 ga 0 (digs 17 0)
    rw [show digs 17 0 = List.replicate 17 0 by decide]
    exact ya.numR
  replace hlr := Lib.hid hlr
  replace hlrl := Lib.hid hlrl
  replace hlr8 := Lib.hid hlr8
  replace hlrv := Lib.hid hlrv
  replace hw4 := Lib.hid hw4
  replace hga := Lib.hid hga
  replace m04 := Lib.hid m04
  replace hb4 := Lib.hid hb4
  replace x24 := Lib.hid x24
  replace x44 := Lib.hid x44
  replace yr4 := Lib.hid yr4
  replace ya4 := Lib.hid ya4
  clear m3 m4 m24 yr ya hgr m02 hb2 x2 x4
  refine ⟨_, rfl, ?_⟩
  simp only [Act.put, List.setIfInBounds_toArray, List.set_cons_zero, List.set_cons_succ]
  refine wpList_reads (by kernel_rfl) (.slice (some ⟨gr, 0, none⟩) 17 17) (by go_simp) ?_
  simp only [Act.put, List.setIfInBounds_toArray, List.set_cons_zero, List.set_cons_succ]
  go_upto_region 4 with (fail)
  refine wp_region_lit ?_
  refine wpList_yields (by kernel_rfl) (.slice (some ⟨ga, 0, none⟩) 17 17) w4 (run_make_op rfl rfl rfl mk) ?_
  simp only [Act.put, List.setIfInBounds_toArray, List.set_cons_zero, List.set_cons_succ]
  refine wpList_reads (by kernel_rfl) (.slice (some ⟨ga, 0, none⟩) 17 17) (by go_simp) ?_
  simp only [Act.put, List.setIfInBounds_toArray, List.set_cons_zero, List.set_cons_succ]
  clear mk
  have hacc : ∀ k, accV r b k < P130 := by
    intro k
    cases k with
    | zero =>
      show 0 < P130
      decide
    | succ k => exact Nat.mod_lt _ (by decide)
  replace hacc := Lib.hid hacc
  go_wp2
  go_loopw [7, 8] (fun av iv wr => ∃ k g c : Nat, 16 * k ≤ n + 15 ∧ iv = .int .i64 ((16 * k : Nat) : Int) ∧ av = .slice (some ⟨g, 0, none⟩) 17 c ∧ Mod (fun _ => False) w4 wr ∧ NumR wr g 0 (digs 17 (accV r b k))) (fun _ iv _ => n + 16 - (intOf iv).toNat)
  case atStart => exact ⟨0, ga, 17, by omega, rfl, rfl, Mod.refl _ _, ya4.out⟩
  case round =>
    obtain ⟨k, g, c, hkn, rfl, rfl, mr, yk⟩ := hrel
    obtain ⟨i, hi⟩ : ∃ i, i = 16 * k := ⟨_, rfl⟩
    rw [← hi]
    rw [← hi] at hkn
    have bi0 : (0 : Int) ≤ (i : Int) := by omega
    by_cases hlt : i < n
    · have hdi : decide ((i : Int) < (n : Int)) = true := by rw [decide_eq_true_iff]; omega
      have bin : (i : Int) < (n : Int) := by omega
      obtain ⟨u, hu⟩ : ∃ u, u = i + 16 := ⟨_, rfl⟩
      have hui : (i : Int) + 16 = (u : Int) := by omega
      have bu0 : (0 : Int) ≤ (u : Int) := by omega
      have hwu : IntKind.i64.wrap (u : Int) = (u : Int) := by rw [IntKind.wrap_i64]; omega
      obtain ⟨t, ht⟩ : ∃ t, t = min u n := ⟨_, rfl⟩
      have hmin : min (u : Int) (n : Int) = (t : Int) := by rw [ht]; omega
      have hmin2 : (if (n : Int) < (u : Int) then (n : Int) else (u : Int)) = (t : Int) := by rw [ht]; split <;> omega
      have bt0 : (0 : Int) ≤ (t : Int) := by omega
      have hbr := hb4.out.mod mr (fun _ _ h => h)
      obtain ⟨vc, kc, rc⟩ := hbr.cut i t (by omega) (by omega)
      have hch : (b.drop i).take (t - i) = chunkB b k := by
        unfold chunkB
        rw [← hi]
        rcases Nat.le_total u n with h | h
        · rw [show t - i = 16 by omega]
        · rw [List.take_of_length_le (by rw [List.length_drop]; have := hn.out; omega), List.take_of_length_le (by rw [List.length_drop]; have := hn.out; omega)]
      rw [hch] at kc
      have hcl := chunkB_length b k
      rw [← hi, ← hn.out] at hcl
      have hcl0 : 0 < (chunkB b k).length := by omega
      have hcl16 : (chunkB b k).length ≤ 16 := by omega
      have yrk := yr4.out.mod mr (fun h => h)
      obtain ⟨A, hA⟩ : ∃ A, A = accV r b k := ⟨_, rfl⟩
      have hAl : A < P130 := by rw [hA]; exact hacc.out k
      rw [← hA] at yk
      obtain ⟨B, hB⟩ : ∃ B, B = valB 256 (natL (chunkB b k ++ [1])) := ⟨_, rfl⟩
      have hAn : accV r b (k + 1) = ((A + B) * r) % P130 := by rw [hA, hB]; rfl
      have hBl : B < 256 ^ 17 := by
        rw [hB]
        refine Nat.lt_of_lt_of_le (valB_below _ (natL_below _)) (Nat.pow_le_pow_right (by decide) ?_)
        rw [natL_length, List.length_append]
        simp only [List.length_cons, List.length_nil]
        omega
      have hB2 : B < 2 * 340282366920938463463374607431768211456 := by
        rw [hB]
        have e : natL (chunkB b k ++ [1]) = natL (chunkB b k) ++ [1] := by simp [natL]
        have h1 := valB_below _ (natL_below (chunkB b k))
        rw [natL_length] at h1
        have h2 : 256 ^ (chunkB b k).length ≤ 256 ^ 16 := Nat.pow_le_pow_right (by decide) hcl16
        rw [show (256 : Nat) ^ 16 = 340282366920938463463374607431768211456 from by decide] at h2
        rw [e, valB_append, natL_length]
        simp only [valB, Nat.mul_zero, Nat.add_zero, Nat.mul_one]
        omega
      have hAB : A + B < 256 ^ 17 := by
        have h1 := hAl
        unfold P130 at h1
        rw [show (256 : Nat) ^ 17 = 87112285931760246646623899502532662132736 from by decide]
        omega
      replace hB2 := Lib.hid hB2
      replace hAB := Lib.hid hAB
      replace hi := Lib.hid hi
      replace hu := Lib.hid hu
      replace ht := Lib.hid ht
      replace kc := Lib.hid kc
      replace hcl := Lib.hid hcl
      replace hcl0 := Lib.hid hcl0
      replace hcl16 := Lib.hid hcl16
      replace yrk := Lib.hid yrk
      replace hA := Lib.hid hA
      replace hAl := Lib.hid hAl
      replace hB := Lib.hid hB
      replace hAn := Lib.hid hAn
      replace yk := Lib.hid yk
      replace mr := Lib.hid mr
      replace hBl := Lib.hid hBl
      clear hbr hch
      go_upto_region 8 with (fail)
      refine wp_region_lit ?_
      refine wpList_reads (by kernel_rfl) (.slice ab n cb) (by go_simp) ?_
      simp only [Act.put, List.setIfInBounds_toArray, List.set_cons_zero, List.set_cons_succ]
      refine wpList_reads (by kernel_rfl) (.int .i64 (i : Int)) (by go_simp) ?_
      simp only [Act.put, List.setIfInBounds_toArray, List.set_cons_zero, List.set_cons_succ]
      refine wpList_reads (by kernel_rfl) (.int .i64 (i : Int)) (by go_simp) ?_
      simp only [Act.put, List.setIfInBounds_toArray, List.set_cons_zero, List.set_cons_succ]
      refine wpList_reads (by kernel_rfl) (.int .i64 (u : Int)) (by go_simp) ?_
      simp only [Act.put, List.setIfInBounds_toArray, List.set_cons_zero, List.set_cons_succ]
      refine wpList_reads (by kernel_rfl) (.slice ab n cb) (by go_simp) ?_
      simp only [Act.put, List.setIfInBounds_toArray, List.set_cons_zero, List.set_cons_succ]
      refine wpList_reads (by kernel_rfl) (.int .i64 (n : Int)) (by go_simp) ?_
      simp only [Act.put, List.setIfInBounds_toArray, List.set_cons_zero, List.set_cons_succ]
      refine wpList_reads (by kernel_rfl) (.int .i64 (t : Int)) (by go_simp) ?_
      simp only [Act.put, List.setIfInBounds_toArray, List.set_cons_zero, List.set_cons_succ]
      refine wpList_reads (by kernel_rfl) (vc) ((by exact cut_op3 Tryz.underlying22 rfl rfl rfl rfl (rc _))) ?_
      simp only [Act.put, List.setIfInBounds_toArray, List.set_cons_zero, List.set_cons_succ]
      clear rc
      refine wpList_enter (by kernel_rfl) 115 #[vc, .bool true] (by go_simp) (number_any _ (chunkB b k) true hcl0.out hcl16.out wr kc.out) ?_
      rintro e w5 ⟨m5, g5, hg5, rfl, y5⟩
      have l5 := numV_length (chunkB b k) true hcl16.out
      have v5 := (numV_val (chunkB b k)).2
      rw [← hB.out] at v5
      obtain ⟨N5, hN5⟩ : ∃ N, N = numV (chunkB b k) true := ⟨_, rfl⟩
      have b5 := numV_below (chunkB b k) true
      rw [← hN5] at y5 l5 v5 b5
      have yk5 := yk.out.mod m5 (fun h => h)
      have yr5 := yrk.out.mod m5 (fun h => h)
      have m05 := mr.out.trans m5
      replace y5 := Lib.hid y5
      replace l5 := Lib.hid l5
      replace v5 := Lib.hid v5
      replace b5 := Lib.hid b5
      replace hN5 := Lib.hid hN5
      replace yk5 := Lib.hid yk5
      replace yr5 := Lib.hid yr5
      replace m05 := Lib.hid m05
      clear m5 hg5 yk yrk kc
      refine ⟨_, rfl, ?_⟩
      simp only [Act.put, List.setIfInBounds_toArray, List.set_cons_zero, List.set_cons_succ]
      refine wpList_reads (by kernel_rfl) (.slice (some ⟨g5, 0, none⟩) 17 17) (by go_simp) ?_
      simp only [Act.put, List.setIfInBounds_toArray, List.set_cons_zero, List.set_cons_succ]
      go_upto_region 9 with (fail)
      refine wp_region_lit ?_
      refine wpList_reads (by kernel_rfl) (.slice (some ⟨g, 0, none⟩) 17 c) (by go_simp) ?_
      simp only [Act.put, List.setIfInBounds_toArray, List.set_cons_zero, List.set_cons_succ]
      refine wpList_reads (by kernel_rfl) (.slice (some ⟨g5, 0, none⟩) 17 17) (by go_simp) ?_
      simp only [Act.put, List.setIfInBounds_toArray, List.set_cons_zero, List.set_cons_succ]
      refine wpList_enter (by kernel_rfl) 116 #[.slice (some ⟨g, 0, none⟩) 17 c, .slice (some ⟨g5, 0, none⟩) 17 17] (by go_simp) ((by have h := add_any34 g 0 c g5 0 17 (digs 17 A) N5 (by rw [digs_length]; omega) (by rw [l5.out]; omega) (by rw [digs_length]; omega) (by rw [l5.out]; omega) (digs_below _ _) b5.out w5 yk5.out y5.out.numR; rw [digs_length, l5.out] at h; exact h : Calls _ _ #[.slice (some ⟨g, 0, none⟩) 17 c, .slice (some ⟨g5, 0, none⟩) 17 17] w5 _)) ?_
      rintro e w6 ⟨m6, g6, c6, hg6, rfl, own6⟩
      have hP17 : P130 < 256 ^ 17 := by decide
      rw [valB_digs, Nat.mod_eq_of_lt (Nat.lt_trans hAl.out hP17), v5.out] at own6
      have h34 : 34 ≤ c6 := row_own own6
      have y6 : NumR w6 g6 0 (digs 17 (A + B)) := by
        have h1 := (own_numR own6).take 17 (by rw [digs_length]; omega)
        rw [digs_take _ _ _ (by omega)] at h1
        exact h1
      have yr6 := yr5.out.mod m6 (fun h => h)
      have m06 := m05.out.trans m6
      have rc := fun w' => cut64' w' g6 34 c6 17 (by omega) (by omega) (by omega)
      replace h34 := Lib.hid h34
      replace y6 := Lib.hid y6
      replace yr6 := Lib.hid yr6
      replace m06 := Lib.hid m06
      clear m6 hg6 own6 yk5 yr5 y5 hP17
      refine ⟨_, rfl, ?_⟩
      simp only [Act.put, List.setIfInBounds_toArray, List.set_cons_zero, List.set_cons_succ]
      refine wpList_reads (by kernel_rfl) (.slice (some ⟨g6, 0, none⟩) 34 c6) (by go_simp) ?_
      simp only [Act.put, List.setIfInBounds_toArray, List.set_cons_zero, List.set_cons_succ]
      go_upto_region 10 with (fail)
      refine wp_region_lit ?_
      refine wpList_reads (by kernel_rfl) (.slice (some ⟨g6, 0, none⟩) 34 c6) (by go_simp) ?_
      simp only [Act.put, List.setIfInBounds_toArray, List.set_cons_zero, List.set_cons_succ]
      refine wpList_reads (by kernel_rfl) (.slice (some ⟨g6, 0, none⟩) 17 c6) ((by exact cut_op Tryz.underlying81 rfl rfl rfl (rc _))) ?_
      simp only [Act.put, List.setIfInBounds_toArray, List.set_cons_zero, List.set_cons_succ]
      refine wpList_reads (by kernel_rfl) (.slice (some ⟨gr, 0, none⟩) 17 17) (by go_simp) ?_
      simp only [Act.put, List.setIfInBounds_toArray, List.set_cons_zero, List.set_cons_succ]
      clear rc
      refine wpList_enter (by kernel_rfl) 118 #[.slice (some ⟨g6, 0, none⟩) 17 c6, .slice (some ⟨gr, 0, none⟩) 17 17] (by go_simp) (mul_any34 g6 0 c6 gr 0 17 (digs 17 (A + B)) lr (digs_length _ _) hlrl.out (digs_below _ _) hlr8.out w6 y6.out yr6.out) ?_
      rintro e w7 ⟨m7, g7, c7, hg7, rfl, own7⟩
      have hsum : valB 256 (digs 17 (A + B)) = A + B := by
        rw [valB_digs]
        refine Nat.mod_eq_of_lt ?_
        have h1 := hAl.out
        have h2 := hB2.out
        unfold P130 at h1
        rw [show (256 : Nat) ^ 17 = 87112285931760246646623899502532662132736 from by decide]
        omega
      rw [hsum, hlrv.out] at own7
      have y7 := own_numR own7
      have m07 := m06.out.trans m7
      replace y7 := Lib.hid y7
      replace m07 := Lib.hid m07
      clear m7 hg7 own7 y6 yr6 hsum
      refine ⟨_, rfl, ?_⟩
      simp only [Act.put, List.setIfInBounds_toArray, List.set_cons_zero, List.set_cons_succ]
      refine wpList_enter (by kernel_rfl) 117 #[.slice (some ⟨g7, 0, none⟩) 34 c7] (by go_simp) (left_any34 g7 c7 (digs 34 ((A + B) * r)) (digs_length _ _) (digs_below _ _) w7 y7.out) ?_
      rintro e w8 ⟨m8, g8, c8, rfl, _, y8⟩
      have hprod : valB 256 (digs 34 ((A + B) * r)) = (A + B) * r := by
        rw [valB_digs]
        refine Nat.mod_eq_of_lt ?_
        have h1 : A + B < 256 ^ 17 := hAB.out
        have h2 : r < 256 ^ 17 := by rw [← hlrv.out, ← hlrl.out]; exact valB_below lr hlr8.out
        exact Nat.lt_of_lt_of_eq (Nat.mul_lt_mul'' h1 h2) (by rw [← Nat.pow_add])
      rw [hprod, ← hAn.out] at y8
      have mf := m07.out.trans m8
      replace y8 := Lib.hid y8
      replace mf := Lib.hid mf
      clear m8 y7 hprod
      refine ⟨_, rfl, ?_⟩
      simp only [Act.put, List.setIfInBounds_toArray, List.set_cons_zero, List.set_cons_succ]
      refine wpList_reads (by kernel_rfl) (.slice (some ⟨g8, 0, none⟩) 17 c8) (by go_simp) ?_
      simp only [Act.put, List.setIfInBounds_toArray, List.set_cons_zero, List.set_cons_succ]
      go_wp2
      go_roundw
      case measure => have := hi.out; have := hu.out; simp [intOf]; omega
      case rel => exact ⟨k + 1, g8, c8, by have := hi.out; omega, by rw [show u = 16 * (k + 1) by have := hi.out; have := hu.out; omega], rfl, mf.out, y8.out⟩
    · obtain ⟨w5, rfl⟩ : ∃ x : World, x = wr := ⟨_, rfl⟩
      have hdi : decide ((i : Int) < (n : Int)) = false := by rw [decide_eq_false_iff_not]; omega
      have hknch : k = nch b := by unfold nch; rw [← hn.out]; omega
      rw [hknch] at yk
      obtain ⟨A, hA⟩ : ∃ A, A = accV r b (nch b) := ⟨_, rfl⟩
      have hAl : A < P130 := by rw [hA]; exact hacc.out _
      have hF : F = (digs 16 (A + s)).map fun d => BitVec.ofNat 8 d := by rw [hFT.out, hA]; rfl
      rw [← hA] at yk
      have x5 := mr.heap x24.out (fun h => h)
      have x45 : BytesAt16 w5 g4 (List.replicate 16 0) := mr.heap x44.out (fun h => h)
      have kk : ByteAt w5 (.slice (some ⟨g1, 16, none⟩) 16 16) (key.drop 16) := by
        have h := ByteAt.part (off := 16) (n := 16) (cap := 16) x5 (by have := hk.out; omega) (by omega)
        rw [List.take_of_length_le (by rw [List.length_drop, hk.out]; decide)] at h
        exact h
      have hkl : (key.drop 16).length = 16 := by rw [List.length_drop, hk.out]
      have m05 := m04.out.trans mr
      replace hi := Lib.hid hi
      replace hA := Lib.hid hA
      replace hAl := Lib.hid hAl
      replace x45 := Lib.hid x45
      replace kk := Lib.hid kk
      replace hkl := Lib.hid hkl
      replace m05 := Lib.hid m05
      replace yk := Lib.hid yk
      replace hF := Lib.hid hF
      clear hknch mr x5 hkn yr4 ya4 hb4 hlrv hlr8 hlrl
      go_upto_region 11 with (fail)
      refine wp_region_lit ?_
      refine wpList_reads (by kernel_rfl) (.slice (some ⟨g, 0, none⟩) 17 c) (by go_simp) ?_
      simp only [Act.put, List.setIfInBounds_toArray, List.set_cons_zero, List.set_cons_succ]
      refine wpList_reads (by kernel_rfl) (.slice (some ⟨g1, 16, none⟩) 16 16) (by go_simp) ?_
      simp only [Act.put, List.setIfInBounds_toArray, List.set_cons_zero, List.set_cons_succ]
      refine wpList_enter (by kernel_rfl) 115 #[.slice (some ⟨g1, 16, none⟩) 16 16, .bool false] (by go_simp) (number_any _ (key.drop 16) false (by rw [hkl.out]; omega) (by rw [hkl.out]; omega) w5 kk.out) ?_
      rintro e w6 ⟨m6, g6, hg6, rfl, y6⟩
      have l6 := numV_length (key.drop 16) false (by rw [hkl.out]; omega)
      have v6 := (numV_val (key.drop 16)).1
      rw [← hs.out] at v6
      have b6 := numV_below (key.drop 16) false
      obtain ⟨N6, hN6⟩ : ∃ N, N = numV (key.drop 16) false := ⟨_, rfl⟩
      rw [← hN6] at y6 l6 v6 b6
      have yk6 := yk.out.mod m6 (fun h => h)
      have x46 : BytesAt16 w6 g4 (List.replicate 16 0) := m6.heap x45.out (fun h => h)
      have m06 := m05.out.trans m6
      replace y6 := Lib.hid y6
      replace l6 := Lib.hid l6
      replace v6 := Lib.hid v6
      replace b6 := Lib.hid b6
      replace yk6 := Lib.hid yk6
      replace x46 := Lib.hid x46
      replace m06 := Lib.hid m06
      replace hN6 := Lib.hid hN6
      clear m6 hg6 yk kk x45
      refine ⟨_, rfl, ?_⟩
      simp only [Act.put, List.setIfInBounds_toArray, List.set_cons_zero, List.set_cons_succ]
      refine wpList_enter (by kernel_rfl) 116 #[.slice (some ⟨g, 0, none⟩) 17 c, .slice (some ⟨g6, 0, none⟩) 17 17] (by go_simp) ((by have h := add_any34 g 0 c g6 0 17 (digs 17 A) N6 (by rw [digs_length]; omega) (by rw [l6.out]; omega) (by rw [digs_length]; omega) (by rw [l6.out]; omega) (digs_below _ _) b6.out w6 yk6.out y6.out.numR; rw [digs_length, l6.out] at h; exact h : Calls _ _ #[.slice (some ⟨g, 0, none⟩) 17 c, .slice (some ⟨g6, 0, none⟩) 17 17] w6 _)) ?_
      rintro e w7 ⟨m7, g7, c7, hg7, rfl, own7⟩
      have hP17 : P130 < 256 ^ 17 := by decide
      rw [valB_digs, Nat.mod_eq_of_lt (Nat.lt_trans hAl.out hP17), v6.out] at own7
      have y7 := own_numR own7
      have x47 : BytesAt16 w7 g4 (List.replicate 16 0) := m7.heap x46.out (fun h => h)
      have m07 := m06.out.trans m7
      obtain ⟨w8, hw8⟩ : ∃ x, x = w7.alloc (.cells (encB (List.replicate 16 0)) 61) := ⟨_, rfl⟩
      obtain ⟨g12, hg12⟩ : ∃ x, x = w7.heap.size := ⟨_, rfl⟩
      have m8 : Mod (fun _ => False) w7 w8 := by rw [hw8]; exact (Mod.refl _ _).alloc _
      have hFl : F.length = 16 := by rw [hF.out, List.length_map, digs_length]
      have hFg : ∀ i, i < 16 → F.getD i 0 = BitVec.ofNat 8 ((digs 34 (A + s)).getD i 0) := by
        intro i hi
        rw [hF.out, digs_get _ _ _ (by omega), List.getD_eq_getElem?_getD, List.getElem?_map, List.getElem?_eq_getElem (by rw [digs_length]; exact hi)]
        simp [digs]
      have x12 : BytesAt16 w8 g12 (fil16 F 0) := by rw [hw8]; exact hp_new _ _ _ hg12
      have y8 := y7.mod m8 (fun h => h)
      have x48 : BytesAt16 w8 g4 (List.replicate 16 0) := m8.heap x47 (fun h => h)
      have m08 := m07.trans m8
      have hgw : w.heap.size ≤ g12 := by rw [hg12]; exact m07.size
      replace hgw := Lib.hid hgw
      have h412 : g4 < g12 := by rw [hg12]; exact lt_of_heap x47
      have h712 : g7 < g12 := by rw [hg12]; exact numR_lt y7 (by rw [digs_length]; omega)
      replace hw8 := Lib.hid hw8
      replace hg12 := Lib.hid hg12
      replace hFl := Lib.hid hFl
      replace hFg := Lib.hid hFg
      replace x12 := Lib.hid x12
      replace y8 := Lib.hid y8
      replace x48 := Lib.hid x48
      replace m08 := Lib.hid m08
      replace h412 := Lib.hid h412
      replace h712 := Lib.hid h712
      clear m7 m8 own7 hg7 y7 x47 m07 hP17 yk6 x46 y6
      refine ⟨_, rfl, ?_⟩
      simp only [Act.put, List.setIfInBounds_toArray, List.set_cons_zero, List.set_cons_succ]
      refine wpList_reads (by kernel_rfl) (.slice (some ⟨g7, 0, none⟩) 34 c7) (by go_simp) ?_
      simp only [Act.put, List.setIfInBounds_toArray, List.set_cons_zero, List.set_cons_succ]
      go_upto_region 12 with (fail)
      refine wp_region_lit ?_
      refine wpList_yields (by kernel_rfl) _ _ (alloc16P _ _ _ rfl) ?_
      simp only [Act.put, List.setIfInBounds_toArray, List.set_cons_zero, List.set_cons_succ]
      rw [← hg12.out, ← hw8.out]
      go_wp2
      go_loopw [13] (fun iv wr => ∃ j : Nat, j ≤ 16 ∧ iv = .int .i64 (j : Int) ∧ Mod (fun k => k = g12) w8 wr ∧ BytesAt16 wr g12 (fil16 F j)) (fun iv _ => 16 - (intOf iv).toNat)
      case atStart => exact ⟨0, by omega, rfl, Mod.refl _ _, x12.out⟩
      case round =>
        clear hdi
        obtain ⟨j, hj, rfl, mr, yr⟩ := hrel
        have bj0 : (0 : Int) ≤ (j : Int) := by omega
        by_cases hlt : j < 16
        · have hdj : decide ((j : Int) < 16) = true := by rw [decide_eq_true_iff]; omega
          have bj34 : (j : Int) < 34 := by omega
          have bj16 : (j : Int) < 16 := by omega
          obtain ⟨d, hd⟩ : ∃ d, d = (digs 34 (A + s)).getD j 0 := ⟨_, rfl⟩
          have hcd : wr.cell? ⟨g7, j, none⟩ = some (.int .u64 (d : Int)) := by
            have h1 := cell_mod mr (y8.out j (by rw [digs_length]; omega)) (by have := h712.out; omega)
            rw [Nat.zero_add] at h1
            rw [h1, hd]
          have ld := ld_u64R hcd
          obtain ⟨z, hz⟩ : ∃ z, z = BitVec.ofNat 8 d := ⟨_, rfl⟩
          have hdb : d < 256 := by rw [hd, digs_get _ _ _ (by omega)]; exact Nat.mod_lt _ (by decide)
          have hzi : IntKind.u8.wrap (d : Int) = (z.toNat : Int) := by rw [hz, BitVec.toNat_ofNat, IntKind.wrap_u8]; omega
          have hzF : z = F.getD j 0 := by rw [hz, hd]; exact (hFg.out j hlt).symm
          obtain ⟨w9, st9, n9, y9⟩ := put16P yr j z (by rw [fil16_length hFl.out (by omega)]; exact hlt)
          rw [hzF, fil16_set hFl.out hlt] at y9
          have mf := mr.trans n9
          clear hcd n9 mr yr
          replace hd := Lib.hid hd
          replace hz := Lib.hid hz
          replace hzF := Lib.hid hzF
          replace y9 := Lib.hid y9
          replace mf := Lib.hid mf
          replace hdb := Lib.hid hdb
          go_upto_region 16 with (fail)
          refine wp_region_lit ?_
          refine wpList_reads (by kernel_rfl) (.int .i64 (j : Int)) (by go_simp) ?_
          simp only [Act.put, List.setIfInBounds_toArray, List.set_cons_zero, List.set_cons_succ]
          refine wpList_reads (by kernel_rfl) (.slice (some ⟨g7, 0, none⟩) 34 c7) (by go_simp) ?_
          simp only [Act.put, List.setIfInBounds_toArray, List.set_cons_zero, List.set_cons_succ]
          refine wpList_reads (by kernel_rfl) (.int .i64 (j : Int)) (by go_simp) ?_
          simp only [Act.put, List.setIfInBounds_toArray, List.set_cons_zero, List.set_cons_succ]
          refine wpList_reads (by kernel_rfl) (.pointer (some ⟨g7, j, none⟩)) (by go_simp) ?_
          simp only [Act.put, List.setIfInBounds_toArray, List.set_cons_zero, List.set_cons_succ]
          refine wpList_reads (by kernel_rfl) (.int .u64 (d : Int)) (run_load_op rfl rfl ld) ?_
          simp only [Act.put, List.setIfInBounds_toArray, List.set_cons_zero, List.set_cons_succ]
          refine wpList_reads (by kernel_rfl) (.int .u8 (z.toNat : Int)) (by go_simp) ?_
          simp only [Act.put, List.setIfInBounds_toArray, List.set_cons_zero, List.set_cons_succ]
          refine wpList_reads (by kernel_rfl) (.pointer (some ⟨g12, j, none⟩)) (by go_simp) ?_
          simp only [Act.put, List.setIfInBounds_toArray, List.set_cons_zero, List.set_cons_succ]
          refine wpList_store_to rfl _ _ _ rfl _ _ _ rfl rfl _ st9 ?_
          simp only [Act.put, List.setIfInBounds_toArray, List.set_cons_zero, List.set_cons_succ]
          clear st9 ld
          go_wp2
          go_roundw
          case measure => simp [intOf]; omega
          case rel => exact ⟨j + 1, by omega, by go_num, mf.out, y9.out⟩
        · have hj16 : 16 = j := by omega
          subst hj16
          have hdj : decide (((16 : Nat) : Int) < 16) = false := by decide
          rw [fil16_all hFl.out] at yr
          have l12 := load16P yr hFl.out
          have x4r : BytesAt16 wr g4 (List.replicate 16 0) := mr.heap x48.out (by have := h412.out; omega)
          obtain ⟨w10, s10, n10, x10⟩ := store16P x4r (s' := F) (by simp) hFl.out
          have mf : Mod (fun _ => False) w w10 := (m08.out.trans' mr (fun k hk h => by have := hgw.out; omega)).trans' n10 (fun k hk h => by have := hg4w.out; omega)
          replace x10 := Lib.hid x10
          replace mf := Lib.hid mf
          clear n10 mr x4r hlt hj yr
          go_upto_region 17 with (fail)
          refine wp_region_lit ?_
          refine wpList_reads (by kernel_rfl) (.agg (encB F)) (run_load_op rfl rfl l12) ?_
          simp only [Act.put, List.setIfInBounds_toArray, List.set_cons_zero, List.set_cons_succ]
          refine wpList_store_to rfl _ _ _ rfl _ _ _ rfl rfl _ s10 ?_
          simp only [Act.put, List.setIfInBounds_toArray, List.set_cons_zero, List.set_cons_succ]
          refine wpList_reads (by kernel_rfl) (.int .i64 0) (by go_simp) ?_
          simp only [Act.put, List.setIfInBounds_toArray, List.set_cons_zero, List.set_cons_succ]
          clear s10 l12
          go_wp2
          refine bodyPost_ret (v := .tuple #[.agg (encB F), .int .i64 0]) (results_tagP rfl _ _ _ _ _ rfl rfl x10.out hFl.out) rfl ?_
          exact ⟨mf.out, rfl⟩
end Go.Proofs.YtbiijcljpgannaaGreatDoor
