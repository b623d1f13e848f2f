/-
  sha.begin, sha.words: the first state, the words that go in. Printed by gen/sha4.py.
-/
import Derived.Test.YtppjnkgmbmhlcaaGreatDoorS3
import Derived.Test.YtppjnkgmbmhlcaaGreatDoorMA
namespace Go.Proofs.YtppjnkgmbmhlcaaGreatDoor
set_option maxRecDepth 100000
open Go Go.RowKit Go.Lib
set_option linter.unusedSimpArgs false
set_option linter.unusedVariables false

def encW (s : List (BitVec 32)) : List Value := s.map W
theorem encW_length (s : List (BitVec 32)) : (encW s).length = s.length := List.length_map _
theorem encW_one (s : List (BitVec 32)) : ∀ v ∈ encW s, v.oneCell' = true := by
  intro v hv
  obtain ⟨x, _, rfl⟩ := List.mem_map.1 hv
  rfl
/-- A row of words. -/
def WordsAt (w : World) (g : Nat) (t : TypeId) (s : List (BitVec 32)) : Prop := w.heap[g]? = some (.cells (encW s).toArray t (0,0))
theorem WordsAt.mod {S : Nat → Prop} {w w' : World} {g : Nat} {t : TypeId} {s : List (BitVec 32)} (x : WordsAt w g t s) (m : Mod S w w') (hS : ¬ S g) : WordsAt w' g t s := m.heap x hS
theorem WordsAt.cell {w : World} {g : Nat} {t : TypeId} {s : List (BitVec 32)} (x : WordsAt w g t s) {i : Nat} (hi : i < s.length) : w.cell? ⟨g, i, none⟩ = some (.int .u32 ((s.getD i 0).toNat : Int)) := by
  rw [cell_of_row _ _ _ _ _ _ x]
  simp [encW, W, hi]
theorem WordsAt.frozen {w : World} {g : Nat} {t : TypeId} {s : List (BitVec 32)} (x : WordsAt w g t s) (i : Nat) : w.frozen? ⟨g, i, none⟩ = false := frozen_of_row _ _ _ _ _ x
theorem WordsAt.set {w : World} {g : Nat} {t : TypeId} {s : List (BitVec 32)} (x : WordsAt w g t s) (i : Nat) (y : BitVec 32) (v : Int) (hv : v = (y.toNat : Int)) : WordsAt (w.setCell ⟨g, i, none⟩ (.int .u32 v)) g t (s.set i y) ∧ Mod (fun k => k = g) w (w.setCell ⟨g, i, none⟩ (.int .u32 v)) := by
  subst hv
  refine ⟨?_, Mod.one_setCell _ _ _ _⟩
  unfold WordsAt
  rw [setCell_row _ _ _ _ _ _ x, setRow_heap _ _ _ _ _ _ x]
  congr 2
  simp [encW, List.map_set, W]
theorem word_store {w : World} {g : Nat} {t : TypeId} {s : List (BitVec 32)} (x : WordsAt w g t s) {i : Nat} (hi : i < s.length) (v : Int) : (storeVar 58 ⟨g, i, none⟩ (.int .u32 v)).run Tryz.prog w = .ok () (w.setCell ⟨g, i, none⟩ (.int .u32 v)) := by
  have hc := x.cell hi
  have hf := x.frozen i
  go_simp
theorem words_load {w : World} {g : Nat} {t : TypeId} {s : List (BitVec 32)} {d : TypeDesc} (x : WordsAt w g t s) (hu : Tryz.prog.underlying t = some d) (hd : d.isRow = true) (hi : (Tryz.prog.info? t).map (·.size) = some s.length) :
    (loadVar t ⟨g, 0, none⟩).run Tryz.prog w = .ok (.agg (encW s).toArray) w :=
  load_mid w g 0 t _ [] (encW s) [] (0,0) d (by rw [x]; simp) rfl hu hd (by rw [encW_length]; exact hi)
theorem words_store {w : World} {g : Nat} {t : TypeId} {s s' : List (BitVec 32)} (x : WordsAt w g t s) (hl : s.length = s'.length) (hi : (Tryz.prog.info? t).map (·.size) = some s'.length) :
    ∃ w', (storeVar t ⟨g, 0, none⟩ (.agg (encW s').toArray)).run Tryz.prog w = .ok () w' ∧ Mod (fun k => k = g) w w' ∧ WordsAt w' g t s' := by
  obtain ⟨w', h1, h2, h3⟩ := store_mid (P := Tryz.prog) w g 0 t t [] (encW s) [] (encW s') (by rw [x]; simp) rfl (by rw [encW_length, encW_length, hl]) (by rw [encW_length]; exact hi) (encW_one s')
  exact ⟨w', h1, h2, by unfold WordsAt; rw [h3]; simp⟩
theorem alloc_arr (t : TypeId) (cs : Array Value) (hz : ∀ w, (zeroValue t).run Tryz.prog w = .ok (.agg cs) w) (w : World) (ev : Operand → Value) (o : Oper) (ho : o.op = .alloc t) : (execOp ev o).run Tryz.prog w = .ok (.value (.pointer (some ⟨w.heap.size, 0, none⟩))) (w.alloc (.cells cs t)) := by
  unfold execOp
  simp [ho, Instr.alloc, Sem.run_bind, hz, newVar, newRow, Value.cells]
def zw (n : Nat) : List (BitVec 32) := List.replicate n 0
theorem zero8 (w : World) : (zeroValue 166).run Tryz.prog w = .ok (.agg (encW (zw 8)).toArray) w := by kernel_rfl
theorem zero64 (w : World) : (zeroValue 168).run Tryz.prog w = .ok (.agg (encW (zw 64)).toArray) w := by kernel_rfl
theorem info8 : (Tryz.prog.info? 166).map (·.size) = some 8 := by kernel_rfl
theorem info64 : (Tryz.prog.info? 168).map (·.size) = some 64 := by kernel_rfl
theorem results_words {fn : Func} {p : Tmp} {t : TypeId} {d : TypeDesc} (h : fn.results = #[.cell p t]) (tmps : Array Value) (w : World) (g : Nat) (s : List (BitVec 32)) (hp : tmps.getD p undef = .pointer (some ⟨g, 0, none⟩)) (x : WordsAt w g t s)
    (hu : Tryz.prog.underlying t = some d) (hd : d.isRow = true) (hi : (Tryz.prog.info? t).map (·.size) = some s.length) : (results fn tmps).run Tryz.prog w = .ok (.agg (encW s).toArray) w := by
  have hp' : tmps[p]?.getD undef = .pointer (some ⟨g, 0, none⟩) := by simpa using hp
  simp [results, h, Sem.run_bind, hp', asAddr, words_load x hu hd hi]
def partW (f : Nat → BitVec 32) (n i : Nat) : List (BitVec 32) := (List.range n).map fun j => if j < i then f j else 0
theorem partW_length (f : Nat → BitVec 32) (n i : Nat) : (partW f n i).length = n := by simp [partW]
theorem partW_zero (f : Nat → BitVec 32) (n : Nat) : partW f n 0 = zw n := by
  unfold partW zw
  apply List.ext_getElem
  · simp
  · intro i h1 h2
    simp
theorem partW_set (f : Nat → BitVec 32) (n i : Nat) : (partW f n i).set i (f i) = partW f n (i + 1) := by
  apply List.ext_getElem
  · simp [partW]
  · intro j h1 h2
    simp only [partW, List.getElem_set, List.getElem_map, List.getElem_range]
    by_cases e : i = j
    · subst e
      simp
    · rw [if_neg e]
      by_cases e2 : j < i
      · rw [if_pos e2, if_pos (by omega)]
      · rw [if_neg e2, if_neg (by omega)]
theorem partW_all (f : Nat → BitVec 32) (n : Nat) : partW f n n = (List.range n).map f := by
  unfold partW
  apply List.map_congr_left
  intro j hj
  rw [if_pos (List.mem_range.1 hj)]
def beginL : List (BitVec 32) := (List.range 8).map fun j => BitVec.ofNat 32 (belowTo (sqG ((primesTo 312).getD j 0)) 37)
attribute [local irreducible] primesTo belowTo in
theorem begin_any (w : World) : Calls Tryz.prog 106 #[] w fun e w' => Mod (fun _ => False) w w' ∧ e = .returned (.agg (encW beginL).toArray) := by
  have hall := primes_all
  have hlt := primes_lt 312
  obtain ⟨f, hf⟩ : ∃ f : Nat → BitVec 32, f = fun j => BitVec.ofNat 32 (belowTo (sqG ((primesTo 312).getD j 0)) 37) := ⟨_, rfl⟩
  obtain ⟨w1, hw1⟩ : ∃ w1, w1 = w.alloc (.cells (encW (zw 8)).toArray 166) := ⟨_, rfl⟩
  have x1 : WordsAt w1 w.heap.size 166 (zw 8) := by rw [hw1]; exact hp_new _ _ _ rfl
  have m1 : Mod (fun _ => False) w w1 := by rw [hw1]; exact (Mod.refl _ _).alloc _
  replace hw1 := Lib.hid hw1
  replace hall := Lib.hid hall
  replace hlt := Lib.hid hlt
  go_enter Tryz.func106, Tryz.ntmps106
  go_upto_region 0 with (fail)
  refine wp_region_lit ?_
  refine wpList_yields (by kernel_rfl) _ _ (alloc_arr 166 _ zero8 _ _ _ rfl) ?_
  simp only [Act.put, List.setIfInBounds_toArray, List.set_cons_zero, List.set_cons_succ]
  rw [← hw1.out]
  go_wp2_with fail
  refine (primes_any 8 (by decide) w1).mono ?_
  rintro e w2 ⟨m2, v, rfl, own2⟩
  obtain ⟨g, cap, rfl, hg1, hg2, hc⟩ := own_cells own2 (by decide)
  have x2 := x1.mod m2 (fun h => h)
  have hne : g ≠ w.heap.size := by have := lt_of_heap x1; omega
  have hw : w.heap.size < w1.heap.size := lt_of_heap x1
  have m12 := m1.trans m2
  have hcs : ∀ j, j < 8 → w2.cell? ⟨g, j, none⟩ = some (.int .u64 (((primesTo 312).getD j 0 : Nat) : Int)) := by
    intro j hj
    refine hc j _ ?_
    have := nums_get (k := .u64) (l := (primesTo 312).take 8) (i := j) (by rw [List.length_take, hall.out]; omega)
    rw [List.getElem?_toArray] at this
    rw [this]
    congr 3
    rw [List.getD_eq_getElem?_getD, List.getElem?_take, if_pos hj, List.getD_eq_getElem?_getD]
  rw [← partW_zero f 8] at x2
  replace hcs := Lib.hid hcs
  replace x2 := Lib.hid x2
  replace m12 := Lib.hid m12
  clear m2 own2 hc x1 m1
  go_wp2
  go_loopw [5] (fun iv wr => ∃ i : Nat, i ≤ 8 ∧ iv = .int .i64 (i : Int) ∧ Mod (fun k => k = w.heap.size) w2 wr ∧ WordsAt wr w.heap.size 166 (partW f 8 i)) (fun iv _ => 8 - (intOf iv).toNat)
  case atStart => exact ⟨0, by omega, rfl, Mod.refl _ _, x2.out⟩
  case round =>
    obtain ⟨i, hi, rfl, mr, xr⟩ := hrel
    have bi0 : (0 : Int) ≤ (i : Int) := by omega
    have bi : (i : Int) ≤ 8 := by omega
    by_cases hlt2 : i < 8
    · have hd : decide ((i : Int) < 8) = true := by rw [decide_eq_true_iff]; omega
      have bil : (i : Int) < 8 := by omega
      have hci := cell_mod mr (hcs.out i hlt2) (fun h => hne h)
      have hqm : (primesTo 312).getD i 0 ∈ primesTo 312 := by
        rw [List.getD_eq_getElem?_getD, List.getElem?_eq_getElem (by rw [hall.out]; omega)]
        exact List.getElem_mem _
      have hfi : f i = BitVec.ofNat 32 (belowTo (sqG ((primesTo 312).getD i 0)) 37) := by rw [hf]
      have hq312 := hlt.out _ hqm
      generalize hq : (primesTo 312).getD i 0 = q at *
      replace hq := Lib.hid hq
      replace hfi := Lib.hid hfi
      replace mr := Lib.hid mr
      replace xr := Lib.hid xr
      replace hlt2 := Lib.hid hlt2
      clear hi hqm
      go_wp2_with fail
      refine (square_any q  wr).mono ?_
      rintro e w3 ⟨he, m3⟩
      obtain ⟨y, hy⟩ : ∃ y, y = f i := ⟨_, rfl⟩
      rw [← hfi.out, ← hy] at he
      subst he
      have x3 := xr.out.mod m3 (fun h => h)
      have c3 := x3.cell (i := i) (by rw [partW_length]; exact hlt2.out)
      have f3 := x3.frozen i
      have hset := x3.set i y _ rfl
      rw [show (partW f 8 i).set i y = partW f 8 (i + 1) by rw [hy, partW_set]] at hset
      replace hy := Lib.hid hy
      have m23 := mr.out.trans' m3 (fun _ _ h => h.elim)
      replace hset := Lib.hid hset
      replace m23 := Lib.hid m23
      replace x3 := Lib.hid x3
      clear m3
      unfold W at *
      go_wp2
      go_roundw
      case measure => have := hlt2.out; simp [intOf]; omega
      case rel => exact ⟨i + 1, by have := hlt2.out; omega, by go_num, m23.out.trans hset.out.2, hset.out.1⟩
    · obtain rfl : i = 8 := by omega
      have hWL : (List.range 8).map f = beginL := by rw [hf]; unfold beginL; exact Eq.refl _
      rw [partW_all, hWL] at xr
      have hlen : beginL.length = 8 := by simp [beginL]
      generalize hWW : beginL = WW at *
      replace hWW := Lib.hid hWW
      clear hWL
      have hmm : Mod (fun _ => False) w wr := m12.out.trans' mr (fun i hi h => by omega)
      have ll := words_load xr Tryz.underlying166 rfl (by rw [hlen]; exact info8)
      obtain ⟨w4, s4, m4, x4⟩ := words_store xr (s' := WW) rfl (by rw [hlen]; exact info8)
      have hfin : Mod (fun _ => False) w w4 := hmm.trans' m4 (fun i hi h => by omega)
      replace hfin := Lib.hid hfin
      replace xr := Lib.hid xr
      replace mr := Lib.hid mr
      clear hmm m4 hi hlt2
      go_upto_region 6 with (fail)
      refine wp_region_lit ?_
      refine wpList_reads (by kernel_rfl) (.agg (encW WW).toArray) (run_load_op rfl rfl ll) ?_
      simp only [Act.put, List.setIfInBounds_toArray, List.set_cons_zero, List.set_cons_succ]
      refine wpList_store_to rfl _ _ _ rfl _ _ _ rfl rfl _ s4 ?_
      simp only [Act.put, List.setIfInBounds_toArray, List.set_cons_zero, List.set_cons_succ]
      go_wp2
      exact bodyPost_ret (results_words rfl _ _ w.heap.size _ rfl x4 Tryz.underlying166 rfl (by rw [hlen]; exact info8)) rfl ⟨hfin.out, by rw [hWW.out]⟩
def wordsL : List (BitVec 32) := (List.range 64).map fun j => BitVec.ofNat 32 (belowTo (cbG ((primesTo 312).getD j 0)) 37)
attribute [local irreducible] primesTo belowTo in
theorem words_any (w : World) : Calls Tryz.prog 107 #[] w fun e w' => Mod (fun _ => False) w w' ∧ e = .returned (.agg (encW wordsL).toArray) := by
  have hall := primes_all
  have hlt := primes_lt 312
  obtain ⟨f, hf⟩ : ∃ f : Nat → BitVec 32, f = fun j => BitVec.ofNat 32 (belowTo (cbG ((primesTo 312).getD j 0)) 37) := ⟨_, rfl⟩
  obtain ⟨w1, hw1⟩ : ∃ w1, w1 = w.alloc (.cells (encW (zw 64)).toArray 168) := ⟨_, rfl⟩
  have x1 : WordsAt w1 w.heap.size 168 (zw 64) := by rw [hw1]; exact hp_new _ _ _ rfl
  have m1 : Mod (fun _ => False) w w1 := by rw [hw1]; exact (Mod.refl _ _).alloc _
  replace hw1 := Lib.hid hw1
  replace hall := Lib.hid hall
  replace hlt := Lib.hid hlt
  go_enter Tryz.func107, Tryz.ntmps107
  go_upto_region 0 with (fail)
  refine wp_region_lit ?_
  refine wpList_yields (by kernel_rfl) _ _ (alloc_arr 168 _ zero64 _ _ _ rfl) ?_
  simp only [Act.put, List.setIfInBounds_toArray, List.set_cons_zero, List.set_cons_succ]
  rw [← hw1.out]
  go_wp2_with fail
  refine (primes_any 64 (by decide) w1).mono ?_
  rintro e w2 ⟨m2, v, rfl, own2⟩
  obtain ⟨g, cap, rfl, hg1, hg2, hc⟩ := own_cells own2 (by decide)
  have x2 := x1.mod m2 (fun h => h)
  have hne : g ≠ w.heap.size := by have := lt_of_heap x1; omega
  have hw : w.heap.size < w1.heap.size := lt_of_heap x1
  have m12 := m1.trans m2
  have hcs : ∀ j, j < 64 → w2.cell? ⟨g, j, none⟩ = some (.int .u64 (((primesTo 312).getD j 0 : Nat) : Int)) := by
    intro j hj
    refine hc j _ ?_
    have := nums_get (k := .u64) (l := (primesTo 312).take 64) (i := j) (by rw [List.length_take, hall.out]; omega)
    rw [List.getElem?_toArray] at this
    rw [this]
    congr 3
    rw [List.getD_eq_getElem?_getD, List.getElem?_take, if_pos hj, List.getD_eq_getElem?_getD]
  rw [← partW_zero f 64] at x2
  replace hcs := Lib.hid hcs
  replace x2 := Lib.hid x2
  replace m12 := Lib.hid m12
  clear m2 own2 hc x1 m1
  go_wp2
  go_loopw [5] (fun iv wr => ∃ i : Nat, i ≤ 64 ∧ iv = .int .i64 (i : Int) ∧ Mod (fun k => k = w.heap.size) w2 wr ∧ WordsAt wr w.heap.size 168 (partW f 64 i)) (fun iv _ => 64 - (intOf iv).toNat)
  case atStart => exact ⟨0, by omega, rfl, Mod.refl _ _, x2.out⟩
  case round =>
    obtain ⟨i, hi, rfl, mr, xr⟩ := hrel
    have bi0 : (0 : Int) ≤ (i : Int) := by omega
    have bi : (i : Int) ≤ 64 := by omega
    by_cases hlt2 : i < 64
    · have hd : decide ((i : Int) < 64) = true := by rw [decide_eq_true_iff]; omega
      have bil : (i : Int) < 64 := by omega
      have hci := cell_mod mr (hcs.out i hlt2) (fun h => hne h)
      have hqm : (primesTo 312).getD i 0 ∈ primesTo 312 := by
        rw [List.getD_eq_getElem?_getD, List.getElem?_eq_getElem (by rw [hall.out]; omega)]
        exact List.getElem_mem _
      have hfi : f i = BitVec.ofNat 32 (belowTo (cbG ((primesTo 312).getD i 0)) 37) := by rw [hf]
      have hq312 := hlt.out _ hqm
      generalize hq : (primesTo 312).getD i 0 = q at *
      replace hq := Lib.hid hq
      replace hfi := Lib.hid hfi
      replace mr := Lib.hid mr
      replace xr := Lib.hid xr
      replace hlt2 := Lib.hid hlt2
      clear hi hqm
      go_wp2_with fail
      refine (cube_any q (by omega) wr).mono ?_
      rintro e w3 ⟨he, m3⟩
      obtain ⟨y, hy⟩ : ∃ y, y = f i := ⟨_, rfl⟩
      rw [← hfi.out, ← hy] at he
      subst he
      have x3 := xr.out.mod m3 (fun h => h)
      have c3 := x3.cell (i := i) (by rw [partW_length]; exact hlt2.out)
      have f3 := x3.frozen i
      have hset := x3.set i y _ rfl
      rw [show (partW f 64 i).set i y = partW f 64 (i + 1) by rw [hy, partW_set]] at hset
      replace hy := Lib.hid hy
      have m23 := mr.out.trans' m3 (fun _ _ h => h.elim)
      replace hset := Lib.hid hset
      replace m23 := Lib.hid m23
      replace x3 := Lib.hid x3
      clear m3
      unfold W at *
      go_wp2
      go_roundw
      case measure => have := hlt2.out; simp [intOf]; omega
      case rel => exact ⟨i + 1, by have := hlt2.out; omega, by go_num, m23.out.trans hset.out.2, hset.out.1⟩
    · obtain rfl : i = 64 := by omega
      have hWL : (List.range 64).map f = wordsL := by rw [hf]; unfold wordsL; exact Eq.refl _
      rw [partW_all, hWL] at xr
      have hlen : wordsL.length = 64 := by simp [wordsL]
      generalize hWW : wordsL = WW at *
      replace hWW := Lib.hid hWW
      clear hWL
      have hmm : Mod (fun _ => False) w wr := m12.out.trans' mr (fun i hi h => by omega)
      have ll := words_load xr Tryz.underlying168 rfl (by rw [hlen]; exact info64)
      obtain ⟨w4, s4, m4, x4⟩ := words_store xr (s' := WW) rfl (by rw [hlen]; exact info64)
      have hfin : Mod (fun _ => False) w w4 := hmm.trans' m4 (fun i hi h => by omega)
      replace hfin := Lib.hid hfin
      replace xr := Lib.hid xr
      replace mr := Lib.hid mr
      clear hmm m4 hi hlt2
      go_upto_region 6 with (fail)
      refine wp_region_lit ?_
      refine wpList_reads (by kernel_rfl) (.agg (encW WW).toArray) (run_load_op rfl rfl ll) ?_
      simp only [Act.put, List.setIfInBounds_toArray, List.set_cons_zero, List.set_cons_succ]
      refine wpList_store_to rfl _ _ _ rfl _ _ _ rfl rfl _ s4 ?_
      simp only [Act.put, List.setIfInBounds_toArray, List.set_cons_zero, List.set_cons_succ]
      go_wp2
      exact bodyPost_ret (results_words rfl _ _ w.heap.size _ rfl x4 Tryz.underlying168 rfl (by rw [hlen]; exact info64)) rfl ⟨hfin.out, by rw [hWW.out]⟩
end Go.Proofs.YtppjnkgmbmhlcaaGreatDoor
