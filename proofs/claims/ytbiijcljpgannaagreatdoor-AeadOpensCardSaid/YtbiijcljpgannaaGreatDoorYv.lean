/-
  rows of uint64; mailcoachref05.carried, add. Printed by gen/pr1.py.
-/
import Derived.Test.YtbiijcljpgannaaGreatDoorYu
import Derived.Test.YtbiijcljpgannaaGreatDoorYa
import Derived.Test.YtbiijcljpgannaaGreatDoorMA
namespace Go.Proofs.YtbiijcljpgannaaGreatDoor
set_option maxRecDepth 100000
open Go Go.RowKit Go.Lib
set_option linter.unusedSimpArgs false
set_option linter.unusedVariables false

/-- The cells of a list of numbers. -/
def NumR (w : World) (g off : Nat) (l : List Nat) : Prop := ∀ j, j < l.length → w.cell? ⟨g, off + j, none⟩ = some (.int .u64 ((l.getD j 0 : Nat) : Int))
theorem NumR.mod {S : Nat → Prop} {w w' : World} {g off : Nat} {l : List Nat} (h : NumR w g off l) (m : Mod S w w') (hS : ¬ S g) : NumR w' g off l := fun j hj => cell_mod m (h j hj) hS
theorem NumR.take {w : World} {g off : Nat} {l : List Nat} (h : NumR w g off l) (n : Nat) (hn : n ≤ l.length) : NumR w g off (l.take n) := fun j hj => by
  rw [List.length_take, Nat.min_eq_left hn] at hj
  rw [h j (by omega), List.getD_eq_getElem?_getD, List.getD_eq_getElem?_getD, List.getElem?_take, if_pos hj]
def RowU (w : World) (g : Nat) (l : List Nat) : Prop := w.heap[g]? = some (.cells (nums .u64 l).toArray 77 (0,0))
theorem nums_at (l : List Nat) (j : Nat) (hj : j < l.length) : (nums .u64 l)[j]? = some (.int .u64 ((l.getD j 0 : Nat) : Int)) := by
  simp only [nums, List.getElem?_map]
  rw [List.getElem?_eq_getElem hj, List.getD_eq_getElem?_getD, List.getElem?_eq_getElem hj]
  rfl
theorem RowU.numR {w : World} {g : Nat} {l : List Nat} (h : RowU w g l) : NumR w g 0 l := fun j hj => by
  rw [Nat.zero_add, cell_of_row _ _ _ _ _ _ h]
  simpa using nums_at l j hj
theorem RowU.put {w : World} {g : Nat} {l : List Nat} (h : RowU w g l) (j n : Nat) (hj : j < l.length) : ∃ w', (storeVar 77 ⟨g, j, none⟩ (.int .u64 (n : Int))).run Tryz.prog w = .ok () w' ∧ Mod (fun k => k = g) w w' ∧ RowU w' g (l.set j n) := by
  have hc := h.numR j hj
  rw [Nat.zero_add] at hc
  refine ⟨_, store_u64 hc (frozen_of_row w g j _ _ h), Mod.one_setCell _ _ _ _, ?_⟩
  unfold RowU
  rw [setCell_row _ _ _ _ _ _ h, setRow_heap _ _ _ _ _ _ h]
  congr 2
  simp [nums, List.map_set]
theorem own_numR {w : World} {base n g cap : Nat} {l : List Nat} (h : w.ownsRow base 77 1 (.slice (some ⟨g, 0, none⟩) n cap) n (nums .u64 l)) : NumR w g 0 l := fun j hj => by
  have hl := h.1
  rw [nums_length, Nat.mul_one] at hl
  rw [Nat.zero_add, h.cellAt j (by omega)]
  exact nums_at l j hj
theorem own_some64 {w : World} {base n : Nat} {v : Value} {xs : List Value} (h : w.ownsRow base 77 1 v n xs) (hn : 0 < n) : ∃ g c, v = .slice (some ⟨g, 0, none⟩) n c ∧ base ≤ g ∧ g < w.heap.size := by
  rcases h.2 with ⟨h1, h2⟩ | ⟨g, cap, cur, h1, h2, h3, _⟩
  · omega
  · exact ⟨g, cap, h1, h2, lt_of_heap h3⟩
theorem infoU64' : (Tryz.prog.info? 77).map (fun i => (i.zero, i.size, i.bytes)) = some (some (.int .u64 0), 1, 8) := by kernel_rfl
theorem numR_cells {w : World} {g off n : Nat} {l : List Nat} (h : NumR w g off l) : ∀ j u, (nums .u64 l)[j]? = some u → w.cell? ((⟨g, off, none⟩ : Addr).add j) = some u := by
  intro j u hu
  have hj : j < l.length := by
    rcases Nat.lt_or_ge j l.length with h' | h'
    · exact h'
    · rw [List.getElem?_eq_none (by rw [nums_length]; exact h')] at hu; cases hu
  rw [nums_at l j hj] at hu
  rw [← hu]
  have := h j hj
  by_cases h0 : j = 0
  · subst h0; simpa [Addr.add] using this
  · simpa [Addr.add, h0] using this
theorem append64 {w : World} {base n ga : Nat} {v : Value} {l : List Nat} {y : Nat} (hown : w.ownsRow base 77 1 v n (nums .u64 l)) (hx : RowU w ga [y]) (hfit : n + 1 ≤ 1000000) (hbase : base ≤ w.heap.size) (ty : TypeId) :
    ∃ v' w', (Builtin.append_ #[81, 81] ty #[v, .slice (some ⟨ga, 0, none⟩) 1 1]).run Tryz.prog w = .ok v' w' ∧ w'.ownsRow base 77 1 v' (n + 1) (nums .u64 (l ++ [y])) ∧ Mod (fun k => base ≤ k) w w' := by
  obtain ⟨i0, hi, hz0, hz1, hz2⟩ := info_parts infoU64'
  obtain ⟨v', w', h1, h2, h3⟩ := run_append_split (P := Tryz.prog) w base 81 ty 77 i0 (.int .u64 0) 1 8 Tryz.underlying81 hi hz0 hz1 hz2 rfl v n (nums .u64 l) hown ⟨ga, 0, none⟩ 1 1 (nums .u64 [y]) rfl (numR_cells (n := 1) hx.numR) (nums_one _ _) (by omega) (by unfold maxLen; omega) (by omega) hbase
  refine ⟨v', w', h1, by simpa [nums] using h2, ?_⟩
  rcases h3 with ⟨g, cap, rfl, rfl, hg⟩ | ⟨hv, hg⟩
  · exact (Mod.refl _ _).grown hg (fun k hk _ => (hown.lt k hk).1)
  · exact (Mod.refl _ _).grown hg (fun k hk _ => by cases hk)
theorem ld_u64R {w : World} {g off : Nat} {n : Int} (hc : w.cell? ⟨g, off, none⟩ = some (.int .u64 n)) : (loadVar 77 ⟨g, off, none⟩).run Tryz.prog w = .ok (.int .u64 n) w := by go_simp
theorem make64 (n : Nat) (hn : n ≤ 1000) (w : World) : (Instr.makeSlice 81 (.int .i64 (n : Int)) (.int .i64 (n : Int))).run Tryz.prog w = .ok (.slice (some ⟨w.heap.size, 0, none⟩) n n) (w.alloc (.cells (nums .u64 (List.replicate n 0)).toArray 77)) := by
  obtain ⟨i0, hi, hz0, hz1, hz2⟩ := info_parts infoU64'
  have h := run_make (P := Tryz.prog) w 81 77 i0 (.int .u64 0) Tryz.underlying81 hi hz0 .i64 .i64 (n : Int) (n : Int) (by omega) (by omega) (by rw [hz2]; omega) (by omega)
  have hs : (nums .u64 (List.replicate n 0)).toArray = madeCells #[.int .u64 0] n := by
    apply Array.ext'
    rw [toList_madeCells_one]
    simp [nums]
  rw [h, hz1, hs]
  simp [Value.cells]
set_option maxRecDepth 100000 in
set_option maxHeartbeats 4000000 in
theorem carried34 (g off cap : Nat) (l : List Nat) (hl : l.length = 34) (hD : ∀ d ∈ l, d ≤ 4294967296) (w : World) (hr : NumR w g off l) :
    Calls Tryz.prog 126 #[.slice (some ⟨g, off, none⟩) 34 cap, .int .i64 34] w fun e w' => Mod (fun _ => False) w w' ∧ ∃ g' c, w.heap.size ≤ g' ∧ e = .returned (.slice (some ⟨g', 0, none⟩) 34 c) ∧ w'.ownsRow w.heap.size 77 1 (.slice (some ⟨g', 0, none⟩) 34 c) 34 (nums .u64 (digs 34 (valB 256 l))) := by
  have own0 : w.ownsRow w.heap.size 77 1 (.slice none 0 0) 0 (nums .u64 (digs 0 (valB 256 l))) := World.ownsRow_nil _ _ _ _
  have hg : g < w.heap.size := by
    have := hr 0 (by omega)
    rcases Nat.lt_or_ge g w.heap.size with h' | h'
    · exact h'
    · simp [World.cell?, Array.getElem?_eq_none h'] at this
  replace hl := Lib.hid hl
  replace hD := Lib.hid hD
  replace hr := Lib.hid hr
  replace own0 := Lib.hid own0
  replace hg := Lib.hid hg
  go_enter Tryz.func126, Tryz.ntmps126
  go_wp2
  go_loopw [5, 6, 7] (fun ov mv iv wr => ∃ i : Nat, i ≤ 34 ∧ iv = .int .i64 (i : Int) ∧ mv = .int .u64 ((moreS l i : Nat) : Int) ∧ Mod (fun _ => False) w wr ∧ wr.ownsRow w.heap.size 77 1 ov i (nums .u64 (digs i (valB 256 l)))) (fun _ _ iv _ => 34 - (intOf iv).toNat)
  case atStart => exact ⟨0, by omega, rfl, by rw [moreS_zero]; rfl, Mod.refl _ _, own0.out⟩
  case round =>
    obtain ⟨i, hi, rfl, rfl, mr, ownr⟩ := hrel
    have bi0 : (0 : Int) ≤ (i : Int) := by omega
    obtain ⟨m, hm⟩ : ∃ m, m = moreS l i := ⟨_, rfl⟩
    rw [← hm]
    by_cases hlt : i < 34
    · have hdi : decide ((i : Int) < 34) = true := by rw [decide_eq_true_iff]; omega
      have bi34 : (i : Int) < 34 := by omega
      obtain ⟨d, hd⟩ : ∃ d, d = l.getD i 0 := ⟨_, rfl⟩
      have hcd : wr.cell? ⟨g, off + i, none⟩ = some (.int .u64 (d : Int)) := by rw [hd]; exact cell_mod mr (hr.out i (by rw [hl.out]; exact hlt)) (fun h => h)
      have ld := ld_u64R hcd
      have hmb : m ≤ 4294967296 := by rw [hm]; exact moreS_le l _ hD.out i
      have hdb : d ≤ 4294967296 := by rw [hd]; exact getD_le hD.out i
      obtain ⟨s, hs⟩ : ∃ s, s = m + d := ⟨_, rfl⟩
      have hsi : (m : Int) + (d : Int) = (s : Int) := by omega
      have bs0 : (0 : Int) ≤ (s : Int) := by omega
      have hws : IntKind.u64.wrap (s : Int) = (s : Int) := by rw [IntKind.wrap_u64]; omega
      obtain ⟨y, hy⟩ : ∃ y, y = s % 256 := ⟨_, rfl⟩
      have hyt : Int.tmod (s : Int) 256 = (y : Int) := by rw [hy]; rfl
      have hye : (s : Int) % 256 = (y : Int) := by omega
      have by0 : (0 : Int) ≤ (y : Int) := by omega
      have hwy : IntKind.u64.wrap (y : Int) = (y : Int) := by rw [IntKind.wrap_u64]; omega
      obtain ⟨q, hq⟩ : ∃ q, q = s / 256 := ⟨_, rfl⟩
      have hqt : Int.tdiv (s : Int) 256 = (q : Int) := by rw [hq]; rfl
      have hqe : (s : Int) / 256 = (q : Int) := by omega
      have bq0 : (0 : Int) ≤ (q : Int) := by omega
      have hwq : IntKind.u64.wrap (q : Int) = (q : Int) := by rw [IntKind.wrap_u64]; omega
      have hqm : q = moreS l (i + 1) := by rw [hq, hs, hm, hd]; exact moreS_next l i
      have hyd : digs (i + 1) (valB 256 l) = digs i (valB 256 l) ++ [y] := by rw [digs_succ, hy, hs, hm, hd, moreS_digit]
      obtain ⟨ai, ci, hov⟩ := own_sliceP ownr
      subst hov
      obtain ⟨D, hDD⟩ : ∃ D, D = digs i (valB 256 l) := ⟨_, rfl⟩
      rw [← hDD] at hyd ownr
      obtain ⟨wa, hwa⟩ : ∃ wa, wa = wr.alloc (.cells #[.int .u64 (y : Int)] 77) := ⟨_, rfl⟩
      obtain ⟨ga, hga⟩ : ∃ ga, ga = wr.heap.size := ⟨_, rfl⟩
      have ma : Mod (fun _ => False) wr wa := by rw [hwa]; exact (Mod.refl _ _).alloc _
      have ra : RowU wa ga [y] := by rw [hwa]; exact hp_new _ _ _ hga
      have ownA := ownsRow_keep0 ownr ma
      obtain ⟨v6, w6, hr6, own6, m6⟩ := append64 ownA ra (by omega) (Nat.le_trans mr.size ma.size) 81
      have mf : Mod (fun _ => False) w w6 := (mr.trans ma).trans' m6 (fun k hk h => by omega)
      rw [← hyd] at own6
      replace hm := Lib.hid hm
      replace hd := Lib.hid hd
      replace hs := Lib.hid hs
      replace hy := Lib.hid hy
      replace hq := Lib.hid hq
      replace hqm := Lib.hid hqm
      replace hyd := Lib.hid hyd
      replace hDD := Lib.hid hDD
      replace hwa := Lib.hid hwa
      replace hga := Lib.hid hga
      replace own6 := Lib.hid own6
      replace mf := Lib.hid mf
      replace hmb := Lib.hid hmb
      replace hdb := Lib.hid hdb
      clear ma ra ownA ownr m6 mr hcd
      go_upto_region 7 with (fail)
      refine wp_region_lit ?_
      refine wpList_reads (by kernel_rfl) (.int .u64 (m : Int)) (by go_simp) ?_
      simp only [Act.put, List.setIfInBounds_toArray, List.set_cons_zero, List.set_cons_succ]
      refine wpList_reads (by kernel_rfl) (.slice (some ⟨g, off, none⟩) 34 cap) (by go_simp) ?_
      simp only [Act.put, List.setIfInBounds_toArray, List.set_cons_zero, List.set_cons_succ]
      refine wpList_reads (by kernel_rfl) (.int .i64 (i : Int)) (by go_simp) ?_
      simp only [Act.put, List.setIfInBounds_toArray, List.set_cons_zero, List.set_cons_succ]
      refine wpList_reads (by kernel_rfl) (.pointer (some ⟨g, off + i, none⟩)) (by go_simp) ?_
      simp only [Act.put, List.setIfInBounds_toArray, List.set_cons_zero, List.set_cons_succ]
      refine wpList_reads (by kernel_rfl) (.int .u64 (d : Int)) (run_load_op rfl rfl ld) ?_
      simp only [Act.put, List.setIfInBounds_toArray, List.set_cons_zero, List.set_cons_succ]
      refine wpList_reads (by kernel_rfl) (.int .u64 (s : Int)) (by go_simp) ?_
      simp only [Act.put, List.setIfInBounds_toArray, List.set_cons_zero, List.set_cons_succ]
      refine wpList_reads (by kernel_rfl) (.int .u64 (s : Int)) (by go_simp) ?_
      simp only [Act.put, List.setIfInBounds_toArray, List.set_cons_zero, List.set_cons_succ]
      clear ld
      go_upto_region 8 with (fail)
      refine wp_region_lit ?_
      refine wpList_reads (by kernel_rfl) (.slice ai i ci) (by go_simp) ?_
      simp only [Act.put, List.setIfInBounds_toArray, List.set_cons_zero, List.set_cons_succ]
      refine wpList_reads (by kernel_rfl) (.int .u64 (s : Int)) (by go_simp) ?_
      simp only [Act.put, List.setIfInBounds_toArray, List.set_cons_zero, List.set_cons_succ]
      refine wpList_reads (by kernel_rfl) (.int .u64 (y : Int)) (by go_simp) ?_
      simp only [Act.put, List.setIfInBounds_toArray, List.set_cons_zero, List.set_cons_succ]
      refine wpList_yields (by kernel_rfl) (.slice (some ⟨ga, 0, none⟩) 1 1) wa (by rw [hwa.out, hga.out]; go_simp) ?_
      simp only [Act.put, List.setIfInBounds_toArray, List.set_cons_zero, List.set_cons_succ]
      refine wpList_yields (by kernel_rfl) v6 w6 (run_append_opP rfl rfl rfl hr6) ?_
      simp only [Act.put, List.setIfInBounds_toArray, List.set_cons_zero, List.set_cons_succ]
      clear hr6
      refine wpList_reads (by kernel_rfl) (v6) (by go_simp) ?_
      simp only [Act.put, List.setIfInBounds_toArray, List.set_cons_zero, List.set_cons_succ]
      go_upto_region 9 with (fail)
      refine wp_region_lit ?_
      refine wpList_reads (by kernel_rfl) (.int .u64 (s : Int)) (by go_simp) ?_
      simp only [Act.put, List.setIfInBounds_toArray, List.set_cons_zero, List.set_cons_succ]
      refine wpList_reads (by kernel_rfl) (.int .u64 (q : Int)) (by go_simp) ?_
      simp only [Act.put, List.setIfInBounds_toArray, List.set_cons_zero, List.set_cons_succ]
      refine wpList_reads (by kernel_rfl) (.int .u64 (q : Int)) (by go_simp) ?_
      simp only [Act.put, List.setIfInBounds_toArray, List.set_cons_zero, List.set_cons_succ]
      go_wp2
      go_roundw
      case measure => simp [intOf]; omega
      case rel => exact ⟨i + 1, by omega, by go_num, by rw [hqm.out], mf.out, own6.out⟩
    · have hi34 : i = 34 := by omega
      subst hi34
      have hdi : decide (((34 : Nat) : Int) < 34) = false := by decide
      obtain ⟨g', c', rfl, hg1, _⟩ := own_some64 ownr (by omega)
      replace ownr := Lib.hid ownr
      replace mr := Lib.hid mr
      replace hg1 := Lib.hid hg1
      replace hm := Lib.hid hm
      clear hlt hi
      go_wp2
      go_ret
      exact ⟨mr.out, g', c', hg1.out, rfl, ownr.out⟩

def partV (a b : List Nat) (i k : Nat) : List Nat := (List.range 34).map fun j => (if j < i then a.getD j 0 else 0) + (if j < k then b.getD j 0 else 0)
theorem partV_length (a b : List Nat) (i k : Nat) : (partV a b i k).length = 34 := by simp [partV]
theorem partV_get (a b : List Nat) (i k j : Nat) (hj : j < 34) : (partV a b i k).getD j 0 = (if j < i then a.getD j 0 else 0) + (if j < k then b.getD j 0 else 0) := by
  unfold partV
  rw [List.getD_eq_getElem?_getD, List.getElem?_map, List.getElem?_range hj]
  rfl
theorem partV_zero (a b : List Nat) : partV a b 0 0 = List.replicate 34 0 := by
  apply List.ext_getElem
  · simp [partV]
  · intro j h1 h2
    simp only [partV, List.getElem_map, List.getElem_range, List.getElem_replicate]
    simp
theorem partV_a (a b : List Nat) (i : Nat) (hi : i < 34) : (partV a b i 0).set i ((partV a b i 0).getD i 0 + a.getD i 0) = partV a b (i + 1) 0 := by
  rw [partV_get _ _ _ _ _ hi]
  apply List.ext_getElem
  · simp [partV]
  · intro j h1 h2
    rw [List.getElem_set]
    simp only [partV, List.getElem_map, List.getElem_range]
    by_cases h : i = j
    · subst h; simp
    · rw [if_neg h]
      by_cases h3 : j < i
      · simp [h3, show j < i + 1 by omega]
      · simp [h3, show ¬ j < i + 1 by omega]
theorem partV_b (a b : List Nat) (i k : Nat) (hk : k < 34) : (partV a b i k).set k ((partV a b i k).getD k 0 + b.getD k 0) = partV a b i (k + 1) := by
  rw [partV_get _ _ _ _ _ hk]
  apply List.ext_getElem
  · simp [partV]
  · intro j h1 h2
    rw [List.getElem_set]
    simp only [partV, List.getElem_map, List.getElem_range]
    by_cases h : k = j
    · subst h; simp
    · rw [if_neg h]
      by_cases h3 : j < k
      · simp [h3, show j < k + 1 by omega]
      · simp [h3, show ¬ j < k + 1 by omega]
theorem partV_all (a b : List Nat) : partV a b a.length b.length = addV a b 34 := by
  have h : ∀ (l : List Nat) (j : Nat), (if j < l.length then l.getD j 0 else 0) = l.getD j 0 := fun l j => by
    split
    · rfl
    · rw [List.getD_eq_getElem?_getD, List.getElem?_eq_none (by omega)]; rfl
  unfold partV addV
  simp only [h]
theorem partV_le (a b : List Nat) (ha : ∀ d ∈ a, d < 256) (hb : ∀ d ∈ b, d < 256) (i k : Nat) : ∀ d ∈ partV a b i k, d ≤ 510 := by
  intro d hd
  simp only [partV, List.mem_map, List.mem_range] at hd
  obtain ⟨j, hj, rfl⟩ := hd
  have h1 : a.getD j 0 ≤ 255 := getD_le (fun x hx => by have := ha x hx; omega) j
  have h2 : b.getD j 0 ≤ 255 := getD_le (fun x hx => by have := hb x hx; omega) j
  split <;> split <;> omega
theorem numR_lt {w : World} {g off : Nat} {l : List Nat} (h : NumR w g off l) (hl : 0 < l.length) : g < w.heap.size := by
  have := h 0 hl
  rcases Nat.lt_or_ge g w.heap.size with h' | h'
  · exact h'
  · simp [World.cell?, Array.getElem?_eq_none h'] at this
set_option maxRecDepth 100000 in
set_option maxHeartbeats 4000000 in
theorem add_any34 (g1 o1 c1 g2 o2 c2 : Nat) (a b : List Nat) (ha0 : 0 < a.length) (hb0 : 0 < b.length) (ha : a.length ≤ 34) (hb : b.length ≤ 34) (ha8 : ∀ d ∈ a, d < 256) (hb8 : ∀ d ∈ b, d < 256) (w : World) (hra : NumR w g1 o1 a) (hrb : NumR w g2 o2 b) :
    Calls Tryz.prog 116 #[.slice (some ⟨g1, o1, none⟩) a.length c1, .slice (some ⟨g2, o2, none⟩) b.length c2] w fun e w' => Mod (fun _ => False) w w' ∧ ∃ g' c, w.heap.size ≤ g' ∧ e = .returned (.slice (some ⟨g', 0, none⟩) 34 c) ∧ w'.ownsRow w.heap.size 77 1 (.slice (some ⟨g', 0, none⟩) 34 c) 34 (nums .u64 (digs 34 (valB 256 a + valB 256 b))) := by
  have hl1 := numR_lt hra ha0
  have hl2 := numR_lt hrb hb0
  obtain ⟨na, hna⟩ : ∃ n, n = a.length := ⟨_, rfl⟩
  obtain ⟨nb, hnb⟩ : ∃ n, n = b.length := ⟨_, rfl⟩
  rw [← hna] at ha ⊢
  rw [← hnb] at hb ⊢
  have bna0 : (0 : Int) ≤ (na : Int) := by omega
  have bnb0 : (0 : Int) ≤ (nb : Int) := by omega
  have bna : (na : Int) ≤ 34 := by omega
  have bnb : (nb : Int) ≤ 34 := by omega
  obtain ⟨w1, hw1⟩ : ∃ x, x = w.alloc (.cells (nums .u64 (List.replicate 34 0)).toArray 77) := ⟨_, rfl⟩
  obtain ⟨G, hG⟩ : ∃ x, x = w.heap.size := ⟨_, rfl⟩
  have m1 : Mod (fun _ => False) w w1 := by rw [hw1]; exact (Mod.refl _ _).alloc _
  have x1 : RowU w1 G (partV a b 0 0) := by rw [hw1, partV_zero]; exact hp_new _ _ _ hG
  have mk := make64 34 (by decide) w
  rw [← hG, ← hw1] at mk
  replace hna := Lib.hid hna
  replace hnb := Lib.hid hnb
  replace hw1 := Lib.hid hw1
  replace hG := Lib.hid hG
  replace m1 := Lib.hid m1
  replace x1 := Lib.hid x1
  replace hra := Lib.hid hra
  replace hrb := Lib.hid hrb
  replace ha8 := Lib.hid ha8
  replace hb8 := Lib.hid hb8
  replace hl1 := Lib.hid hl1
  replace hl2 := Lib.hid hl2
  go_enter Tryz.func116, Tryz.ntmps116
  go_upto_region 1 with (fail)
  refine wp_region_lit ?_
  refine wpList_yields (by kernel_rfl) (.slice (some ⟨G, 0, none⟩) 34 34) w1 (run_make_op rfl rfl rfl mk) ?_
  simp only [Act.put, List.setIfInBounds_toArray, List.set_cons_zero, List.set_cons_succ]
  refine wpList_reads (by kernel_rfl) (.slice (some ⟨G, 0, none⟩) 34 34) (by go_simp) ?_
  simp only [Act.put, List.setIfInBounds_toArray, List.set_cons_zero, List.set_cons_succ]
  clear mk
  go_wp2
  go_loopw [6] (fun iv wr => ∃ i : Nat, i ≤ na ∧ iv = .int .i64 (i : Int) ∧ Mod (fun k => k = G) w1 wr ∧ RowU wr G (partV a b i 0)) (fun iv _ => na - (intOf iv).toNat)
  case atStart => exact ⟨0, by omega, rfl, Mod.refl _ _, x1.out⟩
  case round =>
    obtain ⟨i, hi, rfl, mr, yr⟩ := hrel
    have bi0 : (0 : Int) ≤ (i : Int) := by omega
    have MR := m1.out.trans' mr (fun k hk h => by have := hG.out; omega)
    by_cases hlt : i < na
    · have hdi : decide ((i : Int) < (na : Int)) = true := by rw [decide_eq_true_iff]; omega
      have bi34 : (i : Int) < (na : Int) := by omega
      have bi34' : (i : Int) < 34 := by omega
      have hi34 : i < 34 := by omega
      obtain ⟨d, hd⟩ : ∃ d, d = a.getD i 0 := ⟨_, rfl⟩
      obtain ⟨L, hL⟩ : ∃ L, L = partV a b i 0 := ⟨_, rfl⟩
      have hLl : L.length = 34 := by rw [hL]; exact partV_length _ _ _ _
      have hLe := partV_le a b ha8.out hb8.out i 0
      rw [← hL] at hLe yr
      obtain ⟨y, hy⟩ : ∃ y, y = L.getD i 0 := ⟨_, rfl⟩
      have hyb : y ≤ 510 := by rw [hy]; exact getD_le hLe i
      have hdb : d ≤ 255 := by rw [hd]; exact getD_le (fun x hx => by have := ha8.out x hx; omega) i
      obtain ⟨s, hs⟩ : ∃ s, s = y + d := ⟨_, rfl⟩
      have hsi : (y : Int) + (d : Int) = (s : Int) := by omega
      have hws : IntKind.u64.wrap (s : Int) = (s : Int) := by rw [IntKind.wrap_u64]; omega
      have hcd : wr.cell? ⟨g1, o1 + i, none⟩ = some (.int .u64 (d : Int)) := by rw [hd]; exact cell_mod MR (hra.out i (by rw [← hna.out]; exact hlt)) (fun h => h)
      have hcy : wr.cell? ⟨G, i, none⟩ = some (.int .u64 (y : Int)) := by have := yr.numR i (by omega); rw [Nat.zero_add] at this; rw [this, hy]
      have hset : L.set i s = partV a b (i + 1) 0 := by rw [hs, hy, hd, hL]; exact partV_a a b i hi34
      replace hd := Lib.hid hd
      replace hL := Lib.hid hL
      replace hLl := Lib.hid hLl
      replace hy := Lib.hid hy
      replace hs := Lib.hid hs
      replace hcd := Lib.hid hcd
      replace hcy := Lib.hid hcy
      replace hset := Lib.hid hset
      replace yr := Lib.hid yr
      clear hLe
      go_upto_region 5 with (fail)
      refine wp_region_any (by kernel_rfl) (any_of_Z (S := fun W => Mod (fun _ => False) wr W) (z := 12) _ _ _ _ ?_)
      simp only [List.size_toArray, List.length_cons, List.length_nil, Nat.reduceAdd, Array.replicate_succ, Array.replicate_zero, List.push_toArray, List.nil_append, List.cons_append]
      have md : Mod (fun _ => False) wr wr.drew := (Mod.refl _ _).drew
      change anyZ _ _ _ _ _ _ _ _ _ wr.drew
      obtain ⟨wd, hwd⟩ : ∃ x, x = wr.drew := ⟨_, rfl⟩
      rw [← hwd] at md ⊢
      clear hwd
      refine anyZ_take 0 _ (some 15) (.slice (some ⟨G, 0, none⟩) 34 34) rfl (by kernel_rfl) (by kernel_rfl) (by kernel_rfl) (by kernel_rfl) (by kernel_rfl) (by decide) rfl (fun w' hS => ?_) md ?_
      · go_simp
      simp only [Act.put, List.setIfInBounds_toArray, List.set_cons_zero, List.set_cons_succ]
      refine anyZ_take 1 _ (some 16) (.int .i64 (i : Int)) rfl (by kernel_rfl) (by kernel_rfl) (by kernel_rfl) (by kernel_rfl) (by kernel_rfl) (by decide) rfl (fun w' hS => ?_) md ?_
      · go_simp
      simp only [Act.put, List.setIfInBounds_toArray, List.set_cons_zero, List.set_cons_succ]
      refine anyZ_take 2 _ (some 17) (.slice (some ⟨G, 0, none⟩) 34 34) rfl (by kernel_rfl) (by kernel_rfl) (by kernel_rfl) (by kernel_rfl) (by kernel_rfl) (by decide) rfl (fun w' hS => ?_) md ?_
      · go_simp
      simp only [Act.put, List.setIfInBounds_toArray, List.set_cons_zero, List.set_cons_succ]
      refine anyZ_take 3 _ (some 18) (.int .i64 (i : Int)) rfl (by kernel_rfl) (by kernel_rfl) (by kernel_rfl) (by kernel_rfl) (by kernel_rfl) (by decide) rfl (fun w' hS => ?_) md ?_
      · go_simp
      simp only [Act.put, List.setIfInBounds_toArray, List.set_cons_zero, List.set_cons_succ]
      refine anyZ_take 4 _ (some 19) (.pointer (some ⟨G, i, none⟩)) rfl (by kernel_rfl) (by kernel_rfl) (by kernel_rfl) (by kernel_rfl) (by kernel_rfl) (by decide) rfl (fun w' hS => ?_) md ?_
      · go_simp
      simp only [Act.put, List.setIfInBounds_toArray, List.set_cons_zero, List.set_cons_succ]
      refine anyZ_take 5 _ (some 20) (.int .u64 (y : Int)) rfl (by kernel_rfl) (by kernel_rfl) (by kernel_rfl) (by kernel_rfl) (by kernel_rfl) (by decide) rfl (fun w' hS => ?_) md ?_
      · exact run_load_op rfl rfl (ld_u64R (cell_mod hS hcy.out (fun h => h)))
      simp only [Act.put, List.setIfInBounds_toArray, List.set_cons_zero, List.set_cons_succ]
      refine anyZ_take 6 _ (some 21) (.slice (some ⟨g1, o1, none⟩) na c1) rfl (by kernel_rfl) (by kernel_rfl) (by kernel_rfl) (by kernel_rfl) (by kernel_rfl) (by decide) rfl (fun w' hS => ?_) md ?_
      · go_simp
      simp only [Act.put, List.setIfInBounds_toArray, List.set_cons_zero, List.set_cons_succ]
      refine anyZ_take 7 _ (some 22) (.int .i64 (i : Int)) rfl (by kernel_rfl) (by kernel_rfl) (by kernel_rfl) (by kernel_rfl) (by kernel_rfl) (by decide) rfl (fun w' hS => ?_) md ?_
      · go_simp
      simp only [Act.put, List.setIfInBounds_toArray, List.set_cons_zero, List.set_cons_succ]
      refine anyZ_take 8 _ (some 23) (.pointer (some ⟨g1, o1 + i, none⟩)) rfl (by kernel_rfl) (by kernel_rfl) (by kernel_rfl) (by kernel_rfl) (by kernel_rfl) (by decide) rfl (fun w' hS => ?_) md ?_
      · go_simp
      simp only [Act.put, List.setIfInBounds_toArray, List.set_cons_zero, List.set_cons_succ]
      refine anyZ_take 9 _ (some 24) (.int .u64 (d : Int)) rfl (by kernel_rfl) (by kernel_rfl) (by kernel_rfl) (by kernel_rfl) (by kernel_rfl) (by decide) rfl (fun w' hS => ?_) md ?_
      · exact run_load_op rfl rfl (ld_u64R (cell_mod hS hcd.out (fun h => h)))
      simp only [Act.put, List.setIfInBounds_toArray, List.set_cons_zero, List.set_cons_succ]
      refine anyZ_take 10 _ (some 25) (.int .u64 (s : Int)) rfl (by kernel_rfl) (by kernel_rfl) (by kernel_rfl) (by kernel_rfl) (by kernel_rfl) (by decide) rfl (fun w' hS => ?_) md ?_
      · go_simp
      simp only [Act.put, List.setIfInBounds_toArray, List.set_cons_zero, List.set_cons_succ]
      refine anyZ_take 11 _ (some 26) (.pointer (some ⟨G, i, none⟩)) rfl (by kernel_rfl) (by kernel_rfl) (by kernel_rfl) (by kernel_rfl) (by kernel_rfl) (by decide) rfl (fun w' hS => ?_) md ?_
      · go_simp
      simp only [Act.put, List.setIfInBounds_toArray, List.set_cons_zero, List.set_cons_succ]
      obtain ⟨w6, st6, n6, y6⟩ := (show RowU wd G L from md.heap yr.out (fun h => h)).put i s (by rw [hLl.out]; exact hi34)
      rw [hset.out] at y6
      have mf : Mod (fun k => k = G) w1 w6 := (mr.trans' md (fun _ _ h => h.elim)).trans n6
      refine anyZ_skip 12 _ rfl (by kernel_rfl) (by kernel_rfl) rfl w6 (run_store_op rfl rfl rfl st6) (fun h => absurd rfl h) ?_
      simp only [Act.put, List.setIfInBounds_toArray, List.set_cons_zero, List.set_cons_succ]
      clear st6 n6
      refine anyZ_done (by kernel_rfl) ?_ _
      replace mf := Lib.hid mf
      replace y6 := Lib.hid y6
      clear md mr MR
      go_wp2
      go_roundw
      case measure => simp [intOf]; omega
      case rel => exact ⟨i + 1, by omega, by go_num, mf.out, y6.out⟩
    · have hiN : na = i := by omega
      subst hiN
      obtain ⟨wA, rfl⟩ : ∃ x : World, x = wr := ⟨_, rfl⟩
      have hdi : decide ((na : Int) < (na : Int)) = false := by rw [decide_eq_false_iff_not]; omega
      have wAm := Lib.hid mr
      have wAy := Lib.hid yr
      clear mr yr MR hlt hi
      go_wp2
      go_loopw [7] (fun iv wr => ∃ i : Nat, i ≤ nb ∧ iv = .int .i64 (i : Int) ∧ Mod (fun k => k = G) w1 wr ∧ RowU wr G (partV a b na i)) (fun iv _ => nb - (intOf iv).toNat)
      case atStart => exact ⟨0, by omega, rfl, wAm.out, wAy.out⟩
      case round =>
        obtain ⟨i, hi, rfl, mr, yr⟩ := hrel
        have bi0 : (0 : Int) ≤ (i : Int) := by omega
        have MR := m1.out.trans' mr (fun k hk h => by have := hG.out; omega)
        by_cases hlt : i < nb
        · have hdi : decide ((i : Int) < (nb : Int)) = true := by rw [decide_eq_true_iff]; omega
          have bi34 : (i : Int) < (nb : Int) := by omega
          have bi34' : (i : Int) < 34 := by omega
          have hi34 : i < 34 := by omega
          obtain ⟨d, hd⟩ : ∃ d, d = b.getD i 0 := ⟨_, rfl⟩
          obtain ⟨L, hL⟩ : ∃ L, L = partV a b na i := ⟨_, rfl⟩
          have hLl : L.length = 34 := by rw [hL]; exact partV_length _ _ _ _
          have hLe := partV_le a b ha8.out hb8.out na i
          rw [← hL] at hLe yr
          obtain ⟨y, hy⟩ : ∃ y, y = L.getD i 0 := ⟨_, rfl⟩
          have hyb : y ≤ 510 := by rw [hy]; exact getD_le hLe i
          have hdb : d ≤ 255 := by rw [hd]; exact getD_le (fun x hx => by have := hb8.out x hx; omega) i
          obtain ⟨s, hs⟩ : ∃ s, s = y + d := ⟨_, rfl⟩
          have hsi : (y : Int) + (d : Int) = (s : Int) := by omega
          have hws : IntKind.u64.wrap (s : Int) = (s : Int) := by rw [IntKind.wrap_u64]; omega
          have hcd : wr.cell? ⟨g2, o2 + i, none⟩ = some (.int .u64 (d : Int)) := by rw [hd]; exact cell_mod MR (hrb.out i (by rw [← hnb.out]; exact hlt)) (fun h => h)
          have hcy : wr.cell? ⟨G, i, none⟩ = some (.int .u64 (y : Int)) := by have := yr.numR i (by omega); rw [Nat.zero_add] at this; rw [this, hy]
          have hset : L.set i s = partV a b na (i + 1) := by rw [hs, hy, hd, hL]; exact partV_b a b na i hi34
          replace hd := Lib.hid hd
          replace hL := Lib.hid hL
          replace hLl := Lib.hid hLl
          replace hy := Lib.hid hy
          replace hs := Lib.hid hs
          replace hcd := Lib.hid hcd
          replace hcy := Lib.hid hcy
          replace hset := Lib.hid hset
          replace yr := Lib.hid yr
          clear hLe
          go_upto_region 9 with (fail)
          refine wp_region_any (by kernel_rfl) (any_of_Z (S := fun W => Mod (fun _ => False) wr W) (z := 12) _ _ _ _ ?_)
          simp only [List.size_toArray, List.length_cons, List.length_nil, Nat.reduceAdd, Array.replicate_succ, Array.replicate_zero, List.push_toArray, List.nil_append, List.cons_append]
          have md : Mod (fun _ => False) wr wr.drew := (Mod.refl _ _).drew
          change anyZ _ _ _ _ _ _ _ _ _ wr.drew
          obtain ⟨wd, hwd⟩ : ∃ x, x = wr.drew := ⟨_, rfl⟩
          rw [← hwd] at md ⊢
          clear hwd
          refine anyZ_take 0 _ (some 33) (.slice (some ⟨G, 0, none⟩) 34 34) rfl (by kernel_rfl) (by kernel_rfl) (by kernel_rfl) (by kernel_rfl) (by kernel_rfl) (by decide) rfl (fun w' hS => ?_) md ?_
          · go_simp
          simp only [Act.put, List.setIfInBounds_toArray, List.set_cons_zero, List.set_cons_succ]
          refine anyZ_take 1 _ (some 34) (.int .i64 (i : Int)) rfl (by kernel_rfl) (by kernel_rfl) (by kernel_rfl) (by kernel_rfl) (by kernel_rfl) (by decide) rfl (fun w' hS => ?_) md ?_
          · go_simp
          simp only [Act.put, List.setIfInBounds_toArray, List.set_cons_zero, List.set_cons_succ]
          refine anyZ_take 2 _ (some 35) (.slice (some ⟨G, 0, none⟩) 34 34) rfl (by kernel_rfl) (by kernel_rfl) (by kernel_rfl) (by kernel_rfl) (by kernel_rfl) (by decide) rfl (fun w' hS => ?_) md ?_
          · go_simp
          simp only [Act.put, List.setIfInBounds_toArray, List.set_cons_zero, List.set_cons_succ]
          refine anyZ_take 3 _ (some 36) (.int .i64 (i : Int)) rfl (by kernel_rfl) (by kernel_rfl) (by kernel_rfl) (by kernel_rfl) (by kernel_rfl) (by decide) rfl (fun w' hS => ?_) md ?_
          · go_simp
          simp only [Act.put, List.setIfInBounds_toArray, List.set_cons_zero, List.set_cons_succ]
          refine anyZ_take 4 _ (some 37) (.pointer (some ⟨G, i, none⟩)) rfl (by kernel_rfl) (by kernel_rfl) (by kernel_rfl) (by kernel_rfl) (by kernel_rfl) (by decide) rfl (fun w' hS => ?_) md ?_
          · go_simp
          simp only [Act.put, List.setIfInBounds_toArray, List.set_cons_zero, List.set_cons_succ]
          refine anyZ_take 5 _ (some 38) (.int .u64 (y : Int)) rfl (by kernel_rfl) (by kernel_rfl) (by kernel_rfl) (by kernel_rfl) (by kernel_rfl) (by decide) rfl (fun w' hS => ?_) md ?_
          · exact run_load_op rfl rfl (ld_u64R (cell_mod hS hcy.out (fun h => h)))
          simp only [Act.put, List.setIfInBounds_toArray, List.set_cons_zero, List.set_cons_succ]
          refine anyZ_take 6 _ (some 39) (.slice (some ⟨g2, o2, none⟩) nb c2) rfl (by kernel_rfl) (by kernel_rfl) (by kernel_rfl) (by kernel_rfl) (by kernel_rfl) (by decide) rfl (fun w' hS => ?_) md ?_
          · go_simp
          simp only [Act.put, List.setIfInBounds_toArray, List.set_cons_zero, List.set_cons_succ]
          refine anyZ_take 7 _ (some 40) (.int .i64 (i : Int)) rfl (by kernel_rfl) (by kernel_rfl) (by kernel_rfl) (by kernel_rfl) (by kernel_rfl) (by decide) rfl (fun w' hS => ?_) md ?_
          · go_simp
          simp only [Act.put, List.setIfInBounds_toArray, List.set_cons_zero, List.set_cons_succ]
          refine anyZ_take 8 _ (some 41) (.pointer (some ⟨g2, o2 + i, none⟩)) rfl (by kernel_rfl) (by kernel_rfl) (by kernel_rfl) (by kernel_rfl) (by kernel_rfl) (by decide) rfl (fun w' hS => ?_) md ?_
          · go_simp
          simp only [Act.put, List.setIfInBounds_toArray, List.set_cons_zero, List.set_cons_succ]
          refine anyZ_take 9 _ (some 42) (.int .u64 (d : Int)) rfl (by kernel_rfl) (by kernel_rfl) (by kernel_rfl) (by kernel_rfl) (by kernel_rfl) (by decide) rfl (fun w' hS => ?_) md ?_
          · exact run_load_op rfl rfl (ld_u64R (cell_mod hS hcd.out (fun h => h)))
          simp only [Act.put, List.setIfInBounds_toArray, List.set_cons_zero, List.set_cons_succ]
          refine anyZ_take 10 _ (some 43) (.int .u64 (s : Int)) rfl (by kernel_rfl) (by kernel_rfl) (by kernel_rfl) (by kernel_rfl) (by kernel_rfl) (by decide) rfl (fun w' hS => ?_) md ?_
          · go_simp
          simp only [Act.put, List.setIfInBounds_toArray, List.set_cons_zero, List.set_cons_succ]
          refine anyZ_take 11 _ (some 44) (.pointer (some ⟨G, i, none⟩)) rfl (by kernel_rfl) (by kernel_rfl) (by kernel_rfl) (by kernel_rfl) (by kernel_rfl) (by decide) rfl (fun w' hS => ?_) md ?_
          · go_simp
          simp only [Act.put, List.setIfInBounds_toArray, List.set_cons_zero, List.set_cons_succ]
          obtain ⟨w6, st6, n6, y6⟩ := (show RowU wd G L from md.heap yr.out (fun h => h)).put i s (by rw [hLl.out]; exact hi34)
          rw [hset.out] at y6
          have mf : Mod (fun k => k = G) w1 w6 := (mr.trans' md (fun _ _ h => h.elim)).trans n6
          refine anyZ_skip 12 _ rfl (by kernel_rfl) (by kernel_rfl) rfl w6 (run_store_op rfl rfl rfl st6) (fun h => absurd rfl h) ?_
          simp only [Act.put, List.setIfInBounds_toArray, List.set_cons_zero, List.set_cons_succ]
          clear st6 n6
          refine anyZ_done (by kernel_rfl) ?_ _
          replace mf := Lib.hid mf
          replace y6 := Lib.hid y6
          clear md mr MR
          go_wp2
          go_roundw
          case measure => simp [intOf]; omega
          case rel => exact ⟨i + 1, by omega, by go_num, mf.out, y6.out⟩
        · have hiN : nb = i := by omega
          subst hiN
          obtain ⟨wB, rfl⟩ : ∃ x : World, x = wr := ⟨_, rfl⟩
          have hdi : decide ((nb : Int) < (nb : Int)) = false := by rw [decide_eq_false_iff_not]; omega
          have wBm := Lib.hid mr
          have wBy := Lib.hid yr
          clear mr yr MR hlt hi
          have hall : partV a b na nb = addV a b 34 := by rw [hna.out, hnb.out]; exact partV_all a b
          have hv : valB 256 (partV a b na nb) = valB 256 a + valB 256 b := by rw [hall]; exact valB_addV a b 34 (by rw [← hna.out]; omega) (by rw [← hnb.out]; omega)
          have hpl := partV_length a b na nb
          have hple := partV_le a b ha8.out hb8.out na nb
          have mB := m1.out.trans' wBm.out (fun k hk h => by have := hG.out; omega)
          replace hv := Lib.hid hv
          replace hpl := Lib.hid hpl
          replace hple := Lib.hid hple
          replace mB := Lib.hid mB
          clear hall
          go_upto_region 10 with (fail)
          refine wp_region_lit ?_
          refine wpList_reads (by kernel_rfl) (.slice (some ⟨G, 0, none⟩) 34 34) (by go_simp) ?_
          simp only [Act.put, List.setIfInBounds_toArray, List.set_cons_zero, List.set_cons_succ]
          refine wpList_enter (by kernel_rfl) 126 #[.slice (some ⟨G, 0, none⟩) 34 34, .int .i64 34] (by go_simp) (carried34 G 0 34 (partV a b na nb) hpl.out (fun d hd => by have := hple.out d hd; omega) wB wBy.out.numR) ?_
          rintro e w9 ⟨m9, g', c', hg', rfl, own9⟩
          rw [hv.out] at own9
          have mf := mB.out.trans m9
          have hgf : w.heap.size ≤ g' := Nat.le_trans mB.out.size hg'
          have of := ownsRow_base0 own9 mB.out.size
          replace mf := Lib.hid mf
          replace hgf := Lib.hid hgf
          replace of := Lib.hid of
          clear m9 own9 hg'
          refine ⟨_, rfl, ?_⟩
          simp only [Act.put, List.setIfInBounds_toArray, List.set_cons_zero, List.set_cons_succ]
          refine wpList_reads (by kernel_rfl) (.slice (some ⟨g', 0, none⟩) 34 c') (by go_simp) ?_
          simp only [Act.put, List.setIfInBounds_toArray, List.set_cons_zero, List.set_cons_succ]
          go_wp2
          go_ret
          exact ⟨mf.out, g', c', hgf.out, rfl, of.out⟩
end Go.Proofs.YtbiijcljpgannaaGreatDoor
