/-
  mailcoachref05.Left, number, R. Printed by gen/pr3.py.
-/
import Derived.Test.YtbiijcljpgannaaGreatDoorYw
namespace Go.Proofs.YtbiijcljpgannaaGreatDoor
set_option maxRecDepth 100000
open Go Go.RowKit Go.Lib
set_option linter.unusedSimpArgs false
set_option linter.unusedVariables false

theorem foldN_le (x : Nat) : foldN x ≤ x := by unfold foldN; omega
def foldI (x : Nat) : Nat → Nat
  | 0 => x
  | i + 1 => foldN (foldI x i)
theorem foldI_le (x : Nat) (i : Nat) : foldI x i ≤ x := by
  induction i with
  | zero => exact Nat.le_refl _
  | succ i ih => exact Nat.le_trans (foldN_le _) ih
theorem row_own {w : World} {base g c n : Nat} {l : List Nat} (h : w.ownsRow base 77 1 (.slice (some ⟨g, 0, none⟩) n c) n (nums .u64 l)) : n ≤ c := by
  rcases h.2 with ⟨h1, _⟩ | ⟨g2, cap, cur, h1, _, _, h2, _⟩
  · cases h1
  · injection h1 with _ _ h3; omega
theorem cut64 (w' : World) (ad : Option Addr) (n cap h : Nat) (h2 : h ≤ cap) (hn : n ≤ cap) : (Instr.slice 81 (.slice ad n cap) none (some (.int .i64 (h : Int))) none).run Tryz.prog w' = .ok (sliced ad 0 h cap 1) w' := by
  rw [run_slice_h w' 81 ad n cap Tryz.underlying81 .i64 _ (by omega) (by omega), show (sizeOf (Tryz.prog.elem 81)).run Tryz.prog w' = .ok 1 w' by kernel_rfl]
  rfl
theorem cut64' (w' : World) (g n cap h : Nat) (h2 : h ≤ cap) (hn : n ≤ cap) (h0 : 0 < cap) : (Instr.slice 81 (.slice (some ⟨g, 0, none⟩) n cap) none (some (.int .i64 (h : Int))) none).run Tryz.prog w' = .ok (.slice (some ⟨g, 0, none⟩) h cap) w' := by
  rw [cut64 w' _ n cap h h2 hn]
  unfold Go.sliced
  rw [if_neg (by omega)]
  simp [Addr.add]
theorem stored64 {w : World} {base g n cap : Nat} {l : List Nat} (h : w.ownsRow base 77 1 (.slice (some ⟨g, 0, none⟩) n cap) n (nums .u64 l)) (j y : Nat) (hj : j < l.length) :
    ∃ w', (storeVar 77 ⟨g, j, none⟩ (.int .u64 (y : Int))).run Tryz.prog w = .ok () w' ∧ Mod (fun k => k = g) w w' ∧ w'.ownsRow base 77 1 (.slice (some ⟨g, 0, none⟩) n cap) n (nums .u64 (l.set j y)) := by
  have hc := own_numR h j hj
  rw [Nat.zero_add] at hc
  obtain ⟨h1, h2⟩ := h.stored j (.int .u64 (y : Int))
  refine ⟨_, store_u64 hc (h.frozenAt j), Mod.one_setCell _ _ _ _, ?_⟩
  have : nums .u64 (l.set j y) = (nums .u64 l).set j (.int .u64 (y : Int)) := by simp [nums, List.map_set]
  rw [this]
  exact h1
theorem digs_take (n k x : Nat) (h : k ≤ n) : (digs n x).take k = digs k x := by
  unfold digs
  rw [← List.map_take, List.take_range, Nat.min_eq_left h]
theorem digs_sub (y : Nat) (h1 : 1361129467683753853853498429727072845824 ≤ y) (h2 : y < 1361129467683753853853498429727072845824 + 6) : ((digs 34 y).set 16 (y / 256 ^ 16 % 256 - 4)).take 17 = digs 17 (y - 1361129467683753853853498429727072845824) := by
  obtain ⟨z, hz⟩ : ∃ z, y = 1361129467683753853853498429727072845824 + z := ⟨y - 1361129467683753853853498429727072845824, by omega⟩
  have hz6 : z < 6 := by omega
  apply List.ext_getElem
  · simp [digs]
  · intro j h3 h4
    rw [digs_length] at h4
    rw [List.getElem_take, List.getElem_set]
    simp only [digs, List.getElem_map, List.getElem_range]
    rw [hz, Nat.add_sub_cancel_left]
    by_cases hj : 16 = j
    · subst hj
      rw [if_pos rfl]
      rw [show (256 : Nat) ^ 16 = 340282366920938463463374607431768211456 from by decide]
      omega
    · rw [if_neg hj, show (1361129467683753853853498429727072845824 : Nat) = 256 ^ j * (256 * (4 * 256 ^ (15 - j))) by
        rw [Nat.mul_left_comm 256 4, ← Nat.pow_succ', Nat.mul_left_comm, ← Nat.pow_add, show j + (15 - j).succ = 16 by omega]]
      rw [Nat.add_comm, Nat.add_mul_div_left _ _ (Nat.pow_pos (by decide)), Nat.add_mul_mod_self_left]
set_option maxRecDepth 100000 in
set_option maxHeartbeats 4000000 in
theorem left_any34 (g1 c1 : Nat) (a : List Nat) (ha : a.length = 34) (ha8 : ∀ d ∈ a, d < 256) (w : World) (hra : NumR w g1 0 a) :
    Calls Tryz.prog 117 #[.slice (some ⟨g1, 0, none⟩) 34 c1] w fun e w' => Mod (fun _ => False) w w' ∧ ∃ g' c, e = .returned (.slice (some ⟨g', 0, none⟩) 17 c) ∧ 17 ≤ c ∧ NumR w' g' 0 (digs 17 (valB 256 a % P130)) := by
  obtain ⟨x, hx⟩ : ∃ x, x = valB 256 a := ⟨_, rfl⟩
  have hxl : x < 256 ^ 34 := by rw [hx, ← ha]; exact valB_below a ha8
  have hxa : a = digs 34 (foldI x 0) := by rw [show foldI x 0 = x from rfl, hx, ← ha]; exact (digs_valB a ha8).symm
  rw [← hx]
  rw [hxa] at hra
  have hc34 : 0 < c1 ∨ True := .inr trivial
  replace hx := Lib.hid hx
  replace hxl := Lib.hid hxl
  replace hra := Lib.hid hra
  clear hxa ha8 ha hc34
  go_enter Tryz.func117, Tryz.ntmps117
  go_wp2
  go_loopw [0, 3] (fun av iv wr => ∃ i g c : Nat, i ≤ 4 ∧ iv = .int .i64 (i : Int) ∧ av = .slice (some ⟨g, 0, none⟩) 34 c ∧ Mod (fun _ => False) w wr ∧ NumR wr g 0 (digs 34 (foldI x i)) ∧ (0 < i → 34 ≤ c)) (fun _ iv _ => 4 - (intOf iv).toNat)
  case atStart => exact ⟨0, g1, c1, by omega, rfl, rfl, Mod.refl _ _, hra.out, fun h => absurd h (by omega)⟩
  case round =>
    obtain ⟨i, g, c, hi, rfl, rfl, mr, yr, hcc⟩ := hrel
    have bi0 : (0 : Int) ≤ (i : Int) := by omega
    by_cases hlt : i < 4
    · have hdi : decide ((i : Int) < 4) = true := by rw [decide_eq_true_iff]; omega
      have hv : valB 256 (digs 34 (foldI x i)) = foldI x i := by rw [valB_digs]; exact Nat.mod_eq_of_lt (Nat.lt_of_le_of_lt (foldI_le x i) hxl.out)
      replace mr := Lib.hid mr
      replace yr := Lib.hid yr
      replace hv := Lib.hid hv
      clear hcc
      go_upto_region 4 with (fail)
      refine wp_region_lit ?_
      refine wpList_reads (by kernel_rfl) (.slice (some ⟨g, 0, none⟩) 34 c) (by go_simp) ?_
      simp only [Act.put, List.setIfInBounds_toArray, List.set_cons_zero, List.set_cons_succ]
      refine wpList_enter (by kernel_rfl) 127 #[.slice (some ⟨g, 0, none⟩) 34 c] (by go_simp) (fold_any34 g 0 c (digs 34 (foldI x i)) (digs_length _ _) (digs_below _ _) wr yr.out) ?_
      rintro e w2 ⟨m2, g', c', hg', rfl, own2⟩
      rw [hv.out] at own2
      have y2 : NumR w2 g' 0 (digs 34 (foldI x (i + 1))) := own_numR own2
      have hcf : 34 ≤ c' := row_own own2
      have mf := mr.out.trans m2
      replace y2 := Lib.hid y2
      replace mf := Lib.hid mf
      replace hcf := Lib.hid hcf
      clear m2 own2 hg'
      refine ⟨_, rfl, ?_⟩
      simp only [Act.put, List.setIfInBounds_toArray, List.set_cons_zero, List.set_cons_succ]
      refine wpList_reads (by kernel_rfl) (.slice (some ⟨g', 0, none⟩) 34 c') (by go_simp) ?_
      simp only [Act.put, List.setIfInBounds_toArray, List.set_cons_zero, List.set_cons_succ]
      go_wp2
      go_roundw
      case measure => simp [intOf]; omega
      case rel => exact ⟨i + 1, g', c', by omega, by go_num, rfl, mf.out, y2.out, fun _ => hcf.out⟩
    · have hi4 : 4 = i := by omega
      subst hi4
      obtain ⟨w2, rfl⟩ : ∃ x : World, x = wr := ⟨_, rfl⟩
      have hdi : decide (((4 : Nat) : Int) < 4) = false := by decide
      obtain ⟨y, hy⟩ : ∃ y, y = foldI x 4 := ⟨_, rfl⟩
      have hyl : y < 1361129467683753853853498429727072845824 := by rw [hy]; exact fold4_lt hxl.out
      have hym : y % P130 = x % P130 := by rw [hy]; exact fold4_mod x
      rw [← hy] at yr
      have hv : valB 256 (digs 34 y) = y := by rw [valB_digs]; exact Nat.mod_eq_of_lt (Nat.lt_trans hyl (by decide))
      have h34 : 34 ≤ c := hcc (by omega)
      obtain ⟨w3, hw3⟩ : ∃ x, x = w2.alloc (.cells (nums .u64 [5]).toArray 77) := ⟨_, rfl⟩
      obtain ⟨g5, hg5⟩ : ∃ g, g = w2.heap.size := ⟨_, rfl⟩
      have m3 : Mod (fun _ => False) w2 w3 := by rw [hw3]; exact (Mod.refl _ _).alloc _
      have x5 : RowU w3 g5 [5] := by rw [hw3]; exact hp_new _ _ _ hg5
      have y3 := yr.mod m3 (fun h => h)
      have m03 := mr.trans m3
      replace hy := Lib.hid hy
      replace hyl := Lib.hid hyl
      replace hym := Lib.hid hym
      replace hv := Lib.hid hv
      replace h34 := Lib.hid h34
      replace hw3 := Lib.hid hw3
      replace hg5 := Lib.hid hg5
      replace x5 := Lib.hid x5
      replace y3 := Lib.hid y3
      replace m03 := Lib.hid m03
      clear hcc hlt hi yr m3 mr
      go_upto_region 5 with (fail)
      refine wp_region_lit ?_
      refine wpList_reads (by kernel_rfl) (.slice (some ⟨g, 0, none⟩) 34 c) (by go_simp) ?_
      simp only [Act.put, List.setIfInBounds_toArray, List.set_cons_zero, List.set_cons_succ]
      refine wpList_yields (by kernel_rfl) (.slice (some ⟨g5, 0, none⟩) 1 1) w3 (by rw [hw3.out, hg5.out]; go_simp; rfl) ?_
      simp only [Act.put, List.setIfInBounds_toArray, List.set_cons_zero, List.set_cons_succ]
      refine wpList_enter (by kernel_rfl) 116 #[.slice (some ⟨g, 0, none⟩) 34 c, .slice (some ⟨g5, 0, none⟩) 1 1] (by go_simp) (show Calls _ _ #[.slice (some ⟨g, 0, none⟩) 34 c, _] _ _ from by have h := add_any34 g 0 c g5 0 1 (digs 34 y) [5] (by rw [digs_length]; omega) (by simp) (by rw [digs_length]; omega) (by simp) (digs_below _ _) (by simp) w3 y3.out x5.out.numR; rw [digs_length] at h; exact h) ?_
      rintro e w4 ⟨m4, g', c', hg', rfl, own4⟩
      rw [hv.out, show valB 256 [5] = 5 from rfl] at own4
      have h34' : 34 ≤ c' := row_own own4
      have m04 := m03.out.trans m4
      have y4 := y3.out.mod m4 (fun h => h)
      obtain ⟨e16, he⟩ : ∃ e, e = (y + 5) / 256 ^ 16 % 256 := ⟨_, rfl⟩
      have hce : w4.cell? ⟨g', 16, none⟩ = some (.int .u64 (e16 : Int)) := by have := own_numR own4 16 (by rw [digs_length]; omega); rw [Nat.zero_add, digs_get _ _ _ (by omega), ← he] at this; exact this
      have le := ld_u64R hce
      have hwm : w.heap.size ≤ g' := Nat.le_trans m03.out.size hg'
      have heb : e16 < 256 := by rw [he]; exact Nat.mod_lt _ (by decide)
      have hcm := left_of_lt hyl.out
      rw [hym.out] at hcm
      replace own4 := Lib.hid own4
      replace m04 := Lib.hid m04
      replace y4 := Lib.hid y4
      replace he := Lib.hid he
      replace hce := Lib.hid hce
      replace hwm := Lib.hid hwm
      replace hcm := Lib.hid hcm
      clear m4 hg'
      refine ⟨_, rfl, ?_⟩
      simp only [Act.put, List.setIfInBounds_toArray, List.set_cons_zero, List.set_cons_succ]
      refine wpList_reads (by kernel_rfl) (.slice (some ⟨g', 0, none⟩) 34 c') (by go_simp) ?_
      simp only [Act.put, List.setIfInBounds_toArray, List.set_cons_zero, List.set_cons_succ]
      by_cases hb : 4 ≤ e16
      · have hdb : decide ((4 : Int) ≤ (e16 : Int)) = true := by rw [decide_eq_true_iff]; omega
        have hbig : 1361129467683753853853498429727072845824 ≤ y + 5 := by
          have h1 := he.out
          have h2 := hyl.out
          rw [show (256 : Nat) ^ 16 = 340282366920938463463374607431768211456 from by decide] at h1
          omega
        obtain ⟨f, hf⟩ : ∃ f, f = e16 - 4 := ⟨_, rfl⟩
        have hfi : (e16 : Int) - 4 = (f : Int) := by omega
        have bf0 : (0 : Int) ≤ (f : Int) := by omega
        have hwf : IntKind.u64.wrap (f : Int) = (f : Int) := by rw [IntKind.wrap_u64]; omega
        obtain ⟨w5, st5, n5, own5⟩ := stored64 own4.out 16 f (by rw [digs_length]; omega)
        have hfin : NumR w5 g' 0 (digs 17 (x % P130)) := by
          have h1 := (own_numR own5).take 17 (by rw [List.length_set, digs_length]; omega)
          rw [hf, he.out, digs_sub (y + 5) hbig (by have := hyl.out; omega)] at h1
          rw [hcm.out, if_pos hbig]
          exact h1
        have mf : Mod (fun _ => False) w w5 := m04.out.trans' n5 (fun k hk h => by have := hwm.out; omega)
        have rc := cut64' w5 g' 34 c' 17 (by omega) (by omega) (by omega)
        replace hf := Lib.hid hf
        replace hfin := Lib.hid hfin
        replace mf := Lib.hid mf
        replace hbig := Lib.hid hbig
        clear n5 own5
        go_upto_region 6 with (fail)
        refine wp_region_lit ?_
        refine wpList_reads (by kernel_rfl) (.slice (some ⟨g', 0, none⟩) 34 c') (by go_simp) ?_
        simp only [Act.put, List.setIfInBounds_toArray, List.set_cons_zero, List.set_cons_succ]
        refine wpList_reads (by kernel_rfl) (.pointer (some ⟨g', 16, none⟩)) (by go_simp) ?_
        simp only [Act.put, List.setIfInBounds_toArray, List.set_cons_zero, List.set_cons_succ]
        refine wpList_reads (by kernel_rfl) (.int .u64 (e16 : Int)) (run_load_op rfl rfl le) ?_
        simp only [Act.put, List.setIfInBounds_toArray, List.set_cons_zero, List.set_cons_succ]
        refine wpList_reads (by kernel_rfl) (.bool true) (by go_simp) ?_
        simp only [Act.put, List.setIfInBounds_toArray, List.set_cons_zero, List.set_cons_succ]
        clear hdb hb
        go_upto_region 7 with (fail)
        refine wp_region_lit ?_
        refine wpList_reads (by kernel_rfl) (.slice (some ⟨g', 0, none⟩) 34 c') (by go_simp) ?_
        simp only [Act.put, List.setIfInBounds_toArray, List.set_cons_zero, List.set_cons_succ]
        refine wpList_reads (by kernel_rfl) (.slice (some ⟨g', 0, none⟩) 34 c') (by go_simp) ?_
        simp only [Act.put, List.setIfInBounds_toArray, List.set_cons_zero, List.set_cons_succ]
        refine wpList_reads (by kernel_rfl) (.pointer (some ⟨g', 16, none⟩)) (by go_simp) ?_
        simp only [Act.put, List.setIfInBounds_toArray, List.set_cons_zero, List.set_cons_succ]
        refine wpList_reads (by kernel_rfl) (.int .u64 (e16 : Int)) (run_load_op rfl rfl le) ?_
        simp only [Act.put, List.setIfInBounds_toArray, List.set_cons_zero, List.set_cons_succ]
        refine wpList_reads (by kernel_rfl) (.int .u64 (f : Int)) (by go_simp) ?_
        simp only [Act.put, List.setIfInBounds_toArray, List.set_cons_zero, List.set_cons_succ]
        refine wpList_reads (by kernel_rfl) (.pointer (some ⟨g', 16, none⟩)) (by go_simp) ?_
        simp only [Act.put, List.setIfInBounds_toArray, List.set_cons_zero, List.set_cons_succ]
        refine wpList_store_to rfl _ _ _ rfl _ _ _ rfl rfl _ st5 ?_
        simp only [Act.put, List.setIfInBounds_toArray, List.set_cons_zero, List.set_cons_succ]
        clear st5 le
        go_upto_region 8 with (fail)
        refine wp_region_lit ?_
        refine wpList_reads (by kernel_rfl) (.slice (some ⟨g', 0, none⟩) 34 c') (by go_simp) ?_
        simp only [Act.put, List.setIfInBounds_toArray, List.set_cons_zero, List.set_cons_succ]
        refine wpList_reads (by kernel_rfl) (.slice (some ⟨g', 0, none⟩) 17 c') ((by exact cut_op Tryz.underlying81 rfl rfl rfl rc)) ?_
        simp only [Act.put, List.setIfInBounds_toArray, List.set_cons_zero, List.set_cons_succ]
        refine wpList_reads (by kernel_rfl) (.slice (some ⟨g', 0, none⟩) 17 c') (by go_simp) ?_
        simp only [Act.put, List.setIfInBounds_toArray, List.set_cons_zero, List.set_cons_succ]
        clear rc
        go_wp2
        go_ret
        exact ⟨mf.out, g', c', rfl, by omega, hfin.out⟩
      · have hdb : decide ((4 : Int) ≤ (e16 : Int)) = false := by rw [decide_eq_false_iff_not]; omega
        have hsm : ¬ 1361129467683753853853498429727072845824 ≤ y + 5 := by
          have h1 := he.out
          have h2 := hyl.out
          rw [show (256 : Nat) ^ 16 = 340282366920938463463374607431768211456 from by decide] at h1
          omega
        have hfin : NumR w4 g 0 (digs 17 (x % P130)) := by
          have h1 := y4.out.take 17 (by rw [digs_length]; omega)
          rw [digs_take _ _ _ (by omega)] at h1
          rw [hcm.out, if_neg hsm]
          exact h1
        have rc := cut64' w4 g 34 c 17 (by have := h34.out; omega) h34.out (by have := h34.out; omega)
        replace hfin := Lib.hid hfin
        replace hsm := Lib.hid hsm
        go_upto_region 6 with (fail)
        refine wp_region_lit ?_
        refine wpList_reads (by kernel_rfl) (.slice (some ⟨g', 0, none⟩) 34 c') (by go_simp) ?_
        simp only [Act.put, List.setIfInBounds_toArray, List.set_cons_zero, List.set_cons_succ]
        refine wpList_reads (by kernel_rfl) (.pointer (some ⟨g', 16, none⟩)) (by go_simp) ?_
        simp only [Act.put, List.setIfInBounds_toArray, List.set_cons_zero, List.set_cons_succ]
        refine wpList_reads (by kernel_rfl) (.int .u64 (e16 : Int)) (run_load_op rfl rfl le) ?_
        simp only [Act.put, List.setIfInBounds_toArray, List.set_cons_zero, List.set_cons_succ]
        refine wpList_reads (by kernel_rfl) (.bool false) (by go_simp) ?_
        simp only [Act.put, List.setIfInBounds_toArray, List.set_cons_zero, List.set_cons_succ]
        clear le
        go_upto_region 9 with (fail)
        refine wp_region_lit ?_
        refine wpList_reads (by kernel_rfl) (.slice (some ⟨g, 0, none⟩) 34 c) (by go_simp) ?_
        simp only [Act.put, List.setIfInBounds_toArray, List.set_cons_zero, List.set_cons_succ]
        refine wpList_reads (by kernel_rfl) (.slice (some ⟨g, 0, none⟩) 17 c) ((by exact cut_op Tryz.underlying81 rfl rfl rfl rc)) ?_
        simp only [Act.put, List.setIfInBounds_toArray, List.set_cons_zero, List.set_cons_succ]
        refine wpList_reads (by kernel_rfl) (.slice (some ⟨g, 0, none⟩) 17 c) (by go_simp) ?_
        simp only [Act.put, List.setIfInBounds_toArray, List.set_cons_zero, List.set_cons_succ]
        clear rc
        go_wp2
        go_ret
        exact ⟨m04.out, g, c, rfl, by have := h34.out; omega, hfin.out⟩

def numV (b : List (BitVec 8)) (one : Bool) : List Nat := natL b ++ (if one then [1] else []) ++ List.replicate (17 - b.length - (if one then 1 else 0)) 0
def numTo (b : List (BitVec 8)) (i : Nat) : List Nat := (natL b).take i ++ List.replicate (17 - i) 0
theorem numTo_length (b : List (BitVec 8)) (i : Nat) (hb : b.length ≤ 17) (hi : i ≤ b.length) : (numTo b i).length = 17 := by simp [numTo, natL_length]; omega
theorem numTo_set (b : List (BitVec 8)) (i : Nat) (hb : b.length ≤ 17) (hi : i < b.length) : (numTo b i).set i (b.getD i 0).toNat = numTo b (i + 1) := by
  apply List.ext_getElem
  · simp [numTo, natL_length]; omega
  · intro j h1 h2
    rw [List.getElem_set]
    by_cases h : i = j
    · subst h
      rw [if_pos rfl]
      simp only [numTo]
      rw [List.getElem_append_left (by simp [natL_length]; omega), List.getElem_take, ← natL_getD, List.getD_eq_getElem?_getD, List.getElem?_eq_getElem (by rw [natL_length]; omega)]
      rfl
    · rw [if_neg h]
      simp only [numTo]
      by_cases h3 : j < i
      · rw [List.getElem_append_left (by simp [natL_length]; omega), List.getElem_append_left (by simp [natL_length]; omega), List.getElem_take, List.getElem_take]
      · rw [List.getElem_append_right (by simp [natL_length]; omega), List.getElem_append_right (by simp [natL_length]; omega)]
        simp
theorem numTo_all (b : List (BitVec 8)) : numTo b b.length = numV b false := by
  unfold numTo numV
  rw [List.take_of_length_le (by rw [natL_length]; exact Nat.le_refl _)]
  simp
theorem numTo_one (b : List (BitVec 8)) (hb : b.length ≤ 16) : (numTo b b.length).set b.length 1 = numV b true := by
  unfold numTo numV
  rw [List.take_of_length_le (by rw [natL_length]; exact Nat.le_refl _), List.set_append_right _ _ (by rw [natL_length]; exact Nat.le_refl _), natL_length, Nat.sub_self, show 17 - b.length = (17 - b.length - 1) + 1 by omega, List.replicate_succ]
  simp
theorem numV_length (b : List (BitVec 8)) (one : Bool) (hb : b.length ≤ 16) : (numV b one).length = 17 := by
  cases one <;> simp [numV, natL_length] <;> omega
theorem numV_below (b : List (BitVec 8)) (one : Bool) : ∀ d ∈ numV b one, d < 256 := by
  intro d hd
  simp only [numV, List.mem_append, List.mem_replicate] at hd
  rcases hd with (h | h) | ⟨_, rfl⟩
  · exact natL_below b d h
  · cases one
    · cases h
    · simp at h; omega
  · decide
theorem numV_val (b : List (BitVec 8)) : valB 256 (numV b false) = valB 256 (natL b) ∧ valB 256 (numV b true) = valB 256 (natL (b ++ [1])) := by
  constructor
  · simp [numV, valB_append, valB_replicate]
  · simp only [numV, if_true, valB_append, valB_replicate, Nat.mul_zero, Nat.add_zero]
    have : natL (b ++ [1]) = natL b ++ [1] := by simp [natL]
    rw [this, valB_append]
set_option maxRecDepth 100000 in
set_option maxHeartbeats 4000000 in
theorem number_any (v : Value) (b : List (BitVec 8)) (one : Bool) (h0 : 0 < b.length) (hbl : b.length ≤ 16) (w : World) (hb : ByteAt w v b) :
    Calls Tryz.prog 115 #[v, .bool one] w fun e w' => Mod (fun _ => False) w w' ∧ ∃ g, w.heap.size ≤ g ∧ e = .returned (.slice (some ⟨g, 0, none⟩) 17 17) ∧ RowU w' g (numV b one) := by
  obtain ⟨gb, ob, cb, rfl, hcells⟩ : ∃ g off cap, v = .slice (some ⟨g, off, none⟩) b.length cap ∧ ∀ j, j < b.length → w.cell? ⟨g, off + j, none⟩ = some (.int .u8 ((b.getD j 0).toNat : Int)) := by
    rcases hb with ⟨ad, cap, rfl, rfl⟩ | ⟨g, off, cap, rfl, _, h2⟩
    · simp at h0
    · exact ⟨g, off, cap, rfl, h2⟩
  have hgl : gb < w.heap.size := by
    have := hcells 0 h0
    rcases Nat.lt_or_ge gb w.heap.size with h' | h'
    · exact h'
    · simp [World.cell?, Array.getElem?_eq_none h'] at this
  obtain ⟨n, hn⟩ : ∃ n, n = b.length := ⟨_, rfl⟩
  rw [← hn] at hbl h0 hcells ⊢
  have bn0 : (0 : Int) ≤ (n : Int) := by omega
  have bn16 : (n : Int) ≤ 16 := by omega
  obtain ⟨w1, hw1⟩ : ∃ x, x = w.alloc (.cells (nums .u64 (List.replicate 17 0)).toArray 77) := ⟨_, rfl⟩
  obtain ⟨G, hG⟩ : ∃ x, x = w.heap.size := ⟨_, rfl⟩
  have m1 : Mod (fun _ => False) w w1 := by rw [hw1]; exact (Mod.refl _ _).alloc _
  have x1 : RowU w1 G (numTo b 0) := by rw [hw1]; exact hp_new _ _ _ hG
  have mk := make64 17 (by decide) w
  rw [← hG, ← hw1] at mk
  replace hn := Lib.hid hn
  replace hw1 := Lib.hid hw1
  replace hG := Lib.hid hG
  replace m1 := Lib.hid m1
  replace x1 := Lib.hid x1
  replace hcells := Lib.hid hcells
  replace hgl := Lib.hid hgl
  go_enter Tryz.func115, Tryz.ntmps115
  go_upto_region 1 with (fail)
  refine wp_region_lit ?_
  refine wpList_yields (by kernel_rfl) (.slice (some ⟨G, 0, none⟩) 17 17) w1 (run_make_op rfl rfl rfl mk) ?_
  simp only [Act.put, List.setIfInBounds_toArray, List.set_cons_zero, List.set_cons_succ]
  refine wpList_reads (by kernel_rfl) (.slice (some ⟨G, 0, none⟩) 17 17) (by go_simp) ?_
  simp only [Act.put, List.setIfInBounds_toArray, List.set_cons_zero, List.set_cons_succ]
  clear mk
  go_wp2
  go_loopw [6] (fun iv wr => ∃ i : Nat, i ≤ n ∧ iv = .int .i64 (i : Int) ∧ Mod (fun k => k = G) w1 wr ∧ RowU wr G (numTo b i)) (fun iv _ => n - (intOf iv).toNat)
  case atStart => exact ⟨0, by omega, rfl, Mod.refl _ _, x1.out⟩
  case round =>
    obtain ⟨i, hi, rfl, mr, yr⟩ := hrel
    have bi0 : (0 : Int) ≤ (i : Int) := by omega
    have MR := m1.out.trans' mr (fun k hk h => by have := hG.out; omega)
    by_cases hlt : i < n
    · have hdi : decide ((i : Int) < (n : Int)) = true := by rw [decide_eq_true_iff]; omega
      have bi16 : (i : Int) < (n : Int) := by omega
      have bi17 : (i : Int) < 17 := by omega
      obtain ⟨z, hz⟩ : ∃ z, z = b.getD i 0 := ⟨_, rfl⟩
      have hcz : wr.cell? ⟨gb, ob + i, none⟩ = some (.int .u8 (z.toNat : Int)) := by rw [hz]; exact cell_mod MR (hcells.out i hlt) (fun h => h)
      have lz := ld_u8P hcz
      obtain ⟨d, hd⟩ : ∃ d, d = z.toNat := ⟨_, rfl⟩
      have hzl := z.isLt
      rw [← hd] at lz hzl
      have bd0 : (0 : Int) ≤ (d : Int) := by omega
      have hwd : IntKind.u64.wrap (d : Int) = (d : Int) := by rw [IntKind.wrap_u64]; omega
      obtain ⟨w6, st6, n6, y6⟩ := yr.put i d (by rw [numTo_length b i (by rw [← hn.out]; omega) (by rw [← hn.out]; omega)]; omega)
      rw [hd, hz, numTo_set b i (by rw [← hn.out]; omega) (by rw [← hn.out]; exact hlt)] at y6
      have mf := mr.trans n6
      clear hcz n6 mr yr MR
      replace hd := Lib.hid hd
      replace hz := Lib.hid hz
      replace y6 := Lib.hid y6
      replace mf := Lib.hid mf
      go_upto_region 5 with (fail)
      refine wp_region_lit ?_
      refine wpList_reads (by kernel_rfl) (.slice (some ⟨G, 0, none⟩) 17 17) (by go_simp) ?_
      simp only [Act.put, List.setIfInBounds_toArray, List.set_cons_zero, List.set_cons_succ]
      refine wpList_reads (by kernel_rfl) (.int .i64 (i : Int)) (by go_simp) ?_
      simp only [Act.put, List.setIfInBounds_toArray, List.set_cons_zero, List.set_cons_succ]
      refine wpList_reads (by kernel_rfl) (.slice (some ⟨gb, ob, none⟩) n cb) (by go_simp) ?_
      simp only [Act.put, List.setIfInBounds_toArray, List.set_cons_zero, List.set_cons_succ]
      refine wpList_reads (by kernel_rfl) (.int .i64 (i : Int)) (by go_simp) ?_
      simp only [Act.put, List.setIfInBounds_toArray, List.set_cons_zero, List.set_cons_succ]
      refine wpList_reads (by kernel_rfl) (.pointer (some ⟨gb, ob + i, none⟩)) (by go_simp) ?_
      simp only [Act.put, List.setIfInBounds_toArray, List.set_cons_zero, List.set_cons_succ]
      refine wpList_reads (by kernel_rfl) (.int .u8 (d : Int)) (run_load_op rfl rfl lz) ?_
      simp only [Act.put, List.setIfInBounds_toArray, List.set_cons_zero, List.set_cons_succ]
      refine wpList_reads (by kernel_rfl) (.int .u64 (d : Int)) (by go_simp) ?_
      simp only [Act.put, List.setIfInBounds_toArray, List.set_cons_zero, List.set_cons_succ]
      refine wpList_reads (by kernel_rfl) (.pointer (some ⟨G, i, none⟩)) (by go_simp) ?_
      simp only [Act.put, List.setIfInBounds_toArray, List.set_cons_zero, List.set_cons_succ]
      refine wpList_store_to rfl _ _ _ rfl _ _ _ rfl rfl _ st6 ?_
      simp only [Act.put, List.setIfInBounds_toArray, List.set_cons_zero, List.set_cons_succ]
      clear st6 lz
      go_wp2
      go_roundw
      case measure => simp [intOf]; omega
      case rel => exact ⟨i + 1, by omega, by go_num, mf.out, y6.out⟩
    · have hin : n = i := by omega
      subst hin
      have hdi : decide ((n : Int) < (n : Int)) = false := by rw [decide_eq_false_iff_not]; omega
      rw [hn.out] at yr
      have hGs : w.heap.size ≤ G := by have := hG.out; omega
      cases one with
      | false =>
        rw [numTo_all] at yr
        replace yr := Lib.hid yr
        replace MR := Lib.hid MR
        clear mr hlt hi
        go_wp2
        go_ret
        exact ⟨MR.out, G, hGs, rfl, yr.out⟩
      | true =>
        obtain ⟨w6, st6, n6, y6⟩ := yr.put n 1 (by rw [numTo_length b _ (by rw [← hn.out]; omega) (Nat.le_refl _)]; omega)
        rw [show (numTo b b.length).set n 1 = numV b true by rw [hn.out]; exact numTo_one b (by rw [← hn.out]; exact hbl)] at y6
        have mf : Mod (fun _ => False) w w6 := MR.trans' n6 (fun k hk h => by have := hG.out; omega)
        have bn17 : (n : Int) < 17 := by omega
        replace y6 := Lib.hid y6
        replace mf := Lib.hid mf
        clear n6 MR mr yr hlt hi
        go_upto_region 7 with (fail)
        refine wp_region_lit ?_
        refine wpList_reads (by kernel_rfl) (.slice (some ⟨G, 0, none⟩) 17 17) (by go_simp) ?_
        simp only [Act.put, List.setIfInBounds_toArray, List.set_cons_zero, List.set_cons_succ]
        refine wpList_reads (by kernel_rfl) (.slice (some ⟨gb, ob, none⟩) n cb) (by go_simp) ?_
        simp only [Act.put, List.setIfInBounds_toArray, List.set_cons_zero, List.set_cons_succ]
        refine wpList_reads (by kernel_rfl) (.int .i64 (n : Int)) (by go_simp) ?_
        simp only [Act.put, List.setIfInBounds_toArray, List.set_cons_zero, List.set_cons_succ]
        refine wpList_reads (by kernel_rfl) (.pointer (some ⟨G, n, none⟩)) (by go_simp) ?_
        simp only [Act.put, List.setIfInBounds_toArray, List.set_cons_zero, List.set_cons_succ]
        refine wpList_store_to rfl _ _ _ rfl _ _ _ rfl rfl _ st6 ?_
        simp only [Act.put, List.setIfInBounds_toArray, List.set_cons_zero, List.set_cons_succ]
        clear st6
        go_wp2
        go_ret
        exact ⟨mf.out, G, hGs, rfl, y6.out⟩
end Go.Proofs.YtbiijcljpgannaaGreatDoor
