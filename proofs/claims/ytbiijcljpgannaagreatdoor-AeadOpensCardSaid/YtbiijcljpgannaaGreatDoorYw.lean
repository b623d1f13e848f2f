/-
  mailcoachref05.mul, fold, Left. Printed by gen/pr2.py.
-/
import Derived.Test.YtbiijcljpgannaaGreatDoorYv
import Derived.Test.YtbiijcljpgannaaGreatDoorYq
import Derived.Test.YtbiijcljpgannaaGreatDoorYi
namespace Go.Proofs.YtbiijcljpgannaaGreatDoor
set_option maxRecDepth 100000
open Go Go.RowKit Go.Lib
set_option linter.unusedSimpArgs false
set_option linter.unusedVariables false

set_option maxRecDepth 100000 in
set_option maxHeartbeats 4000000 in
theorem mul_any34 (g1 o1 c1 g2 o2 c2 : Nat) (a b : List Nat) (ha : a.length = 17) (hb : b.length = 17) (ha8 : ∀ d ∈ a, d < 256) (hb8 : ∀ d ∈ b, d < 256) (w : World) (hra : NumR w g1 o1 a) (hrb : NumR w g2 o2 b) :
    Calls Tryz.prog 118 #[.slice (some ⟨g1, o1, none⟩) 17 c1, .slice (some ⟨g2, o2, none⟩) 17 c2] w fun e w' => Mod (fun _ => False) w w' ∧ ∃ g' c, w.heap.size ≤ g' ∧ e = .returned (.slice (some ⟨g', 0, none⟩) 34 c) ∧ w'.ownsRow w.heap.size 77 1 (.slice (some ⟨g', 0, none⟩) 34 c) 34 (nums .u64 (digs 34 (valB 256 a * valB 256 b))) := by
  have hl1 := numR_lt hra (by omega)
  have hl2 := numR_lt hrb (by omega)
  obtain ⟨w1, hw1⟩ : ∃ x, x = w.alloc (.cells (nums .u64 (List.replicate 34 0)).toArray 77) := ⟨_, rfl⟩
  obtain ⟨G, hG⟩ : ∃ x, x = w.heap.size := ⟨_, rfl⟩
  have m1 : Mod (fun _ => False) w w1 := by rw [hw1]; exact (Mod.refl _ _).alloc _
  have x1 : RowU w1 G (List.replicate 34 0) := by rw [hw1]; exact hp_new _ _ _ hG
  have mk := make64 34 (by decide) w
  rw [← hG, ← hw1] at mk
  have z1 : RowU w1 G (mtoV a b 0) := x1
  clear x1
  replace hw1 := Lib.hid hw1
  replace hG := Lib.hid hG
  replace m1 := Lib.hid m1
  replace z1 := Lib.hid z1
  replace hra := Lib.hid hra
  replace hrb := Lib.hid hrb
  replace ha8 := Lib.hid ha8
  replace hb8 := Lib.hid hb8
  replace hl1 := Lib.hid hl1
  replace hl2 := Lib.hid hl2
  replace ha := Lib.hid ha
  replace hb := Lib.hid hb
  go_enter Tryz.func118, Tryz.ntmps118
  go_upto_region 1 with (fail)
  refine wp_region_lit ?_
  refine wpList_yields (by kernel_rfl) (.slice (some ⟨G, 0, none⟩) 34 34) w1 (run_make_op rfl rfl rfl mk) ?_
  simp only [Act.put, List.setIfInBounds_toArray, List.set_cons_zero, List.set_cons_succ]
  refine wpList_reads (by kernel_rfl) (.slice (some ⟨G, 0, none⟩) 34 34) (by go_simp) ?_
  simp only [Act.put, List.setIfInBounds_toArray, List.set_cons_zero, List.set_cons_succ]
  clear mk
  go_wp2
  go_loopw [6] (fun iv wr => ∃ i : Nat, i ≤ 17 ∧ iv = .int .i64 (i : Int) ∧ Mod (fun k => k = G) w1 wr ∧ RowU wr G (mtoV a b i)) (fun iv _ => 17 - (intOf iv).toNat)
  case atStart => exact ⟨0, by omega, rfl, Mod.refl _ _, z1.out⟩
  case round =>
    obtain ⟨i, hi, rfl, mr, yr⟩ := hrel
    have bi0 : (0 : Int) ≤ (i : Int) := by omega
    by_cases hlt : i < 17
    · have hdi : decide ((i : Int) < 17) = true := by rw [decide_eq_true_iff]; omega
      have bi17 : (i : Int) < 17 := by omega
      obtain ⟨w0, hw0⟩ : ∃ x : World, x = wr := ⟨_, rfl⟩
      obtain ⟨M, hM⟩ : ∃ M, M = mtoV a b i := ⟨_, rfl⟩
      have hMl : M.length = 34 := by rw [hM]; exact mtoV_length a b i
      have hMe : ∀ x ∈ M, x ≤ i * 1105425 := by rw [hM]; exact mtoV_le ha8.out hb8.out i
      rw [← hM, ← hw0] at yr
      rw [← hw0] at mr
      have z0 : RowU w0 G (mrowV M a b i 0) := yr
      have hnx : mtoV a b (i + 1) = mrowV M a b i 17 := by rw [hM]; rfl
      obtain ⟨d, hd⟩ : ∃ d, d = a.getD i 0 := ⟨_, rfl⟩
      have hdb : d ≤ 255 := by rw [hd]; exact getD_le (fun x hx => by have := ha8.out x hx; omega) i
      replace hM := Lib.hid hM
      replace hMl := Lib.hid hMl
      replace hMe := Lib.hid hMe
      replace z0 := Lib.hid z0
      replace mr := Lib.hid mr
      replace hnx := Lib.hid hnx
      replace hd := Lib.hid hd
      clear yr
      rw [← hw0]
      replace hw0 := Lib.hid hw0
      go_wp2
      go_loopw [7] (fun kv wr => ∃ k : Nat, k ≤ 17 ∧ kv = .int .i64 (k : Int) ∧ Mod (fun k => k = G) w0 wr ∧ RowU wr G (mrowV M a b i k)) (fun kv _ => 17 - (intOf kv).toNat)
      case atStart => exact ⟨0, by omega, rfl, Mod.refl _ _, z0.out⟩
      case round =>
        obtain ⟨k, hk, rfl, mk, yk⟩ := hrel
        have bk0 : (0 : Int) ≤ (k : Int) := by omega
        have MR := m1.out.trans' (mr.out.trans mk) (fun k hk h => by have := hG.out; omega)
        by_cases hklt : k < 17
        · have hdk : decide ((k : Int) < 17) = true := by rw [decide_eq_true_iff]; omega
          have bk17 : (k : Int) < 17 := by omega
          obtain ⟨c, hc⟩ : ∃ c, c = b.getD k 0 := ⟨_, rfl⟩
          have hcb : c ≤ 255 := by rw [hc]; exact getD_le (fun x hx => by have := hb8.out x hx; omega) k
          obtain ⟨j, hj⟩ : ∃ j, j = i + k := ⟨_, rfl⟩
          have hji : (i : Int) + (k : Int) = (j : Int) := by omega
          have bj0 : (0 : Int) ≤ (j : Int) := by omega
          have bj34 : (j : Int) < 34 := by omega
          have hj34 : j < 34 := by omega
          have hwj : IntKind.i64.wrap (j : Int) = (j : Int) := by rw [IntKind.wrap_i64]; omega
          obtain ⟨L, hL⟩ : ∃ L, L = mrowV M a b i k := ⟨_, rfl⟩
          have hLl : L.length = 34 := by rw [hL, mrowV_length, hMl.out]
          have hLe : ∀ x ∈ L, x ≤ i * 1105425 + k * 65025 := by rw [hL]; exact mrowV_le hMe.out ha8.out hb8.out i k
          rw [← hL] at yk
          obtain ⟨y, hy⟩ : ∃ y, y = L.getD j 0 := ⟨_, rfl⟩
          have hyb : y ≤ i * 1105425 + k * 65025 := by rw [hy]; exact getD_le hLe j
          have hyb' : y ≤ 100000000 := by
            have h1 : i * 1105425 ≤ 17 * 1105425 := Nat.mul_le_mul_right _ hi
            have h2 : k * 65025 ≤ 17 * 65025 := Nat.mul_le_mul_right _ hk
            omega
          obtain ⟨p, hp⟩ : ∃ p, p = d * c := ⟨_, rfl⟩
          have hpi : (d : Int) * (c : Int) = (p : Int) := by rw [hp]; push_cast; rfl
          have hpb : p ≤ 65025 := by rw [hp]; exact Nat.mul_le_mul hdb hcb
          have bp0 : (0 : Int) ≤ (p : Int) := by omega
          have hwp : IntKind.u64.wrap (p : Int) = (p : Int) := by rw [IntKind.wrap_u64]; omega
          obtain ⟨s, hs⟩ : ∃ s, s = y + p := ⟨_, rfl⟩
          have hsi : (y : Int) + (p : Int) = (s : Int) := by omega
          have bs0 : (0 : Int) ≤ (s : Int) := by omega
          have hws : IntKind.u64.wrap (s : Int) = (s : Int) := by rw [IntKind.wrap_u64]; omega
          have hcd : wr.cell? ⟨g1, o1 + i, none⟩ = some (.int .u64 (d : Int)) := by rw [hd.out]; exact cell_mod MR (hra.out i (by rw [ha.out]; exact hlt)) (fun h => h)
          have hcc : wr.cell? ⟨g2, o2 + k, none⟩ = some (.int .u64 (c : Int)) := by rw [hc]; exact cell_mod MR (hrb.out k (by rw [hb.out]; exact hklt)) (fun h => h)
          have hcy : wr.cell? ⟨G, j, none⟩ = some (.int .u64 (y : Int)) := by have := yk.numR j (by omega); rw [Nat.zero_add] at this; rw [this, hy]
          have hset : L.set j s = mrowV M a b i (k + 1) := by rw [hs, hy, hp, hc, hd.out, hL, hj]; rfl
          replace hc := Lib.hid hc
          replace hj := Lib.hid hj
          replace hL := Lib.hid hL
          replace hLl := Lib.hid hLl
          replace hy := Lib.hid hy
          replace hp := Lib.hid hp
          replace hs := Lib.hid hs
          replace hcd := Lib.hid hcd
          replace hcc := Lib.hid hcc
          replace hcy := Lib.hid hcy
          replace hset := Lib.hid hset
          replace yk := Lib.hid yk
          replace hyb := Lib.hid hyb
          clear hLe
          go_upto_region 8 with (fail)
          refine wp_region_any (by kernel_rfl) (any_of_Z (S := fun W => Mod (fun _ => False) wr W) (z := 21) _ _ _ _ ?_)
          simp only [List.size_toArray, List.length_cons, List.length_nil, Nat.reduceAdd, Array.replicate_succ, Array.replicate_zero, List.push_toArray, List.nil_append, List.cons_append]
          have md : Mod (fun _ => False) wr wr.drew := (Mod.refl _ _).drew
          change anyZ _ _ _ _ _ _ _ _ _ wr.drew
          obtain ⟨wd, hwd⟩ : ∃ x, x = wr.drew := ⟨_, rfl⟩
          rw [← hwd] at md ⊢
          clear hwd
          refine anyZ_take 0 _ (some 17) (.slice (some ⟨G, 0, none⟩) 34 34) rfl (by kernel_rfl) (by kernel_rfl) (by kernel_rfl) (by kernel_rfl) (by kernel_rfl) (by decide) rfl (fun w' hS => ?_) md ?_
          · go_simp
          simp only [Act.put, List.setIfInBounds_toArray, List.set_cons_zero, List.set_cons_succ]
          refine anyZ_take 1 _ (some 18) (.int .i64 (i : Int)) rfl (by kernel_rfl) (by kernel_rfl) (by kernel_rfl) (by kernel_rfl) (by kernel_rfl) (by decide) rfl (fun w' hS => ?_) md ?_
          · go_simp
          simp only [Act.put, List.setIfInBounds_toArray, List.set_cons_zero, List.set_cons_succ]
          refine anyZ_take 2 _ (some 19) (.int .i64 (k : Int)) rfl (by kernel_rfl) (by kernel_rfl) (by kernel_rfl) (by kernel_rfl) (by kernel_rfl) (by decide) rfl (fun w' hS => ?_) md ?_
          · go_simp
          simp only [Act.put, List.setIfInBounds_toArray, List.set_cons_zero, List.set_cons_succ]
          refine anyZ_take 3 _ (some 20) (.int .i64 (j : Int)) rfl (by kernel_rfl) (by kernel_rfl) (by kernel_rfl) (by kernel_rfl) (by kernel_rfl) (by decide) rfl (fun w' hS => ?_) md ?_
          · go_simp
          simp only [Act.put, List.setIfInBounds_toArray, List.set_cons_zero, List.set_cons_succ]
          refine anyZ_take 4 _ (some 21) (.slice (some ⟨G, 0, none⟩) 34 34) rfl (by kernel_rfl) (by kernel_rfl) (by kernel_rfl) (by kernel_rfl) (by kernel_rfl) (by decide) rfl (fun w' hS => ?_) md ?_
          · go_simp
          simp only [Act.put, List.setIfInBounds_toArray, List.set_cons_zero, List.set_cons_succ]
          refine anyZ_take 5 _ (some 22) (.int .i64 (i : Int)) rfl (by kernel_rfl) (by kernel_rfl) (by kernel_rfl) (by kernel_rfl) (by kernel_rfl) (by decide) rfl (fun w' hS => ?_) md ?_
          · go_simp
          simp only [Act.put, List.setIfInBounds_toArray, List.set_cons_zero, List.set_cons_succ]
          refine anyZ_take 6 _ (some 23) (.int .i64 (k : Int)) rfl (by kernel_rfl) (by kernel_rfl) (by kernel_rfl) (by kernel_rfl) (by kernel_rfl) (by decide) rfl (fun w' hS => ?_) md ?_
          · go_simp
          simp only [Act.put, List.setIfInBounds_toArray, List.set_cons_zero, List.set_cons_succ]
          refine anyZ_take 7 _ (some 24) (.int .i64 (j : Int)) rfl (by kernel_rfl) (by kernel_rfl) (by kernel_rfl) (by kernel_rfl) (by kernel_rfl) (by decide) rfl (fun w' hS => ?_) md ?_
          · go_simp
          simp only [Act.put, List.setIfInBounds_toArray, List.set_cons_zero, List.set_cons_succ]
          refine anyZ_take 8 _ (some 25) (.pointer (some ⟨G, j, none⟩)) rfl (by kernel_rfl) (by kernel_rfl) (by kernel_rfl) (by kernel_rfl) (by kernel_rfl) (by decide) rfl (fun w' hS => ?_) md ?_
          · go_simp
          simp only [Act.put, List.setIfInBounds_toArray, List.set_cons_zero, List.set_cons_succ]
          refine anyZ_take 9 _ (some 26) (.int .u64 (y : Int)) rfl (by kernel_rfl) (by kernel_rfl) (by kernel_rfl) (by kernel_rfl) (by kernel_rfl) (by decide) rfl (fun w' hS => ?_) md ?_
          · exact run_load_op rfl rfl (ld_u64R (cell_mod hS hcy.out (fun h => h)))
          simp only [Act.put, List.setIfInBounds_toArray, List.set_cons_zero, List.set_cons_succ]
          refine anyZ_take 10 _ (some 27) (.slice (some ⟨g1, o1, none⟩) 17 c1) rfl (by kernel_rfl) (by kernel_rfl) (by kernel_rfl) (by kernel_rfl) (by kernel_rfl) (by decide) rfl (fun w' hS => ?_) md ?_
          · go_simp
          simp only [Act.put, List.setIfInBounds_toArray, List.set_cons_zero, List.set_cons_succ]
          refine anyZ_take 11 _ (some 28) (.int .i64 (i : Int)) rfl (by kernel_rfl) (by kernel_rfl) (by kernel_rfl) (by kernel_rfl) (by kernel_rfl) (by decide) rfl (fun w' hS => ?_) md ?_
          · go_simp
          simp only [Act.put, List.setIfInBounds_toArray, List.set_cons_zero, List.set_cons_succ]
          refine anyZ_take 12 _ (some 29) (.pointer (some ⟨g1, o1 + i, none⟩)) rfl (by kernel_rfl) (by kernel_rfl) (by kernel_rfl) (by kernel_rfl) (by kernel_rfl) (by decide) rfl (fun w' hS => ?_) md ?_
          · go_simp
          simp only [Act.put, List.setIfInBounds_toArray, List.set_cons_zero, List.set_cons_succ]
          refine anyZ_take 13 _ (some 30) (.int .u64 (d : Int)) rfl (by kernel_rfl) (by kernel_rfl) (by kernel_rfl) (by kernel_rfl) (by kernel_rfl) (by decide) rfl (fun w' hS => ?_) md ?_
          · exact run_load_op rfl rfl (ld_u64R (cell_mod hS hcd.out (fun h => h)))
          simp only [Act.put, List.setIfInBounds_toArray, List.set_cons_zero, List.set_cons_succ]
          refine anyZ_take 14 _ (some 31) (.slice (some ⟨g2, o2, none⟩) 17 c2) rfl (by kernel_rfl) (by kernel_rfl) (by kernel_rfl) (by kernel_rfl) (by kernel_rfl) (by decide) rfl (fun w' hS => ?_) md ?_
          · go_simp
          simp only [Act.put, List.setIfInBounds_toArray, List.set_cons_zero, List.set_cons_succ]
          refine anyZ_take 15 _ (some 32) (.int .i64 (k : Int)) rfl (by kernel_rfl) (by kernel_rfl) (by kernel_rfl) (by kernel_rfl) (by kernel_rfl) (by decide) rfl (fun w' hS => ?_) md ?_
          · go_simp
          simp only [Act.put, List.setIfInBounds_toArray, List.set_cons_zero, List.set_cons_succ]
          refine anyZ_take 16 _ (some 33) (.pointer (some ⟨g2, o2 + k, none⟩)) rfl (by kernel_rfl) (by kernel_rfl) (by kernel_rfl) (by kernel_rfl) (by kernel_rfl) (by decide) rfl (fun w' hS => ?_) md ?_
          · go_simp
          simp only [Act.put, List.setIfInBounds_toArray, List.set_cons_zero, List.set_cons_succ]
          refine anyZ_take 17 _ (some 34) (.int .u64 (c : Int)) rfl (by kernel_rfl) (by kernel_rfl) (by kernel_rfl) (by kernel_rfl) (by kernel_rfl) (by decide) rfl (fun w' hS => ?_) md ?_
          · exact run_load_op rfl rfl (ld_u64R (cell_mod hS hcc.out (fun h => h)))
          simp only [Act.put, List.setIfInBounds_toArray, List.set_cons_zero, List.set_cons_succ]
          refine anyZ_take 18 _ (some 35) (.int .u64 (p : Int)) rfl (by kernel_rfl) (by kernel_rfl) (by kernel_rfl) (by kernel_rfl) (by kernel_rfl) (by decide) rfl (fun w' hS => ?_) md ?_
          · go_simp
          simp only [Act.put, List.setIfInBounds_toArray, List.set_cons_zero, List.set_cons_succ]
          refine anyZ_take 19 _ (some 36) (.int .u64 (s : Int)) rfl (by kernel_rfl) (by kernel_rfl) (by kernel_rfl) (by kernel_rfl) (by kernel_rfl) (by decide) rfl (fun w' hS => ?_) md ?_
          · go_simp
          simp only [Act.put, List.setIfInBounds_toArray, List.set_cons_zero, List.set_cons_succ]
          refine anyZ_take 20 _ (some 37) (.pointer (some ⟨G, j, none⟩)) rfl (by kernel_rfl) (by kernel_rfl) (by kernel_rfl) (by kernel_rfl) (by kernel_rfl) (by decide) rfl (fun w' hS => ?_) md ?_
          · go_simp
          simp only [Act.put, List.setIfInBounds_toArray, List.set_cons_zero, List.set_cons_succ]
          obtain ⟨w6, st6, n6, y6⟩ := (show RowU wd G L from md.heap yk.out (fun h => h)).put j s (by rw [hLl.out]; exact hj34)
          rw [hset.out] at y6
          have mf : Mod (fun k => k = G) w0 w6 := (mk.trans' md (fun _ _ h => h.elim)).trans n6
          refine anyZ_skip 21 _ rfl (by kernel_rfl) (by kernel_rfl) rfl w6 (run_store_op rfl rfl rfl st6) (fun h => absurd rfl h) ?_
          simp only [Act.put, List.setIfInBounds_toArray, List.set_cons_zero, List.set_cons_succ]
          clear st6 n6
          refine anyZ_done (by kernel_rfl) ?_ _
          replace mf := Lib.hid mf
          replace y6 := Lib.hid y6
          clear md mk MR
          go_wp2
          go_roundw
          case measure => simp [intOf]; omega
          case rel => exact ⟨k + 1, by omega, by go_num, mf.out, y6.out⟩
        · have hk17 : 17 = k := by omega
          subst hk17
          have hdk : decide (((17 : Nat) : Int) < 17) = false := by decide
          have mf := mr.out.trans mk
          rw [← hnx.out] at yk
          replace mf := Lib.hid mf
          replace yk := Lib.hid yk
          clear mk MR hklt hk
          go_wp2
          go_roundw
          case measure => simp [intOf]; omega
          case rel => exact ⟨i + 1, by omega, by go_num, mf.out, yk.out⟩
    · have hi17 : 17 = i := by omega
      subst hi17
      obtain ⟨wB, rfl⟩ : ∃ x : World, x = wr := ⟨_, rfl⟩
      have hdi : decide (((17 : Nat) : Int) < 17) = false := by decide
      have hv : valB 256 (mtoV a b 17) = valB 256 a * valB 256 b := by rw [mtoV_val a b hb.out 17 (by omega), List.take_of_length_le (by rw [ha.out]; exact Nat.le_refl _)]
      have hple := mtoV_le ha8.out hb8.out 17
      have mB := m1.out.trans' mr (fun k hk h => by have := hG.out; omega)
      replace hv := Lib.hid hv
      replace hple := Lib.hid hple
      replace mB := Lib.hid mB
      replace yr := Lib.hid yr
      clear mr hlt hi
      go_upto_region 9 with (fail)
      refine wp_region_lit ?_
      refine wpList_reads (by kernel_rfl) (.slice (some ⟨G, 0, none⟩) 34 34) (by go_simp) ?_
      simp only [Act.put, List.setIfInBounds_toArray, List.set_cons_zero, List.set_cons_succ]
      refine wpList_enter (by kernel_rfl) 126 #[.slice (some ⟨G, 0, none⟩) 34 34, .int .i64 34] (by go_simp) (carried34 G 0 34 (mtoV a b 17) (mtoV_length a b 17) (fun d hd => by have := hple.out d hd; omega) wB yr.out.numR) ?_
      rintro e w9 ⟨m9, g', c', hg', rfl, own9⟩
      rw [hv.out] at own9
      have mf := mB.out.trans m9
      have hgf : w.heap.size ≤ g' := Nat.le_trans mB.out.size hg'
      have of := ownsRow_base0 own9 mB.out.size
      replace mf := Lib.hid mf
      replace hgf := Lib.hid hgf
      replace of := Lib.hid of
      clear m9 own9 hg'
      refine ⟨_, rfl, ?_⟩
      simp only [Act.put, List.setIfInBounds_toArray, List.set_cons_zero, List.set_cons_succ]
      refine wpList_reads (by kernel_rfl) (.slice (some ⟨g', 0, none⟩) 34 c') (by go_simp) ?_
      simp only [Act.put, List.setIfInBounds_toArray, List.set_cons_zero, List.set_cons_succ]
      go_wp2
      go_ret
      exact ⟨mf.out, g', c', hgf.out, rfl, of.out⟩

def fil34 (l : List Nat) (i : Nat) : List Nat := l.take i ++ List.replicate (34 - i) 0
theorem fil34_length {l : List Nat} (hl : l.length = 34) (i : Nat) (hi : i ≤ 34) : (fil34 l i).length = 34 := by simp [fil34, hl]; omega
theorem fil34_set {l : List Nat} (hl : l.length = 34) (i : Nat) (hi : i < 34) : (fil34 l i).set i (l.getD i 0) = fil34 l (i + 1) := by
  apply List.ext_getElem
  · simp [fil34, hl]; omega
  · intro j h1 h2
    rw [fil34_length hl _ (by omega)] at h2
    rw [List.getElem_set]
    by_cases h : i = j
    · subst h
      rw [if_pos rfl]
      simp only [fil34]
      rw [List.getElem_append_left (by simp [hl]; omega), List.getElem_take, List.getD_eq_getElem?_getD, List.getElem?_eq_getElem (by omega)]
      rfl
    · rw [if_neg h]
      simp only [fil34]
      by_cases h3 : j < i
      · rw [List.getElem_append_left (by simp [hl]; omega), List.getElem_append_left (by simp [hl]; omega), List.getElem_take, List.getElem_take]
      · rw [List.getElem_append_right (by simp [hl]; omega), List.getElem_append_right (by simp [hl]; omega)]
        simp
theorem fil34_fold {l : List Nat} (hl : l.length = 34) : (fil34 l 17).set 16 (l.getD 16 0 % 4) = fold0 l := by
  unfold fil34 fold0
  rw [List.take_add_one (i := 16), List.getElem?_eq_getElem (by omega), List.set_append_left _ _ (by simp [hl]), List.set_append_right _ _ (by simp [hl])]
  simp [hl]
set_option maxRecDepth 100000 in
set_option maxHeartbeats 4000000 in
theorem fold_any34 (g1 o1 c1 : Nat) (a : List Nat) (ha : a.length = 34) (ha8 : ∀ d ∈ a, d < 256) (w : World) (hra : NumR w g1 o1 a) :
    Calls Tryz.prog 127 #[.slice (some ⟨g1, o1, none⟩) 34 c1] w fun e w' => Mod (fun _ => False) w w' ∧ ∃ g' c, w.heap.size ≤ g' ∧ e = .returned (.slice (some ⟨g', 0, none⟩) 34 c) ∧ w'.ownsRow w.heap.size 77 1 (.slice (some ⟨g', 0, none⟩) 34 c) 34 (nums .u64 (digs 34 (foldN (valB 256 a)))) := by
  have hl1 := numR_lt hra (by omega)
  obtain ⟨w1, hw1⟩ : ∃ x, x = w.alloc (.cells (nums .u64 (List.replicate 34 0)).toArray 77) := ⟨_, rfl⟩
  obtain ⟨G, hG⟩ : ∃ x, x = w.heap.size := ⟨_, rfl⟩
  have m1 : Mod (fun _ => False) w w1 := by rw [hw1]; exact (Mod.refl _ _).alloc _
  have x1 : RowU w1 G (List.replicate 34 0) := by rw [hw1]; exact hp_new _ _ _ hG
  have mk := make64 34 (by decide) w
  rw [← hG, ← hw1] at mk
  have z1 : RowU w1 G (fil34 a 0) := by simpa [fil34] using x1
  clear x1
  replace hw1 := Lib.hid hw1
  replace hG := Lib.hid hG
  replace m1 := Lib.hid m1
  replace z1 := Lib.hid z1
  replace hra := Lib.hid hra
  replace ha8 := Lib.hid ha8
  replace hl1 := Lib.hid hl1
  replace ha := Lib.hid ha
  go_enter Tryz.func127, Tryz.ntmps127
  go_upto_region 1 with (fail)
  refine wp_region_lit ?_
  refine wpList_yields (by kernel_rfl) (.slice (some ⟨G, 0, none⟩) 34 34) w1 (run_make_op rfl rfl rfl mk) ?_
  simp only [Act.put, List.setIfInBounds_toArray, List.set_cons_zero, List.set_cons_succ]
  refine wpList_reads (by kernel_rfl) (.slice (some ⟨G, 0, none⟩) 34 34) (by go_simp) ?_
  simp only [Act.put, List.setIfInBounds_toArray, List.set_cons_zero, List.set_cons_succ]
  clear mk
  go_wp2
  go_loopw [4] (fun iv wr => ∃ i : Nat, i ≤ 17 ∧ iv = .int .i64 (i : Int) ∧ Mod (fun k => k = G) w1 wr ∧ RowU wr G (fil34 a i)) (fun iv _ => 17 - (intOf iv).toNat)
  case atStart => exact ⟨0, by omega, rfl, Mod.refl _ _, z1.out⟩
  case round =>
    obtain ⟨i, hi, rfl, mr, yr⟩ := hrel
    have bi0 : (0 : Int) ≤ (i : Int) := by omega
    have MR := m1.out.trans' mr (fun k hk h => by have := hG.out; omega)
    by_cases hlt : i < 17
    · have hdi : decide ((i : Int) < 17) = true := by rw [decide_eq_true_iff]; omega
      have bi34 : (i : Int) < 34 := by omega
      obtain ⟨d, hd⟩ : ∃ d, d = a.getD i 0 := ⟨_, rfl⟩
      have hcd : wr.cell? ⟨g1, o1 + i, none⟩ = some (.int .u64 (d : Int)) := by rw [hd]; exact cell_mod MR (hra.out i (by rw [ha.out]; omega)) (fun h => h)
      have ld := ld_u64R hcd
      obtain ⟨w6, st6, n6, y6⟩ := yr.put i d (by rw [fil34_length ha.out i (by omega)]; omega)
      rw [hd, fil34_set ha.out i (by omega)] at y6
      have mf := mr.trans n6
      clear hcd n6 mr yr MR
      replace hd := Lib.hid hd
      replace y6 := Lib.hid y6
      replace mf := Lib.hid mf
      go_upto_region 5 with (fail)
      refine wp_region_lit ?_
      refine wpList_reads (by kernel_rfl) (.slice (some ⟨G, 0, none⟩) 34 34) (by go_simp) ?_
      simp only [Act.put, List.setIfInBounds_toArray, List.set_cons_zero, List.set_cons_succ]
      refine wpList_reads (by kernel_rfl) (.int .i64 (i : Int)) (by go_simp) ?_
      simp only [Act.put, List.setIfInBounds_toArray, List.set_cons_zero, List.set_cons_succ]
      refine wpList_reads (by kernel_rfl) (.slice (some ⟨g1, o1, none⟩) 34 c1) (by go_simp) ?_
      simp only [Act.put, List.setIfInBounds_toArray, List.set_cons_zero, List.set_cons_succ]
      refine wpList_reads (by kernel_rfl) (.int .i64 (i : Int)) (by go_simp) ?_
      simp only [Act.put, List.setIfInBounds_toArray, List.set_cons_zero, List.set_cons_succ]
      refine wpList_reads (by kernel_rfl) (.pointer (some ⟨g1, o1 + i, none⟩)) (by go_simp) ?_
      simp only [Act.put, List.setIfInBounds_toArray, List.set_cons_zero, List.set_cons_succ]
      refine wpList_reads (by kernel_rfl) (.int .u64 (d : Int)) (run_load_op rfl rfl ld) ?_
      simp only [Act.put, List.setIfInBounds_toArray, List.set_cons_zero, List.set_cons_succ]
      refine wpList_reads (by kernel_rfl) (.pointer (some ⟨G, i, none⟩)) (by go_simp) ?_
      simp only [Act.put, List.setIfInBounds_toArray, List.set_cons_zero, List.set_cons_succ]
      refine wpList_store_to rfl _ _ _ rfl _ _ _ rfl rfl _ st6 ?_
      simp only [Act.put, List.setIfInBounds_toArray, List.set_cons_zero, List.set_cons_succ]
      clear st6 ld
      go_wp2
      go_roundw
      case measure => simp [intOf]; omega
      case rel => exact ⟨i + 1, by omega, by go_num, mf.out, y6.out⟩
    · have hi17 : 17 = i := by omega
      subst hi17
      obtain ⟨w2, rfl⟩ : ∃ x : World, x = wr := ⟨_, rfl⟩
      have hdi : decide (((17 : Nat) : Int) < 17) = false := by decide
      obtain ⟨d, hd⟩ : ∃ d, d = a.getD 16 0 := ⟨_, rfl⟩
      have hcd : w2.cell? ⟨g1, o1 + 16, none⟩ = some (.int .u64 (d : Int)) := by rw [hd]; exact cell_mod MR (hra.out 16 (by rw [ha.out]; omega)) (fun h => h)
      have ld := ld_u64R hcd
      obtain ⟨y, hy⟩ : ∃ y, y = d % 4 := ⟨_, rfl⟩
      have hyt : Int.tmod (d : Int) 4 = (y : Int) := by rw [hy]; rfl
      have hye : (d : Int) % 4 = (y : Int) := by omega
      have bd0 : (0 : Int) ≤ (d : Int) := by omega
      have by0 : (0 : Int) ≤ (y : Int) := by omega
      have hwy : IntKind.u64.wrap (y : Int) = (y : Int) := by rw [IntKind.wrap_u64]; omega
      obtain ⟨w3, st3, n3, y3⟩ := yr.put 16 y (by rw [fil34_length ha.out 17 (by omega)]; omega)
      rw [hy, hd, fil34_fold ha.out] at y3
      have m3 := mr.trans n3
      have z3 : RowU w3 G (foldTo a 0) := y3
      clear hcd n3 mr yr MR y3
      replace hd := Lib.hid hd
      replace hy := Lib.hid hy
      replace z3 := Lib.hid z3
      replace m3 := Lib.hid m3
      clear hlt hi
      go_upto_region 6 with (fail)
      refine wp_region_lit ?_
      refine wpList_reads (by kernel_rfl) (.slice (some ⟨G, 0, none⟩) 34 34) (by go_simp) ?_
      simp only [Act.put, List.setIfInBounds_toArray, List.set_cons_zero, List.set_cons_succ]
      refine wpList_reads (by kernel_rfl) (.slice (some ⟨g1, o1, none⟩) 34 c1) (by go_simp) ?_
      simp only [Act.put, List.setIfInBounds_toArray, List.set_cons_zero, List.set_cons_succ]
      refine wpList_reads (by kernel_rfl) (.pointer (some ⟨g1, o1 + 16, none⟩)) (by go_simp) ?_
      simp only [Act.put, List.setIfInBounds_toArray, List.set_cons_zero, List.set_cons_succ]
      refine wpList_reads (by kernel_rfl) (.int .u64 (d : Int)) (run_load_op rfl rfl ld) ?_
      simp only [Act.put, List.setIfInBounds_toArray, List.set_cons_zero, List.set_cons_succ]
      refine wpList_reads (by kernel_rfl) (.int .u64 (y : Int)) (by go_simp) ?_
      simp only [Act.put, List.setIfInBounds_toArray, List.set_cons_zero, List.set_cons_succ]
      refine wpList_reads (by kernel_rfl) (.pointer (some ⟨G, 16, none⟩)) (by go_simp) ?_
      simp only [Act.put, List.setIfInBounds_toArray, List.set_cons_zero, List.set_cons_succ]
      refine wpList_store_to rfl _ _ _ rfl _ _ _ rfl rfl _ st3 ?_
      simp only [Act.put, List.setIfInBounds_toArray, List.set_cons_zero, List.set_cons_succ]
      clear st3 ld hyt hye hwy bd0 by0
      go_wp2
      go_loopw [5] (fun iv wr => ∃ j : Nat, j ≤ 18 ∧ iv = .int .i64 ((16 + j : Nat) : Int) ∧ Mod (fun k => k = G) w1 wr ∧ RowU wr G (foldTo a j)) (fun iv _ => 34 - (intOf iv).toNat)
      case atStart => exact ⟨0, by omega, rfl, m3.out, z3.out⟩
      case round =>
        obtain ⟨j, hj, rfl, mr, yr⟩ := hrel
        obtain ⟨i, hi⟩ : ∃ i, i = 16 + j := ⟨_, rfl⟩
        rw [← hi]
        have bi0 : (0 : Int) ≤ (i : Int) := by omega
        have MR := m1.out.trans' mr (fun k hk h => by have := hG.out; omega)
        by_cases hlt : j < 18
        · have hdi : decide ((i : Int) < 34) = true := by rw [decide_eq_true_iff]; omega
          have bi34 : (i : Int) < 34 := by omega
          have hji : (i : Int) - 16 = (j : Int) := by omega
          have bj0 : (0 : Int) ≤ (j : Int) := by omega
          have bj34 : (j : Int) < 34 := by omega
          have hwj : IntKind.i64.wrap (j : Int) = (j : Int) := by rw [IntKind.wrap_i64]; omega
          obtain ⟨i1, hi1⟩ : ∃ i1, i1 = i + 1 := ⟨_, rfl⟩
          have hi1i : (i : Int) + 1 = (i1 : Int) := by omega
          have bi10 : (0 : Int) ≤ (i1 : Int) := by omega
          have hwi1 : IntKind.i64.wrap (i1 : Int) = (i1 : Int) := by rw [IntKind.wrap_i64]; omega
          obtain ⟨d, hd⟩ : ∃ d, d = a.getD i 0 := ⟨_, rfl⟩
          have hdb : d ≤ 255 := by rw [hd]; exact getD_le (fun x hx => by have := ha8.out x hx; omega) i
          have bd0 : (0 : Int) ≤ (d : Int) := by omega
          have hcd : wr.cell? ⟨g1, o1 + i, none⟩ = some (.int .u64 (d : Int)) := by rw [hd]; exact cell_mod MR (hra.out i (by rw [ha.out]; omega)) (fun h => h)
          have ld := ld_u64R hcd
          obtain ⟨q, hq⟩ : ∃ q, q = d / 4 := ⟨_, rfl⟩
          have hqt : Int.tdiv (d : Int) 4 = (q : Int) := by rw [hq]; rfl
          have hqe : (d : Int) / 4 = (q : Int) := by omega
          have bq0 : (0 : Int) ≤ (q : Int) := by omega
          have hwq : IntKind.u64.wrap (q : Int) = (q : Int) := by rw [IntKind.wrap_u64]; omega
          obtain ⟨L, hL⟩ : ∃ L, L = foldTo a j := ⟨_, rfl⟩
          have hLl : L.length = 34 := by rw [hL]; exact foldTo_length a ha.out j
          have hLe : ∀ x ∈ L, x ≤ 255 + j * 5000 := by rw [hL]; exact foldTo_le a ha8.out j
          obtain ⟨y, hy⟩ : ∃ y, y = L.getD j 0 := ⟨_, rfl⟩
          have hyb : y ≤ 255 + j * 5000 := by rw [hy]; exact getD_le hLe j
          have hjm : j * 5000 ≤ 18 * 5000 := Nat.mul_le_mul_right _ hj
          have hyb' : y ≤ 100000 := by omega
          rw [← hL] at yr
          have hcy : wr.cell? ⟨G, j, none⟩ = some (.int .u64 (y : Int)) := by have := yr.numR j (by omega); rw [Nat.zero_add] at this; rw [this, hy]
          have ly := ld_u64R hcy
          -- the high part
          obtain ⟨h, hh⟩ : ∃ h, h = hiV a i := ⟨_, rfl⟩
          have hset : L.set j (y + 5 * h) = foldTo a (j + 1) := by rw [hy, hh, hL, hi]; rfl
          obtain ⟨p, hp⟩ : ∃ p, p = 5 * h := ⟨_, rfl⟩
          have hpi : 5 * (h : Int) = (p : Int) := by omega
          obtain ⟨s, hs⟩ : ∃ s, s = y + p := ⟨_, rfl⟩
          have hsi : (y : Int) + (p : Int) = (s : Int) := by omega
          have hsl : L.set j s = foldTo a (j + 1) := by rw [hs, hp]; exact hset
          obtain ⟨w6, st6, n6, y6⟩ := yr.put j s (by rw [hLl]; omega)
          rw [hsl] at y6
          have mf := mr.trans n6
          clear hLe hcd hcy n6 hset hsl hjm hyb mr yr
          replace hi := Lib.hid hi
          replace hi1 := Lib.hid hi1
          replace hL := Lib.hid hL
          replace hLl := Lib.hid hLl
          replace hy := Lib.hid hy
          replace hp := Lib.hid hp
          replace hs := Lib.hid hs
          replace mf := Lib.hid mf
          replace y6 := Lib.hid y6
          replace hd := Lib.hid hd
          replace hq := Lib.hid hq
          replace hh := Lib.hid hh
          go_upto_region 10 with (fail)
          refine wp_region_lit ?_
          refine wpList_reads (by kernel_rfl) (.slice (some ⟨g1, o1, none⟩) 34 c1) (by go_simp) ?_
          simp only [Act.put, List.setIfInBounds_toArray, List.set_cons_zero, List.set_cons_succ]
          refine wpList_reads (by kernel_rfl) (.int .i64 (i : Int)) (by go_simp) ?_
          simp only [Act.put, List.setIfInBounds_toArray, List.set_cons_zero, List.set_cons_succ]
          refine wpList_reads (by kernel_rfl) (.pointer (some ⟨g1, o1 + i, none⟩)) (by go_simp) ?_
          simp only [Act.put, List.setIfInBounds_toArray, List.set_cons_zero, List.set_cons_succ]
          refine wpList_reads (by kernel_rfl) (.int .u64 (d : Int)) (run_load_op rfl rfl ld) ?_
          simp only [Act.put, List.setIfInBounds_toArray, List.set_cons_zero, List.set_cons_succ]
          refine wpList_reads (by kernel_rfl) (.int .u64 (q : Int)) (by go_simp) ?_
          simp only [Act.put, List.setIfInBounds_toArray, List.set_cons_zero, List.set_cons_succ]
          refine wpList_reads (by kernel_rfl) (.int .u64 (q : Int)) (by go_simp) ?_
          simp only [Act.put, List.setIfInBounds_toArray, List.set_cons_zero, List.set_cons_succ]
          clear ld
          by_cases hn : i1 < 34
          · have hdn : decide ((i1 : Int) < 34) = true := by rw [decide_eq_true_iff]; omega
            have bn34 : (i1 : Int) < 34 := by omega
            obtain ⟨x, hx⟩ : ∃ x, x = a.getD i1 0 := ⟨_, rfl⟩
            have hcx : wr.cell? ⟨g1, o1 + i1, none⟩ = some (.int .u64 (x : Int)) := by rw [hx]; exact cell_mod MR (hra.out i1 (by rw [ha.out]; omega)) (fun h => h)
            have lx := ld_u64R hcx
            obtain ⟨u, hu⟩ : ∃ u, u = x % 4 := ⟨_, rfl⟩
            have hut : Int.tmod (x : Int) 4 = (u : Int) := by rw [hu]; rfl
            have hue : (x : Int) % 4 = (u : Int) := by omega
            have bx0 : (0 : Int) ≤ (x : Int) := by omega
            have bu0 : (0 : Int) ≤ (u : Int) := by omega
            have hwu : IntKind.u64.wrap (u : Int) = (u : Int) := by rw [IntKind.wrap_u64]; omega
            obtain ⟨t, ht⟩ : ∃ t, t = u * 64 := ⟨_, rfl⟩
            have hti : (u : Int) * 64 = (t : Int) := by omega
            have bt0 : (0 : Int) ≤ (t : Int) := by omega
            have hwt : IntKind.u64.wrap (t : Int) = (t : Int) := by rw [IntKind.wrap_u64]; omega
            have hh' : h = q + t := by rw [hh.out]; unfold hiV; rw [if_pos (by rw [← hi1.out]; exact hn), ht, hu, hq.out, hd.out, hx, hi1.out]
            have hhi : (q : Int) + (t : Int) = (h : Int) := by omega
            have hhb : h ≤ 600 := by rw [hh', ht]; have := hq.out; omega
            have hwh : IntKind.u64.wrap (h : Int) = (h : Int) := by rw [IntKind.wrap_u64]; omega
            clear hcx MR hh hh'
            have hqt2 : q ≤ 255 := by have := hq.out; omega
            replace hx := Lib.hid hx
            replace hu := Lib.hid hu
            replace ht := Lib.hid ht
            go_upto_region 12 with (fail)
            refine wp_region_lit ?_
            refine wpList_reads (by kernel_rfl) (.int .u64 (q : Int)) (by go_simp) ?_
            simp only [Act.put, List.setIfInBounds_toArray, List.set_cons_zero, List.set_cons_succ]
            refine wpList_reads (by kernel_rfl) (.slice (some ⟨g1, o1, none⟩) 34 c1) (by go_simp) ?_
            simp only [Act.put, List.setIfInBounds_toArray, List.set_cons_zero, List.set_cons_succ]
            refine wpList_reads (by kernel_rfl) (.int .i64 (i : Int)) (by go_simp) ?_
            simp only [Act.put, List.setIfInBounds_toArray, List.set_cons_zero, List.set_cons_succ]
            refine wpList_reads (by kernel_rfl) (.int .i64 (i1 : Int)) (by go_simp) ?_
            simp only [Act.put, List.setIfInBounds_toArray, List.set_cons_zero, List.set_cons_succ]
            refine wpList_reads (by kernel_rfl) (.pointer (some ⟨g1, o1 + i1, none⟩)) (by go_simp) ?_
            simp only [Act.put, List.setIfInBounds_toArray, List.set_cons_zero, List.set_cons_succ]
            refine wpList_reads (by kernel_rfl) (.int .u64 (x : Int)) (run_load_op rfl rfl lx) ?_
            simp only [Act.put, List.setIfInBounds_toArray, List.set_cons_zero, List.set_cons_succ]
            refine wpList_reads (by kernel_rfl) (.int .u64 (u : Int)) (by go_simp) ?_
            simp only [Act.put, List.setIfInBounds_toArray, List.set_cons_zero, List.set_cons_succ]
            refine wpList_reads (by kernel_rfl) (.int .u64 (t : Int)) (by go_simp) ?_
            simp only [Act.put, List.setIfInBounds_toArray, List.set_cons_zero, List.set_cons_succ]
            refine wpList_reads (by kernel_rfl) (.int .u64 (h : Int)) (by go_simp) ?_
            simp only [Act.put, List.setIfInBounds_toArray, List.set_cons_zero, List.set_cons_succ]
            refine wpList_reads (by kernel_rfl) (.int .u64 (h : Int)) (by go_simp) ?_
            simp only [Act.put, List.setIfInBounds_toArray, List.set_cons_zero, List.set_cons_succ]
            clear lx
            have bh0 : (0 : Int) ≤ (h : Int) := by omega
            have bp0 : (0 : Int) ≤ (p : Int) := by omega
            have hwp : IntKind.u64.wrap (p : Int) = (p : Int) := by rw [IntKind.wrap_u64]; have := hp.out; omega
            have bs0 : (0 : Int) ≤ (s : Int) := by omega
            have hws : IntKind.u64.wrap (s : Int) = (s : Int) := by rw [IntKind.wrap_u64]; have := hp.out; have := hs.out; omega
            go_upto_region 13 with (fail)
            refine wp_region_lit ?_
            refine wpList_reads (by kernel_rfl) (.slice (some ⟨G, 0, none⟩) 34 34) (by go_simp) ?_
            simp only [Act.put, List.setIfInBounds_toArray, List.set_cons_zero, List.set_cons_succ]
            refine wpList_reads (by kernel_rfl) (.int .i64 (i : Int)) (by go_simp) ?_
            simp only [Act.put, List.setIfInBounds_toArray, List.set_cons_zero, List.set_cons_succ]
            refine wpList_reads (by kernel_rfl) (.int .i64 (j : Int)) (by go_simp) ?_
            simp only [Act.put, List.setIfInBounds_toArray, List.set_cons_zero, List.set_cons_succ]
            refine wpList_reads (by kernel_rfl) (.slice (some ⟨G, 0, none⟩) 34 34) (by go_simp) ?_
            simp only [Act.put, List.setIfInBounds_toArray, List.set_cons_zero, List.set_cons_succ]
            refine wpList_reads (by kernel_rfl) (.int .i64 (i : Int)) (by go_simp) ?_
            simp only [Act.put, List.setIfInBounds_toArray, List.set_cons_zero, List.set_cons_succ]
            refine wpList_reads (by kernel_rfl) (.int .i64 (j : Int)) (by go_simp) ?_
            simp only [Act.put, List.setIfInBounds_toArray, List.set_cons_zero, List.set_cons_succ]
            refine wpList_reads (by kernel_rfl) (.pointer (some ⟨G, j, none⟩)) (by go_simp) ?_
            simp only [Act.put, List.setIfInBounds_toArray, List.set_cons_zero, List.set_cons_succ]
            refine wpList_reads (by kernel_rfl) (.int .u64 (y : Int)) (run_load_op rfl rfl ly) ?_
            simp only [Act.put, List.setIfInBounds_toArray, List.set_cons_zero, List.set_cons_succ]
            refine wpList_reads (by kernel_rfl) (.int .u64 (h : Int)) (by go_simp) ?_
            simp only [Act.put, List.setIfInBounds_toArray, List.set_cons_zero, List.set_cons_succ]
            refine wpList_reads (by kernel_rfl) (.int .u64 (p : Int)) (by go_simp) ?_
            simp only [Act.put, List.setIfInBounds_toArray, List.set_cons_zero, List.set_cons_succ]
            refine wpList_reads (by kernel_rfl) (.int .u64 (s : Int)) (by go_simp) ?_
            simp only [Act.put, List.setIfInBounds_toArray, List.set_cons_zero, List.set_cons_succ]
            refine wpList_reads (by kernel_rfl) (.pointer (some ⟨G, j, none⟩)) (by go_simp) ?_
            simp only [Act.put, List.setIfInBounds_toArray, List.set_cons_zero, List.set_cons_succ]
            refine wpList_store_to rfl _ _ _ rfl _ _ _ rfl rfl _ st6 ?_
            simp only [Act.put, List.setIfInBounds_toArray, List.set_cons_zero, List.set_cons_succ]
            clear st6 ly
            go_wp2
            go_roundw
            case measure => have := hi.out; simp [intOf]; omega
            case rel => exact ⟨j + 1, by omega, by rw [show i1 = 16 + (j + 1) by have := hi1.out; have := hi.out; omega], mf.out, y6.out⟩
          · have hdn : decide ((i1 : Int) < 34) = false := by rw [decide_eq_false_iff_not]; omega
            have hh' : h = q := by rw [hh.out]; unfold hiV; rw [if_neg (by rw [← hi1.out]; exact hn), hq.out, hd.out, Nat.add_zero]
            have hqb : q ≤ 255 := by have := hq.out; omega
            subst hh'
            have hhb : h ≤ 600 := by omega
            clear hh MR
            have bh0 : (0 : Int) ≤ (h : Int) := by omega
            have bp0 : (0 : Int) ≤ (p : Int) := by omega
            have hwp : IntKind.u64.wrap (p : Int) = (p : Int) := by rw [IntKind.wrap_u64]; have := hp.out; omega
            have bs0 : (0 : Int) ≤ (s : Int) := by omega
            have hws : IntKind.u64.wrap (s : Int) = (s : Int) := by rw [IntKind.wrap_u64]; have := hp.out; have := hs.out; omega
            go_upto_region 13 with (fail)
            refine wp_region_lit ?_
            refine wpList_reads (by kernel_rfl) (.slice (some ⟨G, 0, none⟩) 34 34) (by go_simp) ?_
            simp only [Act.put, List.setIfInBounds_toArray, List.set_cons_zero, List.set_cons_succ]
            refine wpList_reads (by kernel_rfl) (.int .i64 (i : Int)) (by go_simp) ?_
            simp only [Act.put, List.setIfInBounds_toArray, List.set_cons_zero, List.set_cons_succ]
            refine wpList_reads (by kernel_rfl) (.int .i64 (j : Int)) (by go_simp) ?_
            simp only [Act.put, List.setIfInBounds_toArray, List.set_cons_zero, List.set_cons_succ]
            refine wpList_reads (by kernel_rfl) (.slice (some ⟨G, 0, none⟩) 34 34) (by go_simp) ?_
            simp only [Act.put, List.setIfInBounds_toArray, List.set_cons_zero, List.set_cons_succ]
            refine wpList_reads (by kernel_rfl) (.int .i64 (i : Int)) (by go_simp) ?_
            simp only [Act.put, List.setIfInBounds_toArray, List.set_cons_zero, List.set_cons_succ]
            refine wpList_reads (by kernel_rfl) (.int .i64 (j : Int)) (by go_simp) ?_
            simp only [Act.put, List.setIfInBounds_toArray, List.set_cons_zero, List.set_cons_succ]
            refine wpList_reads (by kernel_rfl) (.pointer (some ⟨G, j, none⟩)) (by go_simp) ?_
            simp only [Act.put, List.setIfInBounds_toArray, List.set_cons_zero, List.set_cons_succ]
            refine wpList_reads (by kernel_rfl) (.int .u64 (y : Int)) (run_load_op rfl rfl ly) ?_
            simp only [Act.put, List.setIfInBounds_toArray, List.set_cons_zero, List.set_cons_succ]
            refine wpList_reads (by kernel_rfl) (.int .u64 (h : Int)) (by go_simp) ?_
            simp only [Act.put, List.setIfInBounds_toArray, List.set_cons_zero, List.set_cons_succ]
            refine wpList_reads (by kernel_rfl) (.int .u64 (p : Int)) (by go_simp) ?_
            simp only [Act.put, List.setIfInBounds_toArray, List.set_cons_zero, List.set_cons_succ]
            refine wpList_reads (by kernel_rfl) (.int .u64 (s : Int)) (by go_simp) ?_
            simp only [Act.put, List.setIfInBounds_toArray, List.set_cons_zero, List.set_cons_succ]
            refine wpList_reads (by kernel_rfl) (.pointer (some ⟨G, j, none⟩)) (by go_simp) ?_
            simp only [Act.put, List.setIfInBounds_toArray, List.set_cons_zero, List.set_cons_succ]
            refine wpList_store_to rfl _ _ _ rfl _ _ _ rfl rfl _ st6 ?_
            simp only [Act.put, List.setIfInBounds_toArray, List.set_cons_zero, List.set_cons_succ]
            clear st6 ly
            go_wp2
            go_roundw
            case measure => have := hi.out; simp [intOf]; omega
            case rel => exact ⟨j + 1, by omega, by rw [show i1 = 16 + (j + 1) by have := hi1.out; have := hi.out; omega], mf.out, y6.out⟩
        · have hj18 : 18 = j := by omega
          subst hj18
          obtain ⟨wB, rfl⟩ : ∃ x : World, x = wr := ⟨_, rfl⟩
          have hdi : decide ((i : Int) < 34) = false := by rw [decide_eq_false_iff_not]; omega
          have hv := fold_val a ha.out ha8.out
          have hple := foldTo_le a ha8.out 18
          have hpl := foldTo_length a ha.out 18
          replace hi := Lib.hid hi
          have mB := MR
          replace hv := Lib.hid hv
          replace hple := Lib.hid hple
          replace mB := Lib.hid mB
          replace yr := Lib.hid yr
          replace hpl := Lib.hid hpl
          clear mr hlt MR
          go_upto_region 14 with (fail)
          refine wp_region_lit ?_
          refine wpList_reads (by kernel_rfl) (.slice (some ⟨G, 0, none⟩) 34 34) (by go_simp) ?_
          simp only [Act.put, List.setIfInBounds_toArray, List.set_cons_zero, List.set_cons_succ]
          refine wpList_enter (by kernel_rfl) 126 #[.slice (some ⟨G, 0, none⟩) 34 34, .int .i64 34] (by go_simp) (carried34 G 0 34 (foldTo a 18) hpl.out (fun d hd => by have := hple.out d hd; omega) wB yr.out.numR) ?_
          rintro e w9 ⟨m9, g', c', hg', rfl, own9⟩
          rw [hv.out] at own9
          have mf := mB.out.trans m9
          have hgf : w.heap.size ≤ g' := Nat.le_trans mB.out.size hg'
          have of := ownsRow_base0 own9 mB.out.size
          replace mf := Lib.hid mf
          replace hgf := Lib.hid hgf
          replace of := Lib.hid of
          clear m9 own9 hg'
          refine ⟨_, rfl, ?_⟩
          simp only [Act.put, List.setIfInBounds_toArray, List.set_cons_zero, List.set_cons_succ]
          refine wpList_reads (by kernel_rfl) (.slice (some ⟨g', 0, none⟩) 34 c') (by go_simp) ?_
          simp only [Act.put, List.setIfInBounds_toArray, List.set_cons_zero, List.set_cons_succ]
          go_wp2
          go_ret
          exact ⟨mf.out, g', c', hgf.out, rfl, of.out⟩
end Go.Proofs.YtbiijcljpgannaaGreatDoor
