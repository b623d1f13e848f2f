/-
  mailcoachref03.pad: a key's pad. Printed by gen/ref5.py.
-/
import Derived.Test.YtppjnkgmbmhlcaaGreatDoorR4
namespace Go.Proofs.YtppjnkgmbmhlcaaGreatDoor
set_option maxRecDepth 100000
open Go Go.RowKit Go.Lib
set_option linter.unusedSimpArgs false
set_option linter.unusedVariables false

theorem pad_step (k : List (BitVec 8)) (x : BitVec 8) (i : Nat) (hi : i < 64) : (xorAll (keyS k) x).take (i + 1) = (xorAll (keyS k) x).take i ++ [(if i < (shortS k).length then (shortS k).getD i 0 ^^^ x else x)] := by
  have hl := keyS_length k
  have hs := shortS_length k
  rw [List.take_add_one, List.getElem?_eq_getElem (by simp [xorAll, hl, hi])]
  congr 1
  simp only [xorAll, List.getElem_map, Option.toList_some]
  congr 1
  unfold keyS
  by_cases h : i < (shortS k).length
  · rw [if_pos h, List.getElem_append_left h]
    simp [h]
  · rw [if_neg h, List.getElem_append_right (by omega)]
    simp only [zb, List.getElem_drop, List.getElem_replicate]
    simp

set_option maxRecDepth 100000 in
set_option maxHeartbeats 4000000 in
theorem refpad_any (vk : Value) (k : List (BitVec 8)) (x : BitVec 8) (w : World) (hk : ByteAt w vk k) (hkl : k.length ≤ 1048576) :
    Calls Tryz.prog 135 #[vk, .int .u8 (x.toNat : Int)] w fun e w' => Mod (fun _ => False) w w' ∧ ∃ v, e = .returned v ∧ w'.ownsRow w.heap.size 5 1 v 64 (bytesV (xorAll (keyS k) x)) := by
  obtain ⟨ak, ck, rfl, _⟩ := hk.slice
  obtain ⟨m, hm⟩ : ∃ m, m = k.length := ⟨_, rfl⟩
  rw [← hm] at hk hkl ⊢
  have bm0 : (0 : Int) ≤ (m : Int) := by omega
  have hsl := shortS_length k
  have hst := pad_step k x
  obtain ⟨SS, hSS⟩ : ∃ s, s = shortS k := ⟨_, rfl⟩
  obtain ⟨X, hX⟩ : ∃ X, X = xorAll (keyS k) x := ⟨_, rfl⟩
  have hXl : X.length = 64 := by rw [hX, xorAll, List.length_map, keyS_length]
  rw [← hX, ← hSS] at hst
  rw [← hSS] at hsl
  rw [← hX]
  obtain ⟨sl, hs⟩ : ∃ s, s = SS.length := ⟨_, rfl⟩
  rw [← hs] at hsl hst
  have bs0 : (0 : Int) ≤ (sl : Int) := by omega
  have bs : (sl : Int) ≤ 64 := by omega
  replace hm := Lib.hid hm
  replace hk := Lib.hid hk
  replace hs := Lib.hid hs
  replace hSS := Lib.hid hSS
  replace hX := Lib.hid hX
  replace hXl := Lib.hid hXl
  replace hst := Lib.hid hst
  go_enter Tryz.func135, Tryz.ntmps135
  by_cases h64 : 64 < m
  · have hd : decide ((64 : Int) < (m : Int)) = true := by rw [decide_eq_true_iff]; omega
    have hsh : SS = shaS k := by rw [hSS.out]; unfold shortS; rw [if_pos (by rw [← hm.out]; exact h64)]
    replace hsh := Lib.hid hsh
    clear h64
    go_upto_region 3 with (fail)
    refine wp_region_lit ?_
    refine wpList_reads (by kernel_rfl) (.slice ak m ck) (by go_simp) ?_
    simp only [Act.put, List.setIfInBounds_toArray, List.set_cons_zero, List.set_cons_succ]
    refine wpList_enter (by kernel_rfl) 72 #[.slice ak m ck] (by go_simp) (refSum_any _ k w hk.out (by rw [← hm.out]; omega)) ?_
    rintro e w1 ⟨m1, rfl⟩
    rw [show sumV k = .tuple #[.agg (encB (shaS k)), .int .i64 0] by unfold sumV; rw [if_neg (by rw [← hm.out]; omega)]]
    obtain ⟨RR, hR⟩ : ∃ R, R = shaS k := ⟨_, rfl⟩
    have hRl : RR.length = 32 := by rw [hR]; exact shaS_length _
    rw [← hR]
    obtain ⟨w2, hw2⟩ : ∃ x, x = w1.alloc (.cells (encB (zb 32)) 62) := ⟨_, rfl⟩
    obtain ⟨g2, hg2⟩ : ∃ g, g = w1.heap.size := ⟨_, rfl⟩
    have m2 : Mod (fun _ => False) w1 w2 := by rw [hw2]; exact (Mod.refl _ _).alloc _
    have x2 : w2.heap[g2]? = some (.cells (encB (zb 32)) 62 (0,0)) := by rw [hw2]; exact hp_new _ _ _ hg2
    obtain ⟨w3, s3, n3, x3⟩ := bytes_store x2 (s' := RR) (by decide) hRl
    have m3 : Mod (fun _ => False) w w3 := (m1.trans m2).trans' n3 (fun k hk h => by have := m1.size; omega)
    have b3 := ByteAt.row x3
    have hsR : SS = RR := by rw [hsh.out, hR]
    have s32 : sl = 32 := by rw [hs.out, hsR, hRl]
    rw [hRl] at b3
    have b4 : ByteAt w3 (.slice (some ⟨g2, 0, none⟩) sl 32) SS := by rw [hsR, s32]; exact b3
    replace hR := Lib.hid hR
    replace hw2 := Lib.hid hw2
    replace hg2 := Lib.hid hg2
    clear m1 m2 x2 n3 x3 b3
    refine ⟨_, rfl, ?_⟩
    simp only [Act.put, List.setIfInBounds_toArray, List.set_cons_zero, List.set_cons_succ]
    refine wpList_reads (by kernel_rfl) (.tuple #[.agg (encB RR), .int .i64 0]) (by go_simp) ?_
    simp only [Act.put, List.setIfInBounds_toArray, List.set_cons_zero, List.set_cons_succ]
    refine wpList_reads (by kernel_rfl) (.agg (encB RR)) (by go_simp) ?_
    simp only [Act.put, List.setIfInBounds_toArray, List.set_cons_zero, List.set_cons_succ]
    refine wpList_reads (by kernel_rfl) (.int .i64 0) (by go_simp) ?_
    simp only [Act.put, List.setIfInBounds_toArray, List.set_cons_zero, List.set_cons_succ]
    refine wpList_yields (by kernel_rfl) _ _ (alloc_arr 62 _ zero32 _ _ _ rfl) ?_
    simp only [Act.put, List.setIfInBounds_toArray, List.set_cons_zero, List.set_cons_succ]
    rw [← hg2.out, ← hw2.out]
    refine wpList_store_to rfl _ _ _ rfl _ _ _ rfl rfl _ s3 ?_
    simp only [Act.put, List.setIfInBounds_toArray, List.set_cons_zero, List.set_cons_succ]
    refine wpList_reads (by kernel_rfl) (.int .i64 0) (by go_simp) ?_
    simp only [Act.put, List.setIfInBounds_toArray, List.set_cons_zero, List.set_cons_succ]
    go_upto_region 4 with (fail)
    refine wp_region_lit ?_
    refine wpList_reads (by kernel_rfl) (.slice (some ⟨g2, 0, none⟩) sl 32) (by rw [s32]; go_simp) ?_
    simp only [Act.put, List.setIfInBounds_toArray, List.set_cons_zero, List.set_cons_succ]
    refine wpList_reads (by kernel_rfl) (.slice (some ⟨g2, 0, none⟩) sl 32) (by go_simp) ?_
    simp only [Act.put, List.setIfInBounds_toArray, List.set_cons_zero, List.set_cons_succ]
    obtain ⟨sa, cs', hvs⟩ : ∃ a c, Value.slice (some ⟨g2, 0, none⟩) sl 32 = .slice a sl c := ⟨_, _, rfl⟩
    rw [hvs] at b4 ⊢
    replace hvs := Lib.hid hvs
    replace s32 := Lib.hid s32
    clear s3 hsR
    replace b4 := Lib.hid b4
    replace m3 := Lib.hid m3
    go_wp2
    go_loopg [8, 9] 64 (fun gh lv iv wr => ∃ i : Nat, i + gh = 64 ∧ iv = .int .i64 (i : Int) ∧ Mod (fun _ => False) w3 wr ∧ wr.ownsRow w3.heap.size 5 1 lv i (bytesV (X.take i)))
    case atStart => exact ⟨0, by omega, rfl, Mod.refl _ _, World.ownsRow_nil _ _ _ _⟩
    case round =>
      obtain ⟨i, hig, rfl, mr, own⟩ := hrel
      obtain ⟨ad, cp, hv, _⟩ := (byteAt_of_own own).slice
      rw [List.length_take, hXl.out, Nat.min_eq_left (by omega)] at hv
      subst hv
      have bi : (i : Int) ≤ 64 := by omega
      have bi0 : (0 : Int) ≤ (i : Int) := by omega
      replace hig := Lib.hid hig
      by_cases hi64 : i < 64
      · have hdi : decide ((i : Int) < 64) = true := by rw [decide_eq_true_iff]; omega
        have bi64 : (i : Int) < 64 := by omega
        have hsi := hst.out i hi64
        by_cases hin : i < sl
        · have hds : decide (i < sl) = true := by rw [decide_eq_true_iff]; exact hin
          rw [if_pos hin] at hsi
          have bin : (i : Int) < (sl : Int) := by omega
          have b4r := b4.out.mod mr (fun _ _ h => h)
          obtain ⟨a5, c5, h5, h6⟩ := b4r.slice
          obtain ⟨g, off, h7, h8, h9⟩ := h6 i (by rw [← hs.out]; exact hin)
          obtain rfl : sa = some ⟨g, off, none⟩ := by injection h5 with h5; rw [h5, h7]
          have hx := bits_xor8 (SS.getD i 0) x
          obtain ⟨y, hy⟩ : ∃ y, y = SS.getD i 0 := ⟨_, rfl⟩
          rw [← hy] at h9 hx hsi
          obtain ⟨u, hu⟩ : ∃ u, u = y ^^^ x := ⟨_, rfl⟩
          rw [← hu] at hx hsi
          replace hy := Lib.hid hy
          replace hu := Lib.hid hu
          replace hsi := Lib.hid hsi
          replace hi64 := Lib.hid hi64
          replace hin := Lib.hid hin
          clear b4r h5 h6 h7 h8 a5 c5
          obtain ⟨wa9, hwa9⟩ : ∃ xx_, xx_ = wr.alloc (.cells #[.int .u8 (u.toNat : Int)] 5) := ⟨_, rfl⟩
          obtain ⟨ga9, hga9⟩ : ∃ g, g = wr.heap.size := ⟨_, rfl⟩
          have ma9 : Mod (fun _ => False) wr wa9 := by rw [hwa9]; exact (Mod.refl _ _).alloc _
          have xa9 : wa9.heap[ga9]? = some (.cells (encB [u]) 5 (0,0)) := by rw [hwa9]; exact hp_new _ _ _ hga9
          have ba9 := ByteAt.row xa9
          have owna9 := ownsRow_kept own ma9 (fun _ _ h => h)
          have mm9 := mr.trans ma9
          replace hwa9 := Lib.hid hwa9
          replace hga9 := Lib.hid hga9
          clear xa9 ma9
          go_upto_region 10 with (fail)
          refine wp_region_lit ?_
          refine wpList_reads (by kernel_rfl) (.slice ad i cp) (by go_simp) ?_
          simp only [Act.put, List.setIfInBounds_toArray, List.set_cons_zero, List.set_cons_succ]
          refine wpList_reads (by kernel_rfl) (.slice (some ⟨g, off, none⟩) sl cs') (by go_simp) ?_
          simp only [Act.put, List.setIfInBounds_toArray, List.set_cons_zero, List.set_cons_succ]
          refine wpList_reads (by kernel_rfl) (.int .i64 (i : Int)) (by go_simp) ?_
          simp only [Act.put, List.setIfInBounds_toArray, List.set_cons_zero, List.set_cons_succ]
          refine wpList_reads (by kernel_rfl) (.pointer (some ⟨g, off + i, none⟩)) (by go_simp) ?_
          simp only [Act.put, List.setIfInBounds_toArray, List.set_cons_zero, List.set_cons_succ]
          refine wpList_reads (by kernel_rfl) (.int .u8 (y.toNat : Int)) (by go_simp) ?_
          simp only [Act.put, List.setIfInBounds_toArray, List.set_cons_zero, List.set_cons_succ]
          refine wpList_reads (by kernel_rfl) (.int .u8 (x.toNat : Int)) (by go_simp) ?_
          simp only [Act.put, List.setIfInBounds_toArray, List.set_cons_zero, List.set_cons_succ]
          refine wpList_reads (by kernel_rfl) (.int .u8 (u.toNat : Int)) (by rw [← hx]; go_simp) ?_
          simp only [Act.put, List.setIfInBounds_toArray, List.set_cons_zero, List.set_cons_succ]
          refine wpList_yields (by kernel_rfl) (.slice (some ⟨ga9, 0, none⟩) 1 1) wa9 (by rw [hwa9.out, hga9.out]; go_simp) ?_
          simp only [Act.put, List.setIfInBounds_toArray, List.set_cons_zero, List.set_cons_succ]
          refine wpList_append_bytes rfl _ _ rfl w3.heap.size (i) (.slice ad i cp) (.slice (some ⟨ga9, 0, none⟩) 1 1) (X.take i) [u] rfl rfl owna9 ba9 (by simp; omega) mm9.size ?_
          intro v9 w9 own9 grow9
          have m9 : Mod (fun _ => False) w3 w9 := mm9.trans' ((Mod.refl _ _).grown (S := fun k => w3.heap.size ≤ k) grow9 (fun k hk _ => (owna9.lt k hk).1)) (fun k hk h => by omega)
          rw [show (i) + ([u] : List (BitVec 8)).length = (i) + 1 from rfl] at own9
          clear owna9 grow9 mm9 ba9
          simp only [Act.put, List.setIfInBounds_toArray, List.set_cons_zero, List.set_cons_succ]
          refine wpList_reads (by kernel_rfl) (v9) (by go_simp) ?_
          simp only [Act.put, List.setIfInBounds_toArray, List.set_cons_zero, List.set_cons_succ]
          rw [← hsi.out] at own9
          replace own9 := Lib.hid own9
          replace m9 := Lib.hid m9
          clear own mr
          go_wp2
          go_roundg (gk - 1)
          case measure => have := hig.out; have := hi64.out; omega
          case rel => exact ⟨i + 1, by have := hig.out; have := hi64.out; omega, by go_num, m9.out, own9.out⟩
        · have hds : decide (i < sl) = false := by rw [decide_eq_false_iff_not]; exact hin
          rw [if_neg hin] at hsi
          replace hsi := Lib.hid hsi
          replace hi64 := Lib.hid hi64
          replace hin := Lib.hid hin
          obtain ⟨wa9, hwa9⟩ : ∃ xx_, xx_ = wr.alloc (.cells #[.int .u8 (x.toNat : Int)] 5) := ⟨_, rfl⟩
          obtain ⟨ga9, hga9⟩ : ∃ g, g = wr.heap.size := ⟨_, rfl⟩
          have ma9 : Mod (fun _ => False) wr wa9 := by rw [hwa9]; exact (Mod.refl _ _).alloc _
          have xa9 : wa9.heap[ga9]? = some (.cells (encB [x]) 5 (0,0)) := by rw [hwa9]; exact hp_new _ _ _ hga9
          have ba9 := ByteAt.row xa9
          have owna9 := ownsRow_kept own ma9 (fun _ _ h => h)
          have mm9 := mr.trans ma9
          replace hwa9 := Lib.hid hwa9
          replace hga9 := Lib.hid hga9
          clear xa9 ma9
          go_upto_region 11 with (fail)
          refine wp_region_lit ?_
          refine wpList_reads (by kernel_rfl) (.slice ad i cp) (by go_simp) ?_
          simp only [Act.put, List.setIfInBounds_toArray, List.set_cons_zero, List.set_cons_succ]
          refine wpList_reads (by kernel_rfl) (.int .u8 (x.toNat : Int)) (by go_simp) ?_
          simp only [Act.put, List.setIfInBounds_toArray, List.set_cons_zero, List.set_cons_succ]
          refine wpList_yields (by kernel_rfl) (.slice (some ⟨ga9, 0, none⟩) 1 1) wa9 (by rw [hwa9.out, hga9.out]; go_simp) ?_
          simp only [Act.put, List.setIfInBounds_toArray, List.set_cons_zero, List.set_cons_succ]
          refine wpList_append_bytes rfl _ _ rfl w3.heap.size (i) (.slice ad i cp) (.slice (some ⟨ga9, 0, none⟩) 1 1) (X.take i) [x] rfl rfl owna9 ba9 (by simp; omega) mm9.size ?_
          intro v9 w9 own9 grow9
          have m9 : Mod (fun _ => False) w3 w9 := mm9.trans' ((Mod.refl _ _).grown (S := fun k => w3.heap.size ≤ k) grow9 (fun k hk _ => (owna9.lt k hk).1)) (fun k hk h => by omega)
          rw [show (i) + ([x] : List (BitVec 8)).length = (i) + 1 from rfl] at own9
          clear owna9 grow9 mm9 ba9
          simp only [Act.put, List.setIfInBounds_toArray, List.set_cons_zero, List.set_cons_succ]
          refine wpList_reads (by kernel_rfl) (v9) (by go_simp) ?_
          simp only [Act.put, List.setIfInBounds_toArray, List.set_cons_zero, List.set_cons_succ]
          rw [← hsi.out] at own9
          replace own9 := Lib.hid own9
          replace m9 := Lib.hid m9
          clear own mr
          go_wp2
          go_roundg (gk - 1)
          case measure => have := hig.out; have := hi64.out; omega
          case rel => exact ⟨i + 1, by have := hig.out; have := hi64.out; omega, by go_num, m9.out, own9.out⟩
      · have hi2 : i = 64 := by have := hig.out; omega
        have hdi : decide ((i : Int) < 64) = false := by rw [decide_eq_false_iff_not]; omega
        have own7 : wr.ownsRow w.heap.size 5 1 (.slice ad i cp) 64 (bytesV X) := by
          have h : wr.ownsRow w.heap.size 5 1 (.slice ad i cp) i (bytesV (X.take i)) := ownsRow_base own m3.out.size
          rw [hi2] at h ⊢
          rw [List.take_of_length_le (by rw [hXl.out]; omega)] at h
          exact h
        have mf := m3.out.trans mr
        replace own7 := Lib.hid own7
        replace mf := Lib.hid mf
        replace hi2 := Lib.hid hi2
        clear own mr hi64
        go_wp2
        go_ret
        exact ⟨mf.out, _, rfl, own7.out⟩
  · have hd : decide ((64 : Int) < (m : Int)) = false := by rw [decide_eq_false_iff_not]; omega
    have hsh : SS = k := by rw [hSS.out]; unfold shortS; rw [if_neg (by rw [← hm.out]; exact h64)]
    replace hsh := Lib.hid hsh
    clear h64
    have m3 : Mod (fun _ => False) w w := Mod.refl _ _
    have hsm : sl = m := by rw [hs.out, hsh.out, hm.out]
    have b4 : ByteAt w (.slice ak sl ck) SS := by rw [hsh.out, hsm]; exact hk.out
    go_upto_region 1 with (fail)
    refine wp_region_lit ?_
    refine wpList_reads (by kernel_rfl) (.slice ak sl ck) (by rw [hsm]; go_simp) ?_
    simp only [Act.put, List.setIfInBounds_toArray, List.set_cons_zero, List.set_cons_succ]
    refine wpList_reads (by kernel_rfl) (.slice ak sl ck) (by go_simp) ?_
    simp only [Act.put, List.setIfInBounds_toArray, List.set_cons_zero, List.set_cons_succ]
    go_upto_region 5 with (fail)
    obtain ⟨sa, cs', hvs⟩ : ∃ a c, Value.slice ak sl ck = .slice a sl c := ⟨_, _, rfl⟩
    rw [hvs] at b4 ⊢
    replace hvs := Lib.hid hvs
    replace hsm := Lib.hid hsm
    replace b4 := Lib.hid b4
    replace m3 := Lib.hid m3
    go_wp2
    go_loopg [8, 9] 64 (fun gh lv iv wr => ∃ i : Nat, i + gh = 64 ∧ iv = .int .i64 (i : Int) ∧ Mod (fun _ => False) w wr ∧ wr.ownsRow w.heap.size 5 1 lv i (bytesV (X.take i)))
    case atStart => exact ⟨0, by omega, rfl, Mod.refl _ _, World.ownsRow_nil _ _ _ _⟩
    case round =>
      obtain ⟨i, hig, rfl, mr, own⟩ := hrel
      obtain ⟨ad, cp, hv, _⟩ := (byteAt_of_own own).slice
      rw [List.length_take, hXl.out, Nat.min_eq_left (by omega)] at hv
      subst hv
      have bi : (i : Int) ≤ 64 := by omega
      have bi0 : (0 : Int) ≤ (i : Int) := by omega
      replace hig := Lib.hid hig
      by_cases hi64 : i < 64
      · have hdi : decide ((i : Int) < 64) = true := by rw [decide_eq_true_iff]; omega
        have bi64 : (i : Int) < 64 := by omega
        have hsi := hst.out i hi64
        by_cases hin : i < sl
        · have hds : decide (i < sl) = true := by rw [decide_eq_true_iff]; exact hin
          rw [if_pos hin] at hsi
          have bin : (i : Int) < (sl : Int) := by omega
          have b4r := b4.out.mod mr (fun _ _ h => h)
          obtain ⟨a5, c5, h5, h6⟩ := b4r.slice
          obtain ⟨g, off, h7, h8, h9⟩ := h6 i (by rw [← hs.out]; exact hin)
          obtain rfl : sa = some ⟨g, off, none⟩ := by injection h5 with h5; rw [h5, h7]
          have hx := bits_xor8 (SS.getD i 0) x
          obtain ⟨y, hy⟩ : ∃ y, y = SS.getD i 0 := ⟨_, rfl⟩
          rw [← hy] at h9 hx hsi
          obtain ⟨u, hu⟩ : ∃ u, u = y ^^^ x := ⟨_, rfl⟩
          rw [← hu] at hx hsi
          replace hy := Lib.hid hy
          replace hu := Lib.hid hu
          replace hsi := Lib.hid hsi
          replace hi64 := Lib.hid hi64
          replace hin := Lib.hid hin
          clear b4r h5 h6 h7 h8 a5 c5
          obtain ⟨wa9, hwa9⟩ : ∃ xx_, xx_ = wr.alloc (.cells #[.int .u8 (u.toNat : Int)] 5) := ⟨_, rfl⟩
          obtain ⟨ga9, hga9⟩ : ∃ g, g = wr.heap.size := ⟨_, rfl⟩
          have ma9 : Mod (fun _ => False) wr wa9 := by rw [hwa9]; exact (Mod.refl _ _).alloc _
          have xa9 : wa9.heap[ga9]? = some (.cells (encB [u]) 5 (0,0)) := by rw [hwa9]; exact hp_new _ _ _ hga9
          have ba9 := ByteAt.row xa9
          have owna9 := ownsRow_kept own ma9 (fun _ _ h => h)
          have mm9 := mr.trans ma9
          replace hwa9 := Lib.hid hwa9
          replace hga9 := Lib.hid hga9
          clear xa9 ma9
          go_upto_region 10 with (fail)
          refine wp_region_lit ?_
          refine wpList_reads (by kernel_rfl) (.slice ad i cp) (by go_simp) ?_
          simp only [Act.put, List.setIfInBounds_toArray, List.set_cons_zero, List.set_cons_succ]
          refine wpList_reads (by kernel_rfl) (.slice (some ⟨g, off, none⟩) sl cs') (by go_simp) ?_
          simp only [Act.put, List.setIfInBounds_toArray, List.set_cons_zero, List.set_cons_succ]
          refine wpList_reads (by kernel_rfl) (.int .i64 (i : Int)) (by go_simp) ?_
          simp only [Act.put, List.setIfInBounds_toArray, List.set_cons_zero, List.set_cons_succ]
          refine wpList_reads (by kernel_rfl) (.pointer (some ⟨g, off + i, none⟩)) (by go_simp) ?_
          simp only [Act.put, List.setIfInBounds_toArray, List.set_cons_zero, List.set_cons_succ]
          refine wpList_reads (by kernel_rfl) (.int .u8 (y.toNat : Int)) (by go_simp) ?_
          simp only [Act.put, List.setIfInBounds_toArray, List.set_cons_zero, List.set_cons_succ]
          refine wpList_reads (by kernel_rfl) (.int .u8 (x.toNat : Int)) (by go_simp) ?_
          simp only [Act.put, List.setIfInBounds_toArray, List.set_cons_zero, List.set_cons_succ]
          refine wpList_reads (by kernel_rfl) (.int .u8 (u.toNat : Int)) (by rw [← hx]; go_simp) ?_
          simp only [Act.put, List.setIfInBounds_toArray, List.set_cons_zero, List.set_cons_succ]
          refine wpList_yields (by kernel_rfl) (.slice (some ⟨ga9, 0, none⟩) 1 1) wa9 (by rw [hwa9.out, hga9.out]; go_simp) ?_
          simp only [Act.put, List.setIfInBounds_toArray, List.set_cons_zero, List.set_cons_succ]
          refine wpList_append_bytes rfl _ _ rfl w.heap.size (i) (.slice ad i cp) (.slice (some ⟨ga9, 0, none⟩) 1 1) (X.take i) [u] rfl rfl owna9 ba9 (by simp; omega) mm9.size ?_
          intro v9 w9 own9 grow9
          have m9 : Mod (fun _ => False) w w9 := mm9.trans' ((Mod.refl _ _).grown (S := fun k => w.heap.size ≤ k) grow9 (fun k hk _ => (owna9.lt k hk).1)) (fun k hk h => by omega)
          rw [show (i) + ([u] : List (BitVec 8)).length = (i) + 1 from rfl] at own9
          clear owna9 grow9 mm9 ba9
          simp only [Act.put, List.setIfInBounds_toArray, List.set_cons_zero, List.set_cons_succ]
          refine wpList_reads (by kernel_rfl) (v9) (by go_simp) ?_
          simp only [Act.put, List.setIfInBounds_toArray, List.set_cons_zero, List.set_cons_succ]
          rw [← hsi.out] at own9
          replace own9 := Lib.hid own9
          replace m9 := Lib.hid m9
          clear own mr
          go_wp2
          go_roundg (gk - 1)
          case measure => have := hig.out; have := hi64.out; omega
          case rel => exact ⟨i + 1, by have := hig.out; have := hi64.out; omega, by go_num, m9.out, own9.out⟩
        · have hds : decide (i < sl) = false := by rw [decide_eq_false_iff_not]; exact hin
          rw [if_neg hin] at hsi
          replace hsi := Lib.hid hsi
          replace hi64 := Lib.hid hi64
          replace hin := Lib.hid hin
          obtain ⟨wa9, hwa9⟩ : ∃ xx_, xx_ = wr.alloc (.cells #[.int .u8 (x.toNat : Int)] 5) := ⟨_, rfl⟩
          obtain ⟨ga9, hga9⟩ : ∃ g, g = wr.heap.size := ⟨_, rfl⟩
          have ma9 : Mod (fun _ => False) wr wa9 := by rw [hwa9]; exact (Mod.refl _ _).alloc _
          have xa9 : wa9.heap[ga9]? = some (.cells (encB [x]) 5 (0,0)) := by rw [hwa9]; exact hp_new _ _ _ hga9
          have ba9 := ByteAt.row xa9
          have owna9 := ownsRow_kept own ma9 (fun _ _ h => h)
          have mm9 := mr.trans ma9
          replace hwa9 := Lib.hid hwa9
          replace hga9 := Lib.hid hga9
          clear xa9 ma9
          go_upto_region 11 with (fail)
          refine wp_region_lit ?_
          refine wpList_reads (by kernel_rfl) (.slice ad i cp) (by go_simp) ?_
          simp only [Act.put, List.setIfInBounds_toArray, List.set_cons_zero, List.set_cons_succ]
          refine wpList_reads (by kernel_rfl) (.int .u8 (x.toNat : Int)) (by go_simp) ?_
          simp only [Act.put, List.setIfInBounds_toArray, List.set_cons_zero, List.set_cons_succ]
          refine wpList_yields (by kernel_rfl) (.slice (some ⟨ga9, 0, none⟩) 1 1) wa9 (by rw [hwa9.out, hga9.out]; go_simp) ?_
          simp only [Act.put, List.setIfInBounds_toArray, List.set_cons_zero, List.set_cons_succ]
          refine wpList_append_bytes rfl _ _ rfl w.heap.size (i) (.slice ad i cp) (.slice (some ⟨ga9, 0, none⟩) 1 1) (X.take i) [x] rfl rfl owna9 ba9 (by simp; omega) mm9.size ?_
          intro v9 w9 own9 grow9
          have m9 : Mod (fun _ => False) w w9 := mm9.trans' ((Mod.refl _ _).grown (S := fun k => w.heap.size ≤ k) grow9 (fun k hk _ => (owna9.lt k hk).1)) (fun k hk h => by omega)
          rw [show (i) + ([x] : List (BitVec 8)).length = (i) + 1 from rfl] at own9
          clear owna9 grow9 mm9 ba9
          simp only [Act.put, List.setIfInBounds_toArray, List.set_cons_zero, List.set_cons_succ]
          refine wpList_reads (by kernel_rfl) (v9) (by go_simp) ?_
          simp only [Act.put, List.setIfInBounds_toArray, List.set_cons_zero, List.set_cons_succ]
          rw [← hsi.out] at own9
          replace own9 := Lib.hid own9
          replace m9 := Lib.hid m9
          clear own mr
          go_wp2
          go_roundg (gk - 1)
          case measure => have := hig.out; have := hi64.out; omega
          case rel => exact ⟨i + 1, by have := hig.out; have := hi64.out; omega, by go_num, m9.out, own9.out⟩
      · have hi2 : i = 64 := by have := hig.out; omega
        have hdi : decide ((i : Int) < 64) = false := by rw [decide_eq_false_iff_not]; omega
        have own7 : wr.ownsRow w.heap.size 5 1 (.slice ad i cp) 64 (bytesV X) := by
          have h : wr.ownsRow w.heap.size 5 1 (.slice ad i cp) i (bytesV (X.take i)) := ownsRow_base own m3.out.size
          rw [hi2] at h ⊢
          rw [List.take_of_length_le (by rw [hXl.out]; omega)] at h
          exact h
        have mf := m3.out.trans mr
        replace own7 := Lib.hid own7
        replace mf := Lib.hid mf
        replace hi2 := Lib.hid hi2
        clear own mr hi64
        go_wp2
        go_ret
        exact ⟨mf.out, _, rfl, own7.out⟩
end Go.Proofs.YtppjnkgmbmhlcaaGreatDoor
