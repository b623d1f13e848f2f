/-
  mailcoachlaw03.pad: a key's pad. Printed by gen/hkB.py.
-/
import Derived.Test.YthhbomiknikjpaaKA
namespace Go.Proofs.Ythhbomiknikjpaa
open Go Go.RowKit Go.Lib
set_option linter.unusedSimpArgs false
set_option linter.unusedVariables false

theorem keyS_take (k : List (BitVec 8)) (n : Nat) (h1 : (shortS k).length ≤ n) (h2 : n < 64) : (keyS k).take (n + 1) = (keyS k).take n ++ [0] := by
  have hl := keyS_length k
  rw [List.take_add_one, List.getElem?_eq_getElem (by omega)]
  congr 1
  have : (keyS k)[n]'(by omega) = 0 := by
    simp only [keyS]
    rw [List.getElem_append_right h1]
    simp only [zb, List.getElem_drop, List.getElem_replicate]
  rw [this]
  rfl
theorem keyS_take0 (k : List (BitVec 8)) : (keyS k).take (shortS k).length = shortS k := by
  unfold keyS
  rw [List.take_left']
  rfl
theorem bytesV_set (l : List (BitVec 8)) (i : Nat) (x : BitVec 8) : (bytesV l).set i (.int .u8 (x.toNat : Int)) = bytesV (l.set i x) := by
  simp [bytesV, List.map_set]
theorem bytesV_at (l : List (BitVec 8)) (i : Nat) (h : i < l.length) : (bytesV l)[i]? = some (.int .u8 ((l.getD i 0).toNat : Int)) := by
  simp [bytesV, h]

set_option maxRecDepth 100000 in
set_option maxHeartbeats 4000000 in
theorem pad_any (vk : Value) (k : List (BitVec 8)) (x : BitVec 8) (w : World) (hk : ByteAt w vk k) (hkl : k.length ≤ 1048576) :
    Calls Try.prog 16 #[vk, .int .u8 (x.toNat : Int)] w fun e w' => Mod (fun _ => False) w w' ∧ ∃ v, e = .returned v ∧ w'.ownsRow w.heap.size 5 1 v 64 (bytesV (xorAll (keyS k) x)) := by
  obtain ⟨ak, ck, rfl, _⟩ := hk.slice
  obtain ⟨m, hm⟩ : ∃ m, m = k.length := ⟨_, rfl⟩
  rw [← hm] at hk hkl ⊢
  have bm0 : (0 : Int) ≤ (m : Int) := by omega
  have hsl := shortS_length k
  have hKl := keyS_length k
  have ht := keyS_take k
  have ht0 := keyS_take0 k
  obtain ⟨sl, hs⟩ : ∃ s, s = (shortS k).length := ⟨_, rfl⟩
  rw [← hs] at hsl ht ht0
  obtain ⟨K, hK⟩ : ∃ K, K = keyS k := ⟨_, rfl⟩
  rw [← hK] at hKl ht ht0 ⊢
  -- what stands behind the first append
  obtain ⟨J, hJ⟩ : ∃ J : Value → World → Prop, J = fun v wr => Mod (fun _ => False) w wr ∧ wr.ownsRow w.heap.size 5 1 v sl (bytesV (K.take sl)) := ⟨_, rfl⟩
  replace hm := Lib.hid hm
  replace hk := Lib.hid hk
  replace hs := Lib.hid hs
  replace hK := Lib.hid hK
  replace ht := Lib.hid ht
  replace ht0 := Lib.hid ht0
  replace hJ := Lib.hid hJ
  go_enter Try.func16, Try.ntmps16
  by_cases h64 : 64 < m
  · have hd : decide ((64 : Int) < (m : Int)) = true := by rw [decide_eq_true_iff]; omega
    have hsh : shortS k = shaS k := by unfold shortS; rw [if_pos (by rw [← hm.out]; exact h64)]
    replace hsh := Lib.hid hsh
    clear h64
    go_upto_region 3 with (fail)
    refine wp_region_lit ?_
    refine wpList_reads (by kernel_rfl) (.slice ak m ck) (by go_simp) ?_
    simp only [Act.put, List.setIfInBounds_toArray, List.set_cons_zero, List.set_cons_succ]
    refine wpList_enter (by kernel_rfl) 15 #[.slice ak m ck] (by go_simp) (sum_any _ k w hk.out (by rw [← hm.out]; omega)) ?_
    rintro e w1 ⟨m1, rfl⟩
    rw [show sumV k = .tuple #[.agg (encB (shaS k)), .int .i64 0] by unfold sumV; rw [if_neg (by rw [← hm.out]; omega)]]
    obtain ⟨RR, hR⟩ : ∃ R, R = shaS k := ⟨_, rfl⟩
    have hRl : RR.length = 32 := by rw [hR]; exact shaS_length _
    rw [← hR]
    obtain ⟨w2, hw2⟩ : ∃ x, x = w1.alloc (.cells (encB (zb 32)) 25) := ⟨_, rfl⟩
    obtain ⟨g2, hg2⟩ : ∃ g, g = w1.heap.size := ⟨_, rfl⟩
    have m2 : Mod (fun _ => False) w1 w2 := by rw [hw2]; exact (Mod.refl _ _).alloc _
    have x2 : w2.heap[g2]? = some (.cells (encB (zb 32)) 25 (0,0)) := by rw [hw2]; exact hp_new _ _ _ hg2
    obtain ⟨w3, s3, n3, x3⟩ := bytes_store x2 (s' := RR) (by decide) hRl
    have m3 : Mod (fun _ => False) w w3 := (m1.trans m2).trans' n3 (fun k hk h => by have := m1.size; omega)
    have b3 := ByteAt.row x3
    rw [hRl] at b3
    have s32 : sl = 32 := by rw [hs.out, hsh.out, ← hR, hRl]
    have hT : K.take sl = RR := by rw [ht0.out, hsh.out, hR]
    replace b3 := Lib.hid b3
    replace m3 := Lib.hid m3
    replace hR := Lib.hid hR
    replace hT := Lib.hid hT
    replace hg2 := Lib.hid hg2
    replace hw2 := Lib.hid hw2
    replace s32 := Lib.hid s32
    clear m1 m2 x2 n3 x3
    refine ⟨_, rfl, ?_⟩
    simp only [Act.put, List.setIfInBounds_toArray, List.set_cons_zero, List.set_cons_succ]
    refine wpList_reads (by kernel_rfl) (.tuple #[.agg (encB RR), .int .i64 0]) (by go_simp) ?_
    simp only [Act.put, List.setIfInBounds_toArray, List.set_cons_zero, List.set_cons_succ]
    refine wpList_reads (by kernel_rfl) (.agg (encB RR)) (by go_simp) ?_
    simp only [Act.put, List.setIfInBounds_toArray, List.set_cons_zero, List.set_cons_succ]
    refine wpList_reads (by kernel_rfl) (.int .i64 0) (by go_simp) ?_
    simp only [Act.put, List.setIfInBounds_toArray, List.set_cons_zero, List.set_cons_succ]
    refine wpList_yields (by kernel_rfl) _ _ (alloc_arr 25 _ zero32 _ _ _ rfl) ?_
    simp only [Act.put, List.setIfInBounds_toArray, List.set_cons_zero, List.set_cons_succ]
    rw [← hg2.out, ← hw2.out]
    refine wpList_store_to rfl _ _ _ rfl _ _ _ rfl rfl _ s3 ?_
    simp only [Act.put, List.setIfInBounds_toArray, List.set_cons_zero, List.set_cons_succ]
    refine wpList_reads (by kernel_rfl) (.int .i64 0) (by go_simp) ?_
    simp only [Act.put, List.setIfInBounds_toArray, List.set_cons_zero, List.set_cons_succ]
    go_upto_region 4 with (fail)
    refine wp_region_lit ?_
    refine wpList_reads (by kernel_rfl) (.slice none 0 0) (by go_simp) ?_
    simp only [Act.put, List.setIfInBounds_toArray, List.set_cons_zero, List.set_cons_succ]
    refine wpList_reads (by kernel_rfl) (.slice (some ⟨g2, 0, none⟩) 32 32) (by go_simp) ?_
    simp only [Act.put, List.setIfInBounds_toArray, List.set_cons_zero, List.set_cons_succ]
    refine wpList_append_bytes rfl _ _ rfl w.heap.size 0 (.slice none 0 0) (.slice (some ⟨g2, 0, none⟩) 32 32) [] RR rfl rfl (World.ownsRow_nil _ _ _ _) b3.out (by omega) m3.out.size ?_
    intro v w4 own4 grow4
    have m4 : Mod (fun _ => False) w w4 := m3.out.trans ((Mod.refl _ _).grown grow4 (fun k hk _ => by cases hk))
    have hj : J v w4 := by
      rw [hJ.out]
      refine ⟨m4, ?_⟩
      rw [s32.out] at hT ⊢
      rw [hT.out]
      rw [hRl] at own4
      exact own4
    replace hj := Lib.hid hj
    clear own4 grow4 m4 m3 b3 s3
    simp only [Act.put, List.setIfInBounds_toArray, List.set_cons_zero, List.set_cons_succ]
    refine wpList_reads (by kernel_rfl) (v) (by go_simp) ?_
    simp only [Act.put, List.setIfInBounds_toArray, List.set_cons_zero, List.set_cons_succ]
    clear hw2 hg2 hR hT s32 hRl
    have hj1 := hj.out
    rw [hJ.out] at hj1
    obtain ⟨m4, own4⟩ := hj1
    replace m4 := Lib.hid m4
    replace own4 := Lib.hid own4
    clear hj
    go_wp2
    go_loopg [5] (64 - sl) (fun gh lv wr => ∃ n, n + gh = 64 ∧ sl ≤ n ∧ Mod (fun _ => False) w wr ∧ wr.ownsRow w.heap.size 5 1 lv n (bytesV (K.take n)))
    case atStart => exact ⟨sl, by omega, Nat.le_refl _, m4.out, own4.out⟩
    case round =>
      obtain ⟨n, hng, hsn, mr, own⟩ := hrel
      obtain ⟨ad, cp, hv, _⟩ := (byteAt_of_own own).slice
      rw [List.length_take, hKl, Nat.min_eq_left (by omega)] at hv
      subst hv
      have bn : (n : Int) ≤ 64 := by omega
      have bn0 : (0 : Int) ≤ (n : Int) := by omega
      replace hng := Lib.hid hng
      replace hsn := Lib.hid hsn
      by_cases hn64 : n < 64
      · have hdn : decide ((n : Int) < 64) = true := by rw [decide_eq_true_iff]; omega
        have htn := ht.out n hsn.out hn64
        obtain ⟨wa, hwa⟩ : ∃ x, x = wr.alloc (.cells #[.int .u8 0] 5) := ⟨_, rfl⟩
        obtain ⟨ga, hga⟩ : ∃ g, g = wr.heap.size := ⟨_, rfl⟩
        have ma : Mod (fun _ => False) wr wa := by rw [hwa]; exact (Mod.refl _ _).alloc _
        have xa : wa.heap[ga]? = some (.cells (encB [0]) 5 (0,0)) := by rw [hwa]; exact hp_new _ _ _ hga
        have ba := ByteAt.row xa
        have owna := ownsRow_kept own ma (fun _ _ h => h)
        have mra := mr.trans ma
        replace hwa := Lib.hid hwa
        replace hga := Lib.hid hga
        replace htn := Lib.hid htn
        replace hn64 := Lib.hid hn64
        clear own mr xa ma
        go_upto_region 7 with (fail)
        refine wp_region_lit ?_
        refine wpList_reads (by kernel_rfl) (.slice ad n cp) (by go_simp) ?_
        simp only [Act.put, List.setIfInBounds_toArray, List.set_cons_zero, List.set_cons_succ]
        refine wpList_yields (by kernel_rfl) (.slice (some ⟨ga, 0, none⟩) 1 1) wa (by rw [hwa.out, hga.out]; go_simp) ?_
        simp only [Act.put, List.setIfInBounds_toArray, List.set_cons_zero, List.set_cons_succ]
        refine wpList_append_bytes rfl _ _ rfl w.heap.size n (.slice ad n cp) (.slice (some ⟨ga, 0, none⟩) 1 1) (K.take n) [0] rfl rfl owna ba (by simp; omega) mra.size ?_
        intro v' w5 own5 grow5
        have m5 : Mod (fun _ => False) w w5 := mra.trans' ((Mod.refl _ _).grown (S := fun k => w.heap.size ≤ k) grow5 (fun k hk _ => (owna.lt k hk).1)) (fun k hk h => by omega)
        rw [← htn.out] at own5
        replace own5 := Lib.hid own5
        replace m5 := Lib.hid m5
        clear owna ba grow5 mra
        simp only [Act.put, List.setIfInBounds_toArray, List.set_cons_zero, List.set_cons_succ]
        refine wpList_reads (by kernel_rfl) v' (by go_simp) ?_
        simp only [Act.put, List.setIfInBounds_toArray, List.set_cons_zero, List.set_cons_succ]
        go_wp2
        go_roundg (gk - 1)
        case measure => have := hng.out; have := hn64.out; omega
        case rel => exact ⟨n + 1, by have := hng.out; have := hn64.out; omega, by have := hsn.out; omega, m5.out, own5.out⟩
      · obtain rfl : n = 64 := by have := hng.out; omega
        have hdn : decide (((64 : Nat) : Int) < 64) = false := by decide
        obtain ⟨g, hadg⟩ : ∃ g, ad = some ⟨g, 0, none⟩ := by
          rcases own.2 with ⟨_, h⟩ | ⟨g, cap, cur, h, _⟩
          · cases h
          · injection h with h
            exact ⟨g, h⟩
        subst hadg
        rw [List.take_of_length_le (by omega)] at own
        have hgB := (own.lt g rfl).1
        replace own := Lib.hid own
        replace mr := Lib.hid mr
        clear own4 m4
        go_wp2
        go_loopg [8] 64 (fun gh iv wr => ∃ i : Nat, i + gh = 64 ∧ iv = .int .i64 (i : Int) ∧ Mod (fun _ => False) w wr ∧ wr.ownsRow w.heap.size 5 1 (.slice (some ⟨g, 0, none⟩) 64 cp) 64 (bytesV (xorTo K x i)))
        case atStart => exact ⟨0, by omega, rfl, mr.out, by rw [xorTo_zero]; exact own.out⟩
        case round =>
          obtain ⟨i, hig, rfl, mr2, own2⟩ := hrel
          have bi : (i : Int) ≤ 64 := by omega
          have bi0 : (0 : Int) ≤ (i : Int) := by omega
          replace hig := Lib.hid hig
          by_cases hi64 : i < 64
          · have hdi : decide ((i : Int) < 64) = true := by rw [decide_eq_true_iff]; omega
            have bi64 : (i : Int) < 64 := by omega
            have c2 := own2.cellAt i (by omega)
            rw [bytesV_at _ _ (by rw [xorTo_length]; omega), xorTo_get _ _ _ (by omega)] at c2
            have f2 := own2.frozenAt i
            have st := own2.stored i (.int .u8 ((K.getD i 0 ^^^ x).toNat : Int))
            rw [bytesV_set, xorTo_set _ _ _ (by omega)] at st
            have hx := bits_xor8 (K.getD i 0) x
            obtain ⟨y, hy⟩ : ∃ y, y = K.getD i 0 := ⟨_, rfl⟩
            rw [← hy] at c2 st hx
            obtain ⟨u, hu⟩ : ∃ u, u = y ^^^ x := ⟨_, rfl⟩
            rw [← hu] at st hx
            obtain ⟨st, gr⟩ := st
            have m6 := mr2.trans' ((Mod.refl _ _).grown (S := fun k => w.heap.size ≤ k) gr (fun k hk _ => (own2.lt k hk).1)) (fun k hk h => by omega)
            replace st := Lib.hid st
            replace m6 := Lib.hid m6
            replace hy := Lib.hid hy
            replace hu := Lib.hid hu
            replace hi64 := Lib.hid hi64
            clear gr own2 mr2
            go_wp2
            go_roundg (gk - 1)
            case measure => have := hig.out; have := hi64.out; omega
            case rel => exact ⟨i + 1, by have := hig.out; have := hi64.out; omega, by go_num, m6.out, st.out⟩
          · obtain rfl : i = 64 := by have := hig.out; omega
            have hdi : decide (((64 : Nat) : Int) < 64) = false := by decide
            rw [xorTo_all _ _ _ hKl] at own2
            replace own2 := Lib.hid own2
            replace mr2 := Lib.hid mr2
            go_wp2
            go_ret
            exact ⟨mr2.out, _, rfl, own2.out⟩
  · have hd : decide ((64 : Int) < (m : Int)) = false := by rw [decide_eq_false_iff_not]; omega
    have hsh : shortS k = k := by unfold shortS; rw [if_neg (by rw [← hm.out]; exact h64)]
    replace hsh := Lib.hid hsh
    clear h64
    go_upto_region 5 with (fail)
    refine wp_region_lit ?_
    refine wpList_reads (by kernel_rfl) (.slice none 0 0) (by go_simp) ?_
    simp only [Act.put, List.setIfInBounds_toArray, List.set_cons_zero, List.set_cons_succ]
    refine wpList_reads (by kernel_rfl) (.slice ak m ck) (by go_simp) ?_
    simp only [Act.put, List.setIfInBounds_toArray, List.set_cons_zero, List.set_cons_succ]
    refine wpList_append_bytes rfl _ _ rfl w.heap.size 0 (.slice none 0 0) (.slice ak m ck) [] k rfl rfl (World.ownsRow_nil _ _ _ _) hk.out (by rw [← hm.out]; omega) (Nat.le_refl _) ?_
    intro v w4 own4 grow4
    have m4 : Mod (fun _ => False) w w4 := (Mod.refl _ _).grown grow4 (fun k hk _ => by cases hk)
    have hj : J v w4 := by
      rw [hJ.out]
      refine ⟨m4, ?_⟩
      rw [ht0.out, hs.out, hsh.out]
      rw [Nat.zero_add] at own4
      exact own4
    replace hj := Lib.hid hj
    clear own4 grow4 m4
    simp only [Act.put, List.setIfInBounds_toArray, List.set_cons_zero, List.set_cons_succ]
    refine wpList_reads (by kernel_rfl) (v) (by go_simp) ?_
    simp only [Act.put, List.setIfInBounds_toArray, List.set_cons_zero, List.set_cons_succ]
    have hj1 := hj.out
    rw [hJ.out] at hj1
    obtain ⟨m4, own4⟩ := hj1
    replace m4 := Lib.hid m4
    replace own4 := Lib.hid own4
    clear hj
    go_wp2
    go_loopg [5] (64 - sl) (fun gh lv wr => ∃ n, n + gh = 64 ∧ sl ≤ n ∧ Mod (fun _ => False) w wr ∧ wr.ownsRow w.heap.size 5 1 lv n (bytesV (K.take n)))
    case atStart => exact ⟨sl, by omega, Nat.le_refl _, m4.out, own4.out⟩
    case round =>
      obtain ⟨n, hng, hsn, mr, own⟩ := hrel
      obtain ⟨ad, cp, hv, _⟩ := (byteAt_of_own own).slice
      rw [List.length_take, hKl, Nat.min_eq_left (by omega)] at hv
      subst hv
      have bn : (n : Int) ≤ 64 := by omega
      have bn0 : (0 : Int) ≤ (n : Int) := by omega
      replace hng := Lib.hid hng
      replace hsn := Lib.hid hsn
      by_cases hn64 : n < 64
      · have hdn : decide ((n : Int) < 64) = true := by rw [decide_eq_true_iff]; omega
        have htn := ht.out n hsn.out hn64
        obtain ⟨wa, hwa⟩ : ∃ x, x = wr.alloc (.cells #[.int .u8 0] 5) := ⟨_, rfl⟩
        obtain ⟨ga, hga⟩ : ∃ g, g = wr.heap.size := ⟨_, rfl⟩
        have ma : Mod (fun _ => False) wr wa := by rw [hwa]; exact (Mod.refl _ _).alloc _
        have xa : wa.heap[ga]? = some (.cells (encB [0]) 5 (0,0)) := by rw [hwa]; exact hp_new _ _ _ hga
        have ba := ByteAt.row xa
        have owna := ownsRow_kept own ma (fun _ _ h => h)
        have mra := mr.trans ma
        replace hwa := Lib.hid hwa
        replace hga := Lib.hid hga
        replace htn := Lib.hid htn
        replace hn64 := Lib.hid hn64
        clear own mr xa ma
        go_upto_region 7 with (fail)
        refine wp_region_lit ?_
        refine wpList_reads (by kernel_rfl) (.slice ad n cp) (by go_simp) ?_
        simp only [Act.put, List.setIfInBounds_toArray, List.set_cons_zero, List.set_cons_succ]
        refine wpList_yields (by kernel_rfl) (.slice (some ⟨ga, 0, none⟩) 1 1) wa (by rw [hwa.out, hga.out]; go_simp) ?_
        simp only [Act.put, List.setIfInBounds_toArray, List.set_cons_zero, List.set_cons_succ]
        refine wpList_append_bytes rfl _ _ rfl w.heap.size n (.slice ad n cp) (.slice (some ⟨ga, 0, none⟩) 1 1) (K.take n) [0] rfl rfl owna ba (by simp; omega) mra.size ?_
        intro v' w5 own5 grow5
        have m5 : Mod (fun _ => False) w w5 := mra.trans' ((Mod.refl _ _).grown (S := fun k => w.heap.size ≤ k) grow5 (fun k hk _ => (owna.lt k hk).1)) (fun k hk h => by omega)
        rw [← htn.out] at own5
        replace own5 := Lib.hid own5
        replace m5 := Lib.hid m5
        clear owna ba grow5 mra
        simp only [Act.put, List.setIfInBounds_toArray, List.set_cons_zero, List.set_cons_succ]
        refine wpList_reads (by kernel_rfl) v' (by go_simp) ?_
        simp only [Act.put, List.setIfInBounds_toArray, List.set_cons_zero, List.set_cons_succ]
        go_wp2
        go_roundg (gk - 1)
        case measure => have := hng.out; have := hn64.out; omega
        case rel => exact ⟨n + 1, by have := hng.out; have := hn64.out; omega, by have := hsn.out; omega, m5.out, own5.out⟩
      · obtain rfl : n = 64 := by have := hng.out; omega
        have hdn : decide (((64 : Nat) : Int) < 64) = false := by decide
        obtain ⟨g, hadg⟩ : ∃ g, ad = some ⟨g, 0, none⟩ := by
          rcases own.2 with ⟨_, h⟩ | ⟨g, cap, cur, h, _⟩
          · cases h
          · injection h with h
            exact ⟨g, h⟩
        subst hadg
        rw [List.take_of_length_le (by omega)] at own
        have hgB := (own.lt g rfl).1
        replace own := Lib.hid own
        replace mr := Lib.hid mr
        clear own4 m4
        go_wp2
        go_loopg [8] 64 (fun gh iv wr => ∃ i : Nat, i + gh = 64 ∧ iv = .int .i64 (i : Int) ∧ Mod (fun _ => False) w wr ∧ wr.ownsRow w.heap.size 5 1 (.slice (some ⟨g, 0, none⟩) 64 cp) 64 (bytesV (xorTo K x i)))
        case atStart => exact ⟨0, by omega, rfl, mr.out, by rw [xorTo_zero]; exact own.out⟩
        case round =>
          obtain ⟨i, hig, rfl, mr2, own2⟩ := hrel
          have bi : (i : Int) ≤ 64 := by omega
          have bi0 : (0 : Int) ≤ (i : Int) := by omega
          replace hig := Lib.hid hig
          by_cases hi64 : i < 64
          · have hdi : decide ((i : Int) < 64) = true := by rw [decide_eq_true_iff]; omega
            have bi64 : (i : Int) < 64 := by omega
            have c2 := own2.cellAt i (by omega)
            rw [bytesV_at _ _ (by rw [xorTo_length]; omega), xorTo_get _ _ _ (by omega)] at c2
            have f2 := own2.frozenAt i
            have st := own2.stored i (.int .u8 ((K.getD i 0 ^^^ x).toNat : Int))
            rw [bytesV_set, xorTo_set _ _ _ (by omega)] at st
            have hx := bits_xor8 (K.getD i 0) x
            obtain ⟨y, hy⟩ : ∃ y, y = K.getD i 0 := ⟨_, rfl⟩
            rw [← hy] at c2 st hx
            obtain ⟨u, hu⟩ : ∃ u, u = y ^^^ x := ⟨_, rfl⟩
            rw [← hu] at st hx
            obtain ⟨st, gr⟩ := st
            have m6 := mr2.trans' ((Mod.refl _ _).grown (S := fun k => w.heap.size ≤ k) gr (fun k hk _ => (own2.lt k hk).1)) (fun k hk h => by omega)
            replace st := Lib.hid st
            replace m6 := Lib.hid m6
            replace hy := Lib.hid hy
            replace hu := Lib.hid hu
            replace hi64 := Lib.hid hi64
            clear gr own2 mr2
            go_wp2
            go_roundg (gk - 1)
            case measure => have := hig.out; have := hi64.out; omega
            case rel => exact ⟨i + 1, by have := hig.out; have := hi64.out; omega, by go_num, m6.out, st.out⟩
          · obtain rfl : i = 64 := by have := hig.out; omega
            have hdi : decide (((64 : Nat) : Int) < 64) = false := by decide
            rw [xorTo_all _ _ _ hKl] at own2
            replace own2 := Lib.hid own2
            replace mr2 := Lib.hid mr2
            go_wp2
            go_ret
            exact ⟨mr2.out, _, rfl, own2.out⟩
end Go.Proofs.Ythhbomiknikjpaa
