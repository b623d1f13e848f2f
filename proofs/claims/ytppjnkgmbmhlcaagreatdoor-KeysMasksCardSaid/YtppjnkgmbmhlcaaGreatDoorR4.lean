/-
  mailcoachref02.Sum: SHA-256 of bytes, by definition. Printed by gen/ref4.py.
-/
import Derived.Test.YtppjnkgmbmhlcaaGreatDoorR3
namespace Go.Proofs.YtppjnkgmbmhlcaaGreatDoor
set_option maxRecDepth 100000
open Go Go.RowKit Go.Lib
set_option linter.unusedSimpArgs false
set_option linter.unusedVariables false

theorem zero64a (w : World) : (zeroValue 60).run Tryz.prog w = .ok (.agg (encB (zb 64))) w := by kernel_rfl
theorem info64a : (Tryz.prog.info? 60).map (·.size) = some 64 := by kernel_rfl
theorem bytes64a_load {w : World} {g : Nat} {s : List (BitVec 8)} (x : w.heap[g]? = some (.cells (encB s) 60 (0,0))) (hl : s.length = 64) : (loadVar 60 ⟨g, 0, none⟩).run Tryz.prog w = .ok (.agg (encB s)) w :=
  load_mid w g 0 60 _ [] (bytesV s) [] (0,0) _ (by rw [x]; simp [encB, bytesV]) rfl Tryz.underlying60 rfl (by rw [bytesV_length, hl]; exact info64a)
theorem part_zero' (f : Nat → BitVec 8) (n : Nat) : part f n 0 = zb n := by
  unfold part zb
  apply List.ext_getElem
  · simp
  · intro i h1 h2
    simp only [List.getElem_map, List.getElem_range, List.getElem_replicate]
    rw [if_neg (by omega)]

set_option maxRecDepth 100000 in
set_option maxHeartbeats 4000000 in
theorem refSum_any (v : Value) (b : List (BitVec 8)) (w : World) (hb : ByteAt w v b) (hbl : b.length < 4611686018427387904) : Calls Tryz.prog 72 #[v] w fun e w' => Mod (fun _ => False) w w' ∧ e = .returned (sumV b) := by
  obtain ⟨ad, cap, rfl, _⟩ := hb.slice
  obtain ⟨n, hn⟩ : ∃ n, n = b.length := ⟨_, rfl⟩
  obtain ⟨H, hH⟩ : ∃ H, H = w.heap.size := ⟨_, rfl⟩
  obtain ⟨w1, hw1⟩ : ∃ w1, w1 = w.alloc (.cells (encB (zb 32)) 62) := ⟨_, rfl⟩
  have m1 : Mod (fun _ => False) w w1 := by rw [hw1]; exact (Mod.refl _ _).alloc _
  have x1 : w1.heap[H]? = some (.cells (encB (zb 32)) 62 (0,0)) := by rw [hw1]; exact hp_new _ _ _ hH
  have hb1 := hb.mod m1 (fun _ _ h => h)
  rw [← hn] at hb hb1 hbl ⊢
  have bn0 : (0 : Int) ≤ (n : Int) := by omega
  have hHl := lt_of_heap x1
  replace hb1 := Lib.hid hb1
  replace hn := Lib.hid hn
  replace hw1 := Lib.hid hw1
  replace x1 := Lib.hid x1
  replace m1 := Lib.hid m1
  replace hH := Lib.hid hH
  clear hb
  go_enter Tryz.func72, Tryz.ntmps72
  go_upto_region 0 with (fail)
  refine wp_region_lit ?_
  refine wpList_yields (by kernel_rfl) _ _ (alloc_arr 62 _ zero32 _ _ _ rfl) ?_
  simp only [Act.put, List.setIfInBounds_toArray, List.set_cons_zero, List.set_cons_succ]
  rw [← hH.out, ← hw1.out]
  refine wpList_reads (by kernel_rfl) (.int .i64 0) (by go_simp) ?_
  simp only [Act.put, List.setIfInBounds_toArray, List.set_cons_zero, List.set_cons_succ]
  by_cases hbig : 1048576 < n
  · have hd : decide ((1048576 : Int) < (n : Int)) = true := by rw [decide_eq_true_iff]; omega
    have hsv : sumV b = .tuple #[.agg (encB (zb 32)), .int .i64 3] := by unfold sumV; rw [if_pos (by rw [← hn.out]; exact hbig)]
    obtain ⟨wz, sz, mz, xz⟩ := bytes_store x1.out (s' := zb 32) (by decide) (by decide)
    have mfz : Mod (fun _ => False) w wz := m1.out.trans' mz (fun i hi h => by have := hH.out; omega)
    replace mfz := Lib.hid mfz
    replace hsv := Lib.hid hsv
    clear mz
    go_upto_region 2 with (fail)
    refine wp_region_lit ?_
    refine wpList_yields (by kernel_rfl) _ _ (build_zero32 _ _ _ rfl) ?_
    simp only [Act.put, List.setIfInBounds_toArray, List.set_cons_zero, List.set_cons_succ]
    refine wpList_store_to rfl _ _ _ rfl _ _ _ rfl rfl _ sz ?_
    simp only [Act.put, List.setIfInBounds_toArray, List.set_cons_zero, List.set_cons_succ]
    refine wpList_reads (by kernel_rfl) (.int .i64 3) (by go_simp) ?_
    simp only [Act.put, List.setIfInBounds_toArray, List.set_cons_zero, List.set_cons_succ]
    go_wp2
    refine bodyPost_ret (v := .tuple #[.agg (encB (zb 32)), .int .i64 3]) (sum_results rfl _ _ _ _ _ rfl rfl xz (by decide)) rfl ?_
    exact ⟨mfz.out, by rw [hsv.out]⟩
  · have hd : decide ((1048576 : Int) < (n : Int)) = false := by rw [decide_eq_false_iff_not]; omega
    have hsv : sumV b = .tuple #[.agg (encB (shaS b)), .int .i64 0] := by unfold sumV; rw [if_neg (by rw [← hn.out]; exact hbig)]
    replace hsv := Lib.hid hsv
    go_upto_region 3 with (fail)
    refine wp_region_lit ?_
    refine wpList_reads (by kernel_rfl) (.slice ad n cap) (by go_simp) ?_
    simp only [Act.put, List.setIfInBounds_toArray, List.set_cons_zero, List.set_cons_succ]
    refine wpList_enter (by kernel_rfl) 111 #[.slice ad n cap] (by go_simp) (padded_any _ b w1 hb1.out (by rw [← hn.out]; omega)) ?_
    rintro e w2 ⟨m2, vP, rfl, own2⟩
    have hPl := padS_length b
    have hNb : nbS b ≤ 16386 := by have := hn.out; unfold nbS endL; split <;> omega
    have bP := byteAt_of_own own2
    obtain ⟨adP, capP, hvP, _⟩ := bP.slice
    subst hvP
    obtain ⟨L, hL⟩ : ∃ L, L = (padS b).length := ⟨_, rfl⟩
    obtain ⟨nb, hnb⟩ : ∃ nb, nb = nbS b := ⟨_, rfl⟩
    rw [← hL] at bP hPl ⊢
    rw [← hnb] at hPl hNb
    have x2 := m2.heap x1.out (fun h => h)
    refine ⟨_, rfl, ?_⟩
    simp only [Act.put, List.setIfInBounds_toArray, List.set_cons_zero, List.set_cons_succ]
    refine wpList_reads (by kernel_rfl) (.slice adP L capP) (by go_simp) ?_
    simp only [Act.put, List.setIfInBounds_toArray, List.set_cons_zero, List.set_cons_succ]
    clear own2
    go_upto_region 4 with (fail)
    refine wp_region_lit ?_
    refine wpList_enter (by kernel_rfl) 112 #[] (by go_simp) (refBegin_any w2) ?_
    rintro e w3 ⟨m3, rfl⟩
    obtain ⟨w4, hw4⟩ : ∃ x, x = w3.alloc (.cells (encW (zw 8)).toArray 166) := ⟨_, rfl⟩
    obtain ⟨gs, hgs⟩ : ∃ g, g = w3.heap.size := ⟨_, rfl⟩
    have x4 : WordsAt w4 gs 166 (zw 8) := by rw [hw4]; exact hp_new _ _ _ hgs
    have m4 : Mod (fun _ => False) w3 w4 := by rw [hw4]; exact (Mod.refl _ _).alloc _
    have hHk : H0.length = 8 := rfl
    obtain ⟨w5, s5, m5, x5⟩ := words_store x4 (s' := H0) rfl (by rw [hHk]; exact info8)
    have m25 : Mod (fun _ => False) w2 w5 := (m3.trans m4).trans' m5 (fun i hi h => by have := m3.size; omega)
    have m05 : Mod (fun _ => False) w w5 := (m1.out.trans m2).trans m25
    have hgl : H < gs := by have := m2.size; have := m3.size; omega
    have x25 := m25.heap x2 (fun h => h)
    have bP5 := bP.mod m25 (fun _ _ h => h)
    have hbg : ∀ g off n' c, (Value.slice adP L capP) = .slice (some ⟨g, off, none⟩) n' c → 0 < L → g < gs := by
      intro g off n' c h h0
      obtain ⟨_, _, h3, h4⟩ := bP.slice
      injection h3 with h3
      obtain ⟨g', off', h1, h2, _⟩ := h4 0 (by omega)
      injection h with h
      rw [h3, h1] at h
      injection h with h
      injection h with h
      have := m3.size
      omega
    replace hw4 := Lib.hid hw4
    replace hgs := Lib.hid hgs
    replace m05 := Lib.hid m05
    replace x25 := Lib.hid x25
    replace bP5 := Lib.hid bP5
    replace x5 := Lib.hid x5
    replace hL := Lib.hid hL
    replace hnb := Lib.hid hnb
    replace hbg := Lib.hid hbg
    clear m3 x4 m4 m5 m25 bP x2 m2
    refine ⟨_, rfl, ?_⟩
    simp only [Act.put, List.setIfInBounds_toArray, List.set_cons_zero, List.set_cons_succ]
    refine wpList_yields (by kernel_rfl) _ _ (alloc_arr 166 _ zero8 _ _ _ rfl) ?_
    simp only [Act.put, List.setIfInBounds_toArray, List.set_cons_zero, List.set_cons_succ]
    rw [← hgs.out, ← hw4.out]
    refine wpList_store_to rfl _ _ _ rfl _ _ _ rfl rfl _ s5 ?_
    simp only [Act.put, List.setIfInBounds_toArray, List.set_cons_zero, List.set_cons_succ]
    clear s5
    replace hPl := Lib.hid hPl
    go_wp2
    go_loopw [6] (fun iv wr => ∃ i at' : Nat, i ≤ nb ∧ at' = 64 * i ∧ iv = .int .i64 (at' : Int) ∧ Mod (fun k => k = gs) w5 wr ∧ WordsAt wr gs 166 (stateS K0 H0 b i)) (fun iv _ => L - (intOf iv).toNat)
    case atStart => exact ⟨0, 0, by omega, rfl, rfl, Mod.refl _ _, x5.out⟩
    case round =>
      obtain ⟨i, at', hi, hat, rfl, mr, xr⟩ := hrel
      have hPl1 := hPl.out
      have ba0 : (0 : Int) ≤ (at' : Int) := by omega
      have ba : (at' : Int) ≤ 1048704 := by omega
      have bL : (L : Int) ≤ 1048704 := by omega
      by_cases hlt : i < nb
      · have hd : decide (at' < L) = true := by rw [decide_eq_true_iff]; omega
        have hal : at' + 64 ≤ L := by omega
        obtain ⟨wA, hwA⟩ : ∃ x, x = wr.alloc (.cells (encB (zb 64)) 60) := ⟨_, rfl⟩
        obtain ⟨gx, hgx⟩ : ∃ g, g = wr.heap.size := ⟨_, rfl⟩
        have mA : Mod (fun _ => False) wr wA := by rw [hwA]; exact (Mod.refl _ _).alloc _
        have xA : wA.heap[gx]? = some (.cells (encB (zb 64)) 60 (0,0)) := by rw [hwA]; exact hp_new _ _ _ hgx
        have hgsl := lt_of_heap xr
        have hgx2 : gs < gx := by omega
        have hgx5 : w5.heap.size ≤ gx := by rw [hgx]; exact mr.size
        have mrA : Mod (fun k => k = gs) w5 wA := mr.trans' mA (fun _ _ h => h.elim)
        have xsA := xr.mod mA (fun h => h)
        have hcut : ∀ j, j < 64 → ∃ g off, adP = some ⟨g, off, none⟩ ∧ g < gs ∧ wA.cell? ⟨g, off + (at' + j), none⟩ = some (.int .u8 (((blk b i).getD j 0).toNat : Int)) := by
          intro j hj
          obtain ⟨_, _, h3, h4⟩ := bP5.out.slice
          injection h3 with h3
          obtain ⟨g, off, h1, h2, h5⟩ := h4 (at' + j) (by rw [← hL.out]; omega)
          rw [← h3] at h1
          have hg := hbg.out g off L capP (by rw [h1]) (by omega)
          refine ⟨g, off, h1, hg, ?_⟩
          have h6 := cell_mod mrA h5 (by omega)
          rw [h6]
          congr 4
          unfold blk
          rw [List.getD_eq_getElem?_getD, List.getD_eq_getElem?_getD, List.getElem?_take, if_pos hj, List.getElem?_drop, hat]
        obtain ⟨f, hf⟩ : ∃ f : Nat → BitVec 8, f = fun j => (blk b i).getD j 0 := ⟨_, rfl⟩
        have hblk : part f 64 64 = blk b i := by
          rw [part_all, hf]
          have hl : (blk b i).length = 64 := blk_length (by rw [← hnb.out]; exact hlt)
          apply List.ext_getElem
          · simp [hl]
          · intro j h1 h2
            simp [List.getElem?_eq_getElem h2]
        have hcut2 : ∀ j, j < 64 → ∃ g off, adP = some ⟨g, off, none⟩ ∧ g < gs ∧ wA.cell? ⟨g, off + (at' + j), none⟩ = some (.int .u8 ((f j).toNat : Int)) := by rw [hf]; exact hcut
        rw [show zb 64 = part f 64 0 from (part_zero' _ _).symm] at xA
        replace hf := Lib.hid hf
        replace hwA := Lib.hid hwA
        replace hgx := Lib.hid hgx
        replace mrA := Lib.hid mrA
        replace xsA := Lib.hid xsA
        replace hcut2 := Lib.hid hcut2
        replace hblk := Lib.hid hblk
        replace xA := Lib.hid xA
        replace hlt := Lib.hid hlt
        replace hat := Lib.hid hat
        clear hcut mA mr xr hi hPl1
        go_upto_region 8 with (fail)
        refine wp_region_lit ?_
        refine wpList_yields (by kernel_rfl) _ _ (alloc_arr 60 _ zero64a _ _ _ rfl) ?_
        simp only [Act.put, List.setIfInBounds_toArray, List.set_cons_zero, List.set_cons_succ]
        rw [← hgx.out, ← hwA.out]
        go_wp2
        go_loopw [8] (fun jv wr => ∃ j : Nat, j ≤ 64 ∧ jv = .int .i64 (j : Int) ∧ Mod (fun k => k = gx) wA wr ∧ wr.heap[gx]? = some (.cells (encB (part f 64 j)) 60 (0,0))) (fun jv _ => 64 - (intOf jv).toNat)
        case atStart => exact ⟨0, by omega, rfl, Mod.refl _ _, xA.out⟩
        case round =>
          obtain ⟨j, hj, rfl, mj, xj⟩ := hrel
          have bj0 : (0 : Int) ≤ (j : Int) := by omega
          have bj : (j : Int) ≤ 64 := by omega
          by_cases hj64 : j < 64
          · have hd2 : decide ((j : Int) < 64) = true := by rw [decide_eq_true_iff]; omega
            have bjl : (j : Int) < 64 := by omega
            obtain ⟨g, off, rfl, hgg, hc0⟩ := hcut2.out j hj64
            obtain ⟨p, hp⟩ : ∃ p, p = at' + j := ⟨_, rfl⟩
            rw [← hp] at hc0
            have hp1 : (at' : Int) + (j : Int) = (p : Int) := by omega
            have hwp : IntKind.i64.wrap (p : Int) = (p : Int) := by rw [IntKind.wrap_i64]; omega
            have hpL : p < L := by have := hPl.out; have := hlt.out; have := hat.out; omega
            have bpL : (p : Int) < (L : Int) := by omega
            have bp0 : (0 : Int) ≤ (p : Int) := by omega
            have hci := cell_mod mj hc0 (by omega)
            have hpl : (part f 64 j).length = 64 := by simp [part]
            have cI := encB_cell xj (i := j) (by rw [hpl]; exact hj64)
            have fI := frozen_of_row wr gx j _ _ xj
            obtain ⟨y, hy⟩ : ∃ y, y = f j := ⟨_, rfl⟩
            rw [← hy] at hci
            have hset := row_setv xj j y _ rfl
            rw [show (part f 64 j).set j y = part f 64 (j + 1) by rw [hy, part_set']] at hset
            have mset := mj.trans (Mod.one_setCell wr gx j (.int .u8 (y.toNat : Int)))
            replace hset := Lib.hid hset
            replace mset := Lib.hid mset
            replace hy := Lib.hid hy
            replace hp := Lib.hid hp
            replace hj64 := Lib.hid hj64
            replace mj := Lib.hid mj
            replace xj := Lib.hid xj
            clear hc0 hpl hj
            go_wp2
            go_roundw
            case measure => have := hj64.out; simp [intOf]; omega
            case rel => exact ⟨j + 1, by have := hj64.out; omega, by go_num, mset.out, hset.out⟩
          · have hj64' : j = 64 := by omega
            have hd2 : decide ((j : Int) < 64) = false := by rw [decide_eq_false_iff_not]; omega
            rw [hj64', hblk.out] at xj
            have hbl64 : (blk b i).length = 64 := blk_length (by rw [← hnb.out]; exact hlt.out)
            have hsl : (stateS K0 H0 b i).length = 8 := by rw [stateS_length]; rfl
            have xsj := xsA.out.mod mj (by omega)
            have l5 := words_load xsj Tryz.underlying166 rfl (by rw [hsl]; exact info8)
            have l7 := bytes64a_load xj hbl64
            have m5j : Mod (fun k => k = gs) w5 wr := mrA.out.trans' mj (fun k hk h => by omega)
            obtain ⟨SS, hSS⟩ : ∃ SS, SS = stateS K0 H0 b i := ⟨_, rfl⟩
            obtain ⟨BB, hBB⟩ : ∃ BB, BB = blk b i := ⟨_, rfl⟩
            have hstep : stateS K0 H0 b (i + 1) = furtherS K0 SS BB := by rw [hSS, hBB]; rfl
            rw [← hSS] at hsl xsj l5
            rw [← hBB] at hbl64 xj l7
            replace hSS := Lib.hid hSS
            replace hBB := Lib.hid hBB
            replace hstep := Lib.hid hstep
            replace hj64' := Lib.hid hj64'
            replace xsj := Lib.hid xsj
            replace xj := Lib.hid xj
            replace m5j := Lib.hid m5j
            clear mj hj hj64
            obtain ⟨wr', hwr'⟩ : ∃ x, x = wr := ⟨_, rfl⟩
            go_upto_region 13 with (fail)
            refine wp_region_lit ?_
            refine wpList_reads (by kernel_rfl) (.agg (encW SS).toArray) (run_load_op rfl rfl l5) ?_
            simp only [Act.put, List.setIfInBounds_toArray, List.set_cons_zero, List.set_cons_succ]
            refine wpList_reads (by kernel_rfl) (.agg (encB BB)) (run_load_op rfl rfl l7) ?_
            simp only [Act.put, List.setIfInBounds_toArray, List.set_cons_zero, List.set_cons_succ]
            refine wpList_enter (by kernel_rfl) 113 #[.agg (encW SS).toArray, .agg (encB BB)] (by go_simp) (refblock_any SS BB hsl hbl64 wr) ?_
            rintro e w6 ⟨m6, rfl⟩
            have x6 := xsj.out.mod m6 (fun h => h)
            obtain ⟨FF, hFF⟩ : ∃ FF, FF = furtherS K0 SS BB := ⟨_, rfl⟩
            have hfl : FF.length = 8 := by rw [hFF, furtherS_length, hsl]
            rw [← hFF] at hstep ⊢
            obtain ⟨w7, s7, m7, x7⟩ := words_store x6 (s' := FF) (by rw [hsl, hfl]) (by rw [hfl]; exact info8)
            have m57 := (m5j.out.trans' m6 (fun _ _ h => h.elim)).trans m7
            replace hFF := Lib.hid hFF
            replace x7 := Lib.hid x7
            replace m57 := Lib.hid m57
            clear m6 x6 m7 l5 l7
            refine ⟨_, rfl, ?_⟩
            simp only [Act.put, List.setIfInBounds_toArray, List.set_cons_zero, List.set_cons_succ]
            refine wpList_store_to rfl _ _ _ rfl _ _ _ rfl rfl _ s7 ?_
            simp only [Act.put, List.setIfInBounds_toArray, List.set_cons_zero, List.set_cons_succ]
            clear s7
            have hwat : IntKind.i64.wrap ((at' : Int) + 64) = (at' : Int) + 64 := by rw [IntKind.wrap_i64]; omega
            go_wp2
            go_roundw
            case measure => have := hat.out; have := hlt.out; have := hPl.out; simp [intOf]; omega
            case rel => exact ⟨i + 1, at' + 64, by have := hlt.out; omega, by have := hat.out; omega, by go_num, m57.out, by rw [hstep.out]; exact x7.out⟩
      · have hi2 : i = nb := by omega
        have hd : decide (at' < L) = false := by rw [decide_eq_false_iff_not]; omega
        have hsl : (stateS K0 H0 b i).length = 8 := by rw [stateS_length]; rfl
        have x25r := mr.heap x25.out (by omega)
        have m0r : Mod (fun _ => False) w wr := m05.out.trans' mr (fun k hk h => by have := hH.out; omega)
        obtain ⟨ss, hss⟩ : ∃ ss, ss = stateS K0 H0 b i := ⟨_, rfl⟩
        rw [← hss] at hsl xr
        obtain ⟨f, hf⟩ : ∃ f : Nat → BitVec 8, f = fun i => ((ss.getD (i / 4) 0) >>> (24 - i % 4 * 8)).setWidth 8 := ⟨_, rfl⟩
        have hsha : shaS b = part f 32 32 := by rw [part_all, hf, hss, hi2, hnb.out, shaS, words_list, begin_list]; rfl
        obtain ⟨wB, hwB⟩ : ∃ x, x = wr.alloc (.cells (encB (zb 32)) 62) := ⟨_, rfl⟩
        obtain ⟨go', hgo⟩ : ∃ g, g = wr.heap.size := ⟨_, rfl⟩
        have mB : Mod (fun _ => False) wr wB := by rw [hwB]; exact (Mod.refl _ _).alloc _
        have xB : wB.heap[go']? = some (.cells (encB (zb 32)) 62 (0,0)) := by rw [hwB]; exact hp_new _ _ _ hgo
        have hgsl := lt_of_heap xr
        have hgo2 : gs < go' := by omega
        have xsB := xr.mod mB (fun h => h)
        have x25B := mB.heap x25r (fun h => h)
        have m0B := m0r.trans mB
        have hsz : w.heap.size ≤ go' := by rw [hgo]; exact m0r.size
        rw [show zb 32 = part f 32 0 from (part_zero' _ _).symm] at xB
        replace hwB := Lib.hid hwB
        replace hgo := Lib.hid hgo
        replace xsB := Lib.hid xsB
        replace x25B := Lib.hid x25B
        replace m0B := Lib.hid m0B
        replace xB := Lib.hid xB
        replace hsha := Lib.hid hsha
        replace hf := Lib.hid hf
        replace hss := Lib.hid hss
        replace hat := Lib.hid hat
        replace hi2 := Lib.hid hi2
        replace hsz := Lib.hid hsz
        clear hlt hi mr xr x25r m0r mB hPl1
        go_upto_region 14 with (fail)
        refine wp_region_lit ?_
        refine wpList_yields (by kernel_rfl) _ _ (alloc_arr 62 _ zero32 _ _ _ rfl) ?_
        simp only [Act.put, List.setIfInBounds_toArray, List.set_cons_zero, List.set_cons_succ]
        rw [← hgo.out, ← hwB.out]
        go_wp2
        go_loopw [10] (fun iv wr => ∃ i : Nat, i ≤ 32 ∧ iv = .int .i64 (i : Int) ∧ Mod (fun k => k = go') wB wr ∧ wr.heap[go']? = some (.cells (encB (part f 32 i)) 62 (0,0))) (fun iv _ => 32 - (intOf iv).toNat)
        case atStart => exact ⟨0, by omega, rfl, Mod.refl _ _, xB.out⟩
        case round =>
          obtain ⟨k, hk, rfl, mk, xk⟩ := hrel
          by_cases hk32 : k < 32
          · have hpl : (part f 32 k).length = 32 := by simp [part]
            have cI : wr.cell? ⟨go', k, none⟩ = some _ := encB_cell xk (i := k) (by rw [hpl]; exact hk32)
            have fI := frozen_of_row wr go' k _ _ xk
            have cS := (xsB.out.mod mk (by omega)).cell (i := k / 4) (by rw [hsl]; omega)
            have hfi : f k = ((ss.getD (k / 4) 0) >>> (24 - k % 4 * 8)).setWidth 8 := by rw [hf.out]
            obtain ⟨x, hx⟩ : ∃ x, x = ss.getD (k / 4) 0 := ⟨_, rfl⟩
            rw [← hx] at cS hfi
            have hxl := x.isLt
            have bx : (x.toNat : Int) < 4294967296 := by omega
            have bx0 : (0 : Int) ≤ (x.toNat : Int) := by omega
            obtain ⟨y, hy⟩ : ∃ y, y = f k := ⟨_, rfl⟩
            rw [← hy] at hfi
            have hset := fun v hv => row_setv xk k y v hv
            rw [show (part f 32 k).set k y = part f 32 (k + 1) by rw [hy, part_set']] at hset
            replace hset := Lib.hid hset
            replace hy := Lib.hid hy
            replace hx := Lib.hid hx
            replace mk := Lib.hid mk
            replace xk := Lib.hid xk
            clear hk hpl
            obtain rfl | rfl | rfl | rfl | rfl | rfl | rfl | rfl | rfl | rfl | rfl | rfl | rfl | rfl | rfl | rfl | rfl | rfl | rfl | rfl | rfl | rfl | rfl | rfl | rfl | rfl | rfl | rfl | rfl | rfl | rfl | rfl : k = 0 ∨ k = 1 ∨ k = 2 ∨ k = 3 ∨ k = 4 ∨ k = 5 ∨ k = 6 ∨ k = 7 ∨ k = 8 ∨ k = 9 ∨ k = 10 ∨ k = 11 ∨ k = 12 ∨ k = 13 ∨ k = 14 ∨ k = 15 ∨ k = 16 ∨ k = 17 ∨ k = 18 ∨ k = 19 ∨ k = 20 ∨ k = 21 ∨ k = 22 ∨ k = 23 ∨ k = 24 ∨ k = 25 ∨ k = 26 ∨ k = 27 ∨ k = 28 ∨ k = 29 ∨ k = 30 ∨ k = 31 := by omega
            · have hv : (x.toNat : Int) / 16777216 = (y.toNat : Int) := by
                rw [hfi, BitVec.toNat_setWidth, BitVec.toNat_ushiftRight, Nat.shiftRight_eq_div_pow]
                show _ = ((x.toNat / 16777216 % 256 : Nat) : Int)
                omega
              replace hv := Lib.hid hv
              replace hfi := Lib.hid hfi
              go_wp2
              go_roundw
              case measure => simp [intOf]
              case rel =>
                rw [hv.out]
                exact ⟨1, by omega, rfl, mk.out.trans (Mod.one_setCell _ _ _ _), hset.out _ rfl⟩
            · have hv : (x.toNat : Int) / 65536 % 256 = (y.toNat : Int) := by
                rw [hfi, BitVec.toNat_setWidth, BitVec.toNat_ushiftRight, Nat.shiftRight_eq_div_pow]
                show _ = ((x.toNat / 65536 % 256 : Nat) : Int)
                omega
              replace hv := Lib.hid hv
              replace hfi := Lib.hid hfi
              go_wp2
              go_roundw
              case measure => simp [intOf]
              case rel =>
                rw [hv.out]
                exact ⟨2, by omega, rfl, mk.out.trans (Mod.one_setCell _ _ _ _), hset.out _ rfl⟩
            · have hv : (x.toNat : Int) / 256 % 256 = (y.toNat : Int) := by
                rw [hfi, BitVec.toNat_setWidth, BitVec.toNat_ushiftRight, Nat.shiftRight_eq_div_pow]
                show _ = ((x.toNat / 256 % 256 : Nat) : Int)
                omega
              replace hv := Lib.hid hv
              replace hfi := Lib.hid hfi
              go_wp2
              go_roundw
              case measure => simp [intOf]
              case rel =>
                rw [hv.out]
                exact ⟨3, by omega, rfl, mk.out.trans (Mod.one_setCell _ _ _ _), hset.out _ rfl⟩
            · have hv : (x.toNat : Int) % 256 = (y.toNat : Int) := by
                rw [hfi, BitVec.toNat_setWidth, BitVec.toNat_ushiftRight, Nat.shiftRight_eq_div_pow]
                show _ = ((x.toNat / 1 % 256 : Nat) : Int)
                omega
              replace hv := Lib.hid hv
              replace hfi := Lib.hid hfi
              go_wp2
              go_roundw
              case measure => simp [intOf]
              case rel =>
                rw [hv.out]
                exact ⟨4, by omega, rfl, mk.out.trans (Mod.one_setCell _ _ _ _), hset.out _ rfl⟩
            · have hv : (x.toNat : Int) / 16777216 = (y.toNat : Int) := by
                rw [hfi, BitVec.toNat_setWidth, BitVec.toNat_ushiftRight, Nat.shiftRight_eq_div_pow]
                show _ = ((x.toNat / 16777216 % 256 : Nat) : Int)
                omega
              replace hv := Lib.hid hv
              replace hfi := Lib.hid hfi
              go_wp2
              go_roundw
              case measure => simp [intOf]
              case rel =>
                rw [hv.out]
                exact ⟨5, by omega, rfl, mk.out.trans (Mod.one_setCell _ _ _ _), hset.out _ rfl⟩
            · have hv : (x.toNat : Int) / 65536 % 256 = (y.toNat : Int) := by
                rw [hfi, BitVec.toNat_setWidth, BitVec.toNat_ushiftRight, Nat.shiftRight_eq_div_pow]
                show _ = ((x.toNat / 65536 % 256 : Nat) : Int)
                omega
              replace hv := Lib.hid hv
              replace hfi := Lib.hid hfi
              go_wp2
              go_roundw
              case measure => simp [intOf]
              case rel =>
                rw [hv.out]
                exact ⟨6, by omega, rfl, mk.out.trans (Mod.one_setCell _ _ _ _), hset.out _ rfl⟩
            · have hv : (x.toNat : Int) / 256 % 256 = (y.toNat : Int) := by
                rw [hfi, BitVec.toNat_setWidth, BitVec.toNat_ushiftRight, Nat.shiftRight_eq_div_pow]
                show _ = ((x.toNat / 256 % 256 : Nat) : Int)
                omega
              replace hv := Lib.hid hv
              replace hfi := Lib.hid hfi
              go_wp2
              go_roundw
              case measure => simp [intOf]
              case rel =>
                rw [hv.out]
                exact ⟨7, by omega, rfl, mk.out.trans (Mod.one_setCell _ _ _ _), hset.out _ rfl⟩
            · have hv : (x.toNat : Int) % 256 = (y.toNat : Int) := by
                rw [hfi, BitVec.toNat_setWidth, BitVec.toNat_ushiftRight, Nat.shiftRight_eq_div_pow]
                show _ = ((x.toNat / 1 % 256 : Nat) : Int)
                omega
              replace hv := Lib.hid hv
              replace hfi := Lib.hid hfi
              go_wp2
              go_roundw
              case measure => simp [intOf]
              case rel =>
                rw [hv.out]
                exact ⟨8, by omega, rfl, mk.out.trans (Mod.one_setCell _ _ _ _), hset.out _ rfl⟩
            · have hv : (x.toNat : Int) / 16777216 = (y.toNat : Int) := by
                rw [hfi, BitVec.toNat_setWidth, BitVec.toNat_ushiftRight, Nat.shiftRight_eq_div_pow]
                show _ = ((x.toNat / 16777216 % 256 : Nat) : Int)
                omega
              replace hv := Lib.hid hv
              replace hfi := Lib.hid hfi
              go_wp2
              go_roundw
              case measure => simp [intOf]
              case rel =>
                rw [hv.out]
                exact ⟨9, by omega, rfl, mk.out.trans (Mod.one_setCell _ _ _ _), hset.out _ rfl⟩
            · have hv : (x.toNat : Int) / 65536 % 256 = (y.toNat : Int) := by
                rw [hfi, BitVec.toNat_setWidth, BitVec.toNat_ushiftRight, Nat.shiftRight_eq_div_pow]
                show _ = ((x.toNat / 65536 % 256 : Nat) : Int)
                omega
              replace hv := Lib.hid hv
              replace hfi := Lib.hid hfi
              go_wp2
              go_roundw
              case measure => simp [intOf]
              case rel =>
                rw [hv.out]
                exact ⟨10, by omega, rfl, mk.out.trans (Mod.one_setCell _ _ _ _), hset.out _ rfl⟩
            · have hv : (x.toNat : Int) / 256 % 256 = (y.toNat : Int) := by
                rw [hfi, BitVec.toNat_setWidth, BitVec.toNat_ushiftRight, Nat.shiftRight_eq_div_pow]
                show _ = ((x.toNat / 256 % 256 : Nat) : Int)
                omega
              replace hv := Lib.hid hv
              replace hfi := Lib.hid hfi
              go_wp2
              go_roundw
              case measure => simp [intOf]
              case rel =>
                rw [hv.out]
                exact ⟨11, by omega, rfl, mk.out.trans (Mod.one_setCell _ _ _ _), hset.out _ rfl⟩
            · have hv : (x.toNat : Int) % 256 = (y.toNat : Int) := by
                rw [hfi, BitVec.toNat_setWidth, BitVec.toNat_ushiftRight, Nat.shiftRight_eq_div_pow]
                show _ = ((x.toNat / 1 % 256 : Nat) : Int)
                omega
              replace hv := Lib.hid hv
              replace hfi := Lib.hid hfi
              go_wp2
              go_roundw
              case measure => simp [intOf]
              case rel =>
                rw [hv.out]
                exact ⟨12, by omega, rfl, mk.out.trans (Mod.one_setCell _ _ _ _), hset.out _ rfl⟩
            · have hv : (x.toNat : Int) / 16777216 = (y.toNat : Int) := by
                rw [hfi, BitVec.toNat_setWidth, BitVec.toNat_ushiftRight, Nat.shiftRight_eq_div_pow]
                show _ = ((x.toNat / 16777216 % 256 : Nat) : Int)
                omega
              replace hv := Lib.hid hv
              replace hfi := Lib.hid hfi
              go_wp2
              go_roundw
              case measure => simp [intOf]
              case rel =>
                rw [hv.out]
                exact ⟨13, by omega, rfl, mk.out.trans (Mod.one_setCell _ _ _ _), hset.out _ rfl⟩
            · have hv : (x.toNat : Int) / 65536 % 256 = (y.toNat : Int) := by
                rw [hfi, BitVec.toNat_setWidth, BitVec.toNat_ushiftRight, Nat.shiftRight_eq_div_pow]
                show _ = ((x.toNat / 65536 % 256 : Nat) : Int)
                omega
              replace hv := Lib.hid hv
              replace hfi := Lib.hid hfi
              go_wp2
              go_roundw
              case measure => simp [intOf]
              case rel =>
                rw [hv.out]
                exact ⟨14, by omega, rfl, mk.out.trans (Mod.one_setCell _ _ _ _), hset.out _ rfl⟩
            · have hv : (x.toNat : Int) / 256 % 256 = (y.toNat : Int) := by
                rw [hfi, BitVec.toNat_setWidth, BitVec.toNat_ushiftRight, Nat.shiftRight_eq_div_pow]
                show _ = ((x.toNat / 256 % 256 : Nat) : Int)
                omega
              replace hv := Lib.hid hv
              replace hfi := Lib.hid hfi
              go_wp2
              go_roundw
              case measure => simp [intOf]
              case rel =>
                rw [hv.out]
                exact ⟨15, by omega, rfl, mk.out.trans (Mod.one_setCell _ _ _ _), hset.out _ rfl⟩
            · have hv : (x.toNat : Int) % 256 = (y.toNat : Int) := by
                rw [hfi, BitVec.toNat_setWidth, BitVec.toNat_ushiftRight, Nat.shiftRight_eq_div_pow]
                show _ = ((x.toNat / 1 % 256 : Nat) : Int)
                omega
              replace hv := Lib.hid hv
              replace hfi := Lib.hid hfi
              go_wp2
              go_roundw
              case measure => simp [intOf]
              case rel =>
                rw [hv.out]
                exact ⟨16, by omega, rfl, mk.out.trans (Mod.one_setCell _ _ _ _), hset.out _ rfl⟩
            · have hv : (x.toNat : Int) / 16777216 = (y.toNat : Int) := by
                rw [hfi, BitVec.toNat_setWidth, BitVec.toNat_ushiftRight, Nat.shiftRight_eq_div_pow]
                show _ = ((x.toNat / 16777216 % 256 : Nat) : Int)
                omega
              replace hv := Lib.hid hv
              replace hfi := Lib.hid hfi
              go_wp2
              go_roundw
              case measure => simp [intOf]
              case rel =>
                rw [hv.out]
                exact ⟨17, by omega, rfl, mk.out.trans (Mod.one_setCell _ _ _ _), hset.out _ rfl⟩
            · have hv : (x.toNat : Int) / 65536 % 256 = (y.toNat : Int) := by
                rw [hfi, BitVec.toNat_setWidth, BitVec.toNat_ushiftRight, Nat.shiftRight_eq_div_pow]
                show _ = ((x.toNat / 65536 % 256 : Nat) : Int)
                omega
              replace hv := Lib.hid hv
              replace hfi := Lib.hid hfi
              go_wp2
              go_roundw
              case measure => simp [intOf]
              case rel =>
                rw [hv.out]
                exact ⟨18, by omega, rfl, mk.out.trans (Mod.one_setCell _ _ _ _), hset.out _ rfl⟩
            · have hv : (x.toNat : Int) / 256 % 256 = (y.toNat : Int) := by
                rw [hfi, BitVec.toNat_setWidth, BitVec.toNat_ushiftRight, Nat.shiftRight_eq_div_pow]
                show _ = ((x.toNat / 256 % 256 : Nat) : Int)
                omega
              replace hv := Lib.hid hv
              replace hfi := Lib.hid hfi
              go_wp2
              go_roundw
              case measure => simp [intOf]
              case rel =>
                rw [hv.out]
                exact ⟨19, by omega, rfl, mk.out.trans (Mod.one_setCell _ _ _ _), hset.out _ rfl⟩
            · have hv : (x.toNat : Int) % 256 = (y.toNat : Int) := by
                rw [hfi, BitVec.toNat_setWidth, BitVec.toNat_ushiftRight, Nat.shiftRight_eq_div_pow]
                show _ = ((x.toNat / 1 % 256 : Nat) : Int)
                omega
              replace hv := Lib.hid hv
              replace hfi := Lib.hid hfi
              go_wp2
              go_roundw
              case measure => simp [intOf]
              case rel =>
                rw [hv.out]
                exact ⟨20, by omega, rfl, mk.out.trans (Mod.one_setCell _ _ _ _), hset.out _ rfl⟩
            · have hv : (x.toNat : Int) / 16777216 = (y.toNat : Int) := by
                rw [hfi, BitVec.toNat_setWidth, BitVec.toNat_ushiftRight, Nat.shiftRight_eq_div_pow]
                show _ = ((x.toNat / 16777216 % 256 : Nat) : Int)
                omega
              replace hv := Lib.hid hv
              replace hfi := Lib.hid hfi
              go_wp2
              go_roundw
              case measure => simp [intOf]
              case rel =>
                rw [hv.out]
                exact ⟨21, by omega, rfl, mk.out.trans (Mod.one_setCell _ _ _ _), hset.out _ rfl⟩
            · have hv : (x.toNat : Int) / 65536 % 256 = (y.toNat : Int) := by
                rw [hfi, BitVec.toNat_setWidth, BitVec.toNat_ushiftRight, Nat.shiftRight_eq_div_pow]
                show _ = ((x.toNat / 65536 % 256 : Nat) : Int)
                omega
              replace hv := Lib.hid hv
              replace hfi := Lib.hid hfi
              go_wp2
              go_roundw
              case measure => simp [intOf]
              case rel =>
                rw [hv.out]
                exact ⟨22, by omega, rfl, mk.out.trans (Mod.one_setCell _ _ _ _), hset.out _ rfl⟩
            · have hv : (x.toNat : Int) / 256 % 256 = (y.toNat : Int) := by
                rw [hfi, BitVec.toNat_setWidth, BitVec.toNat_ushiftRight, Nat.shiftRight_eq_div_pow]
                show _ = ((x.toNat / 256 % 256 : Nat) : Int)
                omega
              replace hv := Lib.hid hv
              replace hfi := Lib.hid hfi
              go_wp2
              go_roundw
              case measure => simp [intOf]
              case rel =>
                rw [hv.out]
                exact ⟨23, by omega, rfl, mk.out.trans (Mod.one_setCell _ _ _ _), hset.out _ rfl⟩
            · have hv : (x.toNat : Int) % 256 = (y.toNat : Int) := by
                rw [hfi, BitVec.toNat_setWidth, BitVec.toNat_ushiftRight, Nat.shiftRight_eq_div_pow]
                show _ = ((x.toNat / 1 % 256 : Nat) : Int)
                omega
              replace hv := Lib.hid hv
              replace hfi := Lib.hid hfi
              go_wp2
              go_roundw
              case measure => simp [intOf]
              case rel =>
                rw [hv.out]
                exact ⟨24, by omega, rfl, mk.out.trans (Mod.one_setCell _ _ _ _), hset.out _ rfl⟩
            · have hv : (x.toNat : Int) / 16777216 = (y.toNat : Int) := by
                rw [hfi, BitVec.toNat_setWidth, BitVec.toNat_ushiftRight, Nat.shiftRight_eq_div_pow]
                show _ = ((x.toNat / 16777216 % 256 : Nat) : Int)
                omega
              replace hv := Lib.hid hv
              replace hfi := Lib.hid hfi
              go_wp2
              go_roundw
              case measure => simp [intOf]
              case rel =>
                rw [hv.out]
                exact ⟨25, by omega, rfl, mk.out.trans (Mod.one_setCell _ _ _ _), hset.out _ rfl⟩
            · have hv : (x.toNat : Int) / 65536 % 256 = (y.toNat : Int) := by
                rw [hfi, BitVec.toNat_setWidth, BitVec.toNat_ushiftRight, Nat.shiftRight_eq_div_pow]
                show _ = ((x.toNat / 65536 % 256 : Nat) : Int)
                omega
              replace hv := Lib.hid hv
              replace hfi := Lib.hid hfi
              go_wp2
              go_roundw
              case measure => simp [intOf]
              case rel =>
                rw [hv.out]
                exact ⟨26, by omega, rfl, mk.out.trans (Mod.one_setCell _ _ _ _), hset.out _ rfl⟩
            · have hv : (x.toNat : Int) / 256 % 256 = (y.toNat : Int) := by
                rw [hfi, BitVec.toNat_setWidth, BitVec.toNat_ushiftRight, Nat.shiftRight_eq_div_pow]
                show _ = ((x.toNat / 256 % 256 : Nat) : Int)
                omega
              replace hv := Lib.hid hv
              replace hfi := Lib.hid hfi
              go_wp2
              go_roundw
              case measure => simp [intOf]
              case rel =>
                rw [hv.out]
                exact ⟨27, by omega, rfl, mk.out.trans (Mod.one_setCell _ _ _ _), hset.out _ rfl⟩
            · have hv : (x.toNat : Int) % 256 = (y.toNat : Int) := by
                rw [hfi, BitVec.toNat_setWidth, BitVec.toNat_ushiftRight, Nat.shiftRight_eq_div_pow]
                show _ = ((x.toNat / 1 % 256 : Nat) : Int)
                omega
              replace hv := Lib.hid hv
              replace hfi := Lib.hid hfi
              go_wp2
              go_roundw
              case measure => simp [intOf]
              case rel =>
                rw [hv.out]
                exact ⟨28, by omega, rfl, mk.out.trans (Mod.one_setCell _ _ _ _), hset.out _ rfl⟩
            · have hv : (x.toNat : Int) / 16777216 = (y.toNat : Int) := by
                rw [hfi, BitVec.toNat_setWidth, BitVec.toNat_ushiftRight, Nat.shiftRight_eq_div_pow]
                show _ = ((x.toNat / 16777216 % 256 : Nat) : Int)
                omega
              replace hv := Lib.hid hv
              replace hfi := Lib.hid hfi
              go_wp2
              go_roundw
              case measure => simp [intOf]
              case rel =>
                rw [hv.out]
                exact ⟨29, by omega, rfl, mk.out.trans (Mod.one_setCell _ _ _ _), hset.out _ rfl⟩
            · have hv : (x.toNat : Int) / 65536 % 256 = (y.toNat : Int) := by
                rw [hfi, BitVec.toNat_setWidth, BitVec.toNat_ushiftRight, Nat.shiftRight_eq_div_pow]
                show _ = ((x.toNat / 65536 % 256 : Nat) : Int)
                omega
              replace hv := Lib.hid hv
              replace hfi := Lib.hid hfi
              go_wp2
              go_roundw
              case measure => simp [intOf]
              case rel =>
                rw [hv.out]
                exact ⟨30, by omega, rfl, mk.out.trans (Mod.one_setCell _ _ _ _), hset.out _ rfl⟩
            · have hv : (x.toNat : Int) / 256 % 256 = (y.toNat : Int) := by
                rw [hfi, BitVec.toNat_setWidth, BitVec.toNat_ushiftRight, Nat.shiftRight_eq_div_pow]
                show _ = ((x.toNat / 256 % 256 : Nat) : Int)
                omega
              replace hv := Lib.hid hv
              replace hfi := Lib.hid hfi
              go_wp2
              go_roundw
              case measure => simp [intOf]
              case rel =>
                rw [hv.out]
                exact ⟨31, by omega, rfl, mk.out.trans (Mod.one_setCell _ _ _ _), hset.out _ rfl⟩
            · have hv : (x.toNat : Int) % 256 = (y.toNat : Int) := by
                rw [hfi, BitVec.toNat_setWidth, BitVec.toNat_ushiftRight, Nat.shiftRight_eq_div_pow]
                show _ = ((x.toNat / 1 % 256 : Nat) : Int)
                omega
              replace hv := Lib.hid hv
              replace hfi := Lib.hid hfi
              go_wp2
              go_roundw
              case measure => simp [intOf]
              case rel =>
                rw [hv.out]
                exact ⟨32, by omega, rfl, mk.out.trans (Mod.one_setCell _ _ _ _), hset.out _ rfl⟩
          · have hk2 : k = 32 := by omega
            have hd2 : decide ((k : Int) < 32) = false := by rw [decide_eq_false_iff_not]; omega
            have bk0 : (0 : Int) ≤ (k : Int) := by omega
            rw [hk2, ← hsha.out] at xk
            have hsl2 := shaS_length b
            have ll := bytes_load xk hsl2
            obtain ⟨wz, sz, mz, xz⟩ := bytes_store (mk.heap x25B.out (by omega)) (s' := shaS b) (by decide) hsl2
            have hfin : Mod (fun _ => False) w wz := (m0B.out.trans' mk (fun k hk h => by have := hsz.out; omega)).trans' mz (fun k hk h => by have := hH.out; omega)
            obtain ⟨RR, hRR⟩ : ∃ RR, RR = shaS b := ⟨_, rfl⟩
            rw [← hRR] at hsl2 ll sz xz hsv xk
            replace hRR := Lib.hid hRR
            replace hfin := Lib.hid hfin
            replace hk2 := Lib.hid hk2
            replace xk := Lib.hid xk
            replace mk := Lib.hid mk
            clear mz hk hk32
            go_upto_region 19 with (fail)
            refine wp_region_lit ?_
            refine wpList_reads (by kernel_rfl) (.agg (encB RR)) (run_load_op rfl rfl ll) ?_
            simp only [Act.put, List.setIfInBounds_toArray, List.set_cons_zero, List.set_cons_succ]
            refine wpList_store_to rfl _ _ _ rfl _ _ _ rfl rfl _ sz ?_
            simp only [Act.put, List.setIfInBounds_toArray, List.set_cons_zero, List.set_cons_succ]
            refine wpList_reads (by kernel_rfl) (.int .i64 0) (by go_simp) ?_
            simp only [Act.put, List.setIfInBounds_toArray, List.set_cons_zero, List.set_cons_succ]
            go_wp2
            refine bodyPost_ret (v := .tuple #[.agg (encB RR), .int .i64 0]) (sum_results rfl _ _ _ _ _ rfl rfl xz hsl2) rfl ?_
            exact ⟨hfin.out, by rw [hsv.out]⟩
end Go.Proofs.YtppjnkgmbmhlcaaGreatDoor
