/-
  mailcoachref03.Expand: so many bytes of a key, by definition. Printed by gen/ref7.py.
-/
import Derived.Test.YtppjnkgmbmhlcaaGreatDoorR6
import Derived.Test.YtppjnkgmbmhlcaaGreatDoorMA
namespace Go.Proofs.YtppjnkgmbmhlcaaGreatDoor
set_option maxRecDepth 100000
open Go Go.RowKit Go.Lib
set_option linter.unusedSimpArgs false
set_option linter.unusedVariables false

theorem own_cutTo {w : World} {base M : Nat} {v : Value} {xs : List (BitVec 8)} (h : w.ownsRow base 5 1 v M (bytesV xs)) (N : Nat) (hN : N ≤ M) (hM : M ≤ 140737488355328) :
    ∃ v', (∀ w', (Instr.slice 22 v none (some (.int .i64 (N : Int))) none).run Tryz.prog w' = .ok v' w') ∧ w.ownsRow base 5 1 v' N (bytesV (xs.take N)) := by
  have hl : xs.length = M := by have := h.1; rw [bytesV_length] at this; omega
  have ht : (xs.take N).length = N := by rw [List.length_take]; omega
  rcases h.2 with ⟨rfl, rfl⟩ | ⟨g, cap, cur, rfl, hb, hg, hnc, hcm, hcs, htake⟩
  · obtain rfl : N = 0 := by omega
    refine ⟨.slice none 0 0, fun w' => by go_simp, ⟨by simp [bytesV], .inl ⟨rfl, rfl⟩⟩⟩
  · refine ⟨Go.sliced (some ⟨g, 0, none⟩) 0 N cap 1, fun w' => ?_, ?_⟩
    · rw [run_slice_h w' 22 _ M cap Tryz.underlying22 .i64 _ (by omega) (by simp only [maxLen] at hcm; omega), size_u8]
      rfl
    · rw [show Go.sliced (some ⟨g, 0, none⟩) 0 N cap 1 = .slice (some ⟨g, 0, none⟩) N cap by simp [Go.sliced, Addr.add]]
      refine ⟨by rw [bytesV_length, ht, Nat.mul_one], .inr ⟨g, cap, cur, rfl, hb, hg, by omega, hcm, hcs, ?_⟩⟩
      rw [Nat.mul_one] at htake ⊢
      rw [show cur.toList.take N = (cur.toList.take M).take N by rw [List.take_take, Nat.min_eq_left hN], htake]
      simp [bytesV, List.map_take]

set_option maxRecDepth 100000 in
set_option maxHeartbeats 4000000 in
theorem refexpand_any (vk vi : Value) (k info : List (BitVec 8)) (n : Int) (w : World) (hk : ByteAt w vk k) (hi : ByteAt w vi info) (hkl : k.length < 4611686018427387904) (hil : info.length < 4611686018427387904) (hn1 : -9223372036854775808 ≤ n) (hn2 : n ≤ 9223372036854775807) :
    Calls Tryz.prog 105 #[vk, vi, .int .i64 n] w (ExpEnd k info n w) := by
  obtain ⟨ak, ck, rfl, _⟩ := hk.slice
  obtain ⟨ai, ci, rfl, _⟩ := hi.slice
  obtain ⟨m, hm⟩ : ∃ m, m = k.length := ⟨_, rfl⟩
  obtain ⟨p, hp⟩ : ∃ p, p = info.length := ⟨_, rfl⟩
  rw [← hm] at hk hkl ⊢
  rw [← hp] at hi hil ⊢
  have bm0 : (0 : Int) ≤ (m : Int) := by omega
  have bp0 : (0 : Int) ≤ (p : Int) := by omega
  replace hm := Lib.hid hm
  replace hp := Lib.hid hp
  replace hk := Lib.hid hk
  replace hi := Lib.hid hi
  go_enter Tryz.func105, Tryz.ntmps105
  by_cases hbad : n < 0 ∨ 8160 < n
  · have hfin : ExpEnd k info n w (.returned (.tuple #[.slice none 0 0, .int .i64 1])) w := ⟨Mod.refl _ _, by rw [if_pos hbad]⟩
    replace hfin := Lib.hid hfin
    by_cases hneg : n < 0
    · have hd : decide (n < 0) = true := by rw [decide_eq_true_iff]; exact hneg
      clear hbad
      go_wp2
      refine bodyPost_ret (results_tmp2 rfl _ _ _) rfl ?_
      exact hfin.out
    · have hd : decide (n < 0) = false := by rw [decide_eq_false_iff_not]; exact hneg
      have hd2 : decide (8160 < n) = true := by rw [decide_eq_true_iff]; omega
      clear hbad
      go_wp2
      refine bodyPost_ret (results_tmp2 rfl _ _ _) rfl ?_
      exact hfin.out
  · obtain ⟨N, rfl⟩ : ∃ N : Nat, n = (N : Int) := ⟨n.toNat, by omega⟩
    have hN : N ≤ 8160 := by omega
    have bN : (N : Int) ≤ 8160 := by omega
    have bN0 : (0 : Int) ≤ (N : Int) := by omega
    have hd : decide ((N : Int) < 0) = false := by rw [decide_eq_false_iff_not]; omega
    have hd2 : decide ((8160 : Int) < (N : Int)) = false := by rw [decide_eq_false_iff_not]; omega
    have hnb := hbad
    replace hnb := Lib.hid hnb
    clear hbad hn1 hn2
    by_cases hlim : 1048576 < m ∨ 1048479 < p
    · have hfin : ExpEnd k info (N : Int) w (.returned (.tuple #[.slice none 0 0, .int .i64 3])) w := ⟨Mod.refl _ _, by rw [if_neg hnb.out, if_pos (by rw [← hm.out, ← hp.out]; exact hlim)]⟩
      replace hfin := Lib.hid hfin
      replace hN := Lib.hid hN
      by_cases hm1 : 1048576 < m
      · have hd3 : decide ((1048576 : Int) < (m : Int)) = true := by rw [decide_eq_true_iff]; omega
        clear hlim hm1
        go_wp2
        refine bodyPost_ret (results_tmp2 rfl _ _ _) rfl ?_
        exact hfin.out
      · have hd3 : decide ((1048576 : Int) < (m : Int)) = false := by rw [decide_eq_false_iff_not]; omega
        have hd4 : decide ((1048479 : Int) < (p : Int)) = true := by rw [decide_eq_true_iff]; omega
        clear hlim hm1
        go_wp2
        refine bodyPost_ret (results_tmp2 rfl _ _ _) rfl ?_
        exact hfin.out
    · have hml : m ≤ 1048576 := by omega
      have hpl : p ≤ 1048479 := by omega
      have hd3 : decide ((1048576 : Int) < (m : Int)) = false := by rw [decide_eq_false_iff_not]; omega
      have hd4 : decide ((1048479 : Int) < (p : Int)) = false := by rw [decide_eq_false_iff_not]; omega
      have hend : ∀ v w', Mod (fun _ => False) w w' → w'.ownsRow w.heap.size 5 1 v N (bytesV (expandB (keyS k) info N)) → ExpEnd k info (N : Int) w (.returned (.tuple #[v, .int .i64 0])) w' := fun v w' h1 h2 => ⟨h1, by rw [if_neg hnb.out, if_neg (by rw [← hm.out, ← hp.out]; exact hlim)]; exact ⟨v, rfl, h2⟩⟩
      obtain ⟨K, hK⟩ : ∃ K, K = keyS k := ⟨_, rfl⟩
      rw [← hK] at hend
      obtain ⟨nT, hnT⟩ : ∃ nT, nT = (N + 31) / 32 := ⟨_, rfl⟩
      have hnTl : nT ≤ 255 := by omega
      have hexp : expandB K info N = (outT K info nT).take N := by rw [hnT]; rfl
      rw [hexp] at hend
      replace hend := Lib.hid hend
      replace hml := Lib.hid hml
      replace hpl := Lib.hid hpl
      replace hK := Lib.hid hK
      replace hN := Lib.hid hN
      clear hlim hexp
      obtain ⟨z0, hz0⟩ : ∃ z, z = w.heap.size := ⟨_, rfl⟩
      replace hz0 := Lib.hid hz0
      replace hnT := Lib.hid hnT
      go_wp2
      go_loopg [8, 9, 10] nT (fun gh vo vt iv wr => ∃ j : Nat, j + gh = nT ∧ iv = .int .i64 ((j : Int) + 1) ∧ Mod (fun _ => False) w wr ∧ wr.ownsRow w.heap.size 5 1 vo (32 * j) (bytesV (outT K info j)) ∧ wr.ownsRow w.heap.size 5 1 vt (expT K info j).length (bytesV (expT K info j)) ∧ ∀ k, vo.ownBlock = some k → vt.ownBlock = some k → False)
      case atStart => exact ⟨0, by omega, rfl, Mod.refl _ _, World.ownsRow_nil _ _ _ _, World.ownsRow_nil _ _ _ _, fun k h => by cases h⟩
      case round =>
        obtain ⟨j, hjg, rfl, mr, owo, owt, hne⟩ := hrel
        have hol := outT_length K info j
        obtain ⟨ado, co, hvo, _⟩ := (byteAt_of_own owo).slice
        rw [hol] at hvo
        subst hvo
        have bj0 : (0 : Int) ≤ (j : Int) := by omega
        have bj : (j : Int) ≤ 255 := by omega
        obtain ⟨q, hq⟩ : ∃ q, q = 32 * j := ⟨_, rfl⟩
        rw [← hq] at owo hol hne ⊢
        have bq0 : (0 : Int) ≤ (q : Int) := by omega
        have bq : (q : Int) ≤ 8192 := by omega
        by_cases hlt : j < nT
        · have hdq : decide (q < N) = true := by rw [decide_eq_true_iff]; have := hnT.out; omega
          have hTl := expT_le K info j
          obtain ⟨adt, ct, hvt, _⟩ := (byteAt_of_own owt).slice
          subst hvt
          have hstep : expT K info (j + 1) = macS K (expT K info j ++ (info ++ [BitVec.ofNat 8 (j + 1)])) := rfl
          have hout := outT_succ K info j
          obtain ⟨Tj, hTj⟩ : ∃ t, t = expT K info j := ⟨_, rfl⟩
          obtain ⟨O, hO⟩ : ∃ t, t = outT K info j := ⟨_, rfl⟩
          rw [← hTj] at owt hTl hstep hne ⊢
          rw [← hO] at owo hol hout
          obtain ⟨L, hL⟩ : ∃ L, L = Tj.length := ⟨_, rfl⟩
          rw [← hL] at owt hTl hne ⊢
          have bL0 : (0 : Int) ≤ (L : Int) := by omega
          have hir := hi.out.mod mr (fun _ _ h => h)
          have hu8 : IntKind.u8.wrap ((j : Int) + 1) = (j : Int) + 1 := by rw [IntKind.wrap_u8]; omega
          replace hTj := Lib.hid hTj
          replace hO := Lib.hid hO
          replace hL := Lib.hid hL
          replace hstep := Lib.hid hstep
          replace hout := Lib.hid hout
          replace hlt := Lib.hid hlt
          replace hjg := Lib.hid hjg
          replace hq := Lib.hid hq
          replace hol := Lib.hid hol
          go_upto_region 10 with (fail)
          refine wp_region_lit ?_
          refine wpList_reads (by kernel_rfl) (.slice adt L ct) (by go_simp) ?_
          simp only [Act.put, List.setIfInBounds_toArray, List.set_cons_zero, List.set_cons_succ]
          refine wpList_reads (by kernel_rfl) (.slice ai p ci) (by go_simp) ?_
          simp only [Act.put, List.setIfInBounds_toArray, List.set_cons_zero, List.set_cons_succ]
          refine wpList_append_bytes2 rfl _ _ rfl w.heap.size L (.slice adt L ct) (.slice ai p ci) Tj info rfl rfl owt hir (by have := hpl.out; rw [← hp.out]; omega) mr.size ?_
          intro v1 w1 own1 grow1 nb1
          have p1 : Mod (fun k => (Value.slice adt L ct).ownBlock = some k) wr w1 := (Mod.refl _ _).grown grow1 (fun k hk _ => hk)
          have m1 : Mod (fun _ => False) w w1 := mr.trans' p1 (fun k hk h => by have h1 := (owt.lt k h).1; omega)
          have owo1 := ownsRow_block owo p1 (fun k hk h => hne k hk h)
          have hne1 : ∀ k, (Value.slice ado q co).ownBlock = some k → v1.ownBlock = some k → False := by
            intro k hk hk1
            rcases nb1 k hk1 with h | h
            · exact hne k hk h
            · have := (ownsRow_in owo hk).2; omega
          rw [← hp.out] at own1
          clear grow1 p1 nb1 owo owt hir mr hne
          simp only [Act.put, List.setIfInBounds_toArray, List.set_cons_zero, List.set_cons_succ]
          refine wpList_reads (by kernel_rfl) (v1) (by go_simp) ?_
          simp only [Act.put, List.setIfInBounds_toArray, List.set_cons_zero, List.set_cons_succ]
          obtain ⟨wa, hwa⟩ : ∃ xx_, xx_ = w1.alloc (.cells #[.int .u8 ((j : Int) + 1)] 5) := ⟨_, rfl⟩
          obtain ⟨ga, hga⟩ : ∃ g, g = w1.heap.size := ⟨_, rfl⟩
          have ma : Mod (fun _ => False) w1 wa := by rw [hwa]; exact (Mod.refl _ _).alloc _
          have xa : wa.heap[ga]? = some (.cells (encB [BitVec.ofNat 8 (j + 1)]) 5 (0,0)) := by
            rw [encB_uno _ (by have := hlt.out; omega), hwa, show ((j + 1 : Nat) : Int) = (j : Int) + 1 from by omega]
            exact hp_new _ _ _ hga
          have ba := ByteAt.row xa
          have owna := ownsRow_kept own1 ma (fun _ _ h => h)
          have owoa := ownsRow_kept owo1 ma (fun _ _ h => h)
          have m1a := m1.trans ma
          replace hwa := Lib.hid hwa
          replace hga := Lib.hid hga
          clear xa ma own1 owo1 m1
          go_upto_region 11 with (fail)
          refine wp_region_lit ?_
          refine wpList_reads (by kernel_rfl) (v1) (by go_simp) ?_
          simp only [Act.put, List.setIfInBounds_toArray, List.set_cons_zero, List.set_cons_succ]
          refine wpList_reads (by kernel_rfl) (.int .i64 ((j : Int) + 1)) (by go_simp) ?_
          simp only [Act.put, List.setIfInBounds_toArray, List.set_cons_zero, List.set_cons_succ]
          refine wpList_reads (by kernel_rfl) (.int .u8 ((j : Int) + 1)) (by go_simp) ?_
          simp only [Act.put, List.setIfInBounds_toArray, List.set_cons_zero, List.set_cons_succ]
          refine wpList_yields (by kernel_rfl) (.slice (some ⟨ga, 0, none⟩) 1 1) wa (by rw [hwa.out, hga.out]; go_simp) ?_
          simp only [Act.put, List.setIfInBounds_toArray, List.set_cons_zero, List.set_cons_succ]
          refine wpList_append_bytes2 rfl _ _ rfl w.heap.size (L + p) v1 (.slice (some ⟨ga, 0, none⟩) 1 1) (Tj ++ info) [BitVec.ofNat 8 (j + 1)] rfl rfl owna ba (by have := hpl.out; simp; omega) m1a.size ?_
          intro v2 w2 own2 grow2 nb2
          have p2 : Mod (fun k => v1.ownBlock = some k) wa w2 := (Mod.refl _ _).grown grow2 (fun k hk _ => hk)
          have m2 : Mod (fun _ => False) w w2 := m1a.trans' p2 (fun k hk h => by have h1 := (owna.lt k h).1; omega)
          have owo2 := ownsRow_block owoa p2 (fun k hk h => hne1 k hk h)
          have b2 := byteAt_of_own own2
          rw [List.append_assoc] at b2
          have hYl : (Tj ++ (info ++ [BitVec.ofNat 8 (j + 1)])).length = L + p + 1 := by rw [List.length_append, List.length_append, ← hL.out, ← hp.out]; simp; omega
          have hk2 := hk.out.mod m2 (fun _ _ h => h)
          clear grow2 p2 nb2 own2 owna owoa m1a ba hne1
          simp only [Act.put, List.setIfInBounds_toArray, List.set_cons_zero, List.set_cons_succ]
          refine wpList_reads (by kernel_rfl) (v2) (by go_simp) ?_
          simp only [Act.put, List.setIfInBounds_toArray, List.set_cons_zero, List.set_cons_succ]
          go_upto_region 12 with (fail)
          refine wp_region_lit ?_
          refine wpList_reads (by kernel_rfl) (.slice ak m ck) (by go_simp) ?_
          simp only [Act.put, List.setIfInBounds_toArray, List.set_cons_zero, List.set_cons_succ]
          refine wpList_reads (by kernel_rfl) (v2) (by go_simp) ?_
          simp only [Act.put, List.setIfInBounds_toArray, List.set_cons_zero, List.set_cons_succ]
          refine wpList_enter (by kernel_rfl) 121 #[.slice ak m ck, v2] (by go_simp) (refmac_any _ _ k (Tj ++ (info ++ [BitVec.ofNat 8 (j + 1)])) w2 hk2 b2 (by rw [← hm.out]; exact hml.out) (by rw [hYl]; have := hpl.out; omega)) ?_
          rintro e w3 ⟨m3, rfl⟩
          rw [← hK.out, ← hstep.out]
          obtain ⟨H, hH⟩ : ∃ H, H = expT K info (j + 1) := ⟨_, rfl⟩
          have hHl : H.length = 32 := by rw [hH]; exact expT_length _ _ _
          rw [← hH] at hout ⊢
          have owo3 := ownsRow_kept owo2 m3 (fun _ _ h => h)
          obtain ⟨wa8, hw8⟩ : ∃ x, x = w3.alloc (.cells (encB (zb 32)) 62) := ⟨_, rfl⟩
          obtain ⟨g8, hg8⟩ : ∃ g, g = w3.heap.size := ⟨_, rfl⟩
          have ma8 : Mod (fun _ => False) w3 wa8 := by rw [hw8]; exact (Mod.refl _ _).alloc _
          have xa8 : wa8.heap[g8]? = some (.cells (encB (zb 32)) 62 (0,0)) := by rw [hw8]; exact hp_new _ _ _ hg8
          obtain ⟨w8, st8, na8, x8⟩ := bytes_store xa8 (s' := H) (by decide) hHl
          have m8 : Mod (fun _ => False) w3 w8 := ma8.trans' na8 (fun k hk h => by omega)
          replace hw8 := Lib.hid hw8
          replace hg8 := Lib.hid hg8
          replace x8 := Lib.hid x8
          clear ma8 xa8 na8
          have m08 := (m2.trans m3).trans m8
          have owo8 := ownsRow_kept owo3 m8 (fun _ _ h => h)
          replace hH := Lib.hid hH
          clear m2 m3 m8 owo2 owo3 b2 hk2 hYl
          refine ⟨_, rfl, ?_⟩
          simp only [Act.put, List.setIfInBounds_toArray, List.set_cons_zero, List.set_cons_succ]
          refine wpList_yields (by kernel_rfl) _ _ (alloc_arr 62 _ zero32 _ _ _ rfl) ?_
          simp only [Act.put, List.setIfInBounds_toArray, List.set_cons_zero, List.set_cons_succ]
          rw [← hg8.out, ← hw8.out]
          refine wpList_store_to rfl _ _ _ rfl _ _ _ rfl rfl _ st8 ?_
          simp only [Act.put, List.setIfInBounds_toArray, List.set_cons_zero, List.set_cons_succ]
          obtain ⟨wz, hwz⟩ : ∃ x, x = w8.alloc (.cells #[] 5) := ⟨_, rfl⟩
          obtain ⟨gz, hgz⟩ : ∃ g, g = w8.heap.size := ⟨_, rfl⟩
          have mz : Mod (fun _ => False) w8 wz := by rw [hwz]; exact (Mod.refl _ _).alloc _
          have ownz : wz.ownsRow w.heap.size 5 1 (.slice (some ⟨gz, 0, none⟩) 0 0) 0 (bytesV []) := by
            rw [hwz, hgz]
            exact World.ownsRow_lit w8 #[] 0 m08.size (by decide) rfl
          have x8z := mz.heap x8.out (fun h => h)
          have bHz := ByteAt.row x8z
          rw [hHl] at bHz
          have h8z : g8 < gz := by rw [hgz]; exact lt_of_heap x8.out
          have m0z := m08.trans mz
          have owoz := ownsRow_kept owo8 mz (fun _ _ h => h)
          have hob : ∀ k, (Value.slice ado q co).ownBlock = some k → k < gz := fun k hk => by rw [hgz]; exact (ownsRow_in owo8 hk).2
          replace hwz := Lib.hid hwz
          replace hgz := Lib.hid hgz
          clear mz m08 owo8 x8
          go_upto_region 13 with (fail)
          refine wp_region_lit ?_
          refine wpList_yields (by kernel_rfl) (.slice (some ⟨gz, 0, none⟩) 0 0) wz (by rw [hwz.out, hgz.out]; go_simp) ?_
          simp only [Act.put, List.setIfInBounds_toArray, List.set_cons_zero, List.set_cons_succ]
          refine wpList_reads (by kernel_rfl) (.slice (some ⟨g8, 0, none⟩) 32 32) (by go_simp) ?_
          simp only [Act.put, List.setIfInBounds_toArray, List.set_cons_zero, List.set_cons_succ]
          refine wpList_append_bytes2 rfl _ _ rfl w.heap.size 0 (.slice (some ⟨gz, 0, none⟩) 0 0) (.slice (some ⟨g8, 0, none⟩) 32 32) [] H rfl rfl ownz bHz (by omega) m0z.size ?_
          intro v9 w9 own9 grow9 nb9
          have p9 : Mod (fun k => k = gz) wz w9 := (Mod.refl _ _).grown grow9 (fun k hk _ => by injection hk with hk; exact hk.symm)
          have m9 : Mod (fun _ => False) w w9 := m0z.trans' p9 (fun k hk h => by have h1 := (ownz.lt gz rfl).1; omega)
          have owo9 := ownsRow_block owoz p9 (fun k hk h => by have := hob k hk; omega)
          have x89 := p9.heap x8z (by omega)
          have bH9 := ByteAt.row x89
          rw [hHl] at bH9
          have hne9 : ∀ k, v9.ownBlock = some k → gz ≤ k := by
            intro k hk
            rcases nb9 k hk with h | h
            · have h' : gz = k := by injection h
              omega
            · have := (ownz.lt gz rfl).2; omega
          rw [Nat.zero_add, List.nil_append] at own9
          clear grow9 p9 nb9 ownz owoz m0z bHz x8z x89
          simp only [Act.put, List.setIfInBounds_toArray, List.set_cons_zero, List.set_cons_succ]
          refine wpList_reads (by kernel_rfl) (v9) (by go_simp) ?_
          simp only [Act.put, List.setIfInBounds_toArray, List.set_cons_zero, List.set_cons_succ]
          go_upto_region 14 with (fail)
          refine wp_region_lit ?_
          refine wpList_reads (by kernel_rfl) (.slice ado q co) (by go_simp) ?_
          simp only [Act.put, List.setIfInBounds_toArray, List.set_cons_zero, List.set_cons_succ]
          refine wpList_reads (by kernel_rfl) (.slice (some ⟨g8, 0, none⟩) 32 32) (by go_simp) ?_
          simp only [Act.put, List.setIfInBounds_toArray, List.set_cons_zero, List.set_cons_succ]
          refine wpList_append_bytes2 rfl _ _ rfl w.heap.size q (.slice ado q co) (.slice (some ⟨g8, 0, none⟩) 32 32) O H rfl rfl owo9 bH9 (by omega) m9.size ?_
          intro vA wA ownA growA nbA
          have pA : Mod (fun k => (Value.slice ado q co).ownBlock = some k) w9 wA := (Mod.refl _ _).grown growA (fun k hk _ => hk)
          have mA : Mod (fun _ => False) w wA := m9.trans' pA (fun k hk h => by have h1 := (owo9.lt k h).1; omega)
          have owtA := ownsRow_block own9 pA (fun k hk h => by have h1 := hne9 k hk; have h2 := hob k h; omega)
          have hneA : ∀ k, vA.ownBlock = some k → v9.ownBlock = some k → False := by
            intro k hk hk9
            rcases nbA k hk with h | h
            · have h1 := hne9 k hk9; have h2 := hob k h; omega
            · have := (ownsRow_in own9 hk9).2; omega
          rw [← hout.out, hHl] at ownA
          have hHe : H = expT K info (j + 1) := hH.out
          replace ownA := Lib.hid ownA
          replace owtA := Lib.hid owtA
          replace mA := Lib.hid mA
          replace hneA := Lib.hid hneA
          replace hHe := Lib.hid hHe
          clear growA pA nbA own9 owo9 m9 bH9 hne9 hob
          simp only [Act.put, List.setIfInBounds_toArray, List.set_cons_zero, List.set_cons_succ]
          refine wpList_reads (by kernel_rfl) (vA) (by go_simp) ?_
          simp only [Act.put, List.setIfInBounds_toArray, List.set_cons_zero, List.set_cons_succ]
          have hwj : IntKind.i64.wrap ((j : Int) + 1 + 1) = (j : Int) + 1 + 1 := by rw [IntKind.wrap_i64]; omega
          go_wp2
          go_roundg (gk - 1)
          case measure => have := hjg.out; have := hlt.out; omega
          case rel => exact ⟨j + 1, by have := hjg.out; have := hlt.out; omega, by go_num, mA.out, by rw [show 32 * (j + 1) = q + 32 by have := hq.out; omega]; exact ownA.out, by rw [← hHe.out]; exact owtA.out, hneA.out⟩
        · have hjn : j = nT := by omega
          have hdq : decide (q < N) = false := by rw [decide_eq_false_iff_not]; have := hnT.out; omega
          obtain ⟨vf, hcut, ownf⟩ := own_cutTo owo N (by have := hnT.out; omega) (by omega)
          rw [hjn] at ownf
          have hfin := hend.out vf wr mr ownf
          replace hfin := Lib.hid hfin
          replace hjn := Lib.hid hjn
          replace hq := Lib.hid hq
          replace hjg := Lib.hid hjg
          replace hlt := Lib.hid hlt
          clear ownf owo owt mr hne hol
          go_upto_region 15 with (fail)
          refine wp_region_lit ?_
          refine wpList_reads (by kernel_rfl) (.slice ado q co) (by go_simp) ?_
          simp only [Act.put, List.setIfInBounds_toArray, List.set_cons_zero, List.set_cons_succ]
          refine wpList_reads (by kernel_rfl) (.int .i64 (N : Int)) (by go_simp) ?_
          simp only [Act.put, List.setIfInBounds_toArray, List.set_cons_zero, List.set_cons_succ]
          refine wpList_reads (by kernel_rfl) (vf) (by have h := hcut wr; go_simp) ?_
          simp only [Act.put, List.setIfInBounds_toArray, List.set_cons_zero, List.set_cons_succ]
          refine wpList_reads (by kernel_rfl) (vf) (by go_simp) ?_
          simp only [Act.put, List.setIfInBounds_toArray, List.set_cons_zero, List.set_cons_succ]
          refine wpList_reads (by kernel_rfl) (.int .i64 0) (by go_simp) ?_
          simp only [Act.put, List.setIfInBounds_toArray, List.set_cons_zero, List.set_cons_succ]
          clear hcut
          go_wp2
          refine bodyPost_ret (results_tmp2 rfl _ _ _) rfl ?_
          exact hfin.out
end Go.Proofs.YtppjnkgmbmhlcaaGreatDoor
