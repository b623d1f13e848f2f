/-
  aead.Seal, aead.Open. Printed by gen/pa4.py.
-/
import Derived.Test.YtbiijcljpgannaaGreatDoorYh
namespace Go.Proofs.YtbiijcljpgannaaGreatDoor
set_option maxRecDepth 100000
open Go Go.RowKit Go.Lib
set_option linter.unusedSimpArgs false
set_option linter.unusedVariables false

theorem xorS_lenY (k n : List (BitVec 8)) (c : BitVec 32) (b : List (BitVec 8)) : (Cc.xorS k n c b).length = b.length := by simp [Cc.xorS]
theorem xor_own (key nonce : List (BitVec 8)) (hk : key.length = 32) (hn : nonce.length = 12) (v : Value) (bs : List (BitVec 8)) (w : World) (hb : ByteAt w v bs) (hlen : bs.length ≤ 1048576) :
    Calls Tryz.prog 18 #[.agg (encB key), .int .u32 1, .agg (encB nonce), v] w fun e w' => Mod (fun _ => False) w w' ∧ ∃ v, e = .returned (.tuple #[v, .int .i64 0]) ∧ w'.ownsRow w.heap.size 5 1 v bs.length (bytesV (Cc.xorS key nonce 1 bs)) := by
  refine (Cc.xor_any key nonce hk hn 1 v bs w hb hlen).mono ?_
  have h1 : (1 : BitVec 32).toNat = 1 := rfl
  rintro e w' ⟨m, ⟨h, _⟩ | ⟨_, h, rfl⟩ | ⟨_, _, g, hg, rfl, hr⟩⟩
  · omega
  · subst h
    exact ⟨m, _, rfl, rfl, .inl ⟨rfl, rfl⟩⟩
  · refine ⟨m, _, rfl, by rw [bytesV_length, xorS_lenY, Nat.mul_one], .inr ⟨g, bs.length, _, rfl, hg, hr, by omega, by unfold maxLen; omega, ?_, ?_⟩⟩
    · rw [encB_size, xorS_lenY]; omega
    · rw [List.take_of_length_le]
      · simp [encB, bytesV]
      · rw [Array.length_toList, encB_size, xorS_lenY]; omega

def sealE (k n p b : List (BitVec 8)) : Int := if k.length = 32 ∧ n.length = 12 then (if p.length ≤ 1048576 ∧ b.length ≤ 1048576 then 0 else 3) else 1
def sealS (k n p b : List (BitVec 8)) : List (BitVec 8) := Cc.xorS k n 1 p ++ aTag k n (Cc.xorS k n 1 p) b
def sealX (k n p b : List (BitVec 8)) : List (BitVec 8) := if k.length = 32 ∧ n.length = 12 ∧ p.length ≤ 1048576 ∧ b.length ≤ 1048576 then sealS k n p b else []
theorem sealS_length (k n p b : List (BitVec 8)) : (sealS k n p b).length = p.length + 16 := by rw [sealS, List.length_append, xorS_lenY, aTag_length]
def SealEnd (k n p b : List (BitVec 8)) (w : World) (e : Ending) (w' : World) : Prop :=
  Mod (fun _ => False) w w' ∧ ∃ v, e = .returned (.tuple #[v, .int .i64 (sealE k n p b)]) ∧ w'.ownsRow w.heap.size 5 1 v (sealX k n p b).length (bytesV (sealX k n p b))
theorem ownsNil (w : World) (B : Nat) : w.ownsRow B 5 1 (.slice none 0 0) ([] : List (BitVec 8)).length (bytesV []) := ⟨rfl, .inl ⟨rfl, rfl⟩⟩
theorem seal_end_bad {k n p b : List (BitVec 8)} {w w' : World} {E : Int} (hE : sealE k n p b = E) (h0 : E ≠ 0) (m : Mod (fun _ => False) w w') : SealEnd k n p b w (.returned (.tuple #[.slice none 0 0, .int .i64 E])) w' := by
  subst hE
  refine ⟨m, _, rfl, ?_⟩
  have : sealX k n p b = [] := by
    unfold sealX
    rw [if_neg]
    rintro ⟨h1, h2, h3, h4⟩
    exact h0 (by unfold sealE; rw [if_pos ⟨h1, h2⟩, if_pos ⟨h3, h4⟩])
  rw [this]
  exact ownsNil _ _
theorem listAt2 {w : World} {g : Nat} {t : TypeId} {v1 v2 : Value} {a1 a2 : List (BitVec 8)} (x : w.heap[g]? = some (.cells #[v1, v2] t (0,0))) (h1 : ByteAt w v1 a1) (h2 : ByteAt w v2 a2) : ListAt w (.slice (some ⟨g, 0, none⟩) 2 2) [a1, a2] := by
  refine ⟨g, 0, 2, rfl, fun j hj => ?_⟩
  simp only [List.length_cons, List.length_nil] at hj
  rw [cell_of_row _ _ _ _ _ _ x]
  match j, hj with
  | 0, _ => exact ⟨_, rfl, h1⟩
  | 1, _ => exact ⟨_, rfl, h2⟩
set_option maxRecDepth 100000 in
set_option maxHeartbeats 4000000 in
theorem seal_any (vk vn vp vb : Value) (k n p b : List (BitVec 8)) (hkl : k.length ≤ 140737488351232) (hnl : n.length ≤ 140737488351232) (hpl : p.length ≤ 140737488351232) (hbl : b.length ≤ 140737488351232) (w : World) (hk : ByteAt w vk k) (hn : ByteAt w vn n) (hp : ByteAt w vp p) (hb : ByteAt w vb b) :
    Calls Tryz.prog 8 #[vk, vn, vp, vb] w (SealEnd k n p b w) := by
  obtain ⟨NP, hNP⟩ : ∃ x, x = p.length := ⟨_, rfl⟩
  obtain ⟨NB, hNB⟩ : ∃ x, x = b.length := ⟨_, rfl⟩
  obtain ⟨ap, cp, rfl⟩ := hp.sliceN hNP.symm
  obtain ⟨ab, cb, rfl⟩ := hb.sliceN hNB.symm
  have bp0 : (0 : Int) ≤ (NP : Int) := by omega
  have bb0 : (0 : Int) ≤ (NB : Int) := by omega
  have m0 : Mod (fun _ => False) w w := Mod.refl _ _
  replace hNP := Lib.hid hNP
  replace hNB := Lib.hid hNB
  replace hkl := Lib.hid hkl
  replace hnl := Lib.hid hnl
  replace hpl := Lib.hid hpl
  replace hbl := Lib.hid hbl
  replace hk := Lib.hid hk
  replace hn := Lib.hid hn
  replace hp := Lib.hid hp
  replace hb := Lib.hid hb
  replace m0 := Lib.hid m0
  go_enter Tryz.func8, Tryz.ntmps8
  go_upto_region 1 with (fail)
  refine wp_region_lit ?_
  refine wpList_reads (by kernel_rfl) (vk) (by go_simp) ?_
  simp only [Act.put, List.setIfInBounds_toArray, List.set_cons_zero, List.set_cons_succ]
  refine wpList_reads (by kernel_rfl) (vn) (by go_simp) ?_
  simp only [Act.put, List.setIfInBounds_toArray, List.set_cons_zero, List.set_cons_succ]
  refine wpList_enter (by kernel_rfl) 17 #[vk, vn] (by go_simp) (of_any vk vn k n hkl.out hnl.out w hk.out hn.out) ?_
  rintro e w1 ⟨m1, S, hSl, hSe, rfl⟩
  obtain ⟨w2, hw2⟩ : ∃ x, x = w1.alloc (.cells (encB (List.replicate 44 0)) 52) := ⟨_, rfl⟩
  obtain ⟨g2, hg2⟩ : ∃ x, x = w1.heap.size := ⟨_, rfl⟩
  have m2 : Mod (fun _ => False) w1 w2 := by rw [hw2]; exact (Mod.refl _ _).alloc _
  have x2 : w2.heap[g2]? = some (.cells (encB (List.replicate 44 0)) 52 (0,0)) := by rw [hw2]; exact hp_new _ _ _ hg2
  obtain ⟨w3, s3, n3, x3⟩ := storeSL x2 (s' := S) (by simp) hSl
  have m13 : Mod (fun _ => False) w1 w3 := m2.trans' n3 (fun k hk h => by omega)
  have m03 := m1.trans m13
  have p3 := hp.out.mod m03 (fun _ _ h => h)
  have b3 := hb.out.mod m03 (fun _ _ h => h)
  replace hw2 := Lib.hid hw2
  replace hg2 := Lib.hid hg2
  replace x3 := Lib.hid x3
  replace m03 := Lib.hid m03
  replace p3 := Lib.hid p3
  replace b3 := Lib.hid b3
  replace hSe := Lib.hid hSe
  clear m1 m2 x2 n3 m13 hk hn hp hb
  by_cases hok : k.length = 32 ∧ n.length = 12
  · obtain ⟨hk32, hn12⟩ := hok
    obtain rfl := hSe.out hk32 hn12
    rw [show (decide (k.length = 32) && decide (n.length = 12)) = true by simp [hk32, hn12]]
    replace hk32 := Lib.hid hk32
    replace hn12 := Lib.hid hn12
    clear hSe
    refine ⟨_, rfl, ?_⟩
    simp only [Act.put, List.setIfInBounds_toArray, List.set_cons_zero, List.set_cons_succ]
    refine wpList_reads (by kernel_rfl) (.tuple #[.agg (encB (k ++ n)), .bool true]) (by go_simp) ?_
    simp only [Act.put, List.setIfInBounds_toArray, List.set_cons_zero, List.set_cons_succ]
    refine wpList_reads (by kernel_rfl) (.agg (encB (k ++ n))) (by go_simp) ?_
    simp only [Act.put, List.setIfInBounds_toArray, List.set_cons_zero, List.set_cons_succ]
    refine wpList_reads (by kernel_rfl) (.bool true) (by go_simp) ?_
    simp only [Act.put, List.setIfInBounds_toArray, List.set_cons_zero, List.set_cons_succ]
    refine wpList_yields (by kernel_rfl) _ _ (alloc_arrY 52 _ zeroSL _ _ _ rfl) ?_
    simp only [Act.put, List.setIfInBounds_toArray, List.set_cons_zero, List.set_cons_succ]
    rw [← hg2.out, ← hw2.out]
    refine wpList_store_to rfl _ _ _ rfl _ _ _ rfl rfl _ s3 ?_
    simp only [Act.put, List.setIfInBounds_toArray, List.set_cons_zero, List.set_cons_succ]
    refine wpList_reads (by kernel_rfl) (.bool true) (by go_simp) ?_
    simp only [Act.put, List.setIfInBounds_toArray, List.set_cons_zero, List.set_cons_succ]
    clear s3
    by_cases c1 : NP ≤ 1048576 ∧ NB ≤ 1048576
    · obtain ⟨c1, c2⟩ := c1
      have e1 : decide ((1048576 : Int) < (NP : Int)) = false := by rw [decide_eq_false_iff_not]; omega
      have e2 : decide ((1048576 : Int) < (NB : Int)) = false := by rw [decide_eq_false_iff_not]; omega
      have c1' := Lib.hid c1
      have c2' := Lib.hid c2
      clear c1 c2
      have lk := keySL x3.out hk32.out hn12.out
      have ln := nonceSL x3.out hk32.out hn12.out
      have ls := loadSL x3.out (by rw [List.length_append, hk32.out, hn12.out])
      go_upto_region 6 with (fail)
      refine wp_region_lit ?_
      refine wpList_reads (by kernel_rfl) (.pointer (some ⟨g2, 0, none⟩)) (by go_simp) ?_
      simp only [Act.put, List.setIfInBounds_toArray, List.set_cons_zero, List.set_cons_succ]
      refine wpList_reads (by kernel_rfl) (.agg (encB k)) (run_load_op rfl rfl lk) ?_
      simp only [Act.put, List.setIfInBounds_toArray, List.set_cons_zero, List.set_cons_succ]
      refine wpList_reads (by kernel_rfl) (.pointer (some ⟨g2, 32, none⟩)) (by go_simp) ?_
      simp only [Act.put, List.setIfInBounds_toArray, List.set_cons_zero, List.set_cons_succ]
      refine wpList_reads (by kernel_rfl) (.agg (encB n)) (run_load_op rfl rfl ln) ?_
      simp only [Act.put, List.setIfInBounds_toArray, List.set_cons_zero, List.set_cons_succ]
      refine wpList_reads (by kernel_rfl) (.slice ap NP cp) (by go_simp) ?_
      simp only [Act.put, List.setIfInBounds_toArray, List.set_cons_zero, List.set_cons_succ]
      refine wpList_enter (by kernel_rfl) 18 #[.agg (encB k), .int .u32 1, .agg (encB n), .slice ap NP cp] (by go_simp) (xor_own k n hk32.out hn12.out _ p w3 p3.out (by rw [← hNP.out]; exact c1'.out)) ?_
      rintro e w4 ⟨m4, vc, rfl, own4⟩
      obtain ⟨C, hC⟩ : ∃ C, C = Cc.xorS k n 1 p := ⟨_, rfl⟩
      rw [← hC, ← hNP.out] at own4
      have hCl : C.length = NP := by rw [hC, xorS_lenY, hNP.out]
      have b4 := b3.out.mod m4 (fun _ _ h => h)
      have x4 := m4.heap x3.out (fun h => h)
      have m04 := m03.out.trans m4
      have k4 := byteAt_of_own own4
      obtain ⟨ac, cc, rfl⟩ := k4.sliceN hCl
      have hzz := m03.out.size
      replace hC := Lib.hid hC
      replace hCl := Lib.hid hCl
      replace b4 := Lib.hid b4
      replace x4 := Lib.hid x4
      replace m04 := Lib.hid m04
      replace k4 := Lib.hid k4
      replace hzz := Lib.hid hzz
      clear lk ln ls p3 b3 x3 m4 own4
      have ls := loadSL x4.out (by rw [List.length_append, hk32.out, hn12.out])
      refine ⟨_, rfl, ?_⟩
      simp only [Act.put, List.setIfInBounds_toArray, List.set_cons_zero, List.set_cons_succ]
      refine wpList_reads (by kernel_rfl) (.tuple #[.slice ac NP cc, .int .i64 0]) (by go_simp) ?_
      simp only [Act.put, List.setIfInBounds_toArray, List.set_cons_zero, List.set_cons_succ]
      refine wpList_reads (by kernel_rfl) (.slice ac NP cc) (by go_simp) ?_
      simp only [Act.put, List.setIfInBounds_toArray, List.set_cons_zero, List.set_cons_succ]
      refine wpList_reads (by kernel_rfl) (.int .i64 0) (by go_simp) ?_
      simp only [Act.put, List.setIfInBounds_toArray, List.set_cons_zero, List.set_cons_succ]
      refine wpList_reads (by kernel_rfl) (.slice ac NP cc) (by go_simp) ?_
      simp only [Act.put, List.setIfInBounds_toArray, List.set_cons_zero, List.set_cons_succ]
      refine wpList_reads (by kernel_rfl) (.int .i64 0) (by go_simp) ?_
      simp only [Act.put, List.setIfInBounds_toArray, List.set_cons_zero, List.set_cons_succ]
      go_upto_region 9 with (fail)
      refine wp_region_lit ?_
      refine wpList_reads (by kernel_rfl) (.slice ac NP cc) (by go_simp) ?_
      simp only [Act.put, List.setIfInBounds_toArray, List.set_cons_zero, List.set_cons_succ]
      refine wpList_reads (by kernel_rfl) (.agg (encB (k ++ n))) (run_load_op rfl rfl ls) ?_
      simp only [Act.put, List.setIfInBounds_toArray, List.set_cons_zero, List.set_cons_succ]
      refine wpList_reads (by kernel_rfl) (.slice ac NP cc) (by go_simp) ?_
      simp only [Act.put, List.setIfInBounds_toArray, List.set_cons_zero, List.set_cons_succ]
      refine wpList_reads (by kernel_rfl) (.slice ab NB cb) (by go_simp) ?_
      simp only [Act.put, List.setIfInBounds_toArray, List.set_cons_zero, List.set_cons_succ]
      refine wpList_enter (by kernel_rfl) 20 #[.agg (encB (k ++ n)), .slice ac NP cc, .slice ab NB cb] (by go_simp) (stag_any k n hk32.out hn12.out _ _ C b (by rw [hCl.out]; have := c1'.out; omega) (by rw [← hNB.out]; have := c2'.out; omega) w4 k4.out b4.out) ?_
      rintro e w5 ⟨m5, g5, hg5, rfl, t5⟩
      obtain ⟨T, hT⟩ : ∃ T, T = aTag k n C b := ⟨_, rfl⟩
      rw [← hT] at t5
      have hTl : T.length = 16 := by rw [hT]; exact aTag_length _ _ _ _
      have kt5 : ByteAt w5 (.slice (some ⟨g5, 0, none⟩) 16 16) T := by
        have := ByteAt.row t5
        rw [hTl] at this
        exact this
      have kc5 := k4.out.mod m5 (fun _ _ h => h)
      have m05 := m04.out.trans m5
      obtain ⟨w6, hw6⟩ : ∃ x, x = w5.alloc (.cells #[.slice ac NP cc, .slice (some ⟨g5, 0, none⟩) 16 16] 22) := ⟨_, rfl⟩
      obtain ⟨g6, hg6⟩ : ∃ x, x = w5.heap.size := ⟨_, rfl⟩
      have m6 : Mod (fun _ => False) w5 w6 := by rw [hw6]; exact (Mod.refl _ _).alloc _
      have x6 : w6.heap[g6]? = some (.cells #[.slice ac NP cc, .slice (some ⟨g5, 0, none⟩) 16 16] 22 (0,0)) := by rw [hw6]; exact hp_new _ _ _ hg6
      have q6 := listAt2 x6 (kc5.mod m6 (fun _ _ h => h)) (kt5.mod m6 (fun _ _ h => h))
      have m06 := m05.trans m6
      replace hT := Lib.hid hT
      replace hTl := Lib.hid hTl
      replace hw6 := Lib.hid hw6
      replace hg6 := Lib.hid hg6
      replace q6 := Lib.hid q6
      replace m06 := Lib.hid m06
      clear m5 t5 kt5 kc5 m6 x6 m05 hg5
      refine ⟨_, rfl, ?_⟩
      simp only [Act.put, List.setIfInBounds_toArray, List.set_cons_zero, List.set_cons_succ]
      refine wpList_yields (by kernel_rfl) (.slice (some ⟨g6, 0, none⟩) 2 2) w6 (by rw [hw6.out, hg6.out]; go_simp) ?_
      simp only [Act.put, List.setIfInBounds_toArray, List.set_cons_zero, List.set_cons_succ]
      refine wpList_enter (by kernel_rfl) 19 #[.slice (some ⟨g6, 0, none⟩) 2 2] (by go_simp) (concat_any _ [C, T] w6 q6.out (by simp) (by simp [hCl.out, hTl.out]; have := c1'.out; omega)) ?_
      rintro e w7 ⟨m7, v7, rfl, own7⟩
      have hf : SealEnd k n p b w (.returned (.tuple #[v7, .int .i64 0])) w7 := by
        have hE : sealE k n p b = 0 := by unfold sealE; rw [if_pos ⟨hk32.out, hn12.out⟩, if_pos (by rw [← hNP.out, ← hNB.out]; exact ⟨c1'.out, c2'.out⟩)]
        have hX : sealX k n p b = [C, T].flatten := by
          unfold sealX sealS
          rw [if_pos ⟨hk32.out, hn12.out, by rw [← hNP.out]; exact c1'.out, by rw [← hNB.out]; exact c2'.out⟩, ← hC.out, ← hT.out]
          simp
        refine ⟨m06.out.trans m7, v7, by rw [hE], ?_⟩
        rw [hX]
        exact ownsRow_base0 own7 m06.out.size
      replace hf := Lib.hid hf
      clear m7 own7
      refine ⟨_, rfl, ?_⟩
      simp only [Act.put, List.setIfInBounds_toArray, List.set_cons_zero, List.set_cons_succ]
      refine wpList_reads (by kernel_rfl) (v7) (by go_simp) ?_
      simp only [Act.put, List.setIfInBounds_toArray, List.set_cons_zero, List.set_cons_succ]
      refine wpList_reads (by kernel_rfl) (.int .i64 0) (by go_simp) ?_
      simp only [Act.put, List.setIfInBounds_toArray, List.set_cons_zero, List.set_cons_succ]
      go_wp2
      go_ret2
      exact hf.out
    · have hE : sealE k n p b = 3 := by unfold sealE; rw [if_pos ⟨hk32.out, hn12.out⟩, if_neg (by rw [← hNP.out, ← hNB.out]; exact c1)]
      replace hE := Lib.hid hE
      by_cases c3 : NP ≤ 1048576
      · have e1 : decide ((1048576 : Int) < (NP : Int)) = false := by rw [decide_eq_false_iff_not]; omega
        have e2 : decide ((1048576 : Int) < (NB : Int)) = true := by rw [decide_eq_true_iff]; omega
        clear c1 c3
        go_wp2
        go_ret2
        exact seal_end_bad hE.out (by decide) m03.out
      · have e1 : decide ((1048576 : Int) < (NP : Int)) = true := by rw [decide_eq_true_iff]; omega
        clear c1 c3
        go_wp2
        go_ret2
        exact seal_end_bad hE.out (by decide) m03.out
  · refine ⟨_, rfl, ?_⟩
    rw [show (decide (k.length = 32) && decide (n.length = 12)) = false by simp; intro h1 h2; exact hok ⟨h1, h2⟩]
    simp only [Act.put, List.setIfInBounds_toArray, List.set_cons_zero, List.set_cons_succ]
    refine wpList_reads (by kernel_rfl) (.tuple #[.agg (encB S), .bool false]) (by go_simp) ?_
    simp only [Act.put, List.setIfInBounds_toArray, List.set_cons_zero, List.set_cons_succ]
    refine wpList_reads (by kernel_rfl) (.agg (encB S)) (by go_simp) ?_
    simp only [Act.put, List.setIfInBounds_toArray, List.set_cons_zero, List.set_cons_succ]
    refine wpList_reads (by kernel_rfl) (.bool false) (by go_simp) ?_
    simp only [Act.put, List.setIfInBounds_toArray, List.set_cons_zero, List.set_cons_succ]
    refine wpList_yields (by kernel_rfl) _ _ (alloc_arrY 52 _ zeroSL _ _ _ rfl) ?_
    simp only [Act.put, List.setIfInBounds_toArray, List.set_cons_zero, List.set_cons_succ]
    rw [← hg2.out, ← hw2.out]
    refine wpList_store_to rfl _ _ _ rfl _ _ _ rfl rfl _ s3 ?_
    simp only [Act.put, List.setIfInBounds_toArray, List.set_cons_zero, List.set_cons_succ]
    refine wpList_reads (by kernel_rfl) (.bool false) (by go_simp) ?_
    simp only [Act.put, List.setIfInBounds_toArray, List.set_cons_zero, List.set_cons_succ]
    clear s3
    have hE : sealE k n p b = 1 := by unfold sealE; rw [if_neg hok]
    clear hok hSe
    replace hE := Lib.hid hE
    go_wp2
    go_ret2
    exact seal_end_bad hE.out (by decide) m03.out

def openE (k n s b : List (BitVec 8)) : Int := if k.length = 32 ∧ n.length = 12 then (if s.length < 16 then 4 else if s.length ≤ 1048592 ∧ b.length ≤ 1048576 then (if aTag k n (s.take (s.length - 16)) b = s.drop (s.length - 16) then 0 else 11) else 3) else 1
def openX (k n s b : List (BitVec 8)) : List (BitVec 8) := if openE k n s b = 0 then Cc.xorS k n 1 (s.take (s.length - 16)) else []
def OpenEnd (k n s b : List (BitVec 8)) (w : World) (e : Ending) (w' : World) : Prop :=
  Mod (fun _ => False) w w' ∧ ∃ v, e = .returned (.tuple #[v, .int .i64 (openE k n s b)]) ∧ w'.ownsRow w.heap.size 5 1 v (openX k n s b).length (bytesV (openX k n s b))
theorem open_end_bad {k n s b : List (BitVec 8)} {w w' : World} {E : Int} (hE : openE k n s b = E) (h0 : E ≠ 0) (m : Mod (fun _ => False) w w') : OpenEnd k n s b w (.returned (.tuple #[.slice none 0 0, .int .i64 E])) w' := by
  subst hE
  refine ⟨m, _, rfl, ?_⟩
  rw [show openX k n s b = [] by unfold openX; rw [if_neg h0]]
  exact ownsNil _ _
theorem cut_op {P : Program} {ev : Operand → Value} {o : Oper} {t : TypeId} {x y : Operand} {ad : Option Addr} {n cap : Nat} {y' r : Value} {w : World} (ht : P.underlying t = some (.slice (P.elem t))) (ho : o.op = .slice t x none (some y) none) (hx : ev x = .slice ad n cap) (hy : ev y = y') (h : (Instr.slice t (.slice ad n cap) none (some y') none).run P w = .ok r w) : (execOp ev o).run P w = .ok (.value r) w := by
  unfold execOp; simp only [ho]; simp [hx, hy]
  have h' : Sem.run P (Instr.sliceAt t (.slice ad n cap) none (some y') none) w = .ok r w := by rw [run_sliceAt_slice (h := ht)]; exact h
  rw [h']; rfl
theorem cut_op2 {P : Program} {ev : Operand → Value} {o : Oper} {t : TypeId} {x y : Operand} {ad : Option Addr} {n cap : Nat} {y' r : Value} {w : World} (ht : P.underlying t = some (.slice (P.elem t))) (ho : o.op = .slice t x (some y) none none) (hx : ev x = .slice ad n cap) (hy : ev y = y') (h : (Instr.slice t (.slice ad n cap) (some y') none none).run P w = .ok r w) : (execOp ev o).run P w = .ok (.value r) w := by
  unfold execOp; simp only [ho]; simp [hx, hy]
  have h' : Sem.run P (Instr.sliceAt t (.slice ad n cap) (some y') none none) w = .ok r w := by rw [run_sliceAt_slice (h := ht)]; exact h
  rw [h']; rfl
set_option maxRecDepth 100000 in
set_option maxHeartbeats 4000000 in
theorem open_any (vk vn vp vb : Value) (k n p b : List (BitVec 8)) (hkl : k.length ≤ 140737488351232) (hnl : n.length ≤ 140737488351232) (hpl : p.length ≤ 140737488351232) (hbl : b.length ≤ 140737488351232) (w : World) (hk : ByteAt w vk k) (hn : ByteAt w vn n) (hp : ByteAt w vp p) (hb : ByteAt w vb b) :
    Calls Tryz.prog 15 #[vk, vn, vp, vb] w (OpenEnd k n p b w) := by
  obtain ⟨NP, hNP⟩ : ∃ x, x = p.length := ⟨_, rfl⟩
  obtain ⟨NB, hNB⟩ : ∃ x, x = b.length := ⟨_, rfl⟩
  obtain ⟨ap, cp, rfl⟩ := hp.sliceN hNP.symm
  obtain ⟨ab, cb, rfl⟩ := hb.sliceN hNB.symm
  have bp0 : (0 : Int) ≤ (NP : Int) := by omega
  have bb0 : (0 : Int) ≤ (NB : Int) := by omega
  have m0 : Mod (fun _ => False) w w := Mod.refl _ _
  replace hNP := Lib.hid hNP
  replace hNB := Lib.hid hNB
  replace hkl := Lib.hid hkl
  replace hnl := Lib.hid hnl
  replace hpl := Lib.hid hpl
  replace hbl := Lib.hid hbl
  replace hk := Lib.hid hk
  replace hn := Lib.hid hn
  replace hp := Lib.hid hp
  replace hb := Lib.hid hb
  replace m0 := Lib.hid m0
  go_enter Tryz.func15, Tryz.ntmps15
  go_upto_region 1 with (fail)
  refine wp_region_lit ?_
  refine wpList_reads (by kernel_rfl) (vk) (by go_simp) ?_
  simp only [Act.put, List.setIfInBounds_toArray, List.set_cons_zero, List.set_cons_succ]
  refine wpList_reads (by kernel_rfl) (vn) (by go_simp) ?_
  simp only [Act.put, List.setIfInBounds_toArray, List.set_cons_zero, List.set_cons_succ]
  refine wpList_enter (by kernel_rfl) 17 #[vk, vn] (by go_simp) (of_any vk vn k n hkl.out hnl.out w hk.out hn.out) ?_
  rintro e w1 ⟨m1, S, hSl, hSe, rfl⟩
  obtain ⟨w2, hw2⟩ : ∃ x, x = w1.alloc (.cells (encB (List.replicate 44 0)) 52) := ⟨_, rfl⟩
  obtain ⟨g2, hg2⟩ : ∃ x, x = w1.heap.size := ⟨_, rfl⟩
  have m2 : Mod (fun _ => False) w1 w2 := by rw [hw2]; exact (Mod.refl _ _).alloc _
  have x2 : w2.heap[g2]? = some (.cells (encB (List.replicate 44 0)) 52 (0,0)) := by rw [hw2]; exact hp_new _ _ _ hg2
  obtain ⟨w3, s3, n3, x3⟩ := storeSL x2 (s' := S) (by simp) hSl
  have m13 : Mod (fun _ => False) w1 w3 := m2.trans' n3 (fun k hk h => by omega)
  have m03 := m1.trans m13
  have p3 := hp.out.mod m03 (fun _ _ h => h)
  have b3 := hb.out.mod m03 (fun _ _ h => h)
  replace hw2 := Lib.hid hw2
  replace hg2 := Lib.hid hg2
  replace x3 := Lib.hid x3
  replace m03 := Lib.hid m03
  replace p3 := Lib.hid p3
  replace b3 := Lib.hid b3
  replace hSe := Lib.hid hSe
  clear m1 m2 x2 n3 m13 hk hn hp hb
  by_cases hok : k.length = 32 ∧ n.length = 12
  · obtain ⟨hk32, hn12⟩ := hok
    obtain rfl := hSe.out hk32 hn12
    rw [show (decide (k.length = 32) && decide (n.length = 12)) = true by simp [hk32, hn12]]
    replace hk32 := Lib.hid hk32
    replace hn12 := Lib.hid hn12
    clear hSe
    refine ⟨_, rfl, ?_⟩
    simp only [Act.put, List.setIfInBounds_toArray, List.set_cons_zero, List.set_cons_succ]
    refine wpList_reads (by kernel_rfl) (.tuple #[.agg (encB (k ++ n)), .bool true]) (by go_simp) ?_
    simp only [Act.put, List.setIfInBounds_toArray, List.set_cons_zero, List.set_cons_succ]
    refine wpList_reads (by kernel_rfl) (.agg (encB (k ++ n))) (by go_simp) ?_
    simp only [Act.put, List.setIfInBounds_toArray, List.set_cons_zero, List.set_cons_succ]
    refine wpList_reads (by kernel_rfl) (.bool true) (by go_simp) ?_
    simp only [Act.put, List.setIfInBounds_toArray, List.set_cons_zero, List.set_cons_succ]
    refine wpList_yields (by kernel_rfl) _ _ (alloc_arrY 52 _ zeroSL _ _ _ rfl) ?_
    simp only [Act.put, List.setIfInBounds_toArray, List.set_cons_zero, List.set_cons_succ]
    rw [← hg2.out, ← hw2.out]
    refine wpList_store_to rfl _ _ _ rfl _ _ _ rfl rfl _ s3 ?_
    simp only [Act.put, List.setIfInBounds_toArray, List.set_cons_zero, List.set_cons_succ]
    refine wpList_reads (by kernel_rfl) (.bool true) (by go_simp) ?_
    simp only [Act.put, List.setIfInBounds_toArray, List.set_cons_zero, List.set_cons_succ]
    clear s3
    by_cases c0 : NP < 16
    · have hE : openE k n p b = 4 := by unfold openE; rw [if_pos ⟨hk32.out, hn12.out⟩, if_pos (by rw [← hNP.out]; exact c0)]
      have e0 : decide ((NP : Int) + -16 < 0) = true := by rw [decide_eq_true_iff]; omega
      have e0' : decide ((NP : Int) - 16 < 0) = true := by rw [decide_eq_true_iff]; omega
      have bpx : (NP : Int) ≤ 140737488351232 := by have := hpl.out; rw [← hNP.out] at this; omega
      replace hE := Lib.hid hE
      go_wp2
      all_goals first | omega | skip
      go_ret2
      exact open_end_bad hE.out (by decide) m03.out
    · have bpx : (NP : Int) ≤ 140737488351232 := by have := hpl.out; rw [← hNP.out] at this; omega
      have c0' := Lib.hid c0
      obtain ⟨A, hA⟩ : ∃ A, A = NP - 16 := ⟨_, rfl⟩
      have hAi : (NP : Int) - 16 = (A : Int) := by omega
      have hbA : (A : Int) ≤ 140737488351232 := by omega
      have hbA0 : (0 : Int) ≤ (A : Int) := by omega
      have wrapA : IntKind.i64.wrap (A : Int) = (A : Int) := by rw [IntKind.wrap_i64]; omega
      replace hA := Lib.hid hA
      clear c0
      go_upto_region 2 with (fail)
      refine wp_region_lit ?_
      refine wpList_reads (by kernel_rfl) (.slice ap NP cp) (by go_simp) ?_
      simp only [Act.put, List.setIfInBounds_toArray, List.set_cons_zero, List.set_cons_succ]
      refine wpList_reads (by kernel_rfl) (.int .i64 (NP : Int)) (by go_simp) ?_
      simp only [Act.put, List.setIfInBounds_toArray, List.set_cons_zero, List.set_cons_succ]
      refine wpList_reads (by kernel_rfl) (.int .i64 (A : Int)) (by go_simp) ?_
      simp only [Act.put, List.setIfInBounds_toArray, List.set_cons_zero, List.set_cons_succ]
      refine wpList_reads (by kernel_rfl) (.int .i64 (A : Int)) (by go_simp) ?_
      simp only [Act.put, List.setIfInBounds_toArray, List.set_cons_zero, List.set_cons_succ]
      clear hAi
      have e0 : decide ((A : Int) < 0) = false := by rw [decide_eq_false_iff_not]; omega
      by_cases c1 : A ≤ 1048576 ∧ NB ≤ 1048576
      · obtain ⟨c1, c2⟩ := c1
        have e1 : decide ((1048576 : Int) < (A : Int)) = false := by rw [decide_eq_false_iff_not]; omega
        have e2 : decide ((1048576 : Int) < (NB : Int)) = false := by rw [decide_eq_false_iff_not]; omega
        have c1' : NP ≤ 1048592 := by have := hA.out; have := c0'.out; omega
        replace c1' := Lib.hid c1'
        have c2' := Lib.hid c2
        clear c1 c2
        have lsl := loadSL x3.out (by rw [List.length_append, hk32.out, hn12.out])
        obtain ⟨L, hL⟩ : ∃ L, L = p.take A := ⟨_, rfl⟩
        obtain ⟨R, hR⟩ : ∃ R, R = p.drop A := ⟨_, rfl⟩
        have hLl : L.length = A := by rw [hL, List.length_take, ← hNP.out, hA.out]; omega
        have hRl : R.length = 16 := by rw [hR, List.length_drop, ← hNP.out, hA.out]; have := c0'.out; omega
        obtain ⟨vl, kl3, rl⟩ := p3.out.cutTo A (by rw [hA.out]; omega)
        obtain ⟨vr, kr3, rr⟩ := p3.out.cutFrom A (by rw [hA.out]; omega)
        rw [← hL] at kl3
        rw [← hR] at kr3
        replace hL := Lib.hid hL
        replace hR := Lib.hid hR
        replace hLl := Lib.hid hLl
        replace hRl := Lib.hid hRl
        replace kl3 := Lib.hid kl3
        replace kr3 := Lib.hid kr3
        replace rl := Lib.hid rl
        replace rr := Lib.hid rr
        replace lsl := Lib.hid lsl
        go_upto_region 9 with (fail)
        refine wp_region_any (by kernel_rfl) (any_of_Z (S := fun W => Mod (fun _ => False) w3 W) (z := 99) _ _ _ _ ?_)
        simp only [List.size_toArray, List.length_cons, List.length_nil, Nat.reduceAdd, Array.replicate_succ, Array.replicate_zero, List.push_toArray, List.nil_append, List.cons_append]
        have md : Mod (fun _ => False) w3 w3.drew := (Mod.refl _ _).drew
        change anyZ _ _ _ _ _ _ _ _ _ w3.drew
        obtain ⟨wd, hwd⟩ : ∃ x, x = w3.drew := ⟨_, rfl⟩
        rw [← hwd] at md ⊢
        clear hwd
        refine anyZ_take 0 _ (some 37) (.agg (encB (k ++ n))) rfl (by kernel_rfl) (by kernel_rfl) (by kernel_rfl) (by kernel_rfl) (by kernel_rfl) (by decide) rfl (fun w' hS => ?_) md ?_
        · exact run_load_op rfl rfl (loadSL (hS.heap x3.out (fun h => h)) (by rw [List.length_append, hk32.out, hn12.out]))
        simp only [Act.put, List.setIfInBounds_toArray, List.set_cons_zero, List.set_cons_succ]
        refine anyZ_take 1 _ (some 38) (.slice ap NP cp) rfl (by kernel_rfl) (by kernel_rfl) (by kernel_rfl) (by kernel_rfl) (by kernel_rfl) (by decide) rfl (fun w' hS => ?_) md ?_
        · go_simp
        simp only [Act.put, List.setIfInBounds_toArray, List.set_cons_zero, List.set_cons_succ]
        refine anyZ_take 2 _ (some 39) (.int .i64 (A : Int)) rfl (by kernel_rfl) (by kernel_rfl) (by kernel_rfl) (by kernel_rfl) (by kernel_rfl) (by decide) rfl (fun w' hS => ?_) md ?_
        · go_simp
        simp only [Act.put, List.setIfInBounds_toArray, List.set_cons_zero, List.set_cons_succ]
        refine anyZ_take 3 _ (some 40) (vl) rfl (by kernel_rfl) (by kernel_rfl) (by kernel_rfl) (by kernel_rfl) (by kernel_rfl) (by decide) rfl (fun w' hS => ?_) md ?_
        · exact cut_op Tryz.underlying22 rfl rfl rfl (rl.out _)
        simp only [Act.put, List.setIfInBounds_toArray, List.set_cons_zero, List.set_cons_succ]
        refine anyZ_take 4 _ (some 41) (.slice ab NB cb) rfl (by kernel_rfl) (by kernel_rfl) (by kernel_rfl) (by kernel_rfl) (by kernel_rfl) (by decide) rfl (fun w' hS => ?_) md ?_
        · go_simp
        simp only [Act.put, List.setIfInBounds_toArray, List.set_cons_zero, List.set_cons_succ]
        refine anyZ_take 6 _ (some 43) (.slice ap NP cp) rfl (by kernel_rfl) (by kernel_rfl) (by kernel_rfl) (by kernel_rfl) (by kernel_rfl) (by decide) rfl (fun w' hS => ?_) md ?_
        · go_simp
        simp only [Act.put, List.setIfInBounds_toArray, List.set_cons_zero, List.set_cons_succ]
        refine anyZ_take 7 _ (some 44) (.int .i64 (A : Int)) rfl (by kernel_rfl) (by kernel_rfl) (by kernel_rfl) (by kernel_rfl) (by kernel_rfl) (by decide) rfl (fun w' hS => ?_) md ?_
        · go_simp
        simp only [Act.put, List.setIfInBounds_toArray, List.set_cons_zero, List.set_cons_succ]
        refine anyZ_take 8 _ (some 45) (vr) rfl (by kernel_rfl) (by kernel_rfl) (by kernel_rfl) (by kernel_rfl) (by kernel_rfl) (by decide) rfl (fun w' hS => ?_) md ?_
        · exact cut_op2 Tryz.underlying22 rfl rfl rfl (rr.out _)
        simp only [Act.put, List.setIfInBounds_toArray, List.set_cons_zero, List.set_cons_succ]
        refine anyZ_call 5 _ (some 42) rfl (by kernel_rfl) (by kernel_rfl) rfl 20 #[.agg (encB (k ++ n)), vl, .slice ab NB cb] (by go_simp) ?_
        refine (stag_any k n hk32.out hn12.out _ _ L b (by rw [hLl.out]; have := c1'.out; have := hA.out; omega) (by rw [← hNB.out]; have := c2'.out; omega) wd (kl3.out.mod md (fun _ _ h => h)) (b3.out.mod md (fun _ _ h => h))).mono ?_
        rintro e w5 ⟨m5, g5, hg5, rfl, t5⟩
        obtain ⟨T, hT⟩ : ∃ T, T = aTag k n L b := ⟨_, rfl⟩
        rw [← hT] at t5
        have hTl : T.length = 16 := by rw [hT]; exact aTag_length _ _ _ _
        have kt5 : ByteAt w5 (.slice (some ⟨g5, 0, none⟩) 16 16) T := by
          have := ByteAt.row t5
          rw [hTl] at this
          exact this
        have m35 := md.trans m5
        have kr5 := kr3.out.mod m35 (fun _ _ h => h)
        replace hT := Lib.hid hT
        replace hTl := Lib.hid hTl
        replace kt5 := Lib.hid kt5
        replace m35 := Lib.hid m35
        replace kr5 := Lib.hid kr5
        clear m5 t5 hg5 md
        refine ⟨_, rfl, fun _ => m35.out, ?_⟩
        simp only [Act.put, List.setIfInBounds_toArray, List.set_cons_zero, List.set_cons_succ]
        refine anyZ_call 9 _ (some 46) rfl (by kernel_rfl) (by kernel_rfl) rfl 62 #[.slice (some ⟨g5, 0, none⟩) 16 16, vr] (by go_simp) ?_
        refine (equal_any _ _ T R w5 kt5.out kr5.out (by rw [hTl.out]; omega) (by rw [hRl.out]; omega)).mono ?_
        rintro e w6 ⟨m6, rfl⟩
        have m36 := m35.out.trans m6
        replace m36 := Lib.hid m36
        clear m6
        refine ⟨_, rfl, fun _ => m36.out, ?_⟩
        simp only [Act.put, List.setIfInBounds_toArray, List.set_cons_zero, List.set_cons_succ]
        by_cases hq : T = R
        · rw [show decide (T = R) = true by simp [hq]]
          refine anyZ_next 10 _ (some 47) rfl (by kernel_rfl) (by kernel_rfl) rfl (.bool false) w6 (by go_simp) (fun _ => m36.out) ?_
          simp only [Act.put, List.setIfInBounds_toArray, List.set_cons_zero, List.set_cons_succ]
          refine anyZ_next 11 _ (some 36) rfl (by kernel_rfl) (by kernel_rfl) rfl (.bool false) w6 (by go_simp) (fun _ => m36.out) ?_
          simp only [Act.put, List.setIfInBounds_toArray, List.set_cons_zero, List.set_cons_succ]
          refine anyZ_done (by kernel_rfl) ?_ _
          have hE : openE k n p b = 0 := by
            unfold openE
            rw [← hNP.out, ← hNB.out, if_pos ⟨hk32.out, hn12.out⟩, if_neg (by have := c0'.out; omega), if_pos ⟨c1'.out, c2'.out⟩, ← hA.out, ← hL.out, ← hR.out, ← hT.out, if_pos hq]
          clear hq
          replace hE := Lib.hid hE
          have x6 := m36.out.heap x3.out (fun h => h)
          have kl6 := kl3.out.mod m36.out (fun _ _ h => h)
          have m06 := m03.out.trans m36.out
          replace x6 := Lib.hid x6
          replace kl6 := Lib.hid kl6
          replace m06 := Lib.hid m06
          go_upto_region 11 with (fail)
          refine wp_region_any (by kernel_rfl) (any_of_Z (S := fun W => Mod (fun _ => False) w6 W) (z := 99) _ _ _ _ ?_)
          simp only [List.size_toArray, List.length_cons, List.length_nil, Nat.reduceAdd, Array.replicate_succ, Array.replicate_zero, List.push_toArray, List.nil_append, List.cons_append]
          have md : Mod (fun _ => False) w6 w6.drew := (Mod.refl _ _).drew
          change anyZ _ _ _ _ _ _ _ _ _ w6.drew
          obtain ⟨wd2, hwd⟩ : ∃ x, x = w6.drew := ⟨_, rfl⟩
          rw [← hwd] at md ⊢
          clear hwd
          refine anyZ_take 0 _ (some 48) (.pointer (some ⟨g2, 0, none⟩)) rfl (by kernel_rfl) (by kernel_rfl) (by kernel_rfl) (by kernel_rfl) (by kernel_rfl) (by decide) rfl (fun w' hS => ?_) md ?_
          · go_simp
          simp only [Act.put, List.setIfInBounds_toArray, List.set_cons_zero, List.set_cons_succ]
          refine anyZ_take 1 _ (some 49) (.agg (encB k)) rfl (by kernel_rfl) (by kernel_rfl) (by kernel_rfl) (by kernel_rfl) (by kernel_rfl) (by decide) rfl (fun w' hS => ?_) md ?_
          · exact run_load_op rfl rfl (keySL (hS.heap x6.out (fun h => h)) hk32.out hn12.out)
          simp only [Act.put, List.setIfInBounds_toArray, List.set_cons_zero, List.set_cons_succ]
          refine anyZ_take 2 _ (some 50) (.pointer (some ⟨g2, 32, none⟩)) rfl (by kernel_rfl) (by kernel_rfl) (by kernel_rfl) (by kernel_rfl) (by kernel_rfl) (by decide) rfl (fun w' hS => ?_) md ?_
          · go_simp
          simp only [Act.put, List.setIfInBounds_toArray, List.set_cons_zero, List.set_cons_succ]
          refine anyZ_take 3 _ (some 51) (.agg (encB n)) rfl (by kernel_rfl) (by kernel_rfl) (by kernel_rfl) (by kernel_rfl) (by kernel_rfl) (by decide) rfl (fun w' hS => ?_) md ?_
          · exact run_load_op rfl rfl (nonceSL (hS.heap x6.out (fun h => h)) hk32.out hn12.out)
          simp only [Act.put, List.setIfInBounds_toArray, List.set_cons_zero, List.set_cons_succ]
          refine anyZ_take 4 _ (some 52) (.slice ap NP cp) rfl (by kernel_rfl) (by kernel_rfl) (by kernel_rfl) (by kernel_rfl) (by kernel_rfl) (by decide) rfl (fun w' hS => ?_) md ?_
          · go_simp
          simp only [Act.put, List.setIfInBounds_toArray, List.set_cons_zero, List.set_cons_succ]
          refine anyZ_take 5 _ (some 53) (.int .i64 (A : Int)) rfl (by kernel_rfl) (by kernel_rfl) (by kernel_rfl) (by kernel_rfl) (by kernel_rfl) (by decide) rfl (fun w' hS => ?_) md ?_
          · go_simp
          simp only [Act.put, List.setIfInBounds_toArray, List.set_cons_zero, List.set_cons_succ]
          refine anyZ_take 6 _ (some 54) (vl) rfl (by kernel_rfl) (by kernel_rfl) (by kernel_rfl) (by kernel_rfl) (by kernel_rfl) (by decide) rfl (fun w' hS => ?_) md ?_
          · exact cut_op Tryz.underlying22 rfl rfl rfl (rl.out _)
          simp only [Act.put, List.setIfInBounds_toArray, List.set_cons_zero, List.set_cons_succ]
          refine anyZ_call 7 _ (some 55) rfl (by kernel_rfl) (by kernel_rfl) rfl 18 #[.agg (encB k), .int .u32 1, .agg (encB n), vl] (by go_simp) ?_
          refine (xor_own k n hk32.out hn12.out _ L wd2 (kl6.out.mod md (fun _ _ h => h)) (by rw [hLl.out]; have := c1'.out; have := hA.out; omega)).mono ?_
          rintro e w7 ⟨m7, v7, rfl, own7⟩
          have m67 := md.trans m7
          have hf : OpenEnd k n p b w (.returned (.tuple #[v7, .int .i64 0])) w7 := by
            have hX : openX k n p b = Cc.xorS k n 1 L := by unfold openX; rw [if_pos hE.out, ← hNP.out, ← hA.out, ← hL.out]
            refine ⟨m06.out.trans m67, v7, by rw [hE.out], ?_⟩
            rw [hX, xorS_lenY]
            exact ownsRow_base0 own7 (Nat.le_trans m06.out.size md.size)
          replace hf := Lib.hid hf
          replace m67 := Lib.hid m67
          clear m7 own7 md
          refine ⟨_, rfl, fun _ => m67.out, ?_⟩
          simp only [Act.put, List.setIfInBounds_toArray, List.set_cons_zero, List.set_cons_succ]
          refine anyZ_take 8 _ (some 56) (v7) rfl (by kernel_rfl) (by kernel_rfl) (by kernel_rfl) (by kernel_rfl) (by kernel_rfl) (by decide) rfl (fun w' hS => ?_) m67.out ?_
          · go_simp
          simp only [Act.put, List.setIfInBounds_toArray, List.set_cons_zero, List.set_cons_succ]
          refine anyZ_take 9 _ (some 57) (.int .i64 0) rfl (by kernel_rfl) (by kernel_rfl) (by kernel_rfl) (by kernel_rfl) (by kernel_rfl) (by decide) rfl (fun w' hS => ?_) m67.out ?_
          · go_simp
          simp only [Act.put, List.setIfInBounds_toArray, List.set_cons_zero, List.set_cons_succ]
          refine anyZ_take 10 _ (some 8) (v7) rfl (by kernel_rfl) (by kernel_rfl) (by kernel_rfl) (by kernel_rfl) (by kernel_rfl) (by decide) rfl (fun w' hS => ?_) m67.out ?_
          · go_simp
          simp only [Act.put, List.setIfInBounds_toArray, List.set_cons_zero, List.set_cons_succ]
          refine anyZ_take 11 _ (some 9) (.int .i64 0) rfl (by kernel_rfl) (by kernel_rfl) (by kernel_rfl) (by kernel_rfl) (by kernel_rfl) (by decide) rfl (fun w' hS => ?_) m67.out ?_
          · go_simp
          simp only [Act.put, List.setIfInBounds_toArray, List.set_cons_zero, List.set_cons_succ]
          refine anyZ_done (by kernel_rfl) ?_ _
          go_wp2
          go_ret2
          exact hf.out
        · rw [show decide (T = R) = false by simp [hq]]
          refine anyZ_next 10 _ (some 47) rfl (by kernel_rfl) (by kernel_rfl) rfl (.bool true) w6 (by go_simp) (fun _ => m36.out) ?_
          simp only [Act.put, List.setIfInBounds_toArray, List.set_cons_zero, List.set_cons_succ]
          refine anyZ_next 11 _ (some 36) rfl (by kernel_rfl) (by kernel_rfl) rfl (.bool true) w6 (by go_simp) (fun _ => m36.out) ?_
          simp only [Act.put, List.setIfInBounds_toArray, List.set_cons_zero, List.set_cons_succ]
          refine anyZ_done (by kernel_rfl) ?_ _
          have hE : openE k n p b = 11 := by
            unfold openE
            rw [← hNP.out, ← hNB.out, if_pos ⟨hk32.out, hn12.out⟩, if_neg (by have := c0'.out; omega), if_pos ⟨c1'.out, c2'.out⟩, ← hA.out, ← hL.out, ← hR.out, ← hT.out, if_neg hq]
          clear hq
          replace hE := Lib.hid hE
          have mf := m03.out.trans m36.out
          replace mf := Lib.hid mf
          go_wp2
          go_ret2
          exact open_end_bad hE.out (by decide) mf.out
      · have hE : openE k n p b = 3 := by unfold openE; rw [← hNP.out, ← hNB.out, if_pos ⟨hk32.out, hn12.out⟩, if_neg (by have := c0'.out; omega), if_neg (by have := c0'.out; have := hA.out; omega)]
        replace hE := Lib.hid hE
        by_cases c3 : A ≤ 1048576
        · have e1 : decide ((1048576 : Int) < (A : Int)) = false := by rw [decide_eq_false_iff_not]; omega
          have e2 : decide ((1048576 : Int) < (NB : Int)) = true := by rw [decide_eq_true_iff]; omega
          clear c1 c3
          go_wp2
          go_ret2
          exact open_end_bad hE.out (by decide) m03.out
        · have e1 : decide ((1048576 : Int) < (A : Int)) = true := by rw [decide_eq_true_iff]; omega
          clear c1 c3
          go_wp2
          go_ret2
          exact open_end_bad hE.out (by decide) m03.out
  · refine ⟨_, rfl, ?_⟩
    rw [show (decide (k.length = 32) && decide (n.length = 12)) = false by simp; intro h1 h2; exact hok ⟨h1, h2⟩]
    simp only [Act.put, List.setIfInBounds_toArray, List.set_cons_zero, List.set_cons_succ]
    refine wpList_reads (by kernel_rfl) (.tuple #[.agg (encB S), .bool false]) (by go_simp) ?_
    simp only [Act.put, List.setIfInBounds_toArray, List.set_cons_zero, List.set_cons_succ]
    refine wpList_reads (by kernel_rfl) (.agg (encB S)) (by go_simp) ?_
    simp only [Act.put, List.setIfInBounds_toArray, List.set_cons_zero, List.set_cons_succ]
    refine wpList_reads (by kernel_rfl) (.bool false) (by go_simp) ?_
    simp only [Act.put, List.setIfInBounds_toArray, List.set_cons_zero, List.set_cons_succ]
    refine wpList_yields (by kernel_rfl) _ _ (alloc_arrY 52 _ zeroSL _ _ _ rfl) ?_
    simp only [Act.put, List.setIfInBounds_toArray, List.set_cons_zero, List.set_cons_succ]
    rw [← hg2.out, ← hw2.out]
    refine wpList_store_to rfl _ _ _ rfl _ _ _ rfl rfl _ s3 ?_
    simp only [Act.put, List.setIfInBounds_toArray, List.set_cons_zero, List.set_cons_succ]
    refine wpList_reads (by kernel_rfl) (.bool false) (by go_simp) ?_
    simp only [Act.put, List.setIfInBounds_toArray, List.set_cons_zero, List.set_cons_succ]
    clear s3
    have hE : openE k n p b = 1 := by unfold openE; rw [if_neg hok]
    have bpx : (NP : Int) ≤ 140737488351232 := by have := hpl.out; rw [← hNP.out] at this; omega
    clear hok hSe
    replace hE := Lib.hid hE
    go_wp2
    go_ret2
    exact open_end_bad hE.out (by decide) m03.out
end Go.Proofs.YtbiijcljpgannaaGreatDoor
