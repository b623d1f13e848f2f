/-
  mailcoachlaw12.KeysNonces. Printed by gen/kn7.py.
-/
import Derived.Test.YtppjnkgmbmhlcaaN6
namespace Go.Proofs.Ytppjnkgmbmhlcaa
open Go Go.RowKit Go.Lib
set_option linter.unusedSimpArgs false
set_option linter.unusedVariables false

theorem nonceTo_get (iv : List (BitVec 8)) (N : Nat) (hl : iv.length = 12) : ∀ i, i ≤ 8 → ∀ j, (nonceTo iv N i).getD j 0 = if 12 ≤ i + j ∧ j ≤ 11 then iv.getD j 0 ^^^ BitVec.ofNat 8 (N / 2 ^ (8 * (11 - j))) else iv.getD j 0 := by
  intro i
  induction i with
  | zero =>
    intro _ j
    rw [if_neg (by omega)]
    rfl
  | succ i ih =>
    intro hi j
    have hi' := ih (by omega)
    have hlen : (nonceTo iv N i).length = 12 := by rw [nonceTo_length]; exact hl
    unfold nonceTo
    rw [List.getD_eq_getElem?_getD, List.getElem?_set]
    by_cases e : 11 - i = j
    · rw [if_pos e, if_pos (by omega), if_pos (by omega), Option.getD_some, hi', if_neg (by omega), e, show 11 - j = i by omega]
    · rw [if_neg e, ← List.getD_eq_getElem?_getD, hi']
      by_cases h : 12 ≤ i + j ∧ j ≤ 11
      · rw [if_pos h, if_pos (by omega)]
      · rw [if_neg h, if_neg (by omega)]
theorem xor_left8 {a b c : BitVec 8} (h : a ^^^ b = a ^^^ c) : b = c := by
  have : a ^^^ (a ^^^ b) = a ^^^ (a ^^^ c) := by rw [h]
  rwa [← BitVec.xor_assoc, ← BitVec.xor_assoc, BitVec.xor_self, BitVec.zero_xor, BitVec.zero_xor] at this
theorem nonce_inj (iv : List (BitVec 8)) (N M : Nat) (hl : iv.length = 12) (hN : N < 18446744073709551616) (hM : M < 18446744073709551616) (h : nonceTo iv N 8 = nonceTo iv M 8) : N = M := by
  have key : ∀ j, 4 ≤ j → j ≤ 11 → N / 2 ^ (8 * (11 - j)) % 256 = M / 2 ^ (8 * (11 - j)) % 256 := by
    intro j h4 h11
    have h1 := nonceTo_get iv N hl 8 (Nat.le_refl _) j
    have h2 := nonceTo_get iv M hl 8 (Nat.le_refl _) j
    rw [if_pos (by omega)] at h1 h2
    rw [h, h2] at h1
    have h3 := congrArg BitVec.toNat (xor_left8 h1)
    rw [BitVec.toNat_ofNat, BitVec.toNat_ofNat] at h3
    exact h3.symm
  have k0 := key 11 (by omega) (by omega)
  have k1 := key 10 (by omega) (by omega)
  have k2 := key 9 (by omega) (by omega)
  have k3 := key 8 (by omega) (by omega)
  have k4 := key 7 (by omega) (by omega)
  have k5 := key 6 (by omega) (by omega)
  have k6 := key 5 (by omega) (by omega)
  have k7 := key 4 (by omega) (by omega)
  simp only [Nat.reduceSub, Nat.reduceMul, Nat.reducePow, Nat.mul_zero, Nat.pow_zero, Nat.div_one] at k0 k1 k2 k3 k4 k5 k6 k7
  omega
theorem nonce_head (iv : List (BitVec 8)) (N : Nat) (hl : iv.length = 12) : (nonceTo iv N 8).take 4 = iv.take 4 := by
  apply List.ext_getElem?
  intro j
  rw [List.getElem?_take, List.getElem?_take]
  by_cases hj : j < 4
  · rw [if_pos hj, if_pos hj]
    have h1 := nonceTo_get iv N hl 8 (Nat.le_refl _) j
    rw [if_neg (by omega), List.getD_eq_getElem?_getD, List.getD_eq_getElem?_getD] at h1
    have ha : j < (nonceTo iv N 8).length := by rw [nonceTo_length]; omega
    have hb : j < iv.length := by omega
    rw [List.getElem?_eq_getElem ha, List.getElem?_eq_getElem hb] at h1 ⊢
    simpa using h1
  · rw [if_neg hj, if_neg hj]

set_option maxRecDepth 100000 in
set_option maxHeartbeats 4000000 in
theorem nonces_walk (iv : List (BitVec 8)) (hl : iv.length = 12) (N M : Nat) (hN : N < 18446744073709551616) (hM : M < 18446744073709551616) (w : World) :
    Calls Try.prog 3 #[.agg (encB iv), .int .u64 (N : Int), .int .u64 (M : Int)] w fun e w' => Mod (fun _ => False) w w' ∧ e = .returned (.bool true) := by
  obtain ⟨wx, hwx⟩ : ∃ x, x = w.alloc (.cells (encB iv) 22) := ⟨_, rfl⟩
  obtain ⟨gx, hgx⟩ : ∃ g, g = w.heap.size := ⟨_, rfl⟩
  have mx : Mod (fun _ => False) w wx := by rw [hwx]; exact (Mod.refl _ _).alloc _
  have xx : wx.heap[gx]? = some (.cells (encB iv) 22 (0,0)) := by rw [hwx]; exact hp_new _ _ _ hgx
  have bx := ByteAt.row xx
  rw [hl] at bx
  have bN0 : (0 : Int) ≤ (N : Int) := by omega
  have bM0 : (0 : Int) ≤ (M : Int) := by omega
  replace hwx := Lib.hid hwx
  replace hgx := Lib.hid hgx
  replace hN := Lib.hid hN
  replace hM := Lib.hid hM
  clear xx
  go_enter Try.func3, Try.ntmps3
  go_upto_region 0 with (fail)
  refine wp_region_lit ?_
  refine wpList_yields (by kernel_rfl) (.pointer (some ⟨gx, 0, none⟩)) wx (by rw [hwx.out, hgx.out]; go_simp) ?_
  simp only [Act.put, List.setIfInBounds_toArray, List.set_cons_zero, List.set_cons_succ]
  refine wpList_reads (by kernel_rfl) (.bool false) (by go_simp) ?_
  simp only [Act.put, List.setIfInBounds_toArray, List.set_cons_zero, List.set_cons_succ]
  by_cases hNc : N ≤ 4611686018427387903
  · by_cases hMc : M ≤ 4611686018427387903
    · go_upto_region 1 with (fail)
      refine wp_region_lit ?_
      refine wpList_reads (by kernel_rfl) (.slice (some ⟨gx, 0, none⟩) 12 12) (by go_simp) ?_
      simp only [Act.put, List.setIfInBounds_toArray, List.set_cons_zero, List.set_cons_succ]
      refine wpList_reads (by kernel_rfl) (.int .u64 (N : Int)) (by go_simp) ?_
      simp only [Act.put, List.setIfInBounds_toArray, List.set_cons_zero, List.set_cons_succ]
      refine wpList_enter (by kernel_rfl) 4 #[.slice (some ⟨gx, 0, none⟩) 12 12, .int .u64 (N : Int)] (by go_simp) (Nonce_any _ iv N hN.out wx bx (by rw [hl]; omega)) ?_
      rintro e w1 ⟨mw1, hw1⟩
      rw [if_pos (show iv.length = 12 ∧ N ≤ 4611686018427387903 from ⟨hl, by omega⟩)] at hw1
      obtain ⟨vw1, ownw1, rfl⟩ := hw1
      have bw1 := clip_byteAt ownw1
      clear ownw1
      have bxw1 := bx.mod mw1 (fun _ _ h => h)
      refine ⟨_, rfl, ?_⟩
      simp only [Act.put, List.setIfInBounds_toArray, List.set_cons_zero, List.set_cons_succ]
      refine wpList_reads (by kernel_rfl) (.tuple #[vw1, .int .i64 0]) (by go_simp) ?_
      simp only [Act.put, List.setIfInBounds_toArray, List.set_cons_zero, List.set_cons_succ]
      refine wpList_reads (by kernel_rfl) (vw1) (by go_simp) ?_
      simp only [Act.put, List.setIfInBounds_toArray, List.set_cons_zero, List.set_cons_succ]
      refine wpList_reads (by kernel_rfl) (.int .i64 0) (by go_simp) ?_
      simp only [Act.put, List.setIfInBounds_toArray, List.set_cons_zero, List.set_cons_succ]
      refine wpList_reads (by kernel_rfl) (vw1) (by go_simp) ?_
      simp only [Act.put, List.setIfInBounds_toArray, List.set_cons_zero, List.set_cons_succ]
      refine wpList_reads (by kernel_rfl) (.int .i64 0) (by go_simp) ?_
      simp only [Act.put, List.setIfInBounds_toArray, List.set_cons_zero, List.set_cons_succ]
      go_upto_region 2 with (fail)
      refine wp_region_lit ?_
      refine wpList_reads (by kernel_rfl) (.slice (some ⟨gx, 0, none⟩) 12 12) (by go_simp) ?_
      simp only [Act.put, List.setIfInBounds_toArray, List.set_cons_zero, List.set_cons_succ]
      refine wpList_reads (by kernel_rfl) (.int .u64 (M : Int)) (by go_simp) ?_
      simp only [Act.put, List.setIfInBounds_toArray, List.set_cons_zero, List.set_cons_succ]
      refine wpList_enter (by kernel_rfl) 4 #[.slice (some ⟨gx, 0, none⟩) 12 12, .int .u64 (M : Int)] (by go_simp) (Nonce_any _ iv M hM.out w1 bxw1 (by rw [hl]; omega)) ?_
      rintro e w2 ⟨mw2, hw2⟩
      rw [if_pos (show iv.length = 12 ∧ M ≤ 4611686018427387903 from ⟨hl, by omega⟩)] at hw2
      obtain ⟨vw2, ownw2, rfl⟩ := hw2
      have bw2 := clip_byteAt ownw2
      clear ownw2
      have bxw2 := bxw1.mod mw2 (fun _ _ h => h)
      refine ⟨_, rfl, ?_⟩
      simp only [Act.put, List.setIfInBounds_toArray, List.set_cons_zero, List.set_cons_succ]
      refine wpList_reads (by kernel_rfl) (.tuple #[vw2, .int .i64 0]) (by go_simp) ?_
      simp only [Act.put, List.setIfInBounds_toArray, List.set_cons_zero, List.set_cons_succ]
      refine wpList_reads (by kernel_rfl) (vw2) (by go_simp) ?_
      simp only [Act.put, List.setIfInBounds_toArray, List.set_cons_zero, List.set_cons_succ]
      refine wpList_reads (by kernel_rfl) (.int .i64 0) (by go_simp) ?_
      simp only [Act.put, List.setIfInBounds_toArray, List.set_cons_zero, List.set_cons_succ]
      refine wpList_reads (by kernel_rfl) (vw2) (by go_simp) ?_
      simp only [Act.put, List.setIfInBounds_toArray, List.set_cons_zero, List.set_cons_succ]
      refine wpList_reads (by kernel_rfl) (.int .i64 0) (by go_simp) ?_
      simp only [Act.put, List.setIfInBounds_toArray, List.set_cons_zero, List.set_cons_succ]
      have m02 := (mx.trans mw1).trans mw2
      clear mx
      have dN : decide ((4611686018427387903 : Int) < (N : Int)) = false := by rw [decide_eq_false_iff_not]; omega
      have dM : decide ((4611686018427387903 : Int) < (M : Int)) = false := by rw [decide_eq_false_iff_not]; omega
      have bw12 := bw1.mod mw2 (fun _ _ h => h)
      clear hNc hMc
      have hq : decide (nonceTo iv N 8 = nonceTo iv M 8) = decide ((N : Int) = (M : Int)) := by
        by_cases e : N = M
        · subst e; simp
        · rw [decide_eq_false (fun h => e (nonce_inj iv N M hl hN.out hM.out h)), decide_eq_false (by omega)]
      have hln : (nonceTo iv N 8).length = 12 := by rw [nonceTo_length]; exact hl
      have hlm : (nonceTo iv M 8).length = 12 := by rw [nonceTo_length]; exact hl
      have hhd : (nonceTo iv N 8).take 4 = (nonceTo iv M 8).take 4 := by rw [nonce_head _ _ hl, nonce_head _ _ hl]
      obtain ⟨XN, hXN⟩ : ∃ X, X = nonceTo iv N 8 := ⟨_, rfl⟩
      obtain ⟨XM, hXM⟩ : ∃ X, X = nonceTo iv M 8 := ⟨_, rfl⟩
      rw [← hXN] at bw12 hq hln hhd
      rw [← hXM] at bw2 hq hlm hhd
      obtain ⟨q, hqq⟩ : ∃ q, q = decide ((N : Int) = (M : Int)) := ⟨_, rfl⟩
      obtain ⟨aN, cN, hvN⟩ : ∃ a c, vw1 = .slice a 12 c := by obtain ⟨a, c, h, _⟩ := bw12.slice; exact ⟨a, c, by rw [h, hln]⟩
      obtain ⟨aM, cM, hvM⟩ : ∃ a c, vw2 = .slice a 12 c := by obtain ⟨a, c, h, _⟩ := bw2.slice; exact ⟨a, c, by rw [h, hlm]⟩
      subst hvN hvM
      have hcN := bw12.cap.2
      have hcM := bw2.cap.2
      have hN4 : (4 : Int) ≤ (cN : Int) := by omega
      have hM4 : (4 : Int) ≤ (cM : Int) := by omega
      have hN0 : ¬ cN = 0 := by omega
      have hM0 : ¬ cM = 0 := by omega
      replace hXN := Lib.hid hXN
      replace hXM := Lib.hid hXM
      rw [← hqq] at hq
      have hqe : ((.bool q : Value) = .bool q) := rfl
      have hqr : decide ((N : Int) = (M : Int)) = q := hqq.symm
      have hqb : ((N : Int) == (M : Int)) = q := by rw [← hqr, Bool.eq_iff_iff]; simp
      replace hqq := Lib.hid hqq
      replace hq := Lib.hid hq
      clear mw1 mw2 bxw1 bxw2 bw1
      go_upto_region 5 with (fail)
      refine wp_region_any (by kernel_rfl) (any_of_Z (S := fun w' => Mod (fun _ => False) w2 w') (z := 99) _ _ _ _ ?_)
      change anyZ _ _ _ _ _ _ _ _ _ w2.drew
      have n3 : Mod (fun _ => False) w2 w2.drew := (Mod.refl _ _).drew
      have c1 := bw12.mod n3 (fun _ _ h => h)
      have c2 := bw2.mod n3 (fun _ _ h => h)
      obtain ⟨w3, hw3⟩ : ∃ x, x = w2.drew := ⟨_, rfl⟩
      rw [← hw3] at n3 c1 c2 ⊢
      replace hw3 := Lib.hid hw3
      simp only [List.size_toArray, List.length_cons, List.length_nil, Nat.reduceAdd, Array.replicate_succ, Array.replicate_zero, List.push_toArray, List.nil_append, List.cons_append]
      refine anyZ_take 0 _ (some 44) (.int .i64 0) rfl (by kernel_rfl) (by kernel_rfl) (by kernel_rfl) (by kernel_rfl) (by kernel_rfl) (by decide) rfl (fun w' hS => ?_) n3 ?_
      · go_simp
      simp only [Act.put, List.setIfInBounds_toArray, List.set_cons_zero, List.set_cons_succ]
      refine anyZ_take 1 _ (some 45) (.bool true) rfl (by kernel_rfl) (by kernel_rfl) (by kernel_rfl) (by kernel_rfl) (by kernel_rfl) (by decide) rfl (fun w' hS => ?_) n3 ?_
      · go_simp
      simp only [Act.put, List.setIfInBounds_toArray, List.set_cons_zero, List.set_cons_succ]
      refine anyZ_take 2 _ (some 46) (.bool true) rfl (by kernel_rfl) (by kernel_rfl) (by kernel_rfl) (by kernel_rfl) (by kernel_rfl) (by decide) rfl (fun w' hS => ?_) n3 ?_
      · go_simp
      simp only [Act.put, List.setIfInBounds_toArray, List.set_cons_zero, List.set_cons_succ]
      refine anyZ_take 3 _ (some 47) (.int .i64 0) rfl (by kernel_rfl) (by kernel_rfl) (by kernel_rfl) (by kernel_rfl) (by kernel_rfl) (by decide) rfl (fun w' hS => ?_) n3 ?_
      · go_simp
      simp only [Act.put, List.setIfInBounds_toArray, List.set_cons_zero, List.set_cons_succ]
      refine anyZ_take 4 _ (some 48) (.bool true) rfl (by kernel_rfl) (by kernel_rfl) (by kernel_rfl) (by kernel_rfl) (by kernel_rfl) (by decide) rfl (fun w' hS => ?_) n3 ?_
      · go_simp
      simp only [Act.put, List.setIfInBounds_toArray, List.set_cons_zero, List.set_cons_succ]
      refine anyZ_take 5 _ (some 49) (.bool true) rfl (by kernel_rfl) (by kernel_rfl) (by kernel_rfl) (by kernel_rfl) (by kernel_rfl) (by decide) rfl (fun w' hS => ?_) n3 ?_
      · go_simp
      simp only [Act.put, List.setIfInBounds_toArray, List.set_cons_zero, List.set_cons_succ]
      refine anyZ_take 6 _ (some 50) (.bool true) rfl (by kernel_rfl) (by kernel_rfl) (by kernel_rfl) (by kernel_rfl) (by kernel_rfl) (by decide) rfl (fun w' hS => ?_) n3 ?_
      · go_simp
      simp only [Act.put, List.setIfInBounds_toArray, List.set_cons_zero, List.set_cons_succ]
      refine anyZ_take 7 _ (some 51) (.slice aN 12 cN) rfl (by kernel_rfl) (by kernel_rfl) (by kernel_rfl) (by kernel_rfl) (by kernel_rfl) (by decide) rfl (fun w' hS => ?_) n3 ?_
      · go_simp
      simp only [Act.put, List.setIfInBounds_toArray, List.set_cons_zero, List.set_cons_succ]
      refine anyZ_take 8 _ (some 52) (.slice aM 12 cM) rfl (by kernel_rfl) (by kernel_rfl) (by kernel_rfl) (by kernel_rfl) (by kernel_rfl) (by decide) rfl (fun w' hS => ?_) n3 ?_
      · go_simp
      simp only [Act.put, List.setIfInBounds_toArray, List.set_cons_zero, List.set_cons_succ]
      refine anyZ_take 10 _ (some 54) (.int .u64 (N : Int)) rfl (by kernel_rfl) (by kernel_rfl) (by kernel_rfl) (by kernel_rfl) (by kernel_rfl) (by decide) rfl (fun w' hS => ?_) n3 ?_
      · go_simp
      simp only [Act.put, List.setIfInBounds_toArray, List.set_cons_zero, List.set_cons_succ]
      refine anyZ_take 11 _ (some 55) (.int .u64 (M : Int)) rfl (by kernel_rfl) (by kernel_rfl) (by kernel_rfl) (by kernel_rfl) (by kernel_rfl) (by decide) rfl (fun w' hS => ?_) n3 ?_
      · go_simp
      simp only [Act.put, List.setIfInBounds_toArray, List.set_cons_zero, List.set_cons_succ]
      refine anyZ_take 12 _ (some 56) (.bool q) rfl (by kernel_rfl) (by kernel_rfl) (by kernel_rfl) (by kernel_rfl) (by kernel_rfl) (by decide) rfl (fun w' hS => ?_) n3 ?_
      · go_simp
      simp only [Act.put, List.setIfInBounds_toArray, List.set_cons_zero, List.set_cons_succ]
      refine anyZ_call 9 _ (some 53) rfl (by kernel_rfl) (by kernel_rfl) rfl 6 #[.slice aN 12 cN, .slice aM 12 cM] (by go_simp) ?_
      refine (same_any _ _ XN XM w3 c1 c2 (by rw [hln]; omega) (by rw [hlm]; omega)).mono ?_
      rintro e w4 ⟨m4, rfl⟩
      rw [hq.out]
      have n4 := n3.trans m4
      refine ⟨_, rfl, fun _ => n4, ?_⟩
      simp only [Act.put, List.setIfInBounds_toArray, List.set_cons_zero, List.set_cons_succ]
      refine anyZ_take 13 _ (some 57) (.bool true) rfl (by kernel_rfl) (by kernel_rfl) (by kernel_rfl) (by kernel_rfl) (by kernel_rfl) (by decide) rfl (fun w' hS => ?_) n4 ?_
      · cases q <;> go_simp
      simp only [Act.put, List.setIfInBounds_toArray, List.set_cons_zero, List.set_cons_succ]
      refine anyZ_take 14 _ (some 58) (.bool true) rfl (by kernel_rfl) (by kernel_rfl) (by kernel_rfl) (by kernel_rfl) (by kernel_rfl) (by decide) rfl (fun w' hS => ?_) n4 ?_
      · go_simp
      simp only [Act.put, List.setIfInBounds_toArray, List.set_cons_zero, List.set_cons_succ]
      refine anyZ_take 15 _ (some 59) (.bool true) rfl (by kernel_rfl) (by kernel_rfl) (by kernel_rfl) (by kernel_rfl) (by kernel_rfl) (by decide) rfl (fun w' hS => ?_) n4 ?_
      · go_simp
      simp only [Act.put, List.setIfInBounds_toArray, List.set_cons_zero, List.set_cons_succ]
      refine anyZ_take 16 _ (some 60) (.slice aN 12 cN) rfl (by kernel_rfl) (by kernel_rfl) (by kernel_rfl) (by kernel_rfl) (by kernel_rfl) (by decide) rfl (fun w' hS => ?_) n4 ?_
      · go_simp
      simp only [Act.put, List.setIfInBounds_toArray, List.set_cons_zero, List.set_cons_succ]
      refine anyZ_take 17 _ (some 61) (.slice aN 4 cN) rfl (by kernel_rfl) (by kernel_rfl) (by kernel_rfl) (by kernel_rfl) (by kernel_rfl) (by decide) rfl (fun w' hS => ?_) n4 ?_
      · go_simp
      simp only [Act.put, List.setIfInBounds_toArray, List.set_cons_zero, List.set_cons_succ]
      refine anyZ_take 18 _ (some 62) (.slice aM 12 cM) rfl (by kernel_rfl) (by kernel_rfl) (by kernel_rfl) (by kernel_rfl) (by kernel_rfl) (by decide) rfl (fun w' hS => ?_) n4 ?_
      · go_simp
      simp only [Act.put, List.setIfInBounds_toArray, List.set_cons_zero, List.set_cons_succ]
      refine anyZ_take 19 _ (some 63) (.slice aM 4 cM) rfl (by kernel_rfl) (by kernel_rfl) (by kernel_rfl) (by kernel_rfl) (by kernel_rfl) (by decide) rfl (fun w' hS => ?_) n4 ?_
      · go_simp
      simp only [Act.put, List.setIfInBounds_toArray, List.set_cons_zero, List.set_cons_succ]
      refine anyZ_call 20 _ (some 64) rfl (by kernel_rfl) (by kernel_rfl) rfl 6 #[.slice aN 4 cN, .slice aM 4 cM] (by go_simp) ?_
      refine (same_any _ _ (XN.take 4) (XM.take 4) w4 (ByteAt.take (c1.mod m4 (fun _ _ h => h)) (by omega)) (ByteAt.take (c2.mod m4 (fun _ _ h => h)) (by omega)) (by rw [List.length_take]; omega) (by rw [List.length_take]; omega)).mono ?_
      rintro e w5 ⟨m5, rfl⟩
      rw [show decide (XN.take 4 = XM.take 4) = true from decide_eq_true hhd]
      have n5 := n4.trans m5
      refine ⟨_, rfl, fun _ => n5, ?_⟩
      simp only [Act.put, List.setIfInBounds_toArray, List.set_cons_zero, List.set_cons_succ]
      refine anyZ_take 21 _ (some 65) (.bool true) rfl (by kernel_rfl) (by kernel_rfl) (by kernel_rfl) (by kernel_rfl) (by kernel_rfl) (by decide) rfl (fun w' hS => ?_) n5 ?_
      · go_simp
      simp only [Act.put, List.setIfInBounds_toArray, List.set_cons_zero, List.set_cons_succ]
      refine anyZ_take 22 _ (some 66) (.bool true) rfl (by kernel_rfl) (by kernel_rfl) (by kernel_rfl) (by kernel_rfl) (by kernel_rfl) (by decide) rfl (fun w' hS => ?_) n5 ?_
      · go_simp
      simp only [Act.put, List.setIfInBounds_toArray, List.set_cons_zero, List.set_cons_succ]
      refine anyZ_call 23 _ (some 67) rfl (by kernel_rfl) (by kernel_rfl) rfl 5 #[] (by go_simp) ?_
      refine (lives_any w5).mono ?_
      rintro e w6 ⟨m6, rfl⟩
      have n6 := n5.trans m6
      refine ⟨_, rfl, fun _ => n6, ?_⟩
      simp only [Act.put, List.setIfInBounds_toArray, List.set_cons_zero, List.set_cons_succ]
      refine anyZ_take 24 _ (some 68) (.bool true) rfl (by kernel_rfl) (by kernel_rfl) (by kernel_rfl) (by kernel_rfl) (by kernel_rfl) (by decide) rfl (fun w' hS => ?_) n6 ?_
      · go_simp
      simp only [Act.put, List.setIfInBounds_toArray, List.set_cons_zero, List.set_cons_succ]
      refine anyZ_take 25 _ (some 6) (.bool true) rfl (by kernel_rfl) (by kernel_rfl) (by kernel_rfl) (by kernel_rfl) (by kernel_rfl) (by decide) rfl (fun w' hS => ?_) n6 ?_
      · go_simp
      simp only [Act.put, List.setIfInBounds_toArray, List.set_cons_zero, List.set_cons_succ]
      refine anyZ_done (by kernel_rfl) ?_ _
      have mf := m02.trans n6
      replace mf := Lib.hid mf
      go_wp2
      go_ret
      exact ⟨mf.out, rfl⟩
    · go_upto_region 1 with (fail)
      refine wp_region_lit ?_
      refine wpList_reads (by kernel_rfl) (.slice (some ⟨gx, 0, none⟩) 12 12) (by go_simp) ?_
      simp only [Act.put, List.setIfInBounds_toArray, List.set_cons_zero, List.set_cons_succ]
      refine wpList_reads (by kernel_rfl) (.int .u64 (N : Int)) (by go_simp) ?_
      simp only [Act.put, List.setIfInBounds_toArray, List.set_cons_zero, List.set_cons_succ]
      refine wpList_enter (by kernel_rfl) 4 #[.slice (some ⟨gx, 0, none⟩) 12 12, .int .u64 (N : Int)] (by go_simp) (Nonce_any _ iv N hN.out wx bx (by rw [hl]; omega)) ?_
      rintro e w1 ⟨mw1, hw1⟩
      rw [if_pos (show iv.length = 12 ∧ N ≤ 4611686018427387903 from ⟨hl, by omega⟩)] at hw1
      obtain ⟨vw1, ownw1, rfl⟩ := hw1
      have bw1 := clip_byteAt ownw1
      clear ownw1
      have bxw1 := bx.mod mw1 (fun _ _ h => h)
      refine ⟨_, rfl, ?_⟩
      simp only [Act.put, List.setIfInBounds_toArray, List.set_cons_zero, List.set_cons_succ]
      refine wpList_reads (by kernel_rfl) (.tuple #[vw1, .int .i64 0]) (by go_simp) ?_
      simp only [Act.put, List.setIfInBounds_toArray, List.set_cons_zero, List.set_cons_succ]
      refine wpList_reads (by kernel_rfl) (vw1) (by go_simp) ?_
      simp only [Act.put, List.setIfInBounds_toArray, List.set_cons_zero, List.set_cons_succ]
      refine wpList_reads (by kernel_rfl) (.int .i64 0) (by go_simp) ?_
      simp only [Act.put, List.setIfInBounds_toArray, List.set_cons_zero, List.set_cons_succ]
      refine wpList_reads (by kernel_rfl) (vw1) (by go_simp) ?_
      simp only [Act.put, List.setIfInBounds_toArray, List.set_cons_zero, List.set_cons_succ]
      refine wpList_reads (by kernel_rfl) (.int .i64 0) (by go_simp) ?_
      simp only [Act.put, List.setIfInBounds_toArray, List.set_cons_zero, List.set_cons_succ]
      go_upto_region 2 with (fail)
      refine wp_region_lit ?_
      refine wpList_reads (by kernel_rfl) (.slice (some ⟨gx, 0, none⟩) 12 12) (by go_simp) ?_
      simp only [Act.put, List.setIfInBounds_toArray, List.set_cons_zero, List.set_cons_succ]
      refine wpList_reads (by kernel_rfl) (.int .u64 (M : Int)) (by go_simp) ?_
      simp only [Act.put, List.setIfInBounds_toArray, List.set_cons_zero, List.set_cons_succ]
      refine wpList_enter (by kernel_rfl) 4 #[.slice (some ⟨gx, 0, none⟩) 12 12, .int .u64 (M : Int)] (by go_simp) (Nonce_any _ iv M hM.out w1 bxw1 (by rw [hl]; omega)) ?_
      rintro e w2 ⟨mw2, hw2⟩
      rw [if_neg (show ¬ (iv.length = 12 ∧ M ≤ 4611686018427387903) by omega)] at hw2
      subst hw2
      have bxw2 := bxw1.mod mw2 (fun _ _ h => h)
      refine ⟨_, rfl, ?_⟩
      simp only [Act.put, List.setIfInBounds_toArray, List.set_cons_zero, List.set_cons_succ]
      refine wpList_reads (by kernel_rfl) (.tuple #[.slice none 0 0, .int .i64 1]) (by go_simp) ?_
      simp only [Act.put, List.setIfInBounds_toArray, List.set_cons_zero, List.set_cons_succ]
      refine wpList_reads (by kernel_rfl) (.slice none 0 0) (by go_simp) ?_
      simp only [Act.put, List.setIfInBounds_toArray, List.set_cons_zero, List.set_cons_succ]
      refine wpList_reads (by kernel_rfl) (.int .i64 1) (by go_simp) ?_
      simp only [Act.put, List.setIfInBounds_toArray, List.set_cons_zero, List.set_cons_succ]
      refine wpList_reads (by kernel_rfl) (.slice none 0 0) (by go_simp) ?_
      simp only [Act.put, List.setIfInBounds_toArray, List.set_cons_zero, List.set_cons_succ]
      refine wpList_reads (by kernel_rfl) (.int .i64 1) (by go_simp) ?_
      simp only [Act.put, List.setIfInBounds_toArray, List.set_cons_zero, List.set_cons_succ]
      have m02 := (mx.trans mw1).trans mw2
      clear mx
      have dN : decide ((4611686018427387903 : Int) < (N : Int)) = false := by rw [decide_eq_false_iff_not]; omega
      have dM : decide ((4611686018427387903 : Int) < (M : Int)) = true := by rw [decide_eq_true_iff]; omega
      have bw12 := bw1.mod mw2 (fun _ _ h => h)
      clear hNc hMc
      replace m02 := Lib.hid m02
      clear mw1 mw2 bxw1 bxw2 bw1 bw12
      go_upto_region 4 with (fail)
      refine wp_region_lit ?_
      refine wpList_reads (by kernel_rfl) (.int .i64 0) (by go_simp) ?_
      simp only [Act.put, List.setIfInBounds_toArray, List.set_cons_zero, List.set_cons_succ]
      refine wpList_reads (by kernel_rfl) (.bool false) (by go_simp) ?_
      simp only [Act.put, List.setIfInBounds_toArray, List.set_cons_zero, List.set_cons_succ]
      refine wpList_reads (by kernel_rfl) (.int .u64 (N : Int)) (by go_simp) ?_
      simp only [Act.put, List.setIfInBounds_toArray, List.set_cons_zero, List.set_cons_succ]
      refine wpList_reads (by kernel_rfl) (.bool false) (by go_simp) ?_
      simp only [Act.put, List.setIfInBounds_toArray, List.set_cons_zero, List.set_cons_succ]
      refine wpList_reads (by kernel_rfl) (.bool true) (by go_simp) ?_
      simp only [Act.put, List.setIfInBounds_toArray, List.set_cons_zero, List.set_cons_succ]
      refine wpList_reads (by kernel_rfl) (.bool true) (by go_simp) ?_
      simp only [Act.put, List.setIfInBounds_toArray, List.set_cons_zero, List.set_cons_succ]
      refine wpList_reads (by kernel_rfl) (.int .i64 1) (by go_simp) ?_
      simp only [Act.put, List.setIfInBounds_toArray, List.set_cons_zero, List.set_cons_succ]
      refine wpList_reads (by kernel_rfl) (.bool true) (by go_simp) ?_
      simp only [Act.put, List.setIfInBounds_toArray, List.set_cons_zero, List.set_cons_succ]
      refine wpList_reads (by kernel_rfl) (.int .u64 (M : Int)) (by go_simp) ?_
      simp only [Act.put, List.setIfInBounds_toArray, List.set_cons_zero, List.set_cons_succ]
      refine wpList_reads (by kernel_rfl) (.bool true) (by go_simp) ?_
      simp only [Act.put, List.setIfInBounds_toArray, List.set_cons_zero, List.set_cons_succ]
      refine wpList_reads (by kernel_rfl) (.bool true) (by go_simp) ?_
      simp only [Act.put, List.setIfInBounds_toArray, List.set_cons_zero, List.set_cons_succ]
      refine wpList_reads (by kernel_rfl) (.bool true) (by go_simp) ?_
      simp only [Act.put, List.setIfInBounds_toArray, List.set_cons_zero, List.set_cons_succ]
      refine wpList_reads (by kernel_rfl) (.bool true) (by go_simp) ?_
      simp only [Act.put, List.setIfInBounds_toArray, List.set_cons_zero, List.set_cons_succ]
      refine wpList_enter (by kernel_rfl) 5 #[] (by go_simp) (lives_any w2) ?_
      rintro e w3 ⟨m3, rfl⟩
      have mf := m02.out.trans m3
      replace mf := Lib.hid mf
      clear m3
      refine ⟨_, rfl, ?_⟩
      simp only [Act.put, List.setIfInBounds_toArray, List.set_cons_zero, List.set_cons_succ]
      refine wpList_reads (by kernel_rfl) (.bool true) (by go_simp) ?_
      simp only [Act.put, List.setIfInBounds_toArray, List.set_cons_zero, List.set_cons_succ]
      refine wpList_reads (by kernel_rfl) (.bool true) (by go_simp) ?_
      simp only [Act.put, List.setIfInBounds_toArray, List.set_cons_zero, List.set_cons_succ]
      go_wp2
      go_ret
      exact ⟨mf.out, rfl⟩
  · by_cases hMc : M ≤ 4611686018427387903
    · go_upto_region 1 with (fail)
      refine wp_region_lit ?_
      refine wpList_reads (by kernel_rfl) (.slice (some ⟨gx, 0, none⟩) 12 12) (by go_simp) ?_
      simp only [Act.put, List.setIfInBounds_toArray, List.set_cons_zero, List.set_cons_succ]
      refine wpList_reads (by kernel_rfl) (.int .u64 (N : Int)) (by go_simp) ?_
      simp only [Act.put, List.setIfInBounds_toArray, List.set_cons_zero, List.set_cons_succ]
      refine wpList_enter (by kernel_rfl) 4 #[.slice (some ⟨gx, 0, none⟩) 12 12, .int .u64 (N : Int)] (by go_simp) (Nonce_any _ iv N hN.out wx bx (by rw [hl]; omega)) ?_
      rintro e w1 ⟨mw1, hw1⟩
      rw [if_neg (show ¬ (iv.length = 12 ∧ N ≤ 4611686018427387903) by omega)] at hw1
      subst hw1
      have bxw1 := bx.mod mw1 (fun _ _ h => h)
      refine ⟨_, rfl, ?_⟩
      simp only [Act.put, List.setIfInBounds_toArray, List.set_cons_zero, List.set_cons_succ]
      refine wpList_reads (by kernel_rfl) (.tuple #[.slice none 0 0, .int .i64 1]) (by go_simp) ?_
      simp only [Act.put, List.setIfInBounds_toArray, List.set_cons_zero, List.set_cons_succ]
      refine wpList_reads (by kernel_rfl) (.slice none 0 0) (by go_simp) ?_
      simp only [Act.put, List.setIfInBounds_toArray, List.set_cons_zero, List.set_cons_succ]
      refine wpList_reads (by kernel_rfl) (.int .i64 1) (by go_simp) ?_
      simp only [Act.put, List.setIfInBounds_toArray, List.set_cons_zero, List.set_cons_succ]
      refine wpList_reads (by kernel_rfl) (.slice none 0 0) (by go_simp) ?_
      simp only [Act.put, List.setIfInBounds_toArray, List.set_cons_zero, List.set_cons_succ]
      refine wpList_reads (by kernel_rfl) (.int .i64 1) (by go_simp) ?_
      simp only [Act.put, List.setIfInBounds_toArray, List.set_cons_zero, List.set_cons_succ]
      go_upto_region 2 with (fail)
      refine wp_region_lit ?_
      refine wpList_reads (by kernel_rfl) (.slice (some ⟨gx, 0, none⟩) 12 12) (by go_simp) ?_
      simp only [Act.put, List.setIfInBounds_toArray, List.set_cons_zero, List.set_cons_succ]
      refine wpList_reads (by kernel_rfl) (.int .u64 (M : Int)) (by go_simp) ?_
      simp only [Act.put, List.setIfInBounds_toArray, List.set_cons_zero, List.set_cons_succ]
      refine wpList_enter (by kernel_rfl) 4 #[.slice (some ⟨gx, 0, none⟩) 12 12, .int .u64 (M : Int)] (by go_simp) (Nonce_any _ iv M hM.out w1 bxw1 (by rw [hl]; omega)) ?_
      rintro e w2 ⟨mw2, hw2⟩
      rw [if_pos (show iv.length = 12 ∧ M ≤ 4611686018427387903 from ⟨hl, by omega⟩)] at hw2
      obtain ⟨vw2, ownw2, rfl⟩ := hw2
      have bw2 := clip_byteAt ownw2
      clear ownw2
      have bxw2 := bxw1.mod mw2 (fun _ _ h => h)
      refine ⟨_, rfl, ?_⟩
      simp only [Act.put, List.setIfInBounds_toArray, List.set_cons_zero, List.set_cons_succ]
      refine wpList_reads (by kernel_rfl) (.tuple #[vw2, .int .i64 0]) (by go_simp) ?_
      simp only [Act.put, List.setIfInBounds_toArray, List.set_cons_zero, List.set_cons_succ]
      refine wpList_reads (by kernel_rfl) (vw2) (by go_simp) ?_
      simp only [Act.put, List.setIfInBounds_toArray, List.set_cons_zero, List.set_cons_succ]
      refine wpList_reads (by kernel_rfl) (.int .i64 0) (by go_simp) ?_
      simp only [Act.put, List.setIfInBounds_toArray, List.set_cons_zero, List.set_cons_succ]
      refine wpList_reads (by kernel_rfl) (vw2) (by go_simp) ?_
      simp only [Act.put, List.setIfInBounds_toArray, List.set_cons_zero, List.set_cons_succ]
      refine wpList_reads (by kernel_rfl) (.int .i64 0) (by go_simp) ?_
      simp only [Act.put, List.setIfInBounds_toArray, List.set_cons_zero, List.set_cons_succ]
      have m02 := (mx.trans mw1).trans mw2
      clear mx
      have dN : decide ((4611686018427387903 : Int) < (N : Int)) = true := by rw [decide_eq_true_iff]; omega
      have dM : decide ((4611686018427387903 : Int) < (M : Int)) = false := by rw [decide_eq_false_iff_not]; omega
      clear hNc hMc
      replace m02 := Lib.hid m02
      clear mw1 mw2 bxw1 bxw2 bw2
      go_upto_region 4 with (fail)
      refine wp_region_lit ?_
      refine wpList_reads (by kernel_rfl) (.int .i64 1) (by go_simp) ?_
      simp only [Act.put, List.setIfInBounds_toArray, List.set_cons_zero, List.set_cons_succ]
      refine wpList_reads (by kernel_rfl) (.bool true) (by go_simp) ?_
      simp only [Act.put, List.setIfInBounds_toArray, List.set_cons_zero, List.set_cons_succ]
      refine wpList_reads (by kernel_rfl) (.int .u64 (N : Int)) (by go_simp) ?_
      simp only [Act.put, List.setIfInBounds_toArray, List.set_cons_zero, List.set_cons_succ]
      refine wpList_reads (by kernel_rfl) (.bool true) (by go_simp) ?_
      simp only [Act.put, List.setIfInBounds_toArray, List.set_cons_zero, List.set_cons_succ]
      refine wpList_reads (by kernel_rfl) (.bool true) (by go_simp) ?_
      simp only [Act.put, List.setIfInBounds_toArray, List.set_cons_zero, List.set_cons_succ]
      refine wpList_reads (by kernel_rfl) (.bool true) (by go_simp) ?_
      simp only [Act.put, List.setIfInBounds_toArray, List.set_cons_zero, List.set_cons_succ]
      refine wpList_reads (by kernel_rfl) (.int .i64 0) (by go_simp) ?_
      simp only [Act.put, List.setIfInBounds_toArray, List.set_cons_zero, List.set_cons_succ]
      refine wpList_reads (by kernel_rfl) (.bool false) (by go_simp) ?_
      simp only [Act.put, List.setIfInBounds_toArray, List.set_cons_zero, List.set_cons_succ]
      refine wpList_reads (by kernel_rfl) (.int .u64 (M : Int)) (by go_simp) ?_
      simp only [Act.put, List.setIfInBounds_toArray, List.set_cons_zero, List.set_cons_succ]
      refine wpList_reads (by kernel_rfl) (.bool false) (by go_simp) ?_
      simp only [Act.put, List.setIfInBounds_toArray, List.set_cons_zero, List.set_cons_succ]
      refine wpList_reads (by kernel_rfl) (.bool true) (by go_simp) ?_
      simp only [Act.put, List.setIfInBounds_toArray, List.set_cons_zero, List.set_cons_succ]
      refine wpList_reads (by kernel_rfl) (.bool true) (by go_simp) ?_
      simp only [Act.put, List.setIfInBounds_toArray, List.set_cons_zero, List.set_cons_succ]
      refine wpList_reads (by kernel_rfl) (.bool true) (by go_simp) ?_
      simp only [Act.put, List.setIfInBounds_toArray, List.set_cons_zero, List.set_cons_succ]
      refine wpList_enter (by kernel_rfl) 5 #[] (by go_simp) (lives_any w2) ?_
      rintro e w3 ⟨m3, rfl⟩
      have mf := m02.out.trans m3
      replace mf := Lib.hid mf
      clear m3
      refine ⟨_, rfl, ?_⟩
      simp only [Act.put, List.setIfInBounds_toArray, List.set_cons_zero, List.set_cons_succ]
      refine wpList_reads (by kernel_rfl) (.bool true) (by go_simp) ?_
      simp only [Act.put, List.setIfInBounds_toArray, List.set_cons_zero, List.set_cons_succ]
      refine wpList_reads (by kernel_rfl) (.bool true) (by go_simp) ?_
      simp only [Act.put, List.setIfInBounds_toArray, List.set_cons_zero, List.set_cons_succ]
      go_wp2
      go_ret
      exact ⟨mf.out, rfl⟩
    · go_upto_region 1 with (fail)
      refine wp_region_lit ?_
      refine wpList_reads (by kernel_rfl) (.slice (some ⟨gx, 0, none⟩) 12 12) (by go_simp) ?_
      simp only [Act.put, List.setIfInBounds_toArray, List.set_cons_zero, List.set_cons_succ]
      refine wpList_reads (by kernel_rfl) (.int .u64 (N : Int)) (by go_simp) ?_
      simp only [Act.put, List.setIfInBounds_toArray, List.set_cons_zero, List.set_cons_succ]
      refine wpList_enter (by kernel_rfl) 4 #[.slice (some ⟨gx, 0, none⟩) 12 12, .int .u64 (N : Int)] (by go_simp) (Nonce_any _ iv N hN.out wx bx (by rw [hl]; omega)) ?_
      rintro e w1 ⟨mw1, hw1⟩
      rw [if_neg (show ¬ (iv.length = 12 ∧ N ≤ 4611686018427387903) by omega)] at hw1
      subst hw1
      have bxw1 := bx.mod mw1 (fun _ _ h => h)
      refine ⟨_, rfl, ?_⟩
      simp only [Act.put, List.setIfInBounds_toArray, List.set_cons_zero, List.set_cons_succ]
      refine wpList_reads (by kernel_rfl) (.tuple #[.slice none 0 0, .int .i64 1]) (by go_simp) ?_
      simp only [Act.put, List.setIfInBounds_toArray, List.set_cons_zero, List.set_cons_succ]
      refine wpList_reads (by kernel_rfl) (.slice none 0 0) (by go_simp) ?_
      simp only [Act.put, List.setIfInBounds_toArray, List.set_cons_zero, List.set_cons_succ]
      refine wpList_reads (by kernel_rfl) (.int .i64 1) (by go_simp) ?_
      simp only [Act.put, List.setIfInBounds_toArray, List.set_cons_zero, List.set_cons_succ]
      refine wpList_reads (by kernel_rfl) (.slice none 0 0) (by go_simp) ?_
      simp only [Act.put, List.setIfInBounds_toArray, List.set_cons_zero, List.set_cons_succ]
      refine wpList_reads (by kernel_rfl) (.int .i64 1) (by go_simp) ?_
      simp only [Act.put, List.setIfInBounds_toArray, List.set_cons_zero, List.set_cons_succ]
      go_upto_region 2 with (fail)
      refine wp_region_lit ?_
      refine wpList_reads (by kernel_rfl) (.slice (some ⟨gx, 0, none⟩) 12 12) (by go_simp) ?_
      simp only [Act.put, List.setIfInBounds_toArray, List.set_cons_zero, List.set_cons_succ]
      refine wpList_reads (by kernel_rfl) (.int .u64 (M : Int)) (by go_simp) ?_
      simp only [Act.put, List.setIfInBounds_toArray, List.set_cons_zero, List.set_cons_succ]
      refine wpList_enter (by kernel_rfl) 4 #[.slice (some ⟨gx, 0, none⟩) 12 12, .int .u64 (M : Int)] (by go_simp) (Nonce_any _ iv M hM.out w1 bxw1 (by rw [hl]; omega)) ?_
      rintro e w2 ⟨mw2, hw2⟩
      rw [if_neg (show ¬ (iv.length = 12 ∧ M ≤ 4611686018427387903) by omega)] at hw2
      subst hw2
      have bxw2 := bxw1.mod mw2 (fun _ _ h => h)
      refine ⟨_, rfl, ?_⟩
      simp only [Act.put, List.setIfInBounds_toArray, List.set_cons_zero, List.set_cons_succ]
      refine wpList_reads (by kernel_rfl) (.tuple #[.slice none 0 0, .int .i64 1]) (by go_simp) ?_
      simp only [Act.put, List.setIfInBounds_toArray, List.set_cons_zero, List.set_cons_succ]
      refine wpList_reads (by kernel_rfl) (.slice none 0 0) (by go_simp) ?_
      simp only [Act.put, List.setIfInBounds_toArray, List.set_cons_zero, List.set_cons_succ]
      refine wpList_reads (by kernel_rfl) (.int .i64 1) (by go_simp) ?_
      simp only [Act.put, List.setIfInBounds_toArray, List.set_cons_zero, List.set_cons_succ]
      refine wpList_reads (by kernel_rfl) (.slice none 0 0) (by go_simp) ?_
      simp only [Act.put, List.setIfInBounds_toArray, List.set_cons_zero, List.set_cons_succ]
      refine wpList_reads (by kernel_rfl) (.int .i64 1) (by go_simp) ?_
      simp only [Act.put, List.setIfInBounds_toArray, List.set_cons_zero, List.set_cons_succ]
      have m02 := (mx.trans mw1).trans mw2
      clear mx
      have dN : decide ((4611686018427387903 : Int) < (N : Int)) = true := by rw [decide_eq_true_iff]; omega
      have dM : decide ((4611686018427387903 : Int) < (M : Int)) = true := by rw [decide_eq_true_iff]; omega
      clear hNc hMc
      replace m02 := Lib.hid m02
      clear mw1 mw2 bxw1 bxw2
      go_upto_region 4 with (fail)
      refine wp_region_lit ?_
      refine wpList_reads (by kernel_rfl) (.int .i64 1) (by go_simp) ?_
      simp only [Act.put, List.setIfInBounds_toArray, List.set_cons_zero, List.set_cons_succ]
      refine wpList_reads (by kernel_rfl) (.bool true) (by go_simp) ?_
      simp only [Act.put, List.setIfInBounds_toArray, List.set_cons_zero, List.set_cons_succ]
      refine wpList_reads (by kernel_rfl) (.int .u64 (N : Int)) (by go_simp) ?_
      simp only [Act.put, List.setIfInBounds_toArray, List.set_cons_zero, List.set_cons_succ]
      refine wpList_reads (by kernel_rfl) (.bool true) (by go_simp) ?_
      simp only [Act.put, List.setIfInBounds_toArray, List.set_cons_zero, List.set_cons_succ]
      refine wpList_reads (by kernel_rfl) (.bool true) (by go_simp) ?_
      simp only [Act.put, List.setIfInBounds_toArray, List.set_cons_zero, List.set_cons_succ]
      refine wpList_reads (by kernel_rfl) (.bool true) (by go_simp) ?_
      simp only [Act.put, List.setIfInBounds_toArray, List.set_cons_zero, List.set_cons_succ]
      refine wpList_reads (by kernel_rfl) (.int .i64 1) (by go_simp) ?_
      simp only [Act.put, List.setIfInBounds_toArray, List.set_cons_zero, List.set_cons_succ]
      refine wpList_reads (by kernel_rfl) (.bool true) (by go_simp) ?_
      simp only [Act.put, List.setIfInBounds_toArray, List.set_cons_zero, List.set_cons_succ]
      refine wpList_reads (by kernel_rfl) (.int .u64 (M : Int)) (by go_simp) ?_
      simp only [Act.put, List.setIfInBounds_toArray, List.set_cons_zero, List.set_cons_succ]
      refine wpList_reads (by kernel_rfl) (.bool true) (by go_simp) ?_
      simp only [Act.put, List.setIfInBounds_toArray, List.set_cons_zero, List.set_cons_succ]
      refine wpList_reads (by kernel_rfl) (.bool true) (by go_simp) ?_
      simp only [Act.put, List.setIfInBounds_toArray, List.set_cons_zero, List.set_cons_succ]
      refine wpList_reads (by kernel_rfl) (.bool true) (by go_simp) ?_
      simp only [Act.put, List.setIfInBounds_toArray, List.set_cons_zero, List.set_cons_succ]
      refine wpList_reads (by kernel_rfl) (.bool true) (by go_simp) ?_
      simp only [Act.put, List.setIfInBounds_toArray, List.set_cons_zero, List.set_cons_succ]
      refine wpList_enter (by kernel_rfl) 5 #[] (by go_simp) (lives_any w2) ?_
      rintro e w3 ⟨m3, rfl⟩
      have mf := m02.out.trans m3
      replace mf := Lib.hid mf
      clear m3
      refine ⟨_, rfl, ?_⟩
      simp only [Act.put, List.setIfInBounds_toArray, List.set_cons_zero, List.set_cons_succ]
      refine wpList_reads (by kernel_rfl) (.bool true) (by go_simp) ?_
      simp only [Act.put, List.setIfInBounds_toArray, List.set_cons_zero, List.set_cons_succ]
      refine wpList_reads (by kernel_rfl) (.bool true) (by go_simp) ?_
      simp only [Act.put, List.setIfInBounds_toArray, List.set_cons_zero, List.set_cons_succ]
      go_wp2
      go_ret
      exact ⟨mf.out, rfl⟩
end Go.Proofs.Ytppjnkgmbmhlcaa
