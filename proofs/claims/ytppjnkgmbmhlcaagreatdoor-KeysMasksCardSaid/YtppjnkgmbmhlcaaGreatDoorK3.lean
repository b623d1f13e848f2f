/-
  hkdf's mac of lists of bytes, one behind the other. Printed by gen/hk3.py.
-/
import Derived.Test.YtppjnkgmbmhlcaaGreatDoorK2
import Derived.Test.YtppjnkgmbmhlcaaGreatDoorMA
namespace Go.Proofs.YtppjnkgmbmhlcaaGreatDoor
set_option maxRecDepth 100000
open Go Go.RowKit Go.Lib
set_option linter.unusedSimpArgs false
set_option linter.unusedVariables false

def xorTo (K : List (BitVec 8)) (c : BitVec 8) (i : Nat) : List (BitVec 8) := (K.take i).map (· ^^^ c) ++ K.drop i
def xorAll (K : List (BitVec 8)) (c : BitVec 8) : List (BitVec 8) := K.map (· ^^^ c)
theorem xorTo_length (K : List (BitVec 8)) (c : BitVec 8) (i : Nat) : (xorTo K c i).length = K.length := by simp [xorTo]; omega
theorem xorTo_zero (K : List (BitVec 8)) (c : BitVec 8) : xorTo K c 0 = K := by simp [xorTo]
theorem xorTo_all (K : List (BitVec 8)) (c : BitVec 8) (n : Nat) (h : K.length = n) : xorTo K c n = xorAll K c := by subst h; simp [xorTo, xorAll]
theorem xorTo_get (K : List (BitVec 8)) (c : BitVec 8) (i : Nat) (h : i < K.length) : (xorTo K c i).getD i 0 = K.getD i 0 := by
  unfold xorTo
  rw [List.getD_eq_getElem?_getD, List.getElem?_append_right (by simp; omega), List.getElem?_drop, List.getD_eq_getElem?_getD]
  simp [Nat.min_eq_left (Nat.le_of_lt h)]
theorem xorTo_set (K : List (BitVec 8)) (c : BitVec 8) (i : Nat) (h : i < K.length) : (xorTo K c i).set i (K.getD i 0 ^^^ c) = xorTo K c (i + 1) := by
  unfold xorTo
  have h1 : ((K.take i).map (· ^^^ c)).length = i := by simp; omega
  rw [List.set_append_right _ _ (by omega), h1, Nat.sub_self, List.drop_eq_getElem_cons h, List.set_cons_zero, List.take_add_one, List.getElem?_eq_getElem h, List.getD_eq_getElem?_getD, List.getElem?_eq_getElem h, List.map_append, List.append_assoc]
  rfl
theorem bits_xor8 (a b : BitVec 8) : bits .xor .u8 (a.toNat : Int) (b.toNat : Int) = ((a ^^^ b).toNat : Int) := by
  rw [u8_xor_nat _ _ a.isLt b.isLt, BitVec.toNat_xor]
/-- A MAC: a sum of a sum. -/
def macS (K m : List (BitVec 8)) : List (BitVec 8) := shaS (xorAll K 92 ++ shaS (xorAll K 54 ++ m))
theorem macS_length (K m : List (BitVec 8)) : (macS K m).length = 32 := shaS_length _
theorem anyZ_fork {P : Program} {ops : Array Oper} {md : Region.Mode} {S : World → Prop} {z : Nat} {Q : Exit → Act → World → Prop} (i j : Nat) {f : Nat} {listed : Array Bool} {a : Act} {w : World} (hr : Region.ready md ops listed = [i, j])
    (h1 : wpOp P ops (fun _ _ _ => False) i (fun a' w' => (i ≠ z → S w') ∧ anyZ P md ops S z Q f (listed.setIfInBounds i true) a' w') a w)
    (h2 : wpOp P ops (fun _ _ _ => False) j (fun a' w' => (j ≠ z → S w') ∧ anyZ P md ops S z Q f (listed.setIfInBounds j true) a' w') a w) : anyZ P md ops S z Q (f + 1) listed a w := by
  refine ⟨fun h0 => (by rw [hr] at h0; cases h0), fun k hk => ?_⟩
  rw [hr] at hk
  simp only [List.mem_cons, List.not_mem_nil, or_false] at hk
  rcases hk with rfl | rfl
  · exact h1
  · exact h2
theorem wpOp_value {P : Program} {ops : Array Oper} {Q : Exit → Act → World → Prop} {i : Nat} (o : Oper) (d : Option Tmp) {K : Act → World → Prop} {a : Act} {w : World} (hi : ops[i]? = some o) (hw : Region.wanted o (yielded ops a.tmps) = true) (hd : o.dst = d) (v : Value) (w' : World)
    (hrun : (execOp a.eval o).run P w = .ok (.value v) w') (h : K (a.put d v) w') : wpOp P ops Q i K a w := by
  subst hd
  unfold wpOp
  simp only [hi]
  rw [if_pos hw]
  refine .inl ?_
  unfold Oper.wp
  rw [hrun]
  exact h
theorem infoBS : (Tryz.prog.info? 22).map (fun i => (i.zero, i.size, i.bytes)) = some (some (.slice none 0 0), 1, 24) := by kernel_rfl

set_option maxRecDepth 100000 in
set_option maxHeartbeats 4000000 in
theorem mac_any (K : List (BitVec 8)) (hK : K.length = 64) (lv : Value) (bss : List (List (BitVec 8))) (w : World) (hlv : ListAt w lv bss) (hk : bss.length ≤ 10) (hl : bss.flatten.length ≤ 1048512) :
    Calls Tryz.prog 129 #[.agg (encB K), lv] w fun e w' => Mod (fun _ => False) w w' ∧ e = .returned (.agg (encB (macS K bss.flatten))) := by
  obtain ⟨w1, hw1⟩ : ∃ w1, w1 = (w.alloc (.cells (encB K) 185)).alloc (.cells (encB (zb 32)) 62) := ⟨_, rfl⟩
  have m1 : Mod (fun _ => False) w w1 := by rw [hw1]; exact ((Mod.refl _ _).alloc _).alloc _
  have k1 : w1.heap[w.heap.size]? = some (.cells (encB K) 185 (0,0)) := by rw [hw1, hp_old _ _ _ (by simp)]; exact hp_new _ _ _ rfl
  have r1 : w1.heap[w.heap.size + 1]? = some (.cells (encB (zb 32)) 62 (0,0)) := by rw [hw1]; exact hp_new _ _ _ (by simp)
  have hs1 : w1.heap.size = w.heap.size + 2 := by rw [hw1]; simp
  have lk1 : ∀ w', w'.heap[w.heap.size]? = some (.cells (encB K) 185 (0,0)) → (loadVar 185 ⟨w.heap.size, 0, none⟩).run Tryz.prog w' = .ok (.agg (encB K)) w' := fun w' x => key_load x hK
  have k1d : w1.drew.heap[w.heap.size]? = some (.cells (encB K) 185 (0,0)) := k1
  obtain ⟨wi, hwi⟩ : ∃ wi, wi = w1.drew.alloc (.cells (encB (zb 64)) 185) := ⟨_, rfl⟩
  obtain ⟨wo, hwo⟩ : ∃ wo, wo = wi.alloc (.cells (encB (zb 64)) 185) := ⟨_, rfl⟩
  have hsi : wi.heap.size = w.heap.size + 3 := by rw [hwi]; simp [hs1]
  have ki : wi.heap[w.heap.size]? = some (.cells (encB K) 185 (0,0)) := by rw [hwi, hp_old _ _ _ (by simp [hs1])]; exact k1
  have ko : wo.heap[w.heap.size]? = some (.cells (encB K) 185 (0,0)) := by rw [hwo, hp_old _ _ _ (by rw [hsi]; omega)]; exact ki
  have xi : wo.heap[w.heap.size + 2]? = some (.cells (encB (zb 64)) 185 (0,0)) := by rw [hwo, hp_old _ _ _ (by rw [hsi]; omega), hwi]; exact hp_new _ _ _ (by simp [hs1])
  have xo : wo.heap[w.heap.size + 3]? = some (.cells (encB (zb 64)) 185 (0,0)) := by rw [hwo]; exact hp_new _ _ _ (by rw [hsi])
  have m1o : Mod (fun _ => False) w1 wo := by rw [hwo, hwi]; exact ((Mod.refl _ _).drew.alloc _).alloc _
  replace hw1 := Lib.hid hw1
  replace k1 := Lib.hid k1
  replace k1d := Lib.hid k1d
  replace ki := Lib.hid ki
  replace ko := Lib.hid ko
  replace lk1 := Lib.hid lk1
  replace hwi := Lib.hid hwi
  replace hwo := Lib.hid hwo
  replace hsi := Lib.hid hsi
  replace hs1 := Lib.hid hs1
  replace xi := Lib.hid xi
  replace xo := Lib.hid xo
  replace m1 := Lib.hid m1
  replace r1 := Lib.hid r1
  replace m1o := Lib.hid m1o
  replace hlv := Lib.hid hlv
  replace hK := Lib.hid hK
  replace hk := Lib.hid hk
  replace hl := Lib.hid hl
  go_enter Tryz.func129, Tryz.ntmps129
  go_upto_region 0 with (fail)
  refine wp_region_lit ?_
  refine wpList_yields (by kernel_rfl) (.pointer (some ⟨w.heap.size, 0, none⟩)) (w.alloc (.cells (encB K) 185)) (by go_simp) ?_
  simp only [Act.put, List.setIfInBounds_toArray, List.set_cons_zero, List.set_cons_succ]
  refine wpList_yields (by kernel_rfl) _ _ (alloc_arr 62 _ zero32 _ _ _ rfl) ?_
  simp only [Act.put, List.setIfInBounds_toArray, List.set_cons_zero, List.set_cons_succ]
  rw [show (w.alloc (.cells (encB K) 185)).heap.size = w.heap.size + 1 by simp, ← hw1.out]
  go_upto_region 1 with (fail)
  refine wp_region_any (by kernel_rfl) (any_of_Z (S := fun w' => w'.heap[w.heap.size]? = some (.cells (encB K) 185 (0,0))) (z := 5) _ _ _ _ ?_)
  simp only [List.size_toArray, List.length_cons, List.length_nil, Nat.reduceAdd, Array.replicate_succ, Array.replicate_zero, List.push_toArray, List.nil_append, List.cons_append]
  change anyZ _ _ _ _ _ _ _ _ _ w1.drew
  refine anyZ_take 0 _ (some 10) (.agg (encB K)) rfl (by kernel_rfl) (by kernel_rfl) (by kernel_rfl) (by kernel_rfl) (by kernel_rfl) (by decide) rfl (fun w' hS => ?_) k1d.out ?_
  · exact run_load_op rfl rfl (lk1.out _ hS)
  simp only [Act.put, List.setIfInBounds_toArray, List.set_cons_zero, List.set_cons_succ]
  refine anyZ_take 1 _ (some 11) (.agg (encB K)) rfl (by kernel_rfl) (by kernel_rfl) (by kernel_rfl) (by kernel_rfl) (by kernel_rfl) (by decide) rfl (fun w' hS => ?_) k1d.out ?_
  · exact run_load_op rfl rfl (lk1.out _ hS)
  simp only [Act.put, List.setIfInBounds_toArray, List.set_cons_zero, List.set_cons_succ]
  have ha1 : ∀ (ev : Operand → Value) (oo : Oper), oo.op = .alloc 185 → (execOp ev oo).run Tryz.prog w1.drew = .ok (.value (.pointer (some ⟨w.heap.size + 2, 0, none⟩))) wi := by
    intro ev oo ho
    have h := alloc_arr 185 _ zero64b w1.drew ev oo ho
    rw [show w1.drew.heap.size = w.heap.size + 2 from hs1.out, ← hwi.out] at h
    exact h
  have ha2 : ∀ (ev : Operand → Value) (oo : Oper), oo.op = .alloc 185 → (execOp ev oo).run Tryz.prog wi = .ok (.value (.pointer (some ⟨w.heap.size + 3, 0, none⟩))) wo := by
    intro ev oo ho
    have h := alloc_arr 185 _ zero64b wi ev oo ho
    rw [hsi.out, ← hwo.out] at h
    exact h
  refine anyZ_fork 2 3 (by kernel_rfl) ?_ ?_
  · skip
    refine wpOp_value _ (some 5) rfl (by kernel_rfl) rfl (.pointer (some ⟨w.heap.size + 2, 0, none⟩)) wi (ha1 _ _ rfl) ?_
    simp only [Act.put, List.setIfInBounds_toArray, List.set_cons_zero, List.set_cons_succ]
    refine ⟨fun _ => ki.out, ?_⟩
    refine anyZ_next 3 _ (some 6) rfl (by kernel_rfl) (by kernel_rfl) rfl (.pointer (some ⟨w.heap.size + 3, 0, none⟩)) wo (ha2 _ _ rfl) (fun _ => ko.out) ?_
    simp only [Act.put, List.setIfInBounds_toArray, List.set_cons_zero, List.set_cons_succ]
    obtain ⟨wp, sp, mp, xp⟩ := key_store xi.out (s' := K) (by simp [zb]) hK.out
    obtain ⟨wq, sq, mq, xq⟩ := key_store (mp.heap xo.out (by omega)) (s' := K) (by simp [zb]) hK.out
    have kp := mp.heap ko.out (by omega)
    have kq := mq.heap kp (by omega)
    have xpq := mq.heap xp (by omega)
    have m1q : Mod (fun _ => False) w1 wq := (m1o.out.trans' mp (fun i hi h => by have := hs1.out; omega)).trans' mq (fun i hi h => by have := hs1.out; omega)
    have rq := m1q.heap r1.out (fun h => h)
    have m0q := m1.out.trans m1q
    replace kp := Lib.hid kp
    replace rq := Lib.hid rq
    replace m0q := Lib.hid m0q
    replace xpq := Lib.hid xpq
    replace xq := Lib.hid xq
    clear mp xp mq m1q kq
    refine anyZ_skip 4 _ rfl (by kernel_rfl) (by kernel_rfl) rfl (wp) ?_ (fun _ => kp.out) ?_
    · exact run_store_op rfl rfl rfl sp
    simp only [Act.put, List.setIfInBounds_toArray, List.set_cons_zero, List.set_cons_succ]
    refine anyZ_skip 5 _ rfl (by kernel_rfl) (by kernel_rfl) rfl wq ?_ (fun h => absurd rfl h) ?_
    · exact run_store_op rfl rfl rfl sq
    simp only [Act.put, List.setIfInBounds_toArray, List.set_cons_zero, List.set_cons_succ]
    refine anyZ_done (by kernel_rfl) ?_ _
    obtain ⟨IN, hIN⟩ : ∃ x, x = w.heap.size + 2 := ⟨_, rfl⟩
    obtain ⟨OUT, hOUT⟩ : ∃ x, x = w.heap.size + 3 := ⟨_, rfl⟩
    rw [← hIN] at xpq ⊢
    rw [← hOUT] at xq ⊢
    have hIO : IN ≠ OUT := by omega
    have hI2 : w.heap.size + 2 ≤ IN := by omega
    have hO2 : w.heap.size + 2 ≤ OUT := by omega
    replace hIN := Lib.hid hIN
    replace hOUT := Lib.hid hOUT
    replace hIO := Lib.hid hIO
    replace hI2 := Lib.hid hI2
    replace hO2 := Lib.hid hO2
    clear sp sq kp hwi hwo hsi ki ko xi xo ha1 ha2 lk1 k1d
    go_wp2
    go_loopw [12] (fun iv wr => ∃ i : Nat, i ≤ 64 ∧ iv = .int .i64 (i : Int) ∧ Mod (fun k => k = IN ∨ k = OUT) wq wr ∧ wr.heap[IN]? = some (.cells (encB (xorTo K 54 i)) 185 (0,0)) ∧ wr.heap[OUT]? = some (.cells (encB (xorTo K 92 i)) 185 (0,0))) (fun iv _ => 64 - (intOf iv).toNat)
    case atStart => exact ⟨0, by omega, rfl, Mod.refl _ _, by rw [xorTo_zero]; exact xpq.out, by rw [xorTo_zero]; exact xq.out⟩
    case round =>
      obtain ⟨i, hi, rfl, mr, xi, xo⟩ := hrel
      have bi0 : (0 : Int) ≤ (i : Int) := by omega
      have bi : (i : Int) ≤ 64 := by omega
      by_cases hlt : i < 64
      · have hd : decide ((i : Int) < 64) = true := by rw [decide_eq_true_iff]; omega
        have bil : (i : Int) < 64 := by omega
        have hiK : i < K.length := by rw [hK.out]; exact hlt
        have ci : wr.cell? ⟨IN, i, none⟩ = some _ := encB_cell xi (i := i) (by rw [xorTo_length]; exact hiK)
        have co : wr.cell? ⟨OUT, i, none⟩ = some _ := encB_cell xo (i := i) (by rw [xorTo_length]; exact hiK)
        rw [xorTo_get _ _ _ hiK] at ci co
        have fi := frozen_of_row wr IN i _ _ xi
        have ha := xorTo_set K 54 i hiK
        have hb := xorTo_set K 92 i hiK
        obtain ⟨x, hx⟩ : ∃ x, x = K.getD i 0 := ⟨_, rfl⟩
        rw [← hx] at ci co ha hb
        have e54 : bits .xor .u8 (x.toNat : Int) 54 = ((x ^^^ 54).toNat : Int) := bits_xor8 x 54
        have e92 : bits .xor .u8 (x.toNat : Int) 92 = ((x ^^^ 92).toNat : Int) := bits_xor8 x 92
        obtain ⟨y, hy⟩ : ∃ y, y = x ^^^ 54 := ⟨_, rfl⟩
        obtain ⟨z, hz⟩ : ∃ z, z = x ^^^ 92 := ⟨_, rfl⟩
        rw [← hy] at e54 ha
        rw [← hz] at e92 hb
        have s1 := store_byte (n := (y.toNat : Int)) ci fi
        have r1' := row_set xi i y
        rw [ha] at r1'
        obtain ⟨w2, hw2⟩ : ∃ w2, w2 = wr.setCell ⟨IN, i, none⟩ (.int .u8 (y.toNat : Int)) := ⟨_, rfl⟩
        rw [← hw2] at s1 r1'
        have m2 : Mod (fun k => k = IN) wr w2 := by rw [hw2]; exact Mod.one_setCell _ _ _ _
        have xo2 := m2.heap xo (fun h => hIO.out h.symm)
        have co2 := cell_mod m2 co (fun h => hIO.out h.symm)
        have fo2 := frozen_of_row w2 OUT i _ _ xo2
        have s2 := store_byte (n := (z.toNat : Int)) co2 fo2
        have r2' := row_set xo2 i z
        rw [hb] at r2'
        obtain ⟨w3, hw3⟩ : ∃ w3, w3 = w2.setCell ⟨OUT, i, none⟩ (.int .u8 (z.toNat : Int)) := ⟨_, rfl⟩
        rw [← hw3] at s2 r2'
        have m3 : Mod (fun k => k = OUT) w2 w3 := by rw [hw3]; exact Mod.one_setCell _ _ _ _
        have r1'' := m3.heap r1' (fun h => hIO.out h)
        have mr3 : Mod (fun k => k = IN ∨ k = OUT) wq w3 := (mr.trans' m2 (fun _ _ h => .inl h)).trans' m3 (fun _ _ h => .inr h)
        replace hx := Lib.hid hx
        replace hy := Lib.hid hy
        replace hz := Lib.hid hz
        replace hw2 := Lib.hid hw2
        replace hw3 := Lib.hid hw3
        replace r1'' := Lib.hid r1''
        replace r2' := Lib.hid r2'
        replace mr3 := Lib.hid mr3
        replace hlt := Lib.hid hlt
        clear mr xi xo fi ha hb r1' m2 xo2 fo2 m3 hiK hi co
        go_upto_region 5 with (fail)
        refine wp_region_lit ?_
        refine wpList_reads (by kernel_rfl) (.int .i64 (i : Int)) (by go_simp) ?_
        simp only [Act.put, List.setIfInBounds_toArray, List.set_cons_zero, List.set_cons_succ]
        refine wpList_reads (by kernel_rfl) (.pointer (some ⟨IN, i, none⟩)) (by go_simp) ?_
        simp only [Act.put, List.setIfInBounds_toArray, List.set_cons_zero, List.set_cons_succ]
        refine wpList_reads (by kernel_rfl) (.int .u8 (x.toNat : Int)) (by go_simp) ?_
        simp only [Act.put, List.setIfInBounds_toArray, List.set_cons_zero, List.set_cons_succ]
        refine wpList_reads (by kernel_rfl) (.int .u8 (y.toNat : Int)) (by go_simp) ?_
        simp only [Act.put, List.setIfInBounds_toArray, List.set_cons_zero, List.set_cons_succ]
        refine wpList_reads (by kernel_rfl) (.pointer (some ⟨IN, i, none⟩)) (by go_simp) ?_
        simp only [Act.put, List.setIfInBounds_toArray, List.set_cons_zero, List.set_cons_succ]
        refine wpList_store_to rfl _ _ _ rfl _ _ _ rfl rfl _ s1 ?_
        simp only [Act.put, List.setIfInBounds_toArray, List.set_cons_zero, List.set_cons_succ]
        go_upto_region 6 with (fail)
        refine wp_region_lit ?_
        refine wpList_reads (by kernel_rfl) (.int .i64 (i : Int)) (by go_simp) ?_
        simp only [Act.put, List.setIfInBounds_toArray, List.set_cons_zero, List.set_cons_succ]
        refine wpList_reads (by kernel_rfl) (.pointer (some ⟨OUT, i, none⟩)) (by go_simp) ?_
        simp only [Act.put, List.setIfInBounds_toArray, List.set_cons_zero, List.set_cons_succ]
        refine wpList_reads (by kernel_rfl) (.int .u8 (x.toNat : Int)) (by go_simp) ?_
        simp only [Act.put, List.setIfInBounds_toArray, List.set_cons_zero, List.set_cons_succ]
        refine wpList_reads (by kernel_rfl) (.int .u8 (z.toNat : Int)) (by go_simp) ?_
        simp only [Act.put, List.setIfInBounds_toArray, List.set_cons_zero, List.set_cons_succ]
        refine wpList_reads (by kernel_rfl) (.pointer (some ⟨OUT, i, none⟩)) (by go_simp) ?_
        simp only [Act.put, List.setIfInBounds_toArray, List.set_cons_zero, List.set_cons_succ]
        refine wpList_store_to rfl _ _ _ rfl _ _ _ rfl rfl _ s2 ?_
        simp only [Act.put, List.setIfInBounds_toArray, List.set_cons_zero, List.set_cons_succ]
        go_wp2
        go_roundw
        case measure => have := hlt.out; simp [intOf]; omega
        case rel => exact ⟨i + 1, by have := hlt.out; omega, by go_num, mr3.out, r1''.out, r2'.out⟩
      · have hi64 : i = 64 := by omega
        have hd : decide ((i : Int) < 64) = false := by rw [decide_eq_false_iff_not]; omega
        rw [hi64, xorTo_all K _ 64 hK.out] at xi xo
        obtain ⟨wa, hwa⟩ : ∃ wa, wa = wr := ⟨_, rfl⟩
        rw [← hwa] at mr xi xo ⊢
        obtain ⟨PI, hPI⟩ : ∃ PI, PI = xorAll K 54 := ⟨_, rfl⟩
        obtain ⟨PO, hPO⟩ : ∃ PO, PO = xorAll K 92 := ⟨_, rfl⟩
        rw [← hPI] at xi
        rw [← hPO] at xo
        have hPIl : PI.length = 64 := by rw [hPI, xorAll, List.length_map, hK.out]
        have hPOl : PO.length = 64 := by rw [hPO, xorAll, List.length_map, hK.out]
        have hmac : macS K bss.flatten = shaS (PO ++ shaS (PI ++ bss.flatten)) := by rw [hPI, hPO]; rfl
        have m0a : Mod (fun _ => False) w wa := m0q.out.trans' mr (fun i hi h => by have := hI2.out; have := hO2.out; omega)
        have ra := mr.heap rq.out (by have := hI2.out; have := hO2.out; omega)
        obtain ⟨B, off, cap, hlve, hcells⟩ := hlv.out
        obtain ⟨k, hkk⟩ : ∃ k, k = bss.length := ⟨_, rfl⟩
        rw [← hkk] at hlve hcells
        subst hlve
        obtain ⟨news, hnl, hnews⟩ := list_choose (Q := fun j x => w.cell? ⟨B, off + j, none⟩ = some x ∧ ByteAt w x (bss.getD j [])) k (fun i hi => hcells i hi)
        obtain ⟨wb, hwb⟩ : ∃ wb, wb = wa.alloc (.cells #[.slice (some ⟨IN, 0, none⟩) 64 64] 22) := ⟨_, rfl⟩
        obtain ⟨g, hg⟩ : ∃ g, g = wa.heap.size := ⟨_, rfl⟩
        have mab : Mod (fun _ => False) wa wb := by rw [hwb]; exact (Mod.refl _ _).alloc _
        have gb : wb.heap[g]? = some (.cells #[.slice (some ⟨IN, 0, none⟩) 64 64] 22 (0,0)) := by rw [hwb]; exact hp_new _ _ _ hg
        have m0b := m0a.trans mab
        have own1 : wb.ownsRow g 22 1 (.slice (some ⟨g, 0, none⟩) 1 1) 1 [.slice (some ⟨IN, 0, none⟩) 64 64] := ⟨rfl, .inr ⟨g, 1, _, rfl, Nat.le_refl _, gb, Nat.le_refl _, by unfold maxLen; omega, rfl, rfl⟩⟩
        have hgw : w.heap.size + 2 ≤ g := by have := lt_of_heap xi; have := hI2.out; omega
        have hgI : IN < g := by rw [hg]; exact lt_of_heap xi
        have hgO : OUT < g := by rw [hg]; exact lt_of_heap xo
        obtain ⟨i0, hi0, hz0, hz1, hz2⟩ := info_parts infoBS
        have hap := fun ty => run_append_own (P := Tryz.prog) wb g 102 ty 22 i0 (.slice none 0 0) 1 24 Tryz.underlying102 hi0 hz0 hz1 hz2 rfl (by decide) _ 1 _ own1 ⟨B, off, none⟩ k cap news (by rw [hnl, Nat.mul_one])
          (fun j u hj => by
            rw [show ((⟨B, off, none⟩ : Addr).add j) = ⟨B, off + j, none⟩ by unfold Addr.add; split <;> simp_all]
            exact cell_mod m0b (hnews j u hj).1 (fun h => h))
          (fun u hu => by
            obtain ⟨j, hj, rfl⟩ := List.getElem_of_mem hu
            obtain ⟨_, _, h2, _⟩ := (hnews j _ (List.getElem?_eq_getElem hj)).2.slice
            rw [h2]
            rfl) (by unfold maxLen; have := hk.out; omega) (by have := hk.out; omega) (by have := lt_of_heap gb; omega)
        obtain ⟨v4, w4, hrun4, own4, grow4, _⟩ := hap 102
        have m4 : Mod (fun j => j = g) wb w4 := (Mod.refl _ wb).grown grow4 (fun j hj _ => by
          simp only [Value.ownBlock, Option.some.injEq] at hj
          exact hj.symm)
        obtain ⟨g4, cap4, hv4, hgg4, hg4l, hc4⟩ := own_cells own4 (by omega)
        subst hv4
        have ma4 : Mod (fun _ => False) wa w4 := mab.trans' m4 (fun i hi h => by omega)
        have m04 := m0a.trans ma4
        have xi4 := ma4.heap xi (fun h => h)
        have xo4 := ma4.heap xo (fun h => h)
        have ra4 := ma4.heap ra (fun h => h)
        have bI4 := ByteAt.row xi4
        rw [hPIl] at bI4
        have hL4 : ListAt w4 (.slice (some ⟨g4, 0, none⟩) (1 + k) cap4) (PI :: bss) := by
          refine ⟨g4, 0, cap4, by rw [List.length_cons, ← hkk, Nat.add_comm], fun j hj => ?_⟩
          rw [Nat.zero_add]
          cases j with
          | zero => exact ⟨_, hc4 0 _ rfl, bI4⟩
          | succ j =>
            have hj' : j < k := by rw [hkk]; simpa using hj
            obtain ⟨x, hx⟩ : ∃ x, news[j]? = some x := ⟨news[j]'(by omega), List.getElem?_eq_getElem (by omega)⟩
            refine ⟨x, hc4 (j + 1) x (by rw [List.singleton_append, List.getElem?_cons_succ]; exact hx), ?_⟩
            rw [List.getD_cons_succ]
            exact (hnews j x hx).2.mod m04 (fun _ _ h => h)
        have hk' := hk.out
        have hl' := hl.out
        have hYl : (PI ++ bss.flatten).length = 64 + bss.flatten.length := by rw [List.length_append, hPIl]
        replace hmac := Lib.hid hmac
        replace m04 := Lib.hid m04
        replace xo4 := Lib.hid xo4
        replace ra4 := Lib.hid ra4
        replace hL4 := Lib.hid hL4
        replace hwa := Lib.hid hwa
        replace hwb := Lib.hid hwb
        replace hPI := Lib.hid hPI
        replace hPO := Lib.hid hPO
        replace hPIl := Lib.hid hPIl
        replace hPOl := Lib.hid hPOl
        replace hYl := Lib.hid hYl
        replace hkk := Lib.hid hkk
        replace hg := Lib.hid hg
        replace hgw := Lib.hid hgw
        replace hg4l := Lib.hid hg4l
        have hs04 := m04.out.size
        have hsw := lt_of_heap ra4.out
        replace hs04 := Lib.hid hs04
        replace hsw := Lib.hid hsw
        clear mr xi xo m0a ra hcells hnews hnl mab gb m0b own1 hgI hgO hap own4 grow4 m4 hc4 ma4 xi4 bI4 hgg4 hi hlt hi64 hlv
        go_upto_region 8 with (fail)
        refine wp_region_lit ?_
        refine wpList_reads (by kernel_rfl) (.slice (some ⟨IN, 0, none⟩) 64 64) (by go_simp) ?_
        simp only [Act.put, List.setIfInBounds_toArray, List.set_cons_zero, List.set_cons_succ]
        refine wpList_yields (by kernel_rfl) (.slice (some ⟨g, 0, none⟩) 1 1) wb (by rw [hwb.out, hg.out]; go_simp) ?_
        simp only [Act.put, List.setIfInBounds_toArray, List.set_cons_zero, List.set_cons_succ]
        refine wpList_reads (by kernel_rfl) (.slice (some ⟨B, off, none⟩) k cap) (by go_simp) ?_
        simp only [Act.put, List.setIfInBounds_toArray, List.set_cons_zero, List.set_cons_succ]
        refine Lib.wpList_append_run _ rfl _ _ _ _ rfl _ _ rfl rfl _ _ hrun4 ?_
        simp only [Act.put, List.setIfInBounds_toArray, List.set_cons_zero, List.set_cons_succ]
        refine wpList_enter (by kernel_rfl) 119 #[.slice (some ⟨g4, 0, none⟩) (1 + k) cap4] (by go_simp) (concat_any _ (PI :: bss) w4 hL4.out (by rw [List.length_cons]; omega) (by rw [List.flatten_cons, hYl.out]; omega)) ?_
        rintro e w5 ⟨m5, v5, rfl, own5⟩
        rw [List.flatten_cons] at own5
        have b5 := byteAt_of_own own5
        have hs5 : sumV (PI ++ bss.flatten) = .tuple #[.agg (encB (shaS (PI ++ bss.flatten))), .int .i64 0] := by unfold sumV; rw [if_neg (by rw [hYl.out]; omega)]
        obtain ⟨H, hH⟩ : ∃ H, H = shaS (PI ++ bss.flatten) := ⟨_, rfl⟩
        have hHl : H.length = 32 := by rw [hH]; exact shaS_length _
        rw [← hH] at hs5
        have m05 := m04.out.trans m5
        have xo5 := m5.heap xo4.out (fun h => h)
        have ra5 := m5.heap ra4.out (fun h => h)
        replace m05 := Lib.hid m05
        replace xo5 := Lib.hid xo5
        replace ra5 := Lib.hid ra5
        replace hH := Lib.hid hH
        replace hHl := Lib.hid hHl
        clear own5 m5
        refine ⟨_, rfl, ?_⟩
        simp only [Act.put, List.setIfInBounds_toArray, List.set_cons_zero, List.set_cons_succ]
        refine wpList_enter (by kernel_rfl) 70 #[v5] (by go_simp) (sum_any v5 _ w5 b5 (by rw [hYl.out]; omega)) ?_
        rintro e w6 ⟨m6, rfl⟩
        rw [hs5]
        obtain ⟨g8, hg8⟩ : ∃ g8, g8 = w6.heap.size := ⟨_, rfl⟩
        obtain ⟨w7, hw7⟩ : ∃ w7, w7 = w6.alloc (.cells (encB (zb 32)) 62) := ⟨_, rfl⟩
        have m7 : Mod (fun _ => False) w6 w7 := by rw [hw7]; exact (Mod.refl _ _).alloc _
        have z7 : w7.heap[g8]? = some (.cells (encB (zb 32)) 62 (0,0)) := by rw [hw7]; exact hp_new _ _ _ hg8
        obtain ⟨w8, s8, m8, z8⟩ := bytes_store z7 (s' := H) (by decide) hHl.out
        have m68 : Mod (fun _ => False) w6 w8 := m7.trans' m8 (fun i hi h => by omega)
        have m08 := (m05.out.trans m6).trans m68
        have xo8 := m68.heap (m6.heap xo5.out (fun h => h)) (fun h => h)
        have ra8 := m68.heap (m6.heap ra5.out (fun h => h)) (fun h => h)
        have hgO8 : OUT < g8 := by rw [hg8]; have := lt_of_heap (m6.heap xo5.out (fun h => h)); exact this
        have hgr8 : w.heap.size + 1 < g8 := by rw [hg8]; have := lt_of_heap (m6.heap ra5.out (fun h => h)); exact this
        replace hw7 := Lib.hid hw7
        replace hg8 := Lib.hid hg8
        replace z8 := Lib.hid z8
        replace m08 := Lib.hid m08
        replace xo8 := Lib.hid xo8
        replace ra8 := Lib.hid ra8
        replace hgO8 := Lib.hid hgO8
        replace hgr8 := Lib.hid hgr8
        clear m6 m7 z7 m8 m68 b5 hs5
        refine ⟨_, rfl, ?_⟩
        simp only [Act.put, List.setIfInBounds_toArray, List.set_cons_zero, List.set_cons_succ]
        refine wpList_reads (by kernel_rfl) (.tuple #[.agg (encB H), .int .i64 0]) (by go_simp) ?_
        simp only [Act.put, List.setIfInBounds_toArray, List.set_cons_zero, List.set_cons_succ]
        refine wpList_reads (by kernel_rfl) (.agg (encB H)) (by go_simp) ?_
        simp only [Act.put, List.setIfInBounds_toArray, List.set_cons_zero, List.set_cons_succ]
        refine wpList_reads (by kernel_rfl) (.int .i64 0) (by go_simp) ?_
        simp only [Act.put, List.setIfInBounds_toArray, List.set_cons_zero, List.set_cons_succ]
        refine wpList_yields (by kernel_rfl) _ _ (alloc_arr 62 _ zero32 _ _ _ rfl) ?_
        simp only [Act.put, List.setIfInBounds_toArray, List.set_cons_zero, List.set_cons_succ]
        rw [← hg8.out, ← hw7.out]
        refine wpList_store_to rfl _ _ _ rfl _ _ _ rfl rfl _ s8 ?_
        simp only [Act.put, List.setIfInBounds_toArray, List.set_cons_zero, List.set_cons_succ]
        refine wpList_reads (by kernel_rfl) (.int .i64 0) (by go_simp) ?_
        simp only [Act.put, List.setIfInBounds_toArray, List.set_cons_zero, List.set_cons_succ]
        go_upto_region 9 with (fail)
        refine wp_region_any (by kernel_rfl) (any_of_Z (S := fun _ => True) (z := 99) _ _ _ _ ?_)
        simp only [List.size_toArray, List.length_cons, List.length_nil, Nat.reduceAdd, Array.replicate_succ, Array.replicate_zero, List.push_toArray, List.nil_append, List.cons_append]
        change anyZ _ _ _ _ _ _ _ _ _ w8.drew
        obtain ⟨gB, hgB⟩ : ∃ gB, gB = w8.heap.size := ⟨_, rfl⟩
        obtain ⟨w9, hw9⟩ : ∃ w9, w9 = w8.drew.alloc (.cells #[.slice (some ⟨OUT, 0, none⟩) 64 64, .slice (some ⟨g8, 0, none⟩) 32 32] 22) := ⟨_, rfl⟩
        have m9 : Mod (fun _ => False) w8 w9 := by rw [hw9]; exact (Mod.refl _ _).drew.alloc _
        have gb9 : w9.heap[gB]? = some (.cells #[.slice (some ⟨OUT, 0, none⟩) 64 64, .slice (some ⟨g8, 0, none⟩) 32 32] 22 (0,0)) := by rw [hw9]; exact hp_new _ _ _ hgB
        have hrunB : ∀ (ev : Operand → Value) (oo : Oper) (x y : Operand), oo.op = .buildSlice 102 2 #[(0, x), (1, y)] → ev x = .slice (some ⟨OUT, 0, none⟩) 64 64 → ev y = .slice (some ⟨g8, 0, none⟩) 32 32 → (execOp ev oo).run Tryz.prog w8.drew = .ok (.value (.slice (some ⟨gB, 0, none⟩) 2 2)) w9 := by
          intro ev oo x y ho hx hy
          rw [hw9, hgB]
          go_simp
        have xo9 := m9.heap xo8.out (fun h => h)
        have z9 := m9.heap z8.out (fun h => h)
        have ra9 := m9.heap ra8.out (fun h => h)
        have bO9 := ByteAt.row xo9
        have bH9 := ByteAt.row z9
        rw [hPOl.out] at bO9
        rw [hHl.out] at bH9
        have hL9 : ListAt w9 (.slice (some ⟨gB, 0, none⟩) 2 2) [PO, H] := by
          refine ⟨gB, 0, 2, rfl, fun j hj => ?_⟩
          have hj2 : j = 0 ∨ j = 1 := by simp at hj; omega
          rcases hj2 with rfl | rfl
          · exact ⟨_, by rw [cell_of_row _ _ _ _ _ _ gb9]; rfl, bO9⟩
          · exact ⟨_, by rw [cell_of_row _ _ _ _ _ _ gb9]; rfl, bH9⟩
        have m09 := m08.out.trans m9
        have hfl : [PO, H].flatten = PO ++ H := by simp
        have hfll : (PO ++ H).length = 96 := by rw [List.length_append, hPOl.out, hHl.out]
        have hs96 : sumV (PO ++ H) = .tuple #[.agg (encB (shaS (PO ++ H))), .int .i64 0] := by unfold sumV; rw [if_neg (by rw [hfll]; omega)]
        obtain ⟨RR, hRR⟩ : ∃ RR, RR = macS K bss.flatten := ⟨_, rfl⟩
        have hRRl : RR.length = 32 := by rw [hRR]; exact macS_length _ _
        rw [← hH.out] at hmac
        rw [show shaS (PO ++ H) = RR by rw [hRR, hmac.out]] at hs96
        replace hRR := Lib.hid hRR
        replace hRRl := Lib.hid hRRl
        replace hL9 := Lib.hid hL9
        replace hfll := Lib.hid hfll
        replace m09 := Lib.hid m09
        replace ra9 := Lib.hid ra9
        replace z9 := Lib.hid z9
        replace hgB := Lib.hid hgB
        replace hw9 := Lib.hid hw9
        clear m9 gb9 xo9 bO9 bH9
        refine anyZ_take 0 _ (some 36) (.slice (some ⟨OUT, 0, none⟩) 64 64) rfl (by kernel_rfl) (by kernel_rfl) (by kernel_rfl) (by kernel_rfl) (by kernel_rfl) (by decide) rfl (fun w' hS => ?_) trivial ?_
        · go_simp
        simp only [Act.put, List.setIfInBounds_toArray, List.set_cons_zero, List.set_cons_succ]
        refine anyZ_take 1 _ (some 37) (.slice (some ⟨g8, 0, none⟩) 32 32) rfl (by kernel_rfl) (by kernel_rfl) (by kernel_rfl) (by kernel_rfl) (by kernel_rfl) (by decide) rfl (fun w' hS => ?_) trivial ?_
        · go_simp
        simp only [Act.put, List.setIfInBounds_toArray, List.set_cons_zero, List.set_cons_succ]
        refine anyZ_next 2 _ (some 38) rfl (by kernel_rfl) (by kernel_rfl) rfl (.slice (some ⟨gB, 0, none⟩) 2 2) w9 (hrunB _ _ _ _ rfl rfl rfl) (fun _ => trivial) ?_
        simp only [Act.put, List.setIfInBounds_toArray, List.set_cons_zero, List.set_cons_succ]
        refine anyZ_call 3 _ (some 39) rfl (by kernel_rfl) (by kernel_rfl) rfl 119 #[.slice (some ⟨gB, 0, none⟩) 2 2] (by go_simp) ((concat_any _ [PO, H] w9 hL9.out (by simp) (by rw [hfl, hfll.out]; omega)).mono ?_)
        rintro e w10 ⟨m10, v10, rfl, own10⟩
        rw [hfl] at own10
        have b10 := byteAt_of_own own10
        refine ⟨_, rfl, fun _ => trivial, ?_⟩
        simp only [Act.put, List.setIfInBounds_toArray, List.set_cons_zero, List.set_cons_succ]
        refine anyZ_call 4 _ (some 40) rfl (by kernel_rfl) (by kernel_rfl) rfl 70 #[v10] (by go_simp) ((sum_any v10 _ w10 b10 (by rw [hfll.out]; omega)).mono ?_)
        rintro e w11 ⟨m11, rfl⟩
        rw [hs96]
        have m9b := m10.trans m11
        have z11 := m9b.heap z9.out (fun h => h)
        have ra11 := m9b.heap ra9.out (fun h => h)
        obtain ⟨w12, s12, m12, z12⟩ := bytes_store z11 (s' := RR) hHl.out hRRl.out
        have ra12 := m12.heap ra11 (by have := hgr8.out; omega)
        have ll := bytes_load z12 hRRl.out
        obtain ⟨wz, sz, mz, xz⟩ := bytes_store ra12 (s' := RR) (by decide) hRRl.out
        have hfin : Mod (fun _ => False) w wz := ((m09.out.trans m9b).trans' m12 (fun i hi h => by have := hgr8.out; omega)).trans' mz (fun i hi h => by omega)
        replace hfin := Lib.hid hfin
        clear m10 m11 m9b z11 ra11 m12 ra12 mz own10 b10 hs96
        refine ⟨_, rfl, fun _ => trivial, ?_⟩
        simp only [Act.put, List.setIfInBounds_toArray, List.set_cons_zero, List.set_cons_succ]
        refine anyZ_take 5 _ (some 35) (.tuple #[.agg (encB RR), .int .i64 0]) rfl (by kernel_rfl) (by kernel_rfl) (by kernel_rfl) (by kernel_rfl) (by kernel_rfl) (by decide) rfl (fun w' hS => ?_) trivial ?_
        · go_simp
        simp only [Act.put, List.setIfInBounds_toArray, List.set_cons_zero, List.set_cons_succ]
        refine anyZ_take 6 _ (some 41) (.agg (encB RR)) rfl (by kernel_rfl) (by kernel_rfl) (by kernel_rfl) (by kernel_rfl) (by kernel_rfl) (by decide) rfl (fun w' hS => ?_) trivial ?_
        · go_simp
        simp only [Act.put, List.setIfInBounds_toArray, List.set_cons_zero, List.set_cons_succ]
        refine anyZ_take 7 _ (some 42) (.int .i64 0) rfl (by kernel_rfl) (by kernel_rfl) (by kernel_rfl) (by kernel_rfl) (by kernel_rfl) (by decide) rfl (fun w' hS => ?_) trivial ?_
        · go_simp
        simp only [Act.put, List.setIfInBounds_toArray, List.set_cons_zero, List.set_cons_succ]
        refine anyZ_skip 8 _ rfl (by kernel_rfl) (by kernel_rfl) rfl w12 ?_ (fun _ => trivial) ?_
        · exact run_store_op rfl rfl rfl s12
        simp only [Act.put, List.setIfInBounds_toArray, List.set_cons_zero, List.set_cons_succ]
        refine anyZ_done (by kernel_rfl) ?_ _
        go_upto_region 10 with (fail)
        refine wp_region_lit ?_
        refine wpList_reads (by kernel_rfl) (.agg (encB RR)) (run_load_op rfl rfl ll) ?_
        simp only [Act.put, List.setIfInBounds_toArray, List.set_cons_zero, List.set_cons_succ]
        refine wpList_store_to rfl _ _ _ rfl _ _ _ rfl rfl _ sz ?_
        simp only [Act.put, List.setIfInBounds_toArray, List.set_cons_zero, List.set_cons_succ]
        go_wp2
        exact bodyPost_ret (results_sum rfl _ _ (w.heap.size + 1) _ rfl xz (by rw [hRRl.out])) rfl ⟨hfin.out, by rw [hRR.out]⟩
  · skip
    refine wpOp_value _ (some 6) rfl (by kernel_rfl) rfl (.pointer (some ⟨w.heap.size + 2, 0, none⟩)) wi (ha1 _ _ rfl) ?_
    simp only [Act.put, List.setIfInBounds_toArray, List.set_cons_zero, List.set_cons_succ]
    refine ⟨fun _ => ki.out, ?_⟩
    refine anyZ_next 2 _ (some 5) rfl (by kernel_rfl) (by kernel_rfl) rfl (.pointer (some ⟨w.heap.size + 3, 0, none⟩)) wo (ha2 _ _ rfl) (fun _ => ko.out) ?_
    simp only [Act.put, List.setIfInBounds_toArray, List.set_cons_zero, List.set_cons_succ]
    obtain ⟨wp, sp, mp, xp⟩ := key_store xo.out (s' := K) (by simp [zb]) hK.out
    obtain ⟨wq, sq, mq, xq⟩ := key_store (mp.heap xi.out (by omega)) (s' := K) (by simp [zb]) hK.out
    have kp := mp.heap ko.out (by omega)
    have kq := mq.heap kp (by omega)
    have xpq := mq.heap xp (by omega)
    have m1q : Mod (fun _ => False) w1 wq := (m1o.out.trans' mp (fun i hi h => by have := hs1.out; omega)).trans' mq (fun i hi h => by have := hs1.out; omega)
    have rq := m1q.heap r1.out (fun h => h)
    have m0q := m1.out.trans m1q
    replace kp := Lib.hid kp
    replace rq := Lib.hid rq
    replace m0q := Lib.hid m0q
    replace xpq := Lib.hid xpq
    replace xq := Lib.hid xq
    clear mp xp mq m1q kq
    refine anyZ_skip 4 _ rfl (by kernel_rfl) (by kernel_rfl) rfl (wp) ?_ (fun _ => kp.out) ?_
    · exact run_store_op rfl rfl rfl sp
    simp only [Act.put, List.setIfInBounds_toArray, List.set_cons_zero, List.set_cons_succ]
    refine anyZ_skip 5 _ rfl (by kernel_rfl) (by kernel_rfl) rfl wq ?_ (fun h => absurd rfl h) ?_
    · exact run_store_op rfl rfl rfl sq
    simp only [Act.put, List.setIfInBounds_toArray, List.set_cons_zero, List.set_cons_succ]
    refine anyZ_done (by kernel_rfl) ?_ _
    obtain ⟨IN, hIN⟩ : ∃ x, x = w.heap.size + 3 := ⟨_, rfl⟩
    obtain ⟨OUT, hOUT⟩ : ∃ x, x = w.heap.size + 2 := ⟨_, rfl⟩
    rw [← hIN] at xpq ⊢
    rw [← hOUT] at xq ⊢
    have hIO : IN ≠ OUT := by omega
    have hI2 : w.heap.size + 2 ≤ IN := by omega
    have hO2 : w.heap.size + 2 ≤ OUT := by omega
    replace hIN := Lib.hid hIN
    replace hOUT := Lib.hid hOUT
    replace hIO := Lib.hid hIO
    replace hI2 := Lib.hid hI2
    replace hO2 := Lib.hid hO2
    clear sp sq kp hwi hwo hsi ki ko xi xo ha1 ha2 lk1 k1d
    go_wp2
    go_loopw [12] (fun iv wr => ∃ i : Nat, i ≤ 64 ∧ iv = .int .i64 (i : Int) ∧ Mod (fun k => k = IN ∨ k = OUT) wq wr ∧ wr.heap[IN]? = some (.cells (encB (xorTo K 54 i)) 185 (0,0)) ∧ wr.heap[OUT]? = some (.cells (encB (xorTo K 92 i)) 185 (0,0))) (fun iv _ => 64 - (intOf iv).toNat)
    case atStart => exact ⟨0, by omega, rfl, Mod.refl _ _, by rw [xorTo_zero]; exact xpq.out, by rw [xorTo_zero]; exact xq.out⟩
    case round =>
      obtain ⟨i, hi, rfl, mr, xi, xo⟩ := hrel
      have bi0 : (0 : Int) ≤ (i : Int) := by omega
      have bi : (i : Int) ≤ 64 := by omega
      by_cases hlt : i < 64
      · have hd : decide ((i : Int) < 64) = true := by rw [decide_eq_true_iff]; omega
        have bil : (i : Int) < 64 := by omega
        have hiK : i < K.length := by rw [hK.out]; exact hlt
        have ci : wr.cell? ⟨IN, i, none⟩ = some _ := encB_cell xi (i := i) (by rw [xorTo_length]; exact hiK)
        have co : wr.cell? ⟨OUT, i, none⟩ = some _ := encB_cell xo (i := i) (by rw [xorTo_length]; exact hiK)
        rw [xorTo_get _ _ _ hiK] at ci co
        have fi := frozen_of_row wr IN i _ _ xi
        have ha := xorTo_set K 54 i hiK
        have hb := xorTo_set K 92 i hiK
        obtain ⟨x, hx⟩ : ∃ x, x = K.getD i 0 := ⟨_, rfl⟩
        rw [← hx] at ci co ha hb
        have e54 : bits .xor .u8 (x.toNat : Int) 54 = ((x ^^^ 54).toNat : Int) := bits_xor8 x 54
        have e92 : bits .xor .u8 (x.toNat : Int) 92 = ((x ^^^ 92).toNat : Int) := bits_xor8 x 92
        obtain ⟨y, hy⟩ : ∃ y, y = x ^^^ 54 := ⟨_, rfl⟩
        obtain ⟨z, hz⟩ : ∃ z, z = x ^^^ 92 := ⟨_, rfl⟩
        rw [← hy] at e54 ha
        rw [← hz] at e92 hb
        have s1 := store_byte (n := (y.toNat : Int)) ci fi
        have r1' := row_set xi i y
        rw [ha] at r1'
        obtain ⟨w2, hw2⟩ : ∃ w2, w2 = wr.setCell ⟨IN, i, none⟩ (.int .u8 (y.toNat : Int)) := ⟨_, rfl⟩
        rw [← hw2] at s1 r1'
        have m2 : Mod (fun k => k = IN) wr w2 := by rw [hw2]; exact Mod.one_setCell _ _ _ _
        have xo2 := m2.heap xo (fun h => hIO.out h.symm)
        have co2 := cell_mod m2 co (fun h => hIO.out h.symm)
        have fo2 := frozen_of_row w2 OUT i _ _ xo2
        have s2 := store_byte (n := (z.toNat : Int)) co2 fo2
        have r2' := row_set xo2 i z
        rw [hb] at r2'
        obtain ⟨w3, hw3⟩ : ∃ w3, w3 = w2.setCell ⟨OUT, i, none⟩ (.int .u8 (z.toNat : Int)) := ⟨_, rfl⟩
        rw [← hw3] at s2 r2'
        have m3 : Mod (fun k => k = OUT) w2 w3 := by rw [hw3]; exact Mod.one_setCell _ _ _ _
        have r1'' := m3.heap r1' (fun h => hIO.out h)
        have mr3 : Mod (fun k => k = IN ∨ k = OUT) wq w3 := (mr.trans' m2 (fun _ _ h => .inl h)).trans' m3 (fun _ _ h => .inr h)
        replace hx := Lib.hid hx
        replace hy := Lib.hid hy
        replace hz := Lib.hid hz
        replace hw2 := Lib.hid hw2
        replace hw3 := Lib.hid hw3
        replace r1'' := Lib.hid r1''
        replace r2' := Lib.hid r2'
        replace mr3 := Lib.hid mr3
        replace hlt := Lib.hid hlt
        clear mr xi xo fi ha hb r1' m2 xo2 fo2 m3 hiK hi co
        go_upto_region 5 with (fail)
        refine wp_region_lit ?_
        refine wpList_reads (by kernel_rfl) (.int .i64 (i : Int)) (by go_simp) ?_
        simp only [Act.put, List.setIfInBounds_toArray, List.set_cons_zero, List.set_cons_succ]
        refine wpList_reads (by kernel_rfl) (.pointer (some ⟨IN, i, none⟩)) (by go_simp) ?_
        simp only [Act.put, List.setIfInBounds_toArray, List.set_cons_zero, List.set_cons_succ]
        refine wpList_reads (by kernel_rfl) (.int .u8 (x.toNat : Int)) (by go_simp) ?_
        simp only [Act.put, List.setIfInBounds_toArray, List.set_cons_zero, List.set_cons_succ]
        refine wpList_reads (by kernel_rfl) (.int .u8 (y.toNat : Int)) (by go_simp) ?_
        simp only [Act.put, List.setIfInBounds_toArray, List.set_cons_zero, List.set_cons_succ]
        refine wpList_reads (by kernel_rfl) (.pointer (some ⟨IN, i, none⟩)) (by go_simp) ?_
        simp only [Act.put, List.setIfInBounds_toArray, List.set_cons_zero, List.set_cons_succ]
        refine wpList_store_to rfl _ _ _ rfl _ _ _ rfl rfl _ s1 ?_
        simp only [Act.put, List.setIfInBounds_toArray, List.set_cons_zero, List.set_cons_succ]
        go_upto_region 6 with (fail)
        refine wp_region_lit ?_
        refine wpList_reads (by kernel_rfl) (.int .i64 (i : Int)) (by go_simp) ?_
        simp only [Act.put, List.setIfInBounds_toArray, List.set_cons_zero, List.set_cons_succ]
        refine wpList_reads (by kernel_rfl) (.pointer (some ⟨OUT, i, none⟩)) (by go_simp) ?_
        simp only [Act.put, List.setIfInBounds_toArray, List.set_cons_zero, List.set_cons_succ]
        refine wpList_reads (by kernel_rfl) (.int .u8 (x.toNat : Int)) (by go_simp) ?_
        simp only [Act.put, List.setIfInBounds_toArray, List.set_cons_zero, List.set_cons_succ]
        refine wpList_reads (by kernel_rfl) (.int .u8 (z.toNat : Int)) (by go_simp) ?_
        simp only [Act.put, List.setIfInBounds_toArray, List.set_cons_zero, List.set_cons_succ]
        refine wpList_reads (by kernel_rfl) (.pointer (some ⟨OUT, i, none⟩)) (by go_simp) ?_
        simp only [Act.put, List.setIfInBounds_toArray, List.set_cons_zero, List.set_cons_succ]
        refine wpList_store_to rfl _ _ _ rfl _ _ _ rfl rfl _ s2 ?_
        simp only [Act.put, List.setIfInBounds_toArray, List.set_cons_zero, List.set_cons_succ]
        go_wp2
        go_roundw
        case measure => have := hlt.out; simp [intOf]; omega
        case rel => exact ⟨i + 1, by have := hlt.out; omega, by go_num, mr3.out, r1''.out, r2'.out⟩
      · have hi64 : i = 64 := by omega
        have hd : decide ((i : Int) < 64) = false := by rw [decide_eq_false_iff_not]; omega
        rw [hi64, xorTo_all K _ 64 hK.out] at xi xo
        obtain ⟨wa, hwa⟩ : ∃ wa, wa = wr := ⟨_, rfl⟩
        rw [← hwa] at mr xi xo ⊢
        obtain ⟨PI, hPI⟩ : ∃ PI, PI = xorAll K 54 := ⟨_, rfl⟩
        obtain ⟨PO, hPO⟩ : ∃ PO, PO = xorAll K 92 := ⟨_, rfl⟩
        rw [← hPI] at xi
        rw [← hPO] at xo
        have hPIl : PI.length = 64 := by rw [hPI, xorAll, List.length_map, hK.out]
        have hPOl : PO.length = 64 := by rw [hPO, xorAll, List.length_map, hK.out]
        have hmac : macS K bss.flatten = shaS (PO ++ shaS (PI ++ bss.flatten)) := by rw [hPI, hPO]; rfl
        have m0a : Mod (fun _ => False) w wa := m0q.out.trans' mr (fun i hi h => by have := hI2.out; have := hO2.out; omega)
        have ra := mr.heap rq.out (by have := hI2.out; have := hO2.out; omega)
        obtain ⟨B, off, cap, hlve, hcells⟩ := hlv.out
        obtain ⟨k, hkk⟩ : ∃ k, k = bss.length := ⟨_, rfl⟩
        rw [← hkk] at hlve hcells
        subst hlve
        obtain ⟨news, hnl, hnews⟩ := list_choose (Q := fun j x => w.cell? ⟨B, off + j, none⟩ = some x ∧ ByteAt w x (bss.getD j [])) k (fun i hi => hcells i hi)
        obtain ⟨wb, hwb⟩ : ∃ wb, wb = wa.alloc (.cells #[.slice (some ⟨IN, 0, none⟩) 64 64] 22) := ⟨_, rfl⟩
        obtain ⟨g, hg⟩ : ∃ g, g = wa.heap.size := ⟨_, rfl⟩
        have mab : Mod (fun _ => False) wa wb := by rw [hwb]; exact (Mod.refl _ _).alloc _
        have gb : wb.heap[g]? = some (.cells #[.slice (some ⟨IN, 0, none⟩) 64 64] 22 (0,0)) := by rw [hwb]; exact hp_new _ _ _ hg
        have m0b := m0a.trans mab
        have own1 : wb.ownsRow g 22 1 (.slice (some ⟨g, 0, none⟩) 1 1) 1 [.slice (some ⟨IN, 0, none⟩) 64 64] := ⟨rfl, .inr ⟨g, 1, _, rfl, Nat.le_refl _, gb, Nat.le_refl _, by unfold maxLen; omega, rfl, rfl⟩⟩
        have hgw : w.heap.size + 2 ≤ g := by have := lt_of_heap xi; have := hI2.out; omega
        have hgI : IN < g := by rw [hg]; exact lt_of_heap xi
        have hgO : OUT < g := by rw [hg]; exact lt_of_heap xo
        obtain ⟨i0, hi0, hz0, hz1, hz2⟩ := info_parts infoBS
        have hap := fun ty => run_append_own (P := Tryz.prog) wb g 102 ty 22 i0 (.slice none 0 0) 1 24 Tryz.underlying102 hi0 hz0 hz1 hz2 rfl (by decide) _ 1 _ own1 ⟨B, off, none⟩ k cap news (by rw [hnl, Nat.mul_one])
          (fun j u hj => by
            rw [show ((⟨B, off, none⟩ : Addr).add j) = ⟨B, off + j, none⟩ by unfold Addr.add; split <;> simp_all]
            exact cell_mod m0b (hnews j u hj).1 (fun h => h))
          (fun u hu => by
            obtain ⟨j, hj, rfl⟩ := List.getElem_of_mem hu
            obtain ⟨_, _, h2, _⟩ := (hnews j _ (List.getElem?_eq_getElem hj)).2.slice
            rw [h2]
            rfl) (by unfold maxLen; have := hk.out; omega) (by have := hk.out; omega) (by have := lt_of_heap gb; omega)
        obtain ⟨v4, w4, hrun4, own4, grow4, _⟩ := hap 102
        have m4 : Mod (fun j => j = g) wb w4 := (Mod.refl _ wb).grown grow4 (fun j hj _ => by
          simp only [Value.ownBlock, Option.some.injEq] at hj
          exact hj.symm)
        obtain ⟨g4, cap4, hv4, hgg4, hg4l, hc4⟩ := own_cells own4 (by omega)
        subst hv4
        have ma4 : Mod (fun _ => False) wa w4 := mab.trans' m4 (fun i hi h => by omega)
        have m04 := m0a.trans ma4
        have xi4 := ma4.heap xi (fun h => h)
        have xo4 := ma4.heap xo (fun h => h)
        have ra4 := ma4.heap ra (fun h => h)
        have bI4 := ByteAt.row xi4
        rw [hPIl] at bI4
        have hL4 : ListAt w4 (.slice (some ⟨g4, 0, none⟩) (1 + k) cap4) (PI :: bss) := by
          refine ⟨g4, 0, cap4, by rw [List.length_cons, ← hkk, Nat.add_comm], fun j hj => ?_⟩
          rw [Nat.zero_add]
          cases j with
          | zero => exact ⟨_, hc4 0 _ rfl, bI4⟩
          | succ j =>
            have hj' : j < k := by rw [hkk]; simpa using hj
            obtain ⟨x, hx⟩ : ∃ x, news[j]? = some x := ⟨news[j]'(by omega), List.getElem?_eq_getElem (by omega)⟩
            refine ⟨x, hc4 (j + 1) x (by rw [List.singleton_append, List.getElem?_cons_succ]; exact hx), ?_⟩
            rw [List.getD_cons_succ]
            exact (hnews j x hx).2.mod m04 (fun _ _ h => h)
        have hk' := hk.out
        have hl' := hl.out
        have hYl : (PI ++ bss.flatten).length = 64 + bss.flatten.length := by rw [List.length_append, hPIl]
        replace hmac := Lib.hid hmac
        replace m04 := Lib.hid m04
        replace xo4 := Lib.hid xo4
        replace ra4 := Lib.hid ra4
        replace hL4 := Lib.hid hL4
        replace hwa := Lib.hid hwa
        replace hwb := Lib.hid hwb
        replace hPI := Lib.hid hPI
        replace hPO := Lib.hid hPO
        replace hPIl := Lib.hid hPIl
        replace hPOl := Lib.hid hPOl
        replace hYl := Lib.hid hYl
        replace hkk := Lib.hid hkk
        replace hg := Lib.hid hg
        replace hgw := Lib.hid hgw
        replace hg4l := Lib.hid hg4l
        have hs04 := m04.out.size
        have hsw := lt_of_heap ra4.out
        replace hs04 := Lib.hid hs04
        replace hsw := Lib.hid hsw
        clear mr xi xo m0a ra hcells hnews hnl mab gb m0b own1 hgI hgO hap own4 grow4 m4 hc4 ma4 xi4 bI4 hgg4 hi hlt hi64 hlv
        go_upto_region 8 with (fail)
        refine wp_region_lit ?_
        refine wpList_reads (by kernel_rfl) (.slice (some ⟨IN, 0, none⟩) 64 64) (by go_simp) ?_
        simp only [Act.put, List.setIfInBounds_toArray, List.set_cons_zero, List.set_cons_succ]
        refine wpList_yields (by kernel_rfl) (.slice (some ⟨g, 0, none⟩) 1 1) wb (by rw [hwb.out, hg.out]; go_simp) ?_
        simp only [Act.put, List.setIfInBounds_toArray, List.set_cons_zero, List.set_cons_succ]
        refine wpList_reads (by kernel_rfl) (.slice (some ⟨B, off, none⟩) k cap) (by go_simp) ?_
        simp only [Act.put, List.setIfInBounds_toArray, List.set_cons_zero, List.set_cons_succ]
        refine Lib.wpList_append_run _ rfl _ _ _ _ rfl _ _ rfl rfl _ _ hrun4 ?_
        simp only [Act.put, List.setIfInBounds_toArray, List.set_cons_zero, List.set_cons_succ]
        refine wpList_enter (by kernel_rfl) 119 #[.slice (some ⟨g4, 0, none⟩) (1 + k) cap4] (by go_simp) (concat_any _ (PI :: bss) w4 hL4.out (by rw [List.length_cons]; omega) (by rw [List.flatten_cons, hYl.out]; omega)) ?_
        rintro e w5 ⟨m5, v5, rfl, own5⟩
        rw [List.flatten_cons] at own5
        have b5 := byteAt_of_own own5
        have hs5 : sumV (PI ++ bss.flatten) = .tuple #[.agg (encB (shaS (PI ++ bss.flatten))), .int .i64 0] := by unfold sumV; rw [if_neg (by rw [hYl.out]; omega)]
        obtain ⟨H, hH⟩ : ∃ H, H = shaS (PI ++ bss.flatten) := ⟨_, rfl⟩
        have hHl : H.length = 32 := by rw [hH]; exact shaS_length _
        rw [← hH] at hs5
        have m05 := m04.out.trans m5
        have xo5 := m5.heap xo4.out (fun h => h)
        have ra5 := m5.heap ra4.out (fun h => h)
        replace m05 := Lib.hid m05
        replace xo5 := Lib.hid xo5
        replace ra5 := Lib.hid ra5
        replace hH := Lib.hid hH
        replace hHl := Lib.hid hHl
        clear own5 m5
        refine ⟨_, rfl, ?_⟩
        simp only [Act.put, List.setIfInBounds_toArray, List.set_cons_zero, List.set_cons_succ]
        refine wpList_enter (by kernel_rfl) 70 #[v5] (by go_simp) (sum_any v5 _ w5 b5 (by rw [hYl.out]; omega)) ?_
        rintro e w6 ⟨m6, rfl⟩
        rw [hs5]
        obtain ⟨g8, hg8⟩ : ∃ g8, g8 = w6.heap.size := ⟨_, rfl⟩
        obtain ⟨w7, hw7⟩ : ∃ w7, w7 = w6.alloc (.cells (encB (zb 32)) 62) := ⟨_, rfl⟩
        have m7 : Mod (fun _ => False) w6 w7 := by rw [hw7]; exact (Mod.refl _ _).alloc _
        have z7 : w7.heap[g8]? = some (.cells (encB (zb 32)) 62 (0,0)) := by rw [hw7]; exact hp_new _ _ _ hg8
        obtain ⟨w8, s8, m8, z8⟩ := bytes_store z7 (s' := H) (by decide) hHl.out
        have m68 : Mod (fun _ => False) w6 w8 := m7.trans' m8 (fun i hi h => by omega)
        have m08 := (m05.out.trans m6).trans m68
        have xo8 := m68.heap (m6.heap xo5.out (fun h => h)) (fun h => h)
        have ra8 := m68.heap (m6.heap ra5.out (fun h => h)) (fun h => h)
        have hgO8 : OUT < g8 := by rw [hg8]; have := lt_of_heap (m6.heap xo5.out (fun h => h)); exact this
        have hgr8 : w.heap.size + 1 < g8 := by rw [hg8]; have := lt_of_heap (m6.heap ra5.out (fun h => h)); exact this
        replace hw7 := Lib.hid hw7
        replace hg8 := Lib.hid hg8
        replace z8 := Lib.hid z8
        replace m08 := Lib.hid m08
        replace xo8 := Lib.hid xo8
        replace ra8 := Lib.hid ra8
        replace hgO8 := Lib.hid hgO8
        replace hgr8 := Lib.hid hgr8
        clear m6 m7 z7 m8 m68 b5 hs5
        refine ⟨_, rfl, ?_⟩
        simp only [Act.put, List.setIfInBounds_toArray, List.set_cons_zero, List.set_cons_succ]
        refine wpList_reads (by kernel_rfl) (.tuple #[.agg (encB H), .int .i64 0]) (by go_simp) ?_
        simp only [Act.put, List.setIfInBounds_toArray, List.set_cons_zero, List.set_cons_succ]
        refine wpList_reads (by kernel_rfl) (.agg (encB H)) (by go_simp) ?_
        simp only [Act.put, List.setIfInBounds_toArray, List.set_cons_zero, List.set_cons_succ]
        refine wpList_reads (by kernel_rfl) (.int .i64 0) (by go_simp) ?_
        simp only [Act.put, List.setIfInBounds_toArray, List.set_cons_zero, List.set_cons_succ]
        refine wpList_yields (by kernel_rfl) _ _ (alloc_arr 62 _ zero32 _ _ _ rfl) ?_
        simp only [Act.put, List.setIfInBounds_toArray, List.set_cons_zero, List.set_cons_succ]
        rw [← hg8.out, ← hw7.out]
        refine wpList_store_to rfl _ _ _ rfl _ _ _ rfl rfl _ s8 ?_
        simp only [Act.put, List.setIfInBounds_toArray, List.set_cons_zero, List.set_cons_succ]
        refine wpList_reads (by kernel_rfl) (.int .i64 0) (by go_simp) ?_
        simp only [Act.put, List.setIfInBounds_toArray, List.set_cons_zero, List.set_cons_succ]
        go_upto_region 9 with (fail)
        refine wp_region_any (by kernel_rfl) (any_of_Z (S := fun _ => True) (z := 99) _ _ _ _ ?_)
        simp only [List.size_toArray, List.length_cons, List.length_nil, Nat.reduceAdd, Array.replicate_succ, Array.replicate_zero, List.push_toArray, List.nil_append, List.cons_append]
        change anyZ _ _ _ _ _ _ _ _ _ w8.drew
        obtain ⟨gB, hgB⟩ : ∃ gB, gB = w8.heap.size := ⟨_, rfl⟩
        obtain ⟨w9, hw9⟩ : ∃ w9, w9 = w8.drew.alloc (.cells #[.slice (some ⟨OUT, 0, none⟩) 64 64, .slice (some ⟨g8, 0, none⟩) 32 32] 22) := ⟨_, rfl⟩
        have m9 : Mod (fun _ => False) w8 w9 := by rw [hw9]; exact (Mod.refl _ _).drew.alloc _
        have gb9 : w9.heap[gB]? = some (.cells #[.slice (some ⟨OUT, 0, none⟩) 64 64, .slice (some ⟨g8, 0, none⟩) 32 32] 22 (0,0)) := by rw [hw9]; exact hp_new _ _ _ hgB
        have hrunB : ∀ (ev : Operand → Value) (oo : Oper) (x y : Operand), oo.op = .buildSlice 102 2 #[(0, x), (1, y)] → ev x = .slice (some ⟨OUT, 0, none⟩) 64 64 → ev y = .slice (some ⟨g8, 0, none⟩) 32 32 → (execOp ev oo).run Tryz.prog w8.drew = .ok (.value (.slice (some ⟨gB, 0, none⟩) 2 2)) w9 := by
          intro ev oo x y ho hx hy
          rw [hw9, hgB]
          go_simp
        have xo9 := m9.heap xo8.out (fun h => h)
        have z9 := m9.heap z8.out (fun h => h)
        have ra9 := m9.heap ra8.out (fun h => h)
        have bO9 := ByteAt.row xo9
        have bH9 := ByteAt.row z9
        rw [hPOl.out] at bO9
        rw [hHl.out] at bH9
        have hL9 : ListAt w9 (.slice (some ⟨gB, 0, none⟩) 2 2) [PO, H] := by
          refine ⟨gB, 0, 2, rfl, fun j hj => ?_⟩
          have hj2 : j = 0 ∨ j = 1 := by simp at hj; omega
          rcases hj2 with rfl | rfl
          · exact ⟨_, by rw [cell_of_row _ _ _ _ _ _ gb9]; rfl, bO9⟩
          · exact ⟨_, by rw [cell_of_row _ _ _ _ _ _ gb9]; rfl, bH9⟩
        have m09 := m08.out.trans m9
        have hfl : [PO, H].flatten = PO ++ H := by simp
        have hfll : (PO ++ H).length = 96 := by rw [List.length_append, hPOl.out, hHl.out]
        have hs96 : sumV (PO ++ H) = .tuple #[.agg (encB (shaS (PO ++ H))), .int .i64 0] := by unfold sumV; rw [if_neg (by rw [hfll]; omega)]
        obtain ⟨RR, hRR⟩ : ∃ RR, RR = macS K bss.flatten := ⟨_, rfl⟩
        have hRRl : RR.length = 32 := by rw [hRR]; exact macS_length _ _
        rw [← hH.out] at hmac
        rw [show shaS (PO ++ H) = RR by rw [hRR, hmac.out]] at hs96
        replace hRR := Lib.hid hRR
        replace hRRl := Lib.hid hRRl
        replace hL9 := Lib.hid hL9
        replace hfll := Lib.hid hfll
        replace m09 := Lib.hid m09
        replace ra9 := Lib.hid ra9
        replace z9 := Lib.hid z9
        replace hgB := Lib.hid hgB
        replace hw9 := Lib.hid hw9
        clear m9 gb9 xo9 bO9 bH9
        refine anyZ_take 0 _ (some 36) (.slice (some ⟨OUT, 0, none⟩) 64 64) rfl (by kernel_rfl) (by kernel_rfl) (by kernel_rfl) (by kernel_rfl) (by kernel_rfl) (by decide) rfl (fun w' hS => ?_) trivial ?_
        · go_simp
        simp only [Act.put, List.setIfInBounds_toArray, List.set_cons_zero, List.set_cons_succ]
        refine anyZ_take 1 _ (some 37) (.slice (some ⟨g8, 0, none⟩) 32 32) rfl (by kernel_rfl) (by kernel_rfl) (by kernel_rfl) (by kernel_rfl) (by kernel_rfl) (by decide) rfl (fun w' hS => ?_) trivial ?_
        · go_simp
        simp only [Act.put, List.setIfInBounds_toArray, List.set_cons_zero, List.set_cons_succ]
        refine anyZ_next 2 _ (some 38) rfl (by kernel_rfl) (by kernel_rfl) rfl (.slice (some ⟨gB, 0, none⟩) 2 2) w9 (hrunB _ _ _ _ rfl rfl rfl) (fun _ => trivial) ?_
        simp only [Act.put, List.setIfInBounds_toArray, List.set_cons_zero, List.set_cons_succ]
        refine anyZ_call 3 _ (some 39) rfl (by kernel_rfl) (by kernel_rfl) rfl 119 #[.slice (some ⟨gB, 0, none⟩) 2 2] (by go_simp) ((concat_any _ [PO, H] w9 hL9.out (by simp) (by rw [hfl, hfll.out]; omega)).mono ?_)
        rintro e w10 ⟨m10, v10, rfl, own10⟩
        rw [hfl] at own10
        have b10 := byteAt_of_own own10
        refine ⟨_, rfl, fun _ => trivial, ?_⟩
        simp only [Act.put, List.setIfInBounds_toArray, List.set_cons_zero, List.set_cons_succ]
        refine anyZ_call 4 _ (some 40) rfl (by kernel_rfl) (by kernel_rfl) rfl 70 #[v10] (by go_simp) ((sum_any v10 _ w10 b10 (by rw [hfll.out]; omega)).mono ?_)
        rintro e w11 ⟨m11, rfl⟩
        rw [hs96]
        have m9b := m10.trans m11
        have z11 := m9b.heap z9.out (fun h => h)
        have ra11 := m9b.heap ra9.out (fun h => h)
        obtain ⟨w12, s12, m12, z12⟩ := bytes_store z11 (s' := RR) hHl.out hRRl.out
        have ra12 := m12.heap ra11 (by have := hgr8.out; omega)
        have ll := bytes_load z12 hRRl.out
        obtain ⟨wz, sz, mz, xz⟩ := bytes_store ra12 (s' := RR) (by decide) hRRl.out
        have hfin : Mod (fun _ => False) w wz := ((m09.out.trans m9b).trans' m12 (fun i hi h => by have := hgr8.out; omega)).trans' mz (fun i hi h => by omega)
        replace hfin := Lib.hid hfin
        clear m10 m11 m9b z11 ra11 m12 ra12 mz own10 b10 hs96
        refine ⟨_, rfl, fun _ => trivial, ?_⟩
        simp only [Act.put, List.setIfInBounds_toArray, List.set_cons_zero, List.set_cons_succ]
        refine anyZ_take 5 _ (some 35) (.tuple #[.agg (encB RR), .int .i64 0]) rfl (by kernel_rfl) (by kernel_rfl) (by kernel_rfl) (by kernel_rfl) (by kernel_rfl) (by decide) rfl (fun w' hS => ?_) trivial ?_
        · go_simp
        simp only [Act.put, List.setIfInBounds_toArray, List.set_cons_zero, List.set_cons_succ]
        refine anyZ_take 6 _ (some 41) (.agg (encB RR)) rfl (by kernel_rfl) (by kernel_rfl) (by kernel_rfl) (by kernel_rfl) (by kernel_rfl) (by decide) rfl (fun w' hS => ?_) trivial ?_
        · go_simp
        simp only [Act.put, List.setIfInBounds_toArray, List.set_cons_zero, List.set_cons_succ]
        refine anyZ_take 7 _ (some 42) (.int .i64 0) rfl (by kernel_rfl) (by kernel_rfl) (by kernel_rfl) (by kernel_rfl) (by kernel_rfl) (by decide) rfl (fun w' hS => ?_) trivial ?_
        · go_simp
        simp only [Act.put, List.setIfInBounds_toArray, List.set_cons_zero, List.set_cons_succ]
        refine anyZ_skip 8 _ rfl (by kernel_rfl) (by kernel_rfl) rfl w12 ?_ (fun _ => trivial) ?_
        · exact run_store_op rfl rfl rfl s12
        simp only [Act.put, List.setIfInBounds_toArray, List.set_cons_zero, List.set_cons_succ]
        refine anyZ_done (by kernel_rfl) ?_ _
        go_upto_region 10 with (fail)
        refine wp_region_lit ?_
        refine wpList_reads (by kernel_rfl) (.agg (encB RR)) (run_load_op rfl rfl ll) ?_
        simp only [Act.put, List.setIfInBounds_toArray, List.set_cons_zero, List.set_cons_succ]
        refine wpList_store_to rfl _ _ _ rfl _ _ _ rfl rfl _ sz ?_
        simp only [Act.put, List.setIfInBounds_toArray, List.set_cons_zero, List.set_cons_succ]
        go_wp2
        exact bodyPost_ret (results_sum rfl _ _ (w.heap.size + 1) _ rfl xz (by rw [hRRl.out])) rfl ⟨hfin.out, by rw [hRR.out]⟩
end Go.Proofs.YtppjnkgmbmhlcaaGreatDoor
