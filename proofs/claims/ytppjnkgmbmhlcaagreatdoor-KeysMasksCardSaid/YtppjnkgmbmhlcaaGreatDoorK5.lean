/-
  hkdf's sums of a key and some info, one behind the other. Printed by gen/hk5.py.
-/
import Derived.Deep.LoopGhost
import Derived.Test.YtppjnkgmbmhlcaaGreatDoorK4
import Derived.Test.YtppjnkgmbmhlcaaGreatDoorMA
namespace Go.Proofs.YtppjnkgmbmhlcaaGreatDoor
set_option maxRecDepth 100000
open Go Go.RowKit Go.Lib
set_option linter.unusedSimpArgs false
set_option linter.unusedVariables false

/-- The sum of so many. -/
def expT (K info : List (BitVec 8)) : Nat → List (BitVec 8)
  | 0 => []
  | i + 1 => macS K (expT K info i ++ (info ++ [BitVec.ofNat 8 (i + 1)]))
theorem expT_length (K info : List (BitVec 8)) (i : Nat) : (expT K info (i + 1)).length = 32 := macS_length _ _
theorem expT_le (K info : List (BitVec 8)) (i : Nat) : (expT K info i).length ≤ 32 := by
  cases i with
  | zero => simp [expT]
  | succ i => rw [expT_length]; omega
theorem wpListIn_reads {P : Program} {ops : Array Oper} {n : Nat} {Q : Exit → Act → World → Prop} {o : Oper} {rest : List Oper} {a : Act} {w : World} (hgd : o.guard = none) (hd : ∀ c, o.op ≠ .defer c) (v : Value) (w' : World)
    (hrun : (execOp a.eval o).run P w = .ok (.value v) w') (h : wpListIn Fence.wide n P ops Q rest (a.put o.dst v) w') : wpListIn Fence.wide n P ops Q (o :: rest) a w := by
  refine wpListIn_plain hgd fun K hK => ⟨fun _ _ => trivial, ?_⟩
  rw [Oper.semAt_eq _ _ _ (by simpa using hd), hrun]
  exact hK _ _ h

theorem offB_nil (S : Nat → Prop) : OffB S (.slice none 0 0) := by
  intro g off n c h
  injection h with h
  cases h

theorem sums_make (K : List (BitVec 8)) (v : Value) (w : World) (hv : ∃ ad n cap, v = .slice ad n cap) :
    Calls Tryz.prog 134 #[.agg (encB K), v] w fun e w' => Mod (fun _ => False) w w' ∧ e = .returned (.func (.func 141) #[] #[.pointer (some ⟨w.heap.size, 0, none⟩), .pointer (some ⟨w.heap.size + 1, 0, none⟩)]) ∧
      w'.heap[w.heap.size]? = some (.cells (encB K) 185 (0,0)) ∧ w'.heap[w.heap.size + 1]? = some (.cells #[v] 22 (0,0)) := by
  have hmf : ∀ (fn : Fn) (first cap : Array Value) (w : World), (Instr.makeFunc fn first cap).run Tryz.prog w = .ok (.func fn first cap) w := fun _ _ _ _ => rfl
  obtain ⟨ad, n, cap, rfl⟩ := hv
  have hfin : Mod (fun _ => False) w ((w.alloc (.cells (encB K) 185)).alloc (.cells #[.slice ad n cap] 22)) ∧ ((w.alloc (.cells (encB K) 185)).alloc (.cells #[.slice ad n cap] 22)).heap[w.heap.size]? = some (.cells (encB K) 185 (0,0)) ∧
      ((w.alloc (.cells (encB K) 185)).alloc (.cells #[.slice ad n cap] 22)).heap[w.heap.size + 1]? = some (.cells #[.slice ad n cap] 22 (0,0)) :=
    ⟨((Mod.refl _ _).alloc _).alloc _, by rw [hp_old _ _ _ (by simp)]; exact hp_new _ _ _ rfl, hp_new _ _ _ (by simp)⟩
  replace hfin := Lib.hid hfin
  go_enter Tryz.func134, Tryz.ntmps134
  go_wp2
  go_ret
  exact ⟨hfin.out.1, rfl, hfin.out.2.1, hfin.out.2.2⟩

set_option maxRecDepth 100000 in
set_option maxHeartbeats 4000000 in
theorem sums_iter (l A B T : Nat) (K info : List (BitVec 8)) (hK : K.length = 64) (hinf : info.length ≤ 1048479) (vi : Value) (rec : Loop) (M : Nat) (hM : M ≤ 255) (hM0 : 0 < M) (S : Nat → Prop) (J : Nat → Nat → World → Prop) (Stop : World → Prop) (W0 : World)
    (hT : rec.params = #[T]) (hSA : ¬ S A) (hSB : ¬ S B) (hSlow : ∀ k, S k → k < W0.heap.size) (hoff : OffB S vi)
    (hJ : ∀ i z W W', J i z W → Mod (fun _ => False) W W' → J i z W')
    (hround : ∀ i z W, i < M → J i z W → W0.heap.size ≤ z → z ≤ W.heap.size → W.heap[l]? = some (.loop rec) → RoundIn Fence.wide 0 Tryz.prog l rec.fn (rec.tmps.setIfInBounds T (.agg (encB (expT K info (i + 1))))) rec.assign rec.body W fun e W' =>
      (e = .returned (.bool true) ∧ i + 1 < M ∧ J (i + 1) W'.heap.size W' ∧ W'.heap[l]? = some (.loop rec) ∧ Mod (fun k => S k ∨ (W0.heap.size ≤ k ∧ k < z)) W W') ∨ (e = .returned (.bool false) ∧ Stop W'))
    (h0 : J 0 W0.heap.size W0) (hl : W0.heap[l]? = some (.loop rec)) (hA : W0.heap[A]? = some (.cells (encB K) 185 (0,0))) (hB : W0.heap[B]? = some (.cells #[vi] 22 (0,0))) (hb : ByteAt W0 vi info) :
    Calls Tryz.prog 141 #[.func (.yield l) #[] #[], .pointer (some ⟨A, 0, none⟩), .pointer (some ⟨B, 0, none⟩)] W0 fun e W' => e = .returned (.tuple #[]) ∧ Stop W' := by
  have hoff2 : OffB (fun k => S k ∨ W0.heap.size ≤ k) vi := by
    intro g off n c hv h0 h
    rcases h with h | h
    · exact hoff g off n c hv h0 h
    · obtain ⟨ad, c2, e, h2⟩ := hb.slice
      rw [e] at hv
      injection hv with h3 h4
      obtain ⟨g', off', e1, e2, _⟩ := h2 0 (by omega)
      rw [e1] at h3
      injection h3 with h3
      injection h3 with h3
      omega
  obtain ⟨adi, capi, hvi, _⟩ := hb.slice
  obtain ⟨ni, hni⟩ : ∃ ni, ni = info.length := ⟨_, rfl⟩
  rw [← hni] at hvi
  subst hvi
  have lkA : ∀ w', w'.heap[A]? = some (.cells (encB K) 185 (0,0)) → (loadVar 185 ⟨A, 0, none⟩).run Tryz.prog w' = .ok (.agg (encB K)) w' := fun w' x => key_load x hK
  replace hT := Lib.hid hT
  replace hJ := Lib.hid hJ
  replace hround := Lib.hid hround
  replace hl := Lib.hid hl
  replace hA := Lib.hid hA
  replace hB := Lib.hid hB
  replace hb := Lib.hid hb
  replace h0 := Lib.hid h0
  replace hoff2 := Lib.hid hoff2
  replace hni := Lib.hid hni
  replace hSA := Lib.hid hSA
  replace hSB := Lib.hid hSB
  replace hSlow := Lib.hid hSlow
  replace lkA := Lib.hid lkA
  replace hinf := Lib.hid hinf
  replace hM0 := Lib.hid hM0
  replace hM := Lib.hid hM
  replace hK := Lib.hid hK
  go_enter Tryz.func141, Tryz.ntmps141
  go_wp2
  go_loopg [4, 5] M (fun gh lv iv wr => ∃ i adl nl capl, i + gh = M ∧ lv = .slice adl nl capl ∧ iv = .int .u8 ((i + 1 : Nat) : Int) ∧ ByteAt wr (.slice adl nl capl) (expT K info i) ∧ 0 < gh ∧ J i wr.heap.size wr ∧ wr.heap[l]? = some (.loop rec) ∧ Mod (fun k => S k ∨ W0.heap.size ≤ k) W0 wr)
  case atStart => exact ⟨0, none, 0, 0, by omega, rfl, rfl, .inl ⟨_, _, rfl, rfl⟩, hM0.out, h0.out, hl.out, Mod.refl _ _⟩
  case round =>
    obtain ⟨i, adl, nl, capl, hig, rfl, rfl, bl, hg0, jr, lr, mr⟩ := hrel
    obtain ⟨z, hz⟩ : ∃ z, z = wr.heap.size := ⟨_, rfl⟩
    rw [← hz] at jr
    have hz0 : W0.heap.size ≤ z := by rw [hz]; exact mr.size
    have hM' := hM.out
    have bi : (i : Int) + 1 ≤ 255 := by omega
    have bi0 : (0 : Int) < (i : Int) + 1 := by omega
    have hd : decide ((0 : Int) < (i : Int) + 1) = true := by rw [decide_eq_true_iff]; exact bi0
    have hiM : i < M := by omega
    have hAl := lt_of_heap hA.out
    have hBl := lt_of_heap hB.out
    have Ar := mr.heap hA.out (by rintro (h | h); exact hSA.out h; omega)
    have Br := mr.heap hB.out (by rintro (h | h); exact hSB.out h; omega)
    have cB := cell_of_one Br
    have bIr := hb.out.keep mr hoff2.out
    have la := lkA.out _ Ar
    have li := load_slice cB
    obtain ⟨wb, hwb⟩ : ∃ wb, wb = wr.alloc (.cells #[.int .u8 ((i + 1 : Nat) : Int)] 5) := ⟨_, rfl⟩
    obtain ⟨gb, hgb⟩ : ∃ gb, gb = wr.heap.size := ⟨_, rfl⟩
    obtain ⟨wc, hwc⟩ : ∃ wc, wc = wb.alloc (.cells #[.slice adl nl capl, .slice adi ni capi, .slice (some ⟨gb, 0, none⟩) 1 1] 22) := ⟨_, rfl⟩
    obtain ⟨gc, hgc⟩ : ∃ gc, gc = wb.heap.size := ⟨_, rfl⟩
    have mrb : Mod (fun _ => False) wr wb := by rw [hwb]; exact (Mod.refl _ _).alloc _
    have mbc : Mod (fun _ => False) wb wc := by rw [hwc]; exact (Mod.refl _ _).alloc _
    have mrc := mrb.trans mbc
    have rb : wb.heap[gb]? = some (.cells (encB [BitVec.ofNat 8 (i + 1)]) 5 (0,0)) := by
      rw [hwb, show encB [BitVec.ofNat 8 (i + 1)] = #[.int .u8 ((i + 1 : Nat) : Int)] by simp [encB, Nat.mod_eq_of_lt (show i + 1 < 256 by omega)]]
      exact hp_new _ _ _ hgb
    have rc : wc.heap[gc]? = some (.cells #[.slice adl nl capl, .slice adi ni capi, .slice (some ⟨gb, 0, none⟩) 1 1] 22 (0,0)) := by rw [hwc]; exact hp_new _ _ _ hgc
    have b1 := (ByteAt.row rb).mod mbc (fun _ _ h => h)
    have blc := bl.mod mrc (fun _ _ h => h)
    have bIc := bIr.mod mrc (fun _ _ h => h)
    have hLc : ListAt wc (.slice (some ⟨gc, 0, none⟩) 3 3) [expT K info i, info, [BitVec.ofNat 8 (i + 1)]] := by
      refine ⟨gc, 0, 3, rfl, fun j hj => ?_⟩
      have hj3 : j = 0 ∨ j = 1 ∨ j = 2 := by simp at hj; omega
      rcases hj3 with rfl | rfl | rfl
      · exact ⟨_, by rw [cell_of_row _ _ _ _ _ _ rc]; rfl, blc⟩
      · exact ⟨_, by rw [cell_of_row _ _ _ _ _ _ rc]; rfl, bIc⟩
      · exact ⟨_, by rw [cell_of_row _ _ _ _ _ _ rc]; rfl, b1⟩
    have hfl : [expT K info i, info, [BitVec.ofNat 8 (i + 1)]].flatten = expT K info i ++ (info ++ [BitVec.ofNat 8 (i + 1)]) := by simp
    have hfll : (expT K info i ++ (info ++ [BitVec.ofNat 8 (i + 1)])).length ≤ 1048512 := by
      have h1 := expT_le K info i
      have h2 := hinf.out
      simp only [List.length_append, List.length_cons, List.length_nil]
      omega
    have lrc := mrc.heap lr (fun h => h)
    have jrc := hJ.out _ _ _ _ jr mrc
    have hzc : z ≤ wc.heap.size := by rw [hz]; exact mrc.size
    have m0c : Mod (fun k => S k ∨ W0.heap.size ≤ k) W0 wc := mr.trans' mrc (fun _ _ h => h.elim)
    replace hwb := Lib.hid hwb
    replace hwc := Lib.hid hwc
    replace hgb := Lib.hid hgb
    replace hgc := Lib.hid hgc
    replace hLc := Lib.hid hLc
    replace hfll := Lib.hid hfll
    replace lrc := Lib.hid lrc
    replace jrc := Lib.hid jrc
    replace m0c := Lib.hid m0c
    replace hig := Lib.hid hig
    replace hiM := Lib.hid hiM
    replace hz := Lib.hid hz
    replace hz0 := Lib.hid hz0
    replace hzc := Lib.hid hzc
    clear bl jr lr mr Ar Br bIr mrb mbc mrc rb rc b1 blc bIc hg0 hM'
    go_upto_region 4 with (fail)
    refine wp_region_lit ?_
    refine wpList_reads (by kernel_rfl) (.agg (encB K)) (run_load_op rfl rfl la) ?_
    simp only [Act.put, List.setIfInBounds_toArray, List.set_cons_zero, List.set_cons_succ]
    refine wpList_reads (by kernel_rfl) (.slice adl nl capl) (by go_simp) ?_
    simp only [Act.put, List.setIfInBounds_toArray, List.set_cons_zero, List.set_cons_succ]
    refine wpList_reads (by kernel_rfl) (.slice adi ni capi) (run_load_op rfl rfl li) ?_
    simp only [Act.put, List.setIfInBounds_toArray, List.set_cons_zero, List.set_cons_succ]
    refine wpList_reads (by kernel_rfl) (.int .u8 ((i + 1 : Nat) : Int)) (by go_simp) ?_
    simp only [Act.put, List.setIfInBounds_toArray, List.set_cons_zero, List.set_cons_succ]
    refine wpList_yields (by kernel_rfl) (.slice (some ⟨gb, 0, none⟩) 1 1) wb (by rw [hwb.out, hgb.out]; go_simp) ?_
    simp only [Act.put, List.setIfInBounds_toArray, List.set_cons_zero, List.set_cons_succ]
    refine wpList_yields (by kernel_rfl) (.slice (some ⟨gc, 0, none⟩) 3 3) wc (by rw [hwc.out, hgc.out]; go_simp) ?_
    simp only [Act.put, List.setIfInBounds_toArray, List.set_cons_zero, List.set_cons_succ]
    refine wpList_enter (by kernel_rfl) 129 #[.agg (encB K), .slice (some ⟨gc, 0, none⟩) 3 3] (by go_simp) (mac_any K hK.out _ _ wc hLc.out (by simp) (by rw [hfl]; exact hfll.out)) ?_
    rintro e w4 ⟨m4, rfl⟩
    rw [hfl]
    rw [show macS K (expT K info i ++ (info ++ [BitVec.ofNat 8 (i + 1)])) = expT K info (i + 1) from rfl]
    have hr0 := fun W => hround.out i z W hiM.out
    obtain ⟨RR, hR⟩ : ∃ RR, RR = expT K info (i + 1) := ⟨_, rfl⟩
    have hRl : RR.length = 32 := by rw [hR]; exact expT_length _ _ _
    simp only [← hR] at hr0
    rw [← hR]
    obtain ⟨g6, hg6⟩ : ∃ g6, g6 = w4.heap.size := ⟨_, rfl⟩
    obtain ⟨w5, hw5⟩ : ∃ w5, w5 = w4.alloc (.cells (encB (zb 32)) 62) := ⟨_, rfl⟩
    have m5 : Mod (fun _ => False) w4 w5 := by rw [hw5]; exact (Mod.refl _ _).alloc _
    have z5 : w5.heap[g6]? = some (.cells (encB (zb 32)) 62 (0,0)) := by rw [hw5]; exact hp_new _ _ _ hg6
    obtain ⟨w6, s6, m6, z6⟩ := bytes_store z5 (s' := RR) (by decide) hRl
    have m46 : Mod (fun _ => False) w4 w6 := m5.trans' m6 (fun i hi h => by omega)
    have mc6 := m4.trans m46
    have l6 := mc6.heap lrc.out (fun h => h)
    have j6 := hJ.out _ _ _ _ jrc.out mc6
    have m06 : Mod (fun k => S k ∨ W0.heap.size ≤ k) W0 w6 := m0c.out.trans' mc6 (fun _ _ h => h.elim)
    have b6 := ByteAt.row z6
    rw [hRl, hR] at b6
    have ll6 := bytes_load z6 hRl
    have off6 : OffB (fun k => S k ∨ (W0.heap.size ≤ k ∧ k < z)) (.slice (some ⟨g6, 0, none⟩) 32 32) := by
      intro g off n c h _ hs
      injection h with h
      injection h with h
      injection h with h
      have h0 := hzc.out
      have h9 := hz0.out
      have h1 : g < z := by
        rcases hs with hs | hs
        · have := hSlow.out g hs
          omega
        · exact hs.2
      have h2 := m0c.out.size
      have h3 := m4.size
      omega
    have hr := hr0 w6 j6 hz0.out (by have := mc6.size; have := hzc.out; omega) l6
    replace hR := Lib.hid hR
    replace hRl := Lib.hid hRl
    replace hg6 := Lib.hid hg6
    replace hw5 := Lib.hid hw5
    replace l6 := Lib.hid l6
    replace m06 := Lib.hid m06
    replace b6 := Lib.hid b6
    replace off6 := Lib.hid off6
    replace hr := Lib.hid hr
    clear m4 m5 z5 m6 m46 mc6 j6 z6 hr0
    refine ⟨_, rfl, ?_⟩
    simp only [Act.put, List.setIfInBounds_toArray, List.set_cons_zero, List.set_cons_succ]
    refine wpList_yields (by kernel_rfl) _ _ (alloc_arr 62 _ zero32 _ _ _ rfl) ?_
    simp only [Act.put, List.setIfInBounds_toArray, List.set_cons_zero, List.set_cons_succ]
    rw [← hg6.out, ← hw5.out]
    refine wpList_store_to rfl _ _ _ rfl _ _ _ rfl rfl _ s6 ?_
    simp only [Act.put, List.setIfInBounds_toArray, List.set_cons_zero, List.set_cons_succ]
    go_upto_region 5 with (fail)
    refine (wpIn_wide (n := 1)).1 (wpIn_region_lit ?_)
    refine wpListIn_reads rfl (by intro c h; cases h) (.func (.yield l) #[] #[]) w6 (by go_simp) ?_
    simp only [Act.put, List.setIfInBounds_toArray, List.set_cons_zero, List.set_cons_succ]
    refine wpListIn_reads rfl (by intro c h; cases h) (.agg (encB RR)) w6 (run_load_op rfl rfl ll6) ?_
    simp only [Act.put, List.setIfInBounds_toArray, List.set_cons_zero, List.set_cons_succ]
    gi_wp2_with (refine wpListIn_yield rfl _ _ _ rfl rfl rec T l6.out hT.out ?_)
    refine hr.out.mono ?_
    rintro e W' (⟨rfl, hiM2, jr', lr', m'⟩ | ⟨rfl, hst⟩)
    · refine ⟨_, rfl, ?_⟩
      have b6' := b6.out.keep (w' := W') m' off6.out
      have m0' : Mod (fun k => S k ∨ W0.heap.size ≤ k) W0 W' := m06.out.trans' m' (fun k _ h => by rcases h with h | h; exact .inl h; exact .inr h.1)
      replace jr' := Lib.hid jr'
      replace lr' := Lib.hid lr'
      replace b6' := Lib.hid b6'
      replace m0' := Lib.hid m0'
      replace hiM2 := Lib.hid hiM2
      have bi2 : (i : Int) + 1 + 1 ≤ 255 := by have := hiM2.out; have := hM.out; omega
      clear hr m' ll6
      gi_wp2
      go_wp2
      go_roundg (gk - 1)
      case measure => have := hig.out; have := hiM.out; omega
      case rel => exact ⟨i + 1, _, _, _, by have := hig.out; have := hiM.out; omega, rfl, by go_num, b6'.out, by have := hig.out; have := hiM2.out; omega, jr'.out, lr'.out, m0'.out⟩
    · refine ⟨_, rfl, ?_⟩
      replace hst := Lib.hid hst
      clear hr ll6
      gi_wp2
      go_wp2
      refine bodyPost_ret (results_none rfl _ _ _) rfl ?_
      exact ⟨rfl, hst.out⟩
end Go.Proofs.YtppjnkgmbmhlcaaGreatDoor
