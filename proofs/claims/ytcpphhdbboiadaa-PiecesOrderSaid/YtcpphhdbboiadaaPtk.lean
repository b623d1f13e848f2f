/-
  pieces: Take, of more than nothing.
-/
import Derived.Outline
import Derived.OwnWalk
import Derived.BigRegion
import Derived.RegionTactic
import Derived.Test.YtcpphhdbboiadaaPt0
namespace Go.Proofs.Ytcpphhdbboiadaa
open Go Go.RowKit
set_option linter.unusedSimpArgs false
set_option linter.unusedVariables false

set_option maxHeartbeats 2000000 in
theorem take_pos (p M c n : Nat) (s : PS) (w : World) (h : IsP w p M s c) (hn : n < 9223372036854775808) (hz : n ≠ 0) (hc : c ≤ 140737488355328) (hf63 : s.fin < 9223372036854775808)
    (hlow : s.read < 4611686018427387904 ∧ ∀ k, (s.f k).isSome = true → k < 4611686018427387904) :
    Calls Try.prog 10 #[.pointer (some ⟨p, 0, none⟩), .int .i64 (n : Int)] w (TakeEnd p M c s n w) := by
  have hw0 : ∀ w1, w1 = (w.alloc (.cells #[.int .i64 (n : Int)] 3)).alloc (.cells #[.slice none 0 0] 22) →
      Mod (fun _ => False) w w1 ∧ w1.heap[w.heap.size]? = some (.cells #[.int .i64 (n : Int)] 3 (0,0)) ∧ w1.heap[w.heap.size + 1]? = some (.cells #[.slice none 0 0] 22 (0,0)) := by
    rintro w1 rfl
    refine ⟨((Mod.refl _ w).alloc _).alloc _, ?_, ?_⟩
    rw [hp_old _ _ _ (by simp only [World.size_alloc]; omega), hp_new _ _ _ (by simp)]
    rw [hp_new _ _ _ (by simp)]
  have hlt := h.lt
  have c0 := h.c0
  have bn : (n : Int) < 9223372036854775808 := by omega
  have bn0 : (0 : Int) ≤ (n : Int) := by omega
  have t0 : decide ((n : Int) < 0) = false := by rw [decide_eq_false_iff_not]; omega
  replace hw0 := Lib.hid hw0
  replace hlow := Lib.hid hlow
  replace h := Lib.hid h
  clear hn
  have hz1 : 0 < n := by omega
  replace hz := Lib.hid hz
  replace hf63 := Lib.hid hf63
  refine calls_of_marks Try.func10 rfl ?_
  simp only [Try.ntmps10, List.size_toArray, List.length_cons, List.length_nil, Nat.reduceAdd, Nat.reduceSub, Array.replicate_succ,
     Array.replicate_zero, List.push_toArray, List.append_toArray, List.nil_append, List.cons_append]
  go_upto_region 1 with (fail)
  refine wp_world fun w1 hw1 => ?_
  obtain ⟨m1, n1, o1⟩ := hw0.out w1 hw1
  clear hw1 hw0
  have p1 := h.out.mod m1 (fun h => h) (fun h => h)
  have d1 := p1.c0
  clear c0
  go_wp2_with fail
  refine (gone_no p M _ d1).mono ?_
  rintro e w1 ⟨rfl, rfl⟩
  have cn : w1.cell? ⟨w.heap.size, 0, none⟩ = some (.int .i64 (n : Int)) := by rw [cell_of_row _ _ _ _ _ _ n1]; rfl
  have co : w1.cell? ⟨w.heap.size + 1, 0, none⟩ = some (.slice none 0 0) := by rw [cell_of_row _ _ _ _ _ _ o1]; rfl
  replace m1 := Lib.hid m1
  replace p1 := Lib.hid p1
  replace n1 := Lib.hid n1
  replace o1 := Lib.hid o1
  go_wp2_with fail
  refine (next_make p _).mono ?_
  rintro e w3 ⟨m3, rfl, x3⟩
  have n3 := m3.heap n1.out (fun h => h)
  have o3 := m3.heap o1.out (fun h => h)
  have p3 := p1.out.mod m3 (fun h => h) (fun h => h)
  have m03 := m1.out.trans m3
  have s13 : w1.heap.size < w3.heap.size := lt_of_heap x3
  have sA : w.heap.size + 1 < w1.heap.size := lt_of_heap o1.out
  generalize eX : w1.heap.size = X at *
  clear n1 o1 p1 m1 m3 d1 cn co
  replace n3 := Lib.hid n3
  replace o3 := Lib.hid o3
  replace p3 := Lib.hid p3
  replace x3 := Lib.hid x3
  replace m03 := Lib.hid m03
  go_wp2
  refine wp_rangeFunc_wide 17 _ rfl (fun _ _ => rfl) fun fn => ?_
  simp only [List.push_toArray, List.append_toArray, List.nil_append, List.cons_append]
  refine calls_rec fun rec W0 hrec hW0 => ?_
  replace hrec := Lib.hid hrec
  have mW : Mod (fun _ => False) w3 W0 := by rw [hW0]; exact ((Mod.refl _ w3).alloc _).alloc _
  have dW : W0.heap[w3.heap.size]? = some (.deferred (some [])) := by
    rw [hW0]
    rw [hp_old _ _ _ (by simp only [World.size_alloc]; omega), hp_new _ _ _ (by simp)]
  have lW : W0.heap[w3.heap.size + 1]? = some (.loop rec) := by
    rw [hW0]
    rw [hp_new _ _ _ (by simp)]
  have sW : W0.heap.size = w3.heap.size + 2 := by rw [hW0]; simp
  clear hW0
  have nW := mW.heap n3.out (fun h => h)
  have oW := mW.heap o3.out (fun h => h)
  have xW := mW.heap x3.out (fun h => h)
  have pW := p3.out.mod mW (fun h => h) (fun h => h)
  have m0W := m03.out.trans mW
  clear n3 o3 p3 x3 mW m03
  generalize hs3 : w3.heap.size = s3 at *
  obtain ⟨f, hf⟩ : ∃ f, f = s.f := ⟨_, rfl⟩
  obtain ⟨r, hr⟩ : ∃ r, r = s.read := ⟨_, rfl⟩
  obtain ⟨J, hJ⟩ : ∃ J : Nat → World → Prop, J = fun i W => i < n ∧ (∀ j, j < i → (f (r + j)).isSome = true) ∧ Mod (fun k => k = w.heap.size + 1 ∨ k = s3 + 1 ∨ k = p ∨ k = M) W0 W ∧ ∃ v, W.heap[w.heap.size + 1]? = some (.cells #[v] 22 (0,0)) ∧ W.ownsRow (s3 + 2) 5 1 v i (bytesV (outL f r i)) := ⟨_, rfl⟩
  obtain ⟨K, hK⟩ : ∃ K : Nat → World → Prop, K = fun i W => (∀ j, j < i → (f (r + j)).isSome = true) ∧ Mod (fun k => k = w.heap.size + 1 ∨ k = s3 + 1 ∨ k = p ∨ k = M) W0 W ∧ (∃ v, W.heap[w.heap.size + 1]? = some (.cells #[v] 22 (0,0)) ∧ W.ownsRow (s3 + 2) 5 1 v i (bytesV (outL f r i))) ∧ ∃ c', c' + i = c ∧ IsP W p M (stepS s i) c' := ⟨_, rfl⟩
  refine (next_iter (s3 + 1) X p M 18 s c rec J (fun W => K n W ∧ W.heap[s3 + 1]? = some (.loop { rec with state := .done, pending := some (.exit 1) })) (fun W => (∃ i, i < n ∧ f (r + i) = none ∧ K i W) ∧ W.heap[s3 + 1]? = some (.loop rec)) W0 (by rw [hrec.out]) ⟨by omega, by omega, by omega, by omega⟩ hlow.out ?_ ?_ ?_ ?_ lW xW pW).mono ?_
  · rw [hJ]
    rintro i W W' ⟨h1, h2, h3, v, h4, h5⟩ hm
    exact ⟨h1, h2, h3.trans (hm.mono fun k _ h => by omega), v, hm.heap h4 (by omega), ownsRow_mod h5 hm (by omega)⟩
  · intro i x W c' hfx hcc hj lr xr pr
    rw [← hf, ← hr] at hfx
    rw [hJ] at hj
    obtain ⟨hin, hall, mj, v, oj, ownj⟩ := hj
    refine round_named fun Q hQ => ?_
    have nj := mj.heap nW (by omega)
    refine roundIn_of_wpIn trivial ?_
    rw [hrec.out]
    dsimp only
    simp only [List.setIfInBounds_toArray, List.set_cons_zero, List.set_cons_succ]
    gi_wp2
    have hwb : ∀ wb, wb = W.putObj (s3 + 1) (.loop { rec with state := .busy }) → Mod (fun k => k = s3 + 1) W wb ∧ wb.heap[s3 + 1]? = some (.loop { rec with state := .busy }) := by
      rintro wb rfl
      exact ⟨Mod.one_putObj W (s3 + 1) (.loop { rec with state := .busy }), heap_putObj lr⟩
    refine ⟨_, run_beginRound lr (by rw [hrec.out]), ?_⟩
    have hst2 : (Loop.mk .ready none rec.fn rec.tmps rec.params rec.assign rec.body rec.defers) = rec := by rw [hrec.out]
    have hsz : s3 + 1 < W.heap.size := lt_of_heap lr
    refine wpIn_world fun wb hwb' => ?_
    obtain ⟨mb, lb⟩ := hwb wb hwb'
    have ob := mb.heap oj (by omega)
    have nb := mb.heap nj (by omega)
    have ownb := ownsRow_mod ownj mb (by omega)
    have cob : wb.cell? ⟨w.heap.size + 1, 0, none⟩ = some v := by rw [cell_of_row _ _ _ _ _ _ ob]; rfl
    have cnb : wb.cell? ⟨w.heap.size, 0, none⟩ = some (.int .i64 (n : Int)) := by rw [cell_of_row _ _ _ _ _ _ nb]; rfl
    clear hwb hwb' oj nj ownj xr
    replace hQ := Lib.hid hQ
    replace hrec := Lib.hid hrec.out
    replace hst2 := Lib.hid hst2
    replace mb := Lib.hid mb
    replace mj := Lib.hid mj
    replace lb := Lib.hid lb
    replace ob := Lib.hid ob
    replace nb := Lib.hid nb
    replace ownb := Lib.hid ownb
    replace pr := Lib.hid pr
    replace hfx := Lib.hid hfx
    replace hcc := Lib.hid hcc
    replace hall := Lib.hid hall
    replace hJ := Lib.hid hJ
    replace hK := Lib.hid hK
    replace hf := Lib.hid hf
    replace hr := Lib.hid hr
    replace lW := Lib.hid lW
    replace xW := Lib.hid xW
    replace oW := Lib.hid oW
    replace nW := Lib.hid nW
    replace dW := Lib.hid dW
    replace pW := Lib.hid pW
    replace lr := Lib.hid lr
    obtain ⟨i0, hi, hi0, hi1, hi2⟩ := info_parts (show (Try.prog.info? 5).map (fun i => (i.zero, i.size, i.bytes)) = some (some (.int .u8 0), 1, 1) by kernel_rfl)
    replace hi := Lib.hid hi
    replace hi0 := Lib.hid hi0
    replace hi1 := Lib.hid hi1
    replace hi2 := Lib.hid hi2
    have hic : i < 140737488355328 := by have := hcc.out; omega
    gi_wp2_with (refine round_list (fun h => by obtain ⟨_, _, h⟩ := h; exact h) _ _ _ (by simp) ?_)
    have hap := ownb.out.alloc (.cells #[.int .u8 (x.toNat : Int)] 5)
    have hcell := cell_of_row _ wb.heap.size 0 _ _ _ (heap_alloc_new wb (.cells #[.int .u8 (x.toNat : Int)] 5))
    have fob := frozen_of_row _ _ 0 _ _ ob.out
    replace hap := Lib.hid hap
    replace hcell := Lib.hid hcell
    go_wp2_with (at_builtin; refine wpList_append_own _ rfl _ _ 22 rfl (s3 + 2) 5 i0 (.int .u8 0) 1 1 Try.underlying22 hi.out hi0.out hi1.out hi2.out rfl (by decide) _ _ _ rfl hap.out ⟨wb.heap.size, 0, none⟩ 1 1 [.int .u8 (x.toNat : Int)] rfl rfl ?c1 ?c2 ?c3 ?c4 ?c5 ?_)
    case c1 =>
      intro j u hj
      have h0 := (List.getElem?_eq_some_iff.1 hj).1
      simp at h0
      subst h0
      simp only [List.getElem?_cons_zero, Option.some.injEq] at hj
      subst hj
      exact hcell.out
    case c2 => simp [Value.oneCell']
    case c3 => unfold maxLen; omega
    case c4 => omega
    case c5 => have := lt_of_heap lb.out; simp; omega
    intro v' w5 own5 grow5 _
    have m5 : Mod (fun k => s3 + 2 ≤ k) wb w5 := ((Mod.refl (fun k => s3 + 2 ≤ k) wb).alloc _).grown grow5 (fun k hk _ => (ownb.out.lt k hk).1)
    have o5 := m5.heap ob.out (by omega)
    have n5 := m5.heap nb.out (by omega)
    have l5 := m5.heap lb.out (by omega)
    have co5 : w5.cell? ⟨w.heap.size + 1, 0, none⟩ = some v := by rw [cell_of_row _ _ _ _ _ _ o5]; rfl
    have cn5 : w5.cell? ⟨w.heap.size, 0, none⟩ = some (.int .i64 (n : Int)) := by rw [cell_of_row _ _ _ _ _ _ n5]; rfl
    have fo5 := frozen_of_row _ _ 0 _ _ o5
    have own5' : w5.ownsRow (s3 + 2) 5 1 v' (i + 1) (bytesV (outL f r (i + 1))) := by
      rw [outL_succ f r i x hfx.out]
      unfold bytesV at own5 ⊢
      rw [List.map_append]
      exact own5
    obtain ⟨ad, cap, hv', _⟩ := (byteAt_of_own own5').slice
    rw [outL_length] at hv'
    subst hv'
    have hWb : Mod (fun k => k = s3 + 1 ∨ s3 + 2 ≤ k) W w5 := (mb.out.mono fun k _ h => .inl h).trans (m5.mono fun k _ h => .inr h)
    have H6 : ∀ w6, w6 = w5.setCell ⟨w.heap.size + 1, 0, none⟩ (.slice ad (i + 1) cap) → w6.heap[s3 + 1]? = some (.loop { rec with state := .busy }) ∧ Mod (fun k => k = w.heap.size + 1 ∨ k = s3 + 1 ∨ s3 + 2 ≤ k) W w6 ∧
        w6.heap[w.heap.size + 1]? = some (.cells #[.slice ad (i + 1) cap] 22 (0,0)) ∧ w6.ownsRow (s3 + 2) 5 1 (.slice ad (i + 1) cap) (i + 1) (bytesV (outL f r (i + 1))) ∧ w6.heap[w.heap.size]? = some (.cells #[.int .i64 (n : Int)] 3 (0,0)) := by
      rintro w6 rfl
      have m6 := Mod.one_setCell w5 (w.heap.size + 1) 0 (.slice ad (i + 1) cap)
      refine ⟨m6.heap l5 (by omega), (hWb.mono fun k _ h => by omega).trans (m6.mono fun k _ h => .inl h), ?_, ownsRow_mod own5' m6 (by omega), m6.heap n5 (by omega)⟩
      rw [setCell_row _ _ _ _ _ _ o5, setRow_heap _ _ _ _ _ _ o5]
      rfl
    replace H6 := Lib.hid H6
    clear m5 hWb own5 own5' grow5 cob cnb fob o5 l5 n5
    go_wp2
    refine wpIn_world fun w6 hw6 => ?_
    obtain ⟨l6, m6, o6, own6, n6⟩ := H6.out w6 hw6
    have co6 : w6.cell? ⟨w.heap.size + 1, 0, none⟩ = some (.slice ad (i + 1) cap) := by rw [cell_of_row _ _ _ _ _ _ o6]; rfl
    have cn6 : w6.cell? ⟨w.heap.size, 0, none⟩ = some (.int .i64 (n : Int)) := by rw [cell_of_row _ _ _ _ _ _ n6]; rfl
    clear hw6 H6 co5 cn5 fo5
    have hall' : ∀ j, j < i + 1 → (f (r + j)).isSome = true := by
      intro j hj
      by_cases e : j = i
      · rw [e, hfx.out]; rfl
      · exact hall.out j (by omega)
    have hend : ∀ o, Mod (fun k => k = w.heap.size + 1 ∨ k = s3 + 1 ∨ s3 + 2 ≤ k) W (w6.putObj (s3 + 1) o) ∧ Mod (fun k => k = w.heap.size + 1 ∨ k = s3 + 1 ∨ k = p ∨ k = M) W0 (w6.putObj (s3 + 1) o) ∧ (w6.putObj (s3 + 1) o).heap[w.heap.size + 1]? = some (.cells #[.slice ad (i + 1) cap] 22 (0,0)) ∧
        (w6.putObj (s3 + 1) o).ownsRow (s3 + 2) 5 1 (.slice ad (i + 1) cap) (i + 1) (bytesV (outL f r (i + 1))) := by
      intro o
      have h1 := Mod.one_putObj w6 (s3 + 1) o
      have h2 := m6.trans (h1.mono fun k _ h => .inr (.inl h))
      exact ⟨h2, mj.out.trans' h2 (fun k hk h => by omega), h1.heap o6 (by omega), ownsRow_mod own6 h1 (by omega)⟩
    have hIsP : ∀ W', Mod (fun k => k = w.heap.size + 1 ∨ k = s3 + 1 ∨ s3 + 2 ≤ k) W W' → IsP W' p M (stepS s (i + 1)) c' := fun W' m => pr.out.mod m (by omega) (by omega)
    replace hend := Lib.hid hend
    replace hall' := Lib.hid hall'
    replace hIsP := Lib.hid hIsP
    replace l6 := Lib.hid l6
    clear m6 o6 own6 n6
    by_cases hlast : i + 1 = n
    · have hb : (((i : Nat) : Int) + 1 == (n : Int)) = true := by simp; omega
      gi_wp2_with (refine round_list (fun h => by obtain ⟨_, _, h⟩ := h; exact h) _ _ _ (by simp) ?_)
      go_wp2
      gi_wp2
      refine ⟨_, _, run_endRound _ l6.out, hQ.out _ _ (.inr ⟨rfl, ?_⟩)⟩
      rw [hK.out]
      obtain ⟨h1, h2, h3, h4⟩ := hend.out (.loop { rec with state := .done, pending := some (.exit 1) })
      rw [hlast] at h3 h4
      refine ⟨⟨fun j hj => hall'.out j (by omega), h2, ⟨_, h3, h4⟩, c', by have := hcc.out; omega, ?_⟩, heap_putObj l6.out⟩
      rw [← hlast]
      exact hIsP.out _ h1
    · have hb : (((i : Nat) : Int) + 1 == (n : Int)) = false := by simp; omega
      gi_wp2_with (refine round_list (fun h => by obtain ⟨_, _, h⟩ := h; exact h) _ _ _ (by simp) ?_)
      go_wp2
      gi_wp2
      obtain ⟨h1, h2, h3, h4⟩ := hend.out (.loop { rec with state := .ready, pending := none })
      refine ⟨_, _, run_endRound _ l6.out, hQ.out _ _ (.inl ⟨rfl, ?_, ?_, ?_, ?_, ?_⟩)⟩
      · rw [hJ.out]
        exact ⟨by omega, hall'.out, h2, _, h3, h4⟩
      · rw [← hst2.out]
        exact heap_putObj l6.out
      · exact h1.block _ (by omega) (by omega)
      · exact h1.block _ (by omega) (by omega)
      · exact h1.block _ (by omega) (by omega)
  · intro i W c' hfx hcc hj lr pr
    rw [← hf, ← hr] at hfx
    rw [hJ] at hj
    obtain ⟨hin, hall, mj, v, oj, ownj⟩ := hj
    rw [hK]
    exact ⟨⟨i, hin, hfx, hall, mj, ⟨v, oj, ownj⟩, c', hcc, pr⟩, lr⟩
  · rw [hJ]
    exact ⟨by omega, fun j hj => absurd hj (by omega), Mod.refl _ _, _, oW, World.ownsRow_nil _ _ _ _⟩
  · rintro e W ⟨rfl, hst⟩
    have hs3O : s3 ≠ w.heap.size + 1 := by omega
    rcases hst with ⟨hk, lst⟩ | ⟨⟨i4, hi4, hnone, hk⟩, lst⟩
    · rw [hK] at hk
      obtain ⟨hall4, mj, ⟨v4, oj, ownj⟩, c4, hcc4, pj⟩ := hk
      refine ⟨_, _, run_endLoop lst (by simp), ?_⟩
      dsimp only
      refine wpIn_wide.2 ?_
      have hw4 : ∀ w4, w4 = W.putObj (s3 + 1) (.loop { rec with state := .exhausted, pending := some (.exit 1) }) → Mod (fun k => k = s3 + 1) W w4 := by
        rintro w4 rfl
        exact Mod.one_putObj W (s3 + 1) (.loop { rec with state := .exhausted, pending := some (.exit 1) })
      refine wp_world fun w4 hw4' => ?_
      have m4 := hw4 w4 hw4'
      clear hw4 hw4'
      have hin4 : n ≤ n := Nat.le_refl _
      have hst4 : n = n ∨ s.f (s.read + n) = none := .inl rfl
      rw [hf, hr] at hall4 ownj
      obtain ⟨i4, hi4⟩ : ∃ i, i = n := ⟨_, rfl⟩
      rw [← hi4] at hall4 ownj hcc4 pj
      replace hin4 : i4 ≤ n := by omega
      replace hst4 : i4 = n ∨ s.f (s.read + i4) = none := .inl hi4
      clear hi4
      have o4 := m4.heap oj (by omega)
      have own4 : w4.ownsRow (s3 + 2) 5 1 v4 i4 (bytesV (outL s.f s.read i4)) := ownsRow_mod ownj m4 (by omega)
      obtain ⟨ad4, cap4, hv4, _⟩ := (byteAt_of_own own4).slice
      rw [outL_length] at hv4
      subst hv4
      have p4 := pj.mod m4 (by omega) (by omega)
      have m4t : Mod (fun k => k = p ∨ k = M) w w4 := (m0W.mono (S' := fun k => k = p ∨ k = M) (fun _ _ h => h.elim)).trans' (mj.trans (m4.mono fun k _ h => .inr (.inl h))) (by intro k hk h; omega)
      have dm4 : ∀ n, (w4.drewN n).heap[s3]? = some (.deferred (some [])) := fun n => (mj.trans (m4.mono (S' := fun k => k = w.heap.size + 1 ∨ k = s3 + 1 ∨ k = p ∨ k = M) fun k _ h => .inr (.inl h))).heap dW (by omega)
      clear m4 mj oj ownj pj lst hJ hK m0W dW lW nW oW xW pW hrec hf hr sW
      replace m4t := Lib.hid m4t
      replace dm4 := Lib.hid dm4
      replace own4 := Lib.hid own4
      replace hall4 := Lib.hid hall4
      replace hst4 := Lib.hid hst4
      replace hcc4 := Lib.hid hcc4
      have fo := frozen_of_row _ _ 0 _ _ o4
      have co : w4.cell? ⟨w.heap.size + 1, 0, none⟩ = some (.slice ad4 i4 cap4) := by rw [cell_of_row _ _ _ _ _ _ o4]; rfl
      have hid : ∀ m, (w4.drewN m).setCell ⟨w.heap.size + 1, 0, none⟩ (.slice ad4 i4 cap4) = w4.drewN m := fun m => setCell_id (w := w4.drewN m) o4 rfl
      obtain ⟨bv, hbv⟩ : ∃ b, b = (s.known && decide (s.read + i4 = s.fin)) := ⟨_, rfl⟩
      have ft : ∀ nq W', W' = (w4.drewN nq).putObj s3 (.deferred none) → (W'.cell? ⟨w.heap.size + 1, 0, none⟩ = some (.slice ad4 i4 cap4) ∧ TakeEnd p M c s n w (.returned (.tuple #[(.slice ad4 i4 cap4), .bool bv, .int .i64 0])) W') := by
        rintro nq W' hW'
        have mx : Mod (fun k => k = s3) w4 W' := by rw [hW']; exact ((Mod.refl _ w4).drewN nq).trans (Mod.one_putObj _ _ _)
        have r2 := mx.heap o4 (by first | exact fun h => h | omega)
        refine ⟨by rw [cell_of_row _ _ _ _ _ _ r2]; rfl, i4, (.slice ad4 i4 cap4), _, hin4, hall4.out, hst4.out, hcc4.out, by rw [hbv], ?_, p4.mod mx (by first | exact fun h => h | omega) (by first | exact fun h => h | omega), ?_⟩
        · exact m4t.out.trans' mx (fun i hi h => by first | exact h.elim | omega)
        · exact ownsRow_base (ownsRow_mod own4.out mx (by omega)) (by omega)
      obtain ⟨q, hq⟩ : ∃ q, q = s.read + i4 := ⟨_, rfl⟩
      have d2 : w4.cell? ⟨p, 2, none⟩ = some (.int .u64 (q : Int)) := by rw [hq]; exact p4.c2
      obtain ⟨fn', hfn⟩ : ∃ q, q = s.fin := ⟨_, rfl⟩
      have d4 : w4.cell? ⟨p, 4, none⟩ = some (.int .u64 (fn' : Int)) := by rw [hfn]; exact p4.c4
      obtain ⟨kn, hkn⟩ : ∃ q, q = s.known := ⟨_, rfl⟩
      have d5 : w4.cell? ⟨p, 5, none⟩ = some (.bool kn) := by rw [hkn]; exact p4.c5
      rw [← hq, ← hfn, ← hkn] at hbv
      replace ft := Lib.hid ft
      clear hq hfn hkn
      replace p4 := Lib.hid p4
      replace o4 := Lib.hid o4
      have hcs : (kn = false ∧ bv = false) ∨ (kn = true ∧ q = fn' ∧ bv = true) ∨ (kn = true ∧ q ≠ fn' ∧ bv = false) := by
        subst hbv
        cases kn
        · exact .inl ⟨rfl, rfl⟩
        · by_cases e : q = fn'
          · exact .inr (.inl ⟨rfl, e, by simp [e]⟩)
          · exact .inr (.inr ⟨rfl, e, by simp [e]⟩)
      clear hbv
      obtain ⟨rfl, rfl⟩ | ⟨rfl, he, rfl⟩ | ⟨rfl, he, rfl⟩ := hcs
      · skip
        go_wp2_with fail
        go_quiet (fail)
        go_wp2
        obtain ⟨hcell, hpost⟩ := ft.out nq _ rfl
        replace hpost := Lib.hid hpost
        refine bodyPostM_mark (v := .tuple #[(.slice ad4 i4 cap4), .bool false, .int .i64 0]) rfl (dm4.out nq) (by simp [results, Try.results10, go_sem, hcell]) ?_
        exact hpost.out
      · have hbe : ((q : Int) == (fn' : Int)) = true := by simp [he]
        clear he
        go_wp2_with fail
        go_quiet (fail)
        go_wp2
        obtain ⟨hcell, hpost⟩ := ft.out nq _ rfl
        replace hpost := Lib.hid hpost
        refine bodyPostM_mark (v := .tuple #[(.slice ad4 i4 cap4), .bool true, .int .i64 0]) rfl (dm4.out nq) (by simp [results, Try.results10, go_sem, hcell]) ?_
        exact hpost.out
      · have hbe : ((q : Int) == (fn' : Int)) = false := by simp; omega
        clear he
        go_wp2_with fail
        go_quiet (fail)
        go_wp2
        obtain ⟨hcell, hpost⟩ := ft.out nq _ rfl
        replace hpost := Lib.hid hpost
        refine bodyPostM_mark (v := .tuple #[(.slice ad4 i4 cap4), .bool false, .int .i64 0]) rfl (dm4.out nq) (by simp [results, Try.results10, go_sem, hcell]) ?_
        exact hpost.out

    · rw [hK] at hk
      obtain ⟨hall4, mj, ⟨v4, oj, ownj⟩, c4, hcc4, pj⟩ := hk
      refine ⟨_, _, run_endLoop lst (by rw [hrec.out]; simp), ?_⟩
      rw [hrec.out]
      dsimp only
      simp only [Exit.inBlock, Exit.then]
      generalize hW4 : W.putObj (s3 + 1) _ = w4
      have m4 : Mod (fun k => k = s3 + 1) W w4 := by rw [← hW4]; exact Mod.one_putObj W (s3 + 1) _
      clear hW4
      have hin4 : i4 ≤ n := by omega
      have hst4 : i4 = n ∨ s.f (s.read + i4) = none := .inr (by rw [← hf, ← hr]; exact hnone)
      clear hnone hi4
      rw [hf, hr] at hall4 ownj
      have o4 := m4.heap oj (by omega)
      have own4 : w4.ownsRow (s3 + 2) 5 1 v4 i4 (bytesV (outL s.f s.read i4)) := ownsRow_mod ownj m4 (by omega)
      obtain ⟨ad4, cap4, hv4, _⟩ := (byteAt_of_own own4).slice
      rw [outL_length] at hv4
      subst hv4
      have p4 := pj.mod m4 (by omega) (by omega)
      have m4t : Mod (fun k => k = p ∨ k = M) w w4 := (m0W.mono (S' := fun k => k = p ∨ k = M) (fun _ _ h => h.elim)).trans' (mj.trans (m4.mono fun k _ h => .inr (.inl h))) (by intro k hk h; omega)
      have dm4 : ∀ n, (w4.drewN n).heap[s3]? = some (.deferred (some [])) := fun n => (mj.trans (m4.mono (S' := fun k => k = w.heap.size + 1 ∨ k = s3 + 1 ∨ k = p ∨ k = M) fun k _ h => .inr (.inl h))).heap dW (by omega)
      clear m4 mj oj ownj pj lst hJ hK m0W dW lW nW oW xW pW hrec hf hr sW
      replace m4t := Lib.hid m4t
      replace dm4 := Lib.hid dm4
      replace own4 := Lib.hid own4
      replace hall4 := Lib.hid hall4
      replace hst4 := Lib.hid hst4
      replace hcc4 := Lib.hid hcc4
      have fo := frozen_of_row _ _ 0 _ _ o4
      have co : w4.cell? ⟨w.heap.size + 1, 0, none⟩ = some (.slice ad4 i4 cap4) := by rw [cell_of_row _ _ _ _ _ _ o4]; rfl
      have hid : ∀ m, (w4.drewN m).setCell ⟨w.heap.size + 1, 0, none⟩ (.slice ad4 i4 cap4) = w4.drewN m := fun m => setCell_id (w := w4.drewN m) o4 rfl
      obtain ⟨bv, hbv⟩ : ∃ b, b = (s.known && decide (s.read + i4 = s.fin)) := ⟨_, rfl⟩
      have ft : ∀ nq W', W' = (w4.drewN nq).putObj s3 (.deferred none) → (W'.cell? ⟨w.heap.size + 1, 0, none⟩ = some (.slice ad4 i4 cap4) ∧ TakeEnd p M c s n w (.returned (.tuple #[(.slice ad4 i4 cap4), .bool bv, .int .i64 0])) W') := by
        rintro nq W' hW'
        have mx : Mod (fun k => k = s3) w4 W' := by rw [hW']; exact ((Mod.refl _ w4).drewN nq).trans (Mod.one_putObj _ _ _)
        have r2 := mx.heap o4 (by first | exact fun h => h | omega)
        refine ⟨by rw [cell_of_row _ _ _ _ _ _ r2]; rfl, i4, (.slice ad4 i4 cap4), _, hin4, hall4.out, hst4.out, hcc4.out, by rw [hbv], ?_, p4.mod mx (by first | exact fun h => h | omega) (by first | exact fun h => h | omega), ?_⟩
        · exact m4t.out.trans' mx (fun i hi h => by first | exact h.elim | omega)
        · exact ownsRow_base (ownsRow_mod own4.out mx (by omega)) (by omega)
      obtain ⟨q, hq⟩ : ∃ q, q = s.read + i4 := ⟨_, rfl⟩
      have d2 : w4.cell? ⟨p, 2, none⟩ = some (.int .u64 (q : Int)) := by rw [hq]; exact p4.c2
      obtain ⟨fn', hfn⟩ : ∃ q, q = s.fin := ⟨_, rfl⟩
      have d4 : w4.cell? ⟨p, 4, none⟩ = some (.int .u64 (fn' : Int)) := by rw [hfn]; exact p4.c4
      obtain ⟨kn, hkn⟩ : ∃ q, q = s.known := ⟨_, rfl⟩
      have d5 : w4.cell? ⟨p, 5, none⟩ = some (.bool kn) := by rw [hkn]; exact p4.c5
      rw [← hq, ← hfn, ← hkn] at hbv
      replace ft := Lib.hid ft
      clear hq hfn hkn
      replace p4 := Lib.hid p4
      replace o4 := Lib.hid o4
      have hcs : (kn = false ∧ bv = false) ∨ (kn = true ∧ q = fn' ∧ bv = true) ∨ (kn = true ∧ q ≠ fn' ∧ bv = false) := by
        subst hbv
        cases kn
        · exact .inl ⟨rfl, rfl⟩
        · by_cases e : q = fn'
          · exact .inr (.inl ⟨rfl, e, by simp [e]⟩)
          · exact .inr (.inr ⟨rfl, e, by simp [e]⟩)
      clear hbv
      obtain ⟨rfl, rfl⟩ | ⟨rfl, he, rfl⟩ | ⟨rfl, he, rfl⟩ := hcs
      · skip
        go_wp2_with fail
        go_quiet (fail)
        go_wp2
        obtain ⟨hcell, hpost⟩ := ft.out nq _ rfl
        replace hpost := Lib.hid hpost
        refine bodyPostM_mark (v := .tuple #[(.slice ad4 i4 cap4), .bool false, .int .i64 0]) rfl (dm4.out nq) (by simp [results, Try.results10, go_sem, hcell]) ?_
        exact hpost.out
      · have hbe : ((q : Int) == (fn' : Int)) = true := by simp [he]
        clear he
        go_wp2_with fail
        go_quiet (fail)
        go_wp2
        obtain ⟨hcell, hpost⟩ := ft.out nq _ rfl
        replace hpost := Lib.hid hpost
        refine bodyPostM_mark (v := .tuple #[(.slice ad4 i4 cap4), .bool true, .int .i64 0]) rfl (dm4.out nq) (by simp [results, Try.results10, go_sem, hcell]) ?_
        exact hpost.out
      · have hbe : ((q : Int) == (fn' : Int)) = false := by simp; omega
        clear he
        go_wp2_with fail
        go_quiet (fail)
        go_wp2
        obtain ⟨hcell, hpost⟩ := ft.out nq _ rfl
        replace hpost := Lib.hid hpost
        refine bodyPostM_mark (v := .tuple #[(.slice ad4 i4 cap4), .bool false, .int .i64 0]) rfl (dm4.out nq) (by simp [results, Try.results10, go_sem, hcell]) ?_
        exact hpost.out

theorem take_any (p M c n : Nat) (s : PS) (w : World) (h : IsP w p M s c) (hn : n < 9223372036854775808) (hc : c ≤ 140737488355328) (hf63 : s.fin < 9223372036854775808)
    (hlow : s.read < 4611686018427387904 ∧ ∀ k, (s.f k).isSome = true → k < 4611686018427387904) :
    Calls Try.prog 10 #[.pointer (some ⟨p, 0, none⟩), .int .i64 (n : Int)] w (TakeEnd p M c s n w) := by
  by_cases hz : n = 0
  · subst hz
    exact take_zero p M c s w h hc hf63 hlow
  · exact take_pos p M c n s w h hn hz hc hf63 hlow
end Go.Proofs.Ytcpphhdbboiadaa
