/-
  The walk of PiecesOrder.
-/
import Derived.Lib.MinMax
import Derived.Test.YtcpphhdbboiadaaPor
namespace Go.Proofs.Ytcpphhdbboiadaa
open Go Go.RowKit
set_option linter.unusedSimpArgs false
set_option linter.unusedVariables false

theorem alloc_came (w : World) (ev : Operand → Value) (o : Oper) (ho : o.op = .alloc 39) : (execOp ev o).run Try.prog w = .ok (.value (.pointer (some ⟨w.heap.size, 0, none⟩))) (w.alloc (.cells (encC 3001 fun _ => false) 39)) := by
  have hz : (zeroValue 39).run Try.prog w = .ok (.agg (Array.replicate 3001 (.bool false))) w := by kernel_rfl
  rw [encC_false]
  unfold execOp
  simp [ho, Instr.alloc, Sem.run_bind, hz, newVar, newRow, Value.cells]
theorem putS_read (s : PS) (a : Nat) (bs : List (BitVec 8)) (last : Bool) : (putS s a bs last).read = s.read := by
  unfold putS
  split <;> rfl

set_option maxRecDepth 100000 in
set_option maxHeartbeats 8000000 in
theorem order_walk (vb x : Value) (b : List (BitVec 8)) (l : List PtD) (w : World) (hb : ByteAt w vb b) (lb : b.length < 9223372036854775808) (h : PtsAt w x l) (hl : l.length < 9223372036854775808) :
    Calls Try.prog 5 #[vb, x] w fun e w' => e = .returned (.bool true) ∧ Below w.heap.size w w' := by
  obtain ⟨bd, bcap, hv, _⟩ := hb.slice
  obtain ⟨xd, xcap, rfl, hx⟩ := h
  generalize en : b.length = n at *
  generalize em : l.length = m at *
  subst hv
  have bn0 : (0 : Int) ≤ (n : Int) := by omega
  have bm0 : (0 : Int) ≤ (m : Int) := by omega
  replace hx := Lib.hid hx
  replace en := Lib.hid en
  replace em := Lib.hid em
  replace hb := Lib.hid hb
  by_cases hg : n ≤ 3000 ∧ m ≤ 300
  · obtain ⟨h1, h2⟩ := hg
    have t1 : decide ((3000 : Int) < (n : Int)) = false := by rw [decide_eq_false_iff_not]; omega
    have t2 : decide ((300 : Int) < (m : Int)) = false := by rw [decide_eq_false_iff_not]; omega
    have bn : (n : Int) ≤ 3000 := by omega
    have bm : (m : Int) ≤ 300 := by omega
    have hb3 : b.length ≤ 3000 := by rw [en.out]; exact h1
    have hnew : ∀ w, Calls Try.prog 8 #[.int .i64 3000] w fun e w' => Mod (fun _ => False) w w' ∧ ∃ p M, w.heap.size ≤ p ∧ w.heap.size ≤ M ∧ e = .returned (.tuple #[.pointer (some ⟨p, 0, none⟩), .int .i64 0]) ∧ IsP w' p M ⟨3000, 0, 0, 0, false, fun _ => none⟩ 0 := fun w => new_ok 3000 (by omega) w
    replace hnew := Lib.hid hnew
    replace hb3 := Lib.hid hb3
    clear lb hl h1 h2
    go_enter Try.func5, Try.ntmps5
    go_wp2_with fail
    refine (alive_any _).mono ?_
    rintro e w1 ⟨m1, rfl⟩
    go_wp2_with fail
    refine (hnew.out _).mono ?_
    rintro e w2 ⟨m2, p, M, hp, hM, rfl, p2⟩
    have hs1 := m1.size
    have hp' : w.heap.size ≤ p ∧ w.heap.size ≤ M := by omega
    have mt : Mod (fun i => i = p ∨ i = M) w w2 := (m1.trans m2).mono (fun _ _ h => h.elim)
    have hpM := p2.lt
    clear m1 m2 hp hM hs1
    go_upto_region 7 with (fail)
    refine wp_region_lit ?_
    refine wpList_yields (by kernel_rfl) _ _ (alloc_came w2 _ _ rfl) ?_
    refine wpList_world fun w3 hw3 => ?_
    have m3 : Mod (fun _ => False) w2 w3 := by rw [hw3]; exact (Mod.refl _ _).alloc _
    have r3 : w3.heap[w2.heap.size]? = some (.cells (encC 3001 fun _ => false) 39 (0,0)) := by rw [hw3]; exact hp_new _ _ _ rfl
    clear hw3
    simp only [Act.put, List.setIfInBounds_toArray, List.set_cons_succ, List.set_cons_zero]
    have p3 := p2.mod m3 (fun h => h) (fun h => h)
    have mt3 := mt.trans (m3.mono (fun _ _ h => h.elim))
    have hC3 := lt_of_heap r3
    generalize eC : w2.heap.size = C at *
    have hO := Ord.start b
    clear mt p2 m3
    go_wp2
    go_loopw [7, 9, 10] (fun gv ev i wr => ∃ (k c : Nat) (s : PS) (cm : Nat → Bool) (ended : Bool), k ≤ m ∧ i = .int .i64 k ∧ ev = .bool ended ∧ Mod (fun _ => False) w wr ∧ IsP wr p M s c ∧ wr.heap[C]? = some (.cells (encC 3001 cm) 39 (0,0)) ∧ wr.ownsRow (C + 1) 5 1 gv s.read (bytesV (b.take s.read)) ∧ Ord b s cm ended) (fun _ _ i _ => m - (intOf i).toNat)
    case atStart => exact ⟨0, 0, _, _, false, Nat.zero_le _, rfl, rfl, mt3.mono (fun i hi h => by omega), p3, r3, World.ownsRow_nil _ _ _ _, hO⟩
    case round =>
      clear mt3 p3 r3 hO
      obtain ⟨k, c, s, cm, ended, hk, rfl, rfl, mr, pr, cr, own, ord⟩ := hrel
      by_cases hlt : k < m
      · obtain ⟨o, ho⟩ : ∃ o, l[k]? = some o := ⟨l[k]'(by rw [em.out]; exact hlt), List.getElem?_eq_getElem _⟩
        obtain ⟨g, off, rfl, hgl, hop⟩ := hx.out k o ho
        replace hop := hop.mod mr (fun h => h)
        have hd : decide ((k : Int) < (m : Int)) = true := by simpa using hlt
        have hlt' : (k : Int) < (m : Int) := by omega
        have h0 : (0 : Int) ≤ (k : Int) := by omega
        have c0 := hop.c0
        have c1 := hop.c1
        have c2 := hop.c2
        obtain ⟨oa, on, ot⟩ := o
        simp only at c0 c1 c2
        have ba : (oa : Int) < 65536 := by have := hop.la; simp only at this; omega
        have bo : (on : Int) < 65536 := by have := hop.ln; simp only at this; omega
        have bt : (ot : Int) < 256 := by have := hop.lt; simp only at this; omega
        have ba0 : (0 : Int) ≤ (oa : Int) := by omega
        have bo0 : (0 : Int) ≤ (on : Int) := by omega
        have bt0 : (0 : Int) ≤ (ot : Int) := by omega
        have hopt := hop
        replace hop := Lib.hid hop
        replace ho := Lib.hid ho
        replace mr := Lib.hid mr
        replace pr := Lib.hid pr
        replace cr := Lib.hid cr
        replace own := Lib.hid own
        replace ord := Lib.hid ord
        replace hopt := Lib.hid hopt
        go_upto_region 13 with (fail)
        rw [show ((oa : Int) % ((n : Int) + 1)) = ((oa % (n + 1) : Nat) : Int) by rw [Int.natCast_emod]; rfl]
        have ha : oa % (n + 1) ≤ n := by have := Nat.mod_lt oa (show 0 < n + 1 by omega); omega
        generalize oa % (n + 1) = a at *
        have bA : (a : Int) ≤ (n : Int) := by omega
        have bA0 : (0 : Int) ≤ (a : Int) := by omega
        go_upto_region 14 with (fail)
        rw [show min (on : Int) ((n : Int) - (a : Int)) = ((min on (n - a) : Nat) : Int) by omega]
        have hq : a + min on (n - a) ≤ n := by omega
        generalize min on (n - a) = q at *
        have bq : (a : Int) + (q : Int) ≤ (n : Int) := by omega
        have bq0 : (0 : Int) ≤ (q : Int) := by omega
        clear c0 c1
        obtain ⟨vs, bs, es⟩ := hb.out.cut a (a + q) (by omega) hq
        rw [show a + q - a = q by omega] at bs
        simp only [Int.natCast_add] at es
        obtain ⟨last, hlast⟩ : ∃ x, (((a : Int) + (q : Int)) == (n : Int)) = x := ⟨_, rfl⟩
        have hla : last = decide (a + q = b.length) := by
          rw [← hlast, en.out]
          by_cases e : a + q = n
          · simp [e]; omega
          · simp [e]; omega
        have hls : ((b.drop a).take q).length = q := by rw [List.length_take, List.length_drop, en.out]; omega
        have hapart := apart_of_lt bs hp'.1 hp'.2
        have ord5 := ord.out.put hb3.out a q (by rw [en.out]; exact hq) last hla _ rfl
        have hpe := ord.out.put_e hb3.out a q (by rw [en.out]; exact hq) last hla
        have hrd5 := putS_read s a ((b.drop a).take q) last
        replace bs := Lib.hid bs
        replace hla := Lib.hid hla
        replace hls := Lib.hid hls
        replace hapart := Lib.hid hapart
        replace ord5 := Lib.hid ord5
        replace hpe := Lib.hid hpe
        replace hrd5 := Lib.hid hrd5
        go_wp2_with fail
        refine (put_any' p M _ s a vs _ q hls.out last wr pr.out ord.out.good (bs.out.mod mr.out (fun _ _ h => h)) hapart.out (by omega) (by omega) hpe.out).mono ?_
        rintro e w5 ⟨rfl, m5, c5, p5⟩
        generalize putS s a ((b.drop a).take q) last = s5 at *
        have cr5 := m5.heap cr.out (by omega)
        have own5 := ownsRow_mod own.out m5 (by omega)
        rw [← hrd5.out] at own5
        have mt5 : Mod (fun _ => False) w w5 := mr.out.trans' m5 (fun i hi h => by omega)
        have hop5 := hopt.out.mod m5 (by omega)
        replace hop5 := Lib.hid hop5
        replace own5 := Lib.hid own5
        replace mt5 := Lib.hid mt5
        replace p5 := Lib.hid p5
        clear m5 mr pr cr own ord hop hopt es bs hapart hpe hrd5 c2
        obtain ⟨wo, rfl⟩ : ∃ wo : World, wo = wr := ⟨_, rfl⟩
        go_wp2
        go_loopw [13] (fun kk wr => ∃ e : Nat, a ≤ e ∧ e ≤ a + q ∧ kk = .int .i64 e ∧ Mod (fun i => i = C) w5 wr ∧ wr.heap[C]? = some (.cells (encC 3001 (addC cm a (e - a))) 39 (0,0))) (fun kk _ => a + q - (intOf kk).toNat)
        case atStart => exact ⟨a, Nat.le_refl _, by omega, rfl, Mod.refl _ _, by rw [Nat.sub_self, addC_zero]; exact cr5⟩
        case round =>
          clear cr5
          obtain ⟨e, he1, he2, rfl, mr, cr⟩ := hrel
          by_cases hlt2 : e < a + q
          · have hd2 : decide ((e : Int) < (a : Int) + (q : Int)) = true := by rw [decide_eq_true_iff]; omega
            have be : (e : Int) < 3001 := by omega
            have be0 : (0 : Int) ≤ (e : Int) := by omega
            have ce : wr.cell? ⟨C, e, none⟩ = some (.bool (addC cm a (e - a) e)) := by rw [cell_of_row _ _ _ _ _ _ cr]; exact encC_get (by omega)
            have fe := frozen_of_row _ _ e _ _ cr
            have hst : Mod (fun i => i = C) wr (wr.setCell ⟨C, e, none⟩ (.bool true)) ∧ (wr.setCell ⟨C, e, none⟩ (.bool true)).heap[C]? = some (.cells (encC 3001 (addC cm a (e + 1 - a))) 39 (0,0)) := by
              refine ⟨Mod.one_setCell _ _ _ _, ?_⟩
              rw [setCell_row _ _ _ _ _ _ cr, encC_set, setRow_heap _ _ _ _ _ _ cr, show e + 1 - a = (e - a) + 1 by omega, addC_succ, show a + (e - a) = e by omega]
            replace hst := Lib.hid hst
            replace mr := Lib.hid mr
            replace cr := Lib.hid cr
            go_wp2
            go_roundw
            case measure => simp [intOf]; omega
            case rel => exact ⟨e + 1, by omega, by omega, by go_num, mr.out.trans hst.out.1, hst.out.2⟩
          · have he : e = a + q := by omega
            rw [he, show a + q - a = q by omega] at cr
            have hd2 : decide ((e : Int) < (a : Int) + (q : Int)) = false := by rw [decide_eq_false_iff_not]; omega
            have p6 := p5.out.mod mr (by omega) (by omega)
            have own6 := ownsRow_mod own5.out mr (by omega)
            have mt6 : Mod (fun _ => False) w wr := mt5.out.trans' mr (fun i hi h => by omega)
            have hop6 := hop5.out.mod mr (by omega)
            have c2 := hop6.c2
            simp only at c2
            have cr6 := cr
            replace cr6 := Lib.hid cr6
            replace p6 := Lib.hid p6
            replace own6 := Lib.hid own6
            replace mt6 := Lib.hid mt6
            replace hop6 := Lib.hid hop6
            clear cr mr p5 own5 mt5 hop5 he hlt2 he1 he2
            cases ended
            · cases last
              · by_cases hz : ot = 0
                · have hbz : ((ot : Int) == 0) = true := by simp [hz]
                  clear hz
                  go_wp2
                  go_roundw
                  case measure => simp [intOf]; omega
                  case rel => exact ⟨k + 1, c5, s5, _, false, by omega, by go_num, rfl, mt6.out, p6.out, cr6.out, own6.out, by simpa using ord5.out⟩
                · have hbz : ((ot : Int) == 0) = false := by simp; omega
                  clear hz
                  have ord6 : Ord b s5 (addC cm a q) false := by simpa using ord5.out
                  have hsr := p6.out.lt
                  go_wp2_with fail
                  refine (take_good p M _ ot s5 _ p6.out ord6.good (by omega)).mono ?_
                  rintro e7 w7 ⟨i, v7, c7, hi, hall, _, _, rfl, m7, p7, o7⟩
                  obtain ⟨ord7, hrd7, hout⟩ := ord6.take i hall
                  rw [hout] at o7
                  have hkn := ord6.known
                  have hfn := ord6.fin
                  have hli : ((b.drop s5.read).take i).length = i := by rw [List.length_take, List.length_drop]; omega
                  have htm := take_more b s5.read i hrd7
                  have own7 := ownsRow_mod own6.out m7 (by omega)
                  have bx := byteAt_of_own o7
                  obtain ⟨d7, cap7, hv7, _⟩ := bx.slice
                  rw [hli] at hv7
                  subst hv7
                  have mt7 : Mod (fun _ => False) w w7 := mt6.out.trans' m7 (fun i hi h => by omega)
                  have cr7 := m7.heap cr6.out (by omega)
                  have hop7 := hop6.out.mod m7 (by omega)
                  rw [en.out] at hrd7
                  obtain ⟨R, hR⟩ : ∃ R, R = s5.read := ⟨_, rfl⟩
                  obtain ⟨r', hr'⟩ : ∃ r, r = s5.read + i := ⟨_, rfl⟩
                  rw [← hr'] at htm hrd7
                  have hs7 : (stepS s5 i).read = r' := hr'.symm
                  rw [← hR] at own7 bx htm hli
                  have hRn : R ≤ 3000 := by have := ord6.read; have := hb3.out; omega
                  obtain ⟨rn, hrn⟩ : ∃ x, ((r' : Int) == (n : Int)) = x := ⟨_, rfl⟩
                  have hbool : (s5.known && decide (s5.read + i = s5.fin)) = false := by
                    rw [hkn]
                    first
                      | (rw [hfn rfl, en.out, ← hr', ← hrn, Bool.true_and]
                         by_cases h : r' = n
                         · simp [h]
                         · simp [h]; omega)
                      | rfl
                  rw [hbool]
                  clear hbool
                  have hRi : R + i = r' := by omega
                  generalize stepS s5 i = s7 at *
                  obtain ⟨vt, btk, et⟩ := hb.out.cutTo r' hrd7
                  have hlr : (b.take r').length = r' := by rw [List.length_take, en.out]; omega
                  have hc1 : decide (ot < i) = false := by rw [decide_eq_false_iff_not]; omega
                  have hc2 : decide (n < r') = false := by rw [decide_eq_false_iff_not]; omega
                  have hin : i ≤ 3000 := by omega
                  replace hin := Lib.hid hin
                  replace hRi := Lib.hid hRi
                  replace hRn := Lib.hid hRn
                  replace htm := Lib.hid htm
                  replace hli := Lib.hid hli
                  replace own7 := Lib.hid own7
                  replace bx := Lib.hid bx
                  replace mt7 := Lib.hid mt7
                  replace cr7 := Lib.hid cr7
                  replace hop7 := Lib.hid hop7
                  replace ord7 := Lib.hid ord7
                  replace p7 := Lib.hid p7
                  replace hs7 := Lib.hid hs7
                  replace btk := Lib.hid btk
                  replace hlr := Lib.hid hlr
                  clear hi hall o7 m7 hout hkn hfn hrd7 hR hr' own6 p6 cr6 mt6 hop6 ord5 ord6 c2 hsr
                  have hC7 := lt_of_heap cr7.out
                  go_wp2_with (first | fail | (at_builtin; refine wpList_append_bytes rfl _ _ rfl (C + 1) R _ _ (b.take R) ((b.drop R).take i) rfl rfl own7.out bx.out (by rw [hli.out]; have := hRn.out; have := hin.out; omega) (by omega) ?_))
                  intro v8 w8 own8 grow8
                  have e8 : R + min i (b.length - R) = r' := by
                    have h1 := hli.out
                    rw [List.length_take, List.length_drop] at h1
                    have := hRi.out
                    omega
                  rw [htm.out, e8] at own8
                  have m8 := own_grown (base' := 0) own7.out grow8
                  have by8 := byteAt_of_own own8
                  obtain ⟨d8, cap8, hv8, _⟩ := by8.slice
                  rw [hlr.out] at hv8
                  subst hv8
                  have mt8 : Mod (fun _ => False) w w8 := mt7.out.trans' m8 (fun i hi h => by omega)
                  have cr8 := m8.heap cr7.out (by omega)
                  have c2 := (hop7.out.mod m8 (by omega)).c2
                  simp only at c2
                  have p8 := p7.out.mod m8 (by omega) (by omega)
                  have bt8 := btk.out.mod mt8 (fun _ _ h => h)
                  replace cr8 := Lib.hid cr8
                  replace p8 := Lib.hid p8
                  replace own8 := Lib.hid own8
                  clear grow8 m8 own7 bx mt7 cr7 hop7 p7 hC7
                  go_wp2_with fail
                  refine (same_true _ _ (b.take r') _ by8 bt8 (by rw [hlr.out]; have := hRi.out; have := hRn.out; have := hin.out; omega)).mono ?_
                  rintro e9 w9 ⟨m9, rfl⟩
                  have mt9 := mt8.trans m9
                  have cr9 := m9.heap cr8.out (fun h => h)
                  have p9 := p8.out.mod m9 (fun h => h) (fun h => h)
                  have own9 := ownsRow_mod own8.out m9 (fun _ _ h => h)
                  rw [← hs7.out] at own9
                  replace mt9 := Lib.hid mt9
                  replace cr9 := Lib.hid cr9
                  replace p9 := Lib.hid p9
                  replace own9 := Lib.hid own9
                  clear m9 cr8 p8 own8 mt8 by8 bt8
                  rw [← hs7.out]
                  have hs7' := hs7.out
                  rw [hs7.out]
                  clear hs7'
                  go_wp2
                  go_roundw
                  case measure => simp [intOf]; omega
                  case rel => exact ⟨k + 1, c7, s7, _, false, by omega, by go_num, rfl, mt9.out, p9.out, cr9.out, by rw [hs7.out]; have := own9.out; rw [hs7.out] at this; exact this, ord7.out⟩
              · by_cases hz : ot = 0
                · have hbz : ((ot : Int) == 0) = true := by simp [hz]
                  clear hz
                  go_wp2
                  go_roundw
                  case measure => simp [intOf]; omega
                  case rel => exact ⟨k + 1, c5, s5, _, true, by omega, by go_num, rfl, mt6.out, p6.out, cr6.out, own6.out, by simpa using ord5.out⟩
                · have hbz : ((ot : Int) == 0) = false := by simp; omega
                  clear hz
                  have ord6 : Ord b s5 (addC cm a q) true := by simpa using ord5.out
                  have hsr := p6.out.lt
                  go_wp2_with fail
                  refine (take_good p M _ ot s5 _ p6.out ord6.good (by omega)).mono ?_
                  rintro e7 w7 ⟨i, v7, c7, hi, hall, _, _, rfl, m7, p7, o7⟩
                  obtain ⟨ord7, hrd7, hout⟩ := ord6.take i hall
                  rw [hout] at o7
                  have hkn := ord6.known
                  have hfn := ord6.fin
                  have hli : ((b.drop s5.read).take i).length = i := by rw [List.length_take, List.length_drop]; omega
                  have htm := take_more b s5.read i hrd7
                  have own7 := ownsRow_mod own6.out m7 (by omega)
                  have bx := byteAt_of_own o7
                  obtain ⟨d7, cap7, hv7, _⟩ := bx.slice
                  rw [hli] at hv7
                  subst hv7
                  have mt7 : Mod (fun _ => False) w w7 := mt6.out.trans' m7 (fun i hi h => by omega)
                  have cr7 := m7.heap cr6.out (by omega)
                  have hop7 := hop6.out.mod m7 (by omega)
                  rw [en.out] at hrd7
                  obtain ⟨R, hR⟩ : ∃ R, R = s5.read := ⟨_, rfl⟩
                  obtain ⟨r', hr'⟩ : ∃ r, r = s5.read + i := ⟨_, rfl⟩
                  rw [← hr'] at htm hrd7
                  have hs7 : (stepS s5 i).read = r' := hr'.symm
                  rw [← hR] at own7 bx htm hli
                  have hRn : R ≤ 3000 := by have := ord6.read; have := hb3.out; omega
                  obtain ⟨rn, hrn⟩ : ∃ x, ((r' : Int) == (n : Int)) = x := ⟨_, rfl⟩
                  have hbool : (s5.known && decide (s5.read + i = s5.fin)) = rn := by
                    rw [hkn]
                    first
                      | (rw [hfn rfl, en.out, ← hr', ← hrn, Bool.true_and]
                         by_cases h : r' = n
                         · simp [h]
                         · simp [h]; omega)
                      | rfl
                  rw [hbool]
                  clear hbool
                  have hRi : R + i = r' := by omega
                  generalize stepS s5 i = s7 at *
                  obtain ⟨vt, btk, et⟩ := hb.out.cutTo r' hrd7
                  have hlr : (b.take r').length = r' := by rw [List.length_take, en.out]; omega
                  have hc1 : decide (ot < i) = false := by rw [decide_eq_false_iff_not]; omega
                  have hc2 : decide (n < r') = false := by rw [decide_eq_false_iff_not]; omega
                  have hin : i ≤ 3000 := by omega
                  replace hin := Lib.hid hin
                  replace hRi := Lib.hid hRi
                  replace hRn := Lib.hid hRn
                  replace htm := Lib.hid htm
                  replace hli := Lib.hid hli
                  replace own7 := Lib.hid own7
                  replace bx := Lib.hid bx
                  replace mt7 := Lib.hid mt7
                  replace cr7 := Lib.hid cr7
                  replace hop7 := Lib.hid hop7
                  replace ord7 := Lib.hid ord7
                  replace p7 := Lib.hid p7
                  replace hs7 := Lib.hid hs7
                  replace btk := Lib.hid btk
                  replace hlr := Lib.hid hlr
                  clear hi hall o7 m7 hout hkn hfn hrd7 hR hr' own6 p6 cr6 mt6 hop6 ord5 ord6 c2 hsr
                  have hC7 := lt_of_heap cr7.out
                  go_wp2_with (first | fail | (at_builtin; refine wpList_append_bytes rfl _ _ rfl (C + 1) R _ _ (b.take R) ((b.drop R).take i) rfl rfl own7.out bx.out (by rw [hli.out]; have := hRn.out; have := hin.out; omega) (by omega) ?_))
                  intro v8 w8 own8 grow8
                  have e8 : R + min i (b.length - R) = r' := by
                    have h1 := hli.out
                    rw [List.length_take, List.length_drop] at h1
                    have := hRi.out
                    omega
                  rw [htm.out, e8] at own8
                  have m8 := own_grown (base' := 0) own7.out grow8
                  have by8 := byteAt_of_own own8
                  obtain ⟨d8, cap8, hv8, _⟩ := by8.slice
                  rw [hlr.out] at hv8
                  subst hv8
                  have mt8 : Mod (fun _ => False) w w8 := mt7.out.trans' m8 (fun i hi h => by omega)
                  have cr8 := m8.heap cr7.out (by omega)
                  have c2 := (hop7.out.mod m8 (by omega)).c2
                  simp only at c2
                  have p8 := p7.out.mod m8 (by omega) (by omega)
                  have bt8 := btk.out.mod mt8 (fun _ _ h => h)
                  replace cr8 := Lib.hid cr8
                  replace p8 := Lib.hid p8
                  replace own8 := Lib.hid own8
                  clear grow8 m8 own7 bx mt7 cr7 hop7 p7 hC7
                  go_wp2_with fail
                  refine (same_true _ _ (b.take r') _ by8 bt8 (by rw [hlr.out]; have := hRi.out; have := hRn.out; have := hin.out; omega)).mono ?_
                  rintro e9 w9 ⟨m9, rfl⟩
                  have mt9 := mt8.trans m9
                  have cr9 := m9.heap cr8.out (fun h => h)
                  have p9 := p8.out.mod m9 (fun h => h) (fun h => h)
                  have own9 := ownsRow_mod own8.out m9 (fun _ _ h => h)
                  rw [← hs7.out] at own9
                  replace mt9 := Lib.hid mt9
                  replace cr9 := Lib.hid cr9
                  replace p9 := Lib.hid p9
                  replace own9 := Lib.hid own9
                  clear m9 cr8 p8 own8 mt8 by8 bt8
                  rw [← hs7.out]
                  have hs7' := hs7.out
                  rw [hs7.out]
                  clear hs7'
                  go_wp2
                  go_roundw
                  case measure => simp [intOf]; omega
                  case rel => exact ⟨k + 1, c7, s7, _, true, by omega, by go_num, rfl, mt9.out, p9.out, cr9.out, by rw [hs7.out]; have := own9.out; rw [hs7.out] at this; exact this, ord7.out⟩
            · by_cases hz : ot = 0
              · have hbz : ((ot : Int) == 0) = true := by simp [hz]
                clear hz
                go_wp2
                go_roundw
                case measure => simp [intOf]; omega
                case rel => exact ⟨k + 1, c5, s5, _, true, by omega, by go_num, rfl, mt6.out, p6.out, cr6.out, own6.out, by simpa using ord5.out⟩
              · have hbz : ((ot : Int) == 0) = false := by simp; omega
                clear hz
                have ord6 : Ord b s5 (addC cm a q) true := by simpa using ord5.out
                have hsr := p6.out.lt
                go_wp2_with fail
                refine (take_good p M _ ot s5 _ p6.out ord6.good (by omega)).mono ?_
                rintro e7 w7 ⟨i, v7, c7, hi, hall, _, _, rfl, m7, p7, o7⟩
                obtain ⟨ord7, hrd7, hout⟩ := ord6.take i hall
                rw [hout] at o7
                have hkn := ord6.known
                have hfn := ord6.fin
                have hli : ((b.drop s5.read).take i).length = i := by rw [List.length_take, List.length_drop]; omega
                have htm := take_more b s5.read i hrd7
                have own7 := ownsRow_mod own6.out m7 (by omega)
                have bx := byteAt_of_own o7
                obtain ⟨d7, cap7, hv7, _⟩ := bx.slice
                rw [hli] at hv7
                subst hv7
                have mt7 : Mod (fun _ => False) w w7 := mt6.out.trans' m7 (fun i hi h => by omega)
                have cr7 := m7.heap cr6.out (by omega)
                have hop7 := hop6.out.mod m7 (by omega)
                rw [en.out] at hrd7
                obtain ⟨R, hR⟩ : ∃ R, R = s5.read := ⟨_, rfl⟩
                obtain ⟨r', hr'⟩ : ∃ r, r = s5.read + i := ⟨_, rfl⟩
                rw [← hr'] at htm hrd7
                have hs7 : (stepS s5 i).read = r' := hr'.symm
                rw [← hR] at own7 bx htm hli
                have hRn : R ≤ 3000 := by have := ord6.read; have := hb3.out; omega
                obtain ⟨rn, hrn⟩ : ∃ x, ((r' : Int) == (n : Int)) = x := ⟨_, rfl⟩
                have hbool : (s5.known && decide (s5.read + i = s5.fin)) = rn := by
                  rw [hkn]
                  first
                    | (rw [hfn rfl, en.out, ← hr', ← hrn, Bool.true_and]
                       by_cases h : r' = n
                       · simp [h]
                       · simp [h]; omega)
                    | rfl
                rw [hbool]
                clear hbool
                have hRi : R + i = r' := by omega
                generalize stepS s5 i = s7 at *
                obtain ⟨vt, btk, et⟩ := hb.out.cutTo r' hrd7
                have hlr : (b.take r').length = r' := by rw [List.length_take, en.out]; omega
                have hc1 : decide (ot < i) = false := by rw [decide_eq_false_iff_not]; omega
                have hc2 : decide (n < r') = false := by rw [decide_eq_false_iff_not]; omega
                have hin : i ≤ 3000 := by omega
                replace hin := Lib.hid hin
                replace hRi := Lib.hid hRi
                replace hRn := Lib.hid hRn
                replace htm := Lib.hid htm
                replace hli := Lib.hid hli
                replace own7 := Lib.hid own7
                replace bx := Lib.hid bx
                replace mt7 := Lib.hid mt7
                replace cr7 := Lib.hid cr7
                replace hop7 := Lib.hid hop7
                replace ord7 := Lib.hid ord7
                replace p7 := Lib.hid p7
                replace hs7 := Lib.hid hs7
                replace btk := Lib.hid btk
                replace hlr := Lib.hid hlr
                clear hi hall o7 m7 hout hkn hfn hrd7 hR hr' own6 p6 cr6 mt6 hop6 ord5 ord6 c2 hsr
                have hC7 := lt_of_heap cr7.out
                go_wp2_with (first | fail | (at_builtin; refine wpList_append_bytes rfl _ _ rfl (C + 1) R _ _ (b.take R) ((b.drop R).take i) rfl rfl own7.out bx.out (by rw [hli.out]; have := hRn.out; have := hin.out; omega) (by omega) ?_))
                intro v8 w8 own8 grow8
                have e8 : R + min i (b.length - R) = r' := by
                  have h1 := hli.out
                  rw [List.length_take, List.length_drop] at h1
                  have := hRi.out
                  omega
                rw [htm.out, e8] at own8
                have m8 := own_grown (base' := 0) own7.out grow8
                have by8 := byteAt_of_own own8
                obtain ⟨d8, cap8, hv8, _⟩ := by8.slice
                rw [hlr.out] at hv8
                subst hv8
                have mt8 : Mod (fun _ => False) w w8 := mt7.out.trans' m8 (fun i hi h => by omega)
                have cr8 := m8.heap cr7.out (by omega)
                have c2 := (hop7.out.mod m8 (by omega)).c2
                simp only at c2
                have p8 := p7.out.mod m8 (by omega) (by omega)
                have bt8 := btk.out.mod mt8 (fun _ _ h => h)
                replace cr8 := Lib.hid cr8
                replace p8 := Lib.hid p8
                replace own8 := Lib.hid own8
                clear grow8 m8 own7 bx mt7 cr7 hop7 p7 hC7
                go_wp2_with fail
                refine (same_true _ _ (b.take r') _ by8 bt8 (by rw [hlr.out]; have := hRi.out; have := hRn.out; have := hin.out; omega)).mono ?_
                rintro e9 w9 ⟨m9, rfl⟩
                have mt9 := mt8.trans m9
                have cr9 := m9.heap cr8.out (fun h => h)
                have p9 := p8.out.mod m9 (fun h => h) (fun h => h)
                have own9 := ownsRow_mod own8.out m9 (fun _ _ h => h)
                rw [← hs7.out] at own9
                replace mt9 := Lib.hid mt9
                replace cr9 := Lib.hid cr9
                replace p9 := Lib.hid p9
                replace own9 := Lib.hid own9
                clear m9 cr8 p8 own8 mt8 by8 bt8
                rw [← hs7.out]
                have hs7' := hs7.out
                rw [hs7.out]
                clear hs7'
                go_wp2
                go_roundw
                case measure => simp [intOf]; omega
                case rel => exact ⟨k + 1, c7, s7, _, true, by omega, by go_num, rfl, mt9.out, p9.out, cr9.out, by rw [hs7.out]; have := own9.out; rw [hs7.out] at this; exact this, ord7.out⟩
      · have hke : k = m := by omega
        subst hke
        have hd : decide ((k : Int) < (k : Int)) = false := by simp
        have hsr := pr.lt
        replace mr := Lib.hid mr
        replace pr := Lib.hid pr
        replace cr := Lib.hid cr
        replace own := Lib.hid own
        replace ord := Lib.hid ord
        clear hlt hk
        go_wp2_with fail
        refine (take_good p M _ 3000 s _ pr.out ord.out.good (by omega)).mono ?_
        rintro e7 w7 ⟨i, v7, c7, hi, hall, hend, _, rfl, m7, p7, o7⟩
        have hends := ord.out.ends hb3.out hall hend
        obtain ⟨ord7, hrd7, hout⟩ := ord.out.take i hall
        rw [hout] at o7
        have hkn := ord.out.known
        have hfn := ord.out.fin
        have hli : ((b.drop s.read).take i).length = i := by rw [List.length_take, List.length_drop]; omega
        have htm := take_more b s.read i hrd7
        have own7 := ownsRow_mod own.out m7 (by omega)
        have bx := byteAt_of_own o7
        obtain ⟨d7, cap7, hv7, _⟩ := bx.slice
        rw [hli] at hv7
        subst hv7
        have mt7 : Mod (fun _ => False) w w7 := mr.out.trans' m7 (fun i hi h => by omega)
        have cr7 := m7.heap cr.out (by omega)
        rw [en.out] at hrd7 hends
        obtain ⟨R, hR⟩ : ∃ R, R = s.read := ⟨_, rfl⟩
        obtain ⟨r', hr'⟩ : ∃ r, r = s.read + i := ⟨_, rfl⟩
        rw [← hr'] at htm hrd7 hends
        have hs7 : (stepS s i).read = r' := hr'.symm
        rw [← hR] at own7 bx htm hli
        have hRn : R ≤ 3000 := by have := ord.out.read; have := hb3.out; omega
        obtain ⟨rn, hrn⟩ : ∃ x, ((r' : Int) == (n : Int)) = x := ⟨_, rfl⟩
        have hbool : (s.known && decide (s.read + i = s.fin)) = (ended && rn) := by
          rw [hkn]
          cases ended
          · rfl
          · rw [hfn rfl, en.out, ← hr', ← hrn]
            by_cases h : r' = n
            · simp [h]
            · simp [h]; omega
        rw [hbool]
        clear hbool
        have hRi : R + i = r' := by omega
        generalize stepS s i = s7 at *
        obtain ⟨vt, btk, et⟩ := hb.out.cutTo r' hrd7
        have hlr : (b.take r').length = r' := by rw [List.length_take, en.out]; omega
        have hin : i ≤ 3000 := by omega
        replace hin := Lib.hid hin
        replace hRi := Lib.hid hRi
        replace hRn := Lib.hid hRn
        replace htm := Lib.hid htm
        replace hli := Lib.hid hli
        replace own7 := Lib.hid own7
        replace bx := Lib.hid bx
        replace mt7 := Lib.hid mt7
        replace cr7 := Lib.hid cr7
        replace p7 := Lib.hid p7
        replace hs7 := Lib.hid hs7
        replace btk := Lib.hid btk
        replace hlr := Lib.hid hlr
        replace hends := Lib.hid hends
        replace hrd7 := Lib.hid hrd7
        clear hi hall hend o7 m7 hout hkn hfn hR hr' own pr cr mr ord hsr ord7
        have hC7 := lt_of_heap cr7.out
        go_wp2_with (first | fail | (at_builtin; refine wpList_append_bytes rfl _ _ rfl (C + 1) R _ _ (b.take R) ((b.drop R).take i) rfl rfl own7.out bx.out (by rw [hli.out]; have := hRn.out; have := hin.out; omega) (by omega) ?_))
        intro v8 w8 own8 grow8
        have e8 : R + min i (b.length - R) = r' := by
          have h1 := hli.out
          rw [List.length_take, List.length_drop] at h1
          have := hRi.out
          omega
        rw [htm.out, e8] at own8
        have m8 := own_grown (base' := 0) own7.out grow8
        have by8 := byteAt_of_own own8
        obtain ⟨d8, cap8, hv8, _⟩ := by8.slice
        rw [hlr.out] at hv8
        subst hv8
        have mt8 : Mod (fun _ => False) w w8 := mt7.out.trans' m8 (fun i hi h => by omega)
        have cr8 := m8.heap cr7.out (by omega)
        have p8 := p7.out.mod m8 (by omega) (by omega)
        have bt8 := btk.out.mod mt8 (fun _ _ h => h)
        replace cr8 := Lib.hid cr8
        replace p8 := Lib.hid p8
        replace by8 := Lib.hid by8
        replace bt8 := Lib.hid bt8
        replace mt8 := Lib.hid mt8
        clear grow8 m8 own7 own8 bx mt7 cr7 p7 hC7 btk e8
        obtain ⟨wo, rfl⟩ : ∃ wo : World, wo = wr := ⟨_, rfl⟩
        go_wp2
        go_loopw [20] (fun nv wz => ∃ e : Nat, e ≤ r' ∧ nv = .int .i64 e ∧ wz = w8) (fun nv _ => r' - (intOf nv).toNat)
        case atStart => exact ⟨0, Nat.zero_le _, rfl, rfl⟩
        case round =>
          obtain ⟨e, he, rfl, rfl⟩ := hrel
          have ce : wr.cell? ⟨C, e, none⟩ = some (.bool (cm e)) := by rw [cell_of_row _ _ _ _ _ _ cr8.out]; exact encC_get (by have := hrd7.out; omega)
          have be : (e : Int) < 3001 := by have := hrd7.out; omega
          have be0 : (0 : Int) ≤ (e : Int) := by omega
          by_cases hlt : e < r'
          · have hd3 : e < n := by have := hrd7.out; omega
            rw [hends.out.1 e hlt] at ce
            go_wp2
            go_roundw
            case measure => simp [intOf]; omega
            case rel => exact ⟨e + 1, by omega, by go_num, trivial⟩
          · obtain rfl : e = r' := by omega
            cases rn
            · have hne : ¬ e = n := by rintro rfl; simp at hrn
              have hd3 : e < n := by have := hrd7.out; omega
              have hcf : cm e = false := by
                rcases hends.out.2 with h | h
                · exact absurd h hne
                · exact h
              rw [hcf] at ce
              clear hcf hne hlt he
              cases ended
              · try simp only [Bool.false_and, Bool.and_false]
                go_wp2_with fail
                refine (same_true _ _ (b.take e) _ by8.out bt8.out (by rw [hlr.out]; have := hRi.out; have := hRn.out; have := hin.out; omega)).mono ?_
                rintro e9 w9 ⟨m9, rfl⟩
                have mt9 := mt8.out.trans m9
                have p9 := p8.out.mod m9 (fun h => h) (fun h => h)
                clear m9 by8 bt8 mt8 p8
                go_wp2_with fail
                refine (read_any p M c7 s7 w9 p9).mono ?_
                rintro e10 w10 ⟨rfl, rfl⟩
                rw [hs7.out]
                go_wp2
                go_ret
                exact ⟨rfl, mt9.below (Nat.le_refl _) (fun i h => h.elim)⟩
              · try simp only [Bool.false_and, Bool.and_false]
                go_wp2_with fail
                refine (same_true _ _ (b.take e) _ by8.out bt8.out (by rw [hlr.out]; have := hRi.out; have := hRn.out; have := hin.out; omega)).mono ?_
                rintro e9 w9 ⟨m9, rfl⟩
                have mt9 := mt8.out.trans m9
                have p9 := p8.out.mod m9 (fun h => h) (fun h => h)
                clear m9 by8 bt8 mt8 p8
                go_wp2_with fail
                refine (read_any p M c7 s7 w9 p9).mono ?_
                rintro e10 w10 ⟨rfl, rfl⟩
                rw [hs7.out]
                go_wp2
                go_ret
                exact ⟨rfl, mt9.below (Nat.le_refl _) (fun i h => h.elim)⟩
            · have hen : n = e := by
                have h1 := eq_of_beq hrn
                omega
              subst hen
              clear ce hlt he hrn
              cases ended
              · try simp only [Bool.false_and, Bool.and_true]
                go_wp2_with fail
                refine (same_true _ _ (b.take n) _ by8.out bt8.out (by rw [hlr.out]; have := hRi.out; have := hRn.out; have := hin.out; omega)).mono ?_
                rintro e9 w9 ⟨m9, rfl⟩
                have mt9 := mt8.out.trans m9
                have p9 := p8.out.mod m9 (fun h => h) (fun h => h)
                clear m9 by8 bt8 mt8 p8
                go_wp2_with fail
                refine (read_any p M c7 s7 w9 p9).mono ?_
                rintro e10 w10 ⟨rfl, rfl⟩
                rw [hs7.out]
                go_wp2
                go_ret
                exact ⟨rfl, mt9.below (Nat.le_refl _) (fun i h => h.elim)⟩
              · try simp only [Bool.true_and, Bool.and_true]
                go_wp2_with fail
                refine (same_true _ _ (b.take n) _ by8.out bt8.out (by rw [hlr.out]; have := hRi.out; have := hRn.out; have := hin.out; omega)).mono ?_
                rintro e9 w9 ⟨m9, rfl⟩
                have mt9 := mt8.out.trans m9
                have p9 := p8.out.mod m9 (fun h => h) (fun h => h)
                clear m9 by8 bt8 mt8 p8
                go_wp2_with fail
                refine (read_any p M c7 s7 w9 p9).mono ?_
                rintro e10 w10 ⟨rfl, rfl⟩
                rw [hs7.out]
                go_wp2
                go_ret
                exact ⟨rfl, mt9.below (Nat.le_refl _) (fun i h => h.elim)⟩
  · by_cases h1 : n ≤ 3000
    · have t1 : decide ((3000 : Int) < (n : Int)) = false := by rw [decide_eq_false_iff_not]; omega
      have t2 : decide ((300 : Int) < (m : Int)) = true := by rw [decide_eq_true_iff]; omega
      clear hl lb hg h1
      go_enter Try.func5, Try.ntmps5
      go_wp2_with fail
      refine (alive_any _).mono ?_
      rintro e w1 ⟨m1, rfl⟩
      go_wp2_with fail
      refine (alive_any _).mono ?_
      rintro e w3 ⟨m3, rfl⟩
      go_wp2
      go_ret
      exact ⟨rfl, (m1.trans m3).below (Nat.le_refl _) (fun i h => h.elim)⟩
    · have t1 : decide ((3000 : Int) < (n : Int)) = true := by rw [decide_eq_true_iff]; omega
      clear hl lb hg h1
      go_enter Try.func5, Try.ntmps5
      go_wp2_with fail
      refine (alive_any _).mono ?_
      rintro e w1 ⟨m1, rfl⟩
      go_wp2_with fail
      refine (alive_any _).mono ?_
      rintro e w3 ⟨m3, rfl⟩
      go_wp2
      go_ret
      exact ⟨rfl, (m1.trans m3).below (Nat.le_refl _) (fun i h => h.elim)⟩
end Go.Proofs.Ytcpphhdbboiadaa
