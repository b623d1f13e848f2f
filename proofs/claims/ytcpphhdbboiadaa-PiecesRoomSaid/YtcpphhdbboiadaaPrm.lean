/-
  The walk of PiecesRoom.
-/
import Derived.Test.YtcpphhdbboiadaaPop
namespace Go.Proofs.Ytcpphhdbboiadaa
open Go Go.RowKit
set_option linter.unusedSimpArgs false
set_option linter.unusedVariables false

theorem room_e {s : PS} {a q : Nat} (hk : s.known = false) (h : a + q ≤ 4611686018427387903) : putE s a q false = if s.read + s.room < a + q then 6 else 0 := by
  unfold putE
  rw [if_neg (by omega), if_neg (by rw [hk]; simp)]
theorem putS_same (s : PS) (a : Nat) (bs : List (BitVec 8)) : (putS s a bs false).room = s.room ∧ (putS s a bs false).read = s.read ∧ (putS s a bs false).known = s.known := by
  unfold putS
  split
  · exact ⟨rfl, rfl, by simp⟩
  · exact ⟨rfl, rfl, rfl⟩

set_option maxRecDepth 100000 in
set_option maxHeartbeats 2000000 in
theorem room_walk (x : Value) (l : List OpD) (r : Nat) (w : World) (h : OpsAt w x l) (hl : l.length ≤ 140737488351232) (hr : r < 65536) :
    Calls Try.prog 6 #[.int .u16 (r : Int), x] w fun e w' => e = .returned (.bool true) ∧ Below w.heap.size w w' := by
  have hgr := fun w' (m : Mod (fun _ => False) w w') => great_any x l w' (by
    obtain ⟨ad, cap, hx, hh⟩ := h
    refine ⟨ad, cap, hx, fun j o ho => ?_⟩
    obtain ⟨g, off, h1, h2, h3⟩ := hh j o ho
    exact ⟨g, off, h1, by have := m.size; omega, h3.mod m (fun _ _ h => h)⟩) hl
  obtain ⟨ad, cap, rfl, hx⟩ := h
  generalize en : l.length = n at *
  have bn0 : (0 : Int) ≤ (n : Int) := by omega
  have br : (r : Int) < 65536 := by omega
  have br0 : (0 : Int) ≤ (r : Int) := by omega
  replace hx := Lib.hid hx
  replace en := Lib.hid en
  replace hgr := Lib.hid hgr
  by_cases hg : n ≤ 300
  · have t1 : decide ((300 : Int) < (n : Int)) = false := by rw [decide_eq_false_iff_not]; omega
    have bn : (n : Int) ≤ 300 := by omega
    clear hl
    go_enter Try.func6, Try.ntmps6
    go_wp2_with fail
    refine (alive_any _).mono ?_
    rintro e w1 ⟨m1, rfl⟩
    go_wp2_with fail
    refine (hgr.out _ m1).mono ?_
    rintro e w2 ⟨m2, b, rfl, hb⟩
    have mt := m1.trans m2
    clear m1 m2
    cases b
    · replace hb := Lib.hid (hb rfl)
      go_wp2_with fail
      refine (new_ok r (by omega) _).mono ?_
      rintro e w3 ⟨m3, p, M, hp, hM, rfl, p3⟩
      have hsz := mt.size
      have mt3 : Mod (fun i => i = p ∨ i = M) w w3 := (mt.trans m3).mono (fun _ _ h => h.elim)
      have hp' : w.heap.size ≤ p ∧ w.heap.size ≤ M := by omega
      have g3 : Good ⟨r, 0, 0, 0, false, fun _ => none⟩ := Good.new (by omega)
      clear m3 mt hp hM
      go_wp2
      go_loopw [7] (fun i wr => ∃ (k c : Nat) (s : PS), k ≤ n ∧ i = .int .i64 k ∧ Mod (fun i => i = p ∨ i = M) w wr ∧ IsP wr p M s c ∧ Good s ∧ s.room = r ∧ s.known = false) (fun i _ => n - (intOf i).toNat)
      case atStart => exact ⟨0, 0, _, Nat.zero_le _, rfl, mt3, p3, g3, rfl, rfl⟩
      case round =>
        clear mt3 p3 g3
        obtain ⟨k, c, s, hk, rfl, mr, pr, gr, hrm, hkn⟩ := hrel
        by_cases hlt : k < n
        · obtain ⟨o, ho⟩ : ∃ o, l[k]? = some o := ⟨l[k]'(by rw [en.out]; exact hlt), List.getElem?_eq_getElem _⟩
          obtain ⟨g, off, rfl, hgl, hop⟩ := hx.out k o ho
          have hob := hb.out k o ho
          replace hop := hop.mod mr (by omega)
          have hd : decide ((k : Int) < (n : Int)) = true := by simpa using hlt
          have hlt' : (k : Int) < (n : Int) := by omega
          have h0 : (0 : Int) ≤ (k : Int) := by omega
          have c0 := hop.c0
          have c1 := hop.c1
          have c2 := hop.c2
          have c3 := hop.c3
          obtain ⟨bd, bc, hv, _⟩ := hop.b.slice
          rw [hv] at c1
          replace hop := Lib.hid hop
          replace hv := Lib.hid hv
          replace mr := Lib.hid mr
          replace pr := Lib.hid pr
          replace gr := Lib.hid gr
          replace hrm := Lib.hid hrm
          replace hkn := Lib.hid hkn
          replace hob := Lib.hid hob
          replace ho := Lib.hid ho
          obtain ⟨oa, ov, obs, olast, otake⟩ := o
          simp only at *
          rename_i hjunk
          clear hjunk
          generalize eq : obs.length = q at *
          replace eq := Lib.hid eq
          have hw : ∀ wa, wa = wr.alloc (.cells #[.int .u64 (oa : Int), .slice bd q bc, .bool olast, .int .i64 otake] 45) → Mod (fun _ => False) wr wa ∧ wa.heap[wr.heap.size]? = some (.cells #[.int .u64 (oa : Int), .slice bd q bc, .bool olast, .int .i64 otake] 45 (0,0)) := by
            rintro wa rfl
            exact ⟨(Mod.refl _ _).alloc _, hp_new _ _ _ rfl⟩
          replace hw := Lib.hid hw
          go_upto_region 10 with (fail)
          refine wp_world fun wa hwa => ?_
          obtain ⟨ma, ra⟩ := hw.out wa hwa
          clear hwa hw c0 c1 c2 c3
          have hszr := pr.out.lt
          generalize eA : wr.heap.size = A at *
          have c0 : wa.cell? ⟨A, 0, none⟩ = some (.int .u64 (oa : Int)) := by rw [cell_of_row _ _ _ _ _ _ ra]; rfl
          have c1 : wa.cell? ⟨A, 1, none⟩ = some (.slice bd q bc) := by rw [cell_of_row _ _ _ _ _ _ ra]; rfl
          have c3 : wa.cell? ⟨A, 3, none⟩ = some (.int .i64 otake) := by rw [cell_of_row _ _ _ _ _ _ ra]; rfl
          have pa := pr.out.mod ma (fun h => h) (fun h => h)
          have mta := mr.out.trans (ma.mono (S' := fun i => i = p ∨ i = M) (fun _ _ h => h.elim))
          have hba := hop.out.b.mod ma (fun _ _ h => h)
          simp only at hba
          rw [hv.out] at hba
          have hapart : ∀ ad' n' cap', Value.slice bd q bc = .slice (some ad') n' cap' → n' ≠ 0 → ad'.block ≠ p ∧ ad'.block ≠ M := by
            obtain ⟨g', off', h1, _, h3⟩ := hx.out k _ ho.out
            have := apart_of_lt h3.b hp'.1 hp'.2
            simp only at this
            rw [hv.out] at this
            exact this
          have hla := hop.out.la
          have hlt2 := hop.out.lt
          simp only at hla hlt2
          replace ra := Lib.hid ra
          replace pa := Lib.hid pa
          replace mta := Lib.hid mta
          replace hba := Lib.hid hba
          replace hapart := Lib.hid hapart
          replace hla := Lib.hid hla
          clear mr pr hop ma
          by_cases htk : 0 ≤ otake
          · obtain ⟨tk, rfl⟩ : ∃ tk : Nat, otake = (tk : Int) := ⟨otake.toNat, by omega⟩
            have htl : tk < 9223372036854775808 := by omega
            replace htl := Lib.hid htl
            clear htk hlt2
            go_wp2_with fail
            refine (take_good p M _ tk s wa pa.out gr.out htl.out).mono ?_
            rintro e w5 ⟨i, v5, c5, _, hall, _, _, rfl, m5, p5, _⟩
            have g5 := gr.out.step i hall
            have hr5 : (stepS s i).room = r := hrm.out
            have hk5 : (stepS s i).known = false := hkn.out
            have hc5 := p5.count g5
            rw [hr5] at hc5
            have hcmp : decide (r < c5) = false := by rw [decide_eq_false_iff_not]; omega
            have mt5 := mta.out.trans m5
            rw [show (Value.bool (s.known && decide (s.read + i = s.fin))) = .bool false by rw [hkn.out]; rfl]
            clear hc5
            generalize stepS s i = s5 at *
            replace g5 := Lib.hid g5
            replace hr5 := Lib.hid hr5
            replace hk5 := Lib.hid hk5
            replace mt5 := Lib.hid mt5
            clear m5 hall mta c0 c1 c3
            go_wp2_with fail
            refine (held_any p M c5 s5 w5 p5).mono ?_
            rintro e w5 ⟨rfl, rfl⟩
            replace p5 := Lib.hid p5
            go_wp2
            go_roundw
            case measure => simp [intOf]; omega
            case rel => exact ⟨k + 1, c5, s5, by omega, by go_num, mt5.out, p5.out, g5.out, hr5.out, hk5.out⟩
          · have ht : decide (0 ≤ otake) = false := by rw [decide_eq_false_iff_not]; omega
            clear htk hlt2
            have bq : (q : Int) ≤ 100000 := by have := hob.out; omega
            have bq0 : (0 : Int) ≤ (q : Int) := by omega
            have bo0 : (0 : Int) ≤ (oa : Int) := by omega
            by_cases hoa : oa ≤ 1099511627776
            · have hd1 : decide ((oa : Int) ≤ 1099511627776) = true := by rw [decide_eq_true_iff]; omega
              have bo : (oa : Int) ≤ 1099511627776 := by omega
              have he := room_e (s := s) (a := oa) (q := q) hkn.out (by have := hob.out; omega)
              have hS := putS_same s oa obs
              rw [hrm.out] at he
              replace he := Lib.hid he
              go_wp2_with fail
              refine (put_good p M _ s oa _ obs false wa pa.out gr.out hba.out hapart.out (by have := hob.out; have := eq.out; omega) hla.out).mono ?_
              rintro e w5 ⟨rfl, m5, c5, _, p5⟩
              rw [eq.out, he.out]
              have g5 := gr.out.put oa obs false
              rw [hrm.out, hkn.out] at hS
              have hc5 := p5.count g5
              rw [hS.1] at hc5
              have hcmp : decide (r < c5) = false := by rw [decide_eq_false_iff_not]; omega
              have mt5 := mta.out.trans m5
              have r5 := m5.heap ra.out (by omega)
              have c0 : w5.cell? ⟨A, 0, none⟩ = some (.int .u64 (oa : Int)) := by rw [cell_of_row _ _ _ _ _ _ r5]; rfl
              have c1 : w5.cell? ⟨A, 1, none⟩ = some (.slice bd q bc) := by rw [cell_of_row _ _ _ _ _ _ r5]; rfl
              clear hc5
              have hrd := gr.out.read
              generalize putS s oa obs false = s5 at *
              obtain ⟨rd, hrd2⟩ : ∃ rd, rd = s.read := ⟨_, rfl⟩
              rw [← hrd2] at he hS hrd ⊢
              have brd : (rd : Int) ≤ 4611686018427387903 := by omega
              have brd0 : (0 : Int) ≤ (rd : Int) := by omega
              have hread : ∀ nq, Calls Try.prog 12 #[.pointer (some ⟨p, 0, none⟩)] (w5.drewN nq) fun e w' => e = .returned (.int .u64 (rd : Int)) ∧ w' = w5.drewN nq := by
                intro nq
                have := read_any p M c5 s5 (w5.drewN nq) (p5.mod ((Mod.refl (fun _ => False) _).drewN nq) (fun h => h) (fun h => h))
                rw [hS.2.1] at this
                exact this
              have hhold : ∀ nq, Calls Try.prog 14 #[.pointer (some ⟨p, 0, none⟩)] (w5.drewN nq) fun e w' => e = .returned (.int .i64 (c5 : Int)) ∧ w' = w5.drewN nq := fun nq =>
                held_any p M c5 s5 (w5.drewN nq) (p5.mod ((Mod.refl (fun _ => False) _).drewN nq) (fun h => h) (fun h => h))
              have hfin : ∀ nq, Mod (fun i => i = p ∨ i = M) w (w5.drewN nq) ∧ IsP (w5.drewN nq) p M s5 c5 := fun nq => ⟨mt5.drewN nq, p5.mod ((Mod.refl (fun _ => False) _).drewN nq) (fun h => h) (fun h => h)⟩
              replace g5 := Lib.hid g5
              replace hS := Lib.hid hS
              replace hread := Lib.hid hread
              replace hhold := Lib.hid hhold
              replace hfin := Lib.hid hfin
              clear m5 mta ra pa hba hapart c3 p5 mt5 r5 hrd hrd2
              by_cases hfit : rd + r < oa + q
              · have hd2 : decide ((oa : Int) + (q : Int) ≤ (rd : Int) + (r : Int)) = false := by rw [decide_eq_false_iff_not]; omega
                rw [if_pos hfit]
                clear he hfit
                go_upto_region 16 with (fail)
                go_quiet ((refine Calls.quiet_of_same (hread.out _)))
                go_wp2_with fail
                refine (hhold.out nq).mono ?_
                rintro e w6 ⟨rfl, rfl⟩
                go_wp2
                go_roundw
                case measure => simp [intOf]; omega
                case rel => exact ⟨k + 1, c5, s5, by omega, by go_num, (hfin.out nq).1, (hfin.out nq).2, g5.out, hS.out.1, hS.out.2.2⟩
              · have hd2 : decide ((oa : Int) + (q : Int) ≤ (rd : Int) + (r : Int)) = true := by rw [decide_eq_true_iff]; omega
                rw [if_neg hfit]
                clear he hfit
                go_upto_region 16 with (fail)
                go_quiet ((refine Calls.quiet_of_same (hread.out _)))
                go_wp2_with fail
                refine (hhold.out nq).mono ?_
                rintro e w6 ⟨rfl, rfl⟩
                go_wp2
                go_roundw
                case measure => simp [intOf]; omega
                case rel => exact ⟨k + 1, c5, s5, by omega, by go_num, (hfin.out nq).1, (hfin.out nq).2, g5.out, hS.out.1, hS.out.2.2⟩
            · have hd1 : decide ((oa : Int) ≤ 1099511627776) = false := by rw [decide_eq_false_iff_not]; omega
              have hc5 := pa.out.count gr.out
              rw [hrm.out] at hc5
              have hcmp : decide (r < c) = false := by rw [decide_eq_false_iff_not]; omega
              clear hoa hc5
              go_wp2_with fail
              refine (held_any p M c s wa pa.out).mono ?_
              rintro e w5 ⟨rfl, rfl⟩
              go_wp2
              go_roundw
              case measure => simp [intOf]; omega
              case rel => exact ⟨k + 1, c, s, by omega, by go_num, mta.out, pa.out, gr.out, hrm.out, hkn.out⟩
        · obtain rfl : k = n := by omega
          have hd : decide ((k : Int) < (k : Int)) = false := by simp
          go_wp2
          go_ret
          exact ⟨rfl, mr.below (Nat.le_refl _) (by omega)⟩
    · go_wp2_with fail
      refine (alive_any _).mono ?_
      rintro e w3 ⟨m3, rfl⟩
      go_wp2
      go_ret
      exact ⟨rfl, (mt.trans m3).below (Nat.le_refl _) (fun i h => h.elim)⟩
  · have t1 : decide ((300 : Int) < (n : Int)) = true := by rw [decide_eq_true_iff]; omega
    clear hl hg
    go_enter Try.func6, Try.ntmps6
    go_wp2_with fail
    refine (alive_any _).mono ?_
    rintro e w1 ⟨m1, rfl⟩
    go_wp2_with fail
    refine (alive_any _).mono ?_
    rintro e w3 ⟨m3, rfl⟩
    go_wp2
    go_ret
    exact ⟨rfl, (m1.trans m3).below (Nat.le_refl _) (fun i h => h.elim)⟩
end Go.Proofs.Ytcpphhdbboiadaa
