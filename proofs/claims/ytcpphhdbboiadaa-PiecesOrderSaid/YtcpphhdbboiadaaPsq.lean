/-
  The walk of PiecesSplit.
-/
import Derived.Test.YtcpphhdbboiadaaPsp
namespace Go.Proofs.Ytcpphhdbboiadaa
open Go Go.RowKit
set_option linter.unusedSimpArgs false
set_option linter.unusedVariables false

theorem put_any' (p M c : Nat) (s : PS) (a : Nat) (v : Value) (bs : List (BitVec 8)) (n : Nat) (hn : bs.length = n) (last : Bool) (w : World) (h : IsP w p M s c) (g : Good s) (hb : ByteAt w v bs) (hpb : ∀ ad n cap, v = .slice (some ad) n cap → n ≠ 0 → ad.block ≠ p ∧ ad.block ≠ M)
    (hl : n < 100000) (ha : a < 100000) (he : putE s a n last = 0) :
    Calls Try.prog 9 #[.pointer (some ⟨p, 0, none⟩), .int .u64 (a : Int), v, .bool last] w fun e w' => e = .returned (.int .i64 0) ∧ Mod (fun k => k = p ∨ k = M) w w' ∧ ∃ c', IsP w' p M (putS s a bs last) c' := by
  refine (put_good p M c s a v bs last w h g hb hpb (by omega) (by unfold two64; omega)).mono ?_
  rintro e w' ⟨rfl, m, c', _, hp⟩
  exact ⟨by rw [hn, he]; rfl, m, c', hp⟩
/-- Bytes, cut somewhere. -/
theorem ByteAt.head {w : World} {ad : Option Addr} {n cap k : Nat} {bs : List (BitVec 8)} (h : ByteAt w (.slice ad n cap) bs) (hk : k ≤ bs.length) : ByteAt w (.slice ad k cap) (bs.take k) := h.take hk

set_option maxRecDepth 100000 in
set_option maxHeartbeats 2000000 in
theorem split_walk (vb : Value) (b : List (BitVec 8)) (A N T : Nat) (last : Bool) (w : World) (hb : ByteAt w vb b) (lb : b.length < 9223372036854775808) (hA : A < 65536) (hN : N < 65536) (hT : T < 256) :
    Calls Try.prog 4 #[vb, .agg #[.int .u16 (A : Int), .int .u16 (N : Int), .int .u8 (T : Int)], .bool last] w fun e w' => e = .returned (.bool true) ∧ Below w.heap.size w w' := by
  obtain ⟨ad, cap, hv, hbe⟩ := hb.slice
  obtain ⟨n, en⟩ : ∃ n, b.length = n := ⟨_, rfl⟩
  rw [en] at hv hbe lb
  subst hv
  have hw0 : ∀ w1, w1 = w.alloc (.cells #[.int .u16 (A : Int), .int .u16 (N : Int), .int .u8 (T : Int)] 36) → Mod (fun _ => False) w w1 ∧ w1.heap[w.heap.size]? = some (.cells #[.int .u16 (A : Int), .int .u16 (N : Int), .int .u8 (T : Int)] 36 (0,0)) := by
    rintro w1 rfl
    exact ⟨(Mod.refl _ w).alloc _, hp_new _ _ _ rfl⟩
  replace hw0 := Lib.hid hw0
  replace hb := Lib.hid hb
  replace hbe := Lib.hid hbe
  replace en := Lib.hid en
  by_cases hg : n ≤ 1000
  · have t1 : decide ((1000 : Int) < (n : Int)) = false := by rw [decide_eq_false_iff_not]; omega
    have bn : (n : Int) ≤ 1000 := by omega
    have bn0 : (0 : Int) ≤ (n : Int) := by omega
    have bA : (A : Int) < 65536 := by omega
    have bA0 : (0 : Int) ≤ (A : Int) := by omega
    have bN : (N : Int) < 65536 := by omega
    have bN0 : (0 : Int) ≤ (N : Int) := by omega
    have bT : (T : Int) < 256 := by omega
    have bT0 : (0 : Int) ≤ (T : Int) := by omega
    clear lb hA hN hT
    have hnew : ∀ w, Calls Try.prog 8 #[.int .i64 3000] w fun e w' => Mod (fun _ => False) w w' ∧ ∃ p M, w.heap.size ≤ p ∧ w.heap.size ≤ M ∧ e = .returned (.tuple #[.pointer (some ⟨p, 0, none⟩), .int .i64 0]) ∧ IsP w' p M sp0 0 := fun w => new_ok 3000 (by omega) w
    replace hnew := Lib.hid hnew
    go_enter Try.func4, Try.ntmps4
    go_wp2_with fail
    refine calls_world fun w1 hw1 => ?_
    obtain ⟨m1, r1⟩ := hw0.out w1 hw1
    clear hw1 hw0
    refine (alive_any _).mono ?_
    rintro e w2 ⟨m2, rfl⟩
    have r2 := m2.heap r1 (fun h => h)
    have mt := m1.trans m2
    have hs := lt_of_heap r2
    clear m1 m2 r1
    have c0 : w2.cell? ⟨w.heap.size, 0, none⟩ = some (.int .u16 (A : Int)) := by rw [cell_of_row _ _ _ _ _ _ r2]; rfl
    have c1 : w2.cell? ⟨w.heap.size, 1, none⟩ = some (.int .u16 (N : Int)) := by rw [cell_of_row _ _ _ _ _ _ r2]; rfl
    replace r2 := Lib.hid r2
    go_wp2_with fail
    have ea : ((A : Int) % 1000) = ((A % 1000 : Nat) : Int) := by omega
    have ek : ((N : Int) % ((n : Int) + 1)) = ((N % (n + 1) : Nat) : Int) := by rw [Int.natCast_emod]; rfl
    rw [ea, ek]
    have ha : A % 1000 < 1000 := Nat.mod_lt _ (by omega)
    have hk : N % (n + 1) ≤ n := by have := Nat.mod_lt N (show 0 < n + 1 by omega); omega
    generalize A % 1000 = a at *
    generalize N % (n + 1) = k at *
    clear ea ek c0 c1
    refine (hnew.out _).mono ?_
    rintro e w3 ⟨m3, p, M, hp, hM, rfl, p3⟩
    have hs3 := p3.lt
    go_wp2_with fail
    refine (hnew.out _).mono ?_
    rintro e w4 ⟨m4, q, L, hq, hL, rfl, q4⟩
    have p4 := p3.mod m4 (fun h => h) (fun h => h)
    have hs4 := q4.lt
    have r4 := m4.heap (m3.heap r2.out (fun h => h)) (fun h => h)
    have mt4 : Mod (fun i => i = p ∨ i = M ∨ i = q ∨ i = L) w w4 := (mt.trans (m3.trans m4)).mono (fun _ _ h => h.elim)
    clear p3 m3 m4 mt r2 hnew
    have lb' : b.length ≤ 1000 := by rw [en.out]; exact hg
    obtain ⟨e1, mdP⟩ := mid_p a b last ha lb'
    rw [en.out] at e1
    obtain ⟨eA1, eA2, mdA⟩ := mid_a a k b last ha lb' (by rw [en.out]; exact hk)
    obtain ⟨eB1, eB2, mdB⟩ := mid_b a k b last ha lb' (by rw [en.out]; exact hk)
    rw [en.out] at eA2 eB1
    obtain ⟨vt, bt, et⟩ := hb.out.cutTo k hk
    obtain ⟨vf, bf, ef⟩ := hb.out.cutFrom k hk
    have lt : (b.take k).length = k := by rw [List.length_take, en.out]; omega
    have ld : (b.drop k).length = n - k := by rw [List.length_drop, en.out]
    have gA : Good (putS sp0 a (b.take k) false) := sp0_good.put _ _ _
    have gB : Good (putS sp0 (a + k) (b.drop k) last) := sp0_good.put _ _ _
    have ba : (a : Int) < 1000 := by omega
    have ba0 : (0 : Int) ≤ (a : Int) := by omega
    have bk : (k : Int) ≤ (n : Int) := by omega
    have bk0 : (0 : Int) ≤ (k : Int) := by omega
    have hsum : ((a : Int) + (k : Int)) = ((a + k : Nat) : Int) := (Int.natCast_add a k).symm
    obtain ⟨Z, eZ⟩ : ∃ Z : List (BitVec 8), Z = List.replicate a 0 := ⟨_, rfl⟩
    have lZ : Z.length = a := by rw [eZ, List.length_replicate]
    have hmk : ∀ w, (Instr.makeSlice 22 (.int .u64 (a : Int)) (.int .u64 (a : Int))).run Try.prog w = .ok (.slice (some ⟨w.heap.size, 0, none⟩) a a) (w.alloc (.cells (encB Z) 5)) := fun w => by
      rw [eZ, ← made_bytes]
      exact run_make_row' (P := Try.prog) 22 5 (.int .u8 0) 1 Try.underlying22 (by kernel_rfl) rfl .u64 .u64 a (by omega) (by omega) w
    have zP := mid_z mdP ha lb'
    have zA := mid_z mdA ha lb'
    have zB := mid_z mdB ha lb'
    rw [en.out] at zP zA zB
    simp only [← eZ] at zP zA zB
    have aP := apart_of_lt hb.out (p := p) (M := M) (by omega) (by omega)
    have aT := apart_of_lt bt (p := q) (M := L) (by omega) (by omega)
    have aF := apart_of_lt bf (p := q) (M := L) (by omega) (by omega)
    have hd : p ≠ q ∧ p ≠ L ∧ M ≠ q ∧ M ≠ L := by omega
    have lW : (Z ++ b).length = a + n := by rw [List.length_append, lZ, en.out]
    replace e1 := Lib.hid e1
    replace mdP := Lib.hid mdP
    replace eA1 := Lib.hid eA1
    replace eA2 := Lib.hid eA2
    replace mdA := Lib.hid mdA
    replace eB1 := Lib.hid eB1
    replace eB2 := Lib.hid eB2
    replace mdB := Lib.hid mdB
    replace bt := Lib.hid bt
    replace bf := Lib.hid bf
    replace lt := Lib.hid lt
    replace ld := Lib.hid ld
    replace hsum := Lib.hid hsum
    replace eZ := Lib.hid eZ
    replace lZ := Lib.hid lZ
    replace zP := Lib.hid zP
    replace zA := Lib.hid zA
    replace zB := Lib.hid zB
    replace aP := Lib.hid aP
    replace aT := Lib.hid aT
    replace aF := Lib.hid aF
    replace hd := Lib.hid hd
    replace lb' := Lib.hid lb'
    replace r4 := Lib.hid r4
    replace lW := Lib.hid lW
    go_wp2_with fail
    refine (put_any' p M _ sp0 a _ b n en.out last w4 p4 sp0_good (hb.out.mod mt4 (by omega)) aP.out (by omega) (by omega) e1.out).mono ?_
    rintro e w5 ⟨rfl, m5, c5, p5⟩
    have mt5 := mt4.trans (m5.mono (S' := fun i => i = p ∨ i = M ∨ i = q ∨ i = L) (fun i _ h => by omega))
    have q5 := q4.mod m5 (by have := hd.out; omega) (by have := hd.out; omega)
    have r5 := m5.heap r4.out (by omega)
    have c2 : w5.cell? ⟨w.heap.size, 2, none⟩ = some (.int .u8 (T : Int)) := by rw [cell_of_row _ _ _ _ _ _ r5]; rfl
    generalize putS sp0 a b last = sP at *
    clear m5 mt4 p4 q4 r4 r5
    by_cases hT2 : T % 2 = 0
    · have ht : ((T : Int) % 2 == 0) = true := by simp; omega
      clear hT2
      go_wp2_with fail
      refine (put_any' q L _ sp0 a _ (b.take k) k lt.out false w5 q5 sp0_good (bt.out.mod mt5 (by omega)) aT.out (by omega) (by omega) eA1.out).mono ?_
      rintro e w6 ⟨rfl, m6, c6, q6⟩
      have mt6 := mt5.trans (m6.mono (S' := fun i => i = p ∨ i = M ∨ i = q ∨ i = L) (fun i _ h => by omega))
      have p6 := p5.mod m6 (by have := hd.out; omega) (by have := hd.out; omega)
      clear m6 mt5 p5 q5 c2
      generalize putS sp0 a (b.take k) false = s1 at *
      go_wp2_with fail
      rw [hsum.out]
      refine (put_any' q L _ s1 (a + k) _ (b.drop k) (n - k) ld.out last w6 q6 gA (bf.out.mod mt6 (by omega)) aF.out (by omega) (by omega) eA2.out).mono ?_
      rintro e w7 ⟨rfl, m7, c7, q7⟩
      have mt7 := mt6.trans (m7.mono (S' := fun i => i = p ∨ i = M ∨ i = q ∨ i = L) (fun i _ h => by omega))
      have p7 := p6.mod m7 (by have := hd.out; omega) (by have := hd.out; omega)
      clear m7 mt6 p6 q6
      generalize putS s1 (a + k) (b.drop k) last = s2 at *
      go_wp2_with fail
      refine calls_world fun wa hwa => ?_
      have ma : Mod (fun _ => False) w7 wa := by rw [hwa]; exact (Mod.refl _ _).alloc _
      have ba : ByteAt wa (.slice (some ⟨w7.heap.size, 0, none⟩) a a) Z := by
        have := byteAt_lit Z (show wa.heap[w7.heap.size]? = _ by rw [hwa]; exact hp_new _ _ _ rfl)
        rw [lZ.out] at this
        exact this
      have hsa := p7.lt
      have hsb := q7.lt
      clear hwa
      refine (put_any' p M _ sP 0 _ Z a lZ.out false wa (p7.mod ma (fun h => h) (fun h => h)) mdP.out.good ba (by rintro ad n cap h _; injection h with h; injection h with h; subst h; exact ⟨by simp only; omega, by simp only; omega⟩) (by omega) (by omega) zP.out.1).mono ?_
      rintro e w8 ⟨rfl, m8, c8, p8⟩
      have mt8 := mt7.trans ((ma.mono (S' := fun i => i = p ∨ i = M ∨ i = q ∨ i = L) (fun _ _ h => h.elim)).trans (m8.mono (fun i _ h => by omega)))
      have q8 := (q7.mod ma (fun h => h) (fun h => h)).mod m8 (by have := hd.out; omega) (by have := hd.out; omega)
      clear ma m8 ba p7 q7 mt7
      go_wp2_with fail
      refine calls_world fun wa hwa => ?_
      have ma : Mod (fun _ => False) w8 wa := by rw [hwa]; exact (Mod.refl _ _).alloc _
      have ba : ByteAt wa (.slice (some ⟨w8.heap.size, 0, none⟩) a a) Z := by
        have := byteAt_lit Z (show wa.heap[w8.heap.size]? = _ by rw [hwa]; exact hp_new _ _ _ rfl)
        rw [lZ.out] at this
        exact this
      have hsa8 := p8.lt
      have hsb8 := q8.lt
      clear hwa
      refine (put_any' q L _ s2 0 _ Z a lZ.out false wa (q8.mod ma (fun h => h) (fun h => h)) mdA.out.good ba (by rintro ad n cap h _; injection h with h; injection h with h; subst h; exact ⟨by simp only; omega, by simp only; omega⟩) (by omega) (by omega) zA.out.1).mono ?_
      rintro e w9 ⟨rfl, m9, c9, q9⟩
      have mt9 := mt8.trans ((ma.mono (S' := fun i => i = p ∨ i = M ∨ i = q ∨ i = L) (fun _ _ h => h.elim)).trans (m9.mono (fun i _ h => by omega)))
      have p9 := (p8.mod ma (fun h => h) (fun h => h)).mod m9 (by have := hd.out; omega) (by have := hd.out; omega)
      clear ma m9 ba p8 q8 mt8 hsa hsb hsa8 hsb8
      obtain ⟨_, gp, rp, fp, kp⟩ := zP.out
      obtain ⟨_, gq, rq, fq, kq⟩ := zA.out
      generalize putS sP 0 Z false = SP at *
      generalize putS s2 0 Z false = SQ at *
      replace rp := Lib.hid rp
      replace fp := Lib.hid fp
      replace kp := Lib.hid kp
      replace rq := Lib.hid rq
      replace fq := Lib.hid fq
      replace kq := Lib.hid kq
      have hsp := p9.lt
      have hsq := q9.lt
      go_wp2_with fail
      refine (take_good p M _ 3000 SP _ p9 gp (by omega)).mono ?_
      rintro e w10 ⟨i, vc, cc, h1, h2, h3, _, rfl, m10, _, o10⟩
      obtain ⟨hi, ho⟩ := list_out rp.out fp.out (by rw [lW.out]; omega) h1 h2 h3
      rw [ho] at o10
      rw [rp.out, hi, lW.out, kp.out]
      rw [hi, lW.out] at o10
      have bx := byteAt_of_own o10
      obtain ⟨cd, ccap, hvc, _⟩ := bx.slice
      rw [lW.out] at hvc
      subst hvc
      have q10 := q9.mod m10 (by have := hd.out; omega) (by have := hd.out; omega)
      have mt10 := mt9.trans (m10.mono (S' := fun i => i = p ∨ i = M ∨ i = q ∨ i = L) (fun i _ h => by omega))
      clear h1 h2 h3 hi ho p9 q9 mt9 m10
      have bx0 := o10
      replace bx := Lib.hid bx
      replace bx0 := Lib.hid bx0
      replace o10 := True.intro
      go_wp2_with fail
      refine (take_good q L _ 3000 SQ _ q10 gq (by omega)).mono ?_
      rintro e w11 ⟨i, vd, cc', h1, h2, h3, _, rfl, m11, _, o11⟩
      obtain ⟨hi, ho⟩ := list_out rq.out fq.out (by rw [lW.out]; omega) h1 h2 h3
      rw [ho] at o11
      rw [rq.out, hi, lW.out, kq.out]
      have by' := byteAt_of_own o11
      have bx' := byteAt_of_own (ownsRow_mod bx0.out m11 (by omega))
      have mt11 := mt10.trans (m11.mono (S' := fun i => i = p ∨ i = M ∨ i = q ∨ i = L) (fun i _ h => by omega))
      clear h1 h2 h3 hi ho q10 mt10 m11 o11 bx bx0
      cases last
      all_goals
        go_wp2_with fail
        refine (same_true _ _ (Z ++ b) _ bx' by' (by rw [lW.out]; omega)).mono ?_
        rintro e w12 ⟨m12, rfl⟩
        go_wp2
        go_ret
        exact ⟨rfl, ((mt11.mono (S' := fun _ => False) (fun i hi h => by omega)).trans m12).below (Nat.le_refl _) (fun i h => h.elim)⟩
    · have ht : ((T : Int) % 2 == 0) = false := by simp; omega
      clear hT2
      go_wp2_with fail
      rw [hsum.out]
      refine (put_any' q L _ sp0 (a + k) _ (b.drop k) (n - k) ld.out last w5 q5 sp0_good (bf.out.mod mt5 (by omega)) aF.out (by omega) (by omega) eB1.out).mono ?_
      rintro e w6 ⟨rfl, m6, c6, q6⟩
      have mt6 := mt5.trans (m6.mono (S' := fun i => i = p ∨ i = M ∨ i = q ∨ i = L) (fun i _ h => by omega))
      have p6 := p5.mod m6 (by have := hd.out; omega) (by have := hd.out; omega)
      clear m6 mt5 p5 q5 c2
      generalize putS sp0 (a + k) (b.drop k) last = s1 at *
      go_wp2_with fail
      refine (put_any' q L _ s1 a _ (b.take k) k lt.out false w6 q6 gB (bt.out.mod mt6 (by omega)) aT.out (by omega) (by omega) eB2.out).mono ?_
      rintro e w7 ⟨rfl, m7, c7, q7⟩
      have mt7 := mt6.trans (m7.mono (S' := fun i => i = p ∨ i = M ∨ i = q ∨ i = L) (fun i _ h => by omega))
      have p7 := p6.mod m7 (by have := hd.out; omega) (by have := hd.out; omega)
      clear m7 mt6 p6 q6
      generalize putS s1 a (b.take k) false = s2 at *
      go_wp2_with fail
      refine calls_world fun wa hwa => ?_
      have ma : Mod (fun _ => False) w7 wa := by rw [hwa]; exact (Mod.refl _ _).alloc _
      have ba : ByteAt wa (.slice (some ⟨w7.heap.size, 0, none⟩) a a) Z := by
        have := byteAt_lit Z (show wa.heap[w7.heap.size]? = _ by rw [hwa]; exact hp_new _ _ _ rfl)
        rw [lZ.out] at this
        exact this
      have hsa := p7.lt
      have hsb := q7.lt
      clear hwa
      refine (put_any' p M _ sP 0 _ Z a lZ.out false wa (p7.mod ma (fun h => h) (fun h => h)) mdP.out.good ba (by rintro ad n cap h _; injection h with h; injection h with h; subst h; exact ⟨by simp only; omega, by simp only; omega⟩) (by omega) (by omega) zP.out.1).mono ?_
      rintro e w8 ⟨rfl, m8, c8, p8⟩
      have mt8 := mt7.trans ((ma.mono (S' := fun i => i = p ∨ i = M ∨ i = q ∨ i = L) (fun _ _ h => h.elim)).trans (m8.mono (fun i _ h => by omega)))
      have q8 := (q7.mod ma (fun h => h) (fun h => h)).mod m8 (by have := hd.out; omega) (by have := hd.out; omega)
      clear ma m8 ba p7 q7 mt7
      go_wp2_with fail
      refine calls_world fun wa hwa => ?_
      have ma : Mod (fun _ => False) w8 wa := by rw [hwa]; exact (Mod.refl _ _).alloc _
      have ba : ByteAt wa (.slice (some ⟨w8.heap.size, 0, none⟩) a a) Z := by
        have := byteAt_lit Z (show wa.heap[w8.heap.size]? = _ by rw [hwa]; exact hp_new _ _ _ rfl)
        rw [lZ.out] at this
        exact this
      have hsa8 := p8.lt
      have hsb8 := q8.lt
      clear hwa
      refine (put_any' q L _ s2 0 _ Z a lZ.out false wa (q8.mod ma (fun h => h) (fun h => h)) mdB.out.good ba (by rintro ad n cap h _; injection h with h; injection h with h; subst h; exact ⟨by simp only; omega, by simp only; omega⟩) (by omega) (by omega) zB.out.1).mono ?_
      rintro e w9 ⟨rfl, m9, c9, q9⟩
      have mt9 := mt8.trans ((ma.mono (S' := fun i => i = p ∨ i = M ∨ i = q ∨ i = L) (fun _ _ h => h.elim)).trans (m9.mono (fun i _ h => by omega)))
      have p9 := (p8.mod ma (fun h => h) (fun h => h)).mod m9 (by have := hd.out; omega) (by have := hd.out; omega)
      clear ma m9 ba p8 q8 mt8 hsa hsb hsa8 hsb8
      obtain ⟨_, gp, rp, fp, kp⟩ := zP.out
      obtain ⟨_, gq, rq, fq, kq⟩ := zB.out
      generalize putS sP 0 Z false = SP at *
      generalize putS s2 0 Z false = SQ at *
      replace rp := Lib.hid rp
      replace fp := Lib.hid fp
      replace kp := Lib.hid kp
      replace rq := Lib.hid rq
      replace fq := Lib.hid fq
      replace kq := Lib.hid kq
      have hsp := p9.lt
      have hsq := q9.lt
      go_wp2_with fail
      refine (take_good p M _ 3000 SP _ p9 gp (by omega)).mono ?_
      rintro e w10 ⟨i, vc, cc, h1, h2, h3, _, rfl, m10, _, o10⟩
      obtain ⟨hi, ho⟩ := list_out rp.out fp.out (by rw [lW.out]; omega) h1 h2 h3
      rw [ho] at o10
      rw [rp.out, hi, lW.out, kp.out]
      rw [hi, lW.out] at o10
      have bx := byteAt_of_own o10
      obtain ⟨cd, ccap, hvc, _⟩ := bx.slice
      rw [lW.out] at hvc
      subst hvc
      have q10 := q9.mod m10 (by have := hd.out; omega) (by have := hd.out; omega)
      have mt10 := mt9.trans (m10.mono (S' := fun i => i = p ∨ i = M ∨ i = q ∨ i = L) (fun i _ h => by omega))
      clear h1 h2 h3 hi ho p9 q9 mt9 m10
      have bx0 := o10
      replace bx := Lib.hid bx
      replace bx0 := Lib.hid bx0
      replace o10 := True.intro
      go_wp2_with fail
      refine (take_good q L _ 3000 SQ _ q10 gq (by omega)).mono ?_
      rintro e w11 ⟨i, vd, cc', h1, h2, h3, _, rfl, m11, _, o11⟩
      obtain ⟨hi, ho⟩ := list_out rq.out fq.out (by rw [lW.out]; omega) h1 h2 h3
      rw [ho] at o11
      rw [rq.out, hi, lW.out, kq.out]
      have by' := byteAt_of_own o11
      have bx' := byteAt_of_own (ownsRow_mod bx0.out m11 (by omega))
      have mt11 := mt10.trans (m11.mono (S' := fun i => i = p ∨ i = M ∨ i = q ∨ i = L) (fun i _ h => by omega))
      clear h1 h2 h3 hi ho q10 mt10 m11 o11 bx bx0
      cases last
      all_goals
        go_wp2_with fail
        refine (same_true _ _ (Z ++ b) _ bx' by' (by rw [lW.out]; omega)).mono ?_
        rintro e w12 ⟨m12, rfl⟩
        go_wp2
        go_ret
        exact ⟨rfl, ((mt11.mono (S' := fun _ => False) (fun i hi h => by omega)).trans m12).below (Nat.le_refl _) (fun i h => h.elim)⟩
  · have t1 : decide ((1000 : Int) < (n : Int)) = true := by rw [decide_eq_true_iff]; omega
    clear lb hA hN hT hg
    go_enter Try.func4, Try.ntmps4
    go_wp2_with fail
    refine calls_world fun w1 hw1 => ?_
    obtain ⟨m1, r1⟩ := hw0.out w1 hw1
    clear hw1 hw0 r1
    refine (alive_any _).mono ?_
    rintro e w2 ⟨m2, rfl⟩
    go_wp2_with fail
    refine (alive_any _).mono ?_
    rintro e w3 ⟨m3, rfl⟩
    go_wp2
    go_ret
    exact ⟨rfl, (m1.trans (m2.trans m3)).below (Nat.le_refl _) (fun i h => h.elim)⟩
end Go.Proofs.Ytcpphhdbboiadaa
