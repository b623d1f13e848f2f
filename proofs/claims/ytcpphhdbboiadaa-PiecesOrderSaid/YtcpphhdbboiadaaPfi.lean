/-
  The walk of PiecesFirst.
-/
import Derived.OwnWalk
import Derived.Outline
import Derived.Test.YtcpphhdbboiadaaApp
import Derived.Test.YtcpphhdbboiadaaPal
namespace Go.Proofs.Ytcpphhdbboiadaa
open Go Go.RowKit
set_option linter.unusedSimpArgs false
set_option linter.unusedVariables false

/-- What is wanted of PiecesFirst. -/
def firstW (a b : List (BitVec 8)) (k : Nat) : List (BitVec 8) := if a.length < k + b.length then a ++ b.drop (a.length - k) else a
def firstS (a b : List (BitVec 8)) (k : Nat) : PS := putS (putS ⟨3000, 0, 0, 0, false, fun _ => none⟩ 0 a false) k b false
theorem first_e1 (a : List (BitVec 8)) (ha : a.length ≤ 1000) : putE ⟨3000, 0, 0, 0, false, fun _ => none⟩ 0 a.length false = 0 := by
  unfold putE
  rw [if_neg (by omega), if_neg (by simp), if_neg (by simp; omega)]
theorem first_s1 (a : List (BitVec 8)) (ha : a.length ≤ 1000) : putS ⟨3000, 0, 0, 0, false, fun _ => none⟩ 0 a false = ⟨3000, 0, a.length, 0, false, fun k => a[k]?⟩ := by
  unfold putS
  rw [if_pos (first_e1 a ha)]
  simp only [Nat.zero_add, Bool.false_eq_true, if_false, Bool.or_self, PS.mk.injEq, true_and]
  refine ⟨by omega, ?_⟩
  funext k
  unfold putH
  simp
theorem first_e2 (a b : List (BitVec 8)) (k : Nat) (ha : a.length ≤ 1000) (hb : b.length ≤ 1000) (hk : k < a.length) : putE (putS ⟨3000, 0, 0, 0, false, fun _ => none⟩ 0 a false) k b.length false = 0 := by
  rw [first_s1 a ha]
  unfold putE
  rw [if_neg (by omega), if_neg (by simp), if_neg (by simp; omega)]
theorem first_f (a b : List (BitVec 8)) (k : Nat) (ha : a.length ≤ 1000) (hb : b.length ≤ 1000) (hk : k < a.length) : (firstS a b k).read = 0 ∧ (firstS a b k).f = fun j => if j < a.length then a[j]? else if k ≤ j then b[j - k]? else none := by
  unfold firstS
  rw [first_s1 a ha]
  unfold putS
  rw [if_pos (by have := first_e2 a b k ha hb hk; rw [first_s1 a ha] at this; exact this)]
  refine ⟨rfl, ?_⟩
  funext j
  simp only [putH, Nat.zero_le, true_and]
  by_cases h : j < a.length
  · rw [if_pos h, if_pos (by simp [h])]
  · rw [if_neg h, if_neg (by simp; omega)]
theorem firstW_length (a b : List (BitVec 8)) (k : Nat) (hk : k < a.length) : (firstW a b k).length = max a.length (k + b.length) := by
  unfold firstW
  split
  · rw [List.length_append, List.length_drop]
    omega
  · omega
theorem first_get (a b : List (BitVec 8)) (k j : Nat) (ha : a.length ≤ 1000) (hb : b.length ≤ 1000) (hk : k < a.length) : (firstS a b k).f j = (firstW a b k)[j]? := by
  rw [(first_f a b k ha hb hk).2]
  unfold firstW
  by_cases h : j < a.length
  · simp only [h, if_true]
    split
    · rw [List.getElem?_append_left h]
    · rfl
  · simp only [h, if_false]
    rw [if_pos (show k ≤ j by omega)]
    split
    · rename_i h2
      rw [List.getElem?_append_right (by omega), List.getElem?_drop]
      congr 1
      omega
    · rename_i h2
      rw [List.getElem?_eq_none (by omega), List.getElem?_eq_none (by omega)]
theorem first_out (a b : List (BitVec 8)) (k i : Nat) (ha : a.length ≤ 1000) (hb : b.length ≤ 1000) (hk : k < a.length) (hi : i ≤ 3000)
    (h1 : ∀ j, j < i → ((firstS a b k).f ((firstS a b k).read + j)).isSome = true) (h2 : i = 3000 ∨ (firstS a b k).f ((firstS a b k).read + i) = none) : outL (firstS a b k).f (firstS a b k).read i = firstW a b k := by
  have h0 := (first_f a b k ha hb hk).1
  have hl := firstW_length a b k hk
  rw [h0] at h1 h2 ⊢
  simp only [first_get a b k _ ha hb hk, Nat.zero_add] at h1 h2
  have e : i = (firstW a b k).length := by
    refine run_uniq (f := fun j => (firstW a b k)[j]?) (r := 0) hi (fun j hj => by simpa using h1 j hj) (by simpa using h2) (by omega) (fun j hj => by simp [hj]) (.inr (by simp))
  subst e
  apply List.ext_getElem?
  intro j
  unfold outL
  rw [List.getElem?_map]
  by_cases hj : j < (firstW a b k).length
  · rw [List.getElem?_range hj, Option.map_some, Nat.zero_add, first_get a b k _ ha hb hk, List.getElem?_eq_getElem hj]
    rfl
  · rw [List.getElem?_eq_none (by simpa using hj), List.getElem?_eq_none (by omega)]
    rfl

set_option maxRecDepth 100000 in
set_option maxHeartbeats 1000000 in
theorem first_walk (va vb : Value) (a b : List (BitVec 8)) (t : Nat) (w : World) (ha : ByteAt w va a) (hb : ByteAt w vb b) (la : a.length < 9223372036854775808) (lb : b.length < 9223372036854775808) (ht : t < 65536) :
    Calls Try.prog 3 #[va, vb, .int .u16 (t : Int)] w fun e w' => e = .returned (.bool true) ∧ Below w.heap.size w w' := by
  obtain ⟨ad, cap, hva, hae⟩ := ha.slice
  obtain ⟨bd, bcap, hvb, hbe⟩ := hb.slice
  obtain ⟨n, en⟩ : ∃ n, a.length = n := ⟨_, rfl⟩
  obtain ⟨m, em⟩ : ∃ m, b.length = m := ⟨_, rfl⟩
  rw [en] at hva hae la
  rw [em] at hvb hbe lb
  subst hva hvb
  have ba := fun w' (h : Mod (fun _ => False) w w') => ha.mod h (fun _ _ h => h)
  have bb := fun w' (h : Mod (fun _ => False) w w') => hb.mod h (fun _ _ h => h)
  replace ba := Lib.hid ba
  replace bb := Lib.hid bb
  replace ha := Lib.hid ha
  replace hb := Lib.hid hb
  replace hae := Lib.hid hae
  replace hbe := Lib.hid hbe
  replace en := Lib.hid en
  replace em := Lib.hid em
  by_cases hg : n ≤ 1000 ∧ m ≤ 1000 ∧ n ≠ 0
  · obtain ⟨h1, h2, h3⟩ := hg
    have t1 : decide ((1000 : Int) < (n : Int)) = false := by rw [decide_eq_false_iff_not]; omega
    have t2 : decide ((1000 : Int) < (m : Int)) = false := by rw [decide_eq_false_iff_not]; omega
    have t3 : ((n : Int) == 0) = false := by simp; omega
    have hn0 : 0 < n := by omega
    have bt : (t : Int) < 65536 := by omega
    have bt0 : (0 : Int) ≤ (t : Int) := by omega
    have bn : (n : Int) ≤ 1000 := by omega
    have bm : (m : Int) ≤ 1000 := by omega
    have bm0 : (0 : Int) ≤ (m : Int) := by omega
    clear h1 h2 h3 la lb ht
    have hnew : ∀ w, Calls Try.prog 8 #[.int .i64 3000] w fun e w' => Mod (fun _ => False) w w' ∧ ∃ p M, w.heap.size ≤ p ∧ w.heap.size ≤ M ∧ e = .returned (.tuple #[.pointer (some ⟨p, 0, none⟩), .int .i64 0]) ∧ IsP w' p M ⟨3000, 0, 0, 0, false, fun _ => none⟩ 0 := fun w => new_ok 3000 (by omega) w
    replace hnew := Lib.hid hnew
    go_enter Try.func3, Try.ntmps3
    go_wp2_with fail
    refine (alive_any _).mono ?_
    rintro e w1 ⟨m1, rfl⟩
    go_wp2_with fail
    refine (hnew.out _).mono ?_
    rintro e w2 ⟨m2, p, M, hp, hM, rfl, p2⟩
    have m02 := m1.trans m2
    have hs1 := m1.size
    clear m1 m2
    go_wp2_with fail
    have ek : ((t : Int) % (n : Int)) = ((t % n : Nat) : Int) := (Int.natCast_emod t n).symm
    rw [ek]
    have hkn : t % n < n := Nat.mod_lt _ hn0
    generalize t % n = k at *
    clear ek
    have bk : (k : Int) < 1000 := by omega
    have bk0 : (0 : Int) ≤ (k : Int) := by omega
    have hf1 := ba.out _ m02
    have g0 : Good ⟨3000, 0, 0, 0, false, fun _ => none⟩ := Good.new (by omega)
    have pm1 := apart_of_lt ha.out (p := p) (M := M) (by omega) (by omega)
    have pm2 := apart_of_lt hb.out (p := p) (M := M) (by omega) (by omega)
    have la : a.length ≤ 1000 := by rw [en.out]; omega
    have lb : b.length ≤ 1000 := by rw [em.out]; omega
    have hkl : k < a.length := by rw [en.out]; exact hkn
    have e1 := first_e1 a la
    have e2 := first_e2 a b k la lb hkl
    have hout := fun i => first_out a b k i la lb hkl
    have g1 := g0.put 0 a false
    have g2 : Good (firstS a b k) := g1.put k b false
    have hs2 : firstS a b k = putS (putS ⟨3000, 0, 0, 0, false, fun _ => none⟩ 0 a false) k b false := rfl
    replace e1 := Lib.hid e1
    replace e2 := Lib.hid e2
    replace hout := Lib.hid hout
    replace hs2 := Lib.hid hs2
    replace pm1 := Lib.hid pm1
    replace pm2 := Lib.hid pm2
    replace la := Lib.hid la
    replace lb := Lib.hid lb
    replace hkl := Lib.hid hkl
    refine (put_good p M _ _ 0 _ a false w2 p2 g0 hf1 pm1.out (by rw [en.out]; omega) (by unfold two64; omega)).mono ?_
    rintro e w3 ⟨rfl, m3, c3, _, p3⟩
    rw [e1.out]
    have m03 := (m02.mono (S' := fun k => k = p ∨ k = M) (fun _ _ h => h.elim)).trans m3
    have hb3 := hb.out.mod m03 (by omega)
    clear p2 m3 m02 hf1 g0
    generalize putS ⟨3000, 0, 0, 0, false, fun _ => none⟩ 0 a false = s1 at *
    go_wp2_with fail
    refine (put_good p M _ s1 k _ b false w3 p3 g1 hb3 pm2.out (by rw [em.out]; omega) (by unfold two64; omega)).mono ?_
    rintro e w4 ⟨rfl, m4, c4, _, p4⟩
    rw [e2.out]
    rw [← hs2.out] at p4
    have hfw : firstW a b k = if n < k + m then a ++ b.drop (n - k) else a := by unfold firstW; rw [en.out, em.out]
    have hwl : (firstW a b k).length ≤ 2000 := by rw [firstW_length a b k hkl.out]; have := la.out; have := lb.out; omega
    clear hs2 e1 e2
    generalize firstS a b k = s2 at *
    generalize firstW a b k = W at *
    have m04 := m03.trans m4
    have hp4 := p4.lt
    have hsz := m04.size
    clear m4 p3 hb3 m03 g1
    have ha4 := ha.out.mod m04 (by omega)
    have hb4 := hb.out.mod m04 (by omega)
    obtain ⟨g, off, rfl, _⟩ := hae.out 0 hn0
    obtain ⟨i0, hi, hi0, hi1, hi2⟩ := info_parts infoU8
    have hca := cells_byteAt ha4
    have la2 : (bytesV a).length = n * 1 := by unfold bytesV; rw [List.length_map, en.out, Nat.mul_one]
    have hfb : m = 0 ∨ ∃ gb ob, bd = some ⟨gb, ob, none⟩ := by
      by_cases h : m = 0
      · exact .inl h
      · obtain ⟨gb, ob, hb, _⟩ := hbe.out 0 (by omega)
        exact .inr ⟨gb, ob, hb⟩
    replace hi := Lib.hid hi
    replace hi0 := Lib.hid hi0
    replace hi1 := Lib.hid hi1
    replace hi2 := Lib.hid hi2
    replace la2 := Lib.hid la2
    replace hca := Lib.hid hca
    replace hfw := Lib.hid hfw
    replace hwl := Lib.hid hwl
    clear hae hbe pm1 pm2
    go_wp2_with (first | fail | (at_builtin; refine wpList_append_own _ rfl _ _ 22 rfl w4.heap.size 5 i0 (.int .u8 0) 1 1 Try.underlying22 hi.out hi0.out hi1.out hi2.out rfl (by decide) _ _ _ rfl (World.ownsRow_nil _ _ _ _) ⟨g, off, none⟩ n cap (bytesV a) rfl la2.out hca.out (bytesV_one a) (by unfold maxLen; omega) (by omega) (by omega) ?_))
    intro v5 w5 own5 grow5 _
    have m5 : Mod (fun _ => False) w4 w5 := (Mod.refl _ w4).grown grow5 (fun k hk _ => by simp [Value.ownBlock] at hk)
    replace p4 := p4.mod m5 (fun h => h) (fun h => h)
    replace hb4 := hb4.mod m5 (fun _ _ h => h)
    replace m04 := m04.trans (m5.mono (fun _ _ h => h.elim))
    have hs5 := m5.size
    clear m5 grow5 ha4
    by_cases hgt : n < k + m
    · obtain ⟨gb, ob, rfl⟩ : ∃ gb ob, bd = some ⟨gb, ob, none⟩ := by
        rcases hfb with h | h
        · omega
        · exact h
      have hmc : m ≤ bcap := by
        rcases hb4 with ⟨_, _, _, h⟩ | ⟨_, _, _, h1, h2, _⟩
        · have := em.out; rw [h] at this; simp at this; omega
        · injection h1 with _ _ h1; rw [em.out] at h2; omega
      obtain ⟨j, hj⟩ : ∃ j : Nat, (n : Int) - (k : Int) = (j : Int) := ⟨n - k, by omega⟩
      have hjm : j < m := by omega
      have hjn : j = n - k := by omega
      have hd := hb4.drop (m := j) (by rw [em.out]; exact hjm)
      rw [em.out] at hd
      have ld : (bytesV (b.drop j)).length = (m - j) * 1 := by unfold bytesV; rw [List.length_map, List.length_drop, em.out, Nat.mul_one]
      have hcd := cells_byteAt hd
      have b1 : (j : Int) ≤ (m : Int) := by omega
      have b2 : (0 : Int) ≤ (j : Int) := by omega
      have b3 : (j : Int) ≤ (bcap : Int) := by omega
      have b4 : (m : Int) ≤ (bcap : Int) := by omega
      have b5 : j < bcap := by omega
      have b6 : ¬ (bcap = j) := by omega
      have tg : decide ((n : Int) < (k : Int) + (m : Int)) = true := by rw [decide_eq_true_iff]; omega
      have hjm2 : m - j ≤ 1000 := by omega
      have hW : W = a ++ b.drop j := by rw [hfw.out, if_pos hgt, hjn]
      replace hW := Lib.hid hW
      replace hcd := Lib.hid hcd
      replace hd := Lib.hid hd
      replace ld := Lib.hid ld
      replace own5 := Lib.hid own5
      replace hjn := Lib.hid hjn
      clear hfw
      go_wp2_with (first | fail | (at_builtin; refine wpList_append_own _ rfl _ _ 22 rfl w4.heap.size 5 i0 (.int .u8 0) 1 1 Try.underlying22 hi.out hi0.out hi1.out hi2.out rfl (by decide) _ _ _ rfl own5.out ⟨gb, ob + j, none⟩ (m - j) (bcap - j) (bytesV (b.drop j)) rfl ld.out hcd.out (bytesV_one _) (by unfold maxLen; omega) (by omega) (by omega) ?_))
      intro v6 w6 own6 grow6 _
      have m6 : Mod (fun k => w4.heap.size ≤ k) w5 w6 := (Mod.refl _ w5).grown grow6 (fun k hk _ => (own5.out.lt k hk).1)
      replace p4 := p4.mod m6 (by omega) (by omega)
      replace m04 : Mod (fun _ => False) w w6 := (m04.mono (S' := fun _ => False) (fun i hi h => by omega)).trans' m6 (fun i hi h => by omega)
      have own6' : w6.ownsRow w4.heap.size 5 1 v6 (n + (m - j)) (bytesV W) := by
        rw [hW.out]
        unfold bytesV at own6 ⊢
        rw [List.map_append]
        exact own6
      clear own6 grow6 m6 hb4
      go_wp2_with fail
      refine (take_good p M _ 3000 s2 _ p4 g2 (by omega)).mono ?_
      rintro e w7 ⟨i, v7, c7, hi3, hall, hend, _, rfl, m7, p7, own7⟩
      rw [hout.out i hi3 hall hend] at own7
      have bw := byteAt_of_own (ownsRow_mod own6' m7 (by omega))
      have bx := byteAt_of_own own7
      replace m04 := m04.trans' m7 (S' := fun k => k = p ∨ k = M) (fun i hi h => by omega)
      clear own7 p7 m7 hi3 hall hend
      go_wp2_with fail
      refine (same_true _ _ W _ bx bw (by have := hwl.out; omega)).mono ?_
      rintro e w8 ⟨m8, rfl⟩
      go_wp2
      go_ret
      exact ⟨rfl, (m04.trans m8).below (Nat.le_refl _) (fun i h => h.elim)⟩
    · have tg : decide ((n : Int) < (k : Int) + (m : Int)) = false := by rw [decide_eq_false_iff_not]; omega
      have hW : W = a := by rw [hfw.out, if_neg hgt]
      replace m04 : Mod (fun _ => False) w w5 := m04.mono (fun i hi h => by omega)
      rw [← hW] at own5
      replace hW := Lib.hid hW
      clear hb4 hfw hfb
      go_wp2_with fail
      refine (take_good p M _ 3000 s2 _ p4 g2 (by omega)).mono ?_
      rintro e w7 ⟨i, v7, c7, hi3, hall, hend, _, rfl, m7, p7, own7⟩
      rw [hout.out i hi3 hall hend] at own7
      have bw := byteAt_of_own (ownsRow_mod own5 m7 (by omega))
      have bx := byteAt_of_own own7
      replace m04 := m04.trans' m7 (S' := fun k => k = p ∨ k = M) (fun i hi h => by omega)
      clear own7 p7 m7 hi3 hall hend
      go_wp2_with fail
      refine (same_true _ _ W _ bx bw (by have := hwl.out; omega)).mono ?_
      rintro e w8 ⟨m8, rfl⟩
      go_wp2
      go_ret
      exact ⟨rfl, (m04.trans m8).below (Nat.le_refl _) (fun i h => h.elim)⟩
  · by_cases h1 : n ≤ 1000
    · have t1 : decide ((1000 : Int) < (n : Int)) = false := by rw [decide_eq_false_iff_not]; omega
      by_cases h2 : m ≤ 1000
      · have h3 : n = 0 := by omega
        subst h3
        have t2 : decide ((1000 : Int) < (m : Int)) = false := by rw [decide_eq_false_iff_not]; omega
        clear la lb ht hg
        go_enter Try.func3, Try.ntmps3
        go_wp2_with fail
        refine (alive_any _).mono ?_
        rintro e w1 ⟨m1, rfl⟩
        go_wp2_with fail
        refine (alive_any _).mono ?_
        rintro e w2 ⟨m2, rfl⟩
        go_wp2
        go_ret
        exact ⟨rfl, (m1.trans m2).below (Nat.le_refl _) (fun i h => h.elim)⟩
      · have t2 : decide ((1000 : Int) < (m : Int)) = true := by rw [decide_eq_true_iff]; omega
        clear la lb ht hg
        go_enter Try.func3, Try.ntmps3
        go_wp2_with fail
        refine (alive_any _).mono ?_
        rintro e w1 ⟨m1, rfl⟩
        go_wp2_with fail
        refine (alive_any _).mono ?_
        rintro e w2 ⟨m2, rfl⟩
        go_wp2
        go_ret
        exact ⟨rfl, (m1.trans m2).below (Nat.le_refl _) (fun i h => h.elim)⟩
    · have t1 : decide ((1000 : Int) < (n : Int)) = true := by rw [decide_eq_true_iff]; omega
      clear la lb ht hg
      go_enter Try.func3, Try.ntmps3
      go_wp2_with fail
      refine (alive_any _).mono ?_
      rintro e w1 ⟨m1, rfl⟩
      go_wp2_with fail
      refine (alive_any _).mono ?_
      rintro e w2 ⟨m2, rfl⟩
      go_wp2
      go_ret
      exact ⟨rfl, (m1.trans m2).below (Nat.le_refl _) (fun i h => h.elim)⟩
end Go.Proofs.Ytcpphhdbboiadaa
