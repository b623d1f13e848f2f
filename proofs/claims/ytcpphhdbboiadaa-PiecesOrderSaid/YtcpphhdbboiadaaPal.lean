/-
  mailcoachlaw09.alive is true.
-/
import Derived.Test.YtcpphhdbboiadaaPgd
namespace Go.Proofs.Ytcpphhdbboiadaa
open Go Go.RowKit
set_option linter.unusedSimpArgs false
set_option linter.unusedVariables false

theorem new_neg (room : Int) (h : room < 0) (w : World) :
    Calls Try.prog 8 #[.int .i64 room] w fun e w' => e = .returned (.tuple #[.pointer none, .int .i64 1]) ∧ w' = w := by
  have h1 : decide (room < 0) = true := by rw [decide_eq_true_iff]; omega
  clear h
  go_enter Try.func8, Try.ntmps8
  go_wp2
  go_ret2
  exact ⟨rfl, rfl⟩

namespace Al
def s0 : PS := ⟨8, 0, 0, 0, false, fun _ => none⟩
def s1 : PS := putS s0 3 [100, 101] false
def s2 : PS := putS s1 0 [97, 98, 99, 88] false
def s3 : PS := stepS s2 5
def s4 : PS := putS s3 4 [90, 102] true
def s5 : PS := stepS s4 1
theorem e1 : putE s0 3 2 false = 0 := by decide +kernel
theorem e2 : putE s1 0 4 false = 0 := by decide +kernel
theorem e4 : putE s3 4 2 true = 0 := by decide +kernel
theorem e5 : putE s5 6 1 false = 8 := by decide +kernel
theorem p5 (bs : List (BitVec 8)) (h : bs.length = 1) : putS s5 6 bs false = s5 := by unfold putS; rw [h, e5]; rfl
theorem o2 : outL s2.f s2.read 5 = [97, 98, 99, 100, 101] := by decide +kernel
theorem a2 : ∀ j, j < 5 → (s2.f (s2.read + j)).isSome = true := by decide +kernel
theorem n2 : s2.f (s2.read + 5) = none := by decide +kernel
theorem b2 : (s2.known && decide (s2.read + 5 = s2.fin)) = false := by decide +kernel
theorem o4 : outL s4.f s4.read 1 = [102] := by decide +kernel
theorem a4 : ∀ j, j < 1 → (s4.f (s4.read + j)).isSome = true := by decide +kernel
theorem n4 : s4.f (s4.read + 1) = none := by decide +kernel
theorem b4 : (s4.known && decide (s4.read + 1 = s4.fin)) = true := by decide +kernel
theorem g0 : Good s0 := Good.new (by omega)
theorem g1 : Good s1 := g0.put _ _ _
theorem g2 : Good s2 := g1.put _ _ _
theorem g3 : Good s3 := g2.step _ a2
theorem g4 : Good s4 := g3.put _ _ _
theorem g5 : Good s5 := g4.step _ a4
end Al

theorem put_lit (p M c : Nat) (s : PS) (a : Nat) (b : Nat) (bs : List (BitVec 8)) (n : Nat) (hn : bs.length = n) (last : Bool) (r : Nat) (w : World) (h : IsP w p M s c) (g : Good s) (hb : ByteAt w (.slice (some ⟨b, 0, none⟩) n n) bs) (hpb : b ≠ p ∧ b ≠ M) (hl : n < 1000) (ha : a < 1000) (hr : putE s a n last = r) :
    Calls Try.prog 9 #[.pointer (some ⟨p, 0, none⟩), .int .u64 (a : Int), .slice (some ⟨b, 0, none⟩) n n, .bool last] w fun e w' => e = .returned (.int .i64 (r : Int)) ∧ Mod (fun k => k = p ∨ k = M) w w' ∧ ∃ c', IsP w' p M (putS s a bs last) c' := by
  subst hn
  refine (put_good p M c s a _ bs last w h g hb (by rintro ad n cap h _; injection h with h; injection h with h; subst h; exact hpb) (by omega) (by unfold two64; omega)).mono ?_
  rintro e w' ⟨rfl, m, c', _, hp⟩
  exact ⟨by rw [hr], m, c', hp⟩
theorem take_lit (p M c n k : Nat) (s : PS) (bs : List (BitVec 8)) (b : Bool) (w : World) (h : IsP w p M s c) (g : Good s) (hn : n < 1000) (hk : k ≤ n) (h3 : ∀ j, j < k → (s.f (s.read + j)).isSome = true) (h4 : s.f (s.read + k) = none) (ho : outL s.f s.read k = bs) (hb : (s.known && decide (s.read + k = s.fin)) = b) :
    Calls Try.prog 10 #[.pointer (some ⟨p, 0, none⟩), .int .i64 (n : Int)] w fun e w' => Mod (fun k => k = p ∨ k = M) w w' ∧ ∃ v c', e = .returned (.tuple #[v, .bool b, .int .i64 0]) ∧ IsP w' p M (stepS s k) c' ∧ w'.ownsRow w.heap.size 5 1 v k (bytesV bs) := by
  refine (take_good p M c n s w h g (by omega)).mono ?_
  rintro e w' ⟨i, v, c', h1, h2, h5, _, rfl, m, hp, ho'⟩
  obtain rfl : i = k := run_uniq h1 h2 h5 hk h3 (.inr h4)
  rw [ho] at ho'
  exact ⟨m, v, c', by rw [hb], hp, ho'⟩

set_option maxRecDepth 100000 in
set_option maxHeartbeats 1000000 in
theorem alive_any (w : World) : Calls Try.prog 7 #[] w fun e w' => Mod (fun _ => False) w w' ∧ e = .returned (.bool true) := by
  have kc := fun (w : World) (C : Array Value) (n c : Nat) => Lib.run_convert_bytes_const (P := Try.prog) w 22 5 C n c Try.underlying22 Try.underlying5
  have hnew : ∀ w, Calls Try.prog 8 #[.int .i64 8] w fun e w' => Mod (fun _ => False) w w' ∧ ∃ p M, w.heap.size ≤ p ∧ w.heap.size ≤ M ∧ e = .returned (.tuple #[.pointer (some ⟨p, 0, none⟩), .int .i64 0]) ∧ IsP w' p M Al.s0 0 := fun w => new_ok 8 (by omega) w
  have hneg : ∀ w, Calls Try.prog 8 #[.int .i64 (-1)] w fun e w' => e = .returned (.tuple #[.pointer none, .int .i64 1]) ∧ w' = w := fun w => new_neg (-1) (by omega) w
  replace hnew := Lib.hid hnew
  replace hneg := Lib.hid hneg
  go_enter Try.func7, Try.ntmps7
  go_wp2_with fail
  refine (hnew.out _).mono ?_
  rintro e w1 ⟨m1, p, M, hp, hM, rfl, p1⟩
  have mt1 : Mod (fun k => k = p ∨ k = M) w w1 := m1.mono (fun _ _ h => h.elim)
  clear m1
  have h1 := p1.lt
  go_wp2_with fail
  refine calls_world fun w2 hw2 => ?_
  have m2 : Mod (fun _ => False) w1 w2 := by rw [hw2]; exact (Mod.refl _ _).alloc _
  have b2 : ByteAt w2 (.slice (some ⟨w1.heap.size, 0, none⟩) 2 2) [100, 101] := byteAt_lit [100, 101] (by rw [hw2]; exact hp_new _ _ _ rfl)
  have p2 := p1.mod m2 (fun h => h) (fun h => h)
  clear hw2 p1
  refine (put_lit p M _ Al.s0 3 _ [100, 101] 2 rfl false 0 _ p2 Al.g0 b2 (by omega) (by omega) (by omega) Al.e1).mono ?_
  rintro e w3 ⟨rfl, m3, c3, p3⟩
  have mt3 := mt1.trans ((m2.mono (fun _ _ h => h.elim)).trans m3)
  replace p3 : IsP w3 p M Al.s1 c3 := p3
  clear m2 m3 b2 p2 mt1 h1
  have h3 := p3.lt
  go_wp2_with fail
  refine calls_world fun w4 hw4 => ?_
  have m4 : Mod (fun _ => False) w3 w4 := by rw [hw4]; exact (Mod.refl _ _).alloc _
  have b4 : ByteAt w4 (.slice (some ⟨w3.heap.size, 0, none⟩) 4 4) [97, 98, 99, 88] := byteAt_lit [97, 98, 99, 88] (by rw [hw4]; exact hp_new _ _ _ rfl)
  have p4 := p3.mod m4 (fun h => h) (fun h => h)
  clear hw4 p3
  refine (put_lit p M _ Al.s1 0 _ [97, 98, 99, 88] 4 rfl false 0 _ p4 Al.g1 b4 (by omega) (by omega) (by omega) Al.e2).mono ?_
  rintro e w5 ⟨rfl, m5, c5, p5⟩
  have mt5 := mt3.trans ((m4.mono (fun _ _ h => h.elim)).trans m5)
  replace p5 : IsP w5 p M Al.s2 c5 := p5
  clear m4 m5 b4 p4 mt3 h3
  have h5 := p5.lt
  go_wp2_with fail
  refine (take_lit p M _ 9 5 Al.s2 [97, 98, 99, 100, 101] false _ p5 Al.g2 (by omega) (by omega) Al.a2 Al.n2 Al.o2 Al.b2).mono ?_
  rintro e w6 ⟨m6, v6, c6, rfl, p6, oa⟩
  have mt6 := mt5.trans m6
  replace p6 : IsP w6 p M Al.s3 c6 := p6
  clear m6 p5 mt5
  have h6 := p6.lt
  go_wp2_with fail
  refine calls_world fun w7 hw7 => ?_
  have m7 : Mod (fun _ => False) w6 w7 := by rw [hw7]; exact (Mod.refl _ _).alloc _
  have b7 : ByteAt w7 (.slice (some ⟨w6.heap.size, 0, none⟩) 2 2) [90, 102] := byteAt_lit [90, 102] (by rw [hw7]; exact hp_new _ _ _ rfl)
  have p7 := p6.mod m7 (fun h => h) (fun h => h)
  replace oa := ownsRow_mod oa m7 (fun _ _ h => h)
  clear hw7 p6
  refine (put_lit p M _ Al.s3 4 _ [90, 102] 2 rfl true 0 _ p7 Al.g3 b7 (by omega) (by omega) (by omega) Al.e4).mono ?_
  rintro e w8 ⟨rfl, m8, c8, p8⟩
  have mt8 := mt6.trans ((m7.mono (fun _ _ h => h.elim)).trans m8)
  replace p8 : IsP w8 p M Al.s4 c8 := p8
  replace oa := ownsRow_mod oa m8 (by omega)
  clear m7 m8 b7 p7 mt6 h6
  have h8 := p8.lt
  go_wp2_with fail
  refine (take_lit p M _ 9 1 Al.s4 [102] true _ p8 Al.g4 (by omega) (by omega) Al.a4 Al.n4 Al.o4 Al.b4).mono ?_
  rintro e w9 ⟨m9, v9, c9, rfl, p9, ob⟩
  have mt9 := mt8.trans m9
  replace p9 : IsP w9 p M Al.s5 c9 := p9
  replace oa := ownsRow_mod oa m9 (by omega)
  clear m9 p8 mt8
  have h9 := p9.lt
  go_wp2_with fail
  refine calls_world fun w10 hw10 => ?_
  have m10 : Mod (fun _ => False) w9 w10 := by rw [hw10]; exact (Mod.refl _ _).alloc _
  have b10 : ByteAt w10 (.slice (some ⟨w9.heap.size, 0, none⟩) 1 1) [103] := byteAt_lit [103] (by rw [hw10]; exact hp_new _ _ _ rfl)
  have p10 := p9.mod m10 (fun h => h) (fun h => h)
  replace oa := ownsRow_mod oa m10 (fun _ _ h => h)
  replace ob := ownsRow_mod ob m10 (fun _ _ h => h)
  clear hw10 p9
  refine (put_lit p M _ Al.s5 6 _ [103] 1 rfl false 8 _ p10 Al.g5 b10 (by omega) (by omega) (by omega) Al.e5).mono ?_
  rintro e w11 ⟨rfl, m11, c11, p11⟩
  have mt11 := mt9.trans ((m10.mono (fun _ _ h => h.elim)).trans m11)
  replace p11 : IsP w11 p M Al.s5 c11 := by rw [← Al.p5 [103] rfl]; exact p11
  replace oa := ownsRow_mod oa m11 (by omega)
  replace ob := ownsRow_mod ob m11 (by omega)
  clear m10 m11 b10 p10 mt9 h9
  go_wp2_with fail
  refine (hneg.out _).mono ?_
  rintro e w11 ⟨rfl, rfl⟩
  replace oa := byteAt_of_own oa
  replace ob := byteAt_of_own ob
  have hs := p11.lt
  clear p11
  go_wp2_with fail
  refine calls_world fun wa hwa => ?_
  have ma : Mod (fun _ => False) w11 wa := by rw [hwa]; exact (Mod.refl _ _).alloc _
  have ba : ByteAt wa (.slice (some ⟨w11.heap.size, 0, none⟩) 5 5) [97, 98, 99, 100, 101] := byteAt_lit [97, 98, 99, 100, 101] (by rw [hwa]; exact hp_new _ _ _ rfl)
  clear hwa
  refine (same_true _ _ _ _ (oa.mod ma (fun _ _ h => h)) ba (by decide)).mono ?_
  rintro e wb ⟨mb, rfl⟩
  have mab := ma.trans mb
  replace ob := ob.mod mab (fun _ _ h => h)
  clear ma mb ba oa
  go_wp2_with fail
  refine calls_world fun wc hwc => ?_
  have mc : Mod (fun _ => False) wb wc := by rw [hwc]; exact (Mod.refl _ _).alloc _
  have bc : ByteAt wc (.slice (some ⟨wb.heap.size, 0, none⟩) 1 1) [102] := byteAt_lit [102] (by rw [hwc]; exact hp_new _ _ _ rfl)
  clear hwc
  refine (same_true _ _ _ _ (ob.mod mc (fun _ _ h => h)) bc (by decide)).mono ?_
  rintro e wd ⟨md, rfl⟩
  have mall := mt11.trans ((mab.trans (mc.trans md)).mono (S' := fun k => k = p ∨ k = M) (fun _ _ h => h.elim))
  clear mab mc md bc
  go_wp2
  go_ret
  exact ⟨mall.mono (fun i hi h => by omega), rfl⟩
end Go.Proofs.Ytcpphhdbboiadaa
