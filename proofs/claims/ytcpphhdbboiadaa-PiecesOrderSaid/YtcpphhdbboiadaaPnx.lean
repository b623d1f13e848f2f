/-
  pieces: next and the function that it makes.
-/
import Derived.Test.YtcpphhdbboiadaaPue
namespace Go.Proofs.Ytcpphhdbboiadaa
open Go Go.RowKit
set_option linter.unusedSimpArgs false
set_option linter.unusedVariables false

/-- So many bytes were read. -/
def stepS (s : PS) (i : Nat) : PS := { s with read := s.read + i, f := fun k => if s.read ≤ k ∧ k < s.read + i then none else s.f k }
theorem stepS_zero (s : PS) : stepS s 0 = s := by
  obtain ⟨room, read, come, fin, known, f⟩ := s
  unfold stepS
  simp only [Nat.add_zero, PS.mk.injEq, true_and]
  funext k
  rw [if_neg (by omega)]
theorem stepS_at (s : PS) (i : Nat) : (stepS s i).f (s.read + i) = s.f (s.read + i) := by
  unfold stepS
  simp only
  rw [if_neg (by omega)]
theorem stepS_succ (s : PS) (i : Nat) : stepS s (i + 1) = { stepS s i with read := s.read + i + 1, f := delH (stepS s i).f (s.read + i) } := by
  unfold stepS delH
  simp only [PS.mk.injEq, true_and]
  refine ⟨by omega, ?_⟩
  funext k
  by_cases e : k = s.read + i
  · subst e
    rw [if_pos (by omega), if_pos rfl]
  · rw [if_neg e]
    by_cases h : s.read ≤ k ∧ k < s.read + i
    · rw [if_pos h, if_pos (by omega)]
    · rw [if_neg h, if_neg (by omega)]

theorem wpList_delete_map {ops : Array Oper} {rest : List Oper} {o : Oper} {a : Act} {w : World} {Q : Exit → Act → World → Prop} (hg : o.guard = none) (m x : Operand)
    (hop : o.op = Op.call { callee := Callee.builtin Builtin.delete, args := #[m, x], argTypes := #[48, 30] }) (b k c : Nat) (f : Held) (y : BitVec 8)
    (hm : a.eval m = .map (some b)) (hx : a.eval x = .int .u64 (k : Int)) (h : MapAt w b f c) (hk : k < two64) (hf : f k = some y)
    (hK : ∀ w', MapAt w' b (delH f k) (c - 1) → Mod (fun i => i = b) w w' → wpList Try.prog ops Q rest (a.put o.dst (.tuple #[])) w') :
    wpList Try.prog ops Q (o :: rest) a w := by
  refine wpList_plain hg fun K' hK' => ?_
  obtain ⟨w', hrun, r1, r2⟩ := h.drop k hk y hf o.type
  unfold Oper.wp
  simp [execOp, hop, resolve, invoke, builtin, hm, hx, hrun, Result.andThen]
  exact hK' _ _ (hK w' r1 r2)

theorem next_make (p : Nat) (w : World) :
    Calls Try.prog 16 #[.pointer (some ⟨p, 0, none⟩)] w fun e w' => Mod (fun _ => False) w w' ∧ e = .returned (.func (.func 17) #[] #[.pointer (some ⟨w.heap.size, 0, none⟩)]) ∧
      w'.heap[w.heap.size]? = some (.cells #[.pointer (some ⟨p, 0, none⟩)] 25 (0,0)) := by
  go_enter Try.func16, Try.ntmps16
  go_wp2
  go_ret
  exact ⟨(Mod.refl _ w).alloc _, rfl, hp_new _ _ _ rfl⟩

def NextEnd (Stop StopE : World → Prop) (e : Ending) (w' : World) : Prop := e = .returned (.tuple #[]) ∧ (Stop w' ∨ StopE w')

set_option maxHeartbeats 1000000 in
theorem next_iter (l X p M T : Nat) (s : PS) (c : Nat) (rec : Loop) (J : Nat → World → Prop) (Stop StopE : World → Prop) (W0 : World)
    (hT : rec.params = #[T]) (hd : X ≠ p ∧ X ≠ M ∧ l ≠ p ∧ l ≠ M)
    (hlow : s.read < 4611686018427387904 ∧ ∀ k, (s.f k).isSome = true → k < 4611686018427387904)
    (hJ : ∀ i W W', J i W → Mod (fun k => k = p ∨ k = M) W W' → J i W')
    (hround : ∀ i x W c', s.f (s.read + i) = some x → c' + (i + 1) = c → J i W → W.heap[l]? = some (.loop rec) → W.heap[X]? = some (.cells #[.pointer (some ⟨p, 0, none⟩)] 25 (0,0)) → IsP W p M (stepS s (i + 1)) c' →
      RoundIn Fence.wide 0 Try.prog l rec.fn (rec.tmps.setIfInBounds T (.int .u8 (x.toNat : Int))) rec.assign rec.body W fun e W' =>
      (e = .returned (.bool true) ∧ J (i + 1) W' ∧ W'.heap[l]? = some (.loop rec) ∧ W'.heap[X]? = W.heap[X]? ∧ W'.heap[p]? = W.heap[p]? ∧ W'.heap[M]? = W.heap[M]?) ∨ (e = .returned (.bool false) ∧ Stop W'))
    (hend : ∀ i W c', s.f (s.read + i) = none → c' + i = c → J i W → W.heap[l]? = some (.loop rec) → IsP W p M (stepS s i) c' → StopE W)
    (h0 : J 0 W0) (hl : W0.heap[l]? = some (.loop rec)) (hX : W0.heap[X]? = some (.cells #[.pointer (some ⟨p, 0, none⟩)] 25 (0,0))) (hP : IsP W0 p M s c) :
    Calls Try.prog 17 #[.func (.yield l) #[] #[], .pointer (some ⟨X, 0, none⟩)] W0 (NextEnd Stop StopE) := by
  replace hT := Lib.hid hT
  replace hJ := Lib.hid hJ
  replace hround := Lib.hid hround
  replace hend := Lib.hid hend
  replace hlow := Lib.hid hlow
  obtain ⟨d1, d2, d3, d4⟩ := hd
  go_enter Try.func17, Try.ntmps17
  go_wp2
  go_loopg [] c (fun m wr => ∃ i : Nat, J i wr ∧ wr.heap[l]? = some (.loop rec) ∧ wr.heap[X]? = some (.cells #[.pointer (some ⟨p, 0, none⟩)] 25 (0,0)) ∧ IsP wr p M (stepS s i) m ∧ s.read + i < 9223372036854775808 ∧ m + i = c)
  case atStart => exact ⟨0, h0, hl, hX, by rw [stepS_zero]; exact hP, by have := hlow.out.1; omega, by omega⟩
  case round =>
    clear h0 hl hX hP
    obtain ⟨i, jr, lr, xr, pr, hri, hci⟩ := hrel
    replace hci := Lib.hid hci
    have cx : wr.cell? ⟨X, 0, none⟩ = some (.pointer (some ⟨p, 0, none⟩)) := by rw [cell_of_row _ _ _ _ _ _ xr]; rfl
    have c0 := pr.c0
    have c2 := pr.c2
    have e2 : (stepS s i).read = s.read + i := rfl
    rw [e2] at c2
    have hk : s.read + i < two64 := by unfold two64; omega
    have hlook := fun n => (show MapAt (wr.drewN n) M (stepS s i).f _ from pr.map.mod ((Mod.refl (fun _ => False) _).drewN n) (fun h => h)).look (s.read + i) hk
    rw [stepS_at] at hlook
    obtain ⟨q, hq⟩ : ∃ q, q = s.read + i := ⟨_, rfl⟩
    rw [← hq] at c2 hk hlook
    have bq : (q : Int) < 9223372036854775808 := by omega
    have bq0 : (0 : Int) ≤ (q : Int) := by omega
    clear hri e2
    cases hf : s.f q with
    | none =>
      simp only [hf, valH, Option.isSome_none] at hlook
      have hfin := fun n => hend.out i (wr.drewN n) gk (by rw [← hq]; exact hf) hci.out (hJ.out _ _ _ jr ((Mod.refl _ _).drewN n)) (((Mod.refl (fun _ => False) wr).drewN n).heap lr (fun h => h)) (pr.mod ((Mod.refl (fun _ => False) _).drewN n) (fun h => h) (fun h => h))
      replace hfin := Lib.hid hfin
      replace hq := Lib.hid hq
      replace hf := Lib.hid hf
      clear jr lr xr pr
      go_wp2_with fail
      go_quiet (fail)
      go_wp2
      refine bodyPost_ret (results_none rfl _ _ _) rfl ?_
      exact ⟨rfl, .inr (hfin.out _)⟩
    | some x =>
      simp only [hf, valH, Option.isSome_some] at hlook
      have hwq : ∀ n wq, wq = wr.drewN n → J i wq ∧ wq.heap[l]? = some (.loop rec) ∧ wq.heap[X]? = some (.cells #[.pointer (some ⟨p, 0, none⟩)] 25 (0,0)) ∧ IsP wq p M (stepS s i) gk := by
        rintro n wq rfl
        have m := (Mod.refl (fun _ => False) wr).drewN n
        exact ⟨hJ.out _ _ _ jr ((Mod.refl _ _).drewN n), m.heap lr (fun h => h), m.heap xr (fun h => h), pr.mod m (fun h => h) (fun h => h)⟩
      replace hwq := Lib.hid hwq
      replace hf := Lib.hid hf
      replace hq := Lib.hid hq
      clear jr pr xr lr
      go_wp2_with fail
      go_quiet (fail)
      clear hlook cx c0 c2
      go_wp2_with fail
      refine wp_world fun wq hwq' => ?_
      obtain ⟨jq, lq, xq, pq⟩ := hwq.out _ wq hwq'
      clear hwq hwq'
      have cx : wq.cell? ⟨X, 0, none⟩ = some (.pointer (some ⟨p, 0, none⟩)) := by rw [cell_of_row _ _ _ _ _ _ xq]; rfl
      have c0 := pq.c0
      have c2 : wq.cell? ⟨p, 2, none⟩ = some (.int .u64 (q : Int)) := by rw [hq.out]; exact pq.c2
      have hmq : ∀ n, MapAt (wq.drewN n) M (stepS s i).f gk := fun n => pq.map.mod ((Mod.refl (fun _ => False) _).drewN n) (fun h => h)
      have hfq : (stepS s i).f q = some x := by rw [hq.out, stepS_at, ← hq.out]; exact hf.out
      have hmk := pq.map.keys
      have hfk := hfq
      replace hmk := Lib.hid hmk
      replace hfk := Lib.hid hfk
      replace hmq := Lib.hid hmq
      replace hfq := Lib.hid hfq
      replace lq := Lib.hid lq
      replace xq := Lib.hid xq
      replace jq := Lib.hid jq
      replace pq := Lib.hid pq
      refine region_qtail 8 (by kernel_rfl) (by kernel_rfl) ?_
      simp only [List.take_succ_cons, List.take_zero, List.drop_succ_cons, List.drop_zero]
      repeat (go_big_quiet_step (fail))
      refine wpQuiet_nil ?_
      rintro _ ⟨nq, rfl⟩
      refine wpList_delete_map rfl _ _ rfl M q gk _ x rfl rfl (hmq.out nq) hk hfq.out ?_
      intro w2 hm2 m2
      have m02 : Mod (fun j => j = M) wq w2 := ((Mod.refl _ wq).drewN nq).trans m2
      clear m2
      have r2 := m02.heap pq.out.row pq.out.ne
      have x2 := m02.heap xq.out d2
      have l2 := m02.heap lq.out d4
      have j2 := hJ.out _ _ _ jq.out (m02.mono fun j _ h => .inr h)
      have hne := pq.out.ne
      clear cx c0 c2
      have cx : w2.cell? ⟨X, 0, none⟩ = some (.pointer (some ⟨p, 0, none⟩)) := by rw [cell_of_row _ _ _ _ _ _ x2]; rfl
      have c2 : w2.cell? ⟨p, 2, none⟩ = some (.int .u64 (q : Int)) := by rw [cell_of_row _ _ _ _ _ _ r2, hq.out]; rfl
      have f2 := frozen_of_row _ _ 2 _ _ r2
      have hw3 : ∀ w3, w3 = w2.setCell ⟨p, 2, none⟩ (.int .u64 ((q : Int) + 1)) → J i w3 ∧ w3.heap[l]? = some (.loop rec) ∧ w3.heap[X]? = some (.cells #[.pointer (some ⟨p, 0, none⟩)] 25 (0,0)) ∧ IsP w3 p M (stepS s (i + 1)) (gk - 1) := by
        rintro w3 rfl
        have m3 := Mod.one_setCell w2 p 2 (.int .u64 ((q : Int) + 1))
        refine ⟨hJ.out _ _ _ j2 (m3.mono fun j _ h => .inl h), m3.heap l2 d3, m3.heap x2 d1, ?_, ?_, hne⟩
        · rw [setCell_row _ _ _ _ _ _ r2, setRow_heap _ _ _ _ _ _ r2]
          rw [show ((q : Int) + 1) = ((q + 1 : Nat) : Int) by omega, hq.out]
          rfl
        · rw [stepS_succ]
          show MapAt _ M (delH (stepS s i).f (s.read + i)) _
          rw [← hq.out]
          exact hm2.mod m3 (fun h => hne h.symm)
      replace hw3 := Lib.hid hw3
      clear jq lq xq pq hmq hfq m02 r2 x2 l2 j2 hm2
      go_upto_region 4 with (fail)
      refine wp_world fun w3 hw3' => ?_
      obtain ⟨j3, l3, x3, p3⟩ := hw3.out w3 hw3'
      have hpos : 0 < gk := keysOf_pos hmk.out hfk.out
      clear hw3' hw3 cx c2 f2 hmk hfk
      have hr := hround.out i x w3 _ (by rw [← hq.out]; exact hf.out) (by have := hci.out; omega) j3 l3 x3 p3
      have p3r := p3.row
      have p3m := p3.map
      have hrd : s.read + i + 1 < 9223372036854775808 := by
        have h1 := hlow.out.2 q (by rw [hf.out]; rfl)
        have h2 := hq.out
        omega
      replace hr := Lib.hid hr
      replace j3 := Lib.hid j3
      replace p3 := Lib.hid p3
      refine (wpIn_wide (n := 1)).1 (wpIn_region_lit ?_)
      gi_wp2_with (refine wpListIn_yield rfl _ _ _ rfl rfl rec T l3 hT.out ?_)
      refine hr.out.mono ?_
      rintro e W' (⟨rfl, j4, l4, x4, r4, m4⟩ | ⟨rfl, hst⟩)
      · refine ⟨_, rfl, ?_⟩
        rw [x3] at x4
        have p4 : IsP W' p M (stepS s (i + 1)) (gk - 1) := ⟨by rw [r4]; exact p3r, by
          obtain ⟨D, ⟨es, clock, hb, r⟩, A⟩ := p3m
          exact ⟨D, ⟨es, clock, by rw [m4]; exact hb, r⟩, A⟩, hne⟩
        replace j4 := Lib.hid j4
        replace p4 := Lib.hid p4
        clear hr j3 l3 x3 p3 p3r p3m r4 m4
        gi_wp2
        go_wp2
        go_roundg (gk - 1)
        case measure => omega
        case rel => exact ⟨i + 1, j4.out, l4, x4, p4.out, hrd, by have := hci.out; omega⟩
      · refine ⟨_, rfl, ?_⟩
        replace hst := Lib.hid hst
        gi_wp2
        go_wp2
        refine bodyPost_ret (results_none rfl _ _ _) rfl ?_
        exact ⟨rfl, .inl hst.out⟩
end Go.Proofs.Ytcpphhdbboiadaa
