/-
  pieces: Take.
-/
import Derived.Outline
import Derived.OwnWalk
import Derived.BigRegion
import Derived.RegionTactic
import Derived.Test.YtcpphhdbboiadaaPnx
namespace Go.Proofs.Ytcpphhdbboiadaa
open Go Go.RowKit
set_option linter.unusedSimpArgs false
set_option linter.unusedVariables false

theorem ownsRow_mod {S : Nat → Prop} {w w' : World} {base n size : Nat} {e : TypeId} {v : Value} {xs : List Value} (h : w.ownsRow base e size v n xs) (m : Mod S w w') (hS : ∀ k, base ≤ k → ¬ S k) : w'.ownsRow base e size v n xs := by
  refine ⟨h.1, ?_⟩
  rcases h.2 with hn | ⟨g, cap, cur, rfl, hb, hgg, rest⟩
  · exact .inl hn
  · exact .inr ⟨g, cap, cur, rfl, hb, m.heap hgg (hS g hb), rest⟩
theorem ownsRow_base {w : World} {base base' n size : Nat} {e : TypeId} {v : Value} {xs : List Value} (h : w.ownsRow base e size v n xs) (hb : base' ≤ base) : w.ownsRow base' e size v n xs := by
  refine ⟨h.1, ?_⟩
  rcases h.2 with hn | ⟨g, cap, cur, rfl, hb', hgg, rest⟩
  · exact .inl hn
  · exact .inr ⟨g, cap, cur, rfl, by omega, hgg, rest⟩

/-- The first so many bytes from a place on. -/
def outL (f : Held) (r i : Nat) : List (BitVec 8) := (List.range i).map fun j => (f (r + j)).getD 0
theorem outL_length (f : Held) (r i : Nat) : (outL f r i).length = i := by simp [outL]
theorem outL_succ (f : Held) (r i : Nat) (x : BitVec 8) (h : f (r + i) = some x) : outL f r (i + 1) = outL f r i ++ [x] := by
  unfold outL
  rw [List.range_succ, List.map_append]
  simp [h]

def TakeEnd (p M c : Nat) (s : PS) (n : Nat) (w : World) (e : Ending) (w' : World) : Prop :=
  ∃ i v c', i ≤ n ∧ (∀ j, j < i → (s.f (s.read + j)).isSome = true) ∧ (i = n ∨ s.f (s.read + i) = none) ∧ c' + i = c ∧
    e = .returned (.tuple #[v, .bool (s.known && decide (s.read + i = s.fin)), .int .i64 0]) ∧ Mod (fun k => k = p ∨ k = M) w w' ∧ IsP w' p M (stepS s i) c' ∧ w'.ownsRow w.heap.size 5 1 v i (bytesV (outL s.f s.read i))

set_option maxHeartbeats 2000000 in
theorem take_zero (p M c : Nat) (s : PS) (w : World) (h : IsP w p M s c) (hc : c ≤ 140737488355328) (hf63 : s.fin < 9223372036854775808)
    (hlow : s.read < 4611686018427387904 ∧ ∀ k, (s.f k).isSome = true → k < 4611686018427387904) :
    Calls Try.prog 10 #[.pointer (some ⟨p, 0, none⟩), .int .i64 ((0 : Nat) : Int)] w (TakeEnd p M c s 0 w) := by
  have hw0 : ∀ w1, w1 = (w.alloc (.cells #[.int .i64 ((0 : Nat) : Int)] 3)).alloc (.cells #[.slice none 0 0] 22) →
      Mod (fun _ => False) w w1 ∧ w1.heap[w.heap.size]? = some (.cells #[.int .i64 ((0 : Nat) : Int)] 3 (0,0)) ∧ w1.heap[w.heap.size + 1]? = some (.cells #[.slice none 0 0] 22 (0,0)) := by
    rintro w1 rfl
    refine ⟨((Mod.refl _ w).alloc _).alloc _, ?_, ?_⟩
    rw [hp_old _ _ _ (by simp only [World.size_alloc]; omega), hp_new _ _ _ (by simp)]
    rw [hp_new _ _ _ (by simp)]
  have hlt := h.lt
  have c0 := h.c0
  have bn : ((0 : Nat) : Int) < 9223372036854775808 := by omega
  have bn0 : (0 : Int) ≤ ((0 : Nat) : Int) := by omega
  have t0 : decide (((0 : Nat) : Int) < 0) = false := by rw [decide_eq_false_iff_not]; omega
  replace hw0 := Lib.hid hw0
  replace hlow := Lib.hid hlow
  replace h := Lib.hid h
  refine calls_of_marks Try.func10 rfl ?_
  simp only [Try.ntmps10, List.size_toArray, List.length_cons, List.length_nil, Nat.reduceAdd, Nat.reduceSub, Array.replicate_succ,
     Array.replicate_zero, List.push_toArray, List.append_toArray, List.nil_append, List.cons_append]
  go_upto_region 1 with (fail)
  refine wp_world fun w1 hw1 => ?_
  obtain ⟨m1, n1, o1⟩ := hw0.out w1 hw1
  clear hw1 hw0
  have p1 := h.out.mod m1 (fun h => h) (fun h => h)
  have d1 := p1.c0
  clear c0
  go_wp2_with fail
  refine (gone_no p M _ d1).mono ?_
  rintro e w1 ⟨rfl, rfl⟩
  have cn : w1.cell? ⟨w.heap.size, 0, none⟩ = some (.int .i64 ((0 : Nat) : Int)) := by rw [cell_of_row _ _ _ _ _ _ n1]; rfl
  have co : w1.cell? ⟨w.heap.size + 1, 0, none⟩ = some (.slice none 0 0) := by rw [cell_of_row _ _ _ _ _ _ o1]; rfl
  clear co
  have fo := frozen_of_row _ _ 0 _ _ o1
  have co : w1.cell? ⟨w.heap.size + 1, 0, none⟩ = some (.slice none 0 0) := by rw [cell_of_row _ _ _ _ _ _ o1]; rfl
  have hid : ∀ m, (w1.drewN m).setCell ⟨w.heap.size + 1, 0, none⟩ (.slice none 0 0) = w1.drewN m := fun m => setCell_id (w := w1.drewN m) o1 rfl
  obtain ⟨bv, hbv⟩ : ∃ b, b = (s.known && decide (s.read + 0 = s.fin)) := ⟨_, rfl⟩
  have ft : ∀ nq W', W' = (w1.drewN nq) → (W'.cell? ⟨w.heap.size + 1, 0, none⟩ = some (.slice none 0 0) ∧ TakeEnd p M c s 0 w (.returned (.tuple #[(.slice none 0 0), .bool bv, .int .i64 0])) W') := by
    rintro nq W' hW'
    have mx : Mod (fun _ => False) w1 W' := by rw [hW']; exact (Mod.refl _ w1).drewN nq
    have r2 := mx.heap o1 (by first | exact fun h => h | omega)
    refine ⟨by rw [cell_of_row _ _ _ _ _ _ r2]; rfl, 0, (.slice none 0 0), _, Nat.le_refl _, (fun j hj => absurd hj (by omega)), (.inl rfl), rfl, by rw [hbv], ?_, (show IsP w1 p M (stepS s 0) c by rw [stepS_zero]; exact p1).mod mx (by first | exact fun h => h | omega) (by first | exact fun h => h | omega), ?_⟩
    · exact (m1.mono (S' := fun k => k = p ∨ k = M) (fun _ _ h => h.elim)).trans' mx (fun i hi h => by first | exact h.elim | omega)
    · exact World.ownsRow_nil _ _ _ _
  obtain ⟨q, hq⟩ : ∃ q, q = s.read + 0 := ⟨_, rfl⟩
  have d2 : w1.cell? ⟨p, 2, none⟩ = some (.int .u64 (q : Int)) := by rw [hq]; exact (show IsP w1 p M (stepS s 0) c by rw [stepS_zero]; exact p1).c2
  obtain ⟨fn', hfn⟩ : ∃ q, q = s.fin := ⟨_, rfl⟩
  have d4 : w1.cell? ⟨p, 4, none⟩ = some (.int .u64 (fn' : Int)) := by rw [hfn]; exact (show IsP w1 p M (stepS s 0) c by rw [stepS_zero]; exact p1).c4
  obtain ⟨kn, hkn⟩ : ∃ q, q = s.known := ⟨_, rfl⟩
  have d5 : w1.cell? ⟨p, 5, none⟩ = some (.bool kn) := by rw [hkn]; exact (show IsP w1 p M (stepS s 0) c by rw [stepS_zero]; exact p1).c5
  rw [← hq, ← hfn, ← hkn] at hbv
  replace ft := Lib.hid ft
  clear hq hfn hkn
  replace m1 := Lib.hid m1
  replace p1 := Lib.hid p1
  replace n1 := Lib.hid n1
  replace o1 := Lib.hid o1
  have hcs : (kn = false ∧ bv = false) ∨ (kn = true ∧ q = fn' ∧ bv = true) ∨ (kn = true ∧ q ≠ fn' ∧ bv = false) := by
    subst hbv
    cases kn
    · exact .inl ⟨rfl, rfl⟩
    · by_cases e : q = fn'
      · exact .inr (.inl ⟨rfl, e, by simp [e]⟩)
      · exact .inr (.inr ⟨rfl, e, by simp [e]⟩)
  clear hbv
  obtain ⟨rfl, rfl⟩ | ⟨rfl, he, rfl⟩ | ⟨rfl, he, rfl⟩ := hcs
  · skip
    go_wp2_with fail
    go_quiet (fail)
    go_wp2
    obtain ⟨hcell, hpost⟩ := ft.out nq _ rfl
    replace hpost := Lib.hid hpost
    refine bodyPostM_ret (v := .tuple #[(.slice none 0 0), .bool false, .int .i64 0]) (by simp [results, Try.results10, go_sem, hcell]) rfl ?_
    exact hpost.out
  · have hbe : ((q : Int) == (fn' : Int)) = true := by simp [he]
    clear he
    go_wp2_with fail
    go_quiet (fail)
    go_wp2
    obtain ⟨hcell, hpost⟩ := ft.out nq _ rfl
    replace hpost := Lib.hid hpost
    refine bodyPostM_ret (v := .tuple #[(.slice none 0 0), .bool true, .int .i64 0]) (by simp [results, Try.results10, go_sem, hcell]) rfl ?_
    exact hpost.out
  · have hbe : ((q : Int) == (fn' : Int)) = false := by simp; omega
    clear he
    go_wp2_with fail
    go_quiet (fail)
    go_wp2
    obtain ⟨hcell, hpost⟩ := ft.out nq _ rfl
    replace hpost := Lib.hid hpost
    refine bodyPostM_ret (v := .tuple #[(.slice none 0 0), .bool false, .int .i64 0]) (by simp [results, Try.results10, go_sem, hcell]) rfl ?_
    exact hpost.out
end Go.Proofs.Ytcpphhdbboiadaa
