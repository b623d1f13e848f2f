/-
  pieces: Put, where it refuses.
-/
import Derived.Test.YtcpphhdbboiadaaPut
namespace Go.Proofs.Ytcpphhdbboiadaa
open Go Go.RowKit
set_option linter.unusedSimpArgs false
set_option linter.unusedVariables false

def PutNo (c : Nat) (w : World) (e : Ending) (w' : World) : Prop := e = .returned (.int .i64 (c : Int)) ∧ Mod (fun _ => False) w w'

set_option maxRecDepth 100000 in
set_option maxHeartbeats 1000000 in
theorem put_no (p M c : Nat) (s : PS) (a : Nat) (v : Value) (bs : List (BitVec 8)) (last : Bool) (w : World) (h : IsP w p M s c) (hb : ByteAt w v bs) (ha : a < two64) (hn : bs.length < 4611686018427387903)
    (hr : s.read + s.room < 9223372036854775808) (hne : putE s a bs.length last ≠ 0) :
    Calls Try.prog 9 #[.pointer (some ⟨p, 0, none⟩), .int .u64 (a : Int), v, .bool last] w (PutNo (putE s a bs.length last) w) := by
  obtain ⟨ad, cap, rfl, _⟩ := hb.slice
  clear hb
  have c0 := h.c0
  have c1 := h.c1
  have c2 := h.c2
  have c3 := h.c3
  have c4 := h.c4
  have c5 := h.c5
  obtain ⟨room, read, come, fin, known, f⟩ := s
  simp only at *
  clear h
  generalize en : bs.length = n at *
  have b0 : (0 : Int) ≤ (n : Int) := by omega
  have b1 : (0 : Int) ≤ (a : Int) := by omega
  have b2 : (n : Int) < 4611686018427387903 := by omega
  have b4 : (0 : Int) ≤ (read : Int) := by omega
  have b5 : (0 : Int) ≤ (room : Int) := by omega
  have b6 : (read : Int) + (room : Int) < 9223372036854775808 := by omega
  have ba : (a : Int) < 18446744073709551616 := by unfold two64 at ha; omega
  clear en hn hr ha
  by_cases g1 : 4611686018427387903 < a
  · have hE : putE ⟨room, read, come, fin, known, f⟩ a n last = 1 := by unfold putE; rw [if_pos (.inl g1)]
    rw [hE]
    clear hE hne
    have t1 : decide ((4611686018427387903 : Int) < (a : Int)) = true := by rw [decide_eq_true_iff]; omega
    clear g1
    go_enter Try.func9, Try.ntmps9
    go_wp2_with fail
    refine (gone_no p M _ c0).mono ?_
    rintro e w1 ⟨rfl, rfl⟩
    go_wp2
    go_ret
    exact ⟨rfl, Mod.refl _ _⟩
  · have t1 : decide ((4611686018427387903 : Int) < (a : Int)) = false := by rw [decide_eq_false_iff_not]; omega
    have ba2 : (a : Int) ≤ 4611686018427387903 := by omega
    by_cases g2 : 4611686018427387903 < a + n
    · have hE : putE ⟨room, read, come, fin, known, f⟩ a n last = 1 := by unfold putE; rw [if_pos (.inr g2)]
      rw [hE]
      clear hE hne
      have t2 : decide ((4611686018427387903 : Int) < (a : Int) + (n : Int)) = true := by rw [decide_eq_true_iff]; omega
      clear g1 g2
      go_enter Try.func9, Try.ntmps9
      go_wp2_with fail
      refine (gone_no p M _ c0).mono ?_
      rintro e w1 ⟨rfl, rfl⟩
      go_wp2
      go_ret
      exact ⟨rfl, Mod.refl _ _⟩
    · have t2 : decide ((4611686018427387903 : Int) < (a : Int) + (n : Int)) = false := by rw [decide_eq_false_iff_not]; omega
      have b3 : (a : Int) + (n : Int) ≤ 4611686018427387903 := by omega
      by_cases g3 : (known = true ∧ (fin < a + n ∨ last = true ∧ a + n < fin)) ∨ (last = true ∧ a + n < come)
      · have hE : putE ⟨room, read, come, fin, known, f⟩ a n last = 8 := by unfold putE; rw [if_neg (by omega), if_pos g3]
        rw [hE]
        clear hE hne g1 g2
        obtain ⟨d1, hd1⟩ : ∃ d1, decide ((fin : Int) < (a : Int) + (n : Int)) = d1 := ⟨_, rfl⟩
        obtain ⟨d2, hd2⟩ : ∃ d2, decide ((a : Int) + (n : Int) < (fin : Int)) = d2 := ⟨_, rfl⟩
        obtain ⟨d3, hd3⟩ : ∃ d3, decide ((a : Int) + (n : Int) < (come : Int)) = d3 := ⟨_, rfl⟩
        have g4 : (known = true ∧ (d1 = true ∨ last = true ∧ d2 = true)) ∨ (last = true ∧ d3 = true) := by
          rw [← hd1, ← hd2, ← hd3]
          simp only [decide_eq_true_eq]
          rcases g3 with ⟨hk, h⟩ | ⟨hl, h⟩
          · refine .inl ⟨hk, ?_⟩
            rcases h with h | ⟨hl, h⟩
            · exact .inl (by omega)
            · exact .inr ⟨hl, by omega⟩
          · exact .inr ⟨hl, by omega⟩
        clear g3
        cases known <;> cases last <;> cases d1 <;> cases d2 <;> cases d3 <;> simp only [Bool.false_eq_true, false_and, or_false, and_false, true_and, or_true, and_true, or_self] at g4
        all_goals
          clear g4
          go_enter Try.func9, Try.ntmps9
          go_wp2_with fail
          refine (gone_no p M _ c0).mono ?_
          rintro e w1 ⟨rfl, rfl⟩
          go_wp2
          go_ret
          exact ⟨rfl, Mod.refl _ _⟩
      · have h5 : read + room < a + n := by
          by_cases h : read + room < a + n
          · exact h
          · exact absurd (by unfold putE; rw [if_neg (by omega), if_neg g3, if_neg h]) hne
        have hE : putE ⟨room, read, come, fin, known, f⟩ a n last = 6 := by unfold putE; rw [if_neg (by omega), if_neg g3, if_pos h5]
        rw [hE]
        clear hE hne g1 g2
        have t3 : known = true → decide ((fin : Int) < (a : Int) + (n : Int)) = false := by intro hk; rw [decide_eq_false_iff_not]; intro hh; exact g3 (.inl ⟨hk, .inl (by omega)⟩)
        have t4 : known = true → last = true → decide ((a : Int) + (n : Int) < (fin : Int)) = false := by intro hk hl; rw [decide_eq_false_iff_not]; intro hh; exact g3 (.inl ⟨hk, .inr ⟨hl, by omega⟩⟩)
        have t5 : last = true → decide ((a : Int) + (n : Int) < (come : Int)) = false := by intro hl; rw [decide_eq_false_iff_not]; intro hh; exact g3 (.inr ⟨hl, by omega⟩)
        have t6 : decide ((read : Int) + (room : Int) < (a : Int) + (n : Int)) = true := by rw [decide_eq_true_iff]; omega
        clear g3 h5
        cases known <;> cases last
        all_goals
          simp only [true_implies, Bool.false_eq_true, false_implies] at t3 t4 t5
          go_enter Try.func9, Try.ntmps9
          go_wp2_with fail
          refine (gone_no p M _ c0).mono ?_
          rintro e w1 ⟨rfl, rfl⟩
          go_upto_region 9 with (fail)
          go_quiet (fail)
          go_wp2
          go_ret
          exact ⟨rfl, (Mod.refl _ _).drewN _⟩

/-- Put, whatever comes. -/
def PutEnd (p M c : Nat) (s : PS) (a : Nat) (bs : List (BitVec 8)) (last : Bool) (w : World) (e : Ending) (w' : World) : Prop :=
  e = .returned (.int .i64 (putE s a bs.length last : Int)) ∧ Mod (fun k => k = p ∨ k = M) w w' ∧ ∃ c', c' ≤ c + bs.length ∧ IsP w' p M (putS s a bs last) c'
theorem put_any (p M c : Nat) (s : PS) (a : Nat) (v : Value) (bs : List (BitVec 8)) (last : Bool) (w : World) (h : IsP w p M s c) (hb : ByteAt w v bs) (hpb : ∀ ad n cap, v = .slice (some ad) n cap → n ≠ 0 → ad.block ≠ p ∧ ad.block ≠ M)
    (hc : c + bs.length < 4611686018427387903) (ha : a < two64) (hr : s.read + s.room < 9223372036854775808) :
    Calls Try.prog 9 #[.pointer (some ⟨p, 0, none⟩), .int .u64 (a : Int), v, .bool last] w (PutEnd p M c s a bs last w) := by
  by_cases hne : putE s a bs.length last = 0
  · have h0 := hne
    unfold putE at h0
    split at h0
    · cases h0
    · rename_i h1
      split at h0
      · cases h0
      · rename_i h2
        split at h0
        · cases h0
        · rename_i h3
          refine (put_ok p M c s a v bs last w h hb hpb hc hr (by omega) (by omega) (fun h => h2 (.inl h)) (fun h => h2 (.inr h)) (by omega)).mono ?_
          rintro e w' ⟨rfl, m, c', hc', hp⟩
          refine ⟨by rw [hne]; rfl, m, c', hc', ?_⟩
          unfold putS
          rw [if_pos hne]
          exact hp
  · refine (put_no p M c s a v bs last w h hb ha (by omega) hr hne).mono ?_
    rintro e w' ⟨rfl, m⟩
    refine ⟨rfl, m.mono (fun _ _ h => h.elim), c, by omega, ?_⟩
    unfold putS
    rw [if_neg hne]
    exact h.mod m (fun h => h) (fun h => h)
end Go.Proofs.Ytcpphhdbboiadaa
