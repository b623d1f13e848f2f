/-
  The plain law: undo takes a quarter round back.
-/
import Derived.Test.YtndfgjajpmccjaaUnd
namespace Go.Proofs.Ytndfgjajpmccjaa
open Go Go.RowKit
set_option linter.unusedVariables false

theorem getD_set_same (s : List (BitVec 32)) (i : Nat) (v : BitVec 32) (h : i < s.length) : (s.set i v).getD i 0 = v := by
  simp [List.getD_eq_getElem?_getD, h]
theorem getD_set_other (s : List (BitVec 32)) (i j : Nat) (v : BitVec 32) (h : i ≠ j) : (s.set i v).getD j 0 = s.getD j 0 := by
  simp [List.getD_eq_getElem?_getD, List.getElem?_set_ne h]
theorem set_back (s : List (BitVec 32)) (i : Nat) (v : BitVec 32) (h : i < s.length) (hv : v = s.getD i 0) : s.set i v = s := by
  rw [hv]
  apply List.ext_getElem
  · simp
  · intro j h1 h2
    rw [List.getElem_set]
    split
    · rename_i e
      subst e
      rw [List.getD_eq_getElem?_getD, List.getElem?_eq_getElem h2]
      rfl
    · rfl
/-- One step of a quarter round and its undoing. -/
theorem un_mix (n m : Nat) (hnm : ∀ x : BitVec 32, (x.rotateLeft n).rotateLeft m = x) (s : List (BitVec 32)) (i j k : Nat) (hi : i < s.length) (hk : k < s.length) (hik : i ≠ k) (hij : i ≠ j) (hjk : j ≠ k) :
    unS (unX m (mixS n s i j k) k i) i j = s := by
  have e1 : unX m (mixS n s i j k) k i = s.set i (s.getD i 0 + s.getD j 0) := by
    unfold unX mixS
    rw [getD_set_same _ k _ (by simpa using hk), getD_set_other _ k i _ (Ne.symm hik), getD_set_same _ i _ hi, hnm, BitVec.xor_assoc, BitVec.xor_self, BitVec.xor_zero, List.set_set]
    exact set_back _ k _ (by simpa using hk) (by rw [getD_set_other _ i k _ hik])
  rw [e1]
  unfold unS
  rw [getD_set_same _ i _ hi, getD_set_other _ i j _ hij, List.set_set]
  exact set_back _ i _ hi (by rw [BitVec.add_sub_cancel])
def unq (s : List (BitVec 32)) (a b c d : Nat) : List (BitVec 32) := unS (unX 16 (unS (unX 20 (unS (unX 24 (unS (unX 25 (s) b c) c d) d a) a b) b c) c d) d a) a b
theorem rot_back (n m : Nat) (h : n + m = 32) (hn : 0 < n) (hm : 0 < m) (x : BitVec 32) : (x.rotateLeft n).rotateLeft m = x := by
  apply BitVec.eq_of_getLsbD_eq
  intro i hi
  rw [BitVec.getLsbD_rotateLeft, BitVec.getLsbD_rotateLeft, BitVec.getLsbD_rotateLeft]
  rw [Nat.mod_eq_of_lt (show n < 32 by omega), Nat.mod_eq_of_lt (show m < 32 by omega)]
  by_cases h1 : i < m
  · have a0 : decide (i < m) = true := by simpa using h1
    have a1 : decide (32 - m + i < n) = false := by simp; omega
    have a2 : decide (32 - m + i < 32) = true := by simp; omega
    rw [a0, a1, a2, show 32 - m + i - n = i by omega]
    simp
  · have a0 : decide (i < m) = false := by simpa using h1
    have a1 : decide (i - m < n) = true := by simp; omega
    have a2 : decide (i < 32) = true := by simpa using hi
    rw [a0, a1, a2, show 32 - n + (i - m) = i by omega]
    simp
theorem unq_qr (s : List (BitVec 32)) (a b c d : Nat) (hs : s.length = 16) (ha : a < 16) (hb : b < 16) (hc : c < 16) (hd : d < 16) (hab : a ≠ b) (hac : a ≠ c) (had : a ≠ d) (hbc : b ≠ c) (hbd : b ≠ d) (hcd : c ≠ d) : unq (qr s a b c d) a b c d = s := by
  unfold unq qr
  rw [un_mix 7 25 (fun x => rot_back 7 25 rfl (by omega) (by omega) x) _ c d b (by simp only [mixS_length]; omega) (by simp only [mixS_length]; omega) (by omega) hcd (by omega)]
  rw [un_mix 8 24 (fun x => rot_back 8 24 rfl (by omega) (by omega) x) _ a b d (by simp only [mixS_length]; omega) (by simp only [mixS_length]; omega) (by omega) hab (by omega)]
  rw [un_mix 12 20 (fun x => rot_back 12 20 rfl (by omega) (by omega) x) _ c d b (by simp only [mixS_length]; omega) (by simp only [mixS_length]; omega) (by omega) hcd (by omega)]
  rw [un_mix 16 16 (fun x => rot_back 16 16 rfl (by omega) (by omega) x) _ a b d (by omega) (by omega) (by omega) hab (by omega)]

theorem undo_any (g : Nat) (t : TypeId) (s : List (BitVec 32)) (a b c d : Nat) (w : World) (hs : s.length = 16) (hg : w.heap[g]? = some (.cells (enc (qr s a b c d)) t (0,0)))
    (ha : a < 16) (hb : b < 16) (hc : c < 16) (hd : d < 16) (hab : a ≠ b) (hac : a ≠ c) (had : a ≠ d) (hbc : b ≠ c) (hbd : b ≠ d) (hcd : c ≠ d) :
    Calls Try.prog 13 #[.pointer (some ⟨g, 0, none⟩), .int .i64 a, .int .i64 b, .int .i64 c, .int .i64 d] w fun e w' => e = .returned (.tuple #[]) ∧ Mod (fun x => x = g) w w' ∧ w'.heap[g]? = some (.cells (enc s) t (0,0)) := by
  refine (undo_steps g t (qr s a b c d) a b c d w (by rw [qr_length, hs]) hg (by omega) (by omega) (by omega) (by omega)).mono ?_
  rintro e w' ⟨h1, h2, h3⟩
  refine ⟨h1, h2, ?_⟩
  have h := unq_qr s a b c d hs ha hb hc hd hab hac had hbc hbd hcd
  unfold unq at h
  rw [h] at h3
  exact h3
end Go.Proofs.Ytndfgjajpmccjaa
