/-
  (*chacha.state).words: bytes into words, the lowest first.
-/
import Derived.Test.YtbiijcljpgannaaDf
import Derived.Test.YtbiijcljpgannaaQt
namespace Go.Proofs.Ytbiijcljpgannaa.Cc
open Go Go.RowKit

/-- The words behind k bytes. -/
def wordsTo (s : List (BitVec 32)) (at' : Nat) (bs : List (BitVec 8)) : Nat → List (BitVec 32)
  | 0 => s
  | k + 1 => (wordsTo s at' bs k).set (at' + k / 4) ((wordsTo s at' bs k).getD (at' + k / 4) 0 ||| ((bs.getD k 0).setWidth 32 <<< (k % 4 * 8)))
theorem wordsTo_length (s : List (BitVec 32)) (at' : Nat) (bs : List (BitVec 8)) (k : Nat) : (wordsTo s at' bs k).length = s.length := by
  induction k with
  | zero => rfl
  | succ k ih => simp [wordsTo, ih]

theorem shl_byte (x : BitVec 32) (c : BitVec 8) (r : Nat) (p : Nat) (hp : p = 2 ^ r) (hle : p ≤ 16777216) : bits .or .u32 (x.toNat : Int) ((c.toNat : Int) * (p : Nat)) = ((x ||| (c.setWidth 32 <<< r)).toNat : Int) := by
  have h1 : ((c.toNat : Int) * (p : Nat)) = ((c.setWidth 32 <<< r).toNat : Int) := by
    have hc := c.isLt
    have : c.toNat * p ≤ 255 * 16777216 := Nat.mul_le_mul (by omega) hle
    rw [BitVec.toNat_shiftLeft, Nat.shiftLeft_eq, BitVec.toNat_setWidth, Nat.mod_eq_of_lt (a := c.toNat) (by omega), ← hp, Nat.mod_eq_of_lt (by omega), Int.natCast_mul]
  rw [h1, bits_or32]
theorem bits_or_byte (x : BitVec 32) (c : BitVec 8) : bits .or .u32 (x.toNat : Int) (c.toNat : Int) = ((x ||| (c.setWidth 32 <<< 0)).toNat : Int) := by
  have h1 : (c.toNat : Int) = ((c.setWidth 32 <<< 0).toNat : Int) := by
    rw [BitVec.shiftLeft_zero, BitVec.toNat_setWidth, Nat.mod_eq_of_lt (a := c.toNat) (by have := c.isLt; omega)]
  rw [h1, bits_or32]

theorem words_any (g : Nat) (t : TypeId) (s : List (BitVec 32)) (at' : Nat) (bs : List (BitVec 8)) (bb bo cap : Nat) (w : World) (hs : s.length = 16) (hg : w.heap[g]? = some (.cells (enc s) t (0,0)))
    (hat : 4 * at' + bs.length ≤ 64) (hb : ∀ i, i < bs.length → w.cell? ⟨bb, bo + i, none⟩ = some (.int .u8 ((bs.getD i 0).toNat : Int))) (hbg : bb ≠ g) :
    Calls Try.prog 18 #[.pointer (some ⟨g, 0, none⟩), .int .i64 at', .slice (some ⟨bb, bo, none⟩) bs.length cap] w fun e w' => e = .returned (.tuple #[]) ∧ Mod (fun x => x = g) w w' ∧ w'.heap[g]? = some (.cells (enc (wordsTo s at' bs bs.length)) t (0,0)) := by
  have hlt := lt_of_heap hg
  replace hs := Lib.hid hs
  go_enter Try.func18, Try.ntmps18
  go_wp2
  go_loopw [10] (fun i wr => ∃ k : Nat, k ≤ bs.length ∧ i = .int .i64 k ∧ Mod (fun x => x = g) w wr ∧ wr.heap[g]? = some (.cells (enc (wordsTo s at' bs k)) t (0,0))) (fun i _ => bs.length - (intOf i).toNat)
  case atStart => exact ⟨0, Nat.zero_le _, rfl, Mod.refl _ w, hg⟩
  case round =>
    obtain ⟨k, hk8, rfl, hM, hgr⟩ := hrel
    by_cases hlt : k < bs.length
    · have hc : wr.cell? ⟨bb, bo + k, none⟩ = some (.int .u8 ((bs.getD k 0).toNat : Int)) := by
        rw [← hb k hlt]; exact World.cell?_of_block (hM.block bb (block_lt_of_cell (hb k hlt)) hbg)
      obtain ⟨q, r, hkq, hr⟩ : ∃ q r, k = 4 * q + r ∧ r < 4 := ⟨k / 4, k % 4, by omega, by omega⟩
      have hq : (k : Int) / 4 = (q : Nat) := by omega
      have ha : (at' : Int) + (q : Int) < 16 := by omega
      have hl : at' + q < (wordsTo s at' bs k).length := by rw [wordsTo_length, hs.out]; omega
      have cg : wr.cell? ⟨g, at' + q, none⟩ = some (.int .u32 (((wordsTo s at' bs k).getD (at' + q) 0).toNat : Int)) := by rw [cell_of_row _ _ _ _ _ _ hgr]; exact enc_get hl
      have fg := frozen_of_row wr g (at' + q) _ _ hgr
      have H : ∀ (nq m : Nat) (v : Int), k % 4 * 8 = m → v = (((wordsTo s at' bs k).getD (at' + q) 0 ||| ((bs.getD k 0).setWidth 32 <<< m)).toNat : Int) →
          Mod (fun x => x = g) w ((wr.drewN nq).setCell ⟨g, at' + q, none⟩ (.int .u32 v)) ∧ ((wr.drewN nq).setCell ⟨g, at' + q, none⟩ (.int .u32 v)).heap[g]? = some (.cells (enc (wordsTo s at' bs (k + 1))) t (0,0)) := by
        intro nq m v h1 h2
        have e : (wr.drewN nq).setCell ⟨g, at' + q, none⟩ (.int .u32 v) = (wr.setRow g (enc (wordsTo s at' bs (k + 1)))).drewN nq := by
          rw [setCell_row _ _ _ _ _ _ (show (wr.drewN nq).heap[g]? = _ from hgr), h2]
          exact congrArg (fun z => (wr.setRow g z).drewN nq) (by rw [wordsTo, show k / 4 = q by omega, h1]; exact enc_set _ _ _)
        rw [e]
        exact ⟨(hM.setRow (fun _ => rfl) _).drewN nq, setRow_heap _ _ _ _ _ _ hgr⟩
      generalize (wordsTo s at' bs k).getD (at' + q) 0 = x at *
      generalize bs.getD k 0 = c at *
      replace H := Lib.hid H
      replace hkq := Lib.hid hkq
      clear hb hgr hl hs hM
      have h4 : r = 0 ∨ r = 1 ∨ r = 2 ∨ r = 3 := by omega
      rcases h4 with rfl | rfl | rfl | rfl
      · have er : (k : Int) % 4 = 0 := by have := hkq.out; omega
        go_wp2
        refine region_qtail 17 (by kernel_rfl) (by kernel_rfl) ?_
        simp only [List.take_succ_cons, List.take_zero, List.drop_succ_cons, List.drop_zero]
        repeat (go_big_quiet_step (fail))
        refine wpQuiet_nil ?_
        rintro _ ⟨nq, rfl⟩
        go_wp2
        go_roundw
        case rel => exact ⟨k + 1, by omega, by go_num, H.out nq 0 _ (by have := hkq.out; omega) (bits_or_byte x c)⟩
        case measure => simp [intOf]; omega
      · have er : (k : Int) % 4 = 1 := by have := hkq.out; omega
        go_wp2
        refine region_qtail 17 (by kernel_rfl) (by kernel_rfl) ?_
        simp only [List.take_succ_cons, List.take_zero, List.drop_succ_cons, List.drop_zero]
        repeat (go_big_quiet_step (fail))
        refine wpQuiet_nil ?_
        rintro _ ⟨nq, rfl⟩
        go_wp2
        go_roundw
        case rel => exact ⟨k + 1, by omega, by go_num, H.out nq 8 _ (by have := hkq.out; omega) (shl_byte x c 8 256 rfl (by omega))⟩
        case measure => simp [intOf]; omega
      · have er : (k : Int) % 4 = 2 := by have := hkq.out; omega
        go_wp2
        refine region_qtail 17 (by kernel_rfl) (by kernel_rfl) ?_
        simp only [List.take_succ_cons, List.take_zero, List.drop_succ_cons, List.drop_zero]
        repeat (go_big_quiet_step (fail))
        refine wpQuiet_nil ?_
        rintro _ ⟨nq, rfl⟩
        go_wp2
        go_roundw
        case rel => exact ⟨k + 1, by omega, by go_num, H.out nq 16 _ (by have := hkq.out; omega) (shl_byte x c 16 65536 rfl (by omega))⟩
        case measure => simp [intOf]; omega
      · have er : (k : Int) % 4 = 3 := by have := hkq.out; omega
        go_wp2
        refine region_qtail 17 (by kernel_rfl) (by kernel_rfl) ?_
        simp only [List.take_succ_cons, List.take_zero, List.drop_succ_cons, List.drop_zero]
        repeat (go_big_quiet_step (fail))
        refine wpQuiet_nil ?_
        rintro _ ⟨nq, rfl⟩
        go_wp2
        go_roundw
        case rel => exact ⟨k + 1, by omega, by go_num, H.out nq 24 _ (by have := hkq.out; omega) (shl_byte x c 24 16777216 rfl (by omega))⟩
        case measure => simp [intOf]; omega
    · obtain rfl : k = bs.length := by omega
      go_wp2
      go_end0
      exact ⟨rfl, hM, hgr⟩
theorem words_at (n : Nat) (g : Nat) (t : TypeId) (s : List (BitVec 32)) (at' : Nat) (bs : List (BitVec 8)) (bb bo cap : Nat) (w : World) (hn : bs.length = n) (hs : s.length = 16) (hg : w.heap[g]? = some (.cells (enc s) t (0,0)))
    (hat : 4 * at' + n ≤ 64) (hb : ∀ i, i < n → w.cell? ⟨bb, bo + i, none⟩ = some (.int .u8 ((bs.getD i 0).toNat : Int))) (hbg : bb ≠ g) :
    Calls Try.prog 18 #[.pointer (some ⟨g, 0, none⟩), .int .i64 at', .slice (some ⟨bb, bo, none⟩) n cap] w fun e w' => e = .returned (.tuple #[]) ∧ Mod (fun x => x = g) w w' ∧ w'.heap[g]? = some (.cells (enc (wordsTo s at' bs n)) t (0,0)) := by
  subst hn
  exact words_any g t s at' bs bb bo cap w hs hg hat hb hbg
end Go.Proofs.Ytbiijcljpgannaa.Cc
