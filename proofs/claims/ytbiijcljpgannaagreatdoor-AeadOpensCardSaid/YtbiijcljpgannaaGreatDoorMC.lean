/- Several small texts in one: Dw Da Df Dv Db. -/
import Derived.Test.YtbiijcljpgannaaGreatDoorMA
import Derived.Test.YtbiijcljpgannaaGreatDoorProg
import Derived.Lib.SlBytesConst

namespace Go.Proofs.YtbiijcljpgannaaGreatDoor.Cc
set_option maxRecDepth 100000
open Go Go.RowKit

theorem bits_or32 (a b : BitVec 32) : bits .or .u32 (a.toNat : Int) (b.toNat : Int) = ((a ||| b).toNat : Int) := by
  rw [u32_or_nat _ _ a.isLt b.isLt, BitVec.toNat_or]
theorem bits_xor32 (a b : BitVec 32) : bits .xor .u32 (a.toNat : Int) (b.toNat : Int) = ((a ^^^ b).toNat : Int) := by
  rw [u32_xor_nat _ _ a.isLt b.isLt, BitVec.toNat_xor]
theorem add32 (a b : BitVec 32) : ((a.toNat : Int) + (b.toNat : Int)) % 4294967296 = ((a + b).toNat : Int) := by
  rw [BitVec.toNat_add]; omega
theorem rot32 (x : BitVec 32) (p q : Nat) (n m : Nat) (hn : n < 32) (hm : m = 32 - n) (hp : p = 2 ^ n) (hq : q = 2 ^ m) : bits .or .u32 ((x.toNat : Int) * (p : Nat) % 4294967296) ((x.toNat : Int) / (q : Nat)) = ((x.rotateLeft n).toNat : Int) := by
  have h1 : ((x.toNat : Int) * (p : Nat) % 4294967296) = ((x <<< n).toNat : Int) := by
    rw [BitVec.toNat_shiftLeft, Nat.shiftLeft_eq, hp, Int.natCast_emod, Int.natCast_mul]; rfl
  have h2 : ((x.toNat : Int) / (q : Nat)) = ((x >>> m).toNat : Int) := by
    rw [BitVec.toNat_ushiftRight, Nat.shiftRight_eq_div_pow, hq]; rfl
  rw [h1, h2, bits_or32, BitVec.rotateLeft_def, Nat.mod_eq_of_lt hn, hm]

/-- A word as a value; words as cells. -/
def W (x : BitVec 32) : Value := .int .u32 (x.toNat : Int)
def enc (s : List (BitVec 32)) : Array Value := (s.map W).toArray
theorem enc_get {s : List (BitVec 32)} {i : Nat} (hi : i < s.length) : (enc s)[i]? = some (.int .u32 ((s.getD i 0).toNat : Int)) := by
  simp [enc, hi, W]
theorem enc_set (s : List (BitVec 32)) (i : Nat) (x : BitVec 32) : (enc s).setIfInBounds i (W x) = enc (s.set i x) := by
  simp [enc]

theorem rot_any (n : Nat) (hn : n = 16 ∨ n = 12 ∨ n = 8 ∨ n = 7) (v : Int) (x : BitVec 32) (hv : v = x.toNat) (w : World) : Calls Tryz.prog 129 #[.int .u32 v, .int .i64 n] w fun e w' => e = .returned (W (x.rotateLeft n)) ∧ w' = w := by
  subst hv
  unfold W
  rcases hn with rfl | rfl | rfl | rfl
  · have h1 : bits .and .u64 16 31 = 16 := by kernel_rfl
    have H := rot32 x 65536 65536 16 16 (by omega) rfl rfl rfl
    replace H := Lib.hid H
    go_enter Tryz.func129, Tryz.ntmps129
    go_wp2
    go_ret
    exact ⟨ret_int H.out, rfl⟩
  · have h1 : bits .and .u64 12 31 = 12 := by kernel_rfl
    have H := rot32 x 4096 1048576 12 20 (by omega) rfl rfl rfl
    replace H := Lib.hid H
    go_enter Tryz.func129, Tryz.ntmps129
    go_wp2
    go_ret
    exact ⟨ret_int H.out, rfl⟩
  · have h1 : bits .and .u64 8 31 = 8 := by kernel_rfl
    have H := rot32 x 256 16777216 8 24 (by omega) rfl rfl rfl
    replace H := Lib.hid H
    go_enter Tryz.func129, Tryz.ntmps129
    go_wp2
    go_ret
    exact ⟨ret_int H.out, rfl⟩
  · have h1 : bits .and .u64 7 31 = 7 := by kernel_rfl
    have H := rot32 x 128 33554432 7 25 (by omega) rfl rfl rfl
    replace H := Lib.hid H
    go_enter Tryz.func129, Tryz.ntmps129
    go_wp2
    go_ret
    exact ⟨ret_int H.out, rfl⟩
end Go.Proofs.YtbiijcljpgannaaGreatDoor.Cc

namespace Go.Proofs.YtbiijcljpgannaaGreatDoor.Cc
set_option maxRecDepth 100000
open Go Go.RowKit

/-- What mix does to a state. -/
def mixS (n : Nat) (s : List (BitVec 32)) (i j k : Nat) : List (BitVec 32) :=
  (s.set i (s.getD i 0 + s.getD j 0)).set k ((s.getD k 0 ^^^ (s.getD i 0 + s.getD j 0)).rotateLeft n)
theorem mixS_length (n : Nat) (s : List (BitVec 32)) (i j k : Nat) : (mixS n s i j k).length = s.length := by simp [mixS]

set_option maxHeartbeats 400000 in
theorem mix_any (n : Nat) (hn : n = 16 ∨ n = 12 ∨ n = 8 ∨ n = 7) (g : Nat) (t : TypeId) (s : List (BitVec 32)) (i j k : Nat) (w : World) (hg : w.heap[g]? = some (.cells (enc s) t (0,0)))
    (hi : i < s.length) (hj : j < s.length) (hk : k < s.length) (hik : i ≠ k) :
    Calls Tryz.prog 120 #[.pointer (some ⟨g, i, none⟩), .pointer (some ⟨g, j, none⟩), .pointer (some ⟨g, k, none⟩), .int .i64 n] w fun e w' => e = .returned (.tuple #[]) ∧ ∃ m, w' = (w.setRow g (enc (mixS n s i j k))).drewN m := by
  unfold mixS
  have ci : w.cell? ⟨g, i, none⟩ = some (.int .u32 ((s.getD i 0).toNat : Int)) := by rw [cell_of_row _ _ _ _ _ _ hg]; exact enc_get hi
  have cj : w.cell? ⟨g, j, none⟩ = some (.int .u32 ((s.getD j 0).toNat : Int)) := by rw [cell_of_row _ _ _ _ _ _ hg]; exact enc_get hj
  have hz : (s.set i (s.getD i 0 + s.getD j 0)).getD k 0 = s.getD k 0 := by simp [List.getElem?_set_ne hik]
  have hz' : (s.set i (s.getD i 0 + s.getD j 0)).getD i 0 = s.getD i 0 + s.getD j 0 := by simp [hi]
  generalize s.getD i 0 = x at *
  generalize s.getD j 0 = y at *
  generalize s.getD k 0 = z at *
  have fi := frozen_of_row w g i _ _ hg
  obtain ⟨w1, hw1⟩ : ∃ w1, w1 = w.setRow g (enc (s.set i (x + y))) := ⟨_, rfl⟩
  have hg1 : w1.heap[g]? = some (.cells (enc (s.set i (x + y))) t (0,0)) := by rw [hw1]; exact setRow_heap w g _ _ t _ hg
  have ci1 : w1.cell? ⟨g, i, none⟩ = some (.int .u32 ((x + y).toNat : Int)) := by rw [cell_of_row _ _ _ _ _ _ hg1]; exact (enc_get (by simpa using hi)).trans (by rw [hz'])
  have ck1 : w1.cell? ⟨g, k, none⟩ = some (.int .u32 (z.toNat : Int)) := by rw [cell_of_row _ _ _ _ _ _ hg1]; exact (enc_get (by simpa using hk)).trans (by rw [hz])
  have fk1 := frozen_of_row w1 g k _ _ hg1
  have H1 : w.setCell ⟨g, i, none⟩ (.int .u32 (((x.toNat : Int) + (y.toNat : Int)) % 4294967296)) = w1 := by
    rw [add32, hw1, setCell_row w g i _ t _ hg, ← enc_set]; rfl
  have H2 : ∀ v, w1.setCell ⟨g, k, none⟩ (W v) = w.setRow g (enc ((s.set i (x + y)).set k v)) := by
    intro v; rw [setCell_row w1 g k _ t _ hg1, hw1, setRow_setRow, enc_set]
  replace H1 := Lib.hid H1
  replace H2 := Lib.hid H2
  clear hg hi hj hk hg1 hw1 hz hz'
  go_enter Tryz.func120, Tryz.ntmps120
  go_wp2_with fail
  refine region_tail 8 (by kernel_rfl) (by kernel_rfl) ?_
  simp only [List.take_succ_cons, List.take_zero, List.drop_succ_cons, List.drop_zero]
  repeat still_step
  refine wpStill_nil ?_
  go_wp2
  rw [H1.out]
  refine region_tail 11 (by kernel_rfl) (by kernel_rfl) ?_
  simp only [List.take_succ_cons, List.take_zero, List.drop_succ_cons, List.drop_zero]
  repeat still_step
  still_call (rot_any n hn _ (z ^^^ (x + y)) (bits_xor32 _ _) _)
  repeat still_step
  refine wpStill_nil ?_
  unfold W
  go_wp2
  go_end0
  refine ⟨rfl, 2, ?_⟩
  rw [← H2.out]
  rfl

theorem mix_mod (n : Nat) (hn : n = 16 ∨ n = 12 ∨ n = 8 ∨ n = 7) (g : Nat) (t : TypeId) (s : List (BitVec 32)) (i j k : Nat) (w : World) (hg : w.heap[g]? = some (.cells (enc s) t (0,0)))
    (hi : i < s.length) (hj : j < s.length) (hk : k < s.length) (hik : i ≠ k) :
    Calls Tryz.prog 120 #[.pointer (some ⟨g, i, none⟩), .pointer (some ⟨g, j, none⟩), .pointer (some ⟨g, k, none⟩), .int .i64 n] w fun e w' => e = .returned (.tuple #[]) ∧ Mod (· = g) w w' ∧ w'.heap[g]? = some (.cells (enc (mixS n s i j k)) t (0,0)) := by
  refine (mix_any n hn g t s i j k w hg hi hj hk hik).mono ?_
  rintro e w' ⟨rfl, m, rfl⟩
  exact ⟨rfl, ((Mod.refl (fun x => x = g) w).setRow (fun _ => rfl) _).drewN m, setRow_heap w g _ _ t _ hg⟩
end Go.Proofs.YtbiijcljpgannaaGreatDoor.Cc

namespace Go.Proofs.YtbiijcljpgannaaGreatDoor.Cc
set_option maxRecDepth 100000
open Go Go.RowKit

def fA (k : Nat) : Nat := [0, 1, 2, 3, 0, 1, 2, 3].getD k 0
def fB (k : Nat) : Nat := [4, 5, 6, 7, 5, 6, 7, 4].getD k 0
def fC (k : Nat) : Nat := [8, 9, 10, 11, 10, 11, 8, 9].getD k 0
def fD (k : Nat) : Nat := [12, 13, 14, 15, 15, 12, 13, 14].getD k 0
def foursV : Array Value := #[.int .i64 0, .int .i64 4, .int .i64 8, .int .i64 12, .int .i64 1, .int .i64 5, .int .i64 9, .int .i64 13, .int .i64 2, .int .i64 6, .int .i64 10, .int .i64 14, .int .i64 3, .int .i64 7, .int .i64 11, .int .i64 15, .int .i64 0, .int .i64 5, .int .i64 10, .int .i64 15, .int .i64 1, .int .i64 6, .int .i64 11, .int .i64 12, .int .i64 2, .int .i64 7, .int .i64 8, .int .i64 13, .int .i64 3, .int .i64 4, .int .i64 9, .int .i64 14]

def qr (s : List (BitVec 32)) (a b c d : Nat) : List (BitVec 32) := mixS 7 (mixS 8 (mixS 12 (mixS 16 s a b d) c d b) a b d) c d b
theorem qr_length (s : List (BitVec 32)) (a b c d : Nat) : (qr s a b c d).length = s.length := by simp [qr, mixS_length]
def qrs : Nat → List (BitVec 32) → List (BitVec 32)
  | 0, s => s
  | k + 1, s => qr (qrs k s) (fA k) (fB k) (fC k) (fD k)
theorem qrs_length (k : Nat) (s : List (BitVec 32)) : (qrs k s).length = s.length := by
  induction k with
  | zero => rfl
  | succ k ih => simp [qrs, qr_length, ih]

theorem fours_any (w : World) : Calls Tryz.prog 104 #[] w fun e w' => e = .returned (.agg foursV) ∧ Mod (fun _ => False) w w' := by
  go_enter Tryz.func104, Tryz.ntmps104
  go_wp2_with (refine wpList_store_row rfl 159 _ _ rfl _ foursV rfl rfl _ _ (heap_alloc_new w _) (by kernel_rfl) (by kernel_rfl) (by kernel_rfl) ?_)
  refine bodyPost_ret (results_cell_row Tryz.results104 _ _ w.heap.size _ foursV (0,0) _ rfl (setRow_heap _ _ _ _ _ _ (heap_alloc_new w _)) Tryz.underlying159 rfl (by kernel_rfl)) rfl ⟨rfl, ?_⟩
  exact ((Mod.refl (fun _ => False) w).alloc _).setRow (fun h => by omega) _

theorem four_at (k : Nat) (hk : k < 8) (w : World) : (Instr.index 159 (.agg foursV) (.int .i64 k)).run Tryz.prog w = .ok (.agg #[.int .i64 (fA k), .int .i64 (fB k), .int .i64 (fC k), .int .i64 (fD k)]) w := by
  rcases k with _ | _ | _ | _ | _ | _ | _ | _ | k
  · kernel_rfl
  · kernel_rfl
  · kernel_rfl
  · kernel_rfl
  · kernel_rfl
  · kernel_rfl
  · kernel_rfl
  · kernel_rfl
  · omega
theorem f_lt : ∀ k, k < 8 → fA k < 16 ∧ fB k < 16 ∧ fC k < 16 ∧ fD k < 16 ∧ fA k ≠ fD k ∧ fC k ≠ fB k := by decide

theorem further_any (g : Nat) (t : TypeId) (s : List (BitVec 32)) (w : World) (hs : s.length = 16) (hg : w.heap[g]? = some (.cells (enc s) t (0,0))) :
    Calls Tryz.prog 103 #[.pointer (some ⟨g, 0, none⟩), .agg foursV] w fun e w' => e = .returned (.tuple #[]) ∧ Mod (· = g) w w' ∧ w'.heap[g]? = some (.cells (enc (qrs 8 s)) t (0,0)) := by
  have hlt := lt_of_heap hg
  have h48 := Tryz.underlying159
  go_enter Tryz.func103, Tryz.ntmps103
  go_wp2_with (refine wpList_load_row rfl 159 _ rfl _ rfl _ _ (0,0) _ (heap_alloc_new w _) Tryz.underlying159 rfl (by kernel_rfl) ?_)
  go_loopw [11] (fun i wr => ∃ k : Nat, k ≤ 8 ∧ i = .int .i64 k ∧ Mod (fun x => x = g) w wr ∧ wr.heap[g]? = some (.cells (enc (qrs k s)) t (0,0))) (fun i _ => 8 - (intOf i).toNat)
  case atStart => exact ⟨0, Nat.zero_le _, rfl, (Mod.refl (fun x => x = g) w).alloc _, (Below.heap_alloc _ _ _ hlt).trans hg⟩
  case round =>
    obtain ⟨k, hk8, rfl, hM, hgr⟩ := hrel
    have hltr := lt_of_heap hgr
    by_cases hlt : k < 8
    · have h4 := four_at k hlt
      obtain ⟨fa, fb, fc, fd, fe, ff⟩ := f_lt k hlt
      have ga : (fA k : Int) < 16 := by omega
      have gb : (fB k : Int) < 16 := by omega
      have gc : (fC k : Int) < 16 := by omega
      have gd : (fD k : Int) < 16 := by omega
      have hl : (qrs k s).length = 16 := by rw [qrs_length, hs]
      replace hl := Lib.hid hl
      replace hs := Lib.hid hs
      clear h48 hk8
      go_wp2
      go_quiet (fail)
      go_wp2_with fail
      refine calls_world ?_
      intro w1 hw1
      have hg1 : w1.heap[g]? = some (.cells (enc (qrs k s)) t (0,0)) := by rw [hw1]; exact (Below.heap_alloc _ _ _ hltr).trans hgr
      have hM1 : Mod (fun x => x = g) w w1 := by rw [hw1]; exact (hM.alloc _).drewN _
      replace hw1 := Lib.hid hw1
      clear hgr hM
      refine (mix_mod 16 (.inl rfl) g t _ _ _ _ _ hg1 (by rw [hl.out]; exact fa) (by rw [hl.out]; exact fb) (by rw [hl.out]; exact fd) fe).mono ?_
      rintro e w2 ⟨rfl, hM2, hg2⟩
      replace hM2 := hM1.trans hM2
      clear hg1 hM1
      go_wp2_with fail
      refine (mix_mod 12 (.inr (.inl rfl)) g t _ _ _ _ _ hg2 (by rw [mixS_length, hl.out]; exact fc) (by rw [mixS_length, hl.out]; exact fd) (by rw [mixS_length, hl.out]; exact fb) ff).mono ?_
      rintro e w3 ⟨rfl, hM3, hg3⟩
      replace hM3 := hM2.trans hM3
      clear hg2 hM2
      go_wp2_with fail
      refine (mix_mod 8 (.inr (.inr (.inl rfl))) g t _ _ _ _ _ hg3 (by rw [mixS_length, mixS_length, hl.out]; exact fa) (by rw [mixS_length, mixS_length, hl.out]; exact fb) (by rw [mixS_length, mixS_length, hl.out]; exact fd) fe).mono ?_
      rintro e w4 ⟨rfl, hM4, hg4⟩
      replace hM4 := hM3.trans hM4
      clear hg3 hM3
      go_wp2_with fail
      refine (mix_mod 7 (.inr (.inr (.inr rfl))) g t _ _ _ _ _ hg4 (by rw [mixS_length, mixS_length, mixS_length, hl.out]; exact fc) (by rw [mixS_length, mixS_length, mixS_length, hl.out]; exact fd) (by rw [mixS_length, mixS_length, mixS_length, hl.out]; exact fb) ff).mono ?_
      rintro e w5 ⟨rfl, hM5, hg5⟩
      replace hM5 := hM4.trans hM5
      clear hg4 hM4
      go_wp2
      go_roundw
      case rel => exact ⟨k + 1, by omega, by go_num, hM5, hg5⟩
      case measure => simp [intOf]; omega
    · obtain rfl : k = 8 := by omega
      go_wp2
      go_end0
      exact ⟨rfl, hM, hgr⟩
end Go.Proofs.YtbiijcljpgannaaGreatDoor.Cc

namespace Go.Proofs.YtbiijcljpgannaaGreatDoor.Cc
set_option maxRecDepth 100000
open Go Go.RowKit

/-- The words behind k bytes. -/
def wordsTo (s : List (BitVec 32)) (at' : Nat) (bs : List (BitVec 8)) : Nat → List (BitVec 32)
  | 0 => s
  | k + 1 => (wordsTo s at' bs k).set (at' + k / 4) ((wordsTo s at' bs k).getD (at' + k / 4) 0 ||| ((bs.getD k 0).setWidth 32 <<< (k % 4 * 8)))
theorem wordsTo_length (s : List (BitVec 32)) (at' : Nat) (bs : List (BitVec 8)) (k : Nat) : (wordsTo s at' bs k).length = s.length := by
  induction k with
  | zero => rfl
  | succ k ih => simp [wordsTo, ih]

theorem shl_byte (x : BitVec 32) (c : BitVec 8) (r : Nat) (p : Nat) (hp : p = 2 ^ r) (hle : p ≤ 16777216) : bits .or .u32 (x.toNat : Int) ((c.toNat : Int) * (p : Nat)) = ((x ||| (c.setWidth 32 <<< r)).toNat : Int) := by
  have h1 : ((c.toNat : Int) * (p : Nat)) = ((c.setWidth 32 <<< r).toNat : Int) := by
    have hc := c.isLt
    have : c.toNat * p ≤ 255 * 16777216 := Nat.mul_le_mul (by omega) hle
    rw [BitVec.toNat_shiftLeft, Nat.shiftLeft_eq, BitVec.toNat_setWidth, Nat.mod_eq_of_lt (a := c.toNat) (by omega), ← hp, Nat.mod_eq_of_lt (by omega), Int.natCast_mul]
  rw [h1, bits_or32]
theorem bits_or_byte (x : BitVec 32) (c : BitVec 8) : bits .or .u32 (x.toNat : Int) (c.toNat : Int) = ((x ||| (c.setWidth 32 <<< 0)).toNat : Int) := by
  have h1 : (c.toNat : Int) = ((c.setWidth 32 <<< 0).toNat : Int) := by
    rw [BitVec.shiftLeft_zero, BitVec.toNat_setWidth, Nat.mod_eq_of_lt (a := c.toNat) (by have := c.isLt; omega)]
  rw [h1, bits_or32]

theorem words_any (g : Nat) (t : TypeId) (s : List (BitVec 32)) (at' : Nat) (bs : List (BitVec 8)) (bb bo cap : Nat) (w : World) (hs : s.length = 16) (hg : w.heap[g]? = some (.cells (enc s) t (0,0)))
    (hat : 4 * at' + bs.length ≤ 64) (hb : ∀ i, i < bs.length → w.cell? ⟨bb, bo + i, none⟩ = some (.int .u8 ((bs.getD i 0).toNat : Int))) (hbg : bb ≠ g) :
    Calls Tryz.prog 102 #[.pointer (some ⟨g, 0, none⟩), .int .i64 at', .slice (some ⟨bb, bo, none⟩) bs.length cap] w fun e w' => e = .returned (.tuple #[]) ∧ Mod (fun x => x = g) w w' ∧ w'.heap[g]? = some (.cells (enc (wordsTo s at' bs bs.length)) t (0,0)) := by
  have hlt := lt_of_heap hg
  replace hs := Lib.hid hs
  go_enter Tryz.func102, Tryz.ntmps102
  go_wp2
  go_loopw [10] (fun i wr => ∃ k : Nat, k ≤ bs.length ∧ i = .int .i64 k ∧ Mod (fun x => x = g) w wr ∧ wr.heap[g]? = some (.cells (enc (wordsTo s at' bs k)) t (0,0))) (fun i _ => bs.length - (intOf i).toNat)
  case atStart => exact ⟨0, Nat.zero_le _, rfl, Mod.refl _ w, hg⟩
  case round =>
    obtain ⟨k, hk8, rfl, hM, hgr⟩ := hrel
    by_cases hlt : k < bs.length
    · have hc : wr.cell? ⟨bb, bo + k, none⟩ = some (.int .u8 ((bs.getD k 0).toNat : Int)) := by
        rw [← hb k hlt]; exact World.cell?_of_block (hM.block bb (block_lt_of_cell (hb k hlt)) hbg)
      obtain ⟨q, r, hkq, hr⟩ : ∃ q r, k = 4 * q + r ∧ r < 4 := ⟨k / 4, k % 4, by omega, by omega⟩
      have hq : (k : Int) / 4 = (q : Nat) := by omega
      have ha : (at' : Int) + (q : Int) < 16 := by omega
      have hl : at' + q < (wordsTo s at' bs k).length := by rw [wordsTo_length, hs.out]; omega
      have cg : wr.cell? ⟨g, at' + q, none⟩ = some (.int .u32 (((wordsTo s at' bs k).getD (at' + q) 0).toNat : Int)) := by rw [cell_of_row _ _ _ _ _ _ hgr]; exact enc_get hl
      have fg := frozen_of_row wr g (at' + q) _ _ hgr
      have H : ∀ (nq m : Nat) (v : Int), k % 4 * 8 = m → v = (((wordsTo s at' bs k).getD (at' + q) 0 ||| ((bs.getD k 0).setWidth 32 <<< m)).toNat : Int) →
          Mod (fun x => x = g) w ((wr.drewN nq).setCell ⟨g, at' + q, none⟩ (.int .u32 v)) ∧ ((wr.drewN nq).setCell ⟨g, at' + q, none⟩ (.int .u32 v)).heap[g]? = some (.cells (enc (wordsTo s at' bs (k + 1))) t (0,0)) := by
        intro nq m v h1 h2
        have e : (wr.drewN nq).setCell ⟨g, at' + q, none⟩ (.int .u32 v) = (wr.setRow g (enc (wordsTo s at' bs (k + 1)))).drewN nq := by
          rw [setCell_row _ _ _ _ _ _ (show (wr.drewN nq).heap[g]? = _ from hgr), h2]
          exact congrArg (fun z => (wr.setRow g z).drewN nq) (by rw [wordsTo, show k / 4 = q by omega, h1]; exact enc_set _ _ _)
        rw [e]
        exact ⟨(hM.setRow (fun _ => rfl) _).drewN nq, setRow_heap _ _ _ _ _ _ hgr⟩
      generalize (wordsTo s at' bs k).getD (at' + q) 0 = x at *
      generalize bs.getD k 0 = c at *
      replace H := Lib.hid H
      replace hkq := Lib.hid hkq
      clear hb hgr hl hs hM
      have h4 : r = 0 ∨ r = 1 ∨ r = 2 ∨ r = 3 := by omega
      rcases h4 with rfl | rfl | rfl | rfl
      · have er : (k : Int) % 4 = 0 := by have := hkq.out; omega
        go_wp2
        refine region_qtail 17 (by kernel_rfl) (by kernel_rfl) ?_
        simp only [List.take_succ_cons, List.take_zero, List.drop_succ_cons, List.drop_zero]
        repeat (go_big_quiet_step (fail))
        refine wpQuiet_nil ?_
        rintro _ ⟨nq, rfl⟩
        go_wp2
        go_roundw
        case rel => exact ⟨k + 1, by omega, by go_num, H.out nq 0 _ (by have := hkq.out; omega) (bits_or_byte x c)⟩
        case measure => simp [intOf]; omega
      · have er : (k : Int) % 4 = 1 := by have := hkq.out; omega
        go_wp2
        refine region_qtail 17 (by kernel_rfl) (by kernel_rfl) ?_
        simp only [List.take_succ_cons, List.take_zero, List.drop_succ_cons, List.drop_zero]
        repeat (go_big_quiet_step (fail))
        refine wpQuiet_nil ?_
        rintro _ ⟨nq, rfl⟩
        go_wp2
        go_roundw
        case rel => exact ⟨k + 1, by omega, by go_num, H.out nq 8 _ (by have := hkq.out; omega) (shl_byte x c 8 256 rfl (by omega))⟩
        case measure => simp [intOf]; omega
      · have er : (k : Int) % 4 = 2 := by have := hkq.out; omega
        go_wp2
        refine region_qtail 17 (by kernel_rfl) (by kernel_rfl) ?_
        simp only [List.take_succ_cons, List.take_zero, List.drop_succ_cons, List.drop_zero]
        repeat (go_big_quiet_step (fail))
        refine wpQuiet_nil ?_
        rintro _ ⟨nq, rfl⟩
        go_wp2
        go_roundw
        case rel => exact ⟨k + 1, by omega, by go_num, H.out nq 16 _ (by have := hkq.out; omega) (shl_byte x c 16 65536 rfl (by omega))⟩
        case measure => simp [intOf]; omega
      · have er : (k : Int) % 4 = 3 := by have := hkq.out; omega
        go_wp2
        refine region_qtail 17 (by kernel_rfl) (by kernel_rfl) ?_
        simp only [List.take_succ_cons, List.take_zero, List.drop_succ_cons, List.drop_zero]
        repeat (go_big_quiet_step (fail))
        refine wpQuiet_nil ?_
        rintro _ ⟨nq, rfl⟩
        go_wp2
        go_roundw
        case rel => exact ⟨k + 1, by omega, by go_num, H.out nq 24 _ (by have := hkq.out; omega) (shl_byte x c 24 16777216 rfl (by omega))⟩
        case measure => simp [intOf]; omega
    · obtain rfl : k = bs.length := by omega
      go_wp2
      go_end0
      exact ⟨rfl, hM, hgr⟩
theorem words_at (n : Nat) (g : Nat) (t : TypeId) (s : List (BitVec 32)) (at' : Nat) (bs : List (BitVec 8)) (bb bo cap : Nat) (w : World) (hn : bs.length = n) (hs : s.length = 16) (hg : w.heap[g]? = some (.cells (enc s) t (0,0)))
    (hat : 4 * at' + n ≤ 64) (hb : ∀ i, i < n → w.cell? ⟨bb, bo + i, none⟩ = some (.int .u8 ((bs.getD i 0).toNat : Int))) (hbg : bb ≠ g) :
    Calls Tryz.prog 102 #[.pointer (some ⟨g, 0, none⟩), .int .i64 at', .slice (some ⟨bb, bo, none⟩) n cap] w fun e w' => e = .returned (.tuple #[]) ∧ Mod (fun x => x = g) w w' ∧ w'.heap[g]? = some (.cells (enc (wordsTo s at' bs n)) t (0,0)) := by
  subst hn
  exact words_any g t s at' bs bb bo cap w hs hg hat hb hbg
end Go.Proofs.YtbiijcljpgannaaGreatDoor.Cc

namespace Go.Proofs.YtbiijcljpgannaaGreatDoor.Cc
set_option maxRecDepth 100000
open Go Go.RowKit

theorem enc_size (s : List (BitVec 32)) : (enc s).size = s.length := by simp [enc]
theorem enc_one (s : List (BitVec 32)) : (enc s).all (·.oneCell') = true := by simp [enc, W, Value.oneCell']
theorem enc_cell {w : World} {g : Nat} {t : TypeId} {s : List (BitVec 32)} {fr : Nat × Nat} (hg : w.heap[g]? = some (.cells (enc s) t fr)) {i : Nat} (hi : i < s.length) : w.cell? ⟨g, i, none⟩ = some (.int .u32 ((s.getD i 0).toNat : Int)) := by
  rw [cell_of_row _ _ _ _ _ _ hg]; exact enc_get hi

def sigma : List (BitVec 8) := [101, 120, 112, 97, 110, 100, 32, 51, 50, 45, 98, 121, 116, 101, 32, 107]
def fromS (key nonce : List (BitVec 8)) (count : BitVec 32) : List (BitVec 32) :=
  wordsTo ((wordsTo (wordsTo (List.replicate 16 0) 0 sigma 16) 4 key 32).set 12 count) 13 nonce 12
def rounds : Nat → List (BitVec 32) → List (BitVec 32)
  | 0, s => s
  | k + 1, s => qrs 8 (rounds k s)
theorem rounds_length (k : Nat) (s : List (BitVec 32)) : (rounds k s).length = s.length := by
  induction k with
  | zero => rfl
  | succ k ih => simp [rounds, qrs_length, ih]
theorem fromS_length (key nonce : List (BitVec 8)) (count : BitVec 32) : (fromS key nonce count).length = 16 := by simp [fromS, wordsTo_length]
def outAt (s f : List (BitVec 32)) (i : Nat) : BitVec 8 := ((s.getD (i / 4) 0 + f.getD (i / 4) 0) >>> (i % 4 * 8)).setWidth 8
def outTo (s f : List (BitVec 32)) : Nat → List (BitVec 8)
  | 0 => List.replicate 64 0
  | k + 1 => (outTo s f k).set k (outAt s f k)
theorem outTo_length (s f : List (BitVec 32)) (k : Nat) : (outTo s f k).length = 64 := by
  induction k with
  | zero => rfl
  | succ k ih => simp [outTo, ih]
def blockS (key nonce : List (BitVec 8)) (count : BitVec 32) : List (BitVec 8) := outTo (rounds 10 (fromS key nonce count)) (fromS key nonce count) 64

theorem byte_of (x y : BitVec 32) (r p : Nat) (hp : p = 2 ^ r) : (((x.toNat : Int) + (y.toNat : Int)) % 4294967296 / (p : Nat)) % 256 = ((((x + y) >>> r).setWidth 8 : BitVec 8).toNat : Int) := by
  rw [add32, BitVec.toNat_setWidth, BitVec.toNat_ushiftRight, Nat.shiftRight_eq_div_pow, ← hp, Int.natCast_emod, Int.natCast_ediv]
  rfl

attribute [local irreducible] outTo rounds fromS blockS wordsTo in
set_option maxHeartbeats 1000000 in
theorem block_any (key nonce : List (BitVec 8)) (hk : key.length = 32) (hn : nonce.length = 12) (count : BitVec 32) (w : World) :
    Calls Tryz.prog 69 #[.agg (encB key), .int .u32 (count.toNat : Int), .agg (encB nonce)] w fun e w' => e = .returned (.agg (encB (blockS key nonce count))) ∧ Mod (fun _ => False) w w' := by
  have kc := fun (w : World) (C : Array Value) (n c b : Nat) (h : b = w.heap.size) => conv_const (P := Tryz.prog) w 22 5 C n c b h Tryz.underlying22 Tryz.underlying5
  replace hk := Lib.hid hk
  replace hn := Lib.hid hn
  go_enter Tryz.func69, Tryz.ntmps69
  go_wp2_with fail
  refine calls_world ?_
  intro w1 hw1
  have s1 : w.heap.size + 5 ≤ w1.heap.size := by rw [hw1]; simp
  have m1 : Mod (fun _ => False) w w1 := by rw [hw1]; exact (((((Mod.refl _ w).alloc _).alloc _).alloc _).alloc _).alloc _
  have a1 : w1.heap[w.heap.size]? = some (.cells (encB key) 49 (0,0)) := by
    rw [hw1]
    rw [hp_old _ _ _ (by simp only [World.size_alloc]; omega), hp_old _ _ _ (by simp only [World.size_alloc]; omega), hp_old _ _ _ (by simp only [World.size_alloc]; omega), hp_old _ _ _ (by simp only [World.size_alloc]; omega), hp_new _ _ _ (by simp)]
  have b1 : w1.heap[w.heap.size + 1]? = some (.cells (encB nonce) 50 (0,0)) := by
    rw [hw1]
    rw [hp_old _ _ _ (by simp only [World.size_alloc]; omega), hp_old _ _ _ (by simp only [World.size_alloc]; omega), hp_old _ _ _ (by simp only [World.size_alloc]; omega), hp_new _ _ _ (by simp)]
  have c1 : w1.heap[w.heap.size + 1 + 1]? = some (.cells (encB (List.replicate 64 0)) 72 (0,0)) := by
    rw [hw1]
    rw [hp_old _ _ _ (by simp only [World.size_alloc]; omega), hp_old _ _ _ (by simp only [World.size_alloc]; omega), hp_new _ _ _ (by simp)]
    rfl
  have d1 : w1.heap[w.heap.size + 1 + 1 + 1]? = some (.cells (enc (List.replicate 16 0)) 155 (0,0)) := by
    rw [hw1]
    rw [hp_old _ _ _ (by simp only [World.size_alloc]; omega), hp_new _ _ _ (by simp)]
    rfl
  have e1 : w1.heap[w.heap.size + 1 + 1 + 1 + 1]? = some (.cells (encB sigma) 5 (16,17)) := by
    rw [hw1]
    rw [hp_new _ _ _ (by simp)]
    rfl
  clear hw1 kc
  refine (words_at 16 _ _ _ 0 sigma _ 0 _ _ rfl rfl d1 (by decide) (fun i hi => by rw [Nat.zero_add]; exact encB_cell e1 hi) (by omega)).mono ?_
  rintro e w2 ⟨rfl, m2, d2⟩
  have a2 := m2.heap a1 (by omega)
  have b2 := m2.heap b1 (by omega)
  have c2 := m2.heap c1 (by omega)
  replace s1 := Nat.le_trans s1 m2.size
  replace m2 := m1.trans' m2 (fun i hi e => by omega)
  clear m1 a1 b1 c1 d1 e1
  go_wp2_with fail
  refine (words_at 32 _ _ _ 4 key _ 0 _ _ hk.out (by simp [wordsTo_length]) d2 (by decide) (fun i hi => by rw [Nat.zero_add]; exact encB_cell a2 (by rw [hk.out]; exact hi)) (by omega)).mono ?_
  rintro e w3 ⟨rfl, m3, d3⟩
  have b3 := m3.heap b2 (by omega)
  have c3 := m3.heap c2 (by omega)
  replace s1 := Nat.le_trans s1 m3.size
  replace m3 := m2.trans' m3 (fun i hi e => by omega)
  clear m2 a2 b2 c2 d2
  have l3 : (wordsTo (wordsTo (List.replicate 16 0) 0 sigma 16) 4 key 32).length = 16 := by simp [wordsTo_length]
  generalize hf2 : wordsTo (wordsTo (List.replicate 16 0) 0 sigma 16) 4 key 32 = f2 at *
  have cd := enc_cell d3 (i := 12) (by rw [l3]; decide)
  have fd := frozen_of_row w3 (w.heap.size + 1 + 1 + 1) 12 _ _ d3
  replace l3 := Lib.hid l3
  replace hf2 := Lib.hid hf2
  go_wp2_with fail
  refine calls_world ?_
  intro w4 hw4
  have d4 : w4.heap[w.heap.size + 1 + 1 + 1]? = some (.cells (enc (f2.set 12 count)) 155 (0,0)) := by
    rw [hw4, setCell_row _ _ _ _ _ _ d3, ← enc_set]; exact setRow_heap _ _ _ _ _ _ d3
  have m4 : Mod (fun x => x = w.heap.size + 1 + 1 + 1) w3 w4 := by rw [hw4]; exact Mod.one_setCell _ _ _ _
  have b4 := m4.heap b3 (by omega)
  have c4 := m4.heap c3 (by omega)
  replace s1 := Nat.le_trans s1 m4.size
  replace m4 := m3.trans' m4 (fun i hi e => by omega)
  clear hw4 m3 b3 c3 d3 cd fd
  refine (words_at 12 _ _ _ 13 nonce _ 0 _ _ hn.out (by simp [l3.out]) d4 (by decide) (fun i hi => by rw [Nat.zero_add]; exact encB_cell b4 (by rw [hn.out]; exact hi)) (by omega)).mono ?_
  rintro e w5 ⟨rfl, m5, d5⟩
  have c5 := m5.heap c4 (by omega)
  replace s1 := Nat.le_trans s1 m5.size
  replace m5 := m4.trans' m5 (fun i hi e => by omega)
  clear m4 b4 c4 d4
  have hf : wordsTo (f2.set 12 count) 13 nonce 12 = fromS key nonce count := by rw [← hf2.out, fromS]
  rw [hf] at d5
  have lf := fromS_length key nonce count
  have hout : blockS key nonce count = outTo (rounds 10 (fromS key nonce count)) (fromS key nonce count) 64 := by rw [blockS]
  clear hf hf2 l3
  generalize fromS key nonce count = f at *
  have h44 : (Tryz.prog.info? 155).map (·.size) = some (enc f).size := by rw [enc_size, lf]; kernel_rfl
  have hz : (16 : Nat) = (enc f).size := by rw [enc_size, lf]
  replace h44 := Lib.hid h44
  replace hz := Lib.hid hz
  replace lf := Lib.hid lf
  replace hout := Lib.hid hout
  go_wp2_with (first | (refine wpList_load_row rfl 155 _ rfl _ rfl _ _ (0,0) _ d5 Tryz.underlying155 rfl h44.out ?_) | (refine wpList_store_row rfl 155 _ _ rfl _ (enc f) rfl rfl _ _ (heap_alloc_new w5 _) h44.out hz.out (enc_one f) ?_))
  go_loopw [20] (fun i wr => ∃ k : Nat, k ≤ 10 ∧ i = .int .i64 k ∧ Mod (fun _ => False) w wr ∧ w5.heap.size < wr.heap.size ∧ wr.heap[w.heap.size + 1 + 1]? = some (.cells (encB (List.replicate 64 0)) 72 (0,0)) ∧ wr.heap[w.heap.size + 1 + 1 + 1]? = some (.cells (enc f) 155 (0,0)) ∧ wr.heap[w5.heap.size]? = some (.cells (enc (rounds k f)) 155 (0,0))) (fun i _ => 10 - (intOf i).toNat)
  case atStart =>
    refine ⟨0, Nat.zero_le _, rfl, (m5.alloc _).setRow (fun h => by omega) _, by simp, ?_, ?_, ?_⟩
    · rw [setRow_other _ _ _ _ (by omega), hp_old _ _ _ (by omega)]; exact c5
    · rw [setRow_other _ _ _ _ (by omega), hp_old _ _ _ (by omega)]; exact d5
    · rw [rounds]; exact setRow_heap _ _ _ _ _ _ (heap_alloc_new w5 _)
  case round =>
    obtain ⟨k, hk, rfl, mr, sr, cr, dr, er⟩ := hrel
    by_cases hlt : k < 10
    · go_wp2_with fail
      refine (fours_any _).mono ?_
      rintro e w6 ⟨rfl, m6⟩
      have c6 := m6.heap cr (fun h => h)
      have d6 := m6.heap dr (fun h => h)
      have e6 := m6.heap er (fun h => h)
      replace sr := Nat.lt_of_lt_of_le sr m6.size
      replace m6 := mr.trans m6
      clear mr cr dr er
      go_wp2_with fail
      refine (further_any _ _ _ _ (by rw [rounds_length]; exact lf.out) e6).mono ?_
      rintro e w7 ⟨rfl, m7, e7⟩
      have c7 := m7.heap c6 (by omega)
      have d7 := m7.heap d6 (by omega)
      replace sr := Nat.lt_of_lt_of_le sr m7.size
      replace m7 := m6.trans' m7 (fun i hi e => by omega)
      clear m6 c6 d6 e6
      go_wp2
      go_roundw
      case rel => exact ⟨k + 1, by omega, by go_num, m7, sr, c7, d7, by rw [rounds]; exact e7⟩
      case measure => simp [intOf]; omega
    · obtain rfl : k = 10 := by omega
      clear d5 c5 m5
      have ls : (rounds 10 f).length = 16 := by rw [rounds_length]; exact lf.out
      generalize rounds 10 f = s at *
      replace ls := Lib.hid ls
      obtain ⟨wo, rfl⟩ : ∃ wo : World, wo = wr := ⟨_, rfl⟩
      go_wp2
      go_loopw [25] (fun i wq => ∃ k : Nat, k ≤ 64 ∧ i = .int .i64 k ∧ Mod (fun _ => False) w wq ∧ wq.heap[w.heap.size + 1 + 1]? = some (.cells (encB (outTo s f k)) 72 (0,0)) ∧ wq.heap[w.heap.size + 1 + 1 + 1]? = some (.cells (enc f) 155 (0,0)) ∧ wq.heap[w5.heap.size]? = some (.cells (enc s) 155 (0,0))) (fun i _ => 64 - (intOf i).toNat)
      case atStart => exact ⟨0, Nat.zero_le _, rfl, mr, by rw [outTo]; exact cr, dr, er⟩
      case round =>
        clear mr cr dr er
        obtain ⟨k, hk, rfl, mr, cr, dr, er⟩ := hrel
        by_cases hlt : k < 64
        · have hl : k < (outTo s f k).length := by rw [outTo_length]; exact hlt
          obtain ⟨q, r, hkq, hr⟩ : ∃ q r, k = 4 * q + r ∧ r < 4 := ⟨k / 4, k % 4, by omega, by omega⟩
          have hq : (k : Int) / 4 = (q : Nat) := by omega
          have hq16 : (q : Int) < 16 := by omega
          have cs := enc_cell er (i := q) (by rw [ls.out]; omega)
          have cf := enc_cell dr (i := q) (by rw [lf.out]; omega)
          have co := encB_cell cr hl
          have fo := frozen_of_row wr (w.heap.size + 1 + 1) k _ _ cr
          have H : ∀ (nq m : Nat) (v : Int), k % 4 * 8 = m → v = ((((s.getD q 0 + f.getD q 0) >>> m).setWidth 8 : BitVec 8).toNat : Int) →
              Mod (fun _ => False) w ((wr.drewN nq).setCell ⟨w.heap.size + 1 + 1, k, none⟩ (.int .u8 v)) ∧ ((wr.drewN nq).setCell ⟨w.heap.size + 1 + 1, k, none⟩ (.int .u8 v)).heap[w.heap.size + 1 + 1]? = some (.cells (encB (outTo s f (k + 1))) 72 (0,0)) ∧
              ((wr.drewN nq).setCell ⟨w.heap.size + 1 + 1, k, none⟩ (.int .u8 v)).heap[w.heap.size + 1 + 1 + 1]? = some (.cells (enc f) 155 (0,0)) ∧ ((wr.drewN nq).setCell ⟨w.heap.size + 1 + 1, k, none⟩ (.int .u8 v)).heap[w5.heap.size]? = some (.cells (enc s) 155 (0,0)) := by
            intro nq m v h1 h2
            have e : (wr.drewN nq).setCell ⟨w.heap.size + 1 + 1, k, none⟩ (.int .u8 v) = (wr.setRow (w.heap.size + 1 + 1) (encB (outTo s f (k + 1)))).drewN nq := by
              rw [setCell_row _ _ _ _ _ _ (show (wr.drewN nq).heap[w.heap.size + 1 + 1]? = _ from cr), h2, ← h1]
              exact congrArg (fun z => (wr.setRow _ z).drewN nq) (by rw [outTo, encB_set, outAt, show k / 4 = q by omega])
            rw [e]
            exact ⟨(mr.setRow (fun h => by omega) _).drewN nq, setRow_heap _ _ _ _ _ _ cr, (setRow_other _ _ _ _ (by omega)).trans dr, (setRow_other _ _ _ _ (by omega)).trans er⟩
          generalize s.getD q 0 = x at *
          generalize f.getD q 0 = y at *
          generalize (outTo s f k).getD k 0 = z at *
          replace H := Lib.hid H
          replace hkq := Lib.hid hkq
          clear mr cr dr er hl s1 sr
          have h4 : r = 0 ∨ r = 1 ∨ r = 2 ∨ r = 3 := by omega
          rcases h4 with rfl | rfl | rfl | rfl
          · have er : (k : Int) % 4 = 0 := by have := hkq.out; omega
            go_wp2
            refine region_qtail 16 (by kernel_rfl) (by kernel_rfl) ?_
            simp only [List.take_succ_cons, List.take_zero, List.drop_succ_cons, List.drop_zero]
            repeat (go_big_quiet_step (fail))
            refine wpQuiet_nil ?_
            rintro _ ⟨nq, rfl⟩
            go_wp2
            go_roundw
            case rel => exact ⟨k + 1, by omega, by go_num, H.out nq 0 _ (by have := hkq.out; omega) (by rw [← byte_of x y 0 1 rfl]; omega)⟩
            case measure => simp [intOf]; omega
          · have er : (k : Int) % 4 = 1 := by have := hkq.out; omega
            go_wp2
            refine region_qtail 16 (by kernel_rfl) (by kernel_rfl) ?_
            simp only [List.take_succ_cons, List.take_zero, List.drop_succ_cons, List.drop_zero]
            repeat (go_big_quiet_step (fail))
            refine wpQuiet_nil ?_
            rintro _ ⟨nq, rfl⟩
            go_wp2
            go_roundw
            case rel => exact ⟨k + 1, by omega, by go_num, H.out nq 8 _ (by have := hkq.out; omega) (byte_of x y 8 256 rfl)⟩
            case measure => simp [intOf]; omega
          · have er : (k : Int) % 4 = 2 := by have := hkq.out; omega
            go_wp2
            refine region_qtail 16 (by kernel_rfl) (by kernel_rfl) ?_
            simp only [List.take_succ_cons, List.take_zero, List.drop_succ_cons, List.drop_zero]
            repeat (go_big_quiet_step (fail))
            refine wpQuiet_nil ?_
            rintro _ ⟨nq, rfl⟩
            go_wp2
            go_roundw
            case rel => exact ⟨k + 1, by omega, by go_num, H.out nq 16 _ (by have := hkq.out; omega) (byte_of x y 16 65536 rfl)⟩
            case measure => simp [intOf]; omega
          · have er : (k : Int) % 4 = 3 := by have := hkq.out; omega
            go_wp2
            refine region_qtail 16 (by kernel_rfl) (by kernel_rfl) ?_
            simp only [List.take_succ_cons, List.take_zero, List.drop_succ_cons, List.drop_zero]
            repeat (go_big_quiet_step (fail))
            refine wpQuiet_nil ?_
            rintro _ ⟨nq, rfl⟩
            go_wp2
            go_roundw
            case rel => exact ⟨k + 1, by omega, by go_num, H.out nq 24 _ (by have := hkq.out; omega) (by rw [← byte_of x y 24 16777216 rfl]; omega)⟩
            case measure => simp [intOf]; omega
        · obtain rfl : k = 64 := by omega
          rw [← hout.out] at cr
          have lb : (blockS key nonce count).length = 64 := by rw [hout.out, outTo_length]
          generalize hbs : blockS key nonce count = b at *
          replace hbs := Lib.hid hbs
          have h27 : (Tryz.prog.info? 72).map (·.size) = some (encB b).size := by rw [encB_size, lb]; kernel_rfl
          replace h27 := Lib.hid h27
          replace lb := Lib.hid lb
          go_wp2_with (first | (refine wpList_load_row rfl 72 _ rfl _ rfl _ _ (0,0) _ cr Tryz.underlying72 rfl h27.out ?_) | (refine wpList_store_row rfl 72 _ _ rfl _ (encB b) rfl rfl _ _ cr h27.out rfl (encB_one b) ?_))
          refine bodyPost_ret (results_cell_row Tryz.results69 _ _ (w.heap.size + 1 + 1) _ (encB b) (0,0) _ rfl (setRow_heap _ _ _ _ _ _ cr) Tryz.underlying72 rfl h27.out) rfl ⟨by rw [hbs.out], ?_⟩
          exact mr.setRow (fun h => by omega) _
end Go.Proofs.YtbiijcljpgannaaGreatDoor.Cc
