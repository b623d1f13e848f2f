/-
  chacha.Xor, of as many bytes as one likes; the cells of a key, a count and a nonce. Printed by gen/kx2.py.
-/
import Derived.Test.YtkfikoacohogaaaDoorX1
import Derived.Test.YtkfikoacohogaaaDoorBt
namespace Go.Proofs.YtkfikoacohogaaaDoor
set_option maxRecDepth 100000
open Go Go.RowKit Go.Lib
set_option linter.unusedSimpArgs false
set_option linter.unusedVariables false

namespace Cc
theorem xorbig_any (key nonce : List (BitVec 8)) (hk : key.length = 32) (hn : nonce.length = 12) (count : BitVec 32) (v : Value) (bs : List (BitVec 8)) (w : World) (hb : ByteAt w v bs) (hgt1 : 1048576 < bs.length) (hlen : bs.length ≤ 2097152) :
    Calls Tryd.prog 6 #[.agg (encB key), .int .u32 (count.toNat : Int), .agg (encB nonce), v] w fun e w' => Mod (fun _ => False) w w' ∧ e = .returned (.tuple #[.slice none 0 0, .int .i64 3]) := by
  obtain ⟨ad, cap, hv⟩ : ∃ ad cap, v = .slice ad bs.length cap := by
    rcases hb with ⟨ad, cap, rfl, rfl⟩ | ⟨g, off, cap, rfl, _⟩
    · exact ⟨_, _, rfl⟩
    · exact ⟨_, _, rfl⟩
  have hhb := hb
  replace hhb := Lib.hid hhb
  clear hb
  subst hv
  replace hk := Lib.hid hk
  replace hn := Lib.hid hn
  obtain ⟨n, en⟩ : ∃ n, bs.length = n := ⟨_, rfl⟩
  have hc := count.isLt
  obtain ⟨c, ec⟩ : ∃ c, count.toNat = c := ⟨_, rfl⟩
  rw [en] at hlen hgt1
  rw [ec] at hc
  have hw0 : ∀ w1, w1 = (((w.alloc (.cells (encB key) 22)).alloc (.cells (encB nonce) 24)).alloc (.cells #[.slice ad n cap] 27)) →
      Mod (fun _ => False) w w1 ∧ w1.heap[w.heap.size]? = some (.cells (encB key) 22 (0,0)) ∧ w1.heap[w.heap.size + 1]? = some (.cells (encB nonce) 24 (0,0)) ∧ w1.heap[w.heap.size + 1 + 1]? = some (.cells #[.slice ad n cap] 27 (0,0)) := by
    rintro w1 rfl
    refine ⟨(((Mod.refl _ w).alloc _).alloc _).alloc _, ?_, ?_, ?_⟩
    rw [hp_old _ _ _ (by simp only [World.size_alloc]; omega), hp_old _ _ _ (by simp only [World.size_alloc]; omega), hp_new _ _ _ (by simp)]
    rw [hp_old _ _ _ (by simp only [World.size_alloc]; omega), hp_new _ _ _ (by simp)]
    rw [hp_new _ _ _ (by simp)]
  generalize hq : (n + 63) / 64 = q at *
  have e10 : wrap64 (Int.tdiv (wrap64 (wrap64 ((n : Int) + 64) - 1)) 64) = (q : Int) := by
    have e1 : wrap64 ((n : Int) + 64) = ((n + 64 : Nat) : Int) := by unfold wrap64; omega
    have e2 : wrap64 (((n + 64 : Nat) : Int) - 1) = ((n + 63 : Nat) : Int) := by unfold wrap64; omega
    have e3 : Int.tdiv ((n + 63 : Nat) : Int) 64 = (((n + 63) / 64 : Nat) : Int) := by
      rw [show (64 : Int) = ((64 : Nat) : Int) from rfl, ← Int.ofNat_tdiv]
    rw [e1, e2, e3, hq]
    unfold wrap64; omega
  have hqn : q ≤ 32769 := by omega
  replace en := Lib.hid en
  replace ec := Lib.hid ec
  replace hw0 := Lib.hid hw0
  rw [show bs.length = n from en.out]
  rw [show count.toNat = c from ec.out]
  refine calls_of_marks Tryd.func6 rfl ?_
  simp only [Tryd.ntmps6, List.size_toArray, List.length_cons, List.length_nil, Nat.reduceAdd, Nat.reduceSub, Array.replicate_succ,
     Array.replicate_zero, List.push_toArray, List.append_toArray, List.nil_append, List.cons_append]
  go_upto_region 2 with (fail)
  refine wp_world fun w1 hw1 => ?_
  obtain ⟨m1, k1, n1, b1⟩ := hw0.out w1 hw1
  clear hw1
  replace m1 := Lib.hid m1
  have cb : w1.cell? ⟨w.heap.size + 1 + 1, 0, none⟩ = some (.slice ad n cap) := by rw [cell_of_row _ _ _ _ _ _ b1]; rfl
  replace b1 := Lib.hid b1
  have hgt : decide ((1048576 : Int) < (n : Int)) = true := by rw [decide_eq_true_iff]; omega
  replace hq := Lib.hid hq
  clear e10 k1 n1 hgt1
  go_wp2
  refine bodyPostM_ret (results_tmp2 rfl _ _ _) rfl ⟨m1.out, rfl⟩
end Cc
theorem XorEnd.all {key nonce : List (BitVec 8)} {count : BitVec 32} {bs : List (BitVec 8)} {w w' : World} {e : Ending} (hl : bs.length ≤ 1048576) (h : Cc.XorEnd key nonce count bs w e w') : XorAll key nonce count bs w e w' := by
  obtain ⟨m, h⟩ := h
  rcases h with ⟨h1, rfl⟩ | ⟨h1, h2, rfl⟩ | ⟨h1, h2, g, hg, rfl, x⟩
  · exact .refused m (by unfold refuseX; omega)
  · refine .good m (by unfold refuseX; omega) ?_
    subst h2
    exact World.ownsRow_nil _ _ _ _
  · refine .good m (by unfold refuseX; omega) ?_
    refine ⟨by rw [bytesV_length, xorS_length, Nat.mul_one], .inr ⟨g, bs.length, _, rfl, hg, x, Nat.le_refl _, by unfold maxLen; omega, by rw [encB_size, xorS_length, Nat.mul_one], ?_⟩⟩
    rw [List.take_of_length_le (by simp [encB, xorS_length])]
    simp [encB, bytesV]
theorem xorall_any (key nonce : List (BitVec 8)) (hk : key.length = 32) (hn : nonce.length = 12) (count : BitVec 32) (v : Value) (bs : List (BitVec 8)) (w : World) (hb : ByteAt w v bs) (hlen : bs.length ≤ 2097152) :
    Calls Tryd.prog 6 #[.agg (encB key), .int .u32 (count.toNat : Int), .agg (encB nonce), v] w (XorAll key nonce count bs w) := by
  by_cases h : bs.length ≤ 1048576
  · exact (Cc.xor_any key nonce hk hn count v bs w hb h).mono (fun e w' h2 => XorEnd.all h h2)
  · refine (Cc.xorbig_any key nonce hk hn count v bs w hb (by omega) hlen).mono ?_
    rintro e w' ⟨m, rfl⟩
    exact .refused m (by unfold refuseX; omega)
/-- The cells of a From. -/
def fromV (key : List (BitVec 8)) (count : BitVec 32) (nonce : List (BitVec 8)) : Array Value := (bytesV key ++ (.int .u32 (count.toNat : Int) :: bytesV nonce)).toArray
theorem from_key {key nonce : List (BitVec 8)} {count : BitVec 32} (hk : key.length = 32) {w : World} {g : Nat} (x : w.heap[g]? = some (.cells (fromV key count nonce) 26 (0,0))) : (loadVar 22 ⟨g, 0, none⟩).run Tryd.prog w = .ok (.agg (encB key)) w :=
  load_mid w g 0 26 _ [] (bytesV key) (.int .u32 (count.toNat : Int) :: bytesV nonce) (0,0) _ (by rw [x]; rfl) rfl Tryd.underlying22 rfl (by rw [bytesV_length, hk]; exact info32X)
theorem from_nonce {key nonce : List (BitVec 8)} {count : BitVec 32} (hk : key.length = 32) (hn : nonce.length = 12) {w : World} {g : Nat} (x : w.heap[g]? = some (.cells (fromV key count nonce) 26 (0,0))) : (loadVar 24 ⟨g, 33, none⟩).run Tryd.prog w = .ok (.agg (encB nonce)) w :=
  load_mid w g 33 26 _ (bytesV key ++ [.int .u32 (count.toNat : Int)]) (bytesV nonce) [] (0,0) _ (by rw [x]; simp [fromV]) (by simp [bytesV_length, hk]) Tryd.underlying24 rfl (by rw [bytesV_length, hn]; exact info12X)
theorem ld_u32 {w : World} {g off : Nat} {n : Int} (hc : w.cell? ⟨g, off, none⟩ = some (.int .u32 n)) : (loadVar 23 ⟨g, off, none⟩).run Tryd.prog w = .ok (.int .u32 n) w := by go_simp
theorem from_count {key nonce : List (BitVec 8)} {count : BitVec 32} (hk : key.length = 32) {w : World} {g : Nat} (x : w.heap[g]? = some (.cells (fromV key count nonce) 26 (0,0))) : (loadVar 23 ⟨g, 32, none⟩).run Tryd.prog w = .ok (.int .u32 (count.toNat : Int)) w := by
  refine ld_u32 ?_
  rw [cell_of_row _ _ _ _ _ _ x, fromV, List.getElem?_toArray, List.getElem?_append_right (by rw [bytesV_length, hk]; exact Nat.le_refl _), bytesV_length, hk]
  rfl
end Go.Proofs.YtkfikoacohogaaaDoor
