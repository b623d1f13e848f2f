/-
  varint.Get: its walk.
-/
import Derived.Test.YtkfikoacohogaaaDoorVp
namespace Go.Proofs.YtkfikoacohogaaaDoor
set_option maxRecDepth 100000
open Go Go.RowKit
set_option linter.unusedSimpArgs false
set_option linter.unusedVariables false

theorem and_low (x : Nat) (h : x < 256) : bits BinOp.and .u8 (x : Int) 63 = ((x % 64 : Nat) : Int) := by
  have : ∀ x : Nat, x < 256 → bits BinOp.and .u8 (x : Int) 63 = ((x % 64 : Nat) : Int) := of_decide_eq_true (by kernel_rfl)
  exact this x h
theorem or_low (G y : Nat) (hG : G < 18014398509481984) (hy : y < 256) : bits BinOp.or .u64 ((G : Int) * 256) (y : Int) = ((G * 256 + y : Nat) : Int) := by
  rw [show (G : Int) * 256 = ((G * 256 : Nat) : Int) by omega, u64_or_nat _ _ (by omega) (by omega)]
  have h := Nat.shiftLeft_add_eq_or_of_lt (show y < 2 ^ 8 by omega) G
  rw [Nat.shiftLeft_eq] at h
  rw [← h]
theorem num_take_succ (bs : List (BitVec 8)) (i : Nat) (hi : i < bs.length) : num (bs.take (i + 1)) = num (bs.take i) * 256 + (bs.getD i 0).toNat := by
  rw [List.take_add_one, List.getElem?_eq_getElem hi, Option.toList_some, num_snoc, List.getD_eq_getElem?_getD, List.getElem?_eq_getElem hi]
  rfl
theorem low_succ (bs : List (BitVec 8)) (i : Nat) (hi : i + 1 < bs.length) : num (bs.take (i + 1 + 1)) % 2 ^ (8 * (i + 1 + 1) - 2) = num (bs.take (i + 1)) % 2 ^ (8 * (i + 1) - 2) * 256 + (bs.getD (i + 1) 0).toNat := by
  rw [num_take_succ _ _ hi, show 2 ^ (8 * (i + 1 + 1) - 2) = 256 * 2 ^ (8 * (i + 1) - 2) by rw [show 8 * (i + 1 + 1) - 2 = 8 + (8 * (i + 1) - 2) by omega, Nat.pow_add], Nat.mod_mul]
  have := (bs.getD (i + 1) 0).isLt
  rw [show (num (bs.take (i + 1)) * 256 + (bs.getD (i + 1) 0).toNat) / 256 = num (bs.take (i + 1)) by omega]
  omega
def vgV (bs : List (BitVec 8)) : Value :=
  match vget bs with
  | none => .tuple #[.int .u64 0, .int .i64 0, .int .i64 4]
  | some (n, k) => .tuple #[.int .u64 (n : Int), .int .i64 (k : Int), .int .i64 0]
def GetVEnd (bs : List (BitVec 8)) (w : World) (e : Ending) (w' : World) : Prop := Mod (fun _ => False) w w' ∧ e = .returned (vgV bs)

set_option maxRecDepth 100000 in
set_option maxHeartbeats 4000000 in
theorem vget_any (v : Value) (bs : List (BitVec 8)) (w : World) (hb : ByteAt w v bs) (hl : bs.length < 4611686018427387904) : Calls Tryd.prog 91 #[v] w (GetVEnd bs w) := by
  obtain ⟨ad, cap, rfl, hc⟩ := hb.slice
  cases bs with
  | nil =>
    go_enter Tryd.func91, Tryd.ntmps91
    go_wp2
    refine bodyPost_ret (v := .tuple #[.int .u64 0, .int .i64 0, .int .i64 4]) (by simp [results, Tryd.results91, go_sem]) rfl ⟨Mod.refl _ _, rfl⟩
  | cons b l =>
    obtain ⟨g, off, rfl, hgl, h0⟩ := hc 0 (by simp)
    simp only [List.getD_cons_zero, Nat.add_zero] at h0
    generalize hx : b.toNat = x at *
    have hx256 : x < 256 := by rw [← hx]; exact b.isLt
    obtain ⟨s, hs⟩ : ∃ s, s = 2 ^ (x / 64) := ⟨_, rfl⟩
    have hix : ∀ w, (Instr.index 150 (.agg #[.int .i64 1, .int .i64 2, .int .i64 4, .int .i64 8]) (.int .u8 ((x : Int) / 64))).run Tryd.prog w = .ok (.int .i64 (s : Int)) w := fun w => by
      rw [hs]
      rcases four (show x / 64 < 4 by omega) with h | h | h | h
      · rw [h, show (x : Int) / 64 = 0 by omega]; kernel_rfl
      · rw [h, show (x : Int) / 64 = 1 by omega]; kernel_rfl
      · rw [h, show (x : Int) / 64 = 2 by omega]; kernel_rfl
      · rw [h, show (x : Int) / 64 = 3 by omega]; kernel_rfl
    have hsz : ∀ u : MW (fun _ => False) w, Calls Tryd.prog 88 #[] u.w fun e w'' => e = .returned (.agg #[.int .i64 1, .int .i64 2, .int .i64 4, .int .i64 8]) ∧ ∃ u' : MW (fun _ => False) w, w'' = u'.w :=
      fun u => (sizes_any u.w).mono fun e w'' ⟨h1, h2⟩ => ⟨h1, ⟨w'', u.h.trans h2⟩, rfl⟩
    have hcell : ∀ u : MW (fun _ => False) w, u.w.cell? ⟨g, off, none⟩ = some (.int .u8 (x : Int)) := fun u => cell_mod u.h h0 (fun h => h)
    have hpos : 0 < (b :: l).length := by simp
    generalize hL : (b :: l).length = L at *
    have hL1 : (L : Int) ≠ 0 := by omega
    replace hsz := Lib.hid hsz
    have hs1 : 0 < s := by rw [hs]; exact Nat.pow_pos (by omega)
    have hs8 : s ≤ 8 := by
      rw [hs]
      rcases four (show x / 64 < 4 by omega) with h | h | h | h <;> rw [h] <;> decide
    replace hs := Lib.hid hs
    replace hb := Lib.hid hb
    replace hL := Lib.hid hL
    replace hx := Lib.hid hx
    replace h0 := Lib.hid h0
    clear hc
    go_enter Tryd.func91, Tryd.ntmps91
    go_upto_region 3 with (fail)
    refine region_quietM (fun _ => False) (by kernel_rfl) (by kernel_rfl) ?_
    go_big_quiet_step (exact hsz.out _)
    go_big_quiet_step (fail)
    go_big_quiet_step (fail)
    go_big_quiet_step (fail)
    go_big_quiet_step (fail)
    go_big_quiet_step (fail)
    go_big_quiet_step (fail)
    intro w2 m2
    clear hcell hsz hix
    by_cases hlt : L < s
    · go_wp2
      refine bodyPost_ret (v := .tuple #[.int .u64 0, .int .i64 0, .int .i64 4]) (by simp [results, Tryd.results91, go_sem]) rfl ⟨m2, ?_⟩
      unfold vgV vget
      simp only [hx.out, hL.out]
      rw [if_pos (by rw [← hs.out]; exact hlt)]
    · have hle : s ≤ L := by omega
      obtain ⟨q, hq⟩ : ∃ q, s = q + 1 := ⟨s - 1, by omega⟩
      obtain ⟨vc, bc, ec⟩ := hb.out.cut 1 s hs1 hle
      replace bc := bc.mod m2 (fun _ _ h => h)
      rw [show s - 1 = q by omega, show (b :: l).drop 1 = l from rfl] at bc
      have hlq : (l.take q).length = q := by have := hL.out; rw [List.length_cons] at this; rw [List.length_take]; omega
      have ec' : ∀ w', (Instr.slice 27 (.slice (some ⟨g, off, none⟩) L cap) (some (.int .i64 1)) (some (.int .i64 (s : Int))) none).run Tryd.prog w' = .ok vc w' := ec
      clear ec
      obtain ⟨ad, cap', hvc, hcc⟩ := bc.slice
      rw [hlq] at hvc hcc
      subst hvc
      have hcell2 : w2.cell? ⟨g, off, none⟩ = some (.int .u8 (x : Int)) := cell_mod m2 h0.out (fun h => h)
      obtain ⟨g0, hg0⟩ : ∃ g0, g0 = num ((b :: l).take 1) % 2 ^ (8 * 1 - 2) := ⟨_, rfl⟩
      have hand : bits BinOp.and .u8 (x : Int) 63 = (g0 : Int) := by
        rw [and_low x hx256, hg0, show num ((b :: l).take 1) = x by rw [← hx.out]; simp [num]]
      have hg64 : g0 < 64 := by rw [hg0]; exact Nat.mod_lt _ (by decide)
      replace hg0 := Lib.hid hg0
      replace hcc := Lib.hid hcc
      replace hq := Lib.hid hq
      replace hlt := Lib.hid hlt
      clear bc
      go_wp2
      go_loopw [31, 6] (fun kk nv wr => ∃ i : Nat, i ≤ q ∧ kk = .int .i64 i ∧ nv = .int .u64 ((num ((b :: l).take (i + 1)) % 2 ^ (8 * (i + 1) - 2) : Nat) : Int) ∧ wr = w2) (fun kk _ _ => q - (intOf kk).toNat)
      case atStart => exact ⟨0, by omega, rfl, by rw [hg0.out], rfl⟩
      case round =>
        obtain ⟨i, hi, rfl, rfl, rfl⟩ := hrel
        by_cases hlt2 : i < q
        · obtain ⟨gc, offc, rfl, hgc, hce⟩ := hcc.out i hlt2
          obtain ⟨y, hy⟩ : ∃ y, y = ((l.take q).getD i 0).toNat := ⟨_, rfl⟩
          have hy256 : y < 256 := by rw [hy]; exact BitVec.isLt _
          rw [← hy] at hce
          obtain ⟨G, hG⟩ : ∃ G, G = num ((b :: l).take (i + 1)) % 2 ^ (8 * (i + 1) - 2) := ⟨_, rfl⟩
          rw [← hG]
          have hG54 : G < 18014398509481984 := by
            rw [hG]
            refine Nat.lt_of_lt_of_le (Nat.mod_lt _ (Nat.pow_pos (by omega))) (Nat.pow_le_pow_right (n := 2) (by omega) (show 8 * (i + 1) - 2 ≤ 54 by have := hq.out; omega))
          have hnum : num ((b :: l).take (i + 1 + 1)) % 2 ^ (8 * (i + 1 + 1) - 2) = G * 256 + y := by
            rw [low_succ _ _ (by have := hL.out; have := hq.out; omega), ← hG, hy]
            simp [List.getD_eq_getElem?_getD, List.getElem?_take, hlt2]
          have hor := or_low G y hG54 hy256
          have bi : (i : Int) < 9 := by have := hq.out; omega
          have bi0 : (0 : Int) ≤ (i : Int) := by omega
          replace hor := Lib.hid hor
          replace hnum := Lib.hid hnum
          replace hG := Lib.hid hG
          replace hy := Lib.hid hy
          go_wp2
          go_roundw
          case measure => simp [intOf]; omega
          case rel => exact ⟨i + 1, by omega, by go_num, by rw [hor.out, hnum.out], trivial⟩
        · obtain rfl : i = q := by omega
          obtain ⟨G, hG⟩ : ∃ G, G = num ((b :: l).take (i + 1)) % 2 ^ (8 * (i + 1) - 2) := ⟨_, rfl⟩
          rw [← hG]
          replace hG := Lib.hid hG
          go_wp2
          refine bodyPost_ret (v := .tuple #[.int .u64 (G : Int), .int .i64 (s : Int), .int .i64 0]) (by simp [results, Tryd.results91, go_sem]) rfl ⟨m2, ?_⟩
          unfold vgV vget
          simp only [hx.out, hL.out]
          rw [if_neg (by rw [← hs.out]; exact hlt.out), ← hs.out, hq.out, ← hG.out]
end Go.Proofs.YtkfikoacohogaaaDoor
