/-
  mailcoachref04.State.
-/
import Derived.Test.YtndfgjajpmccjaaRcs
namespace Go.Proofs.Ytndfgjajpmccjaa
open Go Go.RowKit
set_option linter.unusedSimpArgs false

theorem word_at (a b c d : BitVec 8) (bb bo n cap : Nat) (hn : 4 ≤ n) (w : World)
    (h0 : w.cell? ⟨bb, bo, none⟩ = some (.int .u8 (a.toNat : Int))) (h1 : w.cell? ⟨bb, bo + 1, none⟩ = some (.int .u8 (b.toNat : Int)))
    (h2 : w.cell? ⟨bb, bo + 2, none⟩ = some (.int .u8 (c.toNat : Int))) (h3 : w.cell? ⟨bb, bo + 3, none⟩ = some (.int .u8 (d.toNat : Int))) :
    Calls Try.prog 22 #[.slice (some ⟨bb, bo, none⟩) n cap] w fun e w' => e = .returned (.int .u32 ((wd4 a b c d).toNat : Int)) ∧ ∃ m, w' = w.drewN m :=
  word_any [a, b, c, d] bb bo n cap hn w h0 h1 h2 h3

attribute [local irreducible] kTo fromS in
set_option maxHeartbeats 1000000 in
theorem state_any (key nonce : List (BitVec 8)) (hk : key.length = 32) (hn : nonce.length = 12) (count : BitVec 32) (w : World) :
    Calls Try.prog 17 #[.agg (encB key), .int .u32 (count.toNat : Int), .agg (encB nonce)] w fun e w' => e = .returned (.agg (enc (fromS key nonce count))) ∧ Mod (fun _ => False) w w' := by
  have h40 : (Try.prog.info? 40).map (·.size) = some (enc first4).size := by kernel_rfl
  replace hk := Lib.hid hk
  replace hn := Lib.hid hn
  replace h40 := Lib.hid h40
  go_enter Try.func17, Try.ntmps17
  go_wp2_with (refine wpList_store_row rfl 40 _ _ rfl _ (enc first4) rfl (by kernel_rfl) _ _ (hp_new _ _ _ (by simp)) h40.out rfl (enc_one first4) ?_)
  go_loopw [8] (fun i wr => ∃ k : Nat, k ≤ 8 ∧ i = .int .i64 k ∧ Mod (fun _ => False) w wr ∧ wr.heap[w.heap.size]? = some (.cells (encB key) 22 (0,0)) ∧ wr.heap[w.heap.size + 1]? = some (.cells (encB nonce) 24 (0,0)) ∧
    wr.heap[w.heap.size + 1 + 1]? = some (.cells (enc (List.replicate 16 0)) 40 (0,0)) ∧ wr.heap[w.heap.size + 1 + 1 + 1]? = some (.cells (enc (kTo first4 4 key k)) 40 (0,0))) (fun i _ => 8 - (intOf i).toNat)
  case atStart =>
    refine ⟨0, Nat.zero_le _, rfl, ((((Mod.refl _ w).alloc _).alloc _).alloc _).alloc _ |>.setRow (fun h => by omega) _, ?_, ?_, ?_, ?_⟩
    · rw [setRow_other _ _ _ _ (by omega)]
      rw [hp_old _ _ _ (by simp only [World.size_alloc]; omega), hp_old _ _ _ (by simp only [World.size_alloc]; omega), hp_old _ _ _ (by simp only [World.size_alloc]; omega), hp_new _ _ _ (by simp)]
    · rw [setRow_other _ _ _ _ (by omega)]
      rw [hp_old _ _ _ (by simp only [World.size_alloc]; omega), hp_old _ _ _ (by simp only [World.size_alloc]; omega), hp_new _ _ _ (by simp)]
    · rw [setRow_other _ _ _ _ (by omega)]
      rw [hp_old _ _ _ (by simp only [World.size_alloc]; omega), hp_new _ _ _ (by simp)]
      rfl
    · rw [kTo]
      exact setRow_heap _ _ _ _ _ _ (hp_new _ _ _ (by simp))
  case round =>
    obtain ⟨k, hk8, rfl, mr, ar, br, cr, dr⟩ := hrel
    by_cases hlt : k < 8
    · have c0 := encB_cell ar (i := 4 * k) (by rw [hk.out]; omega)
      have c1 := encB_cell ar (i := 4 * k + 1) (by rw [hk.out]; omega)
      have c2 := encB_cell ar (i := 4 * k + 2) (by rw [hk.out]; omega)
      have c3 := encB_cell ar (i := 4 * k + 3) (by rw [hk.out]; omega)
      have cd := enc_cell dr (i := 4 + k) (by rw [kTo_length]; simp [first4]; omega)
      have fd := frozen_of_row wr (w.heap.size + 1 + 1 + 1) (4 + k) _ _ dr
      have hlt' : (k : Int) < 8 := by omega
      have hsl := slice_array wr 22 5 32 w.heap.size Try.underlying22 rfl rfl (fun _ => by kernel_rfl) (4 * (k : Int)) (4 * (k : Int) + 4) (4 * k) (4 * k + 4) (by omega) (by omega) (by omega) (by omega) (by omega)
      rw [show 4 * k + 4 - 4 * k = 4 by omega] at hsl
      have H : ∀ nq, (wr.drewN nq).setCell ⟨w.heap.size + 1 + 1 + 1, 4 + k, none⟩ (.int .u32 ((wd4 (key.getD (4 * k) 0) (key.getD (4 * k + 1) 0) (key.getD (4 * k + 2) 0) (key.getD (4 * k + 3) 0)).toNat : Int)) = (wr.setRow (w.heap.size + 1 + 1 + 1) (enc (kTo first4 4 key (k + 1)))).drewN nq := by
        intro nq
        rw [setCell_row _ _ _ _ _ _ (show (wr.drewN nq).heap[w.heap.size + 1 + 1 + 1]? = _ from dr)]
        exact congrArg (fun z => (wr.setRow _ z).drewN nq) (by rw [kTo]; exact enc_set _ _ _)
      generalize key.getD (4 * k) 0 = x0 at *
      generalize key.getD (4 * k + 1) 0 = x1 at *
      generalize key.getD (4 * k + 2) 0 = x2 at *
      generalize key.getD (4 * k + 3) 0 = x3 at *
      generalize (kTo first4 4 key k).getD (4 + k) 0 = y at *
      replace H := Lib.hid H
      go_wp2_with fail
      refine (word_at x0 x1 x2 x3 _ _ _ _ (by omega) _ c0 c1 c2 c3).mono ?_
      rintro e w2 ⟨rfl, nq, rfl⟩
      generalize wd4 x0 x1 x2 x3 = z at *
      go_wp2
      go_roundw
      case rel =>
        refine ⟨k + 1, by omega, by go_num, ?_⟩
        rw [H.out]
        exact ⟨(mr.setRow (fun h => by omega) _).drewN nq, (setRow_other _ _ _ _ (by omega)).trans ar, (setRow_other _ _ _ _ (by omega)).trans br, (setRow_other _ _ _ _ (by omega)).trans cr, setRow_heap _ _ _ _ _ _ dr⟩
      case measure => simp [intOf]; omega
    · obtain rfl : k = 8 := by omega
      rw [show ((8 : Nat) : Int) = 8 from rfl]
      have l8 : (kTo first4 4 key 8).length = 16 := by rw [kTo_length]; rfl
      have hfin : fromS key nonce count = kTo ((kTo first4 4 key 8).set 12 count) 13 nonce 3 := fromS_eq key nonce count
      generalize kTo first4 4 key 8 = f at *
      have cd := enc_cell dr (i := 12) (by rw [l8]; decide)
      have fd := frozen_of_row wr (w.heap.size + 1 + 1 + 1) 12 _ _ dr
      obtain ⟨f1, hf1⟩ : ∃ f1, f1 = f.set 12 count := ⟨_, rfl⟩
      have l1 : f1.length = 16 := by rw [hf1, List.length_set, l8]
      have d1 : (wr.setCell ⟨w.heap.size + 1 + 1 + 1, 12, none⟩ (.int .u32 (count.toNat : Int))).heap[w.heap.size + 1 + 1 + 1]? = some (.cells (enc f1) 40 (0,0)) := by
        rw [setCell_row _ _ _ _ _ _ dr, hf1, ← enc_set]; exact setRow_heap _ _ _ _ _ _ dr
      have m1 : Mod (fun _ => False) w (wr.setCell ⟨w.heap.size + 1 + 1 + 1, 12, none⟩ (.int .u32 (count.toNat : Int))) := mr.setCell (fun h => by simp at h; omega) _
      have b1 := (Mod.one_setCell wr (w.heap.size + 1 + 1 + 1) 12 (.int .u32 (count.toNat : Int))).heap br (by omega)
      have c1 := (Mod.one_setCell wr (w.heap.size + 1 + 1 + 1) 12 (.int .u32 (count.toNat : Int))).heap cr (by omega)
      rw [← hf1] at hfin
      replace l8 := Lib.hid l8
      replace l1 := Lib.hid l1
      replace hf1 := Lib.hid hf1
      replace hfin := Lib.hid hfin
      replace d1 := Lib.hid d1
      replace m1 := Lib.hid m1
      replace b1 := Lib.hid b1
      replace c1 := Lib.hid c1
      obtain ⟨wo, rfl⟩ : ∃ wo : World, wo = wr := ⟨_, rfl⟩
      go_wp2
      go_loopw [9] (fun i wr => ∃ k : Nat, k ≤ 3 ∧ i = .int .i64 k ∧ Mod (fun _ => False) w wr ∧ wr.heap[w.heap.size + 1]? = some (.cells (encB nonce) 24 (0,0)) ∧
        wr.heap[w.heap.size + 1 + 1]? = some (.cells (enc (List.replicate 16 0)) 40 (0,0)) ∧ wr.heap[w.heap.size + 1 + 1 + 1]? = some (.cells (enc (kTo f1 13 nonce k)) 40 (0,0))) (fun i _ => 3 - (intOf i).toNat)
      case atStart => exact ⟨0, Nat.zero_le _, rfl, m1.out, b1.out, c1.out, by rw [kTo]; exact d1.out⟩
      case round =>
        clear mr ar br cr dr cd fd m1 b1 c1 d1
        obtain ⟨k, hk8, rfl, mr, br, cr, dr⟩ := hrel
        by_cases hlt : k < 3
        · have c0 := encB_cell br (i := 4 * k) (by rw [hn.out]; omega)
          have c1 := encB_cell br (i := 4 * k + 1) (by rw [hn.out]; omega)
          have c2 := encB_cell br (i := 4 * k + 2) (by rw [hn.out]; omega)
          have c3 := encB_cell br (i := 4 * k + 3) (by rw [hn.out]; omega)
          have cd := enc_cell dr (i := 13 + k) (by rw [kTo_length, l1.out]; omega)
          have fd := frozen_of_row wr (w.heap.size + 1 + 1 + 1) (13 + k) _ _ dr
          have hlt' : (k : Int) < 3 := by omega
          have hsl := slice_array wr 24 5 12 (w.heap.size + 1) Try.underlying24 rfl rfl (fun _ => by kernel_rfl) (4 * (k : Int)) (4 * (k : Int) + 4) (4 * k) (4 * k + 4) (by omega) (by omega) (by omega) (by omega) (by omega)
          rw [show 4 * k + 4 - 4 * k = 4 by omega] at hsl
          have H : ∀ nq, (wr.drewN nq).setCell ⟨w.heap.size + 1 + 1 + 1, 13 + k, none⟩ (.int .u32 ((wd4 (nonce.getD (4 * k) 0) (nonce.getD (4 * k + 1) 0) (nonce.getD (4 * k + 2) 0) (nonce.getD (4 * k + 3) 0)).toNat : Int)) = (wr.setRow (w.heap.size + 1 + 1 + 1) (enc (kTo f1 13 nonce (k + 1)))).drewN nq := by
            intro nq
            rw [setCell_row _ _ _ _ _ _ (show (wr.drewN nq).heap[w.heap.size + 1 + 1 + 1]? = _ from dr)]
            exact congrArg (fun z => (wr.setRow _ z).drewN nq) (by rw [kTo]; exact enc_set _ _ _)
          generalize nonce.getD (4 * k) 0 = x0 at *
          generalize nonce.getD (4 * k + 1) 0 = x1 at *
          generalize nonce.getD (4 * k + 2) 0 = x2 at *
          generalize nonce.getD (4 * k + 3) 0 = x3 at *
          generalize (kTo f1 13 nonce k).getD (13 + k) 0 = y at *
          replace H := Lib.hid H
          go_wp2_with fail
          refine (word_at x0 x1 x2 x3 _ _ _ _ (by omega) _ c0 c1 c2 c3).mono ?_
          rintro e w2 ⟨rfl, nq, rfl⟩
          generalize wd4 x0 x1 x2 x3 = z at *
          go_wp2
          go_roundw
          case rel =>
            refine ⟨k + 1, by omega, by go_num, ?_⟩
            rw [H.out]
            exact ⟨(mr.setRow (fun h => by omega) _).drewN nq, (setRow_other _ _ _ _ (by omega)).trans br, (setRow_other _ _ _ _ (by omega)).trans cr, setRow_heap _ _ _ _ _ _ dr⟩
          case measure => simp [intOf]; omega
        · obtain rfl : k = 3 := by omega
          have lb : (fromS key nonce count).length = 16 := fromS_length key nonce count
          rw [← hfin.out] at dr
          generalize hbs : fromS key nonce count = b at *
          have h4 : (Try.prog.info? 40).map (·.size) = some (enc b).size := by rw [enc_size, lb]; kernel_rfl
          have hz : (enc (List.replicate 16 0)).size = (enc b).size := by rw [enc_size, enc_size, lb]; rfl
          replace hbs := Lib.hid hbs
          replace h4 := Lib.hid h4
          replace lb := Lib.hid lb
          replace hz := Lib.hid hz
          go_wp2_with (first | (refine wpList_load_row rfl 40 _ rfl _ rfl _ _ (0,0) _ dr Try.underlying40 rfl h4.out ?_) | (refine wpList_store_row rfl 40 _ _ rfl _ (enc b) rfl rfl _ _ cr h4.out hz.out (enc_one b) ?_))
          refine bodyPost_ret (results_cell_row Try.results17 _ _ (w.heap.size + 1 + 1) _ (enc b) (0,0) _ rfl (setRow_heap _ _ _ _ _ _ cr) Try.underlying40 rfl h4.out) rfl ⟨by rw [hbs.out], ?_⟩
          exact mr.setRow (fun h => by omega) _
end Go.Proofs.Ytndfgjajpmccjaa
