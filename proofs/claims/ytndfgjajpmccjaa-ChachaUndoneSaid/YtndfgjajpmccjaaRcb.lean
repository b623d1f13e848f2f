/-
  mailcoachref04.Block.
-/
import Derived.Test.YtndfgjajpmccjaaRct
namespace Go.Proofs.Ytndfgjajpmccjaa
open Go Go.RowKit
set_option linter.unusedSimpArgs false

theorem rounds_succ_qr (k : Nat) (f : List (BitVec 32)) : rounds (k + 1) f = qr (qr (qr (qr (qr (qr (qr (qr (rounds k f) 0 4 8 12) 1 5 9 13) 2 6 10 14) 3 7 11 15) 0 5 10 15) 1 6 11 12) 2 7 8 13) 3 4 9 14 := rfl

attribute [local irreducible] outTo rounds fromS blockS kTo qr in
set_option maxRecDepth 10000 in
set_option maxHeartbeats 1000000 in
theorem refblock_any (key nonce : List (BitVec 8)) (hk : key.length = 32) (hn : nonce.length = 12) (count : BitVec 32) (w : World) :
    Calls Try.prog 8 #[.agg (encB key), .int .u32 (count.toNat : Int), .agg (encB nonce)] w fun e w' => e = .returned (.agg (encB (blockS key nonce count))) ∧ Mod (fun _ => False) w w' := by
  have h22 : (Try.prog.info? 22).map (·.size) = some (encB key).size := by rw [encB_size, hk]; kernel_rfl
  have h24 : (Try.prog.info? 24).map (·.size) = some (encB nonce).size := by rw [encB_size, hn]; kernel_rfl
  replace h22 := Lib.hid h22
  replace h24 := Lib.hid h24
  go_enter Try.func8, Try.ntmps8
  have a0 : ∀ o, (((w.alloc (.cells (encB key) 22)).alloc (.cells (encB nonce) 24)).alloc o).heap[w.heap.size]? = some (.cells (encB key) 22 (0,0)) := by
    intro o
    rw [hp_old _ _ _ (by simp only [World.size_alloc]; omega), hp_old _ _ _ (by simp only [World.size_alloc]; omega), hp_new _ _ _ (by simp)]
  have b0 : ∀ o, (((w.alloc (.cells (encB key) 22)).alloc (.cells (encB nonce) 24)).alloc o).heap[w.heap.size + 1]? = some (.cells (encB nonce) 24 (0,0)) := by
    intro o
    rw [hp_old _ _ _ (by simp only [World.size_alloc]; omega), hp_new _ _ _ (by simp)]
  replace a0 := Lib.hid a0
  replace b0 := Lib.hid b0
  go_wp2_with (first | (refine wpList_load_row rfl 22 _ rfl _ rfl _ _ (0,0) _ (a0.out _) Try.underlying22 rfl h22.out ?_) | (refine wpList_load_row rfl 24 _ rfl _ rfl _ _ (0,0) _ (b0.out _) Try.underlying24 rfl h24.out ?_))
  refine calls_world ?_
  intro w1 hw1
  have s1 : w.heap.size + 3 ≤ w1.heap.size := by rw [hw1]; simp
  have m1 : Mod (fun _ => False) w w1 := by rw [hw1]; exact (((Mod.refl _ w).alloc _).alloc _).alloc _
  have c1 : w1.heap[w.heap.size + 1 + 1]? = some (.cells (encB (List.replicate 64 0)) 27 (0,0)) := by
    rw [hw1]
    rw [hp_new _ _ _ (by simp)]
    rfl
  clear hw1
  refine (state_any key nonce hk hn count w1).mono ?_
  rintro e w5 ⟨rfl, m5⟩
  have c5 := m5.heap c1 (fun h => h)
  replace s1 := Nat.le_trans s1 m5.size
  replace m5 := m1.trans m5
  clear c1
  have lf := fromS_length key nonce count
  have hout : blockS key nonce count = outTo (rounds 10 (fromS key nonce count)) (fromS key nonce count) 64 := by rw [blockS]
  generalize fromS key nonce count = f at *
  have h40 : (Try.prog.info? 40).map (·.size) = some (enc f).size := by rw [enc_size, lf]; kernel_rfl
  have hz : (16 : Nat) = (enc f).size := by rw [enc_size, lf]
  replace h40 := Lib.hid h40
  replace hz := Lib.hid hz
  replace lf := Lib.hid lf
  replace hout := Lib.hid hout
  replace hk := Lib.hid hk
  replace hn := Lib.hid hn
  go_wp2_with (first | (refine wpList_store_row rfl 40 _ _ rfl _ (enc f) rfl rfl _ _ (hp_new _ _ _ (by simp)) h40.out hz.out (enc_one f) ?_) | (refine wpList_load_row rfl 40 _ rfl _ rfl 40 (enc f) (0,0) _ (setRow_heap _ _ _ _ _ _ (hp_new _ _ _ (by simp))) Try.underlying40 rfl h40.out ?_))
  go_loopw [9] (fun i wr => ∃ k : Nat, k ≤ 10 ∧ i = .int .i64 k ∧ Mod (fun _ => False) w wr ∧ w5.heap.size + 1 < wr.heap.size ∧ wr.heap[w.heap.size + 1 + 1]? = some (.cells (encB (List.replicate 64 0)) 27 (0,0)) ∧ wr.heap[w5.heap.size]? = some (.cells (enc f) 40 (0,0)) ∧ wr.heap[w5.heap.size + 1]? = some (.cells (enc (rounds k f)) 40 (0,0))) (fun i _ => 10 - (intOf i).toNat)
  case atStart =>
    refine ⟨0, Nat.zero_le _, rfl, (((m5.alloc _).setRow (fun h => by omega) _).alloc _).setRow (fun h => by omega) _, by simp, ?_, ?_, ?_⟩
    · rw [setRow_other _ _ _ _ (by omega), hp_old _ _ _ (by simp; omega), setRow_other _ _ _ _ (by omega), hp_old _ _ _ (by omega)]; exact c5
    · rw [setRow_other _ _ _ _ (by omega), hp_old _ _ _ (by simp)]; exact setRow_heap _ _ _ _ _ _ (heap_alloc_new w5 _)
    · rw [rounds]; exact setRow_heap _ _ _ _ _ _ (hp_new _ _ _ (by simp))
  case round =>
    obtain ⟨k, hk, rfl, mr, sr, cr, dr, er⟩ := hrel
    by_cases hlt : k < 10
    · clear c5
      go_wp2_with fail
      refine (quarter_any _ _ _ 0 4 8 12 _ (by simp only [qr_length, rounds_length]; exact lf.out) er (by decide) (by decide) (by decide) (by decide) (by decide) (by decide)).mono ?_
      rintro e w7 ⟨rfl, m7, e7⟩
      replace dr := m7.heap dr (by omega)
      replace cr := m7.heap cr (by omega)
      replace sr := Nat.lt_of_lt_of_le sr m7.size
      replace mr := mr.trans' m7 (fun i hi e => by have := m1.size; omega)
      replace er := e7
      clear e7 m7
      go_wp2_with fail
      refine (quarter_any _ _ _ 1 5 9 13 _ (by simp only [qr_length, rounds_length]; exact lf.out) er (by decide) (by decide) (by decide) (by decide) (by decide) (by decide)).mono ?_
      rintro e w7 ⟨rfl, m7, e7⟩
      replace dr := m7.heap dr (by omega)
      replace cr := m7.heap cr (by omega)
      replace sr := Nat.lt_of_lt_of_le sr m7.size
      replace mr := mr.trans' m7 (fun i hi e => by have := m1.size; omega)
      replace er := e7
      clear e7 m7
      go_wp2_with fail
      refine (quarter_any _ _ _ 2 6 10 14 _ (by simp only [qr_length, rounds_length]; exact lf.out) er (by decide) (by decide) (by decide) (by decide) (by decide) (by decide)).mono ?_
      rintro e w7 ⟨rfl, m7, e7⟩
      replace dr := m7.heap dr (by omega)
      replace cr := m7.heap cr (by omega)
      replace sr := Nat.lt_of_lt_of_le sr m7.size
      replace mr := mr.trans' m7 (fun i hi e => by have := m1.size; omega)
      replace er := e7
      clear e7 m7
      go_wp2_with fail
      refine (quarter_any _ _ _ 3 7 11 15 _ (by simp only [qr_length, rounds_length]; exact lf.out) er (by decide) (by decide) (by decide) (by decide) (by decide) (by decide)).mono ?_
      rintro e w7 ⟨rfl, m7, e7⟩
      replace dr := m7.heap dr (by omega)
      replace cr := m7.heap cr (by omega)
      replace sr := Nat.lt_of_lt_of_le sr m7.size
      replace mr := mr.trans' m7 (fun i hi e => by have := m1.size; omega)
      replace er := e7
      clear e7 m7
      go_wp2_with fail
      refine (quarter_any _ _ _ 0 5 10 15 _ (by simp only [qr_length, rounds_length]; exact lf.out) er (by decide) (by decide) (by decide) (by decide) (by decide) (by decide)).mono ?_
      rintro e w7 ⟨rfl, m7, e7⟩
      replace dr := m7.heap dr (by omega)
      replace cr := m7.heap cr (by omega)
      replace sr := Nat.lt_of_lt_of_le sr m7.size
      replace mr := mr.trans' m7 (fun i hi e => by have := m1.size; omega)
      replace er := e7
      clear e7 m7
      go_wp2_with fail
      refine (quarter_any _ _ _ 1 6 11 12 _ (by simp only [qr_length, rounds_length]; exact lf.out) er (by decide) (by decide) (by decide) (by decide) (by decide) (by decide)).mono ?_
      rintro e w7 ⟨rfl, m7, e7⟩
      replace dr := m7.heap dr (by omega)
      replace cr := m7.heap cr (by omega)
      replace sr := Nat.lt_of_lt_of_le sr m7.size
      replace mr := mr.trans' m7 (fun i hi e => by have := m1.size; omega)
      replace er := e7
      clear e7 m7
      go_wp2_with fail
      refine (quarter_any _ _ _ 2 7 8 13 _ (by simp only [qr_length, rounds_length]; exact lf.out) er (by decide) (by decide) (by decide) (by decide) (by decide) (by decide)).mono ?_
      rintro e w7 ⟨rfl, m7, e7⟩
      replace dr := m7.heap dr (by omega)
      replace cr := m7.heap cr (by omega)
      replace sr := Nat.lt_of_lt_of_le sr m7.size
      replace mr := mr.trans' m7 (fun i hi e => by have := m1.size; omega)
      replace er := e7
      clear e7 m7
      go_wp2_with fail
      refine (quarter_any _ _ _ 3 4 9 14 _ (by simp only [qr_length, rounds_length]; exact lf.out) er (by decide) (by decide) (by decide) (by decide) (by decide) (by decide)).mono ?_
      rintro e w7 ⟨rfl, m7, e7⟩
      replace dr := m7.heap dr (by omega)
      replace cr := m7.heap cr (by omega)
      replace sr := Nat.lt_of_lt_of_le sr m7.size
      replace mr := mr.trans' m7 (fun i hi e => by have := m1.size; omega)
      replace er := e7
      clear e7 m7
      go_wp2
      go_roundw
      case rel => exact ⟨k + 1, by omega, by go_num, mr, sr, cr, dr, by rw [rounds_succ_qr]; exact er⟩
      case measure => simp [intOf]; omega
    · obtain rfl : k = 10 := by omega
      rw [show ((10 : Nat) : Int) = 10 from rfl]
      clear c5 m5 s1
      have ls : (rounds 10 f).length = 16 := by rw [rounds_length]; exact lf.out
      generalize rounds 10 f = s at *
      replace ls := Lib.hid ls
      obtain ⟨wo, rfl⟩ : ∃ wo : World, wo = wr := ⟨_, rfl⟩
      go_wp2
      go_loopw [11] (fun i wr => ∃ k : Nat, k ≤ 64 ∧ i = .int .i64 k ∧ Mod (fun _ => False) w wr ∧ wr.heap[w.heap.size + 1 + 1]? = some (.cells (encB (List.replicate 64 0)) 27 (0,0)) ∧ wr.heap[w5.heap.size]? = some (.cells (enc f) 40 (0,0)) ∧ wr.heap[w5.heap.size + 1]? = some (.cells (enc s) 40 (0,0)) ∧ wr.heap[wo.heap.size]? = some (.cells (encB (outTo s f k)) 27 (0,0))) (fun i _ => 64 - (intOf i).toNat)
      case atStart =>
        refine ⟨0, Nat.zero_le _, rfl, mr.alloc _, ?_, ?_, ?_, ?_⟩
        · rw [hp_old _ _ _ (lt_of_heap cr)]; exact cr
        · rw [hp_old _ _ _ (lt_of_heap dr)]; exact dr
        · rw [hp_old _ _ _ (lt_of_heap er)]; exact er
        · rw [hp_new _ _ _ rfl, outTo]; rfl
      case round =>
        have hC := lt_of_heap cr
        have hS := mr.size
        clear mr cr dr er
        obtain ⟨k, hk, rfl, mr, cr, dr, er, orr⟩ := hrel
        by_cases hlt : k < 64
        · have hl : k < (outTo s f k).length := by rw [outTo_length]; exact hlt
          obtain ⟨q, r, hkq, hr⟩ : ∃ q r, k = 4 * q + r ∧ r < 4 := ⟨k / 4, k % 4, by omega, by omega⟩
          have hq : (k : Int) / 4 = (q : Nat) := by omega
          have hq16 : (q : Int) < 16 := by omega
          have cs := enc_cell er (i := q) (by rw [ls.out]; omega)
          have cf := enc_cell dr (i := q) (by rw [lf.out]; omega)
          have co := encB_cell orr hl
          have fo := frozen_of_row wr wo.heap.size k _ _ orr
          have H : ∀ (nq m : Nat) (v : Int), k % 4 * 8 = m → v = ((((s.getD q 0 + f.getD q 0) >>> m).setWidth 8 : BitVec 8).toNat : Int) →
              Mod (fun _ => False) w ((wr.drewN nq).setCell ⟨wo.heap.size, k, none⟩ (.int .u8 v)) ∧ ((wr.drewN nq).setCell ⟨wo.heap.size, k, none⟩ (.int .u8 v)).heap[w.heap.size + 1 + 1]? = some (.cells (encB (List.replicate 64 0)) 27 (0,0)) ∧
              ((wr.drewN nq).setCell ⟨wo.heap.size, k, none⟩ (.int .u8 v)).heap[w5.heap.size]? = some (.cells (enc f) 40 (0,0)) ∧ ((wr.drewN nq).setCell ⟨wo.heap.size, k, none⟩ (.int .u8 v)).heap[w5.heap.size + 1]? = some (.cells (enc s) 40 (0,0)) ∧ ((wr.drewN nq).setCell ⟨wo.heap.size, k, none⟩ (.int .u8 v)).heap[wo.heap.size]? = some (.cells (encB (outTo s f (k + 1))) 27 (0,0)) := by
            intro nq m v h1 h2
            have e : (wr.drewN nq).setCell ⟨wo.heap.size, k, none⟩ (.int .u8 v) = (wr.setRow wo.heap.size (encB (outTo s f (k + 1)))).drewN nq := by
              rw [setCell_row _ _ _ _ _ _ (show (wr.drewN nq).heap[wo.heap.size]? = _ from orr), h2, ← h1]
              exact congrArg (fun z => (wr.setRow _ z).drewN nq) (by rw [outTo, encB_set, outAt, show k / 4 = q by omega])
            rw [e]
            exact ⟨(mr.setRow (fun h => by omega) _).drewN nq, (setRow_other _ _ _ _ (by omega)).trans cr, (setRow_other _ _ _ _ (by omega)).trans dr, (setRow_other _ _ _ _ (by omega)).trans er, setRow_heap _ _ _ _ _ _ orr⟩
          generalize s.getD q 0 = x at *
          generalize f.getD q 0 = y at *
          generalize (outTo s f k).getD k 0 = z at *
          replace H := Lib.hid H
          replace hkq := Lib.hid hkq
          clear mr cr dr er orr hl sr hC hS
          have h4 : r = 0 ∨ r = 1 ∨ r = 2 ∨ r = 3 := by omega
          rcases h4 with rfl | rfl | rfl | rfl
          · have er : (k : Int) % 4 = 0 := by have := hkq.out; omega
            go_wp2
            refine region_qtail 16 (by kernel_rfl) (by kernel_rfl) ?_
            simp only [List.take_succ_cons, List.take_zero, List.drop_succ_cons, List.drop_zero]
            repeat (go_big_quiet_step (fail))
            refine wpQuiet_nil ?_
            rintro _ ⟨nq, rfl⟩
            go_wp2
            go_roundw
            case rel => exact ⟨k + 1, by omega, by go_num, H.out nq 0 _ (by have := hkq.out; omega) (by rw [← byte_of x y 0 1 rfl]; omega)⟩
            case measure => simp [intOf]; omega
          · have er : (k : Int) % 4 = 1 := by have := hkq.out; omega
            go_wp2
            refine region_qtail 16 (by kernel_rfl) (by kernel_rfl) ?_
            simp only [List.take_succ_cons, List.take_zero, List.drop_succ_cons, List.drop_zero]
            repeat (go_big_quiet_step (fail))
            refine wpQuiet_nil ?_
            rintro _ ⟨nq, rfl⟩
            go_wp2
            go_roundw
            case rel => exact ⟨k + 1, by omega, by go_num, H.out nq 8 _ (by have := hkq.out; omega) (byte_of x y 8 256 rfl)⟩
            case measure => simp [intOf]; omega
          · have er : (k : Int) % 4 = 2 := by have := hkq.out; omega
            go_wp2
            refine region_qtail 16 (by kernel_rfl) (by kernel_rfl) ?_
            simp only [List.take_succ_cons, List.take_zero, List.drop_succ_cons, List.drop_zero]
            repeat (go_big_quiet_step (fail))
            refine wpQuiet_nil ?_
            rintro _ ⟨nq, rfl⟩
            go_wp2
            go_roundw
            case rel => exact ⟨k + 1, by omega, by go_num, H.out nq 16 _ (by have := hkq.out; omega) (byte_of x y 16 65536 rfl)⟩
            case measure => simp [intOf]; omega
          · have er : (k : Int) % 4 = 3 := by have := hkq.out; omega
            go_wp2
            refine region_qtail 16 (by kernel_rfl) (by kernel_rfl) ?_
            simp only [List.take_succ_cons, List.take_zero, List.drop_succ_cons, List.drop_zero]
            repeat (go_big_quiet_step (fail))
            refine wpQuiet_nil ?_
            rintro _ ⟨nq, rfl⟩
            go_wp2
            go_roundw
            case rel => exact ⟨k + 1, by omega, by go_num, H.out nq 24 _ (by have := hkq.out; omega) (by rw [← byte_of x y 24 16777216 rfl]; omega)⟩
            case measure => simp [intOf]; omega
        · obtain rfl : k = 64 := by omega
          rw [← hout.out] at orr
          have lb : (blockS key nonce count).length = 64 := by rw [hout.out, outTo_length]
          generalize hbs : blockS key nonce count = b at *
          have h27 : (Try.prog.info? 27).map (·.size) = some (encB b).size := by rw [encB_size, lb]; kernel_rfl
          have hzz : (encB (List.replicate 64 0)).size = (encB b).size := by rw [encB_size, encB_size, lb]; rfl
          replace hbs := Lib.hid hbs
          replace h27 := Lib.hid h27
          replace hzz := Lib.hid hzz
          replace lb := Lib.hid lb
          go_wp2_with (first | (refine wpList_load_row rfl 27 _ rfl _ rfl _ _ (0,0) _ orr Try.underlying27 rfl h27.out ?_) | (refine wpList_store_row rfl 27 _ _ rfl _ (encB b) rfl rfl _ _ cr h27.out hzz.out (encB_one b) ?_))
          refine bodyPost_ret (results_cell_row Try.results8 _ _ (w.heap.size + 1 + 1) _ (encB b) (0,0) _ rfl (setRow_heap _ _ _ _ _ _ cr) Try.underlying27 rfl h27.out) rfl ⟨by rw [hbs.out], ?_⟩
          exact mr.setRow (fun h => by omega) _
end Go.Proofs.Ytndfgjajpmccjaa
