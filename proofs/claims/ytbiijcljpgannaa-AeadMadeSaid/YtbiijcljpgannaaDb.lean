/-
  chacha.Block.
-/
import Derived.Lib.SlBytesConst
import Derived.Test.YtbiijcljpgannaaDv
import Derived.Test.YtbiijcljpgannaaBy
namespace Go.Proofs.Ytbiijcljpgannaa.Cc
open Go Go.RowKit

theorem enc_size (s : List (BitVec 32)) : (enc s).size = s.length := by simp [enc]
theorem enc_one (s : List (BitVec 32)) : (enc s).all (·.oneCell') = true := by simp [enc, W, Value.oneCell']
theorem enc_cell {w : World} {g : Nat} {t : TypeId} {s : List (BitVec 32)} {fr : Nat × Nat} (hg : w.heap[g]? = some (.cells (enc s) t fr)) {i : Nat} (hi : i < s.length) : w.cell? ⟨g, i, none⟩ = some (.int .u32 ((s.getD i 0).toNat : Int)) := by
  rw [cell_of_row _ _ _ _ _ _ hg]; exact enc_get hi

def sigma : List (BitVec 8) := [101, 120, 112, 97, 110, 100, 32, 51, 50, 45, 98, 121, 116, 101, 32, 107]
def fromS (key nonce : List (BitVec 8)) (count : BitVec 32) : List (BitVec 32) :=
  wordsTo ((wordsTo (wordsTo (List.replicate 16 0) 0 sigma 16) 4 key 32).set 12 count) 13 nonce 12
def rounds : Nat → List (BitVec 32) → List (BitVec 32)
  | 0, s => s
  | k + 1, s => qrs 8 (rounds k s)
theorem rounds_length (k : Nat) (s : List (BitVec 32)) : (rounds k s).length = s.length := by
  induction k with
  | zero => rfl
  | succ k ih => simp [rounds, qrs_length, ih]
theorem fromS_length (key nonce : List (BitVec 8)) (count : BitVec 32) : (fromS key nonce count).length = 16 := by simp [fromS, wordsTo_length]
def outAt (s f : List (BitVec 32)) (i : Nat) : BitVec 8 := ((s.getD (i / 4) 0 + f.getD (i / 4) 0) >>> (i % 4 * 8)).setWidth 8
def outTo (s f : List (BitVec 32)) : Nat → List (BitVec 8)
  | 0 => List.replicate 64 0
  | k + 1 => (outTo s f k).set k (outAt s f k)
theorem outTo_length (s f : List (BitVec 32)) (k : Nat) : (outTo s f k).length = 64 := by
  induction k with
  | zero => rfl
  | succ k ih => simp [outTo, ih]
def blockS (key nonce : List (BitVec 8)) (count : BitVec 32) : List (BitVec 8) := outTo (rounds 10 (fromS key nonce count)) (fromS key nonce count) 64

theorem byte_of (x y : BitVec 32) (r p : Nat) (hp : p = 2 ^ r) : (((x.toNat : Int) + (y.toNat : Int)) % 4294967296 / (p : Nat)) % 256 = ((((x + y) >>> r).setWidth 8 : BitVec 8).toNat : Int) := by
  rw [add32, BitVec.toNat_setWidth, BitVec.toNat_ushiftRight, Nat.shiftRight_eq_div_pow, ← hp, Int.natCast_emod, Int.natCast_ediv]
  rfl

attribute [local irreducible] outTo rounds fromS blockS wordsTo in
set_option maxHeartbeats 1000000 in
theorem block_any (key nonce : List (BitVec 8)) (hk : key.length = 32) (hn : nonce.length = 12) (count : BitVec 32) (w : World) :
    Calls Try.prog 11 #[.agg (encB key), .int .u32 (count.toNat : Int), .agg (encB nonce)] w fun e w' => e = .returned (.agg (encB (blockS key nonce count))) ∧ Mod (fun _ => False) w w' := by
  have kc := fun (w : World) (C : Array Value) (n c b : Nat) (h : b = w.heap.size) => conv_const (P := Try.prog) w 22 5 C n c b h Try.underlying22 Try.underlying5
  replace hk := Lib.hid hk
  replace hn := Lib.hid hn
  go_enter Try.func11, Try.ntmps11
  go_wp2_with fail
  refine calls_world ?_
  intro w1 hw1
  have s1 : w.heap.size + 5 ≤ w1.heap.size := by rw [hw1]; simp
  have m1 : Mod (fun _ => False) w w1 := by rw [hw1]; exact (((((Mod.refl _ w).alloc _).alloc _).alloc _).alloc _).alloc _
  have a1 : w1.heap[w.heap.size]? = some (.cells (encB key) 33 (0,0)) := by
    rw [hw1]
    rw [hp_old _ _ _ (by simp only [World.size_alloc]; omega), hp_old _ _ _ (by simp only [World.size_alloc]; omega), hp_old _ _ _ (by simp only [World.size_alloc]; omega), hp_old _ _ _ (by simp only [World.size_alloc]; omega), hp_new _ _ _ (by simp)]
  have b1 : w1.heap[w.heap.size + 1]? = some (.cells (encB nonce) 34 (0,0)) := by
    rw [hw1]
    rw [hp_old _ _ _ (by simp only [World.size_alloc]; omega), hp_old _ _ _ (by simp only [World.size_alloc]; omega), hp_old _ _ _ (by simp only [World.size_alloc]; omega), hp_new _ _ _ (by simp)]
  have c1 : w1.heap[w.heap.size + 1 + 1]? = some (.cells (encB (List.replicate 64 0)) 35 (0,0)) := by
    rw [hw1]
    rw [hp_old _ _ _ (by simp only [World.size_alloc]; omega), hp_old _ _ _ (by simp only [World.size_alloc]; omega), hp_new _ _ _ (by simp)]
    rfl
  have d1 : w1.heap[w.heap.size + 1 + 1 + 1]? = some (.cells (enc (List.replicate 16 0)) 50 (0,0)) := by
    rw [hw1]
    rw [hp_old _ _ _ (by simp only [World.size_alloc]; omega), hp_new _ _ _ (by simp)]
    rfl
  have e1 : w1.heap[w.heap.size + 1 + 1 + 1 + 1]? = some (.cells (encB sigma) 5 (16,17)) := by
    rw [hw1]
    rw [hp_new _ _ _ (by simp)]
    rfl
  clear hw1 kc
  refine (words_at 16 _ _ _ 0 sigma _ 0 _ _ rfl rfl d1 (by decide) (fun i hi => by rw [Nat.zero_add]; exact encB_cell e1 hi) (by omega)).mono ?_
  rintro e w2 ⟨rfl, m2, d2⟩
  have a2 := m2.heap a1 (by omega)
  have b2 := m2.heap b1 (by omega)
  have c2 := m2.heap c1 (by omega)
  replace s1 := Nat.le_trans s1 m2.size
  replace m2 := m1.trans' m2 (fun i hi e => by omega)
  clear m1 a1 b1 c1 d1 e1
  go_wp2_with fail
  refine (words_at 32 _ _ _ 4 key _ 0 _ _ hk.out (by simp [wordsTo_length]) d2 (by decide) (fun i hi => by rw [Nat.zero_add]; exact encB_cell a2 (by rw [hk.out]; exact hi)) (by omega)).mono ?_
  rintro e w3 ⟨rfl, m3, d3⟩
  have b3 := m3.heap b2 (by omega)
  have c3 := m3.heap c2 (by omega)
  replace s1 := Nat.le_trans s1 m3.size
  replace m3 := m2.trans' m3 (fun i hi e => by omega)
  clear m2 a2 b2 c2 d2
  have l3 : (wordsTo (wordsTo (List.replicate 16 0) 0 sigma 16) 4 key 32).length = 16 := by simp [wordsTo_length]
  generalize hf2 : wordsTo (wordsTo (List.replicate 16 0) 0 sigma 16) 4 key 32 = f2 at *
  have cd := enc_cell d3 (i := 12) (by rw [l3]; decide)
  have fd := frozen_of_row w3 (w.heap.size + 1 + 1 + 1) 12 _ _ d3
  replace l3 := Lib.hid l3
  replace hf2 := Lib.hid hf2
  go_wp2_with fail
  refine calls_world ?_
  intro w4 hw4
  have d4 : w4.heap[w.heap.size + 1 + 1 + 1]? = some (.cells (enc (f2.set 12 count)) 50 (0,0)) := by
    rw [hw4, setCell_row _ _ _ _ _ _ d3, ← enc_set]; exact setRow_heap _ _ _ _ _ _ d3
  have m4 : Mod (fun x => x = w.heap.size + 1 + 1 + 1) w3 w4 := by rw [hw4]; exact Mod.one_setCell _ _ _ _
  have b4 := m4.heap b3 (by omega)
  have c4 := m4.heap c3 (by omega)
  replace s1 := Nat.le_trans s1 m4.size
  replace m4 := m3.trans' m4 (fun i hi e => by omega)
  clear hw4 m3 b3 c3 d3 cd fd
  refine (words_at 12 _ _ _ 13 nonce _ 0 _ _ hn.out (by simp [l3.out]) d4 (by decide) (fun i hi => by rw [Nat.zero_add]; exact encB_cell b4 (by rw [hn.out]; exact hi)) (by omega)).mono ?_
  rintro e w5 ⟨rfl, m5, d5⟩
  have c5 := m5.heap c4 (by omega)
  replace s1 := Nat.le_trans s1 m5.size
  replace m5 := m4.trans' m5 (fun i hi e => by omega)
  clear m4 b4 c4 d4
  have hf : wordsTo (f2.set 12 count) 13 nonce 12 = fromS key nonce count := by rw [← hf2.out, fromS]
  rw [hf] at d5
  have lf := fromS_length key nonce count
  have hout : blockS key nonce count = outTo (rounds 10 (fromS key nonce count)) (fromS key nonce count) 64 := by rw [blockS]
  clear hf hf2 l3
  generalize fromS key nonce count = f at *
  have h44 : (Try.prog.info? 50).map (·.size) = some (enc f).size := by rw [enc_size, lf]; kernel_rfl
  have hz : (16 : Nat) = (enc f).size := by rw [enc_size, lf]
  replace h44 := Lib.hid h44
  replace hz := Lib.hid hz
  replace lf := Lib.hid lf
  replace hout := Lib.hid hout
  go_wp2_with (first | (refine wpList_load_row rfl 50 _ rfl _ rfl _ _ (0,0) _ d5 Try.underlying50 rfl h44.out ?_) | (refine wpList_store_row rfl 50 _ _ rfl _ (enc f) rfl rfl _ _ (heap_alloc_new w5 _) h44.out hz.out (enc_one f) ?_))
  go_loopw [20] (fun i wr => ∃ k : Nat, k ≤ 10 ∧ i = .int .i64 k ∧ Mod (fun _ => False) w wr ∧ w5.heap.size < wr.heap.size ∧ wr.heap[w.heap.size + 1 + 1]? = some (.cells (encB (List.replicate 64 0)) 35 (0,0)) ∧ wr.heap[w.heap.size + 1 + 1 + 1]? = some (.cells (enc f) 50 (0,0)) ∧ wr.heap[w5.heap.size]? = some (.cells (enc (rounds k f)) 50 (0,0))) (fun i _ => 10 - (intOf i).toNat)
  case atStart =>
    refine ⟨0, Nat.zero_le _, rfl, (m5.alloc _).setRow (fun h => by omega) _, by simp, ?_, ?_, ?_⟩
    · rw [setRow_other _ _ _ _ (by omega), hp_old _ _ _ (by omega)]; exact c5
    · rw [setRow_other _ _ _ _ (by omega), hp_old _ _ _ (by omega)]; exact d5
    · rw [rounds]; exact setRow_heap _ _ _ _ _ _ (heap_alloc_new w5 _)
  case round =>
    obtain ⟨k, hk, rfl, mr, sr, cr, dr, er⟩ := hrel
    by_cases hlt : k < 10
    · go_wp2_with fail
      refine (fours_any _).mono ?_
      rintro e w6 ⟨rfl, m6⟩
      have c6 := m6.heap cr (fun h => h)
      have d6 := m6.heap dr (fun h => h)
      have e6 := m6.heap er (fun h => h)
      replace sr := Nat.lt_of_lt_of_le sr m6.size
      replace m6 := mr.trans m6
      clear mr cr dr er
      go_wp2_with fail
      refine (further_any _ _ _ _ (by rw [rounds_length]; exact lf.out) e6).mono ?_
      rintro e w7 ⟨rfl, m7, e7⟩
      have c7 := m7.heap c6 (by omega)
      have d7 := m7.heap d6 (by omega)
      replace sr := Nat.lt_of_lt_of_le sr m7.size
      replace m7 := m6.trans' m7 (fun i hi e => by omega)
      clear m6 c6 d6 e6
      go_wp2
      go_roundw
      case rel => exact ⟨k + 1, by omega, by go_num, m7, sr, c7, d7, by rw [rounds]; exact e7⟩
      case measure => simp [intOf]; omega
    · obtain rfl : k = 10 := by omega
      clear d5 c5 m5
      have ls : (rounds 10 f).length = 16 := by rw [rounds_length]; exact lf.out
      generalize rounds 10 f = s at *
      replace ls := Lib.hid ls
      obtain ⟨wo, rfl⟩ : ∃ wo : World, wo = wr := ⟨_, rfl⟩
      go_wp2
      go_loopw [25] (fun i wq => ∃ k : Nat, k ≤ 64 ∧ i = .int .i64 k ∧ Mod (fun _ => False) w wq ∧ wq.heap[w.heap.size + 1 + 1]? = some (.cells (encB (outTo s f k)) 35 (0,0)) ∧ wq.heap[w.heap.size + 1 + 1 + 1]? = some (.cells (enc f) 50 (0,0)) ∧ wq.heap[w5.heap.size]? = some (.cells (enc s) 50 (0,0))) (fun i _ => 64 - (intOf i).toNat)
      case atStart => exact ⟨0, Nat.zero_le _, rfl, mr, by rw [outTo]; exact cr, dr, er⟩
      case round =>
        clear mr cr dr er
        obtain ⟨k, hk, rfl, mr, cr, dr, er⟩ := hrel
        by_cases hlt : k < 64
        · have hl : k < (outTo s f k).length := by rw [outTo_length]; exact hlt
          obtain ⟨q, r, hkq, hr⟩ : ∃ q r, k = 4 * q + r ∧ r < 4 := ⟨k / 4, k % 4, by omega, by omega⟩
          have hq : (k : Int) / 4 = (q : Nat) := by omega
          have hq16 : (q : Int) < 16 := by omega
          have cs := enc_cell er (i := q) (by rw [ls.out]; omega)
          have cf := enc_cell dr (i := q) (by rw [lf.out]; omega)
          have co := encB_cell cr hl
          have fo := frozen_of_row wr (w.heap.size + 1 + 1) k _ _ cr
          have H : ∀ (nq m : Nat) (v : Int), k % 4 * 8 = m → v = ((((s.getD q 0 + f.getD q 0) >>> m).setWidth 8 : BitVec 8).toNat : Int) →
              Mod (fun _ => False) w ((wr.drewN nq).setCell ⟨w.heap.size + 1 + 1, k, none⟩ (.int .u8 v)) ∧ ((wr.drewN nq).setCell ⟨w.heap.size + 1 + 1, k, none⟩ (.int .u8 v)).heap[w.heap.size + 1 + 1]? = some (.cells (encB (outTo s f (k + 1))) 35 (0,0)) ∧
              ((wr.drewN nq).setCell ⟨w.heap.size + 1 + 1, k, none⟩ (.int .u8 v)).heap[w.heap.size + 1 + 1 + 1]? = some (.cells (enc f) 50 (0,0)) ∧ ((wr.drewN nq).setCell ⟨w.heap.size + 1 + 1, k, none⟩ (.int .u8 v)).heap[w5.heap.size]? = some (.cells (enc s) 50 (0,0)) := by
            intro nq m v h1 h2
            have e : (wr.drewN nq).setCell ⟨w.heap.size + 1 + 1, k, none⟩ (.int .u8 v) = (wr.setRow (w.heap.size + 1 + 1) (encB (outTo s f (k + 1)))).drewN nq := by
              rw [setCell_row _ _ _ _ _ _ (show (wr.drewN nq).heap[w.heap.size + 1 + 1]? = _ from cr), h2, ← h1]
              exact congrArg (fun z => (wr.setRow _ z).drewN nq) (by rw [outTo, encB_set, outAt, show k / 4 = q by omega])
            rw [e]
            exact ⟨(mr.setRow (fun h => by omega) _).drewN nq, setRow_heap _ _ _ _ _ _ cr, (setRow_other _ _ _ _ (by omega)).trans dr, (setRow_other _ _ _ _ (by omega)).trans er⟩
          generalize s.getD q 0 = x at *
          generalize f.getD q 0 = y at *
          generalize (outTo s f k).getD k 0 = z at *
          replace H := Lib.hid H
          replace hkq := Lib.hid hkq
          clear mr cr dr er hl s1 sr
          have h4 : r = 0 ∨ r = 1 ∨ r = 2 ∨ r = 3 := by omega
          rcases h4 with rfl | rfl | rfl | rfl
          · have er : (k : Int) % 4 = 0 := by have := hkq.out; omega
            go_wp2
            refine region_qtail 16 (by kernel_rfl) (by kernel_rfl) ?_
            simp only [List.take_succ_cons, List.take_zero, List.drop_succ_cons, List.drop_zero]
            repeat (go_big_quiet_step (fail))
            refine wpQuiet_nil ?_
            rintro _ ⟨nq, rfl⟩
            go_wp2
            go_roundw
            case rel => exact ⟨k + 1, by omega, by go_num, H.out nq 0 _ (by have := hkq.out; omega) (by rw [← byte_of x y 0 1 rfl]; omega)⟩
            case measure => simp [intOf]; omega
          · have er : (k : Int) % 4 = 1 := by have := hkq.out; omega
            go_wp2
            refine region_qtail 16 (by kernel_rfl) (by kernel_rfl) ?_
            simp only [List.take_succ_cons, List.take_zero, List.drop_succ_cons, List.drop_zero]
            repeat (go_big_quiet_step (fail))
            refine wpQuiet_nil ?_
            rintro _ ⟨nq, rfl⟩
            go_wp2
            go_roundw
            case rel => exact ⟨k + 1, by omega, by go_num, H.out nq 8 _ (by have := hkq.out; omega) (byte_of x y 8 256 rfl)⟩
            case measure => simp [intOf]; omega
          · have er : (k : Int) % 4 = 2 := by have := hkq.out; omega
            go_wp2
            refine region_qtail 16 (by kernel_rfl) (by kernel_rfl) ?_
            simp only [List.take_succ_cons, List.take_zero, List.drop_succ_cons, List.drop_zero]
            repeat (go_big_quiet_step (fail))
            refine wpQuiet_nil ?_
            rintro _ ⟨nq, rfl⟩
            go_wp2
            go_roundw
            case rel => exact ⟨k + 1, by omega, by go_num, H.out nq 16 _ (by have := hkq.out; omega) (byte_of x y 16 65536 rfl)⟩
            case measure => simp [intOf]; omega
          · have er : (k : Int) % 4 = 3 := by have := hkq.out; omega
            go_wp2
            refine region_qtail 16 (by kernel_rfl) (by kernel_rfl) ?_
            simp only [List.take_succ_cons, List.take_zero, List.drop_succ_cons, List.drop_zero]
            repeat (go_big_quiet_step (fail))
            refine wpQuiet_nil ?_
            rintro _ ⟨nq, rfl⟩
            go_wp2
            go_roundw
            case rel => exact ⟨k + 1, by omega, by go_num, H.out nq 24 _ (by have := hkq.out; omega) (by rw [← byte_of x y 24 16777216 rfl]; omega)⟩
            case measure => simp [intOf]; omega
        · obtain rfl : k = 64 := by omega
          rw [← hout.out] at cr
          have lb : (blockS key nonce count).length = 64 := by rw [hout.out, outTo_length]
          generalize hbs : blockS key nonce count = b at *
          replace hbs := Lib.hid hbs
          have h27 : (Try.prog.info? 35).map (·.size) = some (encB b).size := by rw [encB_size, lb]; kernel_rfl
          replace h27 := Lib.hid h27
          replace lb := Lib.hid lb
          go_wp2_with (first | (refine wpList_load_row rfl 35 _ rfl _ rfl _ _ (0,0) _ cr Try.underlying35 rfl h27.out ?_) | (refine wpList_store_row rfl 35 _ _ rfl _ (encB b) rfl rfl _ _ cr h27.out rfl (encB_one b) ?_))
          refine bodyPost_ret (results_cell_row Try.results11 _ _ (w.heap.size + 1 + 1) _ (encB b) (0,0) _ rfl (setRow_heap _ _ _ _ _ _ cr) Try.underlying35 rfl h27.out) rfl ⟨by rw [hbs.out], ?_⟩
          exact mr.setRow (fun h => by omega) _
end Go.Proofs.Ytbiijcljpgannaa.Cc
