/-
  chacha.stream and the function that it makes: the bytes of the blocks, one behind the other.
-/
import Derived.Deep.LoopGhost
import Derived.Deep.CutBlock
import Derived.Test.YtbiijcljpgannaaGreatDoorMC
import Derived.Test.YtbiijcljpgannaaGreatDoorMA
namespace Go.Proofs.YtbiijcljpgannaaGreatDoor.Cc
set_option maxRecDepth 100000
open Go Go.RowKit
set_option linter.unusedSimpArgs false

def streamAt (key nonce : List (BitVec 8)) (count : BitVec 32) (i : Nat) : BitVec 8 := (blockS key nonce (count + BitVec.ofNat 32 (i / 64))).getD (i % 64) 0

theorem index_bytes {P : Program} (w : World) (t E N : Nat) (ht : P.underlying t = some (.array N E)) (hE : P.underlying E = some (.int .u8)) (hs : ∀ w, (sizeOf E).run P w = .ok 1 w) (b : List (BitVec 8)) (j : Nat) (hj : j < N) (hb : b.length = N) :
    (Instr.index t (.agg (encB b)) (.int .i64 j)).run P w = .ok (.int .u8 ((b.getD j 0).toNat : Int)) w := by
  have hagg : (isAgg E).run P w = .ok false w := by
    unfold isAgg
    rw [Sem.run_bind, run_underlying hE w]
    simp
  have hg := encB_get (s := b) (i := j) (by omega)
  simp [Instr.index, asIntOf, Sem.run_bind, run_underlying ht w, hs, hj, Go.part, hagg, hg]

attribute [local irreducible] blockS in
theorem stream_iter (l K CT N T : Nat) (key nonce : List (BitVec 8)) (hk : key.length = 32) (hn : nonce.length = 12) (count : BitVec 32) (rec : Loop) (M : Nat) (J : Nat → World → Prop) (Stop : World → Prop) (W0 : World)
    (hT : rec.params = #[T])
    (hd : K ≠ CT ∧ N ≠ CT ∧ l ≠ CT)
    (hJ : ∀ i W W', J i W → Mod (fun k => k = CT) W W' → J i W')
    (hround : ∀ i W, i < M → J i W → W.heap[l]? = some (.loop rec) → RoundIn Fence.wide 0 Tryz.prog l rec.fn (rec.tmps.setIfInBounds T (.int .u8 ((streamAt key nonce count i).toNat : Int))) rec.assign rec.body W fun e W' =>
      (e = .returned (.bool true) ∧ i + 1 < M ∧ J (i + 1) W' ∧ W'.heap[l]? = some (.loop rec) ∧ W'.heap[K]? = W.heap[K]? ∧ W'.heap[CT]? = W.heap[CT]? ∧ W'.heap[N]? = W.heap[N]?) ∨ (e = .returned (.bool false) ∧ Stop W'))
    (hM : 0 < M) (h0 : J 0 W0) (hl : W0.heap[l]? = some (.loop rec))
    (hK : W0.heap[K]? = some (.cells (encB key) 49 (0,0))) (hN : W0.heap[N]? = some (.cells (encB nonce) 50 (0,0))) (hC : W0.heap[CT]? = some (.cells #[.int .u32 (count.toNat : Int)] 56 (0,0))) :
    Calls Tryz.prog 101 #[.func (.yield l) #[] #[], .pointer (some ⟨CT, 0, none⟩), .pointer (some ⟨K, 0, none⟩), .pointer (some ⟨N, 0, none⟩)] W0 fun e W' => e = .returned (.tuple #[]) ∧ Stop W' := by
  have h22 : (Tryz.prog.info? 49).map (·.size) = some (encB key).size := by rw [encB_size, hk]; kernel_rfl
  have h24 : (Tryz.prog.info? 50).map (·.size) = some (encB nonce).size := by rw [encB_size, hn]; kernel_rfl
  replace h22 := Lib.hid h22
  replace h24 := Lib.hid h24
  replace hk := Lib.hid hk
  replace hn := Lib.hid hn
  replace hT := Lib.hid hT
  replace hJ := Lib.hid hJ
  replace hround := Lib.hid hround
  obtain ⟨d1, d2, d3⟩ := hd
  go_enter Tryz.func101, Tryz.ntmps101
  go_wp2
  go_loopg [] M (fun m wr => ∃ q : Nat, 64 * q + m = M ∧ 0 < m ∧ J (64 * q) wr ∧ wr.heap[l]? = some (.loop rec) ∧ wr.heap[K]? = some (.cells (encB key) 49 (0,0)) ∧ wr.heap[N]? = some (.cells (encB nonce) 50 (0,0)) ∧ wr.heap[CT]? = some (.cells #[.int .u32 ((count + BitVec.ofNat 32 q).toNat : Int)] 56 (0,0)))
  case atStart => exact ⟨0, by omega, hM, h0, hl, hK, hN, by simpa using hC⟩
  case round =>
    obtain ⟨q, hq, hm, jr, lr, kr, nr, cr⟩ := hrel
    have cc : wr.cell? ⟨CT, 0, none⟩ = some (.int .u32 ((count + BitVec.ofNat 32 q).toNat : Int)) := by rw [cell_of_row _ _ _ _ _ _ cr]; rfl
    generalize hcq : count + BitVec.ofNat 32 q = cq at *
    replace hcq := Lib.hid hcq
    replace hq := Lib.hid hq
    go_wp2_with (first | (refine wpList_load_row rfl 49 _ rfl _ rfl _ _ (0,0) _ kr Tryz.underlying49 rfl h22.out ?_) | (refine wpList_load_row rfl 50 _ rfl _ rfl _ _ (0,0) _ nr Tryz.underlying50 rfl h24.out ?_))
    refine (block_any key nonce hk.out hn.out cq wr).mono ?_
    rintro e w2 ⟨rfl, m2⟩
    have jr2 := hJ.out _ _ _ jr (m2.mono (S' := fun k => k = CT) (fun _ _ h => h.elim))
    have lr2 := m2.heap lr (fun h => h)
    have kr2 := m2.heap kr (fun h => h)
    have nr2 := m2.heap nr (fun h => h)
    have cr2 := m2.heap cr (fun h => h)
    have hb : ∀ i, i / 64 = q → streamAt key nonce count i = (blockS key nonce cq).getD (i % 64) 0 := by
      intro i hi
      rw [streamAt, hi, hcq.out]
    have lb : (blockS key nonce cq).length = 64 := by rw [blockS, outTo_length]
    clear jr lr kr nr cr cc m2
    generalize blockS key nonce cq = b at *
    replace hb := Lib.hid hb
    replace lb := Lib.hid lb
    obtain ⟨wo, rfl⟩ : ∃ wo : World, wo = wr := ⟨_, rfl⟩
    go_wp2
    go_loopw [13] (fun i wr => ∃ j : Nat, j ≤ 64 ∧ i = .int .i64 j ∧ 64 * q + j < M ∧ J (64 * q + j) wr ∧ wr.heap[l]? = some (.loop rec) ∧ wr.heap[K]? = some (.cells (encB key) 49 (0,0)) ∧ wr.heap[N]? = some (.cells (encB nonce) 50 (0,0)) ∧ wr.heap[CT]? = some (.cells #[.int .u32 (cq.toNat : Int)] 56 (0,0))) (fun i _ => 64 - (intOf i).toNat)
    case atStart => exact ⟨0, by omega, rfl, by have := hq.out; omega, jr2, lr2, kr2, nr2, cr2⟩
    case round =>
      obtain ⟨j, hj, rfl, hjM, jr, lr, kr, nr, cr⟩ := hrel
      clear jr2 lr2 kr2 nr2 cr2
      by_cases hlt : j < 64
      · have hix := fun w => index_bytes (P := Tryz.prog) w 72 5 64 Tryz.underlying72 Tryz.underlying5 (fun _ => by kernel_rfl) b j hlt lb.out
        have hr := hround.out (64 * q + j) wr hjM jr lr
        rw [hb.out (64 * q + j) (by omega), show (64 * q + j) % 64 = j by omega] at hr
        generalize b.getD j 0 = x at *
        replace hr := Lib.hid hr
        replace jr := Lib.hid jr
        go_upto_region 4 with (fail)
        refine (wpIn_wide (n := 1)).1 (wpIn_region_lit ?_)
        gi_wp2_with (refine wpListIn_yield rfl _ _ _ rfl rfl rec T lr hT.out ?_)
        refine hr.out.mono ?_
        rintro e W' (⟨rfl, hlt', jr', lr', kr', cr', nr'⟩ | ⟨rfl, hst⟩)
        · refine ⟨_, rfl, ?_⟩
          rw [kr] at kr'
          rw [cr] at cr'
          rw [nr] at nr'
          replace jr' := Lib.hid jr'
          clear hr jr lr kr nr cr
          gi_wp2
          go_wp2
          go_roundw
          case rel => exact ⟨j + 1, by omega, by go_num, hlt', jr'.out, lr', kr', nr', cr'⟩
          case measure => simp [intOf]; omega
        · refine ⟨_, rfl, ?_⟩
          replace hst := Lib.hid hst
          gi_wp2
          go_wp2
          refine bodyPost_ret (results_none rfl _ _ _) rfl ?_
          exact ⟨rfl, hst.out⟩
      · obtain rfl : j = 64 := by omega
        have cc : wr.cell? ⟨CT, 0, none⟩ = some (.int .u32 (cq.toNat : Int)) := by rw [cell_of_row _ _ _ _ _ _ cr]; rfl
        have fc := frozen_of_row wr CT 0 _ _ cr
        have H : ∀ v, v = ((cq + 1).toNat : Int) → Mod (fun k => k = CT) wr (wr.setCell ⟨CT, 0, none⟩ (.int .u32 v)) ∧ (wr.setCell ⟨CT, 0, none⟩ (.int .u32 v)).heap[CT]? = some (.cells #[.int .u32 ((count + BitVec.ofNat 32 (q + 1)).toNat : Int)] 56 (0,0)) := by
          intro v hv
          refine ⟨Mod.one_setCell _ _ _ _, ?_⟩
          rw [setCell_row _ _ _ _ _ _ cr, setRow_heap _ _ _ _ _ _ cr, hv]
          have e : count + BitVec.ofNat 32 (q + 1) = cq + 1 := by
            rw [← hcq.out, BitVec.add_assoc, BitVec.ofNat_add]
            rfl
          rw [e]
          rfl
        replace H := Lib.hid H
        replace hq := Lib.hid hq.out
        replace jr := Lib.hid jr
        go_wp2
        go_roundg (M - 64 * (q + 1))
        case measure => have := hq.out; omega
        case rel =>
          obtain ⟨h1, h2⟩ := H.out _ (add32 cq 1)
          exact ⟨q + 1, by have := hq.out; omega, by have := hq.out; omega, hJ.out _ _ _ jr.out h1, h1.heap lr d3, h1.heap kr d1, h1.heap nr d2, h2⟩
end Go.Proofs.YtbiijcljpgannaaGreatDoor.Cc
