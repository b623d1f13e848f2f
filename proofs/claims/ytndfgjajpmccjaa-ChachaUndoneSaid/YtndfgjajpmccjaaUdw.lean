/-
  The walk of ChachaUndone.
-/
import Derived.Test.YtndfgjajpmccjaaRct
import Derived.Test.YtndfgjajpmccjaaUnl
import Derived.Test.YtndfgjajpmccjaaTwice
import Derived.Test.YtndfgjajpmccjaaWrd
namespace Go.Proofs.Ytndfgjajpmccjaa
open Go Go.RowKit
set_option linter.unusedSimpArgs false

theorem from_cell_key {key nonce : List (BitVec 8)} {count : BitVec 32} (hk : key.length = 32) {w : World} {g : Nat} {t : TypeId} (hg : w.heap[g]? = some (.cells (fromC key count nonce) t (0,0))) (i : Nat) (hi : i < 32) : w.cell? ⟨g, i, none⟩ = some (.int .u8 ((key.getD i 0).toNat : Int)) := by
  rw [cell_of_row _ _ _ _ _ _ hg, fromC, List.getElem?_toArray, List.getElem?_append_left (by rw [List.length_map]; omega), List.getElem?_map, List.getD_eq_getElem?_getD, List.getElem?_eq_getElem (by omega)]
  rfl
theorem from_cell_count {key nonce : List (BitVec 8)} {count : BitVec 32} (hk : key.length = 32) {w : World} {g : Nat} {t : TypeId} (hg : w.heap[g]? = some (.cells (fromC key count nonce) t (0,0))) : w.cell? ⟨g, 32, none⟩ = some (.int .u32 (count.toNat : Int)) := by
  rw [cell_of_row _ _ _ _ _ _ hg, fromC, List.getElem?_toArray, List.getElem?_append_right (by simp [hk]), List.length_map, hk]
  rfl
theorem from_cell_nonce {key nonce : List (BitVec 8)} {count : BitVec 32} (hk : key.length = 32) (hn : nonce.length = 12) {w : World} {g : Nat} {t : TypeId} (hg : w.heap[g]? = some (.cells (fromC key count nonce) t (0,0))) (i : Nat) (hi : i < 12) : w.cell? ⟨g, 33 + i, none⟩ = some (.int .u8 ((nonce.getD i 0).toNat : Int)) := by
  rw [cell_of_row _ _ _ _ _ _ hg, fromC, List.getElem?_toArray, List.getElem?_append_right (by simp [hk]; omega), List.length_map, hk, show 33 + i - 32 = i + 1 by omega, List.getElem?_cons_succ, List.getElem?_map, List.getD_eq_getElem?_getD, List.getElem?_eq_getElem (by omega)]
  rfl

theorem wd4_bits' (a b c d : BitVec 8) : bits .or .u32 (bits .or .u32 (bits .or .u32 (a.toNat : Int) ((b.toNat : Int) * 256)) ((c.toNat : Int) * 65536)) ((d.toNat : Int) * 16777216) = ((wd4 a b c d).toNat : Int) := wd4_bits a b c d

theorem wpList_yields {P : Program} {ops : Array Oper} {rest : List Oper} {o : Oper} {a : Act} {w : World} {Q : Exit → Act → World → Prop} (hw : Region.wanted o (yielded ops a.tmps) = true) (v : Value) (w' : World)
    (hrun : (execOp a.eval o).run P w = .ok (.value v) w') (h : wpList P ops Q rest (a.put o.dst v) w') : wpList P ops Q (o :: rest) a w := by
  unfold wpList
  rw [if_pos hw]
  refine .inl ?_
  unfold Oper.wp
  rw [hrun]
  exact h
theorem run_bin_op {P : Program} {ev : Operand → Value} {o : Oper} {p : BinOp} {ty ty2 : TypeId} {x y : Operand} {w : World} {vx vy v : Value} (ho : o.op = .binOp p ty x y ty2) (hx : ev x = vx) (hy : ev y = vy) (hg : (eqGuard p ty x y vx vy).run P w = .ok () w) (hr : (binOp p ty vx vy).run P w = .ok v w) :
    (execOp ev o).run P w = .ok (.value v) w := by
  unfold execOp
  simp only [ho, hx, hy, hg, Sem.run_bind, Sem.run_pure, Result.andThen_ok, hr]
theorem run_load_op {P : Program} {ev : Operand → Value} {o : Oper} {ty : TypeId} {x : Operand} {g off : Nat} {w : World} {v : Value} (ho : o.op = .load ty x) (hx : ev x = .pointer (some ⟨g, off, none⟩)) (hr : (loadVar ty ⟨g, off, none⟩).run P w = .ok v w) :
    (execOp ev o).run P w = .ok (.value v) w := by
  unfold execOp
  simp only [ho, hx, Instr.loadAt, Instr.sureAddr, Sem.run_bind, Sem.run_pure, Result.andThen_ok, hr]

attribute [local irreducible] kTo fromS fromC in
set_option maxRecDepth 100000 in
set_option maxHeartbeats 2000000 in
theorem undone_walk (key nonce : List (BitVec 8)) (count : BitVec 32) (hk : key.length = 32) (hn : nonce.length = 12) (w : World) :
    Calls Try.prog 6 #[.agg (fromC key count nonce)] w fun e w' => e = .returned (.bool true) ∧ Below w.heap.size w w' := by
  have h40 : (Try.prog.info? 40).map (·.size) = some (enc first4).size := by kernel_rfl
  replace h40 := Lib.hid h40
  replace hk := Lib.hid hk
  replace hn := Lib.hid hn
  go_enter Try.func6, Try.ntmps6
  go_wp2_with (refine wpList_store_row rfl 40 _ _ rfl _ (enc first4) rfl (by kernel_rfl) _ _ (hp_new _ _ _ (by simp)) h40.out rfl (enc_one first4) ?_)
  go_loopw [4] (fun i wr => ∃ k : Nat, k ≤ 8 ∧ i = .int .i64 k ∧ Mod (fun _ => False) w wr ∧ wr.heap[w.heap.size]? = some (.cells (fromC key count nonce) 26 (0,0)) ∧
    wr.heap[w.heap.size + 1]? = some (.cells (enc (kTo first4 4 key k)) 40 (0,0))) (fun i _ => 8 - (intOf i).toNat)
  case atStart =>
    refine ⟨0, Nat.zero_le _, rfl, ((Mod.refl _ w).alloc _).alloc _ |>.setRow (fun h => by omega) _, ?_, ?_⟩
    · rw [setRow_other _ _ _ _ (by omega)]
      rw [hp_old _ _ _ (by simp only [World.size_alloc]; omega), hp_new _ _ _ (by simp)]
    · rw [kTo]
      exact setRow_heap _ _ _ _ _ _ (hp_new _ _ _ (by simp))
  case round =>
    obtain ⟨k, hk8, rfl, mr, ar, dr⟩ := hrel
    by_cases hlt : k < 8
    · have c0 := from_cell_key hk.out ar (4 * k) (by omega)
      have c1 := from_cell_key hk.out ar (4 * k + 1) (by omega)
      have c2 := from_cell_key hk.out ar (4 * k + 2) (by omega)
      have c3 := from_cell_key hk.out ar (4 * k + 3) (by omega)
      have cd := enc_cell dr (i := 4 + k) (by rw [kTo_length]; simp [first4]; omega)
      have fd := frozen_of_row wr (w.heap.size + 1) (4 + k) _ _ dr
      have hlt' : (k : Int) < 8 := by omega
      have H : ∀ nq v, v = ((wd4 (key.getD (4 * k) 0) (key.getD (4 * k + 1) 0) (key.getD (4 * k + 2) 0) (key.getD (4 * k + 3) 0)).toNat : Int) → (wr.drewN nq).setCell ⟨w.heap.size + 1, 4 + k, none⟩ (.int .u32 v) = (wr.setRow (w.heap.size + 1) (enc (kTo first4 4 key (k + 1)))).drewN nq := by
        rintro nq v rfl
        rw [setCell_row _ _ _ _ _ _ (show (wr.drewN nq).heap[w.heap.size + 1]? = _ from dr)]
        exact congrArg (fun z => (wr.setRow _ z).drewN nq) (by rw [kTo]; exact enc_set _ _ _)
      have hb := wd4_bits' (key.getD (4 * k) 0) (key.getD (4 * k + 1) 0) (key.getD (4 * k + 2) 0) (key.getD (4 * k + 3) 0)
      generalize key.getD (4 * k) 0 = x0 at *
      generalize key.getD (4 * k + 1) 0 = x1 at *
      generalize key.getD (4 * k + 2) 0 = x2 at *
      generalize key.getD (4 * k + 3) 0 = x3 at *
      generalize wd4 x0 x1 x2 x3 = z at *
      generalize (kTo first4 4 key k).getD (4 + k) 0 = y at *
      replace H := Lib.hid H
      replace hb := Lib.hid hb
      go_wp2_with fail
      refine region_qtail 36 (by kernel_rfl) (by kernel_rfl) ?_
      simp only [List.take_succ_cons, List.take_zero, List.drop_succ_cons, List.drop_zero]
      repeat (go_big_quiet_step (fail))
      refine wpQuiet_nil ?_
      rintro _ ⟨nq, rfl⟩
      go_wp2
      go_roundw
      case rel =>
        refine ⟨k + 1, by omega, by go_num, ?_⟩
        rw [H.out nq _ hb.out]
        exact ⟨(mr.setRow (fun h => by omega) _).drewN nq, (setRow_other _ _ _ _ (by omega)).trans ar, setRow_heap _ _ _ _ _ _ dr⟩
      case measure => simp [intOf]; omega
    · obtain rfl : k = 8 := by omega
      rw [show ((8 : Nat) : Int) = 8 from rfl]
      have l8 : (kTo first4 4 key 8).length = 16 := by rw [kTo_length]; rfl
      have hfin : fromS key nonce count = kTo ((kTo first4 4 key 8).set 12 count) 13 nonce 3 := fromS_eq key nonce count
      generalize kTo first4 4 key 8 = f at *
      have cd := enc_cell dr (i := 12) (by rw [l8]; decide)
      have cc := from_cell_count hk.out ar
      have fd := frozen_of_row wr (w.heap.size + 1) 12 _ _ dr
      obtain ⟨f1, hf1⟩ : ∃ f1, f1 = f.set 12 count := ⟨_, rfl⟩
      have l1 : f1.length = 16 := by rw [hf1, List.length_set, l8]
      have d1 : (wr.setCell ⟨w.heap.size + 1, 12, none⟩ (.int .u32 (count.toNat : Int))).heap[w.heap.size + 1]? = some (.cells (enc f1) 40 (0,0)) := by
        rw [setCell_row _ _ _ _ _ _ dr, hf1, ← enc_set]; exact setRow_heap _ _ _ _ _ _ dr
      have m1 : Mod (fun _ => False) w (wr.setCell ⟨w.heap.size + 1, 12, none⟩ (.int .u32 (count.toNat : Int))) := mr.setCell (fun h => by simp at h; omega) _
      have a1 := (Mod.one_setCell wr (w.heap.size + 1) 12 (.int .u32 (count.toNat : Int))).heap ar (by omega)
      rw [← hf1] at hfin
      replace l8 := Lib.hid l8
      replace l1 := Lib.hid l1
      replace hf1 := Lib.hid hf1
      replace hfin := Lib.hid hfin
      replace d1 := Lib.hid d1
      replace m1 := Lib.hid m1
      replace a1 := Lib.hid a1
      obtain ⟨wo, rfl⟩ : ∃ wo : World, wo = wr := ⟨_, rfl⟩
      go_wp2
      go_loopw [5] (fun i wr => ∃ k : Nat, k ≤ 3 ∧ i = .int .i64 k ∧ Mod (fun _ => False) w wr ∧ wr.heap[w.heap.size]? = some (.cells (fromC key count nonce) 26 (0,0)) ∧
        wr.heap[w.heap.size + 1]? = some (.cells (enc (kTo f1 13 nonce k)) 40 (0,0))) (fun i _ => 3 - (intOf i).toNat)
      case atStart => exact ⟨0, Nat.zero_le _, rfl, m1.out, a1.out, by rw [kTo]; exact d1.out⟩
      case round =>
        clear mr ar dr cd fd m1 a1 d1 cc
        obtain ⟨k, hk8, rfl, mr, ar, dr⟩ := hrel
        by_cases hlt : k < 3
        · have c0 := from_cell_nonce hk.out hn.out ar (4 * k) (by omega)
          have c1 := from_cell_nonce hk.out hn.out ar (4 * k + 1) (by omega)
          have c2 := from_cell_nonce hk.out hn.out ar (4 * k + 2) (by omega)
          have c3 := from_cell_nonce hk.out hn.out ar (4 * k + 3) (by omega)
          have cd := enc_cell dr (i := 13 + k) (by rw [kTo_length, l1.out]; omega)
          have fd := frozen_of_row wr (w.heap.size + 1) (13 + k) _ _ dr
          have hlt' : (k : Int) < 3 := by omega
          have H : ∀ nq v, v = ((wd4 (nonce.getD (4 * k) 0) (nonce.getD (4 * k + 1) 0) (nonce.getD (4 * k + 2) 0) (nonce.getD (4 * k + 3) 0)).toNat : Int) → (wr.drewN nq).setCell ⟨w.heap.size + 1, 13 + k, none⟩ (.int .u32 v) = (wr.setRow (w.heap.size + 1) (enc (kTo f1 13 nonce (k + 1)))).drewN nq := by
            rintro nq v rfl
            rw [setCell_row _ _ _ _ _ _ (show (wr.drewN nq).heap[w.heap.size + 1]? = _ from dr)]
            exact congrArg (fun z => (wr.setRow _ z).drewN nq) (by rw [kTo]; exact enc_set _ _ _)
          have hb := wd4_bits' (nonce.getD (4 * k) 0) (nonce.getD (4 * k + 1) 0) (nonce.getD (4 * k + 2) 0) (nonce.getD (4 * k + 3) 0)
          generalize nonce.getD (4 * k) 0 = x0 at *
          generalize nonce.getD (4 * k + 1) 0 = x1 at *
          generalize nonce.getD (4 * k + 2) 0 = x2 at *
          generalize nonce.getD (4 * k + 3) 0 = x3 at *
          generalize wd4 x0 x1 x2 x3 = z at *
          generalize (kTo f1 13 nonce k).getD (13 + k) 0 = y at *
          replace H := Lib.hid H
          replace hb := Lib.hid hb
          go_wp2_with fail
          refine region_qtail 36 (by kernel_rfl) (by kernel_rfl) ?_
          simp only [List.take_succ_cons, List.take_zero, List.drop_succ_cons, List.drop_zero]
          repeat (go_big_quiet_step (fail))
          refine wpQuiet_nil ?_
          rintro _ ⟨nq, rfl⟩
          go_wp2
          go_roundw
          case rel =>
            refine ⟨k + 1, by omega, by go_num, ?_⟩
            rw [H.out nq _ hb.out]
            exact ⟨(mr.setRow (fun h => by omega) _).drewN nq, (setRow_other _ _ _ _ (by omega)).trans ar, setRow_heap _ _ _ _ _ _ dr⟩
          case measure => simp [intOf]; omega
        · obtain rfl : k = 3 := by omega
          rw [← hfin.out] at dr
          have lk := load_key key count nonce hk.out wr _ _ ar
          have lc := load_count key count nonce hk.out wr _ _ ar
          have ln := load_nonce key count nonce hk.out hn.out wr _ _ ar
          replace lk := Lib.hid lk
          replace lc := Lib.hid lc
          replace ln := Lib.hid ln
          go_wp2_with (first | (refine wpList_load_run rfl 22 _ rfl _ _ rfl _ lk.out ?_) | (refine wpList_load_run rfl 23 _ rfl _ _ rfl _ lc.out ?_) | (refine wpList_load_run rfl 24 _ rfl _ _ rfl _ ln.out ?_))
          refine (block_any key nonce hk.out hn.out count wr).mono ?_
          rintro e w2 ⟨rfl, m2⟩
          have lblk : (blockS key nonce count).length = 64 := by rw [blockS, outTo_length]
          have lf : (fromS key nonce count).length = 16 := fromS_length key nonce count
          obtain ⟨r, hr⟩ : ∃ r, r = rounds 10 (fromS key nonce count) := ⟨_, rfl⟩
          have lr : r.length = 16 := by rw [hr, rounds_length, lf]
          have hwd : ∀ i, i < 16 → wd4 ((blockS key nonce count).getD (4 * i) 0) ((blockS key nonce count).getD (4 * i + 1) 0) ((blockS key nonce count).getD (4 * i + 2) 0) ((blockS key nonce count).getD (4 * i + 3) 0) = r.getD i 0 + (fromS key nonce count).getD i 0 := fun i hi => by
            rw [hr, blockS]
            exact block_word _ _ i hi
          generalize blockS key nonce count = blk at *
          have d2 := m2.heap dr (fun h => h)
          have m02 := mr.trans m2
          generalize fromS key nonce count = f0 at *
          have h27 : (Try.prog.info? 27).map (·.size) = some (encB blk).size := by rw [encB_size, lblk]; kernel_rfl
          have hz : (64 : Nat) = (encB blk).size := by rw [encB_size, lblk]
          replace h27 := Lib.hid h27
          replace hz := Lib.hid hz
          replace hr := Lib.hid hr
          replace lr := Lib.hid lr
          replace lf := Lib.hid lf
          replace lblk := Lib.hid lblk
          replace hwd := Lib.hid hwd
          clear mr ar dr m2 lk lc ln
          go_wp2_with (refine wpList_store_row rfl 27 _ _ rfl _ (encB blk) rfl rfl _ _ (heap_alloc_new w2 _) h27.out hz.out (encB_one blk) ?_)
          generalize eB : w2.heap.size = B
          go_loopw [8] (fun i wr => ∃ k : Nat, k ≤ 16 ∧ i = .int .i64 k ∧ Mod (fun _ => False) w wr ∧ w.heap.size + 1 < B ∧ wr.heap[w.heap.size + 1]? = some (.cells (enc f0) 40 (0,0)) ∧
            wr.heap[B]? = some (.cells (encB blk) 27 (0,0)) ∧ wr.heap[B + 1]? = some (.cells (enc (rTo r k)) 40 (0,0))) (fun i _ => 16 - (intOf i).toNat)
          case atStart =>
            have hlt2 := lt_of_heap d2
            subst eB
            refine ⟨0, Nat.zero_le _, rfl, ((m02.alloc _).setRow (fun h => by omega) _).alloc _, hlt2, ?_, ?_, ?_⟩
            · rw [hp_old _ _ _ (by simp; omega), setRow_other _ _ _ _ (by omega), hp_old _ _ _ hlt2]
              exact d2
            · rw [hp_old _ _ _ (by simp), setRow_heap _ _ _ _ _ _ (heap_alloc_new w2 _)]
            · exact hp_new _ _ _ (by simp)
          case round =>
            clear m02 d2 h27 hz eB
            obtain ⟨k, hk16, rfl, mr, hB, fr, br, sr⟩ := hrel
            by_cases hlt : k < 16
            · have c0 := encB_cell br (i := 4 * k) (by rw [lblk.out]; omega)
              have c1 := encB_cell br (i := 4 * k + 1) (by rw [lblk.out]; omega)
              have c2 := encB_cell br (i := 4 * k + 2) (by rw [lblk.out]; omega)
              have c3 := encB_cell br (i := 4 * k + 3) (by rw [lblk.out]; omega)
              have cd := enc_cell sr (i := k) (by rw [rTo_length]; omega)
              have fd := frozen_of_row wr (B + 1) k _ _ sr
              have cf := enc_cell fr (i := k) (by rw [lf.out]; omega)
              have hlt' : (k : Int) < 16 := by omega
              have hz := hwd.out k hlt
              have hb := wd4_bits' (blk.getD (4 * k) 0) (blk.getD (4 * k + 1) 0) (blk.getD (4 * k + 2) 0) (blk.getD (4 * k + 3) 0)
              rw [hz] at hb
              have hset : ∀ v : BitVec 32, (enc (rTo r k)).setIfInBounds k (.int .u32 (v.toNat : Int)) = enc ((rTo r k).set k v) := fun v => enc_set _ _ _
              generalize blk.getD (4 * k) 0 = x0 at *
              generalize blk.getD (4 * k + 1) 0 = x1 at *
              generalize blk.getD (4 * k + 2) 0 = x2 at *
              generalize blk.getD (4 * k + 3) 0 = x3 at *
              generalize (rTo r k).getD k 0 = y at *
              generalize hfk : f0.getD k 0 = fk at *
              generalize hrk : r.getD k 0 = rk at *
              have H : ∀ nq v, v = ((rk + fk).toNat : Int) → ∀ w3, w3 = (wr.drewN nq).setCell ⟨B + 1, k, none⟩ (.int .u32 v) → Mod (fun x => x = B + 1) wr w3 ∧ w3.heap[B + 1]? = some (.cells (enc ((rTo r k).set k (rk + fk))) 40 (0,0)) := by
                rintro nq v rfl w3 rfl
                have e := row_store wr (B + 1) k _ _ _ (rk + fk) sr rfl nq
                exact ⟨e.2, e.1⟩
              replace H := Lib.hid H
              replace hb := Lib.hid hb
              replace hset := Lib.hid hset
              replace hz := Lib.hid hz
              go_wp2_with fail
              refine region_qtail 31 (by kernel_rfl) (by kernel_rfl) ?_
              simp only [List.take_succ_cons, List.take_zero, List.drop_succ_cons, List.drop_zero]
              repeat (go_big_quiet_step (fail))
              refine wpQuiet_nil ?_
              rintro _ ⟨nq, rfl⟩
              go_wp2_with fail
              refine wp_world fun w3 hw3 => ?_
              obtain ⟨m3, s3⟩ := H.out nq _ hb.out w3 hw3
              clear hw3 H
              have f3 := m3.heap fr (by omega)
              have b3 := m3.heap br (by omega)
              have cd3 := enc_cell s3 (i := k) (by rw [List.length_set, rTo_length]; omega)
              rw [getD_set_same _ _ _ (by rw [rTo_length]; omega)] at cd3
              have fd3 := frozen_of_row w3 (B + 1) k _ _ s3
              have cf3 := enc_cell f3 (i := k) (by rw [lf.out]; omega)
              rw [hfk] at cf3
              have m03 := mr.trans' m3 (fun i hi h => by omega)
              have hsub : (((rk + fk).toNat : Int) - (fk.toNat : Int)) % 4294967296 = (rk.toNat : Int) := by rw [sub32, BitVec.add_sub_cancel]
              have H : ∀ nq v, v = (rk.toNat : Int) → ∀ w4, w4 = (w3.drewN nq).setCell ⟨B + 1, k, none⟩ (.int .u32 v) → Mod (fun x => x = B + 1) w3 w4 ∧ w4.heap[B + 1]? = some (.cells (enc (rTo r (k + 1))) 40 (0,0)) := by
                rintro nq v rfl w4 rfl
                have e := row_store w3 (B + 1) k _ _ _ rk s3 rfl nq
                rw [List.set_set] at e
                exact ⟨e.2, by rw [rTo, hrk]; exact e.1⟩
              replace H := Lib.hid H
              replace hsub := Lib.hid hsub
              clear c0 c1 c2 c3 cd fd cf mr fr br sr m3 s3
              generalize rk + fk = sum at *
              refine region_qtail 9 (by kernel_rfl) (by kernel_rfl) ?_
              simp only [List.take_succ_cons, List.take_zero, List.drop_succ_cons, List.drop_zero]
              repeat (go_big_quiet_step (fail))
              refine wpQuiet_nil ?_
              rintro _ ⟨nq, rfl⟩
              go_wp2
              go_roundw
              case measure => simp [intOf]; omega
              case rel =>
                obtain ⟨m4, s4⟩ := H.out nq _ hsub.out _ rfl
                exact ⟨k + 1, by omega, by go_num, m03.trans' m4 (fun i hi h => by omega), hB, m4.heap f3 (by omega), m4.heap b3 (by omega), s4⟩
            · obtain rfl : k = 16 := by omega
              rw [show ((16 : Nat) : Int) = 16 from rfl]
              rw [rTo_all r lr.out] at sr
              go_upto_region 19 with (fail)
              generalize hF : w.heap.size + 1 = F at *
              clear br
              go_loopw [9] (fun i wr => ∃ k : Nat, k ≤ 10 ∧ i = .int .i64 k ∧ Mod (fun _ => False) w wr ∧ wr.heap[F]? = some (.cells (enc f0) 40 (0,0)) ∧ wr.heap[B + 1]? = some (.cells (enc (rounds (10 - k) f0)) 40 (0,0))) (fun i _ => 10 - (intOf i).toNat)
              case atStart => exact ⟨0, by omega, rfl, mr, fr, by rw [← hr.out]; exact sr⟩
              case round =>
                clear mr fr sr
                obtain ⟨k, hk10, rfl, mr, fr, sr⟩ := hrel
                by_cases hlt : k < 10
                · have hlt' : (k : Int) < 10 := by omega
                  obtain ⟨q, hq⟩ : ∃ q, q = rounds (10 - (k + 1)) f0 := ⟨_, rfl⟩
                  have lq : q.length = 16 := by rw [hq, rounds_length, lf.out]
                  have h0 : rounds (10 - k) f0 = qrs 8 q := by rw [hq, show 10 - k = (10 - (k + 1)) + 1 by omega, rounds]
                  rw [h0] at sr
                  replace hq := Lib.hid hq
                  replace lq := Lib.hid lq
                  clear h0
                  go_wp2_with fail
                  refine (undo_any (B + 1) _ (qrs 7 q) 3 4 9 14 _ (by rw [qrs_length, lq.out]) sr (by decide) (by decide) (by decide) (by decide) (by decide) (by decide) (by decide) (by decide) (by decide) (by decide)).mono ?_
                  rintro e v0 ⟨rfl, mm, sr⟩
                  have fr := mm.heap fr (by omega)
                  have mr := mr.trans' mm (fun i hi h => by omega)
                  clear mm
                  go_wp2_with fail
                  refine (undo_any (B + 1) _ (qrs 6 q) 2 7 8 13 _ (by rw [qrs_length, lq.out]) sr (by decide) (by decide) (by decide) (by decide) (by decide) (by decide) (by decide) (by decide) (by decide) (by decide)).mono ?_
                  rintro e v1 ⟨rfl, mm, sr⟩
                  have fr := mm.heap fr (by omega)
                  have mr := mr.trans' mm (fun i hi h => by omega)
                  clear mm
                  go_wp2_with fail
                  refine (undo_any (B + 1) _ (qrs 5 q) 1 6 11 12 _ (by rw [qrs_length, lq.out]) sr (by decide) (by decide) (by decide) (by decide) (by decide) (by decide) (by decide) (by decide) (by decide) (by decide)).mono ?_
                  rintro e v2 ⟨rfl, mm, sr⟩
                  have fr := mm.heap fr (by omega)
                  have mr := mr.trans' mm (fun i hi h => by omega)
                  clear mm
                  go_wp2_with fail
                  refine (undo_any (B + 1) _ (qrs 4 q) 0 5 10 15 _ (by rw [qrs_length, lq.out]) sr (by decide) (by decide) (by decide) (by decide) (by decide) (by decide) (by decide) (by decide) (by decide) (by decide)).mono ?_
                  rintro e v3 ⟨rfl, mm, sr⟩
                  have fr := mm.heap fr (by omega)
                  have mr := mr.trans' mm (fun i hi h => by omega)
                  clear mm
                  go_wp2_with fail
                  refine (undo_any (B + 1) _ (qrs 3 q) 3 7 11 15 _ (by rw [qrs_length, lq.out]) sr (by decide) (by decide) (by decide) (by decide) (by decide) (by decide) (by decide) (by decide) (by decide) (by decide)).mono ?_
                  rintro e v4 ⟨rfl, mm, sr⟩
                  have fr := mm.heap fr (by omega)
                  have mr := mr.trans' mm (fun i hi h => by omega)
                  clear mm
                  go_wp2_with fail
                  refine (undo_any (B + 1) _ (qrs 2 q) 2 6 10 14 _ (by rw [qrs_length, lq.out]) sr (by decide) (by decide) (by decide) (by decide) (by decide) (by decide) (by decide) (by decide) (by decide) (by decide)).mono ?_
                  rintro e v5 ⟨rfl, mm, sr⟩
                  have fr := mm.heap fr (by omega)
                  have mr := mr.trans' mm (fun i hi h => by omega)
                  clear mm
                  go_wp2_with fail
                  refine (undo_any (B + 1) _ (qrs 1 q) 1 5 9 13 _ (by rw [qrs_length, lq.out]) sr (by decide) (by decide) (by decide) (by decide) (by decide) (by decide) (by decide) (by decide) (by decide) (by decide)).mono ?_
                  rintro e v6 ⟨rfl, mm, sr⟩
                  have fr := mm.heap fr (by omega)
                  have mr := mr.trans' mm (fun i hi h => by omega)
                  clear mm
                  go_wp2_with fail
                  refine (undo_any (B + 1) _ (qrs 0 q) 0 4 8 12 _ (by rw [qrs_length, lq.out]) sr (by decide) (by decide) (by decide) (by decide) (by decide) (by decide) (by decide) (by decide) (by decide) (by decide)).mono ?_
                  rintro e v7 ⟨rfl, mm, sr⟩
                  have fr := mm.heap fr (by omega)
                  have mr := mr.trans' mm (fun i hi h => by omega)
                  clear mm
                  go_wp2
                  go_roundw
                  case measure => simp [intOf]; omega
                  case rel => exact ⟨k + 1, by omega, by go_num, mr, fr, by rw [← hq.out]; exact sr⟩
                · obtain rfl : k = 10 := by omega
                  rw [show ((10 : Nat) : Int) = 10 from rfl]
                  rw [show rounds (10 - 10) f0 = f0 from rfl] at sr
                  go_wp2_with fail
                  refine (alive_any _).mono ?_
                  rintro e w9 ⟨m9, rfl⟩
                  have f9 := m9.heap fr (fun h => h)
                  have s9 := m9.heap sr (fun h => h)
                  have hfin := (mr.trans m9).below (B := w.heap.size) (Nat.le_refl _) (fun i h => h.elim)
                  have h16 : (Try.prog.info? 40).map (·.size) = some (enc f0).size := by rw [enc_size, lf.out]; kernel_rfl
                  replace h16 := Lib.hid h16
                  replace hfin := Lib.hid hfin
                  replace lf := lf.out
                  replace lf := Lib.hid lf
                  clear mr m9 fr sr
                  have heq : (binOp .eql 40 (.agg (enc f0)) (.agg (enc f0))).run Try.prog w9 = .ok (.bool true) w9 := by
                    obtain ⟨i0, hi⟩ : ∃ i0, Try.prog.info? 23 = some i0 := ⟨_, rfl⟩
                    rw [run_eql_words w9 40 23 16 i0 Try.underlying40 Try.underlying23 hi (by kernel_rfl) _ _ lf.out lf.out]
                    simp
                  have ls : (loadVar 40 ⟨B + 1, 0, none⟩).run Try.prog w9 = .ok (.agg (enc f0)) w9 := run_loadVar_sub (P := Try.prog) w9 (B + 1) 0 40 40 (enc f0) (enc f0).toList (0,0) _ s9 Try.underlying40 rfl (by rw [h16.out]; simp) (by intro j v h; rw [Nat.zero_add]; simpa using h)
                  have lg : (loadVar 40 ⟨F, 0, none⟩).run Try.prog w9 = .ok (.agg (enc f0)) w9 := run_loadVar_sub (P := Try.prog) w9 F 0 40 40 (enc f0) (enc f0).toList (0,0) _ f9 Try.underlying40 rfl (by rw [h16.out]; simp) (by intro j v h; rw [Nat.zero_add]; simpa using h)
                  have heq2 : (Op.equalIn 10000 40 (.agg (enc f0)) (.agg (enc f0))).run Try.prog w9 = .ok true w9 := by
                    obtain ⟨i0, hi⟩ : ∃ i0, Try.prog.info? 23 = some i0 := ⟨_, rfl⟩
                    rw [run_equalIn_array w9 9999 (enc f0) (enc f0) Try.underlying40 hi, show Try.prog.cellsOf 23 = 1 by kernel_rfl]
                    rw [run_eqItems_int 9998 23 .u32 Try.underlying23 (enc f0) (enc f0) (fun i => ((f0.getD i 0).toNat : Int)) (fun i => ((f0.getD i 0).toNat : Int)) (List.range 16) w9 (fun i h => ⟨enc_get (by rw [lf.out]; exact List.mem_range.1 h), enc_get (by rw [lf.out]; exact List.mem_range.1 h)⟩), all_range]
                    simp
                  clear heq
                  replace ls := Lib.hid ls
                  replace lg := Lib.hid lg
                  clear s9 f9
                  go_wp2_with (first | (refine wpList_yields (by kernel_rfl) (.agg (enc f0)) w9 (run_load_op rfl rfl ls.out) ?_) | (refine wpList_yields (by kernel_rfl) (.agg (enc f0)) w9 (run_load_op rfl rfl lg.out) ?_))
                  go_ret
                  exact ⟨rfl, hfin.out⟩
end Go.Proofs.Ytndfgjajpmccjaa
