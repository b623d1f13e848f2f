/-
  sha.further: a state, a block further. Printed by gen/sha5.py.
-/
import Derived.BigQuiet
import Derived.Test.YtppjnkgmbmhlcaaGreatDoorS4
namespace Go.Proofs.YtppjnkgmbmhlcaaGreatDoor
set_option maxRecDepth 100000
open Go Go.RowKit Go.Lib
set_option linter.unusedSimpArgs false
set_option linter.unusedVariables false

/-- The words of a block, as far as so many bytes tell. -/
def fillS (b : List (BitVec 8)) : Nat → List (BitVec 32)
  | 0 => zw 64
  | i + 1 => (fillS b i).set (i / 4) ((fillS b i).getD (i / 4) 0 <<< 8 ||| (b.getD i 0).setWidth 32)
def nextW (w : List (BitVec 32)) (t : Nat) : BitVec 32 :=
  w.getD (t - 7) 0 + w.getD (t - 16) 0 + (rr (w.getD (t - 2) 0) 17 ^^^ rr (w.getD (t - 2) 0) 19 ^^^ (w.getD (t - 2) 0) >>> 10) + (rr (w.getD (t - 15) 0) 7 ^^^ rr (w.getD (t - 15) 0) 18 ^^^ (w.getD (t - 15) 0) >>> 3)
def schedS (b : List (BitVec 8)) : Nat → List (BitVec 32)
  | 0 => fillS b 64
  | t + 1 => (schedS b t).set (t + 16) (nextW (schedS b t) (t + 16))
structure St where
  (a b c d e f g h : BitVec 32)
def oneS (k w : BitVec 32) (s : St) : BitVec 32 := s.h + three s.e 6 11 25 + (s.g ^^^ s.e &&& (s.f ^^^ s.g)) + k + w
def twoS (s : St) : BitVec 32 := three s.a 2 13 22 + (s.a &&& s.b ||| s.c &&& (s.a ||| s.b))
def stepS (k w : BitVec 32) (s : St) : St := ⟨oneS k w s + twoS s, s.a, s.b, s.c, s.d + oneS k w s, s.e, s.f, s.g⟩
def runS (K W : List (BitVec 32)) (s : St) : Nat → St
  | 0 => s
  | t + 1 => stepS (K.getD t 0) (W.getD t 0) (runS K W s t)
def ofL (s : List (BitVec 32)) : St := ⟨s.getD 0 0, s.getD 1 0, s.getD 2 0, s.getD 3 0, s.getD 4 0, s.getD 5 0, s.getD 6 0, s.getD 7 0⟩
def toL (s : St) : List (BitVec 32) := [s.a, s.b, s.c, s.d, s.e, s.f, s.g, s.h]
def addTo (s x : List (BitVec 32)) : Nat → List (BitVec 32)
  | 0 => s
  | i + 1 => (addTo s x i).set i ((addTo s x i).getD i 0 + x.getD i 0)
def furtherS (K s : List (BitVec 32)) (b : List (BitVec 8)) : List (BitVec 32) := addTo s (toL (runS K (schedS b 48) (ofL s) 64)) 8
theorem fillS_length (b : List (BitVec 8)) (i : Nat) : (fillS b i).length = 64 := by
  induction i with
  | zero => simp [fillS, zw]
  | succ i ih => simp [fillS, ih]
theorem schedS_length (b : List (BitVec 8)) (i : Nat) : (schedS b i).length = 64 := by
  induction i with
  | zero => exact fillS_length _ _
  | succ i ih => simp [schedS, ih]
theorem addTo_length (s x : List (BitVec 32)) (i : Nat) : (addTo s x i).length = s.length := by
  induction i with
  | zero => rfl
  | succ i ih => simp [addTo, ih]
theorem or_byte (x : BitVec 32) (c : BitVec 8) : bits .or .u32 ((x.toNat : Int) * 256 % 4294967296) (c.toNat : Int) = ((x <<< 8 ||| c.setWidth 32).toNat : Int) := by
  have h1 := shl32 x 256 8 rfl
  have h2 : (c.toNat : Int) = ((c.setWidth 32).toNat : Int) := by
    rw [BitVec.toNat_setWidth, Nat.mod_eq_of_lt (Nat.lt_trans c.isLt (by decide))]
  rw [h2, ← bits_or32, ← h1]
  rfl

theorem build8 (a b c d e f g h : BitVec 32) (w : World) : (Instr.build 166 #[(0, .int .u32 (a.toNat : Int)), (1, .int .u32 (b.toNat : Int)), (2, .int .u32 (c.toNat : Int)), (3, .int .u32 (d.toNat : Int)), (4, .int .u32 (e.toNat : Int)), (5, .int .u32 (f.toNat : Int)), (6, .int .u32 (g.toNat : Int)), (7, .int .u32 (h.toNat : Int))]).run Tryz.prog w = .ok (.agg (encW [a, b, c, d, e, f, g, h]).toArray) w := by kernel_rfl
theorem build8_op (a b c d e f g h : BitVec 32) (w : World) (ev : Operand → Value) (o : Oper) (x0 x1 x2 x3 x4 x5 x6 x7 : Operand) (ho : o.op = .build 166 #[(0, x0), (1, x1), (2, x2), (3, x3), (4, x4), (5, x5), (6, x6), (7, x7)])
    (h0 : ev x0 = .int .u32 (a.toNat : Int)) (h1 : ev x1 = .int .u32 (b.toNat : Int)) (h2 : ev x2 = .int .u32 (c.toNat : Int)) (h3 : ev x3 = .int .u32 (d.toNat : Int)) (h4 : ev x4 = .int .u32 (e.toNat : Int)) (h5 : ev x5 = .int .u32 (f.toNat : Int)) (h6 : ev x6 = .int .u32 (g.toNat : Int)) (h7 : ev x7 = .int .u32 (h.toNat : Int)) :
    (execOp ev o).run Tryz.prog w = .ok (.value (.agg (encW [a, b, c, d, e, f, g, h]).toArray)) w := by
  have hb := build8 a b c d e f g h w
  unfold execOp
  simp only [ho]
  simp only [List.map_toArray, List.map_cons, List.map_nil, h0, h1, h2, h3, h4, h5, h6, h7, Sem.run_bind, hb, Result.andThen_ok, Sem.run_pure]
theorem index_words (w : World) (l : List (BitVec 32)) (j : Nat) (hj : j < 8) (hb : l.length = 8) :
    (Instr.index 166 (.agg (encW l).toArray) (.int .i64 (j : Int))).run Tryz.prog w = .ok (.int .u32 ((l.getD j 0).toNat : Int)) w := by
  have hagg : (isAgg 58).run Tryz.prog w = .ok false w := by
    unfold isAgg
    rw [Sem.run_bind, run_underlying Tryz.underlying58 w]
    simp
  have hg : (encW l)[j]? = some (.int .u32 ((l.getD j 0).toNat : Int)) := by simp [encW, W, show j < l.length by omega]
  have hs : ∀ w, (sizeOf 58).run Tryz.prog w = .ok 1 w := fun w => by kernel_rfl
  simp only [List.getD_eq_getElem?_getD] at hg ⊢
  simp [Instr.index, asIntOf, Sem.run_bind, run_underlying Tryz.underlying166 w, hs, hj, Go.part, hagg, hg]

set_option maxRecDepth 100000 in
set_option maxHeartbeats 4000000 in
theorem further_any (K st : List (BitVec 32)) (b : List (BitVec 8)) (hK : K.length = 64) (hst : st.length = 8) (hbl : b.length = 64) (v : Value) (kb : Nat) (w : World) (hb : ByteAt w v b) (hk : WordsAt w kb 168 K) :
    Calls Tryz.prog 109 #[.agg (encW st).toArray, v, .pointer (some ⟨kb, 0, none⟩)] w fun e w' => Mod (fun _ => False) w w' ∧ e = .returned (.agg (encW (furtherS K st b)).toArray) := by
  obtain ⟨ad, cap, rfl, hbc⟩ := hb.slice
  rw [hbl] at hbc
  obtain ⟨w1, hw1⟩ : ∃ w1, w1 = (w.alloc (.cells (encW st).toArray 166)).alloc (.cells (encW (zw 8)).toArray 166) := ⟨_, rfl⟩
  obtain ⟨w2, hw2⟩ : ∃ w2, w2 = w1.alloc (.cells (encW (zw 64)).toArray 168) := ⟨_, rfl⟩
  have hs1 : w1.heap.size = w.heap.size + 2 := by rw [hw1]; simp
  have m2 : Mod (fun _ => False) w w2 := by rw [hw2, hw1]; exact (((Mod.refl _ _).alloc _).alloc _).alloc _
  have xS : WordsAt w2 w.heap.size 166 st := by
    rw [hw2]; unfold WordsAt; rw [hp_old _ _ _ (by rw [hs1]; omega), hw1, hp_old _ _ _ (by simp)]; exact hp_new _ _ _ rfl
  have xR : WordsAt w2 (w.heap.size + 1) 166 (zw 8) := by
    rw [hw2]; unfold WordsAt; rw [hp_old _ _ _ (by rw [hs1]; omega), hw1]; exact hp_new _ _ _ (by simp)
  have xW : WordsAt w2 (w.heap.size + 2) 168 (fillS b 0) := by
    rw [hw2]; exact hp_new _ _ _ (by rw [hs1])
  have hbc2 : ∀ j, j < 64 → ∃ g off, ad = some ⟨g, off, none⟩ ∧ g < w.heap.size ∧ w2.cell? ⟨g, off + j, none⟩ = some (.int .u8 ((b.getD j 0).toNat : Int)) := by
    intro j hj
    obtain ⟨g, off, h1, h2, h3⟩ := hbc j hj
    exact ⟨g, off, h1, h2, cell_mod m2 h3 (fun h => h)⟩
  have xK := hk.mod m2 (fun h => h)
  have hkb : kb < w.heap.size := lt_of_heap hk
  replace hw1 := Lib.hid hw1
  replace hw2 := Lib.hid hw2
  replace m2 := Lib.hid m2
  replace xS := Lib.hid xS
  replace xR := Lib.hid xR
  replace xW := Lib.hid xW
  replace xK := Lib.hid xK
  replace hbc2 := Lib.hid hbc2
  replace hK := Lib.hid hK
  replace hst := Lib.hid hst
  replace hb := Lib.hid hb
  clear hbc hk
  rw [hbl]
  replace hbl := Lib.hid hbl
  go_enter Tryz.func109, Tryz.ntmps109
  go_upto_region 0 with (fail)
  refine wp_region_lit ?_
  refine wpList_yields (by kernel_rfl) (.pointer (some ⟨w.heap.size, 0, none⟩)) (w.alloc (.cells (encW st).toArray 166)) (by go_simp) ?_
  simp only [Act.put, List.setIfInBounds_toArray, List.set_cons_zero, List.set_cons_succ]
  refine wpList_yields (by kernel_rfl) _ _ (alloc_arr 166 _ zero8 _ _ _ rfl) ?_
  simp only [Act.put, List.setIfInBounds_toArray, List.set_cons_zero, List.set_cons_succ]
  rw [show (w.alloc (.cells (encW st).toArray 166)).heap.size = w.heap.size + 1 by simp, ← hw1.out]
  go_upto_region 1 with (fail)
  refine wp_region_lit ?_
  refine wpList_yields (by kernel_rfl) _ _ (alloc_arr 168 _ zero64 _ _ _ rfl) ?_
  simp only [Act.put, List.setIfInBounds_toArray, List.set_cons_zero, List.set_cons_succ]
  rw [hs1, ← hw2.out]
  go_wp2
  go_loopw [28] (fun iv wr => ∃ i : Nat, i ≤ 64 ∧ iv = .int .i64 (i : Int) ∧ Mod (fun k => k = w.heap.size + 2) w2 wr ∧ WordsAt wr (w.heap.size + 2) 168 (fillS b i)) (fun iv _ => 64 - (intOf iv).toNat)
  case atStart => exact ⟨0, by omega, rfl, Mod.refl _ _, xW.out⟩
  case round =>
    obtain ⟨i, hi, rfl, mr, xr⟩ := hrel
    have bi0 : (0 : Int) ≤ (i : Int) := by omega
    have bi : (i : Int) ≤ 64 := by omega
    by_cases hlt : i < 64
    · have hd : decide ((i : Int) < 64) = true := by rw [decide_eq_true_iff]; omega
      have bil : (i : Int) < 64 := by omega
      obtain ⟨g, off, rfl, hgl, hc0⟩ := hbc2.out i hlt
      have hci := cell_mod mr hc0 (by omega)
      obtain ⟨d, hdd⟩ : ∃ d, d = i / 4 := ⟨_, rfl⟩
      have hd16 : d < 16 := by omega
      have hd1 : Int.tdiv (i : Int) 4 = (d : Int) := by rw [hdd]; rfl
      have hd2 : (i : Int) / 4 = (d : Int) := by omega
      have bd0 : (0 : Int) ≤ (d : Int) := by omega
      have bd64 : (d : Int) < 64 := by omega
      have cW := xr.cell (i := d) (by rw [fillS_length]; omega)
      have fW := xr.frozen d
      obtain ⟨x, hx⟩ : ∃ x, x = (fillS b i).getD d 0 := ⟨_, rfl⟩
      obtain ⟨c, hc⟩ : ∃ c, c = b.getD i 0 := ⟨_, rfl⟩
      have hc256 := c.isLt
      rw [← hx] at cW
      rw [← hc] at hci
      have hor := or_byte x c
      have hnext : fillS b (i + 1) = (fillS b i).set d (x <<< 8 ||| c.setWidth 32) := by rw [hx, hc, hdd]; rfl
      obtain ⟨y, hy⟩ : ∃ y, y = x <<< 8 ||| c.setWidth 32 := ⟨_, rfl⟩
      rw [← hy] at hor hnext
      have hset := xr.set d y _ rfl
      rw [← hnext] at hset
      have bc : (c.toNat : Int) < 256 := by omega
      replace hnext := Lib.hid hnext
      replace hset := Lib.hid hset
      replace hx := Lib.hid hx
      replace hc := Lib.hid hc
      replace hy := Lib.hid hy
      replace hdd := Lib.hid hdd
      replace mr := Lib.hid mr
      replace xr := Lib.hid xr
      replace hlt := Lib.hid hlt
      replace hbc2 := Lib.hid hbc2
      clear hc0 hi hc256
      go_wp2
      go_roundw
      case measure => have := hlt.out; simp [intOf]; omega
      case rel => exact ⟨i + 1, by have := hlt.out; omega, by go_num, mr.out.trans hset.out.2, hset.out.1⟩
    · have hi64 : i = 64 := by omega
      have hd : decide ((i : Int) < 64) = false := by rw [decide_eq_false_iff_not]; omega
      obtain ⟨wA, hwA⟩ : ∃ wA, wA = wr := ⟨_, rfl⟩
      rw [← hwA] at mr xr ⊢
      rw [hi64] at xr
      replace hi64 := Lib.hid hi64
      have xA : WordsAt wA (w.heap.size + 2) 168 (schedS b 0) := xr
      replace mr := Lib.hid mr
      replace xA := Lib.hid xA
      replace hwA := Lib.hid hwA
      replace hbc2 := Lib.hid hbc2
      clear xr hi hlt
      go_wp2
      go_loopw [10] (fun tv wr => ∃ j T : Nat, j ≤ 48 ∧ T = j + 16 ∧ tv = .int .i64 (T : Int) ∧ Mod (fun k => k = w.heap.size + 2) wA wr ∧ WordsAt wr (w.heap.size + 2) 168 (schedS b j)) (fun tv _ => 64 - (intOf tv).toNat)
      case atStart => exact ⟨0, 16, by omega, rfl, rfl, Mod.refl _ _, xA.out⟩
      case round =>
        obtain ⟨j, T, hj, hT, rfl, mj, xj⟩ := hrel
        have bT0 : (0 : Int) ≤ (T : Int) := by omega
        have bT : (T : Int) ≤ 64 := by omega
        by_cases hlt : j < 48
        · have hd : decide ((T : Int) < 64) = true := by rw [decide_eq_true_iff]; omega
          have bTl : (T : Int) < 64 := by omega
          obtain ⟨t2, ht2⟩ : ∃ t2, t2 = T - 2 := ⟨_, rfl⟩
          obtain ⟨t15, ht15⟩ : ∃ t15, t15 = T - 15 := ⟨_, rfl⟩
          obtain ⟨t7, ht7⟩ : ∃ t7, t7 = T - 7 := ⟨_, rfl⟩
          obtain ⟨t16, ht16⟩ : ∃ t16, t16 = T - 16 := ⟨_, rfl⟩
          have e2 : (T : Int) - 2 = (t2 : Int) := by omega
          have e15 : (T : Int) - 15 = (t15 : Int) := by omega
          have e7 : (T : Int) - 7 = (t7 : Int) := by omega
          have e16 : (T : Int) - 16 = (t16 : Int) := by omega
          have b2 : (t2 : Int) < 64 := by omega
          have b15 : (t15 : Int) < 64 := by omega
          have b7 : (t7 : Int) < 64 := by omega
          have b16 : (t16 : Int) < 64 := by omega
          have b20 : (0 : Int) ≤ (t2 : Int) := by omega
          have b150 : (0 : Int) ≤ (t15 : Int) := by omega
          have b70 : (0 : Int) ≤ (t7 : Int) := by omega
          have b160 : (0 : Int) ≤ (t16 : Int) := by omega
          have c2 := xj.cell (i := t2) (by rw [schedS_length]; omega)
          have c15 := xj.cell (i := t15) (by rw [schedS_length]; omega)
          have hnext : schedS b (j + 1) = (schedS b j).set T (nextW (schedS b j) T) := by rw [hT]; rfl
          have hn2 : nextW (schedS b j) T = (schedS b j).getD t7 0 + (schedS b j).getD t16 0 + (rr ((schedS b j).getD t2 0) 17 ^^^ rr ((schedS b j).getD t2 0) 19 ^^^ ((schedS b j).getD t2 0) >>> 10) + (rr ((schedS b j).getD t15 0) 7 ^^^ rr ((schedS b j).getD t15 0) 18 ^^^ ((schedS b j).getD t15 0) >>> 3) := by rw [ht2, ht15, ht7, ht16]; rfl
          rw [hn2] at hnext
          obtain ⟨x, hx⟩ : ∃ x, x = (schedS b j).getD t2 0 := ⟨_, rfl⟩
          obtain ⟨y, hy⟩ : ∃ y, y = (schedS b j).getD t15 0 := ⟨_, rfl⟩
          obtain ⟨p, hp⟩ : ∃ p, p = (schedS b j).getD t7 0 := ⟨_, rfl⟩
          obtain ⟨q, hq⟩ : ∃ q, q = (schedS b j).getD t16 0 := ⟨_, rfl⟩
          rw [← hx, ← hy, ← hp, ← hq] at hnext
          rw [← hx] at c2
          rw [← hy] at c15
          have l7 : t7 < 64 := by omega
          have l16 : t16 < 64 := by omega
          have lT : T < 64 := by omega
          replace hnext := Lib.hid hnext
          replace mj := Lib.hid mj
          replace xj := Lib.hid xj
          replace hT := Lib.hid hT
          replace hlt := Lib.hid hlt
          replace hx := Lib.hid hx
          replace hy := Lib.hid hy
          replace hp := Lib.hid hp
          replace hq := Lib.hid hq
          replace l7 := Lib.hid l7
          replace l16 := Lib.hid l16
          replace lT := Lib.hid lT
          clear hn2 ht2 ht15 ht7 ht16 hj
          go_upto_region 10 with (fail)
          go_quiet (fail)
          obtain ⟨wq, hwq⟩ : ∃ wq, wq = wr.drewN nq := ⟨_, rfl⟩
          have xq : WordsAt wq (w.heap.size + 2) 168 (schedS b j) := by rw [hwq]; exact xj.out
          have mq : Mod (fun k => k = w.heap.size + 2) wA wq := by rw [hwq]; exact mj.out.drewN nq
          have c7 := xq.cell (i := t7) (by rw [schedS_length]; exact l7.out)
          have c16 := xq.cell (i := t16) (by rw [schedS_length]; exact l16.out)
          have cT := xq.cell (i := T) (by rw [schedS_length]; exact lT.out)
          have fT := xq.frozen T
          rw [← hp.out] at c7
          rw [← hq.out] at c16
          rw [← hwq]
          replace hwq := Lib.hid hwq
          replace xq := Lib.hid xq
          replace mq := Lib.hid mq
          clear c2 c15 mj xj
          go_upto_region 11 with (fail)
          refine region_qtail 29 (by kernel_rfl) (by kernel_rfl) ?_
          simp only [List.take_succ_cons, List.take_zero, List.drop_succ_cons, List.drop_zero]
          repeat (go_big_quiet_step (fail))
          go_big_quiet_step (refine Calls.quiet_of_same (rr17_u x _))
          repeat (go_big_quiet_step (fail))
          go_big_quiet_step (refine Calls.quiet_of_same (rr19_u x _))
          repeat (go_big_quiet_step (fail))
          go_big_quiet_step (refine Calls.quiet_of_same (rr7_u y _))
          repeat (go_big_quiet_step (fail))
          go_big_quiet_step (refine Calls.quiet_of_same (rr18_u y _))
          repeat (go_big_quiet_step (fail))
          refine wpQuiet_nil ?_
          rintro _ ⟨nq, rfl⟩
          obtain ⟨w8, hw8⟩ : ∃ w8, w8 = wq.drewN nq := ⟨_, rfl⟩
          have x8 : WordsAt w8 (w.heap.size + 2) 168 (schedS b j) := by rw [hw8]; exact xq.out
          have m8 : Mod (fun k => k = w.heap.size + 2) wA w8 := by rw [hw8]; exact mq.out.drewN nq
          obtain ⟨z, hz⟩ : ∃ z, z = p + q + (rr x 17 ^^^ rr x 19 ^^^ x >>> 10) + (rr y 7 ^^^ rr y 18 ^^^ y >>> 3) := ⟨_, rfl⟩
          rw [← hw8]
          have hset := x8.set T z _ rfl
          have s9 := word_store x8 (i := T) (by rw [schedS_length]; exact lT.out) (z.toNat : Int)
          rw [hz, ← hnext.out, ← hz] at hset
          obtain ⟨w9, hw9⟩ : ∃ w9, w9 = w8.setCell ⟨w.heap.size + 2, T, none⟩ (.int .u32 (z.toNat : Int)) := ⟨_, rfl⟩
          rw [← hw9] at hset s9
          have m9 := m8.trans hset.2
          have x9 := hset.1
          replace hw8 := Lib.hid hw8
          replace hw9 := Lib.hid hw9
          replace m9 := Lib.hid m9
          replace x9 := Lib.hid x9
          clear cT fT c7 c16 xq mq x8 m8 hset
          refine wpList_store_to rfl _ _ _ rfl _ _ (.int .u32 (z.toNat : Int)) rfl ?_ _ s9 ?_
          · refine int_of ?_
            rw [hz]
            have h10 : bits .xor .u32 ((rr x 17 ^^^ rr x 19).toNat : Int) ((x.toNat : Int) / 1024) = ((rr x 17 ^^^ rr x 19 ^^^ x >>> 10).toNat : Int) := by
              have e : (x.toNat : Int) / (1024 : Int) = ((x >>> 10).toNat : Int) := sh32_10 x
              rw [e, bits_xor32]
            have h3 : bits .xor .u32 ((rr y 7 ^^^ rr y 18).toNat : Int) ((y.toNat : Int) / 8) = ((rr y 7 ^^^ rr y 18 ^^^ y >>> 3).toNat : Int) := by
              have e : (y.toNat : Int) / (8 : Int) = ((y >>> 3).toNat : Int) := sh32_3 y
              rw [e, bits_xor32]
            simp only [bits_xor32]
            simp only [h10, h3, BitVec.toNat_add, Int.natCast_emod, Int.natCast_add]
            omega
          replace hz := Lib.hid hz
          go_wp2
          go_roundw
          case measure => have := hlt.out; have := hT.out; simp [intOf]; omega
          case rel =>
            exact ⟨j + 1, T + 1, by have := hlt.out; omega, by have := hT.out; omega, by go_num, m9.out, x9.out⟩
        · have hj48 : j = 48 := by omega
          have hd : decide ((T : Int) < 64) = false := by rw [decide_eq_false_iff_not]; omega
          obtain ⟨wB, hwB⟩ : ∃ wB, wB = wr := ⟨_, rfl⟩
          rw [← hwB] at mj xj ⊢
          rw [hj48] at xj
          have m2B : Mod (fun k => k = w.heap.size + 2) w2 wB := mr.out.trans mj
          have xSB := xS.out.mod m2B (by omega)
          have xRB := xR.out.mod m2B (by omega)
          have xKB := xK.out.mod m2B (by omega)
          have cs := fun i (hi : i < 8) => xSB.cell (i := i) (by rw [hst.out]; exact hi)
          have cs0 := cs 0 (by decide)
          have cs1 := cs 1 (by decide)
          have cs2 := cs 2 (by decide)
          have cs3 := cs 3 (by decide)
          have cs4 := cs 4 (by decide)
          have cs5 := cs 5 (by decide)
          have cs6 := cs 6 (by decide)
          have cs7 := cs 7 (by decide)
          obtain ⟨s0, hs0⟩ : ∃ s0, s0 = ofL st := ⟨_, rfl⟩
          obtain ⟨WW, hWW⟩ : ∃ WW, WW = schedS b 48 := ⟨_, rfl⟩
          have hWl : WW.length = 64 := by rw [hWW, schedS_length]
          rw [← hWW] at xj
          replace m2B := Lib.hid m2B
          replace xSB := Lib.hid xSB
          replace xRB := Lib.hid xRB
          replace xKB := Lib.hid xKB
          replace xj := Lib.hid xj
          replace hwB := Lib.hid hwB
          replace hj48 := Lib.hid hj48
          replace hT := Lib.hid hT
          replace hs0 := Lib.hid hs0
          replace hWW := Lib.hid hWW
          replace hWl := Lib.hid hWl
          clear mj cs hj hlt
          go_upto_region 12 with (fail)
          go_quiet (fail)
          obtain ⟨wC, hwC⟩ : ∃ wC, wC = wB.drewN nq := ⟨_, rfl⟩
          have mC : Mod (fun _ => False) wB wC := by rw [hwC]; exact (Mod.refl _ _).drewN nq
          rw [← hwC]
          replace hwC := Lib.hid hwC
          replace mC := Lib.hid mC
          clear cs0 cs1 cs2 cs3 cs4 cs5 cs6 cs7
          go_wp2
          go_loopw [13, 14, 15, 16, 17, 18, 19, 20, 102] (fun av bv cv dv ev fv gv hv tv wr => ∃ t : Nat, t ≤ 64 ∧ tv = .int .i64 (t : Int) ∧ (∃ q : St, q = runS K WW s0 t ∧ av = .int .u32 (q.a.toNat : Int) ∧ bv = .int .u32 (q.b.toNat : Int) ∧ cv = .int .u32 (q.c.toNat : Int) ∧ dv = .int .u32 (q.d.toNat : Int) ∧ ev = .int .u32 (q.e.toNat : Int) ∧ fv = .int .u32 (q.f.toNat : Int) ∧ gv = .int .u32 (q.g.toNat : Int) ∧ hv = .int .u32 (q.h.toNat : Int)) ∧ Mod (fun _ => False) wB wr) (fun _ _ _ _ _ _ _ _ tv _ => 64 - (intOf tv).toNat)
          case atStart => exact ⟨0, by omega, rfl, ⟨s0, rfl, by rw [hs0.out]; rfl, by rw [hs0.out]; rfl, by rw [hs0.out]; rfl, by rw [hs0.out]; rfl, by rw [hs0.out]; rfl, by rw [hs0.out]; rfl, by rw [hs0.out]; rfl, by rw [hs0.out]; rfl⟩, mC.out⟩
          case round =>
            obtain ⟨t, ht, rfl, ⟨q, hq, rfl, rfl, rfl, rfl, rfl, rfl, rfl, rfl⟩, mt⟩ := hrel
            have bt0 : (0 : Int) ≤ (t : Int) := by omega
            have bt : (t : Int) ≤ 64 := by omega
            by_cases hlt : t < 64
            · have hd : decide ((t : Int) < 64) = true := by rw [decide_eq_true_iff]; omega
              have btl : (t : Int) < 64 := by omega
              have cK := (xKB.out.mod mt (fun h => h)).cell (i := t) (by rw [hK.out]; exact hlt)
              have cW := (xj.out.mod mt (fun h => h)).cell (i := t) (by rw [hWl.out]; exact hlt)
              have hnext : runS K WW s0 (t + 1) = stepS (K.getD t 0) (WW.getD t 0) q := by rw [hq]; rfl
              obtain ⟨a, b', c, d, e, f, g, h⟩ := q
              simp only at hnext ⊢
              obtain ⟨kk, hkk⟩ : ∃ kk, kk = K.getD t 0 := ⟨_, rfl⟩
              obtain ⟨ww, hww⟩ : ∃ ww, ww = WW.getD t 0 := ⟨_, rfl⟩
              rw [← hkk] at cK hnext
              rw [← hww] at cW hnext
              obtain ⟨one, hone⟩ : ∃ one, one = oneS kk ww ⟨a, b', c, d, e, f, g, h⟩ := ⟨_, rfl⟩
              obtain ⟨two, htwo⟩ : ∃ two, two = twoS ⟨a, b', c, d, e, f, g, h⟩ := ⟨_, rfl⟩
              have hnext2 : runS K WW s0 (t + 1) = ⟨one + two, a, b', c, d + one, e, f, g⟩ := by rw [hnext, hone, htwo]; rfl
              replace hnext2 := Lib.hid hnext2
              replace hone := Lib.hid hone
              replace htwo := Lib.hid htwo
              replace hkk := Lib.hid hkk
              replace hww := Lib.hid hww
              replace mt := Lib.hid mt
              replace hlt := Lib.hid hlt
              clear hnext hq ht
              go_upto_region 16 with (fail)
              go_quiet (refine Calls.quiet_of_same (three6_u e _))
              obtain ⟨wD, hwD⟩ : ∃ wD, wD = wr.drewN nq := ⟨_, rfl⟩
              have mD : Mod (fun _ => False) wB wD := by rw [hwD]; exact mt.out.drewN nq
              have hEx : (((h.toNat : Int) + ((three e 6 11 25).toNat : Int) + bits .xor .u32 (g.toNat : Int) (bits .and .u32 (e.toNat : Int) (bits .xor .u32 (f.toNat : Int) (g.toNat : Int))) + (kk.toNat : Int)) % 4294967296 + (ww.toNat : Int)) % 4294967296 = (one.toNat : Int) := by
                rw [hone.out, oneS, bits_xor32, bits_and32, bits_xor32]
                simp only [BitVec.toNat_add, Int.natCast_emod, Int.natCast_add]
                omega
              have hTwo : ((three a 2 13 22).toNat : Int) + bits .or .u32 (bits .and .u32 (a.toNat : Int) (b'.toNat : Int)) (bits .and .u32 (c.toNat : Int) (bits .or .u32 (a.toNat : Int) (b'.toNat : Int))) = ((three a 2 13 22).toNat : Int) + ((a &&& b' ||| c &&& (a ||| b')).toNat : Int) := by
                rw [bits_or32, bits_and32, bits_and32, bits_or32]
              have htw : two = three a 2 13 22 + (a &&& b' ||| c &&& (a ||| b')) := htwo.out
              rw [hEx]
              replace htw := Lib.hid htw
              replace hTwo := Lib.hid hTwo
              clear hEx
              rw [← hwD]
              replace hwD := Lib.hid hwD
              replace mD := Lib.hid mD
              clear cK cW mt
              go_wp2_with fail
              refine (three2_u a wD).mono ?_
              rintro ee w5 ⟨rfl, rfl⟩
              go_wp2
              go_roundw
              case measure => have := hlt.out; simp [intOf]; omega
              case rel =>
                refine ⟨t + 1, by have := hlt.out; omega, by go_num, ⟨_, hnext2.out.symm, int_of ?_, rfl, rfl, rfl, int_of ?_, rfl, rfl, rfl⟩, mD.out⟩
                · simp only
                  rw [htw.out, bits_or32, bits_and32, bits_and32, bits_or32]
                  simp only [BitVec.toNat_add, Int.natCast_emod, Int.natCast_add]
                  omega
                · simp only [BitVec.toNat_add, Int.natCast_emod, Int.natCast_add]
                  omega
            · have ht64 : t = 64 := by omega
              have hd : decide ((t : Int) < 64) = false := by rw [decide_eq_false_iff_not]; omega
              obtain ⟨wE, hwE⟩ : ∃ wE, wE = wr := ⟨_, rfl⟩
              rw [← hwE] at mt ⊢
              rw [ht64] at hq
              have xSE := xSB.out.mod mt (fun h => h)
              have xRE := xRB.out.mod mt (fun h => h)
              have hszE : w.heap.size + 2 < wE.heap.size := lt_of_heap (xj.out.mod mt (fun h => h))
              have hfur : furtherS K st b = addTo st (toL q) 8 := by rw [hq, hWW.out, hs0.out]; rfl
              obtain ⟨a, b', c, d, e, f, g, h⟩ := q
              simp only [toL] at hfur ⊢
              obtain ⟨xs, hxs⟩ : ∃ xs, xs = [a, b', c, d, e, f, g, h] := ⟨_, rfl⟩
              have hxl : xs.length = 8 := by rw [hxs]; rfl
              rw [← hxs] at hfur
              replace hwE := Lib.hid hwE
              replace mt := Lib.hid mt
              replace xSE := Lib.hid xSE
              replace xRE := Lib.hid xRE
              replace hfur := Lib.hid hfur
              replace ht64 := Lib.hid ht64
              replace hxs := Lib.hid hxs
              replace hxl := Lib.hid hxl
              clear hq ht hlt
              go_upto_region 20 with (fail)
              refine wp_region_lit ?_
              refine wpList_reads (by kernel_rfl) (.int .u32 (a.toNat : Int)) (by go_simp) ?_
              simp only [Act.put, List.setIfInBounds_toArray, List.set_cons_zero, List.set_cons_succ]
              refine wpList_reads (by kernel_rfl) (.int .u32 (b'.toNat : Int)) (by go_simp) ?_
              simp only [Act.put, List.setIfInBounds_toArray, List.set_cons_zero, List.set_cons_succ]
              refine wpList_reads (by kernel_rfl) (.int .u32 (c.toNat : Int)) (by go_simp) ?_
              simp only [Act.put, List.setIfInBounds_toArray, List.set_cons_zero, List.set_cons_succ]
              refine wpList_reads (by kernel_rfl) (.int .u32 (d.toNat : Int)) (by go_simp) ?_
              simp only [Act.put, List.setIfInBounds_toArray, List.set_cons_zero, List.set_cons_succ]
              refine wpList_reads (by kernel_rfl) (.int .u32 (e.toNat : Int)) (by go_simp) ?_
              simp only [Act.put, List.setIfInBounds_toArray, List.set_cons_zero, List.set_cons_succ]
              refine wpList_reads (by kernel_rfl) (.int .u32 (f.toNat : Int)) (by go_simp) ?_
              simp only [Act.put, List.setIfInBounds_toArray, List.set_cons_zero, List.set_cons_succ]
              refine wpList_reads (by kernel_rfl) (.int .u32 (g.toNat : Int)) (by go_simp) ?_
              simp only [Act.put, List.setIfInBounds_toArray, List.set_cons_zero, List.set_cons_succ]
              refine wpList_reads (by kernel_rfl) (.int .u32 (h.toNat : Int)) (by go_simp) ?_
              simp only [Act.put, List.setIfInBounds_toArray, List.set_cons_zero, List.set_cons_succ]
              refine wpList_yields (by kernel_rfl) _ _ (build8_op a b' c d e f g h _ _ _ _ _ _ _ _ _ _ _ rfl rfl rfl rfl rfl rfl rfl rfl rfl) ?_
              simp only [Act.put, List.setIfInBounds_toArray, List.set_cons_zero, List.set_cons_succ]
              rw [← hxs.out]
              refine wpList_reads (by kernel_rfl) (.int .i64 0) (by go_simp) ?_
              simp only [Act.put, List.setIfInBounds_toArray, List.set_cons_zero, List.set_cons_succ]
              go_wp2
              go_loopw [161] (fun iv wr => ∃ i : Nat, i ≤ 8 ∧ iv = .int .i64 (i : Int) ∧ Mod (fun k => k = w.heap.size) wE wr ∧ WordsAt wr w.heap.size 166 (addTo st xs i)) (fun iv _ => 8 - (intOf iv).toNat)
              case atStart => exact ⟨0, by omega, rfl, Mod.refl _ _, xSE.out⟩
              case round =>
                obtain ⟨n, hn, rfl, mn, xn⟩ := hrel
                have bn0 : (0 : Int) ≤ (n : Int) := by omega
                have bn : (n : Int) ≤ 8 := by omega
                by_cases hlt : n < 8
                · have hd : decide ((n : Int) < 8) = true := by rw [decide_eq_true_iff]; omega
                  have bnl : (n : Int) < 8 := by omega
                  have hix := index_words wr xs n hlt hxl.out
                  have cN := xn.cell (i := n) (by rw [addTo_length, hst.out]; exact hlt)
                  have fN := xn.frozen n
                  have hnext : addTo st xs (n + 1) = (addTo st xs n).set n ((addTo st xs n).getD n 0 + xs.getD n 0) := rfl
                  obtain ⟨x, hx⟩ : ∃ x, x = (addTo st xs n).getD n 0 := ⟨_, rfl⟩
                  obtain ⟨y, hy⟩ : ∃ y, y = xs.getD n 0 := ⟨_, rfl⟩
                  rw [← hx] at cN hnext
                  rw [← hy] at hix hnext
                  have hset := xn.set n (x + y) _ (add32 x y)
                  rw [← hnext] at hset
                  replace hset := Lib.hid hset
                  replace hnext := Lib.hid hnext
                  replace hx := Lib.hid hx
                  replace hy := Lib.hid hy
                  replace mn := Lib.hid mn
                  replace xn := Lib.hid xn
                  replace hlt := Lib.hid hlt
                  clear hn
                  go_wp2
                  go_roundw
                  case measure => have := hlt.out; simp [intOf]; omega
                  case rel => exact ⟨n + 1, by have := hlt.out; omega, by go_num, mn.out.trans hset.out.2, hset.out.1⟩
                · have hn8 : n = 8 := by omega
                  have hd : decide ((n : Int) < 8) = false := by rw [decide_eq_false_iff_not]; omega
                  rw [hn8, ← hfur.out] at xn
                  have hlen : (furtherS K st b).length = 8 := by rw [hfur.out, addTo_length, hst.out]
                  have xRn := xRE.out.mod mn (by omega)
                  have ll := words_load xn Tryz.underlying166 rfl (by rw [hlen]; exact info8)
                  obtain ⟨wz, sz, mz, xz⟩ := words_store xRn (s' := furtherS K st b) (by rw [hlen]; rfl) (by rw [hlen]; exact info8)
                  have m0E : Mod (fun k => k = w.heap.size + 2) w2 wE := m2B.out.trans' mt.out (fun _ _ h => h.elim)
                  have hfin : Mod (fun _ => False) w wz := ((m2.out.trans' m0E (fun i hi h => by omega)).trans' mn (fun i hi h => by omega)).trans' mz (fun i hi h => by omega)
                  obtain ⟨RR, hRR⟩ : ∃ RR, RR = furtherS K st b := ⟨_, rfl⟩
                  rw [← hRR] at hlen xn ll sz xz
                  replace hRR := Lib.hid hRR
                  replace hfin := Lib.hid hfin
                  replace mn := Lib.hid mn
                  replace xn := Lib.hid xn
                  clear hn hlt hn8 m0E mz xRn
                  go_upto_region 25 with (fail)
                  refine wp_region_lit ?_
                  refine wpList_reads (by kernel_rfl) (.agg (encW RR).toArray) (run_load_op rfl rfl ll) ?_
                  simp only [Act.put, List.setIfInBounds_toArray, List.set_cons_zero, List.set_cons_succ]
                  refine wpList_store_to rfl _ _ _ rfl _ _ _ rfl rfl _ sz ?_
                  simp only [Act.put, List.setIfInBounds_toArray, List.set_cons_zero, List.set_cons_succ]
                  go_wp2
                  exact bodyPost_ret (results_words rfl _ _ (w.heap.size + 1) _ rfl xz Tryz.underlying166 rfl (by rw [hlen]; exact info8)) rfl ⟨hfin.out, by rw [hRR.out]⟩
end Go.Proofs.YtppjnkgmbmhlcaaGreatDoor
