/-
  mailcoachref04.Xor. Printed by gen/kx1.py.
-/
import Derived.Test.YtbiijcljpgannaaGreatDoorDx
import Derived.Test.YtbiijcljpgannaaGreatDoorMD
import Derived.Test.YtbiijcljpgannaaGreatDoorMA
namespace Go.Proofs.YtbiijcljpgannaaGreatDoor
set_option maxRecDepth 100000
open Go Go.RowKit Go.Lib
set_option linter.unusedSimpArgs false
set_option linter.unusedVariables false

theorem run_append_opX {P : Program} {ev : Operand → Value} {o : Oper} {d s : Operand} {dT sT : TypeId} {w w' : World} {vd vs r : Value} (ho : o.op = .call { callee := .builtin .append, args := #[d, s], argTypes := #[dT, sT] }) (hd : ev d = vd) (hs : ev s = vs)
    (hrun : (Builtin.append_ #[dT, sT] o.type #[vd, vs]).run P w = .ok r w') : (execOp ev o).run P w = .ok (.value r) w' := by
  unfold execOp
  simp [ho, resolve, invoke, builtin, hd, hs, hrun, Result.andThen]
theorem allocX (t : TypeId) (cs : Array Value) (hz : ∀ w, (zeroValue t).run Tryz.prog w = .ok (.agg cs) w) (w : World) (ev : Operand → Value) (o : Oper) (ho : o.op = .alloc t) : (execOp ev o).run Tryz.prog w = .ok (.value (.pointer (some ⟨w.heap.size, 0, none⟩))) (w.alloc (.cells cs t)) := by
  unfold execOp
  simp [ho, Instr.alloc, Sem.run_bind, hz, newVar, newRow, Value.cells]
theorem info32X : (Tryz.prog.info? 49).map (·.size) = some 32 := by kernel_rfl
theorem info12X : (Tryz.prog.info? 50).map (·.size) = some 12 := by kernel_rfl
theorem info64X : (Tryz.prog.info? 72).map (·.size) = some 64 := by kernel_rfl
theorem zero64X (w : World) : (zeroValue 72).run Tryz.prog w = .ok (.agg (encB (List.replicate 64 0))) w := by kernel_rfl
theorem load32X {w : World} {g : Nat} {s : List (BitVec 8)} (x : w.heap[g]? = some (.cells (encB s) 49 (0,0))) (hl : s.length = 32) : (loadVar 49 ⟨g, 0, none⟩).run Tryz.prog w = .ok (.agg (encB s)) w :=
  load_mid w g 0 49 _ [] (bytesV s) [] (0,0) _ (by rw [x]; simp [encB, bytesV]) rfl Tryz.underlying49 rfl (by rw [bytesV_length, hl]; exact info32X)
theorem load12X {w : World} {g : Nat} {s : List (BitVec 8)} (x : w.heap[g]? = some (.cells (encB s) 50 (0,0))) (hl : s.length = 12) : (loadVar 50 ⟨g, 0, none⟩).run Tryz.prog w = .ok (.agg (encB s)) w :=
  load_mid w g 0 50 _ [] (bytesV s) [] (0,0) _ (by rw [x]; simp [encB, bytesV]) rfl Tryz.underlying50 rfl (by rw [bytesV_length, hl]; exact info12X)
theorem store64X {w : World} {g : Nat} {s s' : List (BitVec 8)} (x : w.heap[g]? = some (.cells (encB s) 72 (0,0))) (hl : s.length = 64) (hl' : s'.length = 64) :
    ∃ w', (storeVar 72 ⟨g, 0, none⟩ (.agg (encB s'))).run Tryz.prog w = .ok () w' ∧ Mod (fun k => k = g) w w' ∧ w'.heap[g]? = some (.cells (encB s') 72 (0,0)) := by
  obtain ⟨w', h1, h2, h3⟩ := store_mid (P := Tryz.prog) w g 0 72 72 [] (bytesV s) [] (bytesV s') (by rw [x]; simp [encB, bytesV]) rfl (by rw [bytesV_length, bytesV_length, hl, hl']) (by rw [bytesV_length, hl']; exact info64X) (bytesV_one _)
  exact ⟨w', by simpa [encB, bytesV] using h1, h2, by rw [h3]; simp [encB, bytesV]⟩
theorem blockX_length (key nonce : List (BitVec 8)) (c : BitVec 32) : (Cc.blockS key nonce c).length = 64 := by unfold Cc.blockS; exact Cc.outTo_length _ _ _
theorem xorS_length (key nonce : List (BitVec 8)) (c : BitVec 32) (bs : List (BitVec 8)) : (Cc.xorS key nonce c bs).length = bs.length := by simp [Cc.xorS]
theorem xorS_next (key nonce : List (BitVec 8)) (c : BitVec 32) (bs : List (BitVec 8)) (p : Nat) (hp : p < bs.length) : (Cc.xorS key nonce c bs).take (p + 1) = (Cc.xorS key nonce c bs).take p ++ [bs.getD p 0 ^^^ Cc.streamAt key nonce c p] := by
  rw [List.take_add_one, List.getElem?_eq_getElem (by rw [xorS_length]; exact hp)]
  simp [Cc.xorS]
theorem stream_split (key nonce : List (BitVec 8)) (c : BitVec 32) (k i p : Nat) (h1 : p / 64 = k) (h2 : p % 64 = i) : Cc.streamAt key nonce c p = (Cc.blockS key nonce (c + BitVec.ofNat 32 k)).getD i 0 := by
  unfold Cc.streamAt
  rw [h1, h2]
def refuseX (count : BitVec 32) (n : Nat) : Prop := 1048576 < n ∨ 4294967296 < count.toNat + (n + 63) / 64
instance (count : BitVec 32) (n : Nat) : Decidable (refuseX count n) := by unfold refuseX; infer_instance
def xoE (count : BitVec 32) (n : Nat) : Int := if refuseX count n then 3 else 0
def xoX (key nonce : List (BitVec 8)) (count : BitVec 32) (bs : List (BitVec 8)) : List (BitVec 8) := if refuseX count bs.length then [] else Cc.xorS key nonce count bs
theorem xoX_length (key nonce : List (BitVec 8)) (count : BitVec 32) (bs : List (BitVec 8)) : (xoX key nonce count bs).length ≤ 1048576 := by
  unfold xoX
  split
  · simp
  · rename_i h
    unfold refuseX at h
    rw [xorS_length]; omega
/-- What Xor answers. -/
def XorAll (key nonce : List (BitVec 8)) (count : BitVec 32) (bs : List (BitVec 8)) (w : World) (e : Ending) (w' : World) : Prop :=
  Mod (fun _ => False) w w' ∧ ∃ v, e = .returned (.tuple #[v, .int .i64 (xoE count bs.length)]) ∧ ClipR w' w.heap.size v (xoX key nonce count bs).length (bytesV (xoX key nonce count bs))
theorem XorAll.refused {key nonce : List (BitVec 8)} {count : BitVec 32} {bs : List (BitVec 8)} {w w' : World} (m : Mod (fun _ => False) w w') (h : refuseX count bs.length) : XorAll key nonce count bs w (.returned (.tuple #[.slice none 0 0, .int .i64 3])) w' :=
  ⟨m, .slice none 0 0, by unfold xoE; rw [if_pos h], by unfold xoX; rw [if_pos h]; exact .of (World.ownsRow_nil _ _ _ _)⟩
theorem XorAll.good {key nonce : List (BitVec 8)} {count : BitVec 32} {bs : List (BitVec 8)} {w w' : World} {v : Value} (m : Mod (fun _ => False) w w') (h : ¬ refuseX count bs.length) (hv : w'.ownsRow w.heap.size 5 1 v bs.length (bytesV (Cc.xorS key nonce count bs))) : XorAll key nonce count bs w (.returned (.tuple #[v, .int .i64 0])) w' :=
  ⟨m, v, by unfold xoE; rw [if_neg h], by unfold xoX; rw [if_neg h, xorS_length]; exact .of hv⟩

theorem ownSliceX {w : World} {base n size : Nat} {e : TypeId} {v : Value} {xs : List Value} (h : w.ownsRow base e size v n xs) : ∃ a c, v = .slice a n c := by
  rcases h.2 with ⟨h1, h2⟩ | ⟨g, cap, cur, h1, _⟩
  · exact ⟨_, _, by rw [h1, h2]⟩
  · exact ⟨_, _, h1⟩
theorem ByteAt.slice_cell {w : World} {a : Option Addr} {n cap : Nat} {bs : List (BitVec 8)} (h : ByteAt w (.slice a n cap) bs) : ∀ j, j < bs.length → ∃ g off, a = some ⟨g, off, none⟩ ∧ g < w.heap.size ∧ w.cell? ⟨g, off + j, none⟩ = some (.int .u8 ((bs.getD j 0).toNat : Int)) := by
  obtain ⟨a', c', e, h2⟩ := h.slice
  injection e with e1 e2 e3
  subst e1
  exact h2
attribute [local irreducible] Cc.blockS Cc.xorS Cc.streamAt in
set_option maxRecDepth 100000 in
set_option maxHeartbeats 4000000 in
theorem refxor_any (key nonce : List (BitVec 8)) (hk : key.length = 32) (hn : nonce.length = 12) (count : BitVec 32) (v : Value) (bs : List (BitVec 8)) (w : World) (hb : ByteAt w v bs) (hlen : bs.length ≤ 2097152) :
    Calls Tryz.prog 23 #[.agg (encB key), .int .u32 (count.toNat : Int), .agg (encB nonce), v] w (XorAll key nonce count bs w) := by
  obtain ⟨ad, cap, rfl, had⟩ := hb.slice
  obtain ⟨n, en⟩ : ∃ n, n = bs.length := ⟨_, rfl⟩
  obtain ⟨c, ec⟩ : ∃ c, c = count.toNat := ⟨_, rfl⟩
  obtain ⟨q, hq⟩ : ∃ q, q = (n + 63) / 64 := ⟨_, rfl⟩
  have hc := count.isLt
  rw [← en] at hb hlen ⊢
  rw [← ec] at hc ⊢
  have bn0 : (0 : Int) ≤ (n : Int) := by omega
  have bc0 : (0 : Int) ≤ (c : Int) := by omega
  have bq0 : (0 : Int) ≤ (q : Int) := by omega
  have hw63 : IntKind.i64.wrap ((n : Int) + 63) = (n : Int) + 63 := by rw [IntKind.wrap_i64]; omega
  have hwu63 : IntKind.u64.wrap ((n : Int) + 63) = (n : Int) + 63 := by rw [IntKind.wrap_u64]; omega
  have hdq : Int.tdiv ((n : Int) + 63) 64 = (q : Int) := by
    rw [Int.tdiv_eq_ediv_of_nonneg (by omega)]; omega
  have hdq2 : ((n : Int) + 63) / 64 = (q : Int) := by omega
  have hwq : IntKind.u64.wrap (q : Int) = (q : Int) := by rw [IntKind.wrap_u64]; omega
  have hwc : IntKind.u64.wrap (c : Int) = (c : Int) := by rw [IntKind.wrap_u64]; omega
  obtain ⟨cq, hcq⟩ : ∃ x, x = c + q := ⟨_, rfl⟩
  have hcq1 : (c : Int) + (q : Int) = (cq : Int) := by omega
  have bcq0 : (0 : Int) ≤ (cq : Int) := by omega
  have hwcq : IntKind.u64.wrap (cq : Int) = (cq : Int) := by rw [IntKind.wrap_u64]; omega
  obtain ⟨wa, hwa⟩ : ∃ x, x = w.alloc (.cells (encB key) 49) := ⟨_, rfl⟩
  obtain ⟨K, hK⟩ : ∃ g, g = w.heap.size := ⟨_, rfl⟩
  have ma : Mod (fun _ => False) w wa := by rw [hwa]; exact (Mod.refl _ _).alloc _
  have xa : wa.heap[K]? = some (.cells (encB key) 49 (0,0)) := by rw [hwa]; exact hp_new _ _ _ hK
  obtain ⟨w0, hw0⟩ : ∃ x, x = wa.alloc (.cells (encB nonce) 50) := ⟨_, rfl⟩
  obtain ⟨M, hM⟩ : ∃ g, g = wa.heap.size := ⟨_, rfl⟩
  have mb : Mod (fun _ => False) wa w0 := by rw [hw0]; exact (Mod.refl _ _).alloc _
  have xM : w0.heap[M]? = some (.cells (encB nonce) 50 (0,0)) := by rw [hw0]; exact hp_new _ _ _ hM
  have xK := mb.heap xa (fun h => h)
  have m0 := ma.trans mb
  have hb0 := hb.mod m0 (fun _ _ h => h)
  have z0 := m0.size
  replace en := Lib.hid en
  replace ec := Lib.hid ec
  replace hq := Lib.hid hq
  replace hcq := Lib.hid hcq
  replace hwa := Lib.hid hwa
  replace hK := Lib.hid hK
  replace hw0 := Lib.hid hw0
  replace hM := Lib.hid hM
  replace xM := Lib.hid xM
  replace xK := Lib.hid xK
  replace m0 := Lib.hid m0
  replace hb0 := Lib.hid hb0
  replace hk := Lib.hid hk
  replace hn := Lib.hid hn
  replace z0 := Lib.hid z0
  replace had := Lib.hid had
  clear ma mb xa hb
  go_enter Tryz.func23, Tryz.ntmps23
  go_upto_region 0 with (fail)
  refine wp_region_lit ?_
  refine wpList_yields (by kernel_rfl) (.pointer (some ⟨K, 0, none⟩)) wa (by rw [hwa.out, hK.out]; have := hk.out; simp [execOp, Sem.run_bind, newVar, newRow, Value.cells]; rfl) ?_
  simp only [Act.put, List.setIfInBounds_toArray, List.set_cons_succ, List.set_cons_zero]
  refine wpList_yields (by kernel_rfl) (.pointer (some ⟨M, 0, none⟩)) w0 (by rw [hw0.out, hM.out]; simp [execOp, Sem.run_bind, newVar, newRow, Value.cells]; rfl) ?_
  simp only [Act.put, List.setIfInBounds_toArray, List.set_cons_succ, List.set_cons_zero]
  refine wpList_reads (by kernel_rfl) (.slice none 0 0) (by go_simp) ?_
  simp only [Act.put, List.setIfInBounds_toArray, List.set_cons_zero, List.set_cons_succ]
  refine wpList_reads (by kernel_rfl) (.int .i64 0) (by go_simp) ?_
  simp only [Act.put, List.setIfInBounds_toArray, List.set_cons_zero, List.set_cons_succ]
  go_upto_region 1 with (fail)
  refine wp_region_lit ?_
  refine wpList_reads (by kernel_rfl) (.slice ad n cap) (by go_simp) ?_
  simp only [Act.put, List.setIfInBounds_toArray, List.set_cons_zero, List.set_cons_succ]
  refine wpList_reads (by kernel_rfl) (.int .i64 (n : Int)) (by go_simp) ?_
  simp only [Act.put, List.setIfInBounds_toArray, List.set_cons_zero, List.set_cons_succ]
  refine wpList_reads (by kernel_rfl) (.int .i64 ((n : Int) + 63)) (by go_simp) ?_
  simp only [Act.put, List.setIfInBounds_toArray, List.set_cons_zero, List.set_cons_succ]
  refine wpList_reads (by kernel_rfl) (.int .u64 ((n : Int) + 63)) (by go_simp) ?_
  simp only [Act.put, List.setIfInBounds_toArray, List.set_cons_zero, List.set_cons_succ]
  refine wpList_reads (by kernel_rfl) (.int .u64 (q : Int)) (by go_simp) ?_
  simp only [Act.put, List.setIfInBounds_toArray, List.set_cons_zero, List.set_cons_succ]
  refine wpList_reads (by kernel_rfl) (.int .u64 (q : Int)) (by go_simp) ?_
  simp only [Act.put, List.setIfInBounds_toArray, List.set_cons_zero, List.set_cons_succ]
  by_cases c1 : 1048576 < n
  · have e1 : decide ((1048576 : Int) < (n : Int)) = true := by rw [decide_eq_true_iff]; omega
    have hfin : XorAll key nonce count bs w (.returned (.tuple #[.slice none 0 0, .int .i64 3])) w0 := .refused m0.out (by unfold refuseX; rw [← en.out, ← ec.out, ← hq.out]; omega)
    replace hfin := Lib.hid hfin
    clear c1
    go_wp2
    refine bodyPost_ret (results_tmp2 rfl _ _ _) rfl ?_
    exact hfin.out
  · have e1 : decide ((1048576 : Int) < (n : Int)) = false := by rw [decide_eq_false_iff_not]; omega
    by_cases c2 : 4294967296 < cq
    · have e2 : decide ((4294967296 : Int) < (cq : Int)) = true := by rw [decide_eq_true_iff]; omega
      have hfin : XorAll key nonce count bs w (.returned (.tuple #[.slice none 0 0, .int .i64 3])) w0 := .refused m0.out (by unfold refuseX; rw [← en.out, ← ec.out, ← hq.out]; have := hcq.out; omega)
      replace hfin := Lib.hid hfin
      clear c1 c2
      go_wp2
      refine bodyPost_ret (results_tmp2 rfl _ _ _) rfl ?_
      exact hfin.out
    · have e2 : decide ((4294967296 : Int) < (cq : Int)) = false := by rw [decide_eq_false_iff_not]; omega
      have hno : ¬ refuseX count bs.length := by unfold refuseX; rw [← en.out, ← ec.out, ← hq.out]; have := hcq.out; omega
      obtain ⟨X, hX⟩ : ∃ X, X = Cc.xorS key nonce count bs := ⟨_, rfl⟩
      have hXl : X.length = n := by rw [hX, xorS_length]; exact en.out.symm
      have hXn := xorS_next key nonce count bs
      rw [← hX, ← en.out] at hXn
      have hc16 : n ≤ 1048576 := by omega
      have hnq : n ≤ 64 * q := by have := hq.out; omega
      have hq16 : q ≤ 16384 := by have := hq.out; omega
      replace hno := Lib.hid hno
      replace hX := Lib.hid hX
      replace hXl := Lib.hid hXl
      replace hXn := Lib.hid hXn
      replace hnq := Lib.hid hnq
      clear c1 c2 e1 e2 hlen hdq hdq2 hw63 hwu63
      have e1 : decide ((1048576 : Int) < (n : Int)) = false := by rw [decide_eq_false_iff_not]; omega
      have e2 : decide ((4294967296 : Int) < (cq : Int)) = false := by rw [decide_eq_false_iff_not]; have := hcq.out; have := hno.out; unfold refuseX at this; rw [← en.out, ← ec.out, ← hq.out] at this; omega
      go_wp2
      go_loopw [11, 12] (fun lv av wr => ∃ k r : Nat, k ≤ q ∧ r = min (64 * k) n ∧ av = .int .i64 ((64 * k : Nat) : Int) ∧ Mod (fun _ => False) w0 wr ∧ wr.ownsRow w0.heap.size 5 1 lv r (bytesV (X.take r))) (fun _ av _ => 64 * q + 64 - (intOf av).toNat)
      case atStart => exact ⟨0, 0, by omega, by omega, rfl, Mod.refl _ _, by rw [List.take_zero]; exact World.ownsRow_nil _ _ _ _⟩
      case round =>
        obtain ⟨k, r, hkq, hr, rfl, mr, own⟩ := hrel
        obtain ⟨A, hA⟩ : ∃ A, A = 64 * k := ⟨_, rfl⟩
        rw [← hA] at hr ⊢
        have bA0 : (0 : Int) ≤ (A : Int) := by omega
        have bA : A ≤ 1048576 := by omega
        by_cases hlt : A < n
        · have hrA : r = A := by omega
          rw [hrA] at own
          obtain ⟨ll, cc, hlv⟩ := ownSliceX own
          subst hlv
          have hkk : k < q := by have := hnq.out; omega
          have hd64 : Int.tdiv (A : Int) 64 = (k : Int) := by rw [Int.tdiv_eq_ediv_of_nonneg (by omega)]; omega
          have hd64' : (A : Int) / 64 = (k : Int) := by omega
          have hwk : IntKind.u32.wrap (k : Int) = (k : Int) := by rw [IntKind.wrap_u32]; omega
          have hwk2 : IntKind.i64.wrap (k : Int) = (k : Int) := by rw [IntKind.wrap_i64]; omega
          obtain ⟨D, hD⟩ : ∃ D, D = count + BitVec.ofNat 32 k := ⟨_, rfl⟩
          have hwD : IntKind.u32.wrap ((c : Int) + (k : Int)) = (D.toNat : Int) := by rw [hD, BitVec.toNat_add, BitVec.toNat_ofNat, ← ec.out, IntKind.wrap_u32]; omega
          obtain ⟨BL, hBL⟩ : ∃ B, B = Cc.blockS key nonce D := ⟨_, rfl⟩
          have hBLl : BL.length = 64 := by rw [hBL]; exact blockX_length _ _ _
          have xKr := mr.heap xK.out (fun h => h)
          have xMr := mr.heap xM.out (fun h => h)
          replace hA := Lib.hid hA
          replace hr := Lib.hid hr
          replace hrA := Lib.hid hrA
          replace hD := Lib.hid hD
          replace hBL := Lib.hid hBL
          replace hBLl := Lib.hid hBLl
          replace mr := Lib.hid mr
          replace own := Lib.hid own
          replace xKr := Lib.hid xKr
          replace xMr := Lib.hid xMr
          replace hkk := Lib.hid hkk
          clear hkq
          go_upto_region 8 with (fail)
          refine wp_region_lit ?_
          refine wpList_reads (by kernel_rfl) (.agg (encB key)) (run_load_op rfl rfl (load32X xKr.out hk.out)) ?_
          simp only [Act.put, List.setIfInBounds_toArray, List.set_cons_zero, List.set_cons_succ]
          refine wpList_reads (by kernel_rfl) (.int .u32 (c : Int)) (by go_simp) ?_
          simp only [Act.put, List.setIfInBounds_toArray, List.set_cons_zero, List.set_cons_succ]
          refine wpList_reads (by kernel_rfl) (.int .i64 (A : Int)) (by go_simp) ?_
          simp only [Act.put, List.setIfInBounds_toArray, List.set_cons_zero, List.set_cons_succ]
          refine wpList_reads (by kernel_rfl) (.int .i64 (k : Int)) (by go_simp) ?_
          simp only [Act.put, List.setIfInBounds_toArray, List.set_cons_zero, List.set_cons_succ]
          refine wpList_reads (by kernel_rfl) (.int .u32 (k : Int)) (by go_simp) ?_
          simp only [Act.put, List.setIfInBounds_toArray, List.set_cons_zero, List.set_cons_succ]
          refine wpList_reads (by kernel_rfl) (.int .u32 (D.toNat : Int)) (by go_simp) ?_
          simp only [Act.put, List.setIfInBounds_toArray, List.set_cons_zero, List.set_cons_succ]
          refine wpList_reads (by kernel_rfl) (.agg (encB nonce)) (run_load_op rfl rfl (load12X xMr.out hn.out)) ?_
          simp only [Act.put, List.setIfInBounds_toArray, List.set_cons_zero, List.set_cons_succ]
          refine wpList_enter (by kernel_rfl) 73 #[.agg (encB key), .int .u32 (D.toNat : Int), .agg (encB nonce)] (by go_simp) (Cc.refblock_any key nonce hk.out hn.out D wr) ?_
          rintro e w1 ⟨rfl, m1⟩
          rw [← hBL.out]
          obtain ⟨w2, hw2⟩ : ∃ x, x = w1.alloc (.cells (encB (List.replicate 64 0)) 72) := ⟨_, rfl⟩
          obtain ⟨G, hG⟩ : ∃ g, g = w1.heap.size := ⟨_, rfl⟩
          have m2 : Mod (fun _ => False) w1 w2 := by rw [hw2]; exact (Mod.refl _ _).alloc _
          have x2 : w2.heap[G]? = some (.cells (encB (List.replicate 64 0)) 72 (0,0)) := by rw [hw2]; exact hp_new _ _ _ hG
          obtain ⟨w3, s3, m3, x3⟩ := store64X x2 (s' := BL) (by decide) hBLl.out
          have m13 : Mod (fun _ => False) wr w3 := m1.trans (m2.trans' m3 (fun x hx h => by omega))
          have m03 := mr.out.trans m13
          have own3 := ownsRow_keep0 own.out m13
          have nG : ∀ x, (Value.slice ll A cc).ownBlock = some x → x ≠ G := fun x hx => by have := (own.out.lt x hx).2; have := m1.size; omega
          have zG : w0.heap.size ≤ G := by rw [hG]; exact Nat.le_trans mr.out.size m1.size
          replace hw2 := Lib.hid hw2
          replace hG := Lib.hid hG
          replace m03 := Lib.hid m03
          replace own3 := Lib.hid own3
          replace x3 := Lib.hid x3
          replace nG := Lib.hid nG
          clear m1 m2 m3 m13 x2 mr own xKr xMr
          refine ⟨_, rfl, ?_⟩
          simp only [Act.put, List.setIfInBounds_toArray, List.set_cons_zero, List.set_cons_succ]
          refine wpList_yields (by kernel_rfl) _ _ (allocX 72 _ zero64X _ _ _ rfl) ?_
          simp only [Act.put, List.setIfInBounds_toArray, List.set_cons_zero, List.set_cons_succ]
          rw [← hG.out, ← hw2.out]
          refine wpList_store_to rfl _ _ _ rfl _ _ _ rfl rfl _ s3 ?_
          simp only [Act.put, List.setIfInBounds_toArray, List.set_cons_zero, List.set_cons_succ]
          clear s3
          obtain ⟨wy, hwy⟩ : ∃ x, x = w3 := ⟨_, rfl⟩
          rw [← hwy] at m03 own3 x3 ⊢
          replace hwy := Lib.hid hwy
          go_wp2
          go_loopw [11, 14] (fun lv iv ws => ∃ i : Nat, i ≤ 64 ∧ A + i ≤ n ∧ iv = .int .i64 (i : Int) ∧ Mod (fun _ => False) w0 ws ∧ ws.heap[G]? = some (.cells (encB BL) 72 (0,0)) ∧ (∀ x, lv.ownBlock = some x → x ≠ G) ∧ ws.ownsRow w0.heap.size 5 1 lv (A + i) (bytesV (X.take (A + i)))) (fun _ iv _ => 64 - (intOf iv).toNat)
          case atStart => exact ⟨0, by omega, by omega, rfl, m03.out, x3.out, nG.out, own3.out⟩
          case round =>
            obtain ⟨i, hi64, hin, rfl, ms, xs, nl, ows⟩ := hrel
            obtain ⟨lx, cx, hlx⟩ := ownSliceX ows
            subst hlx
            obtain ⟨p, hp⟩ : ∃ p, p = A + i := ⟨_, rfl⟩
            rw [← hp] at hin ows nl ⊢
            have bi0 : (0 : Int) ≤ (i : Int) := by omega
            have bp0 : (0 : Int) ≤ (p : Int) := by omega
            have hAi : (A : Int) + (i : Int) = (p : Int) := by omega
            have hwp : IntKind.i64.wrap (p : Int) = (p : Int) := by rw [IntKind.wrap_i64]; omega
            have hpl : p ≤ n := hin
            replace hp := Lib.hid hp
            by_cases hi : i < 64
            · have f1 : decide ((i : Int) < 64) = true := by rw [decide_eq_true_iff]; omega
              by_cases hpn : p < n
              · obtain ⟨gb, ob, had1, _, _⟩ := had.out p (by rw [← en.out]; exact hpn)
                subst had1
                obtain ⟨x, hx⟩ : ∃ x, x = bs.getD p 0 := ⟨_, rfl⟩
                obtain ⟨y, hy⟩ : ∃ y, y = BL.getD i 0 := ⟨_, rfl⟩
                obtain ⟨z, hz⟩ : ∃ z, z = x ^^^ y := ⟨_, rfl⟩
                have hxy : bits .xor .u8 (x.toNat : Int) (y.toNat : Int) = (z.toNat : Int) := by rw [hz]; exact Cc.bits_xor8 x y
                have hnext := hXn.out p hpn
                rw [stream_split key nonce count k i p (by have := hA.out; have := hp.out; omega) (by have := hA.out; have := hp.out; omega), ← hD.out, ← hBL.out, ← hx, ← hy, ← hz] at hnext
                replace hnext := hnext.symm
                have hcx : ∀ w' : World, Mod (fun _ => False) w0 w' → w'.cell? ⟨gb, ob + p, none⟩ = some (.int .u8 (x.toNat : Int)) := fun w' hm => by
                  obtain ⟨g2, o2, h1, _, h3⟩ := (hb0.out.mod hm (fun _ _ h => h)).slice_cell p (by rw [← en.out]; exact hpn)
                  injection h1 with h1
                  injection h1 with h1 h2
                  subst h1 h2
                  rw [hx]
                  exact h3
                have hcy : ∀ w' : World, w'.heap[G]? = some (.cells (encB BL) 72 (0,0)) → w'.cell? ⟨G, i, none⟩ = some (.int .u8 (y.toNat : Int)) := fun w' hm => by
                  rw [cell_of_row _ _ _ _ _ _ hm, hy]
                  exact encB_get (by rw [hBLl.out]; exact hi)
                go_upto_region 12 with (fail)
                obtain ⟨wq, hwq⟩ : ∃ x, x = wr.drew := ⟨_, rfl⟩
                have mq0 : Mod (fun _ => False) wr wq := by rw [hwq]; exact (Mod.refl _ _).drew
                have mq := ms.trans mq0
                have xq := mq0.heap xs (fun h => h)
                have owq := ownsRow_keep0 ows mq0
                obtain ⟨wc, hwc⟩ : ∃ x, x = wq.alloc (.cells #[.int .u8 (z.toNat : Int)] 5) := ⟨_, rfl⟩
                obtain ⟨gc, hgc⟩ : ∃ g, g = wq.heap.size := ⟨_, rfl⟩
                have mc : Mod (fun _ => False) wq wc := by rw [hwc]; exact (Mod.refl _ _).alloc _
                have xc : wc.heap[gc]? = some (.cells (encB [z]) 5 (0,0)) := by rw [hwc]; exact hp_new _ _ _ hgc
                have rowc := ownsRow_keep0 owq mc
                have mkc := mq.trans mc
                have xGc := mc.heap xq (fun h => h)
                obtain ⟨v9, w9, hr9, own9, md9, fr9, _⟩ := run_append_one rowc xc (by omega) mkc.size 22
                have mk9 : Mod (fun _ => False) w0 w9 := mkc.trans' md9 (fun x hx h => by have := (rowc.lt x h).1; omega)
                have xG9 := md9.heap xGc (fun h => nl _ h rfl)
                have nl9 : ∀ x, v9.ownBlock = some x → x ≠ G := fun x hx => by
                  rcases fr9 x hx with h | h
                  · exact nl x h
                  · have := lt_of_heap xGc; omega
                rw [hnext] at own9
                obtain ⟨S, hS⟩ : ∃ S : World → Prop, S = fun w' => Mod (fun _ => False) w0 w' ∧ w'.heap[G]? = some (.cells (encB BL) 72 (0,0)) := ⟨_, rfl⟩
                have hSi : ∀ w' : World, S w' → Mod (fun _ => False) w0 w' ∧ w'.heap[G]? = some (.cells (encB BL) 72 (0,0)) := fun w' h => by rw [hS] at h; exact h
                have hSq : S wq := by rw [hS]; exact ⟨mq, xq⟩
                have hSc : S wc := by rw [hS]; exact ⟨mkc, xGc⟩
                have hS9 : S w9 := by rw [hS]; exact ⟨mk9, xG9⟩
                replace hwq := Lib.hid hwq
                replace hwc := Lib.hid hwc
                replace hgc := Lib.hid hgc
                replace own9 := Lib.hid own9
                replace mk9 := Lib.hid mk9
                replace xG9 := Lib.hid xG9
                replace nl9 := Lib.hid nl9
                replace hx := Lib.hid hx
                replace hy := Lib.hid hy
                replace hz := Lib.hid hz
                replace hnext := Lib.hid hnext
                replace hS := Lib.hid hS
                replace hcx := Lib.hid hcx
                replace hcy := Lib.hid hcy
                clear mq0 mq xq owq mc xc rowc mkc xGc md9 fr9 ms xs ows nl
                refine wp_region_any (by kernel_rfl) (any_of_Z (S := S) (z := 99) _ _ _ _ ?_)
                change anyZ _ _ _ _ _ _ _ _ _ wr.drew
                rw [← hwq.out]
                simp only [List.size_toArray, List.length_cons, List.length_nil, Nat.reduceAdd, Array.replicate_succ, Array.replicate_zero, List.push_toArray, List.nil_append, List.cons_append]
                refine anyZ_take 0 _ (some 56) (.slice lx p cx) rfl (by kernel_rfl) (by kernel_rfl) (by kernel_rfl) (by kernel_rfl) (by kernel_rfl) (by decide) rfl (fun w' hS => ?_) hSq ?_
                · go_simp
                simp only [Act.put, List.setIfInBounds_toArray, List.set_cons_zero, List.set_cons_succ]
                refine anyZ_take 1 _ (some 57) (.slice (some ⟨gb, ob, none⟩) n cap) rfl (by kernel_rfl) (by kernel_rfl) (by kernel_rfl) (by kernel_rfl) (by kernel_rfl) (by decide) rfl (fun w' hS => ?_) hSq ?_
                · go_simp
                simp only [Act.put, List.setIfInBounds_toArray, List.set_cons_zero, List.set_cons_succ]
                refine anyZ_take 2 _ (some 58) (.int .i64 (A : Int)) rfl (by kernel_rfl) (by kernel_rfl) (by kernel_rfl) (by kernel_rfl) (by kernel_rfl) (by decide) rfl (fun w' hS => ?_) hSq ?_
                · go_simp
                simp only [Act.put, List.setIfInBounds_toArray, List.set_cons_zero, List.set_cons_succ]
                refine anyZ_take 3 _ (some 59) (.int .i64 (i : Int)) rfl (by kernel_rfl) (by kernel_rfl) (by kernel_rfl) (by kernel_rfl) (by kernel_rfl) (by decide) rfl (fun w' hS => ?_) hSq ?_
                · go_simp
                simp only [Act.put, List.setIfInBounds_toArray, List.set_cons_zero, List.set_cons_succ]
                refine anyZ_take 4 _ (some 60) (.int .i64 (p : Int)) rfl (by kernel_rfl) (by kernel_rfl) (by kernel_rfl) (by kernel_rfl) (by kernel_rfl) (by decide) rfl (fun w' hS => ?_) hSq ?_
                · go_simp
                simp only [Act.put, List.setIfInBounds_toArray, List.set_cons_zero, List.set_cons_succ]
                refine anyZ_take 5 _ (some 61) (.pointer (some ⟨gb, ob + p, none⟩)) rfl (by kernel_rfl) (by kernel_rfl) (by kernel_rfl) (by kernel_rfl) (by kernel_rfl) (by decide) rfl (fun w' hS => ?_) hSq ?_
                · go_simp
                simp only [Act.put, List.setIfInBounds_toArray, List.set_cons_zero, List.set_cons_succ]
                refine anyZ_take 6 _ (some 62) (.int .u8 (x.toNat : Int)) rfl (by kernel_rfl) (by kernel_rfl) (by kernel_rfl) (by kernel_rfl) (by kernel_rfl) (by decide) rfl (fun w' hS => ?_) hSq ?_
                · have h1 := hcx.out w' (hSi _ hS).1; go_simp
                simp only [Act.put, List.setIfInBounds_toArray, List.set_cons_zero, List.set_cons_succ]
                refine anyZ_take 7 _ (some 63) (.int .i64 (i : Int)) rfl (by kernel_rfl) (by kernel_rfl) (by kernel_rfl) (by kernel_rfl) (by kernel_rfl) (by decide) rfl (fun w' hS => ?_) hSq ?_
                · go_simp
                simp only [Act.put, List.setIfInBounds_toArray, List.set_cons_zero, List.set_cons_succ]
                refine anyZ_take 8 _ (some 64) (.pointer (some ⟨G, i, none⟩)) rfl (by kernel_rfl) (by kernel_rfl) (by kernel_rfl) (by kernel_rfl) (by kernel_rfl) (by decide) rfl (fun w' hS => ?_) hSq ?_
                · have hI64 : ¬ (64 : Int) ≤ (i : Int) := by omega
                  go_simp
                simp only [Act.put, List.setIfInBounds_toArray, List.set_cons_zero, List.set_cons_succ]
                refine anyZ_take 9 _ (some 65) (.int .u8 (y.toNat : Int)) rfl (by kernel_rfl) (by kernel_rfl) (by kernel_rfl) (by kernel_rfl) (by kernel_rfl) (by decide) rfl (fun w' hS => ?_) hSq ?_
                · have h1 := hcy.out w' (hSi _ hS).2; go_simp
                simp only [Act.put, List.setIfInBounds_toArray, List.set_cons_zero, List.set_cons_succ]
                refine anyZ_take 10 _ (some 66) (.int .u8 (z.toNat : Int)) rfl (by kernel_rfl) (by kernel_rfl) (by kernel_rfl) (by kernel_rfl) (by kernel_rfl) (by decide) rfl (fun w' hS => ?_) hSq ?_
                · go_simp
                simp only [Act.put, List.setIfInBounds_toArray, List.set_cons_zero, List.set_cons_succ]
                refine anyZ_next 11 _ (some 67) rfl (by kernel_rfl) (by kernel_rfl) rfl (.slice (some ⟨gc, 0, none⟩) 1 1) wc (by rw [hwc.out, hgc.out]; go_simp) (fun _ => hSc) ?_
                simp only [Act.put, List.setIfInBounds_toArray, List.set_cons_zero, List.set_cons_succ]
                refine anyZ_next 12 _ (some 68) rfl (by kernel_rfl) (by kernel_rfl) rfl v9 w9 (run_append_opX rfl rfl rfl hr9) (fun _ => hS9) ?_
                simp only [Act.put, List.setIfInBounds_toArray, List.set_cons_zero, List.set_cons_succ]
                refine anyZ_next 13 _ (some 11) rfl (by kernel_rfl) (by kernel_rfl) rfl v9 w9 (by go_simp) (fun _ => hS9) ?_
                simp only [Act.put, List.setIfInBounds_toArray, List.set_cons_zero, List.set_cons_succ]
                refine anyZ_done (by kernel_rfl) ?_ _
                clear hSi hSq hSc hS9 hr9
                go_wp2
                go_roundw
                case measure => simp [intOf]; omega
                case rel => exact ⟨i + 1, by omega, by have := hp.out; omega, by go_num, mk9.out, xG9.out, nl9.out, by rw [← Nat.add_assoc, ← hp.out]; exact own9.out⟩
              · have hnx : p = min (64 * (k + 1)) n := by have := hA.out; have := hp.out; omega
                replace hnx := Lib.hid hnx
                replace ms := Lib.hid ms
                replace ows := Lib.hid ows
                have bwA : IntKind.i64.wrap ((A : Int) + 64) = ((64 * (k + 1) : Nat) : Int) := by rw [IntKind.wrap_i64]; have := hA.out; omega
                clear xs nl
                go_wp2
                go_roundw
                case measure => have := hA.out; have := hkk.out; simp [intOf]; omega
                case rel => exact ⟨k + 1, p, by have := hkk.out; omega, hnx.out, by go_num, ms.out, ows.out⟩
            · have f1 : decide ((i : Int) < 64) = false := by rw [decide_eq_false_iff_not]; omega
              have hnx : p = min (64 * (k + 1)) n := by have := hA.out; have := hp.out; omega
              replace hnx := Lib.hid hnx
              replace ms := Lib.hid ms
              replace ows := Lib.hid ows
              have bwA : IntKind.i64.wrap ((A : Int) + 64) = ((64 * (k + 1) : Nat) : Int) := by rw [IntKind.wrap_i64]; have := hA.out; omega
              clear xs nl
              go_wp2
              go_roundw
              case measure => have := hA.out; have := hkk.out; simp [intOf]; omega
              case rel => exact ⟨k + 1, p, by have := hkk.out; omega, hnx.out, by go_num, ms.out, ows.out⟩
        · have hrn : r = n := by omega
          rw [hrn, List.take_of_length_le (by rw [hXl.out]; exact Nat.le_refl _)] at own
          have hfin : XorAll key nonce count bs w (.returned (.tuple #[_, .int .i64 0])) wr := .good (m0.out.trans mr) hno.out (by rw [← en.out, ← hX.out]; exact ownsRow_base0 own z0.out)
          obtain ⟨ll, cc, hlv⟩ := ownSliceX own
          subst hlv
          replace hfin := Lib.hid hfin
          clear mr own
          go_wp2
          refine bodyPost_ret (results_tmp2 rfl _ _ _) rfl ?_
          exact hfin.out
end Go.Proofs.YtbiijcljpgannaaGreatDoor
