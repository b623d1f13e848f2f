/-
  aead.filled, eights, as, of; slices.Equal. Printed by gen/pa1.py.
-/
import Derived.Lib.JoinLaws
import Derived.Test.YtbiijcljpgannaaGreatDoorYq
import Derived.Test.YtbiijcljpgannaaGreatDoorDx
namespace Go.Proofs.YtbiijcljpgannaaGreatDoor
set_option maxRecDepth 100000
open Go Go.RowKit Go.Lib
set_option linter.unusedSimpArgs false
set_option linter.unusedVariables false

def padZ (b : List (BitVec 8)) : List (BitVec 8) := List.replicate ((16 - b.length % 16) % 16) 0
theorem padZ_length (b : List (BitVec 8)) : (padZ b).length ≤ 15 := by simp [padZ]; omega
theorem makeP (n : Nat) (hn : n ≤ 1000000) (w : World) : (Instr.makeSlice 22 (.int .i64 (n : Int)) (.int .i64 (n : Int))).run Tryz.prog w = .ok (.slice (some ⟨w.heap.size, 0, none⟩) n n) (w.alloc (.cells (encB (List.replicate n 0)) 5)) := by
  obtain ⟨i0, hi, hz0, hz1, hz2⟩ := info_parts infoU8
  have h := run_make (P := Tryz.prog) w 22 5 i0 (.int .u8 0) Tryz.underlying22 hi hz0 .i64 .i64 (n : Int) (n : Int) (by omega) (by omega) (by rw [hz2]; omega) (by omega)
  rw [h, hz1, ← made_bytes]
  simp [Value.cells]
theorem alloc_arrY (t : TypeId) (cs : Array Value) (hz : ∀ w, (zeroValue t).run Tryz.prog w = .ok (.agg cs) w) (w : World) (ev : Operand → Value) (o : Oper) (ho : o.op = .alloc t) : (execOp ev o).run Tryz.prog w = .ok (.value (.pointer (some ⟨w.heap.size, 0, none⟩))) (w.alloc (.cells cs t)) := by
  unfold execOp
  simp [ho, Instr.alloc, Sem.run_bind, hz, newVar, newRow, Value.cells]
theorem run_make_op {P : Program} {ev : Operand → Value} {o : Oper} {ty : TypeId} {x y : Operand} {a b v : Value} {w w' : World} (ho : o.op = .makeSlice ty x y) (hx : ev x = a) (hy : ev y = b) (hr : (Instr.makeSlice ty a b).run P w = .ok v w') :
    (execOp ev o).run P w = .ok (.value v) w' := by
  unfold execOp
  simp only [ho, hx, hy, Sem.run_bind, Sem.run_pure, Result.andThen_ok, hr]
set_option maxRecDepth 100000 in
set_option maxHeartbeats 4000000 in
theorem filled_any (v : Value) (b : List (BitVec 8)) (hbl : b.length ≤ 140737488351232) (w : World) (hb : ByteAt w v b) : Calls Tryz.prog 71 #[v] w fun e w' => Mod (fun _ => False) w w' ∧ ∃ v', e = .returned v' ∧ ByteAt w' v' (padZ b) := by
  obtain ⟨ad, cap, rfl, _⟩ := hb.slice
  obtain ⟨n, hn⟩ : ∃ m, m = b.length := ⟨_, rfl⟩
  rw [← hn] at hb hbl ⊢
  have bn0 : (0 : Int) ≤ (n : Int) := by omega
  obtain ⟨r, hr⟩ : ∃ r, r = n % 16 := ⟨_, rfl⟩
  have hri : Int.tmod (n : Int) 16 = (r : Int) := by rw [hr]; rfl
  have hri2 : (n : Int) % 16 = (r : Int) := by omega
  have hwr : IntKind.i64.wrap (r : Int) = (r : Int) := by rw [IntKind.wrap_i64]; omega
  obtain ⟨q, hq⟩ : ∃ q, q = 16 - r := ⟨_, rfl⟩
  have hqi : 16 - (r : Int) = (q : Int) := by omega
  have hwq : IntKind.i64.wrap (q : Int) = (q : Int) := by rw [IntKind.wrap_i64]; omega
  obtain ⟨p, hp⟩ : ∃ p, p = q % 16 := ⟨_, rfl⟩
  have hpi : Int.tmod (q : Int) 16 = (p : Int) := by rw [hp]; rfl
  have hpi2 : (q : Int) % 16 = (p : Int) := by omega
  have hwp : IntKind.i64.wrap (p : Int) = (p : Int) := by rw [IntKind.wrap_i64]; omega
  have bq0 : (0 : Int) ≤ (q : Int) := by omega
  have br0 : (0 : Int) ≤ (r : Int) := by omega
  have hmk := makeP p (by omega) w
  have hpad : padZ b = List.replicate p 0 := by unfold padZ; rw [← hn, ← hr, ← hq, ← hp]
  obtain ⟨w1, hw1⟩ : ∃ x, x = w.alloc (.cells (encB (List.replicate p 0)) 5) := ⟨_, rfl⟩
  obtain ⟨g, hg⟩ : ∃ x, x = w.heap.size := ⟨_, rfl⟩
  have m1 : Mod (fun _ => False) w w1 := by rw [hw1]; exact (Mod.refl _ _).alloc _
  have x1 : w1.heap[g]? = some (.cells (encB (List.replicate p 0)) 5 (0,0)) := by rw [hw1]; exact hp_new _ _ _ hg
  have b1 := ByteAt.row x1
  rw [← hpad] at b1
  have hlp : (padZ b).length = p := by rw [hpad]; simp
  rw [hlp] at b1
  rw [← hw1, ← hg] at hmk
  replace hn := Lib.hid hn
  replace hr := Lib.hid hr
  replace hq := Lib.hid hq
  replace hp := Lib.hid hp
  replace hpad := Lib.hid hpad
  replace hlp := Lib.hid hlp
  replace hw1 := Lib.hid hw1
  replace hg := Lib.hid hg
  replace m1 := Lib.hid m1
  replace b1 := Lib.hid b1
  clear hb x1
  go_enter Tryz.func71, Tryz.ntmps71
  go_upto_region 0 with (fail)
  refine wp_region_lit ?_
  refine wpList_reads (by kernel_rfl) (.slice none 0 0) (by go_simp) ?_
  simp only [Act.put, List.setIfInBounds_toArray, List.set_cons_zero, List.set_cons_succ]
  go_upto_region 1 with (fail)
  refine wp_region_lit ?_
  refine wpList_reads (by kernel_rfl) (.slice ad n cap) (by go_simp) ?_
  simp only [Act.put, List.setIfInBounds_toArray, List.set_cons_zero, List.set_cons_succ]
  refine wpList_reads (by kernel_rfl) (.int .i64 (n : Int)) (by go_simp) ?_
  simp only [Act.put, List.setIfInBounds_toArray, List.set_cons_zero, List.set_cons_succ]
  refine wpList_reads (by kernel_rfl) (.int .i64 (r : Int)) (by go_simp) ?_
  simp only [Act.put, List.setIfInBounds_toArray, List.set_cons_zero, List.set_cons_succ]
  refine wpList_reads (by kernel_rfl) (.int .i64 (q : Int)) (by go_simp) ?_
  simp only [Act.put, List.setIfInBounds_toArray, List.set_cons_zero, List.set_cons_succ]
  refine wpList_reads (by kernel_rfl) (.int .i64 (p : Int)) (by go_simp) ?_
  simp only [Act.put, List.setIfInBounds_toArray, List.set_cons_zero, List.set_cons_succ]
  refine wpList_yields (by kernel_rfl) _ _ (run_make_op rfl rfl rfl hmk) ?_
  simp only [Act.put, List.setIfInBounds_toArray, List.set_cons_zero, List.set_cons_succ]
  refine wpList_reads (by kernel_rfl) (.slice (some ⟨g, 0, none⟩) p p) (by go_simp) ?_
  simp only [Act.put, List.setIfInBounds_toArray, List.set_cons_zero, List.set_cons_succ]
  clear hmk
  go_wp2
  go_ret
  exact ⟨m1.out, _, rfl, b1.out⟩

set_option maxRecDepth 100000 in
set_option maxHeartbeats 4000000 in
theorem equal_any (va vb : Value) (a b : List (BitVec 8)) (w : World) (ha : ByteAt w va a) (hb : ByteAt w vb b) (hl : a.length < 4611686018427387904) (hl2 : b.length < 4611686018427387904) :
    Calls Tryz.prog 62 #[va, vb] w fun e w' => Mod (fun _ => False) w w' ∧ e = .returned (.bool (decide (a = b))) := by
  obtain ⟨ad, cap, rfl, ha'⟩ := ha.slice
  obtain ⟨bd, bcap, rfl, hb'⟩ := hb.slice
  clear ha hb
  obtain ⟨n, en⟩ : ∃ n, a.length = n := ⟨_, rfl⟩
  obtain ⟨m, em⟩ : ∃ m, b.length = m := ⟨_, rfl⟩
  rw [en] at ha' hl
  rw [em] at hb' hl2
  rw [show (Value.slice ad a.length cap) = .slice ad n cap by rw [en], show (Value.slice bd b.length bcap) = .slice bd m bcap by rw [em]]
  by_cases hnm : n = m
  · subst hnm
    have hne : ((n : Int) != (n : Int)) = false := by simp
    have hfin : (∀ k, k < n → a.getD k 0 = b.getD k 0) → decide (a = b) = true := by
      intro h
      rw [decide_eq_true_iff]
      apply List.ext_getElem (by omega)
      intro i h1 h2
      have := h i (by omega)
      simp only [List.getD_eq_getElem?_getD, List.getElem?_eq_getElem h1, List.getElem?_eq_getElem h2, Option.getD_some] at this
      exact this
    have hnot : ∀ k, k < n → a.getD k 0 ≠ b.getD k 0 → decide (a = b) = false := by
      intro k hk h
      rw [decide_eq_false_iff_not]
      intro e
      exact h (by rw [e])
    generalize decide (a = b) = r at *
    replace en := Lib.hid en
    replace em := Lib.hid em
    replace ha' := Lib.hid ha'
    replace hb' := Lib.hid hb'
    replace hfin := Lib.hid hfin
    replace hnot := Lib.hid hnot
    go_enter Tryz.func62, Tryz.ntmps62
    go_wp2
    go_loopw [13] (fun i wr => ∃ j : Nat, j ≤ n ∧ i = .int .i64 j ∧ Mod (fun _ => False) w wr ∧ ∀ k, k < j → a.getD k 0 = b.getD k 0) (fun i _ => n - (intOf i).toNat)
    case atStart => exact ⟨0, by omega, rfl, Mod.refl _ _, fun k hk => by omega⟩
    case round =>
      obtain ⟨j, hj, rfl, mr, hrel⟩ := hrel
      by_cases hlt : j < n
      · obtain ⟨ga, oa, rfl, _, ca⟩ := ha'.out j hlt
        obtain ⟨gb, ob, rfl, _, cb⟩ := hb'.out j hlt
        have ca := cell_mod mr ca (fun h => h)
        have cb := cell_mod mr cb (fun h => h)
        have hlt' : (j : Int) < (n : Int) := by omega
        have h0 : (0 : Int) ≤ (j : Int) := by omega
        have hd : decide ((j : Int) < (n : Int)) = true := by simpa using hlt
        have hnj := hnot.out j hlt
        have hxy : a.getD j 0 = b.getD j 0 ↔ (((a.getD j 0).toNat : Int) = ((b.getD j 0).toNat : Int)) := by
          rw [Int.ofNat_inj, BitVec.toNat_inj]
        replace hxy := Lib.hid hxy
        replace hnj := Lib.hid hnj
        replace hrel := Lib.hid hrel
        replace mr := Lib.hid mr
        generalize hax : a.getD j 0 = x at *
        generalize hay : b.getD j 0 = y at *
        replace hax := Lib.hid hax
        replace hay := Lib.hid hay
        go_upto_region 6 with (fail)
        go_quiet (fail)
        by_cases hx : (x.toNat : Int) = (y.toNat : Int)
        · have hne : ((x.toNat : Int) != (y.toNat : Int)) = false := by simp [hx]
          go_wp2
          go_roundw
          case measure => simp [intOf]; omega
          case rel =>
            refine ⟨j + 1, by omega, by go_num, mr.out.drewN _, fun k hk => ?_⟩
            by_cases h : k = j
            · subst h
              rw [hax.out, hay.out]
              exact hxy.out.2 hx
            · exact hrel.out k (by omega)
        · have hne : ((x.toNat : Int) != (y.toNat : Int)) = true := by simp [hx]
          go_wp2
          go_ret
          exact ⟨mr.out.drewN _, by rw [hnj.out (fun h => hx (hxy.out.1 h))]; rfl⟩
      · obtain rfl : j = n := by omega
        have hd : decide ((j : Int) < (j : Int)) = false := by simp
        go_wp2
        go_ret
        exact ⟨mr, by rw [hfin.out hrel]; rfl⟩
  · have hne : ((n : Int) != (m : Int)) = true := by simp; omega
    have hr : decide (a = b) = false := by
      rw [decide_eq_false_iff_not]
      intro h
      rw [h] at en
      omega
    rw [hr]
    go_enter Tryz.func62, Tryz.ntmps62
    go_wp2
    go_ret
    exact ⟨Mod.refl _ _, rfl⟩


theorem infoY32 : (Tryz.prog.info? 49).map (·.size) = some 32 := by kernel_rfl
theorem zeroY32 (w : World) : (zeroValue 49).run Tryz.prog w = .ok (.agg (encB (List.replicate 32 0))) w := by kernel_rfl
theorem allocY32 (w : World) (ev : Operand → Value) (o : Oper) (ho : o.op = .alloc 49) : (execOp ev o).run Tryz.prog w = .ok (.value (.pointer (some ⟨w.heap.size, 0, none⟩))) (w.alloc (.cells (encB (List.replicate 32 0)) 49)) := by
  exact alloc_arrY 49 _ zeroY32 w ev o ho
theorem loadY32 {w : World} {g : Nat} {s : List (BitVec 8)} (x : w.heap[g]? = some (.cells (encB s) 49 (0,0))) (hl : s.length = 32) : (loadVar 49 ⟨g, 0, none⟩).run Tryz.prog w = .ok (.agg (encB s)) w :=
  load_mid w g 0 49 49 [] (bytesV s) [] (0,0) _ (by rw [x]; simp [encB, bytesV]) rfl Tryz.underlying49 rfl (by rw [bytesV_length, hl]; exact infoY32)
theorem storeY32 {w : World} {g : Nat} {s s' : List (BitVec 8)} (x : w.heap[g]? = some (.cells (encB s) 49 (0,0))) (hl : s.length = 32) (hl' : s'.length = 32) :
    ∃ w', (storeVar 49 ⟨g, 0, none⟩ (.agg (encB s'))).run Tryz.prog w = .ok () w' ∧ Mod (fun k => k = g) w w' ∧ w'.heap[g]? = some (.cells (encB s') 49 (0,0)) := by
  obtain ⟨w', h1, h2, h3⟩ := store_mid (P := Tryz.prog) w g 0 49 49 [] (bytesV s) [] (bytesV s') (by rw [x]; simp [encB, bytesV]) rfl (by rw [bytesV_length, bytesV_length, hl, hl']) (by rw [bytesV_length, hl']; exact infoY32) (bytesV_one _)
  exact ⟨w', h1, h2, by rw [h3]; simp [encB, bytesV]⟩
/-- A load out of the middle of bytes. -/
theorem loadByY32 {w : World} {g off n cap : Nat} {bs : List (BitVec 8)} (hb : ByteAt w (.slice (some ⟨g, off, none⟩) n cap) bs) (hl : bs.length = 32) : (loadVar 49 ⟨g, off, none⟩).run Tryz.prog w = .ok (.agg (encB bs)) w := by
  have h := run_loadVar_mid (P := Tryz.prog) w g off 49 (bytesV bs) _ (fun j v hv => by have := cells_byteAt hb j v hv; rwa [Addr.add_lit] at this) Tryz.underlying49 rfl (by rw [bytesV_length, hl]; exact infoY32)
  rw [h]
  simp [encB, bytesV]
theorem arrAtY32 {ev : Operand → Value} {o : Oper} {x : Operand} {w : World} {ad : Option Addr} {n cap : Nat} (ho : o.op = .sliceToArrayPointer 49 x) (hx : ev x = .slice ad n cap) (hn : 32 ≤ n) : (execOp ev o).run Tryz.prog w = .ok (.value (.pointer ad)) w := by
  unfold execOp
  simp only [ho, hx, Instr.arrayAt]
  simp [Sem.run_bind, run_underlying Tryz.underlying49 w, hn]
  intro h; omega
theorem resultsY32 {fn : Func} {p : Tmp} (h : fn.results = #[.cell p 49]) (tmps : Array Value) (w : World) (g : Nat) (s : List (BitVec 8)) (h1 : tmps.getD p undef = .pointer (some ⟨g, 0, none⟩)) (x : w.heap[g]? = some (.cells (encB s) 49 (0,0))) (hl : s.length = 32) :
    (results fn tmps).run Tryz.prog w = .ok (.agg (encB s)) w := by
  have h1' : tmps[p]?.getD undef = .pointer (some ⟨g, 0, none⟩) := by simpa using h1
  simp [results, h, Sem.run_bind, h1', loadY32 x hl, asAddr]
theorem results2Y32 {fn : Func} {p q : Tmp} (h : fn.results = #[.cell p 49, .tmp q]) (tmps : Array Value) (w : World) (g : Nat) (s : List (BitVec 8)) (r : Value) (h1 : tmps.getD p undef = .pointer (some ⟨g, 0, none⟩)) (h2 : tmps.getD q undef = r) (x : w.heap[g]? = some (.cells (encB s) 49 (0,0))) (hl : s.length = 32) :
    (results fn tmps).run Tryz.prog w = .ok (.tuple #[.agg (encB s), r]) w := by
  have h1' : tmps[p]?.getD undef = .pointer (some ⟨g, 0, none⟩) := by simpa using h1
  have h2' : tmps[q]?.getD undef = r := by simpa using h2
  simp [results, h, Sem.run_bind, h1', h2', loadY32 x hl, asAddr]
set_option maxRecDepth 100000 in
set_option maxHeartbeats 4000000 in
theorem ofdo32_any (v : Value) (bs : List (BitVec 8)) (hl : bs.length = 32) (w : World) (hb : ByteAt w v bs) : Calls Tryz.prog 64 #[v] w fun e w' => Mod (fun _ => False) w w' ∧ e = .returned (.agg (encB bs)) := by
  obtain ⟨ad, cap, rfl, hc⟩ := hb.slice
  obtain ⟨g0, off, rfl, _, _⟩ := hc 0 (by omega)
  rw [hl] at hb ⊢
  obtain ⟨w1, hw1⟩ : ∃ x, x = w.alloc (.cells (encB (List.replicate 32 0)) 49) := ⟨_, rfl⟩
  obtain ⟨g, hg⟩ : ∃ x, x = w.heap.size := ⟨_, rfl⟩
  have m1 : Mod (fun _ => False) w w1 := by rw [hw1]; exact (Mod.refl _ _).alloc _
  have x1 : w1.heap[g]? = some (.cells (encB (List.replicate 32 0)) 49 (0,0)) := by rw [hw1]; exact hp_new _ _ _ hg
  have b1 := hb.mod m1 (fun _ _ h => h)
  have ld := loadByY32 b1 hl
  obtain ⟨w2, s2, m2, x2⟩ := storeY32 x1 (s' := bs) (by simp) hl
  have mf : Mod (fun _ => False) w w2 := m1.trans' m2 (fun k hk h => by omega)
  replace hw1 := Lib.hid hw1
  replace hg := Lib.hid hg
  replace mf := Lib.hid mf
  replace x2 := Lib.hid x2
  replace hl := Lib.hid hl
  clear hb hc m1 x1 b1 m2
  go_enter Tryz.func64, Tryz.ntmps64
  go_upto_region 0 with (fail)
  refine wp_region_lit ?_
  refine wpList_yields (by kernel_rfl) _ _ (allocY32 _ _ _ rfl) ?_
  simp only [Act.put, List.setIfInBounds_toArray, List.set_cons_zero, List.set_cons_succ]
  rw [← hg.out, ← hw1.out]
  go_upto_region 1 with (fail)
  refine wp_region_lit ?_
  refine wpList_reads (by kernel_rfl) (.slice (some ⟨g0, off, none⟩) 32 cap) (by go_simp) ?_
  simp only [Act.put, List.setIfInBounds_toArray, List.set_cons_zero, List.set_cons_succ]
  refine wpList_reads (by kernel_rfl) (.pointer (some ⟨g0, off, none⟩)) (arrAtY32 rfl rfl (by omega)) ?_
  simp only [Act.put, List.setIfInBounds_toArray, List.set_cons_zero, List.set_cons_succ]
  refine wpList_reads (by kernel_rfl) (.agg (encB bs)) (run_load_op rfl rfl ld) ?_
  simp only [Act.put, List.setIfInBounds_toArray, List.set_cons_zero, List.set_cons_succ]
  refine wpList_store_to rfl _ _ _ rfl _ _ _ rfl rfl _ s2 ?_
  simp only [Act.put, List.setIfInBounds_toArray, List.set_cons_zero, List.set_cons_succ]
  clear s2 ld
  go_wp2
  exact bodyPost_ret (v := .agg (encB bs)) (resultsY32 rfl _ _ _ _ rfl x2.out hl.out) rfl ⟨mf.out, rfl⟩
set_option maxRecDepth 100000 in
set_option maxHeartbeats 4000000 in
theorem as32_any (v : Value) (bs : List (BitVec 8)) (hbl : bs.length ≤ 140737488351232) (w : World) (hb : ByteAt w v bs) : Calls Tryz.prog 63 #[v, .int .i64 32, .func (.func 64) #[] #[]] w fun e w' => Mod (fun _ => False) w w' ∧ e = .returned (.tuple #[.agg (encB (if bs.length = 32 then bs else List.replicate 32 0)), .bool (decide (bs.length = 32))]) := by
  obtain ⟨ad, cap, rfl, _⟩ := hb.slice
  obtain ⟨n, hn⟩ : ∃ n, n = bs.length := ⟨_, rfl⟩
  rw [← hn] at hb hbl ⊢
  have bn0 : (0 : Int) ≤ (n : Int) := by omega
  obtain ⟨w1, hw1⟩ : ∃ x, x = w.alloc (.cells (encB (List.replicate 32 0)) 49) := ⟨_, rfl⟩
  obtain ⟨g, hg⟩ : ∃ x, x = w.heap.size := ⟨_, rfl⟩
  have m1 : Mod (fun _ => False) w w1 := by rw [hw1]; exact (Mod.refl _ _).alloc _
  have x1 : w1.heap[g]? = some (.cells (encB (List.replicate 32 0)) 49 (0,0)) := by rw [hw1]; exact hp_new _ _ _ hg
  have b1 := hb.mod m1 (fun _ _ h => h)
  have hgw : w.heap.size ≤ g := by omega
  obtain ⟨Y, hY⟩ : ∃ Y : List (BitVec 8), Y = if n = 32 then bs else List.replicate 32 0 := ⟨_, rfl⟩
  obtain ⟨B, hB⟩ : ∃ B, B = decide (n = 32) := ⟨_, rfl⟩
  rw [← hY, ← hB]
  replace hY := Lib.hid hY
  replace hB := Lib.hid hB
  replace hw1 := Lib.hid hw1
  replace hg := Lib.hid hg
  replace hn := Lib.hid hn
  replace m1 := Lib.hid m1
  replace b1 := Lib.hid b1
  clear hb
  go_enter Tryz.func63, Tryz.ntmps63
  go_upto_region 0 with (fail)
  refine wp_region_lit ?_
  refine wpList_yields (by kernel_rfl) _ _ (allocY32 _ _ _ rfl) ?_
  simp only [Act.put, List.setIfInBounds_toArray, List.set_cons_zero, List.set_cons_succ]
  rw [← hg.out, ← hw1.out]
  refine wpList_reads (by kernel_rfl) (.bool false) (by go_simp) ?_
  simp only [Act.put, List.setIfInBounds_toArray, List.set_cons_zero, List.set_cons_succ]
  by_cases hi : n = 32
  · have hd : ((n : Int) != 32) = false := by rw [hi]; rfl
    go_upto_region 1 with (fail)
    refine wp_region_lit ?_
    refine wpList_reads (by kernel_rfl) (.slice ad n cap) (by go_simp) ?_
    simp only [Act.put, List.setIfInBounds_toArray, List.set_cons_zero, List.set_cons_succ]
    refine wpList_reads (by kernel_rfl) (.int .i64 (n : Int)) (by go_simp) ?_
    simp only [Act.put, List.setIfInBounds_toArray, List.set_cons_zero, List.set_cons_succ]
    refine wpList_reads (by kernel_rfl) (.int .i64 32) (by go_simp) ?_
    simp only [Act.put, List.setIfInBounds_toArray, List.set_cons_zero, List.set_cons_succ]
    refine wpList_reads (by kernel_rfl) (.bool false) (by go_simp) ?_
    simp only [Act.put, List.setIfInBounds_toArray, List.set_cons_zero, List.set_cons_succ]
    go_upto_region 3 with (fail)
    refine wp_region_lit ?_
    refine wpList_reads (by kernel_rfl) (.func (.func 64) #[] #[]) (by go_simp) ?_
    simp only [Act.put, List.setIfInBounds_toArray, List.set_cons_zero, List.set_cons_succ]
    refine wpList_reads (by kernel_rfl) (.slice ad n cap) (by go_simp) ?_
    simp only [Act.put, List.setIfInBounds_toArray, List.set_cons_zero, List.set_cons_succ]
    refine wpList_enter (by kernel_rfl) 64 #[.slice ad n cap] (by go_simp) (ofdo32_any _ bs (by rw [← hn.out]; exact hi) w1 b1.out) ?_
    rintro e w2 ⟨m2, rfl⟩
    have x2 := m2.heap x1 (fun h => h)
    have hbl' : bs.length = 32 := by rw [← hn.out]; exact hi
    obtain ⟨w3, s3, m3, x3⟩ := storeY32 x2 (s' := bs) (by simp) hbl'
    have mf : Mod (fun _ => False) w w3 := (m1.out.trans m2).trans' m3 (fun k hk h => by omega)
    replace x3 := Lib.hid x3
    replace mf := Lib.hid mf
    replace hbl' := Lib.hid hbl'
    clear x1 x2 m2 m3
    refine ⟨_, rfl, ?_⟩
    simp only [Act.put, List.setIfInBounds_toArray, List.set_cons_zero, List.set_cons_succ]
    refine wpList_store_to rfl _ _ _ rfl _ _ _ rfl rfl _ s3 ?_
    simp only [Act.put, List.setIfInBounds_toArray, List.set_cons_zero, List.set_cons_succ]
    refine wpList_reads (by kernel_rfl) (.bool true) (by go_simp) ?_
    simp only [Act.put, List.setIfInBounds_toArray, List.set_cons_zero, List.set_cons_succ]
    clear s3
    go_wp2
    refine bodyPost_ret (v := .tuple #[.agg (encB bs), .bool true]) (results2Y32 rfl _ _ _ _ _ rfl rfl x3.out hbl'.out) rfl ⟨mf.out, ?_⟩
    rw [hY.out, hB.out, if_pos hi, decide_eq_true hi]
  · have hd : ((n : Int) != 32) = true := by rw [bne_iff_ne]; omega
    have ld := loadY32 x1 (by simp)
    obtain ⟨w3, s3, m3, x3⟩ := storeY32 x1 (s' := List.replicate 32 0) (by simp) (by simp)
    have mf : Mod (fun _ => False) w w3 := m1.out.trans' m3 (fun k hk h => by omega)
    obtain ⟨Z, hZ⟩ : ∃ Z : List (BitVec 8), Z = List.replicate 32 0 := ⟨_, rfl⟩
    have hZl : Z.length = 32 := by rw [hZ]; simp
    rw [← hZ] at ld s3 x3
    replace hZ := Lib.hid hZ
    replace x3 := Lib.hid x3
    replace mf := Lib.hid mf
    clear x1 m3
    go_upto_region 1 with (fail)
    refine wp_region_lit ?_
    refine wpList_reads (by kernel_rfl) (.slice ad n cap) (by go_simp) ?_
    simp only [Act.put, List.setIfInBounds_toArray, List.set_cons_zero, List.set_cons_succ]
    refine wpList_reads (by kernel_rfl) (.int .i64 (n : Int)) (by go_simp) ?_
    simp only [Act.put, List.setIfInBounds_toArray, List.set_cons_zero, List.set_cons_succ]
    refine wpList_reads (by kernel_rfl) (.int .i64 32) (by go_simp) ?_
    simp only [Act.put, List.setIfInBounds_toArray, List.set_cons_zero, List.set_cons_succ]
    refine wpList_reads (by kernel_rfl) (.bool true) (by go_simp) ?_
    simp only [Act.put, List.setIfInBounds_toArray, List.set_cons_zero, List.set_cons_succ]
    go_upto_region 2 with (fail)
    refine wp_region_lit ?_
    refine wpList_reads (by kernel_rfl) (.agg (encB Z)) (run_load_op rfl rfl ld) ?_
    simp only [Act.put, List.setIfInBounds_toArray, List.set_cons_zero, List.set_cons_succ]
    refine wpList_store_to rfl _ _ _ rfl _ _ _ rfl rfl _ s3 ?_
    simp only [Act.put, List.setIfInBounds_toArray, List.set_cons_zero, List.set_cons_succ]
    refine wpList_reads (by kernel_rfl) (.bool false) (by go_simp) ?_
    simp only [Act.put, List.setIfInBounds_toArray, List.set_cons_zero, List.set_cons_succ]
    clear s3 ld
    go_wp2
    refine bodyPost_ret (v := .tuple #[.agg (encB Z), .bool false]) (results2Y32 rfl _ _ _ _ _ rfl rfl x3.out hZl) rfl ⟨mf.out, ?_⟩
    rw [hY.out, hB.out, if_neg hi, decide_eq_false hi, hZ.out]

theorem infoY12 : (Tryz.prog.info? 50).map (·.size) = some 12 := by kernel_rfl
theorem zeroY12 (w : World) : (zeroValue 50).run Tryz.prog w = .ok (.agg (encB (List.replicate 12 0))) w := by kernel_rfl
theorem allocY12 (w : World) (ev : Operand → Value) (o : Oper) (ho : o.op = .alloc 50) : (execOp ev o).run Tryz.prog w = .ok (.value (.pointer (some ⟨w.heap.size, 0, none⟩))) (w.alloc (.cells (encB (List.replicate 12 0)) 50)) := by
  exact alloc_arrY 50 _ zeroY12 w ev o ho
theorem loadY12 {w : World} {g : Nat} {s : List (BitVec 8)} (x : w.heap[g]? = some (.cells (encB s) 50 (0,0))) (hl : s.length = 12) : (loadVar 50 ⟨g, 0, none⟩).run Tryz.prog w = .ok (.agg (encB s)) w :=
  load_mid w g 0 50 50 [] (bytesV s) [] (0,0) _ (by rw [x]; simp [encB, bytesV]) rfl Tryz.underlying50 rfl (by rw [bytesV_length, hl]; exact infoY12)
theorem storeY12 {w : World} {g : Nat} {s s' : List (BitVec 8)} (x : w.heap[g]? = some (.cells (encB s) 50 (0,0))) (hl : s.length = 12) (hl' : s'.length = 12) :
    ∃ w', (storeVar 50 ⟨g, 0, none⟩ (.agg (encB s'))).run Tryz.prog w = .ok () w' ∧ Mod (fun k => k = g) w w' ∧ w'.heap[g]? = some (.cells (encB s') 50 (0,0)) := by
  obtain ⟨w', h1, h2, h3⟩ := store_mid (P := Tryz.prog) w g 0 50 50 [] (bytesV s) [] (bytesV s') (by rw [x]; simp [encB, bytesV]) rfl (by rw [bytesV_length, bytesV_length, hl, hl']) (by rw [bytesV_length, hl']; exact infoY12) (bytesV_one _)
  exact ⟨w', h1, h2, by rw [h3]; simp [encB, bytesV]⟩
/-- A load out of the middle of bytes. -/
theorem loadByY12 {w : World} {g off n cap : Nat} {bs : List (BitVec 8)} (hb : ByteAt w (.slice (some ⟨g, off, none⟩) n cap) bs) (hl : bs.length = 12) : (loadVar 50 ⟨g, off, none⟩).run Tryz.prog w = .ok (.agg (encB bs)) w := by
  have h := run_loadVar_mid (P := Tryz.prog) w g off 50 (bytesV bs) _ (fun j v hv => by have := cells_byteAt hb j v hv; rwa [Addr.add_lit] at this) Tryz.underlying50 rfl (by rw [bytesV_length, hl]; exact infoY12)
  rw [h]
  simp [encB, bytesV]
theorem arrAtY12 {ev : Operand → Value} {o : Oper} {x : Operand} {w : World} {ad : Option Addr} {n cap : Nat} (ho : o.op = .sliceToArrayPointer 50 x) (hx : ev x = .slice ad n cap) (hn : 12 ≤ n) : (execOp ev o).run Tryz.prog w = .ok (.value (.pointer ad)) w := by
  unfold execOp
  simp only [ho, hx, Instr.arrayAt]
  simp [Sem.run_bind, run_underlying Tryz.underlying50 w, hn]
  intro h; omega
theorem resultsY12 {fn : Func} {p : Tmp} (h : fn.results = #[.cell p 50]) (tmps : Array Value) (w : World) (g : Nat) (s : List (BitVec 8)) (h1 : tmps.getD p undef = .pointer (some ⟨g, 0, none⟩)) (x : w.heap[g]? = some (.cells (encB s) 50 (0,0))) (hl : s.length = 12) :
    (results fn tmps).run Tryz.prog w = .ok (.agg (encB s)) w := by
  have h1' : tmps[p]?.getD undef = .pointer (some ⟨g, 0, none⟩) := by simpa using h1
  simp [results, h, Sem.run_bind, h1', loadY12 x hl, asAddr]
theorem results2Y12 {fn : Func} {p q : Tmp} (h : fn.results = #[.cell p 50, .tmp q]) (tmps : Array Value) (w : World) (g : Nat) (s : List (BitVec 8)) (r : Value) (h1 : tmps.getD p undef = .pointer (some ⟨g, 0, none⟩)) (h2 : tmps.getD q undef = r) (x : w.heap[g]? = some (.cells (encB s) 50 (0,0))) (hl : s.length = 12) :
    (results fn tmps).run Tryz.prog w = .ok (.tuple #[.agg (encB s), r]) w := by
  have h1' : tmps[p]?.getD undef = .pointer (some ⟨g, 0, none⟩) := by simpa using h1
  have h2' : tmps[q]?.getD undef = r := by simpa using h2
  simp [results, h, Sem.run_bind, h1', h2', loadY12 x hl, asAddr]
set_option maxRecDepth 100000 in
set_option maxHeartbeats 4000000 in
theorem ofdo12_any (v : Value) (bs : List (BitVec 8)) (hl : bs.length = 12) (w : World) (hb : ByteAt w v bs) : Calls Tryz.prog 66 #[v] w fun e w' => Mod (fun _ => False) w w' ∧ e = .returned (.agg (encB bs)) := by
  obtain ⟨ad, cap, rfl, hc⟩ := hb.slice
  obtain ⟨g0, off, rfl, _, _⟩ := hc 0 (by omega)
  rw [hl] at hb ⊢
  obtain ⟨w1, hw1⟩ : ∃ x, x = w.alloc (.cells (encB (List.replicate 12 0)) 50) := ⟨_, rfl⟩
  obtain ⟨g, hg⟩ : ∃ x, x = w.heap.size := ⟨_, rfl⟩
  have m1 : Mod (fun _ => False) w w1 := by rw [hw1]; exact (Mod.refl _ _).alloc _
  have x1 : w1.heap[g]? = some (.cells (encB (List.replicate 12 0)) 50 (0,0)) := by rw [hw1]; exact hp_new _ _ _ hg
  have b1 := hb.mod m1 (fun _ _ h => h)
  have ld := loadByY12 b1 hl
  obtain ⟨w2, s2, m2, x2⟩ := storeY12 x1 (s' := bs) (by simp) hl
  have mf : Mod (fun _ => False) w w2 := m1.trans' m2 (fun k hk h => by omega)
  replace hw1 := Lib.hid hw1
  replace hg := Lib.hid hg
  replace mf := Lib.hid mf
  replace x2 := Lib.hid x2
  replace hl := Lib.hid hl
  clear hb hc m1 x1 b1 m2
  go_enter Tryz.func66, Tryz.ntmps66
  go_upto_region 0 with (fail)
  refine wp_region_lit ?_
  refine wpList_yields (by kernel_rfl) _ _ (allocY12 _ _ _ rfl) ?_
  simp only [Act.put, List.setIfInBounds_toArray, List.set_cons_zero, List.set_cons_succ]
  rw [← hg.out, ← hw1.out]
  go_upto_region 1 with (fail)
  refine wp_region_lit ?_
  refine wpList_reads (by kernel_rfl) (.slice (some ⟨g0, off, none⟩) 12 cap) (by go_simp) ?_
  simp only [Act.put, List.setIfInBounds_toArray, List.set_cons_zero, List.set_cons_succ]
  refine wpList_reads (by kernel_rfl) (.pointer (some ⟨g0, off, none⟩)) (arrAtY12 rfl rfl (by omega)) ?_
  simp only [Act.put, List.setIfInBounds_toArray, List.set_cons_zero, List.set_cons_succ]
  refine wpList_reads (by kernel_rfl) (.agg (encB bs)) (run_load_op rfl rfl ld) ?_
  simp only [Act.put, List.setIfInBounds_toArray, List.set_cons_zero, List.set_cons_succ]
  refine wpList_store_to rfl _ _ _ rfl _ _ _ rfl rfl _ s2 ?_
  simp only [Act.put, List.setIfInBounds_toArray, List.set_cons_zero, List.set_cons_succ]
  clear s2 ld
  go_wp2
  exact bodyPost_ret (v := .agg (encB bs)) (resultsY12 rfl _ _ _ _ rfl x2.out hl.out) rfl ⟨mf.out, rfl⟩
set_option maxRecDepth 100000 in
set_option maxHeartbeats 4000000 in
theorem as12_any (v : Value) (bs : List (BitVec 8)) (hbl : bs.length ≤ 140737488351232) (w : World) (hb : ByteAt w v bs) : Calls Tryz.prog 65 #[v, .int .i64 12, .func (.func 66) #[] #[]] w fun e w' => Mod (fun _ => False) w w' ∧ e = .returned (.tuple #[.agg (encB (if bs.length = 12 then bs else List.replicate 12 0)), .bool (decide (bs.length = 12))]) := by
  obtain ⟨ad, cap, rfl, _⟩ := hb.slice
  obtain ⟨n, hn⟩ : ∃ n, n = bs.length := ⟨_, rfl⟩
  rw [← hn] at hb hbl ⊢
  have bn0 : (0 : Int) ≤ (n : Int) := by omega
  obtain ⟨w1, hw1⟩ : ∃ x, x = w.alloc (.cells (encB (List.replicate 12 0)) 50) := ⟨_, rfl⟩
  obtain ⟨g, hg⟩ : ∃ x, x = w.heap.size := ⟨_, rfl⟩
  have m1 : Mod (fun _ => False) w w1 := by rw [hw1]; exact (Mod.refl _ _).alloc _
  have x1 : w1.heap[g]? = some (.cells (encB (List.replicate 12 0)) 50 (0,0)) := by rw [hw1]; exact hp_new _ _ _ hg
  have b1 := hb.mod m1 (fun _ _ h => h)
  have hgw : w.heap.size ≤ g := by omega
  obtain ⟨Y, hY⟩ : ∃ Y : List (BitVec 8), Y = if n = 12 then bs else List.replicate 12 0 := ⟨_, rfl⟩
  obtain ⟨B, hB⟩ : ∃ B, B = decide (n = 12) := ⟨_, rfl⟩
  rw [← hY, ← hB]
  replace hY := Lib.hid hY
  replace hB := Lib.hid hB
  replace hw1 := Lib.hid hw1
  replace hg := Lib.hid hg
  replace hn := Lib.hid hn
  replace m1 := Lib.hid m1
  replace b1 := Lib.hid b1
  clear hb
  go_enter Tryz.func65, Tryz.ntmps65
  go_upto_region 0 with (fail)
  refine wp_region_lit ?_
  refine wpList_yields (by kernel_rfl) _ _ (allocY12 _ _ _ rfl) ?_
  simp only [Act.put, List.setIfInBounds_toArray, List.set_cons_zero, List.set_cons_succ]
  rw [← hg.out, ← hw1.out]
  refine wpList_reads (by kernel_rfl) (.bool false) (by go_simp) ?_
  simp only [Act.put, List.setIfInBounds_toArray, List.set_cons_zero, List.set_cons_succ]
  by_cases hi : n = 12
  · have hd : ((n : Int) != 12) = false := by rw [hi]; rfl
    go_upto_region 1 with (fail)
    refine wp_region_lit ?_
    refine wpList_reads (by kernel_rfl) (.slice ad n cap) (by go_simp) ?_
    simp only [Act.put, List.setIfInBounds_toArray, List.set_cons_zero, List.set_cons_succ]
    refine wpList_reads (by kernel_rfl) (.int .i64 (n : Int)) (by go_simp) ?_
    simp only [Act.put, List.setIfInBounds_toArray, List.set_cons_zero, List.set_cons_succ]
    refine wpList_reads (by kernel_rfl) (.int .i64 12) (by go_simp) ?_
    simp only [Act.put, List.setIfInBounds_toArray, List.set_cons_zero, List.set_cons_succ]
    refine wpList_reads (by kernel_rfl) (.bool false) (by go_simp) ?_
    simp only [Act.put, List.setIfInBounds_toArray, List.set_cons_zero, List.set_cons_succ]
    go_upto_region 3 with (fail)
    refine wp_region_lit ?_
    refine wpList_reads (by kernel_rfl) (.func (.func 66) #[] #[]) (by go_simp) ?_
    simp only [Act.put, List.setIfInBounds_toArray, List.set_cons_zero, List.set_cons_succ]
    refine wpList_reads (by kernel_rfl) (.slice ad n cap) (by go_simp) ?_
    simp only [Act.put, List.setIfInBounds_toArray, List.set_cons_zero, List.set_cons_succ]
    refine wpList_enter (by kernel_rfl) 66 #[.slice ad n cap] (by go_simp) (ofdo12_any _ bs (by rw [← hn.out]; exact hi) w1 b1.out) ?_
    rintro e w2 ⟨m2, rfl⟩
    have x2 := m2.heap x1 (fun h => h)
    have hbl' : bs.length = 12 := by rw [← hn.out]; exact hi
    obtain ⟨w3, s3, m3, x3⟩ := storeY12 x2 (s' := bs) (by simp) hbl'
    have mf : Mod (fun _ => False) w w3 := (m1.out.trans m2).trans' m3 (fun k hk h => by omega)
    replace x3 := Lib.hid x3
    replace mf := Lib.hid mf
    replace hbl' := Lib.hid hbl'
    clear x1 x2 m2 m3
    refine ⟨_, rfl, ?_⟩
    simp only [Act.put, List.setIfInBounds_toArray, List.set_cons_zero, List.set_cons_succ]
    refine wpList_store_to rfl _ _ _ rfl _ _ _ rfl rfl _ s3 ?_
    simp only [Act.put, List.setIfInBounds_toArray, List.set_cons_zero, List.set_cons_succ]
    refine wpList_reads (by kernel_rfl) (.bool true) (by go_simp) ?_
    simp only [Act.put, List.setIfInBounds_toArray, List.set_cons_zero, List.set_cons_succ]
    clear s3
    go_wp2
    refine bodyPost_ret (v := .tuple #[.agg (encB bs), .bool true]) (results2Y12 rfl _ _ _ _ _ rfl rfl x3.out hbl'.out) rfl ⟨mf.out, ?_⟩
    rw [hY.out, hB.out, if_pos hi, decide_eq_true hi]
  · have hd : ((n : Int) != 12) = true := by rw [bne_iff_ne]; omega
    have ld := loadY12 x1 (by simp)
    obtain ⟨w3, s3, m3, x3⟩ := storeY12 x1 (s' := List.replicate 12 0) (by simp) (by simp)
    have mf : Mod (fun _ => False) w w3 := m1.out.trans' m3 (fun k hk h => by omega)
    obtain ⟨Z, hZ⟩ : ∃ Z : List (BitVec 8), Z = List.replicate 12 0 := ⟨_, rfl⟩
    have hZl : Z.length = 12 := by rw [hZ]; simp
    rw [← hZ] at ld s3 x3
    replace hZ := Lib.hid hZ
    replace x3 := Lib.hid x3
    replace mf := Lib.hid mf
    clear x1 m3
    go_upto_region 1 with (fail)
    refine wp_region_lit ?_
    refine wpList_reads (by kernel_rfl) (.slice ad n cap) (by go_simp) ?_
    simp only [Act.put, List.setIfInBounds_toArray, List.set_cons_zero, List.set_cons_succ]
    refine wpList_reads (by kernel_rfl) (.int .i64 (n : Int)) (by go_simp) ?_
    simp only [Act.put, List.setIfInBounds_toArray, List.set_cons_zero, List.set_cons_succ]
    refine wpList_reads (by kernel_rfl) (.int .i64 12) (by go_simp) ?_
    simp only [Act.put, List.setIfInBounds_toArray, List.set_cons_zero, List.set_cons_succ]
    refine wpList_reads (by kernel_rfl) (.bool true) (by go_simp) ?_
    simp only [Act.put, List.setIfInBounds_toArray, List.set_cons_zero, List.set_cons_succ]
    go_upto_region 2 with (fail)
    refine wp_region_lit ?_
    refine wpList_reads (by kernel_rfl) (.agg (encB Z)) (run_load_op rfl rfl ld) ?_
    simp only [Act.put, List.setIfInBounds_toArray, List.set_cons_zero, List.set_cons_succ]
    refine wpList_store_to rfl _ _ _ rfl _ _ _ rfl rfl _ s3 ?_
    simp only [Act.put, List.setIfInBounds_toArray, List.set_cons_zero, List.set_cons_succ]
    refine wpList_reads (by kernel_rfl) (.bool false) (by go_simp) ?_
    simp only [Act.put, List.setIfInBounds_toArray, List.set_cons_zero, List.set_cons_succ]
    clear s3 ld
    go_wp2
    refine bodyPost_ret (v := .tuple #[.agg (encB Z), .bool false]) (results2Y12 rfl _ _ _ _ _ rfl rfl x3.out hZl) rfl ⟨mf.out, ?_⟩
    rw [hY.out, hB.out, if_neg hi, decide_eq_false hi, hZ.out]
end Go.Proofs.YtbiijcljpgannaaGreatDoor
