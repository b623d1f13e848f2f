/-
  hello.Get: its walk. Printed by gen/hget.py.
-/
import Derived.Test.YtkfikoacohogaaaDoorHw
import Derived.Test.YtkfikoacohogaaaDoorHq
namespace Go.Proofs.YtkfikoacohogaaaDoor
set_option maxRecDepth 100000
open Go Go.RowKit
set_option linter.unusedSimpArgs false
set_option linter.unusedVariables false

def GetHEnd (bs : List (BitVec 8)) (w : World) (e : Ending) (w' : World) : Prop := Mod (fun _ => False) w w' ∧ e = .returned (hgV bs)
theorem store_int {w : World} {g : Nat} {x : Value} (n : Int) (h : w.heap[g]? = some (.cells #[x] 3 (0,0))) : (storeVar 3 ⟨g, 0, none⟩ (.int .i64 n)).run Tryd.prog w = .ok () (w.setCell ⟨g, 0, none⟩ (.int .i64 n)) := by
  have hc := cell_of_one h
  have hf := free_of_one h
  go_simp
theorem load_sliceH {w : World} {g n cap : Nat} {ad : Option Addr} (h : w.cell? ⟨g, 0, none⟩ = some (.slice ad n cap)) : (loadVar 27 ⟨g, 0, none⟩).run Tryd.prog w = .ok (.slice ad n cap) w := by go_simp
theorem load_int {w : World} {g : Nat} {n : Int} (h : w.cell? ⟨g, 0, none⟩ = some (.int .i64 n)) : (loadVar 3 ⟨g, 0, none⟩).run Tryd.prog w = .ok (.int .i64 n) w := by go_simp
theorem hello_row {w : World} {g : Nat} {h : HD} (o : h.Ok) (x : HelloAt w g h) : w.heap[g]? = some (.cells ([Value.int .u8 (h.k : Int)] ++ (bytesV h.a ++ (nums .u64 h.l ++ bytesV h.p))).toArray 54 (0,0)) := x
theorem hello_row_p {w : World} {g : Nat} {h : HD} (o : h.Ok) (x : HelloAt w g h) : w.heap[g]? = some (.cells ((Value.int .u8 (h.k : Int) :: (bytesV h.a ++ nums .u64 h.l)) ++ (bytesV h.p ++ [])).toArray 54 (0,0)) := by
  rw [x]
  simp [helloC, helloL]
theorem hello_of_a {w : World} {g k : Nat} {a p : List (BitVec 8)} {l : List Nat} (h : w.heap[g]? = some (.cells ([Value.int .u8 (k : Int)] ++ (bytesV a ++ (nums .u64 l ++ bytesV p))).toArray 54 (0,0))) : HelloAt w g ⟨k, a, l, p⟩ := h
theorem hello_of_p {w : World} {g k : Nat} {a p : List (BitVec 8)} {l : List Nat} (h : w.heap[g]? = some (.cells ((Value.int .u8 (k : Int) :: (bytesV a ++ nums .u64 l)) ++ (bytesV p ++ [])).toArray 54 (0,0))) : HelloAt w g ⟨k, a, l, p⟩ := by
  unfold HelloAt
  rw [h]
  simp [helloC, helloL]

theorem alloc_int (w : World) (ev : Operand → Value) (o : Oper) (ho : o.op = .alloc 3) : (execOp ev o).run Tryd.prog w = .ok (.value (.pointer (some ⟨w.heap.size, 0, none⟩))) (w.alloc (.cells #[.int .i64 0] 3)) := by
  have hz : (zeroValue 3).run Tryd.prog w = .ok (.int .i64 0) w := by kernel_rfl
  unfold execOp
  simp [ho, Instr.alloc, Sem.run_bind, hz, newVar, newRow, Value.cells]
theorem hello_store_li {w : World} {g : Nat} {h : HD} (o : h.Ok) (x : HelloAt w g h) (i n : Nat) (hi : i < 4) : (storeVar 51 ⟨g, 33 + i, none⟩ (.int .u64 (n : Int))).run Tryd.prog w = .ok () (w.setCell ⟨g, 33 + i, none⟩ (.int .u64 (n : Int))) := by
  have hth := there_mid (off := 33 + i) (n := 1) x (by show 33 + i + 1 ≤ (helloL h).toArray.size; rw [List.size_toArray, helloL_length o]; omega) 0 (by omega)
  obtain ⟨hc, hf⟩ := hth
  rw [Nat.add_zero] at hc hf
  obtain ⟨u, hu⟩ := Option.isSome_iff_exists.1 hc
  go_simp
theorem set_next (l : List Nat) (i x : Nat) (h : l.length = i) (hi : i < 4) : (l ++ List.replicate (4 - i) 0).set i x = (l ++ [x]) ++ List.replicate (4 - (i + 1)) 0 := by
  subst h
  rw [List.set_append_right _ _ (Nat.le_refl _), Nat.sub_self, show 4 - l.length = (4 - (l.length + 1)) + 1 by omega, List.replicate_succ, List.set_cons_zero]
  simp
/-- What is read of the limits so far. -/
def LimRel (bs : List (BitVec 8)) (i : Nat) (l : List Nat) (A : Nat) : Prop :=
  l.length = i ∧ 33 ≤ A ∧ A ≤ bs.length ∧ (∀ x ∈ l, x < 4611686018427387904) ∧ lims 4 (bs.drop 33) = match lims (4 - i) (bs.drop A) with | .inl e => .inl e | .inr (l', m) => .inr (l ++ l', A - 33 + m)
theorem LimRel.start {bs : List (BitVec 8)} (h : 33 ≤ bs.length) : LimRel bs 0 [] 33 := by
  refine ⟨rfl, Nat.le_refl _, h, by simp, ?_⟩
  rw [Nat.sub_zero]
  cases lims 4 (bs.drop 33) with
  | inl e => rfl
  | inr q => simp
theorem LimRel.none {bs : List (BitVec 8)} {i A : Nat} {l : List Nat} (h : LimRel bs i l A) (hi : i < 4) (hv : vget (bs.drop A) = none) : lims 4 (bs.drop 33) = .inl 4 := by
  obtain ⟨_, _, _, _, h5⟩ := h
  rw [h5, show 4 - i = (3 - i) + 1 by omega, lims, hv]
theorem LimRel.bad {bs : List (BitVec 8)} {i A x k : Nat} {l : List Nat} (h : LimRel bs i l A) (hi : i < 4) (hv : vget (bs.drop A) = some (x, k)) (hk : ¬ vsz x = k) : lims 4 (bs.drop 33) = .inl 5 := by
  obtain ⟨_, _, _, _, h5⟩ := h
  rw [h5, show 4 - i = (3 - i) + 1 by omega, lims, hv]
  simp only
  rw [if_neg hk]
theorem LimRel.step {bs : List (BitVec 8)} {i A x k : Nat} {l : List Nat} (h : LimRel bs i l A) (hi : i < 4) (hv : vget (bs.drop A) = some (x, k)) (hk : vsz x = k) : LimRel bs (i + 1) (l ++ [x]) (A + k) := by
  obtain ⟨h1, h2, h3, h4, h5⟩ := h
  have h6 := vget_len hv
  rw [List.length_drop] at h6
  refine ⟨by simp [h1], by omega, by omega, ?_, ?_⟩
  · intro y hy
    rcases List.mem_append.1 hy with hy | hy
    · exact h4 y hy
    · rw [List.mem_singleton.1 hy]; exact h6.2.2.2
  · rw [h5, show 4 - i = (4 - (i + 1)) + 1 by omega, lims, hv]
    simp only
    rw [if_pos hk, List.drop_drop]
    cases lims (4 - (i + 1)) (bs.drop (A + k)) with
    | inl e => rfl
    | inr q =>
      obtain ⟨l', m⟩ := q
      simp only [List.append_assoc, List.singleton_append, Sum.inr.injEq, Prod.mk.injEq, true_and]
      omega
theorem LimRel.done {bs : List (BitVec 8)} {A : Nat} {l : List Nat} (h : LimRel bs 4 l A) : lims 4 (bs.drop 33) = .inr (l, A - 33) := by
  obtain ⟨_, _, _, _, h5⟩ := h
  rw [h5]
  simp [lims]
theorem hget_results {fn : Func} (h : fn.results = #[.cell 2 54, .tmp 3, .tmp 4]) (tmps : Array Value) (w : World) (g : Nat) (v r1 r2 : Value) (h1 : tmps.getD 2 undef = .pointer (some ⟨g, 0, none⟩)) (h2 : tmps.getD 3 undef = r1) (h3 : tmps.getD 4 undef = r2)
    (hg : (loadVar 54 ⟨g, 0, none⟩).run Tryd.prog w = .ok v w) : (results fn tmps).run Tryd.prog w = .ok (.tuple #[v, r1, r2]) w := by
  have h1' : tmps[2]?.getD undef = .pointer (some ⟨g, 0, none⟩) := by simpa using h1
  have h2' : tmps[3]?.getD undef = r1 := by simpa using h2
  have h3' : tmps[4]?.getD undef = r2 := by simpa using h3
  simp [results, h, Sem.run_bind, h1', h2', h3', hg, asAddr]

set_option maxRecDepth 100000 in
set_option maxHeartbeats 8000000 in
theorem hget_any (v : Value) (bs : List (BitVec 8)) (w : World) (hb : ByteAt w v bs) (hl : bs.length < 4611686018427387000) : Calls Tryd.prog 59 #[v] w (GetHEnd bs w) := by
  obtain ⟨ad, cap, rfl, hc⟩ := hb.slice
  have hmf : ∀ (fn : Fn) (first cap : Array Value) (w : World), (Instr.makeFunc fn first cap).run Tryd.prog w = .ok (.func fn first cap) w := fun _ _ _ _ => rfl
  obtain ⟨w1, hw1⟩ : ∃ w1, w1 = (w.alloc (.cells #[.slice ad bs.length cap] 27)).alloc (.cells (helloC (hzero 0)) 54) := ⟨_, rfl⟩
  have m1 : Mod (fun _ => False) w w1 := by rw [hw1]; exact ((Mod.refl _ _).alloc _).alloc _
  have x1 : HelloAt w1 (w.heap.size + 1) (hzero 0) := by rw [hw1]; exact hp_new _ _ _ (by simp)
  have b1 : w1.heap[w.heap.size]? = some (.cells #[.slice ad bs.length cap] 27 (0,0)) := by rw [hw1, hp_old _ _ _ (by simp)]; exact hp_new _ _ _ rfl
  have c1 := cell_of_one b1
  have hs1 : w1.heap.size = w.heap.size + 2 := by rw [hw1]; simp
  have hb1 := hb.mod m1 (fun _ _ h => h)
  have o0 : (hzero 0).Ok := hzero_ok (by decide)
  cases bs with
  | nil =>
    replace hw1 := Lib.hid hw1
    clear hc hb hb1 b1 hmf
    simp only [List.length_nil] at hw1 c1 ⊢
    go_enter Tryd.func59, Tryd.ntmps59
    go_upto_region 0 with (fail)
    refine wp_region_lit ?_
    refine wpList_yields (by kernel_rfl) (.pointer (some ⟨w.heap.size, 0, none⟩)) (w.alloc (.cells #[.slice ad 0 cap] 27)) (by go_simp) ?_
    simp only [Act.put, List.setIfInBounds_toArray, List.set_cons_zero, List.set_cons_succ]
    refine wpList_yields (by kernel_rfl) _ _ (alloc_hello _ _ _ rfl) ?_
    simp only [Act.put, List.setIfInBounds_toArray, List.set_cons_zero, List.set_cons_succ]
    rw [show (w.alloc (.cells #[.slice ad 0 cap] 27)).heap.size = w.heap.size + 1 by simp, ← hw1.out]
    refine wpList_reads (by kernel_rfl) (.int .i64 0) (by go_simp) ?_
    simp only [Act.put, List.setIfInBounds_toArray, List.set_cons_zero, List.set_cons_succ]
    refine wpList_reads (by kernel_rfl) (.int .i64 0) (by go_simp) ?_
    simp only [Act.put, List.setIfInBounds_toArray, List.set_cons_zero, List.set_cons_succ]
    obtain ⟨wz, sz, mz, xz⟩ := hello_store o0 (x1) (h' := hzero 0) o0
    have lz := hello_load o0 xz
    have mfz : Mod (fun _ => False) w wz := (m1).trans' mz (fun i hi h => by omega)
    replace mfz := Lib.hid mfz
    clear mz xz
    go_upto_region 2 with (fail)
    refine wp_region_lit ?_
    refine wpList_yields (by kernel_rfl) _ _ (build_none_op _ _ _ rfl) ?_
    simp only [Act.put, List.setIfInBounds_toArray, List.set_cons_zero, List.set_cons_succ]
    refine wpList_store_to rfl _ _ _ rfl _ _ _ rfl rfl _ sz ?_
    simp only [Act.put, List.setIfInBounds_toArray, List.set_cons_zero, List.set_cons_succ]
    refine wpList_reads (by kernel_rfl) (.int .i64 0) (by go_simp) ?_
    simp only [Act.put, List.setIfInBounds_toArray, List.set_cons_zero, List.set_cons_succ]
    refine wpList_reads (by kernel_rfl) (.int .i64 4) (by go_simp) ?_
    simp only [Act.put, List.setIfInBounds_toArray, List.set_cons_zero, List.set_cons_succ]
    go_wp2
    refine bodyPost_ret (v := .tuple #[.agg (helloC (hzero 0)), .int .i64 0, .int .i64 4]) (hget_results rfl _ _ _ _ _ _ rfl rfl rfl lz) rfl ⟨mfz.out, ?_⟩
    rfl
  | cons b r =>
    obtain ⟨g, off, rfl, hgl, h0⟩ := hc 0 (by simp)
    simp only [List.getD_cons_zero, Nat.add_zero] at h0
    obtain ⟨k, hk⟩ : ∃ k, k = b.toNat := ⟨_, rfl⟩
    have hk256 : k < 256 := by rw [hk]; exact b.isLt
    rw [← hk] at h0
    have h01 := cell_mod m1 h0 (fun h => h)
    obtain ⟨bs, hbs⟩ : ∃ bs, bs = b :: r := ⟨_, rfl⟩
    obtain ⟨L, hL⟩ : ∃ L, L = bs.length := ⟨_, rfl⟩
    have hL0 : 0 < L := by rw [hL, hbs]; simp
    have hgv : ∀ e, hget bs = .inl e → hgV bs = .tuple #[.agg (helloC (hzero 0)), .int .i64 0, .int .i64 (e : Int)] := by
      intro e h
      unfold hgV
      rw [h]
    have hgo : ∀ h n, hget bs = .inr (h, n) → hgV bs = .tuple #[.agg (helloC h), .int .i64 (n : Int), .int .i64 0] := by
      intro h n e
      unfold hgV
      rw [e]
    have hgd : hget bs = if k < 1 ∨ 3 < k then .inl 5 else if k = 3 then (if bs.length < 33 then .inl 4 else .inr (⟨k, z32, z4, (bs.drop 1).take 32⟩, 33)) else if bs.length < 33 then .inl 4
        else match lims 4 (bs.drop 33) with
          | .inl e => .inl e
          | .inr (l, m) => if k = 1 then .inr (⟨k, (bs.drop 1).take 32, l, z32⟩, 33 + m) else if bs.length < 33 + m + 32 then .inl 4 else .inr (⟨k, (bs.drop 1).take 32, l, (bs.drop (33 + m)).take 32⟩, 33 + m + 32) := by
      rw [hbs, hk]
      rfl
    rw [← hbs, ← hL] at hw1 b1 c1
    rw [← hbs] at hl hb1
    rw [← hbs, ← hL] at hb
    rw [← hbs, ← hL]
    rw [← hL] at hb1
    rw [← hL] at hl
    have hn : ((L : Int) == 0) = false := by rw [beq_eq_false_iff_ne]; omega
    have hd0 : (0 : Int) < (L : Int) := by omega
    have b0 : (0 : Int) ≤ (k : Int) := by omega
    replace hw1 := Lib.hid hw1
    replace hbs := Lib.hid hbs
    replace hL := Lib.hid hL
    replace hk := Lib.hid hk
    replace hb := Lib.hid hb
    replace hgd := Lib.hid hgd
    replace hgv := Lib.hid hgv
    replace hgo := Lib.hid hgo
    replace b1 := Lib.hid b1
    clear hc
    by_cases kb : k < 1 ∨ 3 < k
    · have e5 := hgv.out 5 (by rw [hgd.out, if_pos kb])
      by_cases k0 : k < 1
      · have hlo : decide ((k : Int) < 1) = true := by rw [decide_eq_true_iff]; omega
        clear kb k0
        clear hmf
        go_enter Tryd.func59, Tryd.ntmps59
        go_upto_region 0 with (fail)
        refine wp_region_lit ?_
        refine wpList_yields (by kernel_rfl) (.pointer (some ⟨w.heap.size, 0, none⟩)) (w.alloc (.cells #[.slice (some ⟨g, off, none⟩) L cap] 27)) (by go_simp) ?_
        simp only [Act.put, List.setIfInBounds_toArray, List.set_cons_zero, List.set_cons_succ]
        refine wpList_yields (by kernel_rfl) _ _ (alloc_hello _ _ _ rfl) ?_
        simp only [Act.put, List.setIfInBounds_toArray, List.set_cons_zero, List.set_cons_succ]
        rw [show (w.alloc (.cells #[.slice (some ⟨g, off, none⟩) L cap] 27)).heap.size = w.heap.size + 1 by simp, ← hw1.out]
        refine wpList_reads (by kernel_rfl) (.int .i64 0) (by go_simp) ?_
        simp only [Act.put, List.setIfInBounds_toArray, List.set_cons_zero, List.set_cons_succ]
        refine wpList_reads (by kernel_rfl) (.int .i64 0) (by go_simp) ?_
        simp only [Act.put, List.setIfInBounds_toArray, List.set_cons_zero, List.set_cons_succ]
        obtain ⟨wz, sz, mz, xz⟩ := hello_store o0 (x1) (h' := hzero 0) o0
        have lz := hello_load o0 xz
        have mfz : Mod (fun _ => False) w wz := (m1).trans' mz (fun i hi h => by omega)
        replace mfz := Lib.hid mfz
        clear mz xz
        go_upto_region 4 with (fail)
        refine wp_region_lit ?_
        refine wpList_yields (by kernel_rfl) _ _ (build_none_op _ _ _ rfl) ?_
        simp only [Act.put, List.setIfInBounds_toArray, List.set_cons_zero, List.set_cons_succ]
        refine wpList_store_to rfl _ _ _ rfl _ _ _ rfl rfl _ sz ?_
        simp only [Act.put, List.setIfInBounds_toArray, List.set_cons_zero, List.set_cons_succ]
        refine wpList_reads (by kernel_rfl) (.int .i64 0) (by go_simp) ?_
        simp only [Act.put, List.setIfInBounds_toArray, List.set_cons_zero, List.set_cons_succ]
        refine wpList_reads (by kernel_rfl) (.int .i64 5) (by go_simp) ?_
        simp only [Act.put, List.setIfInBounds_toArray, List.set_cons_zero, List.set_cons_succ]
        go_wp2
        refine bodyPost_ret (v := .tuple #[.agg (helloC (hzero 0)), .int .i64 0, .int .i64 5]) (hget_results rfl _ _ _ _ _ _ rfl rfl rfl lz) rfl ⟨mfz.out, ?_⟩
        rw [e5]
        rfl
      · have hlo : decide ((k : Int) < 1) = false := by rw [decide_eq_false_iff_not]; omega
        have hhi : decide ((3 : Int) < (k : Int)) = true := by rw [decide_eq_true_iff]; omega
        clear kb k0
        clear hmf
        go_enter Tryd.func59, Tryd.ntmps59
        go_upto_region 0 with (fail)
        refine wp_region_lit ?_
        refine wpList_yields (by kernel_rfl) (.pointer (some ⟨w.heap.size, 0, none⟩)) (w.alloc (.cells #[.slice (some ⟨g, off, none⟩) L cap] 27)) (by go_simp) ?_
        simp only [Act.put, List.setIfInBounds_toArray, List.set_cons_zero, List.set_cons_succ]
        refine wpList_yields (by kernel_rfl) _ _ (alloc_hello _ _ _ rfl) ?_
        simp only [Act.put, List.setIfInBounds_toArray, List.set_cons_zero, List.set_cons_succ]
        rw [show (w.alloc (.cells #[.slice (some ⟨g, off, none⟩) L cap] 27)).heap.size = w.heap.size + 1 by simp, ← hw1.out]
        refine wpList_reads (by kernel_rfl) (.int .i64 0) (by go_simp) ?_
        simp only [Act.put, List.setIfInBounds_toArray, List.set_cons_zero, List.set_cons_succ]
        refine wpList_reads (by kernel_rfl) (.int .i64 0) (by go_simp) ?_
        simp only [Act.put, List.setIfInBounds_toArray, List.set_cons_zero, List.set_cons_succ]
        obtain ⟨wz, sz, mz, xz⟩ := hello_store o0 (x1) (h' := hzero 0) o0
        have lz := hello_load o0 xz
        have mfz : Mod (fun _ => False) w wz := (m1).trans' mz (fun i hi h => by omega)
        replace mfz := Lib.hid mfz
        clear mz xz
        go_upto_region 4 with (fail)
        refine wp_region_lit ?_
        refine wpList_yields (by kernel_rfl) _ _ (build_none_op _ _ _ rfl) ?_
        simp only [Act.put, List.setIfInBounds_toArray, List.set_cons_zero, List.set_cons_succ]
        refine wpList_store_to rfl _ _ _ rfl _ _ _ rfl rfl _ sz ?_
        simp only [Act.put, List.setIfInBounds_toArray, List.set_cons_zero, List.set_cons_succ]
        refine wpList_reads (by kernel_rfl) (.int .i64 0) (by go_simp) ?_
        simp only [Act.put, List.setIfInBounds_toArray, List.set_cons_zero, List.set_cons_succ]
        refine wpList_reads (by kernel_rfl) (.int .i64 5) (by go_simp) ?_
        simp only [Act.put, List.setIfInBounds_toArray, List.set_cons_zero, List.set_cons_succ]
        go_wp2
        refine bodyPost_ret (v := .tuple #[.agg (helloC (hzero 0)), .int .i64 0, .int .i64 5]) (hget_results rfl _ _ _ _ _ _ rfl rfl rfl lz) rfl ⟨mfz.out, ?_⟩
        rw [e5]
        rfl
    · have hlo : decide ((k : Int) < 1) = false := by rw [decide_eq_false_iff_not]; omega
      have hhi : decide ((3 : Int) < (k : Int)) = false := by rw [decide_eq_false_iff_not]; omega
      have hgd2 := hgd.out
      rw [if_neg kb] at hgd2
      obtain ⟨wA, hwA⟩ : ∃ wA, wA = (w1.alloc (.cells (helloC (hzero 0)) 54)).alloc (.cells #[.int .i64 0] 3) := ⟨_, rfl⟩
      have mA : Mod (fun _ => False) w1 wA := by rw [hwA]; exact ((Mod.refl _ _).alloc _).alloc _
      have xA : HelloAt wA (w.heap.size + 2) (hzero 0) := by rw [hwA]; unfold HelloAt; rw [hp_old _ _ _ (by simp [hs1])]; exact hp_new _ _ _ (by rw [hs1])
      have iA : wA.heap[w.heap.size + 3]? = some (.cells #[.int .i64 0] 3 (0,0)) := by rw [hwA]; exact hp_new _ _ _ (by simp [hs1])
      have hszA : (w1.alloc (.cells (helloC (hzero 0)) 54)).heap.size = w.heap.size + 3 := by simp [hs1]
      have ok : (hzero k).Ok := hzero_ok hk256
      obtain ⟨w3, s3, m3, x3⟩ := hello_store o0 xA (h' := hzero k) ok
      have i3 := m3.heap iA (by omega)
      obtain ⟨w4, s4, hw4⟩ : ∃ w4, (storeVar 3 ⟨w.heap.size + 3, 0, none⟩ (.int .i64 1)).run Tryd.prog w3 = .ok () w4 ∧ w4 = w3.setCell ⟨w.heap.size + 3, 0, none⟩ (.int .i64 1) := ⟨_, store_int _ i3, rfl⟩
      have m34 : Mod (fun k => k = w.heap.size + 3) w3 w4 := by rw [hw4]; exact Mod.one_setCell _ _ _ _
      have i4 : w4.heap[w.heap.size + 3]? = some (.cells #[.int .i64 ((1 : Nat) : Int)] 3 (0,0)) := by rw [hw4, one_setCell i3]; rfl
      have m4 : Mod (fun _ => False) w1 w4 := (mA.trans' m3 (fun i hi h => by omega)).trans' m34 (fun i hi h => by omega)
      have xR4 := x1.mod m4 (fun h => h)
      have x4 : HelloAt w4 (w.heap.size + 2) (hzero k) := x3.mod m34 (by omega)
      have b4 := m4.heap b1.out (fun h => h)
      have c4 := cell_of_one b4
      have hb4 := hb1.mod m4 (fun _ _ h => h)
      have m04 := m1.trans m4
      have m4' := m4
      have ck4 := hello_kind ok x4
      have ck4' : w4.cell? ⟨w.heap.size + 2, 0, none⟩ = some (.int .u8 (k : Int)) := ck4
      have hL3 := hL.out
      have lc := load_sliceH c1
      replace hwA := Lib.hid hwA
      replace i4 := Lib.hid i4
      replace b4 := Lib.hid b4
      replace hb4 := Lib.hid hb4
      replace m04 := Lib.hid m04
      replace xR4 := Lib.hid xR4
      replace x4 := Lib.hid x4
      replace hgd2 := Lib.hid hgd2
      replace hL3 := Lib.hid hL3
      replace kb := Lib.hid kb
      replace m4' := Lib.hid m4'
      clear ck4 mA xA iA m3 x3 i3 m34 hw4 m4
      by_cases k3 : k = 3
      · have e3 : ((k : Int) != 3) = false := by rw [bne_eq_false_iff_eq]; omega
        have e1 : ((k : Int) != 1) = true := by rw [bne_iff_ne]; omega
        have hgd3 := hgd2.out
        rw [if_pos k3] at hgd3
        replace hgd3 := Lib.hid hgd3
        replace k3 := Lib.hid k3
        go_enter Tryd.func59, Tryd.ntmps59
        go_upto_region 0 with (fail)
        refine wp_region_lit ?_
        refine wpList_yields (by kernel_rfl) (.pointer (some ⟨w.heap.size, 0, none⟩)) (w.alloc (.cells #[.slice (some ⟨g, off, none⟩) L cap] 27)) (by go_simp) ?_
        simp only [Act.put, List.setIfInBounds_toArray, List.set_cons_zero, List.set_cons_succ]
        refine wpList_yields (by kernel_rfl) _ _ (alloc_hello _ _ _ rfl) ?_
        simp only [Act.put, List.setIfInBounds_toArray, List.set_cons_zero, List.set_cons_succ]
        rw [show (w.alloc (.cells #[.slice (some ⟨g, off, none⟩) L cap] 27)).heap.size = w.heap.size + 1 by simp, ← hw1.out]
        refine wpList_reads (by kernel_rfl) (.int .i64 0) (by go_simp) ?_
        simp only [Act.put, List.setIfInBounds_toArray, List.set_cons_zero, List.set_cons_succ]
        refine wpList_reads (by kernel_rfl) (.int .i64 0) (by go_simp) ?_
        simp only [Act.put, List.setIfInBounds_toArray, List.set_cons_zero, List.set_cons_succ]
        go_upto_region 5 with (fail)
        refine wp_region_lit ?_
        refine wpList_reads (by kernel_rfl) (.slice (some ⟨g, off, none⟩) L cap) (run_load_op rfl rfl lc) ?_
        simp only [Act.put, List.setIfInBounds_toArray, List.set_cons_zero, List.set_cons_succ]
        refine wpList_reads (by kernel_rfl) (.pointer (some ⟨g, off, none⟩)) (by go_simp) ?_
        simp only [Act.put, List.setIfInBounds_toArray, List.set_cons_zero, List.set_cons_succ]
        refine wpList_reads (by kernel_rfl) (.int .u8 (k : Int)) (by go_simp) ?_
        simp only [Act.put, List.setIfInBounds_toArray, List.set_cons_zero, List.set_cons_succ]
        refine wpList_yields (by kernel_rfl) _ _ (build_hello_op k _ _ _ _ rfl rfl) ?_
        simp only [Act.put, List.setIfInBounds_toArray, List.set_cons_zero, List.set_cons_succ]
        refine wpList_yields (by kernel_rfl) _ _ (alloc_hello _ _ _ rfl) ?_
        simp only [Act.put, List.setIfInBounds_toArray, List.set_cons_zero, List.set_cons_succ]
        rw [hs1]
        refine wpList_yields (by kernel_rfl) _ _ (alloc_int _ _ _ rfl) ?_
        simp only [Act.put, List.setIfInBounds_toArray, List.set_cons_zero, List.set_cons_succ]
        rw [hszA, ← hwA.out]
        refine wpList_store_to rfl _ _ _ rfl _ _ _ rfl rfl _ s3 ?_
        simp only [Act.put, List.setIfInBounds_toArray, List.set_cons_zero, List.set_cons_succ]
        refine wpList_store_to rfl _ _ _ rfl _ _ _ rfl rfl _ s4 ?_
        simp only [Act.put, List.setIfInBounds_toArray, List.set_cons_zero, List.set_cons_succ]
        go_wp2_with fail
        refine (whole_any (w.heap.size + 2) w.heap.size (w.heap.size + 3) 37 1 (.int .u8 (k : Int) :: (bytesV z32 ++ nums .u64 z4)) [] z32 bs _ _ w4 (by simp [z32]) (by simp [z32, z4, bytesV_length, nums_length]) (hello_row_p ok x4.out) c4 hb4.out i4.out (by omega) (by omega) (by rw [← hL.out]; omega) (by rw [← hL.out]; omega)).mono ?_
        rintro e w5 ⟨m5, h5⟩
        have xR5 := xR4.out.mod m5 (by omega)
        have m05 := m04.out.trans' m5 (fun i hi h => by omega)
        rw [← hL.out] at h5
        by_cases h33 : L < 33
        · rw [if_neg (by omega)] at h5
          subst h5
          have e4 := hgv.out 4 (by rw [hgd3.out, if_pos (by rw [← hL.out]; exact h33)])
          obtain ⟨wz, sz, mz, xz⟩ := hello_store o0 (xR5) (h' := hzero 0) o0
          have lz := hello_load o0 xz
          have mfz : Mod (fun _ => False) w wz := (m05).trans' mz (fun i hi h => by omega)
          replace mfz := Lib.hid mfz
          clear mz xz
          go_upto_region 22 with (fail)
          refine wp_region_lit ?_
          refine wpList_yields (by kernel_rfl) _ _ (build_none_op _ _ _ rfl) ?_
          simp only [Act.put, List.setIfInBounds_toArray, List.set_cons_zero, List.set_cons_succ]
          refine wpList_store_to rfl _ _ _ rfl _ _ _ rfl rfl _ sz ?_
          simp only [Act.put, List.setIfInBounds_toArray, List.set_cons_zero, List.set_cons_succ]
          refine wpList_reads (by kernel_rfl) (.int .i64 0) (by go_simp) ?_
          simp only [Act.put, List.setIfInBounds_toArray, List.set_cons_zero, List.set_cons_succ]
          refine wpList_reads (by kernel_rfl) (.int .i64 4) (by go_simp) ?_
          simp only [Act.put, List.setIfInBounds_toArray, List.set_cons_zero, List.set_cons_succ]
          go_wp2
          refine bodyPost_ret (v := .tuple #[.agg (helloC (hzero 0)), .int .i64 0, .int .i64 4]) (hget_results rfl _ _ _ _ _ _ rfl rfl rfl lz) rfl ⟨mfz.out, ?_⟩
          rw [e4]
          rfl
        · rw [if_pos (by omega)] at h5
          obtain ⟨rfl, i5, r5⟩ := h5
          have x5 := hello_of_p r5
          have l5 : ((bs.drop 1).take 32).length = 32 := by rw [List.length_take, List.length_drop, ← hL.out]; omega
          obtain ⟨wF, hwF⟩ : ∃ wF, wF = w5 := ⟨_, rfl⟩
          have xRF : HelloAt wF (w.heap.size + 1) (hzero 0) := by rw [hwF]; exact xR5
          have xHF : HelloAt wF (w.heap.size + 2) (⟨k, z32, z4, (bs.drop 1).take 32⟩ : HD) := by rw [hwF]; exact x5
          have iF : wF.heap[w.heap.size + 3]? = some (.cells #[.int .i64 ((1 + 32 : Nat) : Int)] 3 (0,0)) := by rw [hwF]; exact i5
          have mF : Mod (fun _ => False) w wF := by rw [hwF]; exact m05
          have okF : HD.Ok (⟨k, z32, z4, (bs.drop 1).take 32⟩ : HD) := ⟨hk256, ok.a, rfl, by simp [z4], l5⟩
          have hgF : hgV bs = .tuple #[.agg (helloC (⟨k, z32, z4, (bs.drop 1).take 32⟩ : HD)), .int .i64 ((1 + 32 : Nat) : Int), .int .i64 0] := hgo.out _ _ (by rw [hgd3.out, if_neg (by rw [← hL.out]; exact h33)])
          obtain ⟨hF, hhF⟩ : ∃ hF, hF = (⟨k, z32, z4, (bs.drop 1).take 32⟩ : HD) := ⟨_, rfl⟩
          rw [← hhF] at xHF okF hgF
          obtain ⟨N, hN⟩ : ∃ N, N = 1 + 32 := ⟨_, rfl⟩
          rw [← hN] at iF hgF
          have cF := cell_of_one iF
          have xRd : HelloAt wF.drew (w.heap.size + 1) (hzero 0) := xRF
          have xHd : HelloAt wF.drew (w.heap.size + 2) hF := xHF
          have cFd : wF.drew.cell? ⟨w.heap.size + 3, 0, none⟩ = some (.int .i64 (N : Int)) := cF
          obtain ⟨wz, sz, mz, xz⟩ := hello_store o0 xRd (h' := hF) okF
          have hSd : HelloAt wF.drew (w.heap.size + 2) hF ∧ wF.drew.cell? ⟨w.heap.size + 3, 0, none⟩ = some (.int .i64 (N : Int)) := ⟨xHd, cFd⟩
          have hSz : HelloAt wz (w.heap.size + 2) hF ∧ wz.cell? ⟨w.heap.size + 3, 0, none⟩ = some (.int .i64 (N : Int)) := ⟨xHd.mod mz (by omega), cell_mod mz cFd (by omega)⟩
          have lz := hello_load okF xz
          have mfz : Mod (fun _ => False) w wz := mF.drew.trans' mz (fun i hi h => by omega)
          replace hwF := Lib.hid hwF
          replace hhF := Lib.hid hhF
          replace hN := Lib.hid hN
          replace hgF := Lib.hid hgF
          replace mfz := Lib.hid mfz
          replace hSd := Lib.hid hSd
          replace hSz := Lib.hid hSz
          clear mz xz xRF xHF iF mF cF xRd xHd cFd
          go_upto_region 23 with (fail)
          rw [← hwF.out]
          refine wp_region_any (by kernel_rfl) (any_of_Z (S := fun w' => HelloAt w' (w.heap.size + 2) hF ∧ w'.cell? ⟨w.heap.size + 3, 0, none⟩ = some (.int .i64 (N : Int))) (z := 99) _ _ _ _ ?_)
          simp only [List.size_toArray, List.length_cons, List.length_nil, Nat.reduceAdd, Array.replicate_succ, Array.replicate_zero, List.push_toArray, List.nil_append, List.cons_append]
          refine anyZ_take 0 _ (some 87) (.agg (helloC hF)) rfl (by kernel_rfl) (by kernel_rfl) (by kernel_rfl) (by kernel_rfl) (by kernel_rfl) (by decide) rfl (fun w' hS => ?_) hSd.out ?_
          · exact run_load_op rfl rfl (hello_load okF hS.1)
          simp only [Act.put, List.setIfInBounds_toArray, List.set_cons_zero, List.set_cons_succ]
          refine anyZ_take 1 _ (some 88) (.int .i64 (N : Int)) rfl (by kernel_rfl) (by kernel_rfl) (by kernel_rfl) (by kernel_rfl) (by kernel_rfl) (by decide) rfl (fun w' hS => ?_) hSd.out ?_
          · exact run_load_op rfl rfl (load_int hS.2)
          simp only [Act.put, List.setIfInBounds_toArray, List.set_cons_zero, List.set_cons_succ]
          refine anyZ_skip 2 _ rfl (by kernel_rfl) (by kernel_rfl) rfl (wz) ?_ (fun _ => hSz.out) ?_
          · exact run_store_op rfl rfl rfl sz
          simp only [Act.put, List.setIfInBounds_toArray, List.set_cons_zero, List.set_cons_succ]
          refine anyZ_take 3 _ (some 3) (.int .i64 (N : Int)) rfl (by kernel_rfl) (by kernel_rfl) (by kernel_rfl) (by kernel_rfl) (by kernel_rfl) (by decide) rfl (fun w' hS => ?_) hSz.out ?_
          · go_simp
          simp only [Act.put, List.setIfInBounds_toArray, List.set_cons_zero, List.set_cons_succ]
          refine anyZ_take 4 _ (some 4) (.int .i64 0) rfl (by kernel_rfl) (by kernel_rfl) (by kernel_rfl) (by kernel_rfl) (by kernel_rfl) (by decide) rfl (fun w' hS => ?_) hSz.out ?_
          · go_simp
          simp only [Act.put, List.setIfInBounds_toArray, List.set_cons_zero, List.set_cons_succ]
          refine anyZ_done (by kernel_rfl) ?_ _
          go_wp2
          exact bodyPost_ret (v := .tuple #[.agg (helloC hF), .int .i64 (N : Int), .int .i64 0]) (hget_results rfl _ _ _ _ _ _ rfl rfl rfl lz) rfl ⟨mfz.out, by rw [hgF.out]⟩
      · have e3 : ((k : Int) != 3) = true := by rw [bne_iff_ne]; omega
        have hgd3 := hgd2.out
        rw [if_neg k3] at hgd3
        replace hgd3 := Lib.hid hgd3
        replace k3 := Lib.hid k3
        go_enter Tryd.func59, Tryd.ntmps59
        go_upto_region 0 with (fail)
        refine wp_region_lit ?_
        refine wpList_yields (by kernel_rfl) (.pointer (some ⟨w.heap.size, 0, none⟩)) (w.alloc (.cells #[.slice (some ⟨g, off, none⟩) L cap] 27)) (by go_simp) ?_
        simp only [Act.put, List.setIfInBounds_toArray, List.set_cons_zero, List.set_cons_succ]
        refine wpList_yields (by kernel_rfl) _ _ (alloc_hello _ _ _ rfl) ?_
        simp only [Act.put, List.setIfInBounds_toArray, List.set_cons_zero, List.set_cons_succ]
        rw [show (w.alloc (.cells #[.slice (some ⟨g, off, none⟩) L cap] 27)).heap.size = w.heap.size + 1 by simp, ← hw1.out]
        refine wpList_reads (by kernel_rfl) (.int .i64 0) (by go_simp) ?_
        simp only [Act.put, List.setIfInBounds_toArray, List.set_cons_zero, List.set_cons_succ]
        refine wpList_reads (by kernel_rfl) (.int .i64 0) (by go_simp) ?_
        simp only [Act.put, List.setIfInBounds_toArray, List.set_cons_zero, List.set_cons_succ]
        go_upto_region 5 with (fail)
        refine wp_region_lit ?_
        refine wpList_reads (by kernel_rfl) (.slice (some ⟨g, off, none⟩) L cap) (run_load_op rfl rfl lc) ?_
        simp only [Act.put, List.setIfInBounds_toArray, List.set_cons_zero, List.set_cons_succ]
        refine wpList_reads (by kernel_rfl) (.pointer (some ⟨g, off, none⟩)) (by go_simp) ?_
        simp only [Act.put, List.setIfInBounds_toArray, List.set_cons_zero, List.set_cons_succ]
        refine wpList_reads (by kernel_rfl) (.int .u8 (k : Int)) (by go_simp) ?_
        simp only [Act.put, List.setIfInBounds_toArray, List.set_cons_zero, List.set_cons_succ]
        refine wpList_yields (by kernel_rfl) _ _ (build_hello_op k _ _ _ _ rfl rfl) ?_
        simp only [Act.put, List.setIfInBounds_toArray, List.set_cons_zero, List.set_cons_succ]
        refine wpList_yields (by kernel_rfl) _ _ (alloc_hello _ _ _ rfl) ?_
        simp only [Act.put, List.setIfInBounds_toArray, List.set_cons_zero, List.set_cons_succ]
        rw [hs1]
        refine wpList_yields (by kernel_rfl) _ _ (alloc_int _ _ _ rfl) ?_
        simp only [Act.put, List.setIfInBounds_toArray, List.set_cons_zero, List.set_cons_succ]
        rw [hszA, ← hwA.out]
        refine wpList_store_to rfl _ _ _ rfl _ _ _ rfl rfl _ s3 ?_
        simp only [Act.put, List.setIfInBounds_toArray, List.set_cons_zero, List.set_cons_succ]
        refine wpList_store_to rfl _ _ _ rfl _ _ _ rfl rfl _ s4 ?_
        simp only [Act.put, List.setIfInBounds_toArray, List.set_cons_zero, List.set_cons_succ]
        go_wp2_with fail
        refine (whole_any (w.heap.size + 2) w.heap.size (w.heap.size + 3) 1 1 [.int .u8 (k : Int)] (nums .u64 z4 ++ bytesV z32) z32 bs _ _ w4 (by simp [z32]) rfl (hello_row ok x4.out) c4 hb4.out i4.out (by omega) (by omega) (by rw [← hL.out]; omega) (by rw [← hL.out]; omega)).mono ?_
        rintro e w5 ⟨m5, h5⟩
        have xR5 := xR4.out.mod m5 (by omega)
        have m05 := m04.out.trans' m5 (fun i hi h => by omega)
        rw [← hL.out] at h5
        by_cases h33 : L < 33
        · rw [if_neg (by omega)] at h5
          subst h5
          have e4 := hgv.out 4 (by rw [hgd3.out, if_pos (by rw [← hL.out]; exact h33)])
          obtain ⟨wz, sz, mz, xz⟩ := hello_store o0 (xR5) (h' := hzero 0) o0
          have lz := hello_load o0 xz
          have mfz : Mod (fun _ => False) w wz := (m05).trans' mz (fun i hi h => by omega)
          replace mfz := Lib.hid mfz
          clear mz xz
          go_upto_region 9 with (fail)
          refine wp_region_lit ?_
          refine wpList_yields (by kernel_rfl) _ _ (build_none_op _ _ _ rfl) ?_
          simp only [Act.put, List.setIfInBounds_toArray, List.set_cons_zero, List.set_cons_succ]
          refine wpList_store_to rfl _ _ _ rfl _ _ _ rfl rfl _ sz ?_
          simp only [Act.put, List.setIfInBounds_toArray, List.set_cons_zero, List.set_cons_succ]
          refine wpList_reads (by kernel_rfl) (.int .i64 0) (by go_simp) ?_
          simp only [Act.put, List.setIfInBounds_toArray, List.set_cons_zero, List.set_cons_succ]
          refine wpList_reads (by kernel_rfl) (.int .i64 4) (by go_simp) ?_
          simp only [Act.put, List.setIfInBounds_toArray, List.set_cons_zero, List.set_cons_succ]
          go_wp2
          refine bodyPost_ret (v := .tuple #[.agg (helloC (hzero 0)), .int .i64 0, .int .i64 4]) (hget_results rfl _ _ _ _ _ _ rfl rfl rfl lz) rfl ⟨mfz.out, ?_⟩
          rw [e4]
          rfl
        · rw [if_pos (by omega)] at h5
          obtain ⟨rfl, i5, r5⟩ := h5
          have hgd4 := hgd3.out
          rw [if_neg (by rw [← hL.out]; exact h33)] at hgd4
          obtain ⟨a, ha⟩ : ∃ a, a = (bs.drop 1).take 32 := ⟨_, rfl⟩
          have la : a.length = 32 := by rw [ha, List.length_take, List.length_drop, ← hL.out]; omega
          rw [← ha] at r5 hgd4
          have x5 : HelloAt w5 (w.heap.size + 2) ⟨k, a, z4, z32⟩ := hello_of_a r5
          have b5 := m5.heap b4.out (by omega)
          have hb5 := hb1.mod (m4'.out.trans' m5 (fun i hi h => by omega)) (fun _ _ h => h)
          have hsz5 := m5.size
          have hsz4 : w.heap.size + 4 ≤ w4.heap.size := by have := lt_of_heap i4.out; omega
          have oks : ∀ l : List Nat, l.length = 4 → (∀ x ∈ l, x < 4611686018427387904) → HD.Ok ⟨k, a, l, z32⟩ := fun l h1 h2 => ⟨hk256, la, h1, fun x hx => Nat.lt_trans (h2 x hx) (by decide), by simp [z32]⟩
          have hrel0 := LimRel.start (bs := bs) (by rw [← hL.out]; omega)
          replace hrel0 := Lib.hid hrel0
          replace ha := Lib.hid ha
          replace la := Lib.hid la
          replace hgd4 := Lib.hid hgd4
          replace x5 := Lib.hid x5
          replace b5 := Lib.hid b5
          replace hb5 := Lib.hid hb5
          replace i5 := Lib.hid i5
          replace xR5 := Lib.hid xR5
          replace m05 := Lib.hid m05
          replace oks := Lib.hid oks
          replace h33 := Lib.hid h33
          clear r5 m5
          go_wp2
          go_loopw [44] (fun nv wr => ∃ i l A, i ≤ 4 ∧ nv = .int .i64 ((i : Nat) : Int) ∧ LimRel bs i l A ∧ Mod (fun k => k = w.heap.size + 2 ∨ k = w.heap.size + 3) w5 wr ∧ HelloAt wr (w.heap.size + 2) ⟨k, a, l ++ List.replicate (4 - i) 0, z32⟩ ∧ wr.heap[w.heap.size + 3]? = some (.cells #[.int .i64 ((A : Nat) : Int)] 3 (0,0))) (fun nv _ => 4 - (intOf nv).toNat)
          case atStart => exact ⟨0, [], 33, by omega, rfl, hrel0.out, Mod.refl _ _, x5.out, i5.out⟩
          case round =>
            obtain ⟨i, l, A, hi, rfl, hrl, mr, xr, ir⟩ := hrel
            have bi0 : (0 : Int) ≤ (i : Int) := by omega
            have bi4 : (i : Int) ≤ 4 := by omega
            have m0r : Mod (fun _ => False) w wr := m05.out.trans' mr (fun i hi h => by omega)
            have xRr := xR5.out.mod mr (by omega)
            have br := mr.heap b5.out (by omega)
            have cr := cell_of_one br
            have hbr := hb.out.mod m0r (fun _ _ h => h)
            have cir := cell_of_one ir
            have lr := hrl.1
            have A33 := hrl.2.1
            have AL := hrl.2.2.1
            rw [← hL.out] at AL
            have okr : HD.Ok ⟨k, a, l ++ List.replicate (4 - i) 0, z32⟩ := oks.out _ (by simp [lr]; omega) (fun x hx => by
              rcases List.mem_append.1 hx with hx | hx
              · exact hrl.2.2.2.1 x hx
              · rw [(List.mem_replicate.1 hx).2]; decide)
            have ckr := hello_kind okr xr
            have ckr' : wr.cell? ⟨w.heap.size + 2, 0, none⟩ = some (.int .u8 (k : Int)) := ckr
            clear ckr
            by_cases hlt : i < 4
            · have hd4 : decide ((i : Int) < 4) = true := by rw [decide_eq_true_iff]; omega
              obtain ⟨v2, hb2, hcut⟩ := hbr.cutFrom A AL
              replace hrl := Lib.hid hrl
              replace mr := Lib.hid mr
              replace xr := Lib.hid xr
              replace ir := Lib.hid ir
              replace m0r := Lib.hid m0r
              replace xRr := Lib.hid xRr
              replace br := Lib.hid br
              replace hbr := Lib.hid hbr
              replace okr := Lib.hid okr
              replace lr := Lib.hid lr
              replace A33 := Lib.hid A33
              have ALi : (A : Int) ≤ (L : Int) := by omega
              have bA : (A : Int) ≤ 4611686018427387904 := by omega
              have A0 : (0 : Int) ≤ (A : Int) := by omega
              replace AL := Lib.hid AL
              replace hi := Lib.hid hi
              replace hlt := Lib.hid hlt
              go_wp2_with fail
              refine (vget_any v2 (bs.drop A) wr hb2 (by rw [List.length_drop, ← hL.out]; omega)).mono ?_
              rintro e w6 ⟨m6, rfl⟩
              have xR6 := xRr.out.mod m6 (fun h => h)
              have x6 := xr.out.mod m6 (fun h => h)
              have i6 := m6.heap ir.out (fun h => h)
              have m06 := m0r.out.trans m6
              cases hv : vget (bs.drop A) with
              | none =>
                rw [show vgV (bs.drop A) = .tuple #[.int .u64 0, .int .i64 0, .int .i64 4] by unfold vgV; rw [hv]]
                have e4 := hgv.out 4 (by rw [hgd4.out, LimRel.none hrl.out hlt.out hv])
                clear hcut
                obtain ⟨wz, sz, mz, xz⟩ := hello_store o0 (xR6) (h' := hzero 0) o0
                have lz := hello_load o0 xz
                have mfz : Mod (fun _ => False) w wz := (m06).trans' mz (fun i hi h => by omega)
                replace mfz := Lib.hid mfz
                clear mz xz
                go_upto_region 15 with (fail)
                refine wp_region_lit ?_
                refine wpList_yields (by kernel_rfl) _ _ (build_none_op _ _ _ rfl) ?_
                simp only [Act.put, List.setIfInBounds_toArray, List.set_cons_zero, List.set_cons_succ]
                refine wpList_reads (by kernel_rfl) (.int .i64 4) (by go_simp) ?_
                simp only [Act.put, List.setIfInBounds_toArray, List.set_cons_zero, List.set_cons_succ]
                refine wpList_store_to rfl _ _ _ rfl _ _ _ rfl rfl _ sz ?_
                simp only [Act.put, List.setIfInBounds_toArray, List.set_cons_zero, List.set_cons_succ]
                refine wpList_reads (by kernel_rfl) (.int .i64 0) (by go_simp) ?_
                simp only [Act.put, List.setIfInBounds_toArray, List.set_cons_zero, List.set_cons_succ]
                refine wpList_reads (by kernel_rfl) (.int .i64 4) (by go_simp) ?_
                simp only [Act.put, List.setIfInBounds_toArray, List.set_cons_zero, List.set_cons_succ]
                go_wp2
                refine bodyPost_ret (v := .tuple #[.agg (helloC (hzero 0)), .int .i64 0, .int .i64 4]) (hget_results rfl _ _ _ _ _ _ rfl rfl rfl lz) rfl ⟨mfz.out, ?_⟩
                rw [e4]
                rfl
              | some p =>
                obtain ⟨x, q⟩ := p
                rw [show vgV (bs.drop A) = .tuple #[.int .u64 (x : Int), .int .i64 (q : Int), .int .i64 0] by unfold vgV; rw [hv]]
                have hx := vget_len hv
                rw [List.length_drop, ← hL.out] at hx
                obtain ⟨hx1, hx2, hx3, hx62⟩ := hx
                clear hcut
                replace hv := Lib.hid hv
                replace i6 := Lib.hid i6
                replace x6 := Lib.hid x6
                replace xR6 := Lib.hid xR6
                replace m06 := Lib.hid m06
                have bq : (q : Int) ≤ 8 := by omega
                have bq0 : (0 : Int) ≤ (q : Int) := by omega
                have hAq : (A : Int) + (q : Int) ≤ (L : Int) := by have := AL.out; omega
                replace hx1 := Lib.hid hx1
                replace hx2 := Lib.hid hx2
                replace hx3 := Lib.hid hx3
                go_wp2_with fail
                refine (vput_any x w6 (Nat.lt_trans hx62 (by decide))).mono ?_
                rintro e w7 ⟨m7, h7⟩
                rw [if_pos hx62] at h7
                obtain ⟨v7, rfl, own7⟩ := h7
                obtain ⟨d7, c7, hv7, _⟩ := (byteAt_of_own own7).slice
                rw [vput_length] at hv7
                subst hv7
                have xR7 := xR6.out.mod m7 (fun h => h)
                have x7 := x6.out.mod m7 (fun h => h)
                have i7 := m7.heap i6.out (fun h => h)
                have m07 := m06.out.trans m7
                clear own7
                obtain ⟨z, hz⟩ : ∃ z, z = vsz x := ⟨_, rfl⟩
                rw [← hz]
                by_cases hzq : z = q
                · have ez : ((z : Int) != (q : Int)) = false := by rw [bne_eq_false_iff_eq]; omega
                  obtain ⟨w7d, hw7d⟩ : ∃ w7d, w7d = w7.drew := ⟨_, rfl⟩
                  have md7 : Mod (fun _ => False) w7 w7d := by rw [hw7d]; exact (Mod.refl _ _).drew
                  have x7d := x7.mod md7 (fun h => h)
                  have i7d := md7.heap i7 (fun h => h)
                  have s8 := hello_store_li okr.out x7d i x hlt.out
                  obtain ⟨x8, m8⟩ := hello_set_l okr.out x7d i x hlt.out
                  simp only at x8
                  rw [set_next l i x lr.out hlt.out] at x8
                  obtain ⟨w8, hw8⟩ : ∃ w8, w8 = w7d.setCell ⟨w.heap.size + 2, 33 + i, none⟩ (.int .u64 (x : Int)) := ⟨_, rfl⟩
                  rw [← hw8] at s8 x8 m8
                  have i8 := m8.heap i7d (by omega)
                  obtain ⟨w9, s9, hw9⟩ : ∃ w9, (storeVar 3 ⟨w.heap.size + 3, 0, none⟩ (.int .i64 ((A : Int) + (q : Int)))).run Tryd.prog w8 = .ok () w9 ∧ w9 = w8.setCell ⟨w.heap.size + 3, 0, none⟩ (.int .i64 ((A : Int) + (q : Int))) := ⟨_, store_int _ i8, rfl⟩
                  have m9 : Mod (fun k => k = w.heap.size + 3) w8 w9 := by rw [hw9]; exact Mod.one_setCell _ _ _ _
                  have i9 : w9.heap[w.heap.size + 3]? = some (.cells #[.int .i64 (((A + q : Nat)) : Int)] 3 (0,0)) := by rw [hw9, one_setCell i8]; rfl
                  have x9 := x8.mod m9 (by omega)
                  have mr9 : Mod (fun k => k = w.heap.size + 2 ∨ k = w.heap.size + 3) w5 w9 := ((((mr.out.trans' m6 (fun _ _ h => h.elim)).trans' m7 (fun _ _ h => h.elim)).trans' md7 (fun _ _ h => h.elim)).trans' m8 (fun _ _ h => .inl h)).trans' m9 (fun _ _ h => .inr h)
                  have ci7d := cell_of_one i7d
                  have ci8 := cell_of_one i8
                  have ci9 := cell_of_one i9
                  have hS7 : w7d.cell? ⟨w.heap.size + 3, 0, none⟩ = some (.int .i64 (A : Int)) := ci7d
                  have hS8 : w8.cell? ⟨w.heap.size + 3, 0, none⟩ = some (.int .i64 (A : Int)) := ci8
                  have hrn := LimRel.step hrl.out hlt.out hv.out (by rw [← hz]; exact hzq)
                  replace hrn := Lib.hid hrn
                  replace mr9 := Lib.hid mr9
                  replace x9 := Lib.hid x9
                  replace i9 := Lib.hid i9
                  replace hw7d := Lib.hid hw7d
                  replace hw8 := Lib.hid hw8
                  replace hw9 := Lib.hid hw9
                  replace hz := Lib.hid hz
                  replace hzq := Lib.hid hzq
                  replace hS7 := Lib.hid hS7
                  replace hS8 := Lib.hid hS8
                  clear xR7 x7 i7 m07 md7 x7d i7d x8 m8 i8 m9 ci7d ci8 ci9
                  go_upto_region 19 with (fail)
                  refine wp_region_any (by kernel_rfl) (any_of_Z (S := fun w' => w'.cell? ⟨w.heap.size + 3, 0, none⟩ = some (.int .i64 (A : Int))) (z := 8) _ _ _ _ ?_)
                  simp only [List.size_toArray, List.length_cons, List.length_nil, Nat.reduceAdd, Array.replicate_succ, Array.replicate_zero, List.push_toArray, List.nil_append, List.cons_append]
                  change anyZ _ _ _ _ _ _ _ _ _ w7.drew
                  rw [← hw7d.out]
                  refine anyZ_take 0 _ (some 69) (.int .i64 (i : Int)) rfl (by kernel_rfl) (by kernel_rfl) (by kernel_rfl) (by kernel_rfl) (by kernel_rfl) (by decide) rfl (fun w' hS => ?_) hS7.out ?_
                  · go_simp
                  simp only [Act.put, List.setIfInBounds_toArray, List.set_cons_zero, List.set_cons_succ]
                  refine anyZ_take 1 _ (some 70) (.int .u64 (x : Int)) rfl (by kernel_rfl) (by kernel_rfl) (by kernel_rfl) (by kernel_rfl) (by kernel_rfl) (by decide) rfl (fun w' hS => ?_) hS7.out ?_
                  · go_simp
                  simp only [Act.put, List.setIfInBounds_toArray, List.set_cons_zero, List.set_cons_succ]
                  refine anyZ_take 2 _ (some 71) (.int .i64 (A : Int)) rfl (by kernel_rfl) (by kernel_rfl) (by kernel_rfl) (by kernel_rfl) (by kernel_rfl) (by decide) rfl (fun w' hS => ?_) hS7.out ?_
                  · exact run_load_op rfl rfl (load_int hS)
                  simp only [Act.put, List.setIfInBounds_toArray, List.set_cons_zero, List.set_cons_succ]
                  refine anyZ_take 3 _ (some 72) (.int .i64 (q : Int)) rfl (by kernel_rfl) (by kernel_rfl) (by kernel_rfl) (by kernel_rfl) (by kernel_rfl) (by decide) rfl (fun w' hS => ?_) hS7.out ?_
                  · go_simp
                  simp only [Act.put, List.setIfInBounds_toArray, List.set_cons_zero, List.set_cons_succ]
                  refine anyZ_take 4 _ (some 73) (.int .i64 ((A : Int) + (q : Int))) rfl (by kernel_rfl) (by kernel_rfl) (by kernel_rfl) (by kernel_rfl) (by kernel_rfl) (by decide) rfl (fun w' hS => ?_) hS7.out ?_
                  · have hwr : IntKind.i64.wrap ((A : Int) + (q : Int)) = (A : Int) + (q : Int) := by rw [IntKind.wrap_i64]; omega
                    go_simp
                  simp only [Act.put, List.setIfInBounds_toArray, List.set_cons_zero, List.set_cons_succ]
                  refine anyZ_take 5 _ (some 74) (.pointer (some ⟨w.heap.size + 2, 33, none⟩)) rfl (by kernel_rfl) (by kernel_rfl) (by kernel_rfl) (by kernel_rfl) (by kernel_rfl) (by decide) rfl (fun w' hS => ?_) hS7.out ?_
                  · go_simp
                  simp only [Act.put, List.setIfInBounds_toArray, List.set_cons_zero, List.set_cons_succ]
                  refine anyZ_take 6 _ (some 75) (.pointer (some ⟨w.heap.size + 2, 33 + i, none⟩)) rfl (by kernel_rfl) (by kernel_rfl) (by kernel_rfl) (by kernel_rfl) (by kernel_rfl) (by decide) rfl (fun w' hS => ?_) hS7.out ?_
                  · have hi4 := of_decide_eq_true hd4; go_simp
                  simp only [Act.put, List.setIfInBounds_toArray, List.set_cons_zero, List.set_cons_succ]
                  refine anyZ_skip 7 _ rfl (by kernel_rfl) (by kernel_rfl) rfl (w8) ?_ (fun _ => hS8.out) ?_
                  · exact run_store_op rfl rfl rfl s8
                  simp only [Act.put, List.setIfInBounds_toArray, List.set_cons_zero, List.set_cons_succ]
                  refine anyZ_skip 8 _ rfl (by kernel_rfl) (by kernel_rfl) rfl w9 ?_ (fun h => absurd rfl h) ?_
                  · exact run_store_op rfl rfl rfl s9
                  simp only [Act.put, List.setIfInBounds_toArray, List.set_cons_zero, List.set_cons_succ]
                  refine anyZ_done (by kernel_rfl) ?_ _
                  go_wp2
                  go_roundw
                  case measure => have := hlt.out; simp [intOf]; omega
                  case rel =>
                    exact ⟨i + 1, l ++ [x], A + q, hlt.out, by go_num, hrn.out, mr9.out, x9.out, i9.out⟩
                · have ez : ((z : Int) != (q : Int)) = true := by rw [bne_iff_ne]; omega
                  have e5 := hgv.out 5 (by rw [hgd4.out, LimRel.bad hrl.out hlt.out hv.out (by rw [← hz]; exact hzq)])
                  replace hz := Lib.hid hz
                  replace hzq := Lib.hid hzq
                  obtain ⟨wz, sz, mz, xz⟩ := hello_store o0 (xR7) (h' := hzero 0) o0
                  have lz := hello_load o0 xz
                  have mfz : Mod (fun _ => False) w wz := (m07).trans' mz (fun i hi h => by omega)
                  replace mfz := Lib.hid mfz
                  clear mz xz
                  go_upto_region 18 with (fail)
                  refine wp_region_lit ?_
                  refine wpList_yields (by kernel_rfl) _ _ (build_none_op _ _ _ rfl) ?_
                  simp only [Act.put, List.setIfInBounds_toArray, List.set_cons_zero, List.set_cons_succ]
                  refine wpList_store_to rfl _ _ _ rfl _ _ _ rfl rfl _ sz ?_
                  simp only [Act.put, List.setIfInBounds_toArray, List.set_cons_zero, List.set_cons_succ]
                  refine wpList_reads (by kernel_rfl) (.int .i64 0) (by go_simp) ?_
                  simp only [Act.put, List.setIfInBounds_toArray, List.set_cons_zero, List.set_cons_succ]
                  refine wpList_reads (by kernel_rfl) (.int .i64 5) (by go_simp) ?_
                  simp only [Act.put, List.setIfInBounds_toArray, List.set_cons_zero, List.set_cons_succ]
                  go_wp2
                  refine bodyPost_ret (v := .tuple #[.agg (helloC (hzero 0)), .int .i64 0, .int .i64 5]) (hget_results rfl _ _ _ _ _ _ rfl rfl rfl lz) rfl ⟨mfz.out, ?_⟩
                  rw [e5]
                  rfl
            · obtain rfl : i = 4 := by omega
              have hd4 : decide (((4 : Nat) : Int) < 4) = false := by decide
              have hdone := hrl.done
              rw [Nat.sub_self, List.replicate_zero, List.append_nil] at xr okr
              have hgd5 := hgd4.out
              rw [hdone] at hgd5
              simp only at hgd5
              rw [show 33 + (A - 33) = A by omega] at hgd5
              have ALb : A ≤ bs.length := by rw [← hL.out]; exact AL
              have hl62 := hrl.2.2.2.1
              have lr4 : l.length = 4 := lr
              replace hgd5 := Lib.hid hgd5
              replace mr := Lib.hid mr
              replace xr := Lib.hid xr
              replace ir := Lib.hid ir
              replace m0r := Lib.hid m0r
              replace xRr := Lib.hid xRr
              replace br := Lib.hid br
              replace hbr := Lib.hid hbr
              replace okr := Lib.hid okr
              replace lr4 := Lib.hid lr4
              replace A33 := Lib.hid A33
              replace ALb := Lib.hid ALb
              replace AL := Lib.hid AL
              replace hl62 := Lib.hid hl62
              clear hrl hdone lr hi hlt
              by_cases k1 : k = 1
              · have e1 : ((k : Int) != 1) = false := by rw [bne_eq_false_iff_eq]; omega
                have hgd6 := hgd5.out
                rw [if_pos k1] at hgd6
                replace hgd6 := Lib.hid hgd6
                replace k1 := Lib.hid k1
                obtain ⟨wF, hwF⟩ : ∃ wF, wF = wr := ⟨_, rfl⟩
                have xRF : HelloAt wF (w.heap.size + 1) (hzero 0) := by rw [hwF]; exact xRr.out
                have xHF : HelloAt wF (w.heap.size + 2) (⟨k, a, l, z32⟩ : HD) := by rw [hwF]; exact xr.out
                have iF : wF.heap[w.heap.size + 3]? = some (.cells #[.int .i64 ((A : Nat) : Int)] 3 (0,0)) := by rw [hwF]; exact ir.out
                have mF : Mod (fun _ => False) w wF := by rw [hwF]; exact m0r.out
                have okF : HD.Ok (⟨k, a, l, z32⟩ : HD) := okr.out
                have hgF : hgV bs = .tuple #[.agg (helloC (⟨k, a, l, z32⟩ : HD)), .int .i64 ((A : Nat) : Int), .int .i64 0] := hgo.out _ _ hgd6.out
                obtain ⟨hF, hhF⟩ : ∃ hF, hF = (⟨k, a, l, z32⟩ : HD) := ⟨_, rfl⟩
                rw [← hhF] at xHF okF hgF
                obtain ⟨N, hN⟩ : ∃ N, N = A := ⟨_, rfl⟩
                rw [← hN] at iF hgF
                have cF := cell_of_one iF
                have xRd : HelloAt wF.drew (w.heap.size + 1) (hzero 0) := xRF
                have xHd : HelloAt wF.drew (w.heap.size + 2) hF := xHF
                have cFd : wF.drew.cell? ⟨w.heap.size + 3, 0, none⟩ = some (.int .i64 (N : Int)) := cF
                obtain ⟨wz, sz, mz, xz⟩ := hello_store o0 xRd (h' := hF) okF
                have hSd : HelloAt wF.drew (w.heap.size + 2) hF ∧ wF.drew.cell? ⟨w.heap.size + 3, 0, none⟩ = some (.int .i64 (N : Int)) := ⟨xHd, cFd⟩
                have hSz : HelloAt wz (w.heap.size + 2) hF ∧ wz.cell? ⟨w.heap.size + 3, 0, none⟩ = some (.int .i64 (N : Int)) := ⟨xHd.mod mz (by omega), cell_mod mz cFd (by omega)⟩
                have lz := hello_load okF xz
                have mfz : Mod (fun _ => False) w wz := mF.drew.trans' mz (fun i hi h => by omega)
                replace hwF := Lib.hid hwF
                replace hhF := Lib.hid hhF
                replace hN := Lib.hid hN
                replace hgF := Lib.hid hgF
                replace mfz := Lib.hid mfz
                replace hSd := Lib.hid hSd
                replace hSz := Lib.hid hSz
                clear mz xz xRF xHF iF mF cF xRd xHd cFd
                go_upto_region 23 with (fail)
                rw [← hwF.out]
                refine wp_region_any (by kernel_rfl) (any_of_Z (S := fun w' => HelloAt w' (w.heap.size + 2) hF ∧ w'.cell? ⟨w.heap.size + 3, 0, none⟩ = some (.int .i64 (N : Int))) (z := 99) _ _ _ _ ?_)
                simp only [List.size_toArray, List.length_cons, List.length_nil, Nat.reduceAdd, Array.replicate_succ, Array.replicate_zero, List.push_toArray, List.nil_append, List.cons_append]
                refine anyZ_take 0 _ (some 87) (.agg (helloC hF)) rfl (by kernel_rfl) (by kernel_rfl) (by kernel_rfl) (by kernel_rfl) (by kernel_rfl) (by decide) rfl (fun w' hS => ?_) hSd.out ?_
                · exact run_load_op rfl rfl (hello_load okF hS.1)
                simp only [Act.put, List.setIfInBounds_toArray, List.set_cons_zero, List.set_cons_succ]
                refine anyZ_take 1 _ (some 88) (.int .i64 (N : Int)) rfl (by kernel_rfl) (by kernel_rfl) (by kernel_rfl) (by kernel_rfl) (by kernel_rfl) (by decide) rfl (fun w' hS => ?_) hSd.out ?_
                · exact run_load_op rfl rfl (load_int hS.2)
                simp only [Act.put, List.setIfInBounds_toArray, List.set_cons_zero, List.set_cons_succ]
                refine anyZ_skip 2 _ rfl (by kernel_rfl) (by kernel_rfl) rfl (wz) ?_ (fun _ => hSz.out) ?_
                · exact run_store_op rfl rfl rfl sz
                simp only [Act.put, List.setIfInBounds_toArray, List.set_cons_zero, List.set_cons_succ]
                refine anyZ_take 3 _ (some 3) (.int .i64 (N : Int)) rfl (by kernel_rfl) (by kernel_rfl) (by kernel_rfl) (by kernel_rfl) (by kernel_rfl) (by decide) rfl (fun w' hS => ?_) hSz.out ?_
                · go_simp
                simp only [Act.put, List.setIfInBounds_toArray, List.set_cons_zero, List.set_cons_succ]
                refine anyZ_take 4 _ (some 4) (.int .i64 0) rfl (by kernel_rfl) (by kernel_rfl) (by kernel_rfl) (by kernel_rfl) (by kernel_rfl) (by decide) rfl (fun w' hS => ?_) hSz.out ?_
                · go_simp
                simp only [Act.put, List.setIfInBounds_toArray, List.set_cons_zero, List.set_cons_succ]
                refine anyZ_done (by kernel_rfl) ?_ _
                go_wp2
                exact bodyPost_ret (v := .tuple #[.agg (helloC hF), .int .i64 (N : Int), .int .i64 0]) (hget_results rfl _ _ _ _ _ _ rfl rfl rfl lz) rfl ⟨mfz.out, by rw [hgF.out]⟩
              · have e1 : ((k : Int) != 1) = true := by rw [bne_iff_ne]; omega
                have hgd6 := hgd5.out
                rw [if_neg k1] at hgd6
                replace hgd6 := Lib.hid hgd6
                replace k1 := Lib.hid k1
                go_wp2_with fail
                refine (whole_any (w.heap.size + 2) w.heap.size (w.heap.size + 3) 37 A (.int .u8 (k : Int) :: (bytesV a ++ nums .u64 l)) [] z32 bs _ _ wr (by simp [z32]) (by simp [la.out, lr4.out, bytesV_length, nums_length]) (hello_row_p okr.out xr.out) cr hbr.out ir.out (by omega) (by omega) ALb.out (by rw [← hL.out]; omega)).mono ?_
                rintro e w8 ⟨m8, h8⟩
                have xR8 := xRr.out.mod m8 (by omega)
                have m08 := m0r.out.trans' m8 (fun i hi h => by omega)
                rw [← hL.out] at h8
                by_cases hA32 : L < A + 32
                · rw [if_neg (by omega)] at h8
                  subst h8
                  have e4 := hgv.out 4 (by rw [hgd6.out, if_pos (by rw [← hL.out]; exact hA32)])
                  replace hA32 := Lib.hid hA32
                  obtain ⟨wz, sz, mz, xz⟩ := hello_store o0 (xR8) (h' := hzero 0) o0
                  have lz := hello_load o0 xz
                  have mfz : Mod (fun _ => False) w wz := (m08).trans' mz (fun i hi h => by omega)
                  replace mfz := Lib.hid mfz
                  clear mz xz
                  go_upto_region 22 with (fail)
                  refine wp_region_lit ?_
                  refine wpList_yields (by kernel_rfl) _ _ (build_none_op _ _ _ rfl) ?_
                  simp only [Act.put, List.setIfInBounds_toArray, List.set_cons_zero, List.set_cons_succ]
                  refine wpList_store_to rfl _ _ _ rfl _ _ _ rfl rfl _ sz ?_
                  simp only [Act.put, List.setIfInBounds_toArray, List.set_cons_zero, List.set_cons_succ]
                  refine wpList_reads (by kernel_rfl) (.int .i64 0) (by go_simp) ?_
                  simp only [Act.put, List.setIfInBounds_toArray, List.set_cons_zero, List.set_cons_succ]
                  refine wpList_reads (by kernel_rfl) (.int .i64 4) (by go_simp) ?_
                  simp only [Act.put, List.setIfInBounds_toArray, List.set_cons_zero, List.set_cons_succ]
                  go_wp2
                  refine bodyPost_ret (v := .tuple #[.agg (helloC (hzero 0)), .int .i64 0, .int .i64 4]) (hget_results rfl _ _ _ _ _ _ rfl rfl rfl lz) rfl ⟨mfz.out, ?_⟩
                  rw [e4]
                  rfl
                · rw [if_pos (by omega)] at h8
                  obtain ⟨rfl, i8, r8⟩ := h8
                  have x8 := hello_of_p r8
                  have l8 : ((bs.drop A).take 32).length = 32 := by rw [List.length_take, List.length_drop, ← hL.out]; omega
                  have hgd7 := hgd6.out
                  rw [if_neg (by rw [← hL.out]; exact hA32)] at hgd7
                  replace hgd7 := Lib.hid hgd7
                  replace hA32 := Lib.hid hA32
                  obtain ⟨wF, hwF⟩ : ∃ wF, wF = w8 := ⟨_, rfl⟩
                  have xRF : HelloAt wF (w.heap.size + 1) (hzero 0) := by rw [hwF]; exact xR8
                  have xHF : HelloAt wF (w.heap.size + 2) (⟨k, a, l, (bs.drop A).take 32⟩ : HD) := by rw [hwF]; exact x8
                  have iF : wF.heap[w.heap.size + 3]? = some (.cells #[.int .i64 ((A + 32 : Nat) : Int)] 3 (0,0)) := by rw [hwF]; exact i8
                  have mF : Mod (fun _ => False) w wF := by rw [hwF]; exact m08
                  have okF : HD.Ok (⟨k, a, l, (bs.drop A).take 32⟩ : HD) := ⟨hk256, la.out, lr4.out, okr.out.n, l8⟩
                  have hgF : hgV bs = .tuple #[.agg (helloC (⟨k, a, l, (bs.drop A).take 32⟩ : HD)), .int .i64 ((A + 32 : Nat) : Int), .int .i64 0] := hgo.out _ _ hgd7.out
                  obtain ⟨hF, hhF⟩ : ∃ hF, hF = (⟨k, a, l, (bs.drop A).take 32⟩ : HD) := ⟨_, rfl⟩
                  rw [← hhF] at xHF okF hgF
                  obtain ⟨N, hN⟩ : ∃ N, N = A + 32 := ⟨_, rfl⟩
                  rw [← hN] at iF hgF
                  have cF := cell_of_one iF
                  have xRd : HelloAt wF.drew (w.heap.size + 1) (hzero 0) := xRF
                  have xHd : HelloAt wF.drew (w.heap.size + 2) hF := xHF
                  have cFd : wF.drew.cell? ⟨w.heap.size + 3, 0, none⟩ = some (.int .i64 (N : Int)) := cF
                  obtain ⟨wz, sz, mz, xz⟩ := hello_store o0 xRd (h' := hF) okF
                  have hSd : HelloAt wF.drew (w.heap.size + 2) hF ∧ wF.drew.cell? ⟨w.heap.size + 3, 0, none⟩ = some (.int .i64 (N : Int)) := ⟨xHd, cFd⟩
                  have hSz : HelloAt wz (w.heap.size + 2) hF ∧ wz.cell? ⟨w.heap.size + 3, 0, none⟩ = some (.int .i64 (N : Int)) := ⟨xHd.mod mz (by omega), cell_mod mz cFd (by omega)⟩
                  have lz := hello_load okF xz
                  have mfz : Mod (fun _ => False) w wz := mF.drew.trans' mz (fun i hi h => by omega)
                  replace hwF := Lib.hid hwF
                  replace hhF := Lib.hid hhF
                  replace hN := Lib.hid hN
                  replace hgF := Lib.hid hgF
                  replace mfz := Lib.hid mfz
                  replace hSd := Lib.hid hSd
                  replace hSz := Lib.hid hSz
                  clear mz xz xRF xHF iF mF cF xRd xHd cFd
                  go_upto_region 23 with (fail)
                  rw [← hwF.out]
                  refine wp_region_any (by kernel_rfl) (any_of_Z (S := fun w' => HelloAt w' (w.heap.size + 2) hF ∧ w'.cell? ⟨w.heap.size + 3, 0, none⟩ = some (.int .i64 (N : Int))) (z := 99) _ _ _ _ ?_)
                  simp only [List.size_toArray, List.length_cons, List.length_nil, Nat.reduceAdd, Array.replicate_succ, Array.replicate_zero, List.push_toArray, List.nil_append, List.cons_append]
                  refine anyZ_take 0 _ (some 87) (.agg (helloC hF)) rfl (by kernel_rfl) (by kernel_rfl) (by kernel_rfl) (by kernel_rfl) (by kernel_rfl) (by decide) rfl (fun w' hS => ?_) hSd.out ?_
                  · exact run_load_op rfl rfl (hello_load okF hS.1)
                  simp only [Act.put, List.setIfInBounds_toArray, List.set_cons_zero, List.set_cons_succ]
                  refine anyZ_take 1 _ (some 88) (.int .i64 (N : Int)) rfl (by kernel_rfl) (by kernel_rfl) (by kernel_rfl) (by kernel_rfl) (by kernel_rfl) (by decide) rfl (fun w' hS => ?_) hSd.out ?_
                  · exact run_load_op rfl rfl (load_int hS.2)
                  simp only [Act.put, List.setIfInBounds_toArray, List.set_cons_zero, List.set_cons_succ]
                  refine anyZ_skip 2 _ rfl (by kernel_rfl) (by kernel_rfl) rfl (wz) ?_ (fun _ => hSz.out) ?_
                  · exact run_store_op rfl rfl rfl sz
                  simp only [Act.put, List.setIfInBounds_toArray, List.set_cons_zero, List.set_cons_succ]
                  refine anyZ_take 3 _ (some 3) (.int .i64 (N : Int)) rfl (by kernel_rfl) (by kernel_rfl) (by kernel_rfl) (by kernel_rfl) (by kernel_rfl) (by decide) rfl (fun w' hS => ?_) hSz.out ?_
                  · go_simp
                  simp only [Act.put, List.setIfInBounds_toArray, List.set_cons_zero, List.set_cons_succ]
                  refine anyZ_take 4 _ (some 4) (.int .i64 0) rfl (by kernel_rfl) (by kernel_rfl) (by kernel_rfl) (by kernel_rfl) (by kernel_rfl) (by decide) rfl (fun w' hS => ?_) hSz.out ?_
                  · go_simp
                  simp only [Act.put, List.setIfInBounds_toArray, List.set_cons_zero, List.set_cons_succ]
                  refine anyZ_done (by kernel_rfl) ?_ _
                  go_wp2
                  exact bodyPost_ret (v := .tuple #[.agg (helloC hF), .int .i64 (N : Int), .int .i64 0]) (hget_results rfl _ _ _ _ _ _ rfl rfl rfl lz) rfl ⟨mfz.out, by rw [hgF.out]⟩
end Go.Proofs.YtkfikoacohogaaaDoor
