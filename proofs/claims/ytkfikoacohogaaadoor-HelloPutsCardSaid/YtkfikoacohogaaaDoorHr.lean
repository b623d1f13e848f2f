/-
  mailcoachlaw17.of; mailcoachref17.Put. Printed by gen/rhello.py.
-/
import Derived.Test.YtkfikoacohogaaaDoorHv
import Derived.Test.YtkfikoacohogaaaDoorVr
namespace Go.Proofs.YtkfikoacohogaaaDoor
set_option maxRecDepth 100000
open Go Go.RowKit Go.Lib
set_option linter.unusedSimpArgs false
set_option linter.unusedVariables false
set_option linter.unusedSectionVars false

/-- The row of the document's greeting. -/
def HelloR (w : World) (g : Nat) (h : HD) : Prop := w.heap[g]? = some (.cells (helloC h) 58 (0,0))
theorem info_helloR : (Tryd.prog.info? 58).map (·.size) = some 69 := by kernel_rfl
section
variable {w : World} {g : Nat} {h : HD} (o : h.Ok) (x : HelloR w g h)
include o x
theorem rhello_load : (loadVar 58 ⟨g, 0, none⟩).run Tryd.prog w = .ok (.agg (helloC h)) w :=
  load_mid w g 0 58 _ [] (helloL h) [] (0,0) _ (by rw [x]; simp [helloC]) rfl Tryd.underlying58 rfl (by rw [helloL_length o]; exact info_helloR)
theorem rhello_load_a : (loadVar 22 ⟨g, 1, none⟩).run Tryd.prog w = .ok (.agg (bytesV h.a).toArray) w :=
  load_mid w g 1 58 _ [.int .u8 (h.k : Int)] (bytesV h.a) (nums .u64 h.l ++ bytesV h.p) (0,0) _ (by rw [x]; rfl) rfl Tryd.underlying22 rfl (by rw [bytesV_length, o.a]; exact info_32)
theorem rhello_load_l : (loadVar 52 ⟨g, 33, none⟩).run Tryd.prog w = .ok (.agg (nums .u64 h.l).toArray) w :=
  load_mid w g 33 58 _ (.int .u8 (h.k : Int) :: bytesV h.a) (nums .u64 h.l) (bytesV h.p) (0,0) _ (by rw [x]; rfl) (by simp [bytesV_length, o.a]) Tryd.underlying52 rfl (by rw [nums_length, o.l]; exact info_4)
theorem rhello_load_p : (loadVar 22 ⟨g, 37, none⟩).run Tryd.prog w = .ok (.agg (bytesV h.p).toArray) w :=
  load_mid w g 37 58 _ (.int .u8 (h.k : Int) :: (bytesV h.a ++ nums .u64 h.l)) (bytesV h.p) [] (0,0) _ (by rw [x]; simp [helloC, helloL]) (by simp [bytesV_length, nums_length, o.a, o.l]) Tryd.underlying22 rfl (by rw [bytesV_length, o.p]; exact info_32)
theorem rhello_kind : w.cell? ⟨g, 0, none⟩ = some (.int .u8 (h.k : Int)) := by
  rw [cell_of_row _ _ _ _ _ _ x]
  rfl
theorem rhello_byte_a (j : Nat) (hj : j < 32) : w.cell? ⟨g, 1 + j, none⟩ = some (.int .u8 ((h.a.getD j 0).toNat : Int)) := by
  rw [cell_of_row _ _ _ _ _ _ x, helloC, helloL, List.getElem?_toArray, show 1 + j = j + 1 by omega, List.getElem?_cons_succ, List.getElem?_append_left (by rw [bytesV_length, o.a]; exact hj)]
  exact bytesV_get (by rw [o.a]; exact hj)
theorem rhello_byte_p (j : Nat) (hj : j < 32) : w.cell? ⟨g, 37 + j, none⟩ = some (.int .u8 ((h.p.getD j 0).toNat : Int)) := by
  rw [cell_of_row _ _ _ _ _ _ x, helloC, helloL, List.getElem?_toArray, show 37 + j = (36 + j) + 1 by omega, List.getElem?_cons_succ, List.getElem?_append_right (by rw [bytesV_length, o.a]; omega), List.getElem?_append_right (by rw [bytesV_length, nums_length, o.a, o.l]; omega), bytesV_length, nums_length, o.a, o.l, show 36 + j - 32 - 4 = j by omega]
  exact bytesV_get (by rw [o.p]; exact hj)
theorem rhello_bytes_a : ByteAt w (.slice (some ⟨g, 1, none⟩) 32 32) h.a := by
  refine .inr ⟨g, 1, 32, by rw [o.a], by rw [o.a]; exact Nat.le_refl _, fun j hj => rhello_byte_a o x j (by rw [o.a] at hj; exact hj)⟩
theorem rhello_bytes_p : ByteAt w (.slice (some ⟨g, 37, none⟩) 32 32) h.p := by
  refine .inr ⟨g, 37, 32, by rw [o.p], by rw [o.p]; exact Nat.le_refl _, fun j hj => rhello_byte_p o x j (by rw [o.p] at hj; exact hj)⟩
theorem rhello_store {h' : HD} (o' : h'.Ok) : ∃ w', (storeVar 58 ⟨g, 0, none⟩ (.agg (helloC h'))).run Tryd.prog w = .ok () w' ∧ Mod (fun x => x = g) w w' ∧ HelloR w' g h' := by
  obtain ⟨w', h1, h2, h3⟩ := store_mid (P := Tryd.prog) w g 0 58 58 [] (helloL h) [] (helloL h') (by rw [x]; simp [helloC]) rfl (by rw [helloL_length o, helloL_length o']) (by rw [helloL_length o']; exact info_helloR) (helloL_one h')
  exact ⟨w', h1, h2, by unfold HelloR; rw [h3]; simp [helloC]⟩
theorem rhello_l (j : Nat) (hj : j < 4) : w.cell? ⟨g, 33 + j, none⟩ = some (.int .u64 ((h.l.getD j 0 : Nat) : Int)) := by
  rw [cell_of_row _ _ _ _ _ _ x, helloC, helloL, List.getElem?_toArray, show 33 + j = (32 + j) + 1 by omega, List.getElem?_cons_succ, List.getElem?_append_right (by rw [bytesV_length, o.a]; omega), List.getElem?_append_left (by rw [bytesV_length, nums_length, o.a, o.l]; omega), bytesV_length, o.a, Nat.add_sub_cancel_left]
  have := nums_get (k := .u64) (l := h.l) (i := j) (by rw [o.l]; exact hj)
  rwa [List.getElem?_toArray] at this
end
theorem HelloR.mod {S : Nat → Prop} {w w' : World} {g : Nat} {h : HD} (x : HelloR w g h) (m : Mod S w w') (hS : ¬ S g) : HelloR w' g h := m.heap x hS
theorem alloc_helloR (w : World) (ev : Operand → Value) (o : Oper) (ho : o.op = .alloc 58) : (execOp ev o).run Tryd.prog w = .ok (.value (.pointer (some ⟨w.heap.size, 0, none⟩))) (w.alloc (.cells (helloC (hzero 0)) 58)) := by
  have hz : (zeroValue 58).run Tryd.prog w = .ok (.agg (helloC (hzero 0))) w := by kernel_rfl
  unfold execOp
  simp [ho, Instr.alloc, Sem.run_bind, hz, newVar, newRow, Value.cells]
theorem ld_kindH {w : World} {g off : Nat} {n : Int} (hc : w.cell? ⟨g, off, none⟩ = some (.int .u8 n)) : (loadVar 50 ⟨g, off, none⟩).run Tryd.prog w = .ok (.int .u8 n) w := by go_simp
theorem ld_u8H {w : World} {g off : Nat} {n : Int} (hc : w.cell? ⟨g, off, none⟩ = some (.int .u8 n)) : (loadVar 5 ⟨g, off, none⟩).run Tryd.prog w = .ok (.int .u8 n) w := by go_simp
theorem ld_u64H {w : World} {g off : Nat} {n : Int} (hc : w.cell? ⟨g, off, none⟩ = some (.int .u64 n)) : (loadVar 51 ⟨g, off, none⟩).run Tryd.prog w = .ok (.int .u64 n) w := by go_simp
theorem list32 {α : Type} (l : List α) (h : l.length = 32) : ∃ x0 x1 x2 x3 x4 x5 x6 x7 x8 x9 x10 x11 x12 x13 x14 x15 x16 x17 x18 x19 x20 x21 x22 x23 x24 x25 x26 x27 x28 x29 x30 x31, l = [x0, x1, x2, x3, x4, x5, x6, x7, x8, x9, x10, x11, x12, x13, x14, x15, x16, x17, x18, x19, x20, x21, x22, x23, x24, x25, x26, x27, x28, x29, x30, x31] := by
  match l, h with
  | [x0, x1, x2, x3, x4, x5, x6, x7, x8, x9, x10, x11, x12, x13, x14, x15, x16, x17, x18, x19, x20, x21, x22, x23, x24, x25, x26, x27, x28, x29, x30, x31], _ => exact ⟨x0, x1, x2, x3, x4, x5, x6, x7, x8, x9, x10, x11, x12, x13, x14, x15, x16, x17, x18, x19, x20, x21, x22, x23, x24, x25, x26, x27, x28, x29, x30, x31, rfl⟩
theorem list4 {α : Type} (l : List α) (h : l.length = 4) : ∃ x0 x1 x2 x3, l = [x0, x1, x2, x3] := by
  match l, h with
  | [x0, x1, x2, x3], _ => exact ⟨x0, x1, x2, x3, rfl⟩
set_option maxRecDepth 100000 in
theorem build_helloR {h : HD} (o : h.Ok) (w : World) (ev : Operand → Value) (op : Oper) (x y z u : Operand) (ho : op.op = .build 58 #[(0, x), (1, y), (2, z), (3, u)]) (hx : ev x = .int .u8 (h.k : Int)) (hy : ev y = .agg (bytesV h.a).toArray) (hz : ev z = .agg (nums .u64 h.l).toArray) (hu : ev u = .agg (bytesV h.p).toArray) :
    (execOp ev op).run Tryd.prog w = .ok (.value (.agg (helloC h))) w := by
  have hb : (Instr.build 58 #[(0, .int .u8 (h.k : Int)), (1, .agg (bytesV h.a).toArray), (2, .agg (nums .u64 h.l).toArray), (3, .agg (bytesV h.p).toArray)]).run Tryd.prog w = .ok (.agg (helloC h)) w := by
    obtain ⟨k, a, l, p⟩ := h
    obtain ⟨a0, a1, a2, a3, a4, a5, a6, a7, a8, a9, a10, a11, a12, a13, a14, a15, a16, a17, a18, a19, a20, a21, a22, a23, a24, a25, a26, a27, a28, a29, a30, a31, rfl⟩ := list32 a o.a
    obtain ⟨l0, l1, l2, l3, rfl⟩ := list4 l o.l
    obtain ⟨p0, p1, p2, p3, p4, p5, p6, p7, p8, p9, p10, p11, p12, p13, p14, p15, p16, p17, p18, p19, p20, p21, p22, p23, p24, p25, p26, p27, p28, p29, p30, p31, rfl⟩ := list32 p o.p
    refine run_build w _ _ _ ?_
    kernel_rfl
  unfold execOp
  simp only [ho]
  simp only [List.map_toArray, List.map_cons, List.map_nil, hx, hy, hz, hu, Sem.run_bind, hb, Result.andThen_ok, Sem.run_pure]
theorem zero32_eq : (encB (List.replicate 32 0) : Array Value) = (bytesV z32).toArray := by simp [encB, bytesV, z32]
theorem build_z32 (w : World) (ev : Operand → Value) (o : Oper) (ho : o.op = .build 22 #[]) : (execOp ev o).run Tryd.prog w = .ok (.value (.agg (bytesV z32).toArray)) w := by
  have h : (Instr.build 22 #[]).run Tryd.prog w = .ok (.agg (bytesV z32).toArray) w := by kernel_rfl
  unfold execOp
  simp [ho, h]
theorem build_z4 (w : World) (ev : Operand → Value) (o : Oper) (ho : o.op = .build 52 #[]) : (execOp ev o).run Tryd.prog w = .ok (.value (.agg (nums .u64 z4).toArray)) w := by
  have h : (Instr.build 52 #[]).run Tryd.prog w = .ok (.agg (nums .u64 z4).toArray) w := by kernel_rfl
  unfold execOp
  simp [ho, h]
theorem neq32_op {ev : Operand → Value} {o : Oper} {a b : Operand} {w : World} {x y : List (BitVec 8)} (ho : o.op = .binOp .neq 22 a b 22) (ha : ev a = .agg (bytesV x).toArray) (hb : ev b = .agg (bytesV y).toArray) (hx : x.length = 32) (hy : y.length = 32) :
    (execOp ev o).run Tryd.prog w = .ok (.value (.bool (!decide (x = y)))) w := by
  obtain ⟨i8, hi8⟩ : ∃ i0, Tryd.prog.info? 5 = some i0 := ⟨_, rfl⟩
  have h : (Op.equalIn 10000 22 (.agg (bytesV x).toArray) (.agg (bytesV y).toArray)).run Tryd.prog w = .ok (decide (x = y)) w := by
    rw [bytesV_nums, bytesV_nums, equalIn_nums w 9998 _ 5 32 .u8 i8 Tryd.underlying22 Tryd.underlying5 hi8 (by kernel_rfl) _ _ (by rw [List.length_map, hx]) (by rw [List.length_map, hy])]
    congr 1
    rw [Bool.eq_iff_iff]
    simp only [decide_eq_true_iff]
    exact ⟨fun e => List.map_inj_right (fun _ _ => BitVec.eq_of_toNat_eq) |>.1 e, fun e => by rw [e]⟩
  exact run_bin_op ho ha hb (run_eqGuard_agg (P := Tryd.prog) w .neq 22 a b _ _ (by kernel_rfl)) (by rw [run_neq_struct, h]; rfl)
theorem neq4_op {ev : Operand → Value} {o : Oper} {a b : Operand} {w : World} {x y : List Nat} (ho : o.op = .binOp .neq 52 a b 52) (ha : ev a = .agg (nums .u64 x).toArray) (hb : ev b = .agg (nums .u64 y).toArray) (hx : x.length = 4) (hy : y.length = 4) :
    (execOp ev o).run Tryd.prog w = .ok (.value (.bool (!decide (x = y)))) w := by
  obtain ⟨i8, hi8⟩ : ∃ i0, Tryd.prog.info? 51 = some i0 := ⟨_, rfl⟩
  have h : (Op.equalIn 10000 52 (.agg (nums .u64 x).toArray) (.agg (nums .u64 y).toArray)).run Tryd.prog w = .ok (decide (x = y)) w := equalIn_nums w 9998 _ 51 4 .u64 i8 Tryd.underlying52 Tryd.underlying51 hi8 (by kernel_rfl) _ _ hx hy
  exact run_bin_op ho ha hb (run_eqGuard_agg (P := Tryd.prog) w .neq 52 a b _ _ (by kernel_rfl)) (by rw [run_neq_struct, h]; rfl)
theorem results_cellH {fn : Func} {p : Tmp} {T : TypeId} {v : Value} (h : fn.results = #[.cell p T]) (tmps : Array Value) (w : World) (g : Nat) (hp : tmps.getD p undef = .pointer (some ⟨g, 0, none⟩)) (hl : (loadVar T ⟨g, 0, none⟩).run Tryd.prog w = .ok v w) :
    (results fn tmps).run Tryd.prog w = .ok v w := by
  have hp' : tmps[p]?.getD undef = .pointer (some ⟨g, 0, none⟩) := by simpa using hp
  simp [results, h, Sem.run_bind, hp', asAddr, hl]

set_option maxRecDepth 100000 in
set_option maxHeartbeats 4000000 in
theorem of_hello (h : HD) (o : h.Ok) (w : World) : Calls Tryd.prog 14 #[.agg (helloC h)] w fun e w' => Mod (fun _ => False) w w' ∧ e = .returned (.agg (helloC h)) := by
  obtain ⟨wa, hwa⟩ : ∃ x, x = w.alloc (.cells (helloC h) 54) := ⟨_, rfl⟩
  obtain ⟨G, hG⟩ : ∃ g, g = w.heap.size := ⟨_, rfl⟩
  have ma : Mod (fun _ => False) w wa := by rw [hwa]; exact (Mod.refl _ _).alloc _
  have xa : HelloAt wa G h := by rw [hwa]; exact hp_new _ _ _ hG
  obtain ⟨wb, hwb⟩ : ∃ x, x = wa.alloc (.cells (helloC (hzero 0)) 58) := ⟨_, rfl⟩
  obtain ⟨R, hR⟩ : ∃ g, g = wa.heap.size := ⟨_, rfl⟩
  have mb : Mod (fun _ => False) wa wb := by rw [hwb]; exact (Mod.refl _ _).alloc _
  have xb : HelloR wb R (hzero 0) := by rw [hwb]; exact hp_new _ _ _ hR
  have xab := xa.mod mb (fun h => h)
  obtain ⟨wz, sz, mz, xz⟩ := rhello_store (hzero_ok (by decide)) xb o
  have mf : Mod (fun _ => False) w wz := (ma.trans mb).trans' mz (fun x hx h => by have := ma.size; omega)
  have l0 := ld_kindH (hello_kind o xab)
  have l1 := hello_load_a o xab
  have l2 := hello_load_l o xab
  have l3 := hello_load_p o xab
  have lz := rhello_load o xz
  replace hwa := Lib.hid hwa
  replace hG := Lib.hid hG
  replace hwb := Lib.hid hwb
  replace hR := Lib.hid hR
  replace mf := Lib.hid mf
  replace l0 := Lib.hid l0
  replace l1 := Lib.hid l1
  replace l2 := Lib.hid l2
  replace l3 := Lib.hid l3
  replace lz := Lib.hid lz
  clear ma xa mb xb xab mz xz
  obtain ⟨F, hF⟩ : ∃ F, F = helloC h := ⟨_, rfl⟩
  rw [← hF]
  replace hF := Lib.hid hF
  go_enter Tryd.func14, Tryd.ntmps14
  go_upto_region 0 with (fail)
  refine wp_region_lit ?_
  refine wpList_yields (by kernel_rfl) (.pointer (some ⟨G, 0, none⟩)) wa (by rw [hwa.out, hG.out, ← hF.out]; simp [execOp, Sem.run_bind, newVar, newRow, Value.cells]; rfl) ?_
  simp only [Act.put, List.setIfInBounds_toArray, List.set_cons_zero, List.set_cons_succ]
  refine wpList_yields (by kernel_rfl) _ _ (alloc_helloR _ _ _ rfl) ?_
  simp only [Act.put, List.setIfInBounds_toArray, List.set_cons_zero, List.set_cons_succ]
  rw [← hR.out, ← hwb.out]
  go_upto_region 1 with (fail)
  refine wp_region_lit ?_
  refine wpList_reads (by kernel_rfl) (.pointer (some ⟨G, 0, none⟩)) (by go_simp) ?_
  simp only [Act.put, List.setIfInBounds_toArray, List.set_cons_zero, List.set_cons_succ]
  refine wpList_reads (by kernel_rfl) (.int .u8 (h.k : Int)) (run_load_op rfl rfl l0.out) ?_
  simp only [Act.put, List.setIfInBounds_toArray, List.set_cons_zero, List.set_cons_succ]
  refine wpList_reads (by kernel_rfl) (.pointer (some ⟨G, 1, none⟩)) (by go_simp) ?_
  simp only [Act.put, List.setIfInBounds_toArray, List.set_cons_zero, List.set_cons_succ]
  refine wpList_reads (by kernel_rfl) (.agg (bytesV h.a).toArray) (run_load_op rfl rfl l1.out) ?_
  simp only [Act.put, List.setIfInBounds_toArray, List.set_cons_zero, List.set_cons_succ]
  refine wpList_reads (by kernel_rfl) (.pointer (some ⟨G, 33, none⟩)) (by go_simp) ?_
  simp only [Act.put, List.setIfInBounds_toArray, List.set_cons_zero, List.set_cons_succ]
  refine wpList_reads (by kernel_rfl) (.agg (nums .u64 h.l).toArray) (run_load_op rfl rfl l2.out) ?_
  simp only [Act.put, List.setIfInBounds_toArray, List.set_cons_zero, List.set_cons_succ]
  refine wpList_reads (by kernel_rfl) (.pointer (some ⟨G, 37, none⟩)) (by go_simp) ?_
  simp only [Act.put, List.setIfInBounds_toArray, List.set_cons_zero, List.set_cons_succ]
  refine wpList_reads (by kernel_rfl) (.agg (bytesV h.p).toArray) (run_load_op rfl rfl l3.out) ?_
  simp only [Act.put, List.setIfInBounds_toArray, List.set_cons_zero, List.set_cons_succ]
  refine wpList_reads (by kernel_rfl) (.agg (helloC h)) (build_helloR o _ _ _ _ _ _ _ rfl rfl rfl rfl rfl) ?_
  simp only [Act.put, List.setIfInBounds_toArray, List.set_cons_zero, List.set_cons_succ]
  refine wpList_store_to rfl _ _ _ rfl _ _ _ rfl rfl _ sz ?_
  simp only [Act.put, List.setIfInBounds_toArray, List.set_cons_zero, List.set_cons_succ]
  go_wp2
  rw [hF.out]
  exact bodyPost_ret (v := .agg (helloC h)) (results_cellH rfl _ _ _ rfl lz.out) rfl ⟨mf.out, rfl⟩
theorem hbare1 {h : HD} (hk : h.k = 1) (hp : h.p = z32) : hbare h = h := by
  obtain ⟨k, a, l, p⟩ := h
  simp only at hk hp
  subst hk hp
  rfl
theorem hbare2 {h : HD} (hk : h.k = 2) : hbare h = h := by
  obtain ⟨k, a, l, p⟩ := h
  simp only at hk
  subst hk
  rfl
theorem hbare3 {h : HD} (hk : h.k = 3) (ha : h.a = z32) (hl : h.l = z4) : hbare h = h := by
  obtain ⟨k, a, l, p⟩ := h
  simp only at hk ha hl
  subst hk ha hl
  rfl
theorem bare1 {h : HD} (hk : h.k = 1) (hb : hbare h = h) : h.p = z32 := by
  have := congrArg HD.p hb
  rw [show (hbare h).p = z32 by simp [hbare, hk]] at this
  exact this.symm
theorem bare3a {h : HD} (hk : h.k = 3) (hb : hbare h = h) : h.a = z32 := by
  have := congrArg HD.a hb
  rw [show (hbare h).a = z32 by simp [hbare, hk]] at this
  exact this.symm
theorem bare3l {h : HD} (hk : h.k = 3) (hb : hbare h = h) : h.l = z4 := by
  have := congrArg HD.l hb
  rw [show (hbare h).l = z4 by simp [hbare, hk]] at this
  exact this.symm
def hE (h : HD) : Int := if HValid h then 0 else 1
def hX (h : HD) : List (BitVec 8) := if HValid h then hput h else []
theorem hX_length (h : HD) (o : h.Ok) : (hX h).length ≤ 1000 := by
  unfold hX
  split
  · have := vputs_len h.l
    rw [o.l] at this
    unfold hput
    generalize h.l.flatMap vput = Z at this ⊢
    split <;> split <;> simp only [List.length_cons, List.length_append, List.length_nil, o.a, o.p] <;> omega
  · simp
/-- What the program's Put and the document's answer. -/
def HPutAll (h : HD) (w : World) (e : Ending) (w' : World) : Prop :=
  Mod (fun _ => False) w w' ∧ ∃ v, e = .returned (.tuple #[v, .int .i64 (hE h)]) ∧ ClipR w' w.heap.size v (hX h).length (bytesV (hX h))
theorem HPutAll.refused {h : HD} {w w' : World} (m : Mod (fun _ => False) w w') (hv : ¬ HValid h) : HPutAll h w (.returned (.tuple #[.slice none 0 0, .int .i64 1])) w' :=
  ⟨m, .slice none 0 0, by unfold hE; rw [if_neg hv], by unfold hX; rw [if_neg hv]; exact .of (World.ownsRow_nil _ _ _ _)⟩
theorem HPutAll.good {h : HD} {w w' : World} {v : Value} {n : Nat} {L : List (BitVec 8)} (m : Mod (fun _ => False) w w') (hv : HValid h) (hL : hput h = L) (own : w'.ownsRow w.heap.size 5 1 v n (bytesV L)) : HPutAll h w (.returned (.tuple #[v, .int .i64 0])) w' := by
  have hn : n = L.length := by have := own.1; rw [bytesV_length] at this; omega
  rw [hn] at own
  exact ⟨m, v, by unfold hE; rw [if_pos hv], by unfold hX; rw [if_pos hv, hL]; exact .of own⟩
theorem PutHEndR.all {h : HD} {w w' : World} {e : Ending} (x : PutHEndR h w e w') : HPutAll h w e w' := by
  obtain ⟨m, x⟩ := x
  by_cases hv : HValid h
  · rw [if_pos hv] at x
    obtain ⟨v, rfl, _, h2⟩ := x
    exact ⟨m, v, by unfold hE; rw [if_pos hv], by unfold hX; rw [if_pos hv]; exact h2⟩
  · rw [if_neg hv] at x
    subst x
    exact .refused m hv

set_option maxRecDepth 100000 in
set_option maxHeartbeats 4000000 in
theorem refhput_any (h : HD) (o : h.Ok) (w : World) : Calls Tryd.prog 13 #[.agg (helloC h)] w (HPutAll h w) := by
  obtain ⟨w0, hw0⟩ : ∃ x, x = w.alloc (.cells (helloC h) 58) := ⟨_, rfl⟩
  obtain ⟨G, hG⟩ : ∃ g, g = w.heap.size := ⟨_, rfl⟩
  have m0 : Mod (fun _ => False) w w0 := by rw [hw0]; exact (Mod.refl _ _).alloc _
  have x0 : HelloR w0 G h := by rw [hw0]; exact hp_new _ _ _ hG
  have z0 := m0.size
  have lk0 := ld_u8H (rhello_kind o x0)
  have la0 := rhello_load_a o x0
  have ll0 := rhello_load_l o x0
  have lp0 := rhello_load_p o x0
  have zl : z32.length = 32 := by simp [z32]
  have zl4 : z4.length = 4 := rfl
  obtain ⟨k, hk⟩ : ∃ k, k = h.k := ⟨_, rfl⟩
  have hk256 : k < 256 := by rw [hk]; exact o.k
  rw [← hk] at lk0
  obtain ⟨F, hF⟩ : ∃ F, F = helloC h := ⟨_, rfl⟩
  rw [← hF]
  replace hw0 := Lib.hid hw0
  replace hG := Lib.hid hG
  replace m0 := Lib.hid m0
  replace x0 := Lib.hid x0
  replace z0 := Lib.hid z0
  replace lk0 := Lib.hid lk0
  replace la0 := Lib.hid la0
  replace ll0 := Lib.hid ll0
  replace lp0 := Lib.hid lp0
  replace hF := Lib.hid hF
  replace hk := Lib.hid hk
  by_cases k0 : k = 0
  · subst k0
    have hnv : ¬ HValid h := by
      rintro ⟨h1, h2, h3, _⟩
      rw [← hk.out] at h1
      omega
    replace hnv := Lib.hid hnv
    go_enter Tryd.func13, Tryd.ntmps13
    go_upto_region 0 with (fail)
    refine wp_region_lit ?_
    refine wpList_yields (by kernel_rfl) (.pointer (some ⟨G, 0, none⟩)) w0 (by rw [hw0.out, hG.out, ← hF.out]; simp [execOp, Sem.run_bind, newVar, newRow, Value.cells]; rfl) ?_
    simp only [Act.put, List.setIfInBounds_toArray, List.set_cons_zero, List.set_cons_succ]
    refine wpList_reads (by kernel_rfl) (.slice none 0 0) (by go_simp) ?_
    simp only [Act.put, List.setIfInBounds_toArray, List.set_cons_zero, List.set_cons_succ]
    refine wpList_reads (by kernel_rfl) (.int .i64 0) (by go_simp) ?_
    simp only [Act.put, List.setIfInBounds_toArray, List.set_cons_zero, List.set_cons_succ]
    go_upto_region 1 with (fail)
    refine wp_region_lit ?_
    refine wpList_reads (by kernel_rfl) (.pointer (some ⟨G, 0, none⟩)) (by go_simp) ?_
    simp only [Act.put, List.setIfInBounds_toArray, List.set_cons_zero, List.set_cons_succ]
    refine wpList_reads (by kernel_rfl) (.int .u8 ((0 : Nat) : Int)) (run_load_op rfl rfl lk0.out) ?_
    simp only [Act.put, List.setIfInBounds_toArray, List.set_cons_zero, List.set_cons_succ]
    refine wpList_reads (by kernel_rfl) (.bool true) (by go_simp) ?_
    simp only [Act.put, List.setIfInBounds_toArray, List.set_cons_zero, List.set_cons_succ]
    refine wpList_reads (by kernel_rfl) (.bool true) (by go_simp) ?_
    simp only [Act.put, List.setIfInBounds_toArray, List.set_cons_zero, List.set_cons_succ]
    go_skip
    refine wpList_reads (by kernel_rfl) (.bool true) (by go_simp) ?_
    simp only [Act.put, List.setIfInBounds_toArray, List.set_cons_zero, List.set_cons_succ]
    refine wpList_reads (by kernel_rfl) (.bool true) (by go_simp) ?_
    simp only [Act.put, List.setIfInBounds_toArray, List.set_cons_zero, List.set_cons_succ]
    go_skip
    refine wpList_reads (by kernel_rfl) (.bool true) (by go_simp) ?_
    simp only [Act.put, List.setIfInBounds_toArray, List.set_cons_zero, List.set_cons_succ]
    refine wpList_reads (by kernel_rfl) (.bool true) (by go_simp) ?_
    simp only [Act.put, List.setIfInBounds_toArray, List.set_cons_zero, List.set_cons_succ]
    go_skip
    refine wpList_reads (by kernel_rfl) (.bool true) (by go_simp) ?_
    simp only [Act.put, List.setIfInBounds_toArray, List.set_cons_zero, List.set_cons_succ]
    have hfin := HPutAll.refused (h := h) m0.out hnv.out
    replace hfin := Lib.hid hfin
    go_wp2
    refine bodyPost_ret (results_tmp2 rfl _ _ _) rfl ?_
    exact hfin.out
  · by_cases k4 : 3 < k
    · have c1 : decide ((k : Int) < 1) = false := by rw [decide_eq_false_iff_not]; omega
      have c3 : decide ((3 : Int) < (k : Int)) = true := by rw [decide_eq_true_iff]; omega
      have hnv : ¬ HValid h := by
        rintro ⟨h1, h2, h3, _⟩
        rw [← hk.out] at h2
        omega
      replace hnv := Lib.hid hnv
      go_enter Tryd.func13, Tryd.ntmps13
      go_upto_region 0 with (fail)
      refine wp_region_lit ?_
      refine wpList_yields (by kernel_rfl) (.pointer (some ⟨G, 0, none⟩)) w0 (by rw [hw0.out, hG.out, ← hF.out]; simp [execOp, Sem.run_bind, newVar, newRow, Value.cells]; rfl) ?_
      simp only [Act.put, List.setIfInBounds_toArray, List.set_cons_zero, List.set_cons_succ]
      refine wpList_reads (by kernel_rfl) (.slice none 0 0) (by go_simp) ?_
      simp only [Act.put, List.setIfInBounds_toArray, List.set_cons_zero, List.set_cons_succ]
      refine wpList_reads (by kernel_rfl) (.int .i64 0) (by go_simp) ?_
      simp only [Act.put, List.setIfInBounds_toArray, List.set_cons_zero, List.set_cons_succ]
      go_upto_region 1 with (fail)
      refine wp_region_lit ?_
      refine wpList_reads (by kernel_rfl) (.pointer (some ⟨G, 0, none⟩)) (by go_simp) ?_
      simp only [Act.put, List.setIfInBounds_toArray, List.set_cons_zero, List.set_cons_succ]
      refine wpList_reads (by kernel_rfl) (.int .u8 (k : Int)) (run_load_op rfl rfl lk0.out) ?_
      simp only [Act.put, List.setIfInBounds_toArray, List.set_cons_zero, List.set_cons_succ]
      refine wpList_reads (by kernel_rfl) (.bool false) (by go_simp) ?_
      simp only [Act.put, List.setIfInBounds_toArray, List.set_cons_zero, List.set_cons_succ]
      refine wpList_reads (by kernel_rfl) (.bool false) (by go_simp) ?_
      simp only [Act.put, List.setIfInBounds_toArray, List.set_cons_zero, List.set_cons_succ]
      refine wpList_reads (by kernel_rfl) (.pointer (some ⟨G, 0, none⟩)) (by go_simp) ?_
      simp only [Act.put, List.setIfInBounds_toArray, List.set_cons_zero, List.set_cons_succ]
      refine wpList_reads (by kernel_rfl) (.int .u8 (k : Int)) (run_load_op rfl rfl lk0.out) ?_
      simp only [Act.put, List.setIfInBounds_toArray, List.set_cons_zero, List.set_cons_succ]
      refine wpList_reads (by kernel_rfl) (.bool true) (by go_simp) ?_
      simp only [Act.put, List.setIfInBounds_toArray, List.set_cons_zero, List.set_cons_succ]
      refine wpList_reads (by kernel_rfl) (.bool true) (by go_simp) ?_
      simp only [Act.put, List.setIfInBounds_toArray, List.set_cons_zero, List.set_cons_succ]
      refine wpList_reads (by kernel_rfl) (.bool true) (by go_simp) ?_
      simp only [Act.put, List.setIfInBounds_toArray, List.set_cons_zero, List.set_cons_succ]
      go_skip
      refine wpList_reads (by kernel_rfl) (.bool true) (by go_simp) ?_
      simp only [Act.put, List.setIfInBounds_toArray, List.set_cons_zero, List.set_cons_succ]
      refine wpList_reads (by kernel_rfl) (.bool true) (by go_simp) ?_
      simp only [Act.put, List.setIfInBounds_toArray, List.set_cons_zero, List.set_cons_succ]
      go_skip
      refine wpList_reads (by kernel_rfl) (.bool true) (by go_simp) ?_
      simp only [Act.put, List.setIfInBounds_toArray, List.set_cons_zero, List.set_cons_succ]
      have hfin := HPutAll.refused (h := h) m0.out hnv.out
      replace hfin := Lib.hid hfin
      go_wp2
      refine bodyPost_ret (results_tmp2 rfl _ _ _) rfl ?_
      exact hfin.out
    · by_cases k1 : k = 1
      · subst k1
        by_cases hp0 : h.p = z32
        · have dp : decide (h.p = z32) = true := decide_eq_true hp0
          go_enter Tryd.func13, Tryd.ntmps13
          go_upto_region 0 with (fail)
          refine wp_region_lit ?_
          refine wpList_yields (by kernel_rfl) (.pointer (some ⟨G, 0, none⟩)) w0 (by rw [hw0.out, hG.out, ← hF.out]; simp [execOp, Sem.run_bind, newVar, newRow, Value.cells]; rfl) ?_
          simp only [Act.put, List.setIfInBounds_toArray, List.set_cons_zero, List.set_cons_succ]
          refine wpList_reads (by kernel_rfl) (.slice none 0 0) (by go_simp) ?_
          simp only [Act.put, List.setIfInBounds_toArray, List.set_cons_zero, List.set_cons_succ]
          refine wpList_reads (by kernel_rfl) (.int .i64 0) (by go_simp) ?_
          simp only [Act.put, List.setIfInBounds_toArray, List.set_cons_zero, List.set_cons_succ]
          go_upto_region 1 with (fail)
          refine wp_region_lit ?_
          refine wpList_reads (by kernel_rfl) (.pointer (some ⟨G, 0, none⟩)) (by go_simp) ?_
          simp only [Act.put, List.setIfInBounds_toArray, List.set_cons_zero, List.set_cons_succ]
          refine wpList_reads (by kernel_rfl) (.int .u8 ((1 : Nat) : Int)) (run_load_op rfl rfl lk0.out) ?_
          simp only [Act.put, List.setIfInBounds_toArray, List.set_cons_zero, List.set_cons_succ]
          refine wpList_reads (by kernel_rfl) (.bool false) (by go_simp) ?_
          simp only [Act.put, List.setIfInBounds_toArray, List.set_cons_zero, List.set_cons_succ]
          refine wpList_reads (by kernel_rfl) (.bool false) (by go_simp) ?_
          simp only [Act.put, List.setIfInBounds_toArray, List.set_cons_zero, List.set_cons_succ]
          refine wpList_reads (by kernel_rfl) (.pointer (some ⟨G, 0, none⟩)) (by go_simp) ?_
          simp only [Act.put, List.setIfInBounds_toArray, List.set_cons_zero, List.set_cons_succ]
          refine wpList_reads (by kernel_rfl) (.int .u8 ((1 : Nat) : Int)) (run_load_op rfl rfl lk0.out) ?_
          simp only [Act.put, List.setIfInBounds_toArray, List.set_cons_zero, List.set_cons_succ]
          refine wpList_reads (by kernel_rfl) (.bool false) (by go_simp) ?_
          simp only [Act.put, List.setIfInBounds_toArray, List.set_cons_zero, List.set_cons_succ]
          refine wpList_reads (by kernel_rfl) (.bool false) (by go_simp) ?_
          simp only [Act.put, List.setIfInBounds_toArray, List.set_cons_zero, List.set_cons_succ]
          refine wpList_reads (by kernel_rfl) (.bool false) (by go_simp) ?_
          simp only [Act.put, List.setIfInBounds_toArray, List.set_cons_zero, List.set_cons_succ]
          refine wpList_reads (by kernel_rfl) (.pointer (some ⟨G, 0, none⟩)) (by go_simp) ?_
          simp only [Act.put, List.setIfInBounds_toArray, List.set_cons_zero, List.set_cons_succ]
          refine wpList_reads (by kernel_rfl) (.int .u8 ((1 : Nat) : Int)) (run_load_op rfl rfl lk0.out) ?_
          simp only [Act.put, List.setIfInBounds_toArray, List.set_cons_zero, List.set_cons_succ]
          refine wpList_reads (by kernel_rfl) (.bool true) (by go_simp) ?_
          simp only [Act.put, List.setIfInBounds_toArray, List.set_cons_zero, List.set_cons_succ]
          refine wpList_reads (by kernel_rfl) (.bool true) (by go_simp) ?_
          simp only [Act.put, List.setIfInBounds_toArray, List.set_cons_zero, List.set_cons_succ]
          refine wpList_reads (by kernel_rfl) (.pointer (some ⟨G, 37, none⟩)) (by go_simp) ?_
          simp only [Act.put, List.setIfInBounds_toArray, List.set_cons_zero, List.set_cons_succ]
          refine wpList_reads (by kernel_rfl) (.agg (bytesV h.p).toArray) (run_load_op rfl rfl lp0.out) ?_
          simp only [Act.put, List.setIfInBounds_toArray, List.set_cons_zero, List.set_cons_succ]
          refine wpList_yields (by kernel_rfl) _ _ (build_z32 _ _ _ rfl) ?_
          simp only [Act.put, List.setIfInBounds_toArray, List.set_cons_zero, List.set_cons_succ]
          refine wpList_yields (by kernel_rfl) _ _ (neq32_op rfl rfl rfl o.p zl) ?_
          simp only [Act.put, List.setIfInBounds_toArray, List.set_cons_zero, List.set_cons_succ]
          rw [dp]
          simp only [Bool.not_true, Bool.not_false]
          refine wpList_reads (by kernel_rfl) (.bool false) (by go_simp) ?_
          simp only [Act.put, List.setIfInBounds_toArray, List.set_cons_zero, List.set_cons_succ]
          refine wpList_reads (by kernel_rfl) (.bool false) (by go_simp) ?_
          simp only [Act.put, List.setIfInBounds_toArray, List.set_cons_zero, List.set_cons_succ]
          refine wpList_reads (by kernel_rfl) (.bool false) (by go_simp) ?_
          simp only [Act.put, List.setIfInBounds_toArray, List.set_cons_zero, List.set_cons_succ]
          refine wpList_reads (by kernel_rfl) (.pointer (some ⟨G, 0, none⟩)) (by go_simp) ?_
          simp only [Act.put, List.setIfInBounds_toArray, List.set_cons_zero, List.set_cons_succ]
          refine wpList_reads (by kernel_rfl) (.int .u8 ((1 : Nat) : Int)) (run_load_op rfl rfl lk0.out) ?_
          simp only [Act.put, List.setIfInBounds_toArray, List.set_cons_zero, List.set_cons_succ]
          refine wpList_reads (by kernel_rfl) (.bool false) (by go_simp) ?_
          simp only [Act.put, List.setIfInBounds_toArray, List.set_cons_zero, List.set_cons_succ]
          refine wpList_reads (by kernel_rfl) (.bool false) (by go_simp) ?_
          simp only [Act.put, List.setIfInBounds_toArray, List.set_cons_zero, List.set_cons_succ]
          go_skip
          refine wpList_reads (by kernel_rfl) (.bool false) (by go_simp) ?_
          simp only [Act.put, List.setIfInBounds_toArray, List.set_cons_zero, List.set_cons_succ]
          refine wpList_reads (by kernel_rfl) (.bool false) (by go_simp) ?_
          simp only [Act.put, List.setIfInBounds_toArray, List.set_cons_zero, List.set_cons_succ]
          obtain ⟨w1, hw1⟩ : ∃ x, x = w0.alloc (.cells #[.int .u8 ((1 : Nat) : Int)] 5) := ⟨_, rfl⟩
          obtain ⟨g1, hg1⟩ : ∃ g, g = w0.heap.size := ⟨_, rfl⟩
          have m1 : Mod (fun _ => False) w0 w1 := by rw [hw1]; exact (Mod.refl _ _).alloc _
          obtain ⟨A0, hA0⟩ : ∃ A : List (BitVec 8), A = [BitVec.ofNat 8 1] := ⟨_, rfl⟩
          have own1 : w1.ownsRow w0.heap.size 5 1 (.slice (some ⟨g1, 0, none⟩) 1 1) 1 (bytesV A0) := by
            have hq : bytesV A0 = (#[.int .u8 ((1 : Nat) : Int)] : Array Value).toList := by rw [hA0]; rfl
            rw [hw1, hg1, hq]
            exact World.ownsRow_lit w0 _ 1 (Nat.le_refl _) (by decide) rfl
          have x1 := x0.out.mod m1 (fun h => h)
          have lk1 := ld_u8H (rhello_kind o x1)
          rw [← hk.out] at lk1
          replace hw1 := Lib.hid hw1
          replace hg1 := Lib.hid hg1
          replace hA0 := Lib.hid hA0
          replace own1 := Lib.hid own1
          replace x1 := Lib.hid x1
          replace m1 := Lib.hid m1
          replace lk1 := Lib.hid lk1
          go_upto_region 3 with (fail)
          refine wp_region_lit ?_
          refine wpList_reads (by kernel_rfl) (.pointer (some ⟨G, 0, none⟩)) (by go_simp) ?_
          simp only [Act.put, List.setIfInBounds_toArray, List.set_cons_zero, List.set_cons_succ]
          refine wpList_reads (by kernel_rfl) (.int .u8 ((1 : Nat) : Int)) (run_load_op rfl rfl lk0.out) ?_
          simp only [Act.put, List.setIfInBounds_toArray, List.set_cons_zero, List.set_cons_succ]
          refine wpList_yields (by kernel_rfl) (.slice (some ⟨g1, 0, none⟩) 1 1) w1 (by rw [hw1.out, hg1.out]; go_simp) ?_
          simp only [Act.put, List.setIfInBounds_toArray, List.set_cons_zero, List.set_cons_succ]
          refine wpList_reads (by kernel_rfl) (.slice (some ⟨g1, 0, none⟩) 1 1) (by go_simp) ?_
          simp only [Act.put, List.setIfInBounds_toArray, List.set_cons_zero, List.set_cons_succ]
          go_upto_region 4 with (fail)
          refine wp_region_lit ?_
          refine wpList_reads (by kernel_rfl) (.pointer (some ⟨G, 0, none⟩)) (by go_simp) ?_
          simp only [Act.put, List.setIfInBounds_toArray, List.set_cons_zero, List.set_cons_succ]
          refine wpList_reads (by kernel_rfl) (.int .u8 ((1 : Nat) : Int)) (run_load_op rfl rfl lk1.out) ?_
          simp only [Act.put, List.setIfInBounds_toArray, List.set_cons_zero, List.set_cons_succ]
          refine wpList_reads (by kernel_rfl) (.bool true) (by go_simp) ?_
          simp only [Act.put, List.setIfInBounds_toArray, List.set_cons_zero, List.set_cons_succ]
          obtain ⟨v2, w2, hr2, own2, gr2⟩ := run_append_bytes own1.out (rhello_bytes_a o x1.out) (by rw [o.a]; omega) m1.out.size 27
          have m2 : Mod (fun _ => False) w0 w2 := m1.out.trans' ((Mod.refl _ _).grown (S := fun x => (.slice (some ⟨g1, 0, none⟩) 1 1 : Value).ownBlock = some x) gr2 (fun x hx _ => hx)) (fun x hx h => by have := (own1.out.lt x h).1; omega)
          obtain ⟨A2, hA2⟩ : ∃ A, A = A0 ++ h.a := ⟨_, rfl⟩
          rw [← hA2] at own2
          have x2 := x0.out.mod m2 (fun h => h)
          obtain ⟨ll2, cc2, hv2⟩ := own_sliceV own2
          subst hv2
          replace own2 := Lib.hid own2
          replace m2 := Lib.hid m2
          replace hA2 := Lib.hid hA2
          replace x2 := Lib.hid x2
          clear gr2
          clear lk1
          go_upto_region 5 with (fail)
          refine wp_region_lit ?_
          refine wpList_reads (by kernel_rfl) (.slice (some ⟨g1, 0, none⟩) 1 1) (by go_simp) ?_
          simp only [Act.put, List.setIfInBounds_toArray, List.set_cons_zero, List.set_cons_succ]
          refine wpList_reads (by kernel_rfl) (.pointer (some ⟨G, 1, none⟩)) (by go_simp) ?_
          simp only [Act.put, List.setIfInBounds_toArray, List.set_cons_zero, List.set_cons_succ]
          refine wpList_reads (by kernel_rfl) (.slice (some ⟨G, 1, none⟩) 32 32) (by go_simp) ?_
          simp only [Act.put, List.setIfInBounds_toArray, List.set_cons_zero, List.set_cons_succ]
          refine wpList_yields (by kernel_rfl) (.slice ll2 (1 + h.a.length) cc2) w2 (run_append_opV rfl rfl rfl hr2) ?_
          simp only [Act.put, List.setIfInBounds_toArray, List.set_cons_zero, List.set_cons_succ]
          refine wpList_reads (by kernel_rfl) (.slice ll2 (1 + h.a.length) cc2) (by go_simp) ?_
          simp only [Act.put, List.setIfInBounds_toArray, List.set_cons_zero, List.set_cons_succ]
          clear hr2
          obtain ⟨n2, hn2⟩ : ∃ n, n = 1 + h.a.length := ⟨_, rfl⟩
          have own2 := own2.out
          rw [← hn2] at own2 ⊢
          have hn33 : n2 = 33 := by rw [hn2, o.a]
          replace own2 := Lib.hid own2
          replace hn2 := Lib.hid hn2
          replace hn33 := Lib.hid hn33
          obtain ⟨wy, hwy⟩ : ∃ x, x = w2 := ⟨_, rfl⟩
          have m2 := m2.out
          have own2 := own2.out
          rw [← hwy] at m2 own2 ⊢
          replace hwy := Lib.hid hwy
          replace m2 := Lib.hid m2
          replace own2 := Lib.hid own2
          go_wp2
          go_loopw [4, 5] (fun lv iv wr => ∃ i n : Nat, i ≤ 4 ∧ iv = .int .i64 (i : Int) ∧ (∀ j, j < i → h.l.getD j 0 < 4611686018427387904) ∧ Mod (fun _ => False) w0 wr ∧ n ≤ 33 + 8 * i ∧ wr.ownsRow w0.heap.size 5 1 lv n (bytesV (A2 ++ (h.l.take i).flatMap vput))) (fun _ iv _ => 4 - (intOf iv).toNat)
          case atStart => exact ⟨0, n2, by omega, rfl, fun j hj => absurd hj (Nat.not_lt_zero j), m2.out, by have := hn33.out; omega, by simpa using own2.out⟩
          case round =>
            obtain ⟨i, n, hi4, rfl, hsm, mr, hn8, own⟩ := hrel
            obtain ⟨ll, cc, hlv⟩ := own_sliceV own
            subst hlv
            have bi0 : (0 : Int) ≤ (i : Int) := by omega
            have xr := x0.out.mod mr (fun h => h)
            by_cases hlt : i < 4
            · have hd4 : decide ((i : Int) < 4) = true := by rw [decide_eq_true_iff]; omega
              obtain ⟨q, hq⟩ : ∃ q, q = h.l.getD i 0 := ⟨_, rfl⟩
              have lq := ld_u64H (rhello_l o xr i hlt)
              rw [← hq] at lq
              have hq64 : q < 18446744073709551616 := by
                rw [hq, List.getD_eq_getElem?_getD, List.getElem?_eq_getElem (by rw [o.l]; exact hlt)]
                exact o.n _ (List.getElem_mem _)
              have bI4 : ¬ (4 : Int) ≤ (i : Int) := by omega
              replace xr := Lib.hid xr
              replace lq := Lib.hid lq
              replace hq64 := Lib.hid hq64
              replace hsm := Lib.hid hsm
              replace mr := Lib.hid mr
              replace own := Lib.hid own
              replace hq := Lib.hid hq
              replace hlt := Lib.hid hlt
              replace hn8 := Lib.hid hn8
              go_upto_region 9 with (fail)
              refine wp_region_lit ?_
              refine wpList_reads (by kernel_rfl) (.int .i64 (i : Int)) (by go_simp) ?_
              simp only [Act.put, List.setIfInBounds_toArray, List.set_cons_zero, List.set_cons_succ]
              refine wpList_reads (by kernel_rfl) (.pointer (some ⟨G, 33, none⟩)) (by go_simp) ?_
              simp only [Act.put, List.setIfInBounds_toArray, List.set_cons_zero, List.set_cons_succ]
              refine wpList_reads (by kernel_rfl) (.pointer (some ⟨G, 33 + i, none⟩)) (by go_simp) ?_
              simp only [Act.put, List.setIfInBounds_toArray, List.set_cons_zero, List.set_cons_succ]
              refine wpList_reads (by kernel_rfl) (.int .u64 (q : Int)) (run_load_op rfl rfl lq.out) ?_
              simp only [Act.put, List.setIfInBounds_toArray, List.set_cons_zero, List.set_cons_succ]
              clear lq
              refine wpList_enter (by kernel_rfl) 58 #[.int .u64 (q : Int)] (by go_simp) (refput_any q hq64.out wr) ?_
              rintro e w3 ⟨m3, h3⟩
              by_cases hbig : q < 4611686018427387904
              · rw [if_pos hbig] at h3
                obtain ⟨v, rfl, ownv⟩ := h3
                have mr3 := mr.out.trans m3
                have own3 := ownsRow_keep0 own.out m3
                have bv := byteAt_of_own ownv
                have hvl : (vput q).length ≤ 8 := by
                  rw [vput_length]
                  unfold vsz
                  rcases four (vhi_lt q) with h | h | h | h <;> rw [h] <;> decide
                obtain ⟨v9, w9, hr9, own9, gr9⟩ := run_append_bytes own3 bv (by have := hn8.out; omega) mr3.size 27
                have m9 : Mod (fun _ => False) w0 w9 := mr3.trans' ((Mod.refl _ _).grown (S := fun x => (Value.slice ll n cc).ownBlock = some x) gr9 (fun x hx _ => hx)) (fun x hx h => by have := (own3.lt x h).1; omega)
                have htk : A2 ++ (h.l.take i).flatMap vput ++ vput q = A2 ++ (h.l.take (i + 1)).flatMap vput := by
                  rw [List.append_assoc, List.take_add_one, List.getElem?_eq_getElem (by rw [o.l]; exact hlt.out), List.flatMap_append]
                  have : h.l[i]'(by rw [o.l]; exact hlt.out) = q := by rw [hq.out, List.getD_eq_getElem?_getD, List.getElem?_eq_getElem (by rw [o.l]; exact hlt.out)]; rfl
                  rw [this]
                  simp
                rw [htk] at own9
                have hsm9 : ∀ j, j < i + 1 → h.l.getD j 0 < 4611686018427387904 := fun j hj => by
                  by_cases hji : j < i
                  · exact hsm.out j hji
                  · have : j = i := by omega
                    rw [this, ← hq.out]; exact hbig
                have hn9 : n + (vput q).length ≤ 33 + 8 * (i + 1) := by have := hn8.out; omega
                obtain ⟨n9, hn9e⟩ : ∃ n9, n9 = n + (vput q).length := ⟨_, rfl⟩
                rw [← hn9e] at own9 hn9
                obtain ⟨av, cv, hav⟩ := own_sliceV ownv
                subst hav
                replace own9 := Lib.hid own9
                replace m9 := Lib.hid m9
                replace hsm9 := Lib.hid hsm9
                replace hn9 := Lib.hid hn9
                replace hn9e := Lib.hid hn9e
                clear htk gr9 bv own3 mr3 ownv m3 hvl hbig
                refine ⟨_, rfl, ?_⟩
                simp only [Act.put, List.setIfInBounds_toArray, List.set_cons_zero, List.set_cons_succ]
                refine wpList_reads (by kernel_rfl) (.tuple #[.slice av (vput q).length cv, .int .i64 0]) (by go_simp) ?_
                simp only [Act.put, List.setIfInBounds_toArray, List.set_cons_zero, List.set_cons_succ]
                refine wpList_reads (by kernel_rfl) (.slice av (vput q).length cv) (by go_simp) ?_
                simp only [Act.put, List.setIfInBounds_toArray, List.set_cons_zero, List.set_cons_succ]
                refine wpList_reads (by kernel_rfl) (.int .i64 0) (by go_simp) ?_
                simp only [Act.put, List.setIfInBounds_toArray, List.set_cons_zero, List.set_cons_succ]
                refine wpList_reads (by kernel_rfl) (.slice av (vput q).length cv) (by go_simp) ?_
                simp only [Act.put, List.setIfInBounds_toArray, List.set_cons_zero, List.set_cons_succ]
                refine wpList_reads (by kernel_rfl) (.int .i64 0) (by go_simp) ?_
                simp only [Act.put, List.setIfInBounds_toArray, List.set_cons_zero, List.set_cons_succ]
                go_upto_region 12 with (fail)
                refine wp_region_lit ?_
                refine wpList_reads (by kernel_rfl) (.slice ll n cc) (by go_simp) ?_
                simp only [Act.put, List.setIfInBounds_toArray, List.set_cons_zero, List.set_cons_succ]
                refine wpList_reads (by kernel_rfl) (.slice av (vput q).length cv) (by go_simp) ?_
                simp only [Act.put, List.setIfInBounds_toArray, List.set_cons_zero, List.set_cons_succ]
                refine wpList_yields (by kernel_rfl) v9 w9 (run_append_opV rfl rfl rfl hr9) ?_
                simp only [Act.put, List.setIfInBounds_toArray, List.set_cons_zero, List.set_cons_succ]
                refine wpList_reads (by kernel_rfl) (v9) (by go_simp) ?_
                simp only [Act.put, List.setIfInBounds_toArray, List.set_cons_zero, List.set_cons_succ]
                clear hr9
                go_wp2
                go_roundw
                case measure => have := hlt.out; simp [intOf]; omega
                case rel => exact ⟨i + 1, n9, by have := hlt.out; omega, by go_num, hsm9.out, m9.out, hn9.out, own9.out⟩
              · rw [if_neg hbig] at h3
                subst h3
                have hnv : ¬ HValid h := by
                  rintro ⟨_, _, _, h4⟩
                  refine hbig ?_
                  rw [hq.out, List.getD_eq_getElem?_getD, List.getElem?_eq_getElem (by rw [o.l]; exact hlt.out)]
                  exact h4 _ (List.getElem_mem _)
                have hfin := HPutAll.refused (h := h) ((m0.out.trans mr.out).trans m3) hnv
                replace hfin := Lib.hid hfin
                clear hbig hnv m3
                refine ⟨_, rfl, ?_⟩
                simp only [Act.put, List.setIfInBounds_toArray, List.set_cons_zero, List.set_cons_succ]
                refine wpList_reads (by kernel_rfl) (.tuple #[.slice none 0 0, .int .i64 1]) (by go_simp) ?_
                simp only [Act.put, List.setIfInBounds_toArray, List.set_cons_zero, List.set_cons_succ]
                refine wpList_reads (by kernel_rfl) (.slice none 0 0) (by go_simp) ?_
                simp only [Act.put, List.setIfInBounds_toArray, List.set_cons_zero, List.set_cons_succ]
                refine wpList_reads (by kernel_rfl) (.int .i64 1) (by go_simp) ?_
                simp only [Act.put, List.setIfInBounds_toArray, List.set_cons_zero, List.set_cons_succ]
                refine wpList_reads (by kernel_rfl) (.slice none 0 0) (by go_simp) ?_
                simp only [Act.put, List.setIfInBounds_toArray, List.set_cons_zero, List.set_cons_succ]
                refine wpList_reads (by kernel_rfl) (.int .i64 1) (by go_simp) ?_
                simp only [Act.put, List.setIfInBounds_toArray, List.set_cons_zero, List.set_cons_succ]
                go_wp2
                refine bodyPost_ret (results_tmp2 rfl _ _ _) rfl ?_
                exact hfin.out
            · have hi : i = 4 := by omega
              subst hi
              have hd4 : decide (((4 : Nat) : Int) < 4) = false := rfl
              rw [List.take_of_length_le (by rw [o.l]; exact Nat.le_refl _)] at own
              have hvalid : HValid h := by
                refine ⟨by rw [← hk.out]; omega, by rw [← hk.out]; omega, ?_, ?_⟩
                · exact hbare1 hk.out.symm hp0
                · intro x hx
                  obtain ⟨j, hj, rfl⟩ := List.getElem_of_mem hx
                  have := hsm j (by rw [← o.l]; exact hj)
                  rwa [List.getD_eq_getElem?_getD, List.getElem?_eq_getElem hj] at this
              have lk3 := ld_u8H (rhello_kind o xr)
              rw [← hk.out] at lk3
              obtain ⟨A3, hA3⟩ : ∃ A, A = A2 ++ h.l.flatMap vput := ⟨_, rfl⟩
              rw [← hA3] at own
              have own3 := own
              have m3 := mr
              have x3 := xr
              have hn3 : n ≤ 65 := by omega
              obtain ⟨w3, hw3⟩ : ∃ x, x = wr := ⟨_, rfl⟩
              rw [← hw3] at own3 m3 x3 lk3 ⊢
              replace hvalid := Lib.hid hvalid
              replace lk3 := Lib.hid lk3
              replace hA3 := Lib.hid hA3
              replace own3 := Lib.hid own3
              replace m3 := Lib.hid m3
              replace x3 := Lib.hid x3
              replace hn3 := Lib.hid hn3
              replace hw3 := Lib.hid hw3
              clear own mr xr hsm hn8
              go_upto_region 13 with (fail)
              refine wp_region_lit ?_
              refine wpList_reads (by kernel_rfl) (.pointer (some ⟨G, 0, none⟩)) (by go_simp) ?_
              simp only [Act.put, List.setIfInBounds_toArray, List.set_cons_zero, List.set_cons_succ]
              refine wpList_reads (by kernel_rfl) (.int .u8 ((1 : Nat) : Int)) (run_load_op rfl rfl lk3.out) ?_
              simp only [Act.put, List.setIfInBounds_toArray, List.set_cons_zero, List.set_cons_succ]
              refine wpList_reads (by kernel_rfl) (.bool false) (by go_simp) ?_
              simp only [Act.put, List.setIfInBounds_toArray, List.set_cons_zero, List.set_cons_succ]
              clear lk3
              have hfin := HPutAll.good (m0.out.trans m3.out) hvalid.out (by unfold hput; rw [← hk.out, hA3.out, hA2.out, hA0.out]; simp) (ownsRow_base0 own3.out z0.out)
              replace hfin := Lib.hid hfin
              go_wp2
              refine bodyPost_ret (results_tmp2 rfl _ _ _) rfl ?_
              exact hfin.out
        · have dp : decide (h.p = z32) = false := decide_eq_false hp0
          have hnv : ¬ HValid h := by
            rintro ⟨h1, h2, h3, _⟩
            exact hp0 (bare1 hk.out.symm h3)
          replace hnv := Lib.hid hnv
          go_enter Tryd.func13, Tryd.ntmps13
          go_upto_region 0 with (fail)
          refine wp_region_lit ?_
          refine wpList_yields (by kernel_rfl) (.pointer (some ⟨G, 0, none⟩)) w0 (by rw [hw0.out, hG.out, ← hF.out]; simp [execOp, Sem.run_bind, newVar, newRow, Value.cells]; rfl) ?_
          simp only [Act.put, List.setIfInBounds_toArray, List.set_cons_zero, List.set_cons_succ]
          refine wpList_reads (by kernel_rfl) (.slice none 0 0) (by go_simp) ?_
          simp only [Act.put, List.setIfInBounds_toArray, List.set_cons_zero, List.set_cons_succ]
          refine wpList_reads (by kernel_rfl) (.int .i64 0) (by go_simp) ?_
          simp only [Act.put, List.setIfInBounds_toArray, List.set_cons_zero, List.set_cons_succ]
          go_upto_region 1 with (fail)
          refine wp_region_lit ?_
          refine wpList_reads (by kernel_rfl) (.pointer (some ⟨G, 0, none⟩)) (by go_simp) ?_
          simp only [Act.put, List.setIfInBounds_toArray, List.set_cons_zero, List.set_cons_succ]
          refine wpList_reads (by kernel_rfl) (.int .u8 ((1 : Nat) : Int)) (run_load_op rfl rfl lk0.out) ?_
          simp only [Act.put, List.setIfInBounds_toArray, List.set_cons_zero, List.set_cons_succ]
          refine wpList_reads (by kernel_rfl) (.bool false) (by go_simp) ?_
          simp only [Act.put, List.setIfInBounds_toArray, List.set_cons_zero, List.set_cons_succ]
          refine wpList_reads (by kernel_rfl) (.bool false) (by go_simp) ?_
          simp only [Act.put, List.setIfInBounds_toArray, List.set_cons_zero, List.set_cons_succ]
          refine wpList_reads (by kernel_rfl) (.pointer (some ⟨G, 0, none⟩)) (by go_simp) ?_
          simp only [Act.put, List.setIfInBounds_toArray, List.set_cons_zero, List.set_cons_succ]
          refine wpList_reads (by kernel_rfl) (.int .u8 ((1 : Nat) : Int)) (run_load_op rfl rfl lk0.out) ?_
          simp only [Act.put, List.setIfInBounds_toArray, List.set_cons_zero, List.set_cons_succ]
          refine wpList_reads (by kernel_rfl) (.bool false) (by go_simp) ?_
          simp only [Act.put, List.setIfInBounds_toArray, List.set_cons_zero, List.set_cons_succ]
          refine wpList_reads (by kernel_rfl) (.bool false) (by go_simp) ?_
          simp only [Act.put, List.setIfInBounds_toArray, List.set_cons_zero, List.set_cons_succ]
          refine wpList_reads (by kernel_rfl) (.bool false) (by go_simp) ?_
          simp only [Act.put, List.setIfInBounds_toArray, List.set_cons_zero, List.set_cons_succ]
          refine wpList_reads (by kernel_rfl) (.pointer (some ⟨G, 0, none⟩)) (by go_simp) ?_
          simp only [Act.put, List.setIfInBounds_toArray, List.set_cons_zero, List.set_cons_succ]
          refine wpList_reads (by kernel_rfl) (.int .u8 ((1 : Nat) : Int)) (run_load_op rfl rfl lk0.out) ?_
          simp only [Act.put, List.setIfInBounds_toArray, List.set_cons_zero, List.set_cons_succ]
          refine wpList_reads (by kernel_rfl) (.bool true) (by go_simp) ?_
          simp only [Act.put, List.setIfInBounds_toArray, List.set_cons_zero, List.set_cons_succ]
          refine wpList_reads (by kernel_rfl) (.bool true) (by go_simp) ?_
          simp only [Act.put, List.setIfInBounds_toArray, List.set_cons_zero, List.set_cons_succ]
          refine wpList_reads (by kernel_rfl) (.pointer (some ⟨G, 37, none⟩)) (by go_simp) ?_
          simp only [Act.put, List.setIfInBounds_toArray, List.set_cons_zero, List.set_cons_succ]
          refine wpList_reads (by kernel_rfl) (.agg (bytesV h.p).toArray) (run_load_op rfl rfl lp0.out) ?_
          simp only [Act.put, List.setIfInBounds_toArray, List.set_cons_zero, List.set_cons_succ]
          refine wpList_yields (by kernel_rfl) _ _ (build_z32 _ _ _ rfl) ?_
          simp only [Act.put, List.setIfInBounds_toArray, List.set_cons_zero, List.set_cons_succ]
          refine wpList_yields (by kernel_rfl) _ _ (neq32_op rfl rfl rfl o.p zl) ?_
          simp only [Act.put, List.setIfInBounds_toArray, List.set_cons_zero, List.set_cons_succ]
          rw [dp]
          simp only [Bool.not_true, Bool.not_false]
          refine wpList_reads (by kernel_rfl) (.bool true) (by go_simp) ?_
          simp only [Act.put, List.setIfInBounds_toArray, List.set_cons_zero, List.set_cons_succ]
          refine wpList_reads (by kernel_rfl) (.bool true) (by go_simp) ?_
          simp only [Act.put, List.setIfInBounds_toArray, List.set_cons_zero, List.set_cons_succ]
          refine wpList_reads (by kernel_rfl) (.bool true) (by go_simp) ?_
          simp only [Act.put, List.setIfInBounds_toArray, List.set_cons_zero, List.set_cons_succ]
          go_skip
          refine wpList_reads (by kernel_rfl) (.bool true) (by go_simp) ?_
          simp only [Act.put, List.setIfInBounds_toArray, List.set_cons_zero, List.set_cons_succ]
          have hfin := HPutAll.refused (h := h) m0.out hnv.out
          replace hfin := Lib.hid hfin
          go_wp2
          refine bodyPost_ret (results_tmp2 rfl _ _ _) rfl ?_
          exact hfin.out
      · by_cases k2 : k = 2
        · subst k2
          go_enter Tryd.func13, Tryd.ntmps13
          go_upto_region 0 with (fail)
          refine wp_region_lit ?_
          refine wpList_yields (by kernel_rfl) (.pointer (some ⟨G, 0, none⟩)) w0 (by rw [hw0.out, hG.out, ← hF.out]; simp [execOp, Sem.run_bind, newVar, newRow, Value.cells]; rfl) ?_
          simp only [Act.put, List.setIfInBounds_toArray, List.set_cons_zero, List.set_cons_succ]
          refine wpList_reads (by kernel_rfl) (.slice none 0 0) (by go_simp) ?_
          simp only [Act.put, List.setIfInBounds_toArray, List.set_cons_zero, List.set_cons_succ]
          refine wpList_reads (by kernel_rfl) (.int .i64 0) (by go_simp) ?_
          simp only [Act.put, List.setIfInBounds_toArray, List.set_cons_zero, List.set_cons_succ]
          go_upto_region 1 with (fail)
          refine wp_region_lit ?_
          refine wpList_reads (by kernel_rfl) (.pointer (some ⟨G, 0, none⟩)) (by go_simp) ?_
          simp only [Act.put, List.setIfInBounds_toArray, List.set_cons_zero, List.set_cons_succ]
          refine wpList_reads (by kernel_rfl) (.int .u8 ((2 : Nat) : Int)) (run_load_op rfl rfl lk0.out) ?_
          simp only [Act.put, List.setIfInBounds_toArray, List.set_cons_zero, List.set_cons_succ]
          refine wpList_reads (by kernel_rfl) (.bool false) (by go_simp) ?_
          simp only [Act.put, List.setIfInBounds_toArray, List.set_cons_zero, List.set_cons_succ]
          refine wpList_reads (by kernel_rfl) (.bool false) (by go_simp) ?_
          simp only [Act.put, List.setIfInBounds_toArray, List.set_cons_zero, List.set_cons_succ]
          refine wpList_reads (by kernel_rfl) (.pointer (some ⟨G, 0, none⟩)) (by go_simp) ?_
          simp only [Act.put, List.setIfInBounds_toArray, List.set_cons_zero, List.set_cons_succ]
          refine wpList_reads (by kernel_rfl) (.int .u8 ((2 : Nat) : Int)) (run_load_op rfl rfl lk0.out) ?_
          simp only [Act.put, List.setIfInBounds_toArray, List.set_cons_zero, List.set_cons_succ]
          refine wpList_reads (by kernel_rfl) (.bool false) (by go_simp) ?_
          simp only [Act.put, List.setIfInBounds_toArray, List.set_cons_zero, List.set_cons_succ]
          refine wpList_reads (by kernel_rfl) (.bool false) (by go_simp) ?_
          simp only [Act.put, List.setIfInBounds_toArray, List.set_cons_zero, List.set_cons_succ]
          refine wpList_reads (by kernel_rfl) (.bool false) (by go_simp) ?_
          simp only [Act.put, List.setIfInBounds_toArray, List.set_cons_zero, List.set_cons_succ]
          refine wpList_reads (by kernel_rfl) (.pointer (some ⟨G, 0, none⟩)) (by go_simp) ?_
          simp only [Act.put, List.setIfInBounds_toArray, List.set_cons_zero, List.set_cons_succ]
          refine wpList_reads (by kernel_rfl) (.int .u8 ((2 : Nat) : Int)) (run_load_op rfl rfl lk0.out) ?_
          simp only [Act.put, List.setIfInBounds_toArray, List.set_cons_zero, List.set_cons_succ]
          refine wpList_reads (by kernel_rfl) (.bool false) (by go_simp) ?_
          simp only [Act.put, List.setIfInBounds_toArray, List.set_cons_zero, List.set_cons_succ]
          refine wpList_reads (by kernel_rfl) (.bool false) (by go_simp) ?_
          simp only [Act.put, List.setIfInBounds_toArray, List.set_cons_zero, List.set_cons_succ]
          go_skip
          refine wpList_reads (by kernel_rfl) (.bool false) (by go_simp) ?_
          simp only [Act.put, List.setIfInBounds_toArray, List.set_cons_zero, List.set_cons_succ]
          refine wpList_reads (by kernel_rfl) (.bool false) (by go_simp) ?_
          simp only [Act.put, List.setIfInBounds_toArray, List.set_cons_zero, List.set_cons_succ]
          refine wpList_reads (by kernel_rfl) (.bool false) (by go_simp) ?_
          simp only [Act.put, List.setIfInBounds_toArray, List.set_cons_zero, List.set_cons_succ]
          refine wpList_reads (by kernel_rfl) (.pointer (some ⟨G, 0, none⟩)) (by go_simp) ?_
          simp only [Act.put, List.setIfInBounds_toArray, List.set_cons_zero, List.set_cons_succ]
          refine wpList_reads (by kernel_rfl) (.int .u8 ((2 : Nat) : Int)) (run_load_op rfl rfl lk0.out) ?_
          simp only [Act.put, List.setIfInBounds_toArray, List.set_cons_zero, List.set_cons_succ]
          refine wpList_reads (by kernel_rfl) (.bool false) (by go_simp) ?_
          simp only [Act.put, List.setIfInBounds_toArray, List.set_cons_zero, List.set_cons_succ]
          refine wpList_reads (by kernel_rfl) (.bool false) (by go_simp) ?_
          simp only [Act.put, List.setIfInBounds_toArray, List.set_cons_zero, List.set_cons_succ]
          go_skip
          refine wpList_reads (by kernel_rfl) (.bool false) (by go_simp) ?_
          simp only [Act.put, List.setIfInBounds_toArray, List.set_cons_zero, List.set_cons_succ]
          refine wpList_reads (by kernel_rfl) (.bool false) (by go_simp) ?_
          simp only [Act.put, List.setIfInBounds_toArray, List.set_cons_zero, List.set_cons_succ]
          obtain ⟨w1, hw1⟩ : ∃ x, x = w0.alloc (.cells #[.int .u8 ((2 : Nat) : Int)] 5) := ⟨_, rfl⟩
          obtain ⟨g1, hg1⟩ : ∃ g, g = w0.heap.size := ⟨_, rfl⟩
          have m1 : Mod (fun _ => False) w0 w1 := by rw [hw1]; exact (Mod.refl _ _).alloc _
          obtain ⟨A0, hA0⟩ : ∃ A : List (BitVec 8), A = [BitVec.ofNat 8 2] := ⟨_, rfl⟩
          have own1 : w1.ownsRow w0.heap.size 5 1 (.slice (some ⟨g1, 0, none⟩) 1 1) 1 (bytesV A0) := by
            have hq : bytesV A0 = (#[.int .u8 ((2 : Nat) : Int)] : Array Value).toList := by rw [hA0]; rfl
            rw [hw1, hg1, hq]
            exact World.ownsRow_lit w0 _ 1 (Nat.le_refl _) (by decide) rfl
          have x1 := x0.out.mod m1 (fun h => h)
          have lk1 := ld_u8H (rhello_kind o x1)
          rw [← hk.out] at lk1
          replace hw1 := Lib.hid hw1
          replace hg1 := Lib.hid hg1
          replace hA0 := Lib.hid hA0
          replace own1 := Lib.hid own1
          replace x1 := Lib.hid x1
          replace m1 := Lib.hid m1
          replace lk1 := Lib.hid lk1
          go_upto_region 3 with (fail)
          refine wp_region_lit ?_
          refine wpList_reads (by kernel_rfl) (.pointer (some ⟨G, 0, none⟩)) (by go_simp) ?_
          simp only [Act.put, List.setIfInBounds_toArray, List.set_cons_zero, List.set_cons_succ]
          refine wpList_reads (by kernel_rfl) (.int .u8 ((2 : Nat) : Int)) (run_load_op rfl rfl lk0.out) ?_
          simp only [Act.put, List.setIfInBounds_toArray, List.set_cons_zero, List.set_cons_succ]
          refine wpList_yields (by kernel_rfl) (.slice (some ⟨g1, 0, none⟩) 1 1) w1 (by rw [hw1.out, hg1.out]; go_simp) ?_
          simp only [Act.put, List.setIfInBounds_toArray, List.set_cons_zero, List.set_cons_succ]
          refine wpList_reads (by kernel_rfl) (.slice (some ⟨g1, 0, none⟩) 1 1) (by go_simp) ?_
          simp only [Act.put, List.setIfInBounds_toArray, List.set_cons_zero, List.set_cons_succ]
          go_upto_region 4 with (fail)
          refine wp_region_lit ?_
          refine wpList_reads (by kernel_rfl) (.pointer (some ⟨G, 0, none⟩)) (by go_simp) ?_
          simp only [Act.put, List.setIfInBounds_toArray, List.set_cons_zero, List.set_cons_succ]
          refine wpList_reads (by kernel_rfl) (.int .u8 ((2 : Nat) : Int)) (run_load_op rfl rfl lk1.out) ?_
          simp only [Act.put, List.setIfInBounds_toArray, List.set_cons_zero, List.set_cons_succ]
          refine wpList_reads (by kernel_rfl) (.bool true) (by go_simp) ?_
          simp only [Act.put, List.setIfInBounds_toArray, List.set_cons_zero, List.set_cons_succ]
          obtain ⟨v2, w2, hr2, own2, gr2⟩ := run_append_bytes own1.out (rhello_bytes_a o x1.out) (by rw [o.a]; omega) m1.out.size 27
          have m2 : Mod (fun _ => False) w0 w2 := m1.out.trans' ((Mod.refl _ _).grown (S := fun x => (.slice (some ⟨g1, 0, none⟩) 1 1 : Value).ownBlock = some x) gr2 (fun x hx _ => hx)) (fun x hx h => by have := (own1.out.lt x h).1; omega)
          obtain ⟨A2, hA2⟩ : ∃ A, A = A0 ++ h.a := ⟨_, rfl⟩
          rw [← hA2] at own2
          have x2 := x0.out.mod m2 (fun h => h)
          obtain ⟨ll2, cc2, hv2⟩ := own_sliceV own2
          subst hv2
          replace own2 := Lib.hid own2
          replace m2 := Lib.hid m2
          replace hA2 := Lib.hid hA2
          replace x2 := Lib.hid x2
          clear gr2
          clear lk1
          go_upto_region 5 with (fail)
          refine wp_region_lit ?_
          refine wpList_reads (by kernel_rfl) (.slice (some ⟨g1, 0, none⟩) 1 1) (by go_simp) ?_
          simp only [Act.put, List.setIfInBounds_toArray, List.set_cons_zero, List.set_cons_succ]
          refine wpList_reads (by kernel_rfl) (.pointer (some ⟨G, 1, none⟩)) (by go_simp) ?_
          simp only [Act.put, List.setIfInBounds_toArray, List.set_cons_zero, List.set_cons_succ]
          refine wpList_reads (by kernel_rfl) (.slice (some ⟨G, 1, none⟩) 32 32) (by go_simp) ?_
          simp only [Act.put, List.setIfInBounds_toArray, List.set_cons_zero, List.set_cons_succ]
          refine wpList_yields (by kernel_rfl) (.slice ll2 (1 + h.a.length) cc2) w2 (run_append_opV rfl rfl rfl hr2) ?_
          simp only [Act.put, List.setIfInBounds_toArray, List.set_cons_zero, List.set_cons_succ]
          refine wpList_reads (by kernel_rfl) (.slice ll2 (1 + h.a.length) cc2) (by go_simp) ?_
          simp only [Act.put, List.setIfInBounds_toArray, List.set_cons_zero, List.set_cons_succ]
          clear hr2
          obtain ⟨n2, hn2⟩ : ∃ n, n = 1 + h.a.length := ⟨_, rfl⟩
          have own2 := own2.out
          rw [← hn2] at own2 ⊢
          have hn33 : n2 = 33 := by rw [hn2, o.a]
          replace own2 := Lib.hid own2
          replace hn2 := Lib.hid hn2
          replace hn33 := Lib.hid hn33
          obtain ⟨wy, hwy⟩ : ∃ x, x = w2 := ⟨_, rfl⟩
          have m2 := m2.out
          have own2 := own2.out
          rw [← hwy] at m2 own2 ⊢
          replace hwy := Lib.hid hwy
          replace m2 := Lib.hid m2
          replace own2 := Lib.hid own2
          go_wp2
          go_loopw [4, 5] (fun lv iv wr => ∃ i n : Nat, i ≤ 4 ∧ iv = .int .i64 (i : Int) ∧ (∀ j, j < i → h.l.getD j 0 < 4611686018427387904) ∧ Mod (fun _ => False) w0 wr ∧ n ≤ 33 + 8 * i ∧ wr.ownsRow w0.heap.size 5 1 lv n (bytesV (A2 ++ (h.l.take i).flatMap vput))) (fun _ iv _ => 4 - (intOf iv).toNat)
          case atStart => exact ⟨0, n2, by omega, rfl, fun j hj => absurd hj (Nat.not_lt_zero j), m2.out, by have := hn33.out; omega, by simpa using own2.out⟩
          case round =>
            obtain ⟨i, n, hi4, rfl, hsm, mr, hn8, own⟩ := hrel
            obtain ⟨ll, cc, hlv⟩ := own_sliceV own
            subst hlv
            have bi0 : (0 : Int) ≤ (i : Int) := by omega
            have xr := x0.out.mod mr (fun h => h)
            by_cases hlt : i < 4
            · have hd4 : decide ((i : Int) < 4) = true := by rw [decide_eq_true_iff]; omega
              obtain ⟨q, hq⟩ : ∃ q, q = h.l.getD i 0 := ⟨_, rfl⟩
              have lq := ld_u64H (rhello_l o xr i hlt)
              rw [← hq] at lq
              have hq64 : q < 18446744073709551616 := by
                rw [hq, List.getD_eq_getElem?_getD, List.getElem?_eq_getElem (by rw [o.l]; exact hlt)]
                exact o.n _ (List.getElem_mem _)
              have bI4 : ¬ (4 : Int) ≤ (i : Int) := by omega
              replace xr := Lib.hid xr
              replace lq := Lib.hid lq
              replace hq64 := Lib.hid hq64
              replace hsm := Lib.hid hsm
              replace mr := Lib.hid mr
              replace own := Lib.hid own
              replace hq := Lib.hid hq
              replace hlt := Lib.hid hlt
              replace hn8 := Lib.hid hn8
              go_upto_region 9 with (fail)
              refine wp_region_lit ?_
              refine wpList_reads (by kernel_rfl) (.int .i64 (i : Int)) (by go_simp) ?_
              simp only [Act.put, List.setIfInBounds_toArray, List.set_cons_zero, List.set_cons_succ]
              refine wpList_reads (by kernel_rfl) (.pointer (some ⟨G, 33, none⟩)) (by go_simp) ?_
              simp only [Act.put, List.setIfInBounds_toArray, List.set_cons_zero, List.set_cons_succ]
              refine wpList_reads (by kernel_rfl) (.pointer (some ⟨G, 33 + i, none⟩)) (by go_simp) ?_
              simp only [Act.put, List.setIfInBounds_toArray, List.set_cons_zero, List.set_cons_succ]
              refine wpList_reads (by kernel_rfl) (.int .u64 (q : Int)) (run_load_op rfl rfl lq.out) ?_
              simp only [Act.put, List.setIfInBounds_toArray, List.set_cons_zero, List.set_cons_succ]
              clear lq
              refine wpList_enter (by kernel_rfl) 58 #[.int .u64 (q : Int)] (by go_simp) (refput_any q hq64.out wr) ?_
              rintro e w3 ⟨m3, h3⟩
              by_cases hbig : q < 4611686018427387904
              · rw [if_pos hbig] at h3
                obtain ⟨v, rfl, ownv⟩ := h3
                have mr3 := mr.out.trans m3
                have own3 := ownsRow_keep0 own.out m3
                have bv := byteAt_of_own ownv
                have hvl : (vput q).length ≤ 8 := by
                  rw [vput_length]
                  unfold vsz
                  rcases four (vhi_lt q) with h | h | h | h <;> rw [h] <;> decide
                obtain ⟨v9, w9, hr9, own9, gr9⟩ := run_append_bytes own3 bv (by have := hn8.out; omega) mr3.size 27
                have m9 : Mod (fun _ => False) w0 w9 := mr3.trans' ((Mod.refl _ _).grown (S := fun x => (Value.slice ll n cc).ownBlock = some x) gr9 (fun x hx _ => hx)) (fun x hx h => by have := (own3.lt x h).1; omega)
                have htk : A2 ++ (h.l.take i).flatMap vput ++ vput q = A2 ++ (h.l.take (i + 1)).flatMap vput := by
                  rw [List.append_assoc, List.take_add_one, List.getElem?_eq_getElem (by rw [o.l]; exact hlt.out), List.flatMap_append]
                  have : h.l[i]'(by rw [o.l]; exact hlt.out) = q := by rw [hq.out, List.getD_eq_getElem?_getD, List.getElem?_eq_getElem (by rw [o.l]; exact hlt.out)]; rfl
                  rw [this]
                  simp
                rw [htk] at own9
                have hsm9 : ∀ j, j < i + 1 → h.l.getD j 0 < 4611686018427387904 := fun j hj => by
                  by_cases hji : j < i
                  · exact hsm.out j hji
                  · have : j = i := by omega
                    rw [this, ← hq.out]; exact hbig
                have hn9 : n + (vput q).length ≤ 33 + 8 * (i + 1) := by have := hn8.out; omega
                obtain ⟨n9, hn9e⟩ : ∃ n9, n9 = n + (vput q).length := ⟨_, rfl⟩
                rw [← hn9e] at own9 hn9
                obtain ⟨av, cv, hav⟩ := own_sliceV ownv
                subst hav
                replace own9 := Lib.hid own9
                replace m9 := Lib.hid m9
                replace hsm9 := Lib.hid hsm9
                replace hn9 := Lib.hid hn9
                replace hn9e := Lib.hid hn9e
                clear htk gr9 bv own3 mr3 ownv m3 hvl hbig
                refine ⟨_, rfl, ?_⟩
                simp only [Act.put, List.setIfInBounds_toArray, List.set_cons_zero, List.set_cons_succ]
                refine wpList_reads (by kernel_rfl) (.tuple #[.slice av (vput q).length cv, .int .i64 0]) (by go_simp) ?_
                simp only [Act.put, List.setIfInBounds_toArray, List.set_cons_zero, List.set_cons_succ]
                refine wpList_reads (by kernel_rfl) (.slice av (vput q).length cv) (by go_simp) ?_
                simp only [Act.put, List.setIfInBounds_toArray, List.set_cons_zero, List.set_cons_succ]
                refine wpList_reads (by kernel_rfl) (.int .i64 0) (by go_simp) ?_
                simp only [Act.put, List.setIfInBounds_toArray, List.set_cons_zero, List.set_cons_succ]
                refine wpList_reads (by kernel_rfl) (.slice av (vput q).length cv) (by go_simp) ?_
                simp only [Act.put, List.setIfInBounds_toArray, List.set_cons_zero, List.set_cons_succ]
                refine wpList_reads (by kernel_rfl) (.int .i64 0) (by go_simp) ?_
                simp only [Act.put, List.setIfInBounds_toArray, List.set_cons_zero, List.set_cons_succ]
                go_upto_region 12 with (fail)
                refine wp_region_lit ?_
                refine wpList_reads (by kernel_rfl) (.slice ll n cc) (by go_simp) ?_
                simp only [Act.put, List.setIfInBounds_toArray, List.set_cons_zero, List.set_cons_succ]
                refine wpList_reads (by kernel_rfl) (.slice av (vput q).length cv) (by go_simp) ?_
                simp only [Act.put, List.setIfInBounds_toArray, List.set_cons_zero, List.set_cons_succ]
                refine wpList_yields (by kernel_rfl) v9 w9 (run_append_opV rfl rfl rfl hr9) ?_
                simp only [Act.put, List.setIfInBounds_toArray, List.set_cons_zero, List.set_cons_succ]
                refine wpList_reads (by kernel_rfl) (v9) (by go_simp) ?_
                simp only [Act.put, List.setIfInBounds_toArray, List.set_cons_zero, List.set_cons_succ]
                clear hr9
                go_wp2
                go_roundw
                case measure => have := hlt.out; simp [intOf]; omega
                case rel => exact ⟨i + 1, n9, by have := hlt.out; omega, by go_num, hsm9.out, m9.out, hn9.out, own9.out⟩
              · rw [if_neg hbig] at h3
                subst h3
                have hnv : ¬ HValid h := by
                  rintro ⟨_, _, _, h4⟩
                  refine hbig ?_
                  rw [hq.out, List.getD_eq_getElem?_getD, List.getElem?_eq_getElem (by rw [o.l]; exact hlt.out)]
                  exact h4 _ (List.getElem_mem _)
                have hfin := HPutAll.refused (h := h) ((m0.out.trans mr.out).trans m3) hnv
                replace hfin := Lib.hid hfin
                clear hbig hnv m3
                refine ⟨_, rfl, ?_⟩
                simp only [Act.put, List.setIfInBounds_toArray, List.set_cons_zero, List.set_cons_succ]
                refine wpList_reads (by kernel_rfl) (.tuple #[.slice none 0 0, .int .i64 1]) (by go_simp) ?_
                simp only [Act.put, List.setIfInBounds_toArray, List.set_cons_zero, List.set_cons_succ]
                refine wpList_reads (by kernel_rfl) (.slice none 0 0) (by go_simp) ?_
                simp only [Act.put, List.setIfInBounds_toArray, List.set_cons_zero, List.set_cons_succ]
                refine wpList_reads (by kernel_rfl) (.int .i64 1) (by go_simp) ?_
                simp only [Act.put, List.setIfInBounds_toArray, List.set_cons_zero, List.set_cons_succ]
                refine wpList_reads (by kernel_rfl) (.slice none 0 0) (by go_simp) ?_
                simp only [Act.put, List.setIfInBounds_toArray, List.set_cons_zero, List.set_cons_succ]
                refine wpList_reads (by kernel_rfl) (.int .i64 1) (by go_simp) ?_
                simp only [Act.put, List.setIfInBounds_toArray, List.set_cons_zero, List.set_cons_succ]
                go_wp2
                refine bodyPost_ret (results_tmp2 rfl _ _ _) rfl ?_
                exact hfin.out
            · have hi : i = 4 := by omega
              subst hi
              have hd4 : decide (((4 : Nat) : Int) < 4) = false := rfl
              rw [List.take_of_length_le (by rw [o.l]; exact Nat.le_refl _)] at own
              have hvalid : HValid h := by
                refine ⟨by rw [← hk.out]; omega, by rw [← hk.out]; omega, ?_, ?_⟩
                · exact hbare2 hk.out.symm
                · intro x hx
                  obtain ⟨j, hj, rfl⟩ := List.getElem_of_mem hx
                  have := hsm j (by rw [← o.l]; exact hj)
                  rwa [List.getD_eq_getElem?_getD, List.getElem?_eq_getElem hj] at this
              have lk3 := ld_u8H (rhello_kind o xr)
              rw [← hk.out] at lk3
              obtain ⟨A3, hA3⟩ : ∃ A, A = A2 ++ h.l.flatMap vput := ⟨_, rfl⟩
              rw [← hA3] at own
              have own3 := own
              have m3 := mr
              have x3 := xr
              have hn3 : n ≤ 65 := by omega
              obtain ⟨w3, hw3⟩ : ∃ x, x = wr := ⟨_, rfl⟩
              rw [← hw3] at own3 m3 x3 lk3 ⊢
              replace hvalid := Lib.hid hvalid
              replace lk3 := Lib.hid lk3
              replace hA3 := Lib.hid hA3
              replace own3 := Lib.hid own3
              replace m3 := Lib.hid m3
              replace x3 := Lib.hid x3
              replace hn3 := Lib.hid hn3
              replace hw3 := Lib.hid hw3
              clear own mr xr hsm hn8
              go_upto_region 13 with (fail)
              refine wp_region_lit ?_
              refine wpList_reads (by kernel_rfl) (.pointer (some ⟨G, 0, none⟩)) (by go_simp) ?_
              simp only [Act.put, List.setIfInBounds_toArray, List.set_cons_zero, List.set_cons_succ]
              refine wpList_reads (by kernel_rfl) (.int .u8 ((2 : Nat) : Int)) (run_load_op rfl rfl lk3.out) ?_
              simp only [Act.put, List.setIfInBounds_toArray, List.set_cons_zero, List.set_cons_succ]
              refine wpList_reads (by kernel_rfl) (.bool true) (by go_simp) ?_
              simp only [Act.put, List.setIfInBounds_toArray, List.set_cons_zero, List.set_cons_succ]
              clear lk3
              obtain ⟨v4, w4, hr4, own4, gr4⟩ := run_append_bytes own3.out (rhello_bytes_p o x3.out) (by rw [o.p]; have := hn3.out; omega) m3.out.size 27
              have m4 : Mod (fun _ => False) w0 w4 := m3.out.trans' ((Mod.refl _ _).grown (S := fun x => (.slice ll n cc : Value).ownBlock = some x) gr4 (fun x hx _ => hx)) (fun x hx h => by have := (own3.out.lt x h).1; omega)
              obtain ⟨A4, hA4⟩ : ∃ A, A = A3 ++ h.p := ⟨_, rfl⟩
              rw [← hA4] at own4
              have x4 := x0.out.mod m4 (fun h => h)
              obtain ⟨ll4, cc4, hv4⟩ := own_sliceV own4
              subst hv4
              replace own4 := Lib.hid own4
              replace m4 := Lib.hid m4
              replace hA4 := Lib.hid hA4
              replace x4 := Lib.hid x4
              clear gr4
              go_upto_region 14 with (fail)
              refine wp_region_lit ?_
              refine wpList_reads (by kernel_rfl) (.slice ll n cc) (by go_simp) ?_
              simp only [Act.put, List.setIfInBounds_toArray, List.set_cons_zero, List.set_cons_succ]
              refine wpList_reads (by kernel_rfl) (.pointer (some ⟨G, 37, none⟩)) (by go_simp) ?_
              simp only [Act.put, List.setIfInBounds_toArray, List.set_cons_zero, List.set_cons_succ]
              refine wpList_reads (by kernel_rfl) (.slice (some ⟨G, 37, none⟩) 32 32) (by go_simp) ?_
              simp only [Act.put, List.setIfInBounds_toArray, List.set_cons_zero, List.set_cons_succ]
              refine wpList_yields (by kernel_rfl) (.slice ll4 (n + h.p.length) cc4) w4 (run_append_opV rfl rfl rfl hr4) ?_
              simp only [Act.put, List.setIfInBounds_toArray, List.set_cons_zero, List.set_cons_succ]
              refine wpList_reads (by kernel_rfl) (.slice ll4 (n + h.p.length) cc4) (by go_simp) ?_
              simp only [Act.put, List.setIfInBounds_toArray, List.set_cons_zero, List.set_cons_succ]
              clear hr4
              have hfin := HPutAll.good (m0.out.trans m4.out) hvalid.out (by unfold hput; rw [← hk.out, hA4.out, hA3.out, hA2.out, hA0.out]; simp) (ownsRow_base0 own4.out z0.out)
              replace hfin := Lib.hid hfin
              go_wp2
              refine bodyPost_ret (results_tmp2 rfl _ _ _) rfl ?_
              exact hfin.out
        · obtain rfl : k = 3 := by omega
          by_cases ha0 : h.a = z32
          · have da : decide (h.a = z32) = true := decide_eq_true ha0
            by_cases hl0 : h.l = z4
            · have dl : decide (h.l = z4) = true := decide_eq_true hl0
              have hvalid : HValid h := by
                refine ⟨by rw [← hk.out]; omega, by rw [← hk.out]; omega, ?_, ?_⟩
                · exact hbare3 hk.out.symm ha0 hl0
                · rw [hl0]; simp [z4]
              replace hvalid := Lib.hid hvalid
              go_enter Tryd.func13, Tryd.ntmps13
              go_upto_region 0 with (fail)
              refine wp_region_lit ?_
              refine wpList_yields (by kernel_rfl) (.pointer (some ⟨G, 0, none⟩)) w0 (by rw [hw0.out, hG.out, ← hF.out]; simp [execOp, Sem.run_bind, newVar, newRow, Value.cells]; rfl) ?_
              simp only [Act.put, List.setIfInBounds_toArray, List.set_cons_zero, List.set_cons_succ]
              refine wpList_reads (by kernel_rfl) (.slice none 0 0) (by go_simp) ?_
              simp only [Act.put, List.setIfInBounds_toArray, List.set_cons_zero, List.set_cons_succ]
              refine wpList_reads (by kernel_rfl) (.int .i64 0) (by go_simp) ?_
              simp only [Act.put, List.setIfInBounds_toArray, List.set_cons_zero, List.set_cons_succ]
              go_upto_region 1 with (fail)
              refine wp_region_lit ?_
              refine wpList_reads (by kernel_rfl) (.pointer (some ⟨G, 0, none⟩)) (by go_simp) ?_
              simp only [Act.put, List.setIfInBounds_toArray, List.set_cons_zero, List.set_cons_succ]
              refine wpList_reads (by kernel_rfl) (.int .u8 ((3 : Nat) : Int)) (run_load_op rfl rfl lk0.out) ?_
              simp only [Act.put, List.setIfInBounds_toArray, List.set_cons_zero, List.set_cons_succ]
              refine wpList_reads (by kernel_rfl) (.bool false) (by go_simp) ?_
              simp only [Act.put, List.setIfInBounds_toArray, List.set_cons_zero, List.set_cons_succ]
              refine wpList_reads (by kernel_rfl) (.bool false) (by go_simp) ?_
              simp only [Act.put, List.setIfInBounds_toArray, List.set_cons_zero, List.set_cons_succ]
              refine wpList_reads (by kernel_rfl) (.pointer (some ⟨G, 0, none⟩)) (by go_simp) ?_
              simp only [Act.put, List.setIfInBounds_toArray, List.set_cons_zero, List.set_cons_succ]
              refine wpList_reads (by kernel_rfl) (.int .u8 ((3 : Nat) : Int)) (run_load_op rfl rfl lk0.out) ?_
              simp only [Act.put, List.setIfInBounds_toArray, List.set_cons_zero, List.set_cons_succ]
              refine wpList_reads (by kernel_rfl) (.bool false) (by go_simp) ?_
              simp only [Act.put, List.setIfInBounds_toArray, List.set_cons_zero, List.set_cons_succ]
              refine wpList_reads (by kernel_rfl) (.bool false) (by go_simp) ?_
              simp only [Act.put, List.setIfInBounds_toArray, List.set_cons_zero, List.set_cons_succ]
              refine wpList_reads (by kernel_rfl) (.bool false) (by go_simp) ?_
              simp only [Act.put, List.setIfInBounds_toArray, List.set_cons_zero, List.set_cons_succ]
              refine wpList_reads (by kernel_rfl) (.pointer (some ⟨G, 0, none⟩)) (by go_simp) ?_
              simp only [Act.put, List.setIfInBounds_toArray, List.set_cons_zero, List.set_cons_succ]
              refine wpList_reads (by kernel_rfl) (.int .u8 ((3 : Nat) : Int)) (run_load_op rfl rfl lk0.out) ?_
              simp only [Act.put, List.setIfInBounds_toArray, List.set_cons_zero, List.set_cons_succ]
              refine wpList_reads (by kernel_rfl) (.bool false) (by go_simp) ?_
              simp only [Act.put, List.setIfInBounds_toArray, List.set_cons_zero, List.set_cons_succ]
              refine wpList_reads (by kernel_rfl) (.bool false) (by go_simp) ?_
              simp only [Act.put, List.setIfInBounds_toArray, List.set_cons_zero, List.set_cons_succ]
              go_skip
              refine wpList_reads (by kernel_rfl) (.bool false) (by go_simp) ?_
              simp only [Act.put, List.setIfInBounds_toArray, List.set_cons_zero, List.set_cons_succ]
              refine wpList_reads (by kernel_rfl) (.bool false) (by go_simp) ?_
              simp only [Act.put, List.setIfInBounds_toArray, List.set_cons_zero, List.set_cons_succ]
              refine wpList_reads (by kernel_rfl) (.bool false) (by go_simp) ?_
              simp only [Act.put, List.setIfInBounds_toArray, List.set_cons_zero, List.set_cons_succ]
              refine wpList_reads (by kernel_rfl) (.pointer (some ⟨G, 0, none⟩)) (by go_simp) ?_
              simp only [Act.put, List.setIfInBounds_toArray, List.set_cons_zero, List.set_cons_succ]
              refine wpList_reads (by kernel_rfl) (.int .u8 ((3 : Nat) : Int)) (run_load_op rfl rfl lk0.out) ?_
              simp only [Act.put, List.setIfInBounds_toArray, List.set_cons_zero, List.set_cons_succ]
              refine wpList_reads (by kernel_rfl) (.bool true) (by go_simp) ?_
              simp only [Act.put, List.setIfInBounds_toArray, List.set_cons_zero, List.set_cons_succ]
              refine wpList_reads (by kernel_rfl) (.bool true) (by go_simp) ?_
              simp only [Act.put, List.setIfInBounds_toArray, List.set_cons_zero, List.set_cons_succ]
              refine wpList_reads (by kernel_rfl) (.pointer (some ⟨G, 1, none⟩)) (by go_simp) ?_
              simp only [Act.put, List.setIfInBounds_toArray, List.set_cons_zero, List.set_cons_succ]
              refine wpList_reads (by kernel_rfl) (.agg (bytesV h.a).toArray) (run_load_op rfl rfl la0.out) ?_
              simp only [Act.put, List.setIfInBounds_toArray, List.set_cons_zero, List.set_cons_succ]
              refine wpList_yields (by kernel_rfl) _ _ (build_z32 _ _ _ rfl) ?_
              simp only [Act.put, List.setIfInBounds_toArray, List.set_cons_zero, List.set_cons_succ]
              refine wpList_yields (by kernel_rfl) _ _ (neq32_op rfl rfl rfl o.a zl) ?_
              simp only [Act.put, List.setIfInBounds_toArray, List.set_cons_zero, List.set_cons_succ]
              rw [da]
              simp only [Bool.not_true, Bool.not_false]
              refine wpList_reads (by kernel_rfl) (.bool false) (by go_simp) ?_
              simp only [Act.put, List.setIfInBounds_toArray, List.set_cons_zero, List.set_cons_succ]
              refine wpList_reads (by kernel_rfl) (.pointer (some ⟨G, 33, none⟩)) (by go_simp) ?_
              simp only [Act.put, List.setIfInBounds_toArray, List.set_cons_zero, List.set_cons_succ]
              refine wpList_reads (by kernel_rfl) (.agg (nums .u64 h.l).toArray) (run_load_op rfl rfl ll0.out) ?_
              simp only [Act.put, List.setIfInBounds_toArray, List.set_cons_zero, List.set_cons_succ]
              refine wpList_yields (by kernel_rfl) _ _ (build_z4 _ _ _ rfl) ?_
              simp only [Act.put, List.setIfInBounds_toArray, List.set_cons_zero, List.set_cons_succ]
              refine wpList_yields (by kernel_rfl) _ _ (neq4_op rfl rfl rfl o.l zl4) ?_
              simp only [Act.put, List.setIfInBounds_toArray, List.set_cons_zero, List.set_cons_succ]
              rw [dl]
              simp only [Bool.not_true, Bool.not_false]
              refine wpList_reads (by kernel_rfl) (.bool false) (by go_simp) ?_
              simp only [Act.put, List.setIfInBounds_toArray, List.set_cons_zero, List.set_cons_succ]
              refine wpList_reads (by kernel_rfl) (.bool false) (by go_simp) ?_
              simp only [Act.put, List.setIfInBounds_toArray, List.set_cons_zero, List.set_cons_succ]
              refine wpList_reads (by kernel_rfl) (.bool false) (by go_simp) ?_
              simp only [Act.put, List.setIfInBounds_toArray, List.set_cons_zero, List.set_cons_succ]
              obtain ⟨w1, hw1⟩ : ∃ x, x = w0.alloc (.cells #[.int .u8 ((3 : Nat) : Int)] 5) := ⟨_, rfl⟩
              obtain ⟨g1, hg1⟩ : ∃ g, g = w0.heap.size := ⟨_, rfl⟩
              have m1 : Mod (fun _ => False) w0 w1 := by rw [hw1]; exact (Mod.refl _ _).alloc _
              obtain ⟨A0, hA0⟩ : ∃ A : List (BitVec 8), A = [BitVec.ofNat 8 3] := ⟨_, rfl⟩
              have own1 : w1.ownsRow w0.heap.size 5 1 (.slice (some ⟨g1, 0, none⟩) 1 1) 1 (bytesV A0) := by
                have hq : bytesV A0 = (#[.int .u8 ((3 : Nat) : Int)] : Array Value).toList := by rw [hA0]; rfl
                rw [hw1, hg1, hq]
                exact World.ownsRow_lit w0 _ 1 (Nat.le_refl _) (by decide) rfl
              have x1 := x0.out.mod m1 (fun h => h)
              have lk1 := ld_u8H (rhello_kind o x1)
              rw [← hk.out] at lk1
              replace hw1 := Lib.hid hw1
              replace hg1 := Lib.hid hg1
              replace hA0 := Lib.hid hA0
              replace own1 := Lib.hid own1
              replace x1 := Lib.hid x1
              replace m1 := Lib.hid m1
              replace lk1 := Lib.hid lk1
              go_upto_region 3 with (fail)
              refine wp_region_lit ?_
              refine wpList_reads (by kernel_rfl) (.pointer (some ⟨G, 0, none⟩)) (by go_simp) ?_
              simp only [Act.put, List.setIfInBounds_toArray, List.set_cons_zero, List.set_cons_succ]
              refine wpList_reads (by kernel_rfl) (.int .u8 ((3 : Nat) : Int)) (run_load_op rfl rfl lk0.out) ?_
              simp only [Act.put, List.setIfInBounds_toArray, List.set_cons_zero, List.set_cons_succ]
              refine wpList_yields (by kernel_rfl) (.slice (some ⟨g1, 0, none⟩) 1 1) w1 (by rw [hw1.out, hg1.out]; go_simp) ?_
              simp only [Act.put, List.setIfInBounds_toArray, List.set_cons_zero, List.set_cons_succ]
              refine wpList_reads (by kernel_rfl) (.slice (some ⟨g1, 0, none⟩) 1 1) (by go_simp) ?_
              simp only [Act.put, List.setIfInBounds_toArray, List.set_cons_zero, List.set_cons_succ]
              go_upto_region 4 with (fail)
              refine wp_region_lit ?_
              refine wpList_reads (by kernel_rfl) (.pointer (some ⟨G, 0, none⟩)) (by go_simp) ?_
              simp only [Act.put, List.setIfInBounds_toArray, List.set_cons_zero, List.set_cons_succ]
              refine wpList_reads (by kernel_rfl) (.int .u8 ((3 : Nat) : Int)) (run_load_op rfl rfl lk1.out) ?_
              simp only [Act.put, List.setIfInBounds_toArray, List.set_cons_zero, List.set_cons_succ]
              refine wpList_reads (by kernel_rfl) (.bool false) (by go_simp) ?_
              simp only [Act.put, List.setIfInBounds_toArray, List.set_cons_zero, List.set_cons_succ]
              go_upto_region 13 with (fail)
              refine wp_region_lit ?_
              refine wpList_reads (by kernel_rfl) (.pointer (some ⟨G, 0, none⟩)) (by go_simp) ?_
              simp only [Act.put, List.setIfInBounds_toArray, List.set_cons_zero, List.set_cons_succ]
              refine wpList_reads (by kernel_rfl) (.int .u8 ((3 : Nat) : Int)) (run_load_op rfl rfl lk1.out) ?_
              simp only [Act.put, List.setIfInBounds_toArray, List.set_cons_zero, List.set_cons_succ]
              refine wpList_reads (by kernel_rfl) (.bool true) (by go_simp) ?_
              simp only [Act.put, List.setIfInBounds_toArray, List.set_cons_zero, List.set_cons_succ]
              obtain ⟨v2, w2, hr2, own2, gr2⟩ := run_append_bytes own1.out (rhello_bytes_p o x1.out) (by rw [o.p]; omega) m1.out.size 27
              have m2 : Mod (fun _ => False) w0 w2 := m1.out.trans' ((Mod.refl _ _).grown (S := fun x => (.slice (some ⟨g1, 0, none⟩) 1 1 : Value).ownBlock = some x) gr2 (fun x hx _ => hx)) (fun x hx h => by have := (own1.out.lt x h).1; omega)
              obtain ⟨A2, hA2⟩ : ∃ A, A = A0 ++ h.p := ⟨_, rfl⟩
              rw [← hA2] at own2
              have x2 := x0.out.mod m2 (fun h => h)
              obtain ⟨ll2, cc2, hv2⟩ := own_sliceV own2
              subst hv2
              replace own2 := Lib.hid own2
              replace m2 := Lib.hid m2
              replace hA2 := Lib.hid hA2
              replace x2 := Lib.hid x2
              clear gr2
              clear lk1
              go_upto_region 14 with (fail)
              refine wp_region_lit ?_
              refine wpList_reads (by kernel_rfl) (.slice (some ⟨g1, 0, none⟩) 1 1) (by go_simp) ?_
              simp only [Act.put, List.setIfInBounds_toArray, List.set_cons_zero, List.set_cons_succ]
              refine wpList_reads (by kernel_rfl) (.pointer (some ⟨G, 37, none⟩)) (by go_simp) ?_
              simp only [Act.put, List.setIfInBounds_toArray, List.set_cons_zero, List.set_cons_succ]
              refine wpList_reads (by kernel_rfl) (.slice (some ⟨G, 37, none⟩) 32 32) (by go_simp) ?_
              simp only [Act.put, List.setIfInBounds_toArray, List.set_cons_zero, List.set_cons_succ]
              refine wpList_yields (by kernel_rfl) (.slice ll2 (1 + h.p.length) cc2) w2 (run_append_opV rfl rfl rfl hr2) ?_
              simp only [Act.put, List.setIfInBounds_toArray, List.set_cons_zero, List.set_cons_succ]
              refine wpList_reads (by kernel_rfl) (.slice ll2 (1 + h.p.length) cc2) (by go_simp) ?_
              simp only [Act.put, List.setIfInBounds_toArray, List.set_cons_zero, List.set_cons_succ]
              clear hr2
              have hfin := HPutAll.good (m0.out.trans m2.out) hvalid.out (by unfold hput; rw [← hk.out, hA2.out, hA0.out]; simp) (ownsRow_base0 own2.out z0.out)
              replace hfin := Lib.hid hfin
              go_wp2
              refine bodyPost_ret (results_tmp2 rfl _ _ _) rfl ?_
              exact hfin.out
            · have dl : decide (h.l = z4) = false := decide_eq_false hl0
              have hnv : ¬ HValid h := by
                rintro ⟨h1, h2, h3, _⟩
                exact hl0 (bare3l hk.out.symm h3)
              replace hnv := Lib.hid hnv
              go_enter Tryd.func13, Tryd.ntmps13
              go_upto_region 0 with (fail)
              refine wp_region_lit ?_
              refine wpList_yields (by kernel_rfl) (.pointer (some ⟨G, 0, none⟩)) w0 (by rw [hw0.out, hG.out, ← hF.out]; simp [execOp, Sem.run_bind, newVar, newRow, Value.cells]; rfl) ?_
              simp only [Act.put, List.setIfInBounds_toArray, List.set_cons_zero, List.set_cons_succ]
              refine wpList_reads (by kernel_rfl) (.slice none 0 0) (by go_simp) ?_
              simp only [Act.put, List.setIfInBounds_toArray, List.set_cons_zero, List.set_cons_succ]
              refine wpList_reads (by kernel_rfl) (.int .i64 0) (by go_simp) ?_
              simp only [Act.put, List.setIfInBounds_toArray, List.set_cons_zero, List.set_cons_succ]
              go_upto_region 1 with (fail)
              refine wp_region_lit ?_
              refine wpList_reads (by kernel_rfl) (.pointer (some ⟨G, 0, none⟩)) (by go_simp) ?_
              simp only [Act.put, List.setIfInBounds_toArray, List.set_cons_zero, List.set_cons_succ]
              refine wpList_reads (by kernel_rfl) (.int .u8 ((3 : Nat) : Int)) (run_load_op rfl rfl lk0.out) ?_
              simp only [Act.put, List.setIfInBounds_toArray, List.set_cons_zero, List.set_cons_succ]
              refine wpList_reads (by kernel_rfl) (.bool false) (by go_simp) ?_
              simp only [Act.put, List.setIfInBounds_toArray, List.set_cons_zero, List.set_cons_succ]
              refine wpList_reads (by kernel_rfl) (.bool false) (by go_simp) ?_
              simp only [Act.put, List.setIfInBounds_toArray, List.set_cons_zero, List.set_cons_succ]
              refine wpList_reads (by kernel_rfl) (.pointer (some ⟨G, 0, none⟩)) (by go_simp) ?_
              simp only [Act.put, List.setIfInBounds_toArray, List.set_cons_zero, List.set_cons_succ]
              refine wpList_reads (by kernel_rfl) (.int .u8 ((3 : Nat) : Int)) (run_load_op rfl rfl lk0.out) ?_
              simp only [Act.put, List.setIfInBounds_toArray, List.set_cons_zero, List.set_cons_succ]
              refine wpList_reads (by kernel_rfl) (.bool false) (by go_simp) ?_
              simp only [Act.put, List.setIfInBounds_toArray, List.set_cons_zero, List.set_cons_succ]
              refine wpList_reads (by kernel_rfl) (.bool false) (by go_simp) ?_
              simp only [Act.put, List.setIfInBounds_toArray, List.set_cons_zero, List.set_cons_succ]
              refine wpList_reads (by kernel_rfl) (.bool false) (by go_simp) ?_
              simp only [Act.put, List.setIfInBounds_toArray, List.set_cons_zero, List.set_cons_succ]
              refine wpList_reads (by kernel_rfl) (.pointer (some ⟨G, 0, none⟩)) (by go_simp) ?_
              simp only [Act.put, List.setIfInBounds_toArray, List.set_cons_zero, List.set_cons_succ]
              refine wpList_reads (by kernel_rfl) (.int .u8 ((3 : Nat) : Int)) (run_load_op rfl rfl lk0.out) ?_
              simp only [Act.put, List.setIfInBounds_toArray, List.set_cons_zero, List.set_cons_succ]
              refine wpList_reads (by kernel_rfl) (.bool false) (by go_simp) ?_
              simp only [Act.put, List.setIfInBounds_toArray, List.set_cons_zero, List.set_cons_succ]
              refine wpList_reads (by kernel_rfl) (.bool false) (by go_simp) ?_
              simp only [Act.put, List.setIfInBounds_toArray, List.set_cons_zero, List.set_cons_succ]
              go_skip
              refine wpList_reads (by kernel_rfl) (.bool false) (by go_simp) ?_
              simp only [Act.put, List.setIfInBounds_toArray, List.set_cons_zero, List.set_cons_succ]
              refine wpList_reads (by kernel_rfl) (.bool false) (by go_simp) ?_
              simp only [Act.put, List.setIfInBounds_toArray, List.set_cons_zero, List.set_cons_succ]
              refine wpList_reads (by kernel_rfl) (.bool false) (by go_simp) ?_
              simp only [Act.put, List.setIfInBounds_toArray, List.set_cons_zero, List.set_cons_succ]
              refine wpList_reads (by kernel_rfl) (.pointer (some ⟨G, 0, none⟩)) (by go_simp) ?_
              simp only [Act.put, List.setIfInBounds_toArray, List.set_cons_zero, List.set_cons_succ]
              refine wpList_reads (by kernel_rfl) (.int .u8 ((3 : Nat) : Int)) (run_load_op rfl rfl lk0.out) ?_
              simp only [Act.put, List.setIfInBounds_toArray, List.set_cons_zero, List.set_cons_succ]
              refine wpList_reads (by kernel_rfl) (.bool true) (by go_simp) ?_
              simp only [Act.put, List.setIfInBounds_toArray, List.set_cons_zero, List.set_cons_succ]
              refine wpList_reads (by kernel_rfl) (.bool true) (by go_simp) ?_
              simp only [Act.put, List.setIfInBounds_toArray, List.set_cons_zero, List.set_cons_succ]
              refine wpList_reads (by kernel_rfl) (.pointer (some ⟨G, 1, none⟩)) (by go_simp) ?_
              simp only [Act.put, List.setIfInBounds_toArray, List.set_cons_zero, List.set_cons_succ]
              refine wpList_reads (by kernel_rfl) (.agg (bytesV h.a).toArray) (run_load_op rfl rfl la0.out) ?_
              simp only [Act.put, List.setIfInBounds_toArray, List.set_cons_zero, List.set_cons_succ]
              refine wpList_yields (by kernel_rfl) _ _ (build_z32 _ _ _ rfl) ?_
              simp only [Act.put, List.setIfInBounds_toArray, List.set_cons_zero, List.set_cons_succ]
              refine wpList_yields (by kernel_rfl) _ _ (neq32_op rfl rfl rfl o.a zl) ?_
              simp only [Act.put, List.setIfInBounds_toArray, List.set_cons_zero, List.set_cons_succ]
              rw [da]
              simp only [Bool.not_true, Bool.not_false]
              refine wpList_reads (by kernel_rfl) (.bool false) (by go_simp) ?_
              simp only [Act.put, List.setIfInBounds_toArray, List.set_cons_zero, List.set_cons_succ]
              refine wpList_reads (by kernel_rfl) (.pointer (some ⟨G, 33, none⟩)) (by go_simp) ?_
              simp only [Act.put, List.setIfInBounds_toArray, List.set_cons_zero, List.set_cons_succ]
              refine wpList_reads (by kernel_rfl) (.agg (nums .u64 h.l).toArray) (run_load_op rfl rfl ll0.out) ?_
              simp only [Act.put, List.setIfInBounds_toArray, List.set_cons_zero, List.set_cons_succ]
              refine wpList_yields (by kernel_rfl) _ _ (build_z4 _ _ _ rfl) ?_
              simp only [Act.put, List.setIfInBounds_toArray, List.set_cons_zero, List.set_cons_succ]
              refine wpList_yields (by kernel_rfl) _ _ (neq4_op rfl rfl rfl o.l zl4) ?_
              simp only [Act.put, List.setIfInBounds_toArray, List.set_cons_zero, List.set_cons_succ]
              rw [dl]
              simp only [Bool.not_true, Bool.not_false]
              refine wpList_reads (by kernel_rfl) (.bool true) (by go_simp) ?_
              simp only [Act.put, List.setIfInBounds_toArray, List.set_cons_zero, List.set_cons_succ]
              refine wpList_reads (by kernel_rfl) (.bool true) (by go_simp) ?_
              simp only [Act.put, List.setIfInBounds_toArray, List.set_cons_zero, List.set_cons_succ]
              refine wpList_reads (by kernel_rfl) (.bool true) (by go_simp) ?_
              simp only [Act.put, List.setIfInBounds_toArray, List.set_cons_zero, List.set_cons_succ]
              have hfin := HPutAll.refused (h := h) m0.out hnv.out
              replace hfin := Lib.hid hfin
              go_wp2
              refine bodyPost_ret (results_tmp2 rfl _ _ _) rfl ?_
              exact hfin.out
          · have da : decide (h.a = z32) = false := decide_eq_false ha0
            have hnv : ¬ HValid h := by
              rintro ⟨h1, h2, h3, _⟩
              exact ha0 (bare3a hk.out.symm h3)
            replace hnv := Lib.hid hnv
            go_enter Tryd.func13, Tryd.ntmps13
            go_upto_region 0 with (fail)
            refine wp_region_lit ?_
            refine wpList_yields (by kernel_rfl) (.pointer (some ⟨G, 0, none⟩)) w0 (by rw [hw0.out, hG.out, ← hF.out]; simp [execOp, Sem.run_bind, newVar, newRow, Value.cells]; rfl) ?_
            simp only [Act.put, List.setIfInBounds_toArray, List.set_cons_zero, List.set_cons_succ]
            refine wpList_reads (by kernel_rfl) (.slice none 0 0) (by go_simp) ?_
            simp only [Act.put, List.setIfInBounds_toArray, List.set_cons_zero, List.set_cons_succ]
            refine wpList_reads (by kernel_rfl) (.int .i64 0) (by go_simp) ?_
            simp only [Act.put, List.setIfInBounds_toArray, List.set_cons_zero, List.set_cons_succ]
            go_upto_region 1 with (fail)
            refine wp_region_lit ?_
            refine wpList_reads (by kernel_rfl) (.pointer (some ⟨G, 0, none⟩)) (by go_simp) ?_
            simp only [Act.put, List.setIfInBounds_toArray, List.set_cons_zero, List.set_cons_succ]
            refine wpList_reads (by kernel_rfl) (.int .u8 ((3 : Nat) : Int)) (run_load_op rfl rfl lk0.out) ?_
            simp only [Act.put, List.setIfInBounds_toArray, List.set_cons_zero, List.set_cons_succ]
            refine wpList_reads (by kernel_rfl) (.bool false) (by go_simp) ?_
            simp only [Act.put, List.setIfInBounds_toArray, List.set_cons_zero, List.set_cons_succ]
            refine wpList_reads (by kernel_rfl) (.bool false) (by go_simp) ?_
            simp only [Act.put, List.setIfInBounds_toArray, List.set_cons_zero, List.set_cons_succ]
            refine wpList_reads (by kernel_rfl) (.pointer (some ⟨G, 0, none⟩)) (by go_simp) ?_
            simp only [Act.put, List.setIfInBounds_toArray, List.set_cons_zero, List.set_cons_succ]
            refine wpList_reads (by kernel_rfl) (.int .u8 ((3 : Nat) : Int)) (run_load_op rfl rfl lk0.out) ?_
            simp only [Act.put, List.setIfInBounds_toArray, List.set_cons_zero, List.set_cons_succ]
            refine wpList_reads (by kernel_rfl) (.bool false) (by go_simp) ?_
            simp only [Act.put, List.setIfInBounds_toArray, List.set_cons_zero, List.set_cons_succ]
            refine wpList_reads (by kernel_rfl) (.bool false) (by go_simp) ?_
            simp only [Act.put, List.setIfInBounds_toArray, List.set_cons_zero, List.set_cons_succ]
            refine wpList_reads (by kernel_rfl) (.bool false) (by go_simp) ?_
            simp only [Act.put, List.setIfInBounds_toArray, List.set_cons_zero, List.set_cons_succ]
            refine wpList_reads (by kernel_rfl) (.pointer (some ⟨G, 0, none⟩)) (by go_simp) ?_
            simp only [Act.put, List.setIfInBounds_toArray, List.set_cons_zero, List.set_cons_succ]
            refine wpList_reads (by kernel_rfl) (.int .u8 ((3 : Nat) : Int)) (run_load_op rfl rfl lk0.out) ?_
            simp only [Act.put, List.setIfInBounds_toArray, List.set_cons_zero, List.set_cons_succ]
            refine wpList_reads (by kernel_rfl) (.bool false) (by go_simp) ?_
            simp only [Act.put, List.setIfInBounds_toArray, List.set_cons_zero, List.set_cons_succ]
            refine wpList_reads (by kernel_rfl) (.bool false) (by go_simp) ?_
            simp only [Act.put, List.setIfInBounds_toArray, List.set_cons_zero, List.set_cons_succ]
            go_skip
            refine wpList_reads (by kernel_rfl) (.bool false) (by go_simp) ?_
            simp only [Act.put, List.setIfInBounds_toArray, List.set_cons_zero, List.set_cons_succ]
            refine wpList_reads (by kernel_rfl) (.bool false) (by go_simp) ?_
            simp only [Act.put, List.setIfInBounds_toArray, List.set_cons_zero, List.set_cons_succ]
            refine wpList_reads (by kernel_rfl) (.bool false) (by go_simp) ?_
            simp only [Act.put, List.setIfInBounds_toArray, List.set_cons_zero, List.set_cons_succ]
            refine wpList_reads (by kernel_rfl) (.pointer (some ⟨G, 0, none⟩)) (by go_simp) ?_
            simp only [Act.put, List.setIfInBounds_toArray, List.set_cons_zero, List.set_cons_succ]
            refine wpList_reads (by kernel_rfl) (.int .u8 ((3 : Nat) : Int)) (run_load_op rfl rfl lk0.out) ?_
            simp only [Act.put, List.setIfInBounds_toArray, List.set_cons_zero, List.set_cons_succ]
            refine wpList_reads (by kernel_rfl) (.bool true) (by go_simp) ?_
            simp only [Act.put, List.setIfInBounds_toArray, List.set_cons_zero, List.set_cons_succ]
            refine wpList_reads (by kernel_rfl) (.bool true) (by go_simp) ?_
            simp only [Act.put, List.setIfInBounds_toArray, List.set_cons_zero, List.set_cons_succ]
            refine wpList_reads (by kernel_rfl) (.pointer (some ⟨G, 1, none⟩)) (by go_simp) ?_
            simp only [Act.put, List.setIfInBounds_toArray, List.set_cons_zero, List.set_cons_succ]
            refine wpList_reads (by kernel_rfl) (.agg (bytesV h.a).toArray) (run_load_op rfl rfl la0.out) ?_
            simp only [Act.put, List.setIfInBounds_toArray, List.set_cons_zero, List.set_cons_succ]
            refine wpList_yields (by kernel_rfl) _ _ (build_z32 _ _ _ rfl) ?_
            simp only [Act.put, List.setIfInBounds_toArray, List.set_cons_zero, List.set_cons_succ]
            refine wpList_yields (by kernel_rfl) _ _ (neq32_op rfl rfl rfl o.a zl) ?_
            simp only [Act.put, List.setIfInBounds_toArray, List.set_cons_zero, List.set_cons_succ]
            rw [da]
            simp only [Bool.not_true, Bool.not_false]
            refine wpList_reads (by kernel_rfl) (.bool true) (by go_simp) ?_
            simp only [Act.put, List.setIfInBounds_toArray, List.set_cons_zero, List.set_cons_succ]
            go_skip
            refine wpList_reads (by kernel_rfl) (.bool true) (by go_simp) ?_
            simp only [Act.put, List.setIfInBounds_toArray, List.set_cons_zero, List.set_cons_succ]
            refine wpList_reads (by kernel_rfl) (.bool true) (by go_simp) ?_
            simp only [Act.put, List.setIfInBounds_toArray, List.set_cons_zero, List.set_cons_succ]
            refine wpList_reads (by kernel_rfl) (.bool true) (by go_simp) ?_
            simp only [Act.put, List.setIfInBounds_toArray, List.set_cons_zero, List.set_cons_succ]
            have hfin := HPutAll.refused (h := h) m0.out hnv.out
            replace hfin := Lib.hid hfin
            go_wp2
            refine bodyPost_ret (results_tmp2 rfl _ _ _) rfl ?_
            exact hfin.out
end Go.Proofs.YtkfikoacohogaaaDoor
