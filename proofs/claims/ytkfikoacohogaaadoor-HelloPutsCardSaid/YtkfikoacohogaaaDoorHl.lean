/-
  A greeting as cells: what is read of it, what is written, '=='.
-/
import Derived.Test.YtkfikoacohogaaaDoorMA
import Derived.Test.YtkfikoacohogaaaDoorVg
namespace Go.Proofs.YtkfikoacohogaaaDoor
set_option maxRecDepth 100000
open Go Go.RowKit
set_option linter.unusedSimpArgs false
set_option linter.unusedVariables false
set_option linter.unusedSectionVars false

structure HD where
  k : Nat
  a : List (BitVec 8)
  l : List Nat
  p : List (BitVec 8)
  deriving DecidableEq
structure HD.Ok (h : HD) : Prop where
  k : h.k < 256
  a : h.a.length = 32
  l : h.l.length = 4
  n : ∀ x ∈ h.l, x < 18446744073709551616
  p : h.p.length = 32
def helloL (h : HD) : List Value := .int .u8 (h.k : Int) :: (bytesV h.a ++ (nums .u64 h.l ++ bytesV h.p))
def helloC (h : HD) : Array Value := (helloL h).toArray
theorem bytesV_nums (bs : List (BitVec 8)) : bytesV bs = nums .u8 (bs.map BitVec.toNat) := by simp [bytesV, nums]
theorem helloL_length {h : HD} (o : h.Ok) : (helloL h).length = 69 := by
  simp [helloL, bytesV_length, nums_length, o.a, o.l, o.p]
theorem helloL_one (h : HD) : ∀ v ∈ helloL h, v.oneCell' = true := by
  intro v hv
  rcases List.mem_cons.1 hv with rfl | hv
  · rfl
  · rw [bytesV_nums, bytesV_nums] at hv
    rcases List.mem_append.1 hv with hv | hv
    · exact nums_one _ _ v hv
    · rcases List.mem_append.1 hv with hv | hv
      · exact nums_one _ _ v hv
      · exact nums_one _ _ v hv
/-- The row of a greeting. -/
def HelloAt (w : World) (g : Nat) (h : HD) : Prop := w.heap[g]? = some (.cells (helloC h) 54 (0,0))
theorem HelloAt.mod {S : Nat → Prop} {w w' : World} {g : Nat} {h : HD} (x : HelloAt w g h) (m : Mod S w w') (hS : ¬ S g) : HelloAt w' g h := m.heap x hS
theorem info_hello : (Tryd.prog.info? 54).map (·.size) = some 69 := by kernel_rfl
theorem info_32 : (Tryd.prog.info? 22).map (·.size) = some 32 := by kernel_rfl
theorem info_4 : (Tryd.prog.info? 52).map (·.size) = some 4 := by kernel_rfl
section
variable {w : World} {g : Nat} {h : HD} (o : h.Ok) (x : HelloAt w g h)
include o x
theorem hello_load : (loadVar 54 ⟨g, 0, none⟩).run Tryd.prog w = .ok (.agg (helloC h)) w :=
  load_mid w g 0 54 _ [] (helloL h) [] (0,0) _ (by rw [x]; simp [helloC]) rfl Tryd.underlying54 rfl (by rw [helloL_length o]; exact info_hello)
theorem hello_load_a : (loadVar 22 ⟨g, 1, none⟩).run Tryd.prog w = .ok (.agg (bytesV h.a).toArray) w :=
  load_mid w g 1 54 _ [.int .u8 (h.k : Int)] (bytesV h.a) (nums .u64 h.l ++ bytesV h.p) (0,0) _ (by rw [x]; rfl) rfl Tryd.underlying22 rfl (by rw [bytesV_length, o.a]; exact info_32)
theorem hello_load_l : (loadVar 52 ⟨g, 33, none⟩).run Tryd.prog w = .ok (.agg (nums .u64 h.l).toArray) w :=
  load_mid w g 33 54 _ (.int .u8 (h.k : Int) :: bytesV h.a) (nums .u64 h.l) (bytesV h.p) (0,0) _ (by rw [x]; rfl) (by simp [bytesV_length, o.a]) Tryd.underlying52 rfl (by rw [nums_length, o.l]; exact info_4)
theorem hello_load_p : (loadVar 22 ⟨g, 37, none⟩).run Tryd.prog w = .ok (.agg (bytesV h.p).toArray) w :=
  load_mid w g 37 54 _ (.int .u8 (h.k : Int) :: (bytesV h.a ++ nums .u64 h.l)) (bytesV h.p) [] (0,0) _ (by rw [x]; simp [helloC, helloL]) (by simp [bytesV_length, nums_length, o.a, o.l]) Tryd.underlying22 rfl (by rw [bytesV_length, o.p]; exact info_32)
theorem hello_kind : w.cell? ⟨g, 0, none⟩ = some (.int .u8 (h.k : Int)) := by
  rw [cell_of_row _ _ _ _ _ _ x]
  rfl
theorem hello_byte_a (j : Nat) (hj : j < 32) : w.cell? ⟨g, 1 + j, none⟩ = some (.int .u8 ((h.a.getD j 0).toNat : Int)) := by
  rw [cell_of_row _ _ _ _ _ _ x, helloC, helloL, List.getElem?_toArray, show 1 + j = j + 1 by omega, List.getElem?_cons_succ, List.getElem?_append_left (by rw [bytesV_length, o.a]; exact hj)]
  exact bytesV_get (by rw [o.a]; exact hj)
theorem hello_byte_p (j : Nat) (hj : j < 32) : w.cell? ⟨g, 37 + j, none⟩ = some (.int .u8 ((h.p.getD j 0).toNat : Int)) := by
  rw [cell_of_row _ _ _ _ _ _ x, helloC, helloL, List.getElem?_toArray, show 37 + j = (36 + j) + 1 by omega, List.getElem?_cons_succ, List.getElem?_append_right (by rw [bytesV_length, o.a]; omega), List.getElem?_append_right (by rw [bytesV_length, nums_length, o.a, o.l]; omega), bytesV_length, nums_length, o.a, o.l, show 36 + j - 32 - 4 = j by omega]
  exact bytesV_get (by rw [o.p]; exact hj)
theorem hello_bytes_a : ByteAt w (.slice (some ⟨g, 1, none⟩) 32 32) h.a := by
  refine .inr ⟨g, 1, 32, by rw [o.a], by rw [o.a]; exact Nat.le_refl _, fun j hj => hello_byte_a o x j (by rw [o.a] at hj; exact hj)⟩
theorem hello_bytes_p : ByteAt w (.slice (some ⟨g, 37, none⟩) 32 32) h.p := by
  refine .inr ⟨g, 37, 32, by rw [o.p], by rw [o.p]; exact Nat.le_refl _, fun j hj => hello_byte_p o x j (by rw [o.p] at hj; exact hj)⟩
theorem hello_store {h' : HD} (o' : h'.Ok) : ∃ w', (storeVar 54 ⟨g, 0, none⟩ (.agg (helloC h'))).run Tryd.prog w = .ok () w' ∧ Mod (fun x => x = g) w w' ∧ HelloAt w' g h' := by
  obtain ⟨w', h1, h2, h3⟩ := store_mid (P := Tryd.prog) w g 0 54 54 [] (helloL h) [] (helloL h') (by rw [x]; simp [helloC]) rfl (by rw [helloL_length o, helloL_length o']) (by rw [helloL_length o']; exact info_hello) (helloL_one h')
  exact ⟨w', h1, h2, by unfold HelloAt; rw [h3]; simp [helloC]⟩
theorem hello_store_a {a : List (BitVec 8)} (ha : a.length = 32) : ∃ w', (storeVar 22 ⟨g, 1, none⟩ (.agg (bytesV a).toArray)).run Tryd.prog w = .ok () w' ∧ Mod (fun x => x = g) w w' ∧ HelloAt w' g { h with a := a } := by
  obtain ⟨w', h1, h2, h3⟩ := store_mid (P := Tryd.prog) w g 1 54 22 [.int .u8 (h.k : Int)] (bytesV h.a) (nums .u64 h.l ++ bytesV h.p) (bytesV a) (by rw [x]; rfl) rfl (by rw [bytesV_length, bytesV_length, o.a, ha]) (by rw [bytesV_length, ha]; exact info_32) (by rw [bytesV_nums]; exact nums_one _ _)
  exact ⟨w', h1, h2, h3⟩
theorem hello_store_l {l : List Nat} (hl : l.length = 4) : ∃ w', (storeVar 52 ⟨g, 33, none⟩ (.agg (nums .u64 l).toArray)).run Tryd.prog w = .ok () w' ∧ Mod (fun x => x = g) w w' ∧ HelloAt w' g { h with l := l } := by
  obtain ⟨w', h1, h2, h3⟩ := store_mid (P := Tryd.prog) w g 33 54 52 (.int .u8 (h.k : Int) :: bytesV h.a) (nums .u64 h.l) (bytesV h.p) (nums .u64 l) (by rw [x]; rfl) (by simp [bytesV_length, o.a]) (by rw [nums_length, nums_length, o.l, hl]) (by rw [nums_length, hl]; exact info_4) (nums_one _ _)
  exact ⟨w', h1, h2, h3⟩
theorem hello_store_p {p : List (BitVec 8)} (hp : p.length = 32) : ∃ w', (storeVar 22 ⟨g, 37, none⟩ (.agg (bytesV p).toArray)).run Tryd.prog w = .ok () w' ∧ Mod (fun x => x = g) w w' ∧ HelloAt w' g { h with p := p } := by
  obtain ⟨w', h1, h2, h3⟩ := store_mid (P := Tryd.prog) w g 37 54 22 (.int .u8 (h.k : Int) :: (bytesV h.a ++ nums .u64 h.l)) (bytesV h.p) [] (bytesV p) (by rw [x]; simp [helloC, helloL]) (by simp [bytesV_length, nums_length, o.a, o.l]) (by rw [bytesV_length, bytesV_length, o.p, hp]) (by rw [bytesV_length, hp]; exact info_32) (by rw [bytesV_nums]; exact nums_one _ _)
  exact ⟨w', h1, h2, by unfold HelloAt; rw [h3]; simp [helloC, helloL]⟩
/-- One limit. -/
theorem hello_set_l (i n : Nat) (hi : i < 4) : HelloAt (w.setCell ⟨g, 33 + i, none⟩ (.int .u64 (n : Int))) g { h with l := h.l.set i n } ∧ Mod (fun x => x = g) w (w.setCell ⟨g, 33 + i, none⟩ (.int .u64 (n : Int))) := by
  refine ⟨?_, Mod.one_setCell _ _ _ _⟩
  unfold HelloAt
  rw [setCell_row _ _ _ _ _ _ x, setRow_heap _ _ _ _ _ _ x]
  congr 2
  unfold helloC helloL
  rw [List.setIfInBounds_toArray, show 33 + i = (32 + i) + 1 by omega, List.set_cons_succ, List.set_append_right _ _ (by rw [bytesV_length, o.a]; omega), List.set_append_left _ _ (by rw [bytesV_length, nums_length, o.a, o.l]; omega), bytesV_length, o.a, Nat.add_sub_cancel_left]
  simp [nums, List.map_set]
end
theorem eqFields_step {P : Program} (d : Nat) (xs ys : Array Value) (f : Field) (fs : List Field) (w : World) (a b : Value) (r : Bool) (hn : f.name ≠ "_") (h1 : (Go.part f.type xs f.offset).run P w = .ok a w) (h2 : (Go.part f.type ys f.offset).run P w = .ok b w)
    (h3 : (Op.equalIn d f.type a b).run P w = .ok r w) : (Op.eqFields d xs ys (f :: fs)).run P w = if r then (Op.eqFields d xs ys fs).run P w else .ok false w := by
  simp only [Op.eqFields, hn, ne_eq, not_false_eq_true, if_true, Sem.run_bind, h1, h2, h3, Result.andThen_ok]
  cases r <;> simp
set_option maxHeartbeats 4000000 in
theorem hello_equal {h h' : HD} (o : h.Ok) (o' : h'.Ok) (w : World) : (Op.equalIn 10000 54 (.agg (helloC h)) (.agg (helloC h'))).run Tryd.prog w = .ok (decide (h = h')) w := by
  obtain ⟨i8, hi8⟩ : ∃ i0, Tryd.prog.info? 5 = some i0 := ⟨_, rfl⟩
  obtain ⟨i64, hi64⟩ : ∃ i0, Tryd.prog.info? 51 = some i0 := ⟨_, rfl⟩
  rw [run_equalIn_agg w 9999 _ _ _ (by unfold Program.fieldsOf; rw [Tryd.underlying54]) (by kernel_rfl)]
  have ha : ∀ {h : HD} (o : h.Ok), (Go.part 22 (helloC h) 1).run Tryd.prog w = .ok (.agg (bytesV h.a).toArray) w := fun {h} o =>
    part_mid (P := Tryd.prog) w 22 1 [.int .u8 (h.k : Int)] (bytesV h.a) (nums .u64 h.l ++ bytesV h.p) _ rfl Tryd.underlying22 rfl (by rw [bytesV_length, o.a]; exact info_32)
  have hl : ∀ {h : HD} (o : h.Ok), (Go.part 52 (helloC h) 33).run Tryd.prog w = .ok (.agg (nums .u64 h.l).toArray) w := fun {h} o => by
    have := part_mid (P := Tryd.prog) w 52 33 (.int .u8 (h.k : Int) :: bytesV h.a) (nums .u64 h.l) (bytesV h.p) _ (by simp [bytesV_length, o.a]) Tryd.underlying52 rfl (by rw [nums_length, o.l]; exact info_4)
    simpa [helloC, helloL] using this
  unfold Program.fieldsOf
  rw [Tryd.underlying54]
  show (Op.eqFields 9999 _ _ [_, _, _, _]).run _ _ = _
  rw [eqFields_step 9999 _ _ _ _ w (.int .u8 (h.k : Int)) (.int .u8 (h'.k : Int)) ((h.k : Int) == (h'.k : Int)) (by decide) (part_one w _ .u8 _ _ _ Tryd.underlying50 rfl) (part_one w _ .u8 _ _ _ Tryd.underlying50 rfl) (run_equalIn_int w 9998 _ .u8 .u8 _ _ Tryd.underlying50)]
  rw [eqFields_step 9999 _ _ _ _ w (.agg (bytesV h.a).toArray) (.agg (bytesV h'.a).toArray) (decide (h.a = h'.a)) (by decide)
    (ha o) (ha o')
    (by rw [bytesV_nums, bytesV_nums, equalIn_nums w 9997 _ 5 32 .u8 i8 Tryd.underlying22 Tryd.underlying5 hi8 (by kernel_rfl) _ _ (by rw [List.length_map, o.a]) (by rw [List.length_map, o'.a])]; congr 1; rw [Bool.eq_iff_iff]; simp only [decide_eq_true_iff]; exact ⟨fun e => List.map_inj_right (fun _ _ => BitVec.eq_of_toNat_eq) |>.1 e, fun e => by rw [e]⟩)]
  rw [eqFields_step 9999 _ _ _ _ w (.agg (nums .u64 h.l).toArray) (.agg (nums .u64 h'.l).toArray) (decide (h.l = h'.l)) (by decide)
    (hl o) (hl o')
    (equalIn_nums w 9997 _ 51 4 .u64 i64 Tryd.underlying52 Tryd.underlying51 hi64 (by kernel_rfl) _ _ o.l o'.l)]
  have hp : ∀ {h : HD} (o : h.Ok), (Go.part 22 (helloC h) 37).run Tryd.prog w = .ok (.agg (bytesV h.p).toArray) w := fun {h} o => by
    have := part_mid (P := Tryd.prog) w 22 37 (.int .u8 (h.k : Int) :: (bytesV h.a ++ nums .u64 h.l)) (bytesV h.p) [] _ (by simp [bytesV_length, nums_length, o.a, o.l]) Tryd.underlying22 rfl (by rw [bytesV_length, o.p]; exact info_32)
    simpa [helloC, helloL] using this
  rw [eqFields_step 9999 _ _ _ _ w (.agg (bytesV h.p).toArray) (.agg (bytesV h'.p).toArray) (decide (h.p = h'.p)) (by decide) (hp o) (hp o')
    (by rw [bytesV_nums, bytesV_nums, equalIn_nums w 9997 _ 5 32 .u8 i8 Tryd.underlying22 Tryd.underlying5 hi8 (by kernel_rfl) _ _ (by rw [List.length_map, o.p]) (by rw [List.length_map, o'.p])]; congr 1; rw [Bool.eq_iff_iff]; simp only [decide_eq_true_iff]; exact ⟨fun e => List.map_inj_right (fun _ _ => BitVec.eq_of_toNat_eq) |>.1 e, fun e => by rw [e]⟩)]
  obtain ⟨k, a, l, p⟩ := h
  obtain ⟨k', a', l', p'⟩ := h'
  have e0 : ((k : Int) == (k' : Int)) = decide (k = k') := by
    rw [Bool.eq_iff_iff, beq_iff_eq, decide_eq_true_iff]
    omega
  simp only [Op.eqFields, HD.mk.injEq, e0]
  by_cases e1 : k = k' <;> by_cases e2 : a = a' <;> by_cases e3 : l = l' <;> by_cases e4 : p = p' <;> simp [e1, e2, e3, e4]
theorem hello_eql {h h' : HD} (o : h.Ok) (o' : h'.Ok) (w : World) : (binOp .eql 54 (.agg (helloC h)) (.agg (helloC h'))).run Tryd.prog w = .ok (.bool (decide (h = h'))) w := by
  rw [run_eql_struct, hello_equal o o']
  rfl
theorem hello_neq {h h' : HD} (o : h.Ok) (o' : h'.Ok) (w : World) : (binOp .neq 54 (.agg (helloC h)) (.agg (helloC h'))).run Tryd.prog w = .ok (.bool (!decide (h = h'))) w := by
  rw [run_neq_struct, hello_equal o o']
  rfl
end Go.Proofs.YtkfikoacohogaaaDoor
