/-
  Steps that the laws share: two sums compared, a call in a drawn region.
-/
import Derived.Test.YtppjnkgmbmhlcaaGreatDoorK6
namespace Go.Proofs.YtppjnkgmbmhlcaaGreatDoor
set_option maxRecDepth 100000
open Go Go.RowKit Go.Lib
set_option linter.unusedSimpArgs false
set_option linter.unusedVariables false

theorem arr32_eql {x y : List (BitVec 8)} (hx : x.length = 32) (hy : y.length = 32) (w : World) : (binOp .eql 62 (.agg (encB x)) (.agg (encB y))).run Tryz.prog w = .ok (.bool (decide (x = y))) w := by
  obtain ⟨i8, hi8, _⟩ := info_parts infoU8
  have h : (Op.equalIn 10000 62 (.agg (encB x)) (.agg (encB y))).run Tryz.prog w = .ok (decide (x = y)) w := by
    have h1 : encB x = (nums .u8 (x.map BitVec.toNat)).toArray := by simp [encB, nums, Function.comp_def]
    have h2 : encB y = (nums .u8 (y.map BitVec.toNat)).toArray := by simp [encB, nums, Function.comp_def]
    rw [h1, h2, equalIn_nums w 9998 _ 5 32 .u8 i8 Tryz.underlying62 Tryz.underlying5 hi8 (by kernel_rfl) _ _ (by rw [List.length_map, hx]) (by rw [List.length_map, hy])]
    congr 1
    rw [Bool.eq_iff_iff]
    simp only [decide_eq_true_iff]
    exact ⟨fun e => List.map_inj_right (fun _ _ => BitVec.eq_of_toNat_eq) |>.1 e, fun e => by rw [e]⟩
  rw [run_eql_struct, h]
  rfl
theorem run_eql32_op {ev : Operand → Value} {o : Oper} {a b : Operand} {w : World} {x y : List (BitVec 8)} (ho : o.op = .binOp .eql 62 a b 62) (ha : ev a = .agg (encB x)) (hb : ev b = .agg (encB y)) (hx : x.length = 32) (hy : y.length = 32) :
    (execOp ev o).run Tryz.prog w = .ok (.value (.bool (decide (x = y)))) w := by
  have h5 := arr32_eql hx hy w
  unfold execOp
  have h4 : (eqGuard .eql 62 a b (.agg (encB x)) (.agg (encB y))).run Tryz.prog w = .ok () w := by go_simp
  simp [ho, ha, hb, h4, h5]
theorem wpOp_enter {P : Program} {ops : Array Oper} {Q : Exit → Act → World → Prop} {i : Nat} (o : Oper) (d : Option Tmp) {K : Act → World → Prop} {a : Act} {w : World} (hi : ops[i]? = some o) (hw : Region.wanted o (yielded ops a.tmps) = true) (hd : o.dst = d) (f : FuncId) (args : Array Value)
    (hrun : (execOp a.eval o).run P w = .ok (.enter f args) w) (h : Calls P f args w fun e w' => ∃ v, e = .returned v ∧ K (a.put d v) w') : wpOp P ops Q i K a w := by
  subst hd
  unfold wpOp
  simp only [hi]
  rw [if_pos hw]
  refine .inl ?_
  unfold Oper.wp
  rw [hrun]
  simp only [Oper.upon]
  refine h.mono ?_
  rintro e w' ⟨v, rfl, h1⟩
  exact h1

end Go.Proofs.YtppjnkgmbmhlcaaGreatDoor
