/-
  hkdf.Mac, hkdf.Extract. Printed by gen/hk4.py.
-/
import Derived.Test.YtppjnkgmbmhlcaaK3
namespace Go.Proofs.Ytppjnkgmbmhlcaa
open Go Go.RowKit Go.Lib
set_option linter.unusedSimpArgs false
set_option linter.unusedVariables false

theorem results_sum2 {fn : Func} {p q : Tmp} (h : fn.results = #[.cell p 48, .tmp q]) (tmps : Array Value) (w : World) (g : Nat) (s : List (BitVec 8)) (r : Value) (h1 : tmps.getD p undef = .pointer (some ⟨g, 0, none⟩)) (h2 : tmps.getD q undef = r)
    (x : w.heap[g]? = some (.cells (encB s) 48 (0,0))) (hl : s.length = 32) : (results fn tmps).run Try.prog w = .ok (.tuple #[.agg (encB s), r]) w := by
  have h1' : tmps[p]?.getD undef = .pointer (some ⟨g, 0, none⟩) := by simpa using h1
  have h2' : tmps[q]?.getD undef = r := by simpa using h2
  simp [results, h, Sem.run_bind, h1', h2', bytes_load x hl, asAddr]
theorem build_zero32 (w : World) (ev : Operand → Value) (o : Oper) (ho : o.op = .build 48 #[]) : (execOp ev o).run Try.prog w = .ok (.value (.agg (encB (zb 32)))) w := by
  have h : (Instr.build 48 #[]).run Try.prog w = .ok (.agg (encB (zb 32))) w := by kernel_rfl
  unfold execOp
  simp only [ho]
  simp only [List.map_toArray, List.map_cons, List.map_nil, Sem.run_bind, h, Result.andThen_ok, Sem.run_pure]
/-- What hkdf.Mac answers: the bytes, the error. -/
def macB (k b : List (BitVec 8)) : List (BitVec 8) := if 1048576 < k.length ∨ 1048512 < b.length then zb 32 else macS (keyS k) b
def macE (k b : List (BitVec 8)) : Nat := if 1048576 < k.length ∨ 1048512 < b.length then 3 else 0
theorem macB_length (k b : List (BitVec 8)) : (macB k b).length = 32 := by
  unfold macB
  split
  · rfl
  · exact macS_length _ _
def macV (k b : List (BitVec 8)) : Value := .tuple #[.agg (encB (macB k b)), .int .i64 (macE k b : Int)]

end Go.Proofs.Ytppjnkgmbmhlcaa
