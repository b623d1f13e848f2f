/-
  A Book, made; two lists in it. Printed by gen/hkX.py.
-/
import Derived.Test.YthhbomiknikjpaaGreatDoorBk5
namespace Go.Proofs.YthhbomiknikjpaaGreatDoor
set_option maxRecDepth 100000
open Go Go.RowKit Go.Lib
set_option linter.unusedSimpArgs false
set_option linter.unusedVariables false

theorem zeroBook (w : World) : (zeroValue 42).run Tryz.prog w = .ok (.agg (bookC 0 (.slice none 0 0)).toArray) w := by kernel_rfl
theorem build_book (w : World) (ev : Operand → Value) (o : Oper) (ho : o.op = .build 42 #[]) : (execOp ev o).run Tryz.prog w = .ok (.value (.agg (bookC 0 (.slice none 0 0)).toArray)) w := by
  have h : (Instr.build 42 #[]).run Tryz.prog w = .ok (.agg (bookC 0 (.slice none 0 0)).toArray) w := by kernel_rfl
  unfold execOp
  simp [ho, h]
theorem alloc_book (w : World) (ev : Operand → Value) (o : Oper) (ho : o.op = .alloc 42) : (execOp ev o).run Tryz.prog w = .ok (.value (.pointer (some ⟨w.heap.size, 0, none⟩))) (w.alloc (.cells (bookC 0 (.slice none 0 0)).toArray 42)) := by
  unfold execOp
  simp [ho, Instr.alloc, Sem.run_bind, zeroBook, newVar, newRow, Value.cells]
  rfl
theorem infoBook : (Tryz.prog.info? 42).map (·.size) = some 13 := by kernel_rfl
theorem book_store {w : World} {B : Nat} (h : bookAt w B 0 (.slice none 0 0)) :
    ∃ w', (storeVar 42 ⟨B, 0, none⟩ (.agg (bookC 0 (.slice none 0 0)).toArray)).run Tryz.prog w = .ok () w' ∧ Mod (fun k => k = B) w w' ∧ bookAt w' B 0 (.slice none 0 0) := by
  obtain ⟨w', h1, h4, h5⟩ := store_mid (P := Tryz.prog) w B 0 42 42 [] (bookC 0 (.slice none 0 0)) [] (bookC 0 (.slice none 0 0)) (by rw [h]; simp) rfl rfl infoBook (by intro v hv; simp [bookC] at hv; rcases hv with rfl | rfl <;> rfl)
  exact ⟨w', h1, h4, by unfold bookAt; rw [h5]; simp⟩
/-- Two rows of one's own, apart, in an empty Book: with the second one, it is a Book of two. -/
theorem book_two {w : World} {base B : Nat} {va vb : Value} {L : Nat → Value} {xs : Nat → List (BitVec 8)} {vbook : Value} {X : List (BitVec 8)}
    (ok : BookOk w base B 1 vbook (addL 0 L va) (addX 0 xs X)) (hab : ∀ k, va.ownBlock = some k → vb.ownBlock = some k → False) : ∀ i, i < 1 → ∀ k, (addL 0 L va i).ownBlock = some k → vb.ownBlock = some k → False := by
  intro i hi k h1 h2
  unfold addL at h1
  rw [if_neg (by omega)] at h1
  exact hab k h1 h2
end Go.Proofs.YthhbomiknikjpaaGreatDoor
