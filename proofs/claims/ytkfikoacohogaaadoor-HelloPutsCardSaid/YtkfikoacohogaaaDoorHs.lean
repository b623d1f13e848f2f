/-
  A greeting's bytes, in plain Lean; laws on loads and stores as operations.
-/
import Derived.Test.YtkfikoacohogaaaDoorHa
import Derived.Test.YtkfikoacohogaaaDoorMA
namespace Go.Proofs.YtkfikoacohogaaaDoor
set_option maxRecDepth 100000
open Go Go.RowKit
set_option linter.unusedSimpArgs false
set_option linter.unusedVariables false

def z32 : List (BitVec 8) := List.replicate 32 0
def z4 : List Nat := [0, 0, 0, 0]
def hzero (k : Nat) : HD := ⟨k, z32, z4, z32⟩
theorem hzero_ok {k : Nat} (h : k < 256) : (hzero k).Ok := ⟨h, by simp [hzero, z32], rfl, by simp [hzero, z4], by simp [hzero, z32]⟩
def hbare (h : HD) : HD := ⟨h.k, if h.k = 3 then z32 else h.a, if h.k = 3 then z4 else h.l, if h.k = 1 then z32 else h.p⟩
def HValid (h : HD) : Prop := 1 ≤ h.k ∧ h.k ≤ 3 ∧ hbare h = h ∧ ∀ x ∈ h.l, x < 4611686018427387904
instance (h : HD) : Decidable (HValid h) := by unfold HValid; infer_instance
def hput (h : HD) : List (BitVec 8) := BitVec.ofNat 8 h.k :: ((if h.k = 3 then [] else h.a ++ h.l.flatMap vput) ++ (if h.k = 1 then [] else h.p))

theorem alloc_hello (w : World) (ev : Operand → Value) (o : Oper) (ho : o.op = .alloc 54) : (execOp ev o).run Tryd.prog w = .ok (.value (.pointer (some ⟨w.heap.size, 0, none⟩))) (w.alloc (.cells (helloC (hzero 0)) 54)) := by
  have hz : (zeroValue 54).run Tryd.prog w = .ok (.agg (helloC (hzero 0))) w := by kernel_rfl
  unfold execOp
  simp [ho, Instr.alloc, Sem.run_bind, hz, newVar, newRow, Value.cells]
theorem build_hello (k : Nat) (w : World) : (Instr.build 54 #[(0, .int .u8 (k : Int))]).run Tryd.prog w = .ok (.agg (helloC (hzero k))) w := by kernel_rfl
theorem build_hello_op (k : Nat) (w : World) (ev : Operand → Value) (o : Oper) (x : Operand) (ho : o.op = .build 54 #[(0, x)]) (hx : ev x = .int .u8 (k : Int)) : (execOp ev o).run Tryd.prog w = .ok (.value (.agg (helloC (hzero k)))) w := by
  have h := build_hello k w
  unfold execOp
  simp only [ho]
  simp only [List.map_toArray, List.map_cons, List.map_nil, hx, Sem.run_bind, h, Result.andThen_ok, Sem.run_pure]
theorem build_none_op (w : World) (ev : Operand → Value) (o : Oper) (ho : o.op = .build 54 #[]) : (execOp ev o).run Tryd.prog w = .ok (.value (.agg (helloC (hzero 0)))) w := by
  have h : (Instr.build 54 #[]).run Tryd.prog w = .ok (.agg (helloC (hzero 0))) w := by kernel_rfl
  unfold execOp
  simp only [ho]
  simp only [List.map_toArray, List.map_cons, List.map_nil, Sem.run_bind, h, Result.andThen_ok, Sem.run_pure]
theorem fresh_of_own {w : World} {B n : Nat} {v : Value} {bs : List (BitVec 8)} (own : w.ownsRow B 5 1 v n (bytesV bs)) (hn : 0 < n) : n = bs.length ∧ ∃ g cap, v = .slice (some ⟨g, 0, none⟩) bs.length cap ∧ B ≤ g ∧ ByteAt w (.slice (some ⟨g, 0, none⟩) bs.length bs.length) bs := by
  have hb := byteAt_of_own own
  obtain ⟨h1, h2⟩ := own
  have hl : n = bs.length := by rw [bytesV_length] at h1; omega
  refine ⟨hl, ?_⟩
  subst hl
  rcases h2 with ⟨_, h0⟩ | ⟨g, cap, cur, rfl, hB, _⟩
  · omega
  · refine ⟨g, cap, rfl, hB, ?_⟩
    obtain ⟨ad, cap', he, hc⟩ := hb.slice
    injection he with e1 e2 e3
    subst e1
    refine .inr ⟨g, 0, bs.length, rfl, Nat.le_refl _, fun j hj => ?_⟩
    obtain ⟨g', off', h3, _, h4⟩ := hc j hj
    injection h3 with h3
    injection h3 with h3 h5
    subst h3 h5
    exact h4
theorem ownsRow_mod {S : Nat → Prop} {w w' : World} {base n size : Nat} {e : TypeId} {v : Value} {xs : List Value} (h : w.ownsRow base e size v n xs) (m : Mod S w w') (hS : ∀ k, base ≤ k → ¬ S k) : w'.ownsRow base e size v n xs := by
  obtain ⟨h1, h2⟩ := h
  refine ⟨h1, h2.imp_right ?_⟩
  rintro ⟨g, cap, cur, a1, a2, a3, a4⟩
  exact ⟨g, cap, cur, a1, a2, m.heap a3 (hS g a2), a4⟩
theorem vputs_len (l : List Nat) : (l.flatMap vput).length ≤ 8 * l.length := by
  induction l with
  | nil => simp
  | cons x l ih =>
    rw [List.flatMap_cons, List.length_append, vput_length, List.length_cons]
    have h : vsz x ≤ 8 := by
      unfold vsz
      rcases four (vhi_lt x) with h | h | h | h <;> rw [h] <;> decide
    omega
end Go.Proofs.YtkfikoacohogaaaDoor
