/-
  'append(v, x...)' of bytes, whatever lies behind x (nothing at all, too).
-/
import Derived.OwnWalk
import Derived.Laws.OwnMore
import Derived.Test.YtbiijcljpgannaaBy
namespace Go.Proofs.Ytbiijcljpgannaa
open Go Go.RowKit
set_option linter.unusedSimpArgs false
set_option linter.unusedVariables false

theorem infoU8 : (Try.prog.info? 5).map (fun i => (i.zero, i.size, i.bytes)) = some (some (.int .u8 0), 1, 1) := by kernel_rfl
theorem cells_byteAt {w : World} {g off n cap : Nat} {bs : List (BitVec 8)} (h : ByteAt w (.slice (some ⟨g, off, none⟩) n cap) bs) : ∀ j u, (bytesV bs)[j]? = some u → w.cell? ((⟨g, off, none⟩ : Addr).add j) = some u := by
  intro j u hu
  have hj : j < bs.length := by
    have := (List.getElem?_eq_some_iff.1 hu).1
    simpa [bytesV] using this
  rw [bytesV_get hj] at hu
  rw [show (⟨g, off, none⟩ : Addr).add j = ⟨g, off + j, none⟩ by simp [Addr.add]]
  rcases h with ⟨_, _, _, rfl⟩ | ⟨g', off', cap', h1, h2, h3⟩
  · simp at hj
  · injection h1 with h1 h4 h5
    injection h1 with h1
    injection h1 with h1 h6 _
    subst h1 h6
    rw [h3 j hj, ← hu]
theorem bytesV_one (bs : List (BitVec 8)) : ∀ u ∈ bytesV bs, u.oneCell' = true := by
  intro u hu
  unfold bytesV at hu
  obtain ⟨b, _, rfl⟩ := List.mem_map.1 hu
  rfl
theorem bytesV_append (a b : List (BitVec 8)) : bytesV (a ++ b) = bytesV a ++ bytesV b := by unfold bytesV; exact List.map_append
theorem bytesV_length (a : List (BitVec 8)) : (bytesV a).length = a.length := by unfold bytesV; exact List.length_map _

theorem run_append_none (w : World) (base n cap : Nat) (ty : TypeId) (v : Value) (xs : List Value) (hown : w.ownsRow base 5 1 v n xs) :
    (Builtin.append_ #[22, 22] ty #[v, .slice none 0 cap]).run Try.prog w = .ok v w := by
  obtain ⟨i, hi⟩ : ∃ i, Try.prog.info? 5 = some i := ⟨_, rfl⟩
  rcases hown.2 with ⟨rfl, rfl⟩ | ⟨g, cap, cur, rfl, _, _, hnc, _⟩
  · simp [Builtin.append_, run_underlying Try.underlying22, sizeOf, typeInfo, hi, Builtin.lenOf, Builtin.firstCells]
  · simp [Builtin.append_, run_underlying Try.underlying22, sizeOf, typeInfo, hi, Builtin.lenOf, Builtin.firstCells, hnc, storeCells]

theorem run_append_bytes {w : World} {base n : Nat} {v x : Value} {bs cs : List (BitVec 8)} (hown : w.ownsRow base 5 1 v n (bytesV bs)) (hx : ByteAt w x cs) (hfit : n + cs.length ≤ 140737488355328) (hbase : base ≤ w.heap.size) (ty : TypeId) :
    ∃ v' w', (Builtin.append_ #[22, 22] ty #[v, x]).run Try.prog w = .ok v' w' ∧ w'.ownsRow base 5 1 v' (n + cs.length) (bytesV (bs ++ cs)) ∧ w.grownBy w' v.ownBlock := by
  obtain ⟨i0, hi, hz0, hz1, hz2⟩ := info_parts infoU8
  obtain ⟨ad, cap, rfl, _⟩ := hx.slice
  have hl : (bytesV cs).length = cs.length * 1 := by rw [bytesV_length, Nat.mul_one]
  cases ad with
  | none =>
    have h0 : cs = [] := by
      rcases hx with ⟨_, _, _, h⟩ | ⟨_, _, _, h, _⟩
      · exact h
      · injection h with h; cases h
    subst h0
    exact ⟨v, w, run_append_none w base n cap ty v _ hown, by simpa using hown, ⟨rfl, rfl, rfl, Nat.le_refl _, fun _ _ _ => rfl⟩⟩
  | some a =>
    by_cases h0 : cs.length = 0
    · have hcs := List.eq_nil_of_length_eq_zero h0
      subst hcs
      obtain ⟨v', w', h1, h2, h3, _⟩ := run_append_own (P := Try.prog) w base 22 ty 5 i0 (.int .u8 0) 1 1 Try.underlying22 hi hz0 hz1 hz2 rfl (by decide) v n (bytesV bs) hown a 0 cap [] rfl (fun j u h => by simp at h) (fun u h => by simp at h) (by unfold maxLen; omega) (by simp only [List.length_nil] at hfit; omega) hbase
      exact ⟨v', w', h1, by simpa using h2, h3⟩
    · obtain ⟨g, off, cap', hv, _, _⟩ : ∃ g off cap', Value.slice (some a) cs.length cap = .slice (some ⟨g, off, none⟩) cs.length cap' ∧ True ∧ True := by
        rcases hx with ⟨_, _, _, h⟩ | ⟨g, off, cap', h, _⟩
        · rw [h] at h0; exact absurd rfl h0
        · exact ⟨g, off, cap', h, trivial, trivial⟩
      injection hv with hv _ hc
      injection hv with hv
      subst hv hc
      obtain ⟨v', w', h1, h2, h3, _⟩ := run_append_own (P := Try.prog) w base 22 ty 5 i0 (.int .u8 0) 1 1 Try.underlying22 hi hz0 hz1 hz2 rfl (by decide) v n (bytesV bs) hown ⟨g, off, none⟩ cs.length cap (bytesV cs) hl (cells_byteAt hx) (bytesV_one cs) (by unfold maxLen; omega) (by omega) hbase
      exact ⟨v', w', h1, by rw [bytesV_append]; exact h2, h3⟩

theorem wpList_append_bytes {w : World} {ops : Array Oper} {rest : List Oper} {o : Oper} {a : Act} {Q : Exit → Act → World → Prop} (hgd : o.guard = none) (s x : Operand)
    (ho : o.op = .call { callee := .builtin .append, args := #[s, x], argTypes := #[22, 22] }) (base n : Nat) (v xv : Value) (bs cs : List (BitVec 8)) (hs : a.eval s = v) (hx : a.eval x = xv)
    (hown : w.ownsRow base 5 1 v n (bytesV bs)) (hb : ByteAt w xv cs) (hfit : n + cs.length ≤ 140737488355328) (hbase : base ≤ w.heap.size)
    (h : ∀ v' w', w'.ownsRow base 5 1 v' (n + cs.length) (bytesV (bs ++ cs)) → w.grownBy w' v.ownBlock → wpList Try.prog ops Q rest (a.put o.dst v') w') : wpList Try.prog ops Q (o :: rest) a w := by
  refine wpList_plain hgd fun K hK => ?_
  obtain ⟨v', w', hr, h2, h3⟩ := run_append_bytes hown hb hfit hbase o.type
  unfold Oper.wp execOp
  simp only [ho, resolve, invoke, builtin, Sem.run_bind, Sem.run_pure, Result.andThen_ok, List.map_toArray, List.map_cons, List.map_nil, hs, hx, hr]
  exact hK _ _ (h v' w' h2 h3)
theorem own_grown {w w' : World} {base n base' : Nat} {e : TypeId} {v : Value} {xs : List Value} (h : w.ownsRow base e 1 v n xs) (g : w.grownBy w' v.ownBlock) : Mod (fun k => base ≤ k) w w' :=
  (Mod.refl _ w).grown g (fun k hk _ => (h.lt k hk).1)
end Go.Proofs.Ytbiijcljpgannaa
