/-
  A region that draws its order: operations that yield in every world that meets S may be taken first (loads too), where S holds behind every operation but the last one, z.
-/
import Derived.OrdersHeld
import Derived.Test.YtbiijcljpgannaaRound
namespace Go.Proofs.Ytbiijcljpgannaa
open Go Go.RowKit
section
variable {P : Program} {ops : Array Oper} {md : Region.Mode} {S : World → Prop} {Q : Exit → Act → World → Prop} {z : Nat}

def anyZ (P : Program) (md : Region.Mode) (ops : Array Oper) (S : World → Prop) (z : Nat) (Q : Exit → Act → World → Prop) : Nat → Array Bool → Act → World → Prop
  | 0, listed, a, w => Region.ready md ops listed = [] ∧ Q .normal a w
  | f + 1, listed, a, w => (Region.ready md ops listed = [] → Q .normal a w) ∧
      ∀ i ∈ Region.ready md ops listed, wpOp P ops (fun _ _ _ => False) i (fun a' w' => (i ≠ z → S w') ∧ anyZ P md ops S z Q f (listed.setIfInBounds i true) a' w') a w

theorem wpOp_calm {i : Nat} {a : Act} {w : World} {K : Act → World → Prop} (h : wpOp P ops (fun _ _ _ => False) i K a w) : wpOp P ops Q i K a w := by
  unfold wpOp at *
  cases ho : ops[i]? with
  | none => simp only [ho] at h ⊢; exact h
  | some o =>
    simp only [ho] at h ⊢
    split
    · rename_i hw
      rw [if_pos hw] at h
      rcases h with h | ⟨_, _, _, h⟩
      · refine .inl ?_
        unfold Oper.wp at *
        generalize (execOp a.eval o).run P w = r at *
        cases r with
        | ok x w' =>
          cases x <;> simp only [Oper.upon] at h ⊢
          case value => exact h
          case skip => exact h
          case defer => exact h
          case row => exact h
          case enter =>
            refine h.mono ?_
            intro e w'' he
            cases e with
            | returned u => exact he
            | panicked ch => exact he.elim
            | outgrown => obtain ⟨_, _, hf⟩ := he; exact hf.elim
        | halt x w' => cases x <;> simp only [Oper.upon] at h
      · exact h.elim
    · rename_i hw
      rw [if_neg hw] at h
      exact h

theorem any_of_Z : ∀ (f : Nat) (listed : Array Bool) (a : Act) (w : World), anyZ P md ops S z Q f listed a w → wpAny P md ops Q f listed a w
  | 0, _, _, _, h => h
  | f + 1, _, _, _, h => ⟨h.1, fun i hi => wpOp_calm (wpOp_mono (fun a' w' h' => any_of_Z f _ a' w' h'.2) (h.2 i hi))⟩

/-- z waits for all others (or is no operation of the region: then S holds to the end). -/
def lastOf (md : Region.Mode) (ops : Array Oper) (z : Nat) : Bool := match ops[z]? with
  | some o => (List.range ops.size).all fun i => i == z || o.after.any fun e => Region.binds md e && e.on == i
  | none => true
theorem lastOf_spec (h : lastOf md ops z = true) {listed : Array Bool} {i : Nat} (hz : z ∈ Region.ready md ops listed) (hi : i ∈ Region.ready md ops listed) : i = z := by
  obtain ⟨_, oz, hoz, hall⟩ := mem_ready.1 hz
  obtain ⟨hu, oi, hoi, _⟩ := mem_ready.1 hi
  unfold lastOf at h
  rw [hoz] at h
  simp only [List.all_eq_true, List.mem_range] at h
  have hi' : i < ops.size := (Array.getElem?_eq_some_iff.1 hoi).1
  have h1 := h i hi'
  simp only [Bool.or_eq_true, beq_iff_eq, Array.any_eq_true', Bool.and_eq_true] at h1
  rcases h1 with h1 | ⟨e, he, hb, hon⟩
  · exact h1
  · have h2 := hall e he hb
    rw [hon] at h2
    rcases Nat.lt_or_ge i listed.size with h' | h'
    · simp [h'] at hu h2; rw [hu] at h2; cases h2
    · simp [Array.getElem?_eq_none h'] at h2

theorem anyZ_first {i : Nat} {oi : Oper} {v : Value} (hL : lastOf md ops z = true) (hiz : i ≠ z) (hi : ops[i]? = some oi) (hsel : ∀ (j : Nat) (o : Oper) cs b, ops[j]? = some o → o.op ≠ .select cs b) :
    ∀ (fuel : Nat) (listed : Array Bool) (a : Act) (w : World),
      (∀ j oj, ops[j]? = some oj → j ≠ i → listed.getD j true = false → (∀ e ∈ oj.after, Region.binds md e = true → e.on ≠ i) → oi.apart ops oj = true) →
      i ∈ Region.ready md ops listed → YieldsIf P ops S oi v a → S w →
      anyZ P md ops S z Q fuel (listed.setIfInBounds i true) (a.put oi.dst v) w → anyZ P md ops S z Q (fuel + 1) listed a w := by
  intro fuel
  induction fuel with
  | zero =>
    intro listed a w _ hr hy hS H
    refine ⟨fun h => (by rw [h] at hr; cases hr), fun j hj => ?_⟩
    by_cases hji : j = i
    · subst hji; exact hy.wpOp hi hS ⟨fun _ => hS, H⟩
    · have := ready_mono hj hji
      rw [H.1] at this
      cases this
  | succ fuel ih =>
    intro listed a w hfree hr hy hS H
    refine ⟨fun h => (by rw [h] at hr; cases hr), fun j hj => ?_⟩
    by_cases hji : j = i
    · subst hji; exact hy.wpOp hi hS ⟨fun _ => hS, H⟩
    · have hjz : j ≠ z := fun e => by subst e; exact hiz (lastOf_spec hL hj hr)
      have h1 := H.2 j (ready_mono hj hji)
      obtain ⟨hjun, oj, hoj, hall⟩ := mem_ready.1 hj
      have hnot : ∀ e ∈ oj.after, Region.binds md e = true → e.on ≠ i := fun e he hb heq => by
        have h1 := hall e he hb
        have h0 := (mem_ready.1 hr).1
        rw [heq] at h1
        rcases Nat.lt_or_ge i listed.size with h' | h'
        · simp [h'] at h0 h1; rw [h0] at h1; cases h1
        · simp [Array.getElem?_eq_none h'] at h1
      have h2 := wpOp_putIf hoj (hfree j oj hoj hji hjun hnot) (fun cs b => hsel i oi cs b hi) (fun cs b => hsel j oj cs b hoj) (fun _ _ _ h => h) hy h1
      have hfree' : ∀ k ok, ops[k]? = some ok → k ≠ i → (listed.setIfInBounds j true).getD k true = false →
          (∀ e ∈ ok.after, Region.binds md e = true → e.on ≠ i) → oi.apart ops ok = true := fun k ok hk hki hun hno => by
        refine hfree k ok hk hki ?_ hno
        by_cases hjk : j = k
        · subst hjk; exact hjun
        · rw [getD_set_ne true hjk] at hun; exact hun
      refine wpOp_mono (fun a' w' h3 => ⟨h3.2.1, ih (listed.setIfInBounds j true) a' w' hfree' (ready_mono hr (Ne.symm hji)) h3.1 (h3.2.1 hjz) ?_⟩) h2
      rw [Array.setIfInBounds_comm _ _ hji]
      exact h3.2.2

theorem anyZ_take (i : Nat) (oi : Oper) (d : Option Tmp) (v : Value) {fuel : Nat} {listed : Array Bool} {a : Act} {w : World} (hi : ops[i]? = some oi) (hw : Region.wanted oi (yielded ops a.tmps) = true) (hL : lastOf md ops z = true)
    (hs : Region.noSelect ops = true) (hf : Region.free md ops listed i = true) (hr : (Region.ready md ops listed).contains i = true) (hiz : i ≠ z)
    (hd : oi.dst = d) (hy : ∀ w, S w → (execOp a.eval oi).run P w = .ok (.value v) w) (hS : S w)
    (h : anyZ P md ops S z Q fuel (listed.setIfInBounds i true) (a.put d v) w) : anyZ P md ops S z Q (fuel + 1) listed a w :=
  anyZ_first hL hiz hi (Region.noSelect_spec hs) fuel listed a w (Region.free_spec hi hf) (by simpa using hr) (.inl ⟨hw, hy⟩) hS (by rw [hd]; exact h)

/-- The one that must come up now. -/
theorem anyZ_next (i : Nat) (o : Oper) (d : Option Tmp) {fuel : Nat} {listed : Array Bool} {a : Act} {w : World} (hi : ops[i]? = some o) (hw : Region.wanted o (yielded ops a.tmps) = true) (hr : Region.ready md ops listed = [i]) (hd : o.dst = d) (v : Value) (w' : World)
    (hrun : (execOp a.eval o).run P w = .ok (.value v) w') (hS : i ≠ z → S w')
    (h : anyZ P md ops S z Q fuel (listed.setIfInBounds i true) (a.put d v) w') : anyZ P md ops S z Q (fuel + 1) listed a w := by
  subst hd
  refine ⟨fun h0 => (by rw [hr] at h0; cases h0), fun j hj => ?_⟩
  rw [hr] at hj
  simp only [List.mem_singleton] at hj
  subst hj
  unfold wpOp
  simp only [hi]
  rw [if_pos hw]
  refine .inl ?_
  unfold Oper.wp
  rw [hrun]
  exact ⟨hS, h⟩
/-- .. a store. -/
theorem anyZ_skip (i : Nat) (o : Oper) {fuel : Nat} {listed : Array Bool} {a : Act} {w : World} (hi : ops[i]? = some o) (hw : Region.wanted o (yielded ops a.tmps) = true) (hr : Region.ready md ops listed = [i]) (hd : o.dst = none) (w' : World)
    (hrun : (execOp a.eval o).run P w = .ok .skip w') (hS : i ≠ z → S w')
    (h : anyZ P md ops S z Q fuel (listed.setIfInBounds i true) a w') : anyZ P md ops S z Q (fuel + 1) listed a w := by
  refine ⟨fun h0 => (by rw [hr] at h0; cases h0), fun j hj => ?_⟩
  rw [hr] at hj
  simp only [List.mem_singleton] at hj
  subst hj
  unfold wpOp
  simp only [hi]
  rw [if_pos hw]
  refine .inl ?_
  unfold Oper.wp
  rw [hrun]
  simp only [Oper.upon, hd]
  exact ⟨hS, h⟩
/-- .. a call of a Go function. -/
theorem anyZ_call (i : Nat) (o : Oper) (d : Option Tmp) {fuel : Nat} {listed : Array Bool} {a : Act} {w : World} (hi : ops[i]? = some o) (hw : Region.wanted o (yielded ops a.tmps) = true) (hr : Region.ready md ops listed = [i]) (hd : o.dst = d) (f : FuncId) (args : Array Value)
    (hrun : (execOp a.eval o).run P w = .ok (.enter f args) w)
    (h : Calls P f args w fun e w' => ∃ v, e = .returned v ∧ (i ≠ z → S w') ∧ anyZ P md ops S z Q fuel (listed.setIfInBounds i true) (a.put d v) w') : anyZ P md ops S z Q (fuel + 1) listed a w := by
  subst hd
  refine ⟨fun h0 => (by rw [hr] at h0; cases h0), fun j hj => ?_⟩
  rw [hr] at hj
  simp only [List.mem_singleton] at hj
  subst hj
  unfold wpOp
  simp only [hi]
  rw [if_pos hw]
  refine .inl ?_
  unfold Oper.wp
  rw [hrun]
  simp only [Oper.upon]
  refine h.mono ?_
  rintro e w' ⟨v, rfl, h1⟩
  exact h1
/-- .. whatever its own law says. -/
theorem anyZ_wp (i : Nat) (o : Oper) {fuel : Nat} {listed : Array Bool} {a : Act} {w : World} (hi : ops[i]? = some o) (hw : Region.wanted o (yielded ops a.tmps) = true) (hr : Region.ready md ops listed = [i])
    (h : o.wp P a w (fun a' w' => (i ≠ z → S w') ∧ anyZ P md ops S z Q fuel (listed.setIfInBounds i true) a' w') (fun _ _ _ => False)) : anyZ P md ops S z Q (fuel + 1) listed a w := by
  refine ⟨fun h0 => (by rw [hr] at h0; cases h0), fun j hj => ?_⟩
  rw [hr] at hj
  simp only [List.mem_singleton] at hj
  subst hj
  unfold wpOp
  simp only [hi]
  rw [if_pos hw]
  exact .inl h
/-- An operation whose guard is not met. -/
theorem anyZ_pass (i : Nat) (oi : Oper) (d : Option Tmp) {fuel : Nat} {listed : Array Bool} {a : Act} {w : World} (hi : ops[i]? = some oi) (hw : Region.wanted oi (yielded ops a.tmps) = false) (hL : lastOf md ops z = true)
    (hs : Region.noSelect ops = true) (hf : Region.free md ops listed i = true) (hr : (Region.ready md ops listed).contains i = true) (hiz : i ≠ z)
    (hd : oi.dst = d) (hS : S w)
    (h : anyZ P md ops S z Q fuel (listed.setIfInBounds i true) (a.put d undef) w) : anyZ P md ops S z Q (fuel + 1) listed a w :=
  anyZ_first hL hiz hi (Region.noSelect_spec hs) fuel listed a w (Region.free_spec hi hf) (by simpa using hr) (.inr ⟨hw, rfl⟩) hS (by rw [hd]; exact h)

theorem anyZ_done {listed : Array Bool} {a : Act} {w : World} (hr : Region.ready md ops listed = []) (h : Q .normal a w) : ∀ fuel, anyZ P md ops S z Q fuel listed a w
  | 0 => ⟨hr, h⟩
  | _ + 1 => ⟨fun _ => h, by rw [hr]; simp⟩
end
end Go.Proofs.Ytbiijcljpgannaa
