/-
  A region that draws its order, in a round, with one call of yield of another loop.
-/
import Derived.Test.YtbiijcljpgannaaGreatDoorMA
namespace Go.Proofs.YtbiijcljpgannaaGreatDoor
set_option maxRecDepth 100000
open Go Go.RowKit
set_option linter.unusedVariables false
section
variable {P : Program} {ops : Array Oper} {md : Region.Mode} {S : World → Prop} {Q : Exit → Act → World → Prop} {y l n : Nat}

def anyY (l n : Nat) (P : Program) (md : Region.Mode) (ops : Array Oper) (S : World → Prop) (y : Nat) (Q : Exit → Act → World → Prop) : Nat → Array Bool → Act → World → Prop
  | 0, listed, a, w => Region.ready md ops listed = [] ∧ Q .normal a w
  | f + 1, listed, a, w => (Region.ready md ops listed = [] → Q .normal a w) ∧
      ∀ i ∈ Region.ready md ops listed, (i = y → wpOpIn (Fence.wide.inRound l) n P ops Q i (fun a' w' => anyY l n P md ops S y Q f (listed.setIfInBounds i true) a' w') a w) ∧
        (i ≠ y → wpOp P ops (fun _ _ _ => False) i (fun a' w' => S w' ∧ anyY l n P md ops S y Q f (listed.setIfInBounds i true) a' w') a w)

theorem anyY_in (hnd : noDefer ops = true) (hQ : ¬ LetsOut Q) : ∀ (f : Nat) (listed : Array Bool) (a : Act) (w : World), anyY l n P md ops S y Q f listed a w → wpAnyIn (Fence.wide.inRound l) n P md ops Q f listed a w := by
  intro f
  induction f with
  | zero => intro listed a w h; exact h
  | succ f ih =>
    intro listed a w h
    refine ⟨h.1, fun i hi => ?_⟩
    by_cases hiy : i = y
    · exact wpOpIn_mono (fun a' w' h' => ih _ _ _ h') ((h.2 i hi).1 hiy)
    · have h2 : wpOp P ops Q i (fun a' w' => S w' ∧ anyY l n P md ops S y Q f (listed.setIfInBounds i true) a' w') a w := wpOp_calm ((h.2 i hi).2 hiy)
      unfold wpOp at h2
      unfold wpOpIn
      cases ho : ops[i]? with
      | none => simp only [ho] at h2 ⊢; exact ih _ _ _ h2.2
      | some o =>
        simp only [ho] at h2 ⊢
        split
        · rename_i hw
          rw [if_pos hw] at h2
          rcases h2 with h2 | h2
          · exact Oper.wpIn_mono (fun a' w' h' => ih _ _ _ h'.2) (round_op (noDefer_spec hnd ho) h2)
          · exact absurd h2.2 hQ
        · rename_i hw
          rw [if_neg hw] at h2
          exact ⟨fun _ _ => trivial, ih _ _ _ h2.2⟩
theorem round_drawY {id : Nat} {a : Act} {w : World} {ol : List Oper} (hm : P.follows .mixedOrders = true) (hnd : noDefer ol.toArray = true) (hQ : ¬ LetsOut Q) (h : anyY l n P .any ol.toArray S y Q ol.toArray.size (Array.replicate ol.toArray.size false) a w.drew) :
    (Code.region id ol.toArray true).wpIn (Fence.wide.inRound l) n P Q a w :=
  wpIn_region_any hm (anyY_in hnd hQ _ _ _ _ h)
/-- y waits for i. -/
def depOn (md : Region.Mode) (ops : Array Oper) (y i : Nat) : Bool := match ops[y]? with
  | some o => o.after.any fun e => Region.binds md e && e.on == i
  | none => true
theorem depOn_spec {i : Nat} (h : depOn md ops y i = true) {listed : Array Bool} (hy : y ∈ Region.ready md ops listed) (hi : i ∈ Region.ready md ops listed) : False := by
  obtain ⟨_, oy, hoy, hall⟩ := mem_ready.1 hy
  obtain ⟨hu, oi, hoi, _⟩ := mem_ready.1 hi
  unfold depOn at h
  rw [hoy] at h
  simp only [Array.any_eq_true', Bool.and_eq_true, beq_iff_eq] at h
  obtain ⟨e, he, hb, hon⟩ := h
  have h2 := hall e he hb
  rw [hon] at h2
  rcases Nat.lt_or_ge i listed.size with h' | h'
  · simp [h'] at hu h2; rw [hu] at h2; cases h2
  · simp [Array.getElem?_eq_none h'] at h2
theorem anyY_first {i : Nat} {oi : Oper} {v : Value} (hdep : depOn md ops y i = true) (hiy : i ≠ y) (hi : ops[i]? = some oi) (hsel : ∀ (j : Nat) (o : Oper) cs b, ops[j]? = some o → o.op ≠ .select cs b) :
    ∀ (fuel : Nat) (listed : Array Bool) (a : Act) (w : World),
      (∀ j oj, ops[j]? = some oj → j ≠ i → listed.getD j true = false → (∀ e ∈ oj.after, Region.binds md e = true → e.on ≠ i) → oi.apart ops oj = true) →
      i ∈ Region.ready md ops listed → YieldsIf P ops S oi v a → S w →
      anyY l n P md ops S y Q fuel (listed.setIfInBounds i true) (a.put oi.dst v) w → anyY l n P md ops S y Q (fuel + 1) listed a w := by
  intro fuel
  induction fuel with
  | zero =>
    intro listed a w _ hr hy hS H
    refine ⟨fun h => (by rw [h] at hr; cases hr), fun j hj => ?_⟩
    by_cases hji : j = i
    · subst hji; exact ⟨fun e => absurd e hiy, fun _ => hy.wpOp hi hS ⟨hS, H⟩⟩
    · have := ready_mono hj hji
      rw [H.1] at this
      cases this
  | succ fuel ih =>
    intro listed a w hfree hr hy hS H
    refine ⟨fun h => (by rw [h] at hr; cases hr), fun j hj => ?_⟩
    by_cases hji : j = i
    · subst hji; exact ⟨fun e => absurd e hiy, fun _ => hy.wpOp hi hS ⟨hS, H⟩⟩
    · have hjy : j ≠ y := fun e => by subst e; exact depOn_spec hdep hj hr
      refine ⟨fun e => absurd e hjy, fun _ => ?_⟩
      have h1 := (H.2 j (ready_mono hj hji)).2 hjy
      obtain ⟨hjun, oj, hoj, hall⟩ := mem_ready.1 hj
      have hnot : ∀ e ∈ oj.after, Region.binds md e = true → e.on ≠ i := fun e he hb heq => by
        have h1 := hall e he hb
        have h0 := (mem_ready.1 hr).1
        rw [heq] at h1
        rcases Nat.lt_or_ge i listed.size with h' | h'
        · simp [h'] at h0 h1; rw [h0] at h1; cases h1
        · simp [Array.getElem?_eq_none h'] at h1
      have h2 := wpOp_putIf hoj (hfree j oj hoj hji hjun hnot) (fun cs b => hsel i oi cs b hi) (fun cs b => hsel j oj cs b hoj) (fun _ _ _ h => h) hy h1
      have hfree' : ∀ k ok, ops[k]? = some ok → k ≠ i → (listed.setIfInBounds j true).getD k true = false →
          (∀ e ∈ ok.after, Region.binds md e = true → e.on ≠ i) → oi.apart ops ok = true := fun k ok hk hki hun hno => by
        refine hfree k ok hk hki ?_ hno
        by_cases hjk : j = k
        · subst hjk; exact hjun
        · rw [getD_set_ne true hjk] at hun; exact hun
      refine wpOp_mono (fun a' w' h3 => ⟨h3.2.1, ih (listed.setIfInBounds j true) a' w' hfree' (ready_mono hr (Ne.symm hji)) h3.1 h3.2.1 ?_⟩) h2
      rw [Array.setIfInBounds_comm _ _ hji]
      exact h3.2.2
theorem anyY_take (i : Nat) (oi : Oper) (d : Option Tmp) (v : Value) {fuel : Nat} {listed : Array Bool} {a : Act} {w : World} (hi : ops[i]? = some oi) (hw : Region.wanted oi (yielded ops a.tmps) = true) (hdep : depOn md ops y i = true)
    (hs : Region.noSelect ops = true) (hf : Region.free md ops listed i = true) (hr : (Region.ready md ops listed).contains i = true) (hiy : i ≠ y)
    (hd : oi.dst = d) (hy : ∀ w, S w → (execOp a.eval oi).run P w = .ok (.value v) w) (hS : S w)
    (h : anyY l n P md ops S y Q fuel (listed.setIfInBounds i true) (a.put d v) w) : anyY l n P md ops S y Q (fuel + 1) listed a w :=
  anyY_first hdep hiy hi (Region.noSelect_spec hs) fuel listed a w (Region.free_spec hi hf) (by simpa using hr) (.inl ⟨hw, hy⟩) hS (by rw [hd]; exact h)
theorem wpOp_valY (o : Oper) (d : Option Tmp) {i : Nat} {K : Act → World → Prop} {a : Act} {w : World} (hi : ops[i]? = some o) (hw : Region.wanted o (yielded ops a.tmps) = true) (hd : o.dst = d) (v : Value) (w' : World)
    (hrun : (execOp a.eval o).run P w = .ok (.value v) w') (h : K (a.put d v) w') : wpOp P ops Q i K a w := by
  subst hd
  unfold wpOp
  simp only [hi]
  rw [if_pos hw]
  refine .inl ?_
  unfold Oper.wp
  rw [hrun]
  exact h
theorem wpOp_callY (o : Oper) (d : Option Tmp) {i : Nat} {K : Act → World → Prop} {a : Act} {w : World} (hi : ops[i]? = some o) (hw : Region.wanted o (yielded ops a.tmps) = true) (hd : o.dst = d) (f : FuncId) (args : Array Value)
    (hrun : (execOp a.eval o).run P w = .ok (.enter f args) w) (h : Calls P f args w fun e w' => ∃ v, e = .returned v ∧ K (a.put d v) w') : wpOp P ops Q i K a w := by
  subst hd
  unfold wpOp
  simp only [hi]
  rw [if_pos hw]
  refine .inl ?_
  unfold Oper.wp
  rw [hrun]
  simp only [Oper.upon]
  refine h.mono ?_
  rintro e w' ⟨v, rfl, h1⟩
  exact h1
theorem anyY_one (i : Nat) {f : Nat} {listed : Array Bool} {a : Act} {w : World} (hr : Region.ready md ops listed = [i]) (hiy : i ≠ y)
    (h1 : wpOp P ops (fun _ _ _ => False) i (fun a' w' => S w' ∧ anyY l n P md ops S y Q f (listed.setIfInBounds i true) a' w') a w) : anyY l n P md ops S y Q (f + 1) listed a w := by
  refine ⟨fun h0 => (by rw [hr] at h0; cases h0), fun k hk => ?_⟩
  rw [hr] at hk
  simp only [List.mem_singleton] at hk
  subst hk
  exact ⟨fun e => absurd e hiy, fun _ => h1⟩
theorem anyY_fork (i j : Nat) {f : Nat} {listed : Array Bool} {a : Act} {w : World} (hr : Region.ready md ops listed = [i, j]) (hiy : i ≠ y) (hjy : j ≠ y)
    (h1 : wpOp P ops (fun _ _ _ => False) i (fun a' w' => S w' ∧ anyY l n P md ops S y Q f (listed.setIfInBounds i true) a' w') a w)
    (h2 : wpOp P ops (fun _ _ _ => False) j (fun a' w' => S w' ∧ anyY l n P md ops S y Q f (listed.setIfInBounds j true) a' w') a w) : anyY l n P md ops S y Q (f + 1) listed a w := by
  refine ⟨fun h0 => (by rw [hr] at h0; cases h0), fun k hk => ?_⟩
  rw [hr] at hk
  simp only [List.mem_cons, List.not_mem_nil, or_false] at hk
  rcases hk with rfl | rfl
  · exact ⟨fun e => absurd e hiy, fun _ => h1⟩
  · exact ⟨fun e => absurd e hjy, fun _ => h2⟩
/-- The call of yield. -/
theorem anyY_yield (o : Oper) (d : Option Tmp) {f : Nat} {listed : Array Bool} {a : Act} {w : World} (hi : ops[y]? = some o) (hw : Region.wanted o (yielded ops a.tmps) = true) (hr : Region.ready md ops listed = [y]) (hd : o.dst = d)
    (x z : Operand) (ats : Array TypeId) (ho : o.op = .call { callee := .value x, args := #[z], argTypes := ats }) {lo : Nat} (hx : a.eval x = .func (.yield lo) #[] #[]) (r : Loop) (t : Tmp) (hrr : w.heap[lo]? = some (.loop r)) (hp : r.params = #[t]) (vz : Value) (hz : a.eval z = vz)
    (h : RoundIn Fence.wide (n - 1) P lo r.fn (r.tmps.setIfInBounds t vz) r.assign r.body w fun e w' => ∃ v, e = .returned v ∧ anyY l n P md ops S y Q f (listed.setIfInBounds y true) (a.put d v) w') : anyY l n P md ops S y Q (f + 1) listed a w := by
  subst hz hd
  refine ⟨fun h0 => (by rw [hr] at h0; cases h0), fun k hk => ?_⟩
  rw [hr] at hk
  simp only [List.mem_singleton] at hk
  subst hk
  refine ⟨fun _ => ?_, fun e => absurd rfl e⟩
  unfold wpOpIn
  simp only [hi]
  rw [if_pos hw]
  refine ⟨fun _ _ => trivial, ?_⟩
  have hy := run_yield (P := P) (args := #[a.eval z]) hrr (by rw [hp]; rfl)
  rw [hp] at hy
  have hrun : (o.semAt (Fence.wide.inRound l).round a.eval).run P w = .ok (.round lo r.fn (r.tmps.setIfInBounds t (a.eval z)) r.assign r.body) w := by
    rw [Oper.semAt_eq _ _ _ (by simp [ho])]
    have h1 : resolve a.eval { callee := .value x, args := #[z], argTypes := ats } o.type = pure { target := .fn (.yield lo) #[], args := #[a.eval z] } := by
      unfold resolve
      simp only [hx, Deferred.ofValue]
      simp
    unfold execOp
    rw [ho]
    show ((resolve a.eval { callee := .value x, args := #[z], argTypes := ats } o.type) >>= fun d => invoke d.target d.args).run P w = _
    rw [h1]
    have hy' : (Instr.yield lo #[a.eval z]).run P w = .ok (.round lo r.fn (r.tmps.setIfInBounds t (a.eval z)) r.assign r.body) w := by rw [hy]; simp
    simp only [Sem.run_bind, Sem.run_pure, Result.andThen_ok]
    exact hy'
  rw [hrun]
  refine ⟨fun hd => by simp [Fence.wide] at hd, ?_⟩
  refine RoundIn.mono (F := Fence.wide.inRound l) h ?_
  rintro e w' ⟨v, rfl, hv⟩
  exact hv
theorem anyY_done {listed : Array Bool} {a : Act} {w : World} (hr : Region.ready md ops listed = []) (h : Q .normal a w) : ∀ fuel, anyY l n P md ops S y Q fuel listed a w
  | 0 => ⟨hr, h⟩
  | _ + 1 => ⟨fun _ => h, by rw [hr]; simp⟩
end
end Go.Proofs.YtbiijcljpgannaaGreatDoor
