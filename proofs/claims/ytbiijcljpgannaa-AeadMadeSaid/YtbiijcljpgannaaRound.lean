/-
  A range over a function at the wide fence: what is plainly walked goes into a round; a call of yield; the statement.
-/
import Derived.RangeFuncNested
import Derived.RangeFuncBound
import Derived.RangeFuncCalls
import Derived.RangeFuncLeaves
import Derived.OwnWalkIn
import Derived.TacticsInMore
import Derived.Test.YtbiijcljpgannaaQt
namespace Go.Proofs.Ytbiijcljpgannaa
open Go Go.RowKit
section
variable {P : Program} {ops : Array Oper} {Q : Exit → Act → World → Prop} {l n : Nat}

theorem round_op {o : Oper} {a : Act} {w : World} {K : Act → World → Prop} (hnd : ∀ c, o.op ≠ .defer c) (h : o.wp P a w K Q) : o.wpIn (Fence.wide.inRound l) n P a w K Q := by
  refine ⟨fun _ _ => trivial, ?_⟩
  rw [Oper.semAt_eq _ _ _ hnd]
  unfold Oper.wp at h
  generalize (execOp a.eval o).run P w = r at *
  cases r with
  | ok x w' =>
    cases x <;> simp only [Oper.upon] at h <;> simp only [Oper.uponIn]
    case value => exact h
    case skip => exact h
    case defer => exact h
    case enter => exact ⟨fun hd => by simp [Fence.wide] at hd, CallsIn.inRound l (callsIn_wide.2 h)⟩
    case row =>
      refine ⟨fun hd => by simp [Fence.wide] at hd, fun c cs _ => ?_⟩
      obtain ⟨v, w'', hR, hs⟩ := h c cs
      exact ⟨v, w'', hR, stepsIn_wide.2 hs⟩
  | halt x w' =>
    cases x <;> simp only [Oper.upon] at h <;> simp only [Oper.uponIn]
    exact h

def noDefer (ops : Array Oper) : Bool := ops.all fun o => match o.op with | .defer _ => false | _ => true
theorem noDefer_spec (h : noDefer ops = true) {i : Nat} {o : Oper} (ho : ops[i]? = some o) : ∀ c, o.op ≠ .defer c := by
  intro c hc
  obtain ⟨hi, rfl⟩ := Array.getElem?_eq_some_iff.1 ho
  have := (Array.all_eq_true.1 h) i hi
  simp [hc] at this

theorem round_any {md : Region.Mode} (hnd : noDefer ops = true) (hQ : ¬ LetsOut Q) : ∀ (fuel : Nat) (listed : Array Bool) (a : Act) (w : World), wpAny P md ops Q fuel listed a w → wpAnyIn (Fence.wide.inRound l) n P md ops Q fuel listed a w := by
  intro fuel
  induction fuel with
  | zero => intro listed a w h; exact h
  | succ fuel ih =>
    intro listed a w h
    refine ⟨h.1, fun i hi => ?_⟩
    have h2 := h.2 i hi
    unfold wpOp at h2
    unfold wpOpIn
    cases ho : ops[i]? with
    | none => simp only [ho] at h2 ⊢; exact ih _ _ _ h2
    | some o =>
      simp only [ho] at h2 ⊢
      split
      · rename_i hw
        rw [if_pos hw] at h2
        rcases h2 with h2 | h2
        · exact Oper.wpIn_mono (fun a' w' h' => ih _ _ _ h') (round_op (noDefer_spec hnd ho) h2)
        · exact absurd h2.2 hQ
      · rename_i hw
        rw [if_neg hw] at h2
        exact ⟨fun _ _ => trivial, ih _ _ _ h2⟩

theorem round_list (hQ : ¬ LetsOut Q) : ∀ (l' : List Oper) (a : Act) (w : World), (∀ o ∈ l', ∀ c, o.op ≠ .defer c) → wpList P ops Q l' a w → wpListIn (Fence.wide.inRound l) n P ops Q l' a w := by
  intro l'
  induction l' with
  | nil => intro a w _ h; exact h
  | cons o l' ih =>
    intro a w hd h
    unfold wpList at h
    unfold wpListIn
    split
    · rename_i hw
      rw [if_pos hw] at h
      rcases h with h | h
      · exact Oper.wpIn_mono (fun a' w' h' => ih _ _ (fun o ho => hd o (by simp [ho])) h') (round_op (hd o (by simp)) h)
      · exact absurd h.2 hQ
    · rename_i hw
      rw [if_neg hw] at h
      exact ⟨fun _ _ => trivial, ih _ _ (fun o ho => hd o (by simp [ho])) h⟩

/-- A region that does not draw, walked plainly, in a round. -/
theorem round_region {id : Nat} {a : Act} {w : World} {ol : List Oper} (hnd : noDefer ol.toArray = true) (hQ : ¬ LetsOut Q) (h : wpList P ol.toArray Q ol a w) : (Code.region id ol.toArray false).wpIn (Fence.wide.inRound l) n P Q a w :=
  wpIn_region_lit (round_list hQ ol a w (fun o ho => by
    obtain ⟨i, hi, rfl⟩ := List.getElem_of_mem ho
    exact noDefer_spec hnd (i := i) (by simp [hi])) h)
/-- A region that draws, in a round. -/
theorem round_draw {id : Nat} {a : Act} {w : World} {ol : List Oper} (hm : P.follows .mixedOrders = true) (hnd : noDefer ol.toArray = true) (hQ : ¬ LetsOut Q) (h : wpAny P .any ol.toArray Q ol.toArray.size (Array.replicate ol.toArray.size false) a w.drew) :
    (Code.region id ol.toArray true).wpIn (Fence.wide.inRound l) n P Q a w :=
  wpIn_region_any hm (round_any hnd hQ _ _ _ _ h)

/-- The statement 'for x := range f', f a function of the program with what it captured. -/
theorem wp_rangeFunc_wide {g : Operand} {ps : Array Tmp} {assign body : Code} {a : Act} {w : World} (gf : Nat) (lb : Array Value) (hg : a.eval g = .func (.func gf) #[] lb) (eg : ∀ args w, (callFunc gf args).run P w = .ok (.enter gf args) w)
    (h : ∀ fn, Calls P gf (#[.func (.yield (w.heap.size + 1)) #[] #[]] ++ lb) ((w.alloc (.deferred (some []))).alloc (.loop { state := .ready, pending := none, fn, tmps := a.tmps, params := ps, assign, body, defers := w.heap.size }))
      (rangePost Fence.wide 0 P (w.heap.size + 1) Q { a with defers := [{ target := .collected w.heap.size, args := #[] }] ++ a.defers })) : (Code.rangeFunc g ps assign body).wp P Q a w := by
  refine (wpIn_wide (n := 0)).1 (wpIn_rangeFunc fun fn _ => ?_)
  have h0 := h fn
  obtain ⟨W, hW⟩ : ∃ W, W = (w.alloc (.deferred (some []))).alloc (.loop { state := .ready, pending := none, fn, tmps := a.tmps, params := ps, assign, body, defers := w.heap.size }) := ⟨_, rfl⟩
  have h1 : (Instr.enterLoop fn a.tmps ps assign body Fence.wide.round).run P w = .ok (w.heap.size + 1, [{ target := .collected w.heap.size, args := #[] }]) W := by rw [hW]; exact run_enterLoop_outer _ _ _ _ _
  rw [← hW] at h0
  have h2 : (resolve a.eval (rangeCall g (w.heap.size + 1)) 0).run P W = .ok { target := .fn (.func gf) lb, args := #[.func (.yield (w.heap.size + 1)) #[] #[]] } W := by
    unfold resolve rangeCall
    simp only [hg, Deferred.ofValue]
    simp [Act.eval]
  have h3 : (invoke (.fn (.func gf) lb) #[.func (.yield (w.heap.size + 1)) #[] #[]]).run P W = .ok (.enter gf (#[.func (.yield (w.heap.size + 1)) #[] #[]] ++ lb)) W := by
    unfold invoke
    exact eg _ _
  exact ⟨w.heap.size + 1, _, W, _, W, gf, _, W, h1, h2, fun _ _ => trivial, h3, fun hd => by simp [Fence.wide] at hd, callsIn_wide.2 h0⟩

/-- A call of yield as an operation. -/
theorem wpListIn_yield {o : Oper} {rest : List Oper} {a : Act} {w : World} (hgd : o.guard = none) (x y : Operand) (ats : Array TypeId) (ho : o.op = .call { callee := .value x, args := #[y], argTypes := ats }) (hx : a.eval x = .func (.yield l) #[] #[])
    (r : Loop) (t : Tmp) (hr : w.heap[l]? = some (.loop r)) (hp : r.params = #[t])
    (h : RoundIn Fence.wide n P l r.fn (r.tmps.setIfInBounds t (a.eval y)) r.assign r.body w fun e w' => ∃ v, e = .returned v ∧ wpListIn Fence.wide (n + 1) P ops Q rest (a.put o.dst v) w') :
    wpListIn Fence.wide (n + 1) P ops Q (o :: rest) a w := by
  refine wpListIn_plain hgd fun K hK => ⟨fun _ _ => trivial, ?_⟩
  have hy := run_yield (P := P) (args := #[a.eval y]) hr (by rw [hp]; rfl)
  rw [hp] at hy
  have hrun : (o.semAt Fence.wide.round a.eval).run P w = .ok (.round l r.fn (r.tmps.setIfInBounds t (a.eval y)) r.assign r.body) w := by
    rw [Oper.semAt_eq _ _ _ (by simp [ho])]
    have h1 : resolve a.eval { callee := .value x, args := #[y], argTypes := ats } o.type = pure { target := .fn (.yield l) #[], args := #[a.eval y] } := by
      unfold resolve
      simp only [hx, Deferred.ofValue]
      simp
    unfold execOp
    rw [ho]
    show ((resolve a.eval { callee := .value x, args := #[y], argTypes := ats } o.type) >>= fun d => invoke d.target d.args).run P w = _
    rw [h1]
    have hy' : (Instr.yield l #[a.eval y]).run P w = .ok (.round l r.fn (r.tmps.setIfInBounds t (a.eval y)) r.assign r.body) w := by rw [hy]; simp
    simp only [Sem.run_bind, Sem.run_pure, Result.andThen_ok]
    exact hy'
  rw [hrun]
  refine ⟨fun hd => by simp [Fence.wide] at hd, h.mono ?_⟩
  rintro e w' ⟨v, rfl, hv⟩
  exact hK _ _ hv

theorem bodyPostM_ret {fn : Func} {R : Ending → World → Prop} {a : Act} {w : World} {v : Value} (hr : (results fn a.tmps).run P w = .ok v w) (hd : a.defers = []) (hR : R (.returned v) w) : bodyPostM Fence.wide n P fn R .ret a w := by
  show LeavesInM Fence.wide n P fn a.tmps R a.defers .returning w
  rw [hd]
  exact ⟨v, hr, hR⟩
theorem bodyPostM_mark {fn : Func} {R : Ending → World → Prop} {a : Act} {w : World} {v : Value} {D : Nat} (hd : a.defers = [{ target := .collected D, args := #[] }]) (hD : w.heap[D]? = some (.deferred (some [])))
    (hr : (results fn a.tmps).run P (w.putObj D (.deferred none)) = .ok v (w.putObj D (.deferred none))) (hR : R (.returned v) (w.putObj D (.deferred none))) : bodyPostM Fence.wide n P fn R .ret a w := by
  show LeavesInM Fence.wide n P fn a.tmps R a.defers .returning w
  rw [hd]
  exact ⟨by simp, .inl ⟨_, _, rfl, run_takeDeferred hD, v, hr, hR⟩⟩
/-- A function whose body holds a range over a function. -/
theorem calls_of_marks {f : FuncId} {fn : Func} {c : Code} {args : Array Value} {w : World} {R : Ending → World → Prop} (hf : P.funcs[f]? = some fn) (hb : fn.body = some c)
    (h : c.wp P (bodyPostM Fence.wide 0 P fn R) { tmps := args ++ Array.replicate (fn.ntmps - args.size) undef, defers := [] } w) : Calls P f args w R :=
  callsIn_wide.1 (callsIn_of_wp_marks (n := 0) hf hb trivial (wpIn_wide.2 h))
end
end Go.Proofs.Ytbiijcljpgannaa
