/- Several small texts in one: Mem Qt Round Float By App Byo Rds Row St As Cl. -/
import Derived.WalkKit
import Derived.Lib.Hide
import Derived.StillTailTactics
import Derived.Deep.QuietTactic
import Derived.BigQuiet
import Derived.RangeFuncNested
import Derived.RangeFuncBound
import Derived.RangeFuncCalls
import Derived.RangeFuncLeaves
import Derived.OwnWalkIn
import Derived.TacticsInMore
import Derived.OrdersHeld
import Derived.Lib.SlBytesConst
import Derived.ArgAppend
import Derived.Lib.JoinLaws
import Derived.WalkArith
import Derived.Laws.BitsAllLaws
import Derived.Laws.StructEq
import Derived.Deep.LoopGhost
import Derived.Deep.CutBlock
import Derived.Test.YtbiijcljpgannaaGreatDoorProg
import Derived.OwnWalk
import Derived.Laws.OwnMore
import Derived.Lib.SmallJoins
import Derived.Deep.Slices
import Derived.OpenShut
import Derived.ProofKit
import Derived.Deep.Fields
import Derived.ChangeSame
import Derived.SizedLaws
import Derived.ChangeKeysEq
import Derived.Deep.MidRow

namespace Go.Proofs.YtbiijcljpgannaaGreatDoor
set_option maxRecDepth 100000
open Go Go.RowKit

/-- Of the blocks that were there only those of S may have been written. -/
structure Mod (S : Nat → Prop) (w w' : World) : Prop where
  os : w'.os = w.os
  tape : w'.tape = w.tape
  output : w'.output = w.output
  size : w.heap.size ≤ w'.heap.size
  block : ∀ k, k < w.heap.size → ¬ S k → w'.heap[k]? = w.heap[k]?

theorem Mod.refl (S : Nat → Prop) (w : World) : Mod S w w := ⟨rfl, rfl, rfl, Nat.le_refl _, fun _ _ _ => rfl⟩
theorem Mod.trans' {S S' : Nat → Prop} {a b c : World} (h : Mod S a b) (k : Mod S' b c) (hS : ∀ i, i < a.heap.size → S' i → S i) : Mod S a c :=
  ⟨k.os.trans h.os, k.tape.trans h.tape, k.output.trans h.output, Nat.le_trans h.size k.size, fun i hi hn => (k.block i (Nat.lt_of_lt_of_le hi h.size) (fun e => hn (hS i hi e))).trans (h.block i hi hn)⟩
theorem Mod.trans {S : Nat → Prop} {a b c : World} (h : Mod S a b) (k : Mod S b c) : Mod S a c := h.trans' k (fun _ _ e => e)
theorem Mod.mono {S S' : Nat → Prop} {a b : World} (h : Mod S a b) (hS : ∀ i, i < a.heap.size → S i → S' i) : Mod S' a b :=
  ⟨h.os, h.tape, h.output, h.size, fun i hi hn => h.block i hi (fun e => hn (hS i hi e))⟩
theorem Mod.drew {S : Nat → Prop} {a w : World} (h : Mod S a w) : Mod S a w.drew := ⟨h.os, h.tape, h.output, h.size, h.block⟩
theorem Mod.drewN {S : Nat → Prop} {a w : World} (h : Mod S a w) (n : Nat) : Mod S a (w.drewN n) := ⟨h.os, h.tape, h.output, h.size, h.block⟩
theorem Mod.alloc {S : Nat → Prop} {a w : World} (h : Mod S a w) (o : Obj) : Mod S a (w.alloc o) :=
  h.trans' (S' := fun _ => False) ⟨rfl, rfl, rfl, by simp, fun k hk _ => Below.heap_alloc _ _ _ hk⟩ (fun _ _ e => e.elim)
theorem Mod.setCell {S : Nat → Prop} {a w : World} (h : Mod S a w) {p : Addr} (hp : p.block < a.heap.size → S p.block) (u : Value) : Mod S a (w.setCell p u) :=
  h.trans' (S' := fun k => k = p.block) ⟨rfl, rfl, rfl, by simp [World.setCell], fun k _ hk => Below.heap_setCell _ _ _ _ hk⟩ (fun i hi e => by subst e; exact hp hi)
theorem Mod.setRow {S : Nat → Prop} {a w : World} (h : Mod S a w) {g : Nat} (hp : g < a.heap.size → S g) (cs : Array Value) : Mod S a (w.setRow g cs) :=
  h.trans' (S' := fun k => k = g) ⟨rfl, rfl, rfl, by simp, fun k _ hk => setRow_other _ _ _ _ hk⟩ (fun i hi e => by subst e; exact hp hi)
theorem Mod.grown {S : Nat → Prop} {a w w' : World} {row : Option Nat} (h : Mod S a w) (hg : w.grownBy w' row) (hr : ∀ k, row = some k → k < a.heap.size → S k) : Mod S a w' :=
  h.trans' (S' := fun k => row = some k) ⟨hg.os, hg.tape, hg.output, hg.size, fun k hk hn => hg.block k hk (fun e => hn e.symm)⟩ (fun i hi e => hr i e hi)
theorem Mod.below {S : Nat → Prop} {a w : World} (h : Mod S a w) {B : Nat} (hB : B ≤ a.heap.size) (hS : ∀ i, S i → B ≤ i) : Below B a w :=
  ⟨h.os, h.tape, h.output, h.size, fun k hk => h.block k (by omega) (fun e => by have := hS k e; omega)⟩
theorem Mod.of_below {B : Nat} {a w : World} (h : Below B a w) : Mod (fun k => B ≤ k) a w := ⟨h.os, h.tape, h.output, h.size, fun k _ hn => h.block k (by omega)⟩
theorem Mod.heap {S : Nat → Prop} {a w : World} (h : Mod S a w) {g : Nat} {o : Obj} (hg : a.heap[g]? = some o) (hS : ¬ S g) : w.heap[g]? = some o :=
  (h.block g (Array.getElem?_eq_some_iff.1 hg).1 hS).trans hg
theorem Mod.one_setCell (w : World) (g i : Nat) (u : Value) : Mod (fun x => x = g) w (w.setCell ⟨g, i, none⟩ u) := (Mod.refl (fun x => x = g) w).setCell (fun _ => rfl) u
theorem Mod.one_setRow (w : World) (g : Nat) (cs : Array Value) : Mod (fun x => x = g) w (w.setRow g cs) := (Mod.refl (fun x => x = g) w).setRow (fun _ => rfl) cs
theorem lt_of_heap {w : World} {g : Nat} {o : Obj} (hg : w.heap[g]? = some o) : g < w.heap.size := (Array.getElem?_eq_some_iff.1 hg).1

theorem region_tail {P : Program} {id : Nat} {Q : Exit → Act → World → Prop} {a : Act} {w : World} {l : List Oper} (n : Nat) (hm : P.follows .mixedOrders = true) (hB : Region.lexTailB .any l.toArray n = true)
    (h : wpStill P l.toArray w.drew (fun a' => wpList P l.toArray Q (l.drop n) a' w.drew) (l.take n) a) : (Code.region id l.toArray true).wp P Q a w :=
  wp_region_still_tail n hm hB h
theorem setCell_row (w : World) (g i : Nat) (cs : Array Value) (t : TypeId) (v : Value) (hg : w.heap[g]? = some (.cells cs t (0,0))) : w.setCell ⟨g, i, none⟩ v = w.setRow g (cs.setIfInBounds i v) := setCell_eq_setRow w g i cs t (0,0) v hg
/-- The world where the walk stands gets a name. -/
theorem wp_world {P : Program} {c : Code} {Q : Exit → Act → World → Prop} {a : Act} {w : World} (h : ∀ w1, w1 = w → c.wp P Q a w1) : c.wp P Q a w := h w rfl
theorem wpList_world {P : Program} {ops : Array Oper} {Q : Exit → Act → World → Prop} {l : List Oper} {a : Act} {w : World} (h : ∀ w1, w1 = w → wpList P ops Q l a w1) : wpList P ops Q l a w := h w rfl
theorem calls_world {P : Program} {f : FuncId} {args : Array Value} {w : World} {R : Ending → World → Prop} (h : ∀ w1, w1 = w → Calls P f args w1 R) : Calls P f args w R := h w rfl
/-- 'a[l:h]' of an array behind a pointer, its elements of one cell. -/
theorem slice_array {P : Program} (w : World) (t E N b : Nat) (ht : P.underlying t = some (.array N E)) (ha : P.arrayLen t = N) (he : P.elem t = E) (hs : ∀ w, (sizeOf E).run P w = .ok 1 w) (L H : Int) (l h : Nat) (hL : L = l) (hH : H = h) (h1 : l ≤ h) (h2 : h ≤ N) (h3 : l < N) :
    (Instr.sliceAt t (.pointer (some ⟨b, 0, none⟩)) (some (.int .i64 L)) (some (.int .i64 H)) none).run P w = .ok (.slice (some ⟨b, l, none⟩) (h - l) (N - l)) w := by
  subst hL; subst hH
  rw [run_sliceAt_array_lh w t _ (by rw [ha, he]; exact ht) .i64 .i64 _ _ (by omega) (by omega) (by rw [ha]; omega), he, hs]
  have hne : ¬ (N = l) := by omega
  simp [slicedAt, ha, Addr.add, hne]
  exact fun h => h.symm
theorem ret_int {k : IntKind} {a b : Int} (h : a = b) : Ending.returned (.int k a) = .returned (.int k b) := by rw [h]
end Go.Proofs.YtbiijcljpgannaaGreatDoor

namespace Go.Proofs.YtbiijcljpgannaaGreatDoor
set_option maxRecDepth 100000
open Go Go.RowKit
section
variable {P : Program} {ops : Array Oper} {md : Region.Mode} {C : World → Prop}

/-- f operations of the head, in whatever order; then L. -/
def headAny (P : Program) (md : Region.Mode) (ops : Array Oper) (C : World → Prop) (n : Nat) (L : Array Bool → Act → Prop) : Nat → Array Bool → Act → Prop
  | 0, listed, a => L listed a
  | f + 1, listed, a => Region.ready md ops listed ≠ [] ∧ ∀ i ∈ Region.ready md ops listed, i < n ∧ qOp P ops C i (headAny P md ops C n L f (listed.setIfInBounds i true)) a

theorem any_of_head {n g : Nat} {L : Array Bool → Act → Prop} {Q' : Exit → Act → World → Prop} (hL : ∀ listed a w, C w → L listed a → wpAny P md ops Q' g listed a w) :
    ∀ (f : Nat) (listed : Array Bool) (a : Act) (w : World), C w → headAny P md ops C n L f listed a → wpAny P md ops Q' (f + g) listed a w := by
  intro f
  induction f with
  | zero => intro listed a w hC h; rw [Nat.zero_add]; exact hL _ _ _ hC h
  | succ f ih =>
    intro listed a w hC h
    rw [show f + 1 + g = (f + g) + 1 by omega]
    exact ⟨fun h0 => absurd h0 h.1, fun i hi => wpOp_of_qOp hC (fun a' w' hw' h' => ih _ a' w' hw' h') (h.2 i hi).2⟩

theorem head_first {n i : Nat} {oi : Oper} {v : Value} {L : Array Bool → Act → Prop} (hi : ops[i]? = some oi) (hsel : ∀ (j : Nat) (o : Oper) cs b, ops[j]? = some o → o.op ≠ .select cs b)
    (hs : Region.sinkB md ops n = true) (hc : Region.chainB md ops n = true) (hn : n < ops.size) (hin : i < n)
    (hdone : ∀ listed a, L listed a → ∀ j ∈ Region.ready md ops listed, n ≤ j) :
    ∀ (f : Nat) (listed : Array Bool) (a : Act), HeadInv md ops n listed →
      (∀ j oj, ops[j]? = some oj → j ≠ i → listed.getD j true = false → (∀ e ∈ oj.after, Region.binds md e = true → e.on ≠ i) → oi.apart ops oj = true) →
      i ∈ Region.ready md ops listed → YieldsIn P ops C oi v a →
      headAny P md ops C n L f (listed.setIfInBounds i true) (a.put oi.dst v) → headAny P md ops C n L (f + 1) listed a := by
  intro f
  induction f with
  | zero =>
    intro listed a inv _ hr hy H
    have hun := (mem_ready.1 hr).1
    refine ⟨fun h => (by rw [h] at hr; cases hr), fun j hj => ?_⟩
    have hjn : j < n := Nat.lt_of_not_le fun h => tail_waits hs hc hn inv _ i rfl hin hun j h hj
    refine ⟨hjn, ?_⟩
    by_cases hji : j = i
    · subst hji; exact hy.qOp hi H
    · exact absurd (hdone _ _ H j (ready_mono hj hji)) (by omega)
  | succ f ih =>
    intro listed a inv hfree hr hy H
    have hun := (mem_ready.1 hr).1
    refine ⟨fun h => (by rw [h] at hr; cases hr), fun j hj => ?_⟩
    have hjn : j < n := Nat.lt_of_not_le fun h => tail_waits hs hc hn inv _ i rfl hin hun j h hj
    refine ⟨hjn, ?_⟩
    by_cases hji : j = i
    · subst hji; exact hy.qOp hi H
    · have h1 := (H.2 j (ready_mono hj hji)).2
      obtain ⟨hjun, oj, hoj, hall⟩ := mem_ready.1 hj
      have hnot : ∀ e ∈ oj.after, Region.binds md e = true → e.on ≠ i := by
        intro e he hb heq
        have h2 := hall e he hb
        rw [heq, getD_both hun] at h2
        cases h2
      have h2 := qOp_put hoj (hfree j oj hoj hji hjun hnot) (fun cs b => hsel i oi cs b hi) (fun cs b => hsel j oj cs b hoj) hy h1
      have hfree' : ∀ k ok, ops[k]? = some ok → k ≠ i → (listed.setIfInBounds j true).getD k true = false →
          (∀ e ∈ ok.after, Region.binds md e = true → e.on ≠ i) → oi.apart ops ok = true := by
        intro k ok hk hki hun' hno
        refine hfree k ok hk hki ?_ hno
        by_cases hjk : j = k
        · subst hjk; exact hjun
        · rwa [getD_set_ne true hjk] at hun'
      refine qOp_mono (fun a' h3 => ih (listed.setIfInBounds j true) a' (inv.set hj hjn) hfree' (ready_mono hr (Ne.symm hji)) h3.1 ?_) h2
      rw [Array.setIfInBounds_comm _ _ hji]
      exact h3.2

theorem head_lex {n g : Nat} {Lq : Act → Prop} (hsel : Region.noSelect ops = true) (hs : Region.sinkB md ops n = true) (hc : Region.chainB md ops n = true) (hn : n < ops.size) :
    ∀ (l : List Oper) (k : Nat) (listed : Array Bool) (a : Act), (∀ j, j < l.length → l[j]? = ops[k + j]?) → k + l.length = n → HeadInv md ops n listed →
    Region.lexHead md ops g l.length k listed = true → wpQuiet P ops C Lq l a →
    headAny P md ops C n (fun listed' a' => Region.seqB md ops g n listed' = true ∧ Lq a') l.length listed a := by
  intro l
  induction l with
  | nil =>
    intro k listed a _ hk _ hB h
    obtain rfl : k = n := by simpa using hk
    exact ⟨by simpa [Region.lexHead] using hB, h⟩
  | cons o l ih =>
    intro k listed a hl hk inv hB h
    have h0 : ops[k]? = some o := by simpa using (hl 0 (by simp)).symm
    simp only [List.length_cons, Region.lexHead, Bool.and_eq_true] at hB
    obtain ⟨⟨hr, hf⟩, hB'⟩ := hB
    have hkn : k < n := by simp only [List.length_cons] at hk; omega
    have hr' : k ∈ Region.ready md ops listed := by simpa using hr
    have hst : qOp P ops C k (wpQuiet P ops C Lq l) a := by unfold qOp; simp only [h0]; exact h
    obtain ⟨v, hy, hK⟩ := yieldsIn_of_qOp h0 hst
    exact head_first h0 (Region.noSelect_spec hsel) hs hc hn hkn (fun _ _ hL => seqB_ready hL.1) l.length listed a inv (Region.free_spec h0 hf) hr' hy
      (ih (k + 1) _ _ (fun j hj => by have := hl (j + 1) (by simp; omega); simpa [Nat.add_assoc, Nat.add_comm 1 j] using this) (by simp only [List.length_cons] at hk; omega) (inv.set hr' hkn) hB' hK)

/-- The head is quiet in the class C; the tail is forced. -/
theorem any_qtailC {Q : Exit → Act → World → Prop} {a : Act} {w : World} {l : List Oper} (C : World → Prop) (n : Nat) (hB : Region.lexTailB .any l.toArray n = true) (hC : C w.drew)
    (h : wpQuiet P l.toArray C (fun a' => ∀ w', C w' → wpList P l.toArray Q (l.drop n) a' w') (l.take n) a) : wpAny P .any l.toArray Q l.toArray.size (Array.replicate l.toArray.size false) a w.drew := by
  simp only [Region.lexTailB, Bool.and_eq_true, decide_eq_true_eq] at hB
  obtain ⟨⟨⟨⟨hsel, hn⟩, hs⟩, hc⟩, hlex⟩ := hB
  have hn' : n < l.length := by simpa using hn
  have htl : (l.take n).length = n := by simp; omega
  have hdl : (l.drop n).length = l.toArray.size - n := by simp
  have inv0 : HeadInv .any l.toArray n (Array.replicate l.toArray.size false) :=
    ⟨by simp, fun j oj _ hl => (by rw [getD_replicate_false] at hl; cases hl), fun t _ ht => getD_in (by simpa using ht) (getD_replicate_false _ _)⟩
  have H := head_lex (md := .any) (g := l.toArray.size - n) hsel hs hc hn (l.take n) 0 _ a (fun j hj => by
    have hj' : j < n := by rw [htl] at hj; exact hj
    simp [hj']) (by simpa using htl) inv0 (by rw [htl]; exact hlex) h
  have := any_of_head (Q' := Q) (g := l.toArray.size - n) (fun listed a' w' hw' hL => by
    have := wpAny_of_seq (md := .any) (Q' := Q) (l.drop n) n listed a' w' (fun j => by simp [List.getElem?_drop]) (by rw [hdl]; exact hL.1) (hL.2 w' hw')
    rwa [hdl] at this) _ _ _ _ hC H
  rw [htl, show n + (l.toArray.size - n) = l.toArray.size by omega] at this
  exact this
theorem region_qtailC {id : Nat} {Q : Exit → Act → World → Prop} {a : Act} {w : World} {l : List Oper} (C : World → Prop) (n : Nat) (hm : P.follows .mixedOrders = true) (hB : Region.lexTailB .any l.toArray n = true) (hC : C w.drew)
    (h : wpQuiet P l.toArray C (fun a' => ∀ w', C w' → wpList P l.toArray Q (l.drop n) a' w') (l.take n) a) : (Code.region id l.toArray true).wp P Q a w :=
  wp_region_any hm (any_qtailC C n hB hC h)
/-- .. all of it quiet. -/
theorem any_quietC {Q : Exit → Act → World → Prop} {a : Act} {w : World} {l : List Oper} (C : World → Prop) (hB : Region.lexB .any l.toArray = true) (hC : C w.drew)
    (h : wpQuiet P l.toArray C (fun a' => ∀ w', C w' → Q .normal a' w') l a) : wpAny P .any l.toArray Q l.toArray.size (Array.replicate l.toArray.size false) a w.drew := by
  simp only [Region.lexB, Bool.and_eq_true] at hB
  refine wpAny_of_quiet (Q := fun a' => ∀ w', C w' → Q .normal a' w') (fun _ w' hw' h => h w' hw') _ _ _ _ hC ?_
  have := wpAnyQ_lex (C := C) (md := .any) hB.1 l.toArray.toList 0 (Array.replicate l.toArray.size false) a (by simp) (by simpa using hB.2) (by simpa using h)
  simpa using this

/-- The whole region is quiet in the class C. -/
theorem region_quietC {id : Nat} {Q : Exit → Act → World → Prop} {a : Act} {w : World} {l : List Oper} (C : World → Prop) (hm : P.follows .mixedOrders = true) (hB : Region.lexB .any l.toArray = true) (hC : C w.drew)
    (h : wpQuiet P l.toArray C (fun a' => ∀ w', C w' → Q .normal a' w') l a) : (Code.region id l.toArray true).wp P Q a w :=
  wp_region_quiet (C := C) hm hB hC (by simpa using h)
/-- A world that comes of w1 by calls that write to blocks of S alone. -/
structure MW (S : Nat → Prop) (w1 : World) where
  w : World
  h : Mod S w1 w
instance (S : Nat → Prop) (w1 : World) : Nonempty (MW S w1) := ⟨⟨w1, Mod.refl S w1⟩⟩
theorem region_quietM {id : Nat} {Q : Exit → Act → World → Prop} {a : Act} {w : World} {l : List Oper} (S : Nat → Prop) (hm : P.follows .mixedOrders = true) (hB : Region.lexB .any l.toArray = true)
    (h : wpQuiet P l.toArray (fun w' => ∃ u : MW S w, w' = u.w) (fun a' => ∀ w', Mod S w w' → Q .normal a' w') l a) : (Code.region id l.toArray true).wp P Q a w :=
  wp_region_quiet (C := fun w' => ∃ u : MW S w, w' = u.w) hm hB ⟨⟨_, (Mod.refl S w).drew⟩, rfl⟩ (by
    have e : (fun a' => ∀ w', (∃ u : MW S w, w' = u.w) → Q .normal a' w') = (fun a' => ∀ w', Mod S w w' → Q .normal a' w') := by
      funext a'
      exact propext ⟨fun h w' hw => h w' ⟨⟨w', hw⟩, rfl⟩, fun h w' ⟨u, hu⟩ => by subst hu; exact h _ u.h⟩
    rw [e]
    simpa using h)
theorem region_qtailM {id : Nat} {Q : Exit → Act → World → Prop} {a : Act} {w : World} {l : List Oper} (S : Nat → Prop) (n : Nat) (hm : P.follows .mixedOrders = true) (hB : Region.lexTailB .any l.toArray n = true)
    (h : wpQuiet P l.toArray (fun w' => ∃ u : MW S w, w' = u.w) (fun a' => ∀ w', Mod S w w' → wpList P l.toArray Q (l.drop n) a' w') (l.take n) a) : (Code.region id l.toArray true).wp P Q a w :=
  region_qtailC (fun w' => ∃ u : MW S w, w' = u.w) n hm hB ⟨⟨_, (Mod.refl S w).drew⟩, rfl⟩ (by
    have e : (fun a' => ∀ w', (∃ u : MW S w, w' = u.w) → wpList P l.toArray Q (l.drop n) a' w') = (fun a' => ∀ w', Mod S w w' → wpList P l.toArray Q (l.drop n) a' w') := by
      funext a'
      exact propext ⟨fun h w' hw => h w' ⟨⟨w', hw⟩, rfl⟩, fun h w' ⟨u, hu⟩ => by subst hu; exact h _ u.h⟩
    rw [e]
    exact h)
/-- .. at the class 'w after some draws'. -/
theorem region_qtail {id : Nat} {Q : Exit → Act → World → Prop} {a : Act} {w : World} {l : List Oper} (n : Nat) (hm : P.follows .mixedOrders = true) (hB : Region.lexTailB .any l.toArray n = true)
    (h : wpQuiet P l.toArray (fun w' => ∃ m, w' = w.drewN m) (fun a' => ∀ w', (∃ m, w' = w.drewN m) → wpList P l.toArray Q (l.drop n) a' w') (l.take n) a) : (Code.region id l.toArray true).wp P Q a w :=
  region_qtailC _ n hm hB ⟨1, rfl⟩ h
end
end Go.Proofs.YtbiijcljpgannaaGreatDoor

namespace Go.Proofs.YtbiijcljpgannaaGreatDoor
set_option maxRecDepth 100000
open Go Go.RowKit
section
variable {P : Program} {ops : Array Oper} {Q : Exit → Act → World → Prop} {l n : Nat}

theorem round_op {o : Oper} {a : Act} {w : World} {K : Act → World → Prop} (hnd : ∀ c, o.op ≠ .defer c) (h : o.wp P a w K Q) : o.wpIn (Fence.wide.inRound l) n P a w K Q := by
  refine ⟨fun _ _ => trivial, ?_⟩
  rw [Oper.semAt_eq _ _ _ hnd]
  unfold Oper.wp at h
  generalize (execOp a.eval o).run P w = r at *
  cases r with
  | ok x w' =>
    cases x <;> simp only [Oper.upon] at h <;> simp only [Oper.uponIn]
    case value => exact h
    case skip => exact h
    case defer => exact h
    case enter => exact ⟨fun hd => by simp [Fence.wide] at hd, CallsIn.inRound l (callsIn_wide.2 h)⟩
    case row =>
      refine ⟨fun hd => by simp [Fence.wide] at hd, fun c cs _ => ?_⟩
      obtain ⟨v, w'', hR, hs⟩ := h c cs
      exact ⟨v, w'', hR, stepsIn_wide.2 hs⟩
  | halt x w' =>
    cases x <;> simp only [Oper.upon] at h <;> simp only [Oper.uponIn]
    exact h

def noDefer (ops : Array Oper) : Bool := ops.all fun o => match o.op with | .defer _ => false | _ => true
theorem noDefer_spec (h : noDefer ops = true) {i : Nat} {o : Oper} (ho : ops[i]? = some o) : ∀ c, o.op ≠ .defer c := by
  intro c hc
  obtain ⟨hi, rfl⟩ := Array.getElem?_eq_some_iff.1 ho
  have := (Array.all_eq_true.1 h) i hi
  simp [hc] at this

theorem round_any {md : Region.Mode} (hnd : noDefer ops = true) (hQ : ¬ LetsOut Q) : ∀ (fuel : Nat) (listed : Array Bool) (a : Act) (w : World), wpAny P md ops Q fuel listed a w → wpAnyIn (Fence.wide.inRound l) n P md ops Q fuel listed a w := by
  intro fuel
  induction fuel with
  | zero => intro listed a w h; exact h
  | succ fuel ih =>
    intro listed a w h
    refine ⟨h.1, fun i hi => ?_⟩
    have h2 := h.2 i hi
    unfold wpOp at h2
    unfold wpOpIn
    cases ho : ops[i]? with
    | none => simp only [ho] at h2 ⊢; exact ih _ _ _ h2
    | some o =>
      simp only [ho] at h2 ⊢
      split
      · rename_i hw
        rw [if_pos hw] at h2
        rcases h2 with h2 | h2
        · exact Oper.wpIn_mono (fun a' w' h' => ih _ _ _ h') (round_op (noDefer_spec hnd ho) h2)
        · exact absurd h2.2 hQ
      · rename_i hw
        rw [if_neg hw] at h2
        exact ⟨fun _ _ => trivial, ih _ _ _ h2⟩

theorem round_list (hQ : ¬ LetsOut Q) : ∀ (l' : List Oper) (a : Act) (w : World), (∀ o ∈ l', ∀ c, o.op ≠ .defer c) → wpList P ops Q l' a w → wpListIn (Fence.wide.inRound l) n P ops Q l' a w := by
  intro l'
  induction l' with
  | nil => intro a w _ h; exact h
  | cons o l' ih =>
    intro a w hd h
    unfold wpList at h
    unfold wpListIn
    split
    · rename_i hw
      rw [if_pos hw] at h
      rcases h with h | h
      · exact Oper.wpIn_mono (fun a' w' h' => ih _ _ (fun o ho => hd o (by simp [ho])) h') (round_op (hd o (by simp)) h)
      · exact absurd h.2 hQ
    · rename_i hw
      rw [if_neg hw] at h
      exact ⟨fun _ _ => trivial, ih _ _ (fun o ho => hd o (by simp [ho])) h⟩

/-- A region that does not draw, walked plainly, in a round. -/
theorem round_region {id : Nat} {a : Act} {w : World} {ol : List Oper} (hnd : noDefer ol.toArray = true) (hQ : ¬ LetsOut Q) (h : wpList P ol.toArray Q ol a w) : (Code.region id ol.toArray false).wpIn (Fence.wide.inRound l) n P Q a w :=
  wpIn_region_lit (round_list hQ ol a w (fun o ho => by
    obtain ⟨i, hi, rfl⟩ := List.getElem_of_mem ho
    exact noDefer_spec hnd (i := i) (by simp [hi])) h)
/-- A region that draws, in a round. -/
theorem round_draw {id : Nat} {a : Act} {w : World} {ol : List Oper} (hm : P.follows .mixedOrders = true) (hnd : noDefer ol.toArray = true) (hQ : ¬ LetsOut Q) (h : wpAny P .any ol.toArray Q ol.toArray.size (Array.replicate ol.toArray.size false) a w.drew) :
    (Code.region id ol.toArray true).wpIn (Fence.wide.inRound l) n P Q a w :=
  wpIn_region_any hm (round_any hnd hQ _ _ _ _ h)

/-- The statement 'for x := range f', f a function of the program with what it captured. -/
theorem wp_rangeFunc_wide {g : Operand} {ps : Array Tmp} {assign body : Code} {a : Act} {w : World} (gf : Nat) (lb : Array Value) (hg : a.eval g = .func (.func gf) #[] lb) (eg : ∀ args w, (callFunc gf args).run P w = .ok (.enter gf args) w)
    (h : ∀ fn, Calls P gf (#[.func (.yield (w.heap.size + 1)) #[] #[]] ++ lb) ((w.alloc (.deferred (some []))).alloc (.loop { state := .ready, pending := none, fn, tmps := a.tmps, params := ps, assign, body, defers := w.heap.size }))
      (rangePost Fence.wide 0 P (w.heap.size + 1) Q { a with defers := [{ target := .collected w.heap.size, args := #[] }] ++ a.defers })) : (Code.rangeFunc g ps assign body).wp P Q a w := by
  refine (wpIn_wide (n := 0)).1 (wpIn_rangeFunc fun fn _ => ?_)
  have h0 := h fn
  obtain ⟨W, hW⟩ : ∃ W, W = (w.alloc (.deferred (some []))).alloc (.loop { state := .ready, pending := none, fn, tmps := a.tmps, params := ps, assign, body, defers := w.heap.size }) := ⟨_, rfl⟩
  have h1 : (Instr.enterLoop fn a.tmps ps assign body Fence.wide.round).run P w = .ok (w.heap.size + 1, [{ target := .collected w.heap.size, args := #[] }]) W := by rw [hW]; exact run_enterLoop_outer _ _ _ _ _
  rw [← hW] at h0
  have h2 : (resolve a.eval (rangeCall g (w.heap.size + 1)) 0).run P W = .ok { target := .fn (.func gf) lb, args := #[.func (.yield (w.heap.size + 1)) #[] #[]] } W := by
    unfold resolve rangeCall
    simp only [hg, Deferred.ofValue]
    simp [Act.eval]
  have h3 : (invoke (.fn (.func gf) lb) #[.func (.yield (w.heap.size + 1)) #[] #[]]).run P W = .ok (.enter gf (#[.func (.yield (w.heap.size + 1)) #[] #[]] ++ lb)) W := by
    unfold invoke
    exact eg _ _
  exact ⟨w.heap.size + 1, _, W, _, W, gf, _, W, h1, h2, fun _ _ => trivial, h3, fun hd => by simp [Fence.wide] at hd, callsIn_wide.2 h0⟩

/-- A call of yield as an operation. -/
theorem wpListIn_yield {o : Oper} {rest : List Oper} {a : Act} {w : World} (hgd : o.guard = none) (x y : Operand) (ats : Array TypeId) (ho : o.op = .call { callee := .value x, args := #[y], argTypes := ats }) (hx : a.eval x = .func (.yield l) #[] #[])
    (r : Loop) (t : Tmp) (hr : w.heap[l]? = some (.loop r)) (hp : r.params = #[t])
    (h : RoundIn Fence.wide n P l r.fn (r.tmps.setIfInBounds t (a.eval y)) r.assign r.body w fun e w' => ∃ v, e = .returned v ∧ wpListIn Fence.wide (n + 1) P ops Q rest (a.put o.dst v) w') :
    wpListIn Fence.wide (n + 1) P ops Q (o :: rest) a w := by
  refine wpListIn_plain hgd fun K hK => ⟨fun _ _ => trivial, ?_⟩
  have hy := run_yield (P := P) (args := #[a.eval y]) hr (by rw [hp]; rfl)
  rw [hp] at hy
  have hrun : (o.semAt Fence.wide.round a.eval).run P w = .ok (.round l r.fn (r.tmps.setIfInBounds t (a.eval y)) r.assign r.body) w := by
    rw [Oper.semAt_eq _ _ _ (by simp [ho])]
    have h1 : resolve a.eval { callee := .value x, args := #[y], argTypes := ats } o.type = pure { target := .fn (.yield l) #[], args := #[a.eval y] } := by
      unfold resolve
      simp only [hx, Deferred.ofValue]
      simp
    unfold execOp
    rw [ho]
    show ((resolve a.eval { callee := .value x, args := #[y], argTypes := ats } o.type) >>= fun d => invoke d.target d.args).run P w = _
    rw [h1]
    have hy' : (Instr.yield l #[a.eval y]).run P w = .ok (.round l r.fn (r.tmps.setIfInBounds t (a.eval y)) r.assign r.body) w := by rw [hy]; simp
    simp only [Sem.run_bind, Sem.run_pure, Result.andThen_ok]
    exact hy'
  rw [hrun]
  refine ⟨fun hd => by simp [Fence.wide] at hd, h.mono ?_⟩
  rintro e w' ⟨v, rfl, hv⟩
  exact hK _ _ hv

theorem bodyPostM_ret {fn : Func} {R : Ending → World → Prop} {a : Act} {w : World} {v : Value} (hr : (results fn a.tmps).run P w = .ok v w) (hd : a.defers = []) (hR : R (.returned v) w) : bodyPostM Fence.wide n P fn R .ret a w := by
  show LeavesInM Fence.wide n P fn a.tmps R a.defers .returning w
  rw [hd]
  exact ⟨v, hr, hR⟩
theorem bodyPostM_mark {fn : Func} {R : Ending → World → Prop} {a : Act} {w : World} {v : Value} {D : Nat} (hd : a.defers = [{ target := .collected D, args := #[] }]) (hD : w.heap[D]? = some (.deferred (some [])))
    (hr : (results fn a.tmps).run P (w.putObj D (.deferred none)) = .ok v (w.putObj D (.deferred none))) (hR : R (.returned v) (w.putObj D (.deferred none))) : bodyPostM Fence.wide n P fn R .ret a w := by
  show LeavesInM Fence.wide n P fn a.tmps R a.defers .returning w
  rw [hd]
  exact ⟨by simp, .inl ⟨_, _, rfl, run_takeDeferred hD, v, hr, hR⟩⟩
/-- A function whose body holds a range over a function. -/
theorem calls_of_marks {f : FuncId} {fn : Func} {c : Code} {args : Array Value} {w : World} {R : Ending → World → Prop} (hf : P.funcs[f]? = some fn) (hb : fn.body = some c)
    (h : c.wp P (bodyPostM Fence.wide 0 P fn R) { tmps := args ++ Array.replicate (fn.ntmps - args.size) undef, defers := [] } w) : Calls P f args w R :=
  callsIn_wide.1 (callsIn_of_wp_marks (n := 0) hf hb trivial (wpIn_wide.2 h))
end
end Go.Proofs.YtbiijcljpgannaaGreatDoor

namespace Go.Proofs.YtbiijcljpgannaaGreatDoor
set_option maxRecDepth 100000
open Go Go.RowKit
section
variable {P : Program} {ops : Array Oper} {md : Region.Mode} {S : World → Prop} {Q : Exit → Act → World → Prop} {z : Nat}

def anyZ (P : Program) (md : Region.Mode) (ops : Array Oper) (S : World → Prop) (z : Nat) (Q : Exit → Act → World → Prop) : Nat → Array Bool → Act → World → Prop
  | 0, listed, a, w => Region.ready md ops listed = [] ∧ Q .normal a w
  | f + 1, listed, a, w => (Region.ready md ops listed = [] → Q .normal a w) ∧
      ∀ i ∈ Region.ready md ops listed, wpOp P ops (fun _ _ _ => False) i (fun a' w' => (i ≠ z → S w') ∧ anyZ P md ops S z Q f (listed.setIfInBounds i true) a' w') a w

theorem wpOp_calm {i : Nat} {a : Act} {w : World} {K : Act → World → Prop} (h : wpOp P ops (fun _ _ _ => False) i K a w) : wpOp P ops Q i K a w := by
  unfold wpOp at *
  cases ho : ops[i]? with
  | none => simp only [ho] at h ⊢; exact h
  | some o =>
    simp only [ho] at h ⊢
    split
    · rename_i hw
      rw [if_pos hw] at h
      rcases h with h | ⟨_, _, _, h⟩
      · refine .inl ?_
        unfold Oper.wp at *
        generalize (execOp a.eval o).run P w = r at *
        cases r with
        | ok x w' =>
          cases x <;> simp only [Oper.upon] at h ⊢
          case value => exact h
          case skip => exact h
          case defer => exact h
          case row => exact h
          case enter =>
            refine h.mono ?_
            intro e w'' he
            cases e with
            | returned u => exact he
            | panicked ch => exact he.elim
            | outgrown => obtain ⟨_, _, hf⟩ := he; exact hf.elim
        | halt x w' => cases x <;> simp only [Oper.upon] at h
      · exact h.elim
    · rename_i hw
      rw [if_neg hw] at h
      exact h

theorem any_of_Z : ∀ (f : Nat) (listed : Array Bool) (a : Act) (w : World), anyZ P md ops S z Q f listed a w → wpAny P md ops Q f listed a w
  | 0, _, _, _, h => h
  | f + 1, _, _, _, h => ⟨h.1, fun i hi => wpOp_calm (wpOp_mono (fun a' w' h' => any_of_Z f _ a' w' h'.2) (h.2 i hi))⟩

/-- z waits for all others (or is no operation of the region: then S holds to the end). -/
def lastOf (md : Region.Mode) (ops : Array Oper) (z : Nat) : Bool := match ops[z]? with
  | some o => (List.range ops.size).all fun i => i == z || o.after.any fun e => Region.binds md e && e.on == i
  | none => true
theorem lastOf_spec (h : lastOf md ops z = true) {listed : Array Bool} {i : Nat} (hz : z ∈ Region.ready md ops listed) (hi : i ∈ Region.ready md ops listed) : i = z := by
  obtain ⟨_, oz, hoz, hall⟩ := mem_ready.1 hz
  obtain ⟨hu, oi, hoi, _⟩ := mem_ready.1 hi
  unfold lastOf at h
  rw [hoz] at h
  simp only [List.all_eq_true, List.mem_range] at h
  have hi' : i < ops.size := (Array.getElem?_eq_some_iff.1 hoi).1
  have h1 := h i hi'
  simp only [Bool.or_eq_true, beq_iff_eq, Array.any_eq_true', Bool.and_eq_true] at h1
  rcases h1 with h1 | ⟨e, he, hb, hon⟩
  · exact h1
  · have h2 := hall e he hb
    rw [hon] at h2
    rcases Nat.lt_or_ge i listed.size with h' | h'
    · simp [h'] at hu h2; rw [hu] at h2; cases h2
    · simp [Array.getElem?_eq_none h'] at h2

theorem anyZ_first {i : Nat} {oi : Oper} {v : Value} (hL : lastOf md ops z = true) (hiz : i ≠ z) (hi : ops[i]? = some oi) (hsel : ∀ (j : Nat) (o : Oper) cs b, ops[j]? = some o → o.op ≠ .select cs b) :
    ∀ (fuel : Nat) (listed : Array Bool) (a : Act) (w : World),
      (∀ j oj, ops[j]? = some oj → j ≠ i → listed.getD j true = false → (∀ e ∈ oj.after, Region.binds md e = true → e.on ≠ i) → oi.apart ops oj = true) →
      i ∈ Region.ready md ops listed → YieldsIf P ops S oi v a → S w →
      anyZ P md ops S z Q fuel (listed.setIfInBounds i true) (a.put oi.dst v) w → anyZ P md ops S z Q (fuel + 1) listed a w := by
  intro fuel
  induction fuel with
  | zero =>
    intro listed a w _ hr hy hS H
    refine ⟨fun h => (by rw [h] at hr; cases hr), fun j hj => ?_⟩
    by_cases hji : j = i
    · subst hji; exact hy.wpOp hi hS ⟨fun _ => hS, H⟩
    · have := ready_mono hj hji
      rw [H.1] at this
      cases this
  | succ fuel ih =>
    intro listed a w hfree hr hy hS H
    refine ⟨fun h => (by rw [h] at hr; cases hr), fun j hj => ?_⟩
    by_cases hji : j = i
    · subst hji; exact hy.wpOp hi hS ⟨fun _ => hS, H⟩
    · have hjz : j ≠ z := fun e => by subst e; exact hiz (lastOf_spec hL hj hr)
      have h1 := H.2 j (ready_mono hj hji)
      obtain ⟨hjun, oj, hoj, hall⟩ := mem_ready.1 hj
      have hnot : ∀ e ∈ oj.after, Region.binds md e = true → e.on ≠ i := fun e he hb heq => by
        have h1 := hall e he hb
        have h0 := (mem_ready.1 hr).1
        rw [heq] at h1
        rcases Nat.lt_or_ge i listed.size with h' | h'
        · simp [h'] at h0 h1; rw [h0] at h1; cases h1
        · simp [Array.getElem?_eq_none h'] at h1
      have h2 := wpOp_putIf hoj (hfree j oj hoj hji hjun hnot) (fun cs b => hsel i oi cs b hi) (fun cs b => hsel j oj cs b hoj) (fun _ _ _ h => h) hy h1
      have hfree' : ∀ k ok, ops[k]? = some ok → k ≠ i → (listed.setIfInBounds j true).getD k true = false →
          (∀ e ∈ ok.after, Region.binds md e = true → e.on ≠ i) → oi.apart ops ok = true := fun k ok hk hki hun hno => by
        refine hfree k ok hk hki ?_ hno
        by_cases hjk : j = k
        · subst hjk; exact hjun
        · rw [getD_set_ne true hjk] at hun; exact hun
      refine wpOp_mono (fun a' w' h3 => ⟨h3.2.1, ih (listed.setIfInBounds j true) a' w' hfree' (ready_mono hr (Ne.symm hji)) h3.1 (h3.2.1 hjz) ?_⟩) h2
      rw [Array.setIfInBounds_comm _ _ hji]
      exact h3.2.2

theorem anyZ_take (i : Nat) (oi : Oper) (d : Option Tmp) (v : Value) {fuel : Nat} {listed : Array Bool} {a : Act} {w : World} (hi : ops[i]? = some oi) (hw : Region.wanted oi (yielded ops a.tmps) = true) (hL : lastOf md ops z = true)
    (hs : Region.noSelect ops = true) (hf : Region.free md ops listed i = true) (hr : (Region.ready md ops listed).contains i = true) (hiz : i ≠ z)
    (hd : oi.dst = d) (hy : ∀ w, S w → (execOp a.eval oi).run P w = .ok (.value v) w) (hS : S w)
    (h : anyZ P md ops S z Q fuel (listed.setIfInBounds i true) (a.put d v) w) : anyZ P md ops S z Q (fuel + 1) listed a w :=
  anyZ_first hL hiz hi (Region.noSelect_spec hs) fuel listed a w (Region.free_spec hi hf) (by simpa using hr) (.inl ⟨hw, hy⟩) hS (by rw [hd]; exact h)

/-- The one that must come up now. -/
theorem anyZ_next (i : Nat) (o : Oper) (d : Option Tmp) {fuel : Nat} {listed : Array Bool} {a : Act} {w : World} (hi : ops[i]? = some o) (hw : Region.wanted o (yielded ops a.tmps) = true) (hr : Region.ready md ops listed = [i]) (hd : o.dst = d) (v : Value) (w' : World)
    (hrun : (execOp a.eval o).run P w = .ok (.value v) w') (hS : i ≠ z → S w')
    (h : anyZ P md ops S z Q fuel (listed.setIfInBounds i true) (a.put d v) w') : anyZ P md ops S z Q (fuel + 1) listed a w := by
  subst hd
  refine ⟨fun h0 => (by rw [hr] at h0; cases h0), fun j hj => ?_⟩
  rw [hr] at hj
  simp only [List.mem_singleton] at hj
  subst hj
  unfold wpOp
  simp only [hi]
  rw [if_pos hw]
  refine .inl ?_
  unfold Oper.wp
  rw [hrun]
  exact ⟨hS, h⟩
/-- .. a store. -/
theorem anyZ_skip (i : Nat) (o : Oper) {fuel : Nat} {listed : Array Bool} {a : Act} {w : World} (hi : ops[i]? = some o) (hw : Region.wanted o (yielded ops a.tmps) = true) (hr : Region.ready md ops listed = [i]) (hd : o.dst = none) (w' : World)
    (hrun : (execOp a.eval o).run P w = .ok .skip w') (hS : i ≠ z → S w')
    (h : anyZ P md ops S z Q fuel (listed.setIfInBounds i true) a w') : anyZ P md ops S z Q (fuel + 1) listed a w := by
  refine ⟨fun h0 => (by rw [hr] at h0; cases h0), fun j hj => ?_⟩
  rw [hr] at hj
  simp only [List.mem_singleton] at hj
  subst hj
  unfold wpOp
  simp only [hi]
  rw [if_pos hw]
  refine .inl ?_
  unfold Oper.wp
  rw [hrun]
  simp only [Oper.upon, hd]
  exact ⟨hS, h⟩
/-- .. a call of a Go function. -/
theorem anyZ_call (i : Nat) (o : Oper) (d : Option Tmp) {fuel : Nat} {listed : Array Bool} {a : Act} {w : World} (hi : ops[i]? = some o) (hw : Region.wanted o (yielded ops a.tmps) = true) (hr : Region.ready md ops listed = [i]) (hd : o.dst = d) (f : FuncId) (args : Array Value)
    (hrun : (execOp a.eval o).run P w = .ok (.enter f args) w)
    (h : Calls P f args w fun e w' => ∃ v, e = .returned v ∧ (i ≠ z → S w') ∧ anyZ P md ops S z Q fuel (listed.setIfInBounds i true) (a.put d v) w') : anyZ P md ops S z Q (fuel + 1) listed a w := by
  subst hd
  refine ⟨fun h0 => (by rw [hr] at h0; cases h0), fun j hj => ?_⟩
  rw [hr] at hj
  simp only [List.mem_singleton] at hj
  subst hj
  unfold wpOp
  simp only [hi]
  rw [if_pos hw]
  refine .inl ?_
  unfold Oper.wp
  rw [hrun]
  simp only [Oper.upon]
  refine h.mono ?_
  rintro e w' ⟨v, rfl, h1⟩
  exact h1
/-- .. whatever its own law says. -/
theorem anyZ_wp (i : Nat) (o : Oper) {fuel : Nat} {listed : Array Bool} {a : Act} {w : World} (hi : ops[i]? = some o) (hw : Region.wanted o (yielded ops a.tmps) = true) (hr : Region.ready md ops listed = [i])
    (h : o.wp P a w (fun a' w' => (i ≠ z → S w') ∧ anyZ P md ops S z Q fuel (listed.setIfInBounds i true) a' w') (fun _ _ _ => False)) : anyZ P md ops S z Q (fuel + 1) listed a w := by
  refine ⟨fun h0 => (by rw [hr] at h0; cases h0), fun j hj => ?_⟩
  rw [hr] at hj
  simp only [List.mem_singleton] at hj
  subst hj
  unfold wpOp
  simp only [hi]
  rw [if_pos hw]
  exact .inl h
/-- An operation whose guard is not met. -/
theorem anyZ_pass (i : Nat) (oi : Oper) (d : Option Tmp) {fuel : Nat} {listed : Array Bool} {a : Act} {w : World} (hi : ops[i]? = some oi) (hw : Region.wanted oi (yielded ops a.tmps) = false) (hL : lastOf md ops z = true)
    (hs : Region.noSelect ops = true) (hf : Region.free md ops listed i = true) (hr : (Region.ready md ops listed).contains i = true) (hiz : i ≠ z)
    (hd : oi.dst = d) (hS : S w)
    (h : anyZ P md ops S z Q fuel (listed.setIfInBounds i true) (a.put d undef) w) : anyZ P md ops S z Q (fuel + 1) listed a w :=
  anyZ_first hL hiz hi (Region.noSelect_spec hs) fuel listed a w (Region.free_spec hi hf) (by simpa using hr) (.inr ⟨hw, rfl⟩) hS (by rw [hd]; exact h)

theorem anyZ_done {listed : Array Bool} {a : Act} {w : World} (hr : Region.ready md ops listed = []) (h : Q .normal a w) : ∀ fuel, anyZ P md ops S z Q fuel listed a w
  | 0 => ⟨hr, h⟩
  | _ + 1 => ⟨fun _ => h, by rw [hr]; simp⟩
end
end Go.Proofs.YtbiijcljpgannaaGreatDoor

namespace Go.Proofs.YtbiijcljpgannaaGreatDoor
set_option maxRecDepth 100000
open Go Go.RowKit
set_option linter.unusedSimpArgs false

theorem hp_new (w : World) (o : Obj) (n : Nat) (h : n = w.heap.size) : (w.alloc o).heap[n]? = some o := by subst h; exact heap_alloc_new w o
theorem hp_old (w : World) (o : Obj) (n : Nat) (h : n < w.heap.size) : (w.alloc o).heap[n]? = w.heap[n]? := heap_alloc_old w o h

theorem conv_const {P : Program} (w : World) (t e : TypeId) (C : Array Value) (n c b : Nat) (hb : b = w.heap.size) (ht : P.underlying t = some (.slice e)) (he : P.underlying e = some (.int .u8)) :
    (convert t t (.slice (some ⟨b, 0, none⟩) n c)).run P (w.alloc (.cells C e)) = .ok (.slice (some ⟨b, 0, none⟩) n c) (w.alloc (.cells C e (C.size, C.size + 1))) := by
  subst hb; exact Lib.run_convert_bytes_const w t e C n c ht he
def encB (s : List (BitVec 8)) : Array Value := (s.map fun x => Value.int .u8 (x.toNat : Int)).toArray
theorem encB_get {s : List (BitVec 8)} {i : Nat} (hi : i < s.length) : (encB s)[i]? = some (.int .u8 ((s.getD i 0).toNat : Int)) := by
  simp [encB, hi]
theorem encB_set (s : List (BitVec 8)) (i : Nat) (x : BitVec 8) : (encB s).setIfInBounds i (.int .u8 (x.toNat : Int)) = encB (s.set i x) := by
  simp [encB]
theorem encB_size (s : List (BitVec 8)) : (encB s).size = s.length := by simp [encB]
theorem encB_one (s : List (BitVec 8)) : (encB s).all (·.oneCell') = true := by simp [encB, Value.oneCell']
theorem encB_cell {w : World} {g : Nat} {t : TypeId} {s : List (BitVec 8)} {fr : Nat × Nat} (hg : w.heap[g]? = some (.cells (encB s) t fr)) {i : Nat} (hi : i < s.length) : w.cell? ⟨g, i, none⟩ = some (.int .u8 ((s.getD i 0).toNat : Int)) := by
  rw [cell_of_row _ _ _ _ _ _ hg]; exact encB_get hi
/-- A slice of bytes as it lies in memory. -/
def ByteAt (w : World) (v : Value) (bs : List (BitVec 8)) : Prop :=
  (∃ ad cap, v = .slice ad 0 cap ∧ bs = []) ∨ ∃ g off cap, v = .slice (some ⟨g, off, none⟩) bs.length cap ∧ bs.length ≤ cap ∧ ∀ j, j < bs.length → w.cell? ⟨g, off + j, none⟩ = some (.int .u8 ((bs.getD j 0).toNat : Int))
theorem cell_mod {S : Nat → Prop} {w w' : World} (h : Mod S w w') {g j : Nat} {v : Value} (hc : w.cell? ⟨g, j, none⟩ = some v) (hS : ¬ S g) : w'.cell? ⟨g, j, none⟩ = some v := by
  have hg : w'.heap[g]? = w.heap[g]? := by
    refine h.block g ?_ hS
    by_cases hlt : g < w.heap.size
    · exact hlt
    · rw [World.cell?, Array.getElem?_eq_none (by simpa using hlt)] at hc
      cases hc
  rw [World.cell?] at *
  simp only [hg] at *
  exact hc

theorem wpIn_world {F : Fence} {n : Nat} {P : Program} {c : Code} {Q : Exit → Act → World → Prop} {a : Act} {w : World} (h : ∀ w1, w1 = w → c.wpIn F n P Q a w1) : c.wpIn F n P Q a w := h w rfl
theorem round_named {F : Fence} {n : Nat} {P : Program} {l : Nat} {f : FuncId} {tmps : Array Value} {assign body : Code} {w : World} {R : Ending → World → Prop} (h : ∀ Q : Ending → World → Prop, (∀ e w', R e w' → Q e w') → RoundIn F n P l f tmps assign body w Q) : RoundIn F n P l f tmps assign body w R := h R (fun _ _ h => h)
theorem calls_rec {P : Program} {f : FuncId} {args : Array Value} {w : World} {d : Obj} {r : Loop} {R : Ending → World → Prop} (h : ∀ rec w0, rec = r → w0 = (w.alloc d).alloc (.loop rec) → Calls P f args w0 R) : Calls P f args ((w.alloc d).alloc (.loop r)) R := h r _ rfl rfl
theorem Mod.putObj {S : Nat → Prop} {a w : World} (h : Mod S a w) {l : Nat} (hl : l < a.heap.size → S l) (o : Obj) : Mod S a (w.putObj l o) :=
  h.trans' (S' := fun k => k = l) ⟨rfl, rfl, rfl, by simp [World.putObj], fun k _ hk => by simp only [World.putObj]; exact Array.getElem?_setIfInBounds_ne (Ne.symm hk)⟩ (fun i hi e => by subst e; exact hl hi)
theorem Mod.one_putObj (w : World) (l : Nat) (o : Obj) : Mod (fun k => k = l) w (w.putObj l o) := (Mod.refl (fun k => k = l) w).putObj (fun _ => rfl) o
theorem heap_putObj {w : World} {l : Nat} {o o' : Obj} (h : w.heap[l]? = some o') : (w.putObj l o).heap[l]? = some o := by
  have := (Array.getElem?_eq_some_iff.1 h).1
  simp [World.putObj, this]

/-- The bytes that are done, and zeroes. -/
def part (f : Nat → BitVec 8) (n i : Nat) : List (BitVec 8) := (List.range n).map fun j => if j < i then f j else 0
theorem part_zero (f : Nat → BitVec 8) (n : Nat) : encB (part f n 0) = madeCells #[.int .u8 0] n := by
  unfold part encB madeCells
  apply Array.ext
  · simp
  · intro i h1 h2
    have : i % 1 = 0 := Nat.mod_one i
    simp [this]
theorem part_set (f : Nat → BitVec 8) (n i : Nat) : (encB (part f n i)).setIfInBounds i (.int .u8 ((f i).toNat : Int)) = encB (part f n (i + 1)) := by
  unfold part encB
  apply Array.ext
  · simp
  · intro j h1 h2
    simp only [List.setIfInBounds_toArray, List.getElem_toArray, List.getElem_set, List.getElem_map, List.getElem_range]
    by_cases h : i = j
    · subst h; simp
    · simp only [h, if_false]
      by_cases h' : j < i
      · rw [if_pos h', if_pos (by omega)]
      · rw [if_neg h', if_neg (by omega)]
theorem part_all (f : Nat → BitVec 8) (n : Nat) : part f n n = (List.range n).map f := by
  unfold part
  refine List.map_congr_left fun j hj => ?_
  rw [if_pos (List.mem_range.1 hj)]

theorem ByteAt.slice {w : World} {v : Value} {bs : List (BitVec 8)} (h : ByteAt w v bs) : ∃ ad cap, v = .slice ad bs.length cap ∧ ∀ j, j < bs.length → ∃ g off, ad = some ⟨g, off, none⟩ ∧ g < w.heap.size ∧ w.cell? ⟨g, off + j, none⟩ = some (.int .u8 ((bs.getD j 0).toNat : Int)) := by
  rcases h with ⟨_, _, rfl, rfl⟩ | ⟨g, off, cap, rfl, _, h2⟩
  · exact ⟨_, _, rfl, fun j hj => absurd hj (by simp)⟩
  · refine ⟨_, _, rfl, fun j hj => ⟨g, off, rfl, ?_, h2 j hj⟩⟩
    have h3 := h2 j hj
    by_cases hlt : g < w.heap.size
    · exact hlt
    · rw [World.cell?, Array.getElem?_eq_none (by simpa using hlt)] at h3
      cases h3
theorem ByteAt.mod {S : Nat → Prop} {w w' : World} {v : Value} {bs : List (BitVec 8)} (h : ByteAt w v bs) (m : Mod S w w') (hS : ∀ k, k < w.heap.size → ¬ S k) : ByteAt w' v bs := by
  rcases h with ⟨ad, cap, rfl, rfl⟩ | ⟨g, off, cap, rfl, hc, h2⟩
  · exact .inl ⟨ad, cap, rfl, rfl⟩
  · refine .inr ⟨g, off, cap, rfl, hc, fun j hj => ?_⟩
    have h3 := h2 j hj
    by_cases hlt : g < w.heap.size
    · exact cell_mod m h3 (hS g hlt)
    · rw [World.cell?, Array.getElem?_eq_none (by simpa using hlt)] at h3
      cases h3
theorem ByteAt.row {w : World} {g : Nat} {t : TypeId} {bs : List (BitVec 8)} (h : w.heap[g]? = some (.cells (encB bs) t (0,0))) : ByteAt w (.slice (some ⟨g, 0, none⟩) bs.length bs.length) bs :=
  .inr ⟨g, 0, bs.length, rfl, Nat.le_refl _, fun j hj => by rw [cell_of_row _ _ _ _ _ _ h, Nat.zero_add, encB_get hj]⟩

/-- Bytes as cells. -/
def bytesV (bs : List (BitVec 8)) : List Value := bs.map fun b => .int .u8 (b.toNat : Int)
theorem bytesV_get {bs : List (BitVec 8)} {j : Nat} (hj : j < bs.length) : (bytesV bs)[j]? = some (.int .u8 ((bs.getD j 0).toNat : Int)) := by
  unfold bytesV
  rw [List.getElem?_map, List.getD_eq_getElem?_getD, List.getElem?_eq_getElem hj]
  rfl
theorem own_of_row {w : World} {B g : Nat} {t : TypeId} {bs : List (BitVec 8)} (hB : B ≤ g) (h : w.heap[g]? = some (.cells (encB bs) t (0,0))) (hm : bs.length ≤ maxLen) : w.ownsRow B t 1 (.slice (some ⟨g, 0, none⟩) bs.length bs.length) bs.length (bytesV bs) :=
  ⟨by simp [bytesV], .inr ⟨g, bs.length, encB bs, rfl, hB, h, Nat.le_refl _, hm, by rw [encB_size, Nat.mul_one], by simp only [encB, bytesV, Nat.mul_one]; exact List.take_of_length_le (by simp)⟩⟩
theorem byteAt_of_own {w : World} {B : Nat} {t : TypeId} {v : Value} {n : Nat} {bs : List (BitVec 8)} (h : w.ownsRow B t 1 v n (bytesV bs)) : ByteAt w v bs := by
  obtain ⟨h1, h2⟩ := h
  have hn : bs.length = n := by simpa [bytesV] using h1
  rcases h2 with ⟨rfl, rfl⟩ | ⟨g, cap, cur, rfl, _, h3, h4, _, _, h6⟩
  · exact .inl ⟨_, _, rfl, List.eq_nil_of_length_eq_zero hn⟩
  · refine .inr ⟨g, 0, cap, by rw [hn], by omega, fun j hj => ?_⟩
    rw [cell_of_row _ _ _ _ _ _ h3, Nat.zero_add]
    have h7 := bytesV_get hj
    rw [← h6, List.getElem?_take, if_pos (by omega)] at h7
    simpa using h7
theorem ByteAt.take {w : World} {ad : Option Addr} {n cap m : Nat} {bs : List (BitVec 8)} (h : ByteAt w (.slice ad n cap) bs) (hm : m ≤ bs.length) : ByteAt w (.slice ad m cap) (bs.take m) := by
  have hl : (bs.take m).length = m := by rw [List.length_take]; omega
  rcases h with ⟨ad', cap', h1, rfl⟩ | ⟨g, off, cap', h1, h2, h3⟩
  · obtain rfl : m = 0 := by simpa using hm
    exact .inl ⟨_, _, rfl, by simp⟩
  · injection h1 with h1 h4 h5
    subst h1 h5
    refine .inr ⟨g, off, cap, by rw [hl], by omega, fun j hj => ?_⟩
    rw [hl] at hj
    rw [h3 j (by omega), List.getD_eq_getElem?_getD, List.getD_eq_getElem?_getD, List.getElem?_take, if_pos hj]
theorem ByteAt.drop {w : World} {g off n cap m : Nat} {bs : List (BitVec 8)} (h : ByteAt w (.slice (some ⟨g, off, none⟩) n cap) bs) (hm : m < bs.length) : ByteAt w (.slice (some ⟨g, off + m, none⟩) (bs.length - m) (cap - m)) (bs.drop m) := by
  have hl : (bs.drop m).length = bs.length - m := by rw [List.length_drop]
  rcases h with ⟨ad', cap', h1, rfl⟩ | ⟨g', off', cap', h1, h2, h3⟩
  · simp at hm
  · injection h1 with h1 h4 h5
    injection h1 with h1
    injection h1 with h1 h6 _
    subst h1 h5 h6
    refine .inr ⟨g, off + m, cap - m, by rw [hl], by omega, fun j hj => ?_⟩
    rw [hl] at hj
    rw [Nat.add_assoc, h3 (m + j) (by omega), List.getD_eq_getElem?_getD, List.getD_eq_getElem?_getD, List.getElem?_drop]
theorem ByteAt.part {w : World} {g off n cap : Nat} {t : TypeId} {bs : List (BitVec 8)} (h : w.heap[g]? = some (.cells (encB bs) t (0,0))) (hn : off + n ≤ bs.length) (hc : n ≤ cap) : ByteAt w (.slice (some ⟨g, off, none⟩) n cap) ((bs.drop off).take n) := by
  have hl : ((bs.drop off).take n).length = n := by rw [List.length_take, List.length_drop]; omega
  refine .inr ⟨g, off, cap, by rw [hl], by omega, fun j hj => ?_⟩
  rw [hl] at hj
  rw [cell_of_row _ _ _ _ _ _ h, encB_get (by omega)]
  congr 4
  rw [List.getD_eq_getElem?_getD, List.getD_eq_getElem?_getD, List.getElem?_take, if_pos hj, List.getElem?_drop]
theorem made_bytes (n : Nat) : madeCells #[.int .u8 0] n = encB (List.replicate n 0) := by
  rw [← part_zero (fun _ => 0) n]
  congr 1
  unfold part
  apply List.ext_getElem
  · simp
  · intro i h1 h2
    simp

theorem setCell_id {w : World} {g i : Nat} {cs : Array Value} {t : TypeId} {fr : Nat × Nat} {v : Value} (h : w.heap[g]? = some (.cells cs t fr)) (hv : cs[i]? = some v) : w.setCell ⟨g, i, none⟩ v = w := by
  have e : w.heap.modify g (fun
      | .cells c elem frozen => .cells (if (none : Option Nat).isSome then c else c.setIfInBounds i v) elem frozen
      | o => o) = w.heap := by
    apply Array.ext_getElem?
    intro j
    rw [Array.getElem?_modify]
    split
    · rename_i e
      subst e
      rw [h]
      simp only [Option.map_some, Option.isSome_none, Bool.false_eq_true, if_false, Option.some.injEq, Obj.cells.injEq, and_true]
      obtain ⟨hi, rfl⟩ := Array.getElem?_eq_some_iff.1 hv
      apply Array.ext_getElem?
      intro k
      rw [Array.getElem?_setIfInBounds]
      split
      · rename_i e
        subst e
        exact hv.symm
      · rfl
    · rfl
  show ({ w with heap := w.heap.modify g (fun
      | .cells c elem frozen => .cells (if (none : Option Nat).isSome then c else c.setIfInBounds i v) elem frozen
      | o => o) } : World) = w
  rw [e]
theorem wpList_yields {P : Program} {ops : Array Oper} {rest : List Oper} {o : Oper} {a : Act} {w : World} {Q : Exit → Act → World → Prop} (hw : Region.wanted o (yielded ops a.tmps) = true) (v : Value) (w' : World)
    (hrun : (execOp a.eval o).run P w = .ok (.value v) w') (h : wpList P ops Q rest (a.put o.dst v) w') : wpList P ops Q (o :: rest) a w := by
  unfold wpList
  rw [if_pos hw]
  refine .inl ?_
  unfold Oper.wp
  rw [hrun]
  exact h
theorem run_bin_op {P : Program} {ev : Operand → Value} {o : Oper} {p : BinOp} {ty ty2 : TypeId} {x y : Operand} {w : World} {vx vy v : Value} (ho : o.op = .binOp p ty x y ty2) (hx : ev x = vx) (hy : ev y = vy) (hg : (eqGuard p ty x y vx vy).run P w = .ok () w) (hr : (binOp p ty vx vy).run P w = .ok v w) :
    (execOp ev o).run P w = .ok (.value v) w := by
  unfold execOp
  simp only [ho, hx, hy, hg, Sem.run_bind, Sem.run_pure, Result.andThen_ok, hr]
theorem run_load_op {P : Program} {ev : Operand → Value} {o : Oper} {ty : TypeId} {x : Operand} {g off : Nat} {w : World} {v : Value} (ho : o.op = .load ty x) (hx : ev x = .pointer (some ⟨g, off, none⟩)) (hr : (loadVar ty ⟨g, off, none⟩).run P w = .ok v w) :
    (execOp ev o).run P w = .ok (.value v) w := by
  unfold execOp
  simp only [ho, hx, Instr.loadAt, Instr.sureAddr, Sem.run_bind, Sem.run_pure, Result.andThen_ok, hr]

theorem same_any (va vb : Value) (a b : List (BitVec 8)) (w : World) (ha : ByteAt w va a) (hb : ByteAt w vb b) (hl : a.length < 4611686018427387904) (hl2 : b.length < 4611686018427387904) :
    Calls Tryz.prog 10 #[va, vb] w fun e w' => Mod (fun _ => False) w w' ∧ e = .returned (.bool (decide (a = b))) := by
  obtain ⟨ad, cap, rfl, ha'⟩ := ha.slice
  obtain ⟨bd, bcap, rfl, hb'⟩ := hb.slice
  clear ha hb
  obtain ⟨n, en⟩ : ∃ n, a.length = n := ⟨_, rfl⟩
  obtain ⟨m, em⟩ : ∃ m, b.length = m := ⟨_, rfl⟩
  rw [en] at ha' hl
  rw [em] at hb' hl2
  rw [show (Value.slice ad a.length cap) = .slice ad n cap by rw [en], show (Value.slice bd b.length bcap) = .slice bd m bcap by rw [em]]
  by_cases hnm : n = m
  · subst hnm
    have hne : ((n : Int) != (n : Int)) = false := by simp
    have hfin : (∀ k, k < n → a.getD k 0 = b.getD k 0) → decide (a = b) = true := by
      intro h
      rw [decide_eq_true_iff]
      apply List.ext_getElem (by omega)
      intro i h1 h2
      have := h i (by omega)
      simp only [List.getD_eq_getElem?_getD, List.getElem?_eq_getElem h1, List.getElem?_eq_getElem h2, Option.getD_some] at this
      exact this
    have hnot : ∀ k, k < n → a.getD k 0 ≠ b.getD k 0 → decide (a = b) = false := by
      intro k hk h
      rw [decide_eq_false_iff_not]
      intro e
      exact h (by rw [e])
    generalize decide (a = b) = r at *
    replace en := Lib.hid en
    replace em := Lib.hid em
    replace ha' := Lib.hid ha'
    replace hb' := Lib.hid hb'
    replace hfin := Lib.hid hfin
    replace hnot := Lib.hid hnot
    go_enter Tryz.func10, Tryz.ntmps10
    go_wp2
    go_loopw [5] (fun i wr => ∃ j : Nat, j ≤ n ∧ i = .int .i64 j ∧ Mod (fun _ => False) w wr ∧ ∀ k, k < j → a.getD k 0 = b.getD k 0) (fun i _ => n - (intOf i).toNat)
    case atStart => exact ⟨0, by omega, rfl, Mod.refl _ _, fun k hk => by omega⟩
    case round =>
      obtain ⟨j, hj, rfl, mr, hrel⟩ := hrel
      by_cases hlt : j < n
      · obtain ⟨ga, oa, rfl, _, ca⟩ := ha'.out j hlt
        obtain ⟨gb, ob, rfl, _, cb⟩ := hb'.out j hlt
        have ca := cell_mod mr ca (fun h => h)
        have cb := cell_mod mr cb (fun h => h)
        have hlt' : (j : Int) < (n : Int) := by omega
        have h0 : (0 : Int) ≤ (j : Int) := by omega
        have hd : decide ((j : Int) < (n : Int)) = true := by simpa using hlt
        have hnj := hnot.out j hlt
        have hxy : a.getD j 0 = b.getD j 0 ↔ (((a.getD j 0).toNat : Int) = ((b.getD j 0).toNat : Int)) := by
          rw [Int.ofNat_inj, BitVec.toNat_inj]
        replace hxy := Lib.hid hxy
        replace hnj := Lib.hid hnj
        replace hrel := Lib.hid hrel
        replace mr := Lib.hid mr
        generalize hax : a.getD j 0 = x at *
        generalize hay : b.getD j 0 = y at *
        replace hax := Lib.hid hax
        replace hay := Lib.hid hay
        go_upto_region 6 with (fail)
        go_quiet (fail)
        by_cases hx : (x.toNat : Int) = (y.toNat : Int)
        · have hne : ((x.toNat : Int) != (y.toNat : Int)) = false := by simp [hx]
          go_wp2
          go_roundw
          case measure => simp [intOf]; omega
          case rel =>
            refine ⟨j + 1, by omega, by go_num, mr.out.drewN _, fun k hk => ?_⟩
            by_cases h : k = j
            · subst h
              rw [hax.out, hay.out]
              exact hxy.out.2 hx
            · exact hrel.out k (by omega)
        · have hne : ((x.toNat : Int) != (y.toNat : Int)) = true := by simp [hx]
          go_wp2
          go_ret
          exact ⟨mr.out.drewN _, by rw [hnj.out (fun h => hx (hxy.out.1 h))]; rfl⟩
      · obtain rfl : j = n := by omega
        have hd : decide ((j : Int) < (j : Int)) = false := by simp
        go_wp2
        go_ret
        exact ⟨mr, by rw [hfin.out hrel]; rfl⟩
  · have hne : ((n : Int) != (m : Int)) = true := by simp; omega
    have hr : decide (a = b) = false := by
      rw [decide_eq_false_iff_not]
      intro h
      rw [h] at en
      omega
    rw [hr]
    go_enter Tryz.func10, Tryz.ntmps10
    go_wp2
    go_ret
    exact ⟨Mod.refl _ _, rfl⟩

theorem same_true (va vb : Value) (a : List (BitVec 8)) (w : World) (ha : ByteAt w va a) (hb : ByteAt w vb a) (hl : a.length < 4611686018427387904) :
    Calls Tryz.prog 10 #[va, vb] w fun e w' => Mod (fun _ => False) w w' ∧ e = .returned (.bool true) := by
  refine (same_any va vb a a w ha hb hl hl).mono ?_
  rintro e w' ⟨h1, h2⟩
  exact ⟨h1, by rw [h2]; simp⟩
section
variable {P : Program} {o : Oper} {a : Act} {C : World → Prop} {K : Act → Prop}
theorem quiet_run (v : Value) (h : ∀ w, C w → (execOp a.eval o).run P w = .ok (.value v) w) (hk : K (a.put o.dst v)) : o.quiet P a C K :=
  ⟨v, fun w hw => by unfold Oper.quietAt; rw [h w hw]; exact ⟨rfl, rfl⟩, hk⟩
theorem quiet_load (ty : TypeId) (x : Operand) (ho : o.op = .load ty x) (g off : Nat) (hx : a.eval x = .pointer (some ⟨g, off, none⟩)) (v : Value) (h : ∀ w, C w → (loadVar ty ⟨g, off, none⟩).run P w = .ok v w) (hk : K (a.put o.dst v)) : o.quiet P a C K :=
  quiet_run v (fun w hw => by
    unfold execOp
    simp only [ho, hx, Instr.loadAt, Instr.sureAddr, Sem.run_bind, Sem.run_pure, Result.andThen_ok, h w hw]) hk
theorem quiet_eql (t t2 : TypeId) (x y : Operand) (ho : o.op = .binOp .eql t x y t2) (vx vy : Value) (hx : a.eval x = vx) (hy : a.eval y = vy) (b : Bool) (hg : ∀ w, (eqGuard .eql t x y vx vy).run P w = .ok () w) (h : ∀ w, (binOp .eql t vx vy).run P w = .ok (.bool b) w)
    (hk : K (a.put o.dst (.bool b))) : o.quiet P a C K :=
  quiet_run (.bool b) (fun w _ => by
    unfold execOp
    simp only [ho, hx, hy, Sem.run_bind, Sem.run_pure, Result.andThen_ok, hg w, h w]) hk
theorem quiet_call (f : FuncId) (args : Array Value) (v : Value) (h : ∀ w, C w → (execOp a.eval o).run P w = .ok (.enter f args) w) (hc : ∀ w, C w → Calls P f args w fun e w' => e = .returned v ∧ C w') (hk : K (a.put o.dst v)) : o.quiet P a C K :=
  ⟨v, fun w hw => by unfold Oper.quietAt; rw [h w hw]; exact ⟨rfl, hc w hw⟩, hk⟩
theorem quiet_skip (h : ∀ w, C w → (execOp a.eval o).run P w = .ok .skip w) (hk : K (a.put o.dst undef)) : o.quiet P a C K :=
  ⟨undef, fun w hw => by unfold Oper.quietAt; rw [h w hw]; exact ⟨rfl, rfl⟩, hk⟩
end
/-! ### cuts of bytes -/
theorem ByteAt.cap {w : World} {ad : Option Addr} {n cap : Nat} {bs : List (BitVec 8)} (h : ByteAt w (.slice ad n cap) bs) : n = bs.length ∧ n ≤ cap := by
  rcases h with ⟨ad', cap', h1, rfl⟩ | ⟨g, off, cap', h1, h2, h3⟩
  · injection h1 with h1 h4 h5
    subst h4
    exact ⟨rfl, Nat.zero_le _⟩
  · injection h1 with h1 h4 h5
    subst h4 h5
    exact ⟨rfl, h2⟩
theorem ByteAt.sliced {w : World} {ad : Option Addr} {n cap : Nat} {bs : List (BitVec 8)} (hb : ByteAt w (.slice ad n cap) bs) (l h : Nat) (h1 : l ≤ h) (h2 : h ≤ n) : ByteAt w (sliced ad l h cap 1) ((bs.drop l).take (h - l)) := by
  obtain ⟨hn, hc⟩ := hb.cap
  unfold Go.sliced
  by_cases h0 : h - l = 0
  · rw [h0, List.take_zero]
    exact .inl ⟨_, _, rfl, rfl⟩
  · rw [if_neg (by omega)]
    have hl : ((bs.drop l).take (h - l)).length = h - l := by rw [List.length_take, List.length_drop]; omega
    rcases hb with ⟨ad', cap', h4, rfl⟩ | ⟨g, off, cap', h4, h5, h6⟩
    · simp at hn
      omega
    · injection h4 with h4 h7 h8
      subst h4 h8
      refine .inr ⟨g, off + l, cap - l, by rw [hl]; simp [Addr.add], by omega, fun j hj => ?_⟩
      rw [hl] at hj
      rw [Nat.add_assoc, h6 (l + j) (by omega), List.getD_eq_getElem?_getD, List.getD_eq_getElem?_getD, List.getElem?_take, if_pos hj, List.getElem?_drop]
theorem size_u8 (w : World) : (sizeOf (Tryz.prog.elem 22)).run Tryz.prog w = .ok 1 w := by kernel_rfl
theorem ByteAt.cut {w : World} {ad : Option Addr} {n cap : Nat} {bs : List (BitVec 8)} (hb : ByteAt w (.slice ad n cap) bs) (l h : Nat) (h1 : l ≤ h) (h2 : h ≤ n) :
    ∃ v, ByteAt w v ((bs.drop l).take (h - l)) ∧ ∀ w', (Instr.slice 22 (.slice ad n cap) (some (.int .i64 (l : Int))) (some (.int .i64 (h : Int))) none).run Tryz.prog w' = .ok v w' := by
  obtain ⟨hn, hc⟩ := hb.cap
  refine ⟨_, hb.sliced l h h1 h2, fun w' => ?_⟩
  rw [run_slice_lh w' 22 ad n cap Tryz.underlying22 .i64 .i64 _ _ (by omega) (by omega) (by omega), size_u8]
  rfl
theorem ByteAt.cutTo {w : World} {ad : Option Addr} {n cap : Nat} {bs : List (BitVec 8)} (hb : ByteAt w (.slice ad n cap) bs) (h : Nat) (h2 : h ≤ n) :
    ∃ v, ByteAt w v (bs.take h) ∧ ∀ w', (Instr.slice 22 (.slice ad n cap) none (some (.int .i64 (h : Int))) none).run Tryz.prog w' = .ok v w' := by
  obtain ⟨hn, hc⟩ := hb.cap
  have := hb.sliced 0 h (Nat.zero_le _) h2
  rw [List.drop_zero, Nat.sub_zero] at this
  refine ⟨_, this, fun w' => ?_⟩
  rw [run_slice_h w' 22 ad n cap Tryz.underlying22 .i64 _ (by omega) (by omega), size_u8]
  rfl
theorem ByteAt.cutFrom {w : World} {ad : Option Addr} {n cap : Nat} {bs : List (BitVec 8)} (hb : ByteAt w (.slice ad n cap) bs) (l : Nat) (h2 : l ≤ n) :
    ∃ v, ByteAt w v (bs.drop l) ∧ ∀ w', (Instr.slice 22 (.slice ad n cap) (some (.int .i64 (l : Int))) none none).run Tryz.prog w' = .ok v w' := by
  obtain ⟨hn, hc⟩ := hb.cap
  have := hb.sliced l n h2 (Nat.le_refl _)
  rw [show (bs.drop l).take (n - l) = bs.drop l from List.take_of_length_le (by rw [List.length_drop]; omega)] at this
  refine ⟨_, this, fun w' => ?_⟩
  rw [run_slice_l w' 22 ad n cap Tryz.underlying22 .i64 _ (by omega) (by omega), size_u8]
  rfl
end Go.Proofs.YtbiijcljpgannaaGreatDoor

namespace Go.Proofs.YtbiijcljpgannaaGreatDoor
set_option maxRecDepth 100000
open Go Go.RowKit
set_option linter.unusedSimpArgs false
set_option linter.unusedVariables false

theorem infoU8 : (Tryz.prog.info? 5).map (fun i => (i.zero, i.size, i.bytes)) = some (some (.int .u8 0), 1, 1) := by kernel_rfl
theorem cells_byteAt {w : World} {g off n cap : Nat} {bs : List (BitVec 8)} (h : ByteAt w (.slice (some ⟨g, off, none⟩) n cap) bs) : ∀ j u, (bytesV bs)[j]? = some u → w.cell? ((⟨g, off, none⟩ : Addr).add j) = some u := by
  intro j u hu
  have hj : j < bs.length := by
    have := (List.getElem?_eq_some_iff.1 hu).1
    simpa [bytesV] using this
  rw [bytesV_get hj] at hu
  rw [show (⟨g, off, none⟩ : Addr).add j = ⟨g, off + j, none⟩ by simp [Addr.add]]
  rcases h with ⟨_, _, _, rfl⟩ | ⟨g', off', cap', h1, h2, h3⟩
  · simp at hj
  · injection h1 with h1 h4 h5
    injection h1 with h1
    injection h1 with h1 h6 _
    subst h1 h6
    rw [h3 j hj, ← hu]
theorem bytesV_one (bs : List (BitVec 8)) : ∀ u ∈ bytesV bs, u.oneCell' = true := by
  intro u hu
  unfold bytesV at hu
  obtain ⟨b, _, rfl⟩ := List.mem_map.1 hu
  rfl
theorem bytesV_append (a b : List (BitVec 8)) : bytesV (a ++ b) = bytesV a ++ bytesV b := by unfold bytesV; exact List.map_append
theorem bytesV_length (a : List (BitVec 8)) : (bytesV a).length = a.length := by unfold bytesV; exact List.length_map _

theorem run_append_none (w : World) (base n cap : Nat) (ty : TypeId) (v : Value) (xs : List Value) (hown : w.ownsRow base 5 1 v n xs) :
    (Builtin.append_ #[22, 22] ty #[v, .slice none 0 cap]).run Tryz.prog w = .ok v w := by
  obtain ⟨i, hi⟩ : ∃ i, Tryz.prog.info? 5 = some i := ⟨_, rfl⟩
  rcases hown.2 with ⟨rfl, rfl⟩ | ⟨g, cap, cur, rfl, _, _, hnc, _⟩
  · simp [Builtin.append_, run_underlying Tryz.underlying22, sizeOf, typeInfo, hi, Builtin.lenOf, Builtin.firstCells]
  · simp [Builtin.append_, run_underlying Tryz.underlying22, sizeOf, typeInfo, hi, Builtin.lenOf, Builtin.firstCells, hnc, storeCells]

theorem run_append_bytes {w : World} {base n : Nat} {v x : Value} {bs cs : List (BitVec 8)} (hown : w.ownsRow base 5 1 v n (bytesV bs)) (hx : ByteAt w x cs) (hfit : n + cs.length ≤ 140737488355328) (hbase : base ≤ w.heap.size) (ty : TypeId) :
    ∃ v' w', (Builtin.append_ #[22, 22] ty #[v, x]).run Tryz.prog w = .ok v' w' ∧ w'.ownsRow base 5 1 v' (n + cs.length) (bytesV (bs ++ cs)) ∧ w.grownBy w' v.ownBlock := by
  obtain ⟨i0, hi, hz0, hz1, hz2⟩ := info_parts infoU8
  obtain ⟨ad, cap, rfl, _⟩ := hx.slice
  have hl : (bytesV cs).length = cs.length * 1 := by rw [bytesV_length, Nat.mul_one]
  cases ad with
  | none =>
    have h0 : cs = [] := by
      rcases hx with ⟨_, _, _, h⟩ | ⟨_, _, _, h, _⟩
      · exact h
      · injection h with h; cases h
    subst h0
    exact ⟨v, w, run_append_none w base n cap ty v _ hown, by simpa using hown, ⟨rfl, rfl, rfl, Nat.le_refl _, fun _ _ _ => rfl⟩⟩
  | some a =>
    by_cases h0 : cs.length = 0
    · have hcs := List.eq_nil_of_length_eq_zero h0
      subst hcs
      obtain ⟨v', w', h1, h2, h3, _⟩ := run_append_own (P := Tryz.prog) w base 22 ty 5 i0 (.int .u8 0) 1 1 Tryz.underlying22 hi hz0 hz1 hz2 rfl (by decide) v n (bytesV bs) hown a 0 cap [] rfl (fun j u h => by simp at h) (fun u h => by simp at h) (by unfold maxLen; omega) (by simp only [List.length_nil] at hfit; omega) hbase
      exact ⟨v', w', h1, by simpa using h2, h3⟩
    · obtain ⟨g, off, cap', hv, _, _⟩ : ∃ g off cap', Value.slice (some a) cs.length cap = .slice (some ⟨g, off, none⟩) cs.length cap' ∧ True ∧ True := by
        rcases hx with ⟨_, _, _, h⟩ | ⟨g, off, cap', h, _⟩
        · rw [h] at h0; exact absurd rfl h0
        · exact ⟨g, off, cap', h, trivial, trivial⟩
      injection hv with hv _ hc
      injection hv with hv
      subst hv hc
      obtain ⟨v', w', h1, h2, h3, _⟩ := run_append_own (P := Tryz.prog) w base 22 ty 5 i0 (.int .u8 0) 1 1 Tryz.underlying22 hi hz0 hz1 hz2 rfl (by decide) v n (bytesV bs) hown ⟨g, off, none⟩ cs.length cap (bytesV cs) hl (cells_byteAt hx) (bytesV_one cs) (by unfold maxLen; omega) (by omega) hbase
      exact ⟨v', w', h1, by rw [bytesV_append]; exact h2, h3⟩

theorem wpList_append_bytes {w : World} {ops : Array Oper} {rest : List Oper} {o : Oper} {a : Act} {Q : Exit → Act → World → Prop} (hgd : o.guard = none) (s x : Operand)
    (ho : o.op = .call { callee := .builtin .append, args := #[s, x], argTypes := #[22, 22] }) (base n : Nat) (v xv : Value) (bs cs : List (BitVec 8)) (hs : a.eval s = v) (hx : a.eval x = xv)
    (hown : w.ownsRow base 5 1 v n (bytesV bs)) (hb : ByteAt w xv cs) (hfit : n + cs.length ≤ 140737488355328) (hbase : base ≤ w.heap.size)
    (h : ∀ v' w', w'.ownsRow base 5 1 v' (n + cs.length) (bytesV (bs ++ cs)) → w.grownBy w' v.ownBlock → wpList Tryz.prog ops Q rest (a.put o.dst v') w') : wpList Tryz.prog ops Q (o :: rest) a w := by
  refine wpList_plain hgd fun K hK => ?_
  obtain ⟨v', w', hr, h2, h3⟩ := run_append_bytes hown hb hfit hbase o.type
  unfold Oper.wp execOp
  simp only [ho, resolve, invoke, builtin, Sem.run_bind, Sem.run_pure, Result.andThen_ok, List.map_toArray, List.map_cons, List.map_nil, hs, hx, hr]
  exact hK _ _ (h v' w' h2 h3)
theorem own_grown {w w' : World} {base n base' : Nat} {e : TypeId} {v : Value} {xs : List Value} (h : w.ownsRow base e 1 v n xs) (g : w.grownBy w' v.ownBlock) : Mod (fun k => base ≤ k) w w' :=
  (Mod.refl _ w).grown g (fun k hk _ => (h.lt k hk).1)
end Go.Proofs.YtbiijcljpgannaaGreatDoor

namespace Go.Proofs.YtbiijcljpgannaaGreatDoor
set_option maxRecDepth 100000
open Go Go.RowKit Go.WideShapes Go.Deep
set_option linter.unusedSimpArgs false

theorem wf_u8 {n : Int} (h : (Lit.int .u8 n).wf = true) : ∃ x : BitVec 8, n = (x.toNat : Int) := by
  have hb := bounds_u8 h
  exact ⟨BitVec.ofNat 8 n.toNat, by rw [BitVec.toNat_ofNat]; omega⟩
theorem wf_u32 {n : Int} (h : (Lit.int .u32 n).wf = true) : ∃ x : BitVec 32, n = (x.toNat : Int) := by
  have hb := bounds_u32 h
  exact ⟨BitVec.ofNat 32 n.toNat, by rw [BitVec.toNat_ofNat]; omega⟩

theorem list_of_cells {α : Type} (f : α → Value) : ∀ (cs : List Value), (∀ i, i < cs.length → ∃ a, cs[i]? = some (f a)) → ∃ l : List α, cs = l.map f
  | [], _ => ⟨[], rfl⟩
  | c :: cs, h => by
    obtain ⟨a, ha⟩ := h 0 (by simp)
    obtain ⟨l, hl⟩ := list_of_cells f cs (fun i hi => by simpa using h (i + 1) (by simpa using hi))
    refine ⟨a :: l, ?_⟩
    simp at ha
    rw [ha, hl]
    rfl

theorem byteAt_of_cells {w : World} {a : Addr} {len cap : Nat} (hc : len ≤ cap) (V : Nat → Value) (h : ∀ i, i < len → w.cell? (a.add i) = some (V i) ∧ ∃ x : BitVec 8, V i = .int .u8 (x.toNat : Int)) : ∃ bs, ByteAt w (.slice (some a) len cap) bs ∧ bs.length = len := by
  obtain ⟨bs, hbs⟩ := list_of_cells (fun b : BitVec 8 => Value.int .u8 (b.toNat : Int)) ((List.range len).map V) (fun i hi => by
    simp only [List.length_map, List.length_range] at hi
    obtain ⟨_, x, hx⟩ := h i hi
    exact ⟨x, by rw [List.getElem?_map, List.getElem?_range hi, Option.map_some, hx]⟩)
  have hl : bs.length = len := by
    have := congrArg List.length hbs
    simpa using this.symm
  refine ⟨bs, ?_, hl⟩
  by_cases h0 : len = 0
  · subst h0
    obtain rfl := List.eq_nil_of_length_eq_zero hl
    exact .inl ⟨_, _, rfl, rfl⟩
  · obtain ⟨g, off, spot⟩ := a
    have hspot : spot = none := by simpa [Addr.add] using World.cell?_spot (h 0 (by omega)).1
    subst hspot
    refine .inr ⟨g, off, cap, by rw [hl], by omega, fun j hj => ?_⟩
    rw [hl] at hj
    obtain ⟨h1, _⟩ := h j hj
    rw [Addr.add_lit] at h1
    rw [h1]
    congr 1
    have h2 : ((List.range len).map V)[j]? = some (V j) := by rw [List.getElem?_map, List.getElem?_range hj]; rfl
    rw [hbs, List.getElem?_map] at h2
    rw [List.getD_eq_getElem?_getD]
    cases hb : bs[j]? with
    | none => rw [hb] at h2; cases h2
    | some b =>
      rw [hb] at h2
      simp only [Option.map_some, Option.some.injEq] at h2
      rw [← h2]
      rfl

theorem open_bytes {H : Type} {enc : TypeId × Value → H} {w : World} {base : Nat} {spare : Nat → Bool} {held : Bool} {v : Value} {d : DataW H} {ps : List MemPlace} {r : Reach} {b2 : Nat} (hv : Value.okWide Tryz.prog w r b2 22 v)
    (h : DataW.Trod enc Tryz.prog w base spare held 22 v d ps) : ∃ bs, ByteAt w v bs ∧ bs.length < 9223372036854775808 := by
  obtain ⟨a1, len, cap, rfl⟩ := okWide_slice Tryz.underlying22 hv
  obtain ⟨fuel, hf⟩ := h
  rcases open_slice1 Tryz.underlying22 (show Tryz.prog.cellsOf 5 = 1 by kernel_rfl) hf with ⟨hcs, hx⟩ | ⟨a, len', cap', m, n, V, D, Pl, hcs, _, hl, hm, hmm, hx, hcell⟩
  · simp [Value.cells] at hcs
    obtain ⟨rfl, rfl, rfl⟩ := hcs
    exact ⟨[], .inl ⟨_, _, rfl, rfl⟩, by simp⟩
  · simp [Value.cells] at hcs
    obtain ⟨rfl, rfl, rfl⟩ := hcs
    have hle : len ≤ m := by rw [hmm]; split <;> omega
    obtain ⟨bs, h1, h2⟩ := byteAt_of_cells (w := w) (a := a) (len := len) hl V (fun i hi => by
      obtain ⟨h1, h2⟩ := hcell i (by omega)
      obtain ⟨k, hk, _, hw⟩ := DataW.trod_int Tryz.underlying5 h2
      obtain ⟨b, rfl⟩ := wf_u8 hw
      exact ⟨h1, b, by simpa using hk⟩)
    refine ⟨bs, h1, ?_⟩
    have : maxLen = 9223372036854775807 := rfl
    omega
end Go.Proofs.YtbiijcljpgannaaGreatDoor

namespace Go.Proofs.YtbiijcljpgannaaGreatDoor
set_option maxRecDepth 100000
open Go Go.RowKit Go.WideShapes Go.Deep Go.ChangeShapes
set_option linter.unusedSimpArgs false
set_option linter.unusedVariables false

section
variable {H : Type} {enc : TypeId × Value → H} {P : Program} {w : World} {base : Nat} {spare : Nat → Bool} {held : Bool}
theorem open_slice_fields {t e : TypeId} {fs : Array Field} {fuel : Nat} {cs : List Value} {x : DataW H × List MemPlace} (ht : P.underlying t = some (.slice e)) (he : P.underlying e = some (.struct fs))
    (hone : oneCellFields P fs = true) (hC : P.cellsOf e = fs.size) (h : DataW.trod enc P w base spare held fuel t cs = some x) :
    (cs = [.slice none 0 0] ∧ x = (.nil, [])) ∨
    ∃ (a : Addr) (len cap m : Nat) (D : Nat → DataW H) (Pl : Nat → List MemPlace), cs = [.slice (some a) len cap] ∧ base ≤ a.block ∧ len ≤ cap ∧ cap ≤ maxLen ∧ m = (if spare a.block then cap else len) ∧
      x = (.slice ((List.range len).map D) ((List.range (m - len)).map fun j => D (len + j)), MemPlace.row a (m * fs.size) ++ (List.range m).flatMap Pl) ∧
      ∀ i, i < m → ∃ (ys : List (DataW H × List MemPlace)) (n : Nat), D i = .agg (ys.map (·.1)) ∧ Pl i = ys.flatMap (·.2) ∧ ys.length = fs.size ∧
        ∀ (j : Nat) (f : Field), fs[j]? = some f → ∃ (v : Value) (y : DataW H × List MemPlace), w.cell? (a.add (i * fs.size + j)) = some v ∧ ys[j]? = some y ∧ DataW.trod enc P w base spare held n f.type [v] = some y := by
  rcases open_slice ht h with h0 | ⟨a, len, cap, m, n, D, Pl, hcs, hb, hl, hm, hmm, hx, hi⟩
  · exact .inl h0
  · refine .inr ⟨a, len, cap, m, D, Pl, hcs, hb, hl, hm, hmm, by rw [hC] at hx; exact hx, fun i him => ?_⟩
    obtain ⟨cs', hc, ht'⟩ := hi i him
    rw [hC] at hc
    obtain ⟨ys, n', hn', hy, hlen, hyl, hf⟩ := DataW.trod_struct he ht'
    obtain ⟨_, hcl, hat⟩ := World.cells?_some hc
    simp only [Prod.mk.injEq] at hy
    refine ⟨ys, n', hy.1, hy.2, hyl, fun j f hj => ?_⟩
    obtain ⟨ho, hk⟩ := hone_of hone j f hj
    have hjl : j < fs.size := (Array.getElem?_eq_some_iff.1 hj).1
    have hcell := hat j hjl
    have hv : cs'[j]? = some (cs'[j]'(by omega)) := List.getElem?_eq_getElem (by omega)
    have h1 := hf j f hj
    rw [ho, hk] at h1
    have hone' : (cs'.drop j).take 1 = [cs'[j]'(by omega)] := by
      rw [List.drop_eq_getElem_cons (by omega)]
      rfl
    rw [hone'] at h1
    have hys : ys[j]? = some (ys[j]'(by omega)) := List.getElem?_eq_getElem (by omega)
    refine ⟨_, _, ?_, hys, h1.trans hys⟩
    rw [← Go.Deep.add_add, hcell, hv]
end

theorem list_choose {α : Type} {Q : Nat → α → Prop} : ∀ n, (∀ i, i < n → ∃ a, Q i a) → ∃ l : List α, l.length = n ∧ ∀ j a, l[j]? = some a → Q j a
  | 0, _ => ⟨[], rfl, fun j a h => by simp at h⟩
  | n + 1, h => by
    obtain ⟨l, h1, h2⟩ := list_choose n (fun i hi => h i (by omega))
    obtain ⟨a, ha⟩ := h n (by omega)
    refine ⟨l ++ [a], by simp [h1], fun j b hj => ?_⟩
    by_cases e : j < l.length
    · rw [List.getElem?_append_left e] at hj
      exact h2 j b hj
    · rw [List.getElem?_append_right (by omega)] at hj
      have e2 : j - l.length = 0 := by
        by_cases e2 : j - l.length = 0
        · exact e2
        · rw [List.getElem?_eq_none (by simp; omega)] at hj
          cases hj
      rw [e2] at hj
      simp only [List.getElem?_cons_zero, Option.some.injEq] at hj
      subst hj
      rw [show j = n by omega]
      exact ha

section
variable {H : Type} {enc : TypeId × Value → H} {P : Program} {w : World} {base : Nat} {spare : Nat → Bool} {held : Bool}
/-- What lies in a slice is no greater than all may be. -/
theorem fits_elem {t e : TypeId} {elems sp : List (DataW H)} (ht : P.underlying t = some (.slice e)) (h : ∀ n ∈ (DataW.slice elems sp).weights P t, n ≤ reachBytes) {i : Nat} {d : DataW H} (hi : elems[i]? = some d) : ∀ n ∈ d.weights P e, n ≤ reachBytes := by
  intro n hn
  apply h
  unfold DataW.weights
  rw [ht]
  simp only [List.mem_cons, List.mem_append]
  refine .inr (.inl ?_)
  clear h
  induction elems generalizing i with
  | nil => simp at hi
  | cons x l ih =>
    unfold DataW.weightsAll
    rw [List.mem_append]
    cases i with
    | zero =>
      simp only [List.getElem?_cons_zero, Option.some.injEq] at hi
      subst hi
      exact .inl hn
    | succ i => exact .inr (ih (by simpa using hi))
theorem fits_field {t : TypeId} {fs : Array Field} {parts : List (DataW H)} (ht : P.underlying t = some (.struct fs)) (h : ∀ n ∈ (DataW.agg parts).weights P t, n ≤ reachBytes) {j : Nat} {f : Field} {d : DataW H} (hf : fs[j]? = some f) (hd : parts[j]? = some d) : ∀ n ∈ d.weights P f.type, n ≤ reachBytes := by
  intro n hn
  apply h
  unfold DataW.weights
  rw [ht]
  simp only
  refine DataW.weights_mem_each (j := j) (t := f.type) (d := d) ?_ hd n hn
  rw [List.getElem?_map, Array.getElem?_toList, hf]
  rfl
theorem fits_slice {t e : TypeId} {elems sp : List (DataW H)} (ht : P.underlying t = some (.slice e)) (h : ∀ n ∈ (DataW.slice elems sp).weights P t, n ≤ reachBytes) : (elems.length + sp.length) * P.bytesOf e ≤ reachBytes := by
  apply h
  unfold DataW.weights
  rw [ht]
  simp
end

theorem trod_bytes1 {H : Type} {enc : TypeId × Value → H} {w : World} {base fuel : Nat} {spare : Nat → Bool} {held : Bool} {v : Value} {y : DataW H × List MemPlace} (h : DataW.trod enc Tryz.prog w base spare held fuel 22 [v] = some y)
    (hw : ∀ n ∈ y.1.weights Tryz.prog 22, n ≤ reachBytes) : ∃ bs, ByteAt w v bs ∧ bs.length ≤ 140737488351232 := by
  rcases open_slice1 Tryz.underlying22 (show Tryz.prog.cellsOf 5 = 1 by kernel_rfl) h with ⟨hcs, hx⟩ | ⟨a, len', cap', m, n, V, D, Pl, hcs, _, hl, hm, hmm, hx, hcell⟩
  · simp only [List.cons.injEq, and_true] at hcs
    subst hcs
    exact ⟨[], .inl ⟨_, _, rfl, rfl⟩, by simp⟩
  · simp only [List.cons.injEq, and_true] at hcs
    subst hcs
    have hle : len' ≤ m := by rw [hmm]; split <;> omega
    obtain ⟨bs, h1, h2⟩ := byteAt_of_cells (w := w) (a := a) (len := len') hl V (fun i hi => by
      obtain ⟨h1, h2⟩ := hcell i (by omega)
      obtain ⟨k, hk, _, hw⟩ := DataW.trod_int Tryz.underlying5 h2
      obtain ⟨b, rfl⟩ := wf_u8 hw
      exact ⟨h1, b, by simpa using hk⟩)
    refine ⟨bs, h1, ?_⟩
    rw [hx] at hw
    have h3 := fits_slice Tryz.underlying22 hw
    rw [show Tryz.prog.bytesOf 5 = 1 by kernel_rfl] at h3
    simp only [List.length_map, List.length_range, Nat.mul_one] at h3
    have : reachBytes = 140737488351232 := rfl
    omega
end Go.Proofs.YtbiijcljpgannaaGreatDoor

namespace Go.Proofs.YtbiijcljpgannaaGreatDoor
set_option maxRecDepth 100000
open Go Go.RowKit
set_option linter.unusedSimpArgs false
set_option linter.unusedVariables false

theorem load_mid {P : Program} (w : World) (g off : Nat) (t ty : TypeId) (pre mid suf : List Value) (fr : Nat × Nat) (d : TypeDesc) (hg : w.heap[g]? = some (.cells (pre ++ (mid ++ suf)).toArray t fr)) (ho : off = pre.length)
    (hu : P.underlying ty = some d) (hd : d.isRow = true) (hi : (P.info? ty).map (·.size) = some mid.length) :
    (loadVar ty ⟨g, off, none⟩).run P w = .ok (.agg mid.toArray) w := by
  refine run_loadVar_mid w g off ty mid d (fun j v hv => ?_) hu hd hi
  have hj : j < mid.length := (List.getElem?_eq_some_iff.1 hv).1
  rw [cell_of_row _ _ _ _ _ _ hg, List.getElem?_toArray, List.getElem?_append_right (by omega), ho, Nat.add_sub_cancel_left, List.getElem?_append_left hj]
  exact hv
theorem setCells_mid (g : Nat) (t : TypeId) : ∀ (vs mid pre suf : List Value) (w : World), mid.length = vs.length → w.heap[g]? = some (.cells (pre ++ (mid ++ suf)).toArray t (0,0)) →
    Mod (fun x => x = g) w (w.setCells g pre.length vs) ∧ (w.setCells g pre.length vs).heap[g]? = some (.cells (pre ++ (vs ++ suf)).toArray t (0,0)) := by
  intro vs
  induction vs with
  | nil =>
    intro mid pre suf w hm hg
    obtain rfl : mid = [] := List.eq_nil_of_length_eq_zero (by simpa using hm)
    exact ⟨Mod.refl _ _, hg⟩
  | cons v vs ih =>
    intro mid pre suf w hm hg
    cases mid with
    | nil => simp at hm
    | cons m mid =>
      have h1 : (w.setCell ⟨g, pre.length, none⟩ v).heap[g]? = some (.cells ((pre ++ [v]) ++ (mid ++ suf)).toArray t (0,0)) := by
        rw [setCell_row _ _ _ _ _ _ hg, setRow_heap _ _ _ _ _ _ hg]
        congr 2
        simp [List.set_append]
      have h2 := ih mid (pre ++ [v]) suf (w.setCell ⟨g, pre.length, none⟩ v) (by simpa using hm) h1
      rw [List.length_append, List.length_singleton] at h2
      refine ⟨(Mod.one_setCell _ _ _ _).trans h2.1, ?_⟩
      have h3 := h2.2
      rw [List.append_assoc] at h3
      exact h3
theorem there_mid {w : World} {g off n : Nat} {t : TypeId} {cs : Array Value} (hg : w.heap[g]? = some (.cells cs t (0,0))) (h : off + n ≤ cs.size) : w.there g off n := fun j hj => by
  refine ⟨?_, frozen_of_row _ _ _ _ _ hg⟩
  rw [cell_of_row _ _ _ _ _ _ hg]
  simp
  omega
/-- A store into the middle of a row. -/
theorem store_mid {P : Program} (w : World) (g off : Nat) (t ty : TypeId) (pre mid suf vs : List Value) (hg : w.heap[g]? = some (.cells (pre ++ (mid ++ suf)).toArray t (0,0))) (ho : off = pre.length) (hm : mid.length = vs.length)
    (hi : (P.info? ty).map (·.size) = some vs.length) (h1 : ∀ v ∈ vs, v.oneCell' = true) :
    ∃ w', (storeVar ty ⟨g, off, none⟩ (.agg vs.toArray)).run P w = .ok () w' ∧ Mod (fun x => x = g) w w' ∧ w'.heap[g]? = some (.cells (pre ++ (vs ++ suf)).toArray t (0,0)) := by
  subst ho
  have h2 := setCells_mid g t vs mid pre suf w hm hg
  exact ⟨_, by simpa using run_storeVar_mid (P := P) w g pre.length ty vs.toArray (there_mid hg (by simp; omega)) (by simpa using hi) (all_oneCell_toArray h1), h2.1, h2.2⟩

/-- Numbers as cells. -/
def nums (k : IntKind) (l : List Nat) : List Value := l.map fun n : Nat => Value.int k ((n : Nat) : Int)
theorem nums_length (k : IntKind) (l : List Nat) : (nums k l).length = l.length := by simp [nums]
theorem nums_one (k : IntKind) (l : List Nat) : ∀ v ∈ nums k l, v.oneCell' = true := by
  intro v hv
  obtain ⟨n, _, rfl⟩ := List.mem_map.1 hv
  rfl
theorem nums_get {k : IntKind} {l : List Nat} {i : Nat} (h : i < l.length) : (nums k l).toArray[i]? = some (.int k ((l.getD i 0 : Nat) : Int)) := by
  simp [nums, h, List.getD_eq_getElem?_getD]
theorem eqItems_nums {P : Program} (d : Nat) (E : TypeId) (k : IntKind) (hE : P.underlying E = some (.int k)) (xs ys : Array Value) (f g : Nat → Int) : ∀ (is : List Nat) (w : World), (∀ i, i ∈ is → xs[i]? = some (.int k (f i)) ∧ ys[i]? = some (.int k (g i))) →
    (Op.eqItems (d + 1) E 1 xs ys is).run P w = .ok (is.all fun i => f i == g i) w := by
  intro is
  induction is with
  | nil => intro w _; simp [Op.eqItems]
  | cons i is ih =>
    intro w h
    obtain ⟨hx, hy⟩ := h i (by simp)
    have hagg : (isAgg E).run P w = .ok false w := by
      unfold isAgg
      rw [Sem.run_bind, run_underlying hE w]
      simp
    have px : (Go.part E xs (i * 1)).run P w = .ok (.int k (f i)) w := by simp [Go.part, Sem.run_bind, hagg, hx]
    have py : (Go.part E ys (i * 1)).run P w = .ok (.int k (g i)) w := by simp [Go.part, Sem.run_bind, hagg, hy]
    simp only [Op.eqItems, Sem.run_bind, px, py, run_equalIn_int w d E k k (f i) (g i) hE, Result.andThen_ok]
    by_cases e : f i = g i
    · simp [e, ih w (fun j hj => h j (by simp [hj]))]
    · simp [e]
theorem equalIn_nums {P : Program} (w : World) (d : Nat) (t E : TypeId) (N : Nat) (k : IntKind) (i0 : TypeInfo) (ht : P.underlying t = some (.array N E)) (hE : P.underlying E = some (.int k)) (hi : P.info? E = some i0) (hc : P.cellsOf E = 1)
    (a b : List Nat) (ha : a.length = N) (hb : b.length = N) : (Op.equalIn (d + 2) t (.agg (nums k a).toArray) (.agg (nums k b).toArray)).run P w = .ok (decide (a = b)) w := by
  rw [run_equalIn_array w (d + 1) _ _ ht hi, hc, eqItems_nums d E k hE _ _ (fun i => ((a.getD i 0 : Nat) : Int)) (fun i => ((b.getD i 0 : Nat) : Int)) (List.range N) w (fun i h => ⟨nums_get (by have := List.mem_range.1 h; omega), nums_get (by have := List.mem_range.1 h; omega)⟩)]
  congr 1
  rw [Bool.eq_iff_iff]
  simp only [List.all_eq_true, List.mem_range, beq_iff_eq, decide_eq_true_iff]
  constructor
  · intro h
    refine List.ext_getElem (by omega) (fun i h1 h2 => ?_)
    have h3 := h i (by omega)
    simp only [List.getD_eq_getElem?_getD, List.getElem?_eq_getElem h1, List.getElem?_eq_getElem h2, Option.getD_some] at h3
    omega
  · intro h i _
    rw [h]
theorem part_mid {P : Program} (w : World) (ty : TypeId) (off : Nat) (pre mid suf : List Value) (d : TypeDesc) (ho : off = pre.length) (hu : P.underlying ty = some d) (hd : d.isRow = true) (hi : (P.info? ty).map (·.size) = some mid.length) :
    (Go.part ty (pre ++ (mid ++ suf)).toArray off).run P w = .ok (.agg mid.toArray) w := by
  subst ho
  have hagg : (isAgg ty).run P w = .ok true w := by
    unfold isAgg
    rw [Sem.run_bind, run_underlying hu w]
    cases d <;> simp_all
  cases hq : P.info? ty with
  | none => simp [hq] at hi
  | some i =>
    have hs : i.size = mid.length := by simpa [hq] using hi
    have he : (pre ++ (mid ++ suf)).toArray.extract pre.length (pre.length + mid.length) = mid.toArray := by
      simp
    simp only [Go.part, Sem.run_bind, hagg, Result.andThen_ok, if_true, sizeOf, typeInfo, hq, Sem.run_pure, run_program, hs, he]
theorem part_one {P : Program} (w : World) (ty : TypeId) (k : IntKind) (off : Nat) (xs : Array Value) (v : Value) (hu : P.underlying ty = some (.int k)) (hx : xs[off]? = some v) : (Go.part ty xs off).run P w = .ok v w := by
  have hagg : (isAgg ty).run P w = .ok false w := by
    unfold isAgg
    rw [Sem.run_bind, run_underlying hu w]
    simp
  simp [Go.part, Sem.run_bind, hagg, hx]
theorem index_nums {P : Program} (w : World) (t E N : Nat) (k : IntKind) (ht : P.underlying t = some (.array N E)) (hE : P.underlying E = some (.int k)) (hs : ∀ w, (sizeOf E).run P w = .ok 1 w) (l : List Nat) (j : Nat) (hj : j < N) (hb : l.length = N) :
    (Instr.index t (.agg (nums k l).toArray) (.int .i64 j)).run P w = .ok (.int k ((l.getD j 0 : Nat) : Int)) w := by
  have hagg : (isAgg E).run P w = .ok false w := by
    unfold isAgg
    rw [Sem.run_bind, run_underlying hE w]
    simp
  have hg := nums_get (k := k) (l := l) (i := j) (by omega)
  rw [List.getElem?_toArray] at hg
  simp only [List.getD_eq_getElem?_getD] at hg ⊢
  simp [Instr.index, asIntOf, Sem.run_bind, run_underlying ht w, hs, hj, Go.part, hagg, hg]
end Go.Proofs.YtbiijcljpgannaaGreatDoor

namespace Go.Proofs.YtbiijcljpgannaaGreatDoor
set_option maxRecDepth 100000
open Go Go.RowKit
set_option linter.unusedSimpArgs false
set_option linter.unusedVariables false

theorem wpList_enter {P : Program} {ops : Array Oper} {rest : List Oper} {o : Oper} {a : Act} {w : World} {Q : Exit → Act → World → Prop} (hw : Region.wanted o (yielded ops a.tmps) = true) (f : FuncId) (args : Array Value)
    (hrun : (execOp a.eval o).run P w = .ok (.enter f args) w) {R : Ending → World → Prop} (hc : Calls P f args w R) (h : ∀ e w', R e w' → ∃ v, e = .returned v ∧ wpList P ops Q rest (a.put o.dst v) w') : wpList P ops Q (o :: rest) a w := by
  unfold wpList
  rw [if_pos hw]
  refine .inl ?_
  unfold Oper.wp
  rw [hrun]
  simp only [Oper.upon]
  refine hc.mono ?_
  intro e w' hr
  obtain ⟨v, rfl, h1⟩ := h e w' hr
  exact h1
theorem wpList_store_to {P : Program} {ops : Array Oper} {rest : List Oper} {o : Oper} {a : Act} {w : World} {Q : Exit → Act → World → Prop} (hgd : o.guard = none) (ty : TypeId) (x y : Operand) (ho : o.op = .store ty x y)
    (b off : Nat) (v : Value) (hx : a.eval x = .pointer (some ⟨b, off, none⟩)) (hy : a.eval y = v) (w' : World) (hs : (storeVar ty ⟨b, off, none⟩ v).run P w = .ok () w')
    (h : wpList P ops Q rest (a.put o.dst undef) w') : wpList P ops Q (o :: rest) a w :=
  wpList_plain hgd fun _ hK => by
    unfold Oper.wp execOp
    simp only [ho, hx, hy, Instr.storeAt, Instr.sureAddr, Sem.run_bind, Sem.run_pure, Result.andThen_ok, hs]
    exact hK _ _ h
theorem run_loadVar_one {P : Program} (w : World) (g off : Nat) (ty : TypeId) (k : IntKind) (v : Value) (hu : P.underlying ty = some (.int k)) (hc : w.cell? ⟨g, off, none⟩ = some v) : (loadVar ty ⟨g, off, none⟩).run P w = .ok v w := by
  have hagg : (isAgg ty).run P w = .ok false w := by
    unfold isAgg
    rw [Sem.run_bind, run_underlying hu w]
    simp
  simp [loadVar, Sem.run_bind, hagg, go_sem, hc]
theorem wpList_reads {P : Program} {ops : Array Oper} {rest : List Oper} {o : Oper} {a : Act} {w : World} {Q : Exit → Act → World → Prop} (hw : Region.wanted o (yielded ops a.tmps) = true) (v : Value)
    (hrun : (execOp a.eval o).run P w = .ok (.value v) w) (h : wpList P ops Q rest (a.put o.dst v) w) : wpList P ops Q (o :: rest) a w := wpList_yields hw v w hrun h
theorem run_store_op {P : Program} {ev : Operand → Value} {o : Oper} {ty : TypeId} {x y : Operand} {b off : Nat} {w w' : World} {v : Value} (ho : o.op = .store ty x y) (hx : ev x = .pointer (some ⟨b, off, none⟩)) (hy : ev y = v)
    (hs : (storeVar ty ⟨b, off, none⟩ v).run P w = .ok () w') : (execOp ev o).run P w = .ok .skip w' := by
  unfold execOp
  simp only [ho, hx, hy, Instr.storeAt, Instr.sureAddr, Sem.run_bind, Sem.run_pure, Result.andThen_ok, hs]
end Go.Proofs.YtbiijcljpgannaaGreatDoor

namespace Go.Proofs.YtbiijcljpgannaaGreatDoor
set_option maxRecDepth 100000
open Go Go.RowKit
set_option linter.unusedSimpArgs false
set_option linter.unusedVariables false

theorem own_newRow (w : World) (base n m size cap : Nat) (e : TypeId) (xs news : List Value) (z : Array Value) (hz : z.size = size) (hx : xs.length = n * size) (hl : news.length = m * size) (hc : n + m ≤ cap) (hcm : cap ≤ maxLen) (hb : base ≤ w.heap.size) :
    (w.drew.alloc (.cells (xs.toArray ++ news.toArray ++ Builtin.zeroCells z (cap - (n + m))) e)).ownsRow base e size (.slice (some ⟨w.heap.size, 0, none⟩) (n + m) cap) (n + m) (xs ++ news) := by
  have hlen : (xs ++ news).length = (n + m) * size := by rw [List.length_append, hx, hl, Nat.add_mul]
  refine ⟨hlen, .inr ⟨w.heap.size, cap, _, rfl, hb, heap_alloc_new w.drew _, hc, hcm, ?_, ?_⟩⟩
  · rw [Array.size_append, Array.size_append, size_zeroCells, hz]
    show xs.length + news.length + (cap - (n + m)) * size = cap * size
    rw [hx, hl, ← Nat.add_mul, ← Nat.add_mul]
    congr 1
    omega
  · rw [Array.toList_append, Array.toList_append, ← hlen]
    exact List.take_left
theorem grown_newRow (w : World) (o : Obj) (row : Option Nat) : w.grownBy (w.drew.alloc o) row := ⟨rfl, rfl, rfl, by simp, fun k hk _ => Go.heap_alloc_old w.drew o hk⟩
theorem run_append_split {P : Program} (w : World) (base : Nat) (t ty e : TypeId) (i : TypeInfo) (z : Value) (size bytes : Nat) (ht : P.underlying t = some (.slice e)) (hi : P.info? e = some i) (hz : i.zero = some z)
    (hsize : i.size = size) (hby : i.bytes = bytes) (hzs : z.cells.size = size) (v : Value) (n : Nat) (xs : List Value) (hown : w.ownsRow base e size v n xs)
    (a : Addr) (m c : Nat) (news : List Value) (hl : news.length = m * size) (hnews : ∀ j u, news[j]? = some u → w.cell? (a.add j) = some u) (h1 : ∀ u ∈ news, u.oneCell' = true)
    (hm : 0 < m) (h63 : n + m ≤ maxLen) (hbytes : (n + m) * bytes ≤ 140737488355328) (hbase : base ≤ w.heap.size) :
    ∃ v' w', (Builtin.append_ #[t, t] ty #[v, .slice (some a) m c]).run P w = .ok v' w' ∧ w'.ownsRow base e size v' (n + m) (xs ++ news) ∧
      ((∃ g cap, v = .slice (some ⟨g, 0, none⟩) n cap ∧ v' = .slice (some ⟨g, 0, none⟩) (n + m) cap ∧ w.grownBy w' (some g)) ∨ (v'.ownBlock = some w.heap.size ∧ w.grownBy w' none)) := by
  subst hsize
  subst hby
  have hsmall : n + m ≤ 9223372036854775807 := by simp only [maxLen] at h63; omega
  rcases hown.2 with ⟨rfl, rfl⟩ | ⟨g, cap, cur, rfl, hbg, hg, hnc, hcm, hcs, htake⟩
  · have hx : xs = [] := List.eq_nil_of_length_eq_zero (by simpa using hown.1)
    subst hx
    have hr := run_append_nil (P := P) w t ty e i z ht hi hz a m c news hl hnews hm (by omega) (by rw [Nat.zero_add] at hbytes; omega)
    have ho := own_newRow w base 0 m i.size (grownCap w m 0 e) e [] news z.cells hzs (by simp) hl (by rw [Nat.zero_add]; exact grownCap_ge w m 0 e) (grownCap_le_maxLen w m 0 e (by omega)) hbase
    simp only [Nat.zero_add, Array.empty_append, List.nil_append] at ho ⊢
    exact ⟨_, _, hr, by simpa using ho, .inr ⟨rfl, grown_newRow w _ none⟩⟩
  · by_cases hroom : n + m ≤ cap
    · obtain ⟨w', h2, h3, h4⟩ := run_append_fits (P := P) w base t ty e i i.size ht hi rfl g n cap xs hown a m c news hl hnews h1 hroom
      exact ⟨_, w', h2, h3, .inl ⟨g, cap, rfl, rfl, h4⟩⟩
    · have holds : ∀ j u, xs[j]? = some u → w.cell? ((⟨g, 0, none⟩ : Addr).add j) = some u := hown.cells (g := g) rfl
      have hr := run_append_grow (P := P) w t ty e i z ht hi hz ⟨g, 0, none⟩ n cap xs hown.1 holds a m c news hl hnews (by omega) (by omega) (growslice_fits (by omega) hbytes)
      have ho := own_newRow w base n m i.size (grownCap w (n + m) cap e) e xs news z.cells hzs hown.1 hl (grownCap_ge w (n + m) cap e) (grownCap_le_maxLen w (n + m) cap e h63) hbase
      exact ⟨_, _, hr, ho, .inr ⟨rfl, grown_newRow w _ none⟩⟩
theorem run_append_bytes2 {w : World} {base n : Nat} {v x : Value} {bs cs : List (BitVec 8)} (hown : w.ownsRow base 5 1 v n (bytesV bs)) (hx : ByteAt w x cs) (hfit : n + cs.length ≤ 140737488355328) (hbase : base ≤ w.heap.size) (ty : TypeId) :
    ∃ v' w', (Builtin.append_ #[22, 22] ty #[v, x]).run Tryz.prog w = .ok v' w' ∧ w'.ownsRow base 5 1 v' (n + cs.length) (bytesV (bs ++ cs)) ∧ w.grownBy w' v.ownBlock ∧ ∀ k, v'.ownBlock = some k → v.ownBlock = some k ∨ w.heap.size ≤ k := by
  obtain ⟨v', w', h1, h2, h3⟩ := run_append_bytes hown hx hfit hbase ty
  refine ⟨v', w', h1, h2, h3, ?_⟩
  obtain ⟨i0, hi, hz0, hz1, hz2⟩ := info_parts infoU8
  obtain ⟨ad, cap, rfl, _⟩ := hx.slice
  cases ad with
  | none =>
    have h0 : cs = [] := by
      rcases hx with ⟨_, _, _, h⟩ | ⟨_, _, _, h, _⟩
      · exact h
      · injection h with h; cases h
    subst h0
    have h4 := run_append_none w base n cap ty v _ hown
    rw [show (Value.slice none ([] : List (BitVec 8)).length cap) = .slice none 0 cap from rfl, h4] at h1
    injection h1 with h1 _
    subst h1
    exact fun k hk => .inl hk
  | some a =>
    have hl : (bytesV cs).length = cs.length * 1 := by rw [bytesV_length, Nat.mul_one]
    by_cases h0 : cs.length = 0
    · have hcs := List.eq_nil_of_length_eq_zero h0
      subst hcs
      rcases hown.2 with ⟨rfl, rfl⟩ | ⟨g, cap', cur, rfl, hbg, hg, hnc, hcm, hcs, htake⟩
      · have h4 : (Builtin.append_ #[22, 22] ty #[.slice none 0 0, .slice (some a) 0 cap]).run Tryz.prog w = .ok (.slice none 0 0) w := by
          simp [Builtin.append_, run_underlying Tryz.underlying22, sizeOf, typeInfo, hi, Builtin.lenOf, Builtin.firstCells, loadCells, loadCellsFrom]
        rw [show (Value.slice (some a) ([] : List (BitVec 8)).length cap) = .slice (some a) 0 cap from rfl, h4] at h1
        injection h1 with h1 _
        subst h1
        exact fun k hk => by cases hk
      · obtain ⟨w2, h4, _, _⟩ := run_append_fits (P := Tryz.prog) w base 22 ty 5 i0 1 Tryz.underlying22 hi hz1 g n cap' (bytesV bs) hown a 0 cap [] rfl (fun j u h => by simp at h) (fun u h => by simp at h) (by omega)
        rw [show (Value.slice (some a) ([] : List (BitVec 8)).length cap) = .slice (some a) 0 cap from rfl, h4] at h1
        injection h1 with h1 _
        subst h1
        exact fun k hk => .inl hk
    · obtain ⟨g, off, cap', hv⟩ : ∃ g off cap', Value.slice (some a) cs.length cap = .slice (some ⟨g, off, none⟩) cs.length cap' := by
        rcases hx with ⟨_, _, _, h⟩ | ⟨g, off, cap', h, _⟩
        · rw [h] at h0; exact absurd rfl h0
        · exact ⟨g, off, cap', h⟩
      injection hv with hv _ hc
      injection hv with hv
      subst hv hc
      obtain ⟨v2, w2, h4, _, h5⟩ := run_append_split (P := Tryz.prog) w base 22 ty 5 i0 (.int .u8 0) 1 1 Tryz.underlying22 hi hz0 hz1 hz2 rfl v n (bytesV bs) hown ⟨g, off, none⟩ cs.length cap (bytesV cs) hl (cells_byteAt hx) (bytesV_one cs) (by omega) (by unfold maxLen; omega) (by omega) hbase
      rw [h4] at h1
      injection h1 with h1 _
      subst h1
      intro k hk
      rcases h5 with ⟨g2, c2, h6, h7, _⟩ | ⟨h6, _⟩
      · rw [h7] at hk
        exact .inl (by rw [h6]; exact hk)
      · rw [h6] at hk
        injection hk with hk
        exact .inr (by omega)
theorem wpList_append_bytes2 {w : World} {ops : Array Oper} {rest : List Oper} {o : Oper} {a : Act} {Q : Exit → Act → World → Prop} (hgd : o.guard = none) (s x : Operand)
    (ho : o.op = .call { callee := .builtin .append, args := #[s, x], argTypes := #[22, 22] }) (base n : Nat) (v xv : Value) (bs cs : List (BitVec 8)) (hs : a.eval s = v) (hx : a.eval x = xv)
    (hown : w.ownsRow base 5 1 v n (bytesV bs)) (hb : ByteAt w xv cs) (hfit : n + cs.length ≤ 140737488355328) (hbase : base ≤ w.heap.size)
    (h : ∀ v' w', w'.ownsRow base 5 1 v' (n + cs.length) (bytesV (bs ++ cs)) → w.grownBy w' v.ownBlock → (∀ k, v'.ownBlock = some k → v.ownBlock = some k ∨ w.heap.size ≤ k) → wpList Tryz.prog ops Q rest (a.put o.dst v') w') : wpList Tryz.prog ops Q (o :: rest) a w := by
  refine wpList_plain hgd fun K hK => ?_
  obtain ⟨v', w', hr, h2, h3, h4⟩ := run_append_bytes2 hown hb hfit hbase o.type
  unfold Oper.wp execOp
  simp only [ho, resolve, invoke, builtin, Sem.run_bind, Sem.run_pure, Result.andThen_ok, List.map_toArray, List.map_cons, List.map_nil, hs, hx, hr]
  exact hK _ _ (h v' w' h2 h3 h4)
/-- A row of one's own is kept by what leaves its block alone. -/
theorem ownsRow_block {S : Nat → Prop} {w w' : World} {base n size : Nat} {e : TypeId} {v : Value} {xs : List Value} (h : w.ownsRow base e size v n xs) (m : Mod S w w') (hS : ∀ k, v.ownBlock = some k → ¬ S k) : w'.ownsRow base e size v n xs := by
  rcases h with ⟨h0, h1 | ⟨g, cap, cur, h2, h3, h4, h5⟩⟩
  · exact ⟨h0, .inl h1⟩
  · exact ⟨h0, .inr ⟨g, cap, cur, h2, h3, m.heap h4 (hS g (by rw [h2]; rfl)), h5⟩⟩
theorem ownsRow_keep0 {w w' : World} {base n size : Nat} {e : TypeId} {v : Value} {xs : List Value} (h : w.ownsRow base e size v n xs) (m : Mod (fun _ => False) w w') : w'.ownsRow base e size v n xs := ownsRow_block h m (fun _ _ h => h)
theorem ownsRow_base0 {w : World} {base base' n size : Nat} {e : TypeId} {v : Value} {xs : List Value} (h : w.ownsRow base e size v n xs) (hb : base' ≤ base) : w.ownsRow base' e size v n xs := by
  rcases h with ⟨h0, h1 | ⟨g, cap, cur, h2, h3, h4⟩⟩
  · exact ⟨h0, .inl h1⟩
  · exact ⟨h0, .inr ⟨g, cap, cur, h2, Nat.le_trans hb h3, h4⟩⟩
theorem ownsRow_in {w : World} {base n size k : Nat} {e : TypeId} {v : Value} {xs : List Value} (h : w.ownsRow base e size v n xs) (hk : v.ownBlock = some k) : base ≤ k ∧ k < w.heap.size := by
  rcases h with ⟨h0, ⟨h1, _⟩ | ⟨g, cap, cur, h2, h3, h4, h5⟩⟩
  · rw [h1] at hk; cases hk
  · rw [h2] at hk
    injection hk with hk
    obtain rfl : g = k := hk
    exact ⟨h3, lt_of_heap h4⟩
theorem own_prefix {w : World} {base a b g cap : Nat} {xs : List (BitVec 8)} (h : w.ownsRow base 5 1 (.slice (some ⟨g, 0, none⟩) a cap) a (bytesV xs)) (hb : b ≤ a) : w.ownsRow base 5 1 (.slice (some ⟨g, 0, none⟩) b cap) b (bytesV (xs.take b)) := by
  have hl : xs.length = a := by have := h.1; rw [bytesV_length] at this; omega
  rcases h.2 with ⟨h1, _⟩ | ⟨g', cap', cur, h1, h2, h3, h4, h5, h6, h7⟩
  · cases h1
  · injection h1 with h1 _ hc
    injection h1 with h1
    injection h1 with h1
    subst h1 hc
    refine ⟨by rw [bytesV_length, List.length_take]; omega, .inr ⟨g, cap, cur, rfl, h2, h3, by omega, h5, h6, ?_⟩⟩
    rw [Nat.mul_one] at h7 ⊢
    rw [show cur.toList.take b = (cur.toList.take a).take b by rw [List.take_take, Nat.min_eq_left hb], h7]
    simp [bytesV, List.map_take]
theorem own_cap {w : World} {base base' a b g c1 c2 : Nat} {xs ys : List Value} (h1 : w.ownsRow base 5 1 (.slice (some ⟨g, 0, none⟩) a c1) a xs) (h2 : w.ownsRow base' 5 1 (.slice (some ⟨g, 0, none⟩) b c2) b ys) : c1 = c2 := by
  rcases h1.2 with ⟨e, _⟩ | ⟨g1, k1, cur1, e1, _, p1, _, _, s1, _⟩
  · cases e
  · rcases h2.2 with ⟨e, _⟩ | ⟨g2, k2, cur2, e2, _, p2, _, _, s2, _⟩
    · cases e
    · injection e1 with e1 _ f1
      injection e1 with e1
      injection e1 with e1
      injection e2 with e2 _ f2
      injection e2 with e2
      injection e2 with e2
      subst e1 e2 f1 f2
      rw [p1] at p2
      injection p2 with p2
      injection p2 with p2
      subst p2
      omega
/-- One byte behind a row of one's own; another row of one's own that begins it stays. -/
theorem run_append_one {w : World} {base n ga : Nat} {v : Value} {bs : List (BitVec 8)} {y : BitVec 8} (hown : w.ownsRow base 5 1 v n (bytesV bs)) (hx : w.heap[ga]? = some (.cells (encB [y]) 5 (0,0))) (hfit : n + 1 ≤ 140737488355328) (hbase : base ≤ w.heap.size) (ty : TypeId) :
    ∃ v' w', (Builtin.append_ #[22, 22] ty #[v, .slice (some ⟨ga, 0, none⟩) 1 1]).run Tryz.prog w = .ok v' w' ∧ w'.ownsRow base 5 1 v' (n + 1) (bytesV (bs ++ [y])) ∧ Mod (fun k => v.ownBlock = some k) w w' ∧ (∀ k, v'.ownBlock = some k → v.ownBlock = some k ∨ w.heap.size ≤ k) ∧
      ∀ (u : Value) (m : Nat), m ≤ n → w.ownsRow base 5 1 u m (bytesV (bs.take m)) → w'.ownsRow base 5 1 u m (bytesV (bs.take m)) := by
  obtain ⟨i0, hi, hz0, hz1, hz2⟩ := info_parts infoU8
  have hlb : bs.length = n := by have := hown.1; rw [bytesV_length] at this; omega
  obtain ⟨v', w', h1, h2, h3⟩ := run_append_split (P := Tryz.prog) w base 22 ty 5 i0 (.int .u8 0) 1 1 Tryz.underlying22 hi hz0 hz1 hz2 rfl v n (bytesV bs) hown ⟨ga, 0, none⟩ 1 1 (bytesV [y]) rfl (cells_byteAt (ByteAt.row hx)) (bytesV_one _) (by omega) (by unfold maxLen; omega) (by omega) hbase
  rw [← bytesV_append] at h2
  refine ⟨v', w', h1, h2, ?_⟩
  rcases h3 with ⟨g, cap, rfl, rfl, hg⟩ | ⟨hv, hg⟩
  · have hm : Mod (fun k => (Value.slice (some ⟨g, 0, none⟩) n cap).ownBlock = some k) w w' := (Mod.refl _ _).grown hg (fun k hk _ => hk)
    refine ⟨hm, fun k hk => .inl hk, fun u m hmn hu => ?_⟩
    by_cases hb : u.ownBlock = some g
    · rcases hu.2 with ⟨rfl, rfl⟩ | ⟨g2, c2, cur, rfl, _⟩
      · cases hb
      · obtain rfl : g2 = g := by injection hb
        obtain rfl := own_cap hown hu
        have h4 := own_prefix h2 (show m ≤ n + 1 by omega)
        rwa [List.take_append_of_le_length (by omega)] at h4
    · exact ownsRow_block hu hm (fun k hk h => by injection h with h; exact hb (by rw [hk, ← h]))
  · have hm : Mod (fun _ => False) w w' := (Mod.refl _ _).grown hg (fun k hk _ => by cases hk)
    exact ⟨hm.mono (fun _ _ h => h.elim), fun k hk => .inr (by rw [hv] at hk; injection hk with hk; omega), fun u m _ hu => ownsRow_keep0 hu hm⟩
theorem byteAt_block {S : Nat → Prop} {w w' : World} {v : Value} {bs : List (BitVec 8)} (h : ByteAt w v bs) (m : Mod S w w') (hS : ∀ k, v.ownBlock = some k → ¬ S k) : ByteAt w' v bs := by
  rcases h with ⟨ad, cap, rfl, rfl⟩ | ⟨g, off, cap, rfl, hc, h2⟩
  · exact .inl ⟨ad, cap, rfl, rfl⟩
  · exact .inr ⟨g, off, cap, rfl, hc, fun j hj => cell_mod m (h2 j hj) (hS g rfl)⟩
end Go.Proofs.YtbiijcljpgannaaGreatDoor

namespace Go.Proofs.YtbiijcljpgannaaGreatDoor
set_option maxRecDepth 100000
open Go Go.RowKit Go.Lib
set_option linter.unusedSimpArgs false
set_option linter.unusedVariables false

/-- A row of bytes of one's own, or such a one clipped. -/
structure ClipR (w : World) (base : Nat) (v : Value) (n : Nat) (xs : List Value) : Prop where
  own : ∃ v', w.ownsRow base 5 1 v' n xs ∧ (v = v' ∨ ∃ a c, v' = .slice a n c ∧ v = .slice a n n)
theorem ClipR.of {w : World} {base n : Nat} {v : Value} {xs : List Value} (h : w.ownsRow base 5 1 v n xs) : ClipR w base v n xs := ⟨v, h, .inl rfl⟩
theorem ClipR.clip {w : World} {base n c : Nat} {a : Option Addr} {xs : List Value} (h : w.ownsRow base 5 1 (.slice a n c) n xs) : ClipR w base (.slice a n n) n xs := ⟨_, h, .inr ⟨a, c, rfl, rfl⟩⟩
theorem ClipR.len {w : World} {base n : Nat} {v : Value} {xs : List Value} (h : ClipR w base v n xs) : xs.length = n * 1 := by
  obtain ⟨v', h', _⟩ := h.own
  exact h'.1
theorem ClipR.same {w w' : World} {base base' n : Nat} {v : Value} {xs xs' : List Value} (h : ClipR w base v n xs) (f : ∀ v', v'.ownBlock = v.ownBlock → w.ownsRow base 5 1 v' n xs → w'.ownsRow base' 5 1 v' n xs') : ClipR w' base' v n xs' := by
  obtain ⟨v', h', e⟩ := h.own
  refine ⟨v', f v' ?_ h', e⟩
  rcases e with rfl | ⟨a, c, rfl, rfl⟩
  · rfl
  · cases a <;> rfl
theorem ClipR.block {w : World} {base n : Nat} {v : Value} {xs : List Value} (h : ClipR w base v n xs) : ∃ v', v'.ownBlock = v.ownBlock ∧ w.ownsRow base 5 1 v' n xs := by
  obtain ⟨v', h', e⟩ := h.own
  refine ⟨v', ?_, h'⟩
  rcases e with rfl | ⟨a, c, rfl, rfl⟩
  · rfl
  · cases a <;> rfl
theorem clip_slice {w : World} {base n : Nat} {v : Value} {xs : List Value} (h : ClipR w base v n xs) : ∃ a c, v = .slice a n c := by
  obtain ⟨v', h', e⟩ := h.own
  rcases e with rfl | ⟨a, c, rfl, rfl⟩
  · rcases h'.2 with ⟨h1, h2⟩ | ⟨g, cap, cur, h1, _⟩
    · exact ⟨_, _, by rw [h1, h2]⟩
    · exact ⟨_, _, h1⟩
  · exact ⟨_, _, rfl⟩
theorem clip_in {w : World} {base n k : Nat} {v : Value} {xs : List Value} (h : ClipR w base v n xs) (hk : v.ownBlock = some k) : base ≤ k ∧ k < w.heap.size := by
  obtain ⟨v', e, h'⟩ := h.block
  exact ownsRow_in h' (by rw [e]; exact hk)
theorem ClipR.lt {w : World} {base n : Nat} {v : Value} {xs : List Value} (h : ClipR w base v n xs) : ∀ k, v.ownBlock = some k → base ≤ k ∧ k < w.heap.size := fun _ hk => clip_in h hk
theorem clip_block {S : Nat → Prop} {w w' : World} {base n : Nat} {v : Value} {xs : List Value} (h : ClipR w base v n xs) (m : Mod S w w') (hS : ∀ k, v.ownBlock = some k → ¬ S k) : ClipR w' base v n xs :=
  h.same fun v' e h' => ownsRow_block h' m (fun k hk => hS k (by rw [← e]; exact hk))
theorem clip_keep0 {w w' : World} {base n : Nat} {v : Value} {xs : List Value} (h : ClipR w base v n xs) (m : Mod (fun _ => False) w w') : ClipR w' base v n xs := clip_block h m (fun _ _ h => h)
theorem clip_base0 {w : World} {base base' n : Nat} {v : Value} {xs : List Value} (h : ClipR w base v n xs) (hb : base' ≤ base) : ClipR w base' v n xs := h.same fun v' _ h' => ownsRow_base0 h' hb
theorem clip_byteAt {w : World} {base n : Nat} {v : Value} {bs : List (BitVec 8)} (h : ClipR w base v n (bytesV bs)) : ByteAt w v bs := by
  have hl := h.len
  obtain ⟨v', h', e⟩ := h.own
  have hb := byteAt_of_own h'
  rcases e with rfl | ⟨a, c, rfl, rfl⟩
  · exact hb
  · rw [bytesV_length, Nat.mul_one] at hl
    rcases hb with ⟨ad, cap, e, e2⟩ | ⟨g, off, cap, e, hc, h2⟩
    · injection e with e1 e3 e4
      subst e1 e2
      exact .inl ⟨_, _, by rw [e3], rfl⟩
    · injection e with e1 e3 e4
      subst e1
      refine .inr ⟨g, off, n, by rw [hl], by omega, h2⟩
theorem clip_some {w : World} {base n : Nat} {v : Value} {xs : List Value} (h : ClipR w base v n xs) (hn : 0 < n) : ∃ g c, v = .slice (some ⟨g, 0, none⟩) n c := by
  obtain ⟨v', h', e⟩ := h.own
  rcases h'.2 with ⟨h1, h2⟩ | ⟨g, cap, cur, h1, _⟩
  · omega
  · rcases e with rfl | ⟨a, c, h3, rfl⟩
    · exact ⟨_, _, h1⟩
    · rw [h1] at h3
      injection h3 with h3
      exact ⟨g, n, by rw [h3]⟩
theorem ClipR.wide {w : World} {base n g cap : Nat} {xs : List Value} (h : ClipR w base (.slice (some ⟨g, 0, none⟩) n cap) n xs) : ∃ c, w.ownsRow base 5 1 (.slice (some ⟨g, 0, none⟩) n c) n xs ∧ (cap = c ∨ cap = n) := by
  obtain ⟨v', h', e⟩ := h.own
  rcases e with rfl | ⟨a, c, rfl, e⟩
  · exact ⟨cap, h', .inl rfl⟩
  · injection e with e1 e2 e3
    subst e1
    exact ⟨c, h', .inr e3⟩
theorem ClipR.cellAt {w : World} {base n g cap : Nat} {xs : List Value} (h : ClipR w base (.slice (some ⟨g, 0, none⟩) n cap) n xs) (j : Nat) (hj : j < n * 1) : w.cell? ⟨g, j, none⟩ = xs[j]? := by
  obtain ⟨c, h', _⟩ := h.wide
  exact h'.cellAt j hj
theorem ClipR.frozenAt {w : World} {base n g cap : Nat} {xs : List Value} (h : ClipR w base (.slice (some ⟨g, 0, none⟩) n cap) n xs) (j : Nat) : w.frozen? ⟨g, j, none⟩ = false := by
  obtain ⟨c, h', _⟩ := h.wide
  exact h'.frozenAt j
theorem ClipR.stored {w : World} {base n g cap : Nat} {xs : List Value} (h : ClipR w base (.slice (some ⟨g, 0, none⟩) n cap) n xs) (j : Nat) (u : Value) :
    ClipR (w.setCell ⟨g, j, none⟩ u) base (.slice (some ⟨g, 0, none⟩) n cap) n (xs.set j u) ∧ w.grownBy (w.setCell ⟨g, j, none⟩ u) (some g) := by
  obtain ⟨c, h', e⟩ := h.wide
  obtain ⟨h1, h2⟩ := h'.stored j u
  refine ⟨⟨_, h1, ?_⟩, h2⟩
  rcases e with rfl | rfl
  · exact .inl rfl
  · exact .inr ⟨_, _, rfl, rfl⟩
/-- One byte behind a row of one's own, clipped or not; another row of one's own that begins it stays. -/
theorem clip_append_one {w : World} {base n ga : Nat} {v : Value} {bs : List (BitVec 8)} {y : BitVec 8} (hown : ClipR w base v n (bytesV bs)) (hx : w.heap[ga]? = some (.cells (encB [y]) 5 (0,0))) (hfit : n + 1 ≤ 140737488355328) (hbase : base ≤ w.heap.size) (ty : TypeId) :
    ∃ v' w', (Builtin.append_ #[22, 22] ty #[v, .slice (some ⟨ga, 0, none⟩) 1 1]).run Tryz.prog w = .ok v' w' ∧ ClipR w' base v' (n + 1) (bytesV (bs ++ [y])) ∧ Mod (fun k => v.ownBlock = some k) w w' ∧ (∀ k, v'.ownBlock = some k → v.ownBlock = some k ∨ w.heap.size ≤ k) ∧
      ∀ (u : Value) (m : Nat), m ≤ n → ClipR w base u m (bytesV (bs.take m)) → ClipR w' base u m (bytesV (bs.take m)) := by
  have plain : ∀ v0, w.ownsRow base 5 1 v0 n (bytesV bs) → v = v0 → ∃ v' w', (Builtin.append_ #[22, 22] ty #[v, .slice (some ⟨ga, 0, none⟩) 1 1]).run Tryz.prog w = .ok v' w' ∧ ClipR w' base v' (n + 1) (bytesV (bs ++ [y])) ∧ Mod (fun k => v.ownBlock = some k) w w' ∧ (∀ k, v'.ownBlock = some k → v.ownBlock = some k ∨ w.heap.size ≤ k) ∧
      ∀ (u : Value) (m : Nat), m ≤ n → ClipR w base u m (bytesV (bs.take m)) → ClipR w' base u m (bytesV (bs.take m)) := by
    rintro v0 h0 rfl
    obtain ⟨v', w', h1, h2, h3, h4, h5⟩ := run_append_one h0 hx hfit hbase ty
    exact ⟨v', w', h1, .of h2, h3, h4, fun u m hm hu => hu.same fun u' _ h' => h5 u' m hm h'⟩
  obtain ⟨v0, h0, h | ⟨a, cap, e1, e2⟩⟩ := hown.own
  · exact plain v0 h0 h
  · subst e1 e2
    rcases h0.2 with ⟨e, e4⟩ | ⟨g, cap', cur, e, hbg, hg, hnc, hcm, hcs, htake⟩
    · injection e with e1 e2 e3
      exact plain _ h0 (by rw [e1, e2, e3])
    · injection e with e1 e2 e3
      subst e1 e3
      obtain ⟨i0, hi, hz0, hz1, hz2⟩ := info_parts infoU8
      have holds : ∀ j u, (bytesV bs)[j]? = some u → w.cell? ((⟨g, 0, none⟩ : Addr).add j) = some u := h0.cells (g := g) rfl
      have hlen : (bytesV bs).length = n * i0.size := by rw [hz1]; exact h0.1
      have hr := run_append_grow (P := Tryz.prog) w 22 ty 5 i0 (.int .u8 0) Tryz.underlying22 hi hz0 ⟨g, 0, none⟩ n n (bytesV bs) hlen holds ⟨ga, 0, none⟩ 1 1 (bytesV [y]) (by rw [hz1]; rfl) (cells_byteAt (ByteAt.row hx)) (by omega) (by omega) (growslice_fits (by omega) (by rw [hz2]; omega))
      have ho := own_newRow w base n 1 1 (grownCap w (n + 1) n 5) 5 (bytesV bs) (bytesV [y]) (Value.int .u8 0).cells rfl h0.1 rfl (grownCap_ge w (n + 1) n 5) (grownCap_le_maxLen w (n + 1) n 5 (by unfold maxLen; omega)) hbase
      rw [← bytesV_append] at ho
      have hm : Mod (fun _ => False) w (w.drew.alloc (.cells ((bytesV bs).toArray ++ (bytesV [y]).toArray ++ Builtin.zeroCells (Value.int .u8 0).cells (grownCap w (n + 1) n 5 - (n + 1))) 5)) := ((Mod.refl _ _).drew).alloc _
      exact ⟨_, _, hr, .of ho, hm.mono (fun _ _ h => h.elim), fun k hk => .inr (by have h9 : w.heap.size = k := by { injection hk }; omega), fun u m _ hu => clip_keep0 hu hm⟩
end Go.Proofs.YtbiijcljpgannaaGreatDoor
