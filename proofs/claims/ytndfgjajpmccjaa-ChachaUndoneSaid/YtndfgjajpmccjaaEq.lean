/-
  '==' of two arrays of bytes, of words.
-/
import Derived.ChangeKeysEq
import Derived.Test.YtndfgjajpmccjaaRcb
namespace Go.Proofs.Ytndfgjajpmccjaa
open Go Go.RowKit

theorem run_eqItems_int {P : Program} (d : Nat) (E : TypeId) (k : IntKind) (hE : P.underlying E = some (.int k)) (xs ys : Array Value) (f g : Nat → Int) : ∀ (is : List Nat) (w : World), (∀ i, i ∈ is → xs[i]? = some (.int k (f i)) ∧ ys[i]? = some (.int k (g i))) →
    (Op.eqItems (d + 1) E 1 xs ys is).run P w = .ok (is.all fun i => f i == g i) w := by
  intro is
  induction is with
  | nil => intro w _; simp [Op.eqItems]
  | cons i is ih =>
    intro w h
    obtain ⟨hx, hy⟩ := h i (by simp)
    have hagg : (isAgg E).run P w = .ok false w := by
      unfold isAgg
      rw [Sem.run_bind, run_underlying hE w]
      simp
    have px : (part E xs (i * 1)).run P w = .ok (.int k (f i)) w := by simp [part, Sem.run_bind, hagg, hx]
    have py : (part E ys (i * 1)).run P w = .ok (.int k (g i)) w := by simp [part, Sem.run_bind, hagg, hy]
    simp only [Op.eqItems, Sem.run_bind, px, py, run_equalIn_int w d E k k (f i) (g i) hE, Result.andThen_ok]
    by_cases e : f i = g i
    · simp [e, ih w (fun j hj => h j (by simp [hj]))]
    · simp [e]

theorem all_range (N : Nat) (f g : Nat → Int) : ((List.range N).all fun i => f i == g i) = decide (∀ i, i < N → f i = g i) := by
  rw [Bool.eq_iff_iff]
  simp

theorem run_eql_ints {P : Program} (w : World) (t E : TypeId) (N : Nat) (k : IntKind) (i0 : TypeInfo) (ht : P.underlying t = some (.array N E)) (hE : P.underlying E = some (.int k)) (hi : P.info? E = some i0) (hc : P.cellsOf E = 1)
    (xs ys : Array Value) (f g : Nat → Int) (hx : ∀ i, i < N → xs[i]? = some (.int k (f i))) (hy : ∀ i, i < N → ys[i]? = some (.int k (g i))) :
    (binOp .eql t (.agg xs) (.agg ys)).run P w = .ok (.bool (decide (∀ i, i < N → f i = g i))) w := by
  rw [run_eql_struct w t xs ys, run_equalIn_array w 9999 xs ys ht hi, hc]
  rw [run_eqItems_int 9998 E k hE xs ys f g (List.range N) w (fun i h => ⟨hx i (List.mem_range.1 h), hy i (List.mem_range.1 h)⟩), all_range]
  rfl

theorem run_eql_bytes {P : Program} (w : World) (t E : TypeId) (N : Nat) (i0 : TypeInfo) (ht : P.underlying t = some (.array N E)) (hE : P.underlying E = some (.int .u8)) (hi : P.info? E = some i0) (hc : P.cellsOf E = 1)
    (a b : List (BitVec 8)) (ha : a.length = N) (hb : b.length = N) : (binOp .eql t (.agg (encB a)) (.agg (encB b))).run P w = .ok (.bool (decide (a = b))) w := by
  rw [run_eql_ints w t E N .u8 i0 ht hE hi hc (encB a) (encB b) (fun i => ((a.getD i 0).toNat : Int)) (fun i => ((b.getD i 0).toNat : Int)) (fun i h => encB_get (by omega)) (fun i h => encB_get (by omega))]
  have : (∀ i, i < N → ((a.getD i 0).toNat : Int) = ((b.getD i 0).toNat : Int)) ↔ a = b := by
    constructor
    · intro h
      refine List.ext_getElem (by omega) (fun i h1 h2 => ?_)
      have h3 := h i (by omega)
      simp only [List.getD_eq_getElem?_getD, List.getElem?_eq_getElem h1, List.getElem?_eq_getElem h2, Option.getD_some] at h3
      exact BitVec.eq_of_toNat_eq (by omega)
    · intro h; subst h; intros; rfl
  simp only [this]

theorem run_eql_words {P : Program} (w : World) (t E : TypeId) (N : Nat) (i0 : TypeInfo) (ht : P.underlying t = some (.array N E)) (hE : P.underlying E = some (.int .u32)) (hi : P.info? E = some i0) (hc : P.cellsOf E = 1)
    (a b : List (BitVec 32)) (ha : a.length = N) (hb : b.length = N) : (binOp .eql t (.agg (enc a)) (.agg (enc b))).run P w = .ok (.bool (decide (a = b))) w := by
  rw [run_eql_ints w t E N .u32 i0 ht hE hi hc (enc a) (enc b) (fun i => ((a.getD i 0).toNat : Int)) (fun i => ((b.getD i 0).toNat : Int)) (fun i h => enc_get (by omega)) (fun i h => enc_get (by omega))]
  have : (∀ i, i < N → ((a.getD i 0).toNat : Int) = ((b.getD i 0).toNat : Int)) ↔ a = b := by
    constructor
    · intro h
      refine List.ext_getElem (by omega) (fun i h1 h2 => ?_)
      have h3 := h i (by omega)
      simp only [List.getD_eq_getElem?_getD, List.getElem?_eq_getElem h1, List.getElem?_eq_getElem h2, Option.getD_some] at h3
      exact BitVec.eq_of_toNat_eq (by omega)
    · intro h; subst h; intros; rfl
  simp only [this]

/-- Some cells of a row, read as an array or a struct. -/
theorem run_loadVar_sub {P : Program} (w : World) (g off : Nat) (t ty : TypeId) (cs : Array Value) (sub : List Value) (fr : Nat × Nat) (d : TypeDesc) (hg : w.heap[g]? = some (.cells cs t fr))
    (hu : P.underlying ty = some d) (hd : (match d with | .struct _ | .array _ _ => true | _ => false) = true) (hi : (P.info? ty).map (·.size) = some sub.length) (hs : ∀ j v, sub[j]? = some v → cs[off + j]? = some v) :
    (loadVar ty ⟨g, off, none⟩).run P w = .ok (.agg sub.toArray) w := by
  have hl : (loadCells ⟨g, off, none⟩ sub.length).run P w = .ok sub.toArray w :=
    run_loadCells_list (P := P) w ⟨g, off, none⟩ sub (fun j v hv => by
      have hadd : (⟨g, off, none⟩ : Addr).add j = ⟨g, off + j, none⟩ := by unfold Addr.add; split <;> simp_all
      rw [hadd, cell_of_row w g (off + j) cs t fr hg]
      exact hs j v hv)
  cases hq : P.info? ty with
  | none => simp [hq] at hi
  | some i =>
    have hs : i.size = sub.length := by simpa [hq] using hi
    have hagg : (isAgg ty).run P w = .ok true w := by
      unfold isAgg
      rw [Sem.run_bind, run_underlying hu w]
      cases d <;> simp_all
    simp [loadVar, Sem.run_bind, hagg, sizeOf, typeInfo, hq, hs, hl]

section
variable {P : Program} {o : Oper} {a : Act} {C : World → Prop} {K : Act → Prop}
theorem quiet_run (v : Value) (h : ∀ w, C w → (execOp a.eval o).run P w = .ok (.value v) w) (hk : K (a.put o.dst v)) : o.quiet P a C K :=
  ⟨v, fun w hw => by unfold Oper.quietAt; rw [h w hw]; exact ⟨rfl, rfl⟩, hk⟩
theorem quiet_load (ty : TypeId) (x : Operand) (ho : o.op = .load ty x) (g off : Nat) (hx : a.eval x = .pointer (some ⟨g, off, none⟩)) (v : Value) (h : ∀ w, C w → (loadVar ty ⟨g, off, none⟩).run P w = .ok v w) (hk : K (a.put o.dst v)) : o.quiet P a C K :=
  quiet_run v (fun w hw => by
    unfold execOp
    simp only [ho, hx, Instr.loadAt, Instr.sureAddr, Sem.run_bind, Sem.run_pure, Result.andThen_ok, h w hw]) hk
theorem quiet_eql (t t2 : TypeId) (x y : Operand) (ho : o.op = .binOp .eql t x y t2) (vx vy : Value) (hx : a.eval x = vx) (hy : a.eval y = vy) (b : Bool) (hg : ∀ w, (eqGuard .eql t x y vx vy).run P w = .ok () w) (h : ∀ w, (binOp .eql t vx vy).run P w = .ok (.bool b) w)
    (hk : K (a.put o.dst (.bool b))) : o.quiet P a C K :=
  quiet_run (.bool b) (fun w _ => by
    unfold execOp
    simp only [ho, hx, hy, Sem.run_bind, Sem.run_pure, Result.andThen_ok, hg w, h w]) hk
theorem quiet_call (f : FuncId) (args : Array Value) (v : Value) (h : ∀ w, C w → (execOp a.eval o).run P w = .ok (.enter f args) w) (hc : ∀ w, C w → Calls P f args w fun e w' => e = .returned v ∧ C w') (hk : K (a.put o.dst v)) : o.quiet P a C K :=
  ⟨v, fun w hw => by unfold Oper.quietAt; rw [h w hw]; exact ⟨rfl, hc w hw⟩, hk⟩
end
end Go.Proofs.Ytndfgjajpmccjaa
