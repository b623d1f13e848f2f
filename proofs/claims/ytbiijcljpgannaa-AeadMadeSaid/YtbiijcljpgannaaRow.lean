/-
  A row as three lists one behind the other: the middle one is read, is written. '==' of rows of numbers.
-/
import Derived.ChangeKeysEq
import Derived.Deep.MidRow
import Derived.Test.YtbiijcljpgannaaBy
namespace Go.Proofs.Ytbiijcljpgannaa
open Go Go.RowKit
set_option linter.unusedSimpArgs false
set_option linter.unusedVariables false

theorem load_mid {P : Program} (w : World) (g off : Nat) (t ty : TypeId) (pre mid suf : List Value) (fr : Nat × Nat) (d : TypeDesc) (hg : w.heap[g]? = some (.cells (pre ++ (mid ++ suf)).toArray t fr)) (ho : off = pre.length)
    (hu : P.underlying ty = some d) (hd : d.isRow = true) (hi : (P.info? ty).map (·.size) = some mid.length) :
    (loadVar ty ⟨g, off, none⟩).run P w = .ok (.agg mid.toArray) w := by
  refine run_loadVar_mid w g off ty mid d (fun j v hv => ?_) hu hd hi
  have hj : j < mid.length := (List.getElem?_eq_some_iff.1 hv).1
  rw [cell_of_row _ _ _ _ _ _ hg, List.getElem?_toArray, List.getElem?_append_right (by omega), ho, Nat.add_sub_cancel_left, List.getElem?_append_left hj]
  exact hv
theorem setCells_mid (g : Nat) (t : TypeId) : ∀ (vs mid pre suf : List Value) (w : World), mid.length = vs.length → w.heap[g]? = some (.cells (pre ++ (mid ++ suf)).toArray t (0,0)) →
    Mod (fun x => x = g) w (w.setCells g pre.length vs) ∧ (w.setCells g pre.length vs).heap[g]? = some (.cells (pre ++ (vs ++ suf)).toArray t (0,0)) := by
  intro vs
  induction vs with
  | nil =>
    intro mid pre suf w hm hg
    obtain rfl : mid = [] := List.eq_nil_of_length_eq_zero (by simpa using hm)
    exact ⟨Mod.refl _ _, hg⟩
  | cons v vs ih =>
    intro mid pre suf w hm hg
    cases mid with
    | nil => simp at hm
    | cons m mid =>
      have h1 : (w.setCell ⟨g, pre.length, none⟩ v).heap[g]? = some (.cells ((pre ++ [v]) ++ (mid ++ suf)).toArray t (0,0)) := by
        rw [setCell_row _ _ _ _ _ _ hg, setRow_heap _ _ _ _ _ _ hg]
        congr 2
        simp [List.set_append]
      have h2 := ih mid (pre ++ [v]) suf (w.setCell ⟨g, pre.length, none⟩ v) (by simpa using hm) h1
      rw [List.length_append, List.length_singleton] at h2
      refine ⟨(Mod.one_setCell _ _ _ _).trans h2.1, ?_⟩
      have h3 := h2.2
      rw [List.append_assoc] at h3
      exact h3
theorem there_mid {w : World} {g off n : Nat} {t : TypeId} {cs : Array Value} (hg : w.heap[g]? = some (.cells cs t (0,0))) (h : off + n ≤ cs.size) : w.there g off n := fun j hj => by
  refine ⟨?_, frozen_of_row _ _ _ _ _ hg⟩
  rw [cell_of_row _ _ _ _ _ _ hg]
  simp
  omega
/-- A store into the middle of a row. -/
theorem store_mid {P : Program} (w : World) (g off : Nat) (t ty : TypeId) (pre mid suf vs : List Value) (hg : w.heap[g]? = some (.cells (pre ++ (mid ++ suf)).toArray t (0,0))) (ho : off = pre.length) (hm : mid.length = vs.length)
    (hi : (P.info? ty).map (·.size) = some vs.length) (h1 : ∀ v ∈ vs, v.oneCell' = true) :
    ∃ w', (storeVar ty ⟨g, off, none⟩ (.agg vs.toArray)).run P w = .ok () w' ∧ Mod (fun x => x = g) w w' ∧ w'.heap[g]? = some (.cells (pre ++ (vs ++ suf)).toArray t (0,0)) := by
  subst ho
  have h2 := setCells_mid g t vs mid pre suf w hm hg
  exact ⟨_, by simpa using run_storeVar_mid (P := P) w g pre.length ty vs.toArray (there_mid hg (by simp; omega)) (by simpa using hi) (all_oneCell_toArray h1), h2.1, h2.2⟩

/-- Numbers as cells. -/
def nums (k : IntKind) (l : List Nat) : List Value := l.map fun n : Nat => Value.int k ((n : Nat) : Int)
theorem nums_length (k : IntKind) (l : List Nat) : (nums k l).length = l.length := by simp [nums]
theorem nums_one (k : IntKind) (l : List Nat) : ∀ v ∈ nums k l, v.oneCell' = true := by
  intro v hv
  obtain ⟨n, _, rfl⟩ := List.mem_map.1 hv
  rfl
theorem nums_get {k : IntKind} {l : List Nat} {i : Nat} (h : i < l.length) : (nums k l).toArray[i]? = some (.int k ((l.getD i 0 : Nat) : Int)) := by
  simp [nums, h, List.getD_eq_getElem?_getD]
theorem eqItems_nums {P : Program} (d : Nat) (E : TypeId) (k : IntKind) (hE : P.underlying E = some (.int k)) (xs ys : Array Value) (f g : Nat → Int) : ∀ (is : List Nat) (w : World), (∀ i, i ∈ is → xs[i]? = some (.int k (f i)) ∧ ys[i]? = some (.int k (g i))) →
    (Op.eqItems (d + 1) E 1 xs ys is).run P w = .ok (is.all fun i => f i == g i) w := by
  intro is
  induction is with
  | nil => intro w _; simp [Op.eqItems]
  | cons i is ih =>
    intro w h
    obtain ⟨hx, hy⟩ := h i (by simp)
    have hagg : (isAgg E).run P w = .ok false w := by
      unfold isAgg
      rw [Sem.run_bind, run_underlying hE w]
      simp
    have px : (Go.part E xs (i * 1)).run P w = .ok (.int k (f i)) w := by simp [Go.part, Sem.run_bind, hagg, hx]
    have py : (Go.part E ys (i * 1)).run P w = .ok (.int k (g i)) w := by simp [Go.part, Sem.run_bind, hagg, hy]
    simp only [Op.eqItems, Sem.run_bind, px, py, run_equalIn_int w d E k k (f i) (g i) hE, Result.andThen_ok]
    by_cases e : f i = g i
    · simp [e, ih w (fun j hj => h j (by simp [hj]))]
    · simp [e]
theorem equalIn_nums {P : Program} (w : World) (d : Nat) (t E : TypeId) (N : Nat) (k : IntKind) (i0 : TypeInfo) (ht : P.underlying t = some (.array N E)) (hE : P.underlying E = some (.int k)) (hi : P.info? E = some i0) (hc : P.cellsOf E = 1)
    (a b : List Nat) (ha : a.length = N) (hb : b.length = N) : (Op.equalIn (d + 2) t (.agg (nums k a).toArray) (.agg (nums k b).toArray)).run P w = .ok (decide (a = b)) w := by
  rw [run_equalIn_array w (d + 1) _ _ ht hi, hc, eqItems_nums d E k hE _ _ (fun i => ((a.getD i 0 : Nat) : Int)) (fun i => ((b.getD i 0 : Nat) : Int)) (List.range N) w (fun i h => ⟨nums_get (by have := List.mem_range.1 h; omega), nums_get (by have := List.mem_range.1 h; omega)⟩)]
  congr 1
  rw [Bool.eq_iff_iff]
  simp only [List.all_eq_true, List.mem_range, beq_iff_eq, decide_eq_true_iff]
  constructor
  · intro h
    refine List.ext_getElem (by omega) (fun i h1 h2 => ?_)
    have h3 := h i (by omega)
    simp only [List.getD_eq_getElem?_getD, List.getElem?_eq_getElem h1, List.getElem?_eq_getElem h2, Option.getD_some] at h3
    omega
  · intro h i _
    rw [h]
theorem part_mid {P : Program} (w : World) (ty : TypeId) (off : Nat) (pre mid suf : List Value) (d : TypeDesc) (ho : off = pre.length) (hu : P.underlying ty = some d) (hd : d.isRow = true) (hi : (P.info? ty).map (·.size) = some mid.length) :
    (Go.part ty (pre ++ (mid ++ suf)).toArray off).run P w = .ok (.agg mid.toArray) w := by
  subst ho
  have hagg : (isAgg ty).run P w = .ok true w := by
    unfold isAgg
    rw [Sem.run_bind, run_underlying hu w]
    cases d <;> simp_all
  cases hq : P.info? ty with
  | none => simp [hq] at hi
  | some i =>
    have hs : i.size = mid.length := by simpa [hq] using hi
    have he : (pre ++ (mid ++ suf)).toArray.extract pre.length (pre.length + mid.length) = mid.toArray := by
      simp
    simp only [Go.part, Sem.run_bind, hagg, Result.andThen_ok, if_true, sizeOf, typeInfo, hq, Sem.run_pure, run_program, hs, he]
theorem part_one {P : Program} (w : World) (ty : TypeId) (k : IntKind) (off : Nat) (xs : Array Value) (v : Value) (hu : P.underlying ty = some (.int k)) (hx : xs[off]? = some v) : (Go.part ty xs off).run P w = .ok v w := by
  have hagg : (isAgg ty).run P w = .ok false w := by
    unfold isAgg
    rw [Sem.run_bind, run_underlying hu w]
    simp
  simp [Go.part, Sem.run_bind, hagg, hx]
theorem index_nums {P : Program} (w : World) (t E N : Nat) (k : IntKind) (ht : P.underlying t = some (.array N E)) (hE : P.underlying E = some (.int k)) (hs : ∀ w, (sizeOf E).run P w = .ok 1 w) (l : List Nat) (j : Nat) (hj : j < N) (hb : l.length = N) :
    (Instr.index t (.agg (nums k l).toArray) (.int .i64 j)).run P w = .ok (.int k ((l.getD j 0 : Nat) : Int)) w := by
  have hagg : (isAgg E).run P w = .ok false w := by
    unfold isAgg
    rw [Sem.run_bind, run_underlying hE w]
    simp
  have hg := nums_get (k := k) (l := l) (i := j) (by omega)
  rw [List.getElem?_toArray] at hg
  simp only [List.getD_eq_getElem?_getD] at hg ⊢
  simp [Instr.index, asIntOf, Sem.run_bind, run_underlying ht w, hs, hj, Go.part, hagg, hg]
end Go.Proofs.Ytbiijcljpgannaa
