/-
  PiecesOrder, in plain Lean: what is held of a stream of which some bytes came.
-/
import Derived.Test.YtcpphhdbboiadaaPop
namespace Go.Proofs.Ytcpphhdbboiadaa
open Go Go.RowKit
set_option linter.unusedSimpArgs false
set_option linter.unusedVariables false

/-- The places from a on, so many, came too. -/
def addC (cm : Nat → Bool) (a q : Nat) : Nat → Bool := fun j => cm j || (decide (a ≤ j) && decide (j < a + q))
theorem addC_zero (cm : Nat → Bool) (a : Nat) : addC cm a 0 = cm := by
  funext j
  unfold addC
  by_cases h : a ≤ j
  · simp [show ¬ j < a by omega]
  · simp [h]
theorem addC_succ (cm : Nat → Bool) (a q : Nat) : addC cm a (q + 1) = fun j => if j = a + q then true else addC cm a q j := by
  funext j
  unfold addC
  by_cases h : j = a + q
  · subst h
    simp
  · simp only [h, if_false]
    congr 2
    by_cases h2 : j < a + q
    · simp [h2, show j < a + (q + 1) by omega]
    · simp [h2, show ¬ j < a + (q + 1) by omega]

structure Ord (b : List (BitVec 8)) (s : PS) (cm : Nat → Bool) (ended : Bool) : Prop where
  good : Good s
  room : s.room = 3000
  f : ∀ j, s.f j = if s.read ≤ j ∧ cm j = true then b[j]? else none
  done : ∀ j, j < s.read → cm j = true
  in' : ∀ j, cm j = true → j < b.length
  read : s.read ≤ b.length
  known : s.known = ended
  fin : ended = true → s.fin = b.length
  come : s.come ≤ b.length
theorem Ord.start (b : List (BitVec 8)) : Ord b ⟨3000, 0, 0, 0, false, fun _ => none⟩ (fun _ => false) false :=
  ⟨Good.new (by omega), rfl, fun j => by simp, fun j h => absurd h (by simp), fun j h => (by cases h), Nat.zero_le _, rfl, fun h => (by cases h), Nat.zero_le _⟩
theorem Ord.put_e {b : List (BitVec 8)} {s : PS} {cm : Nat → Bool} {ended : Bool} (h : Ord b s cm ended) (hb : b.length ≤ 3000) (a q : Nat) (ha : a + q ≤ b.length) (last : Bool) (hl : last = decide (a + q = b.length)) : putE s a q last = 0 := by
  unfold putE
  have hr := h.room
  rw [if_neg (by omega), if_neg (by
    rintro (⟨h1, h2⟩ | ⟨h1, h2⟩)
    · rw [h.known] at h1
      have h3 := h.fin h1
      rcases h2 with h2 | ⟨h5, h2⟩
      · omega
      · rw [hl, decide_eq_true_eq] at h5
        omega
    · rw [hl, decide_eq_true_eq] at h1
      have := h.come
      omega), if_neg (by omega)]
theorem Ord.put {b : List (BitVec 8)} {s : PS} {cm : Nat → Bool} {ended : Bool} (h : Ord b s cm ended) (hb : b.length ≤ 3000) (a q : Nat) (ha : a + q ≤ b.length) (last : Bool) (hl : last = decide (a + q = b.length)) (bs : List (BitVec 8)) (hbs : bs = (b.drop a).take q) :
    Ord b (putS s a bs last) (addC cm a q) (ended || last) := by
  have hlen : bs.length = q := by rw [hbs, List.length_take, List.length_drop]; omega
  have e : putE s a bs.length last = 0 := by rw [hlen]; exact h.put_e hb a q ha last hl
  have hg := h.good.put a bs last
  rw [put_eq e] at hg ⊢
  refine ⟨hg, h.room, fun j => ?_, fun j hj => ?_, fun j hj => ?_, h.read, by simp [h.known], fun he => ?_, ?_⟩
  · simp only [putH, h.f]
    by_cases h1 : s.read ≤ j
    · by_cases h2 : cm j = true
      · have h3 := h.in' j h2
        simp only [h1, h2, and_self, if_true, addC, Bool.true_or]
        rw [List.getElem?_eq_getElem h3]
        rfl
      · have h2' : cm j = false := by simpa using h2
        simp only [h1, h2', true_and, Bool.false_eq_true, if_false, Option.isSome_none, addC, Bool.false_or]
        by_cases h3 : a ≤ j
        · by_cases h4 : j < a + q
          · simp only [h3, h4, decide_true, Bool.and_self, if_true]
            rw [hbs, List.getElem?_take, if_pos (by omega), List.getElem?_drop]
            congr 1
            omega
          · simp only [h3, h4, decide_true, decide_false, Bool.and_false, if_true, Bool.false_eq_true, if_false]
            exact List.getElem?_eq_none (by omega)
        · simp only [h3, decide_false, Bool.false_and, if_false, Bool.false_eq_true]
    · simp [h1]
  · simp only [addC, h.done j hj, Bool.true_or]
  · unfold addC at hj
    rw [Bool.or_eq_true, Bool.and_eq_true, decide_eq_true_eq, decide_eq_true_eq] at hj
    rcases hj with hj | hj
    · exact h.in' j hj
    · omega
  · simp only
    by_cases hla : last = true
    · rw [if_pos hla, hlen]
      rw [hl, decide_eq_true_eq] at hla
      exact hla
    · rw [if_neg hla]
      have : last = false := by simpa using hla
      rw [this, Bool.or_false] at he
      exact h.fin he
  · simp only [hlen]
    have := h.come
    omega
theorem Ord.take {b : List (BitVec 8)} {s : PS} {cm : Nat → Bool} {ended : Bool} (h : Ord b s cm ended) (i : Nat) (hi : ∀ j, j < i → (s.f (s.read + j)).isSome = true) :
    Ord b (stepS s i) cm ended ∧ s.read + i ≤ b.length ∧ outL s.f s.read i = (b.drop s.read).take i := by
  have hc : ∀ j, j < i → cm (s.read + j) = true ∧ s.f (s.read + j) = b[s.read + j]? := by
    intro j hj
    have h1 := hi j hj
    rw [h.f] at h1 ⊢
    by_cases h2 : s.read ≤ s.read + j ∧ cm (s.read + j) = true
    · rw [if_pos h2]
      exact ⟨h2.2, rfl⟩
    · rw [if_neg h2] at h1
      cases h1
  have hrd : s.read + i ≤ b.length := by
    by_cases h0 : i = 0
    · subst h0
      exact h.read
    · have := h.in' _ (hc (i - 1) (by omega)).1
      omega
  refine ⟨⟨h.good.step i hi, h.room, fun j => ?_, fun j hj => ?_, h.in', hrd, h.known, h.fin, h.come⟩, hrd, ?_⟩
  · simp only [stepS, h.f]
    by_cases h1 : s.read ≤ j ∧ j < s.read + i
    · rw [if_pos h1, if_neg (by omega)]
    · rw [if_neg h1]
      by_cases h2 : s.read ≤ j
      · by_cases h3 : cm j = true
        · rw [if_pos ⟨h2, h3⟩, if_pos ⟨by omega, h3⟩]
        · rw [if_neg (fun h => h3 h.2), if_neg (fun h => h3 h.2)]
      · rw [if_neg (by omega), if_neg (by omega)]
  · have hj' : j < s.read + i := hj
    by_cases h1 : j < s.read
    · exact h.done j h1
    · have := (hc (j - s.read) (by omega)).1
      rwa [show s.read + (j - s.read) = j by omega] at this
  · apply List.ext_getElem?
    intro j
    unfold outL
    rw [List.getElem?_map, List.getElem?_take]
    by_cases hj : j < i
    · rw [List.getElem?_range hj, Option.map_some, if_pos hj, List.getElem?_drop, (hc j hj).2, List.getElem?_eq_getElem (by omega)]
      rfl
    · rw [List.getElem?_eq_none (by simpa using hj), if_neg hj]
      rfl
theorem take_more {α : Type} (b : List α) (r i : Nat) (h : r + i ≤ b.length) : b.take r ++ (b.drop r).take i = b.take (r + i) := by
  rw [List.take_add]
/-- Where the bytes that came end. -/
theorem Ord.ends {b : List (BitVec 8)} {s : PS} {cm : Nat → Bool} {ended : Bool} (h : Ord b s cm ended) (hb : b.length ≤ 3000) {i : Nat} (hi : ∀ j, j < i → (s.f (s.read + j)).isSome = true) (hend : i = 3000 ∨ s.f (s.read + i) = none) : (∀ j, j < s.read + i → cm j = true) ∧ (s.read + i = b.length ∨ cm (s.read + i) = false) := by
  obtain ⟨h1, h2, _⟩ := h.take i hi
  refine ⟨h1.done, ?_⟩
  by_cases h3 : s.read + i = b.length
  · exact .inl h3
  · refine .inr ?_
    rcases hend with hend | hend
    · omega
    · rw [h.f] at hend
      cases h4 : cm (s.read + i)
      · rfl
      · rw [if_pos ⟨by omega, h4⟩, List.getElem?_eq_getElem (by omega)] at hend
        cases hend

/-- Bools as cells. -/
def encC (n : Nat) (cm : Nat → Bool) : Array Value := ((List.range n).map fun j => Value.bool (cm j)).toArray
theorem encC_get {n j : Nat} {cm : Nat → Bool} (h : j < n) : (encC n cm)[j]? = some (.bool (cm j)) := by
  simp [encC, h]
theorem encC_set (n i : Nat) (cm : Nat → Bool) (b : Bool) : (encC n cm).setIfInBounds i (.bool b) = encC n (fun j => if j = i then b else cm j) := by
  unfold encC
  apply Array.ext
  · simp
  · intro j h1 h2
    simp only [List.setIfInBounds_toArray, List.getElem_toArray, List.getElem_set, List.getElem_map, List.getElem_range]
    by_cases h : i = j
    · subst h; simp
    · simp [h, Ne.symm h]
theorem encC_false (n : Nat) : encC n (fun _ => false) = Array.replicate n (.bool false) := by
  unfold encC
  apply Array.ext
  · simp
  · intro j h1 h2
    simp

structure PtD where
  a : Nat
  n : Nat
  t : Nat
structure PtAt (w : World) (g off : Nat) (o : PtD) : Prop where
  c0 : w.cell? ⟨g, off, none⟩ = some (.int .u16 (o.a : Int))
  c1 : w.cell? ⟨g, off + 1, none⟩ = some (.int .u16 (o.n : Int))
  c2 : w.cell? ⟨g, off + 2, none⟩ = some (.int .u8 (o.t : Int))
  la : o.a < 65536
  ln : o.n < 65536
  lt : o.t < 256
def PtsAt (w : World) (x : Value) (l : List PtD) : Prop := ∃ ad cap, x = .slice ad l.length cap ∧ ∀ j o, l[j]? = some o → ∃ g off, ad = some ⟨g, off, none⟩ ∧ g < w.heap.size ∧ PtAt w g (off + j * 3) o
theorem PtAt.mod {S : Nat → Prop} {w w' : World} {g off : Nat} {o : PtD} (h : PtAt w g off o) (m : Mod S w w') (hg : ¬ S g) : PtAt w' g off o :=
  ⟨cell_mod m h.c0 hg, cell_mod m h.c1 hg, cell_mod m h.c2 hg, h.la, h.ln, h.lt⟩
open Go.WideShapes Go.Deep in
theorem open_pts {H : Type} {enc : TypeId × Value → H} {w : World} {base : Nat} {spare : Nat → Bool} {held : Bool} {v : Value} {d : DataW H} {ps : List MemPlace} {r : Reach} {b2 : Nat} (hv : Value.okWide Try.prog w r b2 38 v)
    (h : DataW.Trod enc Try.prog w base spare held 38 v d ps) : ∃ l, PtsAt w v l ∧ l.length < 9223372036854775808 := by
  obtain ⟨a1, len, cap, rfl⟩ := okWide_slice Try.underlying38 hv
  obtain ⟨fuel, hf⟩ := h
  rcases open_slice_fields Try.underlying38 Try.underlying36 (by kernel_rfl) (by kernel_rfl) hf with ⟨hcs, hx⟩ | ⟨a, len', cap', m, D, Pl, hcs, _, hl, hm, hmm, hx, hi⟩
  · simp [Value.cells] at hcs
    obtain ⟨rfl, rfl, rfl⟩ := hcs
    exact ⟨[], ⟨none, 0, rfl, fun j o h => by simp at h⟩, by simp⟩
  · simp [Value.cells] at hcs
    obtain ⟨rfl, rfl, rfl⟩ := hcs
    have hle : len ≤ m := by rw [hmm]; split <;> omega
    have hml : maxLen = 9223372036854775807 := rfl
    obtain ⟨g, off, spot⟩ := a
    have hsp : 0 < len → spot = none := by
      intro h0
      obtain ⟨ys, n, _, _, _, hfl⟩ := hi 0 (by omega)
      obtain ⟨v0, y0, hc0, _, _⟩ := hfl 0 _ rfl
      simpa [Addr.add] using World.cell?_spot hc0
    obtain ⟨l, h1, h2⟩ := list_choose (Q := fun i o => (Addr.mk g off spot).spot = none ∧ PtAt w g (off + i * 3) o) len (fun i hil => by
      obtain ⟨ys, n, hD, _, hyl, hfl⟩ := hi i (by omega)
      obtain ⟨v0, y0, hc0, hy0, t0⟩ := hfl 0 _ rfl
      obtain ⟨v1, y1, hc1, hy1, t1⟩ := hfl 1 _ rfl
      obtain ⟨v2, y2, hc2, hy2, t2⟩ := hfl 2 _ rfl
      have hspot := hsp (by omega)
      subst hspot
      obtain ⟨n0, e0, _, w0⟩ := DataW.trod_int Try.underlying23 t0
      obtain ⟨n1, e1, _, w1⟩ := DataW.trod_int Try.underlying23 t1
      obtain ⟨n2, e2, _, w2⟩ := DataW.trod_int Try.underlying5 t2
      simp only [List.cons.injEq, and_true] at e0 e1 e2
      subst e0 e1 e2
      have b0 := bounds_u16 w0
      have b1 := bounds_u16 w1
      have b2 := bounds_u8 w2
      obtain ⟨a, rfl⟩ : ∃ a : Nat, n0 = (a : Int) := ⟨n0.toNat, by omega⟩
      obtain ⟨n', rfl⟩ : ∃ a : Nat, n1 = (a : Int) := ⟨n1.toNat, by omega⟩
      obtain ⟨t, rfl⟩ : ∃ a : Nat, n2 = (a : Int) := ⟨n2.toNat, by omega⟩
      refine ⟨⟨a, n', t⟩, rfl, ?_⟩
      rw [Addr.add_lit] at hc0 hc1 hc2
      exact ⟨hc0, hc1, hc2, by show a < 65536; omega, by show n' < 65536; omega, by show t < 256; omega⟩)
    refine ⟨l, ⟨some ⟨g, off, spot⟩, cap, by rw [h1], fun j o hj => ?_⟩, by omega⟩
    obtain ⟨h3, h4⟩ := h2 j o hj
    simp only at h3
    subst h3
    exact ⟨g, off, rfl, cell_lt h4.c0, h4⟩
end Go.Proofs.Ytcpphhdbboiadaa
