/-
  pieces: what always holds of them.
-/
import Derived.Test.YtcpphhdbboiadaaPtk
namespace Go.Proofs.Ytcpphhdbboiadaa
open Go Go.RowKit
set_option linter.unusedSimpArgs false
set_option linter.unusedVariables false

theorem KeysOf.le {f : Held} {c a r : Nat} (h : KeysOf f c) (hk : ∀ k, (f k).isSome = true → a ≤ k ∧ k < a + r) : c ≤ r := by
  obtain ⟨L, h1, h2, h3⟩ := h
  rw [← h2]
  have h4 : L ⊆ (List.range r).map (a + ·) := by
    intro k hm
    obtain ⟨h5, h6⟩ := hk k ((h3 k).1 hm)
    rw [List.mem_map]
    exact ⟨k - a, List.mem_range.2 (by omega), by omega⟩
  have := h1.length_le_of_subset h4
  simpa using this

/-- What always holds of pieces. -/
structure Good (s : PS) : Prop where
  room : s.room ≤ 1048576
  read : s.read ≤ 4611686018427387903
  fin : s.fin ≤ 4611686018427387903
  keys : ∀ k, (s.f k).isSome = true → s.read ≤ k ∧ k < s.read + s.room ∧ k < 4611686018427387903
theorem Good.new {room : Nat} (h : room ≤ 1048576) : Good ⟨room, 0, 0, 0, false, fun _ => none⟩ := ⟨h, Nat.zero_le _, Nat.zero_le _, fun k hk => by simp at hk⟩
theorem Good.low {s : PS} (h : Good s) : s.read < 4611686018427387904 ∧ ∀ k, (s.f k).isSome = true → k < 4611686018427387904 :=
  ⟨by have := h.read; omega, fun k hk => by have := (h.keys k hk).2.2; omega⟩
theorem putH_some {f : Held} {read a : Nat} {bs : List (BitVec 8)} {k : Nat} (h : (putH f read a bs k).isSome = true) : (f k).isSome = true ∨ (read ≤ k ∧ a ≤ k ∧ k < a + bs.length) := by
  unfold putH at h
  split at h
  · rename_i h1
    exact .inl h1
  · split at h
    · rename_i h2
      have := List.getElem?_eq_some_iff.1 (Option.isSome_iff_exists.1 h).choose_spec
      obtain ⟨h3, _⟩ := this
      exact .inr ⟨h2.1, h2.2, by omega⟩
    · simp at h
theorem Good.put {s : PS} (h : Good s) (a : Nat) (bs : List (BitVec 8)) (last : Bool) : Good (putS s a bs last) := by
  unfold putS
  by_cases h0 : putE s a bs.length last = 0
  · rw [if_pos h0]
    unfold putE at h0
    split at h0
    · cases h0
    · rename_i h1
      split at h0
      · cases h0
      · rename_i h2
        split at h0
        · cases h0
        · rename_i h3
          refine ⟨h.room, h.read, ?_, ?_⟩
          · simp only
            split
            · omega
            · exact h.fin
          · intro k hk
            simp only at hk ⊢
            rcases putH_some hk with h4 | h4
            · exact h.keys k h4
            · omega
  · rw [if_neg h0]
    exact h
theorem Good.step {s : PS} (h : Good s) (i : Nat) (hi : ∀ j, j < i → (s.f (s.read + j)).isSome = true) : Good (stepS s i) := by
  have hread : s.read + i ≤ 4611686018427387903 := by
    by_cases h0 : i = 0
    · subst h0
      exact h.read
    · have := (h.keys _ (hi (i - 1) (by omega))).2.2
      omega
  refine ⟨h.room, hread, h.fin, ?_⟩
  intro k hk
  unfold stepS at hk ⊢
  simp only at hk ⊢
  split at hk
  · simp at hk
  · rename_i h1
    have := h.keys k hk
    omega
theorem Good.count {s : PS} {c : Nat} (h : Good s) (hk : KeysOf s.f c) : c ≤ s.room := hk.le (a := s.read) (fun k hs => ⟨(h.keys k hs).1, (h.keys k hs).2.1⟩)
theorem IsP.count {w : World} {p M c : Nat} {s : PS} (hp : IsP w p M s c) (h : Good s) : c ≤ s.room := h.count hp.map.keys

/-- Put and Take of pieces of which all that holds. -/
theorem put_good (p M c : Nat) (s : PS) (a : Nat) (v : Value) (bs : List (BitVec 8)) (last : Bool) (w : World) (h : IsP w p M s c) (g : Good s) (hb : ByteAt w v bs) (hpb : ∀ ad n cap, v = .slice (some ad) n cap → n ≠ 0 → ad.block ≠ p ∧ ad.block ≠ M)
    (hl : bs.length < 4611686018427387904 - 1048577) (ha : a < two64) :
    Calls Try.prog 9 #[.pointer (some ⟨p, 0, none⟩), .int .u64 (a : Int), v, .bool last] w (PutEnd p M c s a bs last w) :=
  put_any p M c s a v bs last w h hb hpb (by have := h.count g; have := g.room; omega) ha (by have := g.room; have := g.read; omega)
theorem take_good (p M c n : Nat) (s : PS) (w : World) (h : IsP w p M s c) (g : Good s) (hn : n < 9223372036854775808) :
    Calls Try.prog 10 #[.pointer (some ⟨p, 0, none⟩), .int .i64 (n : Int)] w (TakeEnd p M c s n w) :=
  take_any p M c n s w h hn (by have := h.count g; have := g.room; omega) (by have := g.fin; omega) g.low
/-- How many bytes are taken. -/
theorem run_uniq {f : Held} {r n i k : Nat} (hi : i ≤ n) (h1 : ∀ j, j < i → (f (r + j)).isSome = true) (h2 : i = n ∨ f (r + i) = none) (hk : k ≤ n) (h3 : ∀ j, j < k → (f (r + j)).isSome = true) (h4 : k = n ∨ f (r + k) = none) : i = k := by
  rcases Nat.lt_trichotomy i k with h | h | h
  · rcases h2 with h2 | h2
    · omega
    · have := h3 i h
      rw [h2] at this
      cases this
  · exact h
  · rcases h4 with h4 | h4
    · omega
    · have := h1 k h
      rw [h4] at this
      cases this
theorem apart_of_lt {v : Value} {w : World} {bs : List (BitVec 8)} {p M : Nat} (hb : ByteAt w v bs) (hp : w.heap.size ≤ p) (hM : w.heap.size ≤ M) : ∀ ad n cap, v = .slice (some ad) n cap → n ≠ 0 → ad.block ≠ p ∧ ad.block ≠ M := by
  rintro ad n cap rfl hn
  rcases hb with ⟨ad', cap', h1, rfl⟩ | ⟨g, off, cap', h1, h2, h3⟩
  · injection h1 with h1 h4 h5
    exact absurd h4 hn
  · injection h1 with h1 h4 h5
    injection h1 with h1
    have h6 := h3 0 (by omega)
    have hlt : g < w.heap.size := by
      by_cases hlt : g < w.heap.size
      · exact hlt
      · rw [World.cell?, Array.getElem?_eq_none (by simpa using hlt)] at h6
        cases h6
    subst h1
    exact ⟨by simp only; omega, by simp only; omega⟩
theorem byteAt_lit {w w2 : World} {t : TypeId} {fr : Nat × Nat} (bs : List (BitVec 8)) (h : w2.heap[w.heap.size]? = some (.cells (encB bs) t fr)) : ByteAt w2 (.slice (some ⟨w.heap.size, 0, none⟩) bs.length bs.length) bs :=
  .inr ⟨w.heap.size, 0, bs.length, rfl, Nat.le_refl _, fun j hj => by rw [cell_of_row _ _ _ _ _ _ h, Nat.zero_add, encB_get hj]⟩
end Go.Proofs.Ytcpphhdbboiadaa
