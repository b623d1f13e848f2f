/-
  Rows of bytes of one's own that may be clipped.
-/
import Derived.Test.YtbiijcljpgannaaAs
namespace Go.Proofs.Ytbiijcljpgannaa
open Go Go.RowKit Go.Lib
set_option linter.unusedSimpArgs false
set_option linter.unusedVariables false

/-- A row of bytes of one's own, or such a one clipped. -/
structure ClipR (w : World) (base : Nat) (v : Value) (n : Nat) (xs : List Value) : Prop where
  own : ∃ v', w.ownsRow base 5 1 v' n xs ∧ (v = v' ∨ ∃ a c, v' = .slice a n c ∧ v = .slice a n n)
theorem ClipR.of {w : World} {base n : Nat} {v : Value} {xs : List Value} (h : w.ownsRow base 5 1 v n xs) : ClipR w base v n xs := ⟨v, h, .inl rfl⟩
theorem ClipR.clip {w : World} {base n c : Nat} {a : Option Addr} {xs : List Value} (h : w.ownsRow base 5 1 (.slice a n c) n xs) : ClipR w base (.slice a n n) n xs := ⟨_, h, .inr ⟨a, c, rfl, rfl⟩⟩
theorem ClipR.len {w : World} {base n : Nat} {v : Value} {xs : List Value} (h : ClipR w base v n xs) : xs.length = n * 1 := by
  obtain ⟨v', h', _⟩ := h.own
  exact h'.1
theorem ClipR.same {w w' : World} {base base' n : Nat} {v : Value} {xs xs' : List Value} (h : ClipR w base v n xs) (f : ∀ v', v'.ownBlock = v.ownBlock → w.ownsRow base 5 1 v' n xs → w'.ownsRow base' 5 1 v' n xs') : ClipR w' base' v n xs' := by
  obtain ⟨v', h', e⟩ := h.own
  refine ⟨v', f v' ?_ h', e⟩
  rcases e with rfl | ⟨a, c, rfl, rfl⟩
  · rfl
  · cases a <;> rfl
theorem ClipR.block {w : World} {base n : Nat} {v : Value} {xs : List Value} (h : ClipR w base v n xs) : ∃ v', v'.ownBlock = v.ownBlock ∧ w.ownsRow base 5 1 v' n xs := by
  obtain ⟨v', h', e⟩ := h.own
  refine ⟨v', ?_, h'⟩
  rcases e with rfl | ⟨a, c, rfl, rfl⟩
  · rfl
  · cases a <;> rfl
theorem clip_slice {w : World} {base n : Nat} {v : Value} {xs : List Value} (h : ClipR w base v n xs) : ∃ a c, v = .slice a n c := by
  obtain ⟨v', h', e⟩ := h.own
  rcases e with rfl | ⟨a, c, rfl, rfl⟩
  · rcases h'.2 with ⟨h1, h2⟩ | ⟨g, cap, cur, h1, _⟩
    · exact ⟨_, _, by rw [h1, h2]⟩
    · exact ⟨_, _, h1⟩
  · exact ⟨_, _, rfl⟩
theorem clip_in {w : World} {base n k : Nat} {v : Value} {xs : List Value} (h : ClipR w base v n xs) (hk : v.ownBlock = some k) : base ≤ k ∧ k < w.heap.size := by
  obtain ⟨v', e, h'⟩ := h.block
  exact ownsRow_in h' (by rw [e]; exact hk)
theorem ClipR.lt {w : World} {base n : Nat} {v : Value} {xs : List Value} (h : ClipR w base v n xs) : ∀ k, v.ownBlock = some k → base ≤ k ∧ k < w.heap.size := fun _ hk => clip_in h hk
theorem clip_block {S : Nat → Prop} {w w' : World} {base n : Nat} {v : Value} {xs : List Value} (h : ClipR w base v n xs) (m : Mod S w w') (hS : ∀ k, v.ownBlock = some k → ¬ S k) : ClipR w' base v n xs :=
  h.same fun v' e h' => ownsRow_block h' m (fun k hk => hS k (by rw [← e]; exact hk))
theorem clip_keep0 {w w' : World} {base n : Nat} {v : Value} {xs : List Value} (h : ClipR w base v n xs) (m : Mod (fun _ => False) w w') : ClipR w' base v n xs := clip_block h m (fun _ _ h => h)
theorem clip_base0 {w : World} {base base' n : Nat} {v : Value} {xs : List Value} (h : ClipR w base v n xs) (hb : base' ≤ base) : ClipR w base' v n xs := h.same fun v' _ h' => ownsRow_base0 h' hb
theorem clip_byteAt {w : World} {base n : Nat} {v : Value} {bs : List (BitVec 8)} (h : ClipR w base v n (bytesV bs)) : ByteAt w v bs := by
  have hl := h.len
  obtain ⟨v', h', e⟩ := h.own
  have hb := byteAt_of_own h'
  rcases e with rfl | ⟨a, c, rfl, rfl⟩
  · exact hb
  · rw [bytesV_length, Nat.mul_one] at hl
    rcases hb with ⟨ad, cap, e, e2⟩ | ⟨g, off, cap, e, hc, h2⟩
    · injection e with e1 e3 e4
      subst e1 e2
      exact .inl ⟨_, _, by rw [e3], rfl⟩
    · injection e with e1 e3 e4
      subst e1
      refine .inr ⟨g, off, n, by rw [hl], by omega, h2⟩
theorem clip_some {w : World} {base n : Nat} {v : Value} {xs : List Value} (h : ClipR w base v n xs) (hn : 0 < n) : ∃ g c, v = .slice (some ⟨g, 0, none⟩) n c := by
  obtain ⟨v', h', e⟩ := h.own
  rcases h'.2 with ⟨h1, h2⟩ | ⟨g, cap, cur, h1, _⟩
  · omega
  · rcases e with rfl | ⟨a, c, h3, rfl⟩
    · exact ⟨_, _, h1⟩
    · rw [h1] at h3
      injection h3 with h3
      exact ⟨g, n, by rw [h3]⟩
theorem ClipR.wide {w : World} {base n g cap : Nat} {xs : List Value} (h : ClipR w base (.slice (some ⟨g, 0, none⟩) n cap) n xs) : ∃ c, w.ownsRow base 5 1 (.slice (some ⟨g, 0, none⟩) n c) n xs ∧ (cap = c ∨ cap = n) := by
  obtain ⟨v', h', e⟩ := h.own
  rcases e with rfl | ⟨a, c, rfl, e⟩
  · exact ⟨cap, h', .inl rfl⟩
  · injection e with e1 e2 e3
    subst e1
    exact ⟨c, h', .inr e3⟩
theorem ClipR.cellAt {w : World} {base n g cap : Nat} {xs : List Value} (h : ClipR w base (.slice (some ⟨g, 0, none⟩) n cap) n xs) (j : Nat) (hj : j < n * 1) : w.cell? ⟨g, j, none⟩ = xs[j]? := by
  obtain ⟨c, h', _⟩ := h.wide
  exact h'.cellAt j hj
theorem ClipR.frozenAt {w : World} {base n g cap : Nat} {xs : List Value} (h : ClipR w base (.slice (some ⟨g, 0, none⟩) n cap) n xs) (j : Nat) : w.frozen? ⟨g, j, none⟩ = false := by
  obtain ⟨c, h', _⟩ := h.wide
  exact h'.frozenAt j
theorem ClipR.stored {w : World} {base n g cap : Nat} {xs : List Value} (h : ClipR w base (.slice (some ⟨g, 0, none⟩) n cap) n xs) (j : Nat) (u : Value) :
    ClipR (w.setCell ⟨g, j, none⟩ u) base (.slice (some ⟨g, 0, none⟩) n cap) n (xs.set j u) ∧ w.grownBy (w.setCell ⟨g, j, none⟩ u) (some g) := by
  obtain ⟨c, h', e⟩ := h.wide
  obtain ⟨h1, h2⟩ := h'.stored j u
  refine ⟨⟨_, h1, ?_⟩, h2⟩
  rcases e with rfl | rfl
  · exact .inl rfl
  · exact .inr ⟨_, _, rfl, rfl⟩
/-- One byte behind a row of one's own, clipped or not; another row of one's own that begins it stays. -/
theorem clip_append_one {w : World} {base n ga : Nat} {v : Value} {bs : List (BitVec 8)} {y : BitVec 8} (hown : ClipR w base v n (bytesV bs)) (hx : w.heap[ga]? = some (.cells (encB [y]) 5 (0,0))) (hfit : n + 1 ≤ 140737488355328) (hbase : base ≤ w.heap.size) (ty : TypeId) :
    ∃ v' w', (Builtin.append_ #[22, 22] ty #[v, .slice (some ⟨ga, 0, none⟩) 1 1]).run Try.prog w = .ok v' w' ∧ ClipR w' base v' (n + 1) (bytesV (bs ++ [y])) ∧ Mod (fun k => v.ownBlock = some k) w w' ∧ (∀ k, v'.ownBlock = some k → v.ownBlock = some k ∨ w.heap.size ≤ k) ∧
      ∀ (u : Value) (m : Nat), m ≤ n → ClipR w base u m (bytesV (bs.take m)) → ClipR w' base u m (bytesV (bs.take m)) := by
  have plain : ∀ v0, w.ownsRow base 5 1 v0 n (bytesV bs) → v = v0 → ∃ v' w', (Builtin.append_ #[22, 22] ty #[v, .slice (some ⟨ga, 0, none⟩) 1 1]).run Try.prog w = .ok v' w' ∧ ClipR w' base v' (n + 1) (bytesV (bs ++ [y])) ∧ Mod (fun k => v.ownBlock = some k) w w' ∧ (∀ k, v'.ownBlock = some k → v.ownBlock = some k ∨ w.heap.size ≤ k) ∧
      ∀ (u : Value) (m : Nat), m ≤ n → ClipR w base u m (bytesV (bs.take m)) → ClipR w' base u m (bytesV (bs.take m)) := by
    rintro v0 h0 rfl
    obtain ⟨v', w', h1, h2, h3, h4, h5⟩ := run_append_one h0 hx hfit hbase ty
    exact ⟨v', w', h1, .of h2, h3, h4, fun u m hm hu => hu.same fun u' _ h' => h5 u' m hm h'⟩
  obtain ⟨v0, h0, h | ⟨a, cap, e1, e2⟩⟩ := hown.own
  · exact plain v0 h0 h
  · subst e1 e2
    rcases h0.2 with ⟨e, e4⟩ | ⟨g, cap', cur, e, hbg, hg, hnc, hcm, hcs, htake⟩
    · injection e with e1 e2 e3
      exact plain _ h0 (by rw [e1, e2, e3])
    · injection e with e1 e2 e3
      subst e1 e3
      obtain ⟨i0, hi, hz0, hz1, hz2⟩ := info_parts infoU8
      have holds : ∀ j u, (bytesV bs)[j]? = some u → w.cell? ((⟨g, 0, none⟩ : Addr).add j) = some u := h0.cells (g := g) rfl
      have hlen : (bytesV bs).length = n * i0.size := by rw [hz1]; exact h0.1
      have hr := run_append_grow (P := Try.prog) w 22 ty 5 i0 (.int .u8 0) Try.underlying22 hi hz0 ⟨g, 0, none⟩ n n (bytesV bs) hlen holds ⟨ga, 0, none⟩ 1 1 (bytesV [y]) (by rw [hz1]; rfl) (cells_byteAt (ByteAt.row hx)) (by omega) (by omega) (growslice_fits (by omega) (by rw [hz2]; omega))
      have ho := own_newRow w base n 1 1 (grownCap w (n + 1) n 5) 5 (bytesV bs) (bytesV [y]) (Value.int .u8 0).cells rfl h0.1 rfl (grownCap_ge w (n + 1) n 5) (grownCap_le_maxLen w (n + 1) n 5 (by unfold maxLen; omega)) hbase
      rw [← bytesV_append] at ho
      have hm : Mod (fun _ => False) w (w.drew.alloc (.cells ((bytesV bs).toArray ++ (bytesV [y]).toArray ++ Builtin.zeroCells (Value.int .u8 0).cells (grownCap w (n + 1) n 5 - (n + 1))) 5)) := ((Mod.refl _ _).drew).alloc _
      exact ⟨_, _, hr, .of ho, hm.mono (fun _ _ h => h.elim), fun k hk => .inr (by have h9 : w.heap.size = k := by { injection hk }; omega), fun u m _ hu => clip_keep0 hu hm⟩
end Go.Proofs.Ytbiijcljpgannaa
