/-
  A Book of lists with the set of their blocks: one call keeps one more list; a twin is a row of one's own.
-/
import Derived.Test.YtbiijcljpgannaaGreatDoorMF
import Derived.Test.YtbiijcljpgannaaGreatDoorTw
namespace Go.Proofs.YtbiijcljpgannaaGreatDoor
set_option maxRecDepth 100000
open Go Go.RowKit Go.Lib
set_option linter.unusedSimpArgs false
set_option linter.unusedVariables false

theorem zeroBook (w : World) : (zeroValue 46).run Tryz.prog w = .ok (.agg (bookC 0 (.slice none 0 0)).toArray) w := by kernel_rfl
theorem alloc_book (w : World) (ev : Operand → Value) (o : Oper) (ho : o.op = .alloc 46) : (execOp ev o).run Tryz.prog w = .ok (.value (.pointer (some ⟨w.heap.size, 0, none⟩))) (w.alloc (.cells (bookC 0 (.slice none 0 0)).toArray 46)) := by
  unfold execOp
  simp [ho, Instr.alloc, Sem.run_bind, zeroBook, newVar, newRow, Value.cells]
  rfl
theorem build_book (w : World) (ev : Operand → Value) (o : Oper) (ho : o.op = .build 46 #[]) : (execOp ev o).run Tryz.prog w = .ok (.value (.agg (bookC 0 (.slice none 0 0)).toArray)) w := by
  have h : (Instr.build 46 #[]).run Tryz.prog w = .ok (.agg (bookC 0 (.slice none 0 0)).toArray) w := by kernel_rfl
  unfold execOp
  simp [ho, h]
theorem infoBook : (Tryz.prog.info? 46).map (·.size) = some 13 := by kernel_rfl
theorem book_store {w : World} {B : Nat} (h : bookAt w B 0 (.slice none 0 0)) :
    ∃ w', (storeVar 46 ⟨B, 0, none⟩ (.agg (bookC 0 (.slice none 0 0)).toArray)).run Tryz.prog w = .ok () w' ∧ Mod (fun k => k = B) w w' ∧ bookAt w' B 0 (.slice none 0 0) := by
  obtain ⟨w', h1, h4, h5⟩ := store_mid (P := Tryz.prog) w B 0 46 46 [] (bookC 0 (.slice none 0 0)) [] (bookC 0 (.slice none 0 0)) (by rw [h]; simp) rfl rfl infoBook (by intro v hv; simp [bookC] at hv; rcases hv with rfl | rfl <;> rfl)
  exact ⟨w', h1, h4, by unfold bookAt; rw [h5]; simp⟩
theorem BookOk.keep0 {w w' : World} {base B N : Nat} {vb : Value} {L : Nat → Value} {xs : Nat → List (BitVec 8)} (h : BookOk w base B N vb L xs) (m : Mod (fun _ => False) w w') : BookOk w' base B N vb L xs :=
  ⟨m.heap h.at_ (fun h => h), ownsRow_keep0 h.own m, fun i hi => clip_keep0 (h.row i hi) m, h.hB, h.apart, h.offB, h.offv, h.vB, h.few, h.short⟩
/-- A Book of N lists, whose blocks lie in T; its own row lies behind it. -/
structure BookT (w : World) (base B N : Nat) (T : Nat → Prop) (vb : Value) : Prop where
  ok : ∃ L xs, BookOk w base B N vb L xs ∧ ∀ i, i < N → ∀ k, (L i).ownBlock = some k → T k
  up : ∀ k, vb.ownBlock = some k → B < k
  lt : B < w.heap.size
theorem BookT.mono {w : World} {base B N : Nat} {T T' : Nat → Prop} {vb : Value} (h : BookT w base B N T vb) (hT : ∀ k, T k → T' k) : BookT w base B N T' vb := by
  obtain ⟨L, xs, h1, h2⟩ := h.ok
  exact ⟨⟨L, xs, h1, fun i hi k hk => hT k (h2 i hi k hk)⟩, h.up, h.lt⟩
theorem BookT.keep0 {w w' : World} {base B N : Nat} {T : Nat → Prop} {vb : Value} (h : BookT w base B N T vb) (m : Mod (fun _ => False) w w') : BookT w' base B N T vb := by
  obtain ⟨L, xs, h1, h2⟩ := h.ok
  exact ⟨⟨L, xs, h1.keep0 m, h2⟩, h.up, Nat.lt_of_lt_of_le h.lt m.size⟩
theorem BookT.make {w : World} {base : Nat} (hb : base ≤ w.heap.size) : BookT (w.alloc (.cells (bookC 0 (.slice none 0 0)).toArray 46)) base w.heap.size 0 (fun _ => False) (.slice none 0 0) := by
  have x : bookAt (w.alloc (.cells (bookC 0 (.slice none 0 0)).toArray 46)) w.heap.size 0 (.slice none 0 0) := hp_new _ _ _ rfl
  exact ⟨⟨fun _ => .slice none 0 0, fun _ => [], BookOk.empty x hb _ _, fun i hi => absurd hi (Nat.not_lt_zero i)⟩, (fun k h => by cases h), lt_of_heap x⟩
theorem BookT.made {w : World} {base : Nat} (hb : base ≤ w.heap.size) : ∃ w', (storeVar 46 ⟨w.heap.size, 0, none⟩ (.agg (bookC 0 (.slice none 0 0)).toArray)).run Tryz.prog (w.alloc (.cells (bookC 0 (.slice none 0 0)).toArray 46)) = .ok () w' ∧ Mod (fun _ => False) w w' ∧ BookT w' base w.heap.size 0 (fun _ => False) (.slice none 0 0) := by
  have x : bookAt (w.alloc (.cells (bookC 0 (.slice none 0 0)).toArray 46)) w.heap.size 0 (.slice none 0 0) := hp_new _ _ _ rfl
  obtain ⟨w', h1, m, x'⟩ := book_store x
  exact ⟨w', h1, ((Mod.refl _ _).alloc _).trans' m (fun k hk h => by omega), ⟨fun _ => .slice none 0 0, fun _ => [], BookOk.empty x' hb _ _, fun i hi => absurd hi (Nat.not_lt_zero i)⟩, (fun k h => by cases h), lt_of_heap x'⟩
theorem keepF (w : World) (base B N : Nat) (T : Nat → Prop) (vb : Value) (h : BookT w base B N T vb) (v : Value) (bs : List (BitVec 8)) (hv : ClipR w base v bs.length (bytesV bs)) (hT : ∀ k, v.ownBlock = some k → ¬ T k ∧ k < B) (hN : N + 1 ≤ 1000) (hbl : bs.length ≤ 140737488351232) :
    Calls Tryz.prog 13 #[.pointer (some ⟨B, 0, none⟩), v] w fun e w' => e = .returned (.tuple #[]) ∧ Mod (fun k => k = B ∨ vb.ownBlock = some k) w w' ∧ ∃ vb', BookT w' base B (N + 1) (fun k => T k ∨ v.ownBlock = some k) vb' ∧ ∀ k, vb'.ownBlock = some k → vb.ownBlock = some k ∨ w.heap.size ≤ k := by
  obtain ⟨L, xs, h1, h2⟩ := h.ok
  have hup := h.up
  have hlt := h.lt
  refine (bytes_keep w base B N vb L xs h1 v bs hv (fun i hi k h3 h4 => (hT k h4).1 (h2 i hi k h3)) (fun h3 => by have := (hT B h3).2; omega) (fun k h3 h4 => by have := (hT k h3).2; have := hup k h4; omega) hN hbl).mono ?_
  rintro e w' ⟨he, m, vb', ok', h5⟩
  refine ⟨he, m, vb', ⟨⟨_, _, ok', fun i hi k hk => ?_⟩, fun k hk => ?_, Nat.lt_of_lt_of_le hlt m.size⟩, h5⟩
  · unfold addL at hk
    by_cases h7 : i < N
    · rw [if_pos h7] at hk
      exact .inl (h2 i h7 k hk)
    · rw [if_neg h7] at hk
      exact .inr hk
  · rcases h5 k hk with h6 | h6
    · exact hup k h6
    · omega
theorem keepT (w : World) (base B N : Nat) (T : Nat → Prop) (vb : Value) (h : BookT w base B N T vb) (v : Value) (bs : List (BitVec 8)) (hv : ClipR w base v bs.length (bytesV bs)) (hT : ∀ k, v.ownBlock = some k → ¬ T k ∧ k < B) (hN : N + 1 ≤ 1000) (hbl : bs.length ≤ 140737488351232) :
    Calls Tryz.prog 13 #[.pointer (some ⟨B, 0, none⟩), v] w fun e w' => e = .returned (.tuple #[]) ∧ Mod (fun k => B ≤ k) w w' ∧ ∃ vb', BookT w' base B (N + 1) (fun k => T k ∨ v.ownBlock = some k) vb' := by
  have hup := h.up
  refine (keepF w base B N T vb h v bs hv hT hN hbl).mono ?_
  rintro e w' ⟨he, m, vb', h1, h2⟩
  exact ⟨he, m.mono (fun k _ h6 => by
    rcases h6 with h6 | h6
    · omega
    · have := hup k h6; omega), vb', h1⟩
theorem BookT.vlt {w : World} {base B N : Nat} {T : Nat → Prop} {vb : Value} (h : BookT w base B N T vb) : ∀ k, vb.ownBlock = some k → k < w.heap.size := by
  obtain ⟨L, xs, h1, _⟩ := h.ok
  exact fun k hk => (ownsRow_in h1.own hk).2
theorem apartT (w : World) (base B N : Nat) (T : Nat → Prop) (vb : Value) (h : BookT w base B N T vb) :
    Calls Tryz.prog 14 #[.pointer (some ⟨B, 0, none⟩)] w fun e w' => e = .returned (.bool true) ∧ Mod (fun k => base ≤ k) w w' := by
  obtain ⟨L, xs, h1, _⟩ := h.ok
  exact apart_any w base B N vb L xs h1
theorem clip_below {w w' : World} {base B n : Nat} {v : Value} {xs : List Value} (h : ClipR w base v n xs) (m : Mod (fun k => B ≤ k) w w') (hB : ∀ k, v.ownBlock = some k → k < B) : ClipR w' base v n xs :=
  clip_block h m (fun k hk h2 => by have := hB k hk; omega)
theorem twin_clip {w : World} {base : Nat} {v : Value} {b : List (BitVec 8)} (h : TwinAt w v b) (hb : ∀ k, v.ownBlock = some k → base ≤ k) (hl2 : b.length < 140737488355328) : ClipR w base v b.length (bytesV b) := by
  obtain ⟨g, rfl, x⟩ := h
  have hg := hb g rfl
  have hl : (bytesV b).length = b.length := bytesV_length b
  refine .of ⟨by rw [hl, Nat.mul_one], .inr ⟨g, b.length + 1, (encB (b ++ [77])), rfl, hg, x, by omega, by unfold maxLen; omega, by simp [encB], ?_⟩⟩
  rw [Nat.mul_one]
  simp [encB, bytesV, List.take_append_of_le_length]
end Go.Proofs.YtbiijcljpgannaaGreatDoor
