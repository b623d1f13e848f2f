/-
  A map of bytes at places, as it lies in memory.
-/
import Derived.Maps.Ext
import Derived.Maps.OwnSet
import Derived.Test.YtcpphhdbboiadaaBy
namespace Go.Proofs.Ytcpphhdbboiadaa
open Go Go.RowKit Go.Maps Go.WideShapes
set_option linter.unusedSimpArgs false
set_option linter.unusedVariables false

def two64 : Nat := 18446744073709551616
/-- What is held: a byte at a place. -/
abbrev Held := Nat → Option (BitVec 8)
def valH : Option (BitVec 8) → Int
  | some x => (x.toNat : Int)
  | none => 0
def KeysOf (f : Held) (c : Nat) : Prop := ∃ L : List Nat, L.Nodup ∧ L.length = c ∧ ∀ k, k ∈ L ↔ (f k).isSome = true
structure Agree (D : DataW Unit) (f : Held) (c : Nat) : Prop where
  size : Maps.size D = c
  has : ∀ k : Nat, k < two64 → Maps.has D (.int .u64 k) = (f k).isSome
  at' : ∀ (k : Nat) x, k < two64 → f k = some x → D.atKey (.int .u64 k) (.lit (.int .u8 0)) = .lit (.int .u8 (x.toNat : Int))
  keys : KeysOf f c
  low : ∀ k, (f k).isSome = true → k < two64
def MapAt (w : World) (b : Nat) (f : Held) (c : Nat) : Prop := ∃ D : DataW Unit, w.ownsMap Try.prog 30 (plainElem Try.prog 5) b c D ∧ Agree D f c

theorem law64 : Keyed Try.prog 30 := int_keyed Try.underlying30
theorem zero8 (w : World) : (zeroValue 5).run Try.prog w = .ok (.int .u8 0) w := by kernel_rfl
theorem key64 (k : Nat) (h : k < two64) : keyOf Try.prog 30 (.int .u64 (k : Int)) = some (.int .u64 (k : Int)) :=
  keyOf_int_mk Try.underlying30 (by unfold two64 at h; simp [Lit.wf, IntKind.min, IntKind.max, IntKind.bits, IntKind.signed]; omega)
theorem key_ne {k j : Nat} (h : j ≠ k) : (Lit.int .u64 (j : Int)) ≠ .int .u64 (k : Int) := by
  intro e
  injection e with _ e
  omega
theorem isKey64 (k : Nat) : WideAt.IsKeyLit (Lit.int .u64 (k : Int)) := by first | trivial | decide | simp [WideAt.IsKeyLit]

theorem Mod.grownBy {S : Nat → Prop} {w w' : World} {b : Nat} (h : w.grownBy w' (some b)) (hb : S b) : Mod S w w' :=
  (Mod.refl S w).grown h (fun k hk _ => by injection hk with hk; subst hk; exact hb)
theorem MapAt.mod {S : Nat → Prop} {w w' : World} {b c : Nat} {f : Held} (h : MapAt w b f c) (m : Mod S w w') (hS : ¬ S b) : MapAt w' b f c := by
  obtain ⟨D, ⟨es, clock, hb, r⟩, A⟩ := h
  exact ⟨D, ⟨es, clock, m.heap hb hS, r⟩, A⟩
theorem MapAt.lt {w : World} {b c : Nat} {f : Held} (h : MapAt w b f c) : b < w.heap.size := by
  obtain ⟨D, ⟨es, clock, hb, r⟩, A⟩ := h
  exact lt_of_heap hb
theorem ownsMap_tight {P : Program} {k : TypeId} {R : Value → Option (DataW Unit × List MemPlace)} {w : World} {b n : Nat} {D : DataW Unit} (h : w.ownsMap P k R b n D) : w.ownsMap P k R b (Maps.size D) D := by
  obtain ⟨es, clock, hb, F, _, rfl⟩ := h
  exact ⟨es, clock, hb, F, by simp [Maps.size, length_sorted], rfl⟩

theorem mapAt_made (w : World) : MapAt (w.alloc (.map #[] 0)) w.heap.size (fun _ => none) 0 :=
  ⟨.map [], World.ownsMap_made _ _ _ _, ⟨rfl, fun _ _ => rfl, fun _ _ _ h => by simp at h, ⟨[], List.nodup_nil, rfl, by simp⟩, by simp⟩⟩

theorem MapAt.look {w : World} {b c : Nat} {f : Held} (h : MapAt w b f c) (k : Nat) (hk : k < two64) :
    (Instr.lookup 48 (.map (some b)) (.int .u64 (k : Int)) true).run Try.prog w = .ok (.tuple #[.int .u8 (valH (f k)), .bool (f k).isSome]) w := by
  obtain ⟨D, hown, A⟩ := h
  obtain ⟨v, ps, hrun, hv⟩ := hown.look_ok law64 Try.underlying48 (zero8 w) (plainElem_int Try.underlying5 (by decide)) (key64 k hk)
  rw [A.has k hk] at hrun
  rw [hrun]
  obtain ⟨a, rfl, hz, _⟩ := plainElem_int_inv Try.underlying5 hv
  have hz1 := congrArg Prod.fst hz
  simp only at hz1
  cases hf : f k with
  | none =>
    have hh := A.has k hk
    rw [hf] at hh
    rw [Maps.atKey_of_not_has hh] at hz1
    injection hz1 with hz1
    injection hz1 with _ hz1
    subst hz1
    rfl
  | some x =>
    rw [A.at' k x hk hf] at hz1
    injection hz1 with hz1
    injection hz1 with _ hz1
    subst hz1
    rfl

def updH (f : Held) (k : Nat) (x : BitVec 8) : Held := fun j => if j = k then some x else f j
def delH (f : Held) (k : Nat) : Held := fun j => if j = k then none else f j
theorem keysOf_upd {f : Held} {c k : Nat} (x : BitVec 8) (h : KeysOf f c) (hf : f k = none) : KeysOf (updH f k x) (c + 1) := by
  obtain ⟨L, h1, h2, h3⟩ := h
  refine ⟨k :: L, List.nodup_cons.2 ⟨fun hk => ?_, h1⟩, by simp [h2], fun j => ?_⟩
  · have := (h3 k).1 hk
    rw [hf] at this
    cases this
  · unfold updH
    by_cases e : j = k
    · simp [e]
    · simp [e, h3]
theorem keysOf_del {f : Held} {c k : Nat} {x : BitVec 8} (h : KeysOf f c) (hf : f k = some x) : KeysOf (delH f k) (c - 1) := by
  obtain ⟨L, h1, h2, h3⟩ := h
  have hk : k ∈ L := (h3 k).2 (by rw [hf]; rfl)
  refine ⟨L.erase k, h1.erase k, by rw [List.length_erase_of_mem hk, h2], fun j => ?_⟩
  rw [h1.mem_erase_iff, h3]
  unfold delH
  by_cases e : j = k
  · simp [e]
  · simp [e]
theorem keysOf_pos {f : Held} {c k : Nat} {x : BitVec 8} (h : KeysOf f c) (hf : f k = some x) : 0 < c := by
  obtain ⟨L, h1, h2, h3⟩ := h
  have hk : k ∈ L := (h3 k).2 (by rw [hf]; rfl)
  rw [← h2]
  exact List.length_pos_of_mem hk

theorem MapAt.store {w : World} {b c : Nat} {f : Held} (h : MapAt w b f c) (k : Nat) (hk : k < two64) (x : BitVec 8) (hf : f k = none) (hc : c < maxLen) :
    ∃ w', (Instr.mapUpdate 48 (.map (some b)) (.int .u64 (k : Int)) (.int .u8 (x.toNat : Int))).run Try.prog w = .ok () w' ∧ MapAt w' b (updH f k x) (c + 1) ∧ Mod (fun i => i = b) w w' := by
  obtain ⟨D, hown, A⟩ := h
  have hwf : (Lit.int .u8 (x.toNat : Int)).wf = true := by have := x.isLt; simp [Lit.wf, IntKind.min, IntKind.max, IntKind.bits, IntKind.signed]; omega
  obtain ⟨w', hrun, r1, r2⟩ := hown.store law64 Try.underlying48 hc (key64 k hk) (plainElem_int Try.underlying5 hwf)
  have hsz : Maps.size (D.put (.int .u64 (k : Int)) (.lit (.int .u8 (x.toNat : Int)))) = c + 1 := by
    rw [Maps.size_put (hown.tidy law64), A.has k hk, hf, A.size]
    rfl
  have r1' := ownsMap_tight r1
  rw [hsz] at r1'
  refine ⟨w', hrun, ⟨_, r1', hsz, fun j hj => ?_, fun j y hj hy => ?_, keysOf_upd x A.keys hf, fun j hj => ?_⟩, Mod.grownBy r2.grown rfl⟩
  · unfold updH
    by_cases e : j = k
    · subst e
      rw [Maps.has_put_same hown.isMap (isKey64 j)]
      simp
    · rw [Maps.has_put_other (key_ne e), A.has j hj]
      simp [e]
  · unfold updH at hy
    by_cases e : j = k
    · subst e
      simp only [if_true, Option.some.injEq] at hy
      subst hy
      exact Maps.atKey_put_same hown.isMap (isKey64 j) _ _
    · simp only [e, if_false] at hy
      rw [Maps.atKey_put_other (key_ne e)]
      exact A.at' j y hj hy
  · unfold updH at hj
    by_cases e : j = k
    · subst e; exact hk
    · simp only [e, if_false] at hj
      exact A.low j hj
theorem MapAt.drop {w : World} {b c : Nat} {f : Held} (h : MapAt w b f c) (k : Nat) (hk : k < two64) (x : BitVec 8) (hf : f k = some x) (ty : TypeId) :
    ∃ w', (Builtin.delete_ #[48, 30] ty #[.map (some b), .int .u64 (k : Int)]).run Try.prog w = .ok (.tuple #[]) w' ∧ MapAt w' b (delH f k) (c - 1) ∧ Mod (fun i => i = b) w w' := by
  obtain ⟨D, hown, A⟩ := h
  obtain ⟨w', hrun, r1, r2⟩ := hown.drop law64 Try.underlying48 (key64 k hk) ty
  have hsz : Maps.size (D.del (.int .u64 (k : Int))) = c - 1 := by
    have h1 := Maps.size_del (hown.tidy law64) (k := .int .u64 (k : Int))
    rw [A.has k hk, hf, A.size] at h1
    simp at h1
    omega
  have r1' := ownsMap_tight r1
  rw [hsz] at r1'
  refine ⟨w', hrun, ⟨_, r1', hsz, fun j hj => ?_, fun j y hj hy => ?_, keysOf_del A.keys hf, fun j hj => ?_⟩, Mod.grownBy r2.grown rfl⟩
  · unfold delH
    by_cases e : j = k
    · subst e
      rw [Maps.has_del_same]
      simp
    · rw [Maps.has_del_other (key_ne e), A.has j hj]
      simp [e]
  · unfold delH at hy
    by_cases e : j = k
    · simp [e] at hy
    · simp only [e, if_false] at hy
      rw [Maps.atKey_del_other (key_ne e)]
      exact A.at' j y hj hy
  · unfold delH at hj
    by_cases e : j = k
    · simp [e] at hj
    · simp only [e, if_false] at hj
      exact A.low j hj
theorem MapAt.len {w : World} {b c : Nat} {f : Held} (h : MapAt w b f c) (ty : TypeId) : (Builtin.len_ #[48] ty #[.map (some b)]).run Try.prog w = .ok (.int .i64 (c : Int)) w := by
  obtain ⟨D, hown, A⟩ := h
  rw [hown.len Try.underlying48 ty, A.size]
theorem MapAt.keys {w : World} {b c : Nat} {f : Held} (h : MapAt w b f c) : KeysOf f c := h.choose_spec.2.keys
theorem MapAt.low {w : World} {b c : Nat} {f : Held} (h : MapAt w b f c) {k : Nat} (hk : (f k).isSome = true) : k < two64 := h.choose_spec.2.low k hk
end Go.Proofs.Ytcpphhdbboiadaa
