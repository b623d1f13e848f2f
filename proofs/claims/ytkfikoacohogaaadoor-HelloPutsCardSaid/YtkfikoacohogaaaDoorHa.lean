/-
  hello.Put's closure 'add', and slices.Clip.
-/
import Derived.Test.YtkfikoacohogaaaDoorHl
namespace Go.Proofs.YtkfikoacohogaaaDoor
set_option maxRecDepth 100000
open Go Go.RowKit
set_option linter.unusedSimpArgs false
set_option linter.unusedVariables false

def AddEnd (Bo base : Nat) (bs cs : List (BitVec 8)) (w : World) (e : Ending) (w' : World) : Prop :=
  e = .returned (.tuple #[]) ∧ Mod (fun k => base ≤ k) w w' ∧ ∃ v, w'.heap[Bo]? = some (.cells #[v] 27 (0,0)) ∧ w'.ownsRow base 5 1 v (bs.length + cs.length) (bytesV (bs ++ cs))
theorem own_ne {w : World} {base n Bo : Nat} {v u : Value} {xs : List Value} (own : w.ownsRow base 5 1 v n xs) (ho : w.heap[Bo]? = some (.cells #[u] 27 (0,0))) : v.ownBlock ≠ some Bo := by
  intro h
  obtain ⟨_, h1⟩ := own
  rcases h1 with ⟨rfl, _⟩ | ⟨g, cap, cur, rfl, _, h2, _⟩
  · cases h
  · have : g = Bo := by simpa [Value.ownBlock] using h
    subst this
    rw [h2] at ho
    simp at ho
set_option maxRecDepth 100000 in
theorem add_any (Bo base : Nat) (v x : Value) (bs cs : List (BitVec 8)) (w : World) (hB : base ≤ Bo) (ho : w.heap[Bo]? = some (.cells #[v] 27 (0,0))) (own : w.ownsRow base 5 1 v bs.length (bytesV bs)) (hx : ByteAt w x cs)
    (hfit : bs.length + cs.length ≤ 140737488355327) : Calls Tryd.prog 55 #[x, .pointer (some ⟨Bo, 0, none⟩)] w (AddEnd Bo base bs cs w) := by
  have cb := cell_of_one ho
  have hlt := lt_of_block ho
  have hne := own_ne own ho
  replace ho := Lib.hid ho
  replace own := Lib.hid own
  replace hx := Lib.hid hx
  replace hfit := Lib.hid hfit
  go_enter Tryd.func55, Tryd.ntmps55
  go_wp2_with (first | fail | (at_builtin; refine wpList_append_bytes rfl _ _ rfl base bs.length _ _ bs cs rfl rfl own.out hx.out (by have := hfit.out; omega) (by omega) ?_))
  intro v8 w8 own8 grow8
  have by8 := byteAt_of_own own8
  obtain ⟨d8, cap8, hv8, _⟩ := by8.slice
  subst hv8
  clear by8
  have ho8 : w8.heap[Bo]? = some (.cells #[v] 27 (0,0)) := (grow8.block Bo hlt (fun h => hne h.symm)).trans ho.out
  have m8 := own_grown (base' := 0) own.out grow8
  have cb8 := cell_of_one ho8
  have fb8 := free_of_one ho8
  have hfin : AddEnd Bo base bs cs w (.returned (.tuple #[])) (w8.setCell ⟨Bo, 0, none⟩ (.slice d8 (bs ++ cs).length cap8)) := by
    refine ⟨rfl, m8.setCell (fun _ => hB) _, _, one_setCell ho8, ?_⟩
    exact ownsRow_setCell_other own8 (own_ne own8 ho8) _
  replace hfin := Lib.hid hfin
  clear own8 grow8 ho8 m8 hne
  rw [List.length_append] at hfin
  go_wp2_with fail
  go_end0
  exact hfin.out

theorem clip_any (v : Value) (bs : List (BitVec 8)) (w : World) (hb : ByteAt w v bs) : Calls Tryd.prog 57 #[v] w fun e w' => w' = w ∧ e = .returned (match v with | .slice a n c => .slice a n n | v => v) := by
  obtain ⟨ad, cap, rfl, hc⟩ := hb.slice
  have hle := hb.cap.2
  clear hc
  go_enter Tryd.func57, Tryd.ntmps57
  go_wp2
  go_ret
  exact ⟨rfl, rfl⟩
end Go.Proofs.YtkfikoacohogaaaDoor
