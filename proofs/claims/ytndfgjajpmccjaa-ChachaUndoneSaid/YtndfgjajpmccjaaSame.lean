/-
  mailcoachlaw01.SameBytes, Beyond.
-/
import Derived.Test.YtndfgjajpmccjaaXor
namespace Go.Proofs.Ytndfgjajpmccjaa
open Go Go.RowKit
set_option linter.unusedSimpArgs false

theorem ByteAt.slice {w : World} {v : Value} {bs : List (BitVec 8)} (h : ByteAt w v bs) : ∃ ad cap, v = .slice ad bs.length cap ∧ ∀ j, j < bs.length → ∃ g off, ad = some ⟨g, off, none⟩ ∧ g < w.heap.size ∧ w.cell? ⟨g, off + j, none⟩ = some (.int .u8 ((bs.getD j 0).toNat : Int)) := by
  rcases h with ⟨_, _, rfl, rfl⟩ | ⟨g, off, cap, rfl, _, h2⟩
  · exact ⟨_, _, rfl, fun j hj => absurd hj (by simp)⟩
  · refine ⟨_, _, rfl, fun j hj => ⟨g, off, rfl, ?_, h2 j hj⟩⟩
    have h3 := h2 j hj
    by_cases hlt : g < w.heap.size
    · exact hlt
    · rw [World.cell?, Array.getElem?_eq_none (by simpa using hlt)] at h3
      cases h3
theorem ByteAt.mod {S : Nat → Prop} {w w' : World} {v : Value} {bs : List (BitVec 8)} (h : ByteAt w v bs) (m : Mod S w w') (hS : ∀ k, k < w.heap.size → ¬ S k) : ByteAt w' v bs := by
  rcases h with ⟨ad, cap, rfl, rfl⟩ | ⟨g, off, cap, rfl, hc, h2⟩
  · exact .inl ⟨ad, cap, rfl, rfl⟩
  · refine .inr ⟨g, off, cap, rfl, hc, fun j hj => ?_⟩
    have h3 := h2 j hj
    by_cases hlt : g < w.heap.size
    · exact cell_mod m h3 (hS g hlt)
    · rw [World.cell?, Array.getElem?_eq_none (by simpa using hlt)] at h3
      cases h3
theorem ByteAt.row {w : World} {g : Nat} {t : TypeId} {bs : List (BitVec 8)} (h : w.heap[g]? = some (.cells (encB bs) t (0,0))) : ByteAt w (.slice (some ⟨g, 0, none⟩) bs.length bs.length) bs :=
  .inr ⟨g, 0, bs.length, rfl, Nat.le_refl _, fun j hj => by rw [cell_of_row _ _ _ _ _ _ h, Nat.zero_add, encB_get hj]⟩

theorem same_any (va vb : Value) (a b : List (BitVec 8)) (w : World) (ha : ByteAt w va a) (hb : ByteAt w vb b) (hl : a.length < 4611686018427387904) (hl2 : b.length < 4611686018427387904) :
    Calls Try.prog 12 #[va, vb] w fun e w' => Mod (fun _ => False) w w' ∧ e = .returned (.bool (decide (a = b))) := by
  obtain ⟨ad, cap, rfl, ha'⟩ := ha.slice
  obtain ⟨bd, bcap, rfl, hb'⟩ := hb.slice
  clear ha hb
  obtain ⟨n, en⟩ : ∃ n, a.length = n := ⟨_, rfl⟩
  obtain ⟨m, em⟩ : ∃ m, b.length = m := ⟨_, rfl⟩
  rw [en] at ha' hl
  rw [em] at hb' hl2
  rw [show (Value.slice ad a.length cap) = .slice ad n cap by rw [en], show (Value.slice bd b.length bcap) = .slice bd m bcap by rw [em]]
  by_cases hnm : n = m
  · subst hnm
    have hne : ((n : Int) != (n : Int)) = false := by simp
    have hfin : (∀ k, k < n → a.getD k 0 = b.getD k 0) → decide (a = b) = true := by
      intro h
      rw [decide_eq_true_iff]
      apply List.ext_getElem (by omega)
      intro i h1 h2
      have := h i (by omega)
      simp only [List.getD_eq_getElem?_getD, List.getElem?_eq_getElem h1, List.getElem?_eq_getElem h2, Option.getD_some] at this
      exact this
    have hnot : ∀ k, k < n → a.getD k 0 ≠ b.getD k 0 → decide (a = b) = false := by
      intro k hk h
      rw [decide_eq_false_iff_not]
      intro e
      exact h (by rw [e])
    generalize decide (a = b) = r at *
    replace en := Lib.hid en
    replace em := Lib.hid em
    replace ha' := Lib.hid ha'
    replace hb' := Lib.hid hb'
    replace hfin := Lib.hid hfin
    replace hnot := Lib.hid hnot
    go_enter Try.func12, Try.ntmps12
    go_wp2
    go_loopw [5] (fun i wr => ∃ j : Nat, j ≤ n ∧ i = .int .i64 j ∧ Mod (fun _ => False) w wr ∧ ∀ k, k < j → a.getD k 0 = b.getD k 0) (fun i _ => n - (intOf i).toNat)
    case atStart => exact ⟨0, by omega, rfl, Mod.refl _ _, fun k hk => by omega⟩
    case round =>
      obtain ⟨j, hj, rfl, mr, hrel⟩ := hrel
      by_cases hlt : j < n
      · obtain ⟨ga, oa, rfl, _, ca⟩ := ha'.out j hlt
        obtain ⟨gb, ob, rfl, _, cb⟩ := hb'.out j hlt
        have ca := cell_mod mr ca (fun h => h)
        have cb := cell_mod mr cb (fun h => h)
        have hlt' : (j : Int) < (n : Int) := by omega
        have h0 : (0 : Int) ≤ (j : Int) := by omega
        have hd : decide ((j : Int) < (n : Int)) = true := by simpa using hlt
        have hnj := hnot.out j hlt
        have hxy : a.getD j 0 = b.getD j 0 ↔ (((a.getD j 0).toNat : Int) = ((b.getD j 0).toNat : Int)) := by
          rw [Int.ofNat_inj, BitVec.toNat_inj]
        replace hxy := Lib.hid hxy
        replace hnj := Lib.hid hnj
        replace hrel := Lib.hid hrel
        replace mr := Lib.hid mr
        generalize hax : a.getD j 0 = x at *
        generalize hay : b.getD j 0 = y at *
        replace hax := Lib.hid hax
        replace hay := Lib.hid hay
        go_upto_region 6 with (fail)
        go_quiet (fail)
        by_cases hx : (x.toNat : Int) = (y.toNat : Int)
        · have hne : ((x.toNat : Int) != (y.toNat : Int)) = false := by simp [hx]
          go_wp2
          go_roundw
          case measure => simp [intOf]; omega
          case rel =>
            refine ⟨j + 1, by omega, by go_num, mr.out.drewN _, fun k hk => ?_⟩
            by_cases h : k = j
            · subst h
              rw [hax.out, hay.out]
              exact hxy.out.2 hx
            · exact hrel.out k (by omega)
        · have hne : ((x.toNat : Int) != (y.toNat : Int)) = true := by simp [hx]
          go_wp2
          go_ret
          exact ⟨mr.out.drewN _, by rw [hnj.out (fun h => hx (hxy.out.1 h))]; rfl⟩
      · obtain rfl : j = n := by omega
        have hd : decide ((j : Int) < (j : Int)) = false := by simp
        go_wp2
        go_ret
        exact ⟨mr, by rw [hfin.out hrel]; rfl⟩
  · have hne : ((n : Int) != (m : Int)) = true := by simp; omega
    have hr : decide (a = b) = false := by
      rw [decide_eq_false_iff_not]
      intro h
      rw [h] at en
      omega
    rw [hr]
    go_enter Try.func12, Try.ntmps12
    go_wp2
    go_ret
    exact ⟨Mod.refl _ _, rfl⟩

/-- A slice of whole numbers as it lies in memory. -/
def IntsAt (w : World) (v : Value) (ns : List Nat) : Prop :=
  ∃ g off cap, v = .slice (some ⟨g, off, none⟩) ns.length cap ∧ ∀ j, j < ns.length → w.cell? ⟨g, off + j, none⟩ = some (.int .i64 ((ns.getD j 0 : Nat) : Int))

theorem take_sum (ns : List Nat) (j : Nat) (hj : j < ns.length) : (ns.take (j + 1)).sum = (ns.take j).sum + ns.getD j 0 := by
  rw [List.take_succ_eq_append_getElem hj, List.sum_append, List.getD_eq_getElem?_getD, List.getElem?_eq_getElem hj]
  simp
theorem take_le (ns : List Nat) (j : Nat) : (ns.take j).sum ≤ ns.sum := by
  conv => rhs; rw [← List.take_append_drop j ns, List.sum_append]
  omega

theorem beyond_any (v : Value) (ns : List Nat) (w : World) (hv : IntsAt w v ns) (hs : ∀ j, j < ns.length → (ns.take j).sum ≤ 1048576 → (ns.take j).sum + ns.getD j 0 < 9223372036854775808) (hl : ns.length < 4611686018427387904) :
    Calls Try.prog 10 #[v] w fun e w' => Mod (fun _ => False) w w' ∧ e = .returned (.bool (decide (1048576 < ns.sum))) := by
  obtain ⟨g, off, cap, rfl, hc⟩ := hv
  obtain ⟨n, en⟩ : ∃ n, ns.length = n := ⟨_, rfl⟩
  rw [show (Value.slice (some ⟨g, off, none⟩) ns.length cap) = .slice (some ⟨g, off, none⟩) n cap by rw [en]]
  rw [en] at hc hs hl
  have hsum : ∀ j, j < n → (ns.take (j + 1)).sum = (ns.take j).sum + ns.getD j 0 := fun j hj => take_sum ns j (by omega)
  have hz : (ns.take 0).sum = 0 := by simp
  have hall : (ns.take n).sum = ns.sum := by rw [← en, List.take_length]
  have hle := take_le ns
  obtain ⟨s, es⟩ : ∃ s : Nat → Nat, s = fun j => (ns.take j).sum := ⟨_, rfl⟩
  rw [show ∀ j, (ns.take j).sum = s j from fun j => by rw [es]] at hz hall
  simp only [show ∀ j, (ns.take j).sum = s j from fun j => by rw [es]] at hsum hle hs
  clear es
  generalize ns.sum = S at *
  replace hc := Lib.hid hc
  replace hs := Lib.hid hs
  replace hsum := Lib.hid hsum
  replace hle := Lib.hid hle
  replace hz := Lib.hid hz
  replace hall := Lib.hid hall
  go_enter Try.func10, Try.ntmps10
  go_wp2
  go_loopw [3, 4] (fun a i wr => ∃ j : Nat, j ≤ n ∧ i = .int .i64 j ∧ a = .int .i64 ((s j : Nat) : Int) ∧ s j ≤ 1048576 ∧ wr = w) (fun _ i _ => n - (intOf i).toNat)
  case atStart => exact ⟨0, by omega, rfl, by rw [hz.out]; rfl, by rw [hz.out]; omega, rfl⟩
  case round =>
    obtain ⟨j, hj, rfl, rfl, hsj, rfl⟩ := hrel
    by_cases hlt : j < n
    · have cj := hc.out j hlt
      have bj := hs.out j hlt hsj
      have sj := hsum.out j hlt
      have lj := hle.out (j + 1)
      have hlt' : (j : Int) < (n : Int) := by omega
      have h0 : (0 : Int) ≤ (j : Int) := by omega
      have hd : decide ((j : Int) < (n : Int)) = true := by simpa using hlt
      generalize ns.getD j 0 = x at *
      by_cases hx : s j + x ≤ 1048576
      · have hd : decide ((1048576 : Int) < (s j : Int) + (x : Int)) = false := by rw [decide_eq_false_iff_not]; omega
        go_wp2
        go_roundw
        case measure => simp [intOf]; omega
        case rel => exact ⟨j + 1, by omega, by go_num, by rw [sj]; go_num, by omega, trivial⟩
      · have hd : decide ((1048576 : Int) < (s j : Int) + (x : Int)) = true := by rw [decide_eq_true_iff]; omega
        go_wp2
        go_ret
        refine ⟨Mod.refl _ _, ?_⟩
        rw [show decide (1048576 < S) = true by rw [decide_eq_true_iff]; omega]
        rfl
    · obtain rfl : j = n := by omega
      have hd : decide ((j : Int) < (j : Int)) = false := by simp
      go_wp2
      go_ret
      refine ⟨Mod.refl _ _, ?_⟩
      rw [show decide (1048576 < S) = false by rw [decide_eq_false_iff_not, ← hall.out]; omega]
      rfl
end Go.Proofs.Ytndfgjajpmccjaa
