/-
  pieces: Put.
-/
import Derived.Outline
import Derived.Lib.MinMax
import Derived.Test.YtcpphhdbboiadaaPp
namespace Go.Proofs.Ytcpphhdbboiadaa
open Go Go.RowKit
set_option linter.unusedSimpArgs false
set_option linter.unusedVariables false

/-- What is held when bytes have come to a place. -/
def putH (f : Held) (read a : Nat) (bs : List (BitVec 8)) : Held := fun k => if (f k).isSome = true then f k else if read ≤ k ∧ a ≤ k then bs[k - a]? else none
theorem putH_zero (f : Held) (read a : Nat) : putH f read a [] = f := by
  funext k
  unfold putH
  cases h : f k <;> simp
theorem putH_at {f : Held} {read a : Nat} {bs : List (BitVec 8)} {i : Nat} : putH f read a (bs.take i) (a + i) = f (a + i) := by
  unfold putH
  cases h : f (a + i)
  · simp only [Option.isSome_none, Bool.false_eq_true, if_false]
    split
    · rw [List.getElem?_take, if_neg (by omega)]
    · rfl
  · simp
theorem putH_step {f : Held} {read a : Nat} {bs : List (BitVec 8)} {i : Nat} (hi : i < bs.length) (h : f (a + i) = none) (hr : read ≤ a + i) : putH f read a (bs.take (i + 1)) = updH (putH f read a (bs.take i)) (a + i) (bs.getD i 0) := by
  funext k
  unfold putH updH
  by_cases e : k = a + i
  · subst e
    simp [h, hr, hi]
  · simp only [e, if_false]
    cases hk : f k
    · simp only [Option.isSome_none, Bool.false_eq_true, if_false]
      split
      · rename_i h2
        rw [List.getElem?_take, List.getElem?_take]
        by_cases h3 : k - a < i
        · rw [if_pos h3, if_pos (by omega)]
        · rw [if_neg h3, if_neg (by omega)]
      · rfl
    · rfl
theorem putH_skip {f : Held} {read a : Nat} {bs : List (BitVec 8)} {i : Nat} (h : (f (a + i)).isSome = true ∨ a + i < read) : putH f read a (bs.take (i + 1)) = putH f read a (bs.take i) := by
  funext k
  unfold putH
  cases hk : f k
  · simp only [Option.isSome_none, Bool.false_eq_true, if_false]
    split
    · rename_i h2
      have hne : k ≠ a + i := by
        rintro rfl
        rw [hk] at h
        rcases h with h | h
        · cases h
        · omega
      rw [List.getElem?_take, List.getElem?_take]
      by_cases h3 : k - a < i
      · rw [if_pos h3, if_pos (by omega)]
      · rw [if_neg h3, if_neg (by omega)]
    · rfl
  · rfl

/-- What Put answers. -/
def putE (s : PS) (a n : Nat) (last : Bool) : Nat :=
  if 4611686018427387903 < a ∨ 4611686018427387903 < a + n then 1
  else if (s.known = true ∧ (s.fin < a + n ∨ last = true ∧ a + n < s.fin)) ∨ (last = true ∧ a + n < s.come) then 8
  else if s.read + s.room < a + n then 6 else 0
def putS (s : PS) (a : Nat) (bs : List (BitVec 8)) (last : Bool) : PS :=
  if putE s a bs.length last = 0 then { s with f := putH s.f s.read a bs, come := max s.come (a + bs.length), known := s.known || last, fin := if last = true then a + bs.length else s.fin } else s

def PutOk (p M c : Nat) (s : PS) (a : Nat) (bs : List (BitVec 8)) (last : Bool) (w : World) (e : Ending) (w' : World) : Prop :=
  e = .returned (.int .i64 0) ∧ Mod (fun k => k = p ∨ k = M) w w' ∧ ∃ c', c' ≤ c + bs.length ∧
      IsP w' p M { s with f := putH s.f s.read a bs, come := max s.come (a + bs.length), known := s.known || last, fin := if last = true then a + bs.length else s.fin } c'
theorem put_end0 {w1 wr : World} {p M room read come fin c' : Nat} {known : Bool} {f g : Held} (a k : Nat) (hrow : wr.heap[p]? = some (.cells (PS.cells ⟨room, read, come, fin, known, f⟩ M) 50 (0,0))) (mr : Mod (fun i => i = M) w1 wr) (hm : MapAt wr M g c') (hpM : p ≠ M) :
    Mod (fun k => k = p ∨ k = M) w1 (wr.setCell ⟨p, 3, none⟩ (.int .u64 (max (come : Int) ((a : Int) + (k : Int))))) ∧ IsP (wr.setCell ⟨p, 3, none⟩ (.int .u64 (max (come : Int) ((a : Int) + (k : Int))))) p M ⟨room, read, max come (a + k), fin, known, g⟩ c' := by
  have m1 := Mod.one_setCell wr p 3 (.int .u64 (max (come : Int) ((a : Int) + (k : Int))))
  refine ⟨(mr.mono fun i _ h => .inr h).trans (m1.mono fun i _ h => .inl h), ?_, hm.mod m1 (fun h => hpM h.symm), hpM⟩
  rw [setCell_row _ _ _ _ _ _ hrow, setRow_heap _ _ _ _ _ _ hrow]
  have e : (max (come : Int) ((a : Int) + (k : Int))) = ((max come (a + k) : Nat) : Int) := by omega
  rw [e]
  rfl
theorem put_end1 {w1 wr : World} {p M room read come fin c' : Nat} {known : Bool} {f g : Held} (a k : Nat) (hrow : wr.heap[p]? = some (.cells (PS.cells ⟨room, read, come, fin, known, f⟩ M) 50 (0,0))) (mr : Mod (fun i => i = M) w1 wr) (hm : MapAt wr M g c') (hpM : p ≠ M) :
    Mod (fun k => k = p ∨ k = M) w1 (((wr.setCell ⟨p, 3, none⟩ (.int .u64 (max (come : Int) ((a : Int) + (k : Int))))).setCell ⟨p, 5, none⟩ (.bool true)).setCell ⟨p, 4, none⟩ (.int .u64 ((a : Int) + (k : Int)))) ∧
    IsP (((wr.setCell ⟨p, 3, none⟩ (.int .u64 (max (come : Int) ((a : Int) + (k : Int))))).setCell ⟨p, 5, none⟩ (.bool true)).setCell ⟨p, 4, none⟩ (.int .u64 ((a : Int) + (k : Int)))) p M ⟨room, read, max come (a + k), a + k, true, g⟩ c' := by
  obtain ⟨m0, h0⟩ := put_end0 (known := known) a k hrow mr hm hpM
  generalize wr.setCell ⟨p, 3, none⟩ (.int .u64 (max (come : Int) ((a : Int) + (k : Int)))) = wa at *
  have m1 := Mod.one_setCell wa p 5 (.bool true)
  have r1 : (wa.setCell ⟨p, 5, none⟩ (.bool true)).heap[p]? = some (.cells (PS.cells ⟨room, read, max come (a + k), fin, true, g⟩ M) 50 (0,0)) := by
    rw [setCell_row _ _ _ _ _ _ h0.row, setRow_heap _ _ _ _ _ _ h0.row]
    rfl
  have hm1 := h0.map.mod m1 (fun h => hpM h.symm)
  generalize wa.setCell ⟨p, 5, none⟩ (.bool true) = wb at *
  have m2 := Mod.one_setCell wb p 4 (.int .u64 ((a : Int) + (k : Int)))
  refine ⟨(m0.trans (m1.mono fun i _ h => .inl h)).trans (m2.mono fun i _ h => .inl h), ?_, hm1.mod m2 (fun h => hpM h.symm), hpM⟩
  rw [setCell_row _ _ _ _ _ _ r1, setRow_heap _ _ _ _ _ _ r1]
  have e : ((a : Int) + (k : Int)) = ((a + k : Nat) : Int) := by omega
  rw [e]
  rfl

set_option maxRecDepth 100000 in
set_option maxHeartbeats 1000000 in
theorem put_ok (p M c : Nat) (s : PS) (a : Nat) (v : Value) (bs : List (BitVec 8)) (last : Bool) (w : World) (h : IsP w p M s c) (hb : ByteAt w v bs) (hpb : ∀ ad n cap, v = .slice (some ad) n cap → n ≠ 0 → ad.block ≠ p ∧ ad.block ≠ M) (hc : c + bs.length < 4611686018427387903)
    (hr : s.read + s.room < 9223372036854775808) (h1 : a ≤ 4611686018427387903) (h2 : a + bs.length ≤ 4611686018427387903)
    (h3 : ¬ (s.known = true ∧ (s.fin < a + bs.length ∨ last = true ∧ a + bs.length < s.fin)))
    (h4 : ¬ (last = true ∧ a + bs.length < s.come)) (h5 : a + bs.length ≤ s.read + s.room) :
    Calls Try.prog 9 #[.pointer (some ⟨p, 0, none⟩), .int .u64 (a : Int), v, .bool last] w (PutOk p M c s a bs last w) := by
  obtain ⟨ad, cap, rfl, hb'⟩ := hb.slice
  have hbs := hb
  clear hb
  have c0 := h.c0
  have c1 := h.c1
  have c2 := h.c2
  have c3 := h.c3
  have c4 := h.c4
  have c5 := h.c5
  obtain ⟨room, read, come, fin, known, f⟩ := s
  simp only at *
  generalize en : bs.length = n at *
  have t1 : decide ((4611686018427387903 : Int) < (a : Int)) = false := by rw [decide_eq_false_iff_not]; omega
  have t2 : decide ((4611686018427387903 : Int) < (a : Int) + (n : Int)) = false := by rw [decide_eq_false_iff_not]; omega
  have t6 : decide ((read : Int) + (room : Int) < (a : Int) + (n : Int)) = false := by rw [decide_eq_false_iff_not]; omega
  have t3 : known = true → decide ((fin : Int) < (a : Int) + (n : Int)) = false := by intro hk; rw [decide_eq_false_iff_not]; intro hh; exact h3 ⟨hk, .inl (by omega)⟩
  have t4 : known = true → last = true → decide ((a : Int) + (n : Int) < (fin : Int)) = false := by intro hk hl; rw [decide_eq_false_iff_not]; intro hh; exact h3 ⟨hk, .inr ⟨hl, by omega⟩⟩
  have t5 : last = true → decide ((a : Int) + (n : Int) < (come : Int)) = false := by intro hl; rw [decide_eq_false_iff_not]; intro hh; exact h4 ⟨hl, by omega⟩
  clear h3 h4
  replace h := Lib.hid h
  replace hbs := Lib.hid hbs
  replace hb' := Lib.hid hb'
  replace hpb := Lib.hid hpb
  replace en := Lib.hid en
  have b0 : (0 : Int) ≤ (n : Int) := by omega
  have b1 : (0 : Int) ≤ (a : Int) := by omega
  have b2 : (n : Int) < 4611686018427387903 := by omega
  have b3 : (a : Int) + (n : Int) ≤ 4611686018427387903 := by omega
  have b4 : (0 : Int) ≤ (read : Int) := by omega
  have b5 : (0 : Int) ≤ (room : Int) := by omega
  have b6 : (read : Int) + (room : Int) < 9223372036854775808 := by omega
  cases known <;> cases last
  all_goals
    simp only [true_implies, Bool.false_eq_true, false_implies] at t3 t4 t5
    go_enter Try.func9, Try.ntmps9
    go_wp2_with fail
    refine (gone_no p M _ c0).mono ?_
    rintro e w1 ⟨rfl, rfl⟩
    go_upto_region 9 with (fail)
    go_quiet (fail)
    go_wp2
    go_loopw [76] (fun i wr => ∃ k c' : Nat, k ≤ n ∧ i = .int .i64 k ∧ Mod (fun x => x = M) w1 wr ∧ c' ≤ c + k ∧ MapAt wr M (putH f read a (bs.take k)) c') (fun i _ => n - (intOf i).toNat)
    case atStart => exact ⟨0, c, Nat.zero_le _, rfl, (Mod.refl _ _).drewN _, Nat.le_refl _, by rw [List.take_zero, putH_zero]; exact h.out.map.mod ((Mod.refl (fun _ => False) _).drewN _) (fun h => h)⟩
    case round =>
      obtain ⟨k, c', hk, rfl, mr, hc', hm⟩ := hrel
      have hpM := h.out.ne
      have cr0 := cell_mod mr c0 hpM
      have cr2 := cell_mod mr c2 hpM
      by_cases hlt : k < n
      · obtain ⟨g, off, rfl, _, cb⟩ := hb'.out k hlt
        have hgM := (hpb.out _ _ _ rfl (by omega)).2
        have cbr := cell_mod mr cb hgM
        clear c0 c1 c2 c3 c4 c5 cb
        have hlt' : (k : Int) < (n : Int) := by omega
        have h0 : (0 : Int) ≤ (k : Int) := by omega
        have hak : a + k < two64 := by unfold two64; omega
        have hlook : (Instr.lookup 48 (.map (some M)) (.int .u64 ((a : Int) + (k : Int))) true).run Try.prog wr = .ok (.tuple #[.int .u8 (valH (f (a + k))), .bool (f (a + k)).isSome]) wr := by
          have := hm.look (a + k) hak
          rw [putH_at] at this
          rwa [Int.natCast_add] at this
        have hskip : (f (a + k)).isSome = true ∨ a + k < read → putH f read a (bs.take (k + 1)) = putH f read a (bs.take k) := putH_skip
        have hstep : f (a + k) = none → read ≤ a + k → putH f read a (bs.take (k + 1)) = updH (putH f read a (bs.take k)) (a + k) (bs.getD k 0) := putH_step (by rw [en.out]; exact hlt)
        have hnone : f (a + k) = none → putH f read a (bs.take k) (a + k) = none := fun h => by rw [putH_at]; exact h
        generalize bs.getD k 0 = x at *
        replace hskip := Lib.hid hskip
        replace hstep := Lib.hid hstep
        replace hnone := Lib.hid hnone
        cases hf : f (a + k) with
        | some y =>
          rw [hf] at hlook
          simp only [Option.isSome_some, valH] at hlook
          replace hf := Lib.hid hf
          replace hm := Lib.hid hm
          replace mr := Lib.hid mr
          go_wp2
          go_roundw
          case measure => simp [intOf]; omega
          case rel => exact ⟨k + 1, c', by omega, by go_num, mr.out, by omega, by rw [hskip.out (.inl (by rw [hf.out]; rfl))]; exact hm.out⟩
        | none =>
          rw [hf] at hlook
          simp only [Option.isSome_none, valH] at hlook
          replace hf := Lib.hid hf
          by_cases hrd : read ≤ a + k
          · have hd : decide ((read : Int) ≤ (a : Int) + (k : Int)) = true := by rw [decide_eq_true_iff]; omega
            obtain ⟨w2, hst, hm2, m2⟩ := hm.store (a + k) hak x (hnone.out hf.out) (by unfold maxLen; omega)
            rw [Int.natCast_add] at hst
            replace hm2 := Lib.hid hm2
            replace mr := Lib.hid mr
            replace m2 := Lib.hid m2
            clear hm
            go_wp2
            go_roundw
            case measure => simp [intOf]; omega
            case rel => exact ⟨k + 1, c' + 1, by omega, by go_num, mr.out.trans m2.out, by omega, by rw [hstep.out hf.out hrd]; exact hm2.out⟩
          · have hd : decide ((read : Int) ≤ (a : Int) + (k : Int)) = false := by rw [decide_eq_false_iff_not]; omega
            replace hm := Lib.hid hm
            replace mr := Lib.hid mr
            go_wp2
            go_roundw
            case measure => simp [intOf]; omega
            case rel => exact ⟨k + 1, c', by omega, by go_num, mr.out, by omega, by rw [hskip.out (.inr (by omega))]; exact hm.out⟩
      · obtain rfl : k = n := by omega
        have hd : decide ((k : Int) < (k : Int)) = false := by simp
        have cr3 := cell_mod mr c3 hpM
        have cr4 := cell_mod mr c4 hpM
        have cr5 := cell_mod mr c5 hpM
        have hrow := mr.heap h.out.row hpM
        have fr3 := frozen_of_row _ _ 3 _ _ hrow
        have fr4 := frozen_of_row _ _ 4 _ _ hrow
        have fr5 := frozen_of_row _ _ 5 _ _ hrow
        rw [← en.out, List.take_length] at hm
        clear c0 c1 c2 c3 c4 c5
        replace mr := Lib.hid mr
        replace hm := Lib.hid hm
        replace hrow := Lib.hid hrow
        replace hpM := Lib.hid hpM
        have hcc : c' ≤ c + k := hc'
        replace hcc := Lib.hid hcc
        clear h1 h2 hlt hk hc hr hc' h5
        go_wp2
        go_ret
        have ek := en.out
        subst ek
        first
          | exact ⟨rfl, ((Mod.refl _ _).trans (put_end0 a _ hrow.out mr.out hm.out hpM.out).1), c', hcc.out, (put_end0 a _ hrow.out mr.out hm.out hpM.out).2⟩
          | exact ⟨rfl, ((Mod.refl _ _).trans (put_end1 a _ hrow.out mr.out hm.out hpM.out).1), c', hcc.out, (put_end1 a _ hrow.out mr.out hm.out hpM.out).2⟩
end Go.Proofs.Ytcpphhdbboiadaa
