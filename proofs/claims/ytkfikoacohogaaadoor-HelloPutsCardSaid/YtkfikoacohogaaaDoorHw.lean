/-
  hello.Get's closure 'whole': 32 bytes are copied to a place.
-/
import Derived.Laws.CopyOwn
import Derived.Test.YtkfikoacohogaaaDoorHp
namespace Go.Proofs.YtkfikoacohogaaaDoor
set_option maxRecDepth 100000
open Go Go.RowKit
set_option linter.unusedSimpArgs false
set_option linter.unusedVariables false

theorem run_copyH_op {P : Program} {ev : Operand → Value} {o : Oper} {d s : Operand} {dT sT : TypeId} {w w' : World} {vd vs r : Value} (ho : o.op = .call { callee := .builtin .copy, args := #[d, s], argTypes := #[dT, sT] }) (hd : ev d = vd) (hs : ev s = vs)
    (hrun : ∀ ty, (Builtin.copy_ #[dT, sT] ty #[vd, vs]).run P w = .ok r w') : (execOp ev o).run P w = .ok (.value r) w' := by
  unfold execOp
  simp [ho, resolve, invoke, builtin, hd, hs, hrun, Result.andThen]
theorem run_copy_any (w : World) (B off : Nat) (pre suf : List Value) (m bs : List (BitVec 8)) (v : Value) (hm : m.length = 32) (t : TypeId) (x : w.heap[B]? = some (.cells (pre ++ (bytesV m ++ suf)).toArray t (0,0))) (ho : off = pre.length) (hb : ByteAt w v bs) :
    ∃ w', (∀ ty, (Builtin.copy_ #[27, 27] ty #[.slice (some ⟨B, off, none⟩) 32 32, v]).run Tryd.prog w = .ok (.int .i64 ((min bs.length 32 : Nat) : Int)) w') ∧ Mod (fun k => k = B) w w' ∧
      (32 ≤ bs.length → w'.heap[B]? = some (.cells (pre ++ (bytesV (bs.take 32) ++ suf)).toArray t (0,0))) := by
  subst ho
  have hs8 : (Tryd.prog.info? 5).map (·.size) = some 1 := by kernel_rfl
  rcases hb with ⟨ad, cap, rfl, rfl⟩ | ⟨g, o2, cap, rfl, hc, hcell⟩
  · exact ⟨w, fun ty => run_copy_none w 27 27 ty 5 _ _ 32 32 0 cap Tryd.underlying27 hs8 rfl, Mod.refl _ _, fun h => by simp at h⟩
  · have hk : (bs.take 32).length = min bs.length 32 := by rw [List.length_take, Nat.min_comm]
    have hsplit : bytesV m = bytesV (m.take (bs.take 32).length) ++ bytesV (m.drop (bs.take 32).length) := by rw [← bytesV_append, List.take_append_drop]
    have x' := x
    rw [hsplit, List.append_assoc] at x'
    have h2 := setCells_mid B t (bytesV (bs.take 32)) (bytesV (m.take (bs.take 32).length)) pre _ w (by rw [bytesV_length, bytesV_length, List.length_take, hm, hk]; omega) x'
    have hth := there_mid (off := pre.length) (n := (bytesV (bs.take 32)).length) x (by rw [bytesV_length, hk]; simp [bytesV_length, hm]; omega)
    have hrun := fun ty => run_copy_cells (P := Tryd.prog) w 27 27 ty 5 B pre.length 32 32 ⟨g, o2, none⟩ bs.length cap (bytesV (bs.take 32)) Tryd.underlying27 hs8 (by rw [bytesV_length, hk])
      (fun j u hj => by
        have hj2 : j < (bs.take 32).length := by
          have := (List.getElem?_eq_some_iff.1 hj).1
          rwa [bytesV_length] at this
        rw [bytesV_get hj2] at hj
        injection hj with hj
        subst hj
        have h3 := hcell j (by omega)
        rw [show ((⟨g, o2, none⟩ : Addr).add j) = ⟨g, o2 + j, none⟩ by unfold Addr.add; split <;> simp_all, h3, List.getD_eq_getElem?_getD, List.getD_eq_getElem?_getD, List.getElem?_take, if_pos (by omega)])
      (fun j hj => (hth j hj).1) (fun j hj => (hth j hj).2) (bytesV_one _)
    refine ⟨_, fun ty => ?_, h2.1, fun h => ?_⟩
    · rw [hrun ty, bytesV_length, hk]
      rfl
    · have h3 := h2.2
      rw [List.drop_of_length_le (by rw [hk, hm]; omega)] at h3
      simpa [bytesV] using h3

def WholeEnd (B Ba at_ : Nat) (pre suf : List Value) (t : TypeId) (bs : List (BitVec 8)) (w : World) (e : Ending) (w' : World) : Prop :=
  Mod (fun k => k = B ∨ k = Ba) w w' ∧ if at_ + 32 ≤ bs.length then e = .returned (.bool true) ∧ w'.heap[Ba]? = some (.cells #[.int .i64 ((at_ + 32 : Nat) : Int)] 3 (0,0)) ∧ w'.heap[B]? = some (.cells (pre ++ (bytesV ((bs.drop at_).take 32) ++ suf)).toArray t (0,0)) else e = .returned (.bool false)

set_option maxRecDepth 100000 in
theorem whole_any (B Bb Ba off at_ : Nat) (pre suf : List Value) (m bs : List (BitVec 8)) (v : Value) (t : TypeId) (w : World) (hm : m.length = 32) (hof : off = pre.length) (x : w.heap[B]? = some (.cells (pre ++ (bytesV m ++ suf)).toArray t (0,0)))
    (hbb : w.cell? ⟨Bb, 0, none⟩ = some v) (hb : ByteAt w v bs) (ha : w.heap[Ba]? = some (.cells #[.int .i64 (at_ : Int)] 3 (0,0))) (hne : Ba ≠ B) (hbB : Bb ≠ B) (hat : at_ ≤ bs.length) (hl : bs.length < 4611686018427387904) :
    Calls Tryd.prog 90 #[.pointer (some ⟨B, off, none⟩), .pointer (some ⟨Bb, 0, none⟩), .pointer (some ⟨Ba, 0, none⟩)] w (WholeEnd B Ba at_ pre suf t bs w) := by
  obtain ⟨ad, cap, rfl, _⟩ := hb.slice
  obtain ⟨v2, hb2, hcut⟩ := hb.cutFrom at_ (by simpa using hat)
  have ca := cell_of_one ha
  obtain ⟨w1, hw1⟩ : ∃ w1, w1 = w.drew := ⟨_, rfl⟩
  have md : Mod (fun _ => False) w w1 := by rw [hw1]; exact (Mod.refl _ _).drew
  obtain ⟨w2, hrun, m2, h2⟩ := run_copy_any w1 B off pre suf m (bs.drop at_) v2 hm t (md.heap x (fun h => h)) hof (hb2.mod md (fun _ _ h => h))
  have ha1 := md.heap ha (fun h => h)
  have ha2 := m2.heap ha1 (fun h => hne h)
  have ca2 := cell_of_one ha2
  have fa2 := free_of_one ha2
  have m3 := (m2.mono (S' := fun k => k = B ∨ k = Ba) (fun _ _ h => .inl h)).setCell (p := ⟨Ba, 0, none⟩) (fun _ => .inr rfl)
  have hfin : ∀ n : Nat, n = min (bs.length - at_) 32 → WholeEnd B Ba at_ pre suf t bs w (.returned (.bool (decide (n = 32)))) (w2.setCell ⟨Ba, 0, none⟩ (.int .i64 ((at_ : Int) + (n : Int)))) := by
    intro n hn
    refine ⟨(md.mono (fun _ _ h => h.elim)).trans (m3 _), ?_⟩
    by_cases h32 : at_ + 32 ≤ bs.length
    · rw [if_pos h32]
      obtain rfl : n = 32 := by omega
      refine ⟨rfl, ?_, ?_⟩
      · rw [one_setCell ha2]
        rfl
      · exact (Mod.one_setCell w2 Ba 0 _).heap (h2 (by rw [List.length_drop]; omega)) (fun e => hne e.symm)
    · rw [if_neg h32, decide_eq_false (by omega)]
  replace hfin := Lib.hid hfin
  rw [List.length_drop] at hrun
  obtain ⟨n, hn⟩ : ∃ n, n = min (bs.length - at_) 32 := ⟨_, rfl⟩
  rw [← hn] at hrun
  have hn32 : n ≤ 32 := by omega
  have hcutd : (Instr.slice 27 (.slice ad bs.length cap) (some (.int .i64 (at_ : Int))) none none).run Tryd.prog w1 = .ok v2 w1 := hcut _
  have hS1 : w1.cell? ⟨Bb, 0, none⟩ = some (.slice ad bs.length cap) ∧ w1.cell? ⟨Ba, 0, none⟩ = some (.int .i64 (at_ : Int)) := ⟨by rw [hw1]; exact hbb, by rw [hw1]; exact ca⟩
  have hS2 : w2.cell? ⟨Bb, 0, none⟩ = some (.slice ad bs.length cap) ∧ w2.cell? ⟨Ba, 0, none⟩ = some (.int .i64 (at_ : Int)) := ⟨cell_mod m2 hS1.1 hbB, ca2⟩
  have ba : (at_ : Int) ≤ 4611686018427387904 := by omega
  have ba0 : (0 : Int) ≤ (at_ : Int) := by omega
  have bn0 : (0 : Int) ≤ (n : Int) := by omega
  have bn : (n : Int) ≤ 32 := by omega
  replace hn := Lib.hid hn
  replace hw1 := Lib.hid hw1
  replace hS1 := Lib.hid hS1
  replace hS2 := Lib.hid hS2
  replace hcut := Lib.hid hcut
  clear hcutd m3 ha1 m2 h2 md hne hat hl hn32 hbb hb x ha hof hm ha2
  -- WALK
  go_enter Tryd.func90, Tryd.ntmps90
  go_upto_region 1 with (fail)
  refine wp_region_any (by kernel_rfl) (any_of_Z (S := fun w' => w'.cell? ⟨Bb, 0, none⟩ = some (.slice ad bs.length cap) ∧ w'.cell? ⟨Ba, 0, none⟩ = some (.int .i64 (at_ : Int))) (z := 99) _ _ _ _ ?_)
  simp only [List.size_toArray, List.length_cons, List.length_nil, Nat.reduceAdd, Array.replicate_succ, Array.replicate_zero, List.push_toArray, List.nil_append, List.cons_append]
  change anyZ _ _ _ _ _ _ _ _ _ w.drew
  rw [← hw1.out]
  refine anyZ_take 0 _ (some 6) (.pointer (some ⟨B, off, none⟩)) rfl (by kernel_rfl) (by kernel_rfl) (by kernel_rfl) (by kernel_rfl) (by kernel_rfl) (by decide) rfl (fun w' hS => ?_) hS1.out ?_
  · go_simp
  simp only [Act.put, List.setIfInBounds_toArray, List.set_cons_zero, List.set_cons_succ]
  refine anyZ_take 1 _ (some 7) (.pointer (some ⟨B, off, none⟩)) rfl (by kernel_rfl) (by kernel_rfl) (by kernel_rfl) (by kernel_rfl) (by kernel_rfl) (by decide) rfl (fun w' hS => ?_) hS1.out ?_
  · go_simp
  simp only [Act.put, List.setIfInBounds_toArray, List.set_cons_zero, List.set_cons_succ]
  refine anyZ_take 2 _ (some 8) (.slice (some ⟨B, off, none⟩) 32 32) rfl (by kernel_rfl) (by kernel_rfl) (by kernel_rfl) (by kernel_rfl) (by kernel_rfl) (by decide) rfl (fun w' hS => ?_) hS1.out ?_
  · go_simp
  simp only [Act.put, List.setIfInBounds_toArray, List.set_cons_zero, List.set_cons_succ]
  refine anyZ_take 3 _ (some 9) (.slice ad bs.length cap) rfl (by kernel_rfl) (by kernel_rfl) (by kernel_rfl) (by kernel_rfl) (by kernel_rfl) (by decide) rfl (fun w' hS => ?_) hS1.out ?_
  · have h1 := hS.1; go_simp
  simp only [Act.put, List.setIfInBounds_toArray, List.set_cons_zero, List.set_cons_succ]
  refine anyZ_take 4 _ (some 10) (.int .i64 (at_ : Int)) rfl (by kernel_rfl) (by kernel_rfl) (by kernel_rfl) (by kernel_rfl) (by kernel_rfl) (by decide) rfl (fun w' hS => ?_) hS1.out ?_
  · have h1 := hS.2; go_simp
  simp only [Act.put, List.setIfInBounds_toArray, List.set_cons_zero, List.set_cons_succ]
  refine anyZ_take 5 _ (some 11) (v2) rfl (by kernel_rfl) (by kernel_rfl) (by kernel_rfl) (by kernel_rfl) (by kernel_rfl) (by decide) rfl (fun w' hS => ?_) hS1.out ?_
  · have h1 := hcut.out; go_simp
  simp only [Act.put, List.setIfInBounds_toArray, List.set_cons_zero, List.set_cons_succ]
  refine anyZ_next 6 _ (some 12) rfl (by kernel_rfl) (by kernel_rfl) rfl (.int .i64 (n : Int)) w2 (run_copyH_op rfl rfl rfl hrun) (fun _ => hS2.out) ?_
  simp only [Act.put, List.setIfInBounds_toArray, List.set_cons_zero, List.set_cons_succ]
  refine anyZ_take 7 _ (some 5) (.int .i64 (n : Int)) rfl (by kernel_rfl) (by kernel_rfl) (by kernel_rfl) (by kernel_rfl) (by kernel_rfl) (by decide) rfl (fun w' hS => ?_) hS2.out ?_
  · go_simp
  simp only [Act.put, List.setIfInBounds_toArray, List.set_cons_zero, List.set_cons_succ]
  refine anyZ_done (by kernel_rfl) ?_ _
  go_wp2
  go_ret
  have h := hfin.out n hn.out
  have e : ((n : Int) == 32) = decide (n = 32) := by rw [Bool.eq_iff_iff, beq_iff_eq, decide_eq_true_iff]; omega
  rw [← e] at h
  exact h
end Go.Proofs.YtkfikoacohogaaaDoor
