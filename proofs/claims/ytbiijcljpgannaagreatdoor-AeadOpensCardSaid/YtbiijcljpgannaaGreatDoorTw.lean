/-
  mailcoachlaw01.TwinBytes, LeftBytes. Printed by gen/tw.py.
-/
import Derived.BigQuiet
import Derived.Test.YtbiijcljpgannaaGreatDoorMA
namespace Go.Proofs.YtbiijcljpgannaaGreatDoor
set_option maxRecDepth 100000
open Go Go.RowKit Go.Lib
set_option linter.unusedSimpArgs false
set_option linter.unusedVariables false

theorem run_append_opT {P : Program} {ev : Operand → Value} {o : Oper} {d s : Operand} {dT sT : TypeId} {w w' : World} {vd vs r : Value} (ho : o.op = .call { callee := .builtin .append, args := #[d, s], argTypes := #[dT, sT] }) (hd : ev d = vd) (hs : ev s = vs)
    (hrun : (Builtin.append_ #[dT, sT] o.type #[vd, vs]).run P w = .ok r w') : (execOp ev o).run P w = .ok (.value r) w' := by
  unfold execOp
  simp [ho, resolve, invoke, builtin, hd, hs, hrun, Result.andThen]

/-- A twin of bytes, as it lies in memory. -/
def TwinAt (w : World) (v : Value) (b : List (BitVec 8)) : Prop := ∃ g, v = .slice (some ⟨g, 0, none⟩) b.length (b.length + 1) ∧ w.heap[g]? = some (.cells (encB (b ++ [77])) 5 (0,0))
theorem TwinAt.mod {S : Nat → Prop} {w w' : World} {v : Value} {b : List (BitVec 8)} (h : TwinAt w v b) (m : Mod S w w') (hS : ∀ k, ¬ S k) : TwinAt w' v b := by
  obtain ⟨g, h1, h2⟩ := h
  exact ⟨g, h1, m.heap h2 (hS _)⟩
theorem TwinAt.byteAt {w : World} {v : Value} {b : List (BitVec 8)} (h : TwinAt w v b) : ByteAt w v b := by
  obtain ⟨g, rfl, h2⟩ := h
  refine .inr ⟨g, 0, _, rfl, by omega, fun j hj => ?_⟩
  rw [Nat.zero_add, encB_cell h2 (i := j) (by simp; omega)]
  congr 3
  simp only [List.getD_eq_getElem?_getD, List.getElem?_append_left hj]
theorem run_append_fits_bytes {w : World} {base n cap g ga : Nat} {bs : List (BitVec 8)} {y : BitVec 8} (hown : w.ownsRow base 5 1 (.slice (some ⟨g, 0, none⟩) n cap) n (bytesV bs)) (hx : w.heap[ga]? = some (.cells (encB [y]) 5 (0,0))) (hroom : n + 1 ≤ cap) (ty : TypeId) :
    ∃ w', (Builtin.append_ #[22, 22] ty #[.slice (some ⟨g, 0, none⟩) n cap, .slice (some ⟨ga, 0, none⟩) 1 1]).run Tryz.prog w = .ok (.slice (some ⟨g, 0, none⟩) (n + 1) cap) w' ∧ w'.ownsRow base 5 1 (.slice (some ⟨g, 0, none⟩) (n + 1) cap) (n + 1) (bytesV (bs ++ [y])) ∧ w.grownBy w' (some g) := by
  obtain ⟨i0, hi, hz0, hz1, hz2⟩ := info_parts infoU8
  obtain ⟨w', h1, h2, h3⟩ := run_append_fits (P := Tryz.prog) w base 22 ty 5 i0 1 Tryz.underlying22 hi hz1 g n cap (bytesV bs) hown ⟨ga, 0, none⟩ 1 1 (bytesV [y]) rfl (cells_byteAt (ByteAt.row hx)) (bytesV_one _) hroom
  exact ⟨w', h1, by rw [bytesV_append]; exact h2, h3⟩
theorem own_full {w : World} {base n g : Nat} {bs : List (BitVec 8)} (h : w.ownsRow base 5 1 (.slice (some ⟨g, 0, none⟩) n n) n (bytesV bs)) : w.heap[g]? = some (.cells (encB bs) 5 (0,0)) := by
  rcases h.2 with ⟨h1, _⟩ | ⟨g', cap, cur, h1, h2, h3, h4, h5, h6, h7⟩
  · cases h1
  · injection h1 with h1 _ hc
    injection h1 with h1
    injection h1 with h1
    subst h1 hc
    rw [h3]
    rw [List.take_of_length_le (by rw [Array.length_toList, h6]; exact Nat.le_refl _)] at h7
    congr 2
    rw [encB, ← Array.toArray_toList (xs := cur), h7]
    rfl

set_option maxRecDepth 100000 in
set_option maxHeartbeats 4000000 in
theorem twin_new (vb : Value) (b : List (BitVec 8)) (w : World) (hb : ByteAt w vb b) (hbl : b.length < 140737488355328) :
    Calls Tryz.prog 7 #[vb] w fun e w' => Mod (fun _ => False) w w' ∧ ∃ v, e = .returned v ∧ TwinAt w' v b ∧ ∀ k, v.ownBlock = some k → w.heap.size ≤ k := by
  obtain ⟨ab, cb, rfl, _⟩ := hb.slice
  obtain ⟨n, hn⟩ : ∃ n, n = b.length := ⟨_, rfl⟩
  rw [← hn] at hb hbl ⊢
  have bn0 : (0 : Int) ≤ (n : Int) := by omega
  obtain ⟨i0, hi, hz0, hz1, hz2⟩ := info_parts infoU8
  obtain ⟨G, hG⟩ : ∃ G, G = w.heap.size := ⟨_, rfl⟩
  obtain ⟨w1, mk, own1, grow1⟩ := run_make_own (P := Tryz.prog) w w.heap.size 22 5 i0 (.int .u8 0) 1 Tryz.underlying22 hi hz0 hz1 .i64 .i64 (n + 1) (by rw [hz2]; omega) (by unfold maxLen; omega) (Nat.le_refl _)
  have m1 : Mod (fun _ => False) w w1 := (Mod.refl _ _).grown grow1 (fun k hk _ => by cases hk)
  rw [← hG] at mk own1
  have hmk : (Instr.makeSlice 22 (.int .i64 0) (.int .i64 ((n : Int) + 1))).run Tryz.prog w = .ok (.slice (some ⟨G, 0, none⟩) 0 (n + 1)) w1 := mk
  have hwn : IntKind.i64.wrap ((n : Int) + 1) = (n : Int) + 1 := by rw [IntKind.wrap_i64]; omega
  replace hG := Lib.hid hG
  replace hn := Lib.hid hn
  replace hb := Lib.hid hb
  replace own1 := Lib.hid own1
  replace m1 := Lib.hid m1
  clear mk grow1 hi hz0 hz1 hz2
  go_enter Tryz.func7, Tryz.ntmps7
  go_upto_region 1 with (fail)
  refine wp_region_lit ?_
  refine wpList_reads (by kernel_rfl) (.slice ab n cb) (by go_simp) ?_
  simp only [Act.put, List.setIfInBounds_toArray, List.set_cons_zero, List.set_cons_succ]
  refine wpList_reads (by kernel_rfl) (.int .i64 (n : Int)) (by go_simp) ?_
  simp only [Act.put, List.setIfInBounds_toArray, List.set_cons_zero, List.set_cons_succ]
  refine wpList_reads (by kernel_rfl) (.int .i64 ((n : Int) + 1)) (by go_simp) ?_
  simp only [Act.put, List.setIfInBounds_toArray, List.set_cons_zero, List.set_cons_succ]
  refine wpList_yields (by kernel_rfl) (.slice (some ⟨G, 0, none⟩) 0 (n + 1)) w1 (by go_simp) ?_
  simp only [Act.put, List.setIfInBounds_toArray, List.set_cons_zero, List.set_cons_succ]
  refine wpList_reads (by kernel_rfl) (.slice (some ⟨G, 0, none⟩) 0 (n + 1)) (by go_simp) ?_
  simp only [Act.put, List.setIfInBounds_toArray, List.set_cons_zero, List.set_cons_succ]
  clear hmk
  go_wp2
  go_loopg [3, 4] n (fun gh lv iv wr => ∃ j : Nat, j + gh = n ∧ iv = .int .i64 (j : Int) ∧ lv = .slice (some ⟨G, 0, none⟩) j (n + 1) ∧ Mod (fun _ => False) w wr ∧ wr.ownsRow G 5 1 (.slice (some ⟨G, 0, none⟩) j (n + 1)) j (bytesV (b.take j)))
  case atStart => exact ⟨0, by omega, rfl, rfl, m1.out, own1.out⟩
  case round =>
    obtain ⟨j, hjg, rfl, rfl, mr, own⟩ := hrel
    have bj0 : (0 : Int) ≤ (j : Int) := by omega
    have bjn : (j : Int) ≤ (n : Int) := by omega
    by_cases hlt : j < n
    · have hd : decide (j < n) = true := by rw [decide_eq_true_iff]; exact hlt
      have bjl : (j : Int) < (n : Int) := by omega
      have hbr := hb.out.mod mr (fun _ _ h => h)
      obtain ⟨a5, c5, h5, h6⟩ := hbr.slice
      obtain ⟨g, off, h7, h8, h9⟩ := h6 j (by rw [← hn.out]; exact hlt)
      obtain rfl : ab = some ⟨g, off, none⟩ := by injection h5 with h5; rw [h5, h7]
      obtain ⟨y, hy⟩ : ∃ y, y = b.getD j 0 := ⟨_, rfl⟩
      rw [← hy] at h9
      have hty : b.take (j + 1) = b.take j ++ [y] := by
        rw [List.take_add_one, List.getElem?_eq_getElem (by rw [← hn.out]; exact hlt), hy]
        simp [show j < b.length by rw [← hn.out]; exact hlt]
      replace hy := Lib.hid hy
      replace hty := Lib.hid hty
      replace hlt := Lib.hid hlt
      replace hjg := Lib.hid hjg
      clear hbr h5 h6 h7 h8 a5 c5
      obtain ⟨wa9, hwa9⟩ : ∃ xx_, xx_ = wr.alloc (.cells #[.int .u8 (y.toNat : Int)] 5) := ⟨_, rfl⟩
      obtain ⟨ga9, hga9⟩ : ∃ g, g = wr.heap.size := ⟨_, rfl⟩
      have ma9 : Mod (fun _ => False) wr wa9 := by rw [hwa9]; exact (Mod.refl _ _).alloc _
      have xa9 : wa9.heap[ga9]? = some (.cells (encB [y]) 5 (0,0)) := by rw [hwa9]; exact hp_new _ _ _ hga9
      have ba9 := ByteAt.row xa9
      have owna9 := ownsRow_keep0 own ma9
      have mm9 := mr.trans ma9
      replace hwa9 := Lib.hid hwa9
      replace hga9 := Lib.hid hga9
      clear ma9
      obtain ⟨w9, hr9, own9, gr9⟩ := run_append_fits_bytes owna9 xa9 (by have := hlt.out; omega) 22
      have m9 : Mod (fun _ => False) w w9 := mm9.trans' ((Mod.refl _ _).grown (S := fun k => k = G) gr9 (fun k hk _ => by injection hk with h; exact h.symm)) (fun k hk h => by have := hG.out; omega)
      rw [← hty.out] at own9
      replace own9 := Lib.hid own9
      replace m9 := Lib.hid m9
      have cy := cell_mod (S := fun _ => False) (w := wr) (w' := wr) (Mod.refl _ _) h9 (fun h => h)
      go_upto_region 5 with (fail)
      refine wp_region_lit ?_
      refine wpList_reads (by kernel_rfl) (.slice (some ⟨G, 0, none⟩) j (n + 1)) (by go_simp) ?_
      simp only [Act.put, List.setIfInBounds_toArray, List.set_cons_zero, List.set_cons_succ]
      refine wpList_reads (by kernel_rfl) (.slice (some ⟨g, off, none⟩) n cb) (by go_simp) ?_
      simp only [Act.put, List.setIfInBounds_toArray, List.set_cons_zero, List.set_cons_succ]
      refine wpList_reads (by kernel_rfl) (.int .i64 (j : Int)) (by go_simp) ?_
      simp only [Act.put, List.setIfInBounds_toArray, List.set_cons_zero, List.set_cons_succ]
      refine wpList_reads (by kernel_rfl) (.pointer (some ⟨g, off + j, none⟩)) (by go_simp) ?_
      simp only [Act.put, List.setIfInBounds_toArray, List.set_cons_zero, List.set_cons_succ]
      refine wpList_reads (by kernel_rfl) (.int .u8 (y.toNat : Int)) (by go_simp) ?_
      simp only [Act.put, List.setIfInBounds_toArray, List.set_cons_zero, List.set_cons_succ]
      refine wpList_yields (by kernel_rfl) (.slice (some ⟨ga9, 0, none⟩) 1 1) wa9 (by rw [hwa9.out, hga9.out]; go_simp) ?_
      simp only [Act.put, List.setIfInBounds_toArray, List.set_cons_zero, List.set_cons_succ]
      refine wpList_yields (by kernel_rfl) (.slice (some ⟨G, 0, none⟩) (j + 1) (n + 1)) w9 (run_append_opT rfl rfl rfl hr9) ?_
      simp only [Act.put, List.setIfInBounds_toArray, List.set_cons_zero, List.set_cons_succ]
      refine wpList_reads (by kernel_rfl) (.slice (some ⟨G, 0, none⟩) (j + 1) (n + 1)) (by go_simp) ?_
      simp only [Act.put, List.setIfInBounds_toArray, List.set_cons_zero, List.set_cons_succ]
      clear hr9 own mr owna9 mm9 ba9 xa9 gr9 h9 cy
      go_wp2
      go_roundg (gk - 1)
      case measure => have := hjg.out; have := hlt.out; omega
      case rel => exact ⟨j + 1, by have := hjg.out; have := hlt.out; omega, by go_num, rfl, m9.out, own9.out⟩
    · have hjn : j = n := by omega
      have hd : decide (j < n) = false := by rw [decide_eq_false_iff_not]; exact hlt
      rw [List.take_of_length_le (by rw [← hn.out]; omega)] at own
      replace hjn := Lib.hid hjn
      replace hjg := Lib.hid hjg
      replace hlt := Lib.hid hlt
      obtain ⟨wa9, hwa9⟩ : ∃ xx_, xx_ = wr.alloc (.cells #[.int .u8 77] 5) := ⟨_, rfl⟩
      obtain ⟨ga9, hga9⟩ : ∃ g, g = wr.heap.size := ⟨_, rfl⟩
      have ma9 : Mod (fun _ => False) wr wa9 := by rw [hwa9]; exact (Mod.refl _ _).alloc _
      have xa9 : wa9.heap[ga9]? = some (.cells (encB [77]) 5 (0,0)) := by rw [hwa9]; exact hp_new _ _ _ hga9
      have ba9 := ByteAt.row xa9
      have owna9 := ownsRow_keep0 own ma9
      have mm9 := mr.trans ma9
      replace hwa9 := Lib.hid hwa9
      replace hga9 := Lib.hid hga9
      clear ma9
      obtain ⟨w9, hr9, own9, gr9⟩ := run_append_fits_bytes owna9 xa9 (by have := hjn.out; omega) 22
      have m9 : Mod (fun _ => False) w w9 := mm9.trans' ((Mod.refl _ _).grown (S := fun k => k = G) gr9 (fun k hk _ => by injection hk with h; exact h.symm)) (fun k hk h => by have := hG.out; omega)
      have hfin : TwinAt w9 (.slice (some ⟨G, 0, none⟩) n (n + 1)) b := by
        refine ⟨G, by rw [hn.out], ?_⟩
        rw [hjn.out] at own9
        exact own_full own9
      have hsl : (Instr.slice 22 (.slice (some ⟨G, 0, none⟩) (j + 1) (n + 1)) none (some (.int .i64 (n : Int))) none).run Tryz.prog w9 = .ok (.slice (some ⟨G, 0, none⟩) n (n + 1)) w9 := by
        have hjn' := hjn.out
        rw [run_slice_h w9 22 _ _ _ Tryz.underlying22 .i64 _ (by omega) (by omega), size_u8]
        unfold Go.sliced
        simp [Addr.add]
      replace hfin := Lib.hid hfin
      replace m9 := Lib.hid m9
      go_upto_region 6 with (fail)
      refine wp_region_lit ?_
      refine wpList_reads (by kernel_rfl) (.slice (some ⟨G, 0, none⟩) j (n + 1)) (by go_simp) ?_
      simp only [Act.put, List.setIfInBounds_toArray, List.set_cons_zero, List.set_cons_succ]
      refine wpList_yields (by kernel_rfl) (.slice (some ⟨ga9, 0, none⟩) 1 1) wa9 (by rw [hwa9.out, hga9.out]; go_simp) ?_
      simp only [Act.put, List.setIfInBounds_toArray, List.set_cons_zero, List.set_cons_succ]
      refine wpList_yields (by kernel_rfl) (.slice (some ⟨G, 0, none⟩) (j + 1) (n + 1)) w9 (run_append_opT rfl rfl rfl hr9) ?_
      simp only [Act.put, List.setIfInBounds_toArray, List.set_cons_zero, List.set_cons_succ]
      refine wpList_reads (by kernel_rfl) (.slice ab n cb) (by go_simp) ?_
      simp only [Act.put, List.setIfInBounds_toArray, List.set_cons_zero, List.set_cons_succ]
      refine wpList_reads (by kernel_rfl) (.int .i64 (n : Int)) (by go_simp) ?_
      simp only [Act.put, List.setIfInBounds_toArray, List.set_cons_zero, List.set_cons_succ]
      refine wpList_reads (by kernel_rfl) (.slice (some ⟨G, 0, none⟩) n (n + 1)) (by go_simp) ?_
      simp only [Act.put, List.setIfInBounds_toArray, List.set_cons_zero, List.set_cons_succ]
      refine wpList_reads (by kernel_rfl) (.slice (some ⟨G, 0, none⟩) n (n + 1)) (by go_simp) ?_
      simp only [Act.put, List.setIfInBounds_toArray, List.set_cons_zero, List.set_cons_succ]
      clear hr9 own mr owna9 mm9 ba9 xa9 gr9 hsl
      go_wp2
      go_ret
      exact ⟨m9.out, _, rfl, hfin.out, fun k hk => by have h1 : G = k := (by injection hk); have := hG.out; omega⟩

theorem twin_any (vb : Value) (b : List (BitVec 8)) (w : World) (hb : ByteAt w vb b) (hbl : b.length < 140737488355328) :
    Calls Tryz.prog 7 #[vb] w fun e w' => Mod (fun _ => False) w w' ∧ ∃ v, e = .returned v ∧ TwinAt w' v b :=
  (twin_new vb b w hb hbl).mono fun e w' ⟨h1, v, h2, h3, _⟩ => ⟨h1, v, h2, h3⟩
set_option maxRecDepth 100000 in
set_option maxHeartbeats 4000000 in
theorem left_any (vt vb : Value) (b : List (BitVec 8)) (w : World) (ht : TwinAt w vt b) (hb : ByteAt w vb b) (hbl : b.length < 140737488355328) :
    Calls Tryz.prog 12 #[vt, vb] w fun e w' => Mod (fun _ => False) w w' ∧ e = .returned (.bool true) := by
  obtain ⟨ab, cb, rfl, _⟩ := hb.slice
  obtain ⟨n, hn⟩ : ∃ n, n = b.length := ⟨_, rfl⟩
  obtain ⟨G, rfl, xG⟩ := ht
  rw [← hn] at hb hbl ⊢
  have bn0 : (0 : Int) ≤ (n : Int) := by omega
  have hcap : decide ((n : Int) + 1 ≤ (n : Int)) = false := by rw [decide_eq_false_iff_not]; omega
  have hcap2 : decide (n + 1 ≤ n) = false := by rw [decide_eq_false_iff_not]; omega
  have hwn : IntKind.i64.wrap ((n : Int) + 1) = (n : Int) + 1 := by rw [IntKind.wrap_i64]; omega
  replace hn := Lib.hid hn
  replace hb := Lib.hid hb
  replace xG := Lib.hid xG
  go_enter Tryz.func12, Tryz.ntmps12
  go_wp2
  go_loopg [5] n (fun gh iv wr => ∃ j : Nat, j + gh = n ∧ iv = .int .i64 (j : Int) ∧ Mod (fun _ => False) w wr)
  case atStart => exact ⟨0, by omega, rfl, Mod.refl _ _⟩
  case round =>
    obtain ⟨j, hjg, rfl, mr⟩ := hrel
    have bj0 : (0 : Int) ≤ (j : Int) := by omega
    have bjn : (j : Int) ≤ (n : Int) := by omega
    by_cases hlt : j < n
    · have hd : decide (j < n) = true := by rw [decide_eq_true_iff]; exact hlt
      have bjl : (j : Int) < (n : Int) := by omega
      have hbr := hb.out.mod mr (fun _ _ h => h)
      obtain ⟨a5, c5, h5, h6⟩ := hbr.slice
      obtain ⟨g, off, h7, h8, h9⟩ := h6 j (by rw [← hn.out]; exact hlt)
      obtain rfl : ab = some ⟨g, off, none⟩ := by injection h5 with h5; rw [h5, h7]
      have h10 := encB_cell (mr.heap xG.out (fun h => h)) (i := j) (by simp [← hn.out]; omega)
      obtain ⟨y, hy⟩ : ∃ y, y = b.getD j 0 := ⟨_, rfl⟩
      have e10 : (b ++ [(77 : BitVec 8)]).getD j 0 = y := by rw [hy]; simp only [List.getD_eq_getElem?_getD, List.getElem?_append_left (show j < b.length by rw [← hn.out]; exact hlt)]
      rw [e10] at h10
      clear e10
      rw [← hy] at h9
      replace hy := Lib.hid hy
      replace hlt := Lib.hid hlt
      replace hjg := Lib.hid hjg
      replace mr := Lib.hid mr
      clear hbr h5 h6 h7 h8 a5 c5
      go_upto_region 6 with (fail)
      go_quiet (fail)
      have mq : Mod (fun _ => False) w (wr.drewN nq) := mr.out.drewN nq
      obtain ⟨wq, hwq⟩ : ∃ x, x = wr.drewN nq := ⟨_, rfl⟩
      rw [← hwq] at mq ⊢
      replace hwq := Lib.hid hwq
      replace mq := Lib.hid mq
      clear h9 h10
      go_wp2
      go_roundg (gk - 1)
      case measure => have := hjg.out; have := hlt.out; omega
      case rel => exact ⟨j + 1, by have := hjg.out; have := hlt.out; omega, by go_num, mq.out⟩
    · have hd : decide (j < n) = false := by rw [decide_eq_false_iff_not]; exact hlt
      have h10 := encB_cell (mr.heap xG.out (fun h => h)) (i := n) (by simp [← hn.out])
      have e10 : (b ++ [(77 : BitVec 8)]).getD n 0 = 77 := by rw [hn.out]; simp
      rw [e10] at h10
      clear e10
      have hsl : (Instr.slice 22 (.slice (some ⟨G, 0, none⟩) n (n + 1)) none (some (.int .i64 ((n : Int) + 1))) none).run Tryz.prog wr = .ok (.slice (some ⟨G, 0, none⟩) (n + 1) (n + 1)) wr := by
        have h := run_slice_h (P := Tryz.prog) wr 22 (some ⟨G, 0, none⟩) n (n + 1) Tryz.underlying22 .i64 (n + 1 : Nat) (by omega) (by omega)
        rw [size_u8] at h
        rw [show (n : Int) + 1 = ((n + 1 : Nat) : Int) by omega, h]
        unfold Go.sliced
        simp [Addr.add]
      have hix : (n : Int) < (n : Int) + 1 := by omega
      replace mr := Lib.hid mr
      replace hlt := Lib.hid hlt
      replace hjg := Lib.hid hjg
      go_upto_region 8 with (fail)
      refine wp_region_lit ?_
      refine wpList_reads (by kernel_rfl) (.slice (some ⟨G, 0, none⟩) n (n + 1)) (by go_simp) ?_
      simp only [Act.put, List.setIfInBounds_toArray, List.set_cons_zero, List.set_cons_succ]
      refine wpList_reads (by kernel_rfl) (.slice ab n cb) (by go_simp) ?_
      simp only [Act.put, List.setIfInBounds_toArray, List.set_cons_zero, List.set_cons_succ]
      refine wpList_reads (by kernel_rfl) (.int .i64 (n : Int)) (by go_simp) ?_
      simp only [Act.put, List.setIfInBounds_toArray, List.set_cons_zero, List.set_cons_succ]
      refine wpList_reads (by kernel_rfl) (.int .i64 ((n : Int) + 1)) (by go_simp) ?_
      simp only [Act.put, List.setIfInBounds_toArray, List.set_cons_zero, List.set_cons_succ]
      refine wpList_reads (by kernel_rfl) (.slice (some ⟨G, 0, none⟩) (n + 1) (n + 1)) (by go_simp) ?_
      simp only [Act.put, List.setIfInBounds_toArray, List.set_cons_zero, List.set_cons_succ]
      refine wpList_reads (by kernel_rfl) (.slice ab n cb) (by go_simp) ?_
      simp only [Act.put, List.setIfInBounds_toArray, List.set_cons_zero, List.set_cons_succ]
      refine wpList_reads (by kernel_rfl) (.int .i64 (n : Int)) (by go_simp) ?_
      simp only [Act.put, List.setIfInBounds_toArray, List.set_cons_zero, List.set_cons_succ]
      refine wpList_reads (by kernel_rfl) (.pointer (some ⟨G, n, none⟩)) (by go_simp) ?_
      simp only [Act.put, List.setIfInBounds_toArray, List.set_cons_zero, List.set_cons_succ]
      refine wpList_reads (by kernel_rfl) (.int .u8 77) (by go_simp) ?_
      simp only [Act.put, List.setIfInBounds_toArray, List.set_cons_zero, List.set_cons_succ]
      refine wpList_reads (by kernel_rfl) (.int .u8 77) (by go_simp) ?_
      simp only [Act.put, List.setIfInBounds_toArray, List.set_cons_zero, List.set_cons_succ]
      clear h10 hsl
      go_wp2
      go_ret
      exact ⟨mr.out, rfl⟩
end Go.Proofs.YtbiijcljpgannaaGreatDoor
