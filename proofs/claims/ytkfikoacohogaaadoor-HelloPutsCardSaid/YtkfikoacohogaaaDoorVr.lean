/-
  mailcoachref01.Size, Put. Printed by gen/vref.py.
-/
import Derived.Test.YtkfikoacohogaaaDoorVi
import Derived.Test.YtkfikoacohogaaaDoorMA
namespace Go.Proofs.YtkfikoacohogaaaDoor
set_option maxRecDepth 100000
open Go Go.RowKit Go.Lib
set_option linter.unusedSimpArgs false
set_option linter.unusedVariables false

theorem own_sliceV {w : World} {base n size : Nat} {e : TypeId} {v : Value} {xs : List Value} (h : w.ownsRow base e size v n xs) : ∃ a c, v = .slice a n c := by
  rcases h.2 with ⟨h1, h2⟩ | ⟨g, cap, cur, h1, _⟩
  · exact ⟨_, _, by rw [h1, h2]⟩
  · exact ⟨_, _, h1⟩
theorem be_take (s n t : Nat) (h : t < s) : (be s n).take (t + 1) = (be s n).take t ++ [BitVec.ofNat 8 (n / 256 ^ (s - 1 - t))] := by
  unfold be
  rw [← List.map_take, ← List.map_take, List.take_range, List.take_range, Nat.min_eq_left (by omega), Nat.min_eq_left (by omega), List.range_succ, List.map_append]
  rfl
theorem or64 (a h : Nat) (ha : a < 64) (hh : h < 4) : BitVec.ofNat 8 a ||| BitVec.ofNat 8 (64 * h) = BitVec.ofNat 8 (a + 64 * h) := by
  apply BitVec.eq_of_toNat_eq
  rw [BitVec.toNat_or, BitVec.toNat_ofNat, BitVec.toNat_ofNat, BitVec.toNat_ofNat, Nat.mod_eq_of_lt (by omega), Nat.mod_eq_of_lt (by omega), Nat.mod_eq_of_lt (by omega)]
  have := Nat.two_pow_add_eq_or_of_lt (i := 6) (b := a) (by omega) h
  rw [show (2 : Nat) ^ 6 = 64 from rfl] at this
  rw [Nat.or_comm]
  omega
theorem be_or (s n h : Nat) (hs : 0 < s) (hh : h < 4) (hn : n < 2 ^ (8 * s - 2)) : (be s n).set 0 ((be s n).getD 0 0 ||| BitVec.ofNat 8 (64 * h)) = be s (n + h * 2 ^ (8 * s - 2)) := by
  obtain ⟨r, rfl⟩ : ∃ r, s = r + 1 := ⟨s - 1, by omega⟩
  have hp : 2 ^ (8 * (r + 1) - 2) = 64 * 256 ^ r := by
    rw [show 8 * (r + 1) - 2 = 6 + 8 * r by omega, Nat.pow_add, Nat.pow_mul]
  rw [hp] at hn ⊢
  apply List.ext_getElem
  · simp [be]
  · intro j h1 h2
    have hj : j < r + 1 := by simpa [be] using h2
    have hq : 0 < 256 ^ (r - j) := Nat.pow_pos (by omega)
    have e1 : (be (r + 1) (n + h * (64 * 256 ^ r)))[j] = BitVec.ofNat 8 ((n + h * (64 * 256 ^ r)) / 256 ^ (r - j)) := by simp [be]
    have e2 : 256 ^ r = 256 ^ j * 256 ^ (r - j) := by rw [← Nat.pow_add]; congr 1; omega
    have e3 : (n + h * (64 * 256 ^ r)) / 256 ^ (r - j) = n / 256 ^ (r - j) + h * 64 * 256 ^ j := by
      rw [e2, show n + h * (64 * (256 ^ j * 256 ^ (r - j))) = n + (h * 64 * 256 ^ j) * 256 ^ (r - j) by rw [← Nat.mul_assoc, ← Nat.mul_assoc, Nat.mul_assoc h]]
      exact Nat.add_mul_div_right _ _ hq
    rw [e1, e3, List.getElem_set]
    by_cases h0 : 0 = j
    · subst h0
      rw [if_pos rfl]
      have e4 : (be (r + 1) n).getD 0 0 = BitVec.ofNat 8 (n / 256 ^ r) := by simp [be]
      rw [e4, or64 _ _ ((Nat.div_lt_iff_lt_mul (Nat.pow_pos (by omega))).2 hn) hh]
      simp only [Nat.pow_zero, Nat.mul_one, Nat.sub_zero]
      rw [Nat.mul_comm 64 h]
    · rw [if_neg h0]
      have e4 : (be (r + 1) n)[j]'(by simp [be]; omega) = BitVec.ofNat 8 (n / 256 ^ (r - j)) := by simp [be]
      rw [e4]
      apply BitVec.eq_of_toNat_eq
      rw [BitVec.toNat_ofNat, BitVec.toNat_ofNat]
      obtain ⟨i, rfl⟩ : ∃ i, j = i + 1 := ⟨j - 1, by omega⟩
      rw [show h * 64 * 256 ^ (i + 1) = (h * 64 * 256 ^ i) * 2 ^ 8 by rw [show 256 ^ (i + 1) = 256 ^ i * 256 from Nat.pow_succ _ _, ← Nat.mul_assoc]]
      rw [Nat.add_mul_mod_self_right]
theorem vput_or {n : Nat} (h : n < 4611686018427387904) : (be (vsz n) n).set 0 ((be (vsz n) n).getD 0 0 ||| BitVec.ofNat 8 (64 * vhi n)) = vput n := be_or (vsz n) n (vhi n) (vsz_pos n) (vhi_lt n) (vhi_fits h)
theorem bytesV_setV (l : List (BitVec 8)) (i : Nat) (x : BitVec 8) : (bytesV l).set i (.int .u8 (x.toNat : Int)) = bytesV (l.set i x) := by
  simp [bytesV, List.map_set]
theorem bits_or8 (a b : BitVec 8) : bits .or .u8 (a.toNat : Int) (b.toNat : Int) = ((a ||| b).toNat : Int) := by
  rw [u8_or_nat _ _ a.isLt b.isLt, BitVec.toNat_or]

theorem size_any (n : Nat) (hn : n < 18446744073709551616) (w : World) : Calls Tryd.prog 89 #[.int .u64 (n : Int)] w fun e w' => e = .returned (.int .i64 ((vsz n : Nat) : Int)) ∧ Mod (fun _ => False) w w' := by
  have bn0 : (0 : Int) ≤ (n : Int) := by omega
  unfold vsz vhi
  by_cases h1 : n < 64
  · have e1 : decide ((n : Int) < 64) = true := by rw [decide_eq_true_iff]; omega
    rw [if_pos h1]
    clear h1 hn
    go_enter Tryd.func89, Tryd.ntmps89
    go_wp2
    go_ret
    exact ⟨rfl, Mod.refl _ _⟩
  · have e1 : decide ((n : Int) < 64) = false := by rw [decide_eq_false_iff_not]; omega
    rw [if_neg h1]
    by_cases h2 : n < 16384
    · have e2 : decide ((n : Int) < 16384) = true := by rw [decide_eq_true_iff]; omega
      rw [if_pos h2]
      clear h1 h2 hn
      go_enter Tryd.func89, Tryd.ntmps89
      go_wp2
      go_ret
      exact ⟨rfl, Mod.refl _ _⟩
    · have e2 : decide ((n : Int) < 16384) = false := by rw [decide_eq_false_iff_not]; omega
      rw [if_neg h2]
      by_cases h3 : n < 1073741824
      · have e3 : decide ((n : Int) < 1073741824) = true := by rw [decide_eq_true_iff]; omega
        rw [if_pos h3]
        clear h1 h2 h3 hn
        go_enter Tryd.func89, Tryd.ntmps89
        go_wp2
        go_ret
        exact ⟨rfl, Mod.refl _ _⟩
      · have e3 : decide ((n : Int) < 1073741824) = false := by rw [decide_eq_false_iff_not]; omega
        rw [if_neg h3]
        clear h1 h2 h3 hn
        go_enter Tryd.func89, Tryd.ntmps89
        go_wp2
        go_ret
        exact ⟨rfl, Mod.refl _ _⟩
theorem run_append_opV {P : Program} {ev : Operand → Value} {o : Oper} {d s : Operand} {dT sT : TypeId} {w w' : World} {vd vs r : Value} (ho : o.op = .call { callee := .builtin .append, args := #[d, s], argTypes := #[dT, sT] }) (hd : ev d = vd) (hs : ev s = vs)
    (hrun : (Builtin.append_ #[dT, sT] o.type #[vd, vs]).run P w = .ok r w') : (execOp ev o).run P w = .ok (.value r) w' := by
  unfold execOp
  simp [ho, resolve, invoke, builtin, hd, hs, hrun, Result.andThen]
/-- What the document's Put answers. -/
def RefVEnd (n : Nat) (w : World) (e : Ending) (w' : World) : Prop :=
  Mod (fun _ => False) w w' ∧ if n < 4611686018427387904 then ∃ v, e = .returned (.tuple #[v, .int .i64 0]) ∧ w'.ownsRow w.heap.size 5 1 v (vput n).length (bytesV (vput n)) else e = .returned (.tuple #[.slice none 0 0, .int .i64 1])

set_option maxRecDepth 100000 in
set_option maxHeartbeats 4000000 in
theorem refput_any (n : Nat) (hn : n < 18446744073709551616) (w : World) : Calls Tryd.prog 58 #[.int .u64 (n : Int)] w (RefVEnd n w) := by
  have bn0 : (0 : Int) ≤ (n : Int) := by omega
  have bn1 : (n : Int) < 18446744073709551616 := by omega
  by_cases hbig : 4611686018427387903 < n
  · have hd : decide ((4611686018427387903 : Int) < (n : Int)) = true := by rw [decide_eq_true_iff]; omega
    have hfin : RefVEnd n w (.returned (.tuple #[.slice none 0 0, .int .i64 1])) w := ⟨Mod.refl _ _, by rw [if_neg (by omega)]⟩
    replace hfin := Lib.hid hfin
    clear hbig hn bn1
    go_enter Tryd.func58, Tryd.ntmps58
    go_wp2
    refine bodyPost_ret (results_tmp2 rfl _ _ _) rfl ?_
    exact hfin.out
  · have hd : decide ((4611686018427387903 : Int) < (n : Int)) = false := by rw [decide_eq_false_iff_not]; omega
    have hn62 : n < 4611686018427387904 := by omega
    obtain ⟨s, hs⟩ : ∃ s, s = vsz n := ⟨_, rfl⟩
    have hvo := vput_or hn62
    have hvl := vput_length n
    rw [← hs] at hvo hvl
    have hs4 : (s = 1 ∧ vhi n = 0) ∨ (s = 2 ∧ vhi n = 1) ∨ (s = 4 ∧ vhi n = 2) ∨ (s = 8 ∧ vhi n = 3) := by
      rw [hs]
      unfold vsz
      rcases four (vhi_lt n) with h | h | h | h <;> rw [h] <;> decide
    have hs1 : 1 ≤ s := by omega
    have hs8 : s ≤ 8 := by omega
    have hbl : (be s n).length = s := be_length s n
    have hbt := be_take s n
    have hend : ∀ v w', Mod (fun _ => False) w w' → w'.ownsRow w.heap.size 5 1 v s (bytesV (vput n)) → RefVEnd n w (.returned (.tuple #[v, .int .i64 0])) w' := fun v w' h1 h2 => ⟨h1, by rw [if_pos hn62]; exact ⟨v, rfl, by rw [hvl]; exact h2⟩⟩
    have hws1 : IntKind.i64.wrap ((s : Int) - 1) = (s : Int) - 1 := by rw [IntKind.wrap_i64]; omega
    obtain ⟨B, hB⟩ : ∃ B, B = be s n := ⟨_, rfl⟩
    rw [← hB] at hvo hbl hbt
    have hbs0 : (0 : Int) ≤ (s : Int) := by omega
    have hn2 := hn
    replace hn2 := Lib.hid hn2
    replace hs := Lib.hid hs
    replace hvo := Lib.hid hvo
    replace hvl := Lib.hid hvl
    replace hs4 := Lib.hid hs4
    replace hbl := Lib.hid hbl
    replace hbt := Lib.hid hbt
    replace hend := Lib.hid hend
    replace hB := Lib.hid hB
    replace hn62 := Lib.hid hn62
    clear hbig hn bn1
    go_enter Tryd.func58, Tryd.ntmps58
    go_upto_region 3 with (fail)
    refine wp_region_lit ?_
    refine wpList_reads (by kernel_rfl) (.int .u64 (n : Int)) (by go_simp) ?_
    simp only [Act.put, List.setIfInBounds_toArray, List.set_cons_zero, List.set_cons_succ]
    refine wpList_enter (by kernel_rfl) 89 #[.int .u64 (n : Int)] (by go_simp) (size_any n hn2.out w) ?_
    rintro e w1 ⟨rfl, m1⟩
    rw [← hs.out]
    replace m1 := Lib.hid m1
    refine ⟨_, rfl, ?_⟩
    simp only [Act.put, List.setIfInBounds_toArray, List.set_cons_zero, List.set_cons_succ]
    refine wpList_reads (by kernel_rfl) (.int .i64 (s : Int)) (by go_simp) ?_
    simp only [Act.put, List.setIfInBounds_toArray, List.set_cons_zero, List.set_cons_succ]
    obtain ⟨wx, hwx⟩ : ∃ x, x = w1 := ⟨_, rfl⟩
    rw [← hwx] at m1 ⊢
    replace hwx := Lib.hid hwx
    go_wp2
    go_loopw [5, 6] (fun lv iv wr => ∃ (t : Nat) (J : Int), t ≤ s ∧ J = (s : Int) - 1 - (t : Int) ∧ iv = .int .i64 J ∧ Mod (fun _ => False) w wr ∧ wr.ownsRow w.heap.size 5 1 lv t (bytesV (B.take t))) (fun _ iv _ => (intOf iv + 1).toNat)
    case atStart => exact ⟨0, _, by omega, by omega, rfl, m1.out, World.ownsRow_nil _ _ _ _⟩
    case round =>
      obtain ⟨t, J, hts, hJ, rfl, mr, own⟩ := hrel
      obtain ⟨ll, cc, hlv⟩ := own_sliceV own
      subst hlv
      by_cases hlt : t < s
      · obtain ⟨i, rfl⟩ : ∃ i : Nat, J = (i : Int) := ⟨s - 1 - t, by omega⟩
        have bi0 : (0 : Int) ≤ (i : Int) := by omega
        have hi7 : i ≤ 7 := by omega
        have hit : s - 1 - t = i := by omega
        obtain ⟨q, hq⟩ : ∃ q, q = 8 * i := ⟨_, rfl⟩
        have hqi : 8 * (i : Int) = (q : Int) := by omega
        have hwq : IntKind.i64.wrap (q : Int) = (q : Int) := by rw [IntKind.wrap_i64]; omega
        have bq0 : (0 : Int) ≤ (q : Int) := by omega
        have bq64 : (q : Int) ≤ 64 := by omega
        obtain ⟨z, hz⟩ : ∃ z, z = n / 2 ^ q := ⟨_, rfl⟩
        have hzi : (n : Int) / 2 ^ q = (z : Int) := by rw [hz]; simp
        obtain ⟨y, hy⟩ : ∃ y, y = BitVec.ofNat 8 z := ⟨_, rfl⟩
        have hyi : IntKind.u8.wrap (z : Int) = (y.toNat : Int) := by rw [hy, BitVec.toNat_ofNat, IntKind.wrap_u8]; omega
        have hnx := hbt.out t hlt
        rw [hit, show 256 ^ i = 2 ^ q by rw [hq, Nat.pow_mul], ← hz, ← hy] at hnx
        obtain ⟨wc, hwc⟩ : ∃ x, x = wr.alloc (.cells #[.int .u8 (y.toNat : Int)] 5) := ⟨_, rfl⟩
        obtain ⟨gc, hgc⟩ : ∃ g, g = wr.heap.size := ⟨_, rfl⟩
        have mc : Mod (fun _ => False) wr wc := by rw [hwc]; exact (Mod.refl _ _).alloc _
        have xc : wc.heap[gc]? = some (.cells (encB [y]) 5 (0,0)) := by rw [hwc]; exact hp_new _ _ _ hgc
        have rowc := ownsRow_keep0 own mc
        have mkc := mr.trans mc
        obtain ⟨v9, w9, hr9, own9, md9, _, _⟩ := run_append_one rowc xc (by omega) mkc.size 27
        have mk9 : Mod (fun _ => False) w w9 := mkc.trans' md9 (fun x hx h => by have := (rowc.lt x h).1; omega)
        rw [← hnx] at own9
        replace hwc := Lib.hid hwc
        replace hgc := Lib.hid hgc
        replace own9 := Lib.hid own9
        replace mk9 := Lib.hid mk9
        replace hz := Lib.hid hz
        replace hy := Lib.hid hy
        replace hq := Lib.hid hq
        replace hnx := Lib.hid hnx
        replace hit := Lib.hid hit
        replace hJ := Lib.hid hJ
        replace hlt := Lib.hid hlt
        clear mc xc rowc mkc md9 mr own
        go_upto_region 8 with (fail)
        refine wp_region_lit ?_
        refine wpList_reads (by kernel_rfl) (.slice ll t cc) (by go_simp) ?_
        simp only [Act.put, List.setIfInBounds_toArray, List.set_cons_zero, List.set_cons_succ]
        refine wpList_reads (by kernel_rfl) (.int .u64 (n : Int)) (by go_simp) ?_
        simp only [Act.put, List.setIfInBounds_toArray, List.set_cons_zero, List.set_cons_succ]
        refine wpList_reads (by kernel_rfl) (.int .i64 (i : Int)) (by go_simp) ?_
        simp only [Act.put, List.setIfInBounds_toArray, List.set_cons_zero, List.set_cons_succ]
        refine wpList_reads (by kernel_rfl) (.int .i64 (q : Int)) (by go_simp) ?_
        simp only [Act.put, List.setIfInBounds_toArray, List.set_cons_zero, List.set_cons_succ]
        refine wpList_reads (by kernel_rfl) (.int .u64 (z : Int)) (by go_simp) ?_
        simp only [Act.put, List.setIfInBounds_toArray, List.set_cons_zero, List.set_cons_succ]
        refine wpList_reads (by kernel_rfl) (.int .u8 (y.toNat : Int)) (by go_simp) ?_
        simp only [Act.put, List.setIfInBounds_toArray, List.set_cons_zero, List.set_cons_succ]
        refine wpList_yields (by kernel_rfl) (.slice (some ⟨gc, 0, none⟩) 1 1) wc (by rw [hwc.out, hgc.out]; go_simp) ?_
        simp only [Act.put, List.setIfInBounds_toArray, List.set_cons_zero, List.set_cons_succ]
        refine wpList_yields (by kernel_rfl) v9 w9 (run_append_opV rfl rfl rfl hr9) ?_
        simp only [Act.put, List.setIfInBounds_toArray, List.set_cons_zero, List.set_cons_succ]
        refine wpList_reads (by kernel_rfl) (v9) (by go_simp) ?_
        simp only [Act.put, List.setIfInBounds_toArray, List.set_cons_zero, List.set_cons_succ]
        clear hr9
        go_wp2
        go_roundw
        case measure => simp [intOf]
        case rel => exact ⟨t + 1, (i : Int) - 1, by have := hlt.out; omega, by have := hJ.out; have := hlt.out; omega, by go_num, mk9.out, own9.out⟩
      · have hts' : t = s := by omega
        have hJ1 : J = -1 := by omega
        subst hJ1
        subst hts'
        rw [List.take_of_length_le (by rw [hbl.out]; exact Nat.le_refl _)] at own
        obtain ⟨g, cg, hgv⟩ : ∃ g c, Value.slice ll t cc = .slice (some ⟨g, 0, none⟩) t c := by
          rcases own.2 with ⟨_, h⟩ | ⟨g, cap, cur, h, _⟩
          · omega
          · exact ⟨g, cap, h⟩
        rw [hgv] at own ⊢
        have hge : w.heap.size ≤ g := (own.lt g rfl).1
        obtain ⟨x, hx⟩ : ∃ x, x = B.getD 0 0 := ⟨_, rfl⟩
        have cq := own.cellAt 0 (by omega)
        rw [show (bytesV B)[0]? = some (.int .u8 (x.toNat : Int)) by rw [hx]; exact bytesV_get (by rw [hbl.out]; omega)] at cq
        have fq := own.frozenAt 0
        have hvo' := hvo.out
        rw [← hx] at hvo'
        clear hlt hts hJ
        rcases hs4.out with ⟨hs', hh⟩ | ⟨hs', hh⟩ | ⟨hs', hh⟩ | ⟨hs', hh⟩
        · subst hs'
          have hB' : B = vput n := by
            rw [← hvo', hh]
            have e0 : (x ||| BitVec.ofNat 8 (64 * 0)) = x := by simp
            rw [e0, hx]
            apply List.ext_getElem?
            intro j
            rw [List.getElem?_set]
            split
            · rename_i h; subst h; rw [if_pos (by rw [hbl.out]; omega), List.getD_eq_getElem?_getD, List.getElem?_eq_getElem (by rw [hbl.out]; omega)]; rfl
            · rfl
          rw [hB'] at own
          have hfin := hend.out _ _ mr own
          replace hfin := Lib.hid hfin
          clear mr own cq fq hvo' hgv
          go_wp2
          refine bodyPost_ret (results_tmp2 rfl _ _ _) rfl ?_
          exact hfin.out
        · subst hs'
          obtain ⟨y, hy⟩ : ∃ y, y = x ||| BitVec.ofNat 8 (64 * 1) := ⟨_, rfl⟩
          rw [hh, ← hy] at hvo'
          have hor : bits .or .u8 (x.toNat : Int) 64 = (y.toNat : Int) := by rw [hy]; exact bits_or8 x (BitVec.ofNat 8 64)
          obtain ⟨own9, gr9⟩ := own.stored 0 (.int .u8 (y.toNat : Int))
          rw [bytesV_setV, hvo'] at own9
          have s9 : (storeVar 5 ⟨g, 0, none⟩ (.int .u8 (y.toNat : Int))).run Tryd.prog wr = .ok () (wr.setCell ⟨g, 0, none⟩ (.int .u8 (y.toNat : Int))) := by go_simp
          obtain ⟨w9, hw9⟩ : ∃ w9, w9 = wr.setCell ⟨g, 0, none⟩ (.int .u8 (y.toNat : Int)) := ⟨_, rfl⟩
          rw [← hw9] at own9 gr9 s9
          have m9 : Mod (fun _ => False) w w9 := mr.trans' ((Mod.refl _ _).grown (S := fun x => x = g) gr9 (fun x hx _ => by injection hx with hx; exact hx.symm)) (fun x hx h => by omega)
          have hfin := hend.out _ _ m9 own9
          replace hfin := Lib.hid hfin
          replace hw9 := Lib.hid hw9
          replace hvo' := Lib.hid hvo'
          replace hy := Lib.hid hy
          replace hx := Lib.hid hx
          have hlt0 : (0 : Nat) < 2 := by decide
          clear mr own gr9 m9 own9 hgv
          go_upto_region 11 with (fail)
          refine wp_region_lit ?_
          refine wpList_reads (by kernel_rfl) (.slice (some ⟨g, 0, none⟩) 2 cg) (by go_simp) ?_
          simp only [Act.put, List.setIfInBounds_toArray, List.set_cons_zero, List.set_cons_succ]
          refine wpList_reads (by kernel_rfl) (.slice (some ⟨g, 0, none⟩) 2 cg) (by go_simp) ?_
          simp only [Act.put, List.setIfInBounds_toArray, List.set_cons_zero, List.set_cons_succ]
          refine wpList_reads (by kernel_rfl) (.pointer (some ⟨g, 0, none⟩)) (by go_simp) ?_
          simp only [Act.put, List.setIfInBounds_toArray, List.set_cons_zero, List.set_cons_succ]
          refine wpList_reads (by kernel_rfl) (.int .u8 (x.toNat : Int)) (by go_simp) ?_
          simp only [Act.put, List.setIfInBounds_toArray, List.set_cons_zero, List.set_cons_succ]
          refine wpList_reads (by kernel_rfl) (.int .u8 (y.toNat : Int)) (by go_simp) ?_
          simp only [Act.put, List.setIfInBounds_toArray, List.set_cons_zero, List.set_cons_succ]
          refine wpList_reads (by kernel_rfl) (.pointer (some ⟨g, 0, none⟩)) (by go_simp) ?_
          simp only [Act.put, List.setIfInBounds_toArray, List.set_cons_zero, List.set_cons_succ]
          refine wpList_store_to rfl _ _ _ rfl _ _ _ rfl rfl _ s9 ?_
          simp only [Act.put, List.setIfInBounds_toArray, List.set_cons_zero, List.set_cons_succ]
          clear s9 cq fq
          go_wp2
          refine bodyPost_ret (results_tmp2 rfl _ _ _) rfl ?_
          exact hfin.out
        · subst hs'
          obtain ⟨y, hy⟩ : ∃ y, y = x ||| BitVec.ofNat 8 (64 * 2) := ⟨_, rfl⟩
          rw [hh, ← hy] at hvo'
          have hor : bits .or .u8 (x.toNat : Int) 128 = (y.toNat : Int) := by rw [hy]; exact bits_or8 x (BitVec.ofNat 8 128)
          obtain ⟨own9, gr9⟩ := own.stored 0 (.int .u8 (y.toNat : Int))
          rw [bytesV_setV, hvo'] at own9
          have s9 : (storeVar 5 ⟨g, 0, none⟩ (.int .u8 (y.toNat : Int))).run Tryd.prog wr = .ok () (wr.setCell ⟨g, 0, none⟩ (.int .u8 (y.toNat : Int))) := by go_simp
          obtain ⟨w9, hw9⟩ : ∃ w9, w9 = wr.setCell ⟨g, 0, none⟩ (.int .u8 (y.toNat : Int)) := ⟨_, rfl⟩
          rw [← hw9] at own9 gr9 s9
          have m9 : Mod (fun _ => False) w w9 := mr.trans' ((Mod.refl _ _).grown (S := fun x => x = g) gr9 (fun x hx _ => by injection hx with hx; exact hx.symm)) (fun x hx h => by omega)
          have hfin := hend.out _ _ m9 own9
          replace hfin := Lib.hid hfin
          replace hw9 := Lib.hid hw9
          replace hvo' := Lib.hid hvo'
          replace hy := Lib.hid hy
          replace hx := Lib.hid hx
          have hlt0 : (0 : Nat) < 4 := by decide
          clear mr own gr9 m9 own9 hgv
          go_upto_region 13 with (fail)
          refine wp_region_lit ?_
          refine wpList_reads (by kernel_rfl) (.slice (some ⟨g, 0, none⟩) 4 cg) (by go_simp) ?_
          simp only [Act.put, List.setIfInBounds_toArray, List.set_cons_zero, List.set_cons_succ]
          refine wpList_reads (by kernel_rfl) (.slice (some ⟨g, 0, none⟩) 4 cg) (by go_simp) ?_
          simp only [Act.put, List.setIfInBounds_toArray, List.set_cons_zero, List.set_cons_succ]
          refine wpList_reads (by kernel_rfl) (.pointer (some ⟨g, 0, none⟩)) (by go_simp) ?_
          simp only [Act.put, List.setIfInBounds_toArray, List.set_cons_zero, List.set_cons_succ]
          refine wpList_reads (by kernel_rfl) (.int .u8 (x.toNat : Int)) (by go_simp) ?_
          simp only [Act.put, List.setIfInBounds_toArray, List.set_cons_zero, List.set_cons_succ]
          refine wpList_reads (by kernel_rfl) (.int .u8 (y.toNat : Int)) (by go_simp) ?_
          simp only [Act.put, List.setIfInBounds_toArray, List.set_cons_zero, List.set_cons_succ]
          refine wpList_reads (by kernel_rfl) (.pointer (some ⟨g, 0, none⟩)) (by go_simp) ?_
          simp only [Act.put, List.setIfInBounds_toArray, List.set_cons_zero, List.set_cons_succ]
          refine wpList_store_to rfl _ _ _ rfl _ _ _ rfl rfl _ s9 ?_
          simp only [Act.put, List.setIfInBounds_toArray, List.set_cons_zero, List.set_cons_succ]
          clear s9 cq fq
          go_wp2
          refine bodyPost_ret (results_tmp2 rfl _ _ _) rfl ?_
          exact hfin.out
        · subst hs'
          obtain ⟨y, hy⟩ : ∃ y, y = x ||| BitVec.ofNat 8 (64 * 3) := ⟨_, rfl⟩
          rw [hh, ← hy] at hvo'
          have hor : bits .or .u8 (x.toNat : Int) 192 = (y.toNat : Int) := by rw [hy]; exact bits_or8 x (BitVec.ofNat 8 192)
          obtain ⟨own9, gr9⟩ := own.stored 0 (.int .u8 (y.toNat : Int))
          rw [bytesV_setV, hvo'] at own9
          have s9 : (storeVar 5 ⟨g, 0, none⟩ (.int .u8 (y.toNat : Int))).run Tryd.prog wr = .ok () (wr.setCell ⟨g, 0, none⟩ (.int .u8 (y.toNat : Int))) := by go_simp
          obtain ⟨w9, hw9⟩ : ∃ w9, w9 = wr.setCell ⟨g, 0, none⟩ (.int .u8 (y.toNat : Int)) := ⟨_, rfl⟩
          rw [← hw9] at own9 gr9 s9
          have m9 : Mod (fun _ => False) w w9 := mr.trans' ((Mod.refl _ _).grown (S := fun x => x = g) gr9 (fun x hx _ => by injection hx with hx; exact hx.symm)) (fun x hx h => by omega)
          have hfin := hend.out _ _ m9 own9
          replace hfin := Lib.hid hfin
          replace hw9 := Lib.hid hw9
          replace hvo' := Lib.hid hvo'
          replace hy := Lib.hid hy
          replace hx := Lib.hid hx
          have hlt0 : (0 : Nat) < 8 := by decide
          clear mr own gr9 m9 own9 hgv
          go_upto_region 15 with (fail)
          refine wp_region_lit ?_
          refine wpList_reads (by kernel_rfl) (.slice (some ⟨g, 0, none⟩) 8 cg) (by go_simp) ?_
          simp only [Act.put, List.setIfInBounds_toArray, List.set_cons_zero, List.set_cons_succ]
          refine wpList_reads (by kernel_rfl) (.slice (some ⟨g, 0, none⟩) 8 cg) (by go_simp) ?_
          simp only [Act.put, List.setIfInBounds_toArray, List.set_cons_zero, List.set_cons_succ]
          refine wpList_reads (by kernel_rfl) (.pointer (some ⟨g, 0, none⟩)) (by go_simp) ?_
          simp only [Act.put, List.setIfInBounds_toArray, List.set_cons_zero, List.set_cons_succ]
          refine wpList_reads (by kernel_rfl) (.int .u8 (x.toNat : Int)) (by go_simp) ?_
          simp only [Act.put, List.setIfInBounds_toArray, List.set_cons_zero, List.set_cons_succ]
          refine wpList_reads (by kernel_rfl) (.int .u8 (y.toNat : Int)) (by go_simp) ?_
          simp only [Act.put, List.setIfInBounds_toArray, List.set_cons_zero, List.set_cons_succ]
          refine wpList_reads (by kernel_rfl) (.pointer (some ⟨g, 0, none⟩)) (by go_simp) ?_
          simp only [Act.put, List.setIfInBounds_toArray, List.set_cons_zero, List.set_cons_succ]
          refine wpList_store_to rfl _ _ _ rfl _ _ _ rfl rfl _ s9 ?_
          simp only [Act.put, List.setIfInBounds_toArray, List.set_cons_zero, List.set_cons_succ]
          clear s9 cq fq
          go_wp2
          refine bodyPost_ret (results_tmp2 rfl _ _ _) rfl ?_
          exact hfin.out
end Go.Proofs.YtkfikoacohogaaaDoor
