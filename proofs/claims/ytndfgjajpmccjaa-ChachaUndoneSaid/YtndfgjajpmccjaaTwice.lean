/-
  The walk of ChachaTwice.
-/
import Derived.Test.YtndfgjajpmccjaaAlive
import Derived.Test.YtndfgjajpmccjaaFrom
namespace Go.Proofs.Ytndfgjajpmccjaa
open Go Go.RowKit
set_option linter.unusedSimpArgs false

theorem wpList_load_run {P : Program} {ops : Array Oper} {rest : List Oper} {o : Oper} {a : Act} {w : World} {Q : Exit → Act → World → Prop} (hgd : o.guard = none) (ty : TypeId) (x : Operand) (ho : o.op = .load ty x)
    (g off : Nat) (hx : a.eval x = .pointer (some ⟨g, off, none⟩)) (v : Value) (hr : (loadVar ty ⟨g, off, none⟩).run P w = .ok v w)
    (h : wpList P ops Q rest (a.put o.dst v) w) : wpList P ops Q (o :: rest) a w :=
  wpList_plain hgd fun K hK => by
    have hrun : (execOp a.eval o).run P w = .ok (.value v) w := by
      unfold execOp
      simp only [ho, hx, Instr.loadAt, Instr.sureAddr, Sem.run_bind, Sem.run_pure, Result.andThen_ok, hr]
    unfold Oper.wp
    rw [hrun]
    exact hK _ _ h

theorem xorS_length (key nonce : List (BitVec 8)) (count : BitVec 32) (bs : List (BitVec 8)) : (xorS key nonce count bs).length = bs.length := by simp [xorS]
theorem xorS_get (key nonce : List (BitVec 8)) (count : BitVec 32) (bs : List (BitVec 8)) (i : Nat) (hi : i < bs.length) : (xorS key nonce count bs).getD i 0 = bs.getD i 0 ^^^ streamAt key nonce count i := by
  rw [List.getD_eq_getElem?_getD, xorS, List.getElem?_map, List.getElem?_range hi]
  rfl
theorem xorS_twice (key nonce : List (BitVec 8)) (count : BitVec 32) (bs : List (BitVec 8)) : xorS key nonce count (xorS key nonce count bs) = bs := by
  apply List.ext_getElem
  · rw [xorS_length, xorS_length]
  · intro i h1 h2
    have e := xorS_get key nonce count (xorS key nonce count bs) i (by rw [xorS_length]; exact h2)
    rw [xorS_get key nonce count bs i h2, BitVec.xor_assoc, BitVec.xor_self, BitVec.xor_zero] at e
    rw [List.getD_eq_getElem?_getD, List.getElem?_eq_getElem h1, List.getD_eq_getElem?_getD, List.getElem?_eq_getElem h2] at e
    exact e

theorem twice_walk (key nonce : List (BitVec 8)) (count : BitVec 32) (hk : key.length = 32) (hn : nonce.length = 12) (v : Value) (bs : List (BitVec 8)) (w : World) (hb : ByteAt w v bs) (hl : bs.length < 9223372036854775808) :
    Calls Try.prog 4 #[.agg (fromC key count nonce), v] w fun e w' => e = .returned (.bool true) ∧ Below w.heap.size w w' := by
  have hw1 : ∀ w1, w1 = w.alloc (.cells (fromC key count nonce) 26) → Mod (fun _ => False) w w1 ∧ w1.heap[w.heap.size]? = some (.cells (fromC key count nonce) 26 (0,0)) := by
    rintro w1 rfl
    exact ⟨(Mod.refl _ w).alloc _, heap_alloc_new w _⟩
  have hbm : ∀ w', Mod (fun _ => False) w w' → ByteAt w' v bs := fun w' m => hb.mod m (fun _ _ h => h)
  have lk : ∀ w', w'.heap[w.heap.size]? = some (.cells (fromC key count nonce) 26 (0,0)) → (loadVar 22 ⟨w.heap.size, 0, none⟩).run Try.prog w' = .ok (.agg (encB key)) w' := fun w' h => load_key key count nonce hk w' _ _ h
  have lc : ∀ w', w'.heap[w.heap.size]? = some (.cells (fromC key count nonce) 26 (0,0)) → (loadVar 23 ⟨w.heap.size, 32, none⟩).run Try.prog w' = .ok (.int .u32 (count.toNat : Int)) w' := fun w' h => load_count key count nonce hk w' _ _ h
  have ln : ∀ w', w'.heap[w.heap.size]? = some (.cells (fromC key count nonce) 26 (0,0)) → (loadVar 24 ⟨w.heap.size, 33, none⟩).run Try.prog w' = .ok (.agg (encB nonce)) w' := fun w' h => load_nonce key count nonce hk hn w' _ _ h
  have hx := fun v bs w h h2 => xor_any key nonce hk hn count v bs w h h2
  have h2 := xorS_twice key nonce count bs
  have h2l := xorS_length key nonce count bs
  obtain ⟨ad, cap, hv, _⟩ := hb.slice
  clear hb
  generalize fromC key count nonce = fr at *
  obtain ⟨n, en⟩ : ∃ n, bs.length = n := ⟨_, rfl⟩
  rw [en] at hl h2l hv
  subst hv
  replace hw1 := Lib.hid hw1
  replace hbm := Lib.hid hbm
  replace lk := Lib.hid lk
  replace lc := Lib.hid lc
  replace ln := Lib.hid ln
  replace hx := Lib.hid hx
  replace h2 := Lib.hid h2
  replace h2l := Lib.hid h2l
  replace en := Lib.hid en
  go_enter Try.func4, Try.ntmps4
  go_wp2_with (fail)
  refine calls_world fun w1 hw1' => ?_
  obtain ⟨m1, f1⟩ := hw1.out w1 hw1'
  clear hw1 hw1'
  refine (alive_any w1).mono ?_
  rintro e w2 ⟨m2, rfl⟩
  have f2 := m2.heap f1 (fun h => h)
  have m02 := m1.trans m2
  clear m1 m2 f1
  go_wp2_with (fail)
  refine calls_world fun w3 hw3 => ?_
  have m23 : Mod (fun _ => False) w2 w3 := by rw [hw3]; exact (Mod.refl _ _).alloc _
  have r3 : IntsAt w3 (.slice (some ⟨w2.heap.size, 0, none⟩) 1 1) [n] := by
    refine ⟨_, _, _, rfl, fun j hj => ?_⟩
    obtain rfl : j = 0 := by simp at hj; omega
    rw [hw3, cell_of_row _ _ _ _ _ _ (heap_alloc_new w2 _)]
    rfl
  clear hw3
  refine (beyond_any _ [n] w3 r3 (fun j hj _ => by
    obtain rfl : j = 0 := by simp at hj; omega
    simp; omega) (by simp)).mono ?_
  rintro e w4 ⟨m4, rfl⟩
  have f4 := m23.trans m4 |>.heap f2 (fun h => h)
  have m04 := m02.trans (m23.trans m4)
  clear m23 m4 f2 m02 r3
  rw [show [n].sum = n by simp]
  by_cases hbig : 1048576 < n
  · rw [decide_eq_true hbig]
    go_wp2_with (fail)
    refine (alive_any _).mono ?_
    rintro e w5 ⟨m5, rfl⟩
    go_wp2
    go_ret
    exact ⟨rfl, (m04.trans m5).below (Nat.le_refl _) (fun i h => h.elim)⟩
  · rw [decide_eq_false hbig]
    go_wp2_with (first | (refine wpList_load_run rfl 22 _ rfl _ _ rfl _ (lk.out _ f4) ?_) | (refine wpList_load_run rfl 23 _ rfl _ _ rfl _ (lc.out _ f4) ?_) | (refine wpList_load_run rfl 24 _ rfl _ _ rfl _ (ln.out _ f4) ?_))
    refine (hx.out _ bs w4 (hbm.out _ m04) (by rw [en.out]; omega)).mono ?_
    rintro e w5 ⟨m5, ⟨h0, rfl⟩ | ⟨h0, hnil, rfl⟩ | ⟨h0, hnil, g, hg, rfl, hr⟩⟩
    · go_wp2
      go_ret
      exact ⟨rfl, (m04.trans m5).below (Nat.le_refl _) (fun i h => h.elim)⟩
    · have f5 := m5.heap f4 (fun h => h)
      have m05 := m04.trans m5
      have hn0 : n = 0 := by rw [← en.out, hnil]; rfl
      subst hn0
      clear f4 m5 m04
      go_wp2_with (first | (refine wpList_load_run rfl 22 _ rfl _ _ rfl _ (lk.out _ f5) ?_) | (refine wpList_load_run rfl 23 _ rfl _ _ rfl _ (lc.out _ f5) ?_) | (refine wpList_load_run rfl 24 _ rfl _ _ rfl _ (ln.out _ f5) ?_))
      refine (hx.out _ [] w5 (.inl ⟨_, _, rfl, rfl⟩) (by simp)).mono ?_
      rw [hnil] at h0
      rintro e w6 ⟨m6, ⟨h1, rfl⟩ | ⟨h1, _, rfl⟩ | ⟨_, h1, _⟩⟩
      · omega
      · have m06 := m05.trans m6
        have hb6 := hbm.out _ m06
        rw [hnil] at hb6
        go_wp2_with (fail)
        refine (same_true _ _ [] _ (.inl ⟨_, _, rfl, rfl⟩) hb6 (by simp)).mono ?_
        rintro e w7 ⟨m7, rfl⟩
        go_wp2
        go_ret
        exact ⟨rfl, (m06.trans m7).below (Nat.le_refl _) (fun i h => h.elim)⟩
      · exact absurd rfl h1
    · have f5 := m5.heap f4 (fun h => h)
      have m05 := m04.trans m5
      have hn0 : n ≠ 0 := by
        intro h
        have := en.out
        rw [h] at this
        exact hnil (List.eq_nil_of_length_eq_zero this)
      clear f4 m5 m04
      have hrow := ByteAt.row hr
      rw [h2l.out] at hrow
      rw [en.out]
      go_wp2_with (first | (refine wpList_load_run rfl 22 _ rfl _ _ rfl _ (lk.out _ f5) ?_) | (refine wpList_load_run rfl 23 _ rfl _ _ rfl _ (lc.out _ f5) ?_) | (refine wpList_load_run rfl 24 _ rfl _ _ rfl _ (ln.out _ f5) ?_))
      refine (hx.out _ _ w5 hrow (by rw [h2l.out]; omega)).mono ?_
      rintro e w6 ⟨m6, ⟨h1, rfl⟩ | ⟨h1, h3, rfl⟩ | ⟨_, h1, g2, hg2, rfl, hr2⟩⟩
      · rw [h2l.out] at h1
        rw [en.out] at h0
        omega
      · have := h2l.out
        rw [h3] at this
        exact absurd this.symm hn0
      · rw [h2l.out]
        rw [h2.out] at hr2
        have m06 := m05.trans m6
        have hb6 := hbm.out _ m06
        have hrow2 := ByteAt.row hr2
        rw [en.out] at hrow2
        go_wp2_with (fail)
        refine (same_true _ _ bs _ hrow2 hb6 (by rw [en.out]; omega)).mono ?_
        rintro e w7 ⟨m7, rfl⟩
        go_wp2
        go_ret
        exact ⟨rfl, (m06.trans m7).below (Nat.le_refl _) (fun i h => h.elim)⟩
end Go.Proofs.Ytndfgjajpmccjaa
