/-
  A Book of bytes: one more list. Printed by gen/book5.py.
-/
import Derived.Test.YthhbomiknikjpaaGreatDoorBk4
namespace Go.Proofs.YthhbomiknikjpaaGreatDoor
set_option maxRecDepth 100000
open Go Go.RowKit Go.Lib
set_option linter.unusedSimpArgs false
set_option linter.unusedVariables false

theorem info_parts3 {P : Program} {t : TypeId} {z : Value} {s b : Nat} (h : (P.info? t).map (fun i => (i.zero, i.size, i.bytes)) = some (some z, s, b)) : ∃ i, P.info? t = some i ∧ i.zero = some z ∧ i.size = s ∧ i.bytes = b := by
  cases hi : P.info? t with
  | none => rw [hi] at h; cases h
  | some i =>
    rw [hi] at h
    simp only [Option.map_some, Option.some.injEq, Prod.mk.injEq] at h
    exact ⟨i, rfl, h.1, h.2.1, h.2.2⟩
theorem row_cells {w : World} {g : Nat} {cs : List Value} {t : TypeId} (h : w.heap[g]? = some (.cells cs.toArray t (0,0))) : ∀ j u, cs[j]? = some u → w.cell? ((⟨g, 0, none⟩ : Addr).add j) = some u := by
  intro j u hu
  rw [Addr.add_lit, Nat.zero_add, cell_of_row _ _ _ _ _ _ h]
  simpa using hu
theorem infoHeldP : (Tryz.prog.info? 67).map (fun i => (i.zero, i.size, i.bytes)) = some (some (.agg #[.slice none 0 0, .slice none 0 0, .int .i64 0]), 3, 56) := by kernel_rfl
theorem book_setN {w : World} {B N : Nat} {vb : Value} (h : bookAt w B N vb) (M : Nat) : bookAt (w.setCell ⟨B, 0, none⟩ (.int .i64 (M : Int))) B M vb := by
  unfold bookAt at h ⊢
  rw [setCell_row _ _ _ _ _ _ h, setRow_heap _ _ _ _ _ _ h]
  rfl
theorem book_setV {w : World} {B N : Nat} {vb : Value} (h : bookAt w B N vb) (v : Value) : bookAt (w.setCell ⟨B, 1, none⟩ v) B N v := by
  unfold bookAt at h ⊢
  rw [setCell_row _ _ _ _ _ _ h, setRow_heap _ _ _ _ _ _ h]
  rfl
theorem book_frozen {w : World} {B N : Nat} {vb : Value} (h : bookAt w B N vb) (i : Nat) : w.frozen? ⟨B, i, none⟩ = false := frozen_of_row _ _ _ _ _ h
theorem build_held (w : World) (a : Option Addr) (n c : Nat) (q : Int) (ev : Operand → Value) (o : Oper) (x y : Operand) (ho : o.op = .build 67 #[(0, x), (2, y)]) (hx : ev x = .slice a n c) (hy : ev y = .int .i64 q) :
    (execOp ev o).run Tryz.prog w = .ok (.value (.agg #[.slice a n c, .slice none 0 0, .int .i64 q])) w := by
  have h : (Instr.build 67 #[(0, .slice a n c), (2, .int .i64 q)]).run Tryz.prog w = .ok (.agg #[.slice a n c, .slice none 0 0, .int .i64 q]) w := by kernel_rfl
  unfold execOp
  simp only [ho]
  simp only [List.map_toArray, List.map_cons, List.map_nil, hx, hy, Sem.run_bind, h, Result.andThen_ok, Sem.run_pure]
theorem store_i {w : World} {a : Addr} {x : Value} {n : Int} (hc : w.cell? a = some x) (hf : w.frozen? a = false) : (storeVar 3 a (.int .i64 n)).run Tryz.prog w = .ok () (w.setCell a (.int .i64 n)) := by go_simp
theorem store_hs {w : World} {a : Addr} {x : Value} {ad : Option Addr} {n c : Nat} (hc : w.cell? a = some x) (hf : w.frozen? a = false) : (storeVar 29 a (.slice ad n c)).run Tryz.prog w = .ok () (w.setCell a (.slice ad n c)) := by go_simp
theorem anyZ_fork0 {P : Program} {ops : Array Oper} {md : Region.Mode} {S : World → Prop} {z : Nat} {Q : Exit → Act → World → Prop} (i j : Nat) {f : Nat} {listed : Array Bool} {a : Act} {w : World} (hr : Region.ready md ops listed = [i, j])
    (h1 : wpOp P ops (fun _ _ _ => False) i (fun a' w' => (i ≠ z → S w') ∧ anyZ P md ops S z Q f (listed.setIfInBounds i true) a' w') a w)
    (h2 : wpOp P ops (fun _ _ _ => False) j (fun a' w' => (j ≠ z → S w') ∧ anyZ P md ops S z Q f (listed.setIfInBounds j true) a' w') a w) : anyZ P md ops S z Q (f + 1) listed a w := by
  refine ⟨fun h0 => (by rw [hr] at h0; cases h0), fun k hk => ?_⟩
  rw [hr] at hk
  simp only [List.mem_cons, List.not_mem_nil, or_false] at hk
  rcases hk with rfl | rfl
  · exact h1
  · exact h2
theorem wpOp_value0 {P : Program} {ops : Array Oper} {Q : Exit → Act → World → Prop} {i : Nat} (o : Oper) (d : Option Tmp) {K : Act → World → Prop} {a : Act} {w : World} (hi : ops[i]? = some o) (hw : Region.wanted o (yielded ops a.tmps) = true) (hd : o.dst = d) (v : Value) (w' : World)
    (hrun : (execOp a.eval o).run P w = .ok (.value v) w') (h : K (a.put d v) w') : wpOp P ops Q i K a w := by
  subst hd
  unfold wpOp
  simp only [hi]
  rw [if_pos hw]
  refine .inl ?_
  unfold Oper.wp
  rw [hrun]
  exact h
/-- An empty Book. -/
theorem BookOk.empty {w : World} {base B : Nat} (h : bookAt w B 0 (.slice none 0 0)) (hB : base ≤ B) (L : Nat → Value) (xs : Nat → List (BitVec 8)) : BookOk w base B 0 (.slice none 0 0) L xs :=
  ⟨h, World.ownsRow_nil _ _ _ _, fun i hi => absurd hi (Nat.not_lt_zero i), hB, fun i j hi => absurd hi (Nat.not_lt_zero i), fun i hi => absurd hi (Nat.not_lt_zero i), fun i hi => absurd hi (Nat.not_lt_zero i), (by intro h; cases h), by omega, fun i hi => by omega⟩
def addL (N : Nat) (L : Nat → Value) (v : Value) : Nat → Value := fun i => if i < N then L i else v
def addX (N : Nat) (xs : Nat → List (BitVec 8)) (bs : List (BitVec 8)) : Nat → List (BitVec 8) := fun i => if i < N then xs i else bs

set_option maxRecDepth 100000 in
set_option maxHeartbeats 4000000 in
theorem keepByte_any (w : World) (base B N : Nat) (vb : Value) (L : Nat → Value) (xs : Nat → List (BitVec 8)) (ok : BookOk w base B N vb L xs) (v : Value) (bs : List (BitVec 8)) (hv : w.ownsRow base 5 1 v bs.length (bytesV bs))
    (hap : ∀ i, i < N → ∀ k, (L i).ownBlock = some k → v.ownBlock = some k → False) (hvB : v.ownBlock ≠ some B) (hvv : ∀ k, v.ownBlock = some k → vb.ownBlock = some k → False) (hN : N + 1 ≤ 1000) (hbl : bs.length ≤ 70368744177664) :
    Calls Tryz.prog 18 #[.pointer (some ⟨B, 0, none⟩), v] w fun e w' => e = .returned (.tuple #[]) ∧ Mod (fun k => k = B ∨ vb.ownBlock = some k) w w' ∧ ∃ vb', BookOk w' base B (N + 1) vb' (addL N L v) (addX N xs bs) ∧ ∀ k, vb'.ownBlock = some k → vb.ownBlock = some k ∨ w.heap.size ≤ k := by
  obtain ⟨av, cv, hvb⟩ := own_slice ok.own
  subst hvb
  obtain ⟨al, cl, hvl⟩ := own_slice hv
  obtain ⟨n, hn⟩ : ∃ n, n = bs.length := ⟨_, rfl⟩
  rw [← hn] at hvl
  subst hvl
  have bN0 : (0 : Int) ≤ (N : Int) := by omega
  have bN : (N : Int) ≤ 1000 := by omega
  have hB0 := book_zero ok.at_
  have hf0 := book_frozen ok.at_ 0
  have hwN : IntKind.i64.wrap ((N : Int) + 1) = (N : Int) + 1 := by rw [IntKind.wrap_i64]; omega
  have at1 := book_setN ok.at_ (N + 1)
  have m1 : Mod (fun k => k = B) w (w.setCell ⟨B, 0, none⟩ (.int .i64 ((N + 1 : Nat) : Int))) := Mod.one_setCell _ _ _ _
  obtain ⟨w1, hw1⟩ : ∃ x, x = w.setCell ⟨B, 0, none⟩ (.int .i64 ((N + 1 : Nat) : Int)) := ⟨_, rfl⟩
  obtain ⟨q, hq⟩ : ∃ q, q = N + 1 := ⟨_, rfl⟩
  have hq1 : (N : Int) + 1 = (q : Int) := by omega
  have hwq : IntKind.i64.wrap (q : Int) = (q : Int) := by rw [IntKind.wrap_i64]; omega
  have s1 : (storeVar 3 ⟨B, 0, none⟩ (.int .i64 (q : Int))).run Tryz.prog w = .ok () w1 := by rw [hw1, ← hq]; exact store_i hB0 hf0
  have hBl := lt_of_heap ok.at_
  have hbase : base ≤ w.heap.size := by have := ok.hB; omega
  rw [← hw1] at at1 m1
  rw [← hq] at at1
  have own1 := ownsRow_block ok.own m1 (fun k hk h => ok.vB (by rw [hk, h]))
  have hv1 := ownsRow_block hv m1 (fun k hk h => hvB (by rw [hk, h]))
  replace hw1 := Lib.hid hw1
  replace ok := Lib.hid ok
  replace hv := Lib.hid hv
  replace hn := Lib.hid hn
  replace hq := Lib.hid hq
  go_enter Tryz.func18, Tryz.ntmps18
  go_upto_region 0 with (fail)
  refine wp_region_lit ?_
  refine wpList_reads (by kernel_rfl) (.pointer (some ⟨B, 0, none⟩)) (by go_simp) ?_
  simp only [Act.put, List.setIfInBounds_toArray, List.set_cons_zero, List.set_cons_succ]
  refine wpList_reads (by kernel_rfl) (.pointer (some ⟨B, 0, none⟩)) (by go_simp) ?_
  simp only [Act.put, List.setIfInBounds_toArray, List.set_cons_zero, List.set_cons_succ]
  refine wpList_reads (by kernel_rfl) (.pointer (some ⟨B, 0, none⟩)) (by go_simp) ?_
  simp only [Act.put, List.setIfInBounds_toArray, List.set_cons_zero, List.set_cons_succ]
  refine wpList_reads (by kernel_rfl) (.int .i64 (N : Int)) (by go_simp) ?_
  simp only [Act.put, List.setIfInBounds_toArray, List.set_cons_zero, List.set_cons_succ]
  refine wpList_reads (by kernel_rfl) (.int .i64 (q : Int)) (by go_simp) ?_
  simp only [Act.put, List.setIfInBounds_toArray, List.set_cons_zero, List.set_cons_succ]
  refine wpList_reads (by kernel_rfl) (.pointer (some ⟨B, 0, none⟩)) (by go_simp) ?_
  simp only [Act.put, List.setIfInBounds_toArray, List.set_cons_zero, List.set_cons_succ]
  refine wpList_reads (by kernel_rfl) (.pointer (some ⟨B, 0, none⟩)) (by go_simp) ?_
  simp only [Act.put, List.setIfInBounds_toArray, List.set_cons_zero, List.set_cons_succ]
  refine wpList_store_to rfl _ _ _ rfl _ _ _ rfl rfl _ s1 ?_
  simp only [Act.put, List.setIfInBounds_toArray, List.set_cons_zero, List.set_cons_succ]
  clear s1 hB0 hf0
  go_upto_region 1 with (fail)
  refine wp_region_any (by kernel_rfl) (any_of_Z (S := fun w' => w'.cell? ⟨B, 0, none⟩ = some (.int .i64 (q : Int))) (z := 99) _ _ _ _ ?_)
  simp only [List.size_toArray, List.length_cons, List.length_nil, Nat.reduceAdd, Array.replicate_succ, Array.replicate_zero, List.push_toArray, List.nil_append, List.cons_append]
  change anyZ _ _ _ _ _ _ _ _ _ w1.drew
  have md : Mod (fun _ => False) w1 w1.drew := (Mod.refl _ _).drew
  have atd : bookAt w1.drew B q (.slice av N cv) := md.heap at1 (fun h => h)
  have ownd := ownsRow_keep0 own1 md
  have hvd := ownsRow_keep0 hv1 md
  have m0d := m1.trans' md (fun _ _ h => h.elim)
  obtain ⟨wd, hwd⟩ : ∃ x, x = w1.drew := ⟨_, rfl⟩
  rw [← hwd] at atd ownd hvd m0d ⊢
  have hS := book_zero atd
  have hSb := book_one atd
  replace hwd := Lib.hid hwd
  clear md at1 own1 hv1 m1
  refine anyZ_take 0 _ (some 11) (.pointer (some ⟨B, 0, none⟩)) rfl (by kernel_rfl) (by kernel_rfl) (by kernel_rfl) (by kernel_rfl) (by kernel_rfl) (by decide) rfl (fun w' hS => ?_) hS ?_
  · go_simp
  simp only [Act.put, List.setIfInBounds_toArray, List.set_cons_zero, List.set_cons_succ]
  refine anyZ_take 1 _ (some 12) (.pointer (some ⟨B, 0, none⟩)) rfl (by kernel_rfl) (by kernel_rfl) (by kernel_rfl) (by kernel_rfl) (by kernel_rfl) (by decide) rfl (fun w' hS => ?_) hS ?_
  · go_simp
  simp only [Act.put, List.setIfInBounds_toArray, List.set_cons_zero, List.set_cons_succ]
  refine anyZ_take 2 _ (some 13) (.pointer (some ⟨B, 0, none⟩)) rfl (by kernel_rfl) (by kernel_rfl) (by kernel_rfl) (by kernel_rfl) (by kernel_rfl) (by decide) rfl (fun w' hS => ?_) hS ?_
  · go_simp
  simp only [Act.put, List.setIfInBounds_toArray, List.set_cons_zero, List.set_cons_succ]
  refine anyZ_take 3 _ (some 14) (.pointer (some ⟨B, 1, none⟩)) rfl (by kernel_rfl) (by kernel_rfl) (by kernel_rfl) (by kernel_rfl) (by kernel_rfl) (by decide) rfl (fun w' hS => ?_) hS ?_
  · go_simp
  simp only [Act.put, List.setIfInBounds_toArray, List.set_cons_zero, List.set_cons_succ]
  refine anyZ_take 5 _ (some 16) (.slice al n cl) rfl (by kernel_rfl) (by kernel_rfl) (by kernel_rfl) (by kernel_rfl) (by kernel_rfl) (by decide) rfl (fun w' hS => ?_) hS ?_
  · go_simp
  simp only [Act.put, List.setIfInBounds_toArray, List.set_cons_zero, List.set_cons_succ]
  refine anyZ_take 6 _ (some 17) (.pointer (some ⟨B, 0, none⟩)) rfl (by kernel_rfl) (by kernel_rfl) (by kernel_rfl) (by kernel_rfl) (by kernel_rfl) (by decide) rfl (fun w' hS => ?_) hS ?_
  · go_simp
  simp only [Act.put, List.setIfInBounds_toArray, List.set_cons_zero, List.set_cons_succ]
  refine anyZ_take 7 _ (some 18) (.pointer (some ⟨B, 0, none⟩)) rfl (by kernel_rfl) (by kernel_rfl) (by kernel_rfl) (by kernel_rfl) (by kernel_rfl) (by decide) rfl (fun w' hS => ?_) hS ?_
  · go_simp
  simp only [Act.put, List.setIfInBounds_toArray, List.set_cons_zero, List.set_cons_succ]
  refine anyZ_take 8 _ (some 19) (.pointer (some ⟨B, 0, none⟩)) rfl (by kernel_rfl) (by kernel_rfl) (by kernel_rfl) (by kernel_rfl) (by kernel_rfl) (by decide) rfl (fun w' hS => ?_) hS ?_
  · go_simp
  simp only [Act.put, List.setIfInBounds_toArray, List.set_cons_zero, List.set_cons_succ]
  refine anyZ_take 9 _ (some 20) (.int .i64 (q : Int)) rfl (by kernel_rfl) (by kernel_rfl) (by kernel_rfl) (by kernel_rfl) (by kernel_rfl) (by decide) rfl (fun w' hS => ?_) hS ?_
  · go_simp
  simp only [Act.put, List.setIfInBounds_toArray, List.set_cons_zero, List.set_cons_succ]
  refine anyZ_take 10 _ (some 21) (.agg #[.slice al n cl, .slice none 0 0, .int .i64 (q : Int)]) rfl (by kernel_rfl) (by kernel_rfl) (by kernel_rfl) (by kernel_rfl) (by kernel_rfl) (by decide) rfl (fun w' hS => ?_) hS ?_
  · exact build_held _ _ _ _ _ _ _ _ _ rfl rfl rfl
  simp only [Act.put, List.setIfInBounds_toArray, List.set_cons_zero, List.set_cons_succ]
  obtain ⟨wa, hwa⟩ : ∃ x, x = wd.alloc (.cells #[.slice al n cl, .slice none 0 0, .int .i64 (q : Int)] 67) := ⟨_, rfl⟩
  obtain ⟨ga, hga⟩ : ∃ g, g = wd.heap.size := ⟨_, rfl⟩
  have ma : Mod (fun _ => False) wd wa := by rw [hwa]; exact (Mod.refl _ _).alloc _
  have xa : wa.heap[ga]? = some (.cells #[.slice al n cl, .slice none 0 0, .int .i64 (q : Int)] 67 (0,0)) := by rw [hwa]; exact hp_new _ _ _ hga
  have ata : bookAt wa B q (.slice av N cv) := ma.heap atd (fun h => h)
  have owna := ownsRow_keep0 ownd ma
  have hva := ownsRow_keep0 hvd ma
  have m0a := m0d.trans' ma (fun _ _ h => h.elim)
  have hSa := book_zero ata
  have hSab := book_one ata
  obtain ⟨i0, hi, hz0, hz1, hz2⟩ := info_parts3 infoHeldP
  obtain ⟨v6, w6, hr6, own6, sp6⟩ := run_append_split (P := Tryz.prog) wa base 29 29 67 i0 (.agg #[.slice none 0 0, .slice none 0 0, .int .i64 0]) 3 56 Tryz.underlying29 hi hz0 hz1 hz2 rfl (.slice av N cv) N _ owna ⟨ga, 0, none⟩ 1 1 [.slice al n cl, .slice none 0 0, .int .i64 (q : Int)] rfl (row_cells xa) (by intro u hu; simp at hu; rcases hu with rfl | rfl | rfl <;> rfl) (by omega) (by unfold maxLen; omega) (by omega) (by have := m0a.size; omega)
  have m6 : Mod (fun k => (Value.slice av N cv).ownBlock = some k) wa w6 := by
    rcases sp6 with ⟨g, cap, h1, h2, h3⟩ | ⟨h1, h2⟩
    · exact (Mod.refl _ _).grown h3 (fun k hk _ => by rw [h1]; exact hk)
    · exact (Mod.refl _ _).grown h2 (fun k hk _ => by cases hk)
  have nb6 : ∀ k, v6.ownBlock = some k → (Value.slice av N cv).ownBlock = some k ∨ w.heap.size ≤ k := by
    intro k hk
    rcases sp6 with ⟨g, cap, h1, h2, h3⟩ | ⟨h1, h2⟩
    · left; rw [h2] at hk; rw [h1]; exact hk
    · right; rw [h1] at hk; injection hk with hk; have := m0a.size; omega
  have at6 : bookAt w6 B q (.slice av N cv) := m6.heap ata (fun h => ok.out.vB h)
  have hv6 := ownsRow_block hva m6 (fun k hk h => hvv k hk h)
  have m06 := (m0a.mono (S' := fun k => k = B ∨ (Value.slice av N cv).ownBlock = some k) (fun k _ h => .inl h)).trans (m6.mono (fun k _ h => .inr h))
  have hS6 := book_zero at6
  have f6 := book_frozen at6 1
  have c6 := book_one at6
  have at7 := book_setV at6 v6
  obtain ⟨w7, hw7⟩ : ∃ x, x = w6.setCell ⟨B, 1, none⟩ v6 := ⟨_, rfl⟩
  obtain ⟨a6, e6, hv6s⟩ := own_slice own6
  have s7 : (storeVar 29 ⟨B, 1, none⟩ v6).run Tryz.prog w6 = .ok () w7 := by rw [hw7, hv6s]; exact store_hs c6 f6
  have m7 : Mod (fun k => k = B) w6 w7 := by rw [hw7]; exact Mod.one_setCell _ _ _ _
  rw [← hw7] at at7
  have mf := m06.trans (m7.mono (S' := fun k => k = B ∨ (Value.slice av N cv).ownBlock = some k) (fun k _ h => .inl h))
  have hS7 := book_zero at7
  have v6B : v6.ownBlock ≠ some B := by
    intro h
    rcases nb6 B h with h1 | h1
    · exact ok.out.vB h1
    · omega
  have own7 := ownsRow_block own6 m7 (fun k hk h => v6B (by rw [hk, h]))
  have hv7 := ownsRow_block hv6 m7 (fun k hk h => hvB (by rw [hk, h]))
  have hfin : BookOk w7 base B (N + 1) v6 (addL N L (.slice al n cl)) (addX N xs bs) := by
    have h := ok.out
    have hold : ∀ i, i < N → w7.ownsRow base 5 1 (L i) (xs i).length (bytesV (xs i)) := fun i hi => ownsRow_block (h.row i hi) mf (fun k hk h2 => by
      rcases h2 with h2 | h2
      · exact h.offB i hi (by rw [hk, h2])
      · exact h.offv i hi k hk h2)
    refine ⟨by rw [← hq.out]; exact at7, ?_, fun i hi => ?_, h.hB, ?_, fun i hi => ?_, ?_, v6B, by omega, fun i hi => ?_⟩
    · rw [heldC_succ, heldC_congr N (addL N L (.slice al n cl)) _ L (fun _ => .slice none 0 0) (fun i hi => ⟨by unfold addL; rw [if_pos hi], rfl⟩)]
      have e : addL N L (.slice al n cl) N = .slice al n cl := by unfold addL; rw [if_neg (by omega)]
      rw [e, ← hq.out]
      rw [hq.out] at own7 ⊢
      exact own7
    · unfold addL addX
      by_cases e : i < N
      · rw [if_pos e, if_pos e]; exact hold i e
      · rw [if_neg e, if_neg e, ← hn.out]; rw [← hn.out] at hv7; exact hv7
    · intro i j hi hj hij k h1 h2
      unfold addL at h1 h2
      by_cases e1 : i < N
      · rw [if_pos e1] at h1
        by_cases e2 : j < N
        · rw [if_pos e2] at h2
          exact h.apart i j e1 e2 hij k h1 h2
        · rw [if_neg e2] at h2
          exact hap i e1 k h1 h2
      · rw [if_neg e1] at h1
        rw [if_pos (by omega)] at h2
        exact hap j (by omega) k h2 h1
    · unfold addL
      by_cases e : i < N
      · rw [if_pos e]; exact h.offB i e
      · rw [if_neg e]; exact hvB
    · intro i hi k h1 h2
      unfold addL at h1
      by_cases e : i < N
      · rw [if_pos e] at h1
        rcases nb6 k h2 with h3 | h3
        · exact h.offv i e k h1 h3
        · have := (ownsRow_in (h.row i e) h1).2; omega
      · rw [if_neg e] at h1
        rcases nb6 k h2 with h3 | h3
        · exact hvv k h1 h3
        · have := (ownsRow_in hv.out h1).2; omega
    · unfold addX
      by_cases e : i < N
      · rw [if_pos e]; exact h.short i e
      · rw [if_neg e]; exact hbl
  replace hwa := Lib.hid hwa
  replace hga := Lib.hid hga
  replace hw7 := Lib.hid hw7
  replace hfin := Lib.hid hfin
  replace nb6 := Lib.hid nb6
  replace mf := Lib.hid mf
  clear ma xa ata owna hva m0a own6 sp6 m6 at6 hv6 m06 f6 c6 at7 m7 own7 hv7 atd ownd hvd m0d hap hvv hvB
  refine anyZ_fork0 4 11 (by kernel_rfl) ?_ ?_
  · refine wpOp_value0 _ (some 15) rfl (by kernel_rfl) rfl (.slice av N cv) wd (by go_simp) ⟨fun _ => hS, ?_⟩
    simp only [Act.put, List.setIfInBounds_toArray, List.set_cons_succ, List.set_cons_zero]
    refine anyZ_next 11 _ (some 22) rfl (by kernel_rfl) (by kernel_rfl) rfl (.slice (some ⟨ga, 0, none⟩) 1 1) wa (by rw [hwa.out, hga.out]; go_simp) (fun _ => hSa) ?_
    simp only [Act.put, List.setIfInBounds_toArray, List.set_cons_succ, List.set_cons_zero]
    refine anyZ_next 12 _ (some 23) rfl (by kernel_rfl) (by kernel_rfl) rfl v6 w6 (run_append_op2 rfl rfl rfl hr6) (fun _ => hS6) ?_
    simp only [Act.put, List.setIfInBounds_toArray, List.set_cons_succ, List.set_cons_zero]
    refine anyZ_next 13 _ (some 24) rfl (by kernel_rfl) (by kernel_rfl) rfl (.pointer (some ⟨B, 0, none⟩)) w6 (by go_simp) (fun _ => hS6) ?_
    simp only [Act.put, List.setIfInBounds_toArray, List.set_cons_succ, List.set_cons_zero]
    refine anyZ_next 14 _ (some 25) rfl (by kernel_rfl) (by kernel_rfl) rfl (.pointer (some ⟨B, 1, none⟩)) w6 (by go_simp) (fun _ => hS6) ?_
    simp only [Act.put, List.setIfInBounds_toArray, List.set_cons_succ, List.set_cons_zero]
    refine anyZ_skip 15 _ rfl (by kernel_rfl) (by kernel_rfl) rfl w7 (run_store_op rfl rfl rfl s7) (fun _ => hS7) ?_
    simp only [Act.put, List.setIfInBounds_toArray, List.set_cons_succ, List.set_cons_zero]
    refine anyZ_done (by kernel_rfl) ?_ _
    clear hS hSa hS6 hr6 s7 hv6s hSb hSab hS7
    go_wp2
    go_end0
    exact ⟨rfl, mf.out, v6, hfin.out, nb6.out⟩
  · refine wpOp_value0 _ (some 22) rfl (by kernel_rfl) rfl (.slice (some ⟨ga, 0, none⟩) 1 1) wa (by rw [hwa.out, hga.out]; go_simp) ⟨fun _ => hSa, ?_⟩
    simp only [Act.put, List.setIfInBounds_toArray, List.set_cons_succ, List.set_cons_zero]
    refine anyZ_next 4 _ (some 15) rfl (by kernel_rfl) (by kernel_rfl) rfl (.slice av N cv) wa (by go_simp) (fun _ => hSa) ?_
    simp only [Act.put, List.setIfInBounds_toArray, List.set_cons_succ, List.set_cons_zero]
    refine anyZ_next 12 _ (some 23) rfl (by kernel_rfl) (by kernel_rfl) rfl v6 w6 (run_append_op2 rfl rfl rfl hr6) (fun _ => hS6) ?_
    simp only [Act.put, List.setIfInBounds_toArray, List.set_cons_succ, List.set_cons_zero]
    refine anyZ_next 13 _ (some 24) rfl (by kernel_rfl) (by kernel_rfl) rfl (.pointer (some ⟨B, 0, none⟩)) w6 (by go_simp) (fun _ => hS6) ?_
    simp only [Act.put, List.setIfInBounds_toArray, List.set_cons_succ, List.set_cons_zero]
    refine anyZ_next 14 _ (some 25) rfl (by kernel_rfl) (by kernel_rfl) rfl (.pointer (some ⟨B, 1, none⟩)) w6 (by go_simp) (fun _ => hS6) ?_
    simp only [Act.put, List.setIfInBounds_toArray, List.set_cons_succ, List.set_cons_zero]
    refine anyZ_skip 15 _ rfl (by kernel_rfl) (by kernel_rfl) rfl w7 (run_store_op rfl rfl rfl s7) (fun _ => hS7) ?_
    simp only [Act.put, List.setIfInBounds_toArray, List.set_cons_succ, List.set_cons_zero]
    refine anyZ_done (by kernel_rfl) ?_ _
    clear hS hSa hS6 hr6 s7 hv6s hSb hSab hS7
    go_wp2
    go_end0
    exact ⟨rfl, mf.out, v6, hfin.out, nb6.out⟩
set_option maxRecDepth 100000 in
theorem bytes_keep (w : World) (base B N : Nat) (vb : Value) (L : Nat → Value) (xs : Nat → List (BitVec 8)) (ok : BookOk w base B N vb L xs) (v : Value) (bs : List (BitVec 8)) (hv : w.ownsRow base 5 1 v bs.length (bytesV bs))
    (hap : ∀ i, i < N → ∀ k, (L i).ownBlock = some k → v.ownBlock = some k → False) (hvB : v.ownBlock ≠ some B) (hvv : ∀ k, v.ownBlock = some k → vb.ownBlock = some k → False) (hN : N + 1 ≤ 1000) (hbl : bs.length ≤ 70368744177664) :
    Calls Tryz.prog 11 #[.pointer (some ⟨B, 0, none⟩), v] w fun e w' => e = .returned (.tuple #[]) ∧ Mod (fun k => k = B ∨ vb.ownBlock = some k) w w' ∧ ∃ vb', BookOk w' base B (N + 1) vb' (addL N L v) (addX N xs bs) ∧ ∀ k, vb'.ownBlock = some k → vb.ownBlock = some k ∨ w.heap.size ≤ k := by
  obtain ⟨E, hE⟩ : ∃ E : Ending → World → Prop, E = fun e w' => e = .returned (.tuple #[]) ∧ Mod (fun k => k = B ∨ vb.ownBlock = some k) w w' ∧ ∃ vb', BookOk w' base B (N + 1) vb' (addL N L v) (addX N xs bs) ∧ ∀ k, vb'.ownBlock = some k → vb.ownBlock = some k ∨ w.heap.size ≤ k := ⟨_, rfl⟩
  have hk := keepByte_any w base B N vb L xs ok v bs hv hap hvB hvv hN hbl
  rw [← hE] at hk ⊢
  obtain ⟨al, cl, hvl⟩ := own_slice hv
  rw [hvl] at hk ⊢
  replace hE := Lib.hid hE
  replace ok := Lib.hid ok
  replace hv := Lib.hid hv
  replace hvl := Lib.hid hvl
  clear hap hvB hvv hN hbl
  go_enter Tryz.func11, Tryz.ntmps11
  go_upto_region 0 with (fail)
  refine wp_region_lit ?_
  refine wpList_reads (by kernel_rfl) (.pointer (some ⟨B, 0, none⟩)) (by go_simp) ?_
  simp only [Act.put, List.setIfInBounds_toArray, List.set_cons_zero, List.set_cons_succ]
  refine wpList_reads (by kernel_rfl) (.slice al bs.length cl) (by go_simp) ?_
  simp only [Act.put, List.setIfInBounds_toArray, List.set_cons_zero, List.set_cons_succ]
  refine wpList_enter (by kernel_rfl) 18 #[.pointer (some ⟨B, 0, none⟩), .slice al bs.length cl] (by go_simp) (hk) ?_
  rintro e w1 h1
  have h2 := h1
  rw [hE.out] at h2
  have he := h2.1
  subst he
  replace h1 := Lib.hid h1
  clear h2
  refine ⟨_, rfl, ?_⟩
  simp only [Act.put, List.setIfInBounds_toArray, List.set_cons_succ, List.set_cons_zero]
  go_wp2
  go_end0
  exact h1.out
end Go.Proofs.YthhbomiknikjpaaGreatDoor
