/-
  A Book of bytes: all lists grow. Printed by gen/book3.py.
-/
import Derived.Test.YthhbomiknikjpaaGreatDoorBk2
namespace Go.Proofs.YthhbomiknikjpaaGreatDoor
set_option maxRecDepth 100000
open Go Go.RowKit Go.Lib
set_option linter.unusedSimpArgs false
set_option linter.unusedVariables false

theorem run_append_op2 {P : Program} {ev : Operand → Value} {o : Oper} {d s : Operand} {dT sT : TypeId} {w w' : World} {vd vs r : Value} (ho : o.op = .call { callee := .builtin .append, args := #[d, s], argTypes := #[dT, sT] }) (hd : ev d = vd) (hs : ev s = vs)
    (hrun : (Builtin.append_ #[dT, sT] o.type #[vd, vs]).run P w = .ok r w') : (execOp ev o).run P w = .ok (.value r) w' := by
  unfold execOp
  simp [ho, resolve, invoke, builtin, hd, hs, hrun, Result.andThen]
/-- A Book whose lists grew. -/
structure BookGrown (w : World) (base B N : Nat) (vb : Value) (L Lo : Nat → Value) (ns : Nat → Nat) : Prop where
  at_ : bookAt w B N vb
  own : w.ownsRow base 67 3 vb N (heldC N L Lo)
  low : ∀ i, i < N → ByteAt w (L i) (List.replicate (ns i) (markQ (i + 1)))
  long : ∀ i, i < N → ByteAt w (Lo i) (List.replicate (ns i + 40) (markQ (i + 1)))

set_option maxRecDepth 100000 in
set_option maxHeartbeats 4000000 in
theorem growByte_any (w : World) (base B N : Nat) (vb : Value) (L : Nat → Value) (ns : Nat → Nat) (ok : BookOk w base B N vb L (fun i => List.replicate (ns i) (markQ (i + 1)))) :
    Calls Tryz.prog 31 #[.pointer (some ⟨B, 0, none⟩)] w fun e w' => e = .returned (.tuple #[]) ∧ Mod (fun k => base ≤ k) w w' ∧ ∃ Lo, BookGrown w' base B N vb L Lo ns := by
  obtain ⟨av, cv, hvb⟩ := own_slice ok.own
  have hNf := ok.few
  have bN0 : (0 : Int) ≤ (N : Int) := by omega
  have bN : (N : Int) ≤ 1000 := by omega
  subst hvb
  have hbw : base ≤ w.heap.size := by have h1 := ok.hB; have h2 := lt_of_heap ok.at_; omega
  have hvw : ∀ k, (Value.slice av N cv).ownBlock = some k → k < w.heap.size := fun k hk => (ownsRow_in ok.own hk).2
  have hLw : ∀ i, i < N → ∀ k, (L i).ownBlock = some k → base ≤ k ∧ k < w.heap.size := fun i hi k hk => ownsRow_in (ok.row i hi) hk
  have hBw := lt_of_heap ok.at_
  replace ok := Lib.hid ok
  go_enter Tryz.func31, Tryz.ntmps31
  go_wp2
  go_loopw [2] (fun iv wr => ∃ i : Nat, i ≤ N ∧ iv = .int .i64 (i : Int) ∧ Mod (fun k => base ≤ k) w wr ∧ bookAt wr B N (.slice av N cv) ∧ (∀ j, j < N → wr.ownsRow base 5 1 (L j) (ns j) (bytesV (List.replicate (ns j) (markQ (j + 1))))) ∧ ∃ Lo : Nat → Value, wr.ownsRow base 67 3 (.slice av N cv) N (heldC N L Lo) ∧ (∀ j, (Lo j).oneCell' = true) ∧ ∀ j, j < i → ByteAt wr (Lo j) (List.replicate (ns j + 40) (markQ (j + 1))) ∧ ∀ k, (Lo j).ownBlock = some k → (L j).ownBlock = some k ∨ w.heap.size ≤ k) (fun iv _ => N - (intOf iv).toNat)
  case atStart => exact ⟨0, by omega, rfl, Mod.refl _ _, ok.out.at_, fun j hj => by have h := ok.out.row j hj; simpa using h, fun _ => .slice none 0 0, ok.out.own, fun _ => rfl, fun j hj => by omega⟩
  case round =>
    obtain ⟨i, hiN, rfl, mr, atr, rows, Lo, ownr, hone, longs⟩ := hrel
    have bi0 : (0 : Int) ≤ (i : Int) := by omega
    have biN : (i : Int) ≤ (N : Int) := by omega
    have cB := book_one atr
    by_cases hlt : i < N
    · have hd : decide (i < N) = true := by rw [decide_eq_true_iff]; exact hlt
      have bil : (i : Int) < (N : Int) := by omega
      obtain ⟨gv, cv', hgv⟩ := own_some ownr (by omega)
      obtain ⟨rfl, rfl⟩ : av = some ⟨gv, 0, none⟩ ∧ cv = cv' := by injection hgv with h1 _ h2; exact ⟨h1, h2⟩
      have hld := held_load ownr i hlt
      have hrow := rows i hlt
      have hLo1 := hone i
      obtain ⟨Loi, hLoi⟩ : ∃ x, x = Lo i := ⟨_, rfl⟩
      obtain ⟨Li, hLi⟩ : ∃ x, x = L i := ⟨_, rfl⟩
      obtain ⟨n, hn⟩ : ∃ n, n = ns i := ⟨_, rfl⟩
      obtain ⟨q, hq⟩ : ∃ q, q = i + 1 := ⟨_, rfl⟩
      have hsh := ok.out.short i hlt
      rw [List.length_replicate, ← hn] at hsh
      rw [← hq, ← hLoi, ← hLi] at hld
      rw [← hq, ← hLi, ← hn] at hrow
      rw [← hLoi] at hLo1
      have hq1 : q ≤ 1001 := by omega
      have hL1 : Li.oneCell' = true := by obtain ⟨a, c, h⟩ := own_slice hrow; rw [h]; rfl
      have hvg : gv < w.heap.size := hvw gv rfl
      have hLiw : ∀ k, Li.ownBlock = some k → base ≤ k ∧ k < w.heap.size := by rw [hLi]; exact hLw i hlt
      have hLiv : ∀ k, Li.ownBlock = some k → k ≠ gv := by intro k hk e; exact ok.out.offv i hlt k (by rw [← hLi]; exact hk) (by rw [e]; rfl)
      have hLiB : Li.ownBlock ≠ some B := by rw [hLi]; exact ok.out.offB i hlt
      -- the copy of what is held
      obtain ⟨wa, hwa⟩ : ∃ x, x = wr.alloc (.cells #[.slice none 0 0, .slice none 0 0, .int .i64 0] 67) := ⟨_, rfl⟩
      obtain ⟨gh', hgh⟩ : ∃ g, g = wr.heap.size := ⟨_, rfl⟩
      have ma : Mod (fun _ => False) wr wa := by rw [hwa]; exact (Mod.refl _ _).alloc _
      have xa : wa.heap[gh']? = some (.cells #[.slice none 0 0, .slice none 0 0, .int .i64 0] 67 (0,0)) := by rw [hwa]; exact hp_new _ _ _ hgh
      obtain ⟨w2, st2, m2', x2⟩ := held_store xa (x := Li) (y := Loi) (z := .int .i64 (q : Int)) hL1 hLo1 rfl
      have m2 : Mod (fun _ => False) wr w2 := ma.trans' m2' (fun k hk h => by omega)
      have hsr : w.heap.size ≤ wr.heap.size := mr.size
      have hs2 : wr.heap.size < w2.heap.size := by have := lt_of_heap x2; omega
      have row2 := ownsRow_keep0 hrow m2
      have at2 : bookAt w2 B N (.slice (some ⟨gv, 0, none⟩) N cv) := m2.heap atr (fun h => h)
      have own2 := ownsRow_keep0 ownr m2
      have mr2 : Mod (fun k => base ≤ k) w w2 := mr.trans' m2 (fun _ _ h => h.elim)
      have rows2 : ∀ j, j < N → w2.ownsRow base 5 1 (L j) (ns j) (bytesV (List.replicate (ns j) (markQ (j + 1)))) := fun j hj => ownsRow_keep0 (rows j hj) m2
      have longs2 : ∀ j, j < i → ByteAt w2 (Lo j) (List.replicate (ns j + 40) (markQ (j + 1))) := fun j hj => byteAt_block (longs j hj).1 m2 (fun _ _ h => h)
      have longsb : ∀ j, j < i → ∀ k, (Lo j).ownBlock = some k → (L j).ownBlock = some k ∨ (w.heap.size ≤ k ∧ k < wr.heap.size) := by
        intro j hj k hk
        rcases (longs j hj).2 k hk with h | h
        · exact .inl h
        · refine .inr ⟨h, ?_⟩
          rcases (longs j hj).1 with ⟨ad, cap, e, e2⟩ | ⟨g, off, cap, e, _, h3⟩
          · exact absurd (congrArg List.length e2) (by simp)
          · rw [e] at hk
            obtain rfl : g = k := by injection hk
            have h4 := h3 0 (by simp)
            by_cases hlt2 : g < wr.heap.size
            · exact hlt2
            · exfalso
              unfold World.cell? at h4
              rw [Array.getElem?_eq_none (by simpa using hlt2)] at h4
              simp at h4
      replace hwa := Lib.hid hwa
      replace hgh := Lib.hid hgh
      replace mr2 := Lib.hid mr2
      replace rows2 := Lib.hid rows2
      replace longs2 := Lib.hid longs2
      replace longsb := Lib.hid longsb
      replace x2 := Lib.hid x2
      replace at2 := Lib.hid at2
      replace own2 := Lib.hid own2
      replace row2 := Lib.hid row2
      replace hLi := Lib.hid hLi
      replace hLoi := Lib.hid hLoi
      replace hq := Lib.hid hq
      replace hn := Lib.hid hn
      replace hlt := Lib.hid hlt
      replace hone := Lib.hid hone
      obtain ⟨al, cl, hLs⟩ : ∃ a c, Li = .slice a n c := own_slice row2.out
      subst hLs
      clear mr rows ownr hgv hrow ma xa m2' m2 longs atr hiN
      go_upto_region 3 with (fail)
      refine wp_region_lit ?_
      refine wpList_reads (by kernel_rfl) (.pointer (some ⟨B, 0, none⟩)) (by go_simp) ?_
      simp only [Act.put, List.setIfInBounds_toArray, List.set_cons_zero, List.set_cons_succ]
      refine wpList_reads (by kernel_rfl) (.pointer (some ⟨B, 0, none⟩)) (by go_simp) ?_
      simp only [Act.put, List.setIfInBounds_toArray, List.set_cons_zero, List.set_cons_succ]
      refine wpList_reads (by kernel_rfl) (.pointer (some ⟨B, 1, none⟩)) (by go_simp) ?_
      simp only [Act.put, List.setIfInBounds_toArray, List.set_cons_zero, List.set_cons_succ]
      refine wpList_reads (by kernel_rfl) (.slice (some ⟨gv, 0, none⟩) N cv) (by go_simp) ?_
      simp only [Act.put, List.setIfInBounds_toArray, List.set_cons_zero, List.set_cons_succ]
      refine wpList_reads (by kernel_rfl) (.int .i64 (i : Int)) (by go_simp) ?_
      simp only [Act.put, List.setIfInBounds_toArray, List.set_cons_zero, List.set_cons_succ]
      refine wpList_reads (by kernel_rfl) (.pointer (some ⟨gv, i * 3, none⟩)) (by go_simp) ?_
      simp only [Act.put, List.setIfInBounds_toArray, List.set_cons_zero, List.set_cons_succ]
      refine wpList_reads (by kernel_rfl) (.agg #[.slice al n cl, Loi, .int .i64 (q : Int)]) (run_load_op rfl rfl hld) ?_
      simp only [Act.put, List.setIfInBounds_toArray, List.set_cons_zero, List.set_cons_succ]
      refine wpList_yields (by kernel_rfl) _ _ (alloc_held _ _ _ rfl) ?_
      simp only [Act.put, List.setIfInBounds_toArray, List.set_cons_zero, List.set_cons_succ]
      rw [← hgh.out, ← hwa.out]
      refine wpList_store_to rfl _ _ _ rfl _ _ _ rfl rfl _ st2 ?_
      simp only [Act.put, List.setIfInBounds_toArray, List.set_cons_zero, List.set_cons_succ]
      clear st2 hld cB
      have bn0 : (0 : Int) ≤ (n : Int) := by omega
      have ch0 : w2.cell? ⟨gh', 0, none⟩ = some (.slice al n cl) := by rw [cell_of_row _ _ _ _ _ _ x2.out]; rfl
      go_wp2
      go_loopg [4, 5] 40 (fun gh lv kv wr => ∃ k : Nat, k + gh = 40 ∧ kv = .int .i64 (k : Int) ∧ Mod (fun x => (Value.slice al n cl).ownBlock = some x) w2 wr ∧ wr.ownsRow base 5 1 lv (n + k) (bytesV (List.replicate (n + k) (markQ q))) ∧ wr.ownsRow base 5 1 (.slice al n cl) n (bytesV (List.replicate n (markQ q))) ∧ ∀ x, lv.ownBlock = some x → (Value.slice al n cl).ownBlock = some x ∨ w2.heap.size ≤ x)
      case atStart => exact ⟨0, by omega, rfl, Mod.refl _ _, row2.out, row2.out, fun x h => .inl h⟩
      case round =>
        obtain ⟨k, hkg, rfl, mk, rowl, rowk, hbl⟩ := hrel
        have bk0 : (0 : Int) ≤ (k : Int) := by omega
        have bk40 : (k : Int) ≤ 40 := by omega
        have xk := mk.heap x2.out (by intro h; have := (hLiw _ h).2; have := hgh.out; omega)
        obtain ⟨ll, cc, hlv⟩ := own_slice rowl
        subst hlv
        by_cases hkn : k < 40
        · have hdk : decide ((k : Int) < 40) = true := by rw [decide_eq_true_iff]; omega
          have ck2 : wr.cell? ⟨gh', 2, none⟩ = some (.int .i64 (q : Int)) := by rw [cell_of_row _ _ _ _ _ _ xk]; rfl
          obtain ⟨p, hp⟩ : ∃ p, p = n + k := ⟨_, rfl⟩
          rw [← hp] at rowl hbl ⊢
          obtain ⟨wc, hwc⟩ : ∃ x, x = wr.alloc (.cells #[.int .u8 ((markQ q).toNat : Int)] 5) := ⟨_, rfl⟩
          obtain ⟨gc, hgc⟩ : ∃ g, g = wr.heap.size := ⟨_, rfl⟩
          have mc : Mod (fun _ => False) wr wc := by rw [hwc]; exact (Mod.refl _ _).alloc _
          have xc : wc.heap[gc]? = some (.cells (encB [markQ q]) 5 (0,0)) := by rw [hwc]; exact hp_new _ _ _ hgc
          have rowlc := ownsRow_keep0 rowl mc
          have rowkc := ownsRow_keep0 rowk mc
          have hw2 : base ≤ wc.heap.size := by have := mr2.out.size; have := mk.size; have := mc.size; omega
          obtain ⟨v9, w9, hr9, own9, m9, nb9, keep9⟩ := run_append_one rowlc xc (by omega) hw2 22
          have rowk9 := keep9 (.slice al n cl) n (by omega) (by rw [List.take_replicate, Nat.min_eq_left (by omega)]; exact rowkc)
          rw [List.take_replicate, Nat.min_eq_left (by omega)] at rowk9
          rw [show List.replicate p (markQ q) ++ [markQ q] = List.replicate (p + 1) (markQ q) by rw [List.replicate_succ']] at own9
          have mk9 : Mod (fun x => (Value.slice al n cl).ownBlock = some x) w2 w9 := (mk.trans' mc (fun _ _ h => h.elim)).trans' m9 (fun x hx h => by
            rcases hbl x h with h1 | h1
            · exact h1
            · omega)
          have hbl9 : ∀ x, v9.ownBlock = some x → (Value.slice al n cl).ownBlock = some x ∨ w2.heap.size ≤ x := by
            intro x hx
            rcases nb9 x hx with h | h
            · exact hbl x h
            · have := mk.size; have := mc.size; exact .inr (by omega)
          replace hwc := Lib.hid hwc
          replace hgc := Lib.hid hgc
          replace own9 := Lib.hid own9
          replace rowk9 := Lib.hid rowk9
          replace mk9 := Lib.hid mk9
          replace hbl9 := Lib.hid hbl9
          replace hp := Lib.hid hp
          replace hkg := Lib.hid hkg
          replace hkn := Lib.hid hkn
          clear mk rowl rowk hbl xk mc xc rowlc rowkc m9 nb9 keep9
          go_upto_region 8 with (fail)
          refine wp_region_lit ?_
          refine wpList_reads (by kernel_rfl) (.slice ll p cc) (by go_simp) ?_
          simp only [Act.put, List.setIfInBounds_toArray, List.set_cons_zero, List.set_cons_succ]
          refine wpList_reads (by kernel_rfl) (.pointer (some ⟨gh', 2, none⟩)) (by go_simp) ?_
          simp only [Act.put, List.setIfInBounds_toArray, List.set_cons_zero, List.set_cons_succ]
          refine wpList_reads (by kernel_rfl) (.int .i64 (q : Int)) (by go_simp) ?_
          simp only [Act.put, List.setIfInBounds_toArray, List.set_cons_zero, List.set_cons_succ]
          refine wpList_enter (by kernel_rfl) 61 #[.int .i64 (q : Int)] (by go_simp) (markByte_any q hq1 wr) ?_
          rintro e ww ⟨rfl, rfl⟩
          refine ⟨_, rfl, ?_⟩
          simp only [Act.put, List.setIfInBounds_toArray, List.set_cons_zero, List.set_cons_succ]
          refine wpList_yields (by kernel_rfl) (.slice (some ⟨gc, 0, none⟩) 1 1) wc (by rw [hwc.out, hgc.out]; go_simp) ?_
          simp only [Act.put, List.setIfInBounds_toArray, List.set_cons_zero, List.set_cons_succ]
          refine wpList_yields (by kernel_rfl) v9 w9 (run_append_op2 rfl rfl rfl hr9) ?_
          simp only [Act.put, List.setIfInBounds_toArray, List.set_cons_zero, List.set_cons_succ]
          refine wpList_reads (by kernel_rfl) (v9) (by go_simp) ?_
          simp only [Act.put, List.setIfInBounds_toArray, List.set_cons_zero, List.set_cons_succ]
          clear hr9 ck2
          go_wp2
          go_roundg (gk - 1)
          case measure => have := hkg.out; have := hkn.out; omega
          case rel => exact ⟨k + 1, by have := hkg.out; have := hkn.out; omega, by go_num, mk9.out, by rw [show n + (k + 1) = p + 1 by have := hp.out; omega]; exact own9.out, rowk9.out, hbl9.out⟩
        · have hk40 : k = 40 := by omega
          have hdk : decide ((k : Int) < 40) = false := by rw [decide_eq_false_iff_not]; omega
          have hmgv : ∀ k, (Value.slice al n cl).ownBlock = some k → k ≠ gv := hLiv
          have atk : bookAt wr B N (.slice (some ⟨gv, 0, none⟩) N cv) := mk.heap at2.out (fun h => hLiB h)
          have ownk := ownsRow_block own2.out mk (fun k hk h => hmgv k h (by injection hk with hk; exact hk.symm))
          have cBk := book_one atk
          have lvb : ∀ x, (Value.slice ll (n + k) cc).ownBlock = some x → x ≠ gv := by
            intro x hx
            rcases hbl x hx with h | h
            · exact hmgv x h
            · omega
          -- the store
          have hgetk := (heldC_get N L Lo i hlt.out).2.1
          have ckk := ownk.cellAt (i * 3 + 1) (by have := hlt.out; omega)
          rw [hgetk, ← hLoi.out] at ckk
          have fkk := ownk.frozenAt (i * 3 + 1)
          obtain ⟨own9, gr9⟩ := ownk.stored (i * 3 + 1) (.slice ll (n + k) cc)
          rw [heldC_set N L Lo i hlt.out] at own9
          have m9 : Mod (fun x => x = gv) wr (wr.setCell ⟨gv, i * 3 + 1, none⟩ (.slice ll (n + k) cc)) := (Mod.refl _ _).grown gr9 (fun x hx _ => by injection hx with hx; exact hx.symm)
          obtain ⟨w9, hw9⟩ : ∃ x, x = wr.setCell ⟨gv, i * 3 + 1, none⟩ (.slice ll (n + k) cc) := ⟨_, rfl⟩
          have s9 : (storeVar 22 ⟨gv, i * 3 + 1, none⟩ (.slice ll (n + k) cc)).run Tryz.prog wr = .ok () w9 := by rw [hw9]; go_simp
          rw [← hw9] at own9 m9
          have at9 : bookAt w9 B N (.slice (some ⟨gv, 0, none⟩) N cv) := m9.heap atk (by intro h; exact ok.out.vB (by rw [h]; rfl))
          have mf9 : Mod (fun k => base ≤ k) w w9 := (mr2.out.trans (mk.mono fun x _ hx => (hLiw x hx).1)).trans (m9.mono fun x _ hx => by rw [hx]; exact (ownsRow_in ok.out.own rfl).1)
          have rows9 : ∀ j, j < N → w9.ownsRow base 5 1 (L j) (ns j) (bytesV (List.replicate (ns j) (markQ (j + 1)))) := by
            intro j hj
            by_cases e : j = i
            · subst e
              have h : wr.ownsRow base 5 1 (L j) (ns j) (bytesV (List.replicate (ns j) (markQ (j + 1)))) := by rw [← hLi.out, ← hn.out, ← hq.out]; exact rowk
              exact ownsRow_block h m9 (fun x hx h2 => hmgv x (by rw [hLi.out]; exact hx) h2)
            · have h := ownsRow_block (rows2.out j hj) mk (fun x hx h => ok.out.apart j i hj hlt.out e x hx (by rw [← hLi.out]; exact h))
              exact ownsRow_block h m9 (fun x hx h2 => ok.out.offv j hj x hx (by rw [h2]; rfl))
          have long9 : ∀ j, j < i + 1 → ByteAt w9 ((fun j => if j = i then (Value.slice ll (n + k) cc) else Lo j) j) (List.replicate (ns j + 40) (markQ (j + 1))) ∧ ∀ x, ((fun j => if j = i then (Value.slice ll (n + k) cc) else Lo j) j).ownBlock = some x → (L j).ownBlock = some x ∨ w.heap.size ≤ x := by
            intro j hj
            by_cases e : j = i
            · subst e
              simp only [if_pos rfl]
              refine ⟨?_, fun x hx => ?_⟩
              · have h := byteAt_of_own (ownsRow_block rowl m9 (fun x hx h2 => lvb x hx h2))
                rw [← hn.out, ← hq.out, ← hk40]
                exact h
              · rcases hbl x hx with h | h
                · exact .inl (by rw [← hLi.out]; exact h)
                · exact .inr (by omega)
            · simp only [if_neg e]
              refine ⟨byteAt_block (byteAt_block (longs2.out j (by omega)) mk ?_) m9 ?_, fun x hx => ?_⟩
              · intro x hx h
                rcases longsb.out j (by omega) x hx with h2 | h2
                · exact ok.out.apart j i (by have := hlt.out; omega) hlt.out e x h2 (by rw [← hLi.out]; exact h)
                · have := (hLiw x h).2; omega
              · intro x hx h
                rcases longsb.out j (by omega) x hx with h2 | h2
                · exact ok.out.offv j (by have := hlt.out; omega) x h2 (by rw [h]; rfl)
                · omega
              · rcases longsb.out j (by omega) x hx with h2 | h2
                · exact .inl h2
                · exact .inr h2.1
          have hone9 : ∀ j, ((fun j => if j = i then (Value.slice ll (n + k) cc) else Lo j) j).oneCell' = true := by
            intro j
            by_cases e : j = i
            · simp only [if_pos e]; rfl
            · simp only [if_neg e]; exact hone.out j
          replace hw9 := Lib.hid hw9
          replace own9 := Lib.hid own9
          replace at9 := Lib.hid at9
          replace mf9 := Lib.hid mf9
          replace rows9 := Lib.hid rows9
          replace long9 := Lib.hid long9
          replace hone9 := Lib.hid hone9
          replace hkg := Lib.hid hkg
          replace hk40 := Lib.hid hk40
          clear mk rowl rowk hbl xk ownk ckk fkk gr9 m9 atk lvb hkn
          go_upto_region 9 with (fail)
          refine wp_region_lit ?_
          refine wpList_reads (by kernel_rfl) (.pointer (some ⟨B, 0, none⟩)) (by go_simp) ?_
          simp only [Act.put, List.setIfInBounds_toArray, List.set_cons_zero, List.set_cons_succ]
          refine wpList_reads (by kernel_rfl) (.pointer (some ⟨B, 0, none⟩)) (by go_simp) ?_
          simp only [Act.put, List.setIfInBounds_toArray, List.set_cons_zero, List.set_cons_succ]
          refine wpList_reads (by kernel_rfl) (.pointer (some ⟨B, 1, none⟩)) (by go_simp) ?_
          simp only [Act.put, List.setIfInBounds_toArray, List.set_cons_zero, List.set_cons_succ]
          refine wpList_reads (by kernel_rfl) (.slice (some ⟨gv, 0, none⟩) N cv) (by go_simp) ?_
          simp only [Act.put, List.setIfInBounds_toArray, List.set_cons_zero, List.set_cons_succ]
          refine wpList_reads (by kernel_rfl) (.int .i64 (i : Int)) (by go_simp) ?_
          simp only [Act.put, List.setIfInBounds_toArray, List.set_cons_zero, List.set_cons_succ]
          refine wpList_reads (by kernel_rfl) (.slice ll (n + k) cc) (by go_simp) ?_
          simp only [Act.put, List.setIfInBounds_toArray, List.set_cons_zero, List.set_cons_succ]
          refine wpList_reads (by kernel_rfl) (.pointer (some ⟨gv, i * 3, none⟩)) (by go_simp) ?_
          simp only [Act.put, List.setIfInBounds_toArray, List.set_cons_zero, List.set_cons_succ]
          refine wpList_reads (by kernel_rfl) (.pointer (some ⟨gv, i * 3 + 1, none⟩)) (by go_simp) ?_
          simp only [Act.put, List.setIfInBounds_toArray, List.set_cons_zero, List.set_cons_succ]
          refine wpList_store_to rfl _ _ _ rfl _ _ _ rfl rfl _ s9 ?_
          simp only [Act.put, List.setIfInBounds_toArray, List.set_cons_zero, List.set_cons_succ]
          clear s9 cBk
          go_wp2
          go_roundw
          case measure => have := hlt.out; simp [intOf]; omega
          case rel => exact ⟨i + 1, by have := hlt.out; omega, by go_num, mf9.out, at9.out, rows9.out, _, own9.out, hone9.out, long9.out⟩
    · have hiN2 : i = N := by omega
      have hd : decide (i < N) = false := by rw [decide_eq_false_iff_not]; exact hlt
      have hfin : BookGrown wr base B N (.slice av N cv) L Lo ns := ⟨atr, ownr, fun j hj => byteAt_of_own (rows j hj), fun j hj => (longs j (by omega)).1⟩
      replace hfin := Lib.hid hfin
      replace mr := Lib.hid mr
      replace hiN2 := Lib.hid hiN2
      clear ownr hlt rows longs atr hone hiN
      go_wp2
      go_end0
      exact ⟨rfl, mr.out, Lo, hfin.out⟩
end Go.Proofs.YthhbomiknikjpaaGreatDoor
