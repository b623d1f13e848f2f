/- Several small texts in one: Ck3 Ck4 Ck5. -/
import Derived.Test.YtbiijcljpgannaaGreatDoorME

namespace Go.Proofs.YtbiijcljpgannaaGreatDoor
set_option maxRecDepth 100000
open Go Go.RowKit Go.Lib
set_option linter.unusedSimpArgs false
set_option linter.unusedVariables false

theorem run_append_op2 {P : Program} {ev : Operand → Value} {o : Oper} {d s : Operand} {dT sT : TypeId} {w w' : World} {vd vs r : Value} (ho : o.op = .call { callee := .builtin .append, args := #[d, s], argTypes := #[dT, sT] }) (hd : ev d = vd) (hs : ev s = vs)
    (hrun : (Builtin.append_ #[dT, sT] o.type #[vd, vs]).run P w = .ok r w') : (execOp ev o).run P w = .ok (.value r) w' := by
  unfold execOp
  simp [ho, resolve, invoke, builtin, hd, hs, hrun, Result.andThen]
/-- A Book whose lists grew. -/
structure BookGrown (w : World) (base B N : Nat) (vb : Value) (L Lo : Nat → Value) (ns : Nat → Nat) : Prop where
  at_ : bookAt w B N vb
  own : w.ownsRow base 79 3 vb N (heldC N L Lo)
  low : ∀ i, i < N → ByteAt w (L i) (List.replicate (ns i) (markQ (i + 1)))
  long : ∀ i, i < N → ByteAt w (Lo i) (List.replicate (ns i + 40) (markQ (i + 1)))

set_option maxRecDepth 100000 in
set_option maxHeartbeats 4000000 in
theorem growByte_any (w : World) (base B N : Nat) (vb : Value) (L : Nat → Value) (ns : Nat → Nat) (ok : BookOk w base B N vb L (fun i => List.replicate (ns i) (markQ (i + 1)))) :
    Calls Tryz.prog 38 #[.pointer (some ⟨B, 0, none⟩)] w fun e w' => e = .returned (.tuple #[]) ∧ Mod (fun k => base ≤ k) w w' ∧ ∃ Lo, BookGrown w' base B N vb L Lo ns := by
  obtain ⟨av, cv, hvb⟩ := own_slice ok.own
  have hNf := ok.few
  have bN0 : (0 : Int) ≤ (N : Int) := by omega
  have bN : (N : Int) ≤ 1000 := by omega
  subst hvb
  have hbw : base ≤ w.heap.size := by have h1 := ok.hB; have h2 := lt_of_heap ok.at_; omega
  have hvw : ∀ k, (Value.slice av N cv).ownBlock = some k → k < w.heap.size := fun k hk => (ownsRow_in ok.own hk).2
  have hLw : ∀ i, i < N → ∀ k, (L i).ownBlock = some k → base ≤ k ∧ k < w.heap.size := fun i hi k hk => clip_in (ok.row i hi) hk
  have hBw := lt_of_heap ok.at_
  replace ok := Lib.hid ok
  go_enter Tryz.func38, Tryz.ntmps38
  go_wp2
  go_loopw [2] (fun iv wr => ∃ i : Nat, i ≤ N ∧ iv = .int .i64 (i : Int) ∧ Mod (fun k => base ≤ k) w wr ∧ bookAt wr B N (.slice av N cv) ∧ (∀ j, j < N → ClipR wr base (L j) (ns j) (bytesV (List.replicate (ns j) (markQ (j + 1))))) ∧ ∃ Lo : Nat → Value, wr.ownsRow base 79 3 (.slice av N cv) N (heldC N L Lo) ∧ (∀ j, (Lo j).oneCell' = true) ∧ ∀ j, j < i → ByteAt wr (Lo j) (List.replicate (ns j + 40) (markQ (j + 1))) ∧ ∀ k, (Lo j).ownBlock = some k → (L j).ownBlock = some k ∨ w.heap.size ≤ k) (fun iv _ => N - (intOf iv).toNat)
  case atStart => exact ⟨0, by omega, rfl, Mod.refl _ _, ok.out.at_, fun j hj => by have h := ok.out.row j hj; simpa using h, fun _ => .slice none 0 0, ok.out.own, fun _ => rfl, fun j hj => by omega⟩
  case round =>
    obtain ⟨i, hiN, rfl, mr, atr, rows, Lo, ownr, hone, longs⟩ := hrel
    have bi0 : (0 : Int) ≤ (i : Int) := by omega
    have biN : (i : Int) ≤ (N : Int) := by omega
    have cB := book_one atr
    by_cases hlt : i < N
    · have hd : decide (i < N) = true := by rw [decide_eq_true_iff]; exact hlt
      have bil : (i : Int) < (N : Int) := by omega
      obtain ⟨gv, cv', hgv⟩ := own_some ownr (by omega)
      obtain ⟨rfl, rfl⟩ : av = some ⟨gv, 0, none⟩ ∧ cv = cv' := by injection hgv with h1 _ h2; exact ⟨h1, h2⟩
      have hld := held_load ownr i hlt
      have hrow := rows i hlt
      have hLo1 := hone i
      obtain ⟨Loi, hLoi⟩ : ∃ x, x = Lo i := ⟨_, rfl⟩
      obtain ⟨Li, hLi⟩ : ∃ x, x = L i := ⟨_, rfl⟩
      obtain ⟨n, hn⟩ : ∃ n, n = ns i := ⟨_, rfl⟩
      obtain ⟨q, hq⟩ : ∃ q, q = i + 1 := ⟨_, rfl⟩
      have hsh := ok.out.short i hlt
      rw [List.length_replicate, ← hn] at hsh
      rw [← hq, ← hLoi, ← hLi] at hld
      rw [← hq, ← hLi, ← hn] at hrow
      rw [← hLoi] at hLo1
      have hq1 : q ≤ 1001 := by omega
      have hL1 : Li.oneCell' = true := by obtain ⟨a, c, h⟩ := clip_slice hrow; rw [h]; rfl
      have hvg : gv < w.heap.size := hvw gv rfl
      have hLiw : ∀ k, Li.ownBlock = some k → base ≤ k ∧ k < w.heap.size := by rw [hLi]; exact hLw i hlt
      have hLiv : ∀ k, Li.ownBlock = some k → k ≠ gv := by intro k hk e; exact ok.out.offv i hlt k (by rw [← hLi]; exact hk) (by rw [e]; rfl)
      have hLiB : Li.ownBlock ≠ some B := by rw [hLi]; exact ok.out.offB i hlt
      -- the copy of what is held
      obtain ⟨wa, hwa⟩ : ∃ x, x = wr.alloc (.cells #[.slice none 0 0, .slice none 0 0, .int .i64 0] 79) := ⟨_, rfl⟩
      obtain ⟨gh', hgh⟩ : ∃ g, g = wr.heap.size := ⟨_, rfl⟩
      have ma : Mod (fun _ => False) wr wa := by rw [hwa]; exact (Mod.refl _ _).alloc _
      have xa : wa.heap[gh']? = some (.cells #[.slice none 0 0, .slice none 0 0, .int .i64 0] 79 (0,0)) := by rw [hwa]; exact hp_new _ _ _ hgh
      obtain ⟨w2, st2, m2', x2⟩ := held_store xa (x := Li) (y := Loi) (z := .int .i64 (q : Int)) hL1 hLo1 rfl
      have m2 : Mod (fun _ => False) wr w2 := ma.trans' m2' (fun k hk h => by omega)
      have hsr : w.heap.size ≤ wr.heap.size := mr.size
      have hs2 : wr.heap.size < w2.heap.size := by have := lt_of_heap x2; omega
      have row2 := clip_keep0 hrow m2
      have at2 : bookAt w2 B N (.slice (some ⟨gv, 0, none⟩) N cv) := m2.heap atr (fun h => h)
      have own2 := ownsRow_keep0 ownr m2
      have mr2 : Mod (fun k => base ≤ k) w w2 := mr.trans' m2 (fun _ _ h => h.elim)
      have rows2 : ∀ j, j < N → ClipR w2 base (L j) (ns j) (bytesV (List.replicate (ns j) (markQ (j + 1)))) := fun j hj => clip_keep0 (rows j hj) m2
      have longs2 : ∀ j, j < i → ByteAt w2 (Lo j) (List.replicate (ns j + 40) (markQ (j + 1))) := fun j hj => byteAt_block (longs j hj).1 m2 (fun _ _ h => h)
      have longsb : ∀ j, j < i → ∀ k, (Lo j).ownBlock = some k → (L j).ownBlock = some k ∨ (w.heap.size ≤ k ∧ k < wr.heap.size) := by
        intro j hj k hk
        rcases (longs j hj).2 k hk with h | h
        · exact .inl h
        · refine .inr ⟨h, ?_⟩
          rcases (longs j hj).1 with ⟨ad, cap, e, e2⟩ | ⟨g, off, cap, e, _, h3⟩
          · exact absurd (congrArg List.length e2) (by simp)
          · rw [e] at hk
            obtain rfl : g = k := by injection hk
            have h4 := h3 0 (by simp)
            by_cases hlt2 : g < wr.heap.size
            · exact hlt2
            · exfalso
              unfold World.cell? at h4
              rw [Array.getElem?_eq_none (by simpa using hlt2)] at h4
              simp at h4
      replace hwa := Lib.hid hwa
      replace hgh := Lib.hid hgh
      replace mr2 := Lib.hid mr2
      replace rows2 := Lib.hid rows2
      replace longs2 := Lib.hid longs2
      replace longsb := Lib.hid longsb
      replace x2 := Lib.hid x2
      replace at2 := Lib.hid at2
      replace own2 := Lib.hid own2
      replace row2 := Lib.hid row2
      replace hLi := Lib.hid hLi
      replace hLoi := Lib.hid hLoi
      replace hq := Lib.hid hq
      replace hn := Lib.hid hn
      replace hlt := Lib.hid hlt
      replace hone := Lib.hid hone
      obtain ⟨al, cl, hLs⟩ : ∃ a c, Li = .slice a n c := clip_slice row2.out
      subst hLs
      clear mr rows ownr hgv hrow ma xa m2' m2 longs atr hiN
      go_upto_region 3 with (fail)
      refine wp_region_lit ?_
      refine wpList_reads (by kernel_rfl) (.pointer (some ⟨B, 0, none⟩)) (by go_simp) ?_
      simp only [Act.put, List.setIfInBounds_toArray, List.set_cons_zero, List.set_cons_succ]
      refine wpList_reads (by kernel_rfl) (.pointer (some ⟨B, 0, none⟩)) (by go_simp) ?_
      simp only [Act.put, List.setIfInBounds_toArray, List.set_cons_zero, List.set_cons_succ]
      refine wpList_reads (by kernel_rfl) (.pointer (some ⟨B, 1, none⟩)) (by go_simp) ?_
      simp only [Act.put, List.setIfInBounds_toArray, List.set_cons_zero, List.set_cons_succ]
      refine wpList_reads (by kernel_rfl) (.slice (some ⟨gv, 0, none⟩) N cv) (by go_simp) ?_
      simp only [Act.put, List.setIfInBounds_toArray, List.set_cons_zero, List.set_cons_succ]
      refine wpList_reads (by kernel_rfl) (.int .i64 (i : Int)) (by go_simp) ?_
      simp only [Act.put, List.setIfInBounds_toArray, List.set_cons_zero, List.set_cons_succ]
      refine wpList_reads (by kernel_rfl) (.pointer (some ⟨gv, i * 3, none⟩)) (by go_simp) ?_
      simp only [Act.put, List.setIfInBounds_toArray, List.set_cons_zero, List.set_cons_succ]
      refine wpList_reads (by kernel_rfl) (.agg #[.slice al n cl, Loi, .int .i64 (q : Int)]) (run_load_op rfl rfl hld) ?_
      simp only [Act.put, List.setIfInBounds_toArray, List.set_cons_zero, List.set_cons_succ]
      refine wpList_yields (by kernel_rfl) _ _ (alloc_held _ _ _ rfl) ?_
      simp only [Act.put, List.setIfInBounds_toArray, List.set_cons_zero, List.set_cons_succ]
      rw [← hgh.out, ← hwa.out]
      refine wpList_store_to rfl _ _ _ rfl _ _ _ rfl rfl _ st2 ?_
      simp only [Act.put, List.setIfInBounds_toArray, List.set_cons_zero, List.set_cons_succ]
      clear st2 hld cB
      have bn0 : (0 : Int) ≤ (n : Int) := by omega
      have ch0 : w2.cell? ⟨gh', 0, none⟩ = some (.slice al n cl) := by rw [cell_of_row _ _ _ _ _ _ x2.out]; rfl
      go_wp2
      go_loopg [4, 5] 40 (fun gh lv kv wr => ∃ k : Nat, k + gh = 40 ∧ kv = .int .i64 (k : Int) ∧ Mod (fun x => (Value.slice al n cl).ownBlock = some x) w2 wr ∧ ClipR wr base lv (n + k) (bytesV (List.replicate (n + k) (markQ q))) ∧ ClipR wr base (.slice al n cl) n (bytesV (List.replicate n (markQ q))) ∧ ∀ x, lv.ownBlock = some x → (Value.slice al n cl).ownBlock = some x ∨ w2.heap.size ≤ x)
      case atStart => exact ⟨0, by omega, rfl, Mod.refl _ _, row2.out, row2.out, fun x h => .inl h⟩
      case round =>
        obtain ⟨k, hkg, rfl, mk, rowl, rowk, hbl⟩ := hrel
        have bk0 : (0 : Int) ≤ (k : Int) := by omega
        have bk40 : (k : Int) ≤ 40 := by omega
        have xk := mk.heap x2.out (by intro h; have := (hLiw _ h).2; have := hgh.out; omega)
        obtain ⟨ll, cc, hlv⟩ := clip_slice rowl
        subst hlv
        by_cases hkn : k < 40
        · have hdk : decide ((k : Int) < 40) = true := by rw [decide_eq_true_iff]; omega
          have ck2 : wr.cell? ⟨gh', 2, none⟩ = some (.int .i64 (q : Int)) := by rw [cell_of_row _ _ _ _ _ _ xk]; rfl
          obtain ⟨p, hp⟩ : ∃ p, p = n + k := ⟨_, rfl⟩
          rw [← hp] at rowl hbl ⊢
          obtain ⟨wc, hwc⟩ : ∃ x, x = wr.alloc (.cells #[.int .u8 ((markQ q).toNat : Int)] 5) := ⟨_, rfl⟩
          obtain ⟨gc, hgc⟩ : ∃ g, g = wr.heap.size := ⟨_, rfl⟩
          have mc : Mod (fun _ => False) wr wc := by rw [hwc]; exact (Mod.refl _ _).alloc _
          have xc : wc.heap[gc]? = some (.cells (encB [markQ q]) 5 (0,0)) := by rw [hwc]; exact hp_new _ _ _ hgc
          have rowlc := clip_keep0 rowl mc
          have rowkc := clip_keep0 rowk mc
          have hw2 : base ≤ wc.heap.size := by have := mr2.out.size; have := mk.size; have := mc.size; omega
          obtain ⟨v9, w9, hr9, own9, m9, nb9, keep9⟩ := clip_append_one rowlc xc (by omega) hw2 22
          have rowk9 := keep9 (.slice al n cl) n (by omega) (by rw [List.take_replicate, Nat.min_eq_left (by omega)]; exact rowkc)
          rw [List.take_replicate, Nat.min_eq_left (by omega)] at rowk9
          rw [show List.replicate p (markQ q) ++ [markQ q] = List.replicate (p + 1) (markQ q) by rw [List.replicate_succ']] at own9
          have mk9 : Mod (fun x => (Value.slice al n cl).ownBlock = some x) w2 w9 := (mk.trans' mc (fun _ _ h => h.elim)).trans' m9 (fun x hx h => by
            rcases hbl x h with h1 | h1
            · exact h1
            · omega)
          have hbl9 : ∀ x, v9.ownBlock = some x → (Value.slice al n cl).ownBlock = some x ∨ w2.heap.size ≤ x := by
            intro x hx
            rcases nb9 x hx with h | h
            · exact hbl x h
            · have := mk.size; have := mc.size; exact .inr (by omega)
          replace hwc := Lib.hid hwc
          replace hgc := Lib.hid hgc
          replace own9 := Lib.hid own9
          replace rowk9 := Lib.hid rowk9
          replace mk9 := Lib.hid mk9
          replace hbl9 := Lib.hid hbl9
          replace hp := Lib.hid hp
          replace hkg := Lib.hid hkg
          replace hkn := Lib.hid hkn
          clear mk rowl rowk hbl xk mc xc rowlc rowkc m9 nb9 keep9
          go_upto_region 8 with (fail)
          refine wp_region_lit ?_
          refine wpList_reads (by kernel_rfl) (.slice ll p cc) (by go_simp) ?_
          simp only [Act.put, List.setIfInBounds_toArray, List.set_cons_zero, List.set_cons_succ]
          refine wpList_reads (by kernel_rfl) (.pointer (some ⟨gh', 2, none⟩)) (by go_simp) ?_
          simp only [Act.put, List.setIfInBounds_toArray, List.set_cons_zero, List.set_cons_succ]
          refine wpList_reads (by kernel_rfl) (.int .i64 (q : Int)) (by go_simp) ?_
          simp only [Act.put, List.setIfInBounds_toArray, List.set_cons_zero, List.set_cons_succ]
          refine wpList_enter (by kernel_rfl) 77 #[.int .i64 (q : Int)] (by go_simp) (markByte_any q hq1 wr) ?_
          rintro e ww ⟨rfl, rfl⟩
          refine ⟨_, rfl, ?_⟩
          simp only [Act.put, List.setIfInBounds_toArray, List.set_cons_zero, List.set_cons_succ]
          refine wpList_yields (by kernel_rfl) (.slice (some ⟨gc, 0, none⟩) 1 1) wc (by rw [hwc.out, hgc.out]; go_simp) ?_
          simp only [Act.put, List.setIfInBounds_toArray, List.set_cons_zero, List.set_cons_succ]
          refine wpList_yields (by kernel_rfl) v9 w9 (run_append_op2 rfl rfl rfl hr9) ?_
          simp only [Act.put, List.setIfInBounds_toArray, List.set_cons_zero, List.set_cons_succ]
          refine wpList_reads (by kernel_rfl) (v9) (by go_simp) ?_
          simp only [Act.put, List.setIfInBounds_toArray, List.set_cons_zero, List.set_cons_succ]
          clear hr9 ck2
          go_wp2
          go_roundg (gk - 1)
          case measure => have := hkg.out; have := hkn.out; omega
          case rel => exact ⟨k + 1, by have := hkg.out; have := hkn.out; omega, by go_num, mk9.out, by rw [show n + (k + 1) = p + 1 by have := hp.out; omega]; exact own9.out, rowk9.out, hbl9.out⟩
        · have hk40 : k = 40 := by omega
          have hdk : decide ((k : Int) < 40) = false := by rw [decide_eq_false_iff_not]; omega
          have hmgv : ∀ k, (Value.slice al n cl).ownBlock = some k → k ≠ gv := hLiv
          have atk : bookAt wr B N (.slice (some ⟨gv, 0, none⟩) N cv) := mk.heap at2.out (fun h => hLiB h)
          have ownk := ownsRow_block own2.out mk (fun k hk h => hmgv k h (by injection hk with hk; exact hk.symm))
          have cBk := book_one atk
          have lvb : ∀ x, (Value.slice ll (n + k) cc).ownBlock = some x → x ≠ gv := by
            intro x hx
            rcases hbl x hx with h | h
            · exact hmgv x h
            · omega
          -- the store
          have hgetk := (heldC_get N L Lo i hlt.out).2.1
          have ckk := ownk.cellAt (i * 3 + 1) (by have := hlt.out; omega)
          rw [hgetk, ← hLoi.out] at ckk
          have fkk := ownk.frozenAt (i * 3 + 1)
          obtain ⟨own9, gr9⟩ := ownk.stored (i * 3 + 1) (.slice ll (n + k) cc)
          rw [heldC_set N L Lo i hlt.out] at own9
          have m9 : Mod (fun x => x = gv) wr (wr.setCell ⟨gv, i * 3 + 1, none⟩ (.slice ll (n + k) cc)) := (Mod.refl _ _).grown gr9 (fun x hx _ => by injection hx with hx; exact hx.symm)
          obtain ⟨w9, hw9⟩ : ∃ x, x = wr.setCell ⟨gv, i * 3 + 1, none⟩ (.slice ll (n + k) cc) := ⟨_, rfl⟩
          have s9 : (storeVar 22 ⟨gv, i * 3 + 1, none⟩ (.slice ll (n + k) cc)).run Tryz.prog wr = .ok () w9 := by rw [hw9]; go_simp
          rw [← hw9] at own9 m9
          have at9 : bookAt w9 B N (.slice (some ⟨gv, 0, none⟩) N cv) := m9.heap atk (by intro h; exact ok.out.vB (by rw [h]; rfl))
          have mf9 : Mod (fun k => base ≤ k) w w9 := (mr2.out.trans (mk.mono fun x _ hx => (hLiw x hx).1)).trans (m9.mono fun x _ hx => by rw [hx]; exact (ownsRow_in ok.out.own rfl).1)
          have rows9 : ∀ j, j < N → ClipR w9 base (L j) (ns j) (bytesV (List.replicate (ns j) (markQ (j + 1)))) := by
            intro j hj
            by_cases e : j = i
            · subst e
              have h : ClipR wr base (L j) (ns j) (bytesV (List.replicate (ns j) (markQ (j + 1)))) := by rw [← hLi.out, ← hn.out, ← hq.out]; exact rowk
              exact clip_block h m9 (fun x hx h2 => hmgv x (by rw [hLi.out]; exact hx) h2)
            · have h := clip_block (rows2.out j hj) mk (fun x hx h => ok.out.apart j i hj hlt.out e x hx (by rw [← hLi.out]; exact h))
              exact clip_block h m9 (fun x hx h2 => ok.out.offv j hj x hx (by rw [h2]; rfl))
          have long9 : ∀ j, j < i + 1 → ByteAt w9 ((fun j => if j = i then (Value.slice ll (n + k) cc) else Lo j) j) (List.replicate (ns j + 40) (markQ (j + 1))) ∧ ∀ x, ((fun j => if j = i then (Value.slice ll (n + k) cc) else Lo j) j).ownBlock = some x → (L j).ownBlock = some x ∨ w.heap.size ≤ x := by
            intro j hj
            by_cases e : j = i
            · subst e
              simp only [if_pos rfl]
              refine ⟨?_, fun x hx => ?_⟩
              · have h := clip_byteAt (clip_block rowl m9 (fun x hx h2 => lvb x hx h2))
                rw [← hn.out, ← hq.out, ← hk40]
                exact h
              · rcases hbl x hx with h | h
                · exact .inl (by rw [← hLi.out]; exact h)
                · exact .inr (by omega)
            · simp only [if_neg e]
              refine ⟨byteAt_block (byteAt_block (longs2.out j (by omega)) mk ?_) m9 ?_, fun x hx => ?_⟩
              · intro x hx h
                rcases longsb.out j (by omega) x hx with h2 | h2
                · exact ok.out.apart j i (by have := hlt.out; omega) hlt.out e x h2 (by rw [← hLi.out]; exact h)
                · have := (hLiw x h).2; omega
              · intro x hx h
                rcases longsb.out j (by omega) x hx with h2 | h2
                · exact ok.out.offv j (by have := hlt.out; omega) x h2 (by rw [h]; rfl)
                · omega
              · rcases longsb.out j (by omega) x hx with h2 | h2
                · exact .inl h2
                · exact .inr h2.1
          have hone9 : ∀ j, ((fun j => if j = i then (Value.slice ll (n + k) cc) else Lo j) j).oneCell' = true := by
            intro j
            by_cases e : j = i
            · simp only [if_pos e]; rfl
            · simp only [if_neg e]; exact hone.out j
          replace hw9 := Lib.hid hw9
          replace own9 := Lib.hid own9
          replace at9 := Lib.hid at9
          replace mf9 := Lib.hid mf9
          replace rows9 := Lib.hid rows9
          replace long9 := Lib.hid long9
          replace hone9 := Lib.hid hone9
          replace hkg := Lib.hid hkg
          replace hk40 := Lib.hid hk40
          clear mk rowl rowk hbl xk ownk ckk fkk gr9 m9 atk lvb hkn
          go_upto_region 9 with (fail)
          refine wp_region_lit ?_
          refine wpList_reads (by kernel_rfl) (.pointer (some ⟨B, 0, none⟩)) (by go_simp) ?_
          simp only [Act.put, List.setIfInBounds_toArray, List.set_cons_zero, List.set_cons_succ]
          refine wpList_reads (by kernel_rfl) (.pointer (some ⟨B, 0, none⟩)) (by go_simp) ?_
          simp only [Act.put, List.setIfInBounds_toArray, List.set_cons_zero, List.set_cons_succ]
          refine wpList_reads (by kernel_rfl) (.pointer (some ⟨B, 1, none⟩)) (by go_simp) ?_
          simp only [Act.put, List.setIfInBounds_toArray, List.set_cons_zero, List.set_cons_succ]
          refine wpList_reads (by kernel_rfl) (.slice (some ⟨gv, 0, none⟩) N cv) (by go_simp) ?_
          simp only [Act.put, List.setIfInBounds_toArray, List.set_cons_zero, List.set_cons_succ]
          refine wpList_reads (by kernel_rfl) (.int .i64 (i : Int)) (by go_simp) ?_
          simp only [Act.put, List.setIfInBounds_toArray, List.set_cons_zero, List.set_cons_succ]
          refine wpList_reads (by kernel_rfl) (.slice ll (n + k) cc) (by go_simp) ?_
          simp only [Act.put, List.setIfInBounds_toArray, List.set_cons_zero, List.set_cons_succ]
          refine wpList_reads (by kernel_rfl) (.pointer (some ⟨gv, i * 3, none⟩)) (by go_simp) ?_
          simp only [Act.put, List.setIfInBounds_toArray, List.set_cons_zero, List.set_cons_succ]
          refine wpList_reads (by kernel_rfl) (.pointer (some ⟨gv, i * 3 + 1, none⟩)) (by go_simp) ?_
          simp only [Act.put, List.setIfInBounds_toArray, List.set_cons_zero, List.set_cons_succ]
          refine wpList_store_to rfl _ _ _ rfl _ _ _ rfl rfl _ s9 ?_
          simp only [Act.put, List.setIfInBounds_toArray, List.set_cons_zero, List.set_cons_succ]
          clear s9 cBk
          go_wp2
          go_roundw
          case measure => have := hlt.out; simp [intOf]; omega
          case rel => exact ⟨i + 1, by have := hlt.out; omega, by go_num, mf9.out, at9.out, rows9.out, _, own9.out, hone9.out, long9.out⟩
    · have hiN2 : i = N := by omega
      have hd : decide (i < N) = false := by rw [decide_eq_false_iff_not]; exact hlt
      have hfin : BookGrown wr base B N (.slice av N cv) L Lo ns := ⟨atr, ownr, fun j hj => clip_byteAt (rows j hj), fun j hj => (longs j (by omega)).1⟩
      replace hfin := Lib.hid hfin
      replace mr := Lib.hid mr
      replace hiN2 := Lib.hid hiN2
      clear ownr hlt rows longs atr hone hiN
      go_wp2
      go_end0
      exact ⟨rfl, mr.out, Lo, hfin.out⟩
end Go.Proofs.YtbiijcljpgannaaGreatDoor

namespace Go.Proofs.YtbiijcljpgannaaGreatDoor
set_option maxRecDepth 100000
open Go Go.RowKit Go.Lib
set_option linter.unusedSimpArgs false
set_option linter.unusedVariables false

theorem repl_getD (n k : Nat) (m : BitVec 8) (h : k < n) : (List.replicate n m).getD k 0 = m := by simp [h]
set_option maxRecDepth 100000 in
set_option maxHeartbeats 4000000 in
theorem lookByte_any (w : World) (base B N : Nat) (vb : Value) (L Lo : Nat → Value) (ns : Nat → Nat) (hN : N ≤ 1000) (hns : ∀ i, i < N → ns i ≤ 140737488351232) (ok : BookGrown w base B N vb L Lo ns) :
    Calls Tryz.prog 50 #[.pointer (some ⟨B, 0, none⟩)] w fun e w' => e = .returned (.bool true) ∧ Mod (fun _ => False) w w' := by
  obtain ⟨av, cv, hvb⟩ := own_slice ok.own
  have bN0 : (0 : Int) ≤ (N : Int) := by omega
  have bN : (N : Int) ≤ 1000 := by omega
  subst hvb
  have hB1 := book_one ok.at_
  replace ok := Lib.hid ok
  go_enter Tryz.func50, Tryz.ntmps50
  go_wp2
  go_loopw [3] (fun iv wr => ∃ i : Nat, i ≤ N ∧ iv = .int .i64 (i : Int) ∧ Mod (fun _ => False) w wr) (fun iv _ => N - (intOf iv).toNat)
  case atStart => exact ⟨0, by omega, rfl, Mod.refl _ _⟩
  case round =>
    obtain ⟨i, hiN, rfl, mr⟩ := hrel
    have bi0 : (0 : Int) ≤ (i : Int) := by omega
    have biN : (i : Int) ≤ (N : Int) := by omega
    have cB := cell_mod mr hB1 (fun h => h)
    have ownr := ownsRow_keep0 ok.out.own mr
    by_cases hlt : i < N
    · have hd : decide (i < N) = true := by rw [decide_eq_true_iff]; exact hlt
      have bil : (i : Int) < (N : Int) := by omega
      obtain ⟨gv, cv', hgv⟩ := own_some ownr (by omega)
      obtain ⟨rfl, rfl⟩ : av = some ⟨gv, 0, none⟩ ∧ cv = cv' := by injection hgv with h1 _ h2; exact ⟨h1, h2⟩
      have hld := held_load ownr i hlt
      obtain ⟨n, hn⟩ : ∃ n, n = ns i := ⟨_, rfl⟩
      obtain ⟨q, hq⟩ : ∃ q, q = i + 1 := ⟨_, rfl⟩
      have hnl := hns i hlt
      have hlow := ok.out.low i hlt
      have hlong := ok.out.long i hlt
      rw [← hn] at hnl hlow hlong
      rw [← hq] at hld hlow hlong
      have hq1 : q ≤ 1001 := by omega
      obtain ⟨N2, hN2⟩ : ∃ N2, N2 = n + 40 := ⟨_, rfl⟩
      rw [← hN2] at hlong
      obtain ⟨al, cl, hLi, _⟩ := hlow.slice
      obtain ⟨ao, co, hLo, _⟩ := hlong.slice
      rw [List.length_replicate] at hLi hLo
      rw [hLi] at hld hlow
      rw [hLo] at hld hlong
      -- the copy of what is held
      obtain ⟨wa, hwa⟩ : ∃ x, x = wr.alloc (.cells #[.slice none 0 0, .slice none 0 0, .int .i64 0] 79) := ⟨_, rfl⟩
      obtain ⟨gh', hgh⟩ : ∃ g, g = wr.heap.size := ⟨_, rfl⟩
      have ma : Mod (fun _ => False) wr wa := by rw [hwa]; exact (Mod.refl _ _).alloc _
      have xa : wa.heap[gh']? = some (.cells #[.slice none 0 0, .slice none 0 0, .int .i64 0] 79 (0,0)) := by rw [hwa]; exact hp_new _ _ _ hgh
      obtain ⟨w2, st2, m2', x2⟩ := held_store xa (x := .slice al n cl) (y := .slice ao N2 co) (z := .int .i64 (q : Int)) rfl rfl rfl
      have m2 : Mod (fun _ => False) wr w2 := ma.trans' m2' (fun k hk h => by omega)
      have mr2 := mr.trans m2
      have low2 := byteAt_block hlow mr2 (fun _ _ h => h)
      have long2 := byteAt_block hlong mr2 (fun _ _ h => h)
      have bn0 : (0 : Int) ≤ (n : Int) := by omega
      have bN20 : (0 : Int) ≤ (N2 : Int) := by omega
      have hN2i : (n : Int) + 40 = (N2 : Int) := by omega
      have hwN2 : IntKind.i64.wrap (N2 : Int) = (N2 : Int) := by rw [IntKind.wrap_i64]; omega
      have ch0 : w2.cell? ⟨gh', 0, none⟩ = some (.slice al n cl) := by rw [cell_of_row _ _ _ _ _ _ x2]; rfl
      have ch1 : w2.cell? ⟨gh', 1, none⟩ = some (.slice ao N2 co) := by rw [cell_of_row _ _ _ _ _ _ x2]; rfl
      replace hwa := Lib.hid hwa
      replace hgh := Lib.hid hgh
      replace mr2 := Lib.hid mr2
      replace x2 := Lib.hid x2
      replace low2 := Lib.hid low2
      replace long2 := Lib.hid long2
      replace hq := Lib.hid hq
      replace hn := Lib.hid hn
      replace hN2 := Lib.hid hN2
      replace hlt := Lib.hid hlt
      clear mr ownr hgv ma xa m2' m2 hlow hlong hLi hLo hiN
      go_upto_region 4 with (fail)
      refine wp_region_lit ?_
      refine wpList_reads (by kernel_rfl) (.pointer (some ⟨B, 0, none⟩)) (by go_simp) ?_
      simp only [Act.put, List.setIfInBounds_toArray, List.set_cons_zero, List.set_cons_succ]
      refine wpList_reads (by kernel_rfl) (.pointer (some ⟨B, 0, none⟩)) (by go_simp) ?_
      simp only [Act.put, List.setIfInBounds_toArray, List.set_cons_zero, List.set_cons_succ]
      refine wpList_reads (by kernel_rfl) (.pointer (some ⟨B, 1, none⟩)) (by go_simp) ?_
      simp only [Act.put, List.setIfInBounds_toArray, List.set_cons_zero, List.set_cons_succ]
      refine wpList_reads (by kernel_rfl) (.slice (some ⟨gv, 0, none⟩) N cv) (by go_simp) ?_
      simp only [Act.put, List.setIfInBounds_toArray, List.set_cons_zero, List.set_cons_succ]
      refine wpList_reads (by kernel_rfl) (.int .i64 (i : Int)) (by go_simp) ?_
      simp only [Act.put, List.setIfInBounds_toArray, List.set_cons_zero, List.set_cons_succ]
      refine wpList_reads (by kernel_rfl) (.pointer (some ⟨gv, i * 3, none⟩)) (by go_simp) ?_
      simp only [Act.put, List.setIfInBounds_toArray, List.set_cons_zero, List.set_cons_succ]
      refine wpList_reads (by kernel_rfl) (.agg #[.slice al n cl, .slice ao N2 co, .int .i64 (q : Int)]) (run_load_op rfl rfl hld) ?_
      simp only [Act.put, List.setIfInBounds_toArray, List.set_cons_zero, List.set_cons_succ]
      refine wpList_yields (by kernel_rfl) _ _ (alloc_held _ _ _ rfl) ?_
      simp only [Act.put, List.setIfInBounds_toArray, List.set_cons_zero, List.set_cons_succ]
      rw [← hgh.out, ← hwa.out]
      refine wpList_store_to rfl _ _ _ rfl _ _ _ rfl rfl _ st2 ?_
      simp only [Act.put, List.setIfInBounds_toArray, List.set_cons_zero, List.set_cons_succ]
      clear st2 hld cB
      go_upto_region 7 with (fail)
      go_wp2
      go_loopg [5] N2 (fun gh kv wr => ∃ k : Nat, k + gh = N2 ∧ kv = .int .i64 (k : Int) ∧ Mod (fun _ => False) w2 wr)
      case atStart => exact ⟨0, by omega, rfl, Mod.refl _ _⟩
      case round =>
        obtain ⟨k, hkg, rfl, mk⟩ := hrel
        have bk0 : (0 : Int) ≤ (k : Int) := by omega
        have bkN : (k : Int) ≤ (N2 : Int) := by omega
        have xk := mk.heap x2.out (fun h => h)
        have ck0 : wr.cell? ⟨gh', 0, none⟩ = some (.slice al n cl) := by rw [cell_of_row _ _ _ _ _ _ xk]; rfl
        have ck1 : wr.cell? ⟨gh', 1, none⟩ = some (.slice ao N2 co) := by rw [cell_of_row _ _ _ _ _ _ xk]; rfl
        have ck2 : wr.cell? ⟨gh', 2, none⟩ = some (.int .i64 (q : Int)) := by rw [cell_of_row _ _ _ _ _ _ xk]; rfl
        by_cases hkn : k < N2
        · have hdk : decide (k < N2) = true := by rw [decide_eq_true_iff]; exact hkn
          have bkl : (k : Int) < (N2 : Int) := by omega
          obtain ⟨a5, c5, h5, h6⟩ := (byteAt_block long2.out mk (fun _ _ h => h)).slice
          obtain ⟨g, off, h7, h8, h9⟩ := h6 k (by rw [List.length_replicate]; exact hkn)
          obtain rfl : ao = some ⟨g, off, none⟩ := by injection h5 with h5; rw [h5, h7]
          rw [repl_getD _ _ _ hkn] at h9
          have mlow := (byteAt_block low2.out mk (fun _ _ h => h)).slice
          replace xk := Lib.hid xk
          replace hkg := Lib.hid hkg
          clear h5 h6 h7 h8 a5 c5
          by_cases hk2 : k < n
          · have hdk2 : decide (k < n) = true := by rw [decide_eq_true_iff]; exact hk2
            have bkl2 : (k : Int) < (n : Int) := by omega
            obtain ⟨a5, c5, h5, h6⟩ := mlow
            obtain ⟨g2, off2, h7, h8, h9b⟩ := h6 k (by rw [List.length_replicate]; exact hk2)
            obtain rfl : al = some ⟨g2, off2, none⟩ := by injection h5 with h5; rw [h5, h7]
            rw [repl_getD _ _ _ hk2] at h9b
            replace hkn := Lib.hid hkn
            replace hk2 := Lib.hid hk2
            replace mk := Lib.hid mk
            clear h5 h6 h7 h8 a5 c5
            go_upto_region 10 with (fail)
            go_quiet (refine Calls.quiet_of_same (isByte_any q hq1 _))
            obtain ⟨wq, hwq⟩ : ∃ x, x = wr.drewN nq := ⟨_, rfl⟩
            have mq : Mod (fun _ => False) w2 wq := by rw [hwq]; exact mk.out.drewN nq
            rw [← hwq]
            replace hwq := Lib.hid hwq
            replace mq := Lib.hid mq
            clear h9 ck0 ck1 ck2
            go_wp2
            go_roundg (gk - 1)
            case measure => have := hkg.out; have := hkn.out; omega
            case rel => exact ⟨k + 1, by have := hkg.out; have := hkn.out; omega, by go_num, mq.out⟩
          · have hdk2 : decide (k < n) = false := by rw [decide_eq_false_iff_not]; exact hk2
            replace hkn := Lib.hid hkn
            replace hk2 := Lib.hid hk2
            replace mk := Lib.hid mk
            clear mlow
            go_upto_region 10 with (fail)
            go_quiet (refine Calls.quiet_of_same (isByte_any q hq1 _))
            obtain ⟨wq, hwq⟩ : ∃ x, x = wr.drewN nq := ⟨_, rfl⟩
            have mq : Mod (fun _ => False) w2 wq := by rw [hwq]; exact mk.out.drewN nq
            rw [← hwq]
            replace hwq := Lib.hid hwq
            replace mq := Lib.hid mq
            clear h9 ck0 ck1 ck2
            go_wp2
            go_roundg (gk - 1)
            case measure => have := hkg.out; have := hkn.out; omega
            case rel => exact ⟨k + 1, by have := hkg.out; have := hkn.out; omega, by go_num, mq.out⟩
        · have hdk : decide (k < N2) = false := by rw [decide_eq_false_iff_not]; exact hkn
          have mf := mr2.out.trans mk
          replace mf := Lib.hid mf
          replace hkg := Lib.hid hkg
          replace hkn := Lib.hid hkn
          clear mk xk
          go_wp2
          go_roundw
          case measure => have := hlt.out; simp [intOf]; omega
          case rel => exact ⟨i + 1, by have := hlt.out; omega, by go_num, mf.out⟩
    · have hd : decide (i < N) = false := by rw [decide_eq_false_iff_not]; exact hlt
      replace mr := Lib.hid mr
      replace hlt := Lib.hid hlt
      clear ownr
      go_wp2
      go_ret
      exact ⟨rfl, mr.out⟩

set_option maxRecDepth 100000 in
set_option maxHeartbeats 4000000 in
theorem apart_any (w : World) (base B N : Nat) (vb : Value) (L : Nat → Value) (xs : Nat → List (BitVec 8)) (ok : BookOk w base B N vb L xs) :
    Calls Tryz.prog 14 #[.pointer (some ⟨B, 0, none⟩)] w fun e w' => e = .returned (.bool true) ∧ Mod (fun k => base ≤ k) w w' := by
  go_enter Tryz.func14, Tryz.ntmps14
  have hB := ok.hB
  have hsh := ok.short
  have hfew := ok.few
  replace ok := Lib.hid ok
  go_upto_region 1 with (fail)
  refine wp_region_lit ?_
  refine wpList_reads (by kernel_rfl) (.pointer (some ⟨B, 0, none⟩)) (by go_simp) ?_
  simp only [Act.put, List.setIfInBounds_toArray, List.set_cons_zero, List.set_cons_succ]
  refine wpList_enter (by kernel_rfl) 26 #[.pointer (some ⟨B, 0, none⟩)] (by go_simp) (fillByte_any w base B N vb L xs ok.out) ?_
  rintro e w1 ⟨rfl, m1', ok1⟩
  have m1 : Mod (fun k => base ≤ k) w w1 := m1'.mono (fun k _ ⟨i, hi, h⟩ => (clip_in (ok.out.row i hi) h).1)
  have at1 := ok1.at_
  replace m1 := Lib.hid m1
  replace ok1 := Lib.hid ok1
  replace at1 := Lib.hid at1
  clear m1'
  refine ⟨_, rfl, ?_⟩
  simp only [Act.put, List.setIfInBounds_toArray, List.set_cons_zero, List.set_cons_succ]
  go_upto_region 2 with (fail)
  refine wp_region_lit ?_
  refine wpList_reads (by kernel_rfl) (.pointer (some ⟨B, 0, none⟩)) (by go_simp) ?_
  simp only [Act.put, List.setIfInBounds_toArray, List.set_cons_zero, List.set_cons_succ]
  refine wpList_enter (by kernel_rfl) 27 #[.pointer (some ⟨B, 0, none⟩)] (by go_simp) (fillNumber_nil w1 B N vb at1.out) ?_
  rintro e ww ⟨hw_, rfl⟩
  rw [hw_]
  clear hw_
  refine ⟨_, rfl, ?_⟩
  simp only [Act.put, List.setIfInBounds_toArray, List.set_cons_zero, List.set_cons_succ]
  go_upto_region 3 with (fail)
  refine wp_region_lit ?_
  refine wpList_reads (by kernel_rfl) (.pointer (some ⟨B, 0, none⟩)) (by go_simp) ?_
  simp only [Act.put, List.setIfInBounds_toArray, List.set_cons_zero, List.set_cons_succ]
  refine wpList_enter (by kernel_rfl) 28 #[.pointer (some ⟨B, 0, none⟩)] (by go_simp) (fillInt_nil w1 B N vb at1.out) ?_
  rintro e ww ⟨hw_, rfl⟩
  rw [hw_]
  clear hw_
  refine ⟨_, rfl, ?_⟩
  simp only [Act.put, List.setIfInBounds_toArray, List.set_cons_zero, List.set_cons_succ]
  go_upto_region 4 with (fail)
  refine wp_region_lit ?_
  refine wpList_reads (by kernel_rfl) (.pointer (some ⟨B, 0, none⟩)) (by go_simp) ?_
  simp only [Act.put, List.setIfInBounds_toArray, List.set_cons_zero, List.set_cons_succ]
  refine wpList_enter (by kernel_rfl) 29 #[.pointer (some ⟨B, 0, none⟩)] (by go_simp) (fillText_nil w1 B N vb at1.out) ?_
  rintro e ww ⟨hw_, rfl⟩
  rw [hw_]
  clear hw_
  refine ⟨_, rfl, ?_⟩
  simp only [Act.put, List.setIfInBounds_toArray, List.set_cons_zero, List.set_cons_succ]
  go_upto_region 5 with (fail)
  refine wp_region_lit ?_
  refine wpList_reads (by kernel_rfl) (.pointer (some ⟨B, 0, none⟩)) (by go_simp) ?_
  simp only [Act.put, List.setIfInBounds_toArray, List.set_cons_zero, List.set_cons_succ]
  refine wpList_enter (by kernel_rfl) 30 #[.pointer (some ⟨B, 0, none⟩)] (by go_simp) (fillBlob_nil w1 B N vb at1.out) ?_
  rintro e ww ⟨hw_, rfl⟩
  rw [hw_]
  clear hw_
  refine ⟨_, rfl, ?_⟩
  simp only [Act.put, List.setIfInBounds_toArray, List.set_cons_zero, List.set_cons_succ]
  go_upto_region 6 with (fail)
  refine wp_region_lit ?_
  refine wpList_reads (by kernel_rfl) (.pointer (some ⟨B, 0, none⟩)) (by go_simp) ?_
  simp only [Act.put, List.setIfInBounds_toArray, List.set_cons_zero, List.set_cons_succ]
  refine wpList_enter (by kernel_rfl) 31 #[.pointer (some ⟨B, 0, none⟩)] (by go_simp) (fillRange_nil w1 B N vb at1.out) ?_
  rintro e ww ⟨hw_, rfl⟩
  rw [hw_]
  clear hw_
  refine ⟨_, rfl, ?_⟩
  simp only [Act.put, List.setIfInBounds_toArray, List.set_cons_zero, List.set_cons_succ]
  go_upto_region 7 with (fail)
  refine wp_region_lit ?_
  refine wpList_reads (by kernel_rfl) (.pointer (some ⟨B, 0, none⟩)) (by go_simp) ?_
  simp only [Act.put, List.setIfInBounds_toArray, List.set_cons_zero, List.set_cons_succ]
  refine wpList_enter (by kernel_rfl) 32 #[.pointer (some ⟨B, 0, none⟩)] (by go_simp) (fillFrame_nil w1 B N vb at1.out) ?_
  rintro e ww ⟨hw_, rfl⟩
  rw [hw_]
  clear hw_
  refine ⟨_, rfl, ?_⟩
  simp only [Act.put, List.setIfInBounds_toArray, List.set_cons_zero, List.set_cons_succ]
  go_upto_region 8 with (fail)
  refine wp_region_lit ?_
  refine wpList_reads (by kernel_rfl) (.pointer (some ⟨B, 0, none⟩)) (by go_simp) ?_
  simp only [Act.put, List.setIfInBounds_toArray, List.set_cons_zero, List.set_cons_succ]
  refine wpList_enter (by kernel_rfl) 33 #[.pointer (some ⟨B, 0, none⟩)] (by go_simp) (fillField_nil w1 B N vb at1.out) ?_
  rintro e ww ⟨hw_, rfl⟩
  rw [hw_]
  clear hw_
  refine ⟨_, rfl, ?_⟩
  simp only [Act.put, List.setIfInBounds_toArray, List.set_cons_zero, List.set_cons_succ]
  go_upto_region 9 with (fail)
  refine wp_region_lit ?_
  refine wpList_reads (by kernel_rfl) (.pointer (some ⟨B, 0, none⟩)) (by go_simp) ?_
  simp only [Act.put, List.setIfInBounds_toArray, List.set_cons_zero, List.set_cons_succ]
  refine wpList_enter (by kernel_rfl) 34 #[.pointer (some ⟨B, 0, none⟩)] (by go_simp) (fillMessage_nil w1 B N vb at1.out) ?_
  rintro e ww ⟨hw_, rfl⟩
  rw [hw_]
  clear hw_
  refine ⟨_, rfl, ?_⟩
  simp only [Act.put, List.setIfInBounds_toArray, List.set_cons_zero, List.set_cons_succ]
  go_upto_region 10 with (fail)
  refine wp_region_lit ?_
  refine wpList_reads (by kernel_rfl) (.pointer (some ⟨B, 0, none⟩)) (by go_simp) ?_
  simp only [Act.put, List.setIfInBounds_toArray, List.set_cons_zero, List.set_cons_succ]
  refine wpList_enter (by kernel_rfl) 35 #[.pointer (some ⟨B, 0, none⟩)] (by go_simp) (fillRule_nil w1 B N vb at1.out) ?_
  rintro e ww ⟨hw_, rfl⟩
  rw [hw_]
  clear hw_
  refine ⟨_, rfl, ?_⟩
  simp only [Act.put, List.setIfInBounds_toArray, List.set_cons_zero, List.set_cons_succ]
  go_upto_region 11 with (fail)
  refine wp_region_lit ?_
  refine wpList_reads (by kernel_rfl) (.pointer (some ⟨B, 0, none⟩)) (by go_simp) ?_
  simp only [Act.put, List.setIfInBounds_toArray, List.set_cons_zero, List.set_cons_succ]
  refine wpList_enter (by kernel_rfl) 36 #[.pointer (some ⟨B, 0, none⟩)] (by go_simp) (fillEvent_nil w1 B N vb at1.out) ?_
  rintro e ww ⟨hw_, rfl⟩
  rw [hw_]
  clear hw_
  refine ⟨_, rfl, ?_⟩
  simp only [Act.put, List.setIfInBounds_toArray, List.set_cons_zero, List.set_cons_succ]
  go_upto_region 12 with (fail)
  refine wp_region_lit ?_
  refine wpList_reads (by kernel_rfl) (.pointer (some ⟨B, 0, none⟩)) (by go_simp) ?_
  simp only [Act.put, List.setIfInBounds_toArray, List.set_cons_zero, List.set_cons_succ]
  refine wpList_enter (by kernel_rfl) 37 #[.pointer (some ⟨B, 0, none⟩)] (by go_simp) (fillReply_nil w1 B N vb at1.out) ?_
  rintro e ww ⟨hw_, rfl⟩
  rw [hw_]
  clear hw_
  refine ⟨_, rfl, ?_⟩
  simp only [Act.put, List.setIfInBounds_toArray, List.set_cons_zero, List.set_cons_succ]
  go_upto_region 13 with (fail)
  refine wp_region_lit ?_
  refine wpList_reads (by kernel_rfl) (.pointer (some ⟨B, 0, none⟩)) (by go_simp) ?_
  simp only [Act.put, List.setIfInBounds_toArray, List.set_cons_zero, List.set_cons_succ]
  refine wpList_enter (by kernel_rfl) 38 #[.pointer (some ⟨B, 0, none⟩)] (by go_simp) (growByte_any w1 base B N vb L (fun i => (xs i).length) ok1.out) ?_
  rintro e w2 ⟨rfl, m2, Lo, gr2⟩
  have m02 := m1.out.trans m2
  have at2 := gr2.at_
  replace m02 := Lib.hid m02
  replace gr2 := Lib.hid gr2
  replace at2 := Lib.hid at2
  clear m2
  refine ⟨_, rfl, ?_⟩
  simp only [Act.put, List.setIfInBounds_toArray, List.set_cons_zero, List.set_cons_succ]
  go_upto_region 14 with (fail)
  refine wp_region_lit ?_
  refine wpList_reads (by kernel_rfl) (.pointer (some ⟨B, 0, none⟩)) (by go_simp) ?_
  simp only [Act.put, List.setIfInBounds_toArray, List.set_cons_zero, List.set_cons_succ]
  refine wpList_enter (by kernel_rfl) 39 #[.pointer (some ⟨B, 0, none⟩)] (by go_simp) (growNumber_nil w2 B N vb at2.out) ?_
  rintro e ww ⟨hw_, rfl⟩
  rw [hw_]
  clear hw_
  refine ⟨_, rfl, ?_⟩
  simp only [Act.put, List.setIfInBounds_toArray, List.set_cons_zero, List.set_cons_succ]
  go_upto_region 15 with (fail)
  refine wp_region_lit ?_
  refine wpList_reads (by kernel_rfl) (.pointer (some ⟨B, 0, none⟩)) (by go_simp) ?_
  simp only [Act.put, List.setIfInBounds_toArray, List.set_cons_zero, List.set_cons_succ]
  refine wpList_enter (by kernel_rfl) 40 #[.pointer (some ⟨B, 0, none⟩)] (by go_simp) (growInt_nil w2 B N vb at2.out) ?_
  rintro e ww ⟨hw_, rfl⟩
  rw [hw_]
  clear hw_
  refine ⟨_, rfl, ?_⟩
  simp only [Act.put, List.setIfInBounds_toArray, List.set_cons_zero, List.set_cons_succ]
  go_upto_region 16 with (fail)
  refine wp_region_lit ?_
  refine wpList_reads (by kernel_rfl) (.pointer (some ⟨B, 0, none⟩)) (by go_simp) ?_
  simp only [Act.put, List.setIfInBounds_toArray, List.set_cons_zero, List.set_cons_succ]
  refine wpList_enter (by kernel_rfl) 41 #[.pointer (some ⟨B, 0, none⟩)] (by go_simp) (growText_nil w2 B N vb at2.out) ?_
  rintro e ww ⟨hw_, rfl⟩
  rw [hw_]
  clear hw_
  refine ⟨_, rfl, ?_⟩
  simp only [Act.put, List.setIfInBounds_toArray, List.set_cons_zero, List.set_cons_succ]
  go_upto_region 17 with (fail)
  refine wp_region_lit ?_
  refine wpList_reads (by kernel_rfl) (.pointer (some ⟨B, 0, none⟩)) (by go_simp) ?_
  simp only [Act.put, List.setIfInBounds_toArray, List.set_cons_zero, List.set_cons_succ]
  refine wpList_enter (by kernel_rfl) 42 #[.pointer (some ⟨B, 0, none⟩)] (by go_simp) (growBlob_nil w2 B N vb at2.out) ?_
  rintro e ww ⟨hw_, rfl⟩
  rw [hw_]
  clear hw_
  refine ⟨_, rfl, ?_⟩
  simp only [Act.put, List.setIfInBounds_toArray, List.set_cons_zero, List.set_cons_succ]
  go_upto_region 18 with (fail)
  refine wp_region_lit ?_
  refine wpList_reads (by kernel_rfl) (.pointer (some ⟨B, 0, none⟩)) (by go_simp) ?_
  simp only [Act.put, List.setIfInBounds_toArray, List.set_cons_zero, List.set_cons_succ]
  refine wpList_enter (by kernel_rfl) 43 #[.pointer (some ⟨B, 0, none⟩)] (by go_simp) (growRange_nil w2 B N vb at2.out) ?_
  rintro e ww ⟨hw_, rfl⟩
  rw [hw_]
  clear hw_
  refine ⟨_, rfl, ?_⟩
  simp only [Act.put, List.setIfInBounds_toArray, List.set_cons_zero, List.set_cons_succ]
  go_upto_region 19 with (fail)
  refine wp_region_lit ?_
  refine wpList_reads (by kernel_rfl) (.pointer (some ⟨B, 0, none⟩)) (by go_simp) ?_
  simp only [Act.put, List.setIfInBounds_toArray, List.set_cons_zero, List.set_cons_succ]
  refine wpList_enter (by kernel_rfl) 44 #[.pointer (some ⟨B, 0, none⟩)] (by go_simp) (growFrame_nil w2 B N vb at2.out) ?_
  rintro e ww ⟨hw_, rfl⟩
  rw [hw_]
  clear hw_
  refine ⟨_, rfl, ?_⟩
  simp only [Act.put, List.setIfInBounds_toArray, List.set_cons_zero, List.set_cons_succ]
  go_upto_region 20 with (fail)
  refine wp_region_lit ?_
  refine wpList_reads (by kernel_rfl) (.pointer (some ⟨B, 0, none⟩)) (by go_simp) ?_
  simp only [Act.put, List.setIfInBounds_toArray, List.set_cons_zero, List.set_cons_succ]
  refine wpList_enter (by kernel_rfl) 45 #[.pointer (some ⟨B, 0, none⟩)] (by go_simp) (growField_nil w2 B N vb at2.out) ?_
  rintro e ww ⟨hw_, rfl⟩
  rw [hw_]
  clear hw_
  refine ⟨_, rfl, ?_⟩
  simp only [Act.put, List.setIfInBounds_toArray, List.set_cons_zero, List.set_cons_succ]
  go_upto_region 21 with (fail)
  refine wp_region_lit ?_
  refine wpList_reads (by kernel_rfl) (.pointer (some ⟨B, 0, none⟩)) (by go_simp) ?_
  simp only [Act.put, List.setIfInBounds_toArray, List.set_cons_zero, List.set_cons_succ]
  refine wpList_enter (by kernel_rfl) 46 #[.pointer (some ⟨B, 0, none⟩)] (by go_simp) (growMessage_nil w2 B N vb at2.out) ?_
  rintro e ww ⟨hw_, rfl⟩
  rw [hw_]
  clear hw_
  refine ⟨_, rfl, ?_⟩
  simp only [Act.put, List.setIfInBounds_toArray, List.set_cons_zero, List.set_cons_succ]
  go_upto_region 22 with (fail)
  refine wp_region_lit ?_
  refine wpList_reads (by kernel_rfl) (.pointer (some ⟨B, 0, none⟩)) (by go_simp) ?_
  simp only [Act.put, List.setIfInBounds_toArray, List.set_cons_zero, List.set_cons_succ]
  refine wpList_enter (by kernel_rfl) 47 #[.pointer (some ⟨B, 0, none⟩)] (by go_simp) (growRule_nil w2 B N vb at2.out) ?_
  rintro e ww ⟨hw_, rfl⟩
  rw [hw_]
  clear hw_
  refine ⟨_, rfl, ?_⟩
  simp only [Act.put, List.setIfInBounds_toArray, List.set_cons_zero, List.set_cons_succ]
  go_upto_region 23 with (fail)
  refine wp_region_lit ?_
  refine wpList_reads (by kernel_rfl) (.pointer (some ⟨B, 0, none⟩)) (by go_simp) ?_
  simp only [Act.put, List.setIfInBounds_toArray, List.set_cons_zero, List.set_cons_succ]
  refine wpList_enter (by kernel_rfl) 48 #[.pointer (some ⟨B, 0, none⟩)] (by go_simp) (growEvent_nil w2 B N vb at2.out) ?_
  rintro e ww ⟨hw_, rfl⟩
  rw [hw_]
  clear hw_
  refine ⟨_, rfl, ?_⟩
  simp only [Act.put, List.setIfInBounds_toArray, List.set_cons_zero, List.set_cons_succ]
  go_upto_region 24 with (fail)
  refine wp_region_lit ?_
  refine wpList_reads (by kernel_rfl) (.pointer (some ⟨B, 0, none⟩)) (by go_simp) ?_
  simp only [Act.put, List.setIfInBounds_toArray, List.set_cons_zero, List.set_cons_succ]
  refine wpList_enter (by kernel_rfl) 49 #[.pointer (some ⟨B, 0, none⟩)] (by go_simp) (growReply_nil w2 B N vb at2.out) ?_
  rintro e ww ⟨hw_, rfl⟩
  rw [hw_]
  clear hw_
  refine ⟨_, rfl, ?_⟩
  simp only [Act.put, List.setIfInBounds_toArray, List.set_cons_zero, List.set_cons_succ]
  go_upto_region 25 with (fail)
  refine wp_region_lit ?_
  refine wpList_reads (by kernel_rfl) (.pointer (some ⟨B, 0, none⟩)) (by go_simp) ?_
  simp only [Act.put, List.setIfInBounds_toArray, List.set_cons_zero, List.set_cons_succ]
  refine wpList_enter (by kernel_rfl) 50 #[.pointer (some ⟨B, 0, none⟩)] (by go_simp) (lookByte_any w2 base B N vb L Lo (fun i => (xs i).length) hfew hsh gr2.out) ?_
  rintro e w3 ⟨rfl, m3⟩
  have m03 := m02.out.trans' m3 (fun _ _ h => h.elim)
  have at3 : bookAt w3 B N vb := m3.heap at2.out (fun h => h)
  replace m03 := Lib.hid m03
  replace at3 := Lib.hid at3
  clear m3
  refine ⟨_, rfl, ?_⟩
  simp only [Act.put, List.setIfInBounds_toArray, List.set_cons_zero, List.set_cons_succ]
  refine wpList_reads (by kernel_rfl) (.bool true) (by go_simp) ?_
  simp only [Act.put, List.setIfInBounds_toArray, List.set_cons_zero, List.set_cons_succ]
  refine wpList_reads (by kernel_rfl) (.pointer (some ⟨B, 0, none⟩)) (by go_simp) ?_
  simp only [Act.put, List.setIfInBounds_toArray, List.set_cons_zero, List.set_cons_succ]
  refine wpList_enter (by kernel_rfl) 51 #[.pointer (some ⟨B, 0, none⟩)] (by go_simp) (lookNumber_nil w3 B N vb at3.out) ?_
  rintro e ww ⟨hw_, rfl⟩
  rw [hw_]
  clear hw_
  refine ⟨_, rfl, ?_⟩
  simp only [Act.put, List.setIfInBounds_toArray, List.set_cons_zero, List.set_cons_succ]
  refine wpList_reads (by kernel_rfl) (.bool true) (by go_simp) ?_
  simp only [Act.put, List.setIfInBounds_toArray, List.set_cons_zero, List.set_cons_succ]
  refine wpList_reads (by kernel_rfl) (.bool true) (by go_simp) ?_
  simp only [Act.put, List.setIfInBounds_toArray, List.set_cons_zero, List.set_cons_succ]
  refine wpList_reads (by kernel_rfl) (.pointer (some ⟨B, 0, none⟩)) (by go_simp) ?_
  simp only [Act.put, List.setIfInBounds_toArray, List.set_cons_zero, List.set_cons_succ]
  refine wpList_enter (by kernel_rfl) 52 #[.pointer (some ⟨B, 0, none⟩)] (by go_simp) (lookInt_nil w3 B N vb at3.out) ?_
  rintro e ww ⟨hw_, rfl⟩
  rw [hw_]
  clear hw_
  refine ⟨_, rfl, ?_⟩
  simp only [Act.put, List.setIfInBounds_toArray, List.set_cons_zero, List.set_cons_succ]
  refine wpList_reads (by kernel_rfl) (.bool true) (by go_simp) ?_
  simp only [Act.put, List.setIfInBounds_toArray, List.set_cons_zero, List.set_cons_succ]
  refine wpList_reads (by kernel_rfl) (.bool true) (by go_simp) ?_
  simp only [Act.put, List.setIfInBounds_toArray, List.set_cons_zero, List.set_cons_succ]
  refine wpList_reads (by kernel_rfl) (.pointer (some ⟨B, 0, none⟩)) (by go_simp) ?_
  simp only [Act.put, List.setIfInBounds_toArray, List.set_cons_zero, List.set_cons_succ]
  refine wpList_enter (by kernel_rfl) 53 #[.pointer (some ⟨B, 0, none⟩)] (by go_simp) (lookText_nil w3 B N vb at3.out) ?_
  rintro e ww ⟨hw_, rfl⟩
  rw [hw_]
  clear hw_
  refine ⟨_, rfl, ?_⟩
  simp only [Act.put, List.setIfInBounds_toArray, List.set_cons_zero, List.set_cons_succ]
  refine wpList_reads (by kernel_rfl) (.bool true) (by go_simp) ?_
  simp only [Act.put, List.setIfInBounds_toArray, List.set_cons_zero, List.set_cons_succ]
  refine wpList_reads (by kernel_rfl) (.bool true) (by go_simp) ?_
  simp only [Act.put, List.setIfInBounds_toArray, List.set_cons_zero, List.set_cons_succ]
  refine wpList_reads (by kernel_rfl) (.pointer (some ⟨B, 0, none⟩)) (by go_simp) ?_
  simp only [Act.put, List.setIfInBounds_toArray, List.set_cons_zero, List.set_cons_succ]
  refine wpList_enter (by kernel_rfl) 54 #[.pointer (some ⟨B, 0, none⟩)] (by go_simp) (lookBlob_nil w3 B N vb at3.out) ?_
  rintro e ww ⟨hw_, rfl⟩
  rw [hw_]
  clear hw_
  refine ⟨_, rfl, ?_⟩
  simp only [Act.put, List.setIfInBounds_toArray, List.set_cons_zero, List.set_cons_succ]
  refine wpList_reads (by kernel_rfl) (.bool true) (by go_simp) ?_
  simp only [Act.put, List.setIfInBounds_toArray, List.set_cons_zero, List.set_cons_succ]
  refine wpList_reads (by kernel_rfl) (.bool true) (by go_simp) ?_
  simp only [Act.put, List.setIfInBounds_toArray, List.set_cons_zero, List.set_cons_succ]
  refine wpList_reads (by kernel_rfl) (.pointer (some ⟨B, 0, none⟩)) (by go_simp) ?_
  simp only [Act.put, List.setIfInBounds_toArray, List.set_cons_zero, List.set_cons_succ]
  refine wpList_enter (by kernel_rfl) 55 #[.pointer (some ⟨B, 0, none⟩)] (by go_simp) (lookRange_nil w3 B N vb at3.out) ?_
  rintro e ww ⟨hw_, rfl⟩
  rw [hw_]
  clear hw_
  refine ⟨_, rfl, ?_⟩
  simp only [Act.put, List.setIfInBounds_toArray, List.set_cons_zero, List.set_cons_succ]
  refine wpList_reads (by kernel_rfl) (.bool true) (by go_simp) ?_
  simp only [Act.put, List.setIfInBounds_toArray, List.set_cons_zero, List.set_cons_succ]
  refine wpList_reads (by kernel_rfl) (.bool true) (by go_simp) ?_
  simp only [Act.put, List.setIfInBounds_toArray, List.set_cons_zero, List.set_cons_succ]
  refine wpList_reads (by kernel_rfl) (.pointer (some ⟨B, 0, none⟩)) (by go_simp) ?_
  simp only [Act.put, List.setIfInBounds_toArray, List.set_cons_zero, List.set_cons_succ]
  refine wpList_enter (by kernel_rfl) 56 #[.pointer (some ⟨B, 0, none⟩)] (by go_simp) (lookFrame_nil w3 B N vb at3.out) ?_
  rintro e ww ⟨hw_, rfl⟩
  rw [hw_]
  clear hw_
  refine ⟨_, rfl, ?_⟩
  simp only [Act.put, List.setIfInBounds_toArray, List.set_cons_zero, List.set_cons_succ]
  refine wpList_reads (by kernel_rfl) (.bool true) (by go_simp) ?_
  simp only [Act.put, List.setIfInBounds_toArray, List.set_cons_zero, List.set_cons_succ]
  refine wpList_reads (by kernel_rfl) (.bool true) (by go_simp) ?_
  simp only [Act.put, List.setIfInBounds_toArray, List.set_cons_zero, List.set_cons_succ]
  refine wpList_reads (by kernel_rfl) (.pointer (some ⟨B, 0, none⟩)) (by go_simp) ?_
  simp only [Act.put, List.setIfInBounds_toArray, List.set_cons_zero, List.set_cons_succ]
  refine wpList_enter (by kernel_rfl) 57 #[.pointer (some ⟨B, 0, none⟩)] (by go_simp) (lookField_nil w3 B N vb at3.out) ?_
  rintro e ww ⟨hw_, rfl⟩
  rw [hw_]
  clear hw_
  refine ⟨_, rfl, ?_⟩
  simp only [Act.put, List.setIfInBounds_toArray, List.set_cons_zero, List.set_cons_succ]
  refine wpList_reads (by kernel_rfl) (.bool true) (by go_simp) ?_
  simp only [Act.put, List.setIfInBounds_toArray, List.set_cons_zero, List.set_cons_succ]
  refine wpList_reads (by kernel_rfl) (.bool true) (by go_simp) ?_
  simp only [Act.put, List.setIfInBounds_toArray, List.set_cons_zero, List.set_cons_succ]
  refine wpList_reads (by kernel_rfl) (.pointer (some ⟨B, 0, none⟩)) (by go_simp) ?_
  simp only [Act.put, List.setIfInBounds_toArray, List.set_cons_zero, List.set_cons_succ]
  refine wpList_enter (by kernel_rfl) 58 #[.pointer (some ⟨B, 0, none⟩)] (by go_simp) (lookMessage_nil w3 B N vb at3.out) ?_
  rintro e ww ⟨hw_, rfl⟩
  rw [hw_]
  clear hw_
  refine ⟨_, rfl, ?_⟩
  simp only [Act.put, List.setIfInBounds_toArray, List.set_cons_zero, List.set_cons_succ]
  refine wpList_reads (by kernel_rfl) (.bool true) (by go_simp) ?_
  simp only [Act.put, List.setIfInBounds_toArray, List.set_cons_zero, List.set_cons_succ]
  refine wpList_reads (by kernel_rfl) (.bool true) (by go_simp) ?_
  simp only [Act.put, List.setIfInBounds_toArray, List.set_cons_zero, List.set_cons_succ]
  refine wpList_reads (by kernel_rfl) (.pointer (some ⟨B, 0, none⟩)) (by go_simp) ?_
  simp only [Act.put, List.setIfInBounds_toArray, List.set_cons_zero, List.set_cons_succ]
  refine wpList_enter (by kernel_rfl) 59 #[.pointer (some ⟨B, 0, none⟩)] (by go_simp) (lookRule_nil w3 B N vb at3.out) ?_
  rintro e ww ⟨hw_, rfl⟩
  rw [hw_]
  clear hw_
  refine ⟨_, rfl, ?_⟩
  simp only [Act.put, List.setIfInBounds_toArray, List.set_cons_zero, List.set_cons_succ]
  refine wpList_reads (by kernel_rfl) (.bool true) (by go_simp) ?_
  simp only [Act.put, List.setIfInBounds_toArray, List.set_cons_zero, List.set_cons_succ]
  refine wpList_reads (by kernel_rfl) (.bool true) (by go_simp) ?_
  simp only [Act.put, List.setIfInBounds_toArray, List.set_cons_zero, List.set_cons_succ]
  refine wpList_reads (by kernel_rfl) (.pointer (some ⟨B, 0, none⟩)) (by go_simp) ?_
  simp only [Act.put, List.setIfInBounds_toArray, List.set_cons_zero, List.set_cons_succ]
  refine wpList_enter (by kernel_rfl) 60 #[.pointer (some ⟨B, 0, none⟩)] (by go_simp) (lookEvent_nil w3 B N vb at3.out) ?_
  rintro e ww ⟨hw_, rfl⟩
  rw [hw_]
  clear hw_
  refine ⟨_, rfl, ?_⟩
  simp only [Act.put, List.setIfInBounds_toArray, List.set_cons_zero, List.set_cons_succ]
  refine wpList_reads (by kernel_rfl) (.bool true) (by go_simp) ?_
  simp only [Act.put, List.setIfInBounds_toArray, List.set_cons_zero, List.set_cons_succ]
  refine wpList_reads (by kernel_rfl) (.bool true) (by go_simp) ?_
  simp only [Act.put, List.setIfInBounds_toArray, List.set_cons_zero, List.set_cons_succ]
  refine wpList_reads (by kernel_rfl) (.pointer (some ⟨B, 0, none⟩)) (by go_simp) ?_
  simp only [Act.put, List.setIfInBounds_toArray, List.set_cons_zero, List.set_cons_succ]
  refine wpList_enter (by kernel_rfl) 61 #[.pointer (some ⟨B, 0, none⟩)] (by go_simp) (lookReply_nil w3 B N vb at3.out) ?_
  rintro e ww ⟨hw_, rfl⟩
  rw [hw_]
  clear hw_
  refine ⟨_, rfl, ?_⟩
  simp only [Act.put, List.setIfInBounds_toArray, List.set_cons_zero, List.set_cons_succ]
  refine wpList_reads (by kernel_rfl) (.bool true) (by go_simp) ?_
  simp only [Act.put, List.setIfInBounds_toArray, List.set_cons_zero, List.set_cons_succ]
  refine wpList_reads (by kernel_rfl) (.bool true) (by go_simp) ?_
  simp only [Act.put, List.setIfInBounds_toArray, List.set_cons_zero, List.set_cons_succ]
  go_wp2
  go_ret
  exact ⟨rfl, m03.out⟩
end Go.Proofs.YtbiijcljpgannaaGreatDoor

namespace Go.Proofs.YtbiijcljpgannaaGreatDoor
set_option maxRecDepth 100000
open Go Go.RowKit Go.Lib
set_option linter.unusedSimpArgs false
set_option linter.unusedVariables false

theorem info_parts3 {P : Program} {t : TypeId} {z : Value} {s b : Nat} (h : (P.info? t).map (fun i => (i.zero, i.size, i.bytes)) = some (some z, s, b)) : ∃ i, P.info? t = some i ∧ i.zero = some z ∧ i.size = s ∧ i.bytes = b := by
  cases hi : P.info? t with
  | none => rw [hi] at h; cases h
  | some i =>
    rw [hi] at h
    simp only [Option.map_some, Option.some.injEq, Prod.mk.injEq] at h
    exact ⟨i, rfl, h.1, h.2.1, h.2.2⟩
theorem row_cells {w : World} {g : Nat} {cs : List Value} {t : TypeId} (h : w.heap[g]? = some (.cells cs.toArray t (0,0))) : ∀ j u, cs[j]? = some u → w.cell? ((⟨g, 0, none⟩ : Addr).add j) = some u := by
  intro j u hu
  rw [Addr.add_lit, Nat.zero_add, cell_of_row _ _ _ _ _ _ h]
  simpa using hu
theorem infoHeldP : (Tryz.prog.info? 79).map (fun i => (i.zero, i.size, i.bytes)) = some (some (.agg #[.slice none 0 0, .slice none 0 0, .int .i64 0]), 3, 56) := by kernel_rfl
theorem book_setN {w : World} {B N : Nat} {vb : Value} (h : bookAt w B N vb) (M : Nat) : bookAt (w.setCell ⟨B, 0, none⟩ (.int .i64 (M : Int))) B M vb := by
  unfold bookAt at h ⊢
  rw [setCell_row _ _ _ _ _ _ h, setRow_heap _ _ _ _ _ _ h]
  rfl
theorem book_setV {w : World} {B N : Nat} {vb : Value} (h : bookAt w B N vb) (v : Value) : bookAt (w.setCell ⟨B, 1, none⟩ v) B N v := by
  unfold bookAt at h ⊢
  rw [setCell_row _ _ _ _ _ _ h, setRow_heap _ _ _ _ _ _ h]
  rfl
theorem book_frozen {w : World} {B N : Nat} {vb : Value} (h : bookAt w B N vb) (i : Nat) : w.frozen? ⟨B, i, none⟩ = false := frozen_of_row _ _ _ _ _ h
theorem build_held (w : World) (a : Option Addr) (n c : Nat) (q : Int) (ev : Operand → Value) (o : Oper) (x y : Operand) (ho : o.op = .build 79 #[(0, x), (2, y)]) (hx : ev x = .slice a n c) (hy : ev y = .int .i64 q) :
    (execOp ev o).run Tryz.prog w = .ok (.value (.agg #[.slice a n c, .slice none 0 0, .int .i64 q])) w := by
  have h : (Instr.build 79 #[(0, .slice a n c), (2, .int .i64 q)]).run Tryz.prog w = .ok (.agg #[.slice a n c, .slice none 0 0, .int .i64 q]) w := by kernel_rfl
  unfold execOp
  simp only [ho]
  simp only [List.map_toArray, List.map_cons, List.map_nil, hx, hy, Sem.run_bind, h, Result.andThen_ok, Sem.run_pure]
theorem store_i {w : World} {a : Addr} {x : Value} {n : Int} (hc : w.cell? a = some x) (hf : w.frozen? a = false) : (storeVar 3 a (.int .i64 n)).run Tryz.prog w = .ok () (w.setCell a (.int .i64 n)) := by go_simp
theorem store_hs {w : World} {a : Addr} {x : Value} {ad : Option Addr} {n c : Nat} (hc : w.cell? a = some x) (hf : w.frozen? a = false) : (storeVar 33 a (.slice ad n c)).run Tryz.prog w = .ok () (w.setCell a (.slice ad n c)) := by go_simp
theorem anyZ_fork0 {P : Program} {ops : Array Oper} {md : Region.Mode} {S : World → Prop} {z : Nat} {Q : Exit → Act → World → Prop} (i j : Nat) {f : Nat} {listed : Array Bool} {a : Act} {w : World} (hr : Region.ready md ops listed = [i, j])
    (h1 : wpOp P ops (fun _ _ _ => False) i (fun a' w' => (i ≠ z → S w') ∧ anyZ P md ops S z Q f (listed.setIfInBounds i true) a' w') a w)
    (h2 : wpOp P ops (fun _ _ _ => False) j (fun a' w' => (j ≠ z → S w') ∧ anyZ P md ops S z Q f (listed.setIfInBounds j true) a' w') a w) : anyZ P md ops S z Q (f + 1) listed a w := by
  refine ⟨fun h0 => (by rw [hr] at h0; cases h0), fun k hk => ?_⟩
  rw [hr] at hk
  simp only [List.mem_cons, List.not_mem_nil, or_false] at hk
  rcases hk with rfl | rfl
  · exact h1
  · exact h2
theorem wpOp_value0 {P : Program} {ops : Array Oper} {Q : Exit → Act → World → Prop} {i : Nat} (o : Oper) (d : Option Tmp) {K : Act → World → Prop} {a : Act} {w : World} (hi : ops[i]? = some o) (hw : Region.wanted o (yielded ops a.tmps) = true) (hd : o.dst = d) (v : Value) (w' : World)
    (hrun : (execOp a.eval o).run P w = .ok (.value v) w') (h : K (a.put d v) w') : wpOp P ops Q i K a w := by
  subst hd
  unfold wpOp
  simp only [hi]
  rw [if_pos hw]
  refine .inl ?_
  unfold Oper.wp
  rw [hrun]
  exact h
/-- An empty Book. -/
theorem BookOk.empty {w : World} {base B : Nat} (h : bookAt w B 0 (.slice none 0 0)) (hB : base ≤ B) (L : Nat → Value) (xs : Nat → List (BitVec 8)) : BookOk w base B 0 (.slice none 0 0) L xs :=
  ⟨h, World.ownsRow_nil _ _ _ _, fun i hi => absurd hi (Nat.not_lt_zero i), hB, fun i j hi => absurd hi (Nat.not_lt_zero i), fun i hi => absurd hi (Nat.not_lt_zero i), fun i hi => absurd hi (Nat.not_lt_zero i), (by intro h; cases h), by omega, fun i hi => by omega⟩
def addL (N : Nat) (L : Nat → Value) (v : Value) : Nat → Value := fun i => if i < N then L i else v
def addX (N : Nat) (xs : Nat → List (BitVec 8)) (bs : List (BitVec 8)) : Nat → List (BitVec 8) := fun i => if i < N then xs i else bs

set_option maxRecDepth 100000 in
set_option maxHeartbeats 4000000 in
theorem keepByte_any (w : World) (base B N : Nat) (vb : Value) (L : Nat → Value) (xs : Nat → List (BitVec 8)) (ok : BookOk w base B N vb L xs) (v : Value) (bs : List (BitVec 8)) (hv : ClipR w base v bs.length (bytesV bs))
    (hap : ∀ i, i < N → ∀ k, (L i).ownBlock = some k → v.ownBlock = some k → False) (hvB : v.ownBlock ≠ some B) (hvv : ∀ k, v.ownBlock = some k → vb.ownBlock = some k → False) (hN : N + 1 ≤ 1000) (hbl : bs.length ≤ 140737488351232) :
    Calls Tryz.prog 25 #[.pointer (some ⟨B, 0, none⟩), v] w fun e w' => e = .returned (.tuple #[]) ∧ Mod (fun k => k = B ∨ vb.ownBlock = some k) w w' ∧ ∃ vb', BookOk w' base B (N + 1) vb' (addL N L v) (addX N xs bs) ∧ ∀ k, vb'.ownBlock = some k → vb.ownBlock = some k ∨ w.heap.size ≤ k := by
  obtain ⟨av, cv, hvb⟩ := own_slice ok.own
  subst hvb
  obtain ⟨al, cl, hvl⟩ := clip_slice hv
  obtain ⟨n, hn⟩ : ∃ n, n = bs.length := ⟨_, rfl⟩
  rw [← hn] at hvl
  subst hvl
  have bN0 : (0 : Int) ≤ (N : Int) := by omega
  have bN : (N : Int) ≤ 1000 := by omega
  have hB0 := book_zero ok.at_
  have hf0 := book_frozen ok.at_ 0
  have hwN : IntKind.i64.wrap ((N : Int) + 1) = (N : Int) + 1 := by rw [IntKind.wrap_i64]; omega
  have at1 := book_setN ok.at_ (N + 1)
  have m1 : Mod (fun k => k = B) w (w.setCell ⟨B, 0, none⟩ (.int .i64 ((N + 1 : Nat) : Int))) := Mod.one_setCell _ _ _ _
  obtain ⟨w1, hw1⟩ : ∃ x, x = w.setCell ⟨B, 0, none⟩ (.int .i64 ((N + 1 : Nat) : Int)) := ⟨_, rfl⟩
  obtain ⟨q, hq⟩ : ∃ q, q = N + 1 := ⟨_, rfl⟩
  have hq1 : (N : Int) + 1 = (q : Int) := by omega
  have hwq : IntKind.i64.wrap (q : Int) = (q : Int) := by rw [IntKind.wrap_i64]; omega
  have s1 : (storeVar 3 ⟨B, 0, none⟩ (.int .i64 (q : Int))).run Tryz.prog w = .ok () w1 := by rw [hw1, ← hq]; exact store_i hB0 hf0
  have hBl := lt_of_heap ok.at_
  have hbase : base ≤ w.heap.size := by have := ok.hB; omega
  rw [← hw1] at at1 m1
  rw [← hq] at at1
  have own1 := ownsRow_block ok.own m1 (fun k hk h => ok.vB (by rw [hk, h]))
  have hv1 := clip_block hv m1 (fun k hk h => hvB (by rw [hk, h]))
  replace hw1 := Lib.hid hw1
  replace ok := Lib.hid ok
  replace hv := Lib.hid hv
  replace hn := Lib.hid hn
  replace hq := Lib.hid hq
  go_enter Tryz.func25, Tryz.ntmps25
  go_upto_region 0 with (fail)
  refine wp_region_lit ?_
  refine wpList_reads (by kernel_rfl) (.pointer (some ⟨B, 0, none⟩)) (by go_simp) ?_
  simp only [Act.put, List.setIfInBounds_toArray, List.set_cons_zero, List.set_cons_succ]
  refine wpList_reads (by kernel_rfl) (.pointer (some ⟨B, 0, none⟩)) (by go_simp) ?_
  simp only [Act.put, List.setIfInBounds_toArray, List.set_cons_zero, List.set_cons_succ]
  refine wpList_reads (by kernel_rfl) (.pointer (some ⟨B, 0, none⟩)) (by go_simp) ?_
  simp only [Act.put, List.setIfInBounds_toArray, List.set_cons_zero, List.set_cons_succ]
  refine wpList_reads (by kernel_rfl) (.int .i64 (N : Int)) (by go_simp) ?_
  simp only [Act.put, List.setIfInBounds_toArray, List.set_cons_zero, List.set_cons_succ]
  refine wpList_reads (by kernel_rfl) (.int .i64 (q : Int)) (by go_simp) ?_
  simp only [Act.put, List.setIfInBounds_toArray, List.set_cons_zero, List.set_cons_succ]
  refine wpList_reads (by kernel_rfl) (.pointer (some ⟨B, 0, none⟩)) (by go_simp) ?_
  simp only [Act.put, List.setIfInBounds_toArray, List.set_cons_zero, List.set_cons_succ]
  refine wpList_reads (by kernel_rfl) (.pointer (some ⟨B, 0, none⟩)) (by go_simp) ?_
  simp only [Act.put, List.setIfInBounds_toArray, List.set_cons_zero, List.set_cons_succ]
  refine wpList_store_to rfl _ _ _ rfl _ _ _ rfl rfl _ s1 ?_
  simp only [Act.put, List.setIfInBounds_toArray, List.set_cons_zero, List.set_cons_succ]
  clear s1 hB0 hf0
  go_upto_region 1 with (fail)
  refine wp_region_any (by kernel_rfl) (any_of_Z (S := fun w' => w'.cell? ⟨B, 0, none⟩ = some (.int .i64 (q : Int))) (z := 99) _ _ _ _ ?_)
  simp only [List.size_toArray, List.length_cons, List.length_nil, Nat.reduceAdd, Array.replicate_succ, Array.replicate_zero, List.push_toArray, List.nil_append, List.cons_append]
  change anyZ _ _ _ _ _ _ _ _ _ w1.drew
  have md : Mod (fun _ => False) w1 w1.drew := (Mod.refl _ _).drew
  have atd : bookAt w1.drew B q (.slice av N cv) := md.heap at1 (fun h => h)
  have ownd := ownsRow_keep0 own1 md
  have hvd := clip_keep0 hv1 md
  have m0d := m1.trans' md (fun _ _ h => h.elim)
  obtain ⟨wd, hwd⟩ : ∃ x, x = w1.drew := ⟨_, rfl⟩
  rw [← hwd] at atd ownd hvd m0d ⊢
  have hS := book_zero atd
  have hSb := book_one atd
  replace hwd := Lib.hid hwd
  clear md at1 own1 hv1 m1
  refine anyZ_take 0 _ (some 11) (.pointer (some ⟨B, 0, none⟩)) rfl (by kernel_rfl) (by kernel_rfl) (by kernel_rfl) (by kernel_rfl) (by kernel_rfl) (by decide) rfl (fun w' hS => ?_) hS ?_
  · go_simp
  simp only [Act.put, List.setIfInBounds_toArray, List.set_cons_zero, List.set_cons_succ]
  refine anyZ_take 1 _ (some 12) (.pointer (some ⟨B, 0, none⟩)) rfl (by kernel_rfl) (by kernel_rfl) (by kernel_rfl) (by kernel_rfl) (by kernel_rfl) (by decide) rfl (fun w' hS => ?_) hS ?_
  · go_simp
  simp only [Act.put, List.setIfInBounds_toArray, List.set_cons_zero, List.set_cons_succ]
  refine anyZ_take 2 _ (some 13) (.pointer (some ⟨B, 0, none⟩)) rfl (by kernel_rfl) (by kernel_rfl) (by kernel_rfl) (by kernel_rfl) (by kernel_rfl) (by decide) rfl (fun w' hS => ?_) hS ?_
  · go_simp
  simp only [Act.put, List.setIfInBounds_toArray, List.set_cons_zero, List.set_cons_succ]
  refine anyZ_take 3 _ (some 14) (.pointer (some ⟨B, 1, none⟩)) rfl (by kernel_rfl) (by kernel_rfl) (by kernel_rfl) (by kernel_rfl) (by kernel_rfl) (by decide) rfl (fun w' hS => ?_) hS ?_
  · go_simp
  simp only [Act.put, List.setIfInBounds_toArray, List.set_cons_zero, List.set_cons_succ]
  refine anyZ_take 5 _ (some 16) (.slice al n cl) rfl (by kernel_rfl) (by kernel_rfl) (by kernel_rfl) (by kernel_rfl) (by kernel_rfl) (by decide) rfl (fun w' hS => ?_) hS ?_
  · go_simp
  simp only [Act.put, List.setIfInBounds_toArray, List.set_cons_zero, List.set_cons_succ]
  refine anyZ_take 6 _ (some 17) (.pointer (some ⟨B, 0, none⟩)) rfl (by kernel_rfl) (by kernel_rfl) (by kernel_rfl) (by kernel_rfl) (by kernel_rfl) (by decide) rfl (fun w' hS => ?_) hS ?_
  · go_simp
  simp only [Act.put, List.setIfInBounds_toArray, List.set_cons_zero, List.set_cons_succ]
  refine anyZ_take 7 _ (some 18) (.pointer (some ⟨B, 0, none⟩)) rfl (by kernel_rfl) (by kernel_rfl) (by kernel_rfl) (by kernel_rfl) (by kernel_rfl) (by decide) rfl (fun w' hS => ?_) hS ?_
  · go_simp
  simp only [Act.put, List.setIfInBounds_toArray, List.set_cons_zero, List.set_cons_succ]
  refine anyZ_take 8 _ (some 19) (.pointer (some ⟨B, 0, none⟩)) rfl (by kernel_rfl) (by kernel_rfl) (by kernel_rfl) (by kernel_rfl) (by kernel_rfl) (by decide) rfl (fun w' hS => ?_) hS ?_
  · go_simp
  simp only [Act.put, List.setIfInBounds_toArray, List.set_cons_zero, List.set_cons_succ]
  refine anyZ_take 9 _ (some 20) (.int .i64 (q : Int)) rfl (by kernel_rfl) (by kernel_rfl) (by kernel_rfl) (by kernel_rfl) (by kernel_rfl) (by decide) rfl (fun w' hS => ?_) hS ?_
  · go_simp
  simp only [Act.put, List.setIfInBounds_toArray, List.set_cons_zero, List.set_cons_succ]
  refine anyZ_take 10 _ (some 21) (.agg #[.slice al n cl, .slice none 0 0, .int .i64 (q : Int)]) rfl (by kernel_rfl) (by kernel_rfl) (by kernel_rfl) (by kernel_rfl) (by kernel_rfl) (by decide) rfl (fun w' hS => ?_) hS ?_
  · exact build_held _ _ _ _ _ _ _ _ _ rfl rfl rfl
  simp only [Act.put, List.setIfInBounds_toArray, List.set_cons_zero, List.set_cons_succ]
  obtain ⟨wa, hwa⟩ : ∃ x, x = wd.alloc (.cells #[.slice al n cl, .slice none 0 0, .int .i64 (q : Int)] 79) := ⟨_, rfl⟩
  obtain ⟨ga, hga⟩ : ∃ g, g = wd.heap.size := ⟨_, rfl⟩
  have ma : Mod (fun _ => False) wd wa := by rw [hwa]; exact (Mod.refl _ _).alloc _
  have xa : wa.heap[ga]? = some (.cells #[.slice al n cl, .slice none 0 0, .int .i64 (q : Int)] 79 (0,0)) := by rw [hwa]; exact hp_new _ _ _ hga
  have ata : bookAt wa B q (.slice av N cv) := ma.heap atd (fun h => h)
  have owna := ownsRow_keep0 ownd ma
  have hva := clip_keep0 hvd ma
  have m0a := m0d.trans' ma (fun _ _ h => h.elim)
  have hSa := book_zero ata
  have hSab := book_one ata
  obtain ⟨i0, hi, hz0, hz1, hz2⟩ := info_parts3 infoHeldP
  obtain ⟨v6, w6, hr6, own6, sp6⟩ := run_append_split (P := Tryz.prog) wa base 33 33 79 i0 (.agg #[.slice none 0 0, .slice none 0 0, .int .i64 0]) 3 56 Tryz.underlying33 hi hz0 hz1 hz2 rfl (.slice av N cv) N _ owna ⟨ga, 0, none⟩ 1 1 [.slice al n cl, .slice none 0 0, .int .i64 (q : Int)] rfl (row_cells xa) (by intro u hu; simp at hu; rcases hu with rfl | rfl | rfl <;> rfl) (by omega) (by unfold maxLen; omega) (by omega) (by have := m0a.size; omega)
  have m6 : Mod (fun k => (Value.slice av N cv).ownBlock = some k) wa w6 := by
    rcases sp6 with ⟨g, cap, h1, h2, h3⟩ | ⟨h1, h2⟩
    · exact (Mod.refl _ _).grown h3 (fun k hk _ => by rw [h1]; exact hk)
    · exact (Mod.refl _ _).grown h2 (fun k hk _ => by cases hk)
  have nb6 : ∀ k, v6.ownBlock = some k → (Value.slice av N cv).ownBlock = some k ∨ w.heap.size ≤ k := by
    intro k hk
    rcases sp6 with ⟨g, cap, h1, h2, h3⟩ | ⟨h1, h2⟩
    · left; rw [h2] at hk; rw [h1]; exact hk
    · right; rw [h1] at hk; injection hk with hk; have := m0a.size; omega
  have at6 : bookAt w6 B q (.slice av N cv) := m6.heap ata (fun h => ok.out.vB h)
  have hv6 := clip_block hva m6 (fun k hk h => hvv k hk h)
  have m06 := (m0a.mono (S' := fun k => k = B ∨ (Value.slice av N cv).ownBlock = some k) (fun k _ h => .inl h)).trans (m6.mono (fun k _ h => .inr h))
  have hS6 := book_zero at6
  have f6 := book_frozen at6 1
  have c6 := book_one at6
  have at7 := book_setV at6 v6
  obtain ⟨w7, hw7⟩ : ∃ x, x = w6.setCell ⟨B, 1, none⟩ v6 := ⟨_, rfl⟩
  obtain ⟨a6, e6, hv6s⟩ := own_slice own6
  have s7 : (storeVar 33 ⟨B, 1, none⟩ v6).run Tryz.prog w6 = .ok () w7 := by rw [hw7, hv6s]; exact store_hs c6 f6
  have m7 : Mod (fun k => k = B) w6 w7 := by rw [hw7]; exact Mod.one_setCell _ _ _ _
  rw [← hw7] at at7
  have mf := m06.trans (m7.mono (S' := fun k => k = B ∨ (Value.slice av N cv).ownBlock = some k) (fun k _ h => .inl h))
  have hS7 := book_zero at7
  have v6B : v6.ownBlock ≠ some B := by
    intro h
    rcases nb6 B h with h1 | h1
    · exact ok.out.vB h1
    · omega
  have own7 := ownsRow_block own6 m7 (fun k hk h => v6B (by rw [hk, h]))
  have hv7 := clip_block hv6 m7 (fun k hk h => hvB (by rw [hk, h]))
  have hfin : BookOk w7 base B (N + 1) v6 (addL N L (.slice al n cl)) (addX N xs bs) := by
    have h := ok.out
    have hold : ∀ i, i < N → ClipR w7 base (L i) (xs i).length (bytesV (xs i)) := fun i hi => clip_block (h.row i hi) mf (fun k hk h2 => by
      rcases h2 with h2 | h2
      · exact h.offB i hi (by rw [hk, h2])
      · exact h.offv i hi k hk h2)
    refine ⟨by rw [← hq.out]; exact at7, ?_, fun i hi => ?_, h.hB, ?_, fun i hi => ?_, ?_, v6B, by omega, fun i hi => ?_⟩
    · rw [heldC_succ, heldC_congr N (addL N L (.slice al n cl)) _ L (fun _ => .slice none 0 0) (fun i hi => ⟨by unfold addL; rw [if_pos hi], rfl⟩)]
      have e : addL N L (.slice al n cl) N = .slice al n cl := by unfold addL; rw [if_neg (by omega)]
      rw [e, ← hq.out]
      rw [hq.out] at own7 ⊢
      exact own7
    · unfold addL addX
      by_cases e : i < N
      · rw [if_pos e, if_pos e]; exact hold i e
      · rw [if_neg e, if_neg e, ← hn.out]; rw [← hn.out] at hv7; exact hv7
    · intro i j hi hj hij k h1 h2
      unfold addL at h1 h2
      by_cases e1 : i < N
      · rw [if_pos e1] at h1
        by_cases e2 : j < N
        · rw [if_pos e2] at h2
          exact h.apart i j e1 e2 hij k h1 h2
        · rw [if_neg e2] at h2
          exact hap i e1 k h1 h2
      · rw [if_neg e1] at h1
        rw [if_pos (by omega)] at h2
        exact hap j (by omega) k h2 h1
    · unfold addL
      by_cases e : i < N
      · rw [if_pos e]; exact h.offB i e
      · rw [if_neg e]; exact hvB
    · intro i hi k h1 h2
      unfold addL at h1
      by_cases e : i < N
      · rw [if_pos e] at h1
        rcases nb6 k h2 with h3 | h3
        · exact h.offv i e k h1 h3
        · have := (clip_in (h.row i e) h1).2; omega
      · rw [if_neg e] at h1
        rcases nb6 k h2 with h3 | h3
        · exact hvv k h1 h3
        · have := (clip_in hv.out h1).2; omega
    · unfold addX
      by_cases e : i < N
      · rw [if_pos e]; exact h.short i e
      · rw [if_neg e]; exact hbl
  replace hwa := Lib.hid hwa
  replace hga := Lib.hid hga
  replace hw7 := Lib.hid hw7
  replace hfin := Lib.hid hfin
  replace nb6 := Lib.hid nb6
  replace mf := Lib.hid mf
  clear ma xa ata owna hva m0a own6 sp6 m6 at6 hv6 m06 f6 c6 at7 m7 own7 hv7 atd ownd hvd m0d hap hvv hvB
  refine anyZ_fork0 4 11 (by kernel_rfl) ?_ ?_
  · refine wpOp_value0 _ (some 15) rfl (by kernel_rfl) rfl (.slice av N cv) wd (by go_simp) ⟨fun _ => hS, ?_⟩
    simp only [Act.put, List.setIfInBounds_toArray, List.set_cons_succ, List.set_cons_zero]
    refine anyZ_next 11 _ (some 22) rfl (by kernel_rfl) (by kernel_rfl) rfl (.slice (some ⟨ga, 0, none⟩) 1 1) wa (by rw [hwa.out, hga.out]; go_simp) (fun _ => hSa) ?_
    simp only [Act.put, List.setIfInBounds_toArray, List.set_cons_succ, List.set_cons_zero]
    refine anyZ_next 12 _ (some 23) rfl (by kernel_rfl) (by kernel_rfl) rfl v6 w6 (run_append_op2 rfl rfl rfl hr6) (fun _ => hS6) ?_
    simp only [Act.put, List.setIfInBounds_toArray, List.set_cons_succ, List.set_cons_zero]
    refine anyZ_next 13 _ (some 24) rfl (by kernel_rfl) (by kernel_rfl) rfl (.pointer (some ⟨B, 0, none⟩)) w6 (by go_simp) (fun _ => hS6) ?_
    simp only [Act.put, List.setIfInBounds_toArray, List.set_cons_succ, List.set_cons_zero]
    refine anyZ_next 14 _ (some 25) rfl (by kernel_rfl) (by kernel_rfl) rfl (.pointer (some ⟨B, 1, none⟩)) w6 (by go_simp) (fun _ => hS6) ?_
    simp only [Act.put, List.setIfInBounds_toArray, List.set_cons_succ, List.set_cons_zero]
    refine anyZ_skip 15 _ rfl (by kernel_rfl) (by kernel_rfl) rfl w7 (run_store_op rfl rfl rfl s7) (fun _ => hS7) ?_
    simp only [Act.put, List.setIfInBounds_toArray, List.set_cons_succ, List.set_cons_zero]
    refine anyZ_done (by kernel_rfl) ?_ _
    clear hS hSa hS6 hr6 s7 hv6s hSb hSab hS7
    go_wp2
    go_end0
    exact ⟨rfl, mf.out, v6, hfin.out, nb6.out⟩
  · refine wpOp_value0 _ (some 22) rfl (by kernel_rfl) rfl (.slice (some ⟨ga, 0, none⟩) 1 1) wa (by rw [hwa.out, hga.out]; go_simp) ⟨fun _ => hSa, ?_⟩
    simp only [Act.put, List.setIfInBounds_toArray, List.set_cons_succ, List.set_cons_zero]
    refine anyZ_next 4 _ (some 15) rfl (by kernel_rfl) (by kernel_rfl) rfl (.slice av N cv) wa (by go_simp) (fun _ => hSa) ?_
    simp only [Act.put, List.setIfInBounds_toArray, List.set_cons_succ, List.set_cons_zero]
    refine anyZ_next 12 _ (some 23) rfl (by kernel_rfl) (by kernel_rfl) rfl v6 w6 (run_append_op2 rfl rfl rfl hr6) (fun _ => hS6) ?_
    simp only [Act.put, List.setIfInBounds_toArray, List.set_cons_succ, List.set_cons_zero]
    refine anyZ_next 13 _ (some 24) rfl (by kernel_rfl) (by kernel_rfl) rfl (.pointer (some ⟨B, 0, none⟩)) w6 (by go_simp) (fun _ => hS6) ?_
    simp only [Act.put, List.setIfInBounds_toArray, List.set_cons_succ, List.set_cons_zero]
    refine anyZ_next 14 _ (some 25) rfl (by kernel_rfl) (by kernel_rfl) rfl (.pointer (some ⟨B, 1, none⟩)) w6 (by go_simp) (fun _ => hS6) ?_
    simp only [Act.put, List.setIfInBounds_toArray, List.set_cons_succ, List.set_cons_zero]
    refine anyZ_skip 15 _ rfl (by kernel_rfl) (by kernel_rfl) rfl w7 (run_store_op rfl rfl rfl s7) (fun _ => hS7) ?_
    simp only [Act.put, List.setIfInBounds_toArray, List.set_cons_succ, List.set_cons_zero]
    refine anyZ_done (by kernel_rfl) ?_ _
    clear hS hSa hS6 hr6 s7 hv6s hSb hSab hS7
    go_wp2
    go_end0
    exact ⟨rfl, mf.out, v6, hfin.out, nb6.out⟩
set_option maxRecDepth 100000 in
theorem bytes_keep (w : World) (base B N : Nat) (vb : Value) (L : Nat → Value) (xs : Nat → List (BitVec 8)) (ok : BookOk w base B N vb L xs) (v : Value) (bs : List (BitVec 8)) (hv : ClipR w base v bs.length (bytesV bs))
    (hap : ∀ i, i < N → ∀ k, (L i).ownBlock = some k → v.ownBlock = some k → False) (hvB : v.ownBlock ≠ some B) (hvv : ∀ k, v.ownBlock = some k → vb.ownBlock = some k → False) (hN : N + 1 ≤ 1000) (hbl : bs.length ≤ 140737488351232) :
    Calls Tryz.prog 13 #[.pointer (some ⟨B, 0, none⟩), v] w fun e w' => e = .returned (.tuple #[]) ∧ Mod (fun k => k = B ∨ vb.ownBlock = some k) w w' ∧ ∃ vb', BookOk w' base B (N + 1) vb' (addL N L v) (addX N xs bs) ∧ ∀ k, vb'.ownBlock = some k → vb.ownBlock = some k ∨ w.heap.size ≤ k := by
  obtain ⟨E, hE⟩ : ∃ E : Ending → World → Prop, E = fun e w' => e = .returned (.tuple #[]) ∧ Mod (fun k => k = B ∨ vb.ownBlock = some k) w w' ∧ ∃ vb', BookOk w' base B (N + 1) vb' (addL N L v) (addX N xs bs) ∧ ∀ k, vb'.ownBlock = some k → vb.ownBlock = some k ∨ w.heap.size ≤ k := ⟨_, rfl⟩
  have hk := keepByte_any w base B N vb L xs ok v bs hv hap hvB hvv hN hbl
  rw [← hE] at hk ⊢
  obtain ⟨al, cl, hvl⟩ := clip_slice hv
  rw [hvl] at hk ⊢
  replace hE := Lib.hid hE
  replace ok := Lib.hid ok
  replace hv := Lib.hid hv
  replace hvl := Lib.hid hvl
  clear hap hvB hvv hN hbl
  go_enter Tryz.func13, Tryz.ntmps13
  go_upto_region 0 with (fail)
  refine wp_region_lit ?_
  refine wpList_reads (by kernel_rfl) (.pointer (some ⟨B, 0, none⟩)) (by go_simp) ?_
  simp only [Act.put, List.setIfInBounds_toArray, List.set_cons_zero, List.set_cons_succ]
  refine wpList_reads (by kernel_rfl) (.slice al bs.length cl) (by go_simp) ?_
  simp only [Act.put, List.setIfInBounds_toArray, List.set_cons_zero, List.set_cons_succ]
  refine wpList_enter (by kernel_rfl) 25 #[.pointer (some ⟨B, 0, none⟩), .slice al bs.length cl] (by go_simp) (hk) ?_
  rintro e w1 h1
  have h2 := h1
  rw [hE.out] at h2
  have he := h2.1
  subst he
  replace h1 := Lib.hid h1
  clear h2
  refine ⟨_, rfl, ?_⟩
  simp only [Act.put, List.setIfInBounds_toArray, List.set_cons_succ, List.set_cons_zero]
  go_wp2
  go_end0
  exact h1.out
end Go.Proofs.YtbiijcljpgannaaGreatDoor
