/-
  poly.parts: the parts of bytes, each with one more. Printed by gen/po6.py.
-/
import Derived.Test.YtbiijcljpgannaaGreatDoorY5
namespace Go.Proofs.YtbiijcljpgannaaGreatDoor
set_option maxRecDepth 100000
open Go Go.RowKit Go.Lib
set_option linter.unusedSimpArgs false
set_option linter.unusedVariables false

theorem run_append_opP {P : Program} {ev : Operand → Value} {o : Oper} {d s : Operand} {dT sT : TypeId} {w w' : World} {vd vs r : Value} (ho : o.op = .call { callee := .builtin .append, args := #[d, s], argTypes := #[dT, sT] }) (hd : ev d = vd) (hs : ev s = vs)
    (hrun : (Builtin.append_ #[dT, sT] o.type #[vd, vs]).run P w = .ok r w') : (execOp ev o).run P w = .ok (.value r) w' := by
  unfold execOp
  simp [ho, resolve, invoke, builtin, hd, hs, hrun, Result.andThen]
theorem own_sliceP {w : World} {base n size : Nat} {e : TypeId} {v : Value} {xs : List Value} (h : w.ownsRow base e size v n xs) : ∃ a c, v = .slice a n c := by
  rcases h.2 with ⟨h1, h2⟩ | ⟨g, cap, cur, h1, _⟩
  · exact ⟨_, _, by rw [h1, h2]⟩
  · exact ⟨_, _, h1⟩
set_option maxRecDepth 100000 in
set_option maxHeartbeats 4000000 in
theorem clone_anyP (a : Addr) (n c : Nat) (bs : List (BitVec 8)) (hbl : bs.length = n) (w : World) (hb : ByteAt w (.slice (some a) n c) bs) (h0 : 0 < n) (hl : n ≤ 140737488351232) :
    Calls Tryz.prog 105 #[.slice (some a) n c] w fun e w' => Mod (fun _ => False) w w' ∧ ∃ v, e = .returned v ∧ w'.ownsRow w.heap.size 5 1 v n (bytesV bs) := by
  obtain ⟨w1, hw1⟩ : ∃ x, x = w.alloc (.cells #[] 5) := ⟨_, rfl⟩
  obtain ⟨g1, hg1⟩ : ∃ g, g = w.heap.size := ⟨_, rfl⟩
  have m1 : Mod (fun _ => False) w w1 := by rw [hw1]; exact (Mod.refl _ _).alloc _
  have own1 : w1.ownsRow w.heap.size 5 1 (.slice (some ⟨g1, 0, none⟩) 0 0) 0 (bytesV []) := by
    rw [hw1, hg1]
    exact World.ownsRow_lit w #[] 0 (Nat.le_refl _) (by decide) rfl
  have hb1 := hb.mod m1 (fun _ _ h => h)
  obtain ⟨v2, w2, hr2, own2, gr2⟩ := run_append_bytes own1 hb1 (by omega) m1.size 22
  have m2 : Mod (fun _ => False) w w2 := m1.trans' ((Mod.refl _ _).grown (S := fun x => (Value.slice (some ⟨g1, 0, none⟩) 0 0).ownBlock = some x) gr2 (fun x hx _ => hx)) (fun x hx h => by have := (own1.lt x h).1; omega)
  rw [List.nil_append, Nat.zero_add, hbl] at own2
  replace hw1 := Lib.hid hw1
  replace hg1 := Lib.hid hg1
  replace own2 := Lib.hid own2
  replace m2 := Lib.hid m2
  clear m1 own1 hb1 gr2 hb hbl
  have hne : (binOp .eql 22 (.slice (some a) n c) (.slice none 0 0)).run Tryz.prog w = .ok (.bool false) w := by kernel_rfl
  go_enter Tryz.func105, Tryz.ntmps105
  go_upto_region 3 with (fail)
  refine wp_region_lit ?_
  refine wpList_yields (by kernel_rfl) (.slice (some ⟨g1, 0, none⟩) 0 0) w1 (by rw [hw1.out, hg1.out]; go_simp) ?_
  simp only [Act.put, List.setIfInBounds_toArray, List.set_cons_zero, List.set_cons_succ]
  refine wpList_reads (by kernel_rfl) (.slice (some a) n c) (by go_simp) ?_
  simp only [Act.put, List.setIfInBounds_toArray, List.set_cons_zero, List.set_cons_succ]
  refine wpList_yields (by kernel_rfl) v2 w2 (run_append_opP rfl rfl rfl hr2) ?_
  simp only [Act.put, List.setIfInBounds_toArray, List.set_cons_zero, List.set_cons_succ]
  refine wpList_reads (by kernel_rfl) (v2) (by go_simp) ?_
  simp only [Act.put, List.setIfInBounds_toArray, List.set_cons_zero, List.set_cons_succ]
  go_wp2
  go_ret
  exact ⟨m2.out, _, rfl, own2.out⟩


set_option maxRecDepth 100000 in
theorem parts_make (v : Value) (w : World) (hv : ∃ ad n cap, v = .slice ad n cap) :
    Calls Tryz.prog 107 #[v] w fun e w' => Mod (fun _ => False) w w' ∧ e = .returned (.func (.func 121) #[] #[.pointer (some ⟨w.heap.size, 0, none⟩)]) ∧ w'.heap[w.heap.size]? = some (.cells #[v] 22 (0,0)) := by
  have hmf : ∀ (fn : Fn) (first cap : Array Value) (w : World), (Instr.makeFunc fn first cap).run Tryz.prog w = .ok (.func fn first cap) w := fun _ _ _ _ => rfl
  obtain ⟨ad, n, cap, rfl⟩ := hv
  go_enter Tryz.func107, Tryz.ntmps107
  go_wp2
  go_ret
  exact ⟨(Mod.refl _ w).alloc _, rfl, hp_new _ _ _ rfl⟩
theorem ByteAt.putP {w : World} {l : Nat} {r : Loop} {v : Value} {bs : List (BitVec 8)} (h : ByteAt w v bs) (hl : w.heap[l]? = some (.loop r)) (o : Obj) : ByteAt (w.putObj l o) v bs := by
  rcases h with h | ⟨g, off, cap, rfl, h2, h3⟩
  · exact .inl h
  · refine .inr ⟨g, off, cap, rfl, h2, fun j hj => ?_⟩
    refine cell_mod (Mod.one_putObj w l o) (h3 j hj) ?_
    rintro rfl
    have := h3 j hj
    rw [World.cell?, hl] at this
    simp at this
theorem ld_funcY {w : World} {g l : Nat} (h : w.cell? ⟨g, 0, none⟩ = some (.func (.yield l) #[] #[])) : (loadVar 180 ⟨g, 0, none⟩).run Tryz.prog w = .ok (.func (.yield l) #[] #[]) w := by go_simp
set_option maxRecDepth 100000 in
set_option maxHeartbeats 4000000 in
theorem parts_iter (l X T : Nat) (b : List (BitVec 8)) (hbl : b.length ≤ 140737488351232) (rec : Loop) (S : Nat → Prop) (J : Nat → World → Prop) (W0 : World) (v0 : Value)
    (hT : rec.params = #[T]) (hSX : ¬ S X) (hSlow : ∀ k, S k → k < W0.heap.size) (hSl : S l)
    (hJ : ∀ i W W', J i W → Mod (fun k => W0.heap.size ≤ k) W W' → J i W')
    (hround : ∀ i W v, i < nch b → J i W → W.heap[l]? = some (.loop rec) → ByteAt W v (chunkB b i ++ [1]) → RoundIn Fence.wide 0 Tryz.prog l rec.fn (rec.tmps.setIfInBounds T v) rec.assign rec.body W fun e W' =>
      e = .returned (.bool true) ∧ J (i + 1) W' ∧ W'.heap[l]? = some (.loop rec) ∧ Mod S W W')
    (h0 : J 0 W0) (hl : W0.heap[l]? = some (.loop rec)) (hX : W0.heap[X]? = some (.cells #[v0] 22 (0,0))) (hb : ByteAt W0 v0 b) (hoff : OffC S v0) :
    Calls Tryz.prog 121 #[.func (.yield l) #[] #[], .pointer (some ⟨X, 0, none⟩)] W0 fun e W' => e = .returned (.tuple #[]) ∧ J (nch b) W' ∧ W'.heap[l]? = some (.loop rec) ∧ Mod S W0 W' := by
  obtain ⟨ad, cap, rfl, hbc⟩ := hb.slice
  obtain ⟨n, hn⟩ : ∃ n0, n0 = b.length := ⟨_, rfl⟩
  rw [← hn] at hX hb hoff hbl
  obtain ⟨w1, hw1⟩ : ∃ x, x = W0.alloc (.cells #[.func (.yield l) #[] #[]] 180) := ⟨_, rfl⟩
  obtain ⟨Yb, hYb⟩ : ∃ g, g = W0.heap.size := ⟨_, rfl⟩
  have m1 : Mod (fun _ => False) W0 w1 := by rw [hw1]; exact (Mod.refl _ _).alloc _
  have y1 : w1.heap[Yb]? = some (.cells #[.func (.yield l) #[] #[]] 180 (0,0)) := by rw [hw1]; exact hp_new _ _ _ hYb
  have x1 := m1.heap hX (fun h => h)
  have l1 := m1.heap hl (fun h => h)
  have b1 := hb.mod m1 (fun _ _ h => h)
  have j1 := hJ _ _ _ h0 (m1.mono (fun _ _ h => h.elim))
  have hYlt : Yb < w1.heap.size := lt_of_heap y1
  have cX := cell_of_one x1
  have hoffw : ∀ g off n' c, (Value.slice ad n cap) = .slice (some ⟨g, off, none⟩) n' c → 0 < n' → g < W0.heap.size := by
    intro g off n' c h h0
    injection h with h1 h2 h3
    obtain ⟨g', off', h4, h5, _⟩ := hbc 0 (by omega)
    rw [h1] at h4
    injection h4 with h4
    injection h4 with h4
    rw [h4]; exact h5
  clear hbc
  replace hoffw := Lib.hid hoffw
  replace hw1 := Lib.hid hw1
  replace hYb := Lib.hid hYb
  replace m1 := Lib.hid m1
  replace y1 := Lib.hid y1
  replace x1 := Lib.hid x1
  replace l1 := Lib.hid l1
  replace b1 := Lib.hid b1
  replace j1 := Lib.hid j1
  replace hT := Lib.hid hT
  replace hJ := Lib.hid hJ
  replace hround := Lib.hid hround
  replace hoff := Lib.hid hoff
  replace hn := Lib.hid hn
  replace hSlow := Lib.hid hSlow
  replace hSX := Lib.hid hSX
  replace hSl := Lib.hid hSl
  clear hX hl hb h0
  refine calls_of_marks Tryz.func121 rfl ?_
  simp only [Tryz.ntmps121, List.size_toArray, List.length_cons, List.length_nil, Nat.reduceAdd, Nat.reduceSub, Array.replicate_succ, Array.replicate_zero, List.push_toArray, List.append_toArray, List.nil_append, List.cons_append]
  go_upto_region 0 with (fail)
  refine wp_region_lit ?_
  refine wpList_yields (by kernel_rfl) (.pointer (some ⟨Yb, 0, none⟩)) w1 (by rw [hw1.out, hYb.out]; go_simp) ?_
  simp only [Act.put, List.setIfInBounds_toArray, List.set_cons_zero, List.set_cons_succ]
  go_upto_region 1 with (fail)
  refine wp_region_lit ?_
  refine wpList_reads (by kernel_rfl) (.slice ad n cap) (by go_simp) ?_
  simp only [Act.put, List.setIfInBounds_toArray, List.set_cons_zero, List.set_cons_succ]
  refine wpList_enter (by kernel_rfl) 122 #[.slice ad n cap, .int .i64 16] (by go_simp) (chunk_make _ w1 ⟨_, _, _, rfl⟩) ?_
  rintro e w2 ⟨m2, rfl, xc2, xn2⟩
  obtain ⟨Xc, hXc⟩ : ∃ g, g = w1.heap.size := ⟨_, rfl⟩
  rw [← hXc] at xc2 xn2 ⊢
  have y2 := m2.heap y1.out (fun h => h)
  have l2 := m2.heap l1.out (fun h => h)
  have b2 := b1.out.mod m2 (fun _ _ h => h)
  have j2 := hJ.out _ _ _ j1.out (m2.mono (fun _ _ h => h.elim))
  have m02 := m1.out.trans m2
  have hXc2 : Xc + 1 < w2.heap.size := lt_of_heap xn2
  have hW01 : W0.heap.size ≤ Xc := by rw [hXc]; exact m1.out.size
  have hYX : Yb < Xc := by rw [hXc]; exact hYlt
  replace hXc := Lib.hid hXc
  replace y2 := Lib.hid y2
  replace l2 := Lib.hid l2
  replace b2 := Lib.hid b2
  replace j2 := Lib.hid j2
  replace m02 := Lib.hid m02
  replace xc2 := Lib.hid xc2
  replace xn2 := Lib.hid xn2
  clear m2 cX
  refine ⟨_, rfl, ?_⟩
  simp only [Act.put, List.setIfInBounds_toArray, List.set_cons_zero, List.set_cons_succ]
  go_wp2
  refine wp_rangeFunc_wide 130 _ rfl (fun _ _ => rfl) fun fn => ?_
  simp only [List.push_toArray, List.append_toArray, List.nil_append, List.cons_append]
  refine calls_rec fun rec2 W1 hrec hW1 => ?_
  replace hrec := Lib.hid hrec
  have mW : Mod (fun _ => False) w2 W1 := by rw [hW1]; exact ((Mod.refl _ w2).alloc _).alloc _
  have dW : W1.heap[w2.heap.size]? = some (.deferred (some [])) := by
    rw [hW1]
    rw [hp_old _ _ _ (by simp only [World.size_alloc]; omega), hp_new _ _ _ (by simp)]
  have lW : W1.heap[w2.heap.size + 1]? = some (.loop rec2) := by
    rw [hW1]
    rw [hp_new _ _ _ (by simp)]
  have sW : W1.heap.size = w2.heap.size + 2 := by rw [hW1]; simp
  clear hW1
  have yW := mW.heap y2.out (fun h => h)
  have llW := mW.heap l2.out (fun h => h)
  have bW := b2.out.mod mW (fun _ _ h => h)
  have jW := hJ.out _ _ _ j2.out (mW.mono (fun _ _ h => h.elim))
  have xcW := mW.heap xc2.out (fun h => h)
  have xnW := mW.heap xn2.out (fun h => h)
  have m0W := m02.out.trans mW
  have h2s := m02.out.size
  generalize hs2 : w2.heap.size = s2 at *
  replace hs2 := Lib.hid hs2
  clear mW
  have hl0 : l < W0.heap.size := hSlow.out l hSl.out
  obtain ⟨J2, hJ2⟩ : ∃ J2 : Nat → World → Prop, J2 = fun i W => J i W ∧ W.heap[l]? = some (.loop rec) ∧ W.heap[Yb]? = some (.cells #[.func (.yield l) #[] #[]] 180 (0,0)) ∧ W0.heap.size ≤ W.heap.size := ⟨_, rfl⟩
  refine (chunk_iter (s2 + 1) Xc (Xc + 1) 6 b (by rw [← hn.out]; exact hbl) rec2 (fun k => S k ∨ k = s2 + 1) J2 W1 (.slice ad n cap) (by rw [hrec.out]) (fun h => h.elim (fun h => by have := hSlow.out _ h; have := hXc.out; omega) (fun h => by omega)) (fun h => h.elim (fun h => by have := hSlow.out _ h; have := hXc.out; omega) (fun h => by omega)) ?_ ?_ ?_ lW xcW xnW bW ?_).mono ?_
  · rw [hJ2]
    rintro i W W' ⟨h1, h2, h3, h4⟩ hm
    exact ⟨hJ.out _ _ _ h1 (hm.mono (fun _ _ h => h.elim)), hm.heap h2 (fun h => h), hm.heap h3 (fun h => h), Nat.le_trans h4 hm.size⟩
  · intro i W v hi hj lr bv
    rw [hJ2] at hj
    obtain ⟨js, jl, jy, jz⟩ := hj
    refine round_named fun Q hQ => ?_
    refine roundIn_of_wpIn trivial ?_
    rw [hrec.out]
    dsimp only
    simp only [List.setIfInBounds_toArray, List.set_cons_zero, List.set_cons_succ]
    gi_wp2
    refine ⟨_, run_beginRound lr (by rw [hrec.out]), ?_⟩
    have hst2 : (Loop.mk .ready none rec2.fn rec2.tmps rec2.params rec2.assign rec2.body rec2.defers) = rec2 := by rw [hrec.out]
    have hwb : ∀ wb, wb = W.putObj (s2 + 1) (.loop { rec2 with state := .busy }) → Mod (fun k => k = s2 + 1) W wb ∧ wb.heap[s2 + 1]? = some (.loop { rec2 with state := .busy }) ∧ ByteAt wb v (chunkB b i) := by
      rintro wb rfl
      exact ⟨Mod.one_putObj W (s2 + 1) (.loop { rec2 with state := .busy }), heap_putObj lr, bv.putP lr _⟩
    refine wpIn_world fun wb hwb' => ?_
    obtain ⟨mb, lb, bvb⟩ := hwb wb hwb'
    have jlb := mb.heap jl (by omega)
    have jyb := mb.heap jy (by omega)
    have jsb := hJ.out _ _ _ js (mb.mono (fun _ _ h => by omega))
    have jzb := Nat.le_trans jz mb.size
    have hi2 : i < (b.length + 15) / 16 := hi
    have hcl : 0 < (chunkB b i).length := by rw [chunkB_length]; omega
    have hc16 : (chunkB b i).length ≤ 16 := by rw [chunkB_length]; omega
    obtain ⟨ev, hvs, hbvc⟩ : ∃ av, ∃ cv, v = .slice (some av) (chunkB b i).length cv := by
      rcases bvb with ⟨_, _, _, h2⟩ | ⟨g, off, c, h1, _⟩
      · rw [h2] at hcl; simp at hcl
      · exact ⟨_, _, h1⟩
    obtain ⟨e, he⟩ : ∃ e, e = (chunkB b i).length := ⟨_, rfl⟩
    subst hbvc
    rw [← he] at bvb hcl hc16 ⊢
    clear hwb hwb' js jl jy lr bv jz xcW xnW bW jW yW llW
    replace hQ := Lib.hid hQ
    replace hJ2 := Lib.hid hJ2
    replace hst2 := Lib.hid hst2
    replace mb := Lib.hid mb
    replace lb := Lib.hid lb
    replace bvb := Lib.hid bvb
    replace jlb := Lib.hid jlb
    replace jyb := Lib.hid jyb
    replace jsb := Lib.hid jsb
    replace he := Lib.hid he
    refine wpIn_block ?_
    refine wpIn_seq ?_
    refine round_drawY (S := fun w' => w'.heap[Yb]? = some (.cells #[.func (.yield l) #[] #[]] 180 (0,0))) (y := 5) (by kernel_rfl) (by kernel_rfl) ?_ ?_
    · intro h
      obtain ⟨_, _, h⟩ := h
      exact h
    obtain ⟨wq, hwq⟩ : ∃ x, x = wb.drew := ⟨_, rfl⟩
    have mq : Mod (fun _ => False) wb wq := by rw [hwq]; exact (Mod.refl _ _).drew
    rw [← hwq]
    replace hwq := Lib.hid hwq
    have yq := mq.heap jyb.out (fun h => h)
    have lq := mq.heap jlb.out (fun h => h)
    have bq := bvb.out.mod mq (fun _ _ h => h)
    have sq := hJ.out _ _ _ jsb.out (mq.mono (fun _ _ h => h.elim))
    have l2q := mq.heap lb.out (fun h => h)
    have zq := Nat.le_trans jzb mq.size
    have lq2 : s2 + 1 < wq.heap.size := lt_of_heap l2q
    have lqY : Yb < wq.heap.size := lt_of_heap yq
    have lql : l < wq.heap.size := lt_of_heap lq
    have hWq : Mod (fun k => S k ∨ k = s2 + 1) W wq := (mb.out.mono (fun _ _ h => .inr h)).trans (mq.mono (fun _ _ h => h.elim))
    replace lq := Lib.hid lq
    replace bq := Lib.hid bq
    replace sq := Lib.hid sq
    replace l2q := Lib.hid l2q
    replace hWq := Lib.hid hWq
    simp only [List.size_toArray, List.length_cons, List.length_nil, Nat.reduceAdd, Array.replicate_succ, Array.replicate_zero, List.push_toArray, List.nil_append, List.cons_append]
    refine anyY_take 0 _ (some 7) (.func (.yield l) #[] #[]) rfl (by kernel_rfl) (by kernel_rfl) (by kernel_rfl) (by kernel_rfl) (by kernel_rfl) (by decide) rfl (fun w' hS => ?_) yq ?_
    · exact run_load_op rfl rfl (ld_funcY (cell_of_one hS))
    simp only [Act.put, List.setIfInBounds_toArray, List.set_cons_zero, List.set_cons_succ]
    refine anyY_fork 1 3 (by kernel_rfl) (by decide) (by decide) ?_ ?_
    · refine wpOp_valY _ (some 8) rfl (by kernel_rfl) rfl (.slice (some ev) e hvs) wq (by go_simp) ⟨yq, ?_⟩
      simp only [Act.put, List.setIfInBounds_toArray, List.set_cons_zero, List.set_cons_succ]
      refine anyY_fork 2 3 (by kernel_rfl) (by decide) (by decide) ?_ ?_
      · refine wpOp_callY _ (some 9) rfl (by kernel_rfl) rfl 105 #[.slice (some ev) e hvs] (by go_simp) ?_
        refine (clone_anyP ev e hvs (chunkB b i) he.out.symm wq bq.out hcl (by omega)).mono ?_
        rintro e' c1 ⟨mc1, vc1, rfl, oc1⟩
        obtain ⟨avc1, cvc1, hvc1⟩ := own_sliceP oc1
        subst hvc1
        have yc1 := mc1.heap yq (fun h => h)
        refine ⟨_, rfl, yc1, ?_⟩
        simp only [Act.put, List.setIfInBounds_toArray, List.set_cons_zero, List.set_cons_succ]
        refine anyY_one 3 (by kernel_rfl) (by decide) ?_
        obtain ⟨a2, ha2⟩ : ∃ x, x = c1.alloc (.cells #[.int .u8 1] 5) := ⟨_, rfl⟩
        obtain ⟨ga2, hga2⟩ : ∃ g, g = c1.heap.size := ⟨_, rfl⟩
        have ma2 : Mod (fun _ => False) c1 a2 := by rw [ha2]; exact (Mod.refl _ _).alloc _
        have xa2 : a2.heap[ga2]? = some (.cells (encB [(1 : BitVec 8)]) 5 (0,0)) := by rw [ha2]; exact hp_new _ _ _ hga2
        replace ha2 := Lib.hid ha2
        replace hga2 := Lib.hid hga2
        have ya2 := ma2.heap yc1 (fun h => h)
        refine wpOp_valY _ (some 10) rfl (by kernel_rfl) rfl (.slice (some ⟨ga2, 0, none⟩) 1 1) a2 (by rw [ha2.out, hga2.out]; go_simp) ⟨ya2, ?_⟩
        simp only [Act.put, List.setIfInBounds_toArray, List.set_cons_zero, List.set_cons_succ]
        have oc1' := ownsRow_keep0 oc1 ma2
        have mm := mc1.trans ma2
        obtain ⟨vt3, t3, hrt3, ot3, mdt3, frt3, _⟩ := run_append_one oc1' xa2 (by omega) (mm.size) 22
        have mkt3 : Mod (fun k => wq.heap.size ≤ k) wq t3 := (mm.mono (fun _ _ h => h.elim)).trans' mdt3 (fun k hk h => Nat.le_trans (Nat.le_refl _) (oc1'.lt k h).1)
        obtain ⟨avt3, cvt3, hvt3⟩ := own_sliceP ot3
        subst hvt3
        have bt3 := byteAt_of_own ot3
        have yt3 := mkt3.heap yq (by omega)
        refine anyY_one 4 (by kernel_rfl) (by decide) ?_
        refine wpOp_valY _ (some 11) rfl (by kernel_rfl) rfl (.slice avt3 (e + 1) cvt3) t3 (run_append_opP rfl rfl rfl hrt3) ⟨yt3, ?_⟩
        simp only [Act.put, List.setIfInBounds_toArray, List.set_cons_zero, List.set_cons_succ]
        have lt3 := mkt3.heap lq.out (by omega)
        have st3 := hJ.out _ _ _ sq.out (mkt3.mono (fun k _ h => by omega))
        have qt3 := mkt3.heap l2q.out (by omega)
        refine anyY_yield _ (some 12) rfl (by kernel_rfl) (by kernel_rfl) rfl _ _ _ rfl rfl rec T lt3 hT.out (.slice avt3 (e + 1) cvt3) rfl ?_
        refine (hround.out i t3 _ hi st3 lt3 bt3).mono ?_
        rintro e' W' ⟨rfl, j', l', m'⟩
        refine ⟨_, rfl, ?_⟩
        simp only [Act.put, List.setIfInBounds_toArray, List.set_cons_zero, List.set_cons_succ]
        have y' := m'.heap yt3 (fun h => by have := hSlow.out _ h; have := hYb.out; omega)
        have q' := m'.heap qt3 (fun h => by have := hSlow.out _ h; omega)
        refine anyY_one 6 (by kernel_rfl) (by decide) ?_
        refine wpOp_valY _ (some 13) rfl (by kernel_rfl) rfl (.bool false) W' (by go_simp) ⟨y', ?_⟩
        simp only [Act.put, List.setIfInBounds_toArray, List.set_cons_zero, List.set_cons_succ]
        refine anyY_done (by kernel_rfl) ?_ _
        have hsz : W.heap.size ≤ wq.heap.size := hWq.out.size
        have hWW : Mod (fun k => S k ∨ k = s2 + 1) W W' := (hWq.out.trans' mkt3 (fun k hk h => by omega)).trans' m' (fun k _ h => .inl h)
        have hend : ∀ o, J2 (i + 1) (W'.putObj (s2 + 1) o) ∧ Mod (fun k => S k ∨ k = s2 + 1) W (W'.putObj (s2 + 1) o) := by
          intro o
          have h1 := Mod.one_putObj W' (s2 + 1) o
          refine ⟨?_, hWW.trans (h1.mono fun _ _ h => .inr h)⟩
          rw [hJ2.out]
          exact ⟨hJ.out _ _ _ j' (h1.mono (fun _ _ h => by omega)), h1.heap l' (by omega), h1.heap y' (by omega), by have := mkt3.size; have := m'.size; have := h1.size; omega⟩
        replace hend := Lib.hid hend
        clear hWW y' l' j' m' mkt3 bt3 ot3 lt3 st3
        go_wp2
        gi_wp2
        refine ⟨_, _, run_endRound _ q', hQ.out _ _ ⟨rfl, (hend.out _).1, ?_, (hend.out _).2⟩⟩
        rw [← hst2.out]
        exact heap_putObj q'
      · obtain ⟨a4, ha4⟩ : ∃ x, x = wq.alloc (.cells #[.int .u8 1] 5) := ⟨_, rfl⟩
        obtain ⟨ga4, hga4⟩ : ∃ g, g = wq.heap.size := ⟨_, rfl⟩
        have ma4 : Mod (fun _ => False) wq a4 := by rw [ha4]; exact (Mod.refl _ _).alloc _
        have xa4 : a4.heap[ga4]? = some (.cells (encB [(1 : BitVec 8)]) 5 (0,0)) := by rw [ha4]; exact hp_new _ _ _ hga4
        replace ha4 := Lib.hid ha4
        replace hga4 := Lib.hid hga4
        have ya4 := ma4.heap yq (fun h => h)
        have ba4 := bq.out.mod ma4 (fun _ _ h => h)
        refine wpOp_valY _ (some 10) rfl (by kernel_rfl) rfl (.slice (some ⟨ga4, 0, none⟩) 1 1) a4 (by rw [ha4.out, hga4.out]; go_simp) ⟨ya4, ?_⟩
        simp only [Act.put, List.setIfInBounds_toArray, List.set_cons_zero, List.set_cons_succ]
        refine anyY_one 2 (by kernel_rfl) (by decide) ?_
        refine wpOp_callY _ (some 9) rfl (by kernel_rfl) rfl 105 #[.slice (some ev) e hvs] (by go_simp) ?_
        refine (clone_anyP ev e hvs (chunkB b i) he.out.symm a4 ba4 hcl (by omega)).mono ?_
        rintro e' c5 ⟨mc5, vc5, rfl, oc5⟩
        obtain ⟨avc5, cvc5, hvc5⟩ := own_sliceP oc5
        subst hvc5
        have yc5 := mc5.heap ya4 (fun h => h)
        refine ⟨_, rfl, yc5, ?_⟩
        simp only [Act.put, List.setIfInBounds_toArray, List.set_cons_zero, List.set_cons_succ]
        have xa4' := mc5.heap xa4 (fun h => h)
        have mm := ma4.trans mc5
        obtain ⟨vt6, t6, hrt6, ot6, mdt6, frt6, _⟩ := run_append_one oc5 xa4' (by omega) (mc5.size) 22
        have mkt6 : Mod (fun k => wq.heap.size ≤ k) wq t6 := (mm.mono (fun _ _ h => h.elim)).trans' mdt6 (fun k hk h => Nat.le_trans (ma4.size) (oc5.lt k h).1)
        obtain ⟨avt6, cvt6, hvt6⟩ := own_sliceP ot6
        subst hvt6
        have bt6 := byteAt_of_own ot6
        have yt6 := mkt6.heap yq (by omega)
        refine anyY_one 4 (by kernel_rfl) (by decide) ?_
        refine wpOp_valY _ (some 11) rfl (by kernel_rfl) rfl (.slice avt6 (e + 1) cvt6) t6 (run_append_opP rfl rfl rfl hrt6) ⟨yt6, ?_⟩
        simp only [Act.put, List.setIfInBounds_toArray, List.set_cons_zero, List.set_cons_succ]
        have lt6 := mkt6.heap lq.out (by omega)
        have st6 := hJ.out _ _ _ sq.out (mkt6.mono (fun k _ h => by omega))
        have qt6 := mkt6.heap l2q.out (by omega)
        refine anyY_yield _ (some 12) rfl (by kernel_rfl) (by kernel_rfl) rfl _ _ _ rfl rfl rec T lt6 hT.out (.slice avt6 (e + 1) cvt6) rfl ?_
        refine (hround.out i t6 _ hi st6 lt6 bt6).mono ?_
        rintro e' W' ⟨rfl, j', l', m'⟩
        refine ⟨_, rfl, ?_⟩
        simp only [Act.put, List.setIfInBounds_toArray, List.set_cons_zero, List.set_cons_succ]
        have y' := m'.heap yt6 (fun h => by have := hSlow.out _ h; have := hYb.out; omega)
        have q' := m'.heap qt6 (fun h => by have := hSlow.out _ h; omega)
        refine anyY_one 6 (by kernel_rfl) (by decide) ?_
        refine wpOp_valY _ (some 13) rfl (by kernel_rfl) rfl (.bool false) W' (by go_simp) ⟨y', ?_⟩
        simp only [Act.put, List.setIfInBounds_toArray, List.set_cons_zero, List.set_cons_succ]
        refine anyY_done (by kernel_rfl) ?_ _
        have hsz : W.heap.size ≤ wq.heap.size := hWq.out.size
        have hWW : Mod (fun k => S k ∨ k = s2 + 1) W W' := (hWq.out.trans' mkt6 (fun k hk h => by omega)).trans' m' (fun k _ h => .inl h)
        have hend : ∀ o, J2 (i + 1) (W'.putObj (s2 + 1) o) ∧ Mod (fun k => S k ∨ k = s2 + 1) W (W'.putObj (s2 + 1) o) := by
          intro o
          have h1 := Mod.one_putObj W' (s2 + 1) o
          refine ⟨?_, hWW.trans (h1.mono fun _ _ h => .inr h)⟩
          rw [hJ2.out]
          exact ⟨hJ.out _ _ _ j' (h1.mono (fun _ _ h => by omega)), h1.heap l' (by omega), h1.heap y' (by omega), by have := mkt6.size; have := m'.size; have := h1.size; omega⟩
        replace hend := Lib.hid hend
        clear hWW y' l' j' m' mkt6 bt6 ot6 lt6 st6
        go_wp2
        gi_wp2
        refine ⟨_, _, run_endRound _ q', hQ.out _ _ ⟨rfl, (hend.out _).1, ?_, (hend.out _).2⟩⟩
        rw [← hst2.out]
        exact heap_putObj q'
    · obtain ⟨a7, ha7⟩ : ∃ x, x = wq.alloc (.cells #[.int .u8 1] 5) := ⟨_, rfl⟩
      obtain ⟨ga7, hga7⟩ : ∃ g, g = wq.heap.size := ⟨_, rfl⟩
      have ma7 : Mod (fun _ => False) wq a7 := by rw [ha7]; exact (Mod.refl _ _).alloc _
      have xa7 : a7.heap[ga7]? = some (.cells (encB [(1 : BitVec 8)]) 5 (0,0)) := by rw [ha7]; exact hp_new _ _ _ hga7
      replace ha7 := Lib.hid ha7
      replace hga7 := Lib.hid hga7
      have ya7 := ma7.heap yq (fun h => h)
      have ba7 := bq.out.mod ma7 (fun _ _ h => h)
      refine wpOp_valY _ (some 10) rfl (by kernel_rfl) rfl (.slice (some ⟨ga7, 0, none⟩) 1 1) a7 (by rw [ha7.out, hga7.out]; go_simp) ⟨ya7, ?_⟩
      simp only [Act.put, List.setIfInBounds_toArray, List.set_cons_zero, List.set_cons_succ]
      refine anyY_one 1 (by kernel_rfl) (by decide) ?_
      refine wpOp_valY _ (some 8) rfl (by kernel_rfl) rfl (.slice (some ev) e hvs) a7 (by go_simp) ⟨ya7, ?_⟩
      simp only [Act.put, List.setIfInBounds_toArray, List.set_cons_zero, List.set_cons_succ]
      refine anyY_one 2 (by kernel_rfl) (by decide) ?_
      refine wpOp_callY _ (some 9) rfl (by kernel_rfl) rfl 105 #[.slice (some ev) e hvs] (by go_simp) ?_
      refine (clone_anyP ev e hvs (chunkB b i) he.out.symm a7 ba7 hcl (by omega)).mono ?_
      rintro e' c8 ⟨mc8, vc8, rfl, oc8⟩
      obtain ⟨avc8, cvc8, hvc8⟩ := own_sliceP oc8
      subst hvc8
      have yc8 := mc8.heap ya7 (fun h => h)
      refine ⟨_, rfl, yc8, ?_⟩
      simp only [Act.put, List.setIfInBounds_toArray, List.set_cons_zero, List.set_cons_succ]
      have xa7' := mc8.heap xa7 (fun h => h)
      have mm := ma7.trans mc8
      obtain ⟨vt9, t9, hrt9, ot9, mdt9, frt9, _⟩ := run_append_one oc8 xa7' (by omega) (mc8.size) 22
      have mkt9 : Mod (fun k => wq.heap.size ≤ k) wq t9 := (mm.mono (fun _ _ h => h.elim)).trans' mdt9 (fun k hk h => Nat.le_trans (ma7.size) (oc8.lt k h).1)
      obtain ⟨avt9, cvt9, hvt9⟩ := own_sliceP ot9
      subst hvt9
      have bt9 := byteAt_of_own ot9
      have yt9 := mkt9.heap yq (by omega)
      refine anyY_one 4 (by kernel_rfl) (by decide) ?_
      refine wpOp_valY _ (some 11) rfl (by kernel_rfl) rfl (.slice avt9 (e + 1) cvt9) t9 (run_append_opP rfl rfl rfl hrt9) ⟨yt9, ?_⟩
      simp only [Act.put, List.setIfInBounds_toArray, List.set_cons_zero, List.set_cons_succ]
      have lt9 := mkt9.heap lq.out (by omega)
      have st9 := hJ.out _ _ _ sq.out (mkt9.mono (fun k _ h => by omega))
      have qt9 := mkt9.heap l2q.out (by omega)
      refine anyY_yield _ (some 12) rfl (by kernel_rfl) (by kernel_rfl) rfl _ _ _ rfl rfl rec T lt9 hT.out (.slice avt9 (e + 1) cvt9) rfl ?_
      refine (hround.out i t9 _ hi st9 lt9 bt9).mono ?_
      rintro e' W' ⟨rfl, j', l', m'⟩
      refine ⟨_, rfl, ?_⟩
      simp only [Act.put, List.setIfInBounds_toArray, List.set_cons_zero, List.set_cons_succ]
      have y' := m'.heap yt9 (fun h => by have := hSlow.out _ h; have := hYb.out; omega)
      have q' := m'.heap qt9 (fun h => by have := hSlow.out _ h; omega)
      refine anyY_one 6 (by kernel_rfl) (by decide) ?_
      refine wpOp_valY _ (some 13) rfl (by kernel_rfl) rfl (.bool false) W' (by go_simp) ⟨y', ?_⟩
      simp only [Act.put, List.setIfInBounds_toArray, List.set_cons_zero, List.set_cons_succ]
      refine anyY_done (by kernel_rfl) ?_ _
      have hsz : W.heap.size ≤ wq.heap.size := hWq.out.size
      have hWW : Mod (fun k => S k ∨ k = s2 + 1) W W' := (hWq.out.trans' mkt9 (fun k hk h => by omega)).trans' m' (fun k _ h => .inl h)
      have hend : ∀ o, J2 (i + 1) (W'.putObj (s2 + 1) o) ∧ Mod (fun k => S k ∨ k = s2 + 1) W (W'.putObj (s2 + 1) o) := by
        intro o
        have h1 := Mod.one_putObj W' (s2 + 1) o
        refine ⟨?_, hWW.trans (h1.mono fun _ _ h => .inr h)⟩
        rw [hJ2.out]
        exact ⟨hJ.out _ _ _ j' (h1.mono (fun _ _ h => by omega)), h1.heap l' (by omega), h1.heap y' (by omega), by have := mkt9.size; have := m'.size; have := h1.size; omega⟩
      replace hend := Lib.hid hend
      clear hWW y' l' j' m' mkt9 bt9 ot9 lt9 st9
      go_wp2
      gi_wp2
      refine ⟨_, _, run_endRound _ q', hQ.out _ _ ⟨rfl, (hend.out _).1, ?_, (hend.out _).2⟩⟩
      rw [← hst2.out]
      exact heap_putObj q'
  · rw [hJ2]
    exact ⟨jW, llW, yW, m0W.size⟩
  · intro g off n' c h h0 hs
    have := hoffw.out g off n' c h h0
    rcases hs with hs | hs
    · exact hoff.out g off n' c h h0 hs
    · omega
  · rintro e W ⟨rfl, hj, lst, mfin⟩
    rw [hJ2] at hj
    obtain ⟨js, jl, jy, jz⟩ := hj
    refine ⟨_, _, run_endLoop lst (by rw [hrec.out]; simp), ?_⟩
    rw [show rec2.pending = none by rw [hrec.out]]
    dsimp only
    obtain ⟨w4, hw4⟩ : ∃ w4, w4 = W.putObj (s2 + 1) (.loop { rec2 with state := .exhausted, pending := none }) := ⟨_, rfl⟩
    have m4 : Mod (fun k => k = s2 + 1) W w4 := by rw [hw4]; exact Mod.one_putObj W (s2 + 1) (.loop { rec2 with state := .exhausted, pending := none })
    rw [← hw4]
    have mf4 : Mod (fun k => S k ∨ k = s2 + 1) W1 w4 := mfin.trans (m4.mono fun _ _ h => .inr h)
    have d4 := mf4.heap dW (fun h => h.elim (fun h => by have := hSlow.out _ h; omega) (fun h => by omega))
    have hfin : J (nch b) (w4.putObj s2 (.deferred none)) ∧ (w4.putObj s2 (.deferred none)).heap[l]? = some (.loop rec) ∧ Mod S W0 (w4.putObj s2 (.deferred none)) := by
      have h1 := Mod.one_putObj w4 s2 (.deferred none)
      refine ⟨hJ.out _ _ _ (hJ.out _ _ _ js (m4.mono (fun _ _ h => by omega))) (h1.mono (fun _ _ h => by omega)), h1.heap (m4.heap jl (by omega)) (by omega), ?_⟩
      have h2 : Mod (fun k => (S k ∨ k = s2 + 1) ∨ k = s2) W1 (w4.putObj s2 (.deferred none)) := (mf4.mono fun _ _ h => .inl h).trans (h1.mono fun _ _ h => .inr h)
      exact (m0W.mono (fun _ _ h => h.elim)).trans' h2 (fun k hk h => by
        rcases h with (h | h) | h
        · exact h
        · omega
        · omega)
    replace hw4 := Lib.hid hw4
    replace hfin := Lib.hid hfin
    replace d4 := Lib.hid d4
    clear m4 mf4 js jl jy lst mfin hJ2 xcW xnW bW jW yW llW m0W dW lW hrec sW
    go_wp2
    refine bodyPostM_mark (v := .tuple #[]) rfl d4.out (results_none rfl _ _ _) ?_
    exact ⟨rfl, hfin.out.1, hfin.out.2.1, hfin.out.2.2⟩
end Go.Proofs.YtbiijcljpgannaaGreatDoor
