/-
  hkdf.Expand: so many bytes of a key. Printed by gen/hk6.py.
-/
import Derived.Lib.MinMax
import Derived.Test.YtppjnkgmbmhlcaaGreatDoorK5
namespace Go.Proofs.YtppjnkgmbmhlcaaGreatDoor
set_option maxRecDepth 100000
open Go Go.RowKit Go.Lib
set_option linter.unusedSimpArgs false
set_option linter.unusedVariables false

/-- The first sums, one behind the other. -/
def outT (K info : List (BitVec 8)) (i : Nat) : List (BitVec 8) := (List.range i).flatMap fun j => expT K info (j + 1)
theorem outT_succ (K info : List (BitVec 8)) (i : Nat) : outT K info (i + 1) = outT K info i ++ expT K info (i + 1) := by
  unfold outT
  rw [List.range_succ, List.flatMap_append, List.flatMap_singleton]
theorem outT_length (K info : List (BitVec 8)) (i : Nat) : (outT K info i).length = 32 * i := by
  induction i with
  | zero => rfl
  | succ i ih => rw [outT_succ, List.length_append, ih, expT_length]; omega
def expandB (K info : List (BitVec 8)) (n : Nat) : List (BitVec 8) := (outT K info ((n + 31) / 32)).take n
theorem expandB_length (K info : List (BitVec 8)) (n : Nat) : (expandB K info n).length = n := by
  unfold expandB
  rw [List.length_take, outT_length]
  omega
theorem ownsRow_base {w : World} {base base' n size : Nat} {e : TypeId} {v : Value} {xs : List Value} (h : w.ownsRow base e size v n xs) (hb : base' ≤ base) : w.ownsRow base' e size v n xs := by
  refine ⟨h.1, ?_⟩
  rcases h.2 with hn | ⟨g, cap, cur, rfl, hb', hgg, rest⟩
  · exact .inl hn
  · exact .inr ⟨g, cap, cur, rfl, by omega, hgg, rest⟩
def ExpEnd (k info : List (BitVec 8)) (n : Int) (w : World) (e : Ending) (w' : World) : Prop :=
  Mod (fun _ => False) w w' ∧ if n < 0 ∨ 8160 < n then e = .returned (.tuple #[.slice none 0 0, .int .i64 1]) else if 1048576 < k.length ∨ 1048479 < info.length then e = .returned (.tuple #[.slice none 0 0, .int .i64 3])
    else ∃ v, e = .returned (.tuple #[v, .int .i64 0]) ∧ w'.ownsRow w.heap.size 5 1 v n.toNat (bytesV (expandB (keyS k) info n.toNat))

theorem run_append_op {P : Program} {ev : Operand → Value} {o : Oper} {d s : Operand} {dT sT : TypeId} {w w' : World} {vd vs r : Value} (ho : o.op = .call { callee := .builtin .append, args := #[d, s], argTypes := #[dT, sT] }) (hd : ev d = vd) (hs : ev s = vs)
    (hrun : (Builtin.append_ #[dT, sT] o.type #[vd, vs]).run P w = .ok r w') : (execOp ev o).run P w = .ok (.value r) w' := by
  unfold execOp
  simp [ho, resolve, invoke, builtin, hd, hs, hrun, Result.andThen]

set_option maxRecDepth 100000 in
set_option maxHeartbeats 4000000 in
theorem expand_any (vk vi : Value) (k info : List (BitVec 8)) (n : Int) (w : World) (hk : ByteAt w vk k) (hi : ByteAt w vi info) (hkl : k.length < 4611686018427387904) (hil : info.length < 4611686018427387904) (hn1 : -9223372036854775808 ≤ n) (hn2 : n ≤ 9223372036854775807) :
    Calls Tryz.prog 120 #[vk, vi, .int .i64 n] w (ExpEnd k info n w) := by
  obtain ⟨ak, ck, rfl, _⟩ := hk.slice
  obtain ⟨ai, ci, rfl, hic⟩ := hi.slice
  obtain ⟨m, hm⟩ : ∃ m, m = k.length := ⟨_, rfl⟩
  obtain ⟨p, hp⟩ : ∃ p, p = info.length := ⟨_, rfl⟩
  have hoffw : ∀ g off n' c, (Value.slice ai info.length ci) = .slice (some ⟨g, off, none⟩) n' c → 0 < info.length → g < w.heap.size := by
    intro g off n' c h h0
    obtain ⟨g', off', h1, h2, _⟩ := hic 0 h0
    injection h with h
    rw [h1] at h
    injection h with h
    injection h with h
    rw [← h]
    exact h2
  rw [← hm] at hk hkl ⊢
  rw [← hp] at hi hil hoffw ⊢
  clear hic
  have bm0 : (0 : Int) ≤ (m : Int) := by omega
  have bp0 : (0 : Int) ≤ (p : Int) := by omega
  obtain ⟨w1, hw1⟩ : ∃ w1, w1 = w.alloc (.cells #[.int .i64 n] 3) := ⟨_, rfl⟩
  have m1 : Mod (fun _ => False) w w1 := by rw [hw1]; exact (Mod.refl _ _).alloc _
  have n1 : w1.heap[w.heap.size]? = some (.cells #[.int .i64 n] 3 (0,0)) := by rw [hw1]; exact hp_new _ _ _ rfl
  have cn1 := cell_of_one n1
  replace hw1 := Lib.hid hw1
  replace m1 := Lib.hid m1
  replace n1 := Lib.hid n1
  replace hm := Lib.hid hm
  replace hp := Lib.hid hp
  replace hk := Lib.hid hk
  replace hi := Lib.hid hi
  replace hoffw := Lib.hid hoffw
  refine calls_of_marks Tryz.func120 rfl ?_
  simp only [Tryz.ntmps120, List.size_toArray, List.length_cons, List.length_nil, Nat.reduceAdd, Nat.reduceSub, Array.replicate_succ,
     Array.replicate_zero, List.push_toArray, List.append_toArray, List.nil_append, List.cons_append]
  go_upto_region 1 with (fail)
  rw [← hw1.out]
  by_cases hbad : n < 0 ∨ 8160 < n
  · have hfin : ExpEnd k info n w (.returned (.tuple #[.slice none 0 0, .int .i64 1])) w1 := ⟨m1.out, by rw [if_pos hbad]⟩
    replace hfin := Lib.hid hfin
    by_cases hneg : n < 0
    · have hd : decide (n < 0) = true := by rw [decide_eq_true_iff]; exact hneg
      clear hbad
      go_wp2
      refine bodyPostM_ret (results_tmp2 rfl _ _ _) rfl ?_
      exact hfin.out
    · have hd : decide (n < 0) = false := by rw [decide_eq_false_iff_not]; exact hneg
      have hd2 : decide (8160 < n) = true := by rw [decide_eq_true_iff]; omega
      clear hbad
      go_wp2
      refine bodyPostM_ret (results_tmp2 rfl _ _ _) rfl ?_
      exact hfin.out
  · obtain ⟨N, rfl⟩ : ∃ N : Nat, n = (N : Int) := ⟨n.toNat, by omega⟩
    have hN : N ≤ 8160 := by omega
    have bN : (N : Int) ≤ 8160 := by omega
    have bN0 : (0 : Int) ≤ (N : Int) := by omega
    have hd : decide ((N : Int) < 0) = false := by rw [decide_eq_false_iff_not]; omega
    have hd2 : decide ((8160 : Int) < (N : Int)) = false := by rw [decide_eq_false_iff_not]; omega
    have hnb := hbad
    replace hnb := Lib.hid hnb
    replace hN := Lib.hid hN
    clear hbad hn1 hn2
    by_cases hlim : 1048576 < m ∨ 1048479 < p
    · have hfin : ExpEnd k info (N : Int) w (.returned (.tuple #[.slice none 0 0, .int .i64 3])) w1 := ⟨m1.out, by rw [if_neg hnb.out, if_pos (by rw [← hm.out, ← hp.out]; exact hlim)]⟩
      replace hfin := Lib.hid hfin
      by_cases hm1 : 1048576 < m
      · have hd3 : decide ((1048576 : Int) < (m : Int)) = true := by rw [decide_eq_true_iff]; omega
        clear hlim hm1
        go_wp2
        refine bodyPostM_ret (results_tmp2 rfl _ _ _) rfl ?_
        exact hfin.out
      · have hd3 : decide ((1048576 : Int) < (m : Int)) = false := by rw [decide_eq_false_iff_not]; omega
        have hd4 : decide ((1048479 : Int) < (p : Int)) = true := by rw [decide_eq_true_iff]; omega
        clear hlim hm1
        go_wp2
        refine bodyPostM_ret (results_tmp2 rfl _ _ _) rfl ?_
        exact hfin.out
    · have hml : m ≤ 1048576 := by omega
      have hpl : p ≤ 1048479 := by omega
      have hd3 : decide ((1048576 : Int) < (m : Int)) = false := by rw [decide_eq_false_iff_not]; omega
      have hd4 : decide ((1048479 : Int) < (p : Int)) = false := by rw [decide_eq_false_iff_not]; omega
      have hend : ∀ v w', Mod (fun _ => False) w w' → w'.ownsRow w.heap.size 5 1 v N (bytesV (expandB (keyS k) info N)) → ExpEnd k info (N : Int) w (.returned (.tuple #[v, .int .i64 0])) w' := fun v w' h1 h2 => ⟨h1, by rw [if_neg hnb.out, if_neg (by rw [← hm.out, ← hp.out]; exact hlim)]; exact ⟨v, rfl, h2⟩⟩
      replace hend := Lib.hid hend
      replace hml := Lib.hid hml
      replace hpl := Lib.hid hpl
      clear hlim
      by_cases h0 : N = 0
      · subst h0
        have hfin := hend.out (.slice none 0 0) w1 m1.out ⟨rfl, .inl ⟨rfl, rfl⟩⟩
        replace hfin := Lib.hid hfin
        go_wp2
        refine bodyPostM_ret (results_tmp2 rfl _ _ _) rfl ?_
        exact hfin.out
      · have hne : ((N : Int) == 0) = false := by rw [beq_eq_false_iff_ne]; omega
        replace h0 := Lib.hid h0
        obtain ⟨w2, hw2⟩ : ∃ w2, w2 = w1.alloc (.cells #[.slice none 0 0] 22) := ⟨_, rfl⟩
        obtain ⟨Bo, hBo⟩ : ∃ Bo, Bo = w1.heap.size := ⟨_, rfl⟩
        have m2 : Mod (fun _ => False) w1 w2 := by rw [hw2]; exact (Mod.refl _ _).alloc _
        have o2 : w2.heap[Bo]? = some (.cells #[.slice none 0 0] 22 (0,0)) := by rw [hw2]; exact hp_new _ _ _ hBo
        have n2 := m2.heap n1.out (fun h => h)
        have m02 := m1.out.trans m2
        have hk2 := hk.out.mod m02 (fun _ _ h => h)
        have hi2 := hi.out.mod m02 (fun _ _ h => h)
        have hwB : w.heap.size < Bo := by rw [hBo]; exact lt_of_heap n1.out
        replace hw2 := Lib.hid hw2
        replace hBo := Lib.hid hBo
        replace o2 := Lib.hid o2
        replace n2 := Lib.hid n2
        replace m02 := Lib.hid m02
        replace hk2 := Lib.hid hk2
        replace hi2 := Lib.hid hi2
        clear m2
        go_upto_region 8 with (fail)
        rw [← hw2.out, ← hBo.out]
        refine wp_region_lit ?_
        refine wpList_reads (by kernel_rfl) (.slice ak m ck) (by go_simp) ?_
        simp only [Act.put, List.setIfInBounds_toArray, List.set_cons_zero, List.set_cons_succ]
        refine wpList_enter (by kernel_rfl) 128 #[.slice ak m ck] (by go_simp) (of_any _ k w2 hk2.out (by rw [← hm.out]; exact hml.out)) ?_
        rintro e w3 ⟨m3, rfl⟩
        have hi3 := hi2.out.mod m3 (fun _ _ h => h)
        replace hi3 := Lib.hid hi3
        refine ⟨_, rfl, ?_⟩
        simp only [Act.put, List.setIfInBounds_toArray, List.set_cons_zero, List.set_cons_succ]
        refine wpList_reads (by kernel_rfl) (.slice ai p ci) (by go_simp) ?_
        simp only [Act.put, List.setIfInBounds_toArray, List.set_cons_zero, List.set_cons_succ]
        refine wpList_enter (by kernel_rfl) 134 #[.agg (encB (keyS k)), .slice ai p ci] (by go_simp) (sums_make (keyS k) _ w3 ⟨_, _, _, rfl⟩) ?_
        rintro e w4 ⟨m4, rfl, xa4, xb4⟩
        have m24 := m3.trans m4
        have o4 := m24.heap o2.out (fun h => h)
        have n4 := m24.heap n2.out (fun h => h)
        have m04 := m02.out.trans m24
        have hi4 := hi3.out.mod m4 (fun _ _ h => h)
        obtain ⟨A, hA⟩ : ∃ A, A = w3.heap.size := ⟨_, rfl⟩
        rw [← hA] at xa4 xb4 ⊢
        have hBA : Bo < A := by rw [hA]; exact lt_of_heap (m3.heap o2.out (fun h => h))
        have hKl := keyS_length k
        obtain ⟨K, hKK⟩ : ∃ K, K = keyS k := ⟨_, rfl⟩
        rw [← hKK] at xa4 hKl hend ⊢
        replace hA := Lib.hid hA
        replace hKK := Lib.hid hKK
        replace o4 := Lib.hid o4
        replace n4 := Lib.hid n4
        replace m04 := Lib.hid m04
        replace hi4 := Lib.hid hi4
        replace xa4 := Lib.hid xa4
        replace xb4 := Lib.hid xb4
        clear m3 m4 m24
        refine ⟨_, rfl, ?_⟩
        simp only [Act.put, List.setIfInBounds_toArray, List.set_cons_zero, List.set_cons_succ]
        go_wp2
        obtain ⟨M, hM⟩ : ∃ M, M = (N + 31) / 32 := ⟨_, rfl⟩
        have hM255 : M ≤ 255 := by have := hN.out; omega
        have hM0 : 0 < M := by have := h0.out; omega
        replace hM := Lib.hid hM
        refine wp_rangeFunc_wide 141 _ rfl (fun _ _ => rfl) fun fn => ?_
        simp only [List.push_toArray, List.append_toArray, List.nil_append, List.cons_append]
        refine calls_rec fun rec W0 hrec hW0 => ?_
        replace hrec := Lib.hid hrec
        have mW : Mod (fun _ => False) w4 W0 := by rw [hW0]; exact ((Mod.refl _ w4).alloc _).alloc _
        have dW : W0.heap[w4.heap.size]? = some (.deferred (some [])) := by
          rw [hW0]
          rw [hp_old _ _ _ (by simp only [World.size_alloc]; omega), hp_new _ _ _ (by simp)]
        have lW : W0.heap[w4.heap.size + 1]? = some (.loop rec) := by
          rw [hW0]
          rw [hp_new _ _ _ (by simp)]
        have sW : W0.heap.size = w4.heap.size + 2 := by rw [hW0]; simp
        clear hW0
        have oW := mW.heap o4.out (fun h => h)
        have nW := mW.heap n4.out (fun h => h)
        have xaW := mW.heap xa4.out (fun h => h)
        have xbW := mW.heap xb4.out (fun h => h)
        have hiW := hi4.out.mod mW (fun _ _ h => h)
        have m0W := m04.out.trans mW
        have hA4 : A + 1 < w4.heap.size := lt_of_heap xb4.out
        generalize hs4 : w4.heap.size = s4 at *
        replace hs4 := Lib.hid hs4
        clear mW
        obtain ⟨J, hJ⟩ : ∃ J : Nat → Nat → World → Prop, J = fun i z W => Mod (fun k => k = Bo ∨ k = s4 + 1 ∨ s4 + 2 ≤ k) W0 W ∧ 32 * i < N ∧ ∃ v, W.heap[Bo]? = some (.cells #[v] 22 (0,0)) ∧ W.ownsRow (s4 + 2) 5 1 v (32 * i) (bytesV (outT K info i)) ∧ ∀ g, v.ownBlock = some g → g < z := ⟨_, rfl⟩
        obtain ⟨Stop, hStop⟩ : ∃ Stop : World → Prop, Stop = fun W => Mod (fun k => k = Bo ∨ k = s4 + 1 ∨ s4 + 2 ≤ k) W0 W ∧ (∃ v, W.heap[Bo]? = some (.cells #[v] 22 (0,0)) ∧ W.ownsRow (s4 + 2) 5 1 v N (bytesV (expandB K info N))) ∧ W.heap[s4 + 1]? = some (.loop { rec with state := .done, pending := some (.exit 1) }) := ⟨_, rfl⟩
        refine (sums_iter (s4 + 1) A (A + 1) 33 K info hKl (by rw [← hp.out]; exact hpl.out) (.slice ai p ci) rec M hM255 hM0 (fun k => k = Bo ∨ k = s4 + 1) J Stop W0 (by rw [hrec.out]) (by omega) (by omega) (fun k hk => by omega) ?_ ?_ ?_ ?_ lW xaW xbW hiW).mono ?_
        · intro g off n' c h h0' hs
          have hn' : n' = p := by injection h with _ h _; exact h.symm
          have hg := hoffw.out g off n' c h (by rw [← hn']; exact h0')
          have := m04.out.size
          omega
        · rw [hJ]
          rintro i z W W' ⟨h1, h2, v, h3, h4, h5⟩ hm'
          exact ⟨h1.trans (hm'.mono (fun _ _ h => h.elim)), h2, v, hm'.heap h3 (fun h => h), ownsRow_kept h4 hm' (fun _ _ h => h), h5⟩
        · intro i z W hi hj hz0 hzW lr
          rw [hJ] at hj
          obtain ⟨mj, hiN, v, oj, ownj, ownz⟩ := hj
          refine round_named fun Q hQ => ?_
          obtain ⟨RR, hRR⟩ : ∃ RR, RR = expT K info (i + 1) := ⟨_, rfl⟩
          have hRl : RR.length = 32 := by rw [hRR]; exact expT_length _ _ _
          have hot := outT_succ K info i
          have hotl := outT_length K info i
          rw [← hRR] at hot ⊢
          refine roundIn_of_wpIn trivial ?_
          rw [hrec.out]
          dsimp only
          simp only [List.setIfInBounds_toArray, List.set_cons_zero, List.set_cons_succ]
          obtain ⟨adv, capv, hv, _⟩ := (byteAt_of_own ownj).slice
          rw [hotl] at hv
          obtain ⟨L, hL⟩ : ∃ L, L = 32 * i := ⟨_, rfl⟩
          rw [← hL] at hv ownj hiN hotl
          rw [hv] at ownz oj ownj
          clear hv
          obtain ⟨mm, hmm⟩ : ∃ mm, mm = min 32 (N - L) := ⟨_, rfl⟩
          have hmm32 : mm ≤ 32 := by omega
          have bL : (L : Int) ≤ 8160 := by have := hN.out; omega
          have bL0 : (0 : Int) ≤ (L : Int) := by omega
          have bmm : (mm : Int) ≤ 32 := by omega
          have bmm0 : (0 : Int) ≤ (mm : Int) := by omega
          have emin : min (32 : Int) ((N : Int) - (L : Int)) = (mm : Int) := by omega
          obtain ⟨g9, hg9⟩ : ∃ g9, g9 = W.heap.size := ⟨_, rfl⟩
          obtain ⟨w5, hw5⟩ : ∃ w5, w5 = W.alloc (.cells (encB (zb 32)) 62) := ⟨_, rfl⟩
          have m5 : Mod (fun _ => False) W w5 := by rw [hw5]; exact (Mod.refl _ _).alloc _
          have z5 : w5.heap[g9]? = some (.cells (encB (zb 32)) 62 (0,0)) := by rw [hw5]; exact hp_new _ _ _ hg9
          obtain ⟨w6, s6, m6, z6⟩ := bytes_store z5 (s' := RR) (by decide) hRl
          have mW6 : Mod (fun _ => False) W w6 := m5.trans' m6 (fun i hi h => by omega)
          have l6 := mW6.heap lr (fun h => h)
          have hwb : ∀ wb, wb = w6.putObj (s4 + 1) (.loop { rec with state := .busy }) → Mod (fun k => k = s4 + 1) w6 wb ∧ wb.heap[s4 + 1]? = some (.loop { rec with state := .busy }) := by
            rintro wb rfl
            exact ⟨Mod.one_putObj w6 (s4 + 1) (.loop { rec with state := .busy }), heap_putObj l6⟩
          have hst2 : (Loop.mk .ready none rec.fn rec.tmps rec.params rec.assign rec.body rec.defers) = rec := by rw [hrec.out]
          have hs4g : s4 + 2 ≤ g9 := by rw [hg9]; have := mj.size; omega
          refine round_region (by kernel_rfl) (fun h => by obtain ⟨_, _, h⟩ := h; exact h) ?_
          refine wpList_yields (by kernel_rfl) _ _ (alloc_arr 62 _ zero32 _ _ _ rfl) ?_
          simp only [Act.put, List.setIfInBounds_toArray, List.set_cons_zero, List.set_cons_succ]
          rw [← hg9, ← hw5]
          refine wpList_store_to rfl _ _ _ rfl _ _ _ rfl rfl _ s6 ?_
          simp only [Act.put, List.setIfInBounds_toArray, List.set_cons_zero, List.set_cons_succ]
          refine ⟨_, run_beginRound l6 (by rw [hrec.out]), ?_⟩
          refine wpIn_world fun wb hwb' => ?_
          obtain ⟨mb, lb⟩ := hwb wb hwb'
          have mWb : Mod (fun k => k = s4 + 1) W wb := (mW6.mono (fun _ _ h => h.elim)).trans mb
          have ob := mWb.heap oj (by omega)
          have ownb := ownsRow_kept ownj mWb (fun k hk h => by omega)
          have nb := (mj.trans (mWb.mono (fun _ _ h => .inr (.inl h)))).heap nW (by omega)
          have zb9 := mb.heap z6 (by omega)
          have bR := ByteAt.row zb9
          rw [hRl] at bR
          have bRm : ByteAt wb (.slice (some ⟨g9, 0, none⟩) mm 32) (RR.take mm) := bR.take (by omega)
          have hS0 : wb.drew.cell? ⟨Bo, 0, none⟩ = some (.slice adv L capv) ∧ wb.drew.cell? ⟨w.heap.size, 0, none⟩ = some (.int .i64 (N : Int)) :=
            ⟨by rw [World.cell?_drew]; exact cell_of_one ob, by rw [World.cell?_drew]; exact cell_of_one nb⟩
          have mbd : Mod (fun _ => False) wb wb.drew := (Mod.refl _ _).drew
          have hsb : s4 + 2 ≤ wb.heap.size := by have := mWb.size; have := mj.size; omega
          obtain ⟨v8, w8, hrun8, own8, grow8⟩ := run_append_bytes (ownsRow_kept ownb mbd (fun _ _ h => h)) (bRm.mod mbd (fun _ _ h => h)) (by rw [List.length_take]; omega) hsb 22
          have m8 : Mod (fun k => s4 + 2 ≤ k ∧ k < z) wb.drew w8 := (Mod.refl _ _).grown grow8 (fun k hk _ => ⟨((ownsRow_kept ownb mbd (fun _ _ h => h)).lt k hk).1, ownz k hk⟩)
          have hLm : L + (RR.take mm).length = L + mm := by rw [List.length_take, hRl]; omega
          rw [hLm] at own8
          obtain ⟨ad8, cap8, hv8, _⟩ := (byteAt_of_own own8).slice
          have hLm2 : (outT K info i ++ RR.take mm).length = L + mm := by rw [List.length_append, hotl, hLm]
          rw [hLm2] at hv8
          subst hv8
          have mb8 : Mod (fun k => s4 + 2 ≤ k ∧ k < z) wb w8 := (mbd.mono (fun _ _ h => h.elim)).trans m8
          have o8 := mb8.heap ob (by omega)
          have n8 := mb8.heap nb (by omega)
          have l8 := mb8.heap lb (by omega)
          have hS8 : w8.cell? ⟨Bo, 0, none⟩ = some (.slice adv L capv) ∧ w8.cell? ⟨w.heap.size, 0, none⟩ = some (.int .i64 (N : Int)) := ⟨cell_of_one o8, cell_of_one n8⟩
          have s9 := store_slice (ad := ad8) (n := L + mm) (cap := cap8) o8
          obtain ⟨wq, hwq⟩ : ∃ wq, wq = w8.setCell ⟨Bo, 0, none⟩ (.slice ad8 (L + mm) cap8) := ⟨_, rfl⟩
          rw [← hwq] at s9
          have mq : Mod (fun k => k = Bo) w8 wq := by rw [hwq]; exact Mod.one_setCell _ _ _ _
          have oq : wq.heap[Bo]? = some (.cells #[.slice ad8 (L + mm) cap8] 22 (0,0)) := by rw [hwq, one_setCell o8]
          have ownq := ownsRow_kept own8 mq (fun k hk h => by omega)
          have nq' := mq.heap n8 (by omega)
          have lq := mq.heap l8 (by omega)
          have coq := cell_of_one oq
          have cnq := cell_of_one nq'
          have mWq : Mod (fun k => (k = Bo ∨ k = s4 + 1) ∨ (s4 + 2 ≤ k ∧ k < z)) W wq := ((mWb.mono (fun _ _ h => .inl (.inr h))).trans' mb8 (fun k hk h => .inr h)).trans' mq (fun k hk h => .inl (.inl h))
          have ownz8 : ∀ g, (Value.slice ad8 (L + mm) cap8).ownBlock = some g → g < wq.heap.size := fun g hg => (ownq.lt g hg).2
          have hend9 : ∀ o, Mod (fun k => (k = Bo ∨ k = s4 + 1) ∨ (s4 + 2 ≤ k ∧ k < z)) W (wq.putObj (s4 + 1) o) ∧ Mod (fun k => k = Bo ∨ k = s4 + 1 ∨ s4 + 2 ≤ k) W0 (wq.putObj (s4 + 1) o) ∧ (wq.putObj (s4 + 1) o).heap[Bo]? = some (.cells #[.slice ad8 (L + mm) cap8] 22 (0,0)) ∧ (wq.putObj (s4 + 1) o).ownsRow (s4 + 2) 5 1 (.slice ad8 (L + mm) cap8) (L + mm) (bytesV (outT K info i ++ RR.take mm)) ∧ ∀ g, (Value.slice ad8 (L + mm) cap8).ownBlock = some g → g < (wq.putObj (s4 + 1) o).heap.size := by
            intro o
            have h1 := Mod.one_putObj wq (s4 + 1) o
            have h2 := mWq.trans (h1.mono fun _ _ h => .inl (.inr h))
            exact ⟨h2, mj.trans (h2.mono (fun k _ h => by omega)), h1.heap oq (by omega), ownsRow_kept ownq h1 (fun k hk h => by omega), fun g hg => by have := ownz8 g hg; have := h1.size; omega⟩
          replace hend9 := Lib.hid hend9
          replace hQ := Lib.hid hQ
          replace hJ := Lib.hid hJ
          replace hStop := Lib.hid hStop
          replace hst2 := Lib.hid hst2
          replace hot := Lib.hid hot
          replace hotl := Lib.hid hotl
          replace hRl := Lib.hid hRl
          replace hRR := Lib.hid hRR
          replace hL := Lib.hid hL
          replace hmm := Lib.hid hmm
          clear mj
          replace hz0 := Lib.hid hz0
          replace hzW := Lib.hid hzW
          replace hiN := Lib.hid hiN
          replace hwq := Lib.hid hwq
          replace hg9 := Lib.hid hg9
          replace hw5 := Lib.hid hw5
          clear hwb hwb' m5 z5 m6 mW6 mWb ob ownb nb zb9 bR bRm mbd m8 mb8 o8 n8 l8 mq oq ownq nq' mWq own8 grow8 hLm hLm2 oW nW xaW xbW hiW m0W dW lW oj ownj lr mb ownz ownz8
          refine wpIn_block ?_
          refine wpIn_seq ?_
          refine round_draw (by kernel_rfl) (by kernel_rfl) (fun h => by obtain ⟨_, _, h⟩ := h; exact h) ?_
          refine any_of_Z (S := fun w' => w'.cell? ⟨Bo, 0, none⟩ = some (.slice adv L capv) ∧ w'.cell? ⟨w.heap.size, 0, none⟩ = some (.int .i64 (N : Int))) (z := 8) _ _ _ _ ?_
          simp only [List.size_toArray, List.length_cons, List.length_nil, Nat.reduceAdd, Array.replicate_succ, Array.replicate_zero, List.push_toArray, List.nil_append, List.cons_append]
          refine anyZ_take 0 _ (some 34) (.slice adv L capv) rfl (by kernel_rfl) (by kernel_rfl) (by kernel_rfl) (by kernel_rfl) (by kernel_rfl) (by decide) rfl (fun w' hS => ?_) hS0 ?_
          · exact run_load_op rfl rfl (load_slice hS.1)
          simp only [Act.put, List.setIfInBounds_toArray, List.set_cons_zero, List.set_cons_succ]
          refine anyZ_take 1 _ (some 35) (.int .i64 (N : Int)) rfl (by kernel_rfl) (by kernel_rfl) (by kernel_rfl) (by kernel_rfl) (by kernel_rfl) (by decide) rfl (fun w' hS => ?_) hS0 ?_
          · have h2 := hS.2; go_simp
          simp only [Act.put, List.setIfInBounds_toArray, List.set_cons_zero, List.set_cons_succ]
          refine anyZ_take 2 _ (some 36) (.slice adv L capv) rfl (by kernel_rfl) (by kernel_rfl) (by kernel_rfl) (by kernel_rfl) (by kernel_rfl) (by decide) rfl (fun w' hS => ?_) hS0 ?_
          · exact run_load_op rfl rfl (load_slice hS.1)
          simp only [Act.put, List.setIfInBounds_toArray, List.set_cons_zero, List.set_cons_succ]
          refine anyZ_take 3 _ (some 37) (.int .i64 (L : Int)) rfl (by kernel_rfl) (by kernel_rfl) (by kernel_rfl) (by kernel_rfl) (by kernel_rfl) (by decide) rfl (fun w' hS => ?_) hS0 ?_
          · go_simp
          simp only [Act.put, List.setIfInBounds_toArray, List.set_cons_zero, List.set_cons_succ]
          refine anyZ_take 4 _ (some 38) (.int .i64 ((N : Int) - (L : Int))) rfl (by kernel_rfl) (by kernel_rfl) (by kernel_rfl) (by kernel_rfl) (by kernel_rfl) (by decide) rfl (fun w' hS => ?_) hS0 ?_
          · have hsub : IntKind.wrap .i64 ((N : Int) - (L : Int)) = (N : Int) - (L : Int) := by rw [IntKind.wrap_i64]; omega
            go_simp
          simp only [Act.put, List.setIfInBounds_toArray, List.set_cons_zero, List.set_cons_succ]
          refine anyZ_take 5 _ (some 39) (.int .i64 (mm : Int)) rfl (by kernel_rfl) (by kernel_rfl) (by kernel_rfl) (by kernel_rfl) (by kernel_rfl) (by decide) rfl (fun w' hS => ?_) hS0 ?_
          · go_simp
          simp only [Act.put, List.setIfInBounds_toArray, List.set_cons_zero, List.set_cons_succ]
          refine anyZ_take 6 _ (some 40) (.slice (some ⟨g9, 0, none⟩) mm 32) rfl (by kernel_rfl) (by kernel_rfl) (by kernel_rfl) (by kernel_rfl) (by kernel_rfl) (by decide) rfl (fun w' hS => ?_) hS0 ?_
          · go_simp
          simp only [Act.put, List.setIfInBounds_toArray, List.set_cons_zero, List.set_cons_succ]
          refine anyZ_next 7 _ (some 41) rfl (by kernel_rfl) (by kernel_rfl) rfl (.slice ad8 (L + mm) cap8) w8 (run_append_op rfl rfl rfl hrun8) (fun _ => hS8) ?_
          simp only [Act.put, List.setIfInBounds_toArray, List.set_cons_zero, List.set_cons_succ]
          refine anyZ_skip 8 _ rfl (by kernel_rfl) (by kernel_rfl) rfl wq ?_ (fun h => absurd rfl h) ?_
          · exact run_store_op rfl rfl rfl s9
          simp only [Act.put, List.setIfInBounds_toArray, List.set_cons_zero, List.set_cons_succ]
          refine anyZ_done (by kernel_rfl) ?_ _
          by_cases hlast : L + mm = N
          · have hbe : (((L : Int) + (mm : Int)) == (N : Int)) = true := by rw [beq_iff_eq]; omega
            have hM1 : M = i + 1 := by have := hM.out; have := hL.out; have := hiN.out; omega
            have hee : outT K info i ++ RR.take mm = expandB K info N := by
              have h1 := hotl.out
              unfold expandB
              have e1 : (outT K info i).take N = outT K info i := List.take_of_length_le (by omega)
              rw [← hM.out, hM1, hot.out, List.take_append, e1, h1, show N - L = mm by omega]
            replace hee := Lib.hid hee
            replace hM1 := Lib.hid hM1
            gi_wp2_with (refine round_list (fun h => by obtain ⟨_, _, h⟩ := h; exact h) _ _ _ (by simp) ?_)
            go_wp2
            gi_wp2
            refine ⟨_, _, run_endRound _ lq, hQ.out _ _ (.inr ⟨rfl, ?_⟩)⟩
            rw [hStop.out]
            dsimp only
            obtain ⟨h1, h2, h3, h4, h5⟩ := hend9.out (.loop { rec with state := .done, pending := some (.exit 1) })
            rw [hee.out, hlast] at h4
            rw [hlast] at h3
            exact ⟨h2, ⟨_, h3, h4⟩, heap_putObj lq⟩
          · have hbe : (((L : Int) + (mm : Int)) == (N : Int)) = false := by rw [beq_eq_false_iff_ne]; omega
            have hm32 : mm = 32 := by have := hmm.out; have := hiN.out; omega
            have hiN2 : 32 * (i + 1) < N := by have := hmm.out; have := hL.out; have := hiN.out; omega
            have hM1 : i + 1 < M := by have := hM.out; omega
            have hee : outT K info i ++ RR.take mm = outT K info (i + 1) := by rw [hot.out, List.take_of_length_le (by have := hRl.out; omega)]
            have hLe : L + mm = 32 * (i + 1) := by have := hL.out; omega
            replace hee := Lib.hid hee
            replace hM1 := Lib.hid hM1
            replace hLe := Lib.hid hLe
            replace hm32 := Lib.hid hm32
            replace hiN2 := Lib.hid hiN2
            gi_wp2_with (refine round_list (fun h => by obtain ⟨_, _, h⟩ := h; exact h) _ _ _ (by simp) ?_)
            go_wp2
            gi_wp2
            refine ⟨_, _, run_endRound _ lq, hQ.out _ _ (.inl ⟨rfl, hM1.out, ?_, ?_, ?_⟩)⟩
            all_goals (obtain ⟨h1, h2, h3, h4, h5⟩ := hend9.out (.loop { rec with state := .ready, pending := none }))
            · rw [hJ.out]
              rw [hee.out, hLe.out] at h4
              rw [hLe.out] at h3 h5
              exact ⟨h2, hiN2.out, _, h3, h4, h5⟩
            · rw [← hst2.out]
              exact heap_putObj lq
            · rw [sW]
              exact h1
        · rw [hJ]
          exact ⟨Mod.refl _ _, by have := h0.out; omega, _, oW, ⟨rfl, .inl ⟨rfl, rfl⟩⟩, fun g hg => by cases hg⟩
        · rintro e W ⟨rfl, hst⟩
          rw [hStop] at hst
          obtain ⟨mj, ⟨v, oj, ownj⟩, lst⟩ := hst
          refine ⟨_, _, run_endLoop lst (by simp), ?_⟩
          dsimp only
          refine wpIn_wide.2 ?_
          have hw4 : ∀ w4, w4 = W.putObj (s4 + 1) (.loop { rec with state := .exhausted, pending := some (.exit 1) }) → Mod (fun k => k = Bo ∨ k = s4 + 1 ∨ s4 + 2 ≤ k) W0 w4 ∧ w4.heap[Bo]? = some (.cells #[v] 22 (0,0)) ∧ w4.ownsRow (s4 + 2) 5 1 v N (bytesV (expandB K info N)) := by
            rintro w4 rfl
            have h1 := Mod.one_putObj W (s4 + 1) (.loop { rec with state := .exhausted, pending := some (.exit 1) })
            exact ⟨mj.trans (h1.mono fun k _ h => .inr (.inl h)), h1.heap oj (by omega), ownsRow_kept ownj h1 (fun k hk h => by omega)⟩
          refine wp_world fun w4 hw4' => ?_
          obtain ⟨m4, o4', own4⟩ := hw4 w4 hw4'
          clear hw4 hw4'
          have d4 := m4.heap dW (by omega)
          obtain ⟨ad4, c4, hv4, _⟩ := (byteAt_of_own own4).slice
          rw [expandB_length] at hv4
          subst hv4
          have l4 := cell_of_one o4'
          have hfin : ExpEnd k info (N : Int) w (.returned (.tuple #[.slice ad4 N c4, .int .i64 0])) (w4.putObj s4 (.deferred none)) := by
            have h1 := Mod.one_putObj w4 s4 (.deferred none)
            have h2 : Mod (fun k => ¬ k < w.heap.size) W0 (w4.putObj s4 (.deferred none)) := (m4.mono (by intro k _ h; omega)).trans (h1.mono (by intro k _ h; omega))
            refine hend.out _ _ (m0W.trans' h2 (fun i hi h => h hi)) ?_
            exact ownsRow_base (ownsRow_kept own4 h1 (fun k hk h => by omega)) (by omega)
          replace hfin := Lib.hid hfin
          replace d4 := Lib.hid d4
          replace hJ := Lib.hid hJ
          replace hStop := Lib.hid hStop
          clear m4 o4' own4 mj oj ownj lst oW nW xaW xbW hiW m0W dW lW
          go_wp2
          refine bodyPostM_mark rfl d4.out (results_tmp2 rfl _ _ _) ?_
          exact hfin.out
end Go.Proofs.YtppjnkgmbmhlcaaGreatDoor
