/-
  sha.Sum: SHA-256 of bytes. Printed by gen/sha8.py.
-/
import Derived.Test.YtppjnkgmbmhlcaaGreatDoorS7
namespace Go.Proofs.YtppjnkgmbmhlcaaGreatDoor
set_option maxRecDepth 100000
open Go Go.RowKit Go.Lib
set_option linter.unusedSimpArgs false
set_option linter.unusedVariables false

def zb (n : Nat) : List (BitVec 8) := List.replicate n 0
theorem zero32 (w : World) : (zeroValue 62).run Tryz.prog w = .ok (.agg (encB (zb 32))) w := by kernel_rfl
theorem info32b : (Tryz.prog.info? 62).map (·.size) = some 32 := by kernel_rfl
theorem bytes_load {w : World} {g : Nat} {s : List (BitVec 8)} (x : w.heap[g]? = some (.cells (encB s) 62 (0,0))) (hl : s.length = 32) : (loadVar 62 ⟨g, 0, none⟩).run Tryz.prog w = .ok (.agg (encB s)) w :=
  load_mid w g 0 62 _ [] (bytesV s) [] (0,0) _ (by rw [x]; simp [encB, bytesV]) rfl Tryz.underlying62 rfl (by rw [bytesV_length, hl]; exact info32b)
theorem bytes_store {w : World} {g : Nat} {s s' : List (BitVec 8)} (x : w.heap[g]? = some (.cells (encB s) 62 (0,0))) (hl : s.length = 32) (hl' : s'.length = 32) :
    ∃ w', (storeVar 62 ⟨g, 0, none⟩ (.agg (encB s'))).run Tryz.prog w = .ok () w' ∧ Mod (fun k => k = g) w w' ∧ w'.heap[g]? = some (.cells (encB s') 62 (0,0)) := by
  obtain ⟨w', h1, h2, h3⟩ := store_mid (P := Tryz.prog) w g 0 62 62 [] (bytesV s) [] (bytesV s') (by rw [x]; simp [encB, bytesV]) rfl (by rw [bytesV_length, bytesV_length, hl, hl']) (by rw [bytesV_length, hl']; exact info32b) (bytesV_one _)
  exact ⟨w', h1, h2, by rw [h3]; simp [encB, bytesV]⟩
theorem sum_results {fn : Func} (h : fn.results = #[.cell 2 62, .tmp 3]) (tmps : Array Value) (w : World) (g : Nat) (s : List (BitVec 8)) (r : Value) (h1 : tmps.getD 2 undef = .pointer (some ⟨g, 0, none⟩)) (h2 : tmps.getD 3 undef = r)
    (x : w.heap[g]? = some (.cells (encB s) 62 (0,0))) (hl : s.length = 32) : (results fn tmps).run Tryz.prog w = .ok (.tuple #[.agg (encB s), r]) w := by
  have h1' : tmps[2]?.getD undef = .pointer (some ⟨g, 0, none⟩) := by simpa using h1
  have h2' : tmps[3]?.getD undef = r := by simpa using h2
  simp [results, h, Sem.run_bind, h1', h2', bytes_load x hl, asAddr]
/-- What sha.Sum answers. -/
def sumV (b : List (BitVec 8)) : Value := if 1048576 < b.length then .tuple #[.agg (encB (zb 32)), .int .i64 3] else .tuple #[.agg (encB (shaS b)), .int .i64 0]
theorem out_byte (x : BitVec 32) (k : Nat) (v : Int) (hv : v = (x.toNat : Int) / 2 ^ k % 256) : v = ((((x >>> k).setWidth 8 : BitVec 8)).toNat : Int) := by
  rw [hv, BitVec.toNat_setWidth, BitVec.toNat_ushiftRight, Nat.shiftRight_eq_div_pow, Int.natCast_emod, Int.natCast_ediv]
  simp

theorem ByteAt.put {w : World} {l : Nat} {r : Loop} {v : Value} {bs : List (BitVec 8)} (h : ByteAt w v bs) (hl : w.heap[l]? = some (.loop r)) (o : Obj) : ByteAt (w.putObj l o) v bs := by
  rcases h with h | ⟨g, off, cap, rfl, h2, h3⟩
  · exact .inl h
  · refine .inr ⟨g, off, cap, rfl, h2, fun j hj => ?_⟩
    refine cell_mod (Mod.one_putObj w l o) (h3 j hj) ?_
    rintro rfl
    have := h3 j hj
    rw [World.cell?, hl] at this
    simp at this
theorem row_setv {w : World} {g : Nat} {t : TypeId} {z : List (BitVec 8)} (x : w.heap[g]? = some (.cells (encB z) t (0,0))) (i : Nat) (y : BitVec 8) (v : Int) (hv : v = (y.toNat : Int)) : (w.setCell ⟨g, i, none⟩ (.int .u8 v)).heap[g]? = some (.cells (encB (z.set i y)) t (0,0)) := by
  rw [hv]
  exact row_set x i y
theorem part_set' (f : Nat → BitVec 8) (n i : Nat) : (part f n i).set i (f i) = part f n (i + 1) := by
  apply List.ext_getElem
  · simp [part]
  · intro j h1 h2
    simp only [part, List.getElem_set, List.getElem_map, List.getElem_range]
    by_cases e : i = j
    · subst e
      simp
    · rw [if_neg e]
      by_cases e2 : j < i
      · rw [if_pos e2, if_pos (by omega)]
      · rw [if_neg e2, if_neg (by omega)]
theorem part_zb (f : Nat → BitVec 8) : part f 32 0 = zb 32 := by
  unfold part zb
  apply List.ext_getElem
  · simp
  · intro i h1 h2
    simp only [List.getElem_map, List.getElem_range, List.getElem_replicate]
    rw [if_neg (by omega)]

set_option maxRecDepth 100000 in
set_option maxHeartbeats 4000000 in
theorem sum_any (v : Value) (b : List (BitVec 8)) (w : World) (hb : ByteAt w v b) (hbl : b.length < 4611686018427387904) : Calls Tryz.prog 70 #[v] w fun e w' => Mod (fun _ => False) w w' ∧ e = .returned (sumV b) := by
  obtain ⟨ad, cap, rfl, hbc⟩ := hb.slice
  obtain ⟨n, hn⟩ : ∃ n, n = b.length := ⟨_, rfl⟩
  obtain ⟨w1, hw1⟩ : ∃ w1, w1 = w.alloc (.cells (encB (zb 32)) 62) := ⟨_, rfl⟩
  have m1 : Mod (fun _ => False) w w1 := by rw [hw1]; exact (Mod.refl _ _).alloc _
  have x1 : w1.heap[w.heap.size]? = some (.cells (encB (zb 32)) 62 (0,0)) := by rw [hw1]; exact hp_new _ _ _ rfl
  have hb1 := hb.mod m1 (fun _ _ h => h)
  have hoffw : ∀ g off n' c, (Value.slice ad b.length cap) = .slice (some ⟨g, off, none⟩) n' c → 0 < b.length → g < w.heap.size := by
    intro g off n' c h h0
    obtain ⟨g', off', h1, h2, _⟩ := hbc 0 h0
    injection h with h
    rw [h1] at h
    injection h with h
    injection h with h
    rw [← h]
    exact h2
  rw [← hn] at hb hb1 hbl hoffw ⊢
  clear hbc
  have bn0 : (0 : Int) ≤ (n : Int) := by omega
  replace hb1 := Lib.hid hb1
  replace hb := Lib.hid hb
  replace hn := Lib.hid hn
  replace hw1 := Lib.hid hw1
  replace x1 := Lib.hid x1
  replace m1 := Lib.hid m1
  replace hoffw := Lib.hid hoffw
  refine calls_of_marks Tryz.func70 rfl ?_
  simp only [Tryz.ntmps70, List.size_toArray, List.length_cons, List.length_nil, Nat.reduceAdd, Nat.reduceSub, Array.replicate_succ,
     Array.replicate_zero, List.push_toArray, List.append_toArray, List.nil_append, List.cons_append]
  go_upto_region 0 with (fail)
  refine wp_region_lit ?_
  refine wpList_yields (by kernel_rfl) _ _ (alloc_arr 62 _ zero32 _ _ _ rfl) ?_
  simp only [Act.put, List.setIfInBounds_toArray, List.set_cons_zero, List.set_cons_succ]
  rw [← hw1.out]
  refine wpList_reads (by kernel_rfl) (.int .i64 0) (by go_simp) ?_
  simp only [Act.put, List.setIfInBounds_toArray, List.set_cons_zero, List.set_cons_succ]
  by_cases hbig : 1048576 < n
  · have hd : decide ((1048576 : Int) < (n : Int)) = true := by rw [decide_eq_true_iff]; omega
    have hsv : sumV b = .tuple #[.agg (encB (zb 32)), .int .i64 3] := by unfold sumV; rw [if_pos (by rw [← hn.out]; exact hbig)]
    have ll := bytes_load x1.out (by decide)
    obtain ⟨wz, sz, mz, xz⟩ := bytes_store x1.out (s' := zb 32) (by decide) (by decide)
    have mfz : Mod (fun _ => False) w wz := m1.out.trans' mz (fun i hi h => by omega)
    replace mfz := Lib.hid mfz
    replace hsv := Lib.hid hsv
    clear mz
    go_upto_region 2 with (fail)
    refine wp_region_lit ?_
    refine wpList_reads (by kernel_rfl) (.agg (encB (zb 32))) (run_load_op rfl rfl ll) ?_
    simp only [Act.put, List.setIfInBounds_toArray, List.set_cons_zero, List.set_cons_succ]
    refine wpList_store_to rfl _ _ _ rfl _ _ _ rfl rfl _ sz ?_
    simp only [Act.put, List.setIfInBounds_toArray, List.set_cons_zero, List.set_cons_succ]
    refine wpList_reads (by kernel_rfl) (.int .i64 3) (by go_simp) ?_
    simp only [Act.put, List.setIfInBounds_toArray, List.set_cons_zero, List.set_cons_succ]
    go_wp2
    refine bodyPostM_ret (v := .tuple #[.agg (encB (zb 32)), .int .i64 3]) (sum_results rfl _ _ _ _ _ rfl rfl xz (by decide)) rfl ?_
    exact ⟨mfz.out, by rw [hsv.out]⟩
  · have hd : decide ((1048576 : Int) < (n : Int)) = false := by rw [decide_eq_false_iff_not]; omega
    have hsv : sumV b = .tuple #[.agg (encB (shaS b)), .int .i64 0] := by unfold sumV; rw [if_neg (by rw [← hn.out]; exact hbig)]
    replace hsv := Lib.hid hsv
    replace hbig := Lib.hid hbig
    go_upto_region 3 with (fail)
    refine wp_region_lit ?_
    refine wpList_enter (by kernel_rfl) 106 #[] (by go_simp) (begin_any w1) ?_
    rintro e w2 ⟨m2, rfl⟩
    refine ⟨_, rfl, ?_⟩
    simp only [Act.put, List.setIfInBounds_toArray, List.set_cons_zero, List.set_cons_succ]
    refine wpList_enter (by kernel_rfl) 107 #[] (by go_simp) (words_any w2) ?_
    rintro e w3 ⟨m3, rfl⟩
    have hHl : beginL.length = 8 := by simp [beginL]
    have hKl : wordsL.length = 64 := by simp [wordsL]
    obtain ⟨HH, hHH⟩ : ∃ HH, HH = beginL := ⟨_, rfl⟩
    obtain ⟨KK, hKK⟩ : ∃ KK, KK = wordsL := ⟨_, rfl⟩
    rw [← hHH] at hHl ⊢
    rw [← hKK] at hKl ⊢
    have m13 := m2.trans m3
    obtain ⟨A, hA⟩ : ∃ A, A = w3.heap.size := ⟨_, rfl⟩
    obtain ⟨w4, hw4⟩ : ∃ w4, w4 = (w3.alloc (.cells (encW (zw 8)).toArray 166)).alloc (.cells (encW (zw 64)).toArray 168) := ⟨_, rfl⟩
    have m4 : Mod (fun _ => False) w3 w4 := by rw [hw4]; exact ((Mod.refl _ _).alloc _).alloc _
    have xs4 : WordsAt w4 A 166 (zw 8) := by rw [hw4]; unfold WordsAt; rw [hp_old _ _ _ (by rw [hA]; simp)]; exact hp_new _ _ _ hA
    have xk4 : WordsAt w4 (A + 1) 168 (zw 64) := by rw [hw4]; exact hp_new _ _ _ (by rw [hA]; simp)
    have hsz3 : (w3.alloc (.cells (encW (zw 8)).toArray 166)).heap.size = A + 1 := by rw [hA]; simp
    obtain ⟨w5, s5, m5, xs5⟩ := words_store xs4 (s' := HH) (by rw [hHl]; simp [zw]) (by rw [hHl]; exact info8)
    obtain ⟨w6, s6, m6, xk6⟩ := words_store (xk4.mod m5 (by omega)) (s' := KK) (by rw [hKl]; simp [zw]) (by rw [hKl]; exact info64)
    have xs6 := xs5.mod m6 (by omega)
    have m36 : Mod (fun _ => False) w3 w6 := (m4.trans' m5 (fun i hi h => by omega)).trans' m6 (fun i hi h => by omega)
    have m16 := m13.trans m36
    have x6 := m16.heap x1.out (fun h => h)
    have b6 := hb1.out.mod m16 (fun _ _ h => h)
    have hwA : w.heap.size < A := by rw [hA]; have := m13.size; have := lt_of_heap x1.out; omega
    have hA6 : A + 1 < w6.heap.size := lt_of_heap xk6
    have m06 := m1.out.trans m16
    replace hA := Lib.hid hA
    replace hHH := Lib.hid hHH
    replace hKK := Lib.hid hKK
    replace hHl := Lib.hid hHl
    replace hKl := Lib.hid hKl
    replace hw4 := Lib.hid hw4
    replace xs6 := Lib.hid xs6
    replace xk6 := Lib.hid xk6
    replace x6 := Lib.hid x6
    replace b6 := Lib.hid b6
    replace m06 := Lib.hid m06
    clear m2 m3 m13 m4 xs4 xk4 m5 m6 xs5 m36 m16
    refine ⟨_, rfl, ?_⟩
    simp only [Act.put, List.setIfInBounds_toArray, List.set_cons_zero, List.set_cons_succ]
    refine wpList_yields (by kernel_rfl) _ _ (alloc_arr 166 _ zero8 _ _ _ rfl) ?_
    simp only [Act.put, List.setIfInBounds_toArray, List.set_cons_zero, List.set_cons_succ]
    rw [← hA.out]
    refine wpList_yields (by kernel_rfl) _ _ (alloc_arr 168 _ zero64 _ _ _ rfl) ?_
    simp only [Act.put, List.setIfInBounds_toArray, List.set_cons_zero, List.set_cons_succ]
    rw [hsz3, ← hw4.out]
    refine wpList_store_to rfl _ _ _ rfl _ _ _ rfl rfl _ s5 ?_
    simp only [Act.put, List.setIfInBounds_toArray, List.set_cons_zero, List.set_cons_succ]
    refine wpList_store_to rfl _ _ _ rfl _ _ _ rfl rfl _ s6 ?_
    simp only [Act.put, List.setIfInBounds_toArray, List.set_cons_zero, List.set_cons_succ]
    go_wp2_with fail
    refine (blocks_make _ w6 ⟨_, _, _, rfl⟩).mono ?_
    rintro e w7 ⟨m7, rfl, xb7⟩
    have xs7 := xs6.out.mod m7 (fun h => h)
    have xk7 := xk6.out.mod m7 (fun h => h)
    have x7 := m7.heap x6.out (fun h => h)
    have b7 := b6.out.mod m7 (fun _ _ h => h)
    have m07 := m06.out.trans m7
    have hX7 : w6.heap.size < w7.heap.size := lt_of_heap xb7
    obtain ⟨X, hX⟩ : ∃ X, X = w6.heap.size := ⟨_, rfl⟩
    rw [← hX] at xb7 hX7 hA6 ⊢
    replace hX := Lib.hid hX
    replace xs7 := Lib.hid xs7
    replace xk7 := Lib.hid xk7
    replace x7 := Lib.hid x7
    replace b7 := Lib.hid b7
    replace m07 := Lib.hid m07
    replace xb7 := Lib.hid xb7
    clear m7
    go_wp2
    refine wp_rangeFunc_wide 125 _ rfl (fun _ _ => rfl) fun fn => ?_
    simp only [List.push_toArray, List.append_toArray, List.nil_append, List.cons_append]
    refine calls_rec fun rec W0 hrec hW0 => ?_
    replace hrec := Lib.hid hrec
    have mW : Mod (fun _ => False) w7 W0 := by rw [hW0]; exact ((Mod.refl _ w7).alloc _).alloc _
    have dW : W0.heap[w7.heap.size]? = some (.deferred (some [])) := by
      rw [hW0]
      rw [hp_old _ _ _ (by simp only [World.size_alloc]; omega), hp_new _ _ _ (by simp)]
    have lW : W0.heap[w7.heap.size + 1]? = some (.loop rec) := by
      rw [hW0]
      rw [hp_new _ _ _ (by simp)]
    have sW : W0.heap.size = w7.heap.size + 2 := by rw [hW0]; simp
    clear hW0
    have xsW := xs7.out.mod mW (fun h => h)
    have xkW := xk7.out.mod mW (fun h => h)
    have xW := mW.heap x7.out (fun h => h)
    have bW := b7.out.mod mW (fun _ _ h => h)
    have xbW := mW.heap xb7.out (fun h => h)
    have m0W := m07.out.trans mW
    generalize hs7 : w7.heap.size = s7 at *
    replace hs7 := Lib.hid hs7
    clear mW
    obtain ⟨J, hJ⟩ : ∃ J : Nat → World → Prop, J = fun i W => WordsAt W A 166 (stateS KK HH b i) ∧ WordsAt W (A + 1) 168 KK := ⟨_, rfl⟩
    refine (blocks_iter (s7 + 1) X 16 b (by rw [← hn.out]; have := hbig.out; omega) rec (fun k => k = A ∨ k = s7 + 1) J W0 (.slice ad n cap) (by rw [hrec.out]) (by omega) (by omega) (fun k hk => by omega) (.inr rfl) ?_ ?_ ?_ lW xbW bW ?_).mono ?_
    · rw [hJ]
      rintro i W W' ⟨h1, h2⟩ hm
      exact ⟨h1.mod hm (by omega), h2.mod hm (by omega)⟩
    · intro i W v hi hj lr bv
      rw [hJ] at hj
      obtain ⟨js, jk⟩ := hj
      refine round_named fun Q hQ => ?_
      refine roundIn_of_wpIn trivial ?_
      rw [hrec.out]
      dsimp only
      simp only [List.setIfInBounds_toArray, List.set_cons_zero, List.set_cons_succ]
      gi_wp2
      refine ⟨_, run_beginRound lr (by rw [hrec.out]), ?_⟩
      have hst2 : (Loop.mk .ready none rec.fn rec.tmps rec.params rec.assign rec.body rec.defers) = rec := by rw [hrec.out]
      have hwb : ∀ wb, wb = W.putObj (s7 + 1) (.loop { rec with state := .busy }) → Mod (fun k => k = s7 + 1) W wb ∧ wb.heap[s7 + 1]? = some (.loop { rec with state := .busy }) ∧ ByteAt wb v (blk b i) := by
        rintro wb rfl
        exact ⟨Mod.one_putObj W (s7 + 1) (.loop { rec with state := .busy }), heap_putObj lr, bv.put lr _⟩
      refine wpIn_world fun wb hwb' => ?_
      obtain ⟨mb, lb, bvb⟩ := hwb wb hwb'
      have xsb := js.mod mb (by omega)
      have xkb := jk.mod mb (by omega)
      have hsl : (stateS KK HH b i).length = 8 := by rw [stateS_length, hHl.out]
      have ll := words_load xsb Tryz.underlying166 rfl (by rw [hsl]; exact info8)
      have hbk := blk_length hi
      clear hwb hwb' js jk lr bv xsW xkW xW bW xbW m0W dW lW
      replace hQ := Lib.hid hQ
      replace hJ := Lib.hid hJ
      replace hst2 := Lib.hid hst2
      replace mb := Lib.hid mb
      replace lb := Lib.hid lb
      replace bvb := Lib.hid bvb
      replace xsb := Lib.hid xsb
      replace xkb := Lib.hid xkb
      refine wpIn_block ?_
      refine round_region (by kernel_rfl) (fun h => by obtain ⟨_, _, h⟩ := h; exact h) ?_
      refine wpList_reads (by kernel_rfl) (.agg (encW (stateS KK HH b i)).toArray) (run_load_op rfl rfl ll) ?_
      simp only [Act.put, List.setIfInBounds_toArray, List.set_cons_zero, List.set_cons_succ]
      refine wpList_reads (by kernel_rfl) (v) (by go_simp) ?_
      simp only [Act.put, List.setIfInBounds_toArray, List.set_cons_zero, List.set_cons_succ]
      refine wpList_enter (by kernel_rfl) 109 #[.agg (encW (stateS KK HH b i)).toArray, v, .pointer (some ⟨A + 1, 0, none⟩)] (by go_simp) (further_any KK (stateS KK HH b i) (blk b i) hKl.out hsl hbk v (A + 1) wb bvb.out xkb.out) ?_
      rintro e w9 ⟨m9, rfl⟩
      have xs9 := xsb.out.mod m9 (fun h => h)
      obtain ⟨wq, sq, mq, xq⟩ := words_store xs9 (s' := furtherS KK (stateS KK HH b i) (blk b i)) (by rw [furtherS_length]) (by rw [furtherS_length, hsl]; exact info8)
      have mbq : Mod (fun k => k = A) wb wq := (m9.mono (fun _ _ h => h.elim)).trans mq
      have lq := mbq.heap lb.out (by omega)
      have xkq := xkb.out.mod mbq (by omega)
      have mWq : Mod (fun k => k = A ∨ k = s7 + 1) W wq := (mb.out.mono (fun _ _ h => .inr h)).trans (mbq.mono (fun _ _ h => .inl h))
      have hend : ∀ o, Mod (fun k => k = A ∨ k = s7 + 1) W (wq.putObj (s7 + 1) o) ∧ WordsAt (wq.putObj (s7 + 1) o) A 166 (stateS KK HH b (i + 1)) ∧ WordsAt (wq.putObj (s7 + 1) o) (A + 1) 168 KK := by
        intro o
        have h1 := Mod.one_putObj wq (s7 + 1) o
        exact ⟨mWq.trans (h1.mono fun _ _ h => .inr h), xq.mod h1 (by omega), xkq.mod h1 (by omega)⟩
      replace hend := Lib.hid hend
      clear xs9 m9 mq mbq mWq xkq xq
      refine ⟨_, rfl, ?_⟩
      simp only [Act.put, List.setIfInBounds_toArray, List.set_cons_zero, List.set_cons_succ]
      refine wpList_store_to rfl _ _ _ rfl _ _ _ rfl rfl _ sq ?_
      simp only [Act.put, List.setIfInBounds_toArray, List.set_cons_zero, List.set_cons_succ]
      go_wp2
      gi_wp2
      refine ⟨_, _, run_endRound _ lq, hQ.out _ _ ⟨rfl, ?_, ?_, ?_⟩⟩
      · rw [hJ.out]
        exact ⟨(hend.out _).2.1, (hend.out _).2.2⟩
      · rw [← hst2.out]
        exact heap_putObj lq
      · exact (hend.out _).1
    · rw [hJ]
      exact ⟨xsW, xkW⟩
    · intro g off n' c h h0 hs
      have hn' : n' = n := by injection h with _ h _; exact h.symm
      have hg := hoffw.out g off n' c h (by rw [← hn']; exact h0)
      omega
    · rintro e W ⟨rfl, hj, lst, mfin⟩
      rw [hJ] at hj
      obtain ⟨js, _⟩ := hj
      refine ⟨_, _, run_endLoop lst (by rw [hrec.out]; simp), ?_⟩
      rw [show rec.pending = none by rw [hrec.out]]
      dsimp only
      obtain ⟨w4, hw4⟩ : ∃ w4, w4 = W.putObj (s7 + 1) (.loop { rec with state := .exhausted, pending := none }) := ⟨_, rfl⟩
      have m4 : Mod (fun k => k = s7 + 1) W w4 := by rw [hw4]; exact Mod.one_putObj W (s7 + 1) (.loop { rec with state := .exhausted, pending := none })
      rw [← hw4]
      have mf4 : Mod (fun k => (k = A ∨ k = s7 + 1) ∨ k = X) W0 w4 := mfin.trans (m4.mono fun _ _ h => .inl (.inr h))
      have xs4 := js.mod m4 (by omega)
      have x4 := mf4.heap xW (by omega)
      have d4 := mf4.heap dW (by omega)
      have m04 : Mod (fun _ => False) w w4 := m0W.trans' mf4 (fun i hi h => by have := m07.out.size; have := hoffw; omega)
      obtain ⟨ss, hss⟩ : ∃ ss, ss = stateS KK HH b (nbS b) := ⟨_, rfl⟩
      have hssl : ss.length = 8 := by rw [hss, stateS_length, hHl.out]
      rw [← hss] at xs4
      obtain ⟨f, hf⟩ : ∃ f : Nat → BitVec 8, f = fun i => ((ss.getD (i / 4) 0) >>> (24 - i % 4 * 8)).setWidth 8 := ⟨_, rfl⟩
      have hsha : shaS b = part f 32 32 := by rw [part_all, hf, hss, hKK.out, hHH.out]; rfl
      have hws7 : w.heap.size < s7 := by omega
      replace hw4 := Lib.hid hw4
      replace xs4 := Lib.hid xs4
      replace x4 := Lib.hid x4
      replace d4 := Lib.hid d4
      replace m04 := Lib.hid m04
      replace hss := Lib.hid hss
      replace hssl := Lib.hid hssl
      replace hsha := Lib.hid hsha
      replace hf := Lib.hid hf
      clear m4 mf4 js lst mfin hJ xsW xkW xW bW xbW m0W dW lW hrec sW
      go_wp2
      go_loopw [20] (fun iv wr => ∃ i : Nat, i ≤ 32 ∧ iv = .int .i64 (i : Int) ∧ Mod (fun k => k = w.heap.size) w4 wr ∧ wr.heap[w.heap.size]? = some (.cells (encB (part f 32 i)) 62 (0,0))) (fun iv _ => 32 - (intOf iv).toNat)
      case atStart => exact ⟨0, by omega, rfl, Mod.refl _ _, by rw [part_zb]; exact x4.out⟩
      case round =>
        obtain ⟨i, hi, rfl, mr, xr⟩ := hrel
        by_cases hlt : i < 32
        · have hpl : (part f 32 i).length = 32 := by simp [part]
          have cI : wr.cell? ⟨w.heap.size, i, none⟩ = some _ := encB_cell xr (i := i) (by rw [hpl]; exact hlt)
          have fI := frozen_of_row wr w.heap.size i _ _ xr
          have xsr := xs4.out.mod mr (by omega)
          have cS := xsr.cell (i := i / 4) (by rw [hssl.out]; omega)
          have hfi : f i = ((ss.getD (i / 4) 0) >>> (24 - i % 4 * 8)).setWidth 8 := by rw [hf.out]
          obtain ⟨x, hx⟩ : ∃ x, x = ss.getD (i / 4) 0 := ⟨_, rfl⟩
          rw [← hx] at cS hfi
          have hxl := x.isLt
          have bx : (x.toNat : Int) < 4294967296 := by omega
          have bx0 : (0 : Int) ≤ (x.toNat : Int) := by omega
          obtain ⟨y, hy⟩ : ∃ y, y = f i := ⟨_, rfl⟩
          rw [← hy] at hfi
          have hset := fun v hv => row_setv xr i y v hv
          have hps : (part f 32 i).set i y = part f 32 (i + 1) := by rw [hy, part_set']
          rw [hps] at hset
          replace hset := Lib.hid hset
          replace hy := Lib.hid hy
          replace hx := Lib.hid hx
          replace mr := Lib.hid mr
          replace xr := Lib.hid xr
          replace xsr := Lib.hid xsr
          replace hps := Lib.hid hps
          clear hi hpl
          obtain rfl | rfl | rfl | rfl | rfl | rfl | rfl | rfl | rfl | rfl | rfl | rfl | rfl | rfl | rfl | rfl | rfl | rfl | rfl | rfl | rfl | rfl | rfl | rfl | rfl | rfl | rfl | rfl | rfl | rfl | rfl | rfl : i = 0 ∨ i = 1 ∨ i = 2 ∨ i = 3 ∨ i = 4 ∨ i = 5 ∨ i = 6 ∨ i = 7 ∨ i = 8 ∨ i = 9 ∨ i = 10 ∨ i = 11 ∨ i = 12 ∨ i = 13 ∨ i = 14 ∨ i = 15 ∨ i = 16 ∨ i = 17 ∨ i = 18 ∨ i = 19 ∨ i = 20 ∨ i = 21 ∨ i = 22 ∨ i = 23 ∨ i = 24 ∨ i = 25 ∨ i = 26 ∨ i = 27 ∨ i = 28 ∨ i = 29 ∨ i = 30 ∨ i = 31 := by omega
          · have hv : (x.toNat : Int) / 16777216 = (y.toNat : Int) := by
              rw [hfi, BitVec.toNat_setWidth, BitVec.toNat_ushiftRight, Nat.shiftRight_eq_div_pow]
              show _ = ((x.toNat / 16777216 % 256 : Nat) : Int)
              omega
            replace hv := Lib.hid hv
            replace hfi := Lib.hid hfi
            go_wp2
            go_roundw
            case measure => simp [intOf]
            case rel =>
              rw [hv.out]
              exact ⟨1, by omega, rfl, mr.out.trans (Mod.one_setCell _ _ _ _), hset.out _ rfl⟩
          · have hv : (x.toNat : Int) / 65536 % 256 = (y.toNat : Int) := by
              rw [hfi, BitVec.toNat_setWidth, BitVec.toNat_ushiftRight, Nat.shiftRight_eq_div_pow]
              show _ = ((x.toNat / 65536 % 256 : Nat) : Int)
              omega
            replace hv := Lib.hid hv
            replace hfi := Lib.hid hfi
            go_wp2
            go_roundw
            case measure => simp [intOf]
            case rel =>
              rw [hv.out]
              exact ⟨2, by omega, rfl, mr.out.trans (Mod.one_setCell _ _ _ _), hset.out _ rfl⟩
          · have hv : (x.toNat : Int) / 256 % 256 = (y.toNat : Int) := by
              rw [hfi, BitVec.toNat_setWidth, BitVec.toNat_ushiftRight, Nat.shiftRight_eq_div_pow]
              show _ = ((x.toNat / 256 % 256 : Nat) : Int)
              omega
            replace hv := Lib.hid hv
            replace hfi := Lib.hid hfi
            go_wp2
            go_roundw
            case measure => simp [intOf]
            case rel =>
              rw [hv.out]
              exact ⟨3, by omega, rfl, mr.out.trans (Mod.one_setCell _ _ _ _), hset.out _ rfl⟩
          · have hv : (x.toNat : Int) % 256 = (y.toNat : Int) := by
              rw [hfi, BitVec.toNat_setWidth, BitVec.toNat_ushiftRight, Nat.shiftRight_eq_div_pow]
              show _ = ((x.toNat / 1 % 256 : Nat) : Int)
              omega
            replace hv := Lib.hid hv
            replace hfi := Lib.hid hfi
            go_wp2
            go_roundw
            case measure => simp [intOf]
            case rel =>
              rw [hv.out]
              exact ⟨4, by omega, rfl, mr.out.trans (Mod.one_setCell _ _ _ _), hset.out _ rfl⟩
          · have hv : (x.toNat : Int) / 16777216 = (y.toNat : Int) := by
              rw [hfi, BitVec.toNat_setWidth, BitVec.toNat_ushiftRight, Nat.shiftRight_eq_div_pow]
              show _ = ((x.toNat / 16777216 % 256 : Nat) : Int)
              omega
            replace hv := Lib.hid hv
            replace hfi := Lib.hid hfi
            go_wp2
            go_roundw
            case measure => simp [intOf]
            case rel =>
              rw [hv.out]
              exact ⟨5, by omega, rfl, mr.out.trans (Mod.one_setCell _ _ _ _), hset.out _ rfl⟩
          · have hv : (x.toNat : Int) / 65536 % 256 = (y.toNat : Int) := by
              rw [hfi, BitVec.toNat_setWidth, BitVec.toNat_ushiftRight, Nat.shiftRight_eq_div_pow]
              show _ = ((x.toNat / 65536 % 256 : Nat) : Int)
              omega
            replace hv := Lib.hid hv
            replace hfi := Lib.hid hfi
            go_wp2
            go_roundw
            case measure => simp [intOf]
            case rel =>
              rw [hv.out]
              exact ⟨6, by omega, rfl, mr.out.trans (Mod.one_setCell _ _ _ _), hset.out _ rfl⟩
          · have hv : (x.toNat : Int) / 256 % 256 = (y.toNat : Int) := by
              rw [hfi, BitVec.toNat_setWidth, BitVec.toNat_ushiftRight, Nat.shiftRight_eq_div_pow]
              show _ = ((x.toNat / 256 % 256 : Nat) : Int)
              omega
            replace hv := Lib.hid hv
            replace hfi := Lib.hid hfi
            go_wp2
            go_roundw
            case measure => simp [intOf]
            case rel =>
              rw [hv.out]
              exact ⟨7, by omega, rfl, mr.out.trans (Mod.one_setCell _ _ _ _), hset.out _ rfl⟩
          · have hv : (x.toNat : Int) % 256 = (y.toNat : Int) := by
              rw [hfi, BitVec.toNat_setWidth, BitVec.toNat_ushiftRight, Nat.shiftRight_eq_div_pow]
              show _ = ((x.toNat / 1 % 256 : Nat) : Int)
              omega
            replace hv := Lib.hid hv
            replace hfi := Lib.hid hfi
            go_wp2
            go_roundw
            case measure => simp [intOf]
            case rel =>
              rw [hv.out]
              exact ⟨8, by omega, rfl, mr.out.trans (Mod.one_setCell _ _ _ _), hset.out _ rfl⟩
          · have hv : (x.toNat : Int) / 16777216 = (y.toNat : Int) := by
              rw [hfi, BitVec.toNat_setWidth, BitVec.toNat_ushiftRight, Nat.shiftRight_eq_div_pow]
              show _ = ((x.toNat / 16777216 % 256 : Nat) : Int)
              omega
            replace hv := Lib.hid hv
            replace hfi := Lib.hid hfi
            go_wp2
            go_roundw
            case measure => simp [intOf]
            case rel =>
              rw [hv.out]
              exact ⟨9, by omega, rfl, mr.out.trans (Mod.one_setCell _ _ _ _), hset.out _ rfl⟩
          · have hv : (x.toNat : Int) / 65536 % 256 = (y.toNat : Int) := by
              rw [hfi, BitVec.toNat_setWidth, BitVec.toNat_ushiftRight, Nat.shiftRight_eq_div_pow]
              show _ = ((x.toNat / 65536 % 256 : Nat) : Int)
              omega
            replace hv := Lib.hid hv
            replace hfi := Lib.hid hfi
            go_wp2
            go_roundw
            case measure => simp [intOf]
            case rel =>
              rw [hv.out]
              exact ⟨10, by omega, rfl, mr.out.trans (Mod.one_setCell _ _ _ _), hset.out _ rfl⟩
          · have hv : (x.toNat : Int) / 256 % 256 = (y.toNat : Int) := by
              rw [hfi, BitVec.toNat_setWidth, BitVec.toNat_ushiftRight, Nat.shiftRight_eq_div_pow]
              show _ = ((x.toNat / 256 % 256 : Nat) : Int)
              omega
            replace hv := Lib.hid hv
            replace hfi := Lib.hid hfi
            go_wp2
            go_roundw
            case measure => simp [intOf]
            case rel =>
              rw [hv.out]
              exact ⟨11, by omega, rfl, mr.out.trans (Mod.one_setCell _ _ _ _), hset.out _ rfl⟩
          · have hv : (x.toNat : Int) % 256 = (y.toNat : Int) := by
              rw [hfi, BitVec.toNat_setWidth, BitVec.toNat_ushiftRight, Nat.shiftRight_eq_div_pow]
              show _ = ((x.toNat / 1 % 256 : Nat) : Int)
              omega
            replace hv := Lib.hid hv
            replace hfi := Lib.hid hfi
            go_wp2
            go_roundw
            case measure => simp [intOf]
            case rel =>
              rw [hv.out]
              exact ⟨12, by omega, rfl, mr.out.trans (Mod.one_setCell _ _ _ _), hset.out _ rfl⟩
          · have hv : (x.toNat : Int) / 16777216 = (y.toNat : Int) := by
              rw [hfi, BitVec.toNat_setWidth, BitVec.toNat_ushiftRight, Nat.shiftRight_eq_div_pow]
              show _ = ((x.toNat / 16777216 % 256 : Nat) : Int)
              omega
            replace hv := Lib.hid hv
            replace hfi := Lib.hid hfi
            go_wp2
            go_roundw
            case measure => simp [intOf]
            case rel =>
              rw [hv.out]
              exact ⟨13, by omega, rfl, mr.out.trans (Mod.one_setCell _ _ _ _), hset.out _ rfl⟩
          · have hv : (x.toNat : Int) / 65536 % 256 = (y.toNat : Int) := by
              rw [hfi, BitVec.toNat_setWidth, BitVec.toNat_ushiftRight, Nat.shiftRight_eq_div_pow]
              show _ = ((x.toNat / 65536 % 256 : Nat) : Int)
              omega
            replace hv := Lib.hid hv
            replace hfi := Lib.hid hfi
            go_wp2
            go_roundw
            case measure => simp [intOf]
            case rel =>
              rw [hv.out]
              exact ⟨14, by omega, rfl, mr.out.trans (Mod.one_setCell _ _ _ _), hset.out _ rfl⟩
          · have hv : (x.toNat : Int) / 256 % 256 = (y.toNat : Int) := by
              rw [hfi, BitVec.toNat_setWidth, BitVec.toNat_ushiftRight, Nat.shiftRight_eq_div_pow]
              show _ = ((x.toNat / 256 % 256 : Nat) : Int)
              omega
            replace hv := Lib.hid hv
            replace hfi := Lib.hid hfi
            go_wp2
            go_roundw
            case measure => simp [intOf]
            case rel =>
              rw [hv.out]
              exact ⟨15, by omega, rfl, mr.out.trans (Mod.one_setCell _ _ _ _), hset.out _ rfl⟩
          · have hv : (x.toNat : Int) % 256 = (y.toNat : Int) := by
              rw [hfi, BitVec.toNat_setWidth, BitVec.toNat_ushiftRight, Nat.shiftRight_eq_div_pow]
              show _ = ((x.toNat / 1 % 256 : Nat) : Int)
              omega
            replace hv := Lib.hid hv
            replace hfi := Lib.hid hfi
            go_wp2
            go_roundw
            case measure => simp [intOf]
            case rel =>
              rw [hv.out]
              exact ⟨16, by omega, rfl, mr.out.trans (Mod.one_setCell _ _ _ _), hset.out _ rfl⟩
          · have hv : (x.toNat : Int) / 16777216 = (y.toNat : Int) := by
              rw [hfi, BitVec.toNat_setWidth, BitVec.toNat_ushiftRight, Nat.shiftRight_eq_div_pow]
              show _ = ((x.toNat / 16777216 % 256 : Nat) : Int)
              omega
            replace hv := Lib.hid hv
            replace hfi := Lib.hid hfi
            go_wp2
            go_roundw
            case measure => simp [intOf]
            case rel =>
              rw [hv.out]
              exact ⟨17, by omega, rfl, mr.out.trans (Mod.one_setCell _ _ _ _), hset.out _ rfl⟩
          · have hv : (x.toNat : Int) / 65536 % 256 = (y.toNat : Int) := by
              rw [hfi, BitVec.toNat_setWidth, BitVec.toNat_ushiftRight, Nat.shiftRight_eq_div_pow]
              show _ = ((x.toNat / 65536 % 256 : Nat) : Int)
              omega
            replace hv := Lib.hid hv
            replace hfi := Lib.hid hfi
            go_wp2
            go_roundw
            case measure => simp [intOf]
            case rel =>
              rw [hv.out]
              exact ⟨18, by omega, rfl, mr.out.trans (Mod.one_setCell _ _ _ _), hset.out _ rfl⟩
          · have hv : (x.toNat : Int) / 256 % 256 = (y.toNat : Int) := by
              rw [hfi, BitVec.toNat_setWidth, BitVec.toNat_ushiftRight, Nat.shiftRight_eq_div_pow]
              show _ = ((x.toNat / 256 % 256 : Nat) : Int)
              omega
            replace hv := Lib.hid hv
            replace hfi := Lib.hid hfi
            go_wp2
            go_roundw
            case measure => simp [intOf]
            case rel =>
              rw [hv.out]
              exact ⟨19, by omega, rfl, mr.out.trans (Mod.one_setCell _ _ _ _), hset.out _ rfl⟩
          · have hv : (x.toNat : Int) % 256 = (y.toNat : Int) := by
              rw [hfi, BitVec.toNat_setWidth, BitVec.toNat_ushiftRight, Nat.shiftRight_eq_div_pow]
              show _ = ((x.toNat / 1 % 256 : Nat) : Int)
              omega
            replace hv := Lib.hid hv
            replace hfi := Lib.hid hfi
            go_wp2
            go_roundw
            case measure => simp [intOf]
            case rel =>
              rw [hv.out]
              exact ⟨20, by omega, rfl, mr.out.trans (Mod.one_setCell _ _ _ _), hset.out _ rfl⟩
          · have hv : (x.toNat : Int) / 16777216 = (y.toNat : Int) := by
              rw [hfi, BitVec.toNat_setWidth, BitVec.toNat_ushiftRight, Nat.shiftRight_eq_div_pow]
              show _ = ((x.toNat / 16777216 % 256 : Nat) : Int)
              omega
            replace hv := Lib.hid hv
            replace hfi := Lib.hid hfi
            go_wp2
            go_roundw
            case measure => simp [intOf]
            case rel =>
              rw [hv.out]
              exact ⟨21, by omega, rfl, mr.out.trans (Mod.one_setCell _ _ _ _), hset.out _ rfl⟩
          · have hv : (x.toNat : Int) / 65536 % 256 = (y.toNat : Int) := by
              rw [hfi, BitVec.toNat_setWidth, BitVec.toNat_ushiftRight, Nat.shiftRight_eq_div_pow]
              show _ = ((x.toNat / 65536 % 256 : Nat) : Int)
              omega
            replace hv := Lib.hid hv
            replace hfi := Lib.hid hfi
            go_wp2
            go_roundw
            case measure => simp [intOf]
            case rel =>
              rw [hv.out]
              exact ⟨22, by omega, rfl, mr.out.trans (Mod.one_setCell _ _ _ _), hset.out _ rfl⟩
          · have hv : (x.toNat : Int) / 256 % 256 = (y.toNat : Int) := by
              rw [hfi, BitVec.toNat_setWidth, BitVec.toNat_ushiftRight, Nat.shiftRight_eq_div_pow]
              show _ = ((x.toNat / 256 % 256 : Nat) : Int)
              omega
            replace hv := Lib.hid hv
            replace hfi := Lib.hid hfi
            go_wp2
            go_roundw
            case measure => simp [intOf]
            case rel =>
              rw [hv.out]
              exact ⟨23, by omega, rfl, mr.out.trans (Mod.one_setCell _ _ _ _), hset.out _ rfl⟩
          · have hv : (x.toNat : Int) % 256 = (y.toNat : Int) := by
              rw [hfi, BitVec.toNat_setWidth, BitVec.toNat_ushiftRight, Nat.shiftRight_eq_div_pow]
              show _ = ((x.toNat / 1 % 256 : Nat) : Int)
              omega
            replace hv := Lib.hid hv
            replace hfi := Lib.hid hfi
            go_wp2
            go_roundw
            case measure => simp [intOf]
            case rel =>
              rw [hv.out]
              exact ⟨24, by omega, rfl, mr.out.trans (Mod.one_setCell _ _ _ _), hset.out _ rfl⟩
          · have hv : (x.toNat : Int) / 16777216 = (y.toNat : Int) := by
              rw [hfi, BitVec.toNat_setWidth, BitVec.toNat_ushiftRight, Nat.shiftRight_eq_div_pow]
              show _ = ((x.toNat / 16777216 % 256 : Nat) : Int)
              omega
            replace hv := Lib.hid hv
            replace hfi := Lib.hid hfi
            go_wp2
            go_roundw
            case measure => simp [intOf]
            case rel =>
              rw [hv.out]
              exact ⟨25, by omega, rfl, mr.out.trans (Mod.one_setCell _ _ _ _), hset.out _ rfl⟩
          · have hv : (x.toNat : Int) / 65536 % 256 = (y.toNat : Int) := by
              rw [hfi, BitVec.toNat_setWidth, BitVec.toNat_ushiftRight, Nat.shiftRight_eq_div_pow]
              show _ = ((x.toNat / 65536 % 256 : Nat) : Int)
              omega
            replace hv := Lib.hid hv
            replace hfi := Lib.hid hfi
            go_wp2
            go_roundw
            case measure => simp [intOf]
            case rel =>
              rw [hv.out]
              exact ⟨26, by omega, rfl, mr.out.trans (Mod.one_setCell _ _ _ _), hset.out _ rfl⟩
          · have hv : (x.toNat : Int) / 256 % 256 = (y.toNat : Int) := by
              rw [hfi, BitVec.toNat_setWidth, BitVec.toNat_ushiftRight, Nat.shiftRight_eq_div_pow]
              show _ = ((x.toNat / 256 % 256 : Nat) : Int)
              omega
            replace hv := Lib.hid hv
            replace hfi := Lib.hid hfi
            go_wp2
            go_roundw
            case measure => simp [intOf]
            case rel =>
              rw [hv.out]
              exact ⟨27, by omega, rfl, mr.out.trans (Mod.one_setCell _ _ _ _), hset.out _ rfl⟩
          · have hv : (x.toNat : Int) % 256 = (y.toNat : Int) := by
              rw [hfi, BitVec.toNat_setWidth, BitVec.toNat_ushiftRight, Nat.shiftRight_eq_div_pow]
              show _ = ((x.toNat / 1 % 256 : Nat) : Int)
              omega
            replace hv := Lib.hid hv
            replace hfi := Lib.hid hfi
            go_wp2
            go_roundw
            case measure => simp [intOf]
            case rel =>
              rw [hv.out]
              exact ⟨28, by omega, rfl, mr.out.trans (Mod.one_setCell _ _ _ _), hset.out _ rfl⟩
          · have hv : (x.toNat : Int) / 16777216 = (y.toNat : Int) := by
              rw [hfi, BitVec.toNat_setWidth, BitVec.toNat_ushiftRight, Nat.shiftRight_eq_div_pow]
              show _ = ((x.toNat / 16777216 % 256 : Nat) : Int)
              omega
            replace hv := Lib.hid hv
            replace hfi := Lib.hid hfi
            go_wp2
            go_roundw
            case measure => simp [intOf]
            case rel =>
              rw [hv.out]
              exact ⟨29, by omega, rfl, mr.out.trans (Mod.one_setCell _ _ _ _), hset.out _ rfl⟩
          · have hv : (x.toNat : Int) / 65536 % 256 = (y.toNat : Int) := by
              rw [hfi, BitVec.toNat_setWidth, BitVec.toNat_ushiftRight, Nat.shiftRight_eq_div_pow]
              show _ = ((x.toNat / 65536 % 256 : Nat) : Int)
              omega
            replace hv := Lib.hid hv
            replace hfi := Lib.hid hfi
            go_wp2
            go_roundw
            case measure => simp [intOf]
            case rel =>
              rw [hv.out]
              exact ⟨30, by omega, rfl, mr.out.trans (Mod.one_setCell _ _ _ _), hset.out _ rfl⟩
          · have hv : (x.toNat : Int) / 256 % 256 = (y.toNat : Int) := by
              rw [hfi, BitVec.toNat_setWidth, BitVec.toNat_ushiftRight, Nat.shiftRight_eq_div_pow]
              show _ = ((x.toNat / 256 % 256 : Nat) : Int)
              omega
            replace hv := Lib.hid hv
            replace hfi := Lib.hid hfi
            go_wp2
            go_roundw
            case measure => simp [intOf]
            case rel =>
              rw [hv.out]
              exact ⟨31, by omega, rfl, mr.out.trans (Mod.one_setCell _ _ _ _), hset.out _ rfl⟩
          · have hv : (x.toNat : Int) % 256 = (y.toNat : Int) := by
              rw [hfi, BitVec.toNat_setWidth, BitVec.toNat_ushiftRight, Nat.shiftRight_eq_div_pow]
              show _ = ((x.toNat / 1 % 256 : Nat) : Int)
              omega
            replace hv := Lib.hid hv
            replace hfi := Lib.hid hfi
            go_wp2
            go_roundw
            case measure => simp [intOf]
            case rel =>
              rw [hv.out]
              exact ⟨32, by omega, rfl, mr.out.trans (Mod.one_setCell _ _ _ _), hset.out _ rfl⟩
        · have hi32 : i = 32 := by omega
          have hd : decide ((i : Int) < 32) = false := by rw [decide_eq_false_iff_not]; omega
          rw [hi32, ← hsha.out] at xr
          have hsl := shaS_length b
          have ll := bytes_load xr hsl
          obtain ⟨wz, sz, mz, xz⟩ := bytes_store xr (s' := shaS b) hsl hsl
          have dz := mz.heap (mr.heap d4.out (by omega)) (by omega)
          have mpo := Mod.one_putObj wz s7 (.deferred none)
          have xz' := mpo.heap xz (by omega)
          have hfin : Mod (fun _ => False) w (wz.putObj s7 (.deferred none)) := ((m04.out.trans' mr (fun i hi h => by omega)).trans' mz (fun i hi h => by omega)).trans' mpo (fun i hi h => by omega)
          obtain ⟨RR, hRR⟩ : ∃ RR, RR = shaS b := ⟨_, rfl⟩
          rw [← hRR] at hsl ll sz xz xz' xr
          replace hRR := Lib.hid hRR
          replace hfin := Lib.hid hfin
          replace mr := Lib.hid mr
          replace xr := Lib.hid xr
          replace xz := Lib.hid xz
          replace dz := Lib.hid dz
          clear mz mpo hi hlt hi32
          go_upto_region 12 with (fail)
          refine wp_region_lit ?_
          refine wpList_reads (by kernel_rfl) (.agg (encB RR)) (run_load_op rfl rfl ll) ?_
          simp only [Act.put, List.setIfInBounds_toArray, List.set_cons_zero, List.set_cons_succ]
          refine wpList_store_to rfl _ _ _ rfl _ _ _ rfl rfl _ sz ?_
          simp only [Act.put, List.setIfInBounds_toArray, List.set_cons_zero, List.set_cons_succ]
          refine wpList_reads (by kernel_rfl) (.int .i64 0) (by go_simp) ?_
          simp only [Act.put, List.setIfInBounds_toArray, List.set_cons_zero, List.set_cons_succ]
          go_wp2
          refine bodyPostM_mark (v := .tuple #[.agg (encB RR), .int .i64 0]) rfl dz.out (sum_results rfl _ _ _ _ _ rfl rfl xz' hsl) ?_
          exact ⟨hfin.out, by rw [hsv.out, hRR.out]⟩
end Go.Proofs.YtppjnkgmbmhlcaaGreatDoor
