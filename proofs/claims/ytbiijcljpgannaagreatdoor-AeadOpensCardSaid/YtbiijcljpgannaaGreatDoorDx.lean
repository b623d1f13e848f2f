/-
  chacha.Xor: bytes against the stream.
-/
import Derived.ArgAppend
import Derived.Lib.JoinLaws
import Derived.WalkArith
import Derived.Laws.BitsAllLaws
import Derived.Test.YtbiijcljpgannaaGreatDoorMA
import Derived.Test.YtbiijcljpgannaaGreatDoorDs
namespace Go.Proofs.YtbiijcljpgannaaGreatDoor.Cc
set_option maxRecDepth 100000
open Go Go.RowKit
set_option linter.unusedSimpArgs false

def xorS (key nonce : List (BitVec 8)) (count : BitVec 32) (bs : List (BitVec 8)) : List (BitVec 8) := (List.range bs.length).map fun i => bs.getD i 0 ^^^ streamAt key nonce count i

def XorEnd (key nonce : List (BitVec 8)) (count : BitVec 32) (bs : List (BitVec 8)) (w : World) (e : Ending) (w' : World) : Prop :=
  Mod (fun _ => False) w w' ∧
  ((4294967296 < count.toNat + (bs.length + 63) / 64 ∧ e = .returned (.tuple #[.slice none 0 0, .int .i64 3])) ∨
   (count.toNat + (bs.length + 63) / 64 ≤ 4294967296 ∧ bs = [] ∧ e = .returned (.tuple #[.slice none 0 0, .int .i64 0])) ∨
   (count.toNat + (bs.length + 63) / 64 ≤ 4294967296 ∧ bs ≠ [] ∧ ∃ g, w.heap.size ≤ g ∧ e = .returned (.tuple #[.slice (some ⟨g, 0, none⟩) bs.length bs.length, .int .i64 0]) ∧ w'.heap[g]? = some (.cells (encB (xorS key nonce count bs)) 5 (0,0))))

theorem bits_xor8 (a b : BitVec 8) : bits .xor .u8 (a.toNat : Int) (b.toNat : Int) = ((a ^^^ b).toNat : Int) := by
  rw [u8_xor_nat _ _ a.isLt b.isLt, BitVec.toNat_xor]
theorem stream_make (key nonce : List (BitVec 8)) (count : BitVec 32) (w : World) :
    Calls Tryz.prog 67 #[.agg (encB key), .int .u32 (count.toNat : Int), .agg (encB nonce)] w fun e w' => ∃ K, w.heap.size ≤ K ∧ Mod (fun _ => False) w w' ∧
      e = .returned (.func (.func 101) #[] #[.pointer (some ⟨K + 1, 0, none⟩), .pointer (some ⟨K, 0, none⟩), .pointer (some ⟨K + 1 + 1, 0, none⟩)]) ∧
      w'.heap[K]? = some (.cells (encB key) 49 (0,0)) ∧ w'.heap[K + 1]? = some (.cells #[.int .u32 (count.toNat : Int)] 56 (0,0)) ∧ w'.heap[K + 1 + 1]? = some (.cells (encB nonce) 50 (0,0)) := by
  go_enter Tryz.func67, Tryz.ntmps67
  go_wp2
  go_ret
  refine ⟨w.heap.size, Nat.le_refl _, (((Mod.refl _ w).alloc _).alloc _).alloc _, rfl, ?_, ?_, ?_⟩
  rw [hp_old _ _ _ (by simp only [World.size_alloc]; omega), hp_old _ _ _ (by simp only [World.size_alloc]; omega), hp_new _ _ _ (by simp)]
  rw [hp_old _ _ _ (by simp only [World.size_alloc]; omega), hp_new _ _ _ (by simp)]
  rw [hp_new _ _ _ (by simp)]

theorem xor_any (key nonce : List (BitVec 8)) (hk : key.length = 32) (hn : nonce.length = 12) (count : BitVec 32) (v : Value) (bs : List (BitVec 8)) (w : World) (hb : ByteAt w v bs) (hlen : bs.length ≤ 1048576) :
    Calls Tryz.prog 18 #[.agg (encB key), .int .u32 (count.toNat : Int), .agg (encB nonce), v] w (XorEnd key nonce count bs w) := by
  obtain ⟨ad, cap, hv⟩ : ∃ ad cap, v = .slice ad bs.length cap := by
    rcases hb with ⟨ad, cap, rfl, rfl⟩ | ⟨g, off, cap, rfl, _⟩
    · exact ⟨_, _, rfl⟩
    · exact ⟨_, _, rfl⟩
  have hhb := hb
  replace hhb := Lib.hid hhb
  clear hb
  subst hv
  replace hk := Lib.hid hk
  replace hn := Lib.hid hn
  obtain ⟨n, en⟩ : ∃ n, bs.length = n := ⟨_, rfl⟩
  have hc := count.isLt
  obtain ⟨c, ec⟩ : ∃ c, count.toNat = c := ⟨_, rfl⟩
  rw [en] at hlen
  rw [ec] at hc
  have hw0 : ∀ w1, w1 = (((w.alloc (.cells (encB key) 49)).alloc (.cells (encB nonce) 50)).alloc (.cells #[.slice ad n cap] 22)) →
      Mod (fun _ => False) w w1 ∧ w1.heap[w.heap.size]? = some (.cells (encB key) 49 (0,0)) ∧ w1.heap[w.heap.size + 1]? = some (.cells (encB nonce) 50 (0,0)) ∧ w1.heap[w.heap.size + 1 + 1]? = some (.cells #[.slice ad n cap] 22 (0,0)) := by
    rintro w1 rfl
    refine ⟨(((Mod.refl _ w).alloc _).alloc _).alloc _, ?_, ?_, ?_⟩
    rw [hp_old _ _ _ (by simp only [World.size_alloc]; omega), hp_old _ _ _ (by simp only [World.size_alloc]; omega), hp_new _ _ _ (by simp)]
    rw [hp_old _ _ _ (by simp only [World.size_alloc]; omega), hp_new _ _ _ (by simp)]
    rw [hp_new _ _ _ (by simp)]
  generalize hq : (n + 63) / 64 = q at *
  have e10 : wrap64 (Int.tdiv (wrap64 (wrap64 ((n : Int) + 64) - 1)) 64) = (q : Int) := by
    have e1 : wrap64 ((n : Int) + 64) = ((n + 64 : Nat) : Int) := by unfold wrap64; omega
    have e2 : wrap64 (((n + 64 : Nat) : Int) - 1) = ((n + 63 : Nat) : Int) := by unfold wrap64; omega
    have e3 : Int.tdiv ((n + 63 : Nat) : Int) 64 = (((n + 63) / 64 : Nat) : Int) := by
      rw [show (64 : Int) = ((64 : Nat) : Int) from rfl, ← Int.ofNat_tdiv]
    rw [e1, e2, e3, hq]
    unfold wrap64; omega
  have hqn : q ≤ 16384 := by omega
  replace en := Lib.hid en
  replace ec := Lib.hid ec
  replace hw0 := Lib.hid hw0
  rw [show bs.length = n from en.out]
  rw [show count.toNat = c from ec.out]
  have hmk := fun w => run_make_room (P := Tryz.prog) 22 5 (.int .u8 0) 1 Tryz.underlying22 (by kernel_rfl) rfl .i64 .i64 n (by omega) (by omega) w
  refine calls_of_marks Tryz.func18 rfl ?_
  simp only [Tryz.ntmps18, List.size_toArray, List.length_cons, List.length_nil, Nat.reduceAdd, Nat.reduceSub, Array.replicate_succ,
     Array.replicate_zero, List.push_toArray, List.append_toArray, List.nil_append, List.cons_append]
  go_upto_region 2 with (fail)
  refine wp_world fun w1 hw1 => ?_
  obtain ⟨m1, k1, n1, b1⟩ := hw0.out w1 hw1
  clear hw1
  replace m1 := Lib.hid m1
  have cb : w1.cell? ⟨w.heap.size + 1 + 1, 0, none⟩ = some (.slice ad n cap) := by rw [cell_of_row _ _ _ _ _ _ b1]; rfl
  replace k1 := Lib.hid k1
  replace n1 := Lib.hid n1
  replace b1 := Lib.hid b1
  have hgt : decide ((1048576 : Int) < (n : Int)) = false := by rw [decide_eq_false_iff_not]; omega
  replace hq := Lib.hid hq
  clear e10
  have h22 : (Tryz.prog.info? 49).map (·.size) = some (encB key).size := by rw [encB_size, hk.out]; kernel_rfl
  have h24 : (Tryz.prog.info? 50).map (·.size) = some (encB nonce).size := by rw [encB_size, hn.out]; kernel_rfl
  replace h22 := Lib.hid h22
  replace h24 := Lib.hid h24
  have hw2 : ∀ w2, w2 = (w1.alloc (.cells (madeCells #[.int .u8 0] n) 5)).alloc (.cells #[.slice (some ⟨w1.heap.size, 0, none⟩) 0 n] 22) →
      Mod (fun _ => False) w1 w2 ∧ w2.heap[w1.heap.size]? = some (.cells (madeCells #[.int .u8 0] n) 5 (0,0)) ∧ w2.heap[w1.heap.size + 1]? = some (.cells #[.slice (some ⟨w1.heap.size, 0, none⟩) 0 n] 22 (0,0)) := by
    rintro w2 rfl
    refine ⟨((Mod.refl _ w1).alloc _).alloc _, ?_, ?_⟩
    rw [hp_old _ _ _ (by simp only [World.size_alloc]; omega), hp_new _ _ _ (by simp)]
    rw [hp_new _ _ _ (by simp)]
  replace hw2 := Lib.hid hw2
  go_upto_region 7 with (fail)
  · rename_i ho
    refine bodyPostM_ret (results_tmp2 rfl _ _ _) rfl ⟨m1.out, .inl ⟨?_, rfl⟩⟩
    rw [en.out, ec.out, hq.out]
    have := hq.out
    omega
  · rename_i ho he
    refine bodyPostM_ret (results_tmp2 rfl _ _ _) rfl ⟨m1.out, .inr (.inl ⟨?_, ?_, rfl⟩)⟩
    · rw [en.out, ec.out, hq.out]
      have := hq.out
      omega
    · have h1 := en.out
      simp only [beq_iff_eq] at he
      exact List.eq_nil_of_length_eq_zero (by omega)
  · have hne : n ≠ 0 := by
      have h : ((n : Int) == 0) = false := by assumption
      simp only [beq_eq_false_iff_ne, ne_eq] at h
      omega
    have hov : c + q ≤ 4294967296 := by
      have h : (c : Int) + ((n : Int) + 64 - 1) / 64 ≤ 4294967296 := by assumption
      have := hq.out
      omega
    refine wp_world fun w2 hw2' => ?_
    obtain ⟨m2, r2, o2⟩ := hw2.out w2 hw2'
    clear hw2' hw2 hw0
    have k2 := m2.heap k1.out (fun h => h)
    have n2 := m2.heap n1.out (fun h => h)
    replace r2 := Lib.hid r2
    replace o2 := Lib.hid o2
    replace m2 := Lib.hid m2
    clear hmk cb
    go_wp2_with (first | (refine wpList_load_row rfl 49 _ rfl _ rfl _ _ (0,0) _ k2 Tryz.underlying49 rfl h22.out ?_) | (refine wpList_load_row rfl 50 _ rfl _ rfl _ _ (0,0) _ n2 Tryz.underlying50 rfl h24.out ?_))
    rw [← ec.out]
    refine (stream_make key nonce count _).mono ?_
    rintro e w3 ⟨K, hK, m3, rfl, k3, c3, n3⟩
    rw [ec.out]
    clear k2 n2 k1 n1 h22 h24
    have b3 := m3.heap (m2.out.heap b1.out (fun h => h)) (fun h => h)
    have r3 := m3.heap r2.out (fun h => h)
    have o3 := m3.heap o2.out (fun h => h)
    have m03 := m1.out.trans (m2.out.trans m3)
    have s03 := lt_of_heap b3
    have s04 := lt_of_heap o3
    have s05 := lt_of_heap n3
    have s06 := m1.out.size
    have s07 := m2.out.size
    have hBd := lt_of_heap b1.out
    have s08 := lt_of_heap o2.out
    have bb : ∀ j, j < n → ∃ g off, ad = some ⟨g, off, none⟩ ∧ g < w.heap.size ∧ w3.cell? ⟨g, off + j, none⟩ = some (.int .u8 ((bs.getD j 0).toNat : Int)) := by
      intro j hj
      have hh := hhb.out
      rw [en.out] at hh
      rcases hh with ⟨_, _, h1, h2⟩ | ⟨g, off, cap', h1, _, h2⟩
      · injection h1 with _ h1 _
        omega
      · rw [en.out] at h1 h2
        injection h1 with h1 _ _
        have h3 := h2 j hj
        refine ⟨g, off, h1, ?_, cell_mod m03 h3 (fun h => h)⟩
        by_cases hlt : g < w.heap.size
        · exact hlt
        · rw [World.cell?, Array.getElem?_eq_none (by simpa using hlt)] at h3
          cases h3
    replace r2 := True.intro
    replace o2 := True.intro
    replace b1 := True.intro
    replace m1 := True.intro
    replace m2 := True.intro
    generalize eR : w1.heap.size = R at *
    generalize eB : w.heap.size + 1 + 1 = B at *
    clear r2 o2 b1 m1 m2 m3
    replace k3 := Lib.hid k3
    replace c3 := Lib.hid c3
    replace n3 := Lib.hid n3
    replace b3 := Lib.hid b3
    replace r3 := Lib.hid r3
    replace o3 := Lib.hid o3
    replace m03 := Lib.hid m03
    replace bb := Lib.hid bb
    go_wp2
    refine wp_rangeFunc_wide 101 _ rfl (fun _ _ => rfl) fun fn => ?_
    simp only [List.push_toArray, List.append_toArray, List.nil_append, List.cons_append]
    refine calls_rec fun rec W0 hrec hW0 => ?_

    replace hrec := Lib.hid hrec
    have mW : Mod (fun _ => False) w3 W0 := by rw [hW0]; exact ((Mod.refl _ w3).alloc _).alloc _
    have dW : W0.heap[w3.heap.size]? = some (.deferred (some [])) := by
      rw [hW0]
      rw [hp_old _ _ _ (by simp only [World.size_alloc]; omega), hp_new _ _ _ (by simp)]
    have lW : W0.heap[w3.heap.size + 1]? = some (.loop rec) := by
      rw [hW0]
      rw [hp_new _ _ _ (by simp)]
    clear hW0
    have kW := mW.heap k3.out (fun h => h)
    have cW := mW.heap c3.out (fun h => h)
    have nW := mW.heap n3.out (fun h => h)
    have bW := mW.heap b3.out (fun h => h)
    have rW := mW.heap r3.out (fun h => h)
    have oW := mW.heap o3.out (fun h => h)
    have bbW : ∀ j, j < n → ∃ g off, ad = some ⟨g, off, none⟩ ∧ g < w.heap.size ∧ W0.cell? ⟨g, off + j, none⟩ = some (.int .u8 ((bs.getD j 0).toNat : Int)) := by
      intro j hj
      obtain ⟨g, off, h1, h2, h3⟩ := bb.out j hj
      exact ⟨g, off, h1, h2, cell_mod mW h3 (fun h => h)⟩
    have m0W := m03.out.trans mW
    clear k3 c3 n3 b3 r3 o3 bb mW m03 hgt
    generalize hs3 : w3.heap.size = s3 at *
    have hKR : R + 1 < K := by omega
    clear hK s08 s07
    obtain ⟨f, hf⟩ : ∃ f : Nat → BitVec 8, f = fun i => bs.getD i 0 ^^^ streamAt key nonce count i := ⟨_, rfl⟩
    obtain ⟨J, hJ⟩ : ∃ J : Nat → World → Prop, J = fun i W => Mod (fun k => k = R ∨ k = R + 1 ∨ k = s3 + 1 ∨ k = K + 1) W0 W ∧ W.heap[R]? = some (.cells (encB (part f n i)) 5 (0,0)) ∧ W.heap[R + 1]? = some (.cells #[.slice (some ⟨R, 0, none⟩) i n] 22 (0,0)) := ⟨_, rfl⟩
    obtain ⟨Stop, hStop⟩ : ∃ Stop : World → Prop, Stop = fun W => J n W ∧ W.heap[s3 + 1]? = some (.loop { rec with state := .done, pending := some (.exit 0) }) := ⟨_, rfl⟩
    refine (stream_iter (s3 + 1) K (K + 1) (K + 1 + 1) 38 key nonce hk.out hn.out count rec n J Stop W0 (by rw [hrec.out]) ⟨by omega, by omega, by omega⟩ ?_ ?_ ?_ ?_ lW kW nW cW).mono ?_
    · rw [hJ]
      rintro i W W' ⟨h1, h2, h3⟩ hm
      exact ⟨h1.trans (hm.mono fun k _ h => .inr (.inr (.inr h))), hm.heap h2 (by omega), hm.heap h3 (by omega)⟩
    · intro i W hi hj lr
      have hjn := hJ
      rw [hJ] at hj
      obtain ⟨mj, rj, oj⟩ := hj
      refine round_named fun Q hQ => ?_
      have bj := mj.heap bW (by omega)
      obtain ⟨g, off, rfl, hg, hbb⟩ := bbW i hi
      have cbb := cell_mod mj hbb (by omega)
      refine roundIn_of_wpIn trivial ?_
      rw [hrec.out]
      dsimp only
      simp only [List.setIfInBounds_toArray, List.set_cons_zero, List.set_cons_succ]
      gi_wp2
      have hwb : ∀ wb, wb = W.putObj (s3 + 1) (.loop { rec with state := .busy }) → Mod (fun k => k = R ∨ k = R + 1 ∨ k = s3 + 1) W wb ∧ wb.heap[s3 + 1]? = some (.loop { rec with state := .busy }) ∧ wb.heap[R]? = some (.cells (encB (part f n i)) 5 (0,0)) ∧ wb.heap[R + 1]? = some (.cells #[.slice (some ⟨R, 0, none⟩) i n] 22 (0,0)) ∧ wb.heap[B]? = some (.cells #[.slice (some ⟨g, off, none⟩) n cap] 22 (0,0)) ∧ wb.cell? ⟨g, off + i, none⟩ = some (.int .u8 ((bs.getD i 0).toNat : Int)) := by
        rintro wb rfl
        have h1 := Mod.one_putObj W (s3 + 1) (.loop { rec with state := .busy })
        exact ⟨h1.mono fun k _ h => .inr (.inr h), heap_putObj lr, h1.heap rj (by omega), h1.heap oj (by omega), h1.heap bj (by omega), cell_mod h1 cbb (by omega)⟩
      refine ⟨_, run_beginRound lr (by rw [hrec.out]), ?_⟩
      have hst2 : (Loop.mk .ready none rec.fn rec.tmps rec.params rec.assign rec.body rec.defers) = rec := by rw [hrec.out]
      have hsz : s3 < W.heap.size := by have := (Array.getElem?_eq_some_iff.1 lr).1; omega
      refine wpIn_world fun wb hwb' => ?_
      obtain ⟨mb, lb, rb, ob, bb, cb⟩ := hwb wb hwb'
      clear hwb hwb' hhb bW hbb cbb bj rj oj lr rW oW dW lW kW cW nW
      have hfi : f i = bs.getD i 0 ^^^ streamAt key nonce count i := by rw [hf]
      generalize bs.getD i 0 = x at *
      generalize streamAt key nonce count i = y at *
      clear hf
      replace hfi := Lib.hid hfi
      replace hQ := Lib.hid hQ
      replace hJ := Lib.hid hJ
      replace hStop := Lib.hid hStop
      replace mb := Lib.hid mb
      replace mj := Lib.hid mj
      clear hjn bbW hrec hov
      gi_wp2
      refine round_draw (by kernel_rfl) (by kernel_rfl) (fun h => by obtain ⟨_, _, h⟩ := h; exact h) ?_
      refine any_of_Z (S := fun w => w.cell? ⟨R + 1, 0, none⟩ = some (.slice (some ⟨R, 0, none⟩) i n) ∧ w.cell? ⟨B, 0, none⟩ = some (.slice (some ⟨g, off, none⟩) n cap) ∧ w.cell? ⟨g, off + i, none⟩ = some (.int .u8 (x.toNat : Int))) (z := 10) _ _ _ _ ?_
      have hS0 : wb.drew.cell? ⟨R + 1, 0, none⟩ = some (.slice (some ⟨R, 0, none⟩) i n) ∧ wb.drew.cell? ⟨B, 0, none⟩ = some (.slice (some ⟨g, off, none⟩) n cap) ∧ wb.drew.cell? ⟨g, off + i, none⟩ = some (.int .u8 (x.toNat : Int)) :=
        ⟨by rw [World.cell?_drew, cell_of_row _ _ _ _ _ _ ob]; rfl, by rw [World.cell?_drew, cell_of_row _ _ _ _ _ _ bb]; rfl, by rw [World.cell?_drew]; exact cb⟩
      simp only [List.size_toArray, List.length_cons, List.length_nil, Nat.reduceAdd, Array.replicate_succ, Array.replicate_zero, List.push_toArray, List.nil_append, List.cons_append]
      refine anyZ_take 0 _ (some 39) (.slice (some ⟨R, 0, none⟩) i n) rfl rfl (by kernel_rfl) (by kernel_rfl) (by kernel_rfl) (by kernel_rfl) (by decide) rfl (fun w hS => ?_) hS0 ?_
      · obtain ⟨h1, h2, h3⟩ := hS
        go_simp
      simp only [Act.put, List.setIfInBounds_toArray, List.set_cons_zero, List.set_cons_succ]
      refine anyZ_take 1 _ (some 40) (.slice (some ⟨g, off, none⟩) n cap) rfl rfl (by kernel_rfl) (by kernel_rfl) (by kernel_rfl) (by kernel_rfl) (by decide) rfl (fun w hS => ?_) hS0 ?_
      · obtain ⟨h1, h2, h3⟩ := hS
        go_simp
      simp only [Act.put, List.setIfInBounds_toArray, List.set_cons_zero, List.set_cons_succ]
      refine anyZ_take 2 _ (some 41) (.slice (some ⟨R, 0, none⟩) i n) rfl rfl (by kernel_rfl) (by kernel_rfl) (by kernel_rfl) (by kernel_rfl) (by decide) rfl (fun w hS => ?_) hS0 ?_
      · obtain ⟨h1, h2, h3⟩ := hS
        go_simp
      simp only [Act.put, List.setIfInBounds_toArray, List.set_cons_zero, List.set_cons_succ]
      refine anyZ_take 3 _ (some 42) (.int .i64 (i : Int)) rfl rfl (by kernel_rfl) (by kernel_rfl) (by kernel_rfl) (by kernel_rfl) (by decide) rfl (fun w hS => ?_) hS0 ?_
      · obtain ⟨h1, h2, h3⟩ := hS
        go_simp
      simp only [Act.put, List.setIfInBounds_toArray, List.set_cons_zero, List.set_cons_succ]
      refine anyZ_take 4 _ (some 43) (.pointer (some ⟨g, off + i, none⟩)) rfl rfl (by kernel_rfl) (by kernel_rfl) (by kernel_rfl) (by kernel_rfl) (by decide) rfl (fun w hS => ?_) hS0 ?_
      · obtain ⟨h1, h2, h3⟩ := hS
        go_simp
      simp only [Act.put, List.setIfInBounds_toArray, List.set_cons_zero, List.set_cons_succ]
      refine anyZ_take 5 _ (some 44) (.int .u8 (x.toNat : Int)) rfl rfl (by kernel_rfl) (by kernel_rfl) (by kernel_rfl) (by kernel_rfl) (by decide) rfl (fun w hS => ?_) hS0 ?_
      · obtain ⟨h1, h2, h3⟩ := hS
        go_simp
      simp only [Act.put, List.setIfInBounds_toArray, List.set_cons_zero, List.set_cons_succ]
      refine anyZ_take 6 _ (some 45) (.int .u8 (y.toNat : Int)) rfl rfl (by kernel_rfl) (by kernel_rfl) (by kernel_rfl) (by kernel_rfl) (by decide) rfl (fun w hS => ?_) hS0 ?_
      · obtain ⟨h1, h2, h3⟩ := hS
        go_simp
      simp only [Act.put, List.setIfInBounds_toArray, List.set_cons_zero, List.set_cons_succ]
      refine anyZ_take 7 _ (some 46) (.int .u8 ((x ^^^ y).toNat : Int)) rfl rfl (by kernel_rfl) (by kernel_rfl) (by kernel_rfl) (by kernel_rfl) (by decide) rfl (fun w hS => ?_) hS0 ?_
      · obtain ⟨h1, h2, h3⟩ := hS
        have hx := bits_xor8 x y
        go_simp
      simp only [Act.put, List.setIfInBounds_toArray, List.set_cons_zero, List.set_cons_succ]
      generalize (x ^^^ y) = z at *
      obtain ⟨i0, hi0, hi1⟩ : ∃ i0, Tryz.prog.info? 5 = some i0 ∧ i0.size = 1 := ⟨_, rfl, by kernel_rfl⟩
      obtain ⟨wn, hwn⟩ : ∃ wn, wn = wb.drew.alloc (.cells #[.int .u8 (z.toNat : Int)] 5) := ⟨_, rfl⟩
      have mn : Mod (fun _ => False) wb wn := by rw [hwn]; exact (Mod.refl _ wb).drew.alloc _
      have nn : wn.heap[wb.heap.size]? = some (.cells #[.int .u8 (z.toNat : Int)] 5 (0,0)) := by rw [hwn]; exact heap_alloc_new _ _
      refine anyZ_next 8 _ (some 47) rfl rfl (by kernel_rfl) rfl (.slice (some ⟨wb.heap.size, 0, none⟩) 1 1) wn ?_ (fun _ => ?_) ?_
      · rw [hwn]
        go_simp
      · exact ⟨cell_mod mn hS0.1 (fun h => h), cell_mod mn hS0.2.1 (fun h => h), cell_mod mn hS0.2.2 (fun h => h)⟩
      simp only [Act.put, List.setIfInBounds_toArray, List.set_cons_zero, List.set_cons_succ]
      have rn := mn.heap rb (fun h => h)
      have on := mn.heap ob (fun h => h)
      have bn := mn.heap bb (fun h => h)
      have ln := mn.heap lb (fun h => h)
      have hle : (encB (part f n i)).size = n := by rw [encB_size, part, List.length_map, List.length_range]
      have hsome : wn.cell? ⟨R, 0 + i * i0.size + 0, none⟩ = some ((encB (part f n i))[i]'(by omega)) := by
        rw [cell_of_row _ _ _ _ _ _ rn, hi1]
        simp only [Nat.zero_add, Nat.mul_one, Nat.add_zero]
        exact Array.getElem?_eq_getElem _
      have hap := run_append_room_cells (P := Tryz.prog) wn 22 22 5 i0 Tryz.underlying22 hi0 R 0 i n ⟨wb.heap.size, 0, none⟩ 1 1 [.int .u8 (z.toNat : Int)] (by rw [hi1]; rfl)
        (by
          intro j u hj
          have hj0 : j = 0 := by
            have := (List.getElem?_eq_some_iff.1 hj).1
            simp at this
            omega
          subst hj0
          simp only [List.getElem?_cons_zero, Option.some.injEq] at hj
          subst hj
          rw [show (Addr.mk wb.heap.size 0 none).add 0 = ⟨wb.heap.size, 0, none⟩ from rfl, cell_of_row _ _ _ _ _ _ nn]
          rfl)
        (by simp [Value.oneCell']) (by omega)
        (by
          intro j hj
          obtain rfl : j = 0 := by simp at hj; omega
          rw [hsome]; rfl)
        (by
          intro j hj
          obtain rfl : j = 0 := by simp at hj; omega
          exact frozen_of_row _ _ _ _ _ rn)
      have hset : wn.setCells R (0 + i * i0.size) [.int .u8 (z.toNat : Int)] = wn.setRow R (encB (part f n (i + 1))) := by
        rw [hi1, ← part_set, hfi.out]
        simp only [Nat.zero_add, Nat.mul_one, World.setCells]
        exact setCell_row _ _ _ _ _ _ rn
      rw [hset] at hap
      obtain ⟨wp, hwp⟩ : ∃ wp, wp = wn.setRow R (encB (part f n (i + 1))) := ⟨_, rfl⟩
      rw [← hwp] at hap
      have mp : Mod (fun k => k = R) wn wp := by rw [hwp]; exact Mod.one_setRow _ _ _
      have rp : wp.heap[R]? = some (.cells (encB (part f n (i + 1))) 5 (0,0)) := by rw [hwp]; exact setRow_heap _ _ _ _ _ _ rn
      have op := mp.heap on (by omega)
      have bp := mp.heap bn (by omega)
      have lp := mp.heap ln (by omega)
      have hSn : wp.cell? ⟨R + 1, 0, none⟩ = some (.slice (some ⟨R, 0, none⟩) i n) ∧ wp.cell? ⟨B, 0, none⟩ = some (.slice (some ⟨g, off, none⟩) n cap) ∧ wp.cell? ⟨g, off + i, none⟩ = some (.int .u8 (x.toNat : Int)) :=
        ⟨cell_mod mp (cell_mod mn hS0.1 (fun h => h)) (by omega), cell_mod mp (cell_mod mn hS0.2.1 (fun h => h)) (by omega), cell_mod mp (cell_mod mn hS0.2.2 (fun h => h)) (by omega)⟩
      clear hwp hset hsome rn nn
      refine anyZ_next 9 _ (some 48) rfl rfl (by kernel_rfl) rfl (.slice (some ⟨R, 0, none⟩) (i + 1) n) wp ?_ (fun _ => hSn) ?_
      · simp [execOp, resolve, invoke, builtin, Act.eval, hap, Result.andThen]
      simp only [Act.put, List.setIfInBounds_toArray, List.set_cons_zero, List.set_cons_succ]
      have fp := frozen_of_row wp (R + 1) 0 _ _ op
      have cp := hSn.1
      obtain ⟨wq, hwq⟩ : ∃ wq, wq = wp.setCell ⟨R + 1, 0, none⟩ (.slice (some ⟨R, 0, none⟩) (i + 1) n) := ⟨_, rfl⟩
      refine anyZ_skip 10 _ rfl rfl (by kernel_rfl) rfl wq ?_ (fun h => absurd rfl h) ?_
      · rw [hwq]
        go_simp
      refine anyZ_done (by kernel_rfl) ?_ _
      have hz : wq = wp.setRow (R + 1) #[.slice (some ⟨R, 0, none⟩) (i + 1) n] := by rw [hwq]; exact setCell_row _ _ _ _ _ _ op
      have mq : Mod (fun k => k = R + 1) wp wq := by rw [hz]; exact Mod.one_setRow _ _ _
      have rq := mq.heap rp (by omega)
      have bq := mq.heap bp (by omega)
      have lq := mq.heap lp (by omega)
      have oq : wq.heap[R + 1]? = some (.cells #[.slice (some ⟨R, 0, none⟩) (i + 1) n] 22 (0,0)) := by rw [hz]; exact setRow_heap _ _ _ _ _ _ op
      have mWq : Mod (fun k => k = R ∨ k = R + 1 ∨ k = s3 + 1) W wq := mb.out.trans ((mn.mono (fun k _ h => h.elim)).trans ((mp.mono fun k _ h => .inl h).trans (mq.mono fun k _ h => .inr (.inl h))))
      clear hz hwq mq mp mn hS0 hSn hwn hap op bp lp on bn ln rp cp fp ob bb lb rb cb mb
      replace mWq := Lib.hid mWq
      replace rq := Lib.hid rq
      have co : wq.cell? ⟨R + 1, 0, none⟩ = some (.slice (some ⟨R, 0, none⟩) (i + 1) n) := by rw [cell_of_row _ _ _ _ _ _ oq]; rfl
      have cb : wq.cell? ⟨B, 0, none⟩ = some (.slice (some ⟨g, off, none⟩) n cap) := by rw [cell_of_row _ _ _ _ _ _ bq]; rfl
      replace oq := Lib.hid oq
      replace bq := Lib.hid bq
      have hend : ∀ o, Mod (fun k => k = R ∨ k = R + 1 ∨ k = s3 + 1) W (wq.putObj (s3 + 1) o) ∧ Mod (fun k => k = R ∨ k = R + 1 ∨ k = s3 + 1 ∨ k = K + 1) W0 (wq.putObj (s3 + 1) o) ∧ (wq.putObj (s3 + 1) o).heap[R]? = some (.cells (encB (part f n (i + 1))) 5 (0,0)) ∧ (wq.putObj (s3 + 1) o).heap[R + 1]? = some (.cells #[.slice (some ⟨R, 0, none⟩) (i + 1) n] 22 (0,0)) := by
        intro o
        have h1 := Mod.one_putObj wq (s3 + 1) o
        have h2 := mWq.out.trans (h1.mono fun k _ h => .inr (.inr h))
        exact ⟨h2, mj.out.trans (h2.mono fun k _ h => by omega), h1.heap rq.out (by omega), h1.heap oq.out (by omega)⟩
      replace hend := Lib.hid hend
      by_cases hlast : i + 1 = n
      · have hb : (((i + 1 : Nat) : Int) == (n : Int)) = true := by rw [hlast]; simp
        gi_wp2_with (refine round_list (fun h => by obtain ⟨_, _, h⟩ := h; exact h) _ _ _ (by simp) ?_)
        go_wp2
        gi_wp2
        refine ⟨_, _, run_endRound _ lq, hQ.out _ _ (.inr ⟨rfl, ?_⟩)⟩
        rw [hStop.out, hJ.out]
        dsimp only
        obtain ⟨h1, h2, h3, h4⟩ := hend.out (.loop { rec with state := .done, pending := some (.exit 0) })
        rw [hlast] at h3 h4
        exact ⟨⟨h2, h3, h4⟩, heap_putObj lq⟩
      · have hb : (((i + 1 : Nat) : Int) == (n : Int)) = false := by simp; omega
        gi_wp2_with (refine round_list (fun h => by obtain ⟨_, _, h⟩ := h; exact h) _ _ _ (by simp) ?_)
        go_wp2
        gi_wp2
        refine ⟨_, _, run_endRound _ lq, hQ.out _ _ (.inl ⟨rfl, by omega, ?_, ?_, ?_, ?_, ?_⟩)⟩
        all_goals (obtain ⟨h1, h2, h3, h4⟩ := hend.out (.loop { rec with state := .ready, pending := none }))
        · rw [hJ.out]
          exact ⟨h2, h3, h4⟩
        · rw [← hst2]
          exact heap_putObj lq
        · exact h1.block _ (by omega) (by omega)
        · exact h1.block _ (by omega) (by omega)
        · exact h1.block _ (by omega) (by omega)
    · omega
    · rw [hJ]
      exact ⟨Mod.refl _ _, by rw [part_zero]; exact rW, oW⟩
    · rintro e W ⟨rfl, hst⟩
      rw [hStop] at hst
      obtain ⟨hj, lst⟩ := hst
      rw [hJ] at hj
      obtain ⟨mj, rj, oj⟩ := hj
      refine ⟨_, _, run_endLoop lst (by simp), ?_⟩
      dsimp only
      refine wpIn_wide.2 ?_
      have hw4 : ∀ w4, w4 = W.putObj (s3 + 1) (.loop { rec with state := .exhausted, pending := some (.exit 0) }) → Mod (fun k => k = R ∨ k = R + 1 ∨ k = s3 + 1 ∨ k = K + 1) W0 w4 ∧ w4.heap[R]? = some (.cells (encB (part f n n)) 5 (0,0)) ∧ w4.heap[R + 1]? = some (.cells #[.slice (some ⟨R, 0, none⟩) n n] 22 (0,0)) := by
        rintro w4 rfl
        have h1 := Mod.one_putObj W (s3 + 1) (.loop { rec with state := .exhausted, pending := some (.exit 0) })
        exact ⟨mj.trans (h1.mono fun k _ h => .inr (.inr (.inl h))), h1.heap rj (by omega), h1.heap oj (by omega)⟩
      refine wp_world fun w4 hw4' => ?_
      obtain ⟨m4, r4, o4⟩ := hw4 w4 hw4'
      clear hw4 hw4'
      have d4 := m4.heap dW (by omega)
      have co : w4.cell? ⟨R + 1, 0, none⟩ = some (.slice (some ⟨R, 0, none⟩) n n) := by rw [cell_of_row _ _ _ _ _ _ o4]; rfl
      have hfin : XorEnd key nonce count bs w (.returned (.tuple #[.slice (some ⟨R, 0, none⟩) n n, .int .i64 0])) (w4.putObj s3 (.deferred none)) := by
        have h1 := Mod.one_putObj w4 s3 (.deferred none)
        have h2 : Mod (fun k => ¬ k < w.heap.size) W0 (w4.putObj s3 (.deferred none)) := (m4.mono (by intro k _ h; omega)).trans (h1.mono (by intro k _ h; omega))
        refine ⟨m0W.trans' h2 (fun i hi h => h hi), .inr (.inr ⟨?_, ?_, R, by omega, ?_, ?_⟩)⟩
        · rw [ec.out, en.out, hq.out]; exact hov
        · intro h0
          have h1 := en.out
          rw [h0] at h1
          exact hne h1.symm
        · rw [en.out]
        · rw [h1.heap r4 (by omega), part_all, xorS, en.out, hf]
      replace hfin := Lib.hid hfin
      replace d4 := Lib.hid d4
      clear m4 r4 o4 mj rj oj lst hStop hJ bbW m0W dW lW kW cW nW bW rW oW hf hrec
      go_wp2
      refine bodyPostM_mark rfl d4.out (results_tmp2 rfl _ _ _) ?_
      exact hfin.out
end Go.Proofs.YtbiijcljpgannaaGreatDoor.Cc
