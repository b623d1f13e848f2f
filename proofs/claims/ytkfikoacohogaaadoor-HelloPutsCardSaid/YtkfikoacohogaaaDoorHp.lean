/-
  hello.Put: its walk. Printed by gen/hput.py.
-/
import Derived.Test.YtkfikoacohogaaaDoorHs
import Derived.Test.YtkfikoacohogaaaDoorMA
namespace Go.Proofs.YtkfikoacohogaaaDoor
set_option maxRecDepth 100000
open Go Go.RowKit
set_option linter.unusedSimpArgs false
set_option linter.unusedVariables false

def Fresh (w w' : World) (v : Value) (bs : List (BitVec 8)) : Prop := ByteAt w' v bs ∧ ∃ g, w.heap.size ≤ g ∧ v = .slice (some ⟨g, 0, none⟩) bs.length bs.length
def PutHEnd (h : HD) (w : World) (e : Ending) (w' : World) : Prop :=
  Mod (fun _ => False) w w' ∧ if HValid h then ∃ v, e = .returned (.tuple #[v, .int .i64 0]) ∧ Fresh w w' v (hput h) else e = .returned (.tuple #[.slice none 0 0, .int .i64 1])
def FreshR (w w' : World) (v : Value) (bs : List (BitVec 8)) : Prop := Fresh w w' v bs ∧ ClipR w' w.heap.size v bs.length (bytesV bs)
def PutHEndR (h : HD) (w : World) (e : Ending) (w' : World) : Prop :=
  Mod (fun _ => False) w w' ∧ if HValid h then ∃ v, e = .returned (.tuple #[v, .int .i64 0]) ∧ FreshR w w' v (hput h) else e = .returned (.tuple #[.slice none 0 0, .int .i64 1])

set_option maxRecDepth 100000 in
set_option maxHeartbeats 8000000 in
theorem hputR_any (h : HD) (o : h.Ok) (w : World) : Calls Tryd.prog 12 #[.agg (helloC h)] w (PutHEndR h w) := by
  have hmf : ∀ (fn : Fn) (first cap : Array Value) (w : World), (Instr.makeFunc fn first cap).run Tryd.prog w = .ok (.func fn first cap) w := fun _ _ _ _ => rfl
  obtain ⟨w1, hw1⟩ : ∃ w1, w1 = w.alloc (.cells (helloC h) 54) := ⟨_, rfl⟩
  have x1 : HelloAt w1 w.heap.size h := by rw [hw1]; exact hp_new _ _ _ rfl
  have m1 : Mod (fun _ => False) w w1 := by rw [hw1]; exact (Mod.refl _ _).alloc _
  have z1 : HelloAt (w1.alloc (.cells (helloC (hzero 0)) 54)) w1.heap.size (hzero 0) := hp_new _ _ _ rfl
  obtain ⟨w2, s2, m2, x2⟩ := hello_store (hzero_ok (by decide)) z1 (hzero_ok o.k)
  have c1 := hello_kind o x1
  have hlt : w.heap.size < w1.heap.size := lt_of_heap x1
  have lk1 := run_loadVar_one w1 w.heap.size 0 50 .u8 _ Tryd.underlying50 c1
  have xP2 : HelloAt w2 w.heap.size h := (x1.mod ((Mod.refl (fun _ => False) _).alloc _) (fun h => h)).mod m2 (by omega)
  have mA : Mod (fun _ => False) w w2 := m1.trans (((Mod.refl _ _).alloc _).trans' m2 (fun i hi h => by omega))
  have c2 := hello_kind o xP2
  have ok32 : z32.length = 32 := by simp [z32]
  generalize hk : h.k = k at *
  have hk256 : k < 256 := by rw [← hk]; exact o.k
  have xB2 : HelloAt w2 w1.heap.size ⟨k, z32, z4, z32⟩ := x2
  replace hw1 := Lib.hid hw1
  replace lk1 := Lib.hid lk1
  replace m1 := Lib.hid m1
  replace m2 := Lib.hid m2
  replace mA := Lib.hid mA
  replace x1 := Lib.hid x1
  replace xP2 := Lib.hid xP2
  replace xB2 := Lib.hid xB2
  replace hk := Lib.hid hk
  clear z1 x2
  have b0 : (0 : Int) ≤ (k : Int) := by omega
  by_cases k3 : k = 3
  · have k1 : ¬ k = 1 := by omega
    have e3 : ((k : Int) != 3) = false := by rw [bne_eq_false_iff_eq]; omega
    have e1 : ((k : Int) != 1) = true := by rw [bne_iff_ne]; omega
    have hlo : decide ((k : Int) < 1) = false := by rw [decide_eq_false_iff_not]; omega
    have hhi : decide ((3 : Int) < (k : Int)) = false := by rw [decide_eq_false_iff_not]; omega
    obtain ⟨w5, s5, m5, x5⟩ := hello_store_p (h := ⟨k, z32, z4, z32⟩) ⟨hk256, ok32, rfl, by simp [z4], ok32⟩ xB2.out o.p
    have xP5 := xP2.out.mod m5 (by omega)
    have xB5 : HelloAt w5 w1.heap.size ⟨k, z32, z4, h.p⟩ := x5
    have lp := hello_load_p o xP2.out
    have c5 := hello_kind o xP5
    rw [hk.out] at c5
    have lk5 := run_loadVar_one w5 w.heap.size 0 50 .u8 _ Tryd.underlying50 c5
    have mC : Mod (fun _ => False) w w5 := mA.out.trans' m5 (fun i hi h => by omega)
    replace mC := Lib.hid mC
    clear m5 x5
    have hbe : hbare h = (⟨k, z32, z4, h.p⟩ : HD) := by
      unfold hbare
      rw [hk.out]
      simp [k3, k1]
    have okB : HD.Ok (⟨k, z32, z4, h.p⟩ : HD) := ⟨hk256, ok32, rfl, by simp [z4], o.p⟩
    have lB := hello_load okB xB5
    have lP := hello_load o xP5
    have hg := fun (x y : Operand) (w : World) => run_eqGuard_agg (P := Tryd.prog) w .neq 54 x y (helloC (⟨k, z32, z4, h.p⟩ : HD)) (helloC h) (by kernel_rfl)
    have hn := fun (w : World) => hello_neq okB o w
    generalize hd : decide ((⟨k, z32, z4, h.p⟩ : HD) = h) = d at *
    replace k3 := Lib.hid k3
    replace k1 := Lib.hid k1
    replace hd := Lib.hid hd
    replace hbe := Lib.hid hbe
    replace hg := Lib.hid hg
    replace hn := Lib.hid hn
    cases d
    · skip
      go_enter Tryd.func12, Tryd.ntmps12
      go_upto_region 1 with (fail)
      rw [← hw1.out]
      refine wp_region_lit ?_
      refine wpList_reads (by kernel_rfl) (.pointer (some ⟨w.heap.size, 0, none⟩)) (by go_simp) ?_
      simp only [Act.put, List.setIfInBounds_toArray, List.set_cons_zero, List.set_cons_succ]
      refine wpList_reads (by kernel_rfl) (.int .u8 (k : Int)) (run_load_op rfl rfl lk1.out) ?_
      simp only [Act.put, List.setIfInBounds_toArray, List.set_cons_zero, List.set_cons_succ]
      refine wpList_yields (by kernel_rfl) _ _ (build_hello_op k _ _ _ _ rfl rfl) ?_
      simp only [Act.put, List.setIfInBounds_toArray, List.set_cons_zero, List.set_cons_succ]
      refine wpList_yields (by kernel_rfl) _ _ (alloc_hello _ _ _ rfl) ?_
      simp only [Act.put, List.setIfInBounds_toArray, List.set_cons_zero, List.set_cons_succ]
      refine wpList_store_to rfl _ _ _ rfl _ _ _ rfl rfl _ s2 ?_
      simp only [Act.put, List.setIfInBounds_toArray, List.set_cons_zero, List.set_cons_succ]
      go_upto_region 5 with (fail)
      refine wp_region_lit ?_
      refine wpList_reads (by kernel_rfl) (.pointer (some ⟨w.heap.size, 37, none⟩)) (by go_simp) ?_
      simp only [Act.put, List.setIfInBounds_toArray, List.set_cons_zero, List.set_cons_succ]
      refine wpList_reads (by kernel_rfl) (.agg (bytesV h.p).toArray) (run_load_op rfl rfl lp) ?_
      simp only [Act.put, List.setIfInBounds_toArray, List.set_cons_zero, List.set_cons_succ]
      refine wpList_reads (by kernel_rfl) (.pointer (some ⟨w1.heap.size, 37, none⟩)) (by go_simp) ?_
      simp only [Act.put, List.setIfInBounds_toArray, List.set_cons_zero, List.set_cons_succ]
      refine wpList_store_to rfl _ _ _ rfl _ _ _ rfl rfl _ s5 ?_
      simp only [Act.put, List.setIfInBounds_toArray, List.set_cons_zero, List.set_cons_succ]
      go_upto_region 6 with (fail)
      refine wp_region_lit ?_
      refine wpList_reads (by kernel_rfl) (.pointer (some ⟨w.heap.size, 0, none⟩)) (by go_simp) ?_
      simp only [Act.put, List.setIfInBounds_toArray, List.set_cons_zero, List.set_cons_succ]
      refine wpList_reads (by kernel_rfl) (.int .u8 (k : Int)) (run_load_op rfl rfl lk5) ?_
      simp only [Act.put, List.setIfInBounds_toArray, List.set_cons_zero, List.set_cons_succ]
      refine wpList_reads (by kernel_rfl) (.bool (decide ((k : Int) < 1))) (by go_simp) ?_
      simp only [Act.put, List.setIfInBounds_toArray, List.set_cons_zero, List.set_cons_succ]
      rw [hlo]
      refine wpList_reads (by kernel_rfl) (.bool false) (by go_simp) ?_
      simp only [Act.put, List.setIfInBounds_toArray, List.set_cons_zero, List.set_cons_succ]
      refine wpList_reads (by kernel_rfl) (.pointer (some ⟨w.heap.size, 0, none⟩)) (by go_simp) ?_
      simp only [Act.put, List.setIfInBounds_toArray, List.set_cons_zero, List.set_cons_succ]
      refine wpList_reads (by kernel_rfl) (.int .u8 (k : Int)) (run_load_op rfl rfl lk5) ?_
      simp only [Act.put, List.setIfInBounds_toArray, List.set_cons_zero, List.set_cons_succ]
      refine wpList_reads (by kernel_rfl) (.bool (decide ((3 : Int) < (k : Int)))) (by go_simp) ?_
      simp only [Act.put, List.setIfInBounds_toArray, List.set_cons_zero, List.set_cons_succ]
      rw [hhi]
      refine wpList_reads (by kernel_rfl) (.bool false) (by go_simp) ?_
      simp only [Act.put, List.setIfInBounds_toArray, List.set_cons_zero, List.set_cons_succ]
      refine wpList_reads (by kernel_rfl) (.bool false) (by go_simp) ?_
      simp only [Act.put, List.setIfInBounds_toArray, List.set_cons_zero, List.set_cons_succ]
      refine wpList_reads (by kernel_rfl) (.agg (helloC (⟨k, z32, z4, h.p⟩ : HD))) (run_load_op rfl rfl lB) ?_
      simp only [Act.put, List.setIfInBounds_toArray, List.set_cons_zero, List.set_cons_succ]
      refine wpList_reads (by kernel_rfl) (.agg (helloC h)) (run_load_op rfl rfl lP) ?_
      simp only [Act.put, List.setIfInBounds_toArray, List.set_cons_zero, List.set_cons_succ]
      refine wpList_reads (by kernel_rfl) (.bool (!false)) (run_bin_op rfl rfl rfl (hg.out _ _ _) (hn.out _)) ?_
      simp only [Act.put, List.setIfInBounds_toArray, List.set_cons_zero, List.set_cons_succ]
      refine wpList_reads (by kernel_rfl) (.bool (!false)) (by go_simp) ?_
      simp only [Act.put, List.setIfInBounds_toArray, List.set_cons_zero, List.set_cons_succ]
      go_wp2
      go_ret2
      refine ⟨mC.out, ?_⟩
      rw [if_neg (by rintro ⟨_, _, h3, _⟩; rw [hbe.out] at h3; have := hd.out; rw [decide_eq_false_iff_not] at this; exact this h3)]
      rfl
    · skip
      obtain ⟨w6, hw6⟩ : ∃ w6, w6 = (w5.alloc (.cells #[.int .u8 (k : Int)] 5)).alloc (.cells #[.slice (some ⟨w5.heap.size, 0, none⟩) 1 1] 27) := ⟨_, rfl⟩
      have ho6 : w6.heap[w5.heap.size + 1]? = some (.cells #[.slice (some ⟨w5.heap.size, 0, none⟩) 1 1] 27 (0,0)) := by rw [hw6]; exact hp_new _ _ _ (by simp)
      have hr6 : w6.heap[w5.heap.size]? = some (.cells (encB [BitVec.ofNat 8 k]) 5 (0,0)) := by
        rw [hw6, hp_old _ _ _ (by simp), show encB [BitVec.ofNat 8 k] = #[.int .u8 (k : Int)] by simp [encB, Nat.mod_eq_of_lt hk256]]
        exact hp_new _ _ _ rfl
      have own6 := own_of_row (B := w5.heap.size) (t := 5) (Nat.le_refl _) hr6 (by simp [maxLen])
      have m56 : Mod (fun _ => False) w5 w6 := by rw [hw6]; exact ((Mod.refl _ _).alloc _).alloc _
      have m6 : Mod (fun _ => False) w w6 := mC.out.trans m56
      have xP6 := xP5.mod m56 (fun h => h)
      have c6 := hello_kind o xP6
      rw [hk.out] at c6
      have hs5 := mC.out.size
      have hP6 : w.heap.size < w5.heap.size := by have := lt_of_heap xP5; omega
      have xP6k := xP6
      rw [hw6] at xP6k
      have c6' := hello_kind o xP6k
      rw [hk.out] at c6'
      replace hw6 := Lib.hid hw6
      replace ho6 := Lib.hid ho6
      replace hr6 := Lib.hid hr6
      replace own6 := Lib.hid own6
      replace m6 := Lib.hid m6
      replace xP6 := Lib.hid xP6
      clear m56 xP6k
      go_enter Tryd.func12, Tryd.ntmps12
      go_upto_region 1 with (fail)
      rw [← hw1.out]
      refine wp_region_lit ?_
      refine wpList_reads (by kernel_rfl) (.pointer (some ⟨w.heap.size, 0, none⟩)) (by go_simp) ?_
      simp only [Act.put, List.setIfInBounds_toArray, List.set_cons_zero, List.set_cons_succ]
      refine wpList_reads (by kernel_rfl) (.int .u8 (k : Int)) (run_load_op rfl rfl lk1.out) ?_
      simp only [Act.put, List.setIfInBounds_toArray, List.set_cons_zero, List.set_cons_succ]
      refine wpList_yields (by kernel_rfl) _ _ (build_hello_op k _ _ _ _ rfl rfl) ?_
      simp only [Act.put, List.setIfInBounds_toArray, List.set_cons_zero, List.set_cons_succ]
      refine wpList_yields (by kernel_rfl) _ _ (alloc_hello _ _ _ rfl) ?_
      simp only [Act.put, List.setIfInBounds_toArray, List.set_cons_zero, List.set_cons_succ]
      refine wpList_store_to rfl _ _ _ rfl _ _ _ rfl rfl _ s2 ?_
      simp only [Act.put, List.setIfInBounds_toArray, List.set_cons_zero, List.set_cons_succ]
      go_upto_region 5 with (fail)
      refine wp_region_lit ?_
      refine wpList_reads (by kernel_rfl) (.pointer (some ⟨w.heap.size, 37, none⟩)) (by go_simp) ?_
      simp only [Act.put, List.setIfInBounds_toArray, List.set_cons_zero, List.set_cons_succ]
      refine wpList_reads (by kernel_rfl) (.agg (bytesV h.p).toArray) (run_load_op rfl rfl lp) ?_
      simp only [Act.put, List.setIfInBounds_toArray, List.set_cons_zero, List.set_cons_succ]
      refine wpList_reads (by kernel_rfl) (.pointer (some ⟨w1.heap.size, 37, none⟩)) (by go_simp) ?_
      simp only [Act.put, List.setIfInBounds_toArray, List.set_cons_zero, List.set_cons_succ]
      refine wpList_store_to rfl _ _ _ rfl _ _ _ rfl rfl _ s5 ?_
      simp only [Act.put, List.setIfInBounds_toArray, List.set_cons_zero, List.set_cons_succ]
      go_upto_region 6 with (fail)
      refine wp_region_lit ?_
      refine wpList_reads (by kernel_rfl) (.pointer (some ⟨w.heap.size, 0, none⟩)) (by go_simp) ?_
      simp only [Act.put, List.setIfInBounds_toArray, List.set_cons_zero, List.set_cons_succ]
      refine wpList_reads (by kernel_rfl) (.int .u8 (k : Int)) (run_load_op rfl rfl lk5) ?_
      simp only [Act.put, List.setIfInBounds_toArray, List.set_cons_zero, List.set_cons_succ]
      refine wpList_reads (by kernel_rfl) (.bool (decide ((k : Int) < 1))) (by go_simp) ?_
      simp only [Act.put, List.setIfInBounds_toArray, List.set_cons_zero, List.set_cons_succ]
      rw [hlo]
      refine wpList_reads (by kernel_rfl) (.bool false) (by go_simp) ?_
      simp only [Act.put, List.setIfInBounds_toArray, List.set_cons_zero, List.set_cons_succ]
      refine wpList_reads (by kernel_rfl) (.pointer (some ⟨w.heap.size, 0, none⟩)) (by go_simp) ?_
      simp only [Act.put, List.setIfInBounds_toArray, List.set_cons_zero, List.set_cons_succ]
      refine wpList_reads (by kernel_rfl) (.int .u8 (k : Int)) (run_load_op rfl rfl lk5) ?_
      simp only [Act.put, List.setIfInBounds_toArray, List.set_cons_zero, List.set_cons_succ]
      refine wpList_reads (by kernel_rfl) (.bool (decide ((3 : Int) < (k : Int)))) (by go_simp) ?_
      simp only [Act.put, List.setIfInBounds_toArray, List.set_cons_zero, List.set_cons_succ]
      rw [hhi]
      refine wpList_reads (by kernel_rfl) (.bool false) (by go_simp) ?_
      simp only [Act.put, List.setIfInBounds_toArray, List.set_cons_zero, List.set_cons_succ]
      refine wpList_reads (by kernel_rfl) (.bool false) (by go_simp) ?_
      simp only [Act.put, List.setIfInBounds_toArray, List.set_cons_zero, List.set_cons_succ]
      refine wpList_reads (by kernel_rfl) (.agg (helloC (⟨k, z32, z4, h.p⟩ : HD))) (run_load_op rfl rfl lB) ?_
      simp only [Act.put, List.setIfInBounds_toArray, List.set_cons_zero, List.set_cons_succ]
      refine wpList_reads (by kernel_rfl) (.agg (helloC h)) (run_load_op rfl rfl lP) ?_
      simp only [Act.put, List.setIfInBounds_toArray, List.set_cons_zero, List.set_cons_succ]
      refine wpList_reads (by kernel_rfl) (.bool (!true)) (run_bin_op rfl rfl rfl (hg.out _ _ _) (hn.out _)) ?_
      simp only [Act.put, List.setIfInBounds_toArray, List.set_cons_zero, List.set_cons_succ]
      refine wpList_reads (by kernel_rfl) (.bool (!true)) (by go_simp) ?_
      simp only [Act.put, List.setIfInBounds_toArray, List.set_cons_zero, List.set_cons_succ]
      go_upto_region 10 with (fail)
      rw [← hw6.out]
      go_wp2_with (first | fail)
      refine (add_any (w5.heap.size + 1) w5.heap.size _ _ [BitVec.ofNat 8 k] h.p w6 (Nat.le_succ _) ho6.out own6.out (hello_bytes_p o xP6.out) (by rw [o.p]; simp)).mono ?_
      rintro e wl ⟨rfl, ml, vl, hol, ownl⟩
      obtain ⟨hnl, gl, capl, rfl, hgl, byl⟩ := fresh_of_own ownl (by rw [o.p]; omega)
      have cl := cell_of_one hol
      have byl' := byteAt_of_own ownl
      rw [hnl] at ownl
      have clr := ClipR.clip ownl
      have hend : ∀ v, v = .slice (some ⟨gl, 0, none⟩) (([BitVec.ofNat 8 k] ++ h.p)).length (([BitVec.ofNat 8 k] ++ h.p)).length → PutHEndR h w (.returned (.tuple #[v, .int .i64 0])) wl := by
        rintro v rfl
        refine ⟨m6.out.trans' ml (fun i hi h => by omega), ?_⟩
        have hv : HValid h := by
          have hdd := of_decide_eq_true hd.out
          have h3 := k3.out
          refine ⟨by rw [hk.out]; omega, by rw [hk.out]; omega, by rw [hbe.out]; exact hdd, ?_⟩
          rw [← hdd]
          simp [z4]
        have hp : hput h = ([BitVec.ofNat 8 k] ++ h.p) := by
          unfold hput
          rw [hk.out]
          simp [k3.out, k1.out]
        rw [if_pos hv, hp]
        exact ⟨_, rfl, ⟨byl, gl, by omega, rfl⟩, clip_base0 clr (by omega)⟩
      replace hend := Lib.hid hend
      clear ownl hol ml byl clr
      go_wp2_with fail
      refine (clip_any _ _ _ byl').mono ?_
      rintro e wz ⟨rfl, rfl⟩
      go_wp2
      go_ret2
      exact hend.out _ rfl
  · have e3 : ((k : Int) != 3) = true := by rw [bne_iff_ne]; omega
    have hw2d : HelloAt w2.drew w.heap.size h := xP2.out
    have x2d : HelloAt w2.drew w1.heap.size ⟨k, z32, z4, z32⟩ := xB2.out
    obtain ⟨w3, s3, m3, x3⟩ := hello_store_a (h := ⟨k, z32, z4, z32⟩) ⟨hk256, ok32, rfl, by simp [z4], ok32⟩ x2d o.a
    have x3' := hw2d.mod m3 (by omega)
    have xB3 : HelloAt w3 w1.heap.size ⟨k, h.a, z4, z32⟩ := x3
    obtain ⟨w4, s4, m4, x4⟩ := hello_store_l (h := ⟨k, h.a, z4, z32⟩) ⟨hk256, o.a, rfl, by simp [z4], ok32⟩ xB3 o.l
    have xP4 := x3'.mod m4 (by omega)
    have xB4 : HelloAt w4 w1.heap.size ⟨k, h.a, h.l, z32⟩ := x4
    have la' : ∀ w', HelloAt w' w.heap.size h → (loadVar 22 ⟨w.heap.size, 1, none⟩).run Tryd.prog w' = .ok (.agg (bytesV h.a).toArray) w' := fun w' x => hello_load_a o x
    have ll' : ∀ w', HelloAt w' w.heap.size h → (loadVar 52 ⟨w.heap.size, 33, none⟩).run Tryd.prog w' = .ok (.agg (nums .u64 h.l).toArray) w' := fun w' x => hello_load_l o x
    have mB : Mod (fun _ => False) w w4 := (mA.out.drew.trans' m3 (fun i hi h => by omega)).trans' m4 (fun i hi h => by omega)
    replace la' := Lib.hid la'
    replace ll' := Lib.hid ll'
    replace mB := Lib.hid mB
    have c4 := hello_kind o xP4
    rw [hk.out] at c4
    have xP4h := Lib.hid xP4
    replace xB4 := Lib.hid xB4
    clear m3 m4 x3 x4 xB3
    by_cases k1 : k = 1
    · have e1 : ((k : Int) != 1) = false := by rw [bne_eq_false_iff_eq]; omega
      have hlo : decide ((k : Int) < 1) = false := by rw [decide_eq_false_iff_not]; omega
      have hhi : decide ((3 : Int) < (k : Int)) = false := by rw [decide_eq_false_iff_not]; omega
      have lk5 := run_loadVar_one w4 w.heap.size 0 50 .u8 _ Tryd.underlying50 c4
      have hbe : hbare h = (⟨k, h.a, h.l, z32⟩ : HD) := by
        unfold hbare
        rw [hk.out]
        simp [k3, k1]
      have okB : HD.Ok (⟨k, h.a, h.l, z32⟩ : HD) := ⟨hk256, o.a, o.l, o.n, ok32⟩
      have lB := hello_load okB xB4.out
      have lP := hello_load o xP4
      have hg := fun (x y : Operand) (w : World) => run_eqGuard_agg (P := Tryd.prog) w .neq 54 x y (helloC (⟨k, h.a, h.l, z32⟩ : HD)) (helloC h) (by kernel_rfl)
      have hn := fun (w : World) => hello_neq okB o w
      generalize hd : decide ((⟨k, h.a, h.l, z32⟩ : HD) = h) = d at *
      replace k3 := Lib.hid k3
      replace k1 := Lib.hid k1
      replace hd := Lib.hid hd
      replace hbe := Lib.hid hbe
      replace hg := Lib.hid hg
      replace hn := Lib.hid hn
      cases d
      · skip
        go_enter Tryd.func12, Tryd.ntmps12
        go_upto_region 1 with (fail)
        rw [← hw1.out]
        refine wp_region_lit ?_
        refine wpList_reads (by kernel_rfl) (.pointer (some ⟨w.heap.size, 0, none⟩)) (by go_simp) ?_
        simp only [Act.put, List.setIfInBounds_toArray, List.set_cons_zero, List.set_cons_succ]
        refine wpList_reads (by kernel_rfl) (.int .u8 (k : Int)) (run_load_op rfl rfl lk1.out) ?_
        simp only [Act.put, List.setIfInBounds_toArray, List.set_cons_zero, List.set_cons_succ]
        refine wpList_yields (by kernel_rfl) _ _ (build_hello_op k _ _ _ _ rfl rfl) ?_
        simp only [Act.put, List.setIfInBounds_toArray, List.set_cons_zero, List.set_cons_succ]
        refine wpList_yields (by kernel_rfl) _ _ (alloc_hello _ _ _ rfl) ?_
        simp only [Act.put, List.setIfInBounds_toArray, List.set_cons_zero, List.set_cons_succ]
        refine wpList_store_to rfl _ _ _ rfl _ _ _ rfl rfl _ s2 ?_
        simp only [Act.put, List.setIfInBounds_toArray, List.set_cons_zero, List.set_cons_succ]
        go_upto_region 3 with (fail)
        refine wp_region_any (by kernel_rfl) (any_of_Z (S := fun w' => HelloAt w' w.heap.size h) (z := 99) _ _ _ _ ?_)
        simp only [List.size_toArray, List.length_cons, List.length_nil, Nat.reduceAdd, Array.replicate_succ, Array.replicate_zero, List.push_toArray, List.nil_append, List.cons_append]
        refine anyZ_take 0 _ (some 17) (.pointer (some ⟨w.heap.size, 1, none⟩)) rfl (by kernel_rfl) (by kernel_rfl) (by kernel_rfl) (by kernel_rfl) (by kernel_rfl) (by decide) rfl (fun w' hS => ?_) hw2d ?_
        · go_simp
        simp only [Act.put, List.setIfInBounds_toArray, List.set_cons_zero, List.set_cons_succ]
        refine anyZ_take 1 _ (some 18) (.agg (bytesV h.a).toArray) rfl (by kernel_rfl) (by kernel_rfl) (by kernel_rfl) (by kernel_rfl) (by kernel_rfl) (by decide) rfl (fun w' hS => ?_) hw2d ?_
        · exact run_load_op rfl rfl (la'.out _ hS)
        simp only [Act.put, List.setIfInBounds_toArray, List.set_cons_zero, List.set_cons_succ]
        refine anyZ_take 2 _ (some 19) (.pointer (some ⟨w.heap.size, 33, none⟩)) rfl (by kernel_rfl) (by kernel_rfl) (by kernel_rfl) (by kernel_rfl) (by kernel_rfl) (by decide) rfl (fun w' hS => ?_) hw2d ?_
        · go_simp
        simp only [Act.put, List.setIfInBounds_toArray, List.set_cons_zero, List.set_cons_succ]
        refine anyZ_take 3 _ (some 20) (.agg (nums .u64 h.l).toArray) rfl (by kernel_rfl) (by kernel_rfl) (by kernel_rfl) (by kernel_rfl) (by kernel_rfl) (by decide) rfl (fun w' hS => ?_) hw2d ?_
        · exact run_load_op rfl rfl (ll'.out _ hS)
        simp only [Act.put, List.setIfInBounds_toArray, List.set_cons_zero, List.set_cons_succ]
        refine anyZ_take 4 _ (some 21) (.pointer (some ⟨w1.heap.size, 1, none⟩)) rfl (by kernel_rfl) (by kernel_rfl) (by kernel_rfl) (by kernel_rfl) (by kernel_rfl) (by decide) rfl (fun w' hS => ?_) hw2d ?_
        · go_simp
        simp only [Act.put, List.setIfInBounds_toArray, List.set_cons_zero, List.set_cons_succ]
        refine anyZ_skip 5 _ rfl (by kernel_rfl) (by kernel_rfl) rfl (w3) ?_ (fun _ => x3') ?_
        · exact run_store_op rfl rfl rfl s3
        simp only [Act.put, List.setIfInBounds_toArray, List.set_cons_zero, List.set_cons_succ]
        refine anyZ_take 6 _ (some 22) (.pointer (some ⟨w1.heap.size, 33, none⟩)) rfl (by kernel_rfl) (by kernel_rfl) (by kernel_rfl) (by kernel_rfl) (by kernel_rfl) (by decide) rfl (fun w' hS => ?_) x3' ?_
        · go_simp
        simp only [Act.put, List.setIfInBounds_toArray, List.set_cons_zero, List.set_cons_succ]
        refine anyZ_skip 7 _ rfl (by kernel_rfl) (by kernel_rfl) rfl (w4) ?_ (fun _ => xP4) ?_
        · exact run_store_op rfl rfl rfl s4
        simp only [Act.put, List.setIfInBounds_toArray, List.set_cons_zero, List.set_cons_succ]
        refine anyZ_done (by kernel_rfl) ?_ _
        go_upto_region 6 with (fail)
        refine wp_region_lit ?_
        refine wpList_reads (by kernel_rfl) (.pointer (some ⟨w.heap.size, 0, none⟩)) (by go_simp) ?_
        simp only [Act.put, List.setIfInBounds_toArray, List.set_cons_zero, List.set_cons_succ]
        refine wpList_reads (by kernel_rfl) (.int .u8 (k : Int)) (run_load_op rfl rfl lk5) ?_
        simp only [Act.put, List.setIfInBounds_toArray, List.set_cons_zero, List.set_cons_succ]
        refine wpList_reads (by kernel_rfl) (.bool (decide ((k : Int) < 1))) (by go_simp) ?_
        simp only [Act.put, List.setIfInBounds_toArray, List.set_cons_zero, List.set_cons_succ]
        rw [hlo]
        refine wpList_reads (by kernel_rfl) (.bool false) (by go_simp) ?_
        simp only [Act.put, List.setIfInBounds_toArray, List.set_cons_zero, List.set_cons_succ]
        refine wpList_reads (by kernel_rfl) (.pointer (some ⟨w.heap.size, 0, none⟩)) (by go_simp) ?_
        simp only [Act.put, List.setIfInBounds_toArray, List.set_cons_zero, List.set_cons_succ]
        refine wpList_reads (by kernel_rfl) (.int .u8 (k : Int)) (run_load_op rfl rfl lk5) ?_
        simp only [Act.put, List.setIfInBounds_toArray, List.set_cons_zero, List.set_cons_succ]
        refine wpList_reads (by kernel_rfl) (.bool (decide ((3 : Int) < (k : Int)))) (by go_simp) ?_
        simp only [Act.put, List.setIfInBounds_toArray, List.set_cons_zero, List.set_cons_succ]
        rw [hhi]
        refine wpList_reads (by kernel_rfl) (.bool false) (by go_simp) ?_
        simp only [Act.put, List.setIfInBounds_toArray, List.set_cons_zero, List.set_cons_succ]
        refine wpList_reads (by kernel_rfl) (.bool false) (by go_simp) ?_
        simp only [Act.put, List.setIfInBounds_toArray, List.set_cons_zero, List.set_cons_succ]
        refine wpList_reads (by kernel_rfl) (.agg (helloC (⟨k, h.a, h.l, z32⟩ : HD))) (run_load_op rfl rfl lB) ?_
        simp only [Act.put, List.setIfInBounds_toArray, List.set_cons_zero, List.set_cons_succ]
        refine wpList_reads (by kernel_rfl) (.agg (helloC h)) (run_load_op rfl rfl lP) ?_
        simp only [Act.put, List.setIfInBounds_toArray, List.set_cons_zero, List.set_cons_succ]
        refine wpList_reads (by kernel_rfl) (.bool (!false)) (run_bin_op rfl rfl rfl (hg.out _ _ _) (hn.out _)) ?_
        simp only [Act.put, List.setIfInBounds_toArray, List.set_cons_zero, List.set_cons_succ]
        refine wpList_reads (by kernel_rfl) (.bool (!false)) (by go_simp) ?_
        simp only [Act.put, List.setIfInBounds_toArray, List.set_cons_zero, List.set_cons_succ]
        go_wp2
        go_ret2
        refine ⟨mB.out, ?_⟩
        rw [if_neg (by rintro ⟨_, _, h3, _⟩; rw [hbe.out] at h3; have := hd.out; rw [decide_eq_false_iff_not] at this; exact this h3)]
        rfl
      · skip
        obtain ⟨w6, hw6⟩ : ∃ w6, w6 = (w4.alloc (.cells #[.int .u8 (k : Int)] 5)).alloc (.cells #[.slice (some ⟨w4.heap.size, 0, none⟩) 1 1] 27) := ⟨_, rfl⟩
        have ho6 : w6.heap[w4.heap.size + 1]? = some (.cells #[.slice (some ⟨w4.heap.size, 0, none⟩) 1 1] 27 (0,0)) := by rw [hw6]; exact hp_new _ _ _ (by simp)
        have hr6 : w6.heap[w4.heap.size]? = some (.cells (encB [BitVec.ofNat 8 k]) 5 (0,0)) := by
          rw [hw6, hp_old _ _ _ (by simp), show encB [BitVec.ofNat 8 k] = #[.int .u8 (k : Int)] by simp [encB, Nat.mod_eq_of_lt hk256]]
          exact hp_new _ _ _ rfl
        have own6 := own_of_row (B := w4.heap.size) (t := 5) (Nat.le_refl _) hr6 (by simp [maxLen])
        have m56 : Mod (fun _ => False) w4 w6 := by rw [hw6]; exact ((Mod.refl _ _).alloc _).alloc _
        have m6 : Mod (fun _ => False) w w6 := mB.out.trans m56
        have xP6 := xP4.mod m56 (fun h => h)
        have c6 := hello_kind o xP6
        rw [hk.out] at c6
        have hs5 := mB.out.size
        have hP6 : w.heap.size < w4.heap.size := by have := lt_of_heap xP4; omega
        have xP6k := xP6
        rw [hw6] at xP6k
        have c6' := hello_kind o xP6k
        rw [hk.out] at c6'
        replace hw6 := Lib.hid hw6
        replace ho6 := Lib.hid ho6
        replace hr6 := Lib.hid hr6
        replace own6 := Lib.hid own6
        replace m6 := Lib.hid m6
        replace xP6 := Lib.hid xP6
        clear m56 xP6k
        go_enter Tryd.func12, Tryd.ntmps12
        go_upto_region 1 with (fail)
        rw [← hw1.out]
        refine wp_region_lit ?_
        refine wpList_reads (by kernel_rfl) (.pointer (some ⟨w.heap.size, 0, none⟩)) (by go_simp) ?_
        simp only [Act.put, List.setIfInBounds_toArray, List.set_cons_zero, List.set_cons_succ]
        refine wpList_reads (by kernel_rfl) (.int .u8 (k : Int)) (run_load_op rfl rfl lk1.out) ?_
        simp only [Act.put, List.setIfInBounds_toArray, List.set_cons_zero, List.set_cons_succ]
        refine wpList_yields (by kernel_rfl) _ _ (build_hello_op k _ _ _ _ rfl rfl) ?_
        simp only [Act.put, List.setIfInBounds_toArray, List.set_cons_zero, List.set_cons_succ]
        refine wpList_yields (by kernel_rfl) _ _ (alloc_hello _ _ _ rfl) ?_
        simp only [Act.put, List.setIfInBounds_toArray, List.set_cons_zero, List.set_cons_succ]
        refine wpList_store_to rfl _ _ _ rfl _ _ _ rfl rfl _ s2 ?_
        simp only [Act.put, List.setIfInBounds_toArray, List.set_cons_zero, List.set_cons_succ]
        go_upto_region 3 with (fail)
        refine wp_region_any (by kernel_rfl) (any_of_Z (S := fun w' => HelloAt w' w.heap.size h) (z := 99) _ _ _ _ ?_)
        simp only [List.size_toArray, List.length_cons, List.length_nil, Nat.reduceAdd, Array.replicate_succ, Array.replicate_zero, List.push_toArray, List.nil_append, List.cons_append]
        refine anyZ_take 0 _ (some 17) (.pointer (some ⟨w.heap.size, 1, none⟩)) rfl (by kernel_rfl) (by kernel_rfl) (by kernel_rfl) (by kernel_rfl) (by kernel_rfl) (by decide) rfl (fun w' hS => ?_) hw2d ?_
        · go_simp
        simp only [Act.put, List.setIfInBounds_toArray, List.set_cons_zero, List.set_cons_succ]
        refine anyZ_take 1 _ (some 18) (.agg (bytesV h.a).toArray) rfl (by kernel_rfl) (by kernel_rfl) (by kernel_rfl) (by kernel_rfl) (by kernel_rfl) (by decide) rfl (fun w' hS => ?_) hw2d ?_
        · exact run_load_op rfl rfl (la'.out _ hS)
        simp only [Act.put, List.setIfInBounds_toArray, List.set_cons_zero, List.set_cons_succ]
        refine anyZ_take 2 _ (some 19) (.pointer (some ⟨w.heap.size, 33, none⟩)) rfl (by kernel_rfl) (by kernel_rfl) (by kernel_rfl) (by kernel_rfl) (by kernel_rfl) (by decide) rfl (fun w' hS => ?_) hw2d ?_
        · go_simp
        simp only [Act.put, List.setIfInBounds_toArray, List.set_cons_zero, List.set_cons_succ]
        refine anyZ_take 3 _ (some 20) (.agg (nums .u64 h.l).toArray) rfl (by kernel_rfl) (by kernel_rfl) (by kernel_rfl) (by kernel_rfl) (by kernel_rfl) (by decide) rfl (fun w' hS => ?_) hw2d ?_
        · exact run_load_op rfl rfl (ll'.out _ hS)
        simp only [Act.put, List.setIfInBounds_toArray, List.set_cons_zero, List.set_cons_succ]
        refine anyZ_take 4 _ (some 21) (.pointer (some ⟨w1.heap.size, 1, none⟩)) rfl (by kernel_rfl) (by kernel_rfl) (by kernel_rfl) (by kernel_rfl) (by kernel_rfl) (by decide) rfl (fun w' hS => ?_) hw2d ?_
        · go_simp
        simp only [Act.put, List.setIfInBounds_toArray, List.set_cons_zero, List.set_cons_succ]
        refine anyZ_skip 5 _ rfl (by kernel_rfl) (by kernel_rfl) rfl (w3) ?_ (fun _ => x3') ?_
        · exact run_store_op rfl rfl rfl s3
        simp only [Act.put, List.setIfInBounds_toArray, List.set_cons_zero, List.set_cons_succ]
        refine anyZ_take 6 _ (some 22) (.pointer (some ⟨w1.heap.size, 33, none⟩)) rfl (by kernel_rfl) (by kernel_rfl) (by kernel_rfl) (by kernel_rfl) (by kernel_rfl) (by decide) rfl (fun w' hS => ?_) x3' ?_
        · go_simp
        simp only [Act.put, List.setIfInBounds_toArray, List.set_cons_zero, List.set_cons_succ]
        refine anyZ_skip 7 _ rfl (by kernel_rfl) (by kernel_rfl) rfl (w4) ?_ (fun _ => xP4) ?_
        · exact run_store_op rfl rfl rfl s4
        simp only [Act.put, List.setIfInBounds_toArray, List.set_cons_zero, List.set_cons_succ]
        refine anyZ_done (by kernel_rfl) ?_ _
        go_upto_region 6 with (fail)
        refine wp_region_lit ?_
        refine wpList_reads (by kernel_rfl) (.pointer (some ⟨w.heap.size, 0, none⟩)) (by go_simp) ?_
        simp only [Act.put, List.setIfInBounds_toArray, List.set_cons_zero, List.set_cons_succ]
        refine wpList_reads (by kernel_rfl) (.int .u8 (k : Int)) (run_load_op rfl rfl lk5) ?_
        simp only [Act.put, List.setIfInBounds_toArray, List.set_cons_zero, List.set_cons_succ]
        refine wpList_reads (by kernel_rfl) (.bool (decide ((k : Int) < 1))) (by go_simp) ?_
        simp only [Act.put, List.setIfInBounds_toArray, List.set_cons_zero, List.set_cons_succ]
        rw [hlo]
        refine wpList_reads (by kernel_rfl) (.bool false) (by go_simp) ?_
        simp only [Act.put, List.setIfInBounds_toArray, List.set_cons_zero, List.set_cons_succ]
        refine wpList_reads (by kernel_rfl) (.pointer (some ⟨w.heap.size, 0, none⟩)) (by go_simp) ?_
        simp only [Act.put, List.setIfInBounds_toArray, List.set_cons_zero, List.set_cons_succ]
        refine wpList_reads (by kernel_rfl) (.int .u8 (k : Int)) (run_load_op rfl rfl lk5) ?_
        simp only [Act.put, List.setIfInBounds_toArray, List.set_cons_zero, List.set_cons_succ]
        refine wpList_reads (by kernel_rfl) (.bool (decide ((3 : Int) < (k : Int)))) (by go_simp) ?_
        simp only [Act.put, List.setIfInBounds_toArray, List.set_cons_zero, List.set_cons_succ]
        rw [hhi]
        refine wpList_reads (by kernel_rfl) (.bool false) (by go_simp) ?_
        simp only [Act.put, List.setIfInBounds_toArray, List.set_cons_zero, List.set_cons_succ]
        refine wpList_reads (by kernel_rfl) (.bool false) (by go_simp) ?_
        simp only [Act.put, List.setIfInBounds_toArray, List.set_cons_zero, List.set_cons_succ]
        refine wpList_reads (by kernel_rfl) (.agg (helloC (⟨k, h.a, h.l, z32⟩ : HD))) (run_load_op rfl rfl lB) ?_
        simp only [Act.put, List.setIfInBounds_toArray, List.set_cons_zero, List.set_cons_succ]
        refine wpList_reads (by kernel_rfl) (.agg (helloC h)) (run_load_op rfl rfl lP) ?_
        simp only [Act.put, List.setIfInBounds_toArray, List.set_cons_zero, List.set_cons_succ]
        refine wpList_reads (by kernel_rfl) (.bool (!true)) (run_bin_op rfl rfl rfl (hg.out _ _ _) (hn.out _)) ?_
        simp only [Act.put, List.setIfInBounds_toArray, List.set_cons_zero, List.set_cons_succ]
        refine wpList_reads (by kernel_rfl) (.bool (!true)) (by go_simp) ?_
        simp only [Act.put, List.setIfInBounds_toArray, List.set_cons_zero, List.set_cons_succ]
        go_upto_region 10 with (fail)
        rw [← hw6.out]
        go_wp2_with fail
        refine (add_any (w4.heap.size + 1) w4.heap.size _ _ [BitVec.ofNat 8 k] h.a w6 (Nat.le_succ _) ho6.out own6.out (hello_bytes_a o xP6.out) (by rw [o.a]; simp)).mono ?_
        rintro e w7 ⟨rfl, m7, v7, ho7, own7⟩
        have xP7 := xP6.out.mod m7 (by omega)
        have m07 : Mod (fun _ => False) w w7 := m6.out.trans' m7 (fun i hi h => by omega)
        have ll7 := hello_load_l o xP7
        have c7 := hello_kind o xP7
        rw [hk.out] at c7
        have hC7 : w4.heap.size ≤ w7.heap.size := by have := lt_of_heap ho7; omega
        obtain ⟨L, hL⟩ : ∃ L, L = h.l := ⟨_, rfl⟩
        have hL4 : L.length = 4 := by rw [hL]; exact o.l
        have hLn : ∀ x ∈ L, x < 18446744073709551616 := by rw [hL]; exact o.n
        rw [← hL] at ll7
        replace hL := Lib.hid hL
        replace hL4 := Lib.hid hL4
        replace hLn := Lib.hid hLn
        replace xP7 := Lib.hid xP7
        replace m07 := Lib.hid m07
        replace own7 := Lib.hid own7
        replace ho7 := Lib.hid ho7
        clear m7
        go_upto_region 12 with (fail)
        refine wp_region_lit ?_
        refine wpList_reads (by kernel_rfl) (.pointer (some ⟨w.heap.size, 33, none⟩)) (by go_simp) ?_
        simp only [Act.put, List.setIfInBounds_toArray, List.set_cons_zero, List.set_cons_succ]
        refine wpList_reads (by kernel_rfl) (.agg (nums .u64 L).toArray) (run_load_op rfl rfl ll7) ?_
        simp only [Act.put, List.setIfInBounds_toArray, List.set_cons_zero, List.set_cons_succ]
        refine wpList_reads (by kernel_rfl) (.int .i64 0) (by go_simp) ?_
        simp only [Act.put, List.setIfInBounds_toArray, List.set_cons_zero, List.set_cons_succ]
        go_wp2
        go_loopw [55] (fun nv wr => ∃ i : Nat, i ≤ 4 ∧ nv = .int .i64 i ∧ Mod (fun k => w4.heap.size ≤ k) w7 wr ∧ (∃ v, wr.heap[w4.heap.size + 1]? = some (.cells #[v] 27 (0,0)) ∧ wr.ownsRow w4.heap.size 5 1 v (([BitVec.ofNat 8 k] ++ h.a) ++ (L.take i).flatMap vput).length (bytesV (([BitVec.ofNat 8 k] ++ h.a) ++ (L.take i).flatMap vput))) ∧ ∀ x ∈ L.take i, x < 4611686018427387904) (fun nv _ => 4 - (intOf nv).toNat)
        case atStart => exact ⟨0, by omega, rfl, Mod.refl _ _, ⟨v7, ho7.out, by simpa [Nat.add_comm] using own7.out⟩, by simp⟩
        case round =>
          obtain ⟨i, hi, rfl, mr, ⟨vr, hor, ownr⟩, hall⟩ := hrel
          have bi0 : (0 : Int) ≤ (i : Int) := by omega
          have bi4 : (i : Int) ≤ 4 := by omega
          have xPr := xP7.out.mod mr (by omega)
          have m0r : Mod (fun _ => False) w wr := m07.out.trans' mr (fun i hi h => by omega)
          by_cases hlt : i < 4
          · have hd4 : decide ((i : Int) < 4) = true := by rw [decide_eq_true_iff]; omega
            have hidx := index_nums (P := Tryd.prog) wr 52 51 4 .u64 Tryd.underlying52 Tryd.underlying51 (fun _ => by kernel_rfl) L i hlt hL4.out
            obtain ⟨x, hx⟩ : ∃ x, x = L.getD i 0 := ⟨_, rfl⟩
            rw [← hx] at hidx
            have hxL : x ∈ L := by
              rw [hx, List.getD_eq_getElem?_getD, List.getElem?_eq_getElem (by rw [hL4.out]; exact hlt)]
              exact List.getElem_mem _
            have htk : L.take (i + 1) = L.take i ++ [x] := by
              rw [List.take_add_one, hx, List.getD_eq_getElem?_getD, List.getElem?_eq_getElem (by rw [hL4.out]; exact hlt)]
              rfl
            replace mr := Lib.hid mr
            replace hor := Lib.hid hor
            replace ownr := Lib.hid ownr
            replace hall := Lib.hid hall
            replace xPr := Lib.hid xPr
            replace m0r := Lib.hid m0r
            replace hx := Lib.hid hx
            replace htk := Lib.hid htk
            have hx64 := hLn.out x hxL
            replace hxL := Lib.hid hxL
            clear hlt hi
            go_wp2_with fail
            refine (vput_any x wr hx64).mono ?_
            rintro e w8 ⟨m8, h8⟩
            by_cases hx62 : x < 4611686018427387904
            · rw [if_pos hx62] at h8
              obtain ⟨v8, rfl, own8⟩ := h8
              have ho8 := m8.heap hor.out (fun h => h)
              have ownr8 := ownsRow_mod ownr.out m8 (fun _ _ h => h)
              have by8 := byteAt_of_own own8
              have hlen : (([BitVec.ofNat 8 k] ++ h.a) ++ (L.take i).flatMap vput).length + (vput x).length ≤ 140737488355327 := by
                have h1 := vputs_len (L.take i)
                have h2 := List.length_take_le i L
                have h3 := vputs_len [x]
                rw [List.flatMap_singleton] at h3
                simp only [List.length_append, List.length_cons, List.length_nil, o.a] at *
                omega
              replace ho8 := Lib.hid ho8
              replace ownr8 := Lib.hid ownr8
              replace by8 := Lib.hid by8
              replace hlen := Lib.hid hlen
              replace m8 := Lib.hid m8
              clear own8
              go_wp2_with fail
              refine (add_any (w4.heap.size + 1) w4.heap.size _ _ (([BitVec.ofNat 8 k] ++ h.a) ++ (L.take i).flatMap vput) (vput x) w8 (Nat.le_succ _) ho8.out ownr8.out by8.out hlen.out).mono ?_
              rintro e w9 ⟨rfl, m9, v9, ho9, own9⟩
              go_wp2
              go_roundw
              case measure => have := of_decide_eq_true hd4; simp [intOf]; omega
              case rel =>
                refine ⟨i + 1, by have := of_decide_eq_true hd4; omega, by go_num, (mr.out.trans' m8.out (fun _ _ h => h.elim)).trans m9, ⟨v9, ho9, ?_⟩, ?_⟩
                · rw [htk.out, List.flatMap_append, List.flatMap_singleton, ← List.append_assoc, List.length_append]
                  exact own9
                · rw [htk.out]
                  intro y hy
                  rcases List.mem_append.1 hy with hy | hy
                  · exact hall.out y hy
                  · rw [List.mem_singleton.1 hy]; exact hx62
            · rw [if_neg hx62] at h8
              subst h8
              have hnv : ¬ HValid h := by
                rintro ⟨_, _, _, h4⟩
                exact hx62 (h4 x (by rw [← hL.out]; exact hxL.out))
              have m08 := m0r.out.trans m8
              replace hnv := Lib.hid hnv
              replace m08 := Lib.hid m08
              clear m8
              go_wp2
              go_ret2
              refine ⟨m08.out, ?_⟩
              rw [if_neg hnv.out]
              rfl
          · obtain rfl : i = 4 := by omega
            rw [List.take_of_length_le (by rw [hL4.out]; exact Nat.le_refl _)] at ownr hall
            have hd4 : decide (((4 : Nat) : Int) < 4) = false := by decide
            have cr := hello_kind o xPr
            rw [hk.out] at cr
            replace mr := Lib.hid mr
            replace hor := Lib.hid hor
            replace ownr := Lib.hid ownr
            replace hall := Lib.hid hall
            replace xPr := Lib.hid xPr
            replace m0r := Lib.hid m0r
            clear hlt hi
            obtain ⟨wl, hwl⟩ : ∃ wl, wl = wr := ⟨_, rfl⟩
            have ml := Mod.refl (fun k => w4.heap.size ≤ k) wl
            have ownl := ownr.out
            have hol := hor.out
            rw [← hwl] at ownl hol
            subst hwl
            obtain ⟨R, hR⟩ : ∃ R, R = (([BitVec.ofNat 8 k] ++ h.a) ++ L.flatMap vput) := ⟨_, rfl⟩
            rw [← hR] at ownl
            have hR0 : 0 < R.length := by rw [hR]; simp
            replace hR := Lib.hid hR
            obtain ⟨hnl, gl, capl, rfl, hgl, byl⟩ := fresh_of_own ownl (hR0)
            have cl := cell_of_one hol
            have byl' := byteAt_of_own ownl
            rw [hnl] at ownl
            have clr := ClipR.clip ownl
            have hend : ∀ v, v = .slice (some ⟨gl, 0, none⟩) (R).length (R).length → PutHEndR h w (.returned (.tuple #[v, .int .i64 0])) wl := by
              rintro v rfl
              refine ⟨m0r.out.trans' ml (fun i hi h => by omega), ?_⟩
              have hv : HValid h := by
                have hdd := of_decide_eq_true hd.out
                have hkk := k1.out
                exact ⟨by rw [hk.out]; omega, by rw [hk.out]; omega, by rw [hbe.out]; exact hdd, fun x hx => hall.out x (by rw [hL.out]; exact hx)⟩
              have hp : hput h = R := by
                unfold hput
                rw [hk.out]
                rw [hR.out]; simp [k3.out, k1.out, hL.out]
              rw [if_pos hv, hp]
              exact ⟨_, rfl, ⟨byl, gl, by omega, rfl⟩, clip_base0 clr (by omega)⟩
            replace hend := Lib.hid hend
            clear ownl hol ml byl clr
            go_wp2_with fail
            refine (clip_any _ _ _ byl').mono ?_
            rintro e wz ⟨rfl, rfl⟩
            go_wp2
            go_ret2
            exact hend.out _ rfl
    · have e1 : ((k : Int) != 1) = true := by rw [bne_iff_ne]; omega
      obtain ⟨w5, s5, m5, x5⟩ := hello_store_p (h := ⟨k, h.a, h.l, z32⟩) ⟨hk256, o.a, o.l, o.n, ok32⟩ xB4.out o.p
      have xP5 := xP4h.out.mod m5 (by omega)
      have xB5 : HelloAt w5 w1.heap.size ⟨k, h.a, h.l, h.p⟩ := x5
      have lp := hello_load_p o xP4h.out
      have c5 := hello_kind o xP5
      rw [hk.out] at c5
      have lk5 := run_loadVar_one w5 w.heap.size 0 50 .u8 _ Tryd.underlying50 c5
      have mC : Mod (fun _ => False) w w5 := mB.out.trans' m5 (fun i hi h => by omega)
      replace mC := Lib.hid mC
      clear m5 x5
      by_cases k2 : k = 2
      · skip
        have hlo : decide ((k : Int) < 1) = false := by rw [decide_eq_false_iff_not]; omega
        have hhi : decide ((3 : Int) < (k : Int)) = false := by rw [decide_eq_false_iff_not]; omega
        replace k2 := Lib.hid k2
        have hbe : hbare h = (⟨k, h.a, h.l, h.p⟩ : HD) := by
          unfold hbare
          rw [hk.out]
          simp [k3, k1]
        have okB : HD.Ok (⟨k, h.a, h.l, h.p⟩ : HD) := ⟨hk256, o.a, o.l, o.n, o.p⟩
        have lB := hello_load okB xB5
        have lP := hello_load o xP5
        have hg := fun (x y : Operand) (w : World) => run_eqGuard_agg (P := Tryd.prog) w .neq 54 x y (helloC (⟨k, h.a, h.l, h.p⟩ : HD)) (helloC h) (by kernel_rfl)
        have hn := fun (w : World) => hello_neq okB o w
        generalize hd : decide ((⟨k, h.a, h.l, h.p⟩ : HD) = h) = d at *
        replace k3 := Lib.hid k3
        replace k1 := Lib.hid k1
        replace hd := Lib.hid hd
        replace hbe := Lib.hid hbe
        replace hg := Lib.hid hg
        replace hn := Lib.hid hn
        cases d
        · skip
          go_enter Tryd.func12, Tryd.ntmps12
          go_upto_region 1 with (fail)
          rw [← hw1.out]
          refine wp_region_lit ?_
          refine wpList_reads (by kernel_rfl) (.pointer (some ⟨w.heap.size, 0, none⟩)) (by go_simp) ?_
          simp only [Act.put, List.setIfInBounds_toArray, List.set_cons_zero, List.set_cons_succ]
          refine wpList_reads (by kernel_rfl) (.int .u8 (k : Int)) (run_load_op rfl rfl lk1.out) ?_
          simp only [Act.put, List.setIfInBounds_toArray, List.set_cons_zero, List.set_cons_succ]
          refine wpList_yields (by kernel_rfl) _ _ (build_hello_op k _ _ _ _ rfl rfl) ?_
          simp only [Act.put, List.setIfInBounds_toArray, List.set_cons_zero, List.set_cons_succ]
          refine wpList_yields (by kernel_rfl) _ _ (alloc_hello _ _ _ rfl) ?_
          simp only [Act.put, List.setIfInBounds_toArray, List.set_cons_zero, List.set_cons_succ]
          refine wpList_store_to rfl _ _ _ rfl _ _ _ rfl rfl _ s2 ?_
          simp only [Act.put, List.setIfInBounds_toArray, List.set_cons_zero, List.set_cons_succ]
          go_upto_region 3 with (fail)
          refine wp_region_any (by kernel_rfl) (any_of_Z (S := fun w' => HelloAt w' w.heap.size h) (z := 99) _ _ _ _ ?_)
          simp only [List.size_toArray, List.length_cons, List.length_nil, Nat.reduceAdd, Array.replicate_succ, Array.replicate_zero, List.push_toArray, List.nil_append, List.cons_append]
          refine anyZ_take 0 _ (some 17) (.pointer (some ⟨w.heap.size, 1, none⟩)) rfl (by kernel_rfl) (by kernel_rfl) (by kernel_rfl) (by kernel_rfl) (by kernel_rfl) (by decide) rfl (fun w' hS => ?_) hw2d ?_
          · go_simp
          simp only [Act.put, List.setIfInBounds_toArray, List.set_cons_zero, List.set_cons_succ]
          refine anyZ_take 1 _ (some 18) (.agg (bytesV h.a).toArray) rfl (by kernel_rfl) (by kernel_rfl) (by kernel_rfl) (by kernel_rfl) (by kernel_rfl) (by decide) rfl (fun w' hS => ?_) hw2d ?_
          · exact run_load_op rfl rfl (la'.out _ hS)
          simp only [Act.put, List.setIfInBounds_toArray, List.set_cons_zero, List.set_cons_succ]
          refine anyZ_take 2 _ (some 19) (.pointer (some ⟨w.heap.size, 33, none⟩)) rfl (by kernel_rfl) (by kernel_rfl) (by kernel_rfl) (by kernel_rfl) (by kernel_rfl) (by decide) rfl (fun w' hS => ?_) hw2d ?_
          · go_simp
          simp only [Act.put, List.setIfInBounds_toArray, List.set_cons_zero, List.set_cons_succ]
          refine anyZ_take 3 _ (some 20) (.agg (nums .u64 h.l).toArray) rfl (by kernel_rfl) (by kernel_rfl) (by kernel_rfl) (by kernel_rfl) (by kernel_rfl) (by decide) rfl (fun w' hS => ?_) hw2d ?_
          · exact run_load_op rfl rfl (ll'.out _ hS)
          simp only [Act.put, List.setIfInBounds_toArray, List.set_cons_zero, List.set_cons_succ]
          refine anyZ_take 4 _ (some 21) (.pointer (some ⟨w1.heap.size, 1, none⟩)) rfl (by kernel_rfl) (by kernel_rfl) (by kernel_rfl) (by kernel_rfl) (by kernel_rfl) (by decide) rfl (fun w' hS => ?_) hw2d ?_
          · go_simp
          simp only [Act.put, List.setIfInBounds_toArray, List.set_cons_zero, List.set_cons_succ]
          refine anyZ_skip 5 _ rfl (by kernel_rfl) (by kernel_rfl) rfl (w3) ?_ (fun _ => x3') ?_
          · exact run_store_op rfl rfl rfl s3
          simp only [Act.put, List.setIfInBounds_toArray, List.set_cons_zero, List.set_cons_succ]
          refine anyZ_take 6 _ (some 22) (.pointer (some ⟨w1.heap.size, 33, none⟩)) rfl (by kernel_rfl) (by kernel_rfl) (by kernel_rfl) (by kernel_rfl) (by kernel_rfl) (by decide) rfl (fun w' hS => ?_) x3' ?_
          · go_simp
          simp only [Act.put, List.setIfInBounds_toArray, List.set_cons_zero, List.set_cons_succ]
          refine anyZ_skip 7 _ rfl (by kernel_rfl) (by kernel_rfl) rfl (w4) ?_ (fun _ => xP4) ?_
          · exact run_store_op rfl rfl rfl s4
          simp only [Act.put, List.setIfInBounds_toArray, List.set_cons_zero, List.set_cons_succ]
          refine anyZ_done (by kernel_rfl) ?_ _
          go_upto_region 5 with (fail)
          refine wp_region_lit ?_
          refine wpList_reads (by kernel_rfl) (.pointer (some ⟨w.heap.size, 37, none⟩)) (by go_simp) ?_
          simp only [Act.put, List.setIfInBounds_toArray, List.set_cons_zero, List.set_cons_succ]
          refine wpList_reads (by kernel_rfl) (.agg (bytesV h.p).toArray) (run_load_op rfl rfl lp) ?_
          simp only [Act.put, List.setIfInBounds_toArray, List.set_cons_zero, List.set_cons_succ]
          refine wpList_reads (by kernel_rfl) (.pointer (some ⟨w1.heap.size, 37, none⟩)) (by go_simp) ?_
          simp only [Act.put, List.setIfInBounds_toArray, List.set_cons_zero, List.set_cons_succ]
          refine wpList_store_to rfl _ _ _ rfl _ _ _ rfl rfl _ s5 ?_
          simp only [Act.put, List.setIfInBounds_toArray, List.set_cons_zero, List.set_cons_succ]
          go_upto_region 6 with (fail)
          refine wp_region_lit ?_
          refine wpList_reads (by kernel_rfl) (.pointer (some ⟨w.heap.size, 0, none⟩)) (by go_simp) ?_
          simp only [Act.put, List.setIfInBounds_toArray, List.set_cons_zero, List.set_cons_succ]
          refine wpList_reads (by kernel_rfl) (.int .u8 (k : Int)) (run_load_op rfl rfl lk5) ?_
          simp only [Act.put, List.setIfInBounds_toArray, List.set_cons_zero, List.set_cons_succ]
          refine wpList_reads (by kernel_rfl) (.bool (decide ((k : Int) < 1))) (by go_simp) ?_
          simp only [Act.put, List.setIfInBounds_toArray, List.set_cons_zero, List.set_cons_succ]
          rw [hlo]
          refine wpList_reads (by kernel_rfl) (.bool false) (by go_simp) ?_
          simp only [Act.put, List.setIfInBounds_toArray, List.set_cons_zero, List.set_cons_succ]
          refine wpList_reads (by kernel_rfl) (.pointer (some ⟨w.heap.size, 0, none⟩)) (by go_simp) ?_
          simp only [Act.put, List.setIfInBounds_toArray, List.set_cons_zero, List.set_cons_succ]
          refine wpList_reads (by kernel_rfl) (.int .u8 (k : Int)) (run_load_op rfl rfl lk5) ?_
          simp only [Act.put, List.setIfInBounds_toArray, List.set_cons_zero, List.set_cons_succ]
          refine wpList_reads (by kernel_rfl) (.bool (decide ((3 : Int) < (k : Int)))) (by go_simp) ?_
          simp only [Act.put, List.setIfInBounds_toArray, List.set_cons_zero, List.set_cons_succ]
          rw [hhi]
          refine wpList_reads (by kernel_rfl) (.bool false) (by go_simp) ?_
          simp only [Act.put, List.setIfInBounds_toArray, List.set_cons_zero, List.set_cons_succ]
          refine wpList_reads (by kernel_rfl) (.bool false) (by go_simp) ?_
          simp only [Act.put, List.setIfInBounds_toArray, List.set_cons_zero, List.set_cons_succ]
          refine wpList_reads (by kernel_rfl) (.agg (helloC (⟨k, h.a, h.l, h.p⟩ : HD))) (run_load_op rfl rfl lB) ?_
          simp only [Act.put, List.setIfInBounds_toArray, List.set_cons_zero, List.set_cons_succ]
          refine wpList_reads (by kernel_rfl) (.agg (helloC h)) (run_load_op rfl rfl lP) ?_
          simp only [Act.put, List.setIfInBounds_toArray, List.set_cons_zero, List.set_cons_succ]
          refine wpList_reads (by kernel_rfl) (.bool (!false)) (run_bin_op rfl rfl rfl (hg.out _ _ _) (hn.out _)) ?_
          simp only [Act.put, List.setIfInBounds_toArray, List.set_cons_zero, List.set_cons_succ]
          refine wpList_reads (by kernel_rfl) (.bool (!false)) (by go_simp) ?_
          simp only [Act.put, List.setIfInBounds_toArray, List.set_cons_zero, List.set_cons_succ]
          go_wp2
          go_ret2
          refine ⟨mC.out, ?_⟩
          rw [if_neg (by rintro ⟨_, _, h3, _⟩; rw [hbe.out] at h3; have := hd.out; rw [decide_eq_false_iff_not] at this; exact this h3)]
          rfl
        · skip
          obtain ⟨w6, hw6⟩ : ∃ w6, w6 = (w5.alloc (.cells #[.int .u8 (k : Int)] 5)).alloc (.cells #[.slice (some ⟨w5.heap.size, 0, none⟩) 1 1] 27) := ⟨_, rfl⟩
          have ho6 : w6.heap[w5.heap.size + 1]? = some (.cells #[.slice (some ⟨w5.heap.size, 0, none⟩) 1 1] 27 (0,0)) := by rw [hw6]; exact hp_new _ _ _ (by simp)
          have hr6 : w6.heap[w5.heap.size]? = some (.cells (encB [BitVec.ofNat 8 k]) 5 (0,0)) := by
            rw [hw6, hp_old _ _ _ (by simp), show encB [BitVec.ofNat 8 k] = #[.int .u8 (k : Int)] by simp [encB, Nat.mod_eq_of_lt hk256]]
            exact hp_new _ _ _ rfl
          have own6 := own_of_row (B := w5.heap.size) (t := 5) (Nat.le_refl _) hr6 (by simp [maxLen])
          have m56 : Mod (fun _ => False) w5 w6 := by rw [hw6]; exact ((Mod.refl _ _).alloc _).alloc _
          have m6 : Mod (fun _ => False) w w6 := mC.out.trans m56
          have xP6 := xP5.mod m56 (fun h => h)
          have c6 := hello_kind o xP6
          rw [hk.out] at c6
          have hs5 := mC.out.size
          have hP6 : w.heap.size < w5.heap.size := by have := lt_of_heap xP5; omega
          have xP6k := xP6
          rw [hw6] at xP6k
          have c6' := hello_kind o xP6k
          rw [hk.out] at c6'
          replace hw6 := Lib.hid hw6
          replace ho6 := Lib.hid ho6
          replace hr6 := Lib.hid hr6
          replace own6 := Lib.hid own6
          replace m6 := Lib.hid m6
          replace xP6 := Lib.hid xP6
          clear m56 xP6k
          go_enter Tryd.func12, Tryd.ntmps12
          go_upto_region 1 with (fail)
          rw [← hw1.out]
          refine wp_region_lit ?_
          refine wpList_reads (by kernel_rfl) (.pointer (some ⟨w.heap.size, 0, none⟩)) (by go_simp) ?_
          simp only [Act.put, List.setIfInBounds_toArray, List.set_cons_zero, List.set_cons_succ]
          refine wpList_reads (by kernel_rfl) (.int .u8 (k : Int)) (run_load_op rfl rfl lk1.out) ?_
          simp only [Act.put, List.setIfInBounds_toArray, List.set_cons_zero, List.set_cons_succ]
          refine wpList_yields (by kernel_rfl) _ _ (build_hello_op k _ _ _ _ rfl rfl) ?_
          simp only [Act.put, List.setIfInBounds_toArray, List.set_cons_zero, List.set_cons_succ]
          refine wpList_yields (by kernel_rfl) _ _ (alloc_hello _ _ _ rfl) ?_
          simp only [Act.put, List.setIfInBounds_toArray, List.set_cons_zero, List.set_cons_succ]
          refine wpList_store_to rfl _ _ _ rfl _ _ _ rfl rfl _ s2 ?_
          simp only [Act.put, List.setIfInBounds_toArray, List.set_cons_zero, List.set_cons_succ]
          go_upto_region 3 with (fail)
          refine wp_region_any (by kernel_rfl) (any_of_Z (S := fun w' => HelloAt w' w.heap.size h) (z := 99) _ _ _ _ ?_)
          simp only [List.size_toArray, List.length_cons, List.length_nil, Nat.reduceAdd, Array.replicate_succ, Array.replicate_zero, List.push_toArray, List.nil_append, List.cons_append]
          refine anyZ_take 0 _ (some 17) (.pointer (some ⟨w.heap.size, 1, none⟩)) rfl (by kernel_rfl) (by kernel_rfl) (by kernel_rfl) (by kernel_rfl) (by kernel_rfl) (by decide) rfl (fun w' hS => ?_) hw2d ?_
          · go_simp
          simp only [Act.put, List.setIfInBounds_toArray, List.set_cons_zero, List.set_cons_succ]
          refine anyZ_take 1 _ (some 18) (.agg (bytesV h.a).toArray) rfl (by kernel_rfl) (by kernel_rfl) (by kernel_rfl) (by kernel_rfl) (by kernel_rfl) (by decide) rfl (fun w' hS => ?_) hw2d ?_
          · exact run_load_op rfl rfl (la'.out _ hS)
          simp only [Act.put, List.setIfInBounds_toArray, List.set_cons_zero, List.set_cons_succ]
          refine anyZ_take 2 _ (some 19) (.pointer (some ⟨w.heap.size, 33, none⟩)) rfl (by kernel_rfl) (by kernel_rfl) (by kernel_rfl) (by kernel_rfl) (by kernel_rfl) (by decide) rfl (fun w' hS => ?_) hw2d ?_
          · go_simp
          simp only [Act.put, List.setIfInBounds_toArray, List.set_cons_zero, List.set_cons_succ]
          refine anyZ_take 3 _ (some 20) (.agg (nums .u64 h.l).toArray) rfl (by kernel_rfl) (by kernel_rfl) (by kernel_rfl) (by kernel_rfl) (by kernel_rfl) (by decide) rfl (fun w' hS => ?_) hw2d ?_
          · exact run_load_op rfl rfl (ll'.out _ hS)
          simp only [Act.put, List.setIfInBounds_toArray, List.set_cons_zero, List.set_cons_succ]
          refine anyZ_take 4 _ (some 21) (.pointer (some ⟨w1.heap.size, 1, none⟩)) rfl (by kernel_rfl) (by kernel_rfl) (by kernel_rfl) (by kernel_rfl) (by kernel_rfl) (by decide) rfl (fun w' hS => ?_) hw2d ?_
          · go_simp
          simp only [Act.put, List.setIfInBounds_toArray, List.set_cons_zero, List.set_cons_succ]
          refine anyZ_skip 5 _ rfl (by kernel_rfl) (by kernel_rfl) rfl (w3) ?_ (fun _ => x3') ?_
          · exact run_store_op rfl rfl rfl s3
          simp only [Act.put, List.setIfInBounds_toArray, List.set_cons_zero, List.set_cons_succ]
          refine anyZ_take 6 _ (some 22) (.pointer (some ⟨w1.heap.size, 33, none⟩)) rfl (by kernel_rfl) (by kernel_rfl) (by kernel_rfl) (by kernel_rfl) (by kernel_rfl) (by decide) rfl (fun w' hS => ?_) x3' ?_
          · go_simp
          simp only [Act.put, List.setIfInBounds_toArray, List.set_cons_zero, List.set_cons_succ]
          refine anyZ_skip 7 _ rfl (by kernel_rfl) (by kernel_rfl) rfl (w4) ?_ (fun _ => xP4) ?_
          · exact run_store_op rfl rfl rfl s4
          simp only [Act.put, List.setIfInBounds_toArray, List.set_cons_zero, List.set_cons_succ]
          refine anyZ_done (by kernel_rfl) ?_ _
          go_upto_region 5 with (fail)
          refine wp_region_lit ?_
          refine wpList_reads (by kernel_rfl) (.pointer (some ⟨w.heap.size, 37, none⟩)) (by go_simp) ?_
          simp only [Act.put, List.setIfInBounds_toArray, List.set_cons_zero, List.set_cons_succ]
          refine wpList_reads (by kernel_rfl) (.agg (bytesV h.p).toArray) (run_load_op rfl rfl lp) ?_
          simp only [Act.put, List.setIfInBounds_toArray, List.set_cons_zero, List.set_cons_succ]
          refine wpList_reads (by kernel_rfl) (.pointer (some ⟨w1.heap.size, 37, none⟩)) (by go_simp) ?_
          simp only [Act.put, List.setIfInBounds_toArray, List.set_cons_zero, List.set_cons_succ]
          refine wpList_store_to rfl _ _ _ rfl _ _ _ rfl rfl _ s5 ?_
          simp only [Act.put, List.setIfInBounds_toArray, List.set_cons_zero, List.set_cons_succ]
          go_upto_region 6 with (fail)
          refine wp_region_lit ?_
          refine wpList_reads (by kernel_rfl) (.pointer (some ⟨w.heap.size, 0, none⟩)) (by go_simp) ?_
          simp only [Act.put, List.setIfInBounds_toArray, List.set_cons_zero, List.set_cons_succ]
          refine wpList_reads (by kernel_rfl) (.int .u8 (k : Int)) (run_load_op rfl rfl lk5) ?_
          simp only [Act.put, List.setIfInBounds_toArray, List.set_cons_zero, List.set_cons_succ]
          refine wpList_reads (by kernel_rfl) (.bool (decide ((k : Int) < 1))) (by go_simp) ?_
          simp only [Act.put, List.setIfInBounds_toArray, List.set_cons_zero, List.set_cons_succ]
          rw [hlo]
          refine wpList_reads (by kernel_rfl) (.bool false) (by go_simp) ?_
          simp only [Act.put, List.setIfInBounds_toArray, List.set_cons_zero, List.set_cons_succ]
          refine wpList_reads (by kernel_rfl) (.pointer (some ⟨w.heap.size, 0, none⟩)) (by go_simp) ?_
          simp only [Act.put, List.setIfInBounds_toArray, List.set_cons_zero, List.set_cons_succ]
          refine wpList_reads (by kernel_rfl) (.int .u8 (k : Int)) (run_load_op rfl rfl lk5) ?_
          simp only [Act.put, List.setIfInBounds_toArray, List.set_cons_zero, List.set_cons_succ]
          refine wpList_reads (by kernel_rfl) (.bool (decide ((3 : Int) < (k : Int)))) (by go_simp) ?_
          simp only [Act.put, List.setIfInBounds_toArray, List.set_cons_zero, List.set_cons_succ]
          rw [hhi]
          refine wpList_reads (by kernel_rfl) (.bool false) (by go_simp) ?_
          simp only [Act.put, List.setIfInBounds_toArray, List.set_cons_zero, List.set_cons_succ]
          refine wpList_reads (by kernel_rfl) (.bool false) (by go_simp) ?_
          simp only [Act.put, List.setIfInBounds_toArray, List.set_cons_zero, List.set_cons_succ]
          refine wpList_reads (by kernel_rfl) (.agg (helloC (⟨k, h.a, h.l, h.p⟩ : HD))) (run_load_op rfl rfl lB) ?_
          simp only [Act.put, List.setIfInBounds_toArray, List.set_cons_zero, List.set_cons_succ]
          refine wpList_reads (by kernel_rfl) (.agg (helloC h)) (run_load_op rfl rfl lP) ?_
          simp only [Act.put, List.setIfInBounds_toArray, List.set_cons_zero, List.set_cons_succ]
          refine wpList_reads (by kernel_rfl) (.bool (!true)) (run_bin_op rfl rfl rfl (hg.out _ _ _) (hn.out _)) ?_
          simp only [Act.put, List.setIfInBounds_toArray, List.set_cons_zero, List.set_cons_succ]
          refine wpList_reads (by kernel_rfl) (.bool (!true)) (by go_simp) ?_
          simp only [Act.put, List.setIfInBounds_toArray, List.set_cons_zero, List.set_cons_succ]
          go_upto_region 10 with (fail)
          rw [← hw6.out]
          go_wp2_with fail
          refine (add_any (w5.heap.size + 1) w5.heap.size _ _ [BitVec.ofNat 8 k] h.a w6 (Nat.le_succ _) ho6.out own6.out (hello_bytes_a o xP6.out) (by rw [o.a]; simp)).mono ?_
          rintro e w7 ⟨rfl, m7, v7, ho7, own7⟩
          have xP7 := xP6.out.mod m7 (by omega)
          have m07 : Mod (fun _ => False) w w7 := m6.out.trans' m7 (fun i hi h => by omega)
          have ll7 := hello_load_l o xP7
          have c7 := hello_kind o xP7
          rw [hk.out] at c7
          have hC7 : w5.heap.size ≤ w7.heap.size := by have := lt_of_heap ho7; omega
          obtain ⟨L, hL⟩ : ∃ L, L = h.l := ⟨_, rfl⟩
          have hL4 : L.length = 4 := by rw [hL]; exact o.l
          have hLn : ∀ x ∈ L, x < 18446744073709551616 := by rw [hL]; exact o.n
          rw [← hL] at ll7
          replace hL := Lib.hid hL
          replace hL4 := Lib.hid hL4
          replace hLn := Lib.hid hLn
          replace xP7 := Lib.hid xP7
          replace m07 := Lib.hid m07
          replace own7 := Lib.hid own7
          replace ho7 := Lib.hid ho7
          clear m7
          go_upto_region 12 with (fail)
          refine wp_region_lit ?_
          refine wpList_reads (by kernel_rfl) (.pointer (some ⟨w.heap.size, 33, none⟩)) (by go_simp) ?_
          simp only [Act.put, List.setIfInBounds_toArray, List.set_cons_zero, List.set_cons_succ]
          refine wpList_reads (by kernel_rfl) (.agg (nums .u64 L).toArray) (run_load_op rfl rfl ll7) ?_
          simp only [Act.put, List.setIfInBounds_toArray, List.set_cons_zero, List.set_cons_succ]
          refine wpList_reads (by kernel_rfl) (.int .i64 0) (by go_simp) ?_
          simp only [Act.put, List.setIfInBounds_toArray, List.set_cons_zero, List.set_cons_succ]
          go_wp2
          go_loopw [55] (fun nv wr => ∃ i : Nat, i ≤ 4 ∧ nv = .int .i64 i ∧ Mod (fun k => w5.heap.size ≤ k) w7 wr ∧ (∃ v, wr.heap[w5.heap.size + 1]? = some (.cells #[v] 27 (0,0)) ∧ wr.ownsRow w5.heap.size 5 1 v (([BitVec.ofNat 8 k] ++ h.a) ++ (L.take i).flatMap vput).length (bytesV (([BitVec.ofNat 8 k] ++ h.a) ++ (L.take i).flatMap vput))) ∧ ∀ x ∈ L.take i, x < 4611686018427387904) (fun nv _ => 4 - (intOf nv).toNat)
          case atStart => exact ⟨0, by omega, rfl, Mod.refl _ _, ⟨v7, ho7.out, by simpa [Nat.add_comm] using own7.out⟩, by simp⟩
          case round =>
            obtain ⟨i, hi, rfl, mr, ⟨vr, hor, ownr⟩, hall⟩ := hrel
            have bi0 : (0 : Int) ≤ (i : Int) := by omega
            have bi4 : (i : Int) ≤ 4 := by omega
            have xPr := xP7.out.mod mr (by omega)
            have m0r : Mod (fun _ => False) w wr := m07.out.trans' mr (fun i hi h => by omega)
            by_cases hlt : i < 4
            · have hd4 : decide ((i : Int) < 4) = true := by rw [decide_eq_true_iff]; omega
              have hidx := index_nums (P := Tryd.prog) wr 52 51 4 .u64 Tryd.underlying52 Tryd.underlying51 (fun _ => by kernel_rfl) L i hlt hL4.out
              obtain ⟨x, hx⟩ : ∃ x, x = L.getD i 0 := ⟨_, rfl⟩
              rw [← hx] at hidx
              have hxL : x ∈ L := by
                rw [hx, List.getD_eq_getElem?_getD, List.getElem?_eq_getElem (by rw [hL4.out]; exact hlt)]
                exact List.getElem_mem _
              have htk : L.take (i + 1) = L.take i ++ [x] := by
                rw [List.take_add_one, hx, List.getD_eq_getElem?_getD, List.getElem?_eq_getElem (by rw [hL4.out]; exact hlt)]
                rfl
              replace mr := Lib.hid mr
              replace hor := Lib.hid hor
              replace ownr := Lib.hid ownr
              replace hall := Lib.hid hall
              replace xPr := Lib.hid xPr
              replace m0r := Lib.hid m0r
              replace hx := Lib.hid hx
              replace htk := Lib.hid htk
              have hx64 := hLn.out x hxL
              replace hxL := Lib.hid hxL
              clear hlt hi
              go_wp2_with fail
              refine (vput_any x wr hx64).mono ?_
              rintro e w8 ⟨m8, h8⟩
              by_cases hx62 : x < 4611686018427387904
              · rw [if_pos hx62] at h8
                obtain ⟨v8, rfl, own8⟩ := h8
                have ho8 := m8.heap hor.out (fun h => h)
                have ownr8 := ownsRow_mod ownr.out m8 (fun _ _ h => h)
                have by8 := byteAt_of_own own8
                have hlen : (([BitVec.ofNat 8 k] ++ h.a) ++ (L.take i).flatMap vput).length + (vput x).length ≤ 140737488355327 := by
                  have h1 := vputs_len (L.take i)
                  have h2 := List.length_take_le i L
                  have h3 := vputs_len [x]
                  rw [List.flatMap_singleton] at h3
                  simp only [List.length_append, List.length_cons, List.length_nil, o.a] at *
                  omega
                replace ho8 := Lib.hid ho8
                replace ownr8 := Lib.hid ownr8
                replace by8 := Lib.hid by8
                replace hlen := Lib.hid hlen
                replace m8 := Lib.hid m8
                clear own8
                go_wp2_with fail
                refine (add_any (w5.heap.size + 1) w5.heap.size _ _ (([BitVec.ofNat 8 k] ++ h.a) ++ (L.take i).flatMap vput) (vput x) w8 (Nat.le_succ _) ho8.out ownr8.out by8.out hlen.out).mono ?_
                rintro e w9 ⟨rfl, m9, v9, ho9, own9⟩
                go_wp2
                go_roundw
                case measure => have := of_decide_eq_true hd4; simp [intOf]; omega
                case rel =>
                  refine ⟨i + 1, by have := of_decide_eq_true hd4; omega, by go_num, (mr.out.trans' m8.out (fun _ _ h => h.elim)).trans m9, ⟨v9, ho9, ?_⟩, ?_⟩
                  · rw [htk.out, List.flatMap_append, List.flatMap_singleton, ← List.append_assoc, List.length_append]
                    exact own9
                  · rw [htk.out]
                    intro y hy
                    rcases List.mem_append.1 hy with hy | hy
                    · exact hall.out y hy
                    · rw [List.mem_singleton.1 hy]; exact hx62
              · rw [if_neg hx62] at h8
                subst h8
                have hnv : ¬ HValid h := by
                  rintro ⟨_, _, _, h4⟩
                  exact hx62 (h4 x (by rw [← hL.out]; exact hxL.out))
                have m08 := m0r.out.trans m8
                replace hnv := Lib.hid hnv
                replace m08 := Lib.hid m08
                clear m8
                go_wp2
                go_ret2
                refine ⟨m08.out, ?_⟩
                rw [if_neg hnv.out]
                rfl
            · obtain rfl : i = 4 := by omega
              rw [List.take_of_length_le (by rw [hL4.out]; exact Nat.le_refl _)] at ownr hall
              have hd4 : decide (((4 : Nat) : Int) < 4) = false := by decide
              have cr := hello_kind o xPr
              rw [hk.out] at cr
              replace mr := Lib.hid mr
              replace hor := Lib.hid hor
              replace ownr := Lib.hid ownr
              replace hall := Lib.hid hall
              replace xPr := Lib.hid xPr
              replace m0r := Lib.hid m0r
              clear hlt hi
              go_wp2_with (first | fail)
              refine (add_any (w5.heap.size + 1) w5.heap.size _ _ (([BitVec.ofNat 8 k] ++ h.a) ++ L.flatMap vput) h.p wr (Nat.le_succ _) hor.out ownr.out (hello_bytes_p o xPr.out) (by
                have h1 := vputs_len L
                simp only [List.length_append, List.length_cons, List.length_nil, o.a, o.p] at *
                rw [hL4.out] at h1
                omega)).mono ?_
              rintro e wl ⟨rfl, ml, vl, hol, ownl⟩
              rw [← List.length_append] at ownl
              obtain ⟨R, hR⟩ : ∃ R, R = ((([BitVec.ofNat 8 k] ++ h.a) ++ L.flatMap vput) ++ h.p) := ⟨_, rfl⟩
              rw [← hR] at ownl
              have hR0 : 0 < R.length := by rw [hR]; simp
              replace hR := Lib.hid hR
              obtain ⟨hnl, gl, capl, rfl, hgl, byl⟩ := fresh_of_own ownl (hR0)
              have cl := cell_of_one hol
              have byl' := byteAt_of_own ownl
              rw [hnl] at ownl
              have clr := ClipR.clip ownl
              have hend : ∀ v, v = .slice (some ⟨gl, 0, none⟩) (R).length (R).length → PutHEndR h w (.returned (.tuple #[v, .int .i64 0])) wl := by
                rintro v rfl
                refine ⟨m0r.out.trans' ml (fun i hi h => by omega), ?_⟩
                have hv : HValid h := by
                  have hdd := of_decide_eq_true hd.out
                  have hkk := k2.out
                  exact ⟨by rw [hk.out]; omega, by rw [hk.out]; omega, by rw [hbe.out]; exact hdd, fun x hx => hall.out x (by rw [hL.out]; exact hx)⟩
                have hp : hput h = R := by
                  unfold hput
                  rw [hk.out]
                  rw [hR.out]; simp [k3.out, k1.out, hL.out]
                rw [if_pos hv, hp]
                exact ⟨_, rfl, ⟨byl, gl, by omega, rfl⟩, clip_base0 clr (by omega)⟩
              replace hend := Lib.hid hend
              clear ownl hol ml byl clr
              go_wp2_with fail
              refine (clip_any _ _ _ byl').mono ?_
              rintro e wz ⟨rfl, rfl⟩
              go_wp2
              go_ret2
              exact hend.out _ rfl
      · have hnv : ¬ HValid h := by
          rintro ⟨h1, h2, _⟩
          rw [hk.out] at h1 h2
          omega
        replace hnv := Lib.hid hnv
        by_cases k0 : k = 0
        · have hlo : decide ((k : Int) < 1) = true := by rw [decide_eq_true_iff]; omega
          clear k3 k1 k2
          go_enter Tryd.func12, Tryd.ntmps12
          go_upto_region 1 with (fail)
          rw [← hw1.out]
          refine wp_region_lit ?_
          refine wpList_reads (by kernel_rfl) (.pointer (some ⟨w.heap.size, 0, none⟩)) (by go_simp) ?_
          simp only [Act.put, List.setIfInBounds_toArray, List.set_cons_zero, List.set_cons_succ]
          refine wpList_reads (by kernel_rfl) (.int .u8 (k : Int)) (run_load_op rfl rfl lk1.out) ?_
          simp only [Act.put, List.setIfInBounds_toArray, List.set_cons_zero, List.set_cons_succ]
          refine wpList_yields (by kernel_rfl) _ _ (build_hello_op k _ _ _ _ rfl rfl) ?_
          simp only [Act.put, List.setIfInBounds_toArray, List.set_cons_zero, List.set_cons_succ]
          refine wpList_yields (by kernel_rfl) _ _ (alloc_hello _ _ _ rfl) ?_
          simp only [Act.put, List.setIfInBounds_toArray, List.set_cons_zero, List.set_cons_succ]
          refine wpList_store_to rfl _ _ _ rfl _ _ _ rfl rfl _ s2 ?_
          simp only [Act.put, List.setIfInBounds_toArray, List.set_cons_zero, List.set_cons_succ]
          go_upto_region 3 with (fail)
          refine wp_region_any (by kernel_rfl) (any_of_Z (S := fun w' => HelloAt w' w.heap.size h) (z := 99) _ _ _ _ ?_)
          simp only [List.size_toArray, List.length_cons, List.length_nil, Nat.reduceAdd, Array.replicate_succ, Array.replicate_zero, List.push_toArray, List.nil_append, List.cons_append]
          refine anyZ_take 0 _ (some 17) (.pointer (some ⟨w.heap.size, 1, none⟩)) rfl (by kernel_rfl) (by kernel_rfl) (by kernel_rfl) (by kernel_rfl) (by kernel_rfl) (by decide) rfl (fun w' hS => ?_) hw2d ?_
          · go_simp
          simp only [Act.put, List.setIfInBounds_toArray, List.set_cons_zero, List.set_cons_succ]
          refine anyZ_take 1 _ (some 18) (.agg (bytesV h.a).toArray) rfl (by kernel_rfl) (by kernel_rfl) (by kernel_rfl) (by kernel_rfl) (by kernel_rfl) (by decide) rfl (fun w' hS => ?_) hw2d ?_
          · exact run_load_op rfl rfl (la'.out _ hS)
          simp only [Act.put, List.setIfInBounds_toArray, List.set_cons_zero, List.set_cons_succ]
          refine anyZ_take 2 _ (some 19) (.pointer (some ⟨w.heap.size, 33, none⟩)) rfl (by kernel_rfl) (by kernel_rfl) (by kernel_rfl) (by kernel_rfl) (by kernel_rfl) (by decide) rfl (fun w' hS => ?_) hw2d ?_
          · go_simp
          simp only [Act.put, List.setIfInBounds_toArray, List.set_cons_zero, List.set_cons_succ]
          refine anyZ_take 3 _ (some 20) (.agg (nums .u64 h.l).toArray) rfl (by kernel_rfl) (by kernel_rfl) (by kernel_rfl) (by kernel_rfl) (by kernel_rfl) (by decide) rfl (fun w' hS => ?_) hw2d ?_
          · exact run_load_op rfl rfl (ll'.out _ hS)
          simp only [Act.put, List.setIfInBounds_toArray, List.set_cons_zero, List.set_cons_succ]
          refine anyZ_take 4 _ (some 21) (.pointer (some ⟨w1.heap.size, 1, none⟩)) rfl (by kernel_rfl) (by kernel_rfl) (by kernel_rfl) (by kernel_rfl) (by kernel_rfl) (by decide) rfl (fun w' hS => ?_) hw2d ?_
          · go_simp
          simp only [Act.put, List.setIfInBounds_toArray, List.set_cons_zero, List.set_cons_succ]
          refine anyZ_skip 5 _ rfl (by kernel_rfl) (by kernel_rfl) rfl (w3) ?_ (fun _ => x3') ?_
          · exact run_store_op rfl rfl rfl s3
          simp only [Act.put, List.setIfInBounds_toArray, List.set_cons_zero, List.set_cons_succ]
          refine anyZ_take 6 _ (some 22) (.pointer (some ⟨w1.heap.size, 33, none⟩)) rfl (by kernel_rfl) (by kernel_rfl) (by kernel_rfl) (by kernel_rfl) (by kernel_rfl) (by decide) rfl (fun w' hS => ?_) x3' ?_
          · go_simp
          simp only [Act.put, List.setIfInBounds_toArray, List.set_cons_zero, List.set_cons_succ]
          refine anyZ_skip 7 _ rfl (by kernel_rfl) (by kernel_rfl) rfl (w4) ?_ (fun _ => xP4) ?_
          · exact run_store_op rfl rfl rfl s4
          simp only [Act.put, List.setIfInBounds_toArray, List.set_cons_zero, List.set_cons_succ]
          refine anyZ_done (by kernel_rfl) ?_ _
          go_upto_region 5 with (fail)
          refine wp_region_lit ?_
          refine wpList_reads (by kernel_rfl) (.pointer (some ⟨w.heap.size, 37, none⟩)) (by go_simp) ?_
          simp only [Act.put, List.setIfInBounds_toArray, List.set_cons_zero, List.set_cons_succ]
          refine wpList_reads (by kernel_rfl) (.agg (bytesV h.p).toArray) (run_load_op rfl rfl lp) ?_
          simp only [Act.put, List.setIfInBounds_toArray, List.set_cons_zero, List.set_cons_succ]
          refine wpList_reads (by kernel_rfl) (.pointer (some ⟨w1.heap.size, 37, none⟩)) (by go_simp) ?_
          simp only [Act.put, List.setIfInBounds_toArray, List.set_cons_zero, List.set_cons_succ]
          refine wpList_store_to rfl _ _ _ rfl _ _ _ rfl rfl _ s5 ?_
          simp only [Act.put, List.setIfInBounds_toArray, List.set_cons_zero, List.set_cons_succ]
          go_wp2
          go_ret2
          refine ⟨mC.out, ?_⟩
          rw [if_neg hnv.out]
          rfl
        · have hlo : decide ((k : Int) < 1) = false := by rw [decide_eq_false_iff_not]; omega
          have hhi : decide ((3 : Int) < (k : Int)) = true := by rw [decide_eq_true_iff]; omega
          clear k3 k1 k2 k0
          go_enter Tryd.func12, Tryd.ntmps12
          go_upto_region 1 with (fail)
          rw [← hw1.out]
          refine wp_region_lit ?_
          refine wpList_reads (by kernel_rfl) (.pointer (some ⟨w.heap.size, 0, none⟩)) (by go_simp) ?_
          simp only [Act.put, List.setIfInBounds_toArray, List.set_cons_zero, List.set_cons_succ]
          refine wpList_reads (by kernel_rfl) (.int .u8 (k : Int)) (run_load_op rfl rfl lk1.out) ?_
          simp only [Act.put, List.setIfInBounds_toArray, List.set_cons_zero, List.set_cons_succ]
          refine wpList_yields (by kernel_rfl) _ _ (build_hello_op k _ _ _ _ rfl rfl) ?_
          simp only [Act.put, List.setIfInBounds_toArray, List.set_cons_zero, List.set_cons_succ]
          refine wpList_yields (by kernel_rfl) _ _ (alloc_hello _ _ _ rfl) ?_
          simp only [Act.put, List.setIfInBounds_toArray, List.set_cons_zero, List.set_cons_succ]
          refine wpList_store_to rfl _ _ _ rfl _ _ _ rfl rfl _ s2 ?_
          simp only [Act.put, List.setIfInBounds_toArray, List.set_cons_zero, List.set_cons_succ]
          go_upto_region 3 with (fail)
          refine wp_region_any (by kernel_rfl) (any_of_Z (S := fun w' => HelloAt w' w.heap.size h) (z := 99) _ _ _ _ ?_)
          simp only [List.size_toArray, List.length_cons, List.length_nil, Nat.reduceAdd, Array.replicate_succ, Array.replicate_zero, List.push_toArray, List.nil_append, List.cons_append]
          refine anyZ_take 0 _ (some 17) (.pointer (some ⟨w.heap.size, 1, none⟩)) rfl (by kernel_rfl) (by kernel_rfl) (by kernel_rfl) (by kernel_rfl) (by kernel_rfl) (by decide) rfl (fun w' hS => ?_) hw2d ?_
          · go_simp
          simp only [Act.put, List.setIfInBounds_toArray, List.set_cons_zero, List.set_cons_succ]
          refine anyZ_take 1 _ (some 18) (.agg (bytesV h.a).toArray) rfl (by kernel_rfl) (by kernel_rfl) (by kernel_rfl) (by kernel_rfl) (by kernel_rfl) (by decide) rfl (fun w' hS => ?_) hw2d ?_
          · exact run_load_op rfl rfl (la'.out _ hS)
          simp only [Act.put, List.setIfInBounds_toArray, List.set_cons_zero, List.set_cons_succ]
          refine anyZ_take 2 _ (some 19) (.pointer (some ⟨w.heap.size, 33, none⟩)) rfl (by kernel_rfl) (by kernel_rfl) (by kernel_rfl) (by kernel_rfl) (by kernel_rfl) (by decide) rfl (fun w' hS => ?_) hw2d ?_
          · go_simp
          simp only [Act.put, List.setIfInBounds_toArray, List.set_cons_zero, List.set_cons_succ]
          refine anyZ_take 3 _ (some 20) (.agg (nums .u64 h.l).toArray) rfl (by kernel_rfl) (by kernel_rfl) (by kernel_rfl) (by kernel_rfl) (by kernel_rfl) (by decide) rfl (fun w' hS => ?_) hw2d ?_
          · exact run_load_op rfl rfl (ll'.out _ hS)
          simp only [Act.put, List.setIfInBounds_toArray, List.set_cons_zero, List.set_cons_succ]
          refine anyZ_take 4 _ (some 21) (.pointer (some ⟨w1.heap.size, 1, none⟩)) rfl (by kernel_rfl) (by kernel_rfl) (by kernel_rfl) (by kernel_rfl) (by kernel_rfl) (by decide) rfl (fun w' hS => ?_) hw2d ?_
          · go_simp
          simp only [Act.put, List.setIfInBounds_toArray, List.set_cons_zero, List.set_cons_succ]
          refine anyZ_skip 5 _ rfl (by kernel_rfl) (by kernel_rfl) rfl (w3) ?_ (fun _ => x3') ?_
          · exact run_store_op rfl rfl rfl s3
          simp only [Act.put, List.setIfInBounds_toArray, List.set_cons_zero, List.set_cons_succ]
          refine anyZ_take 6 _ (some 22) (.pointer (some ⟨w1.heap.size, 33, none⟩)) rfl (by kernel_rfl) (by kernel_rfl) (by kernel_rfl) (by kernel_rfl) (by kernel_rfl) (by decide) rfl (fun w' hS => ?_) x3' ?_
          · go_simp
          simp only [Act.put, List.setIfInBounds_toArray, List.set_cons_zero, List.set_cons_succ]
          refine anyZ_skip 7 _ rfl (by kernel_rfl) (by kernel_rfl) rfl (w4) ?_ (fun _ => xP4) ?_
          · exact run_store_op rfl rfl rfl s4
          simp only [Act.put, List.setIfInBounds_toArray, List.set_cons_zero, List.set_cons_succ]
          refine anyZ_done (by kernel_rfl) ?_ _
          go_upto_region 5 with (fail)
          refine wp_region_lit ?_
          refine wpList_reads (by kernel_rfl) (.pointer (some ⟨w.heap.size, 37, none⟩)) (by go_simp) ?_
          simp only [Act.put, List.setIfInBounds_toArray, List.set_cons_zero, List.set_cons_succ]
          refine wpList_reads (by kernel_rfl) (.agg (bytesV h.p).toArray) (run_load_op rfl rfl lp) ?_
          simp only [Act.put, List.setIfInBounds_toArray, List.set_cons_zero, List.set_cons_succ]
          refine wpList_reads (by kernel_rfl) (.pointer (some ⟨w1.heap.size, 37, none⟩)) (by go_simp) ?_
          simp only [Act.put, List.setIfInBounds_toArray, List.set_cons_zero, List.set_cons_succ]
          refine wpList_store_to rfl _ _ _ rfl _ _ _ rfl rfl _ s5 ?_
          simp only [Act.put, List.setIfInBounds_toArray, List.set_cons_zero, List.set_cons_succ]
          go_wp2
          go_ret2
          refine ⟨mC.out, ?_⟩
          rw [if_neg hnv.out]
          rfl
theorem hput_any (h : HD) (o : h.Ok) (w : World) : Calls Tryd.prog 12 #[.agg (helloC h)] w (PutHEnd h w) := by
  refine (hputR_any h o w).mono ?_
  rintro e w' ⟨m, h1⟩
  refine ⟨m, ?_⟩
  by_cases hv : HValid h
  · rw [if_pos hv] at h1 ⊢
    obtain ⟨v, h2, h3, _⟩ := h1
    exact ⟨v, h2, h3⟩
  · rw [if_neg hv] at h1 ⊢
    exact h1
end Go.Proofs.YtkfikoacohogaaaDoor
