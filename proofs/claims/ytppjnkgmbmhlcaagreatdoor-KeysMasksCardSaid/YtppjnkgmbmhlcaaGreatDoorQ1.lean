/-
  mailcoachref12.Nonce, Mask. Printed by gen/kq1.py.
-/
import Derived.Test.YtppjnkgmbmhlcaaGreatDoorO1
import Derived.Test.YtppjnkgmbmhlcaaGreatDoorMD
import Derived.Test.YtppjnkgmbmhlcaaGreatDoorN4
namespace Go.Proofs.YtppjnkgmbmhlcaaGreatDoor
set_option maxRecDepth 100000
open Go Go.RowKit Go.Lib
set_option linter.unusedSimpArgs false
set_option linter.unusedVariables false

def nonE (iv : List (BitVec 8)) (N : Nat) : Int := if iv.length = 12 ∧ N ≤ 4611686018427387903 then 0 else 1
def nonX (iv : List (BitVec 8)) (N : Nat) : List (BitVec 8) := if iv.length = 12 ∧ N ≤ 4611686018427387903 then nonceTo iv N 8 else []
theorem nonX_length (iv : List (BitVec 8)) (N : Nat) : (nonX iv N).length ≤ 32 := by
  unfold nonX
  split
  · rename_i h; rw [nonceTo_length, h.1]; omega
  · simp
theorem NonceEnd.uni {iv : List (BitVec 8)} {N : Nat} {w w' : World} {e : Ending} (h : NonceEnd iv N w e w') :
    Mod (fun _ => False) w w' ∧ ∃ v, e = .returned (.tuple #[v, .int .i64 (nonE iv N)]) ∧ ClipR w' w.heap.size v (nonX iv N).length (bytesV (nonX iv N)) := by
  obtain ⟨m, h⟩ := h
  refine ⟨m, ?_⟩
  unfold nonE nonX
  by_cases h1 : iv.length = 12 ∧ N ≤ 4611686018427387903
  · rw [if_pos h1] at h
    rw [if_pos h1, if_pos h1, nonceTo_length, h1.1]
    obtain ⟨v, h2, h3⟩ := h
    exact ⟨v, h3, h2⟩
  · rw [if_neg h1] at h
    rw [if_neg h1, if_neg h1]
    exact ⟨_, h, clip_nil _ _⟩
def maskE (k y : List (BitVec 8)) : Int := if k.length = 32 ∧ y.length = 16 then 0 else 1
def maskX (k y : List (BitVec 8)) : List (BitVec 8) := if k.length = 32 ∧ y.length = 16 then maskS k y else []
theorem maskS_length (k y : List (BitVec 8)) : (maskS k y).length = 5 := by unfold maskS; rw [List.length_take, block_length]; rfl
theorem maskX_length (k y : List (BitVec 8)) : (maskX k y).length ≤ 32 := by
  unfold maskX
  split
  · rw [maskS_length]; omega
  · simp
theorem MaskEnd.uni {k y : List (BitVec 8)} {w w' : World} {e : Ending} (h : MaskEnd k y w e w') :
    Mod (fun _ => False) w w' ∧ ∃ v, e = .returned (.tuple #[v, .int .i64 (maskE k y)]) ∧ ClipR w' w.heap.size v (maskX k y).length (bytesV (maskX k y)) := by
  obtain ⟨m, h⟩ := h
  refine ⟨m, ?_⟩
  unfold maskE maskX
  by_cases h1 : k.length = 32 ∧ y.length = 16
  · rw [if_pos h1] at h
    rw [if_pos h1, if_pos h1, maskS_length]
    obtain ⟨v, h2, h3⟩ := h
    exact ⟨v, h3, h2⟩
  · rw [if_neg h1] at h
    rw [if_neg h1, if_neg h1]
    exact ⟨_, h, clip_nil _ _⟩

set_option maxRecDepth 100000 in
set_option maxHeartbeats 4000000 in
theorem refNonce_any (vi : Value) (iv : List (BitVec 8)) (N : Nat) (hN : N < 18446744073709551616) (w : World) (hi : ByteAt w vi iv) (hil : iv.length < 4611686018427387904) :
    Calls Tryz.prog 9 #[vi, .int .u64 (N : Int)] w (NonceEnd iv N w) := by
  obtain ⟨ai, ci, rfl, hblk⟩ := hi.slice
  obtain ⟨p, hp⟩ : ∃ m, m = iv.length := ⟨_, rfl⟩
  rw [← hp] at hi hil ⊢
  have bp0 : (0 : Int) ≤ (p : Int) := by omega
  have bN0 : (0 : Int) ≤ (N : Int) := by omega
  have bN : (N : Int) < 18446744073709551616 := by omega
  by_cases h12 : p = 12
  · have hp12 : iv.length = 12 := by rw [← hp]; exact h12
    rw [h12] at hi ⊢
    obtain ⟨gi, oi, rfl⟩ : ∃ g off, ai = some ⟨g, off, none⟩ := by
      obtain ⟨g, off, h, _⟩ := hblk 0 (by omega)
      exact ⟨g, off, h⟩
    clear h12 hblk hp bp0
    by_cases hbig : 4611686018427387903 < N
    · have hd : decide ((4611686018427387903 : Int) < (N : Int)) = true := by rw [decide_eq_true_iff]; omega
      have hfin : NonceEnd iv N w (.returned (.tuple #[.slice none 0 0, .int .i64 1])) w := ⟨Mod.refl _ _, by rw [if_neg (by omega)]⟩
      replace hfin := Lib.hid hfin
      clear hi hbig bN bN0 hN hil
      go_enter Tryz.func9, Tryz.ntmps9
      go_wp2
      refine bodyPost_ret (results_tmp2 rfl _ _ _) rfl ?_
      exact hfin.out
    · have hd : decide ((4611686018427387903 : Int) < (N : Int)) = false := by rw [decide_eq_false_iff_not]; omega
      have hend : ∀ v w', Mod (fun _ => False) w w' → ClipR w' w.heap.size v 12 (bytesV (nonceTo iv N 8)) → NonceEnd iv N w (.returned (.tuple #[v, .int .i64 0])) w' := fun v w' h1 h2 => ⟨h1, by rw [if_pos ⟨hp12, by omega⟩]; exact ⟨v, h2, rfl⟩⟩
      replace hend := Lib.hid hend
      replace hbig := Lib.hid hbig
      replace hN := Lib.hid hN
      replace hi := Lib.hid hi
      replace hp12 := Lib.hid hp12
      clear hil bN
      go_enter Tryz.func9, Tryz.ntmps9
      obtain ⟨v1, w1, hr1, own1, gr1⟩ := run_append_bytes (show w.ownsRow w.heap.size 5 1 (.slice none 0 0) 0 (bytesV []) from World.ownsRow_nil _ _ _ _) hi.out (by rw [hp12.out]; omega) (Nat.le_refl _) 22
      have m1 : Mod (fun _ => False) w w1 := (Mod.refl _ _).grown gr1 (fun x hx _ => by cases hx)
      rw [List.nil_append, Nat.zero_add, hp12.out] at own1
      obtain ⟨g, c1, hv1⟩ : ∃ g c, v1 = .slice (some ⟨g, 0, none⟩) 12 c := by
        rcases own1.2 with ⟨_, h⟩ | ⟨g, cap, cur, h, _⟩
        · cases h
        · exact ⟨g, cap, h⟩
      subst hv1
      have hc1 : 12 ≤ c1 := (byteAt_of_own own1).cap.2
      have row1 := ClipR.of own1
      have hgw : w.heap.size ≤ g := (ownsRow_in own1 rfl).1
      replace row1 := Lib.hid row1
      replace m1 := Lib.hid m1
      clear own1 gr1
      go_upto_region 3 with (fail)
      refine wp_region_lit ?_
      refine wpList_reads (by kernel_rfl) (.slice (some ⟨gi, oi, none⟩) 12 ci) (by go_simp) ?_
      simp only [Act.put, List.setIfInBounds_toArray, List.set_cons_zero, List.set_cons_succ]
      refine wpList_yields (by kernel_rfl) (.slice (some ⟨g, 0, none⟩) 12 c1) w1 (run_append_op2n rfl rfl rfl hr1) ?_
      simp only [Act.put, List.setIfInBounds_toArray, List.set_cons_zero, List.set_cons_succ]
      refine wpList_reads (by kernel_rfl) (.slice (some ⟨g, 0, none⟩) 12 c1) (by go_simp) ?_
      simp only [Act.put, List.setIfInBounds_toArray, List.set_cons_zero, List.set_cons_succ]
      clear hr1
      go_wp2
      go_loopw [7] (fun iv' wr => ∃ i : Nat, i ≤ 8 ∧ iv' = .int .i64 (i : Int) ∧ Mod (fun _ => False) w wr ∧ ClipR wr w.heap.size (.slice (some ⟨g, 0, none⟩) 12 c1) 12 (bytesV (nonceTo iv N i))) (fun iv' _ => 8 - (intOf iv').toNat)
      case atStart => exact ⟨0, by omega, rfl, m1.out, row1.out⟩
      case round =>
        obtain ⟨i, hi8, rfl, mr, rowr⟩ := hrel
        have bi0 : (0 : Int) ≤ (i : Int) := by omega
        have bi8 : (i : Int) ≤ 8 := by omega
        by_cases hlt : i < 8
        · have hd8 : decide ((i : Int) < 8) = true := by rw [decide_eq_true_iff]; omega
          have bil : (i : Int) < 8 := by omega
          have hl12 : (nonceTo iv N i).length = 12 := by rw [nonceTo_length]; exact hp12.out
          obtain ⟨q, hq⟩ : ∃ q, q = 11 - i := ⟨_, rfl⟩
          have hqi : 11 - (i : Int) = (q : Int) := by omega
          have hwq : IntKind.i64.wrap (q : Int) = (q : Int) := by rw [IntKind.wrap_i64]; omega
          have bq0 : (0 : Int) ≤ (q : Int) := by omega
          have bq12 : (q : Int) < 12 := by omega
          have hqn : q < 12 := by omega
          obtain ⟨s, hs⟩ : ∃ s, s = 8 * i := ⟨_, rfl⟩
          have hsi : 8 * (i : Int) = (s : Int) := by omega
          have hws : IntKind.i64.wrap (s : Int) = (s : Int) := by rw [IntKind.wrap_i64]; omega
          have bs0 : (0 : Int) ≤ (s : Int) := by omega
          have bs64 : (s : Int) ≤ 64 := by omega
          obtain ⟨z, hz⟩ : ∃ z, z = N / 2 ^ s := ⟨_, rfl⟩
          have hzi : (N : Int) / 2 ^ s = (z : Int) := by rw [hz]; simp
          obtain ⟨y, hy⟩ : ∃ y, y = BitVec.ofNat 8 z := ⟨_, rfl⟩
          have hyi : IntKind.u8.wrap (z : Int) = (y.toNat : Int) := by rw [hy, BitVec.toNat_ofNat, IntKind.wrap_u8]; omega
          obtain ⟨x, hx⟩ : ∃ x, x = (nonceTo iv N i).getD q 0 := ⟨_, rfl⟩
          obtain ⟨u, hu⟩ : ∃ u, u = x ^^^ y := ⟨_, rfl⟩
          have hxy : bits .xor .u8 (x.toNat : Int) (y.toNat : Int) = (u.toNat : Int) := by rw [hu]; exact bits_xor8 x y
          have cq := rowr.cellAt q (by omega)
          rw [show (bytesV (nonceTo iv N i))[q]? = some (.int .u8 (x.toNat : Int)) by rw [hx]; exact bytesV_get (by omega)] at cq
          have hnext : nonceTo iv N (i + 1) = (nonceTo iv N i).set q u := by rw [hu, hx, hy, hz, hs, hq]; rfl
          replace hq := Lib.hid hq
          replace hs := Lib.hid hs
          replace hz := Lib.hid hz
          replace hy := Lib.hid hy
          replace hx := Lib.hid hx
          replace hu := Lib.hid hu
          replace hnext := Lib.hid hnext
          replace rowr := Lib.hid rowr
          replace mr := Lib.hid mr
          replace hlt := Lib.hid hlt
          replace hl12 := Lib.hid hl12
          clear hi8
          go_upto_region 7 with (fail)
          refine region_qtail 15 (by kernel_rfl) (by kernel_rfl) ?_
          simp only [List.take_succ_cons, List.take_zero, List.drop_succ_cons, List.drop_zero]
          repeat (go_big_quiet_step (fail))
          refine wpQuiet_nil ?_
          rintro _ ⟨nq, rfl⟩
          obtain ⟨w8, hw8⟩ : ∃ w8, w8 = wr.drewN nq := ⟨_, rfl⟩
          have r8 : ClipR w8 w.heap.size (.slice (some ⟨g, 0, none⟩) 12 c1) 12 (bytesV (nonceTo iv N i)) := by rw [hw8]; exact clip_keep0 rowr.out ((Mod.refl _ _).drewN nq)
          have m8 : Mod (fun _ => False) w w8 := by rw [hw8]; exact mr.out.drewN nq
          rw [← hw8]
          replace hw8 := Lib.hid hw8
          have c8 := r8.cellAt q (by omega)
          rw [show (bytesV (nonceTo iv N i))[q]? = some (.int .u8 (x.toNat : Int)) by rw [hx.out]; exact bytesV_get (by rw [hl12.out]; omega)] at c8
          have f8 := r8.frozenAt q
          obtain ⟨r9, gr9⟩ := r8.stored q (.int .u8 (u.toNat : Int))
          rw [bytesV_set1, ← hnext.out] at r9
          have s9 : (storeVar 5 ⟨g, q, none⟩ (.int .u8 (u.toNat : Int))).run Tryz.prog w8 = .ok () (w8.setCell ⟨g, q, none⟩ (.int .u8 (u.toNat : Int))) := by go_simp
          obtain ⟨w9, hw9⟩ : ∃ w9, w9 = w8.setCell ⟨g, q, none⟩ (.int .u8 (u.toNat : Int)) := ⟨_, rfl⟩
          rw [← hw9] at r9 gr9 s9
          have m9 : Mod (fun _ => False) w w9 := m8.trans' ((Mod.refl _ _).grown (S := fun x => x = g) gr9 (fun x hx _ => by injection hx with hx; exact hx.symm)) (fun x hx h => by omega)
          replace hw9 := Lib.hid hw9
          replace m9 := Lib.hid m9
          replace r9 := Lib.hid r9
          clear c8 f8 gr9 r8 m8 cq
          refine wpList_store_to rfl _ _ _ rfl _ _ (.int .u8 (u.toNat : Int)) rfl rfl _ s9 ?_
          clear s9
          go_wp2
          go_roundw
          case measure => have := hlt.out; simp [intOf]; omega
          case rel => exact ⟨i + 1, by have := hlt.out; omega, by go_num, m9.out, r9.out⟩
        · have hi : i = 8 := by omega
          subst hi
          have hd8 : decide (((8 : Nat) : Int) < 8) = false := rfl
          have hfin := hend.out _ _ mr rowr
          replace hfin := Lib.hid hfin
          clear mr rowr
          go_wp2
          refine bodyPost_ret (results_tmp2 rfl _ _ _) rfl ?_
          exact hfin.out
  · have hd : ((p : Int) != 12) = true := by rw [bne_iff_ne]; omega
    have hfin : NonceEnd iv N w (.returned (.tuple #[.slice none 0 0, .int .i64 1])) w := ⟨Mod.refl _ _, by rw [if_neg (by omega)]⟩
    replace hfin := Lib.hid hfin
    clear hi hp h12 bN hN hil hblk
    go_enter Tryz.func9, Tryz.ntmps9
    go_wp2
    refine bodyPost_ret (results_tmp2 rfl _ _ _) rfl ?_
    exact hfin.out

theorem zero12x (w : World) : (zeroValue 63).run Tryz.prog w = .ok (.agg (encB (zb 12))) w := by kernel_rfl
set_option maxRecDepth 100000 in
set_option maxHeartbeats 4000000 in
theorem refMask_any (vk vy : Value) (k y : List (BitVec 8)) (w : World) (hk : ByteAt w vk k) (hy : ByteAt w vy y) (hkl : k.length < 4611686018427387904) (hyl : y.length < 4611686018427387904) :
    Calls Tryz.prog 10 #[vk, vy] w (MaskEnd k y w) := by
  obtain ⟨ak, ck, rfl, hbk⟩ := hk.slice
  obtain ⟨ay, cy, rfl, hby⟩ := hy.slice
  obtain ⟨m, hm⟩ : ∃ m, m = k.length := ⟨_, rfl⟩
  obtain ⟨p, hp⟩ : ∃ m, m = y.length := ⟨_, rfl⟩
  rw [← hm] at hk hkl ⊢
  rw [← hp] at hy hyl ⊢
  by_cases h32 : m = 32
  · rw [h32] at hk ⊢
    by_cases h16 : p = 16
    · rw [h16] at hy ⊢
      have hk32 : k.length = 32 := by omega
      have hy16 : y.length = 16 := by omega
      obtain ⟨gk, ok, rfl⟩ : ∃ g off, ak = some ⟨g, off, none⟩ := by
        obtain ⟨g, off, h, _⟩ := hbk 0 (by omega)
        exact ⟨g, off, h⟩
      obtain ⟨gy, oy, rfl⟩ : ∃ g off, ay = some ⟨g, off, none⟩ := by
        obtain ⟨g, off, h, _⟩ := hby 0 (by omega)
        exact ⟨g, off, h⟩
      have hc : ∀ j, j < 16 → w.cell? ⟨gy, oy + j, none⟩ = some (.int .u8 ((y.getD j 0).toNat : Int)) := by
        intro j hj
        obtain ⟨g, off, h, _, h2⟩ := hby j (by omega)
        injection h with h
        injection h with h1 h3
        subst h1 h3
        exact h2
      have hcy : 16 ≤ cy := hy.cap.2
      have H := le4_bits (y.getD 0 0) (y.getD 1 0) (y.getD 2 0) (y.getD 3 0)
      obtain ⟨x0, hx0⟩ : ∃ x, x = y.getD 0 0 := ⟨_, rfl⟩
      obtain ⟨x1, hx1⟩ : ∃ x, x = y.getD 1 0 := ⟨_, rfl⟩
      obtain ⟨x2, hx2⟩ : ∃ x, x = y.getD 2 0 := ⟨_, rfl⟩
      obtain ⟨x3, hx3⟩ : ∃ x, x = y.getD 3 0 := ⟨_, rfl⟩
      rw [← hx0] at H
      rw [← hx1] at H
      rw [← hx2] at H
      rw [← hx3] at H
      obtain ⟨C, hC⟩ : ∃ C, C = smpC y := ⟨_, rfl⟩
      have hC4 : le4 x0 x1 x2 x3 = C := by rw [hC, hx0, hx1, hx2, hx3]; rfl
      rw [hC4] at H
      have hyd := ByteAt.drop (m := 4) hy (by omega)
      rw [hy16] at hyd
      replace hyd := Lib.hid hyd
      replace H := Lib.hid H
      replace hC := Lib.hid hC
      replace hx0 := Lib.hid hx0
      replace hx1 := Lib.hid hx1
      replace hx2 := Lib.hid hx2
      replace hx3 := Lib.hid hx3
      replace hk := Lib.hid hk
      replace hk32 := Lib.hid hk32
      replace hy16 := Lib.hid hy16
      have hend : ∀ v w', Mod (fun _ => False) w w' → ClipR w' w.heap.size v 5 (bytesV (maskS k y)) → MaskEnd k y w (.returned (.tuple #[v, .int .i64 0])) w' := fun v w' h1 h2 => ⟨h1, by rw [if_pos ⟨hk32.out, hy16.out⟩]; exact ⟨v, h2, rfl⟩⟩
      replace hend := Lib.hid hend
      replace hy := Lib.hid hy
      clear hc hbk hby hC4 h32 h16 hm hp hkl hyl
      go_enter Tryz.func10, Tryz.ntmps10
      obtain ⟨w1, hw1⟩ : ∃ x, x = w.alloc (.cells (encB (zb 32)) 62) := ⟨_, rfl⟩
      obtain ⟨Ga, hGa⟩ : ∃ g, g = w.heap.size := ⟨_, rfl⟩
      have m1 : Mod (fun _ => False) w w1 := by rw [hw1]; exact (Mod.refl _ _).alloc _
      have x1 : w1.heap[Ga]? = some (.cells (encB (zb 32)) 62 (0,0)) := by rw [hw1]; exact hp_new _ _ _ hGa
      obtain ⟨w2, hw2⟩ : ∃ x, x = w1.alloc (.cells (encB (zb 12)) 63) := ⟨_, rfl⟩
      obtain ⟨Gb, hGb⟩ : ∃ g, g = w1.heap.size := ⟨_, rfl⟩
      have m2' : Mod (fun _ => False) w1 w2 := by rw [hw2]; exact (Mod.refl _ _).alloc _
      have x2 : w2.heap[Gb]? = some (.cells (encB (zb 12)) 63 (0,0)) := by rw [hw2]; exact hp_new _ _ _ hGb
      have x12 := m2'.heap x1 (fun h => h)
      have hab : Ga < Gb := by rw [hGb]; exact lt_of_heap x1
      have m2 := m1.trans m2'
      have hk2 := hk.out.mod m2 (fun _ _ h => h)
      obtain ⟨w3, hcp, m3, xh3⟩ := run_copy_to w2 Ga 32 32 62 (zb 32) k (.slice (some ⟨gk, ok, none⟩) 32 ck) x12 hk2 (by rw [hk32.out]; omega) (by simp [zb])
      rw [hk32.out, List.drop_eq_nil_of_le (by simp [zb]), List.append_nil] at xh3
      rw [hk32.out] at hcp
      have m03 : Mod (fun _ => False) w w3 := m2.trans' m3 (fun x hx h => by omega)
      have xb3 := m3.heap x2 (fun h => by omega)
      have hwG : w.heap.size ≤ Gb := by omega
      replace hw1 := Lib.hid hw1
      replace hGa := Lib.hid hGa
      replace hw2 := Lib.hid hw2
      replace hGb := Lib.hid hGb
      replace xh3 := Lib.hid xh3
      replace xb3 := Lib.hid xb3
      replace m03 := Lib.hid m03
      clear m1 x1 m2' x2 x12 hk2 m2 m3
      go_upto_region 3 with (fail)
      refine wp_region_lit ?_
      refine wpList_yields (by kernel_rfl) _ _ (alloc_arr 62 _ zero32 _ _ _ rfl) ?_
      simp only [Act.put, List.setIfInBounds_toArray, List.set_cons_succ, List.set_cons_zero]
      rw [← hGa.out, ← hw1.out]
      go_upto_region 4 with (fail)
      refine wp_region_lit ?_
      refine wpList_yields (by kernel_rfl) _ _ (alloc_arr 63 _ zero12x _ _ _ rfl) ?_
      simp only [Act.put, List.setIfInBounds_toArray, List.set_cons_succ, List.set_cons_zero]
      rw [← hGb.out, ← hw2.out]
      go_upto_region 5 with (fail)
      refine wp_region_lit ?_
      refine wpList_reads (by kernel_rfl) (.slice (some ⟨Ga, 0, none⟩) 32 32) (by go_simp) ?_
      simp only [Act.put, List.setIfInBounds_toArray, List.set_cons_zero, List.set_cons_succ]
      refine wpList_reads (by kernel_rfl) (.slice (some ⟨gk, ok, none⟩) 32 ck) (by go_simp) ?_
      simp only [Act.put, List.setIfInBounds_toArray, List.set_cons_zero, List.set_cons_succ]
      refine wpList_yields (by kernel_rfl) (.int .i64 32) w3 (run_copy_op rfl rfl rfl hcp) ?_
      simp only [Act.put, List.setIfInBounds_toArray, List.set_cons_zero, List.set_cons_succ]
      clear hcp
      have hcy4 : ¬ cy = 4 := by omega
      have hcy4' : ¬ cy < 4 := by omega
      go_upto_region 6 with (fail)
      refine region_qtail 3 (by kernel_rfl) (by kernel_rfl) ?_
      simp only [List.take_succ_cons, List.take_zero, List.drop_succ_cons, List.drop_zero]
      repeat (go_big_quiet_step (fail))
      refine wpQuiet_nil ?_
      rintro _ ⟨nq, rfl⟩
      obtain ⟨w4, hw4⟩ : ∃ x, x = w3.drewN nq := ⟨_, rfl⟩
      have mq : Mod (fun _ => False) w3 w4 := by rw [hw4]; exact (Mod.refl _ _).drewN nq
      rw [← hw4]
      replace hw4 := Lib.hid hw4
      have m04 := m03.out.trans mq
      have x4 := mq.heap xh3.out (fun h => h)
      have xb4 := mq.heap xb3.out (fun h => h)
      have hyd4 := hyd.out.mod m04 (fun _ _ h => h)
      have hydl : (y.drop 4).length = 12 := by rw [List.length_drop, hy16.out]
      obtain ⟨w5, hcp, m5, x5⟩ := run_copy_to w4 Gb 12 12 63 (zb 12) (y.drop 4) (.slice (some ⟨gy, oy + 4, none⟩) 12 (cy - 4)) xb4 hyd4 (by rw [hydl]; omega) (by simp [zb])
      rw [hydl, show (zb 12).drop 12 = [] from rfl, List.append_nil] at x5
      rw [hydl] at hcp
      have m05 : Mod (fun _ => False) w w5 := m04.trans' m5 (fun x hx h => by omega)
      have xa5 := m5.heap x4 (fun h => by omega)
      have hy5 := hy.out.mod m05 (fun _ _ h => h)
      have hc : ∀ j, j < 16 → w5.cell? ⟨gy, oy + j, none⟩ = some (.int .u8 ((y.getD j 0).toNat : Int)) := fun j hj => range_bytes hy5 j _ (bytesV_get (by rw [hy16.out]; exact hj))
      have c0 := hc 0 (by omega)
      rw [Nat.add_zero] at c0
      have c1 := hc 1 (by omega)
      have c2 := hc 2 (by omega)
      have c3 := hc 3 (by omega)
      rw [← hx0.out] at c0
      rw [← hx1.out] at c1
      rw [← hx2.out] at c2
      rw [← hx3.out] at c3
      replace x5 := Lib.hid x5
      replace xa5 := Lib.hid xa5
      replace m05 := Lib.hid m05
      replace hydl := Lib.hid hydl
      clear mq m04 x4 xb4 hyd4 m5 hy5 hc
      refine wpList_yields (by kernel_rfl) (.int .i64 12) w5 (run_copy_op rfl rfl rfl hcp) ?_
      simp only [Act.put, List.setIfInBounds_toArray, List.set_cons_succ, List.set_cons_zero]
      clear hcp
      go_upto_region 7 with (fail)
      go_quiet (fail)
      obtain ⟨w6, hw6⟩ : ∃ x, x = w5.drewN nq := ⟨_, rfl⟩
      have m6 : Mod (fun _ => False) w5 w6 := by rw [hw6]; exact (Mod.refl _ _).drewN nq
      rw [← hw6]
      have hi32 : bits .or .u32 (bits .or .u32 (bits .or .u32 (x0.toNat : Int) ((x1.toNat : Int) * 256)) ((x2.toNat : Int) * 65536)) ((x3.toNat : Int) * 16777216) = (C.toNat : Int) := H.out
      replace hw6 := Lib.hid hw6
      have m06 := m05.out.trans m6
      have xa6 := m6.heap xa5.out (fun h => h)
      have xb6 := m6.heap x5.out (fun h => h)
      replace m06 := Lib.hid m06
      replace xa6 := Lib.hid xa6
      replace xb6 := Lib.hid xb6
      clear c0 c1 c2 c3 m6
      go_upto_region 8 with (fail)
      refine wp_region_lit ?_
      refine wpList_reads (by kernel_rfl) (.agg (encB k)) (run_load_op rfl rfl (bytes_load xa6.out hk32.out)) ?_
      simp only [Act.put, List.setIfInBounds_toArray, List.set_cons_zero, List.set_cons_succ]
      refine wpList_reads (by kernel_rfl) (.int .u32 (C.toNat : Int)) (by go_simp) ?_
      simp only [Act.put, List.setIfInBounds_toArray, List.set_cons_zero, List.set_cons_succ]
      refine wpList_reads (by kernel_rfl) (.agg (encB (y.drop 4))) (run_load_op rfl rfl (load12 (by have := ByteAt.row xb6.out; rw [hydl.out] at this; exact this) hydl.out)) ?_
      simp only [Act.put, List.setIfInBounds_toArray, List.set_cons_zero, List.set_cons_succ]
      refine wpList_enter (by kernel_rfl) 27 #[.agg (encB k), .int .u32 (C.toNat : Int), .agg (encB (y.drop 4))] (by go_simp) (Cc.refblock_any k (y.drop 4) hk32.out hydl.out C w6) ?_
      rintro e w7 ⟨rfl, m7⟩
      obtain ⟨w8, hw8⟩ : ∃ x, x = w7.alloc (.cells (encB (zb 64)) 60) := ⟨_, rfl⟩
      obtain ⟨G, hG⟩ : ∃ g, g = w7.heap.size := ⟨_, rfl⟩
      have m8 : Mod (fun _ => False) w7 w8 := by rw [hw8]; exact (Mod.refl _ _).alloc _
      have x8 : w8.heap[G]? = some (.cells (encB (zb 64)) 60 (0,0)) := by rw [hw8]; exact hp_new _ _ _ hG
      obtain ⟨BL, hBL⟩ : ∃ B, B = Cc.blockS k (y.drop 4) C := ⟨_, rfl⟩
      have hBLl : BL.length = 64 := by rw [hBL]; exact block_length _ _ _
      rw [← hBL]
      obtain ⟨wz, sz, mz, xz⟩ := store64 x8 (s' := BL) (by decide) hBLl
      have m0z : Mod (fun _ => False) w wz := (m06.out.trans m7).trans ((m8.trans' mz (fun x hx h => by omega)))
      have bz := ByteAt.part (off := 0) (n := 5) (cap := 64) xz (by omega) (by omega)
      rw [List.drop_zero, hBL, hC.out, show (Cc.blockS k (y.drop 4) (smpC y)).take 5 = maskS k y from rfl] at bz
      have hml : (maskS k y).length = 5 := maskS_length _ _
      obtain ⟨v1, wv, hr1, own1, gr1⟩ := run_append_bytes (show wz.ownsRow w.heap.size 5 1 (.slice none 0 0) 0 (bytesV []) from World.ownsRow_nil _ _ _ _) bz (by rw [hml]; omega) m0z.size 22
      have mv : Mod (fun _ => False) w wv := m0z.trans' ((Mod.refl _ _).grown (S := fun _ => False) gr1 (fun x hx _ => by cases hx)) (fun x _ h => h)
      rw [List.nil_append, Nat.zero_add, hml] at own1
      have hfin := hend.out _ _ mv (.of own1)
      obtain ⟨av, cv, hav⟩ := ownSlice1 own1
      subst hav
      replace hfin := Lib.hid hfin
      replace hw8 := Lib.hid hw8
      replace hG := Lib.hid hG
      replace hBL := Lib.hid hBL
      clear mv own1 gr1 bz m0z mz xz x8 m8 m7
      refine ⟨_, rfl, ?_⟩
      simp only [Act.put, List.setIfInBounds_toArray, List.set_cons_zero, List.set_cons_succ]
      refine wpList_yields (by kernel_rfl) _ _ (alloc_arr 60 _ zero64x _ _ _ rfl) ?_
      simp only [Act.put, List.setIfInBounds_toArray, List.set_cons_zero, List.set_cons_succ]
      rw [← hG.out, ← hw8.out]
      refine wpList_store_to rfl _ _ _ rfl _ _ _ rfl rfl _ sz ?_
      simp only [Act.put, List.setIfInBounds_toArray, List.set_cons_zero, List.set_cons_succ]
      clear sz
      go_upto_region 9 with (fail)
      refine wp_region_lit ?_
      refine wpList_reads (by kernel_rfl) (.slice (some ⟨G, 0, none⟩) 5 64) (by go_simp) ?_
      simp only [Act.put, List.setIfInBounds_toArray, List.set_cons_zero, List.set_cons_succ]
      refine wpList_yields (by kernel_rfl) (.slice av 5 cv) wv (run_append_op2n rfl rfl rfl hr1) ?_
      simp only [Act.put, List.setIfInBounds_toArray, List.set_cons_zero, List.set_cons_succ]
      refine wpList_reads (by kernel_rfl) (.slice av 5 cv) (by go_simp) ?_
      simp only [Act.put, List.setIfInBounds_toArray, List.set_cons_zero, List.set_cons_succ]
      refine wpList_reads (by kernel_rfl) (.int .i64 0) (by go_simp) ?_
      simp only [Act.put, List.setIfInBounds_toArray, List.set_cons_zero, List.set_cons_succ]
      go_wp2
      refine bodyPost_ret (results_tmp2 rfl _ _ _) rfl ?_
      exact hfin.out
    · have hd : ((p : Int) != 16) = true := by rw [bne_iff_ne]; omega
      have hfin : MaskEnd k y w (.returned (.tuple #[.slice none 0 0, .int .i64 1])) w := ⟨Mod.refl _ _, by rw [if_neg (by omega)]⟩
      replace hfin := Lib.hid hfin
      clear hk hy hm hp h16 h32 hbk hby hkl hyl
      go_enter Tryz.func10, Tryz.ntmps10
      go_wp2
      refine bodyPost_ret (results_tmp2 rfl _ _ _) rfl ?_
      exact hfin.out
  · have hd : ((m : Int) != 32) = true := by rw [bne_iff_ne]; omega
    have hfin : MaskEnd k y w (.returned (.tuple #[.slice none 0 0, .int .i64 1])) w := ⟨Mod.refl _ _, by rw [if_neg (by omega)]⟩
    replace hfin := Lib.hid hfin
    clear hk hy hm hp h32 hbk hby hkl hyl
    go_enter Tryz.func10, Tryz.ntmps10
    go_wp2
    refine bodyPost_ret (results_tmp2 rfl _ _ _) rfl ?_
    exact hfin.out
end Go.Proofs.YtppjnkgmbmhlcaaGreatDoor
