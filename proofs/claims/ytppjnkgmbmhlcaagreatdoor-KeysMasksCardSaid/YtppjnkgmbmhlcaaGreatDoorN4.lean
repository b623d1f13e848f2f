/-
  keys.Nonce, keys.Mask. Printed by gen/kn4.py.
-/
import Derived.Test.YtppjnkgmbmhlcaaGreatDoorMA
import Derived.Test.YtppjnkgmbmhlcaaGreatDoorMC
import Derived.Test.YtppjnkgmbmhlcaaGreatDoorN3
import Derived.Test.YtppjnkgmbmhlcaaGreatDoorK0
namespace Go.Proofs.YtppjnkgmbmhlcaaGreatDoor
set_option maxRecDepth 100000
open Go Go.RowKit Go.Lib
set_option linter.unusedSimpArgs false
set_option linter.unusedVariables false

def nonceTo (iv : List (BitVec 8)) (N : Nat) : Nat → List (BitVec 8)
  | 0 => iv
  | i + 1 => (nonceTo iv N i).set (11 - i) ((nonceTo iv N i).getD (11 - i) 0 ^^^ BitVec.ofNat 8 (N / 2 ^ (8 * i)))
theorem nonceTo_length (iv : List (BitVec 8)) (N i : Nat) : (nonceTo iv N i).length = iv.length := by
  induction i with
  | zero => rfl
  | succ i ih => unfold nonceTo; rw [List.length_set, ih]
theorem bytesV_set1 (l : List (BitVec 8)) (i : Nat) (x : BitVec 8) : (bytesV l).set i (.int .u8 (x.toNat : Int)) = bytesV (l.set i x) := by
  simp [bytesV, List.map_set]
/-- What keys.Nonce answers. -/
def NonceEnd (iv : List (BitVec 8)) (N : Nat) (w : World) (e : Ending) (w' : World) : Prop :=
  Mod (fun _ => False) w w' ∧ if iv.length = 12 ∧ N ≤ 4611686018427387903 then ∃ v, ClipR w' w.heap.size v 12 (bytesV (nonceTo iv N 8)) ∧ e = .returned (.tuple #[v, .int .i64 0])
    else e = .returned (.tuple #[.slice none 0 0, .int .i64 1])

set_option maxRecDepth 100000 in
set_option maxHeartbeats 4000000 in
theorem Nonce_any (vi : Value) (iv : List (BitVec 8)) (N : Nat) (hN : N < 18446744073709551616) (w : World) (hi : ByteAt w vi iv) (hil : iv.length < 4611686018427387904) :
    Calls Tryz.prog 7 #[vi, .int .u64 (N : Int)] w (NonceEnd iv N w) := by
  obtain ⟨ai, ci, rfl, hblk⟩ := hi.slice
  obtain ⟨p, hp⟩ : ∃ m, m = iv.length := ⟨_, rfl⟩
  rw [← hp] at hi hil ⊢
  have bp0 : (0 : Int) ≤ (p : Int) := by omega
  have bN0 : (0 : Int) ≤ (N : Int) := by omega
  have bN : (N : Int) < 18446744073709551616 := by omega
  by_cases h12 : p = 12
  · have hp12 : iv.length = 12 := by rw [← hp]; exact h12
    rw [h12] at hi ⊢
    obtain ⟨gi, oi, rfl⟩ : ∃ g off, ai = some ⟨g, off, none⟩ := by
      obtain ⟨g, off, h, _⟩ := hblk 0 (by omega)
      exact ⟨g, off, h⟩
    clear h12 hblk hp bp0
    by_cases hbig : 4611686018427387903 < N
    · have hd : decide ((4611686018427387903 : Int) < (N : Int)) = true := by rw [decide_eq_true_iff]; omega
      have hfin : NonceEnd iv N w (.returned (.tuple #[.slice none 0 0, .int .i64 1])) w := ⟨Mod.refl _ _, by rw [if_neg (by omega)]⟩
      replace hfin := Lib.hid hfin
      clear hi hbig bN bN0 hN hil
      go_enter Tryz.func7, Tryz.ntmps7
      go_wp2
      refine bodyPost_ret (results_tmp2 rfl _ _ _) rfl ?_
      exact hfin.out
    · have hd : decide ((4611686018427387903 : Int) < (N : Int)) = false := by rw [decide_eq_false_iff_not]; omega
      have hend : ∀ v w', Mod (fun _ => False) w w' → ClipR w' w.heap.size v 12 (bytesV (nonceTo iv N 8)) → NonceEnd iv N w (.returned (.tuple #[v, .int .i64 0])) w' := fun v w' h1 h2 => ⟨h1, by rw [if_pos ⟨hp12, by omega⟩]; exact ⟨v, h2, rfl⟩⟩
      replace hend := Lib.hid hend
      replace hbig := Lib.hid hbig
      replace hN := Lib.hid hN
      replace hi := Lib.hid hi
      replace hp12 := Lib.hid hp12
      clear hil bN
      go_enter Tryz.func7, Tryz.ntmps7
      go_upto_region 3 with (fail)
      refine wp_region_lit ?_
      refine wpList_reads (by kernel_rfl) (.slice (some ⟨gi, oi, none⟩) 12 ci) (by go_simp) ?_
      simp only [Act.put, List.setIfInBounds_toArray, List.set_cons_zero, List.set_cons_succ]
      refine wpList_enter (by kernel_rfl) 25 #[.slice (some ⟨gi, oi, none⟩) 12 ci] (by go_simp) (clone_any _ 12 ci iv hp12.out w hi.out (by omega) (by omega)) ?_
      rintro e w1 ⟨m1, v1, rfl, own1⟩
      obtain ⟨g, c1, hv1⟩ : ∃ g c, v1 = .slice (some ⟨g, 0, none⟩) 12 c := by
        rcases own1.2 with ⟨_, h⟩ | ⟨g, cap, cur, h, _⟩
        · cases h
        · exact ⟨g, cap, h⟩
      subst hv1
      have hc1 : 12 ≤ c1 := (byteAt_of_own own1).cap.2
      have row1 := ClipR.clip own1
      have hgw : w.heap.size ≤ g := (ownsRow_in own1 rfl).1
      replace row1 := Lib.hid row1
      replace m1 := Lib.hid m1
      clear own1
      refine ⟨_, rfl, ?_⟩
      simp only [Act.put, List.setIfInBounds_toArray, List.set_cons_zero, List.set_cons_succ]
      refine wpList_enter (by kernel_rfl) 24 #[.slice (some ⟨g, 0, none⟩) 12 c1] (by go_simp) (clip_now _ 12 c1 hc1 w1) ?_
      rintro e ww ⟨rfl, rfl⟩
      refine ⟨_, rfl, ?_⟩
      simp only [Act.put, List.setIfInBounds_toArray, List.set_cons_zero, List.set_cons_succ]
      refine wpList_reads (by kernel_rfl) (.slice (some ⟨g, 0, none⟩) 12 12) (by go_simp) ?_
      simp only [Act.put, List.setIfInBounds_toArray, List.set_cons_zero, List.set_cons_succ]
      go_wp2
      go_loopw [18] (fun iv' wr => ∃ i : Nat, i ≤ 8 ∧ iv' = .int .i64 (i : Int) ∧ Mod (fun _ => False) w wr ∧ ClipR wr w.heap.size (.slice (some ⟨g, 0, none⟩) 12 12) 12 (bytesV (nonceTo iv N i))) (fun iv' _ => 8 - (intOf iv').toNat)
      case atStart => exact ⟨0, by omega, rfl, m1.out, row1.out⟩
      case round =>
        obtain ⟨i, hi8, rfl, mr, rowr⟩ := hrel
        have bi0 : (0 : Int) ≤ (i : Int) := by omega
        have bi8 : (i : Int) ≤ 8 := by omega
        by_cases hlt : i < 8
        · have hd8 : decide ((i : Int) < 8) = true := by rw [decide_eq_true_iff]; omega
          have bil : (i : Int) < 8 := by omega
          have hl12 : (nonceTo iv N i).length = 12 := by rw [nonceTo_length]; exact hp12.out
          obtain ⟨q, hq⟩ : ∃ q, q = 11 - i := ⟨_, rfl⟩
          have hqi : 11 - (i : Int) = (q : Int) := by omega
          have hwq : IntKind.i64.wrap (q : Int) = (q : Int) := by rw [IntKind.wrap_i64]; omega
          have bq0 : (0 : Int) ≤ (q : Int) := by omega
          have bq12 : (q : Int) < 12 := by omega
          have hqn : q < 12 := by omega
          obtain ⟨s, hs⟩ : ∃ s, s = 8 * i := ⟨_, rfl⟩
          have hsi : 8 * (i : Int) = (s : Int) := by omega
          have hws : IntKind.i64.wrap (s : Int) = (s : Int) := by rw [IntKind.wrap_i64]; omega
          have bs0 : (0 : Int) ≤ (s : Int) := by omega
          have bs64 : (s : Int) ≤ 64 := by omega
          obtain ⟨z, hz⟩ : ∃ z, z = N / 2 ^ s := ⟨_, rfl⟩
          have hzi : (N : Int) / 2 ^ s = (z : Int) := by rw [hz]; simp
          obtain ⟨y, hy⟩ : ∃ y, y = BitVec.ofNat 8 z := ⟨_, rfl⟩
          have hyi : IntKind.u8.wrap (z : Int) = (y.toNat : Int) := by rw [hy, BitVec.toNat_ofNat, IntKind.wrap_u8]; omega
          obtain ⟨x, hx⟩ : ∃ x, x = (nonceTo iv N i).getD q 0 := ⟨_, rfl⟩
          obtain ⟨u, hu⟩ : ∃ u, u = x ^^^ y := ⟨_, rfl⟩
          have hxy : bits .xor .u8 (x.toNat : Int) (y.toNat : Int) = (u.toNat : Int) := by rw [hu]; exact bits_xor8 x y
          have cq := rowr.cellAt q (by omega)
          rw [show (bytesV (nonceTo iv N i))[q]? = some (.int .u8 (x.toNat : Int)) by rw [hx]; exact bytesV_get (by omega)] at cq
          have hnext : nonceTo iv N (i + 1) = (nonceTo iv N i).set q u := by rw [hu, hx, hy, hz, hs, hq]; rfl
          replace hq := Lib.hid hq
          replace hs := Lib.hid hs
          replace hz := Lib.hid hz
          replace hy := Lib.hid hy
          replace hx := Lib.hid hx
          replace hu := Lib.hid hu
          replace hnext := Lib.hid hnext
          replace rowr := Lib.hid rowr
          replace mr := Lib.hid mr
          replace hlt := Lib.hid hlt
          replace hl12 := Lib.hid hl12
          clear hi8
          go_upto_region 7 with (fail)
          refine region_qtail 12 (by kernel_rfl) (by kernel_rfl) ?_
          simp only [List.take_succ_cons, List.take_zero, List.drop_succ_cons, List.drop_zero]
          repeat (go_big_quiet_step (fail))
          refine wpQuiet_nil ?_
          rintro _ ⟨nq, rfl⟩
          obtain ⟨w8, hw8⟩ : ∃ w8, w8 = wr.drewN nq := ⟨_, rfl⟩
          have r8 : ClipR w8 w.heap.size (.slice (some ⟨g, 0, none⟩) 12 12) 12 (bytesV (nonceTo iv N i)) := by rw [hw8]; exact clip_keep0 rowr.out ((Mod.refl _ _).drewN nq)
          have m8 : Mod (fun _ => False) w w8 := by rw [hw8]; exact mr.out.drewN nq
          rw [← hw8]
          replace hw8 := Lib.hid hw8
          have c8 := r8.cellAt q (by omega)
          rw [show (bytesV (nonceTo iv N i))[q]? = some (.int .u8 (x.toNat : Int)) by rw [hx.out]; exact bytesV_get (by rw [hl12.out]; omega)] at c8
          have f8 := r8.frozenAt q
          obtain ⟨r9, gr9⟩ := r8.stored q (.int .u8 (u.toNat : Int))
          rw [bytesV_set1, ← hnext.out] at r9
          have s9 : (storeVar 5 ⟨g, q, none⟩ (.int .u8 (u.toNat : Int))).run Tryz.prog w8 = .ok () (w8.setCell ⟨g, q, none⟩ (.int .u8 (u.toNat : Int))) := by go_simp
          obtain ⟨w9, hw9⟩ : ∃ w9, w9 = w8.setCell ⟨g, q, none⟩ (.int .u8 (u.toNat : Int)) := ⟨_, rfl⟩
          rw [← hw9] at r9 gr9 s9
          have m9 : Mod (fun _ => False) w w9 := m8.trans' ((Mod.refl _ _).grown (S := fun x => x = g) gr9 (fun x hx _ => by injection hx with hx; exact hx.symm)) (fun x hx h => by omega)
          replace hw9 := Lib.hid hw9
          replace m9 := Lib.hid m9
          replace r9 := Lib.hid r9
          clear c8 f8 gr9 r8 m8 cq
          refine wpList_store_to rfl _ _ _ rfl _ _ (.int .u8 (u.toNat : Int)) rfl rfl _ s9 ?_
          clear s9
          go_wp2
          go_roundw
          case measure => have := hlt.out; simp [intOf]; omega
          case rel => exact ⟨i + 1, by have := hlt.out; omega, by go_num, m9.out, r9.out⟩
        · have hi : i = 8 := by omega
          subst hi
          have hd8 : decide (((8 : Nat) : Int) < 8) = false := rfl
          have hfin := hend.out _ _ mr rowr
          replace hfin := Lib.hid hfin
          clear mr rowr
          go_wp2
          refine bodyPost_ret (results_tmp2 rfl _ _ _) rfl ?_
          exact hfin.out
  · have hd : ((p : Int) != 12) = true := by rw [bne_iff_ne]; omega
    have hfin : NonceEnd iv N w (.returned (.tuple #[.slice none 0 0, .int .i64 1])) w := ⟨Mod.refl _ _, by rw [if_neg (by omega)]⟩
    replace hfin := Lib.hid hfin
    clear hi hp h12 bN hN hil hblk
    go_enter Tryz.func7, Tryz.ntmps7
    go_wp2
    refine bodyPost_ret (results_tmp2 rfl _ _ _) rfl ?_
    exact hfin.out

theorem info64x : (Tryz.prog.info? 60).map (·.size) = some 64 := by kernel_rfl
theorem info12x : (Tryz.prog.info? 63).map (·.size) = some 12 := by kernel_rfl
theorem range_bytes {w : World} {g off n cap : Nat} {bs : List (BitVec 8)} (h : ByteAt w (.slice (some ⟨g, off, none⟩) n cap) bs) : w.rangeAt g off (bytesV bs) := by
  intro j v hv
  have hj : j < bs.length := by have := (List.getElem?_eq_some_iff.1 hv).1; rwa [bytesV_length] at this
  rw [bytesV_get hj] at hv
  injection hv with hv
  subst hv
  rcases h with ⟨_, _, h1, rfl⟩ | ⟨g', off', cap', h1, _, h2⟩
  · simp at hj
  · injection h1 with h1
    injection h1 with h1
    injection h1 with h1 h3
    subst h1 h3
    exact h2 j hj
theorem load32 {w : World} {g off n cap : Nat} {bs : List (BitVec 8)} (h : ByteAt w (.slice (some ⟨g, off, none⟩) n cap) bs) (hl : bs.length = 32) : (loadVar 62 ⟨g, off, none⟩).run Tryz.prog w = .ok (.agg (encB bs)) w := by
  have h1 := run_loadVar_mid (P := Tryz.prog) w g off 62 (bytesV bs) _ (range_bytes h) Tryz.underlying62 rfl (by rw [bytesV_length, hl]; exact info32b)
  rw [h1]
  simp [bytesV, encB]
theorem load12 {w : World} {g off n cap : Nat} {bs : List (BitVec 8)} (h : ByteAt w (.slice (some ⟨g, off, none⟩) n cap) bs) (hl : bs.length = 12) : (loadVar 63 ⟨g, off, none⟩).run Tryz.prog w = .ok (.agg (encB bs)) w := by
  have h1 := run_loadVar_mid (P := Tryz.prog) w g off 63 (bytesV bs) _ (range_bytes h) Tryz.underlying63 rfl (by rw [bytesV_length, hl]; exact info12x)
  rw [h1]
  simp [bytesV, encB]
theorem zero64x (w : World) : (zeroValue 60).run Tryz.prog w = .ok (.agg (encB (zb 64))) w := by kernel_rfl
theorem store64 {w : World} {g : Nat} {s s' : List (BitVec 8)} (x : w.heap[g]? = some (.cells (encB s) 60 (0,0))) (hl : s.length = 64) (hl' : s'.length = 64) :
    ∃ w', (storeVar 60 ⟨g, 0, none⟩ (.agg (encB s'))).run Tryz.prog w = .ok () w' ∧ Mod (fun k => k = g) w w' ∧ w'.heap[g]? = some (.cells (encB s') 60 (0,0)) := by
  obtain ⟨w', h1, h2, h3⟩ := store_mid (P := Tryz.prog) w g 0 60 60 [] (bytesV s) [] (bytesV s') (by rw [x]; simp [encB, bytesV]) rfl (by rw [bytesV_length, bytesV_length, hl, hl']) (by rw [bytesV_length, hl']; exact info64x) (bytesV_one _)
  exact ⟨w', by simpa [encB, bytesV] using h1, h2, by rw [h3]; simp [encB, bytesV]⟩
theorem arrAt32 (a : Addr) (c : Nat) (w : World) : (Instr.arrayAt 62 (.slice (some a) 32 c)).run Tryz.prog w = .ok (.pointer (some a)) w := by kernel_rfl
theorem arrAt12 (a : Addr) (c : Nat) (w : World) : (Instr.arrayAt 63 (.slice (some a) 12 c)).run Tryz.prog w = .ok (.pointer (some a)) w := by kernel_rfl
theorem block_length (key nonce : List (BitVec 8)) (c : BitVec 32) : (Cc.blockS key nonce c).length = 64 := by unfold Cc.blockS; exact Cc.outTo_length _ _ _
/-- Four bytes, the lowest first. -/
def le4 (a b c d : BitVec 8) : BitVec 32 := ((a.setWidth 32 ||| (b.setWidth 32 <<< 8)) ||| (c.setWidth 32 <<< 16)) ||| (d.setWidth 32 <<< 24)
theorem le4_bits (a b c d : BitVec 8) : bits .or .u32 (bits .or .u32 (bits .or .u32 (a.toNat : Int) ((b.toNat : Int) * (256 : Nat))) ((c.toNat : Int) * (65536 : Nat))) ((d.toNat : Int) * (16777216 : Nat)) = ((le4 a b c d).toNat : Int) := by
  have h : (a.toNat : Int) = ((a.setWidth 32).toNat : Int) := by rw [BitVec.toNat_setWidth, Nat.mod_eq_of_lt (a := a.toNat) (by have := a.isLt; omega)]
  rw [h, Cc.shl_byte _ b 8 256 rfl (by omega), Cc.shl_byte _ c 16 65536 rfl (by omega), Cc.shl_byte _ d 24 16777216 rfl (by omega)]
  rfl
def smpC (y : List (BitVec 8)) : BitVec 32 := le4 (y.getD 0 0) (y.getD 1 0) (y.getD 2 0) (y.getD 3 0)
def maskS (k y : List (BitVec 8)) : List (BitVec 8) := (Cc.blockS k (y.drop 4) (smpC y)).take 5
/-- What keys.Mask answers. -/
def MaskEnd (k y : List (BitVec 8)) (w : World) (e : Ending) (w' : World) : Prop :=
  Mod (fun _ => False) w w' ∧ if k.length = 32 ∧ y.length = 16 then ∃ v, ClipR w' w.heap.size v 5 (bytesV (maskS k y)) ∧ e = .returned (.tuple #[v, .int .i64 0])
    else e = .returned (.tuple #[.slice none 0 0, .int .i64 1])

set_option maxRecDepth 100000 in
set_option maxHeartbeats 4000000 in
theorem Mask_any (vk vy : Value) (k y : List (BitVec 8)) (w : World) (hk : ByteAt w vk k) (hy : ByteAt w vy y) (hkl : k.length < 4611686018427387904) (hyl : y.length < 4611686018427387904) :
    Calls Tryz.prog 8 #[vk, vy] w (MaskEnd k y w) := by
  obtain ⟨ak, ck, rfl, hbk⟩ := hk.slice
  obtain ⟨ay, cy, rfl, hby⟩ := hy.slice
  obtain ⟨m, hm⟩ : ∃ m, m = k.length := ⟨_, rfl⟩
  obtain ⟨p, hp⟩ : ∃ m, m = y.length := ⟨_, rfl⟩
  rw [← hm] at hk hkl ⊢
  rw [← hp] at hy hyl ⊢
  by_cases h32 : m = 32
  · rw [h32] at hk ⊢
    by_cases h16 : p = 16
    · rw [h16] at hy ⊢
      have hk32 : k.length = 32 := by omega
      have hy16 : y.length = 16 := by omega
      obtain ⟨gk, ok, rfl⟩ : ∃ g off, ak = some ⟨g, off, none⟩ := by
        obtain ⟨g, off, h, _⟩ := hbk 0 (by omega)
        exact ⟨g, off, h⟩
      obtain ⟨gy, oy, rfl⟩ : ∃ g off, ay = some ⟨g, off, none⟩ := by
        obtain ⟨g, off, h, _⟩ := hby 0 (by omega)
        exact ⟨g, off, h⟩
      have hc : ∀ j, j < 16 → w.cell? ⟨gy, oy + j, none⟩ = some (.int .u8 ((y.getD j 0).toNat : Int)) := by
        intro j hj
        obtain ⟨g, off, h, _, h2⟩ := hby j (by omega)
        injection h with h
        injection h with h1 h3
        subst h1 h3
        exact h2
      have c0 := hc 0 (by omega)
      rw [Nat.add_zero] at c0
      have c1 := hc 1 (by omega)
      have c2 := hc 2 (by omega)
      have c3 := hc 3 (by omega)
      have hcy : 16 ≤ cy := hy.cap.2
      have H := le4_bits (y.getD 0 0) (y.getD 1 0) (y.getD 2 0) (y.getD 3 0)
      obtain ⟨x0, hx0⟩ : ∃ x, x = y.getD 0 0 := ⟨_, rfl⟩
      obtain ⟨x1, hx1⟩ : ∃ x, x = y.getD 1 0 := ⟨_, rfl⟩
      obtain ⟨x2, hx2⟩ : ∃ x, x = y.getD 2 0 := ⟨_, rfl⟩
      obtain ⟨x3, hx3⟩ : ∃ x, x = y.getD 3 0 := ⟨_, rfl⟩
      rw [← hx0] at c0 H
      rw [← hx1] at c1 H
      rw [← hx2] at c2 H
      rw [← hx3] at c3 H
      obtain ⟨C, hC⟩ : ∃ C, C = smpC y := ⟨_, rfl⟩
      have hC4 : le4 x0 x1 x2 x3 = C := by rw [hC, hx0, hx1, hx2, hx3]; rfl
      rw [hC4] at H
      have hyd := ByteAt.drop (m := 4) hy (by omega)
      rw [hy16] at hyd
      replace hyd := Lib.hid hyd
      replace H := Lib.hid H
      replace hC := Lib.hid hC
      replace hx0 := Lib.hid hx0
      replace hx1 := Lib.hid hx1
      replace hx2 := Lib.hid hx2
      replace hx3 := Lib.hid hx3
      replace hk := Lib.hid hk
      replace hk32 := Lib.hid hk32
      replace hy16 := Lib.hid hy16
      have hend : ∀ v w', Mod (fun _ => False) w w' → ClipR w' w.heap.size v 5 (bytesV (maskS k y)) → MaskEnd k y w (.returned (.tuple #[v, .int .i64 0])) w' := fun v w' h1 h2 => ⟨h1, by rw [if_pos ⟨hk32.out, hy16.out⟩]; exact ⟨v, h2, rfl⟩⟩
      replace hend := Lib.hid hend
      clear hc hbk hby hC4 h32 h16 hm hp hkl hyl hy
      go_enter Tryz.func8, Tryz.ntmps8
      go_upto_region 3 with (fail)
      go_quiet (fail)
      obtain ⟨w2, hw2⟩ : ∃ x, x = w.drewN nq := ⟨_, rfl⟩
      have m2 : Mod (fun _ => False) w w2 := by rw [hw2]; exact (Mod.refl _ _).drewN nq
      rw [← hw2]
      have hi32 : bits .or .u32 (bits .or .u32 (bits .or .u32 (x0.toNat : Int) ((x1.toNat : Int) * 256)) ((x2.toNat : Int) * 65536)) ((x3.toNat : Int) * 16777216) = (C.toNat : Int) := H.out
      replace hw2 := Lib.hid hw2
      clear c0 c1 c2 c3
      go_upto_region 4 with (fail)
      obtain ⟨S, hS⟩ : ∃ S : World → Prop, S = fun w' => Mod (fun _ => False) w w' ∨ True := ⟨_, rfl⟩
      refine wp_region_any (by kernel_rfl) (any_of_Z (S := fun w' => Mod (fun k => w2.heap.size ≤ k) w2 w') (z := 99) _ _ _ _ ?_)
      change anyZ _ _ _ _ _ _ _ _ _ w2.drew
      have mq : Mod (fun _ => False) w2 w2.drew := (Mod.refl _ _).drew
      obtain ⟨wq, hwq⟩ : ∃ x, x = w2.drew := ⟨_, rfl⟩
      rw [← hwq] at mq ⊢
      replace hwq := Lib.hid hwq
      clear hS
      have hSq : Mod (fun k => w2.heap.size ≤ k) w2 wq := mq.mono (fun _ _ h => h.elim)
      have hk2 := hk.out.mod m2 (fun _ _ h => h)
      have hyd2 := hyd.out.mod m2 (fun _ _ h => h)
      simp only [List.size_toArray, List.length_cons, List.length_nil, Nat.reduceAdd, Array.replicate_succ, Array.replicate_zero, List.push_toArray, List.nil_append, List.cons_append]
      refine anyZ_take 0 _ (some 38) (.slice (some ⟨gk, ok, none⟩) 32 ck) rfl (by kernel_rfl) (by kernel_rfl) (by kernel_rfl) (by kernel_rfl) (by kernel_rfl) (by decide) rfl (fun w' hS => ?_) hSq ?_
      · go_simp
      simp only [Act.put, List.setIfInBounds_toArray, List.set_cons_zero, List.set_cons_succ]
      refine anyZ_take 1 _ (some 39) (.pointer (some ⟨gk, ok, none⟩)) rfl (by kernel_rfl) (by kernel_rfl) (by kernel_rfl) (by kernel_rfl) (by kernel_rfl) (by decide) rfl (fun w' hS => ?_) hSq ?_
      · have ha := arrAt32 ⟨gk, ok, none⟩ ck w'; go_simp
      simp only [Act.put, List.setIfInBounds_toArray, List.set_cons_zero, List.set_cons_succ]
      refine anyZ_take 2 _ (some 40) (.agg (encB k)) rfl (by kernel_rfl) (by kernel_rfl) (by kernel_rfl) (by kernel_rfl) (by kernel_rfl) (by decide) rfl (fun w' hS => ?_) hSq ?_
      · exact run_load_op rfl rfl (load32 (hk2.mod hS (fun _ h1 h2 => by omega)) hk32.out)
      simp only [Act.put, List.setIfInBounds_toArray, List.set_cons_zero, List.set_cons_succ]
      refine anyZ_take 3 _ (some 41) (.int .u32 (C.toNat : Int)) rfl (by kernel_rfl) (by kernel_rfl) (by kernel_rfl) (by kernel_rfl) (by kernel_rfl) (by decide) rfl (fun w' hS => ?_) hSq ?_
      · go_simp
      simp only [Act.put, List.setIfInBounds_toArray, List.set_cons_zero, List.set_cons_succ]
      refine anyZ_take 4 _ (some 42) (.slice (some ⟨gy, oy, none⟩) 16 cy) rfl (by kernel_rfl) (by kernel_rfl) (by kernel_rfl) (by kernel_rfl) (by kernel_rfl) (by decide) rfl (fun w' hS => ?_) hSq ?_
      · go_simp
      simp only [Act.put, List.setIfInBounds_toArray, List.set_cons_zero, List.set_cons_succ]
      refine anyZ_take 5 _ (some 43) (.slice (some ⟨gy, oy + 4, none⟩) 12 (cy - 4)) rfl (by kernel_rfl) (by kernel_rfl) (by kernel_rfl) (by kernel_rfl) (by kernel_rfl) (by decide) rfl (fun w' hS => ?_) hSq ?_
      · have hcy4 : ¬ cy = 4 := (by omega); go_simp
      simp only [Act.put, List.setIfInBounds_toArray, List.set_cons_zero, List.set_cons_succ]
      refine anyZ_take 6 _ (some 44) (.pointer (some ⟨gy, oy + 4, none⟩)) rfl (by kernel_rfl) (by kernel_rfl) (by kernel_rfl) (by kernel_rfl) (by kernel_rfl) (by decide) rfl (fun w' hS => ?_) hSq ?_
      · have ha := arrAt12 ⟨gy, oy + 4, none⟩ (cy - 4) w'; go_simp
      simp only [Act.put, List.setIfInBounds_toArray, List.set_cons_zero, List.set_cons_succ]
      refine anyZ_take 7 _ (some 45) (.agg (encB (y.drop 4))) rfl (by kernel_rfl) (by kernel_rfl) (by kernel_rfl) (by kernel_rfl) (by kernel_rfl) (by decide) rfl (fun w' hS => ?_) hSq ?_
      · exact run_load_op rfl rfl (load12 (hyd2.mod hS (fun _ h1 h2 => by omega)) (by rw [List.length_drop, hy16.out]))
      simp only [Act.put, List.setIfInBounds_toArray, List.set_cons_zero, List.set_cons_succ]
      refine anyZ_fork 8 9 (by kernel_rfl) ?_ ?_
      · refine wpOp_enter _ (some 46) rfl (by kernel_rfl) rfl 26 #[.agg (encB k), .int .u32 (C.toNat : Int), .agg (encB (y.drop 4))] (by go_simp) ?_
        refine (Cc.block_any k (y.drop 4) hk32.out (by rw [List.length_drop, hy16.out]) C wq).mono ?_
        rintro e wb1 ⟨rfl, mb⟩
        refine ⟨_, rfl, fun _ => (mq.trans mb).mono (fun _ _ h => h.elim), ?_⟩
        simp only [Act.put, List.setIfInBounds_toArray, List.set_cons_zero, List.set_cons_succ]
        obtain ⟨wa, hwa⟩ : ∃ x, x = wb1.alloc (.cells (encB (zb 64)) 60) := ⟨_, rfl⟩
        obtain ⟨G, hG⟩ : ∃ g, g = wb1.heap.size := ⟨_, rfl⟩
        have ma : Mod (fun _ => False) wb1 wa := by rw [hwa]; exact (Mod.refl _ _).alloc _
        have xa : wa.heap[G]? = some (.cells (encB (zb 64)) 60 (0,0)) := by rw [hwa]; exact hp_new _ _ _ hG
        have m2a := (mq.trans mb).trans ma
        have hGb : w2.heap.size ≤ G := by rw [hG]; exact (mq.trans mb).size
        refine anyZ_next 9 _ (some 7) rfl (by kernel_rfl) (by kernel_rfl) rfl (.pointer (some ⟨G, 0, none⟩)) wa (by rw [hwa, hG]; exact alloc_arr 60 _ zero64x _ _ _ rfl) (fun _ => m2a.mono (fun _ _ h => h.elim)) ?_
        simp only [Act.put, List.setIfInBounds_toArray, List.set_cons_zero, List.set_cons_succ]
        replace hwa := Lib.hid hwa
        replace hG := Lib.hid hG
        obtain ⟨BL, hBL⟩ : ∃ B, B = Cc.blockS k (y.drop 4) C := ⟨_, rfl⟩
        have hBLl : BL.length = 64 := by rw [hBL]; exact block_length _ _ _
        rw [← hBL]
        obtain ⟨wz, sz, mz, xz⟩ := store64 xa (s' := BL) (by decide) hBLl
        have hGw : w2.heap.size ≤ G := hGb
        have m2z : Mod (fun _ => False) w2 wz := m2a.trans' mz (fun x hx h => by omega)
        refine anyZ_skip 10 _ rfl (by kernel_rfl) (by kernel_rfl) rfl wz (run_store_op rfl rfl rfl sz) (fun _ => m2z.mono (fun _ _ h => h.elim)) ?_
        refine anyZ_done (by kernel_rfl) ?_ _
        have m0z := m2.trans m2z
        have bz := ByteAt.part (off := 0) (n := 5) (cap := 64) xz (by omega) (by omega)
        rw [List.drop_zero, hBL, hC.out, show (Cc.blockS k (y.drop 4) (smpC y)).take 5 = maskS k y from rfl] at bz
        have hml : (maskS k y).length = 5 := by unfold maskS; rw [List.length_take, block_length]; rfl
        replace bz := Lib.hid bz
        replace m0z := Lib.hid m0z
        replace hBL := Lib.hid hBL
        clear mz sz m2z xz
        go_upto_region 5 with (fail)
        refine wp_region_lit ?_
        refine wpList_reads (by kernel_rfl) (.slice (some ⟨G, 0, none⟩) 5 64) (by go_simp) ?_
        simp only [Act.put, List.setIfInBounds_toArray, List.set_cons_zero, List.set_cons_succ]
        refine wpList_enter (by kernel_rfl) 25 #[.slice (some ⟨G, 0, none⟩) 5 64] (by go_simp) (clone_any _ 5 64 _ hml wz bz.out (by omega) (by omega)) ?_
        rintro e wc ⟨mc, vc, rfl, ownc⟩
        obtain ⟨ac, cc, hvc⟩ := ownSlice1 ownc
        subst hvc
        have hcc : 5 ≤ cc := (byteAt_of_own ownc).cap.2
        have m0c := m0z.out.trans mc
        have hfin := hend.out _ _ m0c (clip_base0 (ClipR.clip ownc) (m0z.out.size))
        replace hfin := Lib.hid hfin
        clear mc ownc m0c
        refine ⟨_, rfl, ?_⟩
        simp only [Act.put, List.setIfInBounds_toArray, List.set_cons_zero, List.set_cons_succ]
        refine wpList_enter (by kernel_rfl) 24 #[.slice ac 5 cc] (by go_simp) (clip_now _ 5 cc hcc wc) ?_
        rintro e ww ⟨rfl, rfl⟩
        refine ⟨_, rfl, ?_⟩
        simp only [Act.put, List.setIfInBounds_toArray, List.set_cons_zero, List.set_cons_succ]
        refine wpList_reads (by kernel_rfl) (.slice ac 5 5) (by go_simp) ?_
        simp only [Act.put, List.setIfInBounds_toArray, List.set_cons_zero, List.set_cons_succ]
        refine wpList_reads (by kernel_rfl) (.int .i64 0) (by go_simp) ?_
        simp only [Act.put, List.setIfInBounds_toArray, List.set_cons_zero, List.set_cons_succ]
        go_wp2
        refine bodyPost_ret (results_tmp2 rfl _ _ _) rfl ?_
        exact hfin.out
      · obtain ⟨wa, hwa⟩ : ∃ x, x = wq.alloc (.cells (encB (zb 64)) 60) := ⟨_, rfl⟩
        obtain ⟨G, hG⟩ : ∃ g, g = wq.heap.size := ⟨_, rfl⟩
        have ma : Mod (fun _ => False) wq wa := by rw [hwa]; exact (Mod.refl _ _).alloc _
        have xa : wa.heap[G]? = some (.cells (encB (zb 64)) 60 (0,0)) := by rw [hwa]; exact hp_new _ _ _ hG
        have m2a := mq.trans ma
        have hGb : w2.heap.size ≤ G := by rw [hG]; exact mq.size
        refine wpOp_value _ (some 7) rfl (by kernel_rfl) rfl (.pointer (some ⟨G, 0, none⟩)) wa (by rw [hwa, hG]; exact alloc_arr 60 _ zero64x _ _ _ rfl) ⟨fun _ => m2a.mono (fun _ _ h => h.elim), ?_⟩
        simp only [Act.put, List.setIfInBounds_toArray, List.set_cons_zero, List.set_cons_succ]
        replace hwa := Lib.hid hwa
        replace hG := Lib.hid hG
        refine anyZ_call 8 _ (some 46) rfl (by kernel_rfl) (by kernel_rfl) rfl 26 #[.agg (encB k), .int .u32 (C.toNat : Int), .agg (encB (y.drop 4))] (by go_simp) ?_
        refine (Cc.block_any k (y.drop 4) hk32.out (by rw [List.length_drop, hy16.out]) C wa).mono ?_
        rintro e wb2 ⟨rfl, mb⟩
        have m2b := m2a.trans mb
        have xb := mb.heap xa (fun h => h)
        refine ⟨_, rfl, fun _ => m2b.mono (fun _ _ h => h.elim), ?_⟩
        simp only [Act.put, List.setIfInBounds_toArray, List.set_cons_zero, List.set_cons_succ]
        obtain ⟨BL, hBL⟩ : ∃ B, B = Cc.blockS k (y.drop 4) C := ⟨_, rfl⟩
        have hBLl : BL.length = 64 := by rw [hBL]; exact block_length _ _ _
        rw [← hBL]
        obtain ⟨wz, sz, mz, xz⟩ := store64 xb (s' := BL) (by decide) hBLl
        have hGw : w2.heap.size ≤ G := hGb
        have m2z : Mod (fun _ => False) w2 wz := m2b.trans' mz (fun x hx h => by omega)
        refine anyZ_skip 10 _ rfl (by kernel_rfl) (by kernel_rfl) rfl wz (run_store_op rfl rfl rfl sz) (fun _ => m2z.mono (fun _ _ h => h.elim)) ?_
        refine anyZ_done (by kernel_rfl) ?_ _
        have m0z := m2.trans m2z
        have bz := ByteAt.part (off := 0) (n := 5) (cap := 64) xz (by omega) (by omega)
        rw [List.drop_zero, hBL, hC.out, show (Cc.blockS k (y.drop 4) (smpC y)).take 5 = maskS k y from rfl] at bz
        have hml : (maskS k y).length = 5 := by unfold maskS; rw [List.length_take, block_length]; rfl
        replace bz := Lib.hid bz
        replace m0z := Lib.hid m0z
        replace hBL := Lib.hid hBL
        clear mz sz m2z xz
        go_upto_region 5 with (fail)
        refine wp_region_lit ?_
        refine wpList_reads (by kernel_rfl) (.slice (some ⟨G, 0, none⟩) 5 64) (by go_simp) ?_
        simp only [Act.put, List.setIfInBounds_toArray, List.set_cons_zero, List.set_cons_succ]
        refine wpList_enter (by kernel_rfl) 25 #[.slice (some ⟨G, 0, none⟩) 5 64] (by go_simp) (clone_any _ 5 64 _ hml wz bz.out (by omega) (by omega)) ?_
        rintro e wc ⟨mc, vc, rfl, ownc⟩
        obtain ⟨ac, cc, hvc⟩ := ownSlice1 ownc
        subst hvc
        have hcc : 5 ≤ cc := (byteAt_of_own ownc).cap.2
        have m0c := m0z.out.trans mc
        have hfin := hend.out _ _ m0c (clip_base0 (ClipR.clip ownc) (m0z.out.size))
        replace hfin := Lib.hid hfin
        clear mc ownc m0c
        refine ⟨_, rfl, ?_⟩
        simp only [Act.put, List.setIfInBounds_toArray, List.set_cons_zero, List.set_cons_succ]
        refine wpList_enter (by kernel_rfl) 24 #[.slice ac 5 cc] (by go_simp) (clip_now _ 5 cc hcc wc) ?_
        rintro e ww ⟨rfl, rfl⟩
        refine ⟨_, rfl, ?_⟩
        simp only [Act.put, List.setIfInBounds_toArray, List.set_cons_zero, List.set_cons_succ]
        refine wpList_reads (by kernel_rfl) (.slice ac 5 5) (by go_simp) ?_
        simp only [Act.put, List.setIfInBounds_toArray, List.set_cons_zero, List.set_cons_succ]
        refine wpList_reads (by kernel_rfl) (.int .i64 0) (by go_simp) ?_
        simp only [Act.put, List.setIfInBounds_toArray, List.set_cons_zero, List.set_cons_succ]
        go_wp2
        refine bodyPost_ret (results_tmp2 rfl _ _ _) rfl ?_
        exact hfin.out
    · have hd : ((p : Int) != 16) = true := by rw [bne_iff_ne]; omega
      have hfin : MaskEnd k y w (.returned (.tuple #[.slice none 0 0, .int .i64 1])) w := ⟨Mod.refl _ _, by rw [if_neg (by omega)]⟩
      replace hfin := Lib.hid hfin
      clear hk hy hm hp h16 h32 hbk hby hkl hyl
      go_enter Tryz.func8, Tryz.ntmps8
      go_wp2
      refine bodyPost_ret (results_tmp2 rfl _ _ _) rfl ?_
      exact hfin.out
  · have hd : ((m : Int) != 32) = true := by rw [bne_iff_ne]; omega
    have hfin : MaskEnd k y w (.returned (.tuple #[.slice none 0 0, .int .i64 1])) w := ⟨Mod.refl _ _, by rw [if_neg (by omega)]⟩
    replace hfin := Lib.hid hfin
    clear hk hy hm hp h32 hbk hby hkl hyl
    go_enter Tryz.func8, Tryz.ntmps8
    go_wp2
    refine bodyPost_ret (results_tmp2 rfl _ _ _) rfl ?_
    exact hfin.out
end Go.Proofs.YtppjnkgmbmhlcaaGreatDoor
