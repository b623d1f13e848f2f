/-
  keys.Secret, mailcoachref12.Secret. Printed by gen/kp1.py.
-/
import Derived.Test.YtppjnkgmbmhlcaaGreatDoorO1
namespace Go.Proofs.YtppjnkgmbmhlcaaGreatDoor
set_option maxRecDepth 100000
open Go Go.RowKit Go.Lib
set_option linter.unusedSimpArgs false
set_option linter.unusedVariables false

def sideS (cl : Bool) : ByteArray := if cl = true then { data := #[99, 108, 105, 101, 110, 116] } else { data := #[115, 101, 114, 118, 101, 114] }
def secE (s d : List (BitVec 8)) : Int := if s.length < 1 ∨ 256 < s.length then 1 else if 1048576 < d.length then 3 else 0
def secX (s d : List (BitVec 8)) (cl : Bool) : List (BitVec 8) := if (s.length < 1 ∨ 256 < s.length) ∨ 1048576 < d.length then [] else expandB (keyS (macB (shaS d) s)) (labelI (sideS cl) [] 32) 32
theorem secX_length (s d : List (BitVec 8)) (cl : Bool) : (secX s d cl).length ≤ 32 := by
  unfold secX
  split
  · simp
  · rw [expandB_length]; omega
/-- What Secret answers. -/
def SecEnd (s d : List (BitVec 8)) (cl : Bool) (w : World) (e : Ending) (w' : World) : Prop :=
  Mod (fun _ => False) w w' ∧ ∃ v, e = .returned (.tuple #[v, .int .i64 (secE s d)]) ∧ ClipR w' w.heap.size v (secX s d cl).length (bytesV (secX s d cl))

set_option maxRecDepth 100000 in
set_option maxHeartbeats 4000000 in
theorem secret_any (vs vd : Value) (s d : List (BitVec 8)) (cl : Bool) (w : World) (hs : ByteAt w vs s) (hd : ByteAt w vd d) (hsl : s.length < 4611686018427387904) (hdl : d.length < 4611686018427387904) :
    Calls Tryz.prog 22 #[vs, vd, .bool cl] w (SecEnd s d cl w) := by
  obtain ⟨aS, cS, rfl, _⟩ := hs.slice
  obtain ⟨ad, cd, rfl, _⟩ := hd.slice
  obtain ⟨m, hm⟩ : ∃ m, m = s.length := ⟨_, rfl⟩
  obtain ⟨p, hp⟩ : ∃ p, p = d.length := ⟨_, rfl⟩
  rw [← hm] at hs hsl ⊢
  rw [← hp] at hd hdl ⊢
  have bm0 : (0 : Int) ≤ (m : Int) := by omega
  have bp0 : (0 : Int) ≤ (p : Int) := by omega
  by_cases c1 : m < 1
  · have e1 : decide ((m : Int) < 1) = true := by rw [decide_eq_true_iff]; omega
    have hfin : SecEnd s d cl w (.returned (.tuple #[.slice none 0 0, .int .i64 1])) w := ⟨Mod.refl _ _, .slice none 0 0, by unfold secE; rw [if_pos (by omega)], by unfold secX; rw [if_pos (by omega)]; exact clip_nil _ _⟩
    replace hfin := Lib.hid hfin
    clear hs hd hm hp c1
    go_enter Tryz.func22, Tryz.ntmps22
    go_wp2
    refine bodyPost_ret (results_tmp2 rfl _ _ _) rfl ?_
    exact hfin.out
  · have e1 : decide ((m : Int) < 1) = false := by rw [decide_eq_false_iff_not]; omega
    by_cases c2 : 256 < m
    · have e2 : decide ((256 : Int) < (m : Int)) = true := by rw [decide_eq_true_iff]; omega
      have hfin : SecEnd s d cl w (.returned (.tuple #[.slice none 0 0, .int .i64 1])) w := ⟨Mod.refl _ _, .slice none 0 0, by unfold secE; rw [if_pos (by omega)], by unfold secX; rw [if_pos (by omega)]; exact clip_nil _ _⟩
      replace hfin := Lib.hid hfin
      clear hs hd hm hp c1 c2
      go_enter Tryz.func22, Tryz.ntmps22
      go_wp2
      refine bodyPost_ret (results_tmp2 rfl _ _ _) rfl ?_
      exact hfin.out
    · have e2 : decide ((256 : Int) < (m : Int)) = false := by rw [decide_eq_false_iff_not]; omega
      by_cases c3 : 1048576 < p
      · have e3 : decide ((1048576 : Int) < (p : Int)) = true := by rw [decide_eq_true_iff]; omega
        have hfin : SecEnd s d cl w (.returned (.tuple #[.slice none 0 0, .int .i64 3])) w := ⟨Mod.refl _ _, .slice none 0 0, by unfold secE; rw [if_neg (by omega), if_pos (by omega)], by unfold secX; rw [if_pos (by omega)]; exact clip_nil _ _⟩
        replace hfin := Lib.hid hfin
        clear hs hd hm hp c1 c2 c3
        go_enter Tryz.func22, Tryz.ntmps22
        go_wp2
        refine bodyPost_ret (results_tmp2 rfl _ _ _) rfl ?_
        exact hfin.out
      · have e3 : decide ((1048576 : Int) < (p : Int)) = false := by rw [decide_eq_false_iff_not]; omega
        have hE : secE s d = 0 := by unfold secE; rw [if_neg (by omega), if_neg (by omega)]
        have hX : secX s d cl = expandB (keyS (macB (shaS d) s)) (labelI (sideS cl) [] 32) 32 := by unfold secX; rw [if_neg (by omega)]
        have hsum : sumV d = .tuple #[.agg (encB (shaS d)), .int .i64 0] := by unfold sumV; rw [if_neg (by omega)]
        obtain ⟨H, hH⟩ : ∃ H, H = shaS d := ⟨_, rfl⟩
        have hHl : H.length = 32 := by rw [hH]; exact shaS_length _
        rw [← hH] at hX hsum
        obtain ⟨K, hK⟩ : ∃ K, K = macB H s := ⟨_, rfl⟩
        have hKl : K.length = 32 := by rw [hK]; exact macB_length _ _
        rw [← hK] at hX
        obtain ⟨E, hEm⟩ : ∃ E, E = macE H s := ⟨_, rfl⟩
        have m0 : Mod (fun _ => False) w w := Mod.refl _ _
        have hsl' : s.length < 4611686018427387904 := by rw [← hm]; omega
        have hdl' : d.length < 4611686018427387904 := by rw [← hp]; omega
        replace hs := Lib.hid hs
        replace hd := Lib.hid hd
        replace hm := Lib.hid hm
        replace hp := Lib.hid hp
        replace hE := Lib.hid hE
        replace hX := Lib.hid hX
        replace hsum := Lib.hid hsum
        replace hH := Lib.hid hH
        replace hHl := Lib.hid hHl
        replace hK := Lib.hid hK
        replace hKl := Lib.hid hKl
        replace hEm := Lib.hid hEm
        replace m0 := Lib.hid m0
        replace hsl' := Lib.hid hsl'
        replace hdl' := Lib.hid hdl'
        clear hsl hdl c1 c2 c3
        go_enter Tryz.func22, Tryz.ntmps22
        go_upto_region 5 with (fail)
        refine wp_region_lit ?_
        refine wpList_reads (by kernel_rfl) (.slice ad p cd) (by go_simp) ?_
        simp only [Act.put, List.setIfInBounds_toArray, List.set_cons_zero, List.set_cons_succ]
        refine wpList_enter (by kernel_rfl) 70 #[.slice ad p cd] (by go_simp) (sum_any _ d w hd.out hdl'.out) ?_
        rintro e w1 ⟨m1, rfl⟩
        rw [hsum.out]
        replace hs := Lib.hid (hs.out.mod m1 (fun _ _ h => h))
        replace hd := Lib.hid (hd.out.mod m1 (fun _ _ h => h))
        replace m0 := Lib.hid (m0.out.trans m1)
        obtain ⟨wa1, hwa1⟩ : ∃ x, x = w1.alloc (.cells (encB (zb 32)) 62) := ⟨_, rfl⟩
        obtain ⟨Ga, hGa⟩ : ∃ g, g = w1.heap.size := ⟨_, rfl⟩
        have ma : Mod (fun _ => False) w1 wa1 := by rw [hwa1]; exact (Mod.refl _ _).alloc _
        have xa : wa1.heap[Ga]? = some (.cells (encB (zb 32)) 62 (0,0)) := by rw [hwa1]; exact hp_new _ _ _ hGa
        obtain ⟨w1s, st1, ms, xGa⟩ := bytes_store xa (s' := H) (by decide) hHl.out
        have mas : Mod (fun _ => False) w1 w1s := ma.trans' ms (fun x hx h => by omega)
        replace hs := Lib.hid (hs.out.mod mas (fun _ _ h => h))
        replace hd := Lib.hid (hd.out.mod mas (fun _ _ h => h))
        replace m0 := Lib.hid (m0.out.trans mas)
        replace xGa := Lib.hid xGa
        replace hwa1 := Lib.hid hwa1
        replace hGa := Lib.hid hGa
        clear m1 ma xa ms mas
        refine ⟨_, rfl, ?_⟩
        simp only [Act.put, List.setIfInBounds_toArray, List.set_cons_zero, List.set_cons_succ]
        refine wpList_reads (by kernel_rfl) (.tuple #[.agg (encB H), .int .i64 0]) (by go_simp) ?_
        simp only [Act.put, List.setIfInBounds_toArray, List.set_cons_zero, List.set_cons_succ]
        refine wpList_reads (by kernel_rfl) (.agg (encB H)) (by go_simp) ?_
        simp only [Act.put, List.setIfInBounds_toArray, List.set_cons_zero, List.set_cons_succ]
        refine wpList_reads (by kernel_rfl) (.int .i64 0) (by go_simp) ?_
        simp only [Act.put, List.setIfInBounds_toArray, List.set_cons_zero, List.set_cons_succ]
        refine wpList_yields (by kernel_rfl) _ _ (alloc_arr 62 _ zero32 _ _ _ rfl) ?_
        simp only [Act.put, List.setIfInBounds_toArray, List.set_cons_zero, List.set_cons_succ]
        rw [← hGa.out, ← hwa1.out]
        refine wpList_store_to rfl _ _ _ rfl _ _ _ rfl rfl _ st1 ?_
        simp only [Act.put, List.setIfInBounds_toArray, List.set_cons_zero, List.set_cons_succ]
        refine wpList_reads (by kernel_rfl) (.int .i64 0) (by go_simp) ?_
        simp only [Act.put, List.setIfInBounds_toArray, List.set_cons_zero, List.set_cons_succ]
        clear st1
        go_upto_region 6 with (fail)
        refine wp_region_lit ?_
        refine wpList_reads (by kernel_rfl) (.slice (some ⟨Ga, 0, none⟩) 32 32) (by go_simp) ?_
        simp only [Act.put, List.setIfInBounds_toArray, List.set_cons_zero, List.set_cons_succ]
        refine wpList_reads (by kernel_rfl) (.slice aS m cS) (by go_simp) ?_
        simp only [Act.put, List.setIfInBounds_toArray, List.set_cons_zero, List.set_cons_succ]
        have bH := ByteAt.row xGa.out
        rw [hHl.out] at bH
        have bH := Lib.hid bH
        refine wpList_enter (by kernel_rfl) 71 #[.slice (some ⟨Ga, 0, none⟩) 32 32, .slice aS m cS] (by go_simp) (Extract_any _ _ H s w1s bH.out hs.out (by rw [hHl.out]; omega) hsl'.out) ?_
        rintro e w2 ⟨m2, rfl⟩
        unfold macV
        rw [← hK.out, ← hEm.out]
        clear bH
        replace hs := Lib.hid (hs.out.mod m2 (fun _ _ h => h))
        replace hd := Lib.hid (hd.out.mod m2 (fun _ _ h => h))
        replace m0 := Lib.hid (m0.out.trans m2)
        replace xGa := Lib.hid (m2.heap xGa.out (fun h => h))
        obtain ⟨wa2, hwa2⟩ : ∃ x, x = w2.alloc (.cells (encB (zb 32)) 62) := ⟨_, rfl⟩
        obtain ⟨Gb, hGb⟩ : ∃ g, g = w2.heap.size := ⟨_, rfl⟩
        have ma : Mod (fun _ => False) w2 wa2 := by rw [hwa2]; exact (Mod.refl _ _).alloc _
        have xa : wa2.heap[Gb]? = some (.cells (encB (zb 32)) 62 (0,0)) := by rw [hwa2]; exact hp_new _ _ _ hGb
        obtain ⟨w2s, st2, ms, xGb⟩ := bytes_store xa (s' := K) (by decide) hKl.out
        have mas : Mod (fun _ => False) w2 w2s := ma.trans' ms (fun x hx h => by omega)
        replace hs := Lib.hid (hs.out.mod mas (fun _ _ h => h))
        replace hd := Lib.hid (hd.out.mod mas (fun _ _ h => h))
        replace m0 := Lib.hid (m0.out.trans mas)
        replace xGa := Lib.hid (mas.heap xGa.out (fun h => h))
        replace xGb := Lib.hid xGb
        replace hwa2 := Lib.hid hwa2
        replace hGb := Lib.hid hGb
        clear m2 ma xa ms mas
        refine ⟨_, rfl, ?_⟩
        simp only [Act.put, List.setIfInBounds_toArray, List.set_cons_zero, List.set_cons_succ]
        refine wpList_reads (by kernel_rfl) (.tuple #[.agg (encB K), .int .i64 (E : Int)]) (by go_simp) ?_
        simp only [Act.put, List.setIfInBounds_toArray, List.set_cons_zero, List.set_cons_succ]
        refine wpList_reads (by kernel_rfl) (.agg (encB K)) (by go_simp) ?_
        simp only [Act.put, List.setIfInBounds_toArray, List.set_cons_zero, List.set_cons_succ]
        refine wpList_reads (by kernel_rfl) (.int .i64 (E : Int)) (by go_simp) ?_
        simp only [Act.put, List.setIfInBounds_toArray, List.set_cons_zero, List.set_cons_succ]
        refine wpList_yields (by kernel_rfl) _ _ (alloc_arr 62 _ zero32 _ _ _ rfl) ?_
        simp only [Act.put, List.setIfInBounds_toArray, List.set_cons_zero, List.set_cons_succ]
        rw [← hGb.out, ← hwa2.out]
        refine wpList_store_to rfl _ _ _ rfl _ _ _ rfl rfl _ st2 ?_
        simp only [Act.put, List.setIfInBounds_toArray, List.set_cons_zero, List.set_cons_succ]
        refine wpList_reads (by kernel_rfl) (.int .i64 (E : Int)) (by go_simp) ?_
        simp only [Act.put, List.setIfInBounds_toArray, List.set_cons_zero, List.set_cons_succ]
        clear st2 xGa
        have bK := ByteAt.row xGb.out
        rw [hKl.out] at bK
        replace bK := Lib.hid bK
        cases cl with
        | true =>
          go_upto_region 8 with (fail)
          refine wp_region_lit ?_
          refine wpList_reads (by kernel_rfl) (.slice (some ⟨Gb, 0, none⟩) 32 32) (by go_simp) ?_
          simp only [Act.put, List.setIfInBounds_toArray, List.set_cons_zero, List.set_cons_succ]
          refine wpList_enter (by kernel_rfl) 68 #[.slice (some ⟨Gb, 0, none⟩) 32 32, .string { data := #[99, 108, 105, 101, 110, 116] }, .int .i64 32] (by go_simp) (klabel_any _ (sideS true) K 32 w2s bK.out (by rw [hKl.out]; omega) (by decide) (by omega)) ?_
          rintro e w3 ⟨m3, v, rfl, own3⟩
          have hfin : SecEnd s d true w (.returned (.tuple #[v, .int .i64 0])) w3 := ⟨m0.out.trans m3, v, by rw [hE.out], by rw [hX.out, expandB_length]; exact .of (ownsRow_base0 own3 m0.out.size)⟩
          replace hfin := Lib.hid hfin
          clear m3 own3
          refine ⟨_, rfl, ?_⟩
          simp only [Act.put, List.setIfInBounds_toArray, List.set_cons_zero, List.set_cons_succ]
          refine wpList_reads (by kernel_rfl) (v) (by go_simp) ?_
          simp only [Act.put, List.setIfInBounds_toArray, List.set_cons_zero, List.set_cons_succ]
          refine wpList_reads (by kernel_rfl) (.int .i64 0) (by go_simp) ?_
          simp only [Act.put, List.setIfInBounds_toArray, List.set_cons_zero, List.set_cons_succ]
          go_wp2
          refine bodyPost_ret (results_tmp2 rfl _ _ _) rfl ?_
          exact hfin.out
        | false =>
          go_upto_region 9 with (fail)
          refine wp_region_lit ?_
          refine wpList_reads (by kernel_rfl) (.slice (some ⟨Gb, 0, none⟩) 32 32) (by go_simp) ?_
          simp only [Act.put, List.setIfInBounds_toArray, List.set_cons_zero, List.set_cons_succ]
          refine wpList_enter (by kernel_rfl) 68 #[.slice (some ⟨Gb, 0, none⟩) 32 32, .string { data := #[115, 101, 114, 118, 101, 114] }, .int .i64 32] (by go_simp) (klabel_any _ (sideS false) K 32 w2s bK.out (by rw [hKl.out]; omega) (by decide) (by omega)) ?_
          rintro e w3 ⟨m3, v, rfl, own3⟩
          have hfin : SecEnd s d false w (.returned (.tuple #[v, .int .i64 0])) w3 := ⟨m0.out.trans m3, v, by rw [hE.out], by rw [hX.out, expandB_length]; exact .of (ownsRow_base0 own3 m0.out.size)⟩
          replace hfin := Lib.hid hfin
          clear m3 own3
          refine ⟨_, rfl, ?_⟩
          simp only [Act.put, List.setIfInBounds_toArray, List.set_cons_zero, List.set_cons_succ]
          refine wpList_reads (by kernel_rfl) (v) (by go_simp) ?_
          simp only [Act.put, List.setIfInBounds_toArray, List.set_cons_zero, List.set_cons_succ]
          refine wpList_reads (by kernel_rfl) (.int .i64 0) (by go_simp) ?_
          simp only [Act.put, List.setIfInBounds_toArray, List.set_cons_zero, List.set_cons_succ]
          go_wp2
          refine bodyPost_ret (results_tmp2 rfl _ _ _) rfl ?_
          exact hfin.out
set_option maxRecDepth 100000 in
set_option maxHeartbeats 4000000 in
theorem refsecret_any (vs vd : Value) (s d : List (BitVec 8)) (cl : Bool) (w : World) (hs : ByteAt w vs s) (hd : ByteAt w vd d) (hsl : s.length < 4611686018427387904) (hdl : d.length < 4611686018427387904) :
    Calls Tryz.prog 23 #[vs, vd, .bool cl] w (SecEnd s d cl w) := by
  obtain ⟨aS, cS, rfl, _⟩ := hs.slice
  obtain ⟨ad, cd, rfl, _⟩ := hd.slice
  obtain ⟨m, hm⟩ : ∃ m, m = s.length := ⟨_, rfl⟩
  obtain ⟨p, hp⟩ : ∃ p, p = d.length := ⟨_, rfl⟩
  rw [← hm] at hs hsl ⊢
  rw [← hp] at hd hdl ⊢
  have bm0 : (0 : Int) ≤ (m : Int) := by omega
  have bp0 : (0 : Int) ≤ (p : Int) := by omega
  by_cases c1 : m < 1
  · have e1 : decide ((m : Int) < 1) = true := by rw [decide_eq_true_iff]; omega
    have hfin : SecEnd s d cl w (.returned (.tuple #[.slice none 0 0, .int .i64 1])) w := ⟨Mod.refl _ _, .slice none 0 0, by unfold secE; rw [if_pos (by omega)], by unfold secX; rw [if_pos (by omega)]; exact clip_nil _ _⟩
    replace hfin := Lib.hid hfin
    clear hs hd hm hp c1
    go_enter Tryz.func23, Tryz.ntmps23
    go_wp2
    refine bodyPost_ret (results_tmp2 rfl _ _ _) rfl ?_
    exact hfin.out
  · have e1 : decide ((m : Int) < 1) = false := by rw [decide_eq_false_iff_not]; omega
    by_cases c2 : 256 < m
    · have e2 : decide ((256 : Int) < (m : Int)) = true := by rw [decide_eq_true_iff]; omega
      have hfin : SecEnd s d cl w (.returned (.tuple #[.slice none 0 0, .int .i64 1])) w := ⟨Mod.refl _ _, .slice none 0 0, by unfold secE; rw [if_pos (by omega)], by unfold secX; rw [if_pos (by omega)]; exact clip_nil _ _⟩
      replace hfin := Lib.hid hfin
      clear hs hd hm hp c1 c2
      go_enter Tryz.func23, Tryz.ntmps23
      go_wp2
      refine bodyPost_ret (results_tmp2 rfl _ _ _) rfl ?_
      exact hfin.out
    · have e2 : decide ((256 : Int) < (m : Int)) = false := by rw [decide_eq_false_iff_not]; omega
      by_cases c3 : 1048576 < p
      · have e3 : decide ((1048576 : Int) < (p : Int)) = true := by rw [decide_eq_true_iff]; omega
        have hfin : SecEnd s d cl w (.returned (.tuple #[.slice none 0 0, .int .i64 3])) w := ⟨Mod.refl _ _, .slice none 0 0, by unfold secE; rw [if_neg (by omega), if_pos (by omega)], by unfold secX; rw [if_pos (by omega)]; exact clip_nil _ _⟩
        replace hfin := Lib.hid hfin
        clear hs hd hm hp c1 c2 c3
        go_enter Tryz.func23, Tryz.ntmps23
        go_wp2
        refine bodyPost_ret (results_tmp2 rfl _ _ _) rfl ?_
        exact hfin.out
      · have e3 : decide ((1048576 : Int) < (p : Int)) = false := by rw [decide_eq_false_iff_not]; omega
        have hE : secE s d = 0 := by unfold secE; rw [if_neg (by omega), if_neg (by omega)]
        have hX : secX s d cl = expandB (keyS (macB (shaS d) s)) (labelI (sideS cl) [] 32) 32 := by unfold secX; rw [if_neg (by omega)]
        have hsum : sumV d = .tuple #[.agg (encB (shaS d)), .int .i64 0] := by unfold sumV; rw [if_neg (by omega)]
        obtain ⟨H, hH⟩ : ∃ H, H = shaS d := ⟨_, rfl⟩
        have hHl : H.length = 32 := by rw [hH]; exact shaS_length _
        rw [← hH] at hX hsum
        obtain ⟨K, hK⟩ : ∃ K, K = macB H s := ⟨_, rfl⟩
        have hKl : K.length = 32 := by rw [hK]; exact macB_length _ _
        rw [← hK] at hX
        obtain ⟨E, hEm⟩ : ∃ E, E = macE H s := ⟨_, rfl⟩
        have m0 : Mod (fun _ => False) w w := Mod.refl _ _
        have hsl' : s.length < 4611686018427387904 := by rw [← hm]; omega
        have hdl' : d.length < 4611686018427387904 := by rw [← hp]; omega
        replace hs := Lib.hid hs
        replace hd := Lib.hid hd
        replace hm := Lib.hid hm
        replace hp := Lib.hid hp
        replace hE := Lib.hid hE
        replace hX := Lib.hid hX
        replace hsum := Lib.hid hsum
        replace hH := Lib.hid hH
        replace hHl := Lib.hid hHl
        replace hK := Lib.hid hK
        replace hKl := Lib.hid hKl
        replace hEm := Lib.hid hEm
        replace m0 := Lib.hid m0
        replace hsl' := Lib.hid hsl'
        replace hdl' := Lib.hid hdl'
        clear hsl hdl c1 c2 c3
        go_enter Tryz.func23, Tryz.ntmps23
        go_upto_region 5 with (fail)
        refine wp_region_lit ?_
        refine wpList_reads (by kernel_rfl) (.slice ad p cd) (by go_simp) ?_
        simp only [Act.put, List.setIfInBounds_toArray, List.set_cons_zero, List.set_cons_succ]
        refine wpList_enter (by kernel_rfl) 72 #[.slice ad p cd] (by go_simp) (refSum_any _ d w hd.out hdl'.out) ?_
        rintro e w1 ⟨m1, rfl⟩
        rw [hsum.out]
        replace hs := Lib.hid (hs.out.mod m1 (fun _ _ h => h))
        replace hd := Lib.hid (hd.out.mod m1 (fun _ _ h => h))
        replace m0 := Lib.hid (m0.out.trans m1)
        obtain ⟨wa1, hwa1⟩ : ∃ x, x = w1.alloc (.cells (encB (zb 32)) 62) := ⟨_, rfl⟩
        obtain ⟨Ga, hGa⟩ : ∃ g, g = w1.heap.size := ⟨_, rfl⟩
        have ma : Mod (fun _ => False) w1 wa1 := by rw [hwa1]; exact (Mod.refl _ _).alloc _
        have xa : wa1.heap[Ga]? = some (.cells (encB (zb 32)) 62 (0,0)) := by rw [hwa1]; exact hp_new _ _ _ hGa
        obtain ⟨w1s, st1, ms, xGa⟩ := bytes_store xa (s' := H) (by decide) hHl.out
        have mas : Mod (fun _ => False) w1 w1s := ma.trans' ms (fun x hx h => by omega)
        replace hs := Lib.hid (hs.out.mod mas (fun _ _ h => h))
        replace hd := Lib.hid (hd.out.mod mas (fun _ _ h => h))
        replace m0 := Lib.hid (m0.out.trans mas)
        replace xGa := Lib.hid xGa
        replace hwa1 := Lib.hid hwa1
        replace hGa := Lib.hid hGa
        clear m1 ma xa ms mas
        refine ⟨_, rfl, ?_⟩
        simp only [Act.put, List.setIfInBounds_toArray, List.set_cons_zero, List.set_cons_succ]
        refine wpList_reads (by kernel_rfl) (.tuple #[.agg (encB H), .int .i64 0]) (by go_simp) ?_
        simp only [Act.put, List.setIfInBounds_toArray, List.set_cons_zero, List.set_cons_succ]
        refine wpList_reads (by kernel_rfl) (.agg (encB H)) (by go_simp) ?_
        simp only [Act.put, List.setIfInBounds_toArray, List.set_cons_zero, List.set_cons_succ]
        refine wpList_reads (by kernel_rfl) (.int .i64 0) (by go_simp) ?_
        simp only [Act.put, List.setIfInBounds_toArray, List.set_cons_zero, List.set_cons_succ]
        refine wpList_yields (by kernel_rfl) _ _ (alloc_arr 62 _ zero32 _ _ _ rfl) ?_
        simp only [Act.put, List.setIfInBounds_toArray, List.set_cons_zero, List.set_cons_succ]
        rw [← hGa.out, ← hwa1.out]
        refine wpList_store_to rfl _ _ _ rfl _ _ _ rfl rfl _ st1 ?_
        simp only [Act.put, List.setIfInBounds_toArray, List.set_cons_zero, List.set_cons_succ]
        refine wpList_reads (by kernel_rfl) (.int .i64 0) (by go_simp) ?_
        simp only [Act.put, List.setIfInBounds_toArray, List.set_cons_zero, List.set_cons_succ]
        clear st1
        go_upto_region 6 with (fail)
        refine wp_region_lit ?_
        refine wpList_reads (by kernel_rfl) (.slice (some ⟨Ga, 0, none⟩) 32 32) (by go_simp) ?_
        simp only [Act.put, List.setIfInBounds_toArray, List.set_cons_zero, List.set_cons_succ]
        refine wpList_reads (by kernel_rfl) (.slice aS m cS) (by go_simp) ?_
        simp only [Act.put, List.setIfInBounds_toArray, List.set_cons_zero, List.set_cons_succ]
        have bH := ByteAt.row xGa.out
        rw [hHl.out] at bH
        have bH := Lib.hid bH
        refine wpList_enter (by kernel_rfl) 73 #[.slice (some ⟨Ga, 0, none⟩) 32 32, .slice aS m cS] (by go_simp) (refExtract_any _ _ H s w1s bH.out hs.out (by rw [hHl.out]; omega) hsl'.out) ?_
        rintro e w2 ⟨m2, rfl⟩
        unfold macV
        rw [← hK.out, ← hEm.out]
        clear bH
        replace hs := Lib.hid (hs.out.mod m2 (fun _ _ h => h))
        replace hd := Lib.hid (hd.out.mod m2 (fun _ _ h => h))
        replace m0 := Lib.hid (m0.out.trans m2)
        replace xGa := Lib.hid (m2.heap xGa.out (fun h => h))
        obtain ⟨wa2, hwa2⟩ : ∃ x, x = w2.alloc (.cells (encB (zb 32)) 62) := ⟨_, rfl⟩
        obtain ⟨Gb, hGb⟩ : ∃ g, g = w2.heap.size := ⟨_, rfl⟩
        have ma : Mod (fun _ => False) w2 wa2 := by rw [hwa2]; exact (Mod.refl _ _).alloc _
        have xa : wa2.heap[Gb]? = some (.cells (encB (zb 32)) 62 (0,0)) := by rw [hwa2]; exact hp_new _ _ _ hGb
        obtain ⟨w2s, st2, ms, xGb⟩ := bytes_store xa (s' := K) (by decide) hKl.out
        have mas : Mod (fun _ => False) w2 w2s := ma.trans' ms (fun x hx h => by omega)
        replace hs := Lib.hid (hs.out.mod mas (fun _ _ h => h))
        replace hd := Lib.hid (hd.out.mod mas (fun _ _ h => h))
        replace m0 := Lib.hid (m0.out.trans mas)
        replace xGa := Lib.hid (mas.heap xGa.out (fun h => h))
        replace xGb := Lib.hid xGb
        replace hwa2 := Lib.hid hwa2
        replace hGb := Lib.hid hGb
        clear m2 ma xa ms mas
        refine ⟨_, rfl, ?_⟩
        simp only [Act.put, List.setIfInBounds_toArray, List.set_cons_zero, List.set_cons_succ]
        refine wpList_reads (by kernel_rfl) (.tuple #[.agg (encB K), .int .i64 (E : Int)]) (by go_simp) ?_
        simp only [Act.put, List.setIfInBounds_toArray, List.set_cons_zero, List.set_cons_succ]
        refine wpList_reads (by kernel_rfl) (.agg (encB K)) (by go_simp) ?_
        simp only [Act.put, List.setIfInBounds_toArray, List.set_cons_zero, List.set_cons_succ]
        refine wpList_reads (by kernel_rfl) (.int .i64 (E : Int)) (by go_simp) ?_
        simp only [Act.put, List.setIfInBounds_toArray, List.set_cons_zero, List.set_cons_succ]
        refine wpList_yields (by kernel_rfl) _ _ (alloc_arr 62 _ zero32 _ _ _ rfl) ?_
        simp only [Act.put, List.setIfInBounds_toArray, List.set_cons_zero, List.set_cons_succ]
        rw [← hGb.out, ← hwa2.out]
        refine wpList_store_to rfl _ _ _ rfl _ _ _ rfl rfl _ st2 ?_
        simp only [Act.put, List.setIfInBounds_toArray, List.set_cons_zero, List.set_cons_succ]
        refine wpList_reads (by kernel_rfl) (.int .i64 (E : Int)) (by go_simp) ?_
        simp only [Act.put, List.setIfInBounds_toArray, List.set_cons_zero, List.set_cons_succ]
        clear st2 xGa
        have bK := ByteAt.row xGb.out
        rw [hKl.out] at bK
        replace bK := Lib.hid bK
        cases cl with
        | true =>
          go_upto_region 10 with (fail)
          refine wp_region_lit ?_
          refine wpList_reads (by kernel_rfl) (.slice (some ⟨Gb, 0, none⟩) 32 32) (by go_simp) ?_
          simp only [Act.put, List.setIfInBounds_toArray, List.set_cons_zero, List.set_cons_succ]
          refine wpList_reads (by kernel_rfl) (.string { data := #[99, 108, 105, 101, 110, 116] }) (by go_simp) ?_
          simp only [Act.put, List.setIfInBounds_toArray, List.set_cons_zero, List.set_cons_succ]
          refine wpList_enter (by kernel_rfl) 69 #[.slice (some ⟨Gb, 0, none⟩) 32 32, .string { data := #[99, 108, 105, 101, 110, 116] }, .slice none 0 0, .int .i64 32] (by go_simp) (reflabel_any _ _ (sideS true) K [] 32 w2s bK.out (byteAt_nil1 _) (by rw [hKl.out]; omega) (by simp) (by decide) (by omega) (by omega)) ?_
          rintro e w3 ⟨m3, h3⟩
          rw [if_neg (by decide)] at h3
          obtain ⟨v, rfl, own3⟩ := h3
          have hfin : SecEnd s d true w (.returned (.tuple #[v, .int .i64 0])) w3 := ⟨m0.out.trans m3, v, by rw [hE.out], by rw [hX.out, expandB_length]; exact .of (ownsRow_base0 own3 m0.out.size)⟩
          replace hfin := Lib.hid hfin
          clear m3 own3
          refine ⟨_, rfl, ?_⟩
          simp only [Act.put, List.setIfInBounds_toArray, List.set_cons_zero, List.set_cons_succ]
          refine wpList_reads (by kernel_rfl) (.tuple #[v, .int .i64 0]) (by go_simp) ?_
          simp only [Act.put, List.setIfInBounds_toArray, List.set_cons_zero, List.set_cons_succ]
          refine wpList_reads (by kernel_rfl) (v) (by go_simp) ?_
          simp only [Act.put, List.setIfInBounds_toArray, List.set_cons_zero, List.set_cons_succ]
          refine wpList_reads (by kernel_rfl) (.int .i64 0) (by go_simp) ?_
          simp only [Act.put, List.setIfInBounds_toArray, List.set_cons_zero, List.set_cons_succ]
          refine wpList_reads (by kernel_rfl) (v) (by go_simp) ?_
          simp only [Act.put, List.setIfInBounds_toArray, List.set_cons_zero, List.set_cons_succ]
          refine wpList_reads (by kernel_rfl) (.int .i64 0) (by go_simp) ?_
          simp only [Act.put, List.setIfInBounds_toArray, List.set_cons_zero, List.set_cons_succ]
          go_wp2
          refine bodyPost_ret (results_tmp2 rfl _ _ _) rfl ?_
          exact hfin.out
        | false =>
          go_upto_region 10 with (fail)
          refine wp_region_lit ?_
          refine wpList_reads (by kernel_rfl) (.slice (some ⟨Gb, 0, none⟩) 32 32) (by go_simp) ?_
          simp only [Act.put, List.setIfInBounds_toArray, List.set_cons_zero, List.set_cons_succ]
          refine wpList_reads (by kernel_rfl) (.string { data := #[115, 101, 114, 118, 101, 114] }) (by go_simp) ?_
          simp only [Act.put, List.setIfInBounds_toArray, List.set_cons_zero, List.set_cons_succ]
          refine wpList_enter (by kernel_rfl) 69 #[.slice (some ⟨Gb, 0, none⟩) 32 32, .string { data := #[115, 101, 114, 118, 101, 114] }, .slice none 0 0, .int .i64 32] (by go_simp) (reflabel_any _ _ (sideS false) K [] 32 w2s bK.out (byteAt_nil1 _) (by rw [hKl.out]; omega) (by simp) (by decide) (by omega) (by omega)) ?_
          rintro e w3 ⟨m3, h3⟩
          rw [if_neg (by decide)] at h3
          obtain ⟨v, rfl, own3⟩ := h3
          have hfin : SecEnd s d false w (.returned (.tuple #[v, .int .i64 0])) w3 := ⟨m0.out.trans m3, v, by rw [hE.out], by rw [hX.out, expandB_length]; exact .of (ownsRow_base0 own3 m0.out.size)⟩
          replace hfin := Lib.hid hfin
          clear m3 own3
          refine ⟨_, rfl, ?_⟩
          simp only [Act.put, List.setIfInBounds_toArray, List.set_cons_zero, List.set_cons_succ]
          refine wpList_reads (by kernel_rfl) (.tuple #[v, .int .i64 0]) (by go_simp) ?_
          simp only [Act.put, List.setIfInBounds_toArray, List.set_cons_zero, List.set_cons_succ]
          refine wpList_reads (by kernel_rfl) (v) (by go_simp) ?_
          simp only [Act.put, List.setIfInBounds_toArray, List.set_cons_zero, List.set_cons_succ]
          refine wpList_reads (by kernel_rfl) (.int .i64 0) (by go_simp) ?_
          simp only [Act.put, List.setIfInBounds_toArray, List.set_cons_zero, List.set_cons_succ]
          refine wpList_reads (by kernel_rfl) (v) (by go_simp) ?_
          simp only [Act.put, List.setIfInBounds_toArray, List.set_cons_zero, List.set_cons_succ]
          refine wpList_reads (by kernel_rfl) (.int .i64 0) (by go_simp) ?_
          simp only [Act.put, List.setIfInBounds_toArray, List.set_cons_zero, List.set_cons_succ]
          go_wp2
          refine bodyPost_ret (results_tmp2 rfl _ _ _) rfl ?_
          exact hfin.out
end Go.Proofs.YtppjnkgmbmhlcaaGreatDoor
