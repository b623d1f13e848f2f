/-
  hello.Proof, and the document's: both answer the same. HelloProofs. Printed by gen/hproof.py.
-/
import Derived.Test.YtmgamagmlokpmaaR8
import Derived.Test.YtmgamagmlokpmaaTw
import Derived.Test.YtmgamagmlokpmaaK0
import Derived.Test.YtmgamagmlokpmaaHv
namespace Go.Proofs.Ytmgamagmlokpmaa
open Go Go.RowKit Go.Lib
set_option linter.unusedSimpArgs false
set_option linter.unusedVariables false

def clientP : ByteArray := { data := #[99, 108, 105, 101, 110, 116, 32, 112, 114, 111, 111, 102] }
def serverP : ByteArray := { data := #[115, 101, 114, 118, 101, 114, 32, 112, 114, 111, 111, 102] }
def nameP (sv : Bool) : ByteArray := if sv then serverP else clientP
def keyP (sh : List (BitVec 8)) (sv : Bool) : List (BitVec 8) := expandB (keyS (macB [] sh)) (labelI (nameP sv) [] 32) 32
def proofB (sh sd : List (BitVec 8)) (sv : Bool) : List (BitVec 8) := if sh.length < 1 ∨ 256 < sh.length ∨ 1048576 < sd.length then zb 32 else macB (keyP sh sv) sd
def proofE (sh sd : List (BitVec 8)) (sv : Bool) : Nat := if sh.length < 1 ∨ 256 < sh.length then 1 else if 1048576 < sd.length then 3 else macE (keyP sh sv) sd
theorem proofB_length (sh sd : List (BitVec 8)) (sv : Bool) : (proofB sh sd sv).length = 32 := by
  unfold proofB
  split
  · rfl
  · exact macB_length _ _
def proofV (sh sd : List (BitVec 8)) (sv : Bool) : Value := .tuple #[.agg (encB (proofB sh sd sv)), .int .i64 (proofE sh sd sv : Int)]
theorem byteAt_nil (w : World) : ByteAt w (.slice none 0 0) [] := .inl ⟨_, _, rfl, rfl⟩
theorem keyP_length (sh : List (BitVec 8)) (sv : Bool) : (keyP sh sv).length = 32 := expandB_length _ _ _

set_option maxRecDepth 100000 in
set_option maxHeartbeats 4000000 in
theorem proof_any (vh vd : Value) (sh sd : List (BitVec 8)) (sv : Bool) (w : World) (hh : ByteAt w vh sh) (hd : ByteAt w vd sd) (hhl : sh.length < 4611686018427387904) (hdl : sd.length < 4611686018427387904) :
    Calls Try.prog 11 #[vh, vd, .bool sv] w fun e w' => Mod (fun _ => False) w w' ∧ e = .returned (proofV sh sd sv) := by
  obtain ⟨ah, ch, rfl, _⟩ := hh.slice
  obtain ⟨ad, cd, rfl, _⟩ := hd.slice
  obtain ⟨m, hm⟩ : ∃ m, m = sh.length := ⟨_, rfl⟩
  obtain ⟨n, hn⟩ : ∃ n, n = sd.length := ⟨_, rfl⟩
  obtain ⟨w1, hw1⟩ : ∃ w1, w1 = w.alloc (.cells (encB (zb 32)) 23) := ⟨_, rfl⟩
  obtain ⟨G, hG⟩ : ∃ G, G = w.heap.size := ⟨_, rfl⟩
  have m1 : Mod (fun _ => False) w w1 := by rw [hw1]; exact (Mod.refl _ _).alloc _
  have x1 : w1.heap[G]? = some (.cells (encB (zb 32)) 23 (0,0)) := by rw [hw1]; exact hp_new _ _ _ hG
  have hh1 := hh.mod m1 (fun _ _ h => h)
  have hd1 := hd.mod m1 (fun _ _ h => h)
  rw [← hm] at hh1 hhl ⊢
  rw [← hn] at hd1 hdl ⊢
  have bm0 : (0 : Int) ≤ (m : Int) := by omega
  have bn0 : (0 : Int) ≤ (n : Int) := by omega
  replace hw1 := Lib.hid hw1
  replace hG := Lib.hid hG
  replace hh1 := Lib.hid hh1
  replace hd1 := Lib.hid hd1
  replace m1 := Lib.hid m1
  replace x1 := Lib.hid x1
  replace hm := Lib.hid hm
  replace hn := Lib.hid hn
  clear hh hd
  go_enter Try.func11, Try.ntmps11
  go_upto_region 0 with (fail)
  refine wp_region_lit ?_
  refine wpList_yields (by kernel_rfl) _ _ (alloc_arr 23 _ zero32 _ _ _ rfl) ?_
  simp only [Act.put, List.setIfInBounds_toArray, List.set_cons_zero, List.set_cons_succ]
  rw [← hG.out, ← hw1.out]
  refine wpList_reads (by kernel_rfl) (.int .i64 0) (by go_simp) ?_
  simp only [Act.put, List.setIfInBounds_toArray, List.set_cons_zero, List.set_cons_succ]
  by_cases hlow : m < 1
  · have hq1 : decide ((m : Int) < 1) = true := by rw [decide_eq_true_iff]; omega
    have hm0 : m = 0 := by omega
    obtain ⟨wz, sz, mz, xz⟩ := bytes_store x1.out (s' := zb 32) (by decide) (by decide)
    have mfz : Mod (fun _ => False) w wz := m1.out.trans' mz (fun i hi h => by have := hG.out; omega)
    have hv : proofV sh sd sv = .tuple #[.agg (encB (zb 32)), .int .i64 1] := by
      unfold proofV proofB proofE
      rw [if_pos (.inl (by rw [← hm.out]; exact hlow)), if_pos (.inl (by rw [← hm.out]; exact hlow))]
      rfl
    replace mfz := Lib.hid mfz
    replace hv := Lib.hid hv
    clear mz
    go_upto_region 2 with (fail)
    refine wp_region_lit ?_
    refine wpList_yields (by kernel_rfl) _ _ (build_zero32 _ _ _ rfl) ?_
    simp only [Act.put, List.setIfInBounds_toArray, List.set_cons_zero, List.set_cons_succ]
    refine wpList_store_to rfl _ _ _ rfl _ _ _ rfl rfl _ sz ?_
    simp only [Act.put, List.setIfInBounds_toArray, List.set_cons_zero, List.set_cons_succ]
    refine wpList_reads (by kernel_rfl) (.int .i64 1) (by go_simp) ?_
    simp only [Act.put, List.setIfInBounds_toArray, List.set_cons_zero, List.set_cons_succ]
    go_wp2
    exact bodyPost_ret (v := .tuple #[.agg (encB (zb 32)), .int .i64 1]) (results_sum2 rfl _ _ _ _ _ rfl rfl xz (by decide)) rfl ⟨mfz.out, by rw [hv.out]⟩
  · have hq1 : decide ((m : Int) < 1) = false := by rw [decide_eq_false_iff_not]; omega
    by_cases hhigh : 256 < m
    · have hq2 : decide ((256 : Int) < (m : Int)) = true := by rw [decide_eq_true_iff]; omega
      obtain ⟨wz, sz, mz, xz⟩ := bytes_store x1.out (s' := zb 32) (by decide) (by decide)
      have mfz : Mod (fun _ => False) w wz := m1.out.trans' mz (fun i hi h => by have := hG.out; omega)
      have hv : proofV sh sd sv = .tuple #[.agg (encB (zb 32)), .int .i64 1] := by
        unfold proofV proofB proofE
        rw [if_pos (.inr (.inl (by rw [← hm.out]; exact hhigh))), if_pos (.inr (by rw [← hm.out]; exact hhigh))]
        rfl
      replace mfz := Lib.hid mfz
      replace hv := Lib.hid hv
      clear mz
      go_upto_region 2 with (fail)
      refine wp_region_lit ?_
      refine wpList_yields (by kernel_rfl) _ _ (build_zero32 _ _ _ rfl) ?_
      simp only [Act.put, List.setIfInBounds_toArray, List.set_cons_zero, List.set_cons_succ]
      refine wpList_store_to rfl _ _ _ rfl _ _ _ rfl rfl _ sz ?_
      simp only [Act.put, List.setIfInBounds_toArray, List.set_cons_zero, List.set_cons_succ]
      refine wpList_reads (by kernel_rfl) (.int .i64 1) (by go_simp) ?_
      simp only [Act.put, List.setIfInBounds_toArray, List.set_cons_zero, List.set_cons_succ]
      go_wp2
      exact bodyPost_ret (v := .tuple #[.agg (encB (zb 32)), .int .i64 1]) (results_sum2 rfl _ _ _ _ _ rfl rfl xz (by decide)) rfl ⟨mfz.out, by rw [hv.out]⟩
    · have hq2 : decide ((256 : Int) < (m : Int)) = false := by rw [decide_eq_false_iff_not]; omega
      by_cases hbig : 1048576 < n
      · have hq3 : decide ((1048576 : Int) < (n : Int)) = true := by rw [decide_eq_true_iff]; omega
        obtain ⟨wz, sz, mz, xz⟩ := bytes_store x1.out (s' := zb 32) (by decide) (by decide)
        have mfz : Mod (fun _ => False) w wz := m1.out.trans' mz (fun i hi h => by have := hG.out; omega)
        have hv : proofV sh sd sv = .tuple #[.agg (encB (zb 32)), .int .i64 3] := by
          unfold proofV proofB proofE
          rw [if_pos (.inr (.inr (by rw [← hn.out]; exact hbig))), if_neg (by rw [← hm.out]; omega), if_pos (by rw [← hn.out]; exact hbig)]
          rfl
        replace mfz := Lib.hid mfz
        replace hv := Lib.hid hv
        clear mz
        go_upto_region 4 with (fail)
        refine wp_region_lit ?_
        refine wpList_yields (by kernel_rfl) _ _ (build_zero32 _ _ _ rfl) ?_
        simp only [Act.put, List.setIfInBounds_toArray, List.set_cons_zero, List.set_cons_succ]
        refine wpList_store_to rfl _ _ _ rfl _ _ _ rfl rfl _ sz ?_
        simp only [Act.put, List.setIfInBounds_toArray, List.set_cons_zero, List.set_cons_succ]
        refine wpList_reads (by kernel_rfl) (.int .i64 3) (by go_simp) ?_
        simp only [Act.put, List.setIfInBounds_toArray, List.set_cons_zero, List.set_cons_succ]
        go_wp2
        exact bodyPost_ret (v := .tuple #[.agg (encB (zb 32)), .int .i64 3]) (results_sum2 rfl _ _ _ _ _ rfl rfl xz (by decide)) rfl ⟨mfz.out, by rw [hv.out]⟩
      · have hq3 : decide ((1048576 : Int) < (n : Int)) = false := by rw [decide_eq_false_iff_not]; omega
        have hv : proofV sh sd sv = macV (keyP sh sv) sd := by
          unfold proofV proofB proofE macV
          rw [if_neg (by rw [← hm.out, ← hn.out]; omega), if_neg (by rw [← hm.out]; omega), if_neg (by rw [← hn.out]; omega)]
        have hml : m ≤ 256 := by omega
        have hnl : n ≤ 1048576 := by omega
        have hmE : macV [] sh = .tuple #[.agg (encB (macB [] sh)), .int .i64 0] := by
          unfold macV macE
          rw [if_neg (by rw [← hm.out]; simp; omega)]
          rfl
        replace hml := Lib.hid hml
        replace hnl := Lib.hid hnl
        replace hlow := Lib.hid hlow
        replace hhigh := Lib.hid hhigh
        replace hbig := Lib.hid hbig
        replace hmE := Lib.hid hmE
        have hkp : keyP sh sv = expandB (keyS (macB [] sh)) (labelI (nameP sv) [] 32) 32 := rfl
        obtain ⟨KP, hKP⟩ : ∃ K, K = keyP sh sv := ⟨_, rfl⟩
        have hKPl : KP.length = 32 := by rw [hKP]; exact keyP_length _ _
        rw [← hKP] at hv hkp
        obtain ⟨X, hX⟩ : ∃ X, X = macB [] sh := ⟨_, rfl⟩
        have hXl : X.length = 32 := by rw [hX]; exact macB_length _ _
        rw [← hX] at hkp hmE
        replace hX := Lib.hid hX
        replace hKP := Lib.hid hKP
        replace hkp := Lib.hid hkp
        replace hv := Lib.hid hv
        cases sv
        · have hnp : nameP false = clientP := rfl
          go_upto_region 5 with (fail)
          refine wp_region_lit ?_
          refine wpList_reads (by kernel_rfl) (.string clientP) (by unfold clientP; go_simp) ?_
          simp only [Act.put, List.setIfInBounds_toArray, List.set_cons_zero, List.set_cons_succ]
          go_upto_region 8 with (fail)
          refine wp_region_lit ?_
          refine wpList_reads (by kernel_rfl) (.slice ah m ch) (by go_simp) ?_
          simp only [Act.put, List.setIfInBounds_toArray, List.set_cons_zero, List.set_cons_succ]
          refine wpList_enter (by kernel_rfl) 19 #[.slice none 0 0, .slice ah m ch] (by go_simp) (Extract_any _ _ [] sh w1 (byteAt_nil _) hh1.out (by simp) (by rw [← hm.out]; omega)) ?_
          rintro e w2 ⟨m2, rfl⟩
          rw [hmE.out]
          obtain ⟨wa3, hw3⟩ : ∃ x, x = w2.alloc (.cells (encB (zb 32)) 23) := ⟨_, rfl⟩
          obtain ⟨g3, hg3⟩ : ∃ g, g = w2.heap.size := ⟨_, rfl⟩
          have ma3 : Mod (fun _ => False) w2 wa3 := by rw [hw3]; exact (Mod.refl _ _).alloc _
          have xa3 : wa3.heap[g3]? = some (.cells (encB (zb 32)) 23 (0,0)) := by rw [hw3]; exact hp_new _ _ _ hg3
          obtain ⟨w3, st3, na3, x3⟩ := bytes_store xa3 (s' := X) (by decide) hXl
          have m3 : Mod (fun _ => False) w2 w3 := ma3.trans' na3 (fun k hk h => by omega)
          replace hw3 := Lib.hid hw3
          replace hg3 := Lib.hid hg3
          replace x3 := Lib.hid x3
          clear ma3 xa3 na3
          have m13 := m2.trans m3
          have x13 := m13.heap x1.out (fun h => h)
          have hd3 := hd1.out.mod m13 (fun _ _ h => h)
          have m03 := m1.out.trans m13
          have bX := ByteAt.row x3.out
          rw [hXl] at bX
          replace x13 := Lib.hid x13
          replace hd3 := Lib.hid hd3
          replace m03 := Lib.hid m03
          replace bX := Lib.hid bX
          clear m2 m3 m13 x3
          refine ⟨_, rfl, ?_⟩
          simp only [Act.put, List.setIfInBounds_toArray, List.set_cons_zero, List.set_cons_succ]
          refine wpList_reads (by kernel_rfl) (.tuple #[.agg (encB X), .int .i64 0]) (by go_simp) ?_
          simp only [Act.put, List.setIfInBounds_toArray, List.set_cons_zero, List.set_cons_succ]
          refine wpList_reads (by kernel_rfl) (.agg (encB X)) (by go_simp) ?_
          simp only [Act.put, List.setIfInBounds_toArray, List.set_cons_zero, List.set_cons_succ]
          refine wpList_reads (by kernel_rfl) (.int .i64 0) (by go_simp) ?_
          simp only [Act.put, List.setIfInBounds_toArray, List.set_cons_zero, List.set_cons_succ]
          refine wpList_yields (by kernel_rfl) _ _ (alloc_arr 23 _ zero32 _ _ _ rfl) ?_
          simp only [Act.put, List.setIfInBounds_toArray, List.set_cons_zero, List.set_cons_succ]
          rw [← hg3.out, ← hw3.out]
          refine wpList_store_to rfl _ _ _ rfl _ _ _ rfl rfl _ st3 ?_
          simp only [Act.put, List.setIfInBounds_toArray, List.set_cons_zero, List.set_cons_succ]
          refine wpList_reads (by kernel_rfl) (.int .i64 0) (by go_simp) ?_
          simp only [Act.put, List.setIfInBounds_toArray, List.set_cons_zero, List.set_cons_succ]
          go_upto_region 9 with (fail)
          refine wp_region_lit ?_
          refine wpList_reads (by kernel_rfl) (.slice (some ⟨g3, 0, none⟩) 32 32) (by go_simp) ?_
          simp only [Act.put, List.setIfInBounds_toArray, List.set_cons_zero, List.set_cons_succ]
          refine wpList_reads (by kernel_rfl) (.string clientP) (by go_simp) ?_
          simp only [Act.put, List.setIfInBounds_toArray, List.set_cons_zero, List.set_cons_succ]
          refine wpList_enter (by kernel_rfl) 20 #[.slice (some ⟨g3, 0, none⟩) 32 32, .string clientP, .slice none 0 0, .int .i64 32] (by go_simp) (label_any _ _ clientP X [] 32 w3 bX.out (byteAt_nil _) (by omega) (by simp) (by decide) (by omega) (by omega)) ?_
          rintro e w4 ⟨m4, h4⟩
          rw [if_neg (by simp only [List.length_nil]; decide)] at h4
          obtain ⟨v4, rfl, own4⟩ := h4
          rw [show (32 : Int).toNat = 32 from rfl, show expandB (keyS X) (labelI clientP [] 32) 32 = KP from hkp.out.symm] at own4
          have b4 := byteAt_of_own own4
          obtain ⟨a4, c4, hv4, _⟩ := b4.slice
          rw [hKPl] at hv4
          subst hv4
          have x14 := m4.heap x13.out (fun h => h)
          have hd4 := hd3.out.mod m4 (fun _ _ h => h)
          have m04 := m03.out.trans m4
          replace x14 := Lib.hid x14
          replace m04 := Lib.hid m04
          clear m4 own4 m03 hd3 x13 bX
          refine ⟨_, rfl, ?_⟩
          simp only [Act.put, List.setIfInBounds_toArray, List.set_cons_zero, List.set_cons_succ]
          refine wpList_reads (by kernel_rfl) (.tuple #[.slice a4 32 c4, .int .i64 0]) (by go_simp) ?_
          simp only [Act.put, List.setIfInBounds_toArray, List.set_cons_zero, List.set_cons_succ]
          refine wpList_reads (by kernel_rfl) (.slice a4 32 c4) (by go_simp) ?_
          simp only [Act.put, List.setIfInBounds_toArray, List.set_cons_zero, List.set_cons_succ]
          refine wpList_reads (by kernel_rfl) (.int .i64 0) (by go_simp) ?_
          simp only [Act.put, List.setIfInBounds_toArray, List.set_cons_zero, List.set_cons_succ]
          refine wpList_reads (by kernel_rfl) (.slice a4 32 c4) (by go_simp) ?_
          simp only [Act.put, List.setIfInBounds_toArray, List.set_cons_zero, List.set_cons_succ]
          refine wpList_reads (by kernel_rfl) (.int .i64 0) (by go_simp) ?_
          simp only [Act.put, List.setIfInBounds_toArray, List.set_cons_zero, List.set_cons_succ]
          go_upto_region 10 with (fail)
          refine wp_region_lit ?_
          refine wpList_reads (by kernel_rfl) (.slice a4 32 c4) (by go_simp) ?_
          simp only [Act.put, List.setIfInBounds_toArray, List.set_cons_zero, List.set_cons_succ]
          refine wpList_reads (by kernel_rfl) (.slice ad n cd) (by go_simp) ?_
          simp only [Act.put, List.setIfInBounds_toArray, List.set_cons_zero, List.set_cons_succ]
          refine wpList_enter (by kernel_rfl) 21 #[.slice a4 32 c4, .slice ad n cd] (by go_simp) (Mac_any _ _ KP sd w4 b4 hd4 (by omega) (by rw [← hn.out]; omega)) ?_
          rintro e w5 ⟨m5, rfl⟩
          obtain ⟨H, hH⟩ : ∃ H, H = macB KP sd := ⟨_, rfl⟩
          obtain ⟨E, hE⟩ : ∃ E, E = macE KP sd := ⟨_, rfl⟩
          have hHl : H.length = 32 := by rw [hH]; exact macB_length _ _
          have hmv : macV KP sd = .tuple #[.agg (encB H), .int .i64 (E : Int)] := by unfold macV; rw [hH, hE]
          have hv2 := hv.out
          rw [hmv] at hv2 ⊢
          have x15 := m5.heap x14.out (fun h => h)
          obtain ⟨wz, sz, mz, xz⟩ := bytes_store x15 (s' := H) (by decide) hHl
          have mf : Mod (fun _ => False) w wz := (m04.out.trans m5).trans' mz (fun i hi h => by have := hG.out; omega)
          replace hH := Lib.hid hH
          replace hE := Lib.hid hE
          replace mf := Lib.hid mf
          replace hv2 := Lib.hid hv2
          clear m5 x15 mz hmv
          refine ⟨_, rfl, ?_⟩
          simp only [Act.put, List.setIfInBounds_toArray, List.set_cons_zero, List.set_cons_succ]
          refine wpList_reads (by kernel_rfl) (.agg (encB H)) (by go_simp) ?_
          simp only [Act.put, List.setIfInBounds_toArray, List.set_cons_zero, List.set_cons_succ]
          refine wpList_reads (by kernel_rfl) (.int .i64 (E : Int)) (by go_simp) ?_
          simp only [Act.put, List.setIfInBounds_toArray, List.set_cons_zero, List.set_cons_succ]
          refine wpList_store_to rfl _ _ _ rfl _ _ _ rfl rfl _ sz ?_
          simp only [Act.put, List.setIfInBounds_toArray, List.set_cons_zero, List.set_cons_succ]
          refine wpList_reads (by kernel_rfl) (.int .i64 (E : Int)) (by go_simp) ?_
          simp only [Act.put, List.setIfInBounds_toArray, List.set_cons_zero, List.set_cons_succ]
          go_wp2
          exact bodyPost_ret (v := .tuple #[.agg (encB H), .int .i64 (E : Int)]) (results_sum2 rfl _ _ _ _ _ rfl rfl xz hHl) rfl ⟨mf.out, by rw [hv2.out]⟩
        · have hnp : nameP true = serverP := rfl
          go_upto_region 5 with (fail)
          refine wp_region_lit ?_
          refine wpList_reads (by kernel_rfl) (.string clientP) (by unfold clientP; go_simp) ?_
          simp only [Act.put, List.setIfInBounds_toArray, List.set_cons_zero, List.set_cons_succ]
          go_upto_region 7 with (fail)
          refine wp_region_lit ?_
          refine wpList_reads (by kernel_rfl) (.string serverP) (by unfold serverP; go_simp) ?_
          simp only [Act.put, List.setIfInBounds_toArray, List.set_cons_zero, List.set_cons_succ]
          go_upto_region 8 with (fail)
          refine wp_region_lit ?_
          refine wpList_reads (by kernel_rfl) (.slice ah m ch) (by go_simp) ?_
          simp only [Act.put, List.setIfInBounds_toArray, List.set_cons_zero, List.set_cons_succ]
          refine wpList_enter (by kernel_rfl) 19 #[.slice none 0 0, .slice ah m ch] (by go_simp) (Extract_any _ _ [] sh w1 (byteAt_nil _) hh1.out (by simp) (by rw [← hm.out]; omega)) ?_
          rintro e w2 ⟨m2, rfl⟩
          rw [hmE.out]
          obtain ⟨wa3, hw3⟩ : ∃ x, x = w2.alloc (.cells (encB (zb 32)) 23) := ⟨_, rfl⟩
          obtain ⟨g3, hg3⟩ : ∃ g, g = w2.heap.size := ⟨_, rfl⟩
          have ma3 : Mod (fun _ => False) w2 wa3 := by rw [hw3]; exact (Mod.refl _ _).alloc _
          have xa3 : wa3.heap[g3]? = some (.cells (encB (zb 32)) 23 (0,0)) := by rw [hw3]; exact hp_new _ _ _ hg3
          obtain ⟨w3, st3, na3, x3⟩ := bytes_store xa3 (s' := X) (by decide) hXl
          have m3 : Mod (fun _ => False) w2 w3 := ma3.trans' na3 (fun k hk h => by omega)
          replace hw3 := Lib.hid hw3
          replace hg3 := Lib.hid hg3
          replace x3 := Lib.hid x3
          clear ma3 xa3 na3
          have m13 := m2.trans m3
          have x13 := m13.heap x1.out (fun h => h)
          have hd3 := hd1.out.mod m13 (fun _ _ h => h)
          have m03 := m1.out.trans m13
          have bX := ByteAt.row x3.out
          rw [hXl] at bX
          replace x13 := Lib.hid x13
          replace hd3 := Lib.hid hd3
          replace m03 := Lib.hid m03
          replace bX := Lib.hid bX
          clear m2 m3 m13 x3
          refine ⟨_, rfl, ?_⟩
          simp only [Act.put, List.setIfInBounds_toArray, List.set_cons_zero, List.set_cons_succ]
          refine wpList_reads (by kernel_rfl) (.tuple #[.agg (encB X), .int .i64 0]) (by go_simp) ?_
          simp only [Act.put, List.setIfInBounds_toArray, List.set_cons_zero, List.set_cons_succ]
          refine wpList_reads (by kernel_rfl) (.agg (encB X)) (by go_simp) ?_
          simp only [Act.put, List.setIfInBounds_toArray, List.set_cons_zero, List.set_cons_succ]
          refine wpList_reads (by kernel_rfl) (.int .i64 0) (by go_simp) ?_
          simp only [Act.put, List.setIfInBounds_toArray, List.set_cons_zero, List.set_cons_succ]
          refine wpList_yields (by kernel_rfl) _ _ (alloc_arr 23 _ zero32 _ _ _ rfl) ?_
          simp only [Act.put, List.setIfInBounds_toArray, List.set_cons_zero, List.set_cons_succ]
          rw [← hg3.out, ← hw3.out]
          refine wpList_store_to rfl _ _ _ rfl _ _ _ rfl rfl _ st3 ?_
          simp only [Act.put, List.setIfInBounds_toArray, List.set_cons_zero, List.set_cons_succ]
          refine wpList_reads (by kernel_rfl) (.int .i64 0) (by go_simp) ?_
          simp only [Act.put, List.setIfInBounds_toArray, List.set_cons_zero, List.set_cons_succ]
          go_upto_region 9 with (fail)
          refine wp_region_lit ?_
          refine wpList_reads (by kernel_rfl) (.slice (some ⟨g3, 0, none⟩) 32 32) (by go_simp) ?_
          simp only [Act.put, List.setIfInBounds_toArray, List.set_cons_zero, List.set_cons_succ]
          refine wpList_reads (by kernel_rfl) (.string serverP) (by go_simp) ?_
          simp only [Act.put, List.setIfInBounds_toArray, List.set_cons_zero, List.set_cons_succ]
          refine wpList_enter (by kernel_rfl) 20 #[.slice (some ⟨g3, 0, none⟩) 32 32, .string serverP, .slice none 0 0, .int .i64 32] (by go_simp) (label_any _ _ serverP X [] 32 w3 bX.out (byteAt_nil _) (by omega) (by simp) (by decide) (by omega) (by omega)) ?_
          rintro e w4 ⟨m4, h4⟩
          rw [if_neg (by simp only [List.length_nil]; decide)] at h4
          obtain ⟨v4, rfl, own4⟩ := h4
          rw [show (32 : Int).toNat = 32 from rfl, show expandB (keyS X) (labelI serverP [] 32) 32 = KP from hkp.out.symm] at own4
          have b4 := byteAt_of_own own4
          obtain ⟨a4, c4, hv4, _⟩ := b4.slice
          rw [hKPl] at hv4
          subst hv4
          have x14 := m4.heap x13.out (fun h => h)
          have hd4 := hd3.out.mod m4 (fun _ _ h => h)
          have m04 := m03.out.trans m4
          replace x14 := Lib.hid x14
          replace m04 := Lib.hid m04
          clear m4 own4 m03 hd3 x13 bX
          refine ⟨_, rfl, ?_⟩
          simp only [Act.put, List.setIfInBounds_toArray, List.set_cons_zero, List.set_cons_succ]
          refine wpList_reads (by kernel_rfl) (.tuple #[.slice a4 32 c4, .int .i64 0]) (by go_simp) ?_
          simp only [Act.put, List.setIfInBounds_toArray, List.set_cons_zero, List.set_cons_succ]
          refine wpList_reads (by kernel_rfl) (.slice a4 32 c4) (by go_simp) ?_
          simp only [Act.put, List.setIfInBounds_toArray, List.set_cons_zero, List.set_cons_succ]
          refine wpList_reads (by kernel_rfl) (.int .i64 0) (by go_simp) ?_
          simp only [Act.put, List.setIfInBounds_toArray, List.set_cons_zero, List.set_cons_succ]
          refine wpList_reads (by kernel_rfl) (.slice a4 32 c4) (by go_simp) ?_
          simp only [Act.put, List.setIfInBounds_toArray, List.set_cons_zero, List.set_cons_succ]
          refine wpList_reads (by kernel_rfl) (.int .i64 0) (by go_simp) ?_
          simp only [Act.put, List.setIfInBounds_toArray, List.set_cons_zero, List.set_cons_succ]
          go_upto_region 10 with (fail)
          refine wp_region_lit ?_
          refine wpList_reads (by kernel_rfl) (.slice a4 32 c4) (by go_simp) ?_
          simp only [Act.put, List.setIfInBounds_toArray, List.set_cons_zero, List.set_cons_succ]
          refine wpList_reads (by kernel_rfl) (.slice ad n cd) (by go_simp) ?_
          simp only [Act.put, List.setIfInBounds_toArray, List.set_cons_zero, List.set_cons_succ]
          refine wpList_enter (by kernel_rfl) 21 #[.slice a4 32 c4, .slice ad n cd] (by go_simp) (Mac_any _ _ KP sd w4 b4 hd4 (by omega) (by rw [← hn.out]; omega)) ?_
          rintro e w5 ⟨m5, rfl⟩
          obtain ⟨H, hH⟩ : ∃ H, H = macB KP sd := ⟨_, rfl⟩
          obtain ⟨E, hE⟩ : ∃ E, E = macE KP sd := ⟨_, rfl⟩
          have hHl : H.length = 32 := by rw [hH]; exact macB_length _ _
          have hmv : macV KP sd = .tuple #[.agg (encB H), .int .i64 (E : Int)] := by unfold macV; rw [hH, hE]
          have hv2 := hv.out
          rw [hmv] at hv2 ⊢
          have x15 := m5.heap x14.out (fun h => h)
          obtain ⟨wz, sz, mz, xz⟩ := bytes_store x15 (s' := H) (by decide) hHl
          have mf : Mod (fun _ => False) w wz := (m04.out.trans m5).trans' mz (fun i hi h => by have := hG.out; omega)
          replace hH := Lib.hid hH
          replace hE := Lib.hid hE
          replace mf := Lib.hid mf
          replace hv2 := Lib.hid hv2
          clear m5 x15 mz hmv
          refine ⟨_, rfl, ?_⟩
          simp only [Act.put, List.setIfInBounds_toArray, List.set_cons_zero, List.set_cons_succ]
          refine wpList_reads (by kernel_rfl) (.agg (encB H)) (by go_simp) ?_
          simp only [Act.put, List.setIfInBounds_toArray, List.set_cons_zero, List.set_cons_succ]
          refine wpList_reads (by kernel_rfl) (.int .i64 (E : Int)) (by go_simp) ?_
          simp only [Act.put, List.setIfInBounds_toArray, List.set_cons_zero, List.set_cons_succ]
          refine wpList_store_to rfl _ _ _ rfl _ _ _ rfl rfl _ sz ?_
          simp only [Act.put, List.setIfInBounds_toArray, List.set_cons_zero, List.set_cons_succ]
          refine wpList_reads (by kernel_rfl) (.int .i64 (E : Int)) (by go_simp) ?_
          simp only [Act.put, List.setIfInBounds_toArray, List.set_cons_zero, List.set_cons_succ]
          go_wp2
          exact bodyPost_ret (v := .tuple #[.agg (encB H), .int .i64 (E : Int)]) (results_sum2 rfl _ _ _ _ _ rfl rfl xz hHl) rfl ⟨mf.out, by rw [hv2.out]⟩

set_option maxRecDepth 100000 in
set_option maxHeartbeats 4000000 in
theorem refproof_any (vh vd : Value) (sh sd : List (BitVec 8)) (sv : Bool) (w : World) (hh : ByteAt w vh sh) (hd : ByteAt w vd sd) (hhl : sh.length < 4611686018427387904) (hdl : sd.length < 4611686018427387904) :
    Calls Try.prog 12 #[vh, vd, .bool sv] w fun e w' => Mod (fun _ => False) w w' ∧ e = .returned (proofV sh sd sv) := by
  obtain ⟨ah, ch, rfl, _⟩ := hh.slice
  obtain ⟨ad, cd, rfl, _⟩ := hd.slice
  obtain ⟨m, hm⟩ : ∃ m, m = sh.length := ⟨_, rfl⟩
  obtain ⟨n, hn⟩ : ∃ n, n = sd.length := ⟨_, rfl⟩
  obtain ⟨w1, hw1⟩ : ∃ w1, w1 = w.alloc (.cells (encB (zb 32)) 23) := ⟨_, rfl⟩
  obtain ⟨G, hG⟩ : ∃ G, G = w.heap.size := ⟨_, rfl⟩
  have m1 : Mod (fun _ => False) w w1 := by rw [hw1]; exact (Mod.refl _ _).alloc _
  have x1 : w1.heap[G]? = some (.cells (encB (zb 32)) 23 (0,0)) := by rw [hw1]; exact hp_new _ _ _ hG
  have hh1 := hh.mod m1 (fun _ _ h => h)
  have hd1 := hd.mod m1 (fun _ _ h => h)
  rw [← hm] at hh1 hhl ⊢
  rw [← hn] at hd1 hdl ⊢
  have bm0 : (0 : Int) ≤ (m : Int) := by omega
  have bn0 : (0 : Int) ≤ (n : Int) := by omega
  replace hw1 := Lib.hid hw1
  replace hG := Lib.hid hG
  replace hh1 := Lib.hid hh1
  replace hd1 := Lib.hid hd1
  replace m1 := Lib.hid m1
  replace x1 := Lib.hid x1
  replace hm := Lib.hid hm
  replace hn := Lib.hid hn
  clear hh hd
  go_enter Try.func12, Try.ntmps12
  go_upto_region 0 with (fail)
  refine wp_region_lit ?_
  refine wpList_yields (by kernel_rfl) _ _ (alloc_arr 23 _ zero32 _ _ _ rfl) ?_
  simp only [Act.put, List.setIfInBounds_toArray, List.set_cons_zero, List.set_cons_succ]
  rw [← hG.out, ← hw1.out]
  refine wpList_reads (by kernel_rfl) (.int .i64 0) (by go_simp) ?_
  simp only [Act.put, List.setIfInBounds_toArray, List.set_cons_zero, List.set_cons_succ]
  by_cases hlow : m < 1
  · have hq1 : decide ((m : Int) < 1) = true := by rw [decide_eq_true_iff]; omega
    have hm0 : m = 0 := by omega
    obtain ⟨wz, sz, mz, xz⟩ := bytes_store x1.out (s' := zb 32) (by decide) (by decide)
    have mfz : Mod (fun _ => False) w wz := m1.out.trans' mz (fun i hi h => by have := hG.out; omega)
    have hv : proofV sh sd sv = .tuple #[.agg (encB (zb 32)), .int .i64 1] := by
      unfold proofV proofB proofE
      rw [if_pos (.inl (by rw [← hm.out]; exact hlow)), if_pos (.inl (by rw [← hm.out]; exact hlow))]
      rfl
    replace mfz := Lib.hid mfz
    replace hv := Lib.hid hv
    clear mz
    go_upto_region 2 with (fail)
    refine wp_region_lit ?_
    refine wpList_yields (by kernel_rfl) _ _ (build_zero32 _ _ _ rfl) ?_
    simp only [Act.put, List.setIfInBounds_toArray, List.set_cons_zero, List.set_cons_succ]
    refine wpList_store_to rfl _ _ _ rfl _ _ _ rfl rfl _ sz ?_
    simp only [Act.put, List.setIfInBounds_toArray, List.set_cons_zero, List.set_cons_succ]
    refine wpList_reads (by kernel_rfl) (.int .i64 1) (by go_simp) ?_
    simp only [Act.put, List.setIfInBounds_toArray, List.set_cons_zero, List.set_cons_succ]
    go_wp2
    exact bodyPost_ret (v := .tuple #[.agg (encB (zb 32)), .int .i64 1]) (results_sum2 rfl _ _ _ _ _ rfl rfl xz (by decide)) rfl ⟨mfz.out, by rw [hv.out]⟩
  · have hq1 : decide ((m : Int) < 1) = false := by rw [decide_eq_false_iff_not]; omega
    by_cases hhigh : 256 < m
    · have hq2 : decide ((256 : Int) < (m : Int)) = true := by rw [decide_eq_true_iff]; omega
      obtain ⟨wz, sz, mz, xz⟩ := bytes_store x1.out (s' := zb 32) (by decide) (by decide)
      have mfz : Mod (fun _ => False) w wz := m1.out.trans' mz (fun i hi h => by have := hG.out; omega)
      have hv : proofV sh sd sv = .tuple #[.agg (encB (zb 32)), .int .i64 1] := by
        unfold proofV proofB proofE
        rw [if_pos (.inr (.inl (by rw [← hm.out]; exact hhigh))), if_pos (.inr (by rw [← hm.out]; exact hhigh))]
        rfl
      replace mfz := Lib.hid mfz
      replace hv := Lib.hid hv
      clear mz
      go_upto_region 2 with (fail)
      refine wp_region_lit ?_
      refine wpList_yields (by kernel_rfl) _ _ (build_zero32 _ _ _ rfl) ?_
      simp only [Act.put, List.setIfInBounds_toArray, List.set_cons_zero, List.set_cons_succ]
      refine wpList_store_to rfl _ _ _ rfl _ _ _ rfl rfl _ sz ?_
      simp only [Act.put, List.setIfInBounds_toArray, List.set_cons_zero, List.set_cons_succ]
      refine wpList_reads (by kernel_rfl) (.int .i64 1) (by go_simp) ?_
      simp only [Act.put, List.setIfInBounds_toArray, List.set_cons_zero, List.set_cons_succ]
      go_wp2
      exact bodyPost_ret (v := .tuple #[.agg (encB (zb 32)), .int .i64 1]) (results_sum2 rfl _ _ _ _ _ rfl rfl xz (by decide)) rfl ⟨mfz.out, by rw [hv.out]⟩
    · have hq2 : decide ((256 : Int) < (m : Int)) = false := by rw [decide_eq_false_iff_not]; omega
      by_cases hbig : 1048576 < n
      · have hq3 : decide ((1048576 : Int) < (n : Int)) = true := by rw [decide_eq_true_iff]; omega
        obtain ⟨wz, sz, mz, xz⟩ := bytes_store x1.out (s' := zb 32) (by decide) (by decide)
        have mfz : Mod (fun _ => False) w wz := m1.out.trans' mz (fun i hi h => by have := hG.out; omega)
        have hv : proofV sh sd sv = .tuple #[.agg (encB (zb 32)), .int .i64 3] := by
          unfold proofV proofB proofE
          rw [if_pos (.inr (.inr (by rw [← hn.out]; exact hbig))), if_neg (by rw [← hm.out]; omega), if_pos (by rw [← hn.out]; exact hbig)]
          rfl
        replace mfz := Lib.hid mfz
        replace hv := Lib.hid hv
        clear mz
        go_upto_region 4 with (fail)
        refine wp_region_lit ?_
        refine wpList_yields (by kernel_rfl) _ _ (build_zero32 _ _ _ rfl) ?_
        simp only [Act.put, List.setIfInBounds_toArray, List.set_cons_zero, List.set_cons_succ]
        refine wpList_store_to rfl _ _ _ rfl _ _ _ rfl rfl _ sz ?_
        simp only [Act.put, List.setIfInBounds_toArray, List.set_cons_zero, List.set_cons_succ]
        refine wpList_reads (by kernel_rfl) (.int .i64 3) (by go_simp) ?_
        simp only [Act.put, List.setIfInBounds_toArray, List.set_cons_zero, List.set_cons_succ]
        go_wp2
        exact bodyPost_ret (v := .tuple #[.agg (encB (zb 32)), .int .i64 3]) (results_sum2 rfl _ _ _ _ _ rfl rfl xz (by decide)) rfl ⟨mfz.out, by rw [hv.out]⟩
      · have hq3 : decide ((1048576 : Int) < (n : Int)) = false := by rw [decide_eq_false_iff_not]; omega
        have hv : proofV sh sd sv = macV (keyP sh sv) sd := by
          unfold proofV proofB proofE macV
          rw [if_neg (by rw [← hm.out, ← hn.out]; omega), if_neg (by rw [← hm.out]; omega), if_neg (by rw [← hn.out]; omega)]
        have hml : m ≤ 256 := by omega
        have hnl : n ≤ 1048576 := by omega
        have hmE : macV [] sh = .tuple #[.agg (encB (macB [] sh)), .int .i64 0] := by
          unfold macV macE
          rw [if_neg (by rw [← hm.out]; simp; omega)]
          rfl
        replace hml := Lib.hid hml
        replace hnl := Lib.hid hnl
        replace hlow := Lib.hid hlow
        replace hhigh := Lib.hid hhigh
        replace hbig := Lib.hid hbig
        replace hmE := Lib.hid hmE
        have hkp : keyP sh sv = expandB (keyS (macB [] sh)) (labelI (nameP sv) [] 32) 32 := rfl
        obtain ⟨KP, hKP⟩ : ∃ K, K = keyP sh sv := ⟨_, rfl⟩
        have hKPl : KP.length = 32 := by rw [hKP]; exact keyP_length _ _
        rw [← hKP] at hv hkp
        obtain ⟨X, hX⟩ : ∃ X, X = macB [] sh := ⟨_, rfl⟩
        have hXl : X.length = 32 := by rw [hX]; exact macB_length _ _
        rw [← hX] at hkp hmE
        replace hX := Lib.hid hX
        replace hKP := Lib.hid hKP
        replace hkp := Lib.hid hkp
        replace hv := Lib.hid hv
        cases sv
        · have hnp : nameP false = clientP := rfl
          go_upto_region 5 with (fail)
          refine wp_region_lit ?_
          refine wpList_reads (by kernel_rfl) (.slice ah m ch) (by go_simp) ?_
          simp only [Act.put, List.setIfInBounds_toArray, List.set_cons_zero, List.set_cons_succ]
          refine wpList_enter (by kernel_rfl) 22 #[.slice none 0 0, .slice ah m ch] (by go_simp) (refExtract_any _ _ [] sh w1 (byteAt_nil _) hh1.out (by simp) (by rw [← hm.out]; omega)) ?_
          rintro e w2 ⟨m2, rfl⟩
          rw [hmE.out]
          obtain ⟨wa3, hw3⟩ : ∃ x, x = w2.alloc (.cells (encB (zb 32)) 23) := ⟨_, rfl⟩
          obtain ⟨g3, hg3⟩ : ∃ g, g = w2.heap.size := ⟨_, rfl⟩
          have ma3 : Mod (fun _ => False) w2 wa3 := by rw [hw3]; exact (Mod.refl _ _).alloc _
          have xa3 : wa3.heap[g3]? = some (.cells (encB (zb 32)) 23 (0,0)) := by rw [hw3]; exact hp_new _ _ _ hg3
          obtain ⟨w3, st3, na3, x3⟩ := bytes_store xa3 (s' := X) (by decide) hXl
          have m3 : Mod (fun _ => False) w2 w3 := ma3.trans' na3 (fun k hk h => by omega)
          replace hw3 := Lib.hid hw3
          replace hg3 := Lib.hid hg3
          replace x3 := Lib.hid x3
          clear ma3 xa3 na3
          have m13 := m2.trans m3
          have x13 := m13.heap x1.out (fun h => h)
          have hd3 := hd1.out.mod m13 (fun _ _ h => h)
          have m03 := m1.out.trans m13
          have bX := ByteAt.row x3.out
          rw [hXl] at bX
          replace x13 := Lib.hid x13
          replace hd3 := Lib.hid hd3
          replace m03 := Lib.hid m03
          replace bX := Lib.hid bX
          clear m2 m3 m13 x3
          refine ⟨_, rfl, ?_⟩
          simp only [Act.put, List.setIfInBounds_toArray, List.set_cons_zero, List.set_cons_succ]
          refine wpList_reads (by kernel_rfl) (.tuple #[.agg (encB X), .int .i64 0]) (by go_simp) ?_
          simp only [Act.put, List.setIfInBounds_toArray, List.set_cons_zero, List.set_cons_succ]
          refine wpList_reads (by kernel_rfl) (.agg (encB X)) (by go_simp) ?_
          simp only [Act.put, List.setIfInBounds_toArray, List.set_cons_zero, List.set_cons_succ]
          refine wpList_reads (by kernel_rfl) (.int .i64 0) (by go_simp) ?_
          simp only [Act.put, List.setIfInBounds_toArray, List.set_cons_zero, List.set_cons_succ]
          refine wpList_yields (by kernel_rfl) _ _ (alloc_arr 23 _ zero32 _ _ _ rfl) ?_
          simp only [Act.put, List.setIfInBounds_toArray, List.set_cons_zero, List.set_cons_succ]
          rw [← hg3.out, ← hw3.out]
          refine wpList_store_to rfl _ _ _ rfl _ _ _ rfl rfl _ st3 ?_
          simp only [Act.put, List.setIfInBounds_toArray, List.set_cons_zero, List.set_cons_succ]
          refine wpList_reads (by kernel_rfl) (.int .i64 0) (by go_simp) ?_
          simp only [Act.put, List.setIfInBounds_toArray, List.set_cons_zero, List.set_cons_succ]
          go_upto_region 6 with (fail)
          refine wp_region_lit ?_
          refine wpList_reads (by kernel_rfl) (.string clientP) (by unfold clientP; go_simp) ?_
          simp only [Act.put, List.setIfInBounds_toArray, List.set_cons_zero, List.set_cons_succ]
          go_upto_region 9 with (fail)
          refine wp_region_lit ?_
          refine wpList_reads (by kernel_rfl) (.slice (some ⟨g3, 0, none⟩) 32 32) (by go_simp) ?_
          simp only [Act.put, List.setIfInBounds_toArray, List.set_cons_zero, List.set_cons_succ]
          refine wpList_reads (by kernel_rfl) (.string clientP) (by go_simp) ?_
          simp only [Act.put, List.setIfInBounds_toArray, List.set_cons_zero, List.set_cons_succ]
          refine wpList_enter (by kernel_rfl) 23 #[.slice (some ⟨g3, 0, none⟩) 32 32, .string clientP, .slice none 0 0, .int .i64 32] (by go_simp) (reflabel_any _ _ clientP X [] 32 w3 bX.out (byteAt_nil _) (by omega) (by simp) (by decide) (by omega) (by omega)) ?_
          rintro e w4 ⟨m4, h4⟩
          rw [if_neg (by simp only [List.length_nil]; decide)] at h4
          obtain ⟨v4, rfl, own4⟩ := h4
          rw [show (32 : Int).toNat = 32 from rfl, show expandB (keyS X) (labelI clientP [] 32) 32 = KP from hkp.out.symm] at own4
          have b4 := byteAt_of_own own4
          obtain ⟨a4, c4, hv4, _⟩ := b4.slice
          rw [hKPl] at hv4
          subst hv4
          have x14 := m4.heap x13.out (fun h => h)
          have hd4 := hd3.out.mod m4 (fun _ _ h => h)
          have m04 := m03.out.trans m4
          replace x14 := Lib.hid x14
          replace m04 := Lib.hid m04
          clear m4 own4 m03 hd3 x13 bX
          refine ⟨_, rfl, ?_⟩
          simp only [Act.put, List.setIfInBounds_toArray, List.set_cons_zero, List.set_cons_succ]
          refine wpList_reads (by kernel_rfl) (.tuple #[.slice a4 32 c4, .int .i64 0]) (by go_simp) ?_
          simp only [Act.put, List.setIfInBounds_toArray, List.set_cons_zero, List.set_cons_succ]
          refine wpList_reads (by kernel_rfl) (.slice a4 32 c4) (by go_simp) ?_
          simp only [Act.put, List.setIfInBounds_toArray, List.set_cons_zero, List.set_cons_succ]
          refine wpList_reads (by kernel_rfl) (.int .i64 0) (by go_simp) ?_
          simp only [Act.put, List.setIfInBounds_toArray, List.set_cons_zero, List.set_cons_succ]
          refine wpList_reads (by kernel_rfl) (.slice a4 32 c4) (by go_simp) ?_
          simp only [Act.put, List.setIfInBounds_toArray, List.set_cons_zero, List.set_cons_succ]
          refine wpList_reads (by kernel_rfl) (.int .i64 0) (by go_simp) ?_
          simp only [Act.put, List.setIfInBounds_toArray, List.set_cons_zero, List.set_cons_succ]
          go_upto_region 10 with (fail)
          refine wp_region_lit ?_
          refine wpList_reads (by kernel_rfl) (.slice a4 32 c4) (by go_simp) ?_
          simp only [Act.put, List.setIfInBounds_toArray, List.set_cons_zero, List.set_cons_succ]
          refine wpList_reads (by kernel_rfl) (.slice ad n cd) (by go_simp) ?_
          simp only [Act.put, List.setIfInBounds_toArray, List.set_cons_zero, List.set_cons_succ]
          refine wpList_enter (by kernel_rfl) 24 #[.slice a4 32 c4, .slice ad n cd] (by go_simp) (refMac_any _ _ KP sd w4 b4 hd4 (by omega) (by rw [← hn.out]; omega)) ?_
          rintro e w5 ⟨m5, rfl⟩
          obtain ⟨H, hH⟩ : ∃ H, H = macB KP sd := ⟨_, rfl⟩
          obtain ⟨E, hE⟩ : ∃ E, E = macE KP sd := ⟨_, rfl⟩
          have hHl : H.length = 32 := by rw [hH]; exact macB_length _ _
          have hmv : macV KP sd = .tuple #[.agg (encB H), .int .i64 (E : Int)] := by unfold macV; rw [hH, hE]
          have hv2 := hv.out
          rw [hmv] at hv2 ⊢
          have x15 := m5.heap x14.out (fun h => h)
          obtain ⟨wz, sz, mz, xz⟩ := bytes_store x15 (s' := H) (by decide) hHl
          have mf : Mod (fun _ => False) w wz := (m04.out.trans m5).trans' mz (fun i hi h => by have := hG.out; omega)
          replace hH := Lib.hid hH
          replace hE := Lib.hid hE
          replace mf := Lib.hid mf
          replace hv2 := Lib.hid hv2
          clear m5 x15 mz hmv
          refine ⟨_, rfl, ?_⟩
          simp only [Act.put, List.setIfInBounds_toArray, List.set_cons_zero, List.set_cons_succ]
          refine wpList_reads (by kernel_rfl) (.agg (encB H)) (by go_simp) ?_
          simp only [Act.put, List.setIfInBounds_toArray, List.set_cons_zero, List.set_cons_succ]
          refine wpList_reads (by kernel_rfl) (.int .i64 (E : Int)) (by go_simp) ?_
          simp only [Act.put, List.setIfInBounds_toArray, List.set_cons_zero, List.set_cons_succ]
          refine wpList_store_to rfl _ _ _ rfl _ _ _ rfl rfl _ sz ?_
          simp only [Act.put, List.setIfInBounds_toArray, List.set_cons_zero, List.set_cons_succ]
          refine wpList_reads (by kernel_rfl) (.int .i64 (E : Int)) (by go_simp) ?_
          simp only [Act.put, List.setIfInBounds_toArray, List.set_cons_zero, List.set_cons_succ]
          go_wp2
          exact bodyPost_ret (v := .tuple #[.agg (encB H), .int .i64 (E : Int)]) (results_sum2 rfl _ _ _ _ _ rfl rfl xz hHl) rfl ⟨mf.out, by rw [hv2.out]⟩
        · have hnp : nameP true = serverP := rfl
          go_upto_region 5 with (fail)
          refine wp_region_lit ?_
          refine wpList_reads (by kernel_rfl) (.slice ah m ch) (by go_simp) ?_
          simp only [Act.put, List.setIfInBounds_toArray, List.set_cons_zero, List.set_cons_succ]
          refine wpList_enter (by kernel_rfl) 22 #[.slice none 0 0, .slice ah m ch] (by go_simp) (refExtract_any _ _ [] sh w1 (byteAt_nil _) hh1.out (by simp) (by rw [← hm.out]; omega)) ?_
          rintro e w2 ⟨m2, rfl⟩
          rw [hmE.out]
          obtain ⟨wa3, hw3⟩ : ∃ x, x = w2.alloc (.cells (encB (zb 32)) 23) := ⟨_, rfl⟩
          obtain ⟨g3, hg3⟩ : ∃ g, g = w2.heap.size := ⟨_, rfl⟩
          have ma3 : Mod (fun _ => False) w2 wa3 := by rw [hw3]; exact (Mod.refl _ _).alloc _
          have xa3 : wa3.heap[g3]? = some (.cells (encB (zb 32)) 23 (0,0)) := by rw [hw3]; exact hp_new _ _ _ hg3
          obtain ⟨w3, st3, na3, x3⟩ := bytes_store xa3 (s' := X) (by decide) hXl
          have m3 : Mod (fun _ => False) w2 w3 := ma3.trans' na3 (fun k hk h => by omega)
          replace hw3 := Lib.hid hw3
          replace hg3 := Lib.hid hg3
          replace x3 := Lib.hid x3
          clear ma3 xa3 na3
          have m13 := m2.trans m3
          have x13 := m13.heap x1.out (fun h => h)
          have hd3 := hd1.out.mod m13 (fun _ _ h => h)
          have m03 := m1.out.trans m13
          have bX := ByteAt.row x3.out
          rw [hXl] at bX
          replace x13 := Lib.hid x13
          replace hd3 := Lib.hid hd3
          replace m03 := Lib.hid m03
          replace bX := Lib.hid bX
          clear m2 m3 m13 x3
          refine ⟨_, rfl, ?_⟩
          simp only [Act.put, List.setIfInBounds_toArray, List.set_cons_zero, List.set_cons_succ]
          refine wpList_reads (by kernel_rfl) (.tuple #[.agg (encB X), .int .i64 0]) (by go_simp) ?_
          simp only [Act.put, List.setIfInBounds_toArray, List.set_cons_zero, List.set_cons_succ]
          refine wpList_reads (by kernel_rfl) (.agg (encB X)) (by go_simp) ?_
          simp only [Act.put, List.setIfInBounds_toArray, List.set_cons_zero, List.set_cons_succ]
          refine wpList_reads (by kernel_rfl) (.int .i64 0) (by go_simp) ?_
          simp only [Act.put, List.setIfInBounds_toArray, List.set_cons_zero, List.set_cons_succ]
          refine wpList_yields (by kernel_rfl) _ _ (alloc_arr 23 _ zero32 _ _ _ rfl) ?_
          simp only [Act.put, List.setIfInBounds_toArray, List.set_cons_zero, List.set_cons_succ]
          rw [← hg3.out, ← hw3.out]
          refine wpList_store_to rfl _ _ _ rfl _ _ _ rfl rfl _ st3 ?_
          simp only [Act.put, List.setIfInBounds_toArray, List.set_cons_zero, List.set_cons_succ]
          refine wpList_reads (by kernel_rfl) (.int .i64 0) (by go_simp) ?_
          simp only [Act.put, List.setIfInBounds_toArray, List.set_cons_zero, List.set_cons_succ]
          go_upto_region 6 with (fail)
          refine wp_region_lit ?_
          refine wpList_reads (by kernel_rfl) (.string clientP) (by unfold clientP; go_simp) ?_
          simp only [Act.put, List.setIfInBounds_toArray, List.set_cons_zero, List.set_cons_succ]
          go_upto_region 8 with (fail)
          refine wp_region_lit ?_
          refine wpList_reads (by kernel_rfl) (.string serverP) (by unfold serverP; go_simp) ?_
          simp only [Act.put, List.setIfInBounds_toArray, List.set_cons_zero, List.set_cons_succ]
          go_upto_region 9 with (fail)
          refine wp_region_lit ?_
          refine wpList_reads (by kernel_rfl) (.slice (some ⟨g3, 0, none⟩) 32 32) (by go_simp) ?_
          simp only [Act.put, List.setIfInBounds_toArray, List.set_cons_zero, List.set_cons_succ]
          refine wpList_reads (by kernel_rfl) (.string serverP) (by go_simp) ?_
          simp only [Act.put, List.setIfInBounds_toArray, List.set_cons_zero, List.set_cons_succ]
          refine wpList_enter (by kernel_rfl) 23 #[.slice (some ⟨g3, 0, none⟩) 32 32, .string serverP, .slice none 0 0, .int .i64 32] (by go_simp) (reflabel_any _ _ serverP X [] 32 w3 bX.out (byteAt_nil _) (by omega) (by simp) (by decide) (by omega) (by omega)) ?_
          rintro e w4 ⟨m4, h4⟩
          rw [if_neg (by simp only [List.length_nil]; decide)] at h4
          obtain ⟨v4, rfl, own4⟩ := h4
          rw [show (32 : Int).toNat = 32 from rfl, show expandB (keyS X) (labelI serverP [] 32) 32 = KP from hkp.out.symm] at own4
          have b4 := byteAt_of_own own4
          obtain ⟨a4, c4, hv4, _⟩ := b4.slice
          rw [hKPl] at hv4
          subst hv4
          have x14 := m4.heap x13.out (fun h => h)
          have hd4 := hd3.out.mod m4 (fun _ _ h => h)
          have m04 := m03.out.trans m4
          replace x14 := Lib.hid x14
          replace m04 := Lib.hid m04
          clear m4 own4 m03 hd3 x13 bX
          refine ⟨_, rfl, ?_⟩
          simp only [Act.put, List.setIfInBounds_toArray, List.set_cons_zero, List.set_cons_succ]
          refine wpList_reads (by kernel_rfl) (.tuple #[.slice a4 32 c4, .int .i64 0]) (by go_simp) ?_
          simp only [Act.put, List.setIfInBounds_toArray, List.set_cons_zero, List.set_cons_succ]
          refine wpList_reads (by kernel_rfl) (.slice a4 32 c4) (by go_simp) ?_
          simp only [Act.put, List.setIfInBounds_toArray, List.set_cons_zero, List.set_cons_succ]
          refine wpList_reads (by kernel_rfl) (.int .i64 0) (by go_simp) ?_
          simp only [Act.put, List.setIfInBounds_toArray, List.set_cons_zero, List.set_cons_succ]
          refine wpList_reads (by kernel_rfl) (.slice a4 32 c4) (by go_simp) ?_
          simp only [Act.put, List.setIfInBounds_toArray, List.set_cons_zero, List.set_cons_succ]
          refine wpList_reads (by kernel_rfl) (.int .i64 0) (by go_simp) ?_
          simp only [Act.put, List.setIfInBounds_toArray, List.set_cons_zero, List.set_cons_succ]
          go_upto_region 10 with (fail)
          refine wp_region_lit ?_
          refine wpList_reads (by kernel_rfl) (.slice a4 32 c4) (by go_simp) ?_
          simp only [Act.put, List.setIfInBounds_toArray, List.set_cons_zero, List.set_cons_succ]
          refine wpList_reads (by kernel_rfl) (.slice ad n cd) (by go_simp) ?_
          simp only [Act.put, List.setIfInBounds_toArray, List.set_cons_zero, List.set_cons_succ]
          refine wpList_enter (by kernel_rfl) 24 #[.slice a4 32 c4, .slice ad n cd] (by go_simp) (refMac_any _ _ KP sd w4 b4 hd4 (by omega) (by rw [← hn.out]; omega)) ?_
          rintro e w5 ⟨m5, rfl⟩
          obtain ⟨H, hH⟩ : ∃ H, H = macB KP sd := ⟨_, rfl⟩
          obtain ⟨E, hE⟩ : ∃ E, E = macE KP sd := ⟨_, rfl⟩
          have hHl : H.length = 32 := by rw [hH]; exact macB_length _ _
          have hmv : macV KP sd = .tuple #[.agg (encB H), .int .i64 (E : Int)] := by unfold macV; rw [hH, hE]
          have hv2 := hv.out
          rw [hmv] at hv2 ⊢
          have x15 := m5.heap x14.out (fun h => h)
          obtain ⟨wz, sz, mz, xz⟩ := bytes_store x15 (s' := H) (by decide) hHl
          have mf : Mod (fun _ => False) w wz := (m04.out.trans m5).trans' mz (fun i hi h => by have := hG.out; omega)
          replace hH := Lib.hid hH
          replace hE := Lib.hid hE
          replace mf := Lib.hid mf
          replace hv2 := Lib.hid hv2
          clear m5 x15 mz hmv
          refine ⟨_, rfl, ?_⟩
          simp only [Act.put, List.setIfInBounds_toArray, List.set_cons_zero, List.set_cons_succ]
          refine wpList_reads (by kernel_rfl) (.agg (encB H)) (by go_simp) ?_
          simp only [Act.put, List.setIfInBounds_toArray, List.set_cons_zero, List.set_cons_succ]
          refine wpList_reads (by kernel_rfl) (.int .i64 (E : Int)) (by go_simp) ?_
          simp only [Act.put, List.setIfInBounds_toArray, List.set_cons_zero, List.set_cons_succ]
          refine wpList_store_to rfl _ _ _ rfl _ _ _ rfl rfl _ sz ?_
          simp only [Act.put, List.setIfInBounds_toArray, List.set_cons_zero, List.set_cons_succ]
          refine wpList_reads (by kernel_rfl) (.int .i64 (E : Int)) (by go_simp) ?_
          simp only [Act.put, List.setIfInBounds_toArray, List.set_cons_zero, List.set_cons_succ]
          go_wp2
          exact bodyPost_ret (v := .tuple #[.agg (encB H), .int .i64 (E : Int)]) (results_sum2 rfl _ _ _ _ _ rfl rfl xz hHl) rfl ⟨mf.out, by rw [hv2.out]⟩

set_option maxRecDepth 100000 in
set_option maxHeartbeats 4000000 in
theorem hproofs_walk (vh vd : Value) (sh sd : List (BitVec 8)) (sv : Bool) (w : World) (hh : ByteAt w vh sh) (hd : ByteAt w vd sd) (hhl : sh.length ≤ 140737488351232) (hdl : sd.length ≤ 140737488351232) :
    Calls Try.prog 5 #[vh, vd, .bool sv] w fun e w' => Mod (fun _ => False) w w' ∧ e = .returned (.bool true) := by
  obtain ⟨ah, ch, rfl, _⟩ := hh.slice
  obtain ⟨ad, cd, rfl, _⟩ := hd.slice
  obtain ⟨m, hm⟩ : ∃ m, m = sh.length := ⟨_, rfl⟩
  obtain ⟨n, hn⟩ : ∃ n, n = sd.length := ⟨_, rfl⟩
  rw [← hm] at hh hhl ⊢
  rw [← hn] at hd hdl ⊢
  have bm0 : (0 : Int) ≤ (m : Int) := by omega
  have bn0 : (0 : Int) ≤ (n : Int) := by omega
  replace hm := Lib.hid hm
  replace hn := Lib.hid hn
  replace hh := Lib.hid hh
  replace hd := Lib.hid hd
  go_enter Try.func5, Try.ntmps5
  by_cases hq1 : 20000 < n
  · have hd1 : decide ((20000 : Int) < (n : Int)) = true := by rw [decide_eq_true_iff]; omega
    by_cases hq2 : n ≤ 1048576
    · have hd2 : decide ((n : Int) ≤ (1048576 : Int)) = true := by rw [decide_eq_true_iff]; omega
      go_upto_region 2 with (fail)
      refine wp_region_lit ?_
      refine wpList_enter (by kernel_rfl) 7 #[] (by go_simp) (lives_any w) ?_
      rintro e w2 ⟨m2, rfl⟩
      replace m2 := Lib.hid m2
      refine ⟨_, rfl, ?_⟩
      simp only [Act.put, List.setIfInBounds_toArray, List.set_cons_succ, List.set_cons_zero]
      refine wpList_reads (by kernel_rfl) (.bool true) (by go_simp) ?_
      simp only [Act.put, List.setIfInBounds_toArray, List.set_cons_succ, List.set_cons_zero]
      go_wp2
      go_ret
      exact ⟨m2.out, rfl⟩
    · have hd2 : decide ((n : Int) ≤ (1048576 : Int)) = false := by rw [decide_eq_false_iff_not]; omega
      go_upto_region 3 with (fail)
      refine wp_region_lit ?_
      refine wpList_reads (by kernel_rfl) (.slice ah m ch) (by go_simp) ?_
      simp only [Act.put, List.setIfInBounds_toArray, List.set_cons_zero, List.set_cons_succ]
      refine wpList_enter (by kernel_rfl) 10 #[.slice ah m ch] (by go_simp) (twin_any _ sh w hh.out (by rw [← hm.out]; omega)) ?_
      rintro e w2 ⟨m2, vK, rfl, tK2⟩
      have hh2 := hh.out.mod m2 (fun _ _ h => h)
      have hd2 := hd.out.mod m2 (fun _ _ h => h)
      obtain ⟨gK, hvK⟩ : ∃ g, vK = .slice (some ⟨g, 0, none⟩) m (m + 1) := by obtain ⟨g, h, _⟩ := tK2; exact ⟨g, by rw [h, hm.out]⟩
      subst hvK
      replace hh2 := Lib.hid hh2
      replace hd2 := Lib.hid hd2
      replace m2 := Lib.hid m2
      replace tK2 := Lib.hid tK2
      refine ⟨_, rfl, ?_⟩
      simp only [Act.put, List.setIfInBounds_toArray, List.set_cons_zero, List.set_cons_succ]
      refine wpList_reads (by kernel_rfl) (.slice (some ⟨gK, 0, none⟩) m (m + 1)) (by go_simp) ?_
      simp only [Act.put, List.setIfInBounds_toArray, List.set_cons_zero, List.set_cons_succ]
      go_upto_region 4 with (fail)
      refine wp_region_lit ?_
      refine wpList_reads (by kernel_rfl) (.slice ad n cd) (by go_simp) ?_
      simp only [Act.put, List.setIfInBounds_toArray, List.set_cons_zero, List.set_cons_succ]
      refine wpList_enter (by kernel_rfl) 10 #[.slice ad n cd] (by go_simp) (twin_any _ sd w2 hd2.out (by rw [← hn.out]; omega)) ?_
      rintro e w3 ⟨m3, vT, rfl, tT3⟩
      have hh3 := hh2.out.mod m3 (fun _ _ h => h)
      have hd3 := hd2.out.mod m3 (fun _ _ h => h)
      have m03 := m2.out.trans m3
      have tK3 := tK2.out.mod m3 (fun _ h => h)
      obtain ⟨gT, hvT⟩ : ∃ g, vT = .slice (some ⟨g, 0, none⟩) n (n + 1) := by obtain ⟨g, h, _⟩ := tT3; exact ⟨g, by rw [h, hn.out]⟩
      subst hvT
      replace hh3 := Lib.hid hh3
      replace hd3 := Lib.hid hd3
      replace m03 := Lib.hid m03
      replace tK3 := Lib.hid tK3
      replace tT3 := Lib.hid tT3
      clear m3 hh2 hd2 m2 tK2
      refine ⟨_, rfl, ?_⟩
      simp only [Act.put, List.setIfInBounds_toArray, List.set_cons_zero, List.set_cons_succ]
      refine wpList_reads (by kernel_rfl) (.slice (some ⟨gT, 0, none⟩) n (n + 1)) (by go_simp) ?_
      simp only [Act.put, List.setIfInBounds_toArray, List.set_cons_zero, List.set_cons_succ]
      go_upto_region 5 with (fail)
      refine wp_region_lit ?_
      refine wpList_reads (by kernel_rfl) (.slice (some ⟨gK, 0, none⟩) m (m + 1)) (by go_simp) ?_
      simp only [Act.put, List.setIfInBounds_toArray, List.set_cons_zero, List.set_cons_succ]
      refine wpList_reads (by kernel_rfl) (.slice (some ⟨gT, 0, none⟩) n (n + 1)) (by go_simp) ?_
      simp only [Act.put, List.setIfInBounds_toArray, List.set_cons_zero, List.set_cons_succ]
      refine wpList_reads (by kernel_rfl) (.bool sv) (by go_simp) ?_
      simp only [Act.put, List.setIfInBounds_toArray, List.set_cons_zero, List.set_cons_succ]
      refine wpList_enter (by kernel_rfl) 11 #[.slice (some ⟨gK, 0, none⟩) m (m + 1), .slice (some ⟨gT, 0, none⟩) n (n + 1), .bool sv] (by go_simp) (proof_any _ _ sh sd sv w3 tK3.out.byteAt tT3.out.byteAt (by rw [← hm.out]; omega) (by rw [← hn.out]; omega)) ?_
      rintro e u4 ⟨n4, rfl⟩
      obtain ⟨H, hH⟩ : ∃ H, H = proofB sh sd sv := ⟨_, rfl⟩
      obtain ⟨E, hE⟩ : ∃ E, E = proofE sh sd sv := ⟨_, rfl⟩
      have hHl : H.length = 32 := by rw [hH]; exact proofB_length _ _ _
      have hmv : proofV sh sd sv = .tuple #[.agg (encB H), .int .i64 (E : Int)] := by unfold proofV; rw [hH, hE]
      replace hH := Lib.hid hH
      replace hE := Lib.hid hE
      replace hmv := Lib.hid hmv
      rw [hmv.out]
      obtain ⟨wa4, hw4⟩ : ∃ x, x = u4.alloc (.cells (encB (zb 32)) 23) := ⟨_, rfl⟩
      obtain ⟨g4, hg4⟩ : ∃ g, g = u4.heap.size := ⟨_, rfl⟩
      have ma4 : Mod (fun _ => False) u4 wa4 := by rw [hw4]; exact (Mod.refl _ _).alloc _
      have xa4 : wa4.heap[g4]? = some (.cells (encB (zb 32)) 23 (0,0)) := by rw [hw4]; exact hp_new _ _ _ hg4
      obtain ⟨w4, st4, na4, x4⟩ := bytes_store xa4 (s' := H) (by decide) hHl
      have m4 : Mod (fun _ => False) u4 w4 := ma4.trans' na4 (fun k hk h => by omega)
      replace hw4 := Lib.hid hw4
      replace hg4 := Lib.hid hg4
      replace x4 := Lib.hid x4
      clear ma4 xa4 na4
      have mm4 := n4.trans m4
      have hh4 := hh3.out.mod mm4 (fun _ _ h => h)
      replace hh4 := Lib.hid hh4
      have hd4 := hd3.out.mod mm4 (fun _ _ h => h)
      replace hd4 := Lib.hid hd4
      have tK4 := tK3.out.mod mm4 (fun _ h => h)
      replace tK4 := Lib.hid tK4
      have tT4 := tT3.out.mod mm4 (fun _ h => h)
      replace tT4 := Lib.hid tT4
      have m04 := m03.out.trans mm4
      replace m04 := Lib.hid m04
      clear n4 m4 mm4 hh3 hd3 tK3 tT3 m03
      refine ⟨_, rfl, ?_⟩
      simp only [Act.put, List.setIfInBounds_toArray, List.set_cons_zero, List.set_cons_succ]
      refine wpList_reads (by kernel_rfl) (.tuple #[.agg (encB H), .int .i64 (E : Int)]) (by go_simp) ?_
      simp only [Act.put, List.setIfInBounds_toArray, List.set_cons_zero, List.set_cons_succ]
      refine wpList_reads (by kernel_rfl) (.agg (encB H)) (by go_simp) ?_
      simp only [Act.put, List.setIfInBounds_toArray, List.set_cons_zero, List.set_cons_succ]
      refine wpList_reads (by kernel_rfl) (.int .i64 (E : Int)) (by go_simp) ?_
      simp only [Act.put, List.setIfInBounds_toArray, List.set_cons_zero, List.set_cons_succ]
      refine wpList_yields (by kernel_rfl) _ _ (alloc_arr 23 _ zero32 _ _ _ rfl) ?_
      simp only [Act.put, List.setIfInBounds_toArray, List.set_cons_zero, List.set_cons_succ]
      rw [← hg4.out, ← hw4.out]
      refine wpList_store_to rfl _ _ _ rfl _ _ _ rfl rfl _ st4 ?_
      simp only [Act.put, List.setIfInBounds_toArray, List.set_cons_zero, List.set_cons_succ]
      refine wpList_reads (by kernel_rfl) (.int .i64 (E : Int)) (by go_simp) ?_
      simp only [Act.put, List.setIfInBounds_toArray, List.set_cons_zero, List.set_cons_succ]
      go_upto_region 6 with (fail)
      refine wp_region_lit ?_
      refine wpList_reads (by kernel_rfl) (.slice ah m ch) (by go_simp) ?_
      simp only [Act.put, List.setIfInBounds_toArray, List.set_cons_zero, List.set_cons_succ]
      refine wpList_reads (by kernel_rfl) (.slice ad n cd) (by go_simp) ?_
      simp only [Act.put, List.setIfInBounds_toArray, List.set_cons_zero, List.set_cons_succ]
      refine wpList_reads (by kernel_rfl) (.bool sv) (by go_simp) ?_
      simp only [Act.put, List.setIfInBounds_toArray, List.set_cons_zero, List.set_cons_succ]
      refine wpList_enter (by kernel_rfl) 12 #[.slice ah m ch, .slice ad n cd, .bool sv] (by go_simp) (refproof_any _ _ sh sd sv w4 hh4.out hd4.out (by rw [← hm.out]; omega) (by rw [← hn.out]; omega)) ?_
      rintro e u5 ⟨n5, rfl⟩
      rw [hmv.out]
      obtain ⟨wa5, hw5⟩ : ∃ x, x = u5.alloc (.cells (encB (zb 32)) 23) := ⟨_, rfl⟩
      obtain ⟨g5, hg5⟩ : ∃ g, g = u5.heap.size := ⟨_, rfl⟩
      have ma5 : Mod (fun _ => False) u5 wa5 := by rw [hw5]; exact (Mod.refl _ _).alloc _
      have xa5 : wa5.heap[g5]? = some (.cells (encB (zb 32)) 23 (0,0)) := by rw [hw5]; exact hp_new _ _ _ hg5
      obtain ⟨w5, st5, na5, x5⟩ := bytes_store xa5 (s' := H) (by decide) hHl
      have m5 : Mod (fun _ => False) u5 w5 := ma5.trans' na5 (fun k hk h => by omega)
      replace hw5 := Lib.hid hw5
      replace hg5 := Lib.hid hg5
      replace x5 := Lib.hid x5
      clear ma5 xa5 na5
      have mm5 := n5.trans m5
      have hh5 := hh4.out.mod mm5 (fun _ _ h => h)
      replace hh5 := Lib.hid hh5
      have hd5 := hd4.out.mod mm5 (fun _ _ h => h)
      replace hd5 := Lib.hid hd5
      have tK5 := tK4.out.mod mm5 (fun _ h => h)
      replace tK5 := Lib.hid tK5
      have tT5 := tT4.out.mod mm5 (fun _ h => h)
      replace tT5 := Lib.hid tT5
      have y4_5 := mm5.heap x4.out (fun h => h)
      replace y4_5 := Lib.hid y4_5
      have m05 := m04.out.trans mm5
      replace m05 := Lib.hid m05
      clear n5 m5 mm5 hh4 hd4 tK4 tT4 m04
      refine ⟨_, rfl, ?_⟩
      simp only [Act.put, List.setIfInBounds_toArray, List.set_cons_zero, List.set_cons_succ]
      refine wpList_reads (by kernel_rfl) (.tuple #[.agg (encB H), .int .i64 (E : Int)]) (by go_simp) ?_
      simp only [Act.put, List.setIfInBounds_toArray, List.set_cons_zero, List.set_cons_succ]
      refine wpList_reads (by kernel_rfl) (.agg (encB H)) (by go_simp) ?_
      simp only [Act.put, List.setIfInBounds_toArray, List.set_cons_zero, List.set_cons_succ]
      refine wpList_reads (by kernel_rfl) (.int .i64 (E : Int)) (by go_simp) ?_
      simp only [Act.put, List.setIfInBounds_toArray, List.set_cons_zero, List.set_cons_succ]
      refine wpList_yields (by kernel_rfl) _ _ (alloc_arr 23 _ zero32 _ _ _ rfl) ?_
      simp only [Act.put, List.setIfInBounds_toArray, List.set_cons_zero, List.set_cons_succ]
      rw [← hg5.out, ← hw5.out]
      refine wpList_store_to rfl _ _ _ rfl _ _ _ rfl rfl _ st5 ?_
      simp only [Act.put, List.setIfInBounds_toArray, List.set_cons_zero, List.set_cons_succ]
      refine wpList_reads (by kernel_rfl) (.int .i64 (E : Int)) (by go_simp) ?_
      simp only [Act.put, List.setIfInBounds_toArray, List.set_cons_zero, List.set_cons_succ]
      have l4 := bytes_load y4_5.out hHl
      have l5 := bytes_load x5.out hHl
      go_upto_region 7 with (fail)
      refine wp_region_lit ?_
      refine wpList_reads (by kernel_rfl) (.agg (encB H)) (run_load_op rfl rfl l4) ?_
      simp only [Act.put, List.setIfInBounds_toArray, List.set_cons_zero, List.set_cons_succ]
      refine wpList_reads (by kernel_rfl) (.agg (encB H)) (run_load_op rfl rfl l5) ?_
      simp only [Act.put, List.setIfInBounds_toArray, List.set_cons_zero, List.set_cons_succ]
      refine wpList_reads (by kernel_rfl) (.bool true) (by rw [show Value.bool true = .bool (decide (H = H)) by simp]; exact run_eql32_op rfl rfl rfl hHl hHl) ?_
      simp only [Act.put, List.setIfInBounds_toArray, List.set_cons_zero, List.set_cons_succ]
      refine wpList_reads (by kernel_rfl) (.bool true) (by go_simp) ?_
      simp only [Act.put, List.setIfInBounds_toArray, List.set_cons_zero, List.set_cons_succ]
      refine wpList_reads (by kernel_rfl) (.int .i64 (E : Int)) (by go_simp) ?_
      simp only [Act.put, List.setIfInBounds_toArray, List.set_cons_zero, List.set_cons_succ]
      refine wpList_reads (by kernel_rfl) (.int .i64 (E : Int)) (by go_simp) ?_
      simp only [Act.put, List.setIfInBounds_toArray, List.set_cons_zero, List.set_cons_succ]
      refine wpList_reads (by kernel_rfl) (.bool true) (by go_simp) ?_
      simp only [Act.put, List.setIfInBounds_toArray, List.set_cons_zero, List.set_cons_succ]
      refine wpList_reads (by kernel_rfl) (.bool true) (by go_simp) ?_
      simp only [Act.put, List.setIfInBounds_toArray, List.set_cons_zero, List.set_cons_succ]
      refine wpList_reads (by kernel_rfl) (.bool true) (by go_simp) ?_
      simp only [Act.put, List.setIfInBounds_toArray, List.set_cons_zero, List.set_cons_succ]
      refine wpList_reads (by kernel_rfl) (.slice (some ⟨gK, 0, none⟩) m (m + 1)) (by go_simp) ?_
      simp only [Act.put, List.setIfInBounds_toArray, List.set_cons_zero, List.set_cons_succ]
      refine wpList_reads (by kernel_rfl) (.slice ah m ch) (by go_simp) ?_
      simp only [Act.put, List.setIfInBounds_toArray, List.set_cons_zero, List.set_cons_succ]
      refine wpList_enter (by kernel_rfl) 13 #[.slice (some ⟨gK, 0, none⟩) m (m + 1), .slice ah m ch] (by go_simp) (left_any _ _ sh w5 tK5.out hh5.out (by rw [← hm.out]; omega)) ?_
      rintro e w6 ⟨m6, rfl⟩
      have tT6 := tT5.out.mod m6 (fun _ h => h)
      have hd6 := hd5.out.mod m6 (fun _ _ h => h)
      have m06 := m05.out.trans m6
      replace m06 := Lib.hid m06
      clear m6 l4 l5
      refine ⟨_, rfl, ?_⟩
      simp only [Act.put, List.setIfInBounds_toArray, List.set_cons_zero, List.set_cons_succ]
      refine wpList_reads (by kernel_rfl) (.bool true) (by go_simp) ?_
      simp only [Act.put, List.setIfInBounds_toArray, List.set_cons_zero, List.set_cons_succ]
      refine wpList_reads (by kernel_rfl) (.bool true) (by go_simp) ?_
      simp only [Act.put, List.setIfInBounds_toArray, List.set_cons_zero, List.set_cons_succ]
      refine wpList_reads (by kernel_rfl) (.slice (some ⟨gT, 0, none⟩) n (n + 1)) (by go_simp) ?_
      simp only [Act.put, List.setIfInBounds_toArray, List.set_cons_zero, List.set_cons_succ]
      refine wpList_reads (by kernel_rfl) (.slice ad n cd) (by go_simp) ?_
      simp only [Act.put, List.setIfInBounds_toArray, List.set_cons_zero, List.set_cons_succ]
      refine wpList_enter (by kernel_rfl) 13 #[.slice (some ⟨gT, 0, none⟩) n (n + 1), .slice ad n cd] (by go_simp) (left_any _ _ sd w6 tT6 hd6 (by rw [← hn.out]; omega)) ?_
      rintro e w7 ⟨m7, rfl⟩
      have m07 := m06.out.trans m7
      replace m07 := Lib.hid m07
      clear m7
      refine ⟨_, rfl, ?_⟩
      simp only [Act.put, List.setIfInBounds_toArray, List.set_cons_zero, List.set_cons_succ]
      refine wpList_reads (by kernel_rfl) (.bool true) (by go_simp) ?_
      simp only [Act.put, List.setIfInBounds_toArray, List.set_cons_zero, List.set_cons_succ]
      refine wpList_reads (by kernel_rfl) (.bool true) (by go_simp) ?_
      simp only [Act.put, List.setIfInBounds_toArray, List.set_cons_zero, List.set_cons_succ]
      refine wpList_enter (by kernel_rfl) 7 #[] (by go_simp) (lives_any w7) ?_
      rintro e w8 ⟨m8, rfl⟩
      have mf := m07.out.trans m8
      replace mf := Lib.hid mf
      clear m8
      refine ⟨_, rfl, ?_⟩
      simp only [Act.put, List.setIfInBounds_toArray, List.set_cons_zero, List.set_cons_succ]
      refine wpList_reads (by kernel_rfl) (.bool true) (by go_simp) ?_
      simp only [Act.put, List.setIfInBounds_toArray, List.set_cons_zero, List.set_cons_succ]
      refine wpList_reads (by kernel_rfl) (.bool true) (by go_simp) ?_
      simp only [Act.put, List.setIfInBounds_toArray, List.set_cons_zero, List.set_cons_succ]
      go_wp2
      go_ret
      exact ⟨mf.out, rfl⟩
  · have hd1 : decide ((20000 : Int) < (n : Int)) = false := by rw [decide_eq_false_iff_not]; omega
    go_upto_region 3 with (fail)
    refine wp_region_lit ?_
    refine wpList_reads (by kernel_rfl) (.slice ah m ch) (by go_simp) ?_
    simp only [Act.put, List.setIfInBounds_toArray, List.set_cons_zero, List.set_cons_succ]
    refine wpList_enter (by kernel_rfl) 10 #[.slice ah m ch] (by go_simp) (twin_any _ sh w hh.out (by rw [← hm.out]; omega)) ?_
    rintro e w2 ⟨m2, vK, rfl, tK2⟩
    have hh2 := hh.out.mod m2 (fun _ _ h => h)
    have hd2 := hd.out.mod m2 (fun _ _ h => h)
    obtain ⟨gK, hvK⟩ : ∃ g, vK = .slice (some ⟨g, 0, none⟩) m (m + 1) := by obtain ⟨g, h, _⟩ := tK2; exact ⟨g, by rw [h, hm.out]⟩
    subst hvK
    replace hh2 := Lib.hid hh2
    replace hd2 := Lib.hid hd2
    replace m2 := Lib.hid m2
    replace tK2 := Lib.hid tK2
    refine ⟨_, rfl, ?_⟩
    simp only [Act.put, List.setIfInBounds_toArray, List.set_cons_zero, List.set_cons_succ]
    refine wpList_reads (by kernel_rfl) (.slice (some ⟨gK, 0, none⟩) m (m + 1)) (by go_simp) ?_
    simp only [Act.put, List.setIfInBounds_toArray, List.set_cons_zero, List.set_cons_succ]
    go_upto_region 4 with (fail)
    refine wp_region_lit ?_
    refine wpList_reads (by kernel_rfl) (.slice ad n cd) (by go_simp) ?_
    simp only [Act.put, List.setIfInBounds_toArray, List.set_cons_zero, List.set_cons_succ]
    refine wpList_enter (by kernel_rfl) 10 #[.slice ad n cd] (by go_simp) (twin_any _ sd w2 hd2.out (by rw [← hn.out]; omega)) ?_
    rintro e w3 ⟨m3, vT, rfl, tT3⟩
    have hh3 := hh2.out.mod m3 (fun _ _ h => h)
    have hd3 := hd2.out.mod m3 (fun _ _ h => h)
    have m03 := m2.out.trans m3
    have tK3 := tK2.out.mod m3 (fun _ h => h)
    obtain ⟨gT, hvT⟩ : ∃ g, vT = .slice (some ⟨g, 0, none⟩) n (n + 1) := by obtain ⟨g, h, _⟩ := tT3; exact ⟨g, by rw [h, hn.out]⟩
    subst hvT
    replace hh3 := Lib.hid hh3
    replace hd3 := Lib.hid hd3
    replace m03 := Lib.hid m03
    replace tK3 := Lib.hid tK3
    replace tT3 := Lib.hid tT3
    clear m3 hh2 hd2 m2 tK2
    refine ⟨_, rfl, ?_⟩
    simp only [Act.put, List.setIfInBounds_toArray, List.set_cons_zero, List.set_cons_succ]
    refine wpList_reads (by kernel_rfl) (.slice (some ⟨gT, 0, none⟩) n (n + 1)) (by go_simp) ?_
    simp only [Act.put, List.setIfInBounds_toArray, List.set_cons_zero, List.set_cons_succ]
    go_upto_region 5 with (fail)
    refine wp_region_lit ?_
    refine wpList_reads (by kernel_rfl) (.slice (some ⟨gK, 0, none⟩) m (m + 1)) (by go_simp) ?_
    simp only [Act.put, List.setIfInBounds_toArray, List.set_cons_zero, List.set_cons_succ]
    refine wpList_reads (by kernel_rfl) (.slice (some ⟨gT, 0, none⟩) n (n + 1)) (by go_simp) ?_
    simp only [Act.put, List.setIfInBounds_toArray, List.set_cons_zero, List.set_cons_succ]
    refine wpList_reads (by kernel_rfl) (.bool sv) (by go_simp) ?_
    simp only [Act.put, List.setIfInBounds_toArray, List.set_cons_zero, List.set_cons_succ]
    refine wpList_enter (by kernel_rfl) 11 #[.slice (some ⟨gK, 0, none⟩) m (m + 1), .slice (some ⟨gT, 0, none⟩) n (n + 1), .bool sv] (by go_simp) (proof_any _ _ sh sd sv w3 tK3.out.byteAt tT3.out.byteAt (by rw [← hm.out]; omega) (by rw [← hn.out]; omega)) ?_
    rintro e u4 ⟨n4, rfl⟩
    obtain ⟨H, hH⟩ : ∃ H, H = proofB sh sd sv := ⟨_, rfl⟩
    obtain ⟨E, hE⟩ : ∃ E, E = proofE sh sd sv := ⟨_, rfl⟩
    have hHl : H.length = 32 := by rw [hH]; exact proofB_length _ _ _
    have hmv : proofV sh sd sv = .tuple #[.agg (encB H), .int .i64 (E : Int)] := by unfold proofV; rw [hH, hE]
    replace hH := Lib.hid hH
    replace hE := Lib.hid hE
    replace hmv := Lib.hid hmv
    rw [hmv.out]
    obtain ⟨wa4, hw4⟩ : ∃ x, x = u4.alloc (.cells (encB (zb 32)) 23) := ⟨_, rfl⟩
    obtain ⟨g4, hg4⟩ : ∃ g, g = u4.heap.size := ⟨_, rfl⟩
    have ma4 : Mod (fun _ => False) u4 wa4 := by rw [hw4]; exact (Mod.refl _ _).alloc _
    have xa4 : wa4.heap[g4]? = some (.cells (encB (zb 32)) 23 (0,0)) := by rw [hw4]; exact hp_new _ _ _ hg4
    obtain ⟨w4, st4, na4, x4⟩ := bytes_store xa4 (s' := H) (by decide) hHl
    have m4 : Mod (fun _ => False) u4 w4 := ma4.trans' na4 (fun k hk h => by omega)
    replace hw4 := Lib.hid hw4
    replace hg4 := Lib.hid hg4
    replace x4 := Lib.hid x4
    clear ma4 xa4 na4
    have mm4 := n4.trans m4
    have hh4 := hh3.out.mod mm4 (fun _ _ h => h)
    replace hh4 := Lib.hid hh4
    have hd4 := hd3.out.mod mm4 (fun _ _ h => h)
    replace hd4 := Lib.hid hd4
    have tK4 := tK3.out.mod mm4 (fun _ h => h)
    replace tK4 := Lib.hid tK4
    have tT4 := tT3.out.mod mm4 (fun _ h => h)
    replace tT4 := Lib.hid tT4
    have m04 := m03.out.trans mm4
    replace m04 := Lib.hid m04
    clear n4 m4 mm4 hh3 hd3 tK3 tT3 m03
    refine ⟨_, rfl, ?_⟩
    simp only [Act.put, List.setIfInBounds_toArray, List.set_cons_zero, List.set_cons_succ]
    refine wpList_reads (by kernel_rfl) (.tuple #[.agg (encB H), .int .i64 (E : Int)]) (by go_simp) ?_
    simp only [Act.put, List.setIfInBounds_toArray, List.set_cons_zero, List.set_cons_succ]
    refine wpList_reads (by kernel_rfl) (.agg (encB H)) (by go_simp) ?_
    simp only [Act.put, List.setIfInBounds_toArray, List.set_cons_zero, List.set_cons_succ]
    refine wpList_reads (by kernel_rfl) (.int .i64 (E : Int)) (by go_simp) ?_
    simp only [Act.put, List.setIfInBounds_toArray, List.set_cons_zero, List.set_cons_succ]
    refine wpList_yields (by kernel_rfl) _ _ (alloc_arr 23 _ zero32 _ _ _ rfl) ?_
    simp only [Act.put, List.setIfInBounds_toArray, List.set_cons_zero, List.set_cons_succ]
    rw [← hg4.out, ← hw4.out]
    refine wpList_store_to rfl _ _ _ rfl _ _ _ rfl rfl _ st4 ?_
    simp only [Act.put, List.setIfInBounds_toArray, List.set_cons_zero, List.set_cons_succ]
    refine wpList_reads (by kernel_rfl) (.int .i64 (E : Int)) (by go_simp) ?_
    simp only [Act.put, List.setIfInBounds_toArray, List.set_cons_zero, List.set_cons_succ]
    go_upto_region 6 with (fail)
    refine wp_region_lit ?_
    refine wpList_reads (by kernel_rfl) (.slice ah m ch) (by go_simp) ?_
    simp only [Act.put, List.setIfInBounds_toArray, List.set_cons_zero, List.set_cons_succ]
    refine wpList_reads (by kernel_rfl) (.slice ad n cd) (by go_simp) ?_
    simp only [Act.put, List.setIfInBounds_toArray, List.set_cons_zero, List.set_cons_succ]
    refine wpList_reads (by kernel_rfl) (.bool sv) (by go_simp) ?_
    simp only [Act.put, List.setIfInBounds_toArray, List.set_cons_zero, List.set_cons_succ]
    refine wpList_enter (by kernel_rfl) 12 #[.slice ah m ch, .slice ad n cd, .bool sv] (by go_simp) (refproof_any _ _ sh sd sv w4 hh4.out hd4.out (by rw [← hm.out]; omega) (by rw [← hn.out]; omega)) ?_
    rintro e u5 ⟨n5, rfl⟩
    rw [hmv.out]
    obtain ⟨wa5, hw5⟩ : ∃ x, x = u5.alloc (.cells (encB (zb 32)) 23) := ⟨_, rfl⟩
    obtain ⟨g5, hg5⟩ : ∃ g, g = u5.heap.size := ⟨_, rfl⟩
    have ma5 : Mod (fun _ => False) u5 wa5 := by rw [hw5]; exact (Mod.refl _ _).alloc _
    have xa5 : wa5.heap[g5]? = some (.cells (encB (zb 32)) 23 (0,0)) := by rw [hw5]; exact hp_new _ _ _ hg5
    obtain ⟨w5, st5, na5, x5⟩ := bytes_store xa5 (s' := H) (by decide) hHl
    have m5 : Mod (fun _ => False) u5 w5 := ma5.trans' na5 (fun k hk h => by omega)
    replace hw5 := Lib.hid hw5
    replace hg5 := Lib.hid hg5
    replace x5 := Lib.hid x5
    clear ma5 xa5 na5
    have mm5 := n5.trans m5
    have hh5 := hh4.out.mod mm5 (fun _ _ h => h)
    replace hh5 := Lib.hid hh5
    have hd5 := hd4.out.mod mm5 (fun _ _ h => h)
    replace hd5 := Lib.hid hd5
    have tK5 := tK4.out.mod mm5 (fun _ h => h)
    replace tK5 := Lib.hid tK5
    have tT5 := tT4.out.mod mm5 (fun _ h => h)
    replace tT5 := Lib.hid tT5
    have y4_5 := mm5.heap x4.out (fun h => h)
    replace y4_5 := Lib.hid y4_5
    have m05 := m04.out.trans mm5
    replace m05 := Lib.hid m05
    clear n5 m5 mm5 hh4 hd4 tK4 tT4 m04
    refine ⟨_, rfl, ?_⟩
    simp only [Act.put, List.setIfInBounds_toArray, List.set_cons_zero, List.set_cons_succ]
    refine wpList_reads (by kernel_rfl) (.tuple #[.agg (encB H), .int .i64 (E : Int)]) (by go_simp) ?_
    simp only [Act.put, List.setIfInBounds_toArray, List.set_cons_zero, List.set_cons_succ]
    refine wpList_reads (by kernel_rfl) (.agg (encB H)) (by go_simp) ?_
    simp only [Act.put, List.setIfInBounds_toArray, List.set_cons_zero, List.set_cons_succ]
    refine wpList_reads (by kernel_rfl) (.int .i64 (E : Int)) (by go_simp) ?_
    simp only [Act.put, List.setIfInBounds_toArray, List.set_cons_zero, List.set_cons_succ]
    refine wpList_yields (by kernel_rfl) _ _ (alloc_arr 23 _ zero32 _ _ _ rfl) ?_
    simp only [Act.put, List.setIfInBounds_toArray, List.set_cons_zero, List.set_cons_succ]
    rw [← hg5.out, ← hw5.out]
    refine wpList_store_to rfl _ _ _ rfl _ _ _ rfl rfl _ st5 ?_
    simp only [Act.put, List.setIfInBounds_toArray, List.set_cons_zero, List.set_cons_succ]
    refine wpList_reads (by kernel_rfl) (.int .i64 (E : Int)) (by go_simp) ?_
    simp only [Act.put, List.setIfInBounds_toArray, List.set_cons_zero, List.set_cons_succ]
    have l4 := bytes_load y4_5.out hHl
    have l5 := bytes_load x5.out hHl
    go_upto_region 7 with (fail)
    refine wp_region_lit ?_
    refine wpList_reads (by kernel_rfl) (.agg (encB H)) (run_load_op rfl rfl l4) ?_
    simp only [Act.put, List.setIfInBounds_toArray, List.set_cons_zero, List.set_cons_succ]
    refine wpList_reads (by kernel_rfl) (.agg (encB H)) (run_load_op rfl rfl l5) ?_
    simp only [Act.put, List.setIfInBounds_toArray, List.set_cons_zero, List.set_cons_succ]
    refine wpList_reads (by kernel_rfl) (.bool true) (by rw [show Value.bool true = .bool (decide (H = H)) by simp]; exact run_eql32_op rfl rfl rfl hHl hHl) ?_
    simp only [Act.put, List.setIfInBounds_toArray, List.set_cons_zero, List.set_cons_succ]
    refine wpList_reads (by kernel_rfl) (.bool true) (by go_simp) ?_
    simp only [Act.put, List.setIfInBounds_toArray, List.set_cons_zero, List.set_cons_succ]
    refine wpList_reads (by kernel_rfl) (.int .i64 (E : Int)) (by go_simp) ?_
    simp only [Act.put, List.setIfInBounds_toArray, List.set_cons_zero, List.set_cons_succ]
    refine wpList_reads (by kernel_rfl) (.int .i64 (E : Int)) (by go_simp) ?_
    simp only [Act.put, List.setIfInBounds_toArray, List.set_cons_zero, List.set_cons_succ]
    refine wpList_reads (by kernel_rfl) (.bool true) (by go_simp) ?_
    simp only [Act.put, List.setIfInBounds_toArray, List.set_cons_zero, List.set_cons_succ]
    refine wpList_reads (by kernel_rfl) (.bool true) (by go_simp) ?_
    simp only [Act.put, List.setIfInBounds_toArray, List.set_cons_zero, List.set_cons_succ]
    refine wpList_reads (by kernel_rfl) (.bool true) (by go_simp) ?_
    simp only [Act.put, List.setIfInBounds_toArray, List.set_cons_zero, List.set_cons_succ]
    refine wpList_reads (by kernel_rfl) (.slice (some ⟨gK, 0, none⟩) m (m + 1)) (by go_simp) ?_
    simp only [Act.put, List.setIfInBounds_toArray, List.set_cons_zero, List.set_cons_succ]
    refine wpList_reads (by kernel_rfl) (.slice ah m ch) (by go_simp) ?_
    simp only [Act.put, List.setIfInBounds_toArray, List.set_cons_zero, List.set_cons_succ]
    refine wpList_enter (by kernel_rfl) 13 #[.slice (some ⟨gK, 0, none⟩) m (m + 1), .slice ah m ch] (by go_simp) (left_any _ _ sh w5 tK5.out hh5.out (by rw [← hm.out]; omega)) ?_
    rintro e w6 ⟨m6, rfl⟩
    have tT6 := tT5.out.mod m6 (fun _ h => h)
    have hd6 := hd5.out.mod m6 (fun _ _ h => h)
    have m06 := m05.out.trans m6
    replace m06 := Lib.hid m06
    clear m6 l4 l5
    refine ⟨_, rfl, ?_⟩
    simp only [Act.put, List.setIfInBounds_toArray, List.set_cons_zero, List.set_cons_succ]
    refine wpList_reads (by kernel_rfl) (.bool true) (by go_simp) ?_
    simp only [Act.put, List.setIfInBounds_toArray, List.set_cons_zero, List.set_cons_succ]
    refine wpList_reads (by kernel_rfl) (.bool true) (by go_simp) ?_
    simp only [Act.put, List.setIfInBounds_toArray, List.set_cons_zero, List.set_cons_succ]
    refine wpList_reads (by kernel_rfl) (.slice (some ⟨gT, 0, none⟩) n (n + 1)) (by go_simp) ?_
    simp only [Act.put, List.setIfInBounds_toArray, List.set_cons_zero, List.set_cons_succ]
    refine wpList_reads (by kernel_rfl) (.slice ad n cd) (by go_simp) ?_
    simp only [Act.put, List.setIfInBounds_toArray, List.set_cons_zero, List.set_cons_succ]
    refine wpList_enter (by kernel_rfl) 13 #[.slice (some ⟨gT, 0, none⟩) n (n + 1), .slice ad n cd] (by go_simp) (left_any _ _ sd w6 tT6 hd6 (by rw [← hn.out]; omega)) ?_
    rintro e w7 ⟨m7, rfl⟩
    have m07 := m06.out.trans m7
    replace m07 := Lib.hid m07
    clear m7
    refine ⟨_, rfl, ?_⟩
    simp only [Act.put, List.setIfInBounds_toArray, List.set_cons_zero, List.set_cons_succ]
    refine wpList_reads (by kernel_rfl) (.bool true) (by go_simp) ?_
    simp only [Act.put, List.setIfInBounds_toArray, List.set_cons_zero, List.set_cons_succ]
    refine wpList_reads (by kernel_rfl) (.bool true) (by go_simp) ?_
    simp only [Act.put, List.setIfInBounds_toArray, List.set_cons_zero, List.set_cons_succ]
    refine wpList_enter (by kernel_rfl) 7 #[] (by go_simp) (lives_any w7) ?_
    rintro e w8 ⟨m8, rfl⟩
    have mf := m07.out.trans m8
    replace mf := Lib.hid mf
    clear m8
    refine ⟨_, rfl, ?_⟩
    simp only [Act.put, List.setIfInBounds_toArray, List.set_cons_zero, List.set_cons_succ]
    refine wpList_reads (by kernel_rfl) (.bool true) (by go_simp) ?_
    simp only [Act.put, List.setIfInBounds_toArray, List.set_cons_zero, List.set_cons_succ]
    refine wpList_reads (by kernel_rfl) (.bool true) (by go_simp) ?_
    simp only [Act.put, List.setIfInBounds_toArray, List.set_cons_zero, List.set_cons_succ]
    go_wp2
    go_ret
    exact ⟨mf.out, rfl⟩
end Go.Proofs.Ytmgamagmlokpmaa
