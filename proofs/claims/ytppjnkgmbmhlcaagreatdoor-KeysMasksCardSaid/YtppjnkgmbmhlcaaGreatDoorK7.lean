/-
  hkdf.Label: so many bytes of a key by a name. Printed by gen/hk7.py.
-/
import Derived.Laws.IdiomStrings
import Derived.Laws.Concat
import Derived.Test.YtppjnkgmbmhlcaaGreatDoorK6
namespace Go.Proofs.YtppjnkgmbmhlcaaGreatDoor
set_option maxRecDepth 100000
open Go Go.RowKit Go.Lib
set_option linter.unusedSimpArgs false
set_option linter.unusedVariables false

/-- A string's bytes. -/
def strB (s : ByteArray) : List (BitVec 8) := s.data.toList.map UInt8.toBitVec
theorem strB_length (s : ByteArray) : (strB s).length = s.size := by unfold strB; simp
theorem strB_append (a b : ByteArray) : strB (a ++ b) = strB a ++ strB b := by
  unfold strB
  simp
theorem run_strAdd_op {ev : Operand → Value} {o : Oper} {a b : Operand} {w : World} {x y : ByteArray} (ho : o.op = .binOp .add 9 a b 9) (ha : ev a = .string x) (hb : ev b = .string y) (h : x.size + y.size ≤ 9223372036854775807) :
    (execOp ev o).run Tryz.prog w = .ok (.value (.string (x ++ y))) w := by
  have h2 := run_string_add_sum (P := Tryz.prog) (w := w) x y h
  unfold execOp
  have h3 : ¬ x.size + y.size > 9223372036854775807 := by omega
  have h4 : (eqGuard BinOp.add 9 a b (.string x) (.string y)).run Tryz.prog w = .ok () w := by go_simp
  have h5 : (binOp BinOp.add 9 (.string x) (.string y)).run Tryz.prog w = .ok (.string (x ++ y)) w := by go_simp
  simp [ho, ha, hb, h4, h5]
theorem run_conv_op {P : Program} {ev : Operand → Value} {o : Oper} {a : Operand} {src dst : TypeId} {w w' : World} {x v : Value} (ho : o.op = .convert src dst a) (ha : ev a = x) (h : (convert src dst x).run P w = .ok v w') :
    (execOp ev o).run P w = .ok (.value v) w' := by
  unfold execOp
  simp [ho, ha, h]
theorem conv_bytes (w : World) (s : ByteArray) :
    ∃ cap w', (convert 9 22 (.string s)).run Tryz.prog w = .ok (.slice (some ⟨w.heap.size, 0, none⟩) s.size cap) w' ∧ Mod (fun _ => False) w w' ∧ ByteAt w' (.slice (some ⟨w.heap.size, 0, none⟩) s.size cap) (strB s) := by
  have h2 := run_bytes_of_string (P := Tryz.prog) w 9 22 5 s (by kernel_rfl) (by kernel_rfl) (by kernel_rfl)
  obtain ⟨cap, hcap⟩ : ∃ cap, cap = grownCap w s.size 0 5 := ⟨_, rfl⟩
  rw [← hcap] at h2
  have hcs : s.size ≤ cap := by rw [hcap]; exact grownCap_ge _ _ _ _
  refine ⟨cap, w.drew.alloc (.cells (bytesRow s cap) 5 ((bytesRow s cap).size, (bytesRow s cap).size + 1)), h2, ?_, ?_⟩
  · exact ((Mod.refl _ _).drew).alloc (.cells (bytesRow s cap) 5 ((bytesRow s cap).size, (bytesRow s cap).size + 1))
  · refine .inr ⟨w.heap.size, 0, cap, ?_, ?_, fun j hj => ?_⟩
    · rw [strB_length]
    · rw [strB_length]; exact hcs
    · rw [strB_length] at hj
      have e : (w.drew.alloc (.cells (bytesRow s cap) 5 ((bytesRow s cap).size, (bytesRow s cap).size + 1))).heap[w.heap.size]? = some (.cells (bytesRow s cap) 5 ((bytesRow s cap).size, (bytesRow s cap).size + 1)) := by
        show (w.heap.push _)[w.heap.size]? = _
        simp
      unfold World.cell?
      simp only [e]
      rw [Nat.zero_add, bytesRow_at s cap j hj]
      simp [strB, hj]
/-- The name that goes ahead of every name. -/
def tlsS : ByteArray := { data := #[116, 108, 115, 49, 51, 32] }
theorem tlsS_size : tlsS.size = 6 := rfl
/-- The info of a name. -/
def labelI (s : ByteArray) (c : List (BitVec 8)) (n : Nat) : List (BitVec 8) :=
  [BitVec.ofNat 8 (n / 256), BitVec.ofNat 8 n, BitVec.ofNat 8 (s.size + 6)] ++ (strB (tlsS ++ s) ++ ([BitVec.ofNat 8 c.length] ++ c))
def LabEnd (k : List (BitVec 8)) (s : ByteArray) (c : List (BitVec 8)) (n : Int) (w : World) (e : Ending) (w' : World) : Prop :=
  Mod (fun _ => False) w w' ∧ if 249 < s.size ∨ 255 < c.length ∨ n < 0 ∨ 8160 < n then e = .returned (.tuple #[.slice none 0 0, .int .i64 1])
    else ∃ v, e = .returned (.tuple #[v, .int .i64 0]) ∧ w'.ownsRow w.heap.size 5 1 v n.toNat (bytesV (expandB (keyS k) (labelI s c n.toNat) n.toNat))
theorem encB_three (a b c : Nat) (ha : a < 256) (hb : b < 256) (hc : c < 256) : encB [BitVec.ofNat 8 a, BitVec.ofNat 8 b, BitVec.ofNat 8 c] = #[.int .u8 (a : Int), .int .u8 (b : Int), .int .u8 (c : Int)] := by
  simp [encB, Nat.mod_eq_of_lt ha, Nat.mod_eq_of_lt hb, Nat.mod_eq_of_lt hc]
theorem encB_uno (a : Nat) (ha : a < 256) : encB [BitVec.ofNat 8 a] = #[.int .u8 (a : Int)] := by
  simp [encB, Nat.mod_eq_of_lt ha]
theorem ofNat8_mod (n : Nat) : BitVec.ofNat 8 n = BitVec.ofNat 8 (n % 256) := by
  apply BitVec.eq_of_toNat_eq
  simp

set_option maxRecDepth 100000 in
set_option maxHeartbeats 4000000 in
theorem label_any (vk vc : Value) (s : ByteArray) (k c : List (BitVec 8)) (n : Int) (w : World) (hk : ByteAt w vk k) (hc : ByteAt w vc c) (hkl : k.length ≤ 1048576) (hcl : c.length < 4611686018427387904) (hsl : s.size < 4611686018427387904) (hn1 : -9223372036854775808 ≤ n) (hn2 : n ≤ 9223372036854775807) :
    Calls Tryz.prog 104 #[vk, .string s, vc, .int .i64 n] w (LabEnd k s c n w) := by
  obtain ⟨ak, ck, rfl, _⟩ := hk.slice
  obtain ⟨ac, cc, rfl, _⟩ := hc.slice
  obtain ⟨m, hm⟩ : ∃ m, m = k.length := ⟨_, rfl⟩
  obtain ⟨p, hp⟩ : ∃ p, p = c.length := ⟨_, rfl⟩
  obtain ⟨z, hz⟩ : ∃ z, z = s.size := ⟨_, rfl⟩
  rw [← hm] at hk hkl ⊢
  rw [← hp] at hc hcl ⊢
  rw [← hz] at hsl
  have bm0 : (0 : Int) ≤ (m : Int) := by omega
  have bp0 : (0 : Int) ≤ (p : Int) := by omega
  have bz0 : (0 : Int) ≤ (z : Int) := by omega
  have ezs : ((s.size : Nat) : Int) = (z : Int) := by rw [hz]
  replace hm := Lib.hid hm
  replace hp := Lib.hid hp
  replace hz := Lib.hid hz
  replace hk := Lib.hid hk
  replace hc := Lib.hid hc
  go_enter Tryz.func104, Tryz.ntmps104
  by_cases hbad : 249 < z ∨ 255 < p ∨ n < 0 ∨ 8160 < n
  · have hfin : LabEnd k s c n w (.returned (.tuple #[.slice none 0 0, .int .i64 1])) w := ⟨Mod.refl _ _, by rw [if_pos (by rw [← hz.out, ← hp.out]; exact hbad)]⟩
    replace hfin := Lib.hid hfin
    by_cases h1 : 249 < z
    · have hd : decide ((249 : Int) < (z : Int)) = true := by rw [decide_eq_true_iff]; omega
      clear hbad h1
      go_wp2
      refine bodyPost_ret (results_tmp2 rfl _ _ _) rfl ?_
      exact hfin.out
    · have hd : decide ((249 : Int) < (z : Int)) = false := by rw [decide_eq_false_iff_not]; omega
      by_cases h2 : 255 < p
      · have hd2 : decide ((255 : Int) < (p : Int)) = true := by rw [decide_eq_true_iff]; omega
        clear hbad h1 h2
        go_wp2
        refine bodyPost_ret (results_tmp2 rfl _ _ _) rfl ?_
        exact hfin.out
      · have hd2 : decide ((255 : Int) < (p : Int)) = false := by rw [decide_eq_false_iff_not]; omega
        by_cases h3 : n < 0
        · have hd3 : decide (n < 0) = true := by rw [decide_eq_true_iff]; exact h3
          clear hbad h1 h2
          go_wp2
          refine bodyPost_ret (results_tmp2 rfl _ _ _) rfl ?_
          exact hfin.out
        · have hd3 : decide (n < 0) = false := by rw [decide_eq_false_iff_not]; exact h3
          have hd4 : decide (8160 < n) = true := by rw [decide_eq_true_iff]; omega
          clear hbad h1 h2
          go_wp2
          refine bodyPost_ret (results_tmp2 rfl _ _ _) rfl ?_
          exact hfin.out
  · obtain ⟨N, rfl⟩ : ∃ N : Nat, n = (N : Int) := ⟨n.toNat, by omega⟩
    have hd : decide ((249 : Int) < (z : Int)) = false := by rw [decide_eq_false_iff_not]; omega
    have hd2 : decide ((255 : Int) < (p : Int)) = false := by rw [decide_eq_false_iff_not]; omega
    have hd3 : decide ((N : Int) < 0) = false := by rw [decide_eq_false_iff_not]; omega
    have hd4 : decide ((8160 : Int) < (N : Int)) = false := by rw [decide_eq_false_iff_not]; omega
    have hN : N ≤ 8160 := by omega
    have hzl : z ≤ 249 := by omega
    have hpl : p ≤ 255 := by omega
    have bN : (N : Int) ≤ 8160 := by omega
    have bN0 : (0 : Int) ≤ (N : Int) := by omega
    have hnb := hbad
    replace hnb := Lib.hid hnb
    clear hbad hn1 hn2
    obtain ⟨q, hq⟩ : ∃ q, q = tlsS ++ s := ⟨_, rfl⟩
    have hqs : q.size = z + 6 := by rw [hq, ByteArray.size_append, tlsS_size, hz.out]; omega
    obtain ⟨y, hy⟩ : ∃ y, y = q.size := ⟨_, rfl⟩
    have hyz : y = z + 6 := by rw [hy, hqs]
    have eyq : ((q.size : Nat) : Int) = (y : Int) := by rw [hy]
    have by0 : (0 : Int) ≤ (y : Int) := by omega
    have byl : (y : Int) ≤ 255 := by omega
    have hsh : (N : Int) >>> 8 = ((N / 256 : Nat) : Int) := by rw [Int.shiftRight_eq_div_pow]; omega
    have hu1 : IntKind.u8.wrap ((N : Int) / 256) = (N : Int) / 256 := by rw [IntKind.wrap_u8]; omega
    have hu2 : IntKind.u8.wrap (N : Int) = ((N % 256 : Nat) : Int) := by rw [IntKind.wrap_u8]; omega
    have hu3 : IntKind.u8.wrap (y : Int) = (y : Int) := by rw [IntKind.wrap_u8]; omega
    have hu4 : IntKind.u8.wrap (p : Int) = (p : Int) := by rw [IntKind.wrap_u8]; omega
    obtain ⟨w1, hw1⟩ : ∃ w1, w1 = w.alloc (.cells #[.int .u8 ((N / 256 : Nat) : Int), .int .u8 ((N % 256 : Nat) : Int), .int .u8 (y : Int)] 5) := ⟨_, rfl⟩
    obtain ⟨g1, hg1⟩ : ∃ g, g = w.heap.size := ⟨_, rfl⟩
    have m1 : Mod (fun _ => False) w w1 := by rw [hw1]; exact (Mod.refl _ _).alloc _
    have x1 : w1.heap[g1]? = some (.cells (encB [BitVec.ofNat 8 (N / 256), BitVec.ofNat 8 N, BitVec.ofNat 8 (z + 6)]) 5 (0,0)) := by
      rw [ofNat8_mod N, encB_three _ _ _ (by omega) (by omega) (by omega), ← hyz, hw1]
      exact hp_new _ _ _ hg1
    have b1 : ByteAt w1 (.slice (some ⟨g1, 0, none⟩) 3 3) [BitVec.ofNat 8 (N / 256), BitVec.ofNat 8 N, BitVec.ofNat 8 (z + 6)] := ByteAt.row x1
    replace hq := Lib.hid hq
    replace hqs := Lib.hid hqs
    replace hyz := Lib.hid hyz
    replace hy := Lib.hid hy
    go_upto_region 3 with (fail)
    refine wp_region_lit ?_
    refine wpList_reads (by kernel_rfl) (.string s) (by go_simp) ?_
    simp only [Act.put, List.setIfInBounds_toArray, List.set_cons_zero, List.set_cons_succ]
    refine wpList_reads (by kernel_rfl) (.string q) (by rw [hq.out]; exact run_strAdd_op rfl rfl rfl (by rw [tlsS_size, ← hz.out]; omega)) ?_
    simp only [Act.put, List.setIfInBounds_toArray, List.set_cons_zero, List.set_cons_succ]
    refine wpList_reads (by kernel_rfl) (.string q) (by go_simp) ?_
    simp only [Act.put, List.setIfInBounds_toArray, List.set_cons_zero, List.set_cons_succ]
    go_upto_region 4 with (fail)
    refine wp_region_lit ?_
    refine wpList_reads (by kernel_rfl) (.int .i64 (N : Int)) (by go_simp) ?_
    simp only [Act.put, List.setIfInBounds_toArray, List.set_cons_zero, List.set_cons_succ]
    refine wpList_reads (by kernel_rfl) (.int .i64 ((N / 256 : Nat) : Int)) (by go_simp) ?_
    simp only [Act.put, List.setIfInBounds_toArray, List.set_cons_zero, List.set_cons_succ]
    refine wpList_reads (by kernel_rfl) (.int .u8 ((N / 256 : Nat) : Int)) (by go_simp) ?_
    simp only [Act.put, List.setIfInBounds_toArray, List.set_cons_zero, List.set_cons_succ]
    refine wpList_reads (by kernel_rfl) (.int .i64 (N : Int)) (by go_simp) ?_
    simp only [Act.put, List.setIfInBounds_toArray, List.set_cons_zero, List.set_cons_succ]
    refine wpList_reads (by kernel_rfl) (.int .u8 ((N % 256 : Nat) : Int)) (by go_simp) ?_
    simp only [Act.put, List.setIfInBounds_toArray, List.set_cons_zero, List.set_cons_succ]
    refine wpList_reads (by kernel_rfl) (.string q) (by go_simp) ?_
    simp only [Act.put, List.setIfInBounds_toArray, List.set_cons_zero, List.set_cons_succ]
    refine wpList_reads (by kernel_rfl) (.int .i64 (y : Int)) (by go_simp) ?_
    simp only [Act.put, List.setIfInBounds_toArray, List.set_cons_zero, List.set_cons_succ]
    refine wpList_reads (by kernel_rfl) (.int .u8 (y : Int)) (by go_simp) ?_
    simp only [Act.put, List.setIfInBounds_toArray, List.set_cons_zero, List.set_cons_succ]
    refine wpList_yields (by kernel_rfl) (.slice (some ⟨g1, 0, none⟩) 3 3) w1 (by rw [hw1, hg1]; go_simp) ?_
    simp only [Act.put, List.setIfInBounds_toArray, List.set_cons_zero, List.set_cons_succ]
    refine wpList_reads (by kernel_rfl) (.string q) (by go_simp) ?_
    simp only [Act.put, List.setIfInBounds_toArray, List.set_cons_zero, List.set_cons_succ]
    obtain ⟨c2, w2, hc2, m2, b2⟩ := conv_bytes w1 q
    rw [← hy.out] at hc2 b2
    obtain ⟨g2, hg2⟩ : ∃ g, g = w1.heap.size := ⟨_, rfl⟩
    rw [← hg2] at hc2 b2
    refine wpList_yields (by kernel_rfl) (.slice (some ⟨g2, 0, none⟩) y c2) w2 (run_conv_op rfl rfl hc2) ?_
    simp only [Act.put, List.setIfInBounds_toArray, List.set_cons_zero, List.set_cons_succ]
    refine wpList_reads (by kernel_rfl) (.slice ac p cc) (by go_simp) ?_
    simp only [Act.put, List.setIfInBounds_toArray, List.set_cons_zero, List.set_cons_succ]
    refine wpList_reads (by kernel_rfl) (.int .i64 (p : Int)) (by go_simp) ?_
    simp only [Act.put, List.setIfInBounds_toArray, List.set_cons_zero, List.set_cons_succ]
    refine wpList_reads (by kernel_rfl) (.int .u8 (p : Int)) (by go_simp) ?_
    simp only [Act.put, List.setIfInBounds_toArray, List.set_cons_zero, List.set_cons_succ]
    obtain ⟨w3, hw3⟩ : ∃ w3, w3 = w2.alloc (.cells #[.int .u8 (p : Int)] 5) := ⟨_, rfl⟩
    obtain ⟨g3, hg3⟩ : ∃ g, g = w2.heap.size := ⟨_, rfl⟩
    have m3 : Mod (fun _ => False) w2 w3 := by rw [hw3]; exact (Mod.refl _ _).alloc _
    have x3 : w3.heap[g3]? = some (.cells (encB [BitVec.ofNat 8 p]) 5 (0,0)) := by
      rw [encB_uno _ (by omega), hw3]
      exact hp_new _ _ _ hg3
    obtain ⟨w4, hw4⟩ : ∃ w4, w4 = w3.alloc (.cells #[.slice (some ⟨g1, 0, none⟩) 3 3, .slice (some ⟨g2, 0, none⟩) y c2, .slice (some ⟨g3, 0, none⟩) 1 1, .slice ac p cc] 22) := ⟨_, rfl⟩
    obtain ⟨g4, hg4⟩ : ∃ g, g = w3.heap.size := ⟨_, rfl⟩
    have m4 : Mod (fun _ => False) w3 w4 := by rw [hw4]; exact (Mod.refl _ _).alloc _
    have x4 : w4.heap[g4]? = some (.cells #[.slice (some ⟨g1, 0, none⟩) 3 3, .slice (some ⟨g2, 0, none⟩) y c2, .slice (some ⟨g3, 0, none⟩) 1 1, .slice ac p cc] 22 (0,0)) := by
      rw [hw4]
      exact hp_new _ _ _ hg4
    have m34 := m3.trans m4
    have m24 := m2.trans m34
    have m14 := m1.trans m24
    have hk4 := hk.out.mod m14 (fun _ _ h => h)
    have hc4 := hc.out.mod m14 (fun _ _ h => h)
    have bb1 := b1.mod m24 (fun _ _ h => h)
    have bb2 := b2.mod m34 (fun _ _ h => h)
    have bb3 := (ByteAt.row x3).mod m4 (fun _ _ h => h)
    have hL4 : ListAt w4 (.slice (some ⟨g4, 0, none⟩) 4 4) [[BitVec.ofNat 8 (N / 256), BitVec.ofNat 8 N, BitVec.ofNat 8 (z + 6)], strB q, [BitVec.ofNat 8 p], c] := by
      refine ⟨g4, 0, 4, rfl, fun j hj => ?_⟩
      have hj4 : j = 0 ∨ j = 1 ∨ j = 2 ∨ j = 3 := by simp at hj; omega
      rcases hj4 with rfl | rfl | rfl | rfl
      · exact ⟨_, by rw [cell_of_row _ _ _ _ _ _ x4]; rfl, bb1⟩
      · exact ⟨_, by rw [cell_of_row _ _ _ _ _ _ x4]; rfl, bb2⟩
      · exact ⟨_, by rw [cell_of_row _ _ _ _ _ _ x4]; rfl, bb3⟩
      · exact ⟨_, by rw [cell_of_row _ _ _ _ _ _ x4]; rfl, hc4⟩
    have hfl : [[BitVec.ofNat 8 (N / 256), BitVec.ofNat 8 N, BitVec.ofNat 8 (z + 6)], strB q, [BitVec.ofNat 8 p], c].flatten = labelI s c N := by
      unfold labelI
      rw [← hq.out, ← hz.out, ← hp.out]
      simp
    have hll : (labelI s c N).length = 4 + y + p := by
      rw [← hfl]
      simp [strB_length, ← hy.out, ← hp.out]
      omega
    refine wpList_yields (by kernel_rfl) (.slice (some ⟨g3, 0, none⟩) 1 1) w3 (by rw [hw3, hg3]; go_simp) ?_
    simp only [Act.put, List.setIfInBounds_toArray, List.set_cons_zero, List.set_cons_succ]
    refine wpList_reads (by kernel_rfl) (.slice ac p cc) (by go_simp) ?_
    simp only [Act.put, List.setIfInBounds_toArray, List.set_cons_zero, List.set_cons_succ]
    refine wpList_yields (by kernel_rfl) (.slice (some ⟨g4, 0, none⟩) 4 4) w4 (by rw [hw4, hg4]; go_simp) ?_
    simp only [Act.put, List.setIfInBounds_toArray, List.set_cons_zero, List.set_cons_succ]
    refine wpList_enter (by kernel_rfl) 119 #[.slice (some ⟨g4, 0, none⟩) 4 4] (by go_simp) (concat_any _ _ w4 hL4 (by simp) (by rw [hfl, hll]; have := hyz.out; omega)) ?_
    rintro e w5 ⟨m5, v5, rfl, own5⟩
    rw [hfl] at own5
    have b5 := byteAt_of_own own5
    obtain ⟨ad5, cap5, hv5, _⟩ := b5.slice
    subst hv5
    have hk5 := hk4.mod m5 (fun _ _ h => h)
    have m05 := m14.trans m5
    have hll5 : (labelI s c N).length ≤ 1048479 := by rw [hll]; have := hyz.out; omega
    obtain ⟨I, hI⟩ : ∃ I, I = labelI s c N := ⟨_, rfl⟩
    rw [← hI] at b5 hll5 ⊢
    have hend : ∀ v w', Mod (fun _ => False) w w' → w'.ownsRow w.heap.size 5 1 v N (bytesV (expandB (keyS k) I N)) → LabEnd k s c (N : Int) w (.returned (.tuple #[v, .int .i64 0])) w' := by
      intro v w' h1 h2
      refine ⟨h1, ?_⟩
      rw [if_neg (by rw [← hz.out, ← hp.out]; exact hnb.out)]
      refine ⟨v, rfl, ?_⟩
      rw [hI] at h2
      exact h2
    refine ⟨_, rfl, ?_⟩
    simp only [Act.put, List.setIfInBounds_toArray, List.set_cons_zero, List.set_cons_succ]
    refine wpList_reads (by kernel_rfl) (.slice ad5 I.length cap5) (by go_simp) ?_
    simp only [Act.put, List.setIfInBounds_toArray, List.set_cons_zero, List.set_cons_succ]
    replace hend := Lib.hid hend
    replace hk5 := Lib.hid hk5
    replace b5 := Lib.hid b5
    replace m05 := Lib.hid m05
    replace hll5 := Lib.hid hll5
    replace hI := Lib.hid hI
    go_upto_region 5 with (fail)
    refine wp_region_lit ?_
    refine wpList_reads (by kernel_rfl) (.slice ak m ck) (by go_simp) ?_
    simp only [Act.put, List.setIfInBounds_toArray, List.set_cons_zero, List.set_cons_succ]
    refine wpList_reads (by kernel_rfl) (.slice ad5 I.length cap5) (by go_simp) ?_
    simp only [Act.put, List.setIfInBounds_toArray, List.set_cons_zero, List.set_cons_succ]
    refine wpList_reads (by kernel_rfl) (.int .i64 (N : Int)) (by go_simp) ?_
    simp only [Act.put, List.setIfInBounds_toArray, List.set_cons_zero, List.set_cons_succ]
    refine wpList_enter (by kernel_rfl) 120 #[.slice ak m ck, .slice ad5 I.length cap5, .int .i64 (N : Int)] (by go_simp) (expand_any _ _ k I (N : Int) w5 hk5.out b5.out (by rw [← hm.out]; omega) (by have := hll5.out; omega) (by omega) (by omega)) ?_
    rintro e w6 ⟨m6, h6⟩
    rw [if_neg (by omega), if_neg (by rw [← hm.out]; have := hll5.out; omega)] at h6
    obtain ⟨v6, rfl, own6⟩ := h6
    have hfin := hend.out v6 w6 (m05.out.trans m6) (ownsRow_base own6 m05.out.size)
    refine ⟨_, rfl, ?_⟩
    simp only [Act.put, List.setIfInBounds_toArray, List.set_cons_zero, List.set_cons_succ]
    refine wpList_reads (by kernel_rfl) (v6) (by go_simp) ?_
    simp only [Act.put, List.setIfInBounds_toArray, List.set_cons_zero, List.set_cons_succ]
    refine wpList_reads (by kernel_rfl) (.int .i64 0) (by go_simp) ?_
    simp only [Act.put, List.setIfInBounds_toArray, List.set_cons_zero, List.set_cons_succ]
    refine wpList_reads (by kernel_rfl) (v6) (by go_simp) ?_
    simp only [Act.put, List.setIfInBounds_toArray, List.set_cons_zero, List.set_cons_succ]
    refine wpList_reads (by kernel_rfl) (.int .i64 0) (by go_simp) ?_
    simp only [Act.put, List.setIfInBounds_toArray, List.set_cons_zero, List.set_cons_succ]
    replace hfin := Lib.hid hfin
    go_wp2
    refine bodyPost_ret (results_tmp2 rfl _ _ _) rfl ?_
    exact hfin.out
end Go.Proofs.YtppjnkgmbmhlcaaGreatDoor
