/-
  mailcoachlaw06.alive, great. Printed by gen/pa5.py.
-/
import Derived.Lib.SlBytesConst
import Derived.Test.YtbiijcljpgannaaYi
namespace Go.Proofs.Ytbiijcljpgannaa
open Go Go.RowKit Go.Lib
set_option linter.unusedSimpArgs false
set_option linter.unusedVariables false

theorem ByteAt.rowF {w : World} {g : Nat} {t : TypeId} {fz : Nat × Nat} {bs : List (BitVec 8)} (h : w.heap[g]? = some (.cells (encB bs) t fz)) : ByteAt w (.slice (some ⟨g, 0, none⟩) bs.length bs.length) bs :=
  .inr ⟨g, 0, bs.length, rfl, Nat.le_refl _, fun j hj => by
    unfold World.cell?
    simp only [h]
    rw [Nat.zero_add, encB_get hj]
    rfl⟩
theorem run_conv_op {P : Program} {ev : Operand → Value} {o : Oper} {t u : TypeId} {x : Operand} {v r : Value} {w w' : World} (ho : o.op = .convert t u x) (hx : ev x = v) (h : (convert t u v).run P w = .ok r w') : (execOp ev o).run P w = .ok (.value r) w' := by
  unfold execOp
  simp only [ho]
  simp [hx, h]
def fourA : List (BitVec 8) := [211, 26, 141, 52]
theorem sealX_A : sealX keyA nonceA plainA besideA = ctA ++ tagA := by
  unfold sealX sealS
  rw [if_pos (by decide), xorA, aTagA]
theorem sealE_A : sealE keyA nonceA plainA besideA = 0 := by decide
theorem sealA_take : (ctA ++ tagA).take 4 = fourA := by decide +kernel
theorem sealA_drop : (ctA ++ tagA).drop 114 = tagA := by decide +kernel
theorem keyA_succ : ∀ j, j < 32 → keyA.take (j + 1) = keyA.take j ++ [BitVec.ofNat 8 (128 + j)] := by decide +kernel
theorem sealE_bad : sealE (keyA.take 31) nonceA [] [] = 1 := by decide
theorem openE_short : openE keyA nonceA (List.replicate 15 0) [] = 4 := by decide
def macZ : List (BitVec 8) := [0, 0, 0, 0, 0, 0, 0, 0, 0, 0, 0, 0, 0, 0, 0, 0, 0, 0, 0, 0, 0, 0, 0, 0, 4, 0, 0, 0, 0, 0, 0, 0]
theorem macZ_eq : macB [0, 0, 0, 0] [] = macZ := by decide +kernel
theorem nchZ : nch macZ = 2 := by decide +kernel
theorem accZ0 : accS rA macZ 0 = [0, 0, 0, 0, 0] := rfl
theorem accZ1 : accS rA macZ 1 = [41326486, 40390081, 37265713, 3414885, 50686820] := by unfold accS timesN; rw [accZ0, show plusN [0, 0, 0, 0, 0] (ofN (chunkB macZ 0 ++ [1])) = [0, 0, 0, 0, 16777216] by decide +kernel, show mulTo [0, 0, 0, 0, 16777216] rA 5 = [2710532469555200, 4752659479265280, 3606868740014080, 23835139112960, 329494774677504] by decide +kernel]; decide +kernel
theorem accZ2 : accS rA macZ 2 = [46176658, 30596136, 58504781, 51688025, 22500389] := by unfold accS timesN; rw [accZ1, show plusN [41326486, 40390081, 37265713, 3414885, 50686820] (ofN (chunkB macZ 1 ++ [1])) = [41326491, 40390081, 37282097, 3414885, 355172] by decide +kernel, show mulTo [41326491, 40390081, 37282097, 3414885, 355172] rA 5 = [9908895914273024, 3016314344298109, 4459892644438449, 5337502074184302, 3977979996256418] by decide +kernel]; decide +kernel
theorem aTagZ : aTag keyA nonceA [0, 0, 0, 0] [] = [156, 122, 151, 22, 129, 192, 176, 80, 246, 10, 12, 165, 3, 251, 167, 86] := by
  unfold aTag
  rw [blkA0_eq, macZ_eq]
  unfold tagS polyS
  rw [rA_eq, nchZ, accZ2]
  decide +kernel
theorem openE_tag : openE keyA nonceA (List.replicate 20 0) [] = 11 := by
  have h1 : ((List.replicate 20 0 : List (BitVec 8)).take ((List.replicate 20 0 : List (BitVec 8)).length - 16)) = [0, 0, 0, 0] := by decide
  unfold openE
  rw [if_pos (by decide), if_neg (by decide), if_pos (by decide), h1, aTagZ, if_neg (by decide)]
set_option maxRecDepth 100000 in
set_option maxHeartbeats 4000000 in
theorem alive_any (w : World) : Calls Try.prog 6 #[] w fun e w' => Mod (fun _ => False) w w' ∧ e = .returned (.bool true) := by
  have own0 : w.ownsRow w.heap.size 5 1 (.slice none 0 0) 0 (bytesV (keyA.take 0)) := World.ownsRow_nil _ _ _ _
  have hnil : ∀ w, ByteAt w (.slice none 0 0) [] := fun w => .inl ⟨_, _, rfl, rfl⟩
  replace own0 := Lib.hid own0
  replace hnil := Lib.hid hnil
  go_enter Try.func6, Try.ntmps6
  go_wp2
  go_loopw [1, 2] (fun kv jv wr => ∃ j : Nat, j ≤ 32 ∧ jv = .int .i64 (j : Int) ∧ Mod (fun _ => False) w wr ∧ wr.ownsRow w.heap.size 5 1 kv j (bytesV (keyA.take j))) (fun _ jv _ => 32 - (intOf jv).toNat)
  case atStart => exact ⟨0, by omega, rfl, Mod.refl _ _, own0.out⟩
  case round =>
    obtain ⟨j, hj2, rfl, mr, ownr⟩ := hrel
    have bj0 : (0 : Int) ≤ (j : Int) := by omega
    by_cases hjlt : j < 32
    · have hdj : decide ((j : Int) < 32) = true := by rw [decide_eq_true_iff]; omega
      have bj32 : ¬ (32 : Int) ≤ (j : Int) := by omega
      obtain ⟨z, hz⟩ : ∃ z, z = BitVec.ofNat 8 (128 + j) := ⟨_, rfl⟩
      obtain ⟨y, hy⟩ : ∃ y : Nat, y = 128 + j := ⟨_, rfl⟩
      have hyi : (128 : Int) + (j : Int) = (y : Int) := by omega
      have hwy : IntKind.i64.wrap (y : Int) = (y : Int) := by rw [IntKind.wrap_i64]; omega
      have hzi : IntKind.u8.wrap (y : Int) = (z.toNat : Int) := by rw [hz, BitVec.toNat_ofNat, IntKind.wrap_u8]; omega
      have hsu := keyA_succ j hjlt
      rw [← hz] at hsu
      have hlp : (keyA.take j).length = j := by rw [List.length_take]; exact Nat.min_eq_left (by have : keyA.length = 32 := rfl; omega)
      obtain ⟨K, hK⟩ : ∃ K, K = keyA.take j := ⟨_, rfl⟩
      rw [← hK] at hsu hlp ownr
      obtain ⟨ai, ci, hov⟩ := own_sliceP ownr
      subst hov
      obtain ⟨wa, hwa⟩ : ∃ wa, wa = wr.alloc (.cells #[.int .u8 (z.toNat : Int)] 5) := ⟨_, rfl⟩
      obtain ⟨ga, hga⟩ : ∃ ga, ga = wr.heap.size := ⟨_, rfl⟩
      have ma : Mod (fun _ => False) wr wa := by rw [hwa]; exact (Mod.refl _ _).alloc _
      have ra : wa.heap[ga]? = some (.cells (encB [z]) 5 (0,0)) := by rw [hwa]; exact hp_new _ _ _ hga
      have ownA := ownsRow_keep0 ownr ma
      have hsza : w.heap.size ≤ wa.heap.size := Nat.le_trans mr.size ma.size
      obtain ⟨v6, w6, hr6, own6, m6, nb6, _⟩ := run_append_one ownA ra (by omega) hsza 22
      have mia : Mod (fun _ => False) w wa := mr.trans ma
      have mf : Mod (fun _ => False) w w6 := mia.trans' m6 (fun k hk h => by have := (ownsRow_in ownA h).1; omega)
      rw [← hsu] at own6
      replace hz := Lib.hid hz
      replace hy := Lib.hid hy
      replace hsu := Lib.hid hsu
      replace hlp := Lib.hid hlp
      replace hK := Lib.hid hK
      replace hwa := Lib.hid hwa
      replace hga := Lib.hid hga
      replace own6 := Lib.hid own6
      replace mf := Lib.hid mf
      clear ma ra ownA ownr mia m6 nb6 mr
      go_upto_region 5 with (fail)
      refine wp_region_lit ?_
      refine wpList_reads (by kernel_rfl) (.slice ai j ci) (by go_simp) ?_
      simp only [Act.put, List.setIfInBounds_toArray, List.set_cons_zero, List.set_cons_succ]
      refine wpList_reads (by kernel_rfl) (.int .i64 (j : Int)) (by go_simp) ?_
      simp only [Act.put, List.setIfInBounds_toArray, List.set_cons_zero, List.set_cons_succ]
      refine wpList_reads (by kernel_rfl) (.int .i64 (y : Int)) (by go_simp) ?_
      simp only [Act.put, List.setIfInBounds_toArray, List.set_cons_zero, List.set_cons_succ]
      refine wpList_reads (by kernel_rfl) (.int .u8 (z.toNat : Int)) (by go_simp) ?_
      simp only [Act.put, List.setIfInBounds_toArray, List.set_cons_zero, List.set_cons_succ]
      refine wpList_yields (by kernel_rfl) (.slice (some ⟨ga, 0, none⟩) 1 1) wa (by rw [hwa.out, hga.out]; go_simp) ?_
      simp only [Act.put, List.setIfInBounds_toArray, List.set_cons_zero, List.set_cons_succ]
      refine wpList_yields (by kernel_rfl) v6 w6 (run_append_opP rfl rfl rfl hr6) ?_
      simp only [Act.put, List.setIfInBounds_toArray, List.set_cons_zero, List.set_cons_succ]
      clear hr6
      refine wpList_reads (by kernel_rfl) (v6) (by go_simp) ?_
      simp only [Act.put, List.setIfInBounds_toArray, List.set_cons_zero, List.set_cons_succ]
      go_wp2
      go_roundw
      case measure => simp [intOf]; omega
      case rel => exact ⟨j + 1, by omega, by go_num, mf.out, own6.out⟩
    · have hi : j = 32 := by omega
      subst hi
      have hdj : decide (((32 : Nat) : Int) < 32) = false := by decide
      obtain ⟨ak, ck, hov⟩ := own_sliceP ownr
      subst hov
      have k0 : ByteAt wr (.slice ak 32 ck) keyA := byteAt_of_own ownr
      replace k0 := Lib.hid k0
      replace mr := Lib.hid mr
      clear ownr hjlt
      obtain ⟨w1, hw1⟩ : ∃ x, x = wr.alloc (.cells #[.int .u8 7, .int .u8 0, .int .u8 0, .int .u8 0, .int .u8 64, .int .u8 65, .int .u8 66, .int .u8 67, .int .u8 68, .int .u8 69, .int .u8 70, .int .u8 71] 5) := ⟨_, rfl⟩
      obtain ⟨g1, hg1⟩ : ∃ g, g = wr.heap.size := ⟨_, rfl⟩
      have m1 : Mod (fun _ => False) wr w1 := by rw [hw1]; exact (Mod.refl _ _).alloc _
      have x1 : w1.heap[g1]? = some (.cells (encB nonceA) 5 (0,0)) := by
        rw [show encB nonceA = #[.int .u8 7, .int .u8 0, .int .u8 0, .int .u8 0, .int .u8 64, .int .u8 65, .int .u8 66, .int .u8 67, .int .u8 68, .int .u8 69, .int .u8 70, .int .u8 71] by kernel_rfl, hw1]
        exact hp_new _ _ _ hg1
      have b1 : ByteAt w1 (.slice (some ⟨g1, 0, none⟩) 12 12) nonceA := ByteAt.rowF x1
      replace hw1 := Lib.hid hw1
      replace hg1 := Lib.hid hg1
      replace b1 := Lib.hid b1
      clear x1
      obtain ⟨w2, hw2⟩ : ∃ x, x = w1.alloc (.cells #[.int .u8 80, .int .u8 81, .int .u8 82, .int .u8 83, .int .u8 192, .int .u8 193, .int .u8 194, .int .u8 195, .int .u8 196, .int .u8 197, .int .u8 198, .int .u8 199] 5) := ⟨_, rfl⟩
      obtain ⟨g2, hg2⟩ : ∃ g, g = w1.heap.size := ⟨_, rfl⟩
      have m2 : Mod (fun _ => False) w1 w2 := by rw [hw2]; exact (Mod.refl _ _).alloc _
      have x2 : w2.heap[g2]? = some (.cells (encB besideA) 5 (0,0)) := by
        rw [show encB besideA = #[.int .u8 80, .int .u8 81, .int .u8 82, .int .u8 83, .int .u8 192, .int .u8 193, .int .u8 194, .int .u8 195, .int .u8 196, .int .u8 197, .int .u8 198, .int .u8 199] by kernel_rfl, hw2]
        exact hp_new _ _ _ hg2
      have b2 : ByteAt w2 (.slice (some ⟨g2, 0, none⟩) 12 12) besideA := ByteAt.rowF x2
      replace hw2 := Lib.hid hw2
      replace hg2 := Lib.hid hg2
      replace b2 := Lib.hid b2
      clear x2
      obtain ⟨w3, hw3⟩ : ∃ x, x = w2.alloc (.cells #[.int .u8 76, .int .u8 97, .int .u8 100, .int .u8 105, .int .u8 101, .int .u8 115, .int .u8 32, .int .u8 97, .int .u8 110, .int .u8 100, .int .u8 32, .int .u8 71, .int .u8 101, .int .u8 110, .int .u8 116, .int .u8 108, .int .u8 101, .int .u8 109, .int .u8 101, .int .u8 110, .int .u8 32, .int .u8 111, .int .u8 102, .int .u8 32, .int .u8 116, .int .u8 104, .int .u8 101, .int .u8 32, .int .u8 99, .int .u8 108, .int .u8 97, .int .u8 115, .int .u8 115, .int .u8 32, .int .u8 111, .int .u8 102, .int .u8 32, .int .u8 39, .int .u8 57, .int .u8 57, .int .u8 58, .int .u8 32, .int .u8 73, .int .u8 102, .int .u8 32, .int .u8 73, .int .u8 32, .int .u8 99, .int .u8 111, .int .u8 117, .int .u8 108, .int .u8 100, .int .u8 32, .int .u8 111, .int .u8 102, .int .u8 102, .int .u8 101, .int .u8 114, .int .u8 32, .int .u8 121, .int .u8 111, .int .u8 117, .int .u8 32, .int .u8 111, .int .u8 110, .int .u8 108, .int .u8 121, .int .u8 32, .int .u8 111, .int .u8 110, .int .u8 101, .int .u8 32, .int .u8 116, .int .u8 105, .int .u8 112, .int .u8 32, .int .u8 102, .int .u8 111, .int .u8 114, .int .u8 32, .int .u8 116, .int .u8 104, .int .u8 101, .int .u8 32, .int .u8 102, .int .u8 117, .int .u8 116, .int .u8 117, .int .u8 114, .int .u8 101, .int .u8 44, .int .u8 32, .int .u8 115, .int .u8 117, .int .u8 110, .int .u8 115, .int .u8 99, .int .u8 114, .int .u8 101, .int .u8 101, .int .u8 110, .int .u8 32, .int .u8 119, .int .u8 111, .int .u8 117, .int .u8 108, .int .u8 100, .int .u8 32, .int .u8 98, .int .u8 101, .int .u8 32, .int .u8 105, .int .u8 116, .int .u8 46] 5 (114, 114 + 1)) := ⟨_, rfl⟩
      obtain ⟨g3, hg3⟩ : ∃ g, g = w2.heap.size := ⟨_, rfl⟩
      have m3 : Mod (fun _ => False) w2 w3 := by rw [hw3]; exact (Mod.refl _ _).alloc _
      have x3 : w3.heap[g3]? = some (.cells (encB plainA) 5 (114, 114 + 1)) := by
        rw [show encB plainA = #[.int .u8 76, .int .u8 97, .int .u8 100, .int .u8 105, .int .u8 101, .int .u8 115, .int .u8 32, .int .u8 97, .int .u8 110, .int .u8 100, .int .u8 32, .int .u8 71, .int .u8 101, .int .u8 110, .int .u8 116, .int .u8 108, .int .u8 101, .int .u8 109, .int .u8 101, .int .u8 110, .int .u8 32, .int .u8 111, .int .u8 102, .int .u8 32, .int .u8 116, .int .u8 104, .int .u8 101, .int .u8 32, .int .u8 99, .int .u8 108, .int .u8 97, .int .u8 115, .int .u8 115, .int .u8 32, .int .u8 111, .int .u8 102, .int .u8 32, .int .u8 39, .int .u8 57, .int .u8 57, .int .u8 58, .int .u8 32, .int .u8 73, .int .u8 102, .int .u8 32, .int .u8 73, .int .u8 32, .int .u8 99, .int .u8 111, .int .u8 117, .int .u8 108, .int .u8 100, .int .u8 32, .int .u8 111, .int .u8 102, .int .u8 102, .int .u8 101, .int .u8 114, .int .u8 32, .int .u8 121, .int .u8 111, .int .u8 117, .int .u8 32, .int .u8 111, .int .u8 110, .int .u8 108, .int .u8 121, .int .u8 32, .int .u8 111, .int .u8 110, .int .u8 101, .int .u8 32, .int .u8 116, .int .u8 105, .int .u8 112, .int .u8 32, .int .u8 102, .int .u8 111, .int .u8 114, .int .u8 32, .int .u8 116, .int .u8 104, .int .u8 101, .int .u8 32, .int .u8 102, .int .u8 117, .int .u8 116, .int .u8 117, .int .u8 114, .int .u8 101, .int .u8 44, .int .u8 32, .int .u8 115, .int .u8 117, .int .u8 110, .int .u8 115, .int .u8 99, .int .u8 114, .int .u8 101, .int .u8 101, .int .u8 110, .int .u8 32, .int .u8 119, .int .u8 111, .int .u8 117, .int .u8 108, .int .u8 100, .int .u8 32, .int .u8 98, .int .u8 101, .int .u8 32, .int .u8 105, .int .u8 116, .int .u8 46] by kernel_rfl, hw3]
        exact hp_new _ _ _ hg3
      have b3 : ByteAt w3 (.slice (some ⟨g3, 0, none⟩) 114 114) plainA := ByteAt.rowF x3
      replace hw3 := Lib.hid hw3
      replace hg3 := Lib.hid hg3
      replace b3 := Lib.hid b3
      clear x3
      have k3 := ((k0.out.mod m1 (fun _ _ h => h)).mod m2 (fun _ _ h => h)).mod m3 (fun _ _ h => h)
      have n3 := (b1.out.mod m2 (fun _ _ h => h)).mod m3 (fun _ _ h => h)
      have s3 := b2.out.mod m3 (fun _ _ h => h)
      have p3 := b3.out
      have m03 := ((mr.out.trans m1).trans m2).trans m3
      replace k3 := Lib.hid k3
      replace n3 := Lib.hid n3
      replace s3 := Lib.hid s3
      replace p3 := Lib.hid p3
      replace m03 := Lib.hid m03
      clear m1 m2 m3 b1 b2 b3 k0 mr
      go_upto_region 6 with (fail)
      refine wp_region_lit ?_
      refine wpList_yields (by kernel_rfl) (.slice (some ⟨g1, 0, none⟩) 12 12) w1 (by rw [hw1.out, hg1.out]; go_simp) ?_
      simp only [Act.put, List.setIfInBounds_toArray, List.set_cons_zero, List.set_cons_succ]
      refine wpList_reads (by kernel_rfl) (.slice (some ⟨g1, 0, none⟩) 12 12) (by go_simp) ?_
      simp only [Act.put, List.setIfInBounds_toArray, List.set_cons_zero, List.set_cons_succ]
      go_upto_region 7 with (fail)
      refine wp_region_lit ?_
      refine wpList_yields (by kernel_rfl) (.slice (some ⟨g2, 0, none⟩) 12 12) w2 (by rw [hw2.out, hg2.out]; go_simp) ?_
      simp only [Act.put, List.setIfInBounds_toArray, List.set_cons_zero, List.set_cons_succ]
      refine wpList_reads (by kernel_rfl) (.slice (some ⟨g2, 0, none⟩) 12 12) (by go_simp) ?_
      simp only [Act.put, List.setIfInBounds_toArray, List.set_cons_zero, List.set_cons_succ]
      go_upto_region 8 with (fail)
      refine wp_region_lit ?_
      refine wpList_reads (by kernel_rfl) (.slice ak 32 ck) (by go_simp) ?_
      simp only [Act.put, List.setIfInBounds_toArray, List.set_cons_zero, List.set_cons_succ]
      refine wpList_reads (by kernel_rfl) (.slice (some ⟨g1, 0, none⟩) 12 12) (by go_simp) ?_
      simp only [Act.put, List.setIfInBounds_toArray, List.set_cons_zero, List.set_cons_succ]
      refine wpList_yields (by kernel_rfl) (.slice (some ⟨g3, 0, none⟩) 114 114) (w2.alloc (.cells #[.int .u8 76, .int .u8 97, .int .u8 100, .int .u8 105, .int .u8 101, .int .u8 115, .int .u8 32, .int .u8 97, .int .u8 110, .int .u8 100, .int .u8 32, .int .u8 71, .int .u8 101, .int .u8 110, .int .u8 116, .int .u8 108, .int .u8 101, .int .u8 109, .int .u8 101, .int .u8 110, .int .u8 32, .int .u8 111, .int .u8 102, .int .u8 32, .int .u8 116, .int .u8 104, .int .u8 101, .int .u8 32, .int .u8 99, .int .u8 108, .int .u8 97, .int .u8 115, .int .u8 115, .int .u8 32, .int .u8 111, .int .u8 102, .int .u8 32, .int .u8 39, .int .u8 57, .int .u8 57, .int .u8 58, .int .u8 32, .int .u8 73, .int .u8 102, .int .u8 32, .int .u8 73, .int .u8 32, .int .u8 99, .int .u8 111, .int .u8 117, .int .u8 108, .int .u8 100, .int .u8 32, .int .u8 111, .int .u8 102, .int .u8 102, .int .u8 101, .int .u8 114, .int .u8 32, .int .u8 121, .int .u8 111, .int .u8 117, .int .u8 32, .int .u8 111, .int .u8 110, .int .u8 108, .int .u8 121, .int .u8 32, .int .u8 111, .int .u8 110, .int .u8 101, .int .u8 32, .int .u8 116, .int .u8 105, .int .u8 112, .int .u8 32, .int .u8 102, .int .u8 111, .int .u8 114, .int .u8 32, .int .u8 116, .int .u8 104, .int .u8 101, .int .u8 32, .int .u8 102, .int .u8 117, .int .u8 116, .int .u8 117, .int .u8 114, .int .u8 101, .int .u8 44, .int .u8 32, .int .u8 115, .int .u8 117, .int .u8 110, .int .u8 115, .int .u8 99, .int .u8 114, .int .u8 101, .int .u8 101, .int .u8 110, .int .u8 32, .int .u8 119, .int .u8 111, .int .u8 117, .int .u8 108, .int .u8 100, .int .u8 32, .int .u8 98, .int .u8 101, .int .u8 32, .int .u8 105, .int .u8 116, .int .u8 46] 5)) (by rw [hg3.out]; kernel_rfl) ?_
      simp only [Act.put, List.setIfInBounds_toArray, List.set_cons_zero, List.set_cons_succ]
      refine wpList_yields (by kernel_rfl) (.slice (some ⟨g3, 0, none⟩) 114 114) w3 (run_conv_op rfl rfl (by rw [hw3.out]; exact conv_const w2 _ 5 _ 114 114 _ hg3.out Try.underlying22 Try.underlying5)) ?_
      simp only [Act.put, List.setIfInBounds_toArray, List.set_cons_zero, List.set_cons_succ]
      refine wpList_reads (by kernel_rfl) (.slice (some ⟨g2, 0, none⟩) 12 12) (by go_simp) ?_
      simp only [Act.put, List.setIfInBounds_toArray, List.set_cons_zero, List.set_cons_succ]
      refine wpList_enter (by kernel_rfl) 8 #[.slice ak 32 ck, .slice (some ⟨g1, 0, none⟩) 12 12, .slice (some ⟨g3, 0, none⟩) 114 114, .slice (some ⟨g2, 0, none⟩) 12 12] (by go_simp) (seal_any _ _ _ _ keyA nonceA plainA besideA (by decide) (by decide) (by decide) (by decide) w3 k3.out n3.out p3.out s3.out) ?_
      rintro e w4 ⟨m4, v4, rfl, own4⟩
      rw [sealE_A]
      rw [sealX_A] at own4
      obtain ⟨R, hR⟩ : ∃ R, R = ctA ++ tagA := ⟨_, rfl⟩
      rw [← hR] at own4
      have hRl : R.length = 130 := by rw [hR]; decide
      have r4 := byteAt_of_own own4
      obtain ⟨ar, cr, rfl⟩ := r4.sliceN hRl
      have k4 := k3.out.mod m4 (fun _ _ h => h)
      have n4 := n3.out.mod m4 (fun _ _ h => h)
      have m04 := m03.out.trans m4
      replace hR := Lib.hid hR
      replace hRl := Lib.hid hRl
      replace r4 := Lib.hid r4
      replace k4 := Lib.hid k4
      replace n4 := Lib.hid n4
      replace m04 := Lib.hid m04
      clear m4 own4 k3 n3 s3 p3 m03
      refine ⟨_, rfl, ?_⟩
      simp only [Act.put, List.setIfInBounds_toArray, List.set_cons_zero, List.set_cons_succ]
      refine wpList_reads (by kernel_rfl) (.tuple #[.slice ar 130 cr, .int .i64 0]) (by go_simp) ?_
      simp only [Act.put, List.setIfInBounds_toArray, List.set_cons_zero, List.set_cons_succ]
      refine wpList_reads (by kernel_rfl) (.slice ar 130 cr) (by go_simp) ?_
      simp only [Act.put, List.setIfInBounds_toArray, List.set_cons_zero, List.set_cons_succ]
      refine wpList_reads (by kernel_rfl) (.int .i64 0) (by go_simp) ?_
      simp only [Act.put, List.setIfInBounds_toArray, List.set_cons_zero, List.set_cons_succ]
      refine wpList_reads (by kernel_rfl) (.slice ar 130 cr) (by go_simp) ?_
      simp only [Act.put, List.setIfInBounds_toArray, List.set_cons_zero, List.set_cons_succ]
      refine wpList_reads (by kernel_rfl) (.int .i64 0) (by go_simp) ?_
      simp only [Act.put, List.setIfInBounds_toArray, List.set_cons_zero, List.set_cons_succ]
      obtain ⟨w5, hw5⟩ : ∃ x, x = w4.alloc (.cells (encB (List.replicate 15 0)) 5) := ⟨_, rfl⟩
      obtain ⟨g5, hg5⟩ : ∃ g, g = w4.heap.size := ⟨_, rfl⟩
      have m5 : Mod (fun _ => False) w4 w5 := by rw [hw5]; exact (Mod.refl _ _).alloc _
      have b5 : ByteAt w5 (.slice (some ⟨g5, 0, none⟩) 15 15) (List.replicate 15 0) := ByteAt.row (bs := List.replicate 15 0) (by rw [hw5]; exact hp_new _ _ _ hg5)
      have mk5 := fun w => makeP 15 (by decide) w
      replace hw5 := Lib.hid hw5
      replace hg5 := Lib.hid hg5
      replace b5 := Lib.hid b5
      have k5 := k4.out.mod m5 (fun _ _ h => h)
      have n5 := n4.out.mod m5 (fun _ _ h => h)
      replace k5 := Lib.hid k5
      replace n5 := Lib.hid n5
      go_upto_region 9 with (fail)
      refine wp_region_lit ?_
      refine wpList_reads (by kernel_rfl) (.slice ak 32 ck) (by go_simp) ?_
      simp only [Act.put, List.setIfInBounds_toArray, List.set_cons_zero, List.set_cons_succ]
      refine wpList_reads (by kernel_rfl) (.slice (some ⟨g1, 0, none⟩) 12 12) (by go_simp) ?_
      simp only [Act.put, List.setIfInBounds_toArray, List.set_cons_zero, List.set_cons_succ]
      refine wpList_yields (by kernel_rfl) (.slice (some ⟨g5, 0, none⟩) 15 15) w5 (run_make_op rfl rfl rfl (by rw [hw5.out, hg5.out]; exact mk5 _)) ?_
      simp only [Act.put, List.setIfInBounds_toArray, List.set_cons_zero, List.set_cons_succ]
      clear mk5
      refine wpList_enter (by kernel_rfl) 9 #[.slice ak 32 ck, .slice (some ⟨g1, 0, none⟩) 12 12, .slice (some ⟨g5, 0, none⟩) 15 15, .slice none 0 0] (by go_simp) (open_any _ _ _ _ keyA nonceA (List.replicate 15 0) [] (by decide) (by decide) (by decide) (by decide) w5 k5.out n5.out b5.out (hnil.out _)) ?_
      rintro e w6 ⟨m6, v6, rfl, _⟩
      rw [openE_short]
      have r6 := r4.out.mod (m5.trans m6) (fun _ _ h => h)
      have k6 := k5.out.mod m6 (fun _ _ h => h)
      have n6 := n5.out.mod m6 (fun _ _ h => h)
      have m06 := m04.out.trans (m5.trans m6)
      replace r6 := Lib.hid r6
      replace k6 := Lib.hid k6
      replace n6 := Lib.hid n6
      replace m06 := Lib.hid m06
      clear m5 m6 r4 k4 n4 k5 n5 m04 b5
      refine ⟨_, rfl, ?_⟩
      simp only [Act.put, List.setIfInBounds_toArray, List.set_cons_zero, List.set_cons_succ]
      refine wpList_reads (by kernel_rfl) (.tuple #[v6, .int .i64 4]) (by go_simp) ?_
      simp only [Act.put, List.setIfInBounds_toArray, List.set_cons_zero, List.set_cons_succ]
      refine wpList_reads (by kernel_rfl) (v6) (by go_simp) ?_
      simp only [Act.put, List.setIfInBounds_toArray, List.set_cons_zero, List.set_cons_succ]
      refine wpList_reads (by kernel_rfl) (.int .i64 4) (by go_simp) ?_
      simp only [Act.put, List.setIfInBounds_toArray, List.set_cons_zero, List.set_cons_succ]
      refine wpList_reads (by kernel_rfl) (v6) (by go_simp) ?_
      simp only [Act.put, List.setIfInBounds_toArray, List.set_cons_zero, List.set_cons_succ]
      refine wpList_reads (by kernel_rfl) (.int .i64 4) (by go_simp) ?_
      simp only [Act.put, List.setIfInBounds_toArray, List.set_cons_zero, List.set_cons_succ]
      obtain ⟨vc, kc, rc⟩ := k6.out.cutTo 31 (by decide)
      replace kc := Lib.hid kc
      go_upto_region 10 with (fail)
      refine wp_region_lit ?_
      refine wpList_reads (by kernel_rfl) (.slice ak 32 ck) (by go_simp) ?_
      simp only [Act.put, List.setIfInBounds_toArray, List.set_cons_zero, List.set_cons_succ]
      refine wpList_reads (by kernel_rfl) (vc) (by exact cut_op Try.underlying22 rfl rfl rfl (rc _)) ?_
      simp only [Act.put, List.setIfInBounds_toArray, List.set_cons_zero, List.set_cons_succ]
      refine wpList_reads (by kernel_rfl) (.slice (some ⟨g1, 0, none⟩) 12 12) (by go_simp) ?_
      simp only [Act.put, List.setIfInBounds_toArray, List.set_cons_zero, List.set_cons_succ]
      clear rc
      refine wpList_enter (by kernel_rfl) 8 #[vc, .slice (some ⟨g1, 0, none⟩) 12 12, .slice none 0 0, .slice none 0 0] (by go_simp) (seal_any _ _ _ _ (keyA.take 31) nonceA [] [] (by decide) (by decide) (by decide) (by decide) w6 kc.out n6.out (hnil.out _) (hnil.out _)) ?_
      rintro e w7 ⟨m7, v7, rfl, _⟩
      rw [sealE_bad]
      have r7 := r6.out.mod m7 (fun _ _ h => h)
      have k7 := k6.out.mod m7 (fun _ _ h => h)
      have n7 := n6.out.mod m7 (fun _ _ h => h)
      have m07 := m06.out.trans m7
      replace r7 := Lib.hid r7
      replace k7 := Lib.hid k7
      replace n7 := Lib.hid n7
      replace m07 := Lib.hid m07
      clear m7 r6 k6 n6 m06 kc
      refine ⟨_, rfl, ?_⟩
      simp only [Act.put, List.setIfInBounds_toArray, List.set_cons_zero, List.set_cons_succ]
      refine wpList_reads (by kernel_rfl) (.tuple #[v7, .int .i64 1]) (by go_simp) ?_
      simp only [Act.put, List.setIfInBounds_toArray, List.set_cons_zero, List.set_cons_succ]
      refine wpList_reads (by kernel_rfl) (v7) (by go_simp) ?_
      simp only [Act.put, List.setIfInBounds_toArray, List.set_cons_zero, List.set_cons_succ]
      refine wpList_reads (by kernel_rfl) (.int .i64 1) (by go_simp) ?_
      simp only [Act.put, List.setIfInBounds_toArray, List.set_cons_zero, List.set_cons_succ]
      refine wpList_reads (by kernel_rfl) (v7) (by go_simp) ?_
      simp only [Act.put, List.setIfInBounds_toArray, List.set_cons_zero, List.set_cons_succ]
      refine wpList_reads (by kernel_rfl) (.int .i64 1) (by go_simp) ?_
      simp only [Act.put, List.setIfInBounds_toArray, List.set_cons_zero, List.set_cons_succ]
      obtain ⟨w8, hw8⟩ : ∃ x, x = w7.alloc (.cells (encB (List.replicate 20 0)) 5) := ⟨_, rfl⟩
      obtain ⟨g8, hg8⟩ : ∃ g, g = w7.heap.size := ⟨_, rfl⟩
      have m8 : Mod (fun _ => False) w7 w8 := by rw [hw8]; exact (Mod.refl _ _).alloc _
      have b8 : ByteAt w8 (.slice (some ⟨g8, 0, none⟩) 20 20) (List.replicate 20 0) := ByteAt.row (bs := List.replicate 20 0) (by rw [hw8]; exact hp_new _ _ _ hg8)
      have mk8 := fun w => makeP 20 (by decide) w
      replace hw8 := Lib.hid hw8
      replace hg8 := Lib.hid hg8
      replace b8 := Lib.hid b8
      have k8 := k7.out.mod m8 (fun _ _ h => h)
      have n8 := n7.out.mod m8 (fun _ _ h => h)
      replace k8 := Lib.hid k8
      replace n8 := Lib.hid n8
      go_upto_region 11 with (fail)
      refine wp_region_lit ?_
      refine wpList_reads (by kernel_rfl) (.slice ak 32 ck) (by go_simp) ?_
      simp only [Act.put, List.setIfInBounds_toArray, List.set_cons_zero, List.set_cons_succ]
      refine wpList_reads (by kernel_rfl) (.slice (some ⟨g1, 0, none⟩) 12 12) (by go_simp) ?_
      simp only [Act.put, List.setIfInBounds_toArray, List.set_cons_zero, List.set_cons_succ]
      refine wpList_yields (by kernel_rfl) (.slice (some ⟨g8, 0, none⟩) 20 20) w8 (run_make_op rfl rfl rfl (by rw [hw8.out, hg8.out]; exact mk8 _)) ?_
      simp only [Act.put, List.setIfInBounds_toArray, List.set_cons_zero, List.set_cons_succ]
      clear mk8
      refine wpList_enter (by kernel_rfl) 9 #[.slice ak 32 ck, .slice (some ⟨g1, 0, none⟩) 12 12, .slice (some ⟨g8, 0, none⟩) 20 20, .slice none 0 0] (by go_simp) (open_any _ _ _ _ keyA nonceA (List.replicate 20 0) [] (by decide) (by decide) (by decide) (by decide) w8 k8.out n8.out b8.out (hnil.out _)) ?_
      rintro e w9 ⟨m9, v9, rfl, _⟩
      rw [openE_tag]
      have r9 := r7.out.mod (m8.trans m9) (fun _ _ h => h)
      have k9 := k8.out.mod m9 (fun _ _ h => h)
      have n9 := n8.out.mod m9 (fun _ _ h => h)
      have m09 := m07.out.trans (m8.trans m9)
      replace r9 := Lib.hid r9
      replace k9 := Lib.hid k9
      replace n9 := Lib.hid n9
      replace m09 := Lib.hid m09
      clear m8 m9 r7 k7 n7 k8 n8 m07 b8
      refine ⟨_, rfl, ?_⟩
      simp only [Act.put, List.setIfInBounds_toArray, List.set_cons_zero, List.set_cons_succ]
      refine wpList_reads (by kernel_rfl) (.tuple #[v9, .int .i64 11]) (by go_simp) ?_
      simp only [Act.put, List.setIfInBounds_toArray, List.set_cons_zero, List.set_cons_succ]
      refine wpList_reads (by kernel_rfl) (v9) (by go_simp) ?_
      simp only [Act.put, List.setIfInBounds_toArray, List.set_cons_zero, List.set_cons_succ]
      refine wpList_reads (by kernel_rfl) (.int .i64 11) (by go_simp) ?_
      simp only [Act.put, List.setIfInBounds_toArray, List.set_cons_zero, List.set_cons_succ]
      refine wpList_reads (by kernel_rfl) (v9) (by go_simp) ?_
      simp only [Act.put, List.setIfInBounds_toArray, List.set_cons_zero, List.set_cons_succ]
      refine wpList_reads (by kernel_rfl) (.int .i64 11) (by go_simp) ?_
      simp only [Act.put, List.setIfInBounds_toArray, List.set_cons_zero, List.set_cons_succ]
      obtain ⟨v4', kv4, rc4⟩ := r9.out.cutTo 4 (by decide)
      obtain ⟨v5', kv5, rc5⟩ := r9.out.cutFrom 114 (by decide)
      rw [hR.out, sealA_take] at kv4
      rw [hR.out, sealA_drop] at kv5
      replace kv4 := Lib.hid kv4
      replace kv5 := Lib.hid kv5
      obtain ⟨w10, hw10⟩ : ∃ x, x = w9.alloc (.cells #[.int .u8 211, .int .u8 26, .int .u8 141, .int .u8 52] 5) := ⟨_, rfl⟩
      obtain ⟨g10, hg10⟩ : ∃ g, g = w9.heap.size := ⟨_, rfl⟩
      have m10 : Mod (fun _ => False) w9 w10 := by rw [hw10]; exact (Mod.refl _ _).alloc _
      have x10 : w10.heap[g10]? = some (.cells (encB fourA) 5 (0,0)) := by
        rw [show encB fourA = #[.int .u8 211, .int .u8 26, .int .u8 141, .int .u8 52] by kernel_rfl, hw10]
        exact hp_new _ _ _ hg10
      have b10 : ByteAt w10 (.slice (some ⟨g10, 0, none⟩) 4 4) fourA := ByteAt.rowF x10
      replace hw10 := Lib.hid hw10
      replace hg10 := Lib.hid hg10
      replace b10 := Lib.hid b10
      clear x10
      have c10 := kv4.out.mod m10 (fun _ _ h => h)
      have d10 := kv5.out.mod m10 (fun _ _ h => h)
      replace c10 := Lib.hid c10
      replace d10 := Lib.hid d10
      go_upto_region 12 with (fail)
      refine wp_region_lit ?_
      refine wpList_reads (by kernel_rfl) (.int .i64 0) (by go_simp) ?_
      simp only [Act.put, List.setIfInBounds_toArray, List.set_cons_zero, List.set_cons_succ]
      refine wpList_reads (by kernel_rfl) (.bool true) (by go_simp) ?_
      simp only [Act.put, List.setIfInBounds_toArray, List.set_cons_zero, List.set_cons_succ]
      refine wpList_reads (by kernel_rfl) (.bool true) (by go_simp) ?_
      simp only [Act.put, List.setIfInBounds_toArray, List.set_cons_zero, List.set_cons_succ]
      refine wpList_reads (by kernel_rfl) (.int .i64 4) (by go_simp) ?_
      simp only [Act.put, List.setIfInBounds_toArray, List.set_cons_zero, List.set_cons_succ]
      refine wpList_reads (by kernel_rfl) (.bool true) (by go_simp) ?_
      simp only [Act.put, List.setIfInBounds_toArray, List.set_cons_zero, List.set_cons_succ]
      refine wpList_reads (by kernel_rfl) (.bool true) (by go_simp) ?_
      simp only [Act.put, List.setIfInBounds_toArray, List.set_cons_zero, List.set_cons_succ]
      refine wpList_reads (by kernel_rfl) (.bool true) (by go_simp) ?_
      simp only [Act.put, List.setIfInBounds_toArray, List.set_cons_zero, List.set_cons_succ]
      refine wpList_reads (by kernel_rfl) (.int .i64 1) (by go_simp) ?_
      simp only [Act.put, List.setIfInBounds_toArray, List.set_cons_zero, List.set_cons_succ]
      refine wpList_reads (by kernel_rfl) (.bool true) (by go_simp) ?_
      simp only [Act.put, List.setIfInBounds_toArray, List.set_cons_zero, List.set_cons_succ]
      refine wpList_reads (by kernel_rfl) (.bool true) (by go_simp) ?_
      simp only [Act.put, List.setIfInBounds_toArray, List.set_cons_zero, List.set_cons_succ]
      refine wpList_reads (by kernel_rfl) (.bool true) (by go_simp) ?_
      simp only [Act.put, List.setIfInBounds_toArray, List.set_cons_zero, List.set_cons_succ]
      refine wpList_reads (by kernel_rfl) (.int .i64 11) (by go_simp) ?_
      simp only [Act.put, List.setIfInBounds_toArray, List.set_cons_zero, List.set_cons_succ]
      refine wpList_reads (by kernel_rfl) (.bool true) (by go_simp) ?_
      simp only [Act.put, List.setIfInBounds_toArray, List.set_cons_zero, List.set_cons_succ]
      refine wpList_reads (by kernel_rfl) (.bool true) (by go_simp) ?_
      simp only [Act.put, List.setIfInBounds_toArray, List.set_cons_zero, List.set_cons_succ]
      refine wpList_reads (by kernel_rfl) (.bool true) (by go_simp) ?_
      simp only [Act.put, List.setIfInBounds_toArray, List.set_cons_zero, List.set_cons_succ]
      refine wpList_reads (by kernel_rfl) (.slice ar 130 cr) (by go_simp) ?_
      simp only [Act.put, List.setIfInBounds_toArray, List.set_cons_zero, List.set_cons_succ]
      refine wpList_reads (by kernel_rfl) (.int .i64 130) (by go_simp) ?_
      simp only [Act.put, List.setIfInBounds_toArray, List.set_cons_zero, List.set_cons_succ]
      refine wpList_reads (by kernel_rfl) (.bool true) (by go_simp) ?_
      simp only [Act.put, List.setIfInBounds_toArray, List.set_cons_zero, List.set_cons_succ]
      refine wpList_reads (by kernel_rfl) (.bool true) (by go_simp) ?_
      simp only [Act.put, List.setIfInBounds_toArray, List.set_cons_zero, List.set_cons_succ]
      refine wpList_reads (by kernel_rfl) (.bool true) (by go_simp) ?_
      simp only [Act.put, List.setIfInBounds_toArray, List.set_cons_zero, List.set_cons_succ]
      refine wpList_reads (by kernel_rfl) (.slice ar 130 cr) (by go_simp) ?_
      simp only [Act.put, List.setIfInBounds_toArray, List.set_cons_zero, List.set_cons_succ]
      refine wpList_reads (by kernel_rfl) (v4') ((by exact cut_op Try.underlying22 rfl rfl rfl (rc4 _))) ?_
      simp only [Act.put, List.setIfInBounds_toArray, List.set_cons_zero, List.set_cons_succ]
      refine wpList_yields (by kernel_rfl) (.slice (some ⟨g10, 0, none⟩) 4 4) w10 (by rw [hw10.out, hg10.out]; go_simp) ?_
      simp only [Act.put, List.setIfInBounds_toArray, List.set_cons_zero, List.set_cons_succ]
      refine wpList_enter (by kernel_rfl) 10 #[v4', .slice (some ⟨g10, 0, none⟩) 4 4] (by go_simp) (same_any _ _ fourA fourA w10 c10.out b10.out (by decide) (by decide)) ?_
      rintro e w11 ⟨m11, rfl⟩
      rw [show decide (fourA = fourA) = true by simp]
      have d11 := d10.out.mod m11 (fun _ _ h => h)
      replace d11 := Lib.hid d11
      obtain ⟨w12, hw12⟩ : ∃ x, x = w11.alloc (.cells #[.int .u8 26, .int .u8 225, .int .u8 11, .int .u8 89, .int .u8 79, .int .u8 9, .int .u8 226, .int .u8 106, .int .u8 126, .int .u8 144, .int .u8 46, .int .u8 203, .int .u8 208, .int .u8 96, .int .u8 6, .int .u8 145] 5) := ⟨_, rfl⟩
      obtain ⟨g12, hg12⟩ : ∃ g, g = w11.heap.size := ⟨_, rfl⟩
      have m12 : Mod (fun _ => False) w11 w12 := by rw [hw12]; exact (Mod.refl _ _).alloc _
      have x12 : w12.heap[g12]? = some (.cells (encB tagA) 5 (0,0)) := by
        rw [show encB tagA = #[.int .u8 26, .int .u8 225, .int .u8 11, .int .u8 89, .int .u8 79, .int .u8 9, .int .u8 226, .int .u8 106, .int .u8 126, .int .u8 144, .int .u8 46, .int .u8 203, .int .u8 208, .int .u8 96, .int .u8 6, .int .u8 145] by kernel_rfl, hw12]
        exact hp_new _ _ _ hg12
      have b12 : ByteAt w12 (.slice (some ⟨g12, 0, none⟩) 16 16) tagA := ByteAt.rowF x12
      replace hw12 := Lib.hid hw12
      replace hg12 := Lib.hid hg12
      replace b12 := Lib.hid b12
      clear x12
      have d12 := d11.out.mod m12 (fun _ _ h => h)
      replace d12 := Lib.hid d12
      refine ⟨_, rfl, ?_⟩
      simp only [Act.put, List.setIfInBounds_toArray, List.set_cons_zero, List.set_cons_succ]
      refine wpList_reads (by kernel_rfl) (.bool true) (by go_simp) ?_
      simp only [Act.put, List.setIfInBounds_toArray, List.set_cons_zero, List.set_cons_succ]
      refine wpList_reads (by kernel_rfl) (.bool true) (by go_simp) ?_
      simp only [Act.put, List.setIfInBounds_toArray, List.set_cons_zero, List.set_cons_succ]
      refine wpList_reads (by kernel_rfl) (.slice ar 130 cr) (by go_simp) ?_
      simp only [Act.put, List.setIfInBounds_toArray, List.set_cons_zero, List.set_cons_succ]
      refine wpList_reads (by kernel_rfl) (v5') ((by exact cut_op2 Try.underlying22 rfl rfl rfl (rc5 _))) ?_
      simp only [Act.put, List.setIfInBounds_toArray, List.set_cons_zero, List.set_cons_succ]
      refine wpList_yields (by kernel_rfl) (.slice (some ⟨g12, 0, none⟩) 16 16) w12 (by rw [hw12.out, hg12.out]; go_simp) ?_
      simp only [Act.put, List.setIfInBounds_toArray, List.set_cons_zero, List.set_cons_succ]
      refine wpList_enter (by kernel_rfl) 10 #[v5', .slice (some ⟨g12, 0, none⟩) 16 16] (by go_simp) (same_any _ _ tagA tagA w12 d12.out b12.out (by decide) (by decide)) ?_
      rintro e w13 ⟨m13, rfl⟩
      rw [show decide (tagA = tagA) = true by simp]
      have mf := m09.out.trans ((m10.trans m11).trans (m12.trans m13))
      replace mf := Lib.hid mf
      refine ⟨_, rfl, ?_⟩
      simp only [Act.put, List.setIfInBounds_toArray, List.set_cons_zero, List.set_cons_succ]
      refine wpList_reads (by kernel_rfl) (.bool true) (by go_simp) ?_
      simp only [Act.put, List.setIfInBounds_toArray, List.set_cons_zero, List.set_cons_succ]
      refine wpList_reads (by kernel_rfl) (.bool true) (by go_simp) ?_
      simp only [Act.put, List.setIfInBounds_toArray, List.set_cons_zero, List.set_cons_succ]
      go_wp2
      go_ret
      exact ⟨mf.out, rfl⟩
end Go.Proofs.Ytbiijcljpgannaa
