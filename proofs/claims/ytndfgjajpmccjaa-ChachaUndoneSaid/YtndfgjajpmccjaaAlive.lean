/-
  mailcoachlaw04.alive is true.
-/
import Derived.Test.YtndfgjajpmccjaaSame
namespace Go.Proofs.Ytndfgjajpmccjaa
open Go Go.RowKit
set_option linter.unusedSimpArgs false
def zk : List (BitVec 8) := List.replicate 32 0
def zn : List (BitVec 8) := List.replicate 12 0
def k31 : List (BitVec 8) := part (BitVec.ofNat 8) 32 32
def n9 : List (BitVec 8) := [0,0,0,9,0,0,0,0x4a,0,0,0,0]
theorem aliveA : (blockS zk zn 0).take 8 = [0x76, 0xb8, 0xe0, 0xad, 0xa0, 0xf1, 0x3d, 0x90] := by decide +kernel
theorem aliveA4 : (blockS zk zn 0).take 4 = [0x76, 0xb8, 0xe0, 0xad] := by decide +kernel
theorem aliveB : (blockS k31 n9 1).drop 60 = [0xa2, 0x50, 0x3c, 0x4e] := by decide +kernel
theorem aliveC : xorS zk zn 0 [0,0,0,0] = [0x76, 0xb8, 0xe0, 0xad] := by decide +kernel

theorem ByteAt.part {w : World} {g off n cap : Nat} {t : TypeId} {bs : List (BitVec 8)} (h : w.heap[g]? = some (.cells (encB bs) t (0,0))) (hn : off + n ≤ bs.length) (hc : n ≤ cap) : ByteAt w (.slice (some ⟨g, off, none⟩) n cap) ((bs.drop off).take n) := by
  have hl : ((bs.drop off).take n).length = n := by rw [List.length_take, List.length_drop]; omega
  refine .inr ⟨g, off, cap, by rw [hl], by omega, fun j hj => ?_⟩
  rw [hl] at hj
  rw [cell_of_row _ _ _ _ _ _ h, encB_get (by omega)]
  congr 4
  rw [List.getD_eq_getElem?_getD, List.getD_eq_getElem?_getD, List.getElem?_take, if_pos hj, List.getElem?_drop]
theorem same_true (va vb : Value) (a : List (BitVec 8)) (w : World) (ha : ByteAt w va a) (hb : ByteAt w vb a) (hl : a.length < 4611686018427387904) :
    Calls Try.prog 12 #[va, vb] w fun e w' => Mod (fun _ => False) w w' ∧ e = .returned (.bool true) := by
  refine (same_any va vb a a w ha hb hl hl).mono ?_
  rintro e w' ⟨h1, h2⟩
  exact ⟨h1, by rw [h2]; simp⟩
theorem made_bytes (n : Nat) : madeCells #[.int .u8 0] n = encB (List.replicate n 0) := by
  rw [← part_zero (fun _ => 0) n]
  congr 1
  unfold part
  apply List.ext_getElem
  · simp
  · intro i h1 h2
    simp

theorem xorC (w : World) (v : Value) (hv : ByteAt w v [0,0,0,0]) : Calls Try.prog 11 #[.agg (encB zk), .int .u32 0, .agg (encB zn), v] w fun e w' => Mod (fun _ => False) w w' ∧ ∃ g, w.heap.size ≤ g ∧ e = .returned (.tuple #[.slice (some ⟨g, 0, none⟩) 4 4, .int .i64 0]) ∧ w'.heap[g]? = some (.cells (encB [0x76, 0xb8, 0xe0, 0xad]) 5 (0,0)) := by
  refine (xor_any zk zn (by decide) (by decide) 0 v [0,0,0,0] w hv (by decide)).mono ?_
  rintro e w' ⟨m, ⟨h, _⟩ | ⟨_, h, _⟩ | ⟨_, _, g, hg, rfl, hr⟩⟩
  · exact absurd h (by decide)
  · exact absurd h (by decide)
  · rw [aliveC] at hr
    exact ⟨m, g, hg, rfl, hr⟩
theorem xorD (w : World) (v : Value) (hv : ByteAt w v (List.replicate 64 0)) : Calls Try.prog 11 #[.agg (encB zk), .int .u32 4294967295, .agg (encB zn), v] w fun e w' => Mod (fun _ => False) w w' ∧ ∃ g, e = .returned (.tuple #[.slice (some ⟨g, 0, none⟩) 64 64, .int .i64 0]) := by
  refine (xor_any zk zn (by decide) (by decide) 4294967295 v (List.replicate 64 0) w hv (by decide)).mono ?_
  rintro e w' ⟨m, ⟨h, _⟩ | ⟨_, h, _⟩ | ⟨_, _, g, hg, rfl, hr⟩⟩
  · exact absurd h (by decide)
  · exact absurd h (by decide)
  · exact ⟨m, g, rfl⟩
theorem xorE (w : World) (v : Value) (hv : ByteAt w v (List.replicate 65 0)) : Calls Try.prog 11 #[.agg (encB zk), .int .u32 4294967295, .agg (encB zn), v] w fun e w' => Mod (fun _ => False) w w' ∧ e = .returned (.tuple #[.slice none 0 0, .int .i64 3]) := by
  refine (xor_any zk zn (by decide) (by decide) 4294967295 v (List.replicate 65 0) w hv (by decide)).mono ?_
  rintro e w' ⟨m, ⟨_, rfl⟩ | ⟨h, _⟩ | ⟨h, _⟩⟩
  · exact ⟨m, rfl⟩
  · exact absurd h (by decide)
  · exact absurd h (by decide)

theorem alive_any (w : World) : Calls Try.prog 9 #[] w fun e w' => Mod (fun _ => False) w w' ∧ e = .returned (.bool true) := by
  have hA := aliveA
  have hA4 := aliveA4
  have hB := aliveB
  have hC := aliveC
  have lA : (blockS zk zn 0).length = 64 := by rw [blockS, outTo_length]
  have lB : (blockS k31 n9 1).length = 64 := by rw [blockS, outTo_length]
  have cA : ∀ w, Calls Try.prog 7 #[.agg (encB zk), .int .u32 0, .agg (encB zn)] w fun e w' => e = .returned (.agg (encB (blockS zk zn 0))) ∧ Mod (fun _ => False) w w' := fun w => block_any zk zn (by decide) (by decide) 0 w
  have cB : ∀ w, Calls Try.prog 7 #[.agg (encB k31), .int .u32 1, .agg (encB n9)] w fun e w' => e = .returned (.agg (encB (blockS k31 n9 1))) ∧ Mod (fun _ => False) w w' := fun w => block_any k31 n9 (by decide) (by decide) 1 w
  generalize blockS zk zn 0 = a at *
  generalize blockS k31 n9 1 = b at *
  replace hA := Lib.hid hA
  replace hA4 := Lib.hid hA4
  replace hB := Lib.hid hB
  replace hC := Lib.hid hC
  replace lA := Lib.hid lA
  replace lB := Lib.hid lB
  replace cA := Lib.hid cA
  replace cB := Lib.hid cB
  go_enter Try.func9, Try.ntmps9
  go_wp2_with (fail)
  refine (cA.out _).mono ?_
  rintro e w1 ⟨rfl, m1⟩
  have h27 : (Try.prog.info? 27).map (·.size) = some (encB a).size := by rw [encB_size, lA.out]; kernel_rfl
  have hz : (64 : Nat) = (encB a).size := by rw [encB_size, lA.out]
  replace h27 := Lib.hid h27
  replace hz := Lib.hid hz
  go_wp2_with (refine wpList_store_row rfl 27 _ _ rfl _ (encB a) rfl rfl _ _ (heap_alloc_new w1 _) h27.out hz.out (encB_one a) ?_)
  generalize eA : w1.heap.size = A
  go_loopw [3] (fun i wr => ∃ k : Nat, k ≤ 32 ∧ i = .int .i64 k ∧ Mod (fun _ => False) w wr ∧ w.heap.size ≤ A ∧ wr.heap[A]? = some (.cells (encB a) 27 (0,0)) ∧ wr.heap[A + 1]? = some (.cells (encB (part (BitVec.ofNat 8) 32 k)) 22 (0,0))) (fun i _ => 32 - (intOf i).toNat)
  case atStart =>
    subst eA
    have hA := m1.size
    refine ⟨0, Nat.zero_le _, rfl, ((m1.alloc _).setRow (fun h => by omega) _).alloc _, m1.size, ?_, ?_⟩
    · rw [hp_old _ _ _ (by simp), setRow_heap _ _ _ _ _ _ (heap_alloc_new w1 _)]
    · exact hp_new _ _ _ (by simp)
  case round =>
    clear h27 hz
    obtain ⟨k, hk, rfl, mr, sA, ar, kr⟩ := hrel
    by_cases hlt : k < 32
    · have hlt' : (k : Int) < 32 := by omega
      have h0 : (0 : Int) ≤ (k : Int) := by omega
      have hcv : ((k : Int) % 256) = ((BitVec.ofNat 8 k).toNat : Int) := by rw [BitVec.toNat_ofNat]; omega
      obtain ⟨v0, ck⟩ : ∃ v0, wr.cell? ⟨A + 1, k, none⟩ = some v0 := by
        rw [cell_of_row _ _ _ _ _ _ kr, Array.getElem?_eq_getElem (by rw [encB_size, part, List.length_map, List.length_range]; exact hlt)]
        exact ⟨_, rfl⟩
      have fk := frozen_of_row wr (A + 1) k _ _ kr
      have hset : ∀ v, v = ((BitVec.ofNat 8 k).toNat : Int) → Mod (fun x => x = A + 1) wr (wr.setCell ⟨A + 1, k, none⟩ (.int .u8 v)) ∧ (wr.setCell ⟨A + 1, k, none⟩ (.int .u8 v)).heap[A + 1]? = some (.cells (encB (part (BitVec.ofNat 8) 32 (k + 1))) 22 (0,0)) := by
        rintro v rfl
        refine ⟨Mod.one_setCell _ _ _ _, ?_⟩
        rw [setCell_row _ _ _ _ _ _ kr, part_set, setRow_heap _ _ _ _ _ _ kr]
      replace hset := Lib.hid hset
      go_wp2
      go_roundw
      case measure => simp [intOf]; omega
      case rel =>
        obtain ⟨h1, h2⟩ := hset.out (k : Int) (by omega)
        exact ⟨k + 1, by omega, by go_num, mr.trans' h1 (fun i hi h => by omega), sA, h1.heap ar (by omega), h2⟩
    · obtain rfl : k = 32 := by omega
      have h22 : (Try.prog.info? 22).map (·.size) = some (encB (part (BitVec.ofNat 8) 32 32)).size := by kernel_rfl
      go_wp2_with (refine wpList_load_row rfl 22 _ rfl _ rfl _ _ (0,0) _ kr Try.underlying22 rfl h22 ?_)
      refine (cB.out _).mono ?_
      rintro e w2 ⟨rfl, m2⟩
      have h27 : (Try.prog.info? 27).map (·.size) = some (encB b).size := by rw [encB_size, lB.out]; kernel_rfl
      have hz : (64 : Nat) = (encB b).size := by rw [encB_size, lB.out]
      replace h27 := Lib.hid h27
      replace hz := Lib.hid hz
      go_wp2_with (refine wpList_store_row rfl 27 _ _ rfl _ (encB b) rfl rfl _ _ (heap_alloc_new w2 _) h27.out hz.out (encB_one b) ?_)
      refine calls_world fun w3 hw3 => ?_
      generalize eB : w2.heap.size = B at *
      have mw2 := mr.trans m2
      have sB : w.heap.size ≤ B := by have := mw2.size; omega
      have aB : A + 1 < B := by have h1 := lt_of_heap kr; have h2 := m2.size; omega
      have ar2 := m2.heap ar (fun h => h)
      have m3 : Mod (fun _ => False) w w3 := by
        rw [hw3, ← eB]
        exact ((mw2.alloc _).setRow (fun h => by omega) _).alloc _
      have ar3 : w3.heap[A]? = some (.cells (encB a) 27 (0,0)) := by
        rw [hw3, hp_old _ _ _ (by simp; omega), setRow_other _ _ _ _ (by omega), hp_old _ _ _ (by omega)]
        exact ar2
      have br3 : w3.heap[B]? = some (.cells (encB b) 27 (0,0)) := by
        rw [hw3, hp_old _ _ _ (by simp; omega), ← eB, setRow_heap _ _ _ _ _ _ (heap_alloc_new w2 _)]
      have cr3 : w3.heap[B + 1]? = some (.cells (encB [0,0,0,0]) 5 (0,0)) := by
        rw [hw3]
        exact hp_new _ _ _ (by simp; omega)
      clear hw3 ar kr mr m2 mw2 ar2 h27 hz h22 hlt hk cA cB m1 eA
      refine (xorC w3 _ (ByteAt.row cr3)).mono ?_
      rintro e w4 ⟨m4, C, hC4, rfl, cr4⟩
      have ar4 := m4.heap ar3 (fun h => h)
      have br4 := m4.heap br3 (fun h => h)
      have m04 := m3.trans m4
      clear m3 m4 ar3 br3 cr3
      obtain ⟨L64, e64⟩ : ∃ l, l = List.replicate 64 (0 : BitVec 8) := ⟨_, rfl⟩
      obtain ⟨L65, e65⟩ : ∃ l, l = List.replicate 65 (0 : BitVec 8) := ⟨_, rfl⟩
      have hmk64 : ∀ w, (Instr.makeSlice 30 (.int .i64 64) (.int .i64 64)).run Try.prog w = .ok (.slice (some ⟨w.heap.size, 0, none⟩) 64 64) (w.alloc (.cells (encB L64) 5)) := fun w => by
        rw [e64, ← made_bytes]
        exact run_make_row' (P := Try.prog) 30 5 (.int .u8 0) 1 Try.underlying30 (by kernel_rfl) rfl .i64 .i64 64 (by omega) (by omega) w
      have hmk65 : ∀ w, (Instr.makeSlice 30 (.int .i64 65) (.int .i64 65)).run Try.prog w = .ok (.slice (some ⟨w.heap.size, 0, none⟩) 65 65) (w.alloc (.cells (encB L65) 5)) := fun w => by
        rw [e65, ← made_bytes]
        exact run_make_row' (P := Try.prog) 30 5 (.int .u8 0) 1 Try.underlying30 (by kernel_rfl) rfl .i64 .i64 65 (by omega) (by omega) w
      replace e64 := Lib.hid e64
      replace e65 := Lib.hid e65
      go_wp2_with (fail)
      refine (xorD _ _ (by
        have h := ByteAt.row (heap_alloc_new w4 (.cells (encB L64) 5))
        rw [e64.out] at h ⊢
        exact h)).mono ?_
      rintro e w5 ⟨m5, D, rfl⟩
      have m45 := ((Mod.refl (fun _ => False) w4).alloc _).trans m5
      have ar5 := m45.heap ar4 (fun h => h)
      have br5 := m45.heap br4 (fun h => h)
      have cr5 := m45.heap cr4 (fun h => h)
      have m05 := m04.trans m45
      clear m5 m45 ar4 br4 cr4 m04
      go_wp2_with (fail)
      refine (xorE _ _ (by
        have h := ByteAt.row (heap_alloc_new w5 (.cells (encB L65) 5))
        rw [e65.out] at h ⊢
        exact h)).mono ?_
      rintro e w6 ⟨m6, rfl⟩
      have m56 := ((Mod.refl (fun _ => False) w5).alloc _).trans m6
      have ar6 := m56.heap ar5 (fun h => h)
      have br6 := m56.heap br5 (fun h => h)
      have cr6 := m56.heap cr5 (fun h => h)
      have m06 := m05.trans m56
      clear m6 m56 ar5 br5 cr5 m05 hmk64 hmk65 e64 e65
      go_wp2_with (fail)
      have eA8 : (a.drop 0).take 8 = [0x76, 0xb8, 0xe0, 0xad, 0xa0, 0xf1, 0x3d, 0x90] := hA.out
      have eA4 : (a.drop 0).take 4 = [0x76, 0xb8, 0xe0, 0xad] := hA4.out
      have eB4 : (b.drop 60).take 4 = [0xa2, 0x50, 0x3c, 0x4e] := by rw [hB.out]; rfl
      have lA' := lA.out
      have lB' := lB.out
      replace eA8 := Lib.hid eA8
      replace eA4 := Lib.hid eA4
      replace eB4 := Lib.hid eB4
      refine calls_world fun w7 hw7 => ?_
      have m67 : Mod (fun _ => False) w6 w7 := by rw [hw7]; exact (Mod.refl _ _).alloc _
      have r7 : w7.heap[w6.heap.size]? = some (.cells (encB [0x76, 0xb8, 0xe0, 0xad, 0xa0, 0xf1, 0x3d, 0x90]) 5 (0,0)) := by rw [hw7]; exact heap_alloc_new _ _
      clear hw7
      refine (same_true _ _ _ _ (eA8.out ▸ ByteAt.part (off := 0) (n := 8) (cap := 64) (m67.heap ar6 (fun h => h)) (by omega) (by omega)) (ByteAt.row r7) (by decide)).mono ?_
      rintro e w8 ⟨m8, rfl⟩
      have m68 := m67.trans m8
      have ar8 := m68.heap ar6 (fun h => h)
      have br8 := m68.heap br6 (fun h => h)
      have cr8 := m68.heap cr6 (fun h => h)
      have m08 := m06.trans m68
      clear m67 r7 m8 m68 ar6 br6 cr6 m06
      go_wp2_with (fail)
      refine calls_world fun w9 hw9 => ?_
      have m89 : Mod (fun _ => False) w8 w9 := by rw [hw9]; exact (Mod.refl _ _).alloc _
      have r9 : w9.heap[w8.heap.size]? = some (.cells (encB [0xa2, 0x50, 0x3c, 0x4e]) 5 (0,0)) := by rw [hw9]; exact heap_alloc_new _ _
      clear hw9
      refine (same_true _ _ _ _ (eB4.out ▸ ByteAt.part (off := 60) (n := 4) (cap := 4) (m89.heap br8 (fun h => h)) (by omega) (by omega)) (ByteAt.row r9) (by decide)).mono ?_
      rintro e w10 ⟨m10, rfl⟩
      have m810 := m89.trans m10
      have ar10 := m810.heap ar8 (fun h => h)
      have cr10 := m810.heap cr8 (fun h => h)
      have m010 := m08.trans m810
      clear m89 r9 m10 m810 ar8 br8 cr8 m08
      go_wp2_with (fail)
      refine (same_true _ _ _ _ (ByteAt.row cr10) (eA4.out ▸ ByteAt.part (off := 0) (n := 4) (cap := 64) ar10 (by omega) (by omega)) (by decide)).mono ?_
      rintro e w11 ⟨m11, rfl⟩
      go_wp2
      go_ret
      exact ⟨m010.trans m11, rfl⟩
end Go.Proofs.Ytndfgjajpmccjaa
