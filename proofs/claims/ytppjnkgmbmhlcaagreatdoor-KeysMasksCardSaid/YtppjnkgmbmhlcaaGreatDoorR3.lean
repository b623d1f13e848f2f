/-
  mailcoachref02.Padded: the bytes of the blocks of bytes. Printed by gen/ref3.py.
-/
import Derived.Test.YtppjnkgmbmhlcaaGreatDoorR2
namespace Go.Proofs.YtppjnkgmbmhlcaaGreatDoor
set_option maxRecDepth 100000
open Go Go.RowKit Go.Lib
set_option linter.unusedSimpArgs false
set_option linter.unusedVariables false

theorem padS_eq (b : List (BitVec 8)) : padS b = (b ++ [128] ++ zb (endL (b.length % 64) - b.length % 64 - 9)) ++ be8 (b.length * 8) := by
  unfold padS tailB
  rw [rest_length, ← List.append_assoc, List.take_append_drop]
  simp only [zb, List.append_assoc]
theorem be8_take (m k : Nat) (h : k < 8) : (be8 m).take (k + 1) = (be8 m).take k ++ [BitVec.ofNat 8 (m / 256 ^ (7 - k))] := by
  unfold be8
  rw [← List.map_take, ← List.map_take, List.take_range, List.take_range, Nat.min_eq_left (by omega), Nat.min_eq_left (by omega), List.range_succ, List.map_append]
  rfl

set_option maxRecDepth 100000 in
set_option maxHeartbeats 4000000 in
theorem padded_any (vb : Value) (b : List (BitVec 8)) (w : World) (hb : ByteAt w vb b) (hbl : b.length ≤ 1048576) :
    Calls Tryz.prog 111 #[vb] w fun e w' => Mod (fun _ => False) w w' ∧ ∃ v, e = .returned v ∧ w'.ownsRow w.heap.size 5 1 v (padS b).length (bytesV (padS b)) := by
  obtain ⟨ab, cb, rfl, _⟩ := hb.slice
  obtain ⟨n, hn⟩ : ∃ n, n = b.length := ⟨_, rfl⟩
  have hpe := padS_eq b
  rw [← hn] at hb hbl hpe ⊢
  have bn0 : (0 : Int) ≤ (n : Int) := by omega
  have bn : (n : Int) ≤ 1048576 := by omega
  obtain ⟨Z, hZ⟩ : ∃ Z, Z = endL (n % 64) - n % 64 - 9 := ⟨_, rfl⟩
  rw [← hZ] at hpe
  have hZ1 : ∀ j, j < Z → (n + 1 + j) % 64 ≠ 56 := by
    intro j hj
    unfold endL at hZ
    split at hZ <;> omega
  have hZ2 : (n + 1 + Z) % 64 = 56 := by
    unfold endL at hZ
    split at hZ <;> omega
  have hZl : Z ≤ 120 := by
    unfold endL at hZ
    split at hZ <;> omega
  replace hn := Lib.hid hn
  replace hZ := Lib.hid hZ
  replace hZ1 := Lib.hid hZ1
  replace hZ2 := Lib.hid hZ2
  replace hb := Lib.hid hb
  replace hpe := Lib.hid hpe
  obtain ⟨wa, hwa⟩ : ∃ x, x = w := ⟨_, rfl⟩
  go_enter Tryz.func111, Tryz.ntmps111
  go_upto_region 2 with (fail)
  refine wp_region_lit ?_
  refine wpList_reads (by kernel_rfl) (.slice none 0 0) (by go_simp) ?_
  simp only [Act.put, List.setIfInBounds_toArray, List.set_cons_zero, List.set_cons_succ]
  refine wpList_reads (by kernel_rfl) (.slice ab n cb) (by go_simp) ?_
  simp only [Act.put, List.setIfInBounds_toArray, List.set_cons_zero, List.set_cons_succ]
  refine wpList_append_bytes rfl _ _ rfl w.heap.size 0 (.slice none 0 0) (.slice ab n cb) [] b rfl rfl (World.ownsRow_nil _ _ _ _) hb.out (by rw [← hn.out]; omega) (Nat.le_refl _) ?_
  intro v1 w1 own1 grow1
  have m1 : Mod (fun _ => False) w w1 := (Mod.refl _ _).grown grow1 (fun k hk _ => by cases hk)
  rw [Nat.zero_add, ← hn.out, List.nil_append] at own1
  clear grow1
  simp only [Act.put, List.setIfInBounds_toArray, List.set_cons_zero, List.set_cons_succ]
  refine wpList_reads (by kernel_rfl) (v1) (by go_simp) ?_
  simp only [Act.put, List.setIfInBounds_toArray, List.set_cons_zero, List.set_cons_succ]
  obtain ⟨wa2, hwa2⟩ : ∃ x, x = w1.alloc (.cells #[.int .u8 128] 5) := ⟨_, rfl⟩
  obtain ⟨ga2, hga2⟩ : ∃ g, g = w1.heap.size := ⟨_, rfl⟩
  have ma2 : Mod (fun _ => False) w1 wa2 := by rw [hwa2]; exact (Mod.refl _ _).alloc _
  have xa2 : wa2.heap[ga2]? = some (.cells (encB [128]) 5 (0,0)) := by rw [hwa2]; exact hp_new _ _ _ hga2
  have ba2 := ByteAt.row xa2
  have owna2 := ownsRow_kept own1 ma2 (fun _ _ h => h)
  have mm2 := m1.trans ma2
  replace hwa2 := Lib.hid hwa2
  replace hga2 := Lib.hid hga2
  clear xa2 ma2
  go_upto_region 3 with (fail)
  refine wp_region_lit ?_
  refine wpList_reads (by kernel_rfl) (v1) (by go_simp) ?_
  simp only [Act.put, List.setIfInBounds_toArray, List.set_cons_zero, List.set_cons_succ]
  refine wpList_yields (by kernel_rfl) (.slice (some ⟨ga2, 0, none⟩) 1 1) wa2 (by rw [hwa2.out, hga2.out]; go_simp) ?_
  simp only [Act.put, List.setIfInBounds_toArray, List.set_cons_zero, List.set_cons_succ]
  refine wpList_append_bytes rfl _ _ rfl w.heap.size (n) (v1) (.slice (some ⟨ga2, 0, none⟩) 1 1) (b) [128] rfl rfl owna2 ba2 (by simp; omega) mm2.size ?_
  intro v2 w2 own2 grow2
  have m2 : Mod (fun _ => False) w w2 := mm2.trans' ((Mod.refl _ _).grown (S := fun k => w.heap.size ≤ k) grow2 (fun k hk _ => (owna2.lt k hk).1)) (fun k hk h => by omega)
  rw [show (n) + ([128] : List (BitVec 8)).length = (n) + 1 from rfl] at own2
  clear owna2 grow2 mm2 ba2
  simp only [Act.put, List.setIfInBounds_toArray, List.set_cons_zero, List.set_cons_succ]
  refine wpList_reads (by kernel_rfl) (v2) (by go_simp) ?_
  simp only [Act.put, List.setIfInBounds_toArray, List.set_cons_zero, List.set_cons_succ]
  replace own2 := Lib.hid own2
  replace m2 := Lib.hid m2
  clear own1 m1
  go_wp2
  go_loopg [3] Z (fun gh lv wr => ∃ j, j + gh = Z ∧ Mod (fun _ => False) w wr ∧ wr.ownsRow w.heap.size 5 1 lv (n + 1 + j) (bytesV (b ++ [128] ++ zb j)))
  case atStart => exact ⟨0, by omega, m2.out, by rw [show zb 0 = [] from rfl, List.append_nil]; exact own2.out⟩
  case round =>
    obtain ⟨j, hjg, mr, own⟩ := hrel
    have hln : (b ++ [128] ++ zb j).length = n + 1 + j := by simp [zb, hn.out]; omega
    obtain ⟨ad, cp, hv, _⟩ := (byteAt_of_own own).slice
    rw [hln] at hv
    subst hv
    obtain ⟨q, hq⟩ : ∃ q, q = n + 1 + j := ⟨_, rfl⟩
    rw [← hq] at own hln ⊢
    have bq0 : (0 : Int) ≤ (q : Int) := by omega
    have bq : (q : Int) ≤ 1048800 := by omega
    obtain ⟨c, hc⟩ : ∃ c, c = q % 64 := ⟨_, rfl⟩
    have hc1 : Int.tmod (q : Int) 64 = (c : Int) := by rw [hc]; rfl
    have hc2 : (q : Int) % 64 = (c : Int) := by omega
    by_cases hlt : j < Z
    · have hcn : ¬ (c : Int) = 56 := by have := hZ1.out j hlt; omega
      have htn : b ++ [128] ++ zb (j + 1) = b ++ [128] ++ zb j ++ [0] := by rw [List.append_assoc (b ++ [128])]; congr 1; simp [zb, List.replicate_succ']
      replace hjg := Lib.hid hjg
      replace hlt := Lib.hid hlt
      replace hq := Lib.hid hq
      replace hc := Lib.hid hc
      replace hln := Lib.hid hln
      replace htn := Lib.hid htn
      obtain ⟨wa3, hwa3⟩ : ∃ x, x = wr.alloc (.cells #[.int .u8 0] 5) := ⟨_, rfl⟩
      obtain ⟨ga3, hga3⟩ : ∃ g, g = wr.heap.size := ⟨_, rfl⟩
      have ma3 : Mod (fun _ => False) wr wa3 := by rw [hwa3]; exact (Mod.refl _ _).alloc _
      have xa3 : wa3.heap[ga3]? = some (.cells (encB [0]) 5 (0,0)) := by rw [hwa3]; exact hp_new _ _ _ hga3
      have ba3 := ByteAt.row xa3
      have owna3 := ownsRow_kept own ma3 (fun _ _ h => h)
      have mm3 := mr.trans ma3
      replace hwa3 := Lib.hid hwa3
      replace hga3 := Lib.hid hga3
      clear xa3 ma3
      go_upto_region 5 with (fail)
      refine wp_region_lit ?_
      refine wpList_reads (by kernel_rfl) (.slice ad q cp) (by go_simp) ?_
      simp only [Act.put, List.setIfInBounds_toArray, List.set_cons_zero, List.set_cons_succ]
      refine wpList_yields (by kernel_rfl) (.slice (some ⟨ga3, 0, none⟩) 1 1) wa3 (by rw [hwa3.out, hga3.out]; go_simp) ?_
      simp only [Act.put, List.setIfInBounds_toArray, List.set_cons_zero, List.set_cons_succ]
      refine wpList_append_bytes rfl _ _ rfl w.heap.size (q) (.slice ad q cp) (.slice (some ⟨ga3, 0, none⟩) 1 1) (b ++ [128] ++ zb j) [0] rfl rfl owna3 ba3 (by simp; omega) mm3.size ?_
      intro v3 w3 own3 grow3
      have m3 : Mod (fun _ => False) w w3 := mm3.trans' ((Mod.refl _ _).grown (S := fun k => w.heap.size ≤ k) grow3 (fun k hk _ => (owna3.lt k hk).1)) (fun k hk h => by omega)
      rw [show (q) + ([0] : List (BitVec 8)).length = (q) + 1 from rfl] at own3
      clear owna3 grow3 mm3 ba3
      simp only [Act.put, List.setIfInBounds_toArray, List.set_cons_zero, List.set_cons_succ]
      refine wpList_reads (by kernel_rfl) (v3) (by go_simp) ?_
      simp only [Act.put, List.setIfInBounds_toArray, List.set_cons_zero, List.set_cons_succ]
      rw [← htn.out] at own3
      replace own3 := Lib.hid own3
      replace m3 := Lib.hid m3
      clear own mr
      go_wp2
      go_roundg (gk - 1)
      case measure => have := hjg.out; have := hlt.out; omega
      case rel => exact ⟨j + 1, by have := hjg.out; have := hlt.out; omega, m3.out, by rw [show n + 1 + (j + 1) = q + 1 by have := hq.out; omega]; exact own3.out⟩
    · have hjZ : j = Z := by omega
      have hcn : (c : Int) = 56 := by have := hZ2.out; omega
      obtain ⟨X, hX⟩ : ∃ X, X = b ++ [128] ++ zb Z := ⟨_, rfl⟩
      rw [hjZ, ← hX] at own hln
      rw [← hX] at hpe
      obtain ⟨wr', hwr'⟩ : ∃ x, x = wr := ⟨_, rfl⟩
      rw [← hwr'] at own mr ⊢
      obtain ⟨y, hy⟩ : ∃ y, y = n * 8 := ⟨_, rfl⟩
      have by0 : (0 : Int) ≤ (y : Int) := by omega
      have byl : (y : Int) ≤ 8388608 := by omega
      have hyl : y ≤ 8388608 := by omega
      have hy1 : (n : Int) * 8 = (y : Int) := by omega
      have hwy : IntKind.u64.wrap (n : Int) = (n : Int) := by rw [IntKind.wrap_u64]; omega
      have hwy2 : IntKind.u64.wrap (y : Int) = (y : Int) := by rw [IntKind.wrap_u64]; omega
      rw [← hy] at hpe
      obtain ⟨E, hE⟩ : ∃ E, E = be8 y := ⟨_, rfl⟩
      have hEl : E.length = 8 := by rw [hE]; rfl
      rw [← hE] at hpe
      have hPl : (padS b).length = q + 8 := by rw [hpe.out, List.length_append, hln, hEl]
      have hbt := fun k h => be8_take y k h
      rw [← hE] at hbt
      replace own := Lib.hid own
      replace mr := Lib.hid mr
      replace hX := Lib.hid hX
      replace hE := Lib.hid hE
      replace hEl := Lib.hid hEl
      replace hln := Lib.hid hln
      replace hq := Lib.hid hq
      replace hjg := Lib.hid hjg
      replace hjZ := Lib.hid hjZ
      replace hc := Lib.hid hc
      replace hy := Lib.hid hy
      replace hPl := Lib.hid hPl
      replace hbt := Lib.hid hbt
      replace hwr' := Lib.hid hwr'
      clear hlt
      go_wp2
      go_loopg [3, 5] 8 (fun gh lv iv wr => ∃ k : Nat, k + gh = 8 ∧ iv = .int .i64 (7 - (k : Int)) ∧ Mod (fun _ => False) w wr ∧ wr.ownsRow w.heap.size 5 1 lv (q + k) (bytesV (X ++ E.take k)))
      case atStart => exact ⟨0, by omega, rfl, mr.out, by rw [List.take_zero, List.append_nil]; exact own.out⟩
      case round =>
        obtain ⟨k, hkg, rfl, m5, own5⟩ := hrel
        obtain ⟨ad2, cp2, hv2, _⟩ := (byteAt_of_own own5).slice
        have hl2 : (X ++ E.take k).length = q + k := by rw [List.length_append, hln.out, List.length_take, hEl.out]; omega
        rw [hl2] at hv2
        subst hv2
        by_cases hk8 : k < 8
        · have hbk := hbt.out k hk8
          obtain ⟨q2, hq2⟩ : ∃ q2, q2 = q + k := ⟨_, rfl⟩
          rw [← hq2] at own5 hl2 ⊢
          have hq2l : q2 ≤ 1048900 := by omega
          obtain ⟨Y, hY⟩ : ∃ Y, Y = X ++ E.take k := ⟨_, rfl⟩
          rw [← hY] at own5
          replace hkg := Lib.hid hkg
          replace hq2 := Lib.hid hq2
          replace hl2 := Lib.hid hl2
          obtain rfl | rfl | rfl | rfl | rfl | rfl | rfl | rfl : k = 0 ∨ k = 1 ∨ k = 2 ∨ k = 3 ∨ k = 4 ∨ k = 5 ∨ k = 6 ∨ k = 7 := by omega
          · have hd : decide ((0 : Int) ≤ 7 - ((0 : Nat) : Int)) = true := by decide
            have hbyte : ((y / 72057594037927936 % 256 : Nat) : Int) = ((BitVec.ofNat 8 (y / 256 ^ (7 - 0))).toNat : Int) := by rw [BitVec.toNat_ofNat]
            obtain ⟨z, hz⟩ : ∃ z, z = BitVec.ofNat 8 (y / 256 ^ (7 - 0)) := ⟨_, rfl⟩
            rw [← hz] at hbyte hbk
            have hdiv : ((y / 72057594037927936 : Nat) : Int) = (y : Int) / 72057594037927936 := by omega
            have hbyte2 : IntKind.u8.wrap ((y : Int) / 72057594037927936) = (z.toNat : Int) := by rw [← hbyte, IntKind.wrap_u8]; omega
            replace hz := Lib.hid hz
            replace hbk := Lib.hid hbk
            replace hbyte := Lib.hid hbyte
            clear hdiv
            obtain ⟨wa6, hwa6⟩ : ∃ x, x = wr.alloc (.cells #[.int .u8 (z.toNat : Int)] 5) := ⟨_, rfl⟩
            obtain ⟨ga6, hga6⟩ : ∃ g, g = wr.heap.size := ⟨_, rfl⟩
            have ma6 : Mod (fun _ => False) wr wa6 := by rw [hwa6]; exact (Mod.refl _ _).alloc _
            have xa6 : wa6.heap[ga6]? = some (.cells (encB [z]) 5 (0,0)) := by rw [hwa6]; exact hp_new _ _ _ hga6
            have ba6 := ByteAt.row xa6
            have owna6 := ownsRow_kept own5 ma6 (fun _ _ h => h)
            have mm6 := m5.trans ma6
            replace hwa6 := Lib.hid hwa6
            replace hga6 := Lib.hid hga6
            clear xa6 ma6
            go_upto_region 10 with (fail)
            refine wp_region_lit ?_
            refine wpList_reads (by kernel_rfl) (.slice ad2 q2 cp2) (by go_simp) ?_
            simp only [Act.put, List.setIfInBounds_toArray, List.set_cons_zero, List.set_cons_succ]
            refine wpList_reads (by kernel_rfl) (.int .u64 (y : Int)) (by go_simp) ?_
            simp only [Act.put, List.setIfInBounds_toArray, List.set_cons_zero, List.set_cons_succ]
            refine wpList_reads (by kernel_rfl) (.int .i64 7) (by go_simp) ?_
            simp only [Act.put, List.setIfInBounds_toArray, List.set_cons_zero, List.set_cons_succ]
            refine wpList_reads (by kernel_rfl) (.int .i64 56) (by go_simp <;> rfl) ?_
            simp only [Act.put, List.setIfInBounds_toArray, List.set_cons_zero, List.set_cons_succ]
            refine wpList_reads (by kernel_rfl) (.int .u64 ((y : Int) / 72057594037927936)) (by go_simp) ?_
            simp only [Act.put, List.setIfInBounds_toArray, List.set_cons_zero, List.set_cons_succ]
            refine wpList_reads (by kernel_rfl) (.int .u8 (z.toNat : Int)) (by rw [← hbyte2]; go_simp) ?_
            simp only [Act.put, List.setIfInBounds_toArray, List.set_cons_zero, List.set_cons_succ]
            refine wpList_yields (by kernel_rfl) (.slice (some ⟨ga6, 0, none⟩) 1 1) wa6 (by rw [hwa6.out, hga6.out]; go_simp) ?_
            simp only [Act.put, List.setIfInBounds_toArray, List.set_cons_zero, List.set_cons_succ]
            refine wpList_append_bytes rfl _ _ rfl w.heap.size (q2) (.slice ad2 q2 cp2) (.slice (some ⟨ga6, 0, none⟩) 1 1) (Y) [z] rfl rfl owna6 ba6 (by simp; omega) mm6.size ?_
            intro v6 w6 own6 grow6
            have m6 : Mod (fun _ => False) w w6 := mm6.trans' ((Mod.refl _ _).grown (S := fun k => w.heap.size ≤ k) grow6 (fun k hk _ => (owna6.lt k hk).1)) (fun k hk h => by omega)
            rw [show (q2) + ([z] : List (BitVec 8)).length = (q2) + 1 from rfl] at own6
            clear owna6 grow6 mm6 ba6
            simp only [Act.put, List.setIfInBounds_toArray, List.set_cons_zero, List.set_cons_succ]
            refine wpList_reads (by kernel_rfl) (v6) (by go_simp) ?_
            simp only [Act.put, List.setIfInBounds_toArray, List.set_cons_zero, List.set_cons_succ]
            rw [hY, List.append_assoc, ← hbk.out] at own6
            replace own6 := Lib.hid own6
            replace m6 := Lib.hid m6
            replace hY := Lib.hid hY
            clear own5 m5 hbyte2
            go_wp2
            go_roundg (gk - 1)
            case measure => have := hkg.out; omega
            case rel => exact ⟨1, by have := hkg.out; omega, by go_num, m6.out, by rw [show q + 1 = q2 + 1 by have := hq2.out; omega]; exact own6.out⟩
          · have hd : decide ((0 : Int) ≤ 7 - ((1 : Nat) : Int)) = true := by decide
            have hbyte : ((y / 281474976710656 % 256 : Nat) : Int) = ((BitVec.ofNat 8 (y / 256 ^ (7 - 1))).toNat : Int) := by rw [BitVec.toNat_ofNat]
            obtain ⟨z, hz⟩ : ∃ z, z = BitVec.ofNat 8 (y / 256 ^ (7 - 1)) := ⟨_, rfl⟩
            rw [← hz] at hbyte hbk
            have hdiv : ((y / 281474976710656 : Nat) : Int) = (y : Int) / 281474976710656 := by omega
            have hbyte2 : IntKind.u8.wrap ((y : Int) / 281474976710656) = (z.toNat : Int) := by rw [← hbyte, IntKind.wrap_u8]; omega
            replace hz := Lib.hid hz
            replace hbk := Lib.hid hbk
            replace hbyte := Lib.hid hbyte
            clear hdiv
            obtain ⟨wa6, hwa6⟩ : ∃ x, x = wr.alloc (.cells #[.int .u8 (z.toNat : Int)] 5) := ⟨_, rfl⟩
            obtain ⟨ga6, hga6⟩ : ∃ g, g = wr.heap.size := ⟨_, rfl⟩
            have ma6 : Mod (fun _ => False) wr wa6 := by rw [hwa6]; exact (Mod.refl _ _).alloc _
            have xa6 : wa6.heap[ga6]? = some (.cells (encB [z]) 5 (0,0)) := by rw [hwa6]; exact hp_new _ _ _ hga6
            have ba6 := ByteAt.row xa6
            have owna6 := ownsRow_kept own5 ma6 (fun _ _ h => h)
            have mm6 := m5.trans ma6
            replace hwa6 := Lib.hid hwa6
            replace hga6 := Lib.hid hga6
            clear xa6 ma6
            go_upto_region 10 with (fail)
            refine wp_region_lit ?_
            refine wpList_reads (by kernel_rfl) (.slice ad2 q2 cp2) (by go_simp) ?_
            simp only [Act.put, List.setIfInBounds_toArray, List.set_cons_zero, List.set_cons_succ]
            refine wpList_reads (by kernel_rfl) (.int .u64 (y : Int)) (by go_simp) ?_
            simp only [Act.put, List.setIfInBounds_toArray, List.set_cons_zero, List.set_cons_succ]
            refine wpList_reads (by kernel_rfl) (.int .i64 6) (by go_simp) ?_
            simp only [Act.put, List.setIfInBounds_toArray, List.set_cons_zero, List.set_cons_succ]
            refine wpList_reads (by kernel_rfl) (.int .i64 48) (by go_simp <;> rfl) ?_
            simp only [Act.put, List.setIfInBounds_toArray, List.set_cons_zero, List.set_cons_succ]
            refine wpList_reads (by kernel_rfl) (.int .u64 ((y : Int) / 281474976710656)) (by go_simp) ?_
            simp only [Act.put, List.setIfInBounds_toArray, List.set_cons_zero, List.set_cons_succ]
            refine wpList_reads (by kernel_rfl) (.int .u8 (z.toNat : Int)) (by rw [← hbyte2]; go_simp) ?_
            simp only [Act.put, List.setIfInBounds_toArray, List.set_cons_zero, List.set_cons_succ]
            refine wpList_yields (by kernel_rfl) (.slice (some ⟨ga6, 0, none⟩) 1 1) wa6 (by rw [hwa6.out, hga6.out]; go_simp) ?_
            simp only [Act.put, List.setIfInBounds_toArray, List.set_cons_zero, List.set_cons_succ]
            refine wpList_append_bytes rfl _ _ rfl w.heap.size (q2) (.slice ad2 q2 cp2) (.slice (some ⟨ga6, 0, none⟩) 1 1) (Y) [z] rfl rfl owna6 ba6 (by simp; omega) mm6.size ?_
            intro v6 w6 own6 grow6
            have m6 : Mod (fun _ => False) w w6 := mm6.trans' ((Mod.refl _ _).grown (S := fun k => w.heap.size ≤ k) grow6 (fun k hk _ => (owna6.lt k hk).1)) (fun k hk h => by omega)
            rw [show (q2) + ([z] : List (BitVec 8)).length = (q2) + 1 from rfl] at own6
            clear owna6 grow6 mm6 ba6
            simp only [Act.put, List.setIfInBounds_toArray, List.set_cons_zero, List.set_cons_succ]
            refine wpList_reads (by kernel_rfl) (v6) (by go_simp) ?_
            simp only [Act.put, List.setIfInBounds_toArray, List.set_cons_zero, List.set_cons_succ]
            rw [hY, List.append_assoc, ← hbk.out] at own6
            replace own6 := Lib.hid own6
            replace m6 := Lib.hid m6
            replace hY := Lib.hid hY
            clear own5 m5 hbyte2
            go_wp2
            go_roundg (gk - 1)
            case measure => have := hkg.out; omega
            case rel => exact ⟨2, by have := hkg.out; omega, by go_num, m6.out, by rw [show q + 2 = q2 + 1 by have := hq2.out; omega]; exact own6.out⟩
          · have hd : decide ((0 : Int) ≤ 7 - ((2 : Nat) : Int)) = true := by decide
            have hbyte : ((y / 1099511627776 % 256 : Nat) : Int) = ((BitVec.ofNat 8 (y / 256 ^ (7 - 2))).toNat : Int) := by rw [BitVec.toNat_ofNat]
            obtain ⟨z, hz⟩ : ∃ z, z = BitVec.ofNat 8 (y / 256 ^ (7 - 2)) := ⟨_, rfl⟩
            rw [← hz] at hbyte hbk
            have hdiv : ((y / 1099511627776 : Nat) : Int) = (y : Int) / 1099511627776 := by omega
            have hbyte2 : IntKind.u8.wrap ((y : Int) / 1099511627776) = (z.toNat : Int) := by rw [← hbyte, IntKind.wrap_u8]; omega
            replace hz := Lib.hid hz
            replace hbk := Lib.hid hbk
            replace hbyte := Lib.hid hbyte
            clear hdiv
            obtain ⟨wa6, hwa6⟩ : ∃ x, x = wr.alloc (.cells #[.int .u8 (z.toNat : Int)] 5) := ⟨_, rfl⟩
            obtain ⟨ga6, hga6⟩ : ∃ g, g = wr.heap.size := ⟨_, rfl⟩
            have ma6 : Mod (fun _ => False) wr wa6 := by rw [hwa6]; exact (Mod.refl _ _).alloc _
            have xa6 : wa6.heap[ga6]? = some (.cells (encB [z]) 5 (0,0)) := by rw [hwa6]; exact hp_new _ _ _ hga6
            have ba6 := ByteAt.row xa6
            have owna6 := ownsRow_kept own5 ma6 (fun _ _ h => h)
            have mm6 := m5.trans ma6
            replace hwa6 := Lib.hid hwa6
            replace hga6 := Lib.hid hga6
            clear xa6 ma6
            go_upto_region 10 with (fail)
            refine wp_region_lit ?_
            refine wpList_reads (by kernel_rfl) (.slice ad2 q2 cp2) (by go_simp) ?_
            simp only [Act.put, List.setIfInBounds_toArray, List.set_cons_zero, List.set_cons_succ]
            refine wpList_reads (by kernel_rfl) (.int .u64 (y : Int)) (by go_simp) ?_
            simp only [Act.put, List.setIfInBounds_toArray, List.set_cons_zero, List.set_cons_succ]
            refine wpList_reads (by kernel_rfl) (.int .i64 5) (by go_simp) ?_
            simp only [Act.put, List.setIfInBounds_toArray, List.set_cons_zero, List.set_cons_succ]
            refine wpList_reads (by kernel_rfl) (.int .i64 40) (by go_simp <;> rfl) ?_
            simp only [Act.put, List.setIfInBounds_toArray, List.set_cons_zero, List.set_cons_succ]
            refine wpList_reads (by kernel_rfl) (.int .u64 ((y : Int) / 1099511627776)) (by go_simp) ?_
            simp only [Act.put, List.setIfInBounds_toArray, List.set_cons_zero, List.set_cons_succ]
            refine wpList_reads (by kernel_rfl) (.int .u8 (z.toNat : Int)) (by rw [← hbyte2]; go_simp) ?_
            simp only [Act.put, List.setIfInBounds_toArray, List.set_cons_zero, List.set_cons_succ]
            refine wpList_yields (by kernel_rfl) (.slice (some ⟨ga6, 0, none⟩) 1 1) wa6 (by rw [hwa6.out, hga6.out]; go_simp) ?_
            simp only [Act.put, List.setIfInBounds_toArray, List.set_cons_zero, List.set_cons_succ]
            refine wpList_append_bytes rfl _ _ rfl w.heap.size (q2) (.slice ad2 q2 cp2) (.slice (some ⟨ga6, 0, none⟩) 1 1) (Y) [z] rfl rfl owna6 ba6 (by simp; omega) mm6.size ?_
            intro v6 w6 own6 grow6
            have m6 : Mod (fun _ => False) w w6 := mm6.trans' ((Mod.refl _ _).grown (S := fun k => w.heap.size ≤ k) grow6 (fun k hk _ => (owna6.lt k hk).1)) (fun k hk h => by omega)
            rw [show (q2) + ([z] : List (BitVec 8)).length = (q2) + 1 from rfl] at own6
            clear owna6 grow6 mm6 ba6
            simp only [Act.put, List.setIfInBounds_toArray, List.set_cons_zero, List.set_cons_succ]
            refine wpList_reads (by kernel_rfl) (v6) (by go_simp) ?_
            simp only [Act.put, List.setIfInBounds_toArray, List.set_cons_zero, List.set_cons_succ]
            rw [hY, List.append_assoc, ← hbk.out] at own6
            replace own6 := Lib.hid own6
            replace m6 := Lib.hid m6
            replace hY := Lib.hid hY
            clear own5 m5 hbyte2
            go_wp2
            go_roundg (gk - 1)
            case measure => have := hkg.out; omega
            case rel => exact ⟨3, by have := hkg.out; omega, by go_num, m6.out, by rw [show q + 3 = q2 + 1 by have := hq2.out; omega]; exact own6.out⟩
          · have hd : decide ((0 : Int) ≤ 7 - ((3 : Nat) : Int)) = true := by decide
            have hbyte : ((y / 4294967296 % 256 : Nat) : Int) = ((BitVec.ofNat 8 (y / 256 ^ (7 - 3))).toNat : Int) := by rw [BitVec.toNat_ofNat]
            obtain ⟨z, hz⟩ : ∃ z, z = BitVec.ofNat 8 (y / 256 ^ (7 - 3)) := ⟨_, rfl⟩
            rw [← hz] at hbyte hbk
            have hdiv : ((y / 4294967296 : Nat) : Int) = (y : Int) / 4294967296 := by omega
            have hbyte2 : IntKind.u8.wrap ((y : Int) / 4294967296) = (z.toNat : Int) := by rw [← hbyte, IntKind.wrap_u8]; omega
            replace hz := Lib.hid hz
            replace hbk := Lib.hid hbk
            replace hbyte := Lib.hid hbyte
            clear hdiv
            obtain ⟨wa6, hwa6⟩ : ∃ x, x = wr.alloc (.cells #[.int .u8 (z.toNat : Int)] 5) := ⟨_, rfl⟩
            obtain ⟨ga6, hga6⟩ : ∃ g, g = wr.heap.size := ⟨_, rfl⟩
            have ma6 : Mod (fun _ => False) wr wa6 := by rw [hwa6]; exact (Mod.refl _ _).alloc _
            have xa6 : wa6.heap[ga6]? = some (.cells (encB [z]) 5 (0,0)) := by rw [hwa6]; exact hp_new _ _ _ hga6
            have ba6 := ByteAt.row xa6
            have owna6 := ownsRow_kept own5 ma6 (fun _ _ h => h)
            have mm6 := m5.trans ma6
            replace hwa6 := Lib.hid hwa6
            replace hga6 := Lib.hid hga6
            clear xa6 ma6
            go_upto_region 10 with (fail)
            refine wp_region_lit ?_
            refine wpList_reads (by kernel_rfl) (.slice ad2 q2 cp2) (by go_simp) ?_
            simp only [Act.put, List.setIfInBounds_toArray, List.set_cons_zero, List.set_cons_succ]
            refine wpList_reads (by kernel_rfl) (.int .u64 (y : Int)) (by go_simp) ?_
            simp only [Act.put, List.setIfInBounds_toArray, List.set_cons_zero, List.set_cons_succ]
            refine wpList_reads (by kernel_rfl) (.int .i64 4) (by go_simp) ?_
            simp only [Act.put, List.setIfInBounds_toArray, List.set_cons_zero, List.set_cons_succ]
            refine wpList_reads (by kernel_rfl) (.int .i64 32) (by go_simp <;> rfl) ?_
            simp only [Act.put, List.setIfInBounds_toArray, List.set_cons_zero, List.set_cons_succ]
            refine wpList_reads (by kernel_rfl) (.int .u64 ((y : Int) / 4294967296)) (by go_simp) ?_
            simp only [Act.put, List.setIfInBounds_toArray, List.set_cons_zero, List.set_cons_succ]
            refine wpList_reads (by kernel_rfl) (.int .u8 (z.toNat : Int)) (by rw [← hbyte2]; go_simp) ?_
            simp only [Act.put, List.setIfInBounds_toArray, List.set_cons_zero, List.set_cons_succ]
            refine wpList_yields (by kernel_rfl) (.slice (some ⟨ga6, 0, none⟩) 1 1) wa6 (by rw [hwa6.out, hga6.out]; go_simp) ?_
            simp only [Act.put, List.setIfInBounds_toArray, List.set_cons_zero, List.set_cons_succ]
            refine wpList_append_bytes rfl _ _ rfl w.heap.size (q2) (.slice ad2 q2 cp2) (.slice (some ⟨ga6, 0, none⟩) 1 1) (Y) [z] rfl rfl owna6 ba6 (by simp; omega) mm6.size ?_
            intro v6 w6 own6 grow6
            have m6 : Mod (fun _ => False) w w6 := mm6.trans' ((Mod.refl _ _).grown (S := fun k => w.heap.size ≤ k) grow6 (fun k hk _ => (owna6.lt k hk).1)) (fun k hk h => by omega)
            rw [show (q2) + ([z] : List (BitVec 8)).length = (q2) + 1 from rfl] at own6
            clear owna6 grow6 mm6 ba6
            simp only [Act.put, List.setIfInBounds_toArray, List.set_cons_zero, List.set_cons_succ]
            refine wpList_reads (by kernel_rfl) (v6) (by go_simp) ?_
            simp only [Act.put, List.setIfInBounds_toArray, List.set_cons_zero, List.set_cons_succ]
            rw [hY, List.append_assoc, ← hbk.out] at own6
            replace own6 := Lib.hid own6
            replace m6 := Lib.hid m6
            replace hY := Lib.hid hY
            clear own5 m5 hbyte2
            go_wp2
            go_roundg (gk - 1)
            case measure => have := hkg.out; omega
            case rel => exact ⟨4, by have := hkg.out; omega, by go_num, m6.out, by rw [show q + 4 = q2 + 1 by have := hq2.out; omega]; exact own6.out⟩
          · have hd : decide ((0 : Int) ≤ 7 - ((4 : Nat) : Int)) = true := by decide
            have hbyte : ((y / 16777216 % 256 : Nat) : Int) = ((BitVec.ofNat 8 (y / 256 ^ (7 - 4))).toNat : Int) := by rw [BitVec.toNat_ofNat]
            obtain ⟨z, hz⟩ : ∃ z, z = BitVec.ofNat 8 (y / 256 ^ (7 - 4)) := ⟨_, rfl⟩
            rw [← hz] at hbyte hbk
            have hdiv : ((y / 16777216 : Nat) : Int) = (y : Int) / 16777216 := by omega
            have hbyte2 : IntKind.u8.wrap ((y : Int) / 16777216) = (z.toNat : Int) := by rw [← hbyte, IntKind.wrap_u8]; omega
            replace hz := Lib.hid hz
            replace hbk := Lib.hid hbk
            replace hbyte := Lib.hid hbyte
            clear hdiv
            obtain ⟨wa6, hwa6⟩ : ∃ x, x = wr.alloc (.cells #[.int .u8 (z.toNat : Int)] 5) := ⟨_, rfl⟩
            obtain ⟨ga6, hga6⟩ : ∃ g, g = wr.heap.size := ⟨_, rfl⟩
            have ma6 : Mod (fun _ => False) wr wa6 := by rw [hwa6]; exact (Mod.refl _ _).alloc _
            have xa6 : wa6.heap[ga6]? = some (.cells (encB [z]) 5 (0,0)) := by rw [hwa6]; exact hp_new _ _ _ hga6
            have ba6 := ByteAt.row xa6
            have owna6 := ownsRow_kept own5 ma6 (fun _ _ h => h)
            have mm6 := m5.trans ma6
            replace hwa6 := Lib.hid hwa6
            replace hga6 := Lib.hid hga6
            clear xa6 ma6
            go_upto_region 10 with (fail)
            refine wp_region_lit ?_
            refine wpList_reads (by kernel_rfl) (.slice ad2 q2 cp2) (by go_simp) ?_
            simp only [Act.put, List.setIfInBounds_toArray, List.set_cons_zero, List.set_cons_succ]
            refine wpList_reads (by kernel_rfl) (.int .u64 (y : Int)) (by go_simp) ?_
            simp only [Act.put, List.setIfInBounds_toArray, List.set_cons_zero, List.set_cons_succ]
            refine wpList_reads (by kernel_rfl) (.int .i64 3) (by go_simp) ?_
            simp only [Act.put, List.setIfInBounds_toArray, List.set_cons_zero, List.set_cons_succ]
            refine wpList_reads (by kernel_rfl) (.int .i64 24) (by go_simp <;> rfl) ?_
            simp only [Act.put, List.setIfInBounds_toArray, List.set_cons_zero, List.set_cons_succ]
            refine wpList_reads (by kernel_rfl) (.int .u64 ((y : Int) / 16777216)) (by go_simp) ?_
            simp only [Act.put, List.setIfInBounds_toArray, List.set_cons_zero, List.set_cons_succ]
            refine wpList_reads (by kernel_rfl) (.int .u8 (z.toNat : Int)) (by rw [← hbyte2]; go_simp) ?_
            simp only [Act.put, List.setIfInBounds_toArray, List.set_cons_zero, List.set_cons_succ]
            refine wpList_yields (by kernel_rfl) (.slice (some ⟨ga6, 0, none⟩) 1 1) wa6 (by rw [hwa6.out, hga6.out]; go_simp) ?_
            simp only [Act.put, List.setIfInBounds_toArray, List.set_cons_zero, List.set_cons_succ]
            refine wpList_append_bytes rfl _ _ rfl w.heap.size (q2) (.slice ad2 q2 cp2) (.slice (some ⟨ga6, 0, none⟩) 1 1) (Y) [z] rfl rfl owna6 ba6 (by simp; omega) mm6.size ?_
            intro v6 w6 own6 grow6
            have m6 : Mod (fun _ => False) w w6 := mm6.trans' ((Mod.refl _ _).grown (S := fun k => w.heap.size ≤ k) grow6 (fun k hk _ => (owna6.lt k hk).1)) (fun k hk h => by omega)
            rw [show (q2) + ([z] : List (BitVec 8)).length = (q2) + 1 from rfl] at own6
            clear owna6 grow6 mm6 ba6
            simp only [Act.put, List.setIfInBounds_toArray, List.set_cons_zero, List.set_cons_succ]
            refine wpList_reads (by kernel_rfl) (v6) (by go_simp) ?_
            simp only [Act.put, List.setIfInBounds_toArray, List.set_cons_zero, List.set_cons_succ]
            rw [hY, List.append_assoc, ← hbk.out] at own6
            replace own6 := Lib.hid own6
            replace m6 := Lib.hid m6
            replace hY := Lib.hid hY
            clear own5 m5 hbyte2
            go_wp2
            go_roundg (gk - 1)
            case measure => have := hkg.out; omega
            case rel => exact ⟨5, by have := hkg.out; omega, by go_num, m6.out, by rw [show q + 5 = q2 + 1 by have := hq2.out; omega]; exact own6.out⟩
          · have hd : decide ((0 : Int) ≤ 7 - ((5 : Nat) : Int)) = true := by decide
            have hbyte : ((y / 65536 % 256 : Nat) : Int) = ((BitVec.ofNat 8 (y / 256 ^ (7 - 5))).toNat : Int) := by rw [BitVec.toNat_ofNat]
            obtain ⟨z, hz⟩ : ∃ z, z = BitVec.ofNat 8 (y / 256 ^ (7 - 5)) := ⟨_, rfl⟩
            rw [← hz] at hbyte hbk
            have hdiv : ((y / 65536 : Nat) : Int) = (y : Int) / 65536 := by omega
            have hbyte2 : IntKind.u8.wrap ((y : Int) / 65536) = (z.toNat : Int) := by rw [← hbyte, IntKind.wrap_u8]; omega
            replace hz := Lib.hid hz
            replace hbk := Lib.hid hbk
            replace hbyte := Lib.hid hbyte
            clear hdiv
            obtain ⟨wa6, hwa6⟩ : ∃ x, x = wr.alloc (.cells #[.int .u8 (z.toNat : Int)] 5) := ⟨_, rfl⟩
            obtain ⟨ga6, hga6⟩ : ∃ g, g = wr.heap.size := ⟨_, rfl⟩
            have ma6 : Mod (fun _ => False) wr wa6 := by rw [hwa6]; exact (Mod.refl _ _).alloc _
            have xa6 : wa6.heap[ga6]? = some (.cells (encB [z]) 5 (0,0)) := by rw [hwa6]; exact hp_new _ _ _ hga6
            have ba6 := ByteAt.row xa6
            have owna6 := ownsRow_kept own5 ma6 (fun _ _ h => h)
            have mm6 := m5.trans ma6
            replace hwa6 := Lib.hid hwa6
            replace hga6 := Lib.hid hga6
            clear xa6 ma6
            go_upto_region 10 with (fail)
            refine wp_region_lit ?_
            refine wpList_reads (by kernel_rfl) (.slice ad2 q2 cp2) (by go_simp) ?_
            simp only [Act.put, List.setIfInBounds_toArray, List.set_cons_zero, List.set_cons_succ]
            refine wpList_reads (by kernel_rfl) (.int .u64 (y : Int)) (by go_simp) ?_
            simp only [Act.put, List.setIfInBounds_toArray, List.set_cons_zero, List.set_cons_succ]
            refine wpList_reads (by kernel_rfl) (.int .i64 2) (by go_simp) ?_
            simp only [Act.put, List.setIfInBounds_toArray, List.set_cons_zero, List.set_cons_succ]
            refine wpList_reads (by kernel_rfl) (.int .i64 16) (by go_simp <;> rfl) ?_
            simp only [Act.put, List.setIfInBounds_toArray, List.set_cons_zero, List.set_cons_succ]
            refine wpList_reads (by kernel_rfl) (.int .u64 ((y : Int) / 65536)) (by go_simp) ?_
            simp only [Act.put, List.setIfInBounds_toArray, List.set_cons_zero, List.set_cons_succ]
            refine wpList_reads (by kernel_rfl) (.int .u8 (z.toNat : Int)) (by rw [← hbyte2]; go_simp) ?_
            simp only [Act.put, List.setIfInBounds_toArray, List.set_cons_zero, List.set_cons_succ]
            refine wpList_yields (by kernel_rfl) (.slice (some ⟨ga6, 0, none⟩) 1 1) wa6 (by rw [hwa6.out, hga6.out]; go_simp) ?_
            simp only [Act.put, List.setIfInBounds_toArray, List.set_cons_zero, List.set_cons_succ]
            refine wpList_append_bytes rfl _ _ rfl w.heap.size (q2) (.slice ad2 q2 cp2) (.slice (some ⟨ga6, 0, none⟩) 1 1) (Y) [z] rfl rfl owna6 ba6 (by simp; omega) mm6.size ?_
            intro v6 w6 own6 grow6
            have m6 : Mod (fun _ => False) w w6 := mm6.trans' ((Mod.refl _ _).grown (S := fun k => w.heap.size ≤ k) grow6 (fun k hk _ => (owna6.lt k hk).1)) (fun k hk h => by omega)
            rw [show (q2) + ([z] : List (BitVec 8)).length = (q2) + 1 from rfl] at own6
            clear owna6 grow6 mm6 ba6
            simp only [Act.put, List.setIfInBounds_toArray, List.set_cons_zero, List.set_cons_succ]
            refine wpList_reads (by kernel_rfl) (v6) (by go_simp) ?_
            simp only [Act.put, List.setIfInBounds_toArray, List.set_cons_zero, List.set_cons_succ]
            rw [hY, List.append_assoc, ← hbk.out] at own6
            replace own6 := Lib.hid own6
            replace m6 := Lib.hid m6
            replace hY := Lib.hid hY
            clear own5 m5 hbyte2
            go_wp2
            go_roundg (gk - 1)
            case measure => have := hkg.out; omega
            case rel => exact ⟨6, by have := hkg.out; omega, by go_num, m6.out, by rw [show q + 6 = q2 + 1 by have := hq2.out; omega]; exact own6.out⟩
          · have hd : decide ((0 : Int) ≤ 7 - ((6 : Nat) : Int)) = true := by decide
            have hbyte : ((y / 256 % 256 : Nat) : Int) = ((BitVec.ofNat 8 (y / 256 ^ (7 - 6))).toNat : Int) := by rw [BitVec.toNat_ofNat]
            obtain ⟨z, hz⟩ : ∃ z, z = BitVec.ofNat 8 (y / 256 ^ (7 - 6)) := ⟨_, rfl⟩
            rw [← hz] at hbyte hbk
            have hdiv : ((y / 256 : Nat) : Int) = (y : Int) / 256 := by omega
            have hbyte2 : IntKind.u8.wrap ((y : Int) / 256) = (z.toNat : Int) := by rw [← hbyte, IntKind.wrap_u8]; omega
            replace hz := Lib.hid hz
            replace hbk := Lib.hid hbk
            replace hbyte := Lib.hid hbyte
            clear hdiv
            obtain ⟨wa6, hwa6⟩ : ∃ x, x = wr.alloc (.cells #[.int .u8 (z.toNat : Int)] 5) := ⟨_, rfl⟩
            obtain ⟨ga6, hga6⟩ : ∃ g, g = wr.heap.size := ⟨_, rfl⟩
            have ma6 : Mod (fun _ => False) wr wa6 := by rw [hwa6]; exact (Mod.refl _ _).alloc _
            have xa6 : wa6.heap[ga6]? = some (.cells (encB [z]) 5 (0,0)) := by rw [hwa6]; exact hp_new _ _ _ hga6
            have ba6 := ByteAt.row xa6
            have owna6 := ownsRow_kept own5 ma6 (fun _ _ h => h)
            have mm6 := m5.trans ma6
            replace hwa6 := Lib.hid hwa6
            replace hga6 := Lib.hid hga6
            clear xa6 ma6
            go_upto_region 10 with (fail)
            refine wp_region_lit ?_
            refine wpList_reads (by kernel_rfl) (.slice ad2 q2 cp2) (by go_simp) ?_
            simp only [Act.put, List.setIfInBounds_toArray, List.set_cons_zero, List.set_cons_succ]
            refine wpList_reads (by kernel_rfl) (.int .u64 (y : Int)) (by go_simp) ?_
            simp only [Act.put, List.setIfInBounds_toArray, List.set_cons_zero, List.set_cons_succ]
            refine wpList_reads (by kernel_rfl) (.int .i64 1) (by go_simp) ?_
            simp only [Act.put, List.setIfInBounds_toArray, List.set_cons_zero, List.set_cons_succ]
            refine wpList_reads (by kernel_rfl) (.int .i64 8) (by go_simp <;> rfl) ?_
            simp only [Act.put, List.setIfInBounds_toArray, List.set_cons_zero, List.set_cons_succ]
            refine wpList_reads (by kernel_rfl) (.int .u64 ((y : Int) / 256)) (by go_simp) ?_
            simp only [Act.put, List.setIfInBounds_toArray, List.set_cons_zero, List.set_cons_succ]
            refine wpList_reads (by kernel_rfl) (.int .u8 (z.toNat : Int)) (by rw [← hbyte2]; go_simp) ?_
            simp only [Act.put, List.setIfInBounds_toArray, List.set_cons_zero, List.set_cons_succ]
            refine wpList_yields (by kernel_rfl) (.slice (some ⟨ga6, 0, none⟩) 1 1) wa6 (by rw [hwa6.out, hga6.out]; go_simp) ?_
            simp only [Act.put, List.setIfInBounds_toArray, List.set_cons_zero, List.set_cons_succ]
            refine wpList_append_bytes rfl _ _ rfl w.heap.size (q2) (.slice ad2 q2 cp2) (.slice (some ⟨ga6, 0, none⟩) 1 1) (Y) [z] rfl rfl owna6 ba6 (by simp; omega) mm6.size ?_
            intro v6 w6 own6 grow6
            have m6 : Mod (fun _ => False) w w6 := mm6.trans' ((Mod.refl _ _).grown (S := fun k => w.heap.size ≤ k) grow6 (fun k hk _ => (owna6.lt k hk).1)) (fun k hk h => by omega)
            rw [show (q2) + ([z] : List (BitVec 8)).length = (q2) + 1 from rfl] at own6
            clear owna6 grow6 mm6 ba6
            simp only [Act.put, List.setIfInBounds_toArray, List.set_cons_zero, List.set_cons_succ]
            refine wpList_reads (by kernel_rfl) (v6) (by go_simp) ?_
            simp only [Act.put, List.setIfInBounds_toArray, List.set_cons_zero, List.set_cons_succ]
            rw [hY, List.append_assoc, ← hbk.out] at own6
            replace own6 := Lib.hid own6
            replace m6 := Lib.hid m6
            replace hY := Lib.hid hY
            clear own5 m5 hbyte2
            go_wp2
            go_roundg (gk - 1)
            case measure => have := hkg.out; omega
            case rel => exact ⟨7, by have := hkg.out; omega, by go_num, m6.out, by rw [show q + 7 = q2 + 1 by have := hq2.out; omega]; exact own6.out⟩
          · have hd : decide ((0 : Int) ≤ 7 - ((7 : Nat) : Int)) = true := by decide
            have hbyte : ((y / 1 % 256 : Nat) : Int) = ((BitVec.ofNat 8 (y / 256 ^ (7 - 7))).toNat : Int) := by rw [BitVec.toNat_ofNat]
            obtain ⟨z, hz⟩ : ∃ z, z = BitVec.ofNat 8 (y / 256 ^ (7 - 7)) := ⟨_, rfl⟩
            rw [← hz] at hbyte hbk
            have hdiv : ((y / 1 : Nat) : Int) = (y : Int) / 1 := by omega
            have hbyte2 : IntKind.u8.wrap ((y : Int) / 1) = (z.toNat : Int) := by rw [← hbyte, IntKind.wrap_u8]; omega
            replace hz := Lib.hid hz
            replace hbk := Lib.hid hbk
            replace hbyte := Lib.hid hbyte
            clear hdiv
            obtain ⟨wa6, hwa6⟩ : ∃ x, x = wr.alloc (.cells #[.int .u8 (z.toNat : Int)] 5) := ⟨_, rfl⟩
            obtain ⟨ga6, hga6⟩ : ∃ g, g = wr.heap.size := ⟨_, rfl⟩
            have ma6 : Mod (fun _ => False) wr wa6 := by rw [hwa6]; exact (Mod.refl _ _).alloc _
            have xa6 : wa6.heap[ga6]? = some (.cells (encB [z]) 5 (0,0)) := by rw [hwa6]; exact hp_new _ _ _ hga6
            have ba6 := ByteAt.row xa6
            have owna6 := ownsRow_kept own5 ma6 (fun _ _ h => h)
            have mm6 := m5.trans ma6
            replace hwa6 := Lib.hid hwa6
            replace hga6 := Lib.hid hga6
            clear xa6 ma6
            go_upto_region 10 with (fail)
            refine wp_region_lit ?_
            refine wpList_reads (by kernel_rfl) (.slice ad2 q2 cp2) (by go_simp) ?_
            simp only [Act.put, List.setIfInBounds_toArray, List.set_cons_zero, List.set_cons_succ]
            refine wpList_reads (by kernel_rfl) (.int .u64 (y : Int)) (by go_simp) ?_
            simp only [Act.put, List.setIfInBounds_toArray, List.set_cons_zero, List.set_cons_succ]
            refine wpList_reads (by kernel_rfl) (.int .i64 0) (by go_simp) ?_
            simp only [Act.put, List.setIfInBounds_toArray, List.set_cons_zero, List.set_cons_succ]
            refine wpList_reads (by kernel_rfl) (.int .i64 0) (by go_simp <;> rfl) ?_
            simp only [Act.put, List.setIfInBounds_toArray, List.set_cons_zero, List.set_cons_succ]
            refine wpList_reads (by kernel_rfl) (.int .u64 ((y : Int) / 1)) (by go_simp) ?_
            simp only [Act.put, List.setIfInBounds_toArray, List.set_cons_zero, List.set_cons_succ]
            refine wpList_reads (by kernel_rfl) (.int .u8 (z.toNat : Int)) (by rw [← hbyte2]; go_simp) ?_
            simp only [Act.put, List.setIfInBounds_toArray, List.set_cons_zero, List.set_cons_succ]
            refine wpList_yields (by kernel_rfl) (.slice (some ⟨ga6, 0, none⟩) 1 1) wa6 (by rw [hwa6.out, hga6.out]; go_simp) ?_
            simp only [Act.put, List.setIfInBounds_toArray, List.set_cons_zero, List.set_cons_succ]
            refine wpList_append_bytes rfl _ _ rfl w.heap.size (q2) (.slice ad2 q2 cp2) (.slice (some ⟨ga6, 0, none⟩) 1 1) (Y) [z] rfl rfl owna6 ba6 (by simp; omega) mm6.size ?_
            intro v6 w6 own6 grow6
            have m6 : Mod (fun _ => False) w w6 := mm6.trans' ((Mod.refl _ _).grown (S := fun k => w.heap.size ≤ k) grow6 (fun k hk _ => (owna6.lt k hk).1)) (fun k hk h => by omega)
            rw [show (q2) + ([z] : List (BitVec 8)).length = (q2) + 1 from rfl] at own6
            clear owna6 grow6 mm6 ba6
            simp only [Act.put, List.setIfInBounds_toArray, List.set_cons_zero, List.set_cons_succ]
            refine wpList_reads (by kernel_rfl) (v6) (by go_simp) ?_
            simp only [Act.put, List.setIfInBounds_toArray, List.set_cons_zero, List.set_cons_succ]
            rw [hY, List.append_assoc, ← hbk.out] at own6
            replace own6 := Lib.hid own6
            replace m6 := Lib.hid m6
            replace hY := Lib.hid hY
            clear own5 m5 hbyte2
            go_wp2
            go_roundg (gk - 1)
            case measure => have := hkg.out; omega
            case rel => exact ⟨8, by have := hkg.out; omega, by go_num, m6.out, by rw [show q + 8 = q2 + 1 by have := hq2.out; omega]; exact own6.out⟩
        · have hk : k = 8 := by omega
          have hd : decide ((k : Int) ≤ 7) = false := by rw [decide_eq_false_iff_not]; omega
          have e1 : q + k = (padS b).length := by rw [hPl.out, hk]
          have e2 : X ++ E.take k = padS b := by rw [hk, List.take_of_length_le (by rw [hEl.out]; omega), ← hpe.out]
          have own7 : wr.ownsRow w.heap.size 5 1 (.slice ad2 (q + k) cp2) (padS b).length (bytesV (padS b)) := by rw [← e1, ← e2]; exact own5
          replace own7 := Lib.hid own7
          replace m5 := Lib.hid m5
          replace hl2 := Lib.hid hl2
          replace hk := Lib.hid hk
          clear own5 e1 e2 hk8
          go_wp2
          go_ret
          exact ⟨m5.out, _, rfl, own7.out⟩
end Go.Proofs.YtppjnkgmbmhlcaaGreatDoor
