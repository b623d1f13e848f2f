/-
  aead.eights, of. Printed by gen/pa2.py.
-/
import Derived.Test.YtbiijcljpgannaaGreatDoorYa
namespace Go.Proofs.YtbiijcljpgannaaGreatDoor
set_option maxRecDepth 100000
open Go Go.RowKit Go.Lib
set_option linter.unusedSimpArgs false
set_option linter.unusedVariables false

def eightTo (x k : Nat) : List (BitVec 8) := (List.range k).map fun i => BitVec.ofNat 8 (x / 2 ^ (8 * i))
def eightS (x : Nat) : List (BitVec 8) := eightTo x 8
theorem eightTo_length (x k : Nat) : (eightTo x k).length = k := by simp [eightTo]
theorem eightTo_succ (x k : Nat) : eightTo x (k + 1) = eightTo x k ++ [BitVec.ofNat 8 (x / 2 ^ (8 * k))] := by simp [eightTo, List.range_succ]
def eightsTo (a c : Nat) : Nat → List (BitVec 8)
  | 0 => []
  | 1 => eightS a
  | _ => eightS a ++ eightS c
theorem eightsTo_length (a c j : Nat) (hj : j ≤ 2) : (eightsTo a c j).length = 8 * j := by
  match j with
  | 0 => rfl
  | 1 => simp [eightsTo, eightS, eightTo_length]
  | 2 => simp [eightsTo, eightS, eightTo_length]
theorem eightsTo_succ (a c j : Nat) (hj : j < 2) : eightsTo a c (j + 1) = eightsTo a c j ++ eightS (if j = 0 then a else c) := by
  match j with
  | 0 => simp [eightsTo]
  | 1 => simp [eightsTo]
theorem ld_intY {w : World} {g off : Nat} {n : Int} (hc : w.cell? ⟨g, off, none⟩ = some (.int .i64 n)) : (loadVar 3 ⟨g, off, none⟩).run Tryz.prog w = .ok (.int .i64 n) w := by go_simp
set_option maxRecDepth 100000 in
set_option maxHeartbeats 4000000 in
theorem eights_any (a c : Nat) (ha : a ≤ 140737488351232) (hc : c ≤ 140737488351232) (G : Nat) (t : TypeId) (w : World) (hG : w.heap[G]? = some (.cells #[.int .i64 (a : Int), .int .i64 (c : Int)] t (0,0))) :
    Calls Tryz.prog 72 #[.slice (some ⟨G, 0, none⟩) 2 2] w fun e w' => Mod (fun _ => False) w w' ∧ ∃ v, e = .returned v ∧ ByteAt w' v (eightS a ++ eightS c) := by
  have hfin : eightsTo a c 2 = eightS a ++ eightS c := rfl
  rw [← hfin]
  obtain ⟨E, hE⟩ : ∃ E, E = eightsTo a c := ⟨_, rfl⟩
  rw [← hE]
  have hE0 : E 0 = [] := by rw [hE]; rfl
  have hEl : ∀ j, j ≤ 2 → (E j).length = 8 * j := by rw [hE]; exact eightsTo_length a c
  have hEs : ∀ j, j < 2 → E (j + 1) = E j ++ eightS (if j = 0 then a else c) := by rw [hE]; exact eightsTo_succ a c
  have own0 : w.ownsRow w.heap.size 5 1 (.slice none 0 0) 0 (bytesV (E 0)) := by rw [hE0]; exact World.ownsRow_nil _ _ _ _
  replace hE := Lib.hid hE
  replace hEl := Lib.hid hEl
  replace hEs := Lib.hid hEs
  replace own0 := Lib.hid own0
  replace hG := Lib.hid hG
  clear hfin hE0
  go_enter Tryz.func72, Tryz.ntmps72
  go_wp2
  go_loopw [2, 8] (fun ov jv wr => ∃ j : Nat, j ≤ 2 ∧ jv = .int .i64 (j : Int) ∧ Mod (fun _ => False) w wr ∧ wr.ownsRow w.heap.size 5 1 ov (8 * j) (bytesV (E j))) (fun _ jv _ => 2 - (intOf jv).toNat)
  case atStart => exact ⟨0, by omega, rfl, Mod.refl _ _, own0.out⟩
  case round =>
    obtain ⟨j, hj2, rfl, mr, ownr⟩ := hrel
    have bj0 : (0 : Int) ≤ (j : Int) := by omega
    by_cases hjlt : j < 2
    · have hdj : decide ((j : Int) < 2) = true := by rw [decide_eq_true_iff]; omega
      have bj2 : ¬ (2 : Int) ≤ (j : Int) := by omega
      obtain ⟨x, hx⟩ : ∃ x, x = if j = 0 then a else c := ⟨_, rfl⟩
      have hxb : x ≤ 140737488351232 := by rw [hx]; split <;> assumption
      have bx0 : (0 : Int) ≤ (x : Int) := by omega
      have hwx : IntKind.u64.wrap (x : Int) = (x : Int) := by rw [IntKind.wrap_u64]; omega
      have hGr := mr.heap hG.out (fun h => h)
      have cx : wr.cell? ⟨G, j, none⟩ = some (.int .i64 (x : Int)) := by
        rw [cell_of_row _ _ _ _ _ _ hGr, hx]
        rcases (show j = 0 ∨ j = 1 by omega) with rfl | rfl <;> rfl
      have lx := ld_intY cx
      have hs := hEs.out j hjlt
      rw [← hx] at hs
      have hl := hEl.out j hj2
      obtain ⟨ad, cp, hov⟩ := own_sliceP ownr
      subst hov
      obtain ⟨P, hP⟩ : ∃ P, P = E j := ⟨_, rfl⟩
      rw [← hP] at hs hl ownr
      obtain ⟨w0, hw0⟩ : ∃ x : World, x = wr := ⟨_, rfl⟩
      rw [← hw0] at mr ownr
      obtain ⟨N, hN⟩ : ∃ N, N = 8 * j := ⟨_, rfl⟩
      rw [← hN] at hl ownr ⊢
      have own1 : w0.ownsRow w.heap.size 5 1 (.slice ad N cp) (N + 0) (bytesV (P ++ eightTo x 0)) := by rw [show eightTo x 0 = [] from rfl, List.append_nil]; exact ownr
      have hwb : w.heap.size ≤ w0.heap.size := mr.size
      replace hx := Lib.hid hx
      replace hs := Lib.hid hs
      replace hl := Lib.hid hl
      replace hP := Lib.hid hP
      replace mr := Lib.hid mr
      replace own1 := Lib.hid own1
      replace hN := Lib.hid hN
      clear ownr cx hGr
      go_upto_region 3 with (fail)
      refine wp_region_lit ?_
      refine wpList_reads (by kernel_rfl) (.pointer (some ⟨G, j, none⟩)) (by go_simp) ?_
      simp only [Act.put, List.setIfInBounds_toArray, List.set_cons_zero, List.set_cons_succ]
      refine wpList_reads (by kernel_rfl) (.int .i64 (x : Int)) (run_load_op rfl rfl lx) ?_
      simp only [Act.put, List.setIfInBounds_toArray, List.set_cons_zero, List.set_cons_succ]
      refine wpList_reads (by kernel_rfl) (.int .i64 (x : Int)) (by go_simp) ?_
      simp only [Act.put, List.setIfInBounds_toArray, List.set_cons_zero, List.set_cons_succ]
      clear lx
      rw [← hw0]
      replace hw0 := Lib.hid hw0
      go_wp2
      go_loopw [2, 12] (fun ov iv wr => ∃ i : Nat, i ≤ 8 ∧ iv = .int .i64 (i : Int) ∧ Mod (fun _ => False) w wr ∧ wr.ownsRow w.heap.size 5 1 ov (N + i) (bytesV (P ++ eightTo x i))) (fun _ iv _ => 8 - (intOf iv).toNat)
      case atStart => exact ⟨0, by omega, rfl, mr.out, own1.out⟩
      case round =>
        obtain ⟨i, hi8, rfl, mi, owni⟩ := hrel
        have bi0 : (0 : Int) ≤ (i : Int) := by omega
        by_cases hilt : i < 8
        · have hdi : decide ((i : Int) < 8) = true := by rw [decide_eq_true_iff]; omega
          have bi8 : ¬ (8 : Int) ≤ (i : Int) := by omega
          obtain ⟨s, hs8⟩ : ∃ s, s = 8 * i := ⟨_, rfl⟩
          have hsi : 8 * (i : Int) = (s : Int) := by omega
          have hws : IntKind.i64.wrap (s : Int) = (s : Int) := by rw [IntKind.wrap_i64]; omega
          have bs0 : (0 : Int) ≤ (s : Int) := by omega
          have bs64 : (s : Int) < 64 := by omega
          have bs64' : s < 64 := by omega
          obtain ⟨y, hy⟩ : ∃ y, y = x / 2 ^ s := ⟨_, rfl⟩
          have hyi : (x : Int) / 2 ^ s = (y : Int) := by rw [hy]; simp
          have hyb : y ≤ 140737488351232 := by rw [hy]; exact Nat.le_trans (Nat.div_le_self _ _) hxb
          have by0 : (0 : Int) ≤ (y : Int) := by omega
          have hwy : IntKind.u64.wrap (y : Int) = (y : Int) := by rw [IntKind.wrap_u64]; omega
          obtain ⟨z, hz⟩ : ∃ z, z = BitVec.ofNat 8 y := ⟨_, rfl⟩
          have hzi : IntKind.u8.wrap (y : Int) = (z.toNat : Int) := by rw [hz, BitVec.toNat_ofNat, IntKind.wrap_u8]; omega
          have hsu : eightTo x (i + 1) = eightTo x i ++ [z] := by rw [eightTo_succ, hz, hy, hs8]
          obtain ⟨ai, ci, hov⟩ := own_sliceP owni
          subst hov
          have hlp : (eightTo x i).length = i := eightTo_length x i
          obtain ⟨O, hO⟩ : ∃ O, O = P ++ eightTo x i := ⟨_, rfl⟩
          rw [← hO] at owni
          obtain ⟨M, hM⟩ : ∃ M, M = N + i := ⟨_, rfl⟩
          rw [← hM] at owni ⊢
          obtain ⟨wa, hwa⟩ : ∃ wa, wa = wr.alloc (.cells #[.int .u8 (z.toNat : Int)] 5) := ⟨_, rfl⟩
          obtain ⟨ga, hga⟩ : ∃ ga, ga = wr.heap.size := ⟨_, rfl⟩
          have ma : Mod (fun _ => False) wr wa := by rw [hwa]; exact (Mod.refl _ _).alloc _
          have ra : wa.heap[ga]? = some (.cells (encB [z]) 5 (0,0)) := by rw [hwa]; exact hp_new _ _ _ hga
          have ownA := ownsRow_keep0 owni ma
          have hsza : w.heap.size ≤ wa.heap.size := Nat.le_trans mi.size ma.size
          obtain ⟨v6, w6, hr6, own6, m6, nb6, _⟩ := run_append_one ownA ra (by have := hN.out; omega) hsza 22
          have mia : Mod (fun _ => False) w wa := mi.trans ma
          have mf : Mod (fun _ => False) w w6 := mia.trans' m6 (fun k hk h => by have := (ownsRow_in ownA h).1; omega)
          replace hs8 := Lib.hid hs8
          replace hy := Lib.hid hy
          replace hz := Lib.hid hz
          replace hsu := Lib.hid hsu
          replace hlp := Lib.hid hlp
          replace hO := Lib.hid hO
          replace hM := Lib.hid hM
          replace hwa := Lib.hid hwa
          replace hga := Lib.hid hga
          replace mi := Lib.hid mi
          replace own6 := Lib.hid own6
          replace mf := Lib.hid mf
          clear ma ra ownA owni mia m6 nb6
          go_upto_region 6 with (fail)
          refine wp_region_lit ?_
          refine wpList_reads (by kernel_rfl) (.int .i64 (i : Int)) (by go_simp) ?_
          simp only [Act.put, List.setIfInBounds_toArray, List.set_cons_zero, List.set_cons_succ]
          refine wpList_reads (by kernel_rfl) (.int .i64 (i : Int)) (by go_simp) ?_
          simp only [Act.put, List.setIfInBounds_toArray, List.set_cons_zero, List.set_cons_succ]
          go_upto_region 7 with (fail)
          refine wp_region_lit ?_
          refine wpList_reads (by kernel_rfl) (.slice ai M ci) (by go_simp) ?_
          simp only [Act.put, List.setIfInBounds_toArray, List.set_cons_zero, List.set_cons_succ]
          refine wpList_reads (by kernel_rfl) (.int .i64 (x : Int)) (by go_simp) ?_
          simp only [Act.put, List.setIfInBounds_toArray, List.set_cons_zero, List.set_cons_succ]
          refine wpList_reads (by kernel_rfl) (.int .u64 (x : Int)) (by go_simp) ?_
          simp only [Act.put, List.setIfInBounds_toArray, List.set_cons_zero, List.set_cons_succ]
          refine wpList_reads (by kernel_rfl) (.int .i64 (i : Int)) (by go_simp) ?_
          simp only [Act.put, List.setIfInBounds_toArray, List.set_cons_zero, List.set_cons_succ]
          refine wpList_reads (by kernel_rfl) (.int .i64 (s : Int)) (by go_simp) ?_
          simp only [Act.put, List.setIfInBounds_toArray, List.set_cons_zero, List.set_cons_succ]
          refine wpList_reads (by kernel_rfl) (.int .u64 (y : Int)) (by go_simp) ?_
          simp only [Act.put, List.setIfInBounds_toArray, List.set_cons_zero, List.set_cons_succ]
          refine wpList_reads (by kernel_rfl) (.int .u8 (z.toNat : Int)) (by go_simp) ?_
          simp only [Act.put, List.setIfInBounds_toArray, List.set_cons_zero, List.set_cons_succ]
          refine wpList_yields (by kernel_rfl) (.slice (some ⟨ga, 0, none⟩) 1 1) wa (by rw [hwa.out, hga.out]; go_simp) ?_
          simp only [Act.put, List.setIfInBounds_toArray, List.set_cons_zero, List.set_cons_succ]
          refine wpList_yields (by kernel_rfl) v6 w6 (run_append_opP rfl rfl rfl hr6) ?_
          simp only [Act.put, List.setIfInBounds_toArray, List.set_cons_zero, List.set_cons_succ]
          clear hr6
          refine wpList_reads (by kernel_rfl) (v6) (by go_simp) ?_
          simp only [Act.put, List.setIfInBounds_toArray, List.set_cons_zero, List.set_cons_succ]
          go_wp2
          go_roundw
          case measure => simp [intOf]; omega
          case rel => exact ⟨i + 1, by omega, by go_num, mf.out, by have h := own6.out; rw [hM.out, hO.out, List.append_assoc, ← hsu.out] at h; exact h⟩
        · have hi : i = 8 := by omega
          subst hi
          have hdi : decide (((8 : Nat) : Int) < 8) = false := by decide
          have hsj : P ++ eightTo x 8 = E (j + 1) := hs.out.symm
          rw [hsj] at owni
          replace owni := Lib.hid owni
          replace mi := Lib.hid mi
          clear hilt hsj
          go_wp2
          go_roundw
          case measure => simp [intOf]; omega
          case rel => exact ⟨j + 1, by omega, by go_num, mi.out, by have h := owni.out; rw [hN.out, show 8 * j + 8 = 8 * (j + 1) by omega] at h; exact h⟩
    · have hi : j = 2 := by omega
      subst hi
      have hdj : decide (((2 : Nat) : Int) < 2) = false := by decide
      obtain ⟨ai, ci, hov⟩ := own_sliceP ownr
      have hbr := byteAt_of_own ownr
      replace hbr := Lib.hid hbr
      replace mr := Lib.hid mr
      clear ownr hjlt
      go_wp2
      go_ret
      exact ⟨mr.out, _, rfl, hbr.out⟩

theorem infoSL : (Tryz.prog.info? 52).map (·.size) = some 44 := by kernel_rfl
theorem zeroSL (w : World) : (zeroValue 52).run Tryz.prog w = .ok (.agg (encB (List.replicate 44 0))) w := by kernel_rfl
theorem loadSL {w : World} {g : Nat} {s : List (BitVec 8)} (x : w.heap[g]? = some (.cells (encB s) 52 (0,0))) (hl : s.length = 44) : (loadVar 52 ⟨g, 0, none⟩).run Tryz.prog w = .ok (.agg (encB s)) w :=
  load_mid w g 0 52 52 [] (bytesV s) [] (0,0) _ (by rw [x]; simp [encB, bytesV]) rfl Tryz.underlying52 rfl (by rw [bytesV_length, hl]; exact infoSL)
theorem storeSL {w : World} {g : Nat} {s s' : List (BitVec 8)} (x : w.heap[g]? = some (.cells (encB s) 52 (0,0))) (hl : s.length = 44) (hl' : s'.length = 44) :
    ∃ w', (storeVar 52 ⟨g, 0, none⟩ (.agg (encB s'))).run Tryz.prog w = .ok () w' ∧ Mod (fun k => k = g) w w' ∧ w'.heap[g]? = some (.cells (encB s') 52 (0,0)) := by
  obtain ⟨w', h1, h2, h3⟩ := store_mid (P := Tryz.prog) w g 0 52 52 [] (bytesV s) [] (bytesV s') (by rw [x]; simp [encB, bytesV]) rfl (by rw [bytesV_length, bytesV_length, hl, hl']) (by rw [bytesV_length, hl']; exact infoSL) (bytesV_one _)
  exact ⟨w', h1, h2, by rw [h3]; simp [encB, bytesV]⟩
theorem keySL {w : World} {g : Nat} {k n : List (BitVec 8)} (x : w.heap[g]? = some (.cells (encB (k ++ n)) 52 (0,0))) (hk : k.length = 32) (hn : n.length = 12) : (loadVar 49 ⟨g, 0, none⟩).run Tryz.prog w = .ok (.agg (encB k)) w :=
  load_mid w g 0 52 49 [] (bytesV k) (bytesV n) (0,0) _ (by rw [x]; simp [encB, bytesV]) rfl Tryz.underlying49 rfl (by rw [bytesV_length, hk]; exact infoY32)
theorem nonceSL {w : World} {g : Nat} {k n : List (BitVec 8)} (x : w.heap[g]? = some (.cells (encB (k ++ n)) 52 (0,0))) (hk : k.length = 32) (hn : n.length = 12) : (loadVar 50 ⟨g, 32, none⟩).run Tryz.prog w = .ok (.agg (encB n)) w :=
  load_mid w g 32 52 50 (bytesV k) (bytesV n) [] (0,0) _ (by rw [x]; simp [encB, bytesV]) (by rw [bytesV_length, hk]) Tryz.underlying50 rfl (by rw [bytesV_length, hn]; exact infoY12)
theorem results2SL {fn : Func} {p q : Tmp} (h : fn.results = #[.cell p 52, .tmp q]) (tmps : Array Value) (w : World) (g : Nat) (s : List (BitVec 8)) (r : Value) (h1 : tmps.getD p undef = .pointer (some ⟨g, 0, none⟩)) (h2 : tmps.getD q undef = r) (x : w.heap[g]? = some (.cells (encB s) 52 (0,0))) (hl : s.length = 44) :
    (results fn tmps).run Tryz.prog w = .ok (.tuple #[.agg (encB s), r]) w := by
  have h1' : tmps[p]?.getD undef = .pointer (some ⟨g, 0, none⟩) := by simpa using h1
  have h2' : tmps[q]?.getD undef = r := by simpa using h2
  simp [results, h, Sem.run_bind, h1', h2', loadSL x hl, asAddr]
theorem build_any44 (f h : Nat → Value) (w : World) : (Instr.build 52 #[(0, .agg ((List.range 32).map f).toArray), (1, .agg ((List.range 12).map h).toArray)]).run Tryz.prog w = .ok (.agg ((List.range 32).map f ++ (List.range 12).map h).toArray) w := by kernel_rfl
theorem encB_range (k : List (BitVec 8)) (n : Nat) (hk : k.length = n) : encB k = ((List.range n).map (fun i => Value.int .u8 ((k.getD i 0).toNat : Int))).toArray := by
  unfold encB
  congr 1
  apply List.ext_getElem
  · simp [hk]
  · intro i h1 h2
    have : i < k.length := by simpa using h1
    simp [List.getD_eq_getElem?_getD, List.getElem?_eq_getElem this]
theorem encB_append (a b : List (BitVec 8)) : encB (a ++ b) = encB a ++ encB b := by simp [encB]
theorem build_sealer (w : World) (ev : Operand → Value) (o : Oper) (x y : Operand) (k n : List (BitVec 8)) (hk : k.length = 32) (hn : n.length = 12) (ho : o.op = .build 52 #[(0, x), (1, y)]) (hx : ev x = .agg (encB k)) (hy : ev y = .agg (encB n)) : (execOp ev o).run Tryz.prog w = .ok (.value (.agg (encB (k ++ n)))) w := by
  have h := build_any44 (fun i => .int .u8 ((k.getD i 0).toNat : Int)) (fun i => .int .u8 ((n.getD i 0).toNat : Int)) w
  rw [← encB_range k 32 hk, ← encB_range n 12 hn, show ((List.range 32).map (fun i => Value.int .u8 ((k.getD i 0).toNat : Int)) ++ (List.range 12).map (fun i => Value.int .u8 ((n.getD i 0).toNat : Int))).toArray = encB (k ++ n) by
    rw [← List.append_toArray, encB_append]
    congr 1
    · exact (encB_range k 32 hk).symm
    · exact (encB_range n 12 hn).symm] at h
  unfold execOp
  simp only [ho]
  simp [hx, hy, h]

def OfEnd (k n : List (BitVec 8)) (w : World) (e : Ending) (w' : World) : Prop :=
  Mod (fun _ => False) w w' ∧ ∃ s, s.length = 44 ∧ (k.length = 32 → n.length = 12 → s = k ++ n) ∧ e = .returned (.tuple #[.agg (encB s), .bool (decide (k.length = 32) && decide (n.length = 12))])
set_option maxRecDepth 100000 in
set_option maxHeartbeats 4000000 in
theorem of_any (vk vn : Value) (k n : List (BitVec 8)) (hkl : k.length ≤ 140737488351232) (hnl : n.length ≤ 140737488351232) (w : World) (hk : ByteAt w vk k) (hn : ByteAt w vn n) : Calls Tryz.prog 17 #[vk, vn] w (OfEnd k n w) := by
  obtain ⟨ak, ck, rfl, _⟩ := hk.slice
  obtain ⟨an, cn, rfl, _⟩ := hn.slice
  obtain ⟨K, hK⟩ : ∃ K, K = k.length := ⟨_, rfl⟩
  obtain ⟨N, hN⟩ : ∃ N, N = n.length := ⟨_, rfl⟩
  obtain ⟨k2, hk2⟩ : ∃ k2, k2 = if k.length = 32 then k else List.replicate 32 0 := ⟨_, rfl⟩
  obtain ⟨n2, hn2⟩ : ∃ n2, n2 = if n.length = 12 then n else List.replicate 12 0 := ⟨_, rfl⟩
  obtain ⟨bk, hbk⟩ : ∃ b, b = decide (k.length = 32) := ⟨_, rfl⟩
  obtain ⟨bn, hbn⟩ : ∃ b, b = decide (n.length = 12) := ⟨_, rfl⟩
  have hk2l : k2.length = 32 := by rw [hk2]; split <;> simp_all
  have hn2l : n2.length = 12 := by rw [hn2]; split <;> simp_all
  have hfin : ∀ w', Mod (fun _ => False) w w' → OfEnd k n w (.returned (.tuple #[.agg (encB (k2 ++ n2)), .bool (bk && bn)])) w' := fun w' h => ⟨h, k2 ++ n2, by rw [List.length_append, hk2l, hn2l], fun h1 h2 => by rw [hk2, hn2, if_pos h1, if_pos h2], by rw [hbk, hbn]⟩
  rw [← hK] at hk ⊢
  rw [← hN] at hn ⊢
  obtain ⟨w1, hw1⟩ : ∃ x, x = w.alloc (.cells (encB (List.replicate 44 0)) 52) := ⟨_, rfl⟩
  obtain ⟨g1, hg1⟩ : ∃ x, x = w.heap.size := ⟨_, rfl⟩
  have m1 : Mod (fun _ => False) w w1 := by rw [hw1]; exact (Mod.refl _ _).alloc _
  have x1 : w1.heap[g1]? = some (.cells (encB (List.replicate 44 0)) 52 (0,0)) := by rw [hw1]; exact hp_new _ _ _ hg1
  have k1 := hk.mod m1 (fun _ _ h => h)
  have n1 := hn.mod m1 (fun _ _ h => h)
  have hgw : w.heap.size ≤ g1 := by omega
  replace hK := Lib.hid hK
  replace hN := Lib.hid hN
  replace hk2 := Lib.hid hk2
  replace hn2 := Lib.hid hn2
  replace hbk := Lib.hid hbk
  replace hbn := Lib.hid hbn
  replace hfin := Lib.hid hfin
  replace hw1 := Lib.hid hw1
  replace hg1 := Lib.hid hg1
  replace m1 := Lib.hid m1
  replace x1 := Lib.hid x1
  replace k1 := Lib.hid k1
  replace n1 := Lib.hid n1
  clear hk hn
  go_enter Tryz.func17, Tryz.ntmps17
  go_upto_region 0 with (fail)
  refine wp_region_lit ?_
  refine wpList_yields (by kernel_rfl) _ _ (alloc_arrY 52 _ zeroSL _ _ _ rfl) ?_
  simp only [Act.put, List.setIfInBounds_toArray, List.set_cons_zero, List.set_cons_succ]
  rw [← hg1.out, ← hw1.out]
  refine wpList_reads (by kernel_rfl) (.bool false) (by go_simp) ?_
  simp only [Act.put, List.setIfInBounds_toArray, List.set_cons_zero, List.set_cons_succ]
  go_upto_region 1 with (fail)
  refine wp_region_lit ?_
  refine wpList_reads (by kernel_rfl) (.slice ak K ck) (by go_simp) ?_
  simp only [Act.put, List.setIfInBounds_toArray, List.set_cons_zero, List.set_cons_succ]
  refine wpList_enter (by kernel_rfl) 63 #[.slice ak K ck, .int .i64 32, .func (.func 64) #[] #[]] (by go_simp) (as32_any _ k hkl w1 k1.out) ?_
  rintro e w2 ⟨m2, rfl⟩
  rw [← hk2.out, ← hbk.out]
  have x2 := m2.heap x1.out (fun h => h)
  have n2' := n1.out.mod m2 (fun _ _ h => h)
  obtain ⟨w3, hw3⟩ : ∃ x, x = w2.alloc (.cells (encB (List.replicate 32 0)) 49) := ⟨_, rfl⟩
  obtain ⟨g3, hg3⟩ : ∃ x, x = w2.heap.size := ⟨_, rfl⟩
  have m3 : Mod (fun _ => False) w2 w3 := by rw [hw3]; exact (Mod.refl _ _).alloc _
  have x3 : w3.heap[g3]? = some (.cells (encB (List.replicate 32 0)) 49 (0,0)) := by rw [hw3]; exact hp_new _ _ _ hg3
  obtain ⟨w4, s4, m4, x4⟩ := storeY32 x3 (s' := k2) (by simp) hk2l
  have m24 : Mod (fun _ => False) w2 w4 := m3.trans' m4 (fun k hk h => by omega)
  have y4 := m24.heap x2 (fun h => h)
  have n4 := n2'.mod m24 (fun _ _ h => h)
  have m04 := (m1.out.trans m2).trans m24
  have hg13 : g1 < g3 := by rw [hg3]; exact lt_of_heap x2
  replace hw3 := Lib.hid hw3
  replace hg3 := Lib.hid hg3
  replace x4 := Lib.hid x4
  replace y4 := Lib.hid y4
  replace n4 := Lib.hid n4
  replace m04 := Lib.hid m04
  clear m2 x2 n2' m3 x3 m4 m24
  refine ⟨_, rfl, ?_⟩
  simp only [Act.put, List.setIfInBounds_toArray, List.set_cons_zero, List.set_cons_succ]
  refine wpList_reads (by kernel_rfl) (.tuple #[.agg (encB k2), .bool bk]) (by go_simp) ?_
  simp only [Act.put, List.setIfInBounds_toArray, List.set_cons_zero, List.set_cons_succ]
  refine wpList_reads (by kernel_rfl) (.agg (encB k2)) (by go_simp) ?_
  simp only [Act.put, List.setIfInBounds_toArray, List.set_cons_zero, List.set_cons_succ]
  refine wpList_reads (by kernel_rfl) (.bool bk) (by go_simp) ?_
  simp only [Act.put, List.setIfInBounds_toArray, List.set_cons_zero, List.set_cons_succ]
  refine wpList_yields (by kernel_rfl) _ _ (allocY32 _ _ _ rfl) ?_
  simp only [Act.put, List.setIfInBounds_toArray, List.set_cons_zero, List.set_cons_succ]
  rw [← hg3.out, ← hw3.out]
  refine wpList_store_to rfl _ _ _ rfl _ _ _ rfl rfl _ s4 ?_
  simp only [Act.put, List.setIfInBounds_toArray, List.set_cons_zero, List.set_cons_succ]
  refine wpList_reads (by kernel_rfl) (.bool bk) (by go_simp) ?_
  simp only [Act.put, List.setIfInBounds_toArray, List.set_cons_zero, List.set_cons_succ]
  clear s4
  go_upto_region 2 with (fail)
  refine wp_region_lit ?_
  refine wpList_reads (by kernel_rfl) (.slice an N cn) (by go_simp) ?_
  simp only [Act.put, List.setIfInBounds_toArray, List.set_cons_zero, List.set_cons_succ]
  refine wpList_enter (by kernel_rfl) 65 #[.slice an N cn, .int .i64 12, .func (.func 66) #[] #[]] (by go_simp) (as12_any _ n hnl w4 n4.out) ?_
  rintro e w5 ⟨m5, rfl⟩
  rw [← hn2.out, ← hbn.out]
  have x5 := m5.heap y4.out (fun h => h)
  have z5 := m5.heap x4.out (fun h => h)
  obtain ⟨w6, hw6⟩ : ∃ x, x = w5.alloc (.cells (encB (List.replicate 12 0)) 50) := ⟨_, rfl⟩
  obtain ⟨g6, hg6⟩ : ∃ x, x = w5.heap.size := ⟨_, rfl⟩
  have m6 : Mod (fun _ => False) w5 w6 := by rw [hw6]; exact (Mod.refl _ _).alloc _
  have x6 : w6.heap[g6]? = some (.cells (encB (List.replicate 12 0)) 50 (0,0)) := by rw [hw6]; exact hp_new _ _ _ hg6
  obtain ⟨w7, s7, m7, x7⟩ := storeY12 x6 (s' := n2) (by simp) hn2l
  have m57 : Mod (fun _ => False) w5 w7 := m6.trans' m7 (fun k hk h => by omega)
  have y7 := m57.heap x5 (fun h => h)
  have z7 := m57.heap z5 (fun h => h)
  have m07 := (m04.out.trans m5).trans m57
  have lk := loadY32 z7 hk2l
  have ln := loadY12 x7 hn2l
  obtain ⟨w8, s8, m8, x8⟩ := storeSL y7 (s' := k2 ++ n2) (by simp) (by rw [List.length_append, hk2l, hn2l])
  have mf : Mod (fun _ => False) w w8 := m07.trans' m8 (fun k hk h => by omega)
  have hkn : (k2 ++ n2).length = 44 := by rw [List.length_append, hk2l, hn2l]
  have hbu := fun ev o x y => build_sealer w7 ev o x y k2 n2 hk2l hn2l
  obtain ⟨Z, hZ⟩ : ∃ Z, Z = k2 ++ n2 := ⟨_, rfl⟩
  rw [← hZ] at s8 x8 hkn hbu
  have hfin := hfin.out
  rw [← hZ] at hfin
  replace hw6 := Lib.hid hw6
  replace hg6 := Lib.hid hg6
  replace x8 := Lib.hid x8
  replace mf := Lib.hid mf
  replace hkn := Lib.hid hkn
  replace hfin := Lib.hid hfin
  replace hZ := Lib.hid hZ
  replace hbu := Lib.hid hbu
  clear m5 x5 z5 m6 x6 m7 m57 y7 z7 m07 m8 x7
  refine ⟨_, rfl, ?_⟩
  simp only [Act.put, List.setIfInBounds_toArray, List.set_cons_zero, List.set_cons_succ]
  refine wpList_reads (by kernel_rfl) (.tuple #[.agg (encB n2), .bool bn]) (by go_simp) ?_
  simp only [Act.put, List.setIfInBounds_toArray, List.set_cons_zero, List.set_cons_succ]
  refine wpList_reads (by kernel_rfl) (.agg (encB n2)) (by go_simp) ?_
  simp only [Act.put, List.setIfInBounds_toArray, List.set_cons_zero, List.set_cons_succ]
  refine wpList_reads (by kernel_rfl) (.bool bn) (by go_simp) ?_
  simp only [Act.put, List.setIfInBounds_toArray, List.set_cons_zero, List.set_cons_succ]
  refine wpList_yields (by kernel_rfl) _ _ (allocY12 _ _ _ rfl) ?_
  simp only [Act.put, List.setIfInBounds_toArray, List.set_cons_zero, List.set_cons_succ]
  rw [← hg6.out, ← hw6.out]
  refine wpList_store_to rfl _ _ _ rfl _ _ _ rfl rfl _ s7 ?_
  simp only [Act.put, List.setIfInBounds_toArray, List.set_cons_zero, List.set_cons_succ]
  refine wpList_reads (by kernel_rfl) (.bool bn) (by go_simp) ?_
  simp only [Act.put, List.setIfInBounds_toArray, List.set_cons_zero, List.set_cons_succ]
  clear s7
  go_upto_region 3 with (fail)
  refine wp_region_lit ?_
  refine wpList_reads (by kernel_rfl) (.agg (encB k2)) (run_load_op rfl rfl lk) ?_
  simp only [Act.put, List.setIfInBounds_toArray, List.set_cons_zero, List.set_cons_succ]
  refine wpList_reads (by kernel_rfl) (.agg (encB n2)) (run_load_op rfl rfl ln) ?_
  simp only [Act.put, List.setIfInBounds_toArray, List.set_cons_zero, List.set_cons_succ]
  refine wpList_reads (by kernel_rfl) (.agg (encB Z)) (hbu.out _ _ _ _ rfl rfl rfl) ?_
  simp only [Act.put, List.setIfInBounds_toArray, List.set_cons_zero, List.set_cons_succ]
  refine wpList_reads (by kernel_rfl) (.bool bk) (by go_simp) ?_
  simp only [Act.put, List.setIfInBounds_toArray, List.set_cons_zero, List.set_cons_succ]
  refine wpList_reads (by kernel_rfl) (.bool bk) (by go_simp) ?_
  simp only [Act.put, List.setIfInBounds_toArray, List.set_cons_zero, List.set_cons_succ]
  cases bk with
  | true =>
    refine wpList_reads (by kernel_rfl) (.bool bn) (by go_simp) ?_
    simp only [Act.put, List.setIfInBounds_toArray, List.set_cons_zero, List.set_cons_succ]
    refine wpList_reads (by kernel_rfl) (.bool bn) (by go_simp) ?_
    simp only [Act.put, List.setIfInBounds_toArray, List.set_cons_zero, List.set_cons_succ]
    refine wpList_store_to rfl _ _ _ rfl _ _ _ rfl rfl _ s8 ?_
    simp only [Act.put, List.setIfInBounds_toArray, List.set_cons_zero, List.set_cons_succ]
    refine wpList_reads (by kernel_rfl) (.bool bn) (by go_simp) ?_
    simp only [Act.put, List.setIfInBounds_toArray, List.set_cons_zero, List.set_cons_succ]
    clear s8 lk ln
    go_wp2
    refine bodyPost_ret (v := .tuple #[.agg (encB Z), .bool bn]) (results2SL rfl _ _ _ _ _ rfl rfl x8.out hkn.out) rfl ?_
    exact hfin.out _ mf.out
  | false =>
    refine wpList_skip (by kernel_rfl) ?_
    simp only [Act.put, List.setIfInBounds_toArray, List.set_cons_zero, List.set_cons_succ]
    refine wpList_reads (by kernel_rfl) (.bool false) (by go_simp) ?_
    simp only [Act.put, List.setIfInBounds_toArray, List.set_cons_zero, List.set_cons_succ]
    refine wpList_store_to rfl _ _ _ rfl _ _ _ rfl rfl _ s8 ?_
    simp only [Act.put, List.setIfInBounds_toArray, List.set_cons_zero, List.set_cons_succ]
    refine wpList_reads (by kernel_rfl) (.bool false) (by go_simp) ?_
    simp only [Act.put, List.setIfInBounds_toArray, List.set_cons_zero, List.set_cons_succ]
    clear s8 lk ln
    go_wp2
    refine bodyPost_ret (v := .tuple #[.agg (encB Z), .bool false]) (results2SL rfl _ _ _ _ _ rfl rfl x8.out hkn.out) rfl ?_
    exact hfin.out _ mf.out
end Go.Proofs.YtbiijcljpgannaaGreatDoor
