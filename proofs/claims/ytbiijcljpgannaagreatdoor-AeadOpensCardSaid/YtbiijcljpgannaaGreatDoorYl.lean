/-
  mailcoachlaw06: a law's argument With; plain facts. Printed by gen/pa6.py.
-/
import Derived.WalkKit
import Derived.ProofKit
import Derived.OpenShut
import Derived.SizedLaws
import Derived.Test.YtbiijcljpgannaaGreatDoorBs
import Derived.Test.YtbiijcljpgannaaGreatDoorYk
namespace Go.Proofs.YtbiijcljpgannaaGreatDoor
set_option maxRecDepth 100000
open Go Go.RowKit Go.Lib Go.WideShapes Go.Deep
set_option linter.unusedSimpArgs false
set_option linter.unusedVariables false

theorem open_with {H : Type} {enc : TypeId × Value → H} {w : World} {base : Nat} {spare : Nat → Bool} {held : Bool} {v : Value} {d : DataW H} {ps : List MemPlace} {r : Reach} {b2 : Nat} (hv : Value.okWide Tryz.prog w r b2 24 v)
    (h : DataW.Trod enc Tryz.prog w base spare held 24 v d ps) (hw : ∀ n ∈ d.weights Tryz.prog 24, n ≤ reachBytes) :
    ∃ va vb vc a b c, v = .agg #[va, vb, vc] ∧ ByteAt w va a ∧ ByteAt w vb b ∧ ByteAt w vc c ∧ a.length ≤ 140737488351232 ∧ b.length ≤ 140737488351232 ∧ c.length ≤ 140737488351232 := by
  unfold Value.okWide at hv
  rw [Tryz.underlying24] at hv
  obtain ⟨cs, rfl, _, _⟩ := hv
  obtain ⟨fuel, hf0⟩ := h
  have hf : DataW.trod enc Tryz.prog w base spare held fuel 24 cs.toList = some (d, ps) := hf0
  obtain ⟨xs, n, _, hds, hl, hx, hi⟩ := DataW.trod_struct Tryz.underlying24 hf
  have cN : Tryz.prog.cellsOf 24 = 3 := by kernel_rfl
  have cB : Tryz.prog.cellsOf 22 = 1 := by kernel_rfl
  rw [cN] at hl
  have h0 : DataW.trod enc Tryz.prog w base spare held n 22 ((cs.toList.drop 0).take (Tryz.prog.cellsOf 22)) = xs[0]? := hi 0 _ rfl
  have h1 : DataW.trod enc Tryz.prog w base spare held n 22 ((cs.toList.drop 1).take (Tryz.prog.cellsOf 22)) = xs[1]? := hi 1 _ rfl
  have h2 : DataW.trod enc Tryz.prog w base spare held n 22 ((cs.toList.drop 2).take (Tryz.prog.cellsOf 22)) = xs[2]? := hi 2 _ rfl
  have hx3 : xs.length = 3 := hx
  obtain ⟨y0, y1, y2, rfl⟩ : ∃ a b c, xs = [a, b, c] := by
    match xs, hx3 with
    | [a, b, c], _ => exact ⟨a, b, c, rfl⟩
  obtain ⟨c0, c1, c2, hcs⟩ : ∃ a b c, cs.toList = [a, b, c] := by
    match cs.toList, hl with
    | [a, b, c], _ => exact ⟨a, b, c, rfl⟩
  rw [hcs, cB] at h0 h1 h2
  simp only [List.drop_zero, List.drop_succ_cons, List.take_succ_cons, List.take_zero, List.getElem?_cons_zero, List.getElem?_cons_succ] at h0 h1 h2
  have hd : d = DataW.agg [y0.1, y1.1, y2.1] := congrArg Prod.fst hds
  have hwe : ∀ (j : Nat) (t : TypeId) (e : DataW H), [22, 22, 22][j]? = some t → [y0.1, y1.1, y2.1][j]? = some e → ∀ k ∈ e.weights Tryz.prog t, k ≤ reachBytes := by
    intro j t e ht he k hk
    apply hw
    rw [hd, DataW.weights]
    simp only [Tryz.underlying24]
    exact DataW.weights_mem_each (ts := [22, 22, 22]) ht he k hk
  obtain ⟨a, hA, lA⟩ := trod_bytes1 (y := y0) h0 (hwe 0 _ _ rfl rfl)
  obtain ⟨b, hB, lB⟩ := trod_bytes1 (y := y1) h1 (hwe 1 _ _ rfl rfl)
  obtain ⟨c, hC, lC⟩ := trod_bytes1 (y := y2) h2 (hwe 2 _ _ rfl rfl)
  exact ⟨c0, c1, c2, a, b, c, by rw [← hcs], hA, hB, hC, lA, lB, lC⟩
theorem infoWT : (Tryz.prog.info? 24).map (·.size) = some 3 := by kernel_rfl
theorem loadWT {w : World} {g : Nat} {a b c : Value} (x : w.heap[g]? = some (.cells #[a, b, c] 24 (0,0))) : (loadVar 24 ⟨g, 0, none⟩).run Tryz.prog w = .ok (.agg #[a, b, c]) w :=
  load_mid w g 0 24 24 [] [a, b, c] [] (0,0) _ (by rw [x]; rfl) rfl Tryz.underlying24 rfl infoWT
theorem xorS_xorS (k n : List (BitVec 8)) (c : BitVec 32) (p : List (BitVec 8)) : Cc.xorS k n c (Cc.xorS k n c p) = p := by
  apply List.ext_getElem
  · simp [Cc.xorS]
  · intro i h1 h2
    have h3 : i < p.length := h2
    simp only [Cc.xorS, List.getElem_map, List.getElem_range]
    rw [List.getD_eq_getElem?_getD, List.getElem?_eq_getElem (by simpa using h3)]
    simp only [Option.getD_some, List.getElem_map, List.getElem_range]
    rw [List.getD_eq_getElem?_getD, List.getElem?_eq_getElem h3, Option.getD_some, BitVec.xor_assoc, BitVec.xor_self, BitVec.xor_zero]
theorem seal_cases (k n p b : List (BitVec 8)) : (sealE k n p b = 0 ∧ k.length = 32 ∧ n.length = 12 ∧ p.length ≤ 1048576 ∧ b.length ≤ 1048576 ∧ sealX k n p b = sealS k n p b) ∨ ((sealE k n p b = 1 ∨ sealE k n p b = 3) ∧ sealX k n p b = []) := by
  unfold sealE sealX
  by_cases h : k.length = 32 ∧ n.length = 12
  · by_cases h2 : p.length ≤ 1048576 ∧ b.length ≤ 1048576
    · exact .inl ⟨by rw [if_pos h, if_pos h2], h.1, h.2, h2.1, h2.2, by rw [if_pos ⟨h.1, h.2, h2.1, h2.2⟩]⟩
    · exact .inr ⟨by rw [if_pos h, if_neg h2]; exact .inr rfl, by rw [if_neg (fun ⟨_, _, h3, h4⟩ => h2 ⟨h3, h4⟩)]⟩
  · exact .inr ⟨by rw [if_neg h]; exact .inl rfl, by rw [if_neg (fun ⟨h3, h4, _, _⟩ => h ⟨h3, h4⟩)]⟩
theorem seal_split (k n p b : List (BitVec 8)) : (sealS k n p b).length - 16 = p.length ∧ (sealS k n p b).take p.length = Cc.xorS k n 1 p ∧ (sealS k n p b).drop p.length = aTag k n (Cc.xorS k n 1 p) b := by
  have h := sealS_length k n p b
  refine ⟨by omega, ?_, ?_⟩
  · unfold sealS
    rw [← xorS_lenY k n 1 p, List.take_left]
  · unfold sealS
    rw [← xorS_lenY k n 1 p, List.drop_left]
theorem open_seal {k n p b : List (BitVec 8)} (hk : k.length = 32) (hn : n.length = 12) (hp : p.length ≤ 1048576) (hb : b.length ≤ 1048576) : openE k n (sealS k n p b) b = 0 ∧ openX k n (sealS k n p b) b = p := by
  have h := sealS_length k n p b
  obtain ⟨h1, h2, h3⟩ := seal_split k n p b
  have hE : openE k n (sealS k n p b) b = 0 := by
    unfold openE
    rw [if_pos ⟨hk, hn⟩, if_neg (by omega), if_pos ⟨by omega, hb⟩, h1, h2, h3, if_pos rfl]
  refine ⟨hE, ?_⟩
  unfold openX
  rw [if_pos hE, h1, h2, xorS_xorS]
theorem open_short {k n s b : List (BitVec 8)} (hk : k.length = 32) (hn : n.length = 12) (hs : s.length < 16) : openE k n s b = 4 := by
  unfold openE
  rw [if_pos ⟨hk, hn⟩, if_pos hs]
theorem open_tag {k n p b : List (BitVec 8)} (hk : k.length = 32) (hn : n.length = 12) (hp : p.length ≤ 1048576) (hb : b.length ≤ 1048576) (K : Nat) (h1 : p.length ≤ K) (h2 : K < p.length + 16) (y : BitVec 8) (hy : y ≠ (sealS k n p b).getD K 0) :
    openE k n ((sealS k n p b).set K y) b = 11 ∧ openX k n ((sealS k n p b).set K y) b = [] := by
  have h := sealS_length k n p b
  obtain ⟨e1, e2, e3⟩ := seal_split k n p b
  have hE : openE k n ((sealS k n p b).set K y) b = 11 := by
    unfold openE
    rw [if_pos ⟨hk, hn⟩, List.length_set, if_neg (by omega), if_pos ⟨by omega, hb⟩, e1, if_neg]
    intro hq
    have t1 : ((sealS k n p b).set K y).take p.length = Cc.xorS k n 1 p := by rw [List.take_set_of_le h1, e2]
    rw [t1, ← e3] at hq
    have hd := congrArg (fun l => l.getD (K - p.length) 0) hq
    simp only [List.getD_eq_getElem?_getD, List.getElem?_drop, show p.length + (K - p.length) = K by omega] at hd
    rw [List.getElem?_set_self (by omega)] at hd
    exact hy (by rw [List.getD_eq_getElem?_getD, hd]; rfl)
  exact ⟨hE, by unfold openX; rw [hE, if_neg (by decide)]⟩
theorem ld_arr2 {w : World} {g i a b : Nat} {t : TypeId} (h : w.heap[g]? = some (.cells #[.int .u8 (a : Int), .int .u8 (b : Int)] t (0,0))) (hi : i = 0 ∨ i = 1) : (loadVar 5 ⟨g, i, none⟩).run Tryz.prog w = .ok (.int .u8 ((if i = 0 then a else b : Nat) : Int)) w := by
  have hc : w.cell? ⟨g, i, none⟩ = some (.int .u8 ((if i = 0 then a else b : Nat) : Int)) := by
    rw [cell_of_row _ _ _ _ _ _ h]
    rcases hi with rfl | rfl <;> rfl
  exact ld_u8P hc
end Go.Proofs.YtbiijcljpgannaaGreatDoor
