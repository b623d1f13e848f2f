/-
  What a reading of an argument tells: arrays of whole numbers, bytes that fit, a greeting.
-/
import Derived.WalkKit
import Derived.ProofKit
import Derived.OpenShut
import Derived.Test.YtkfikoacohogaaaDoorMA
import Derived.Test.YtkfikoacohogaaaDoorHs
namespace Go.Proofs.YtkfikoacohogaaaDoor
set_option maxRecDepth 100000
open Go Go.RowKit Go.WideShapes Go.Deep
set_option linter.unusedSimpArgs false
set_option linter.unusedVariables false
section
variable {H : Type} {enc : TypeId × Value → H} {P : Program} {w : World} {base : Nat} {spare : Nat → Bool} {held : Bool}
theorem trod_u8s {t E : TypeId} {N fuel : Nat} {cs : List Value} {x : DataW H × List MemPlace} (ht : P.underlying t = some (.array N E)) (hE : P.underlying E = some (.int .u8)) (hc : P.cellsOf E = 1) (hN : P.cellsOf t = N)
    (h : DataW.trod enc P w base spare held fuel t cs = some x) : ∃ bs : List (BitVec 8), bs.length = N ∧ cs = bytesV bs := by
  obtain ⟨xs, m, _, _, hl, hx, hi⟩ := DataW.trod_array ht h
  rw [hN] at hl
  have hcell : ∀ i, i < N → ∃ b : BitVec 8, cs[i]? = some (.int .u8 (b.toNat : Int)) := by
    intro i hlt
    have h1 := hi i hlt
    rw [hc, Nat.mul_one] at h1
    obtain ⟨y, hy⟩ : ∃ y, xs[i]? = some y := ⟨xs[i]'(by omega), by simp⟩
    rw [hy] at h1
    obtain ⟨n, hn, _, hw⟩ := DataW.trod_int hE h1
    obtain ⟨b, rfl⟩ := wf_u8 hw
    refine ⟨b, ?_⟩
    have : ((cs.drop i).take 1)[0]? = some (.int .u8 (b.toNat : Int)) := by rw [hn]; rfl
    simpa using this
  obtain ⟨bs, hbs⟩ := list_of_cells (fun b : BitVec 8 => Value.int .u8 (b.toNat : Int)) cs (fun i hlt => hcell i (by omega))
  exact ⟨bs, by rw [← hl, hbs, List.length_map], hbs⟩
theorem trod_u64s {t E : TypeId} {N fuel : Nat} {cs : List Value} {x : DataW H × List MemPlace} (ht : P.underlying t = some (.array N E)) (hE : P.underlying E = some (.int .u64)) (hc : P.cellsOf E = 1) (hN : P.cellsOf t = N)
    (h : DataW.trod enc P w base spare held fuel t cs = some x) : ∃ l : List Nat, l.length = N ∧ cs = nums .u64 l ∧ ∀ x ∈ l, x < 18446744073709551616 := by
  obtain ⟨xs, m, _, _, hl, hx, hi⟩ := DataW.trod_array ht h
  rw [hN] at hl
  have hcell : ∀ i, i < N → ∃ b : Fin 18446744073709551616, cs[i]? = some (.int .u64 ((b.val : Nat) : Int)) := by
    intro i hlt
    have h1 := hi i hlt
    rw [hc, Nat.mul_one] at h1
    obtain ⟨y, hy⟩ : ∃ y, xs[i]? = some y := ⟨xs[i]'(by omega), by simp⟩
    rw [hy] at h1
    obtain ⟨n, hn, _, hw⟩ := DataW.trod_int hE h1
    have hb := bounds_u64 hw
    refine ⟨⟨n.toNat, by omega⟩, ?_⟩
    have : ((cs.drop i).take 1)[0]? = some (.int .u64 ((n.toNat : Nat) : Int)) := by rw [hn, show ((n.toNat : Nat) : Int) = n by omega]; rfl
    simpa using this
  obtain ⟨bs, hbs⟩ := list_of_cells (fun b : Fin 18446744073709551616 => Value.int .u64 ((b.val : Nat) : Int)) cs (fun i hlt => hcell i (by omega))
  refine ⟨bs.map Fin.val, by rw [List.length_map, ← hl, hbs, List.length_map], by rw [hbs]; simp [nums], ?_⟩
  intro x hx
  obtain ⟨b, _, rfl⟩ := List.mem_map.1 hx
  exact b.isLt
end
theorem open_bytes_sized {H : Type} {enc : TypeId × Value → H} {w : World} {base : Nat} {spare : Nat → Bool} {held : Bool} {v : Value} {d : DataW H} {ps : List MemPlace} {r : Reach} {b2 : Nat} (hv : Value.okWide Tryd.prog w r b2 27 v)
    (h : DataW.Trod enc Tryd.prog w base spare held 27 v d ps) (hw : ∀ n ∈ d.weights Tryd.prog 27, n ≤ reachBytes) : ∃ bs, ByteAt w v bs ∧ bs.length ≤ 140737488351232 := by
  obtain ⟨a1, len, cap, rfl⟩ := okWide_slice Tryd.underlying27 hv
  obtain ⟨fuel, hf⟩ := h
  exact trod_bytes1 (y := (d, ps)) hf hw
theorem open_hello {H : Type} {enc : TypeId × Value → H} {w : World} {base : Nat} {spare : Nat → Bool} {held : Bool} {v : Value} {d : DataW H} {ps : List MemPlace} {r : Reach} {b2 : Nat} (hv : Value.okWide Tryd.prog w r b2 54 v)
    (h : DataW.Trod enc Tryd.prog w base spare held 54 v d ps) : ∃ hd : HD, v = .agg (helloC hd) ∧ hd.Ok := by
  unfold Value.okWide at hv
  rw [Tryd.underlying54] at hv
  obtain ⟨cs, rfl, _, _⟩ := hv
  obtain ⟨fuel, hf0⟩ := h
  have hf : DataW.trod enc Tryd.prog w base spare held fuel 54 cs.toList = some (d, ps) := hf0
  obtain ⟨xs, n, _, _, hl, hx, hi⟩ := DataW.trod_struct Tryd.underlying54 hf
  have cH : Tryd.prog.cellsOf 54 = 69 := by kernel_rfl
  have cK : Tryd.prog.cellsOf 50 = 1 := by kernel_rfl
  have c32 : Tryd.prog.cellsOf 22 = 32 := by kernel_rfl
  have c4 : Tryd.prog.cellsOf 52 = 4 := by kernel_rfl
  have c8 : Tryd.prog.cellsOf 5 = 1 := by kernel_rfl
  have c64 : Tryd.prog.cellsOf 51 = 1 := by kernel_rfl
  rw [cH] at hl
  have h0 : DataW.trod enc Tryd.prog w base spare held n 50 ((cs.toList.drop 0).take (Tryd.prog.cellsOf 50)) = xs[0]? := hi 0 _ rfl
  have h1 : DataW.trod enc Tryd.prog w base spare held n 22 ((cs.toList.drop 1).take (Tryd.prog.cellsOf 22)) = xs[1]? := hi 1 _ rfl
  have h2 : DataW.trod enc Tryd.prog w base spare held n 52 ((cs.toList.drop 33).take (Tryd.prog.cellsOf 52)) = xs[2]? := hi 2 _ rfl
  have h3 : DataW.trod enc Tryd.prog w base spare held n 22 ((cs.toList.drop 37).take (Tryd.prog.cellsOf 22)) = xs[3]? := hi 3 _ rfl
  obtain ⟨y0, e0⟩ : ∃ y, xs[0]? = some y := ⟨xs[0]'(by rw [hx]; decide), by simp⟩
  obtain ⟨y1, e1⟩ : ∃ y, xs[1]? = some y := ⟨xs[1]'(by rw [hx]; decide), by simp⟩
  obtain ⟨y2, e2⟩ : ∃ y, xs[2]? = some y := ⟨xs[2]'(by rw [hx]; decide), by simp⟩
  obtain ⟨y3, e3⟩ : ∃ y, xs[3]? = some y := ⟨xs[3]'(by rw [hx]; decide), by simp⟩
  rw [e0] at h0
  rw [e1] at h1
  rw [e2] at h2
  rw [e3] at h3
  obtain ⟨m, em, _, wm⟩ := DataW.trod_int Tryd.underlying50 h0
  obtain ⟨a, ha, ea⟩ := trod_u8s Tryd.underlying22 Tryd.underlying5 c8 c32 h1
  obtain ⟨l, hl4, el, ln⟩ := trod_u64s Tryd.underlying52 Tryd.underlying51 c64 c4 h2
  obtain ⟨p, hp, ep⟩ := trod_u8s Tryd.underlying22 Tryd.underlying5 c8 c32 h3
  have bm := bounds_u8 wm
  simp only [cK, c32, c4, List.drop_zero] at em ea el ep
  refine ⟨⟨m.toNat, a, l, p⟩, ?_, ⟨by simp only; omega, ha, hl4, ln, hp⟩⟩
  unfold helloC helloL
  simp only
  rw [← ea, ← el, ← ep, show ((m.toNat : Nat) : Int) = m by omega]
  congr 1
  have l37 : (cs.toList.drop 37).take 32 = cs.toList.drop 37 := List.take_of_length_le (by simp at hl ⊢; omega)
  have seg : ∀ i n : Nat, (cs.toList.drop i).take n ++ cs.toList.drop (i + n) = cs.toList.drop i := fun i n => by rw [← List.drop_drop, List.take_append_drop]
  rw [l37, seg 33 4, seg 1 32, ← List.singleton_append, ← em, List.take_append_drop]
end Go.Proofs.YtkfikoacohogaaaDoor
