/-
  The ops and the parts of pieces, as they lie in memory; mailcoachlaw09.great.
-/
import Derived.Test.YtcpphhdbboiadaaRds
import Derived.Test.YtcpphhdbboiadaaPsq
namespace Go.Proofs.Ytcpphhdbboiadaa
open Go Go.RowKit Go.WideShapes Go.Deep
set_option linter.unusedSimpArgs false
set_option linter.unusedVariables false

structure OpD where
  a : Nat
  v : Value
  bs : List (BitVec 8)
  last : Bool
  take : Int
structure OpAt (w : World) (g off : Nat) (o : OpD) : Prop where
  c0 : w.cell? ⟨g, off, none⟩ = some (.int .u64 (o.a : Int))
  c1 : w.cell? ⟨g, off + 1, none⟩ = some o.v
  c2 : w.cell? ⟨g, off + 2, none⟩ = some (.bool o.last)
  c3 : w.cell? ⟨g, off + 3, none⟩ = some (.int .i64 o.take)
  b : ByteAt w o.v o.bs
  la : o.a < two64
  lb : o.bs.length ≤ 140737488351232
  lt : -9223372036854775808 ≤ o.take ∧ o.take < 9223372036854775808
def OpsAt (w : World) (x : Value) (l : List OpD) : Prop := ∃ ad cap, x = .slice ad l.length cap ∧ ∀ j o, l[j]? = some o → ∃ g off, ad = some ⟨g, off, none⟩ ∧ g < w.heap.size ∧ OpAt w g (off + j * 4) o
theorem cell_lt {w : World} {g i : Nat} {v : Value} (h : w.cell? ⟨g, i, none⟩ = some v) : g < w.heap.size := by
  by_cases hlt : g < w.heap.size
  · exact hlt
  · rw [World.cell?, Array.getElem?_eq_none (by simpa using hlt)] at h
    cases h
theorem OpAt.mod {S : Nat → Prop} {w w' : World} {g off : Nat} {o : OpD} (h : OpAt w g off o) (m : Mod S w w') (hS : ∀ k, k < w.heap.size → ¬ S k) : OpAt w' g off o := by
  have hg := hS g (cell_lt h.c0)
  exact ⟨cell_mod m h.c0 hg, cell_mod m h.c1 hg, cell_mod m h.c2 hg, cell_mod m h.c3 hg, h.b.mod m hS, h.la, h.lb, h.lt⟩

theorem open_ops {H : Type} {enc : TypeId × Value → H} {w : World} {base : Nat} {spare : Nat → Bool} {held : Bool} {v : Value} {d : DataW H} {ps : List MemPlace} {r : Reach} {b2 : Nat} (hv : Value.okWide Try.prog w r b2 42 v)
    (h : DataW.Trod enc Try.prog w base spare held 42 v d ps) (hw : ∀ n ∈ d.weights Try.prog 42, n ≤ reachBytes) : ∃ l, OpsAt w v l ∧ l.length ≤ 140737488351232 := by
  obtain ⟨a1, len, cap, rfl⟩ := okWide_slice Try.underlying42 hv
  obtain ⟨fuel, hf⟩ := h
  rcases open_slice_fields Try.underlying42 Try.underlying45 (by kernel_rfl) (by kernel_rfl) hf with ⟨hcs, hx⟩ | ⟨a, len', cap', m, D, Pl, hcs, _, hl, hm, hmm, hx, hi⟩
  · simp [Value.cells] at hcs
    obtain ⟨rfl, rfl, rfl⟩ := hcs
    exact ⟨[], ⟨none, 0, rfl, fun j o h => by simp at h⟩, by simp⟩
  · simp [Value.cells] at hcs
    obtain ⟨rfl, rfl, rfl⟩ := hcs
    have hle : len ≤ m := by rw [hmm]; split <;> omega
    have hxd := congrArg Prod.fst hx
    simp only at hxd
    subst hxd
    have hsz := fits_slice Try.underlying42 hw
    have hre : reachBytes = 140737488351232 := rfl
    rw [show Try.prog.bytesOf 45 = 48 by kernel_rfl] at hsz
    simp only [List.length_map, List.length_range] at hsz
    obtain ⟨g, off, spot⟩ := a
    have hsp : 0 < len → spot = none := by
      intro h0
      obtain ⟨ys, n, _, _, _, hfl⟩ := hi 0 (by omega)
      obtain ⟨v0, y0, hc0, _, _⟩ := hfl 0 _ rfl
      simpa [Addr.add] using World.cell?_spot hc0
    obtain ⟨l, h1, h2⟩ := list_choose (Q := fun i o => (Addr.mk g off spot).spot = none ∧ OpAt w g (off + i * 4) o) len (fun i hil => by
      obtain ⟨ys, n, hD, _, hyl, hfl⟩ := hi i (by omega)
      have hwi := fits_elem Try.underlying42 hw (i := i) (d := D i) (by rw [List.getElem?_map, List.getElem?_range hil]; rfl)
      rw [hD] at hwi
      obtain ⟨v0, y0, hc0, hy0, t0⟩ := hfl 0 _ rfl
      obtain ⟨v1, y1, hc1, hy1, t1⟩ := hfl 1 _ rfl
      obtain ⟨v2, y2, hc2, hy2, t2⟩ := hfl 2 _ rfl
      obtain ⟨v3, y3, hc3, hy3, t3⟩ := hfl 3 _ rfl
      have hspot := hsp (by omega)
      subst hspot
      obtain ⟨n0, e0, _, w0⟩ := DataW.trod_int Try.underlying30 t0
      obtain ⟨bs, hb, hbl⟩ := trod_bytes1 t1 (fits_field Try.underlying45 hwi (j := 1) rfl (by rw [List.getElem?_map, hy1]; rfl))
      obtain ⟨q2, e2, _⟩ := DataW.trod_bool Try.underlying4 t2
      obtain ⟨n3, e3, _, w3⟩ := DataW.trod_int Try.underlying3 t3
      simp only [List.cons.injEq, and_true] at e0 e2 e3
      subst e0 e2 e3
      have b0 := bounds_u64 w0
      have b3 := bounds_i64 w3
      obtain ⟨a, rfl⟩ : ∃ a : Nat, n0 = (a : Int) := ⟨n0.toNat, by omega⟩
      refine ⟨⟨a, v1, bs, q2, n3⟩, rfl, ?_⟩
      rw [Addr.add_lit] at hc0 hc1 hc2 hc3
      exact ⟨hc0, hc1, hc2, hc3, hb, by show a < two64; unfold two64; omega, hbl, by show -9223372036854775808 ≤ n3 ∧ n3 < 9223372036854775808; omega⟩)
    refine ⟨l, ⟨some ⟨g, off, spot⟩, cap, by rw [h1], fun j o hj => ?_⟩, by omega⟩
    obtain ⟨h3, h4⟩ := h2 j o hj
    simp only at h3
    subst h3
    exact ⟨g, off, rfl, cell_lt h4.c0, h4⟩

def GreatEnd (l : List OpD) (w : World) (e : Ending) (w' : World) : Prop := Mod (fun _ => False) w w' ∧ ∃ b, e = .returned (.bool b) ∧ (b = false → ∀ (j : Nat) (o : OpD), l[j]? = some o → o.bs.length ≤ 100000)
set_option maxHeartbeats 1000000 in
theorem great_any (x : Value) (l : List OpD) (w : World) (h : OpsAt w x l) (hl : l.length ≤ 140737488351232) :
    Calls Try.prog 13 #[x] w (GreatEnd l w) := by
  obtain ⟨ad, cap, rfl, hx⟩ := h
  generalize en : l.length = n at *
  have bn : (n : Int) ≤ 140737488351232 := by omega
  have bn0 : (0 : Int) ≤ (n : Int) := by omega
  replace hx := Lib.hid hx
  replace en := Lib.hid en
  clear hl
  go_enter Try.func13, Try.ntmps13
  go_wp2
  go_loopw [3, 4] (fun s i wr => ∃ k m : Nat, k ≤ n ∧ i = .int .i64 k ∧ s = .int .i64 m ∧ m ≤ 281474976802464 ∧ (m ≤ 100000 → ∀ (j : Nat) (o : OpD), j < k → l[j]? = some o → o.bs.length ≤ 100000) ∧ Mod (fun _ => False) w wr) (fun _ i _ => n - (intOf i).toNat)
  case atStart => exact ⟨0, n, Nat.zero_le _, rfl, rfl, by omega, fun _ j o h => by omega, Mod.refl _ _⟩
  case round =>
    obtain ⟨k, m, hk, rfl, rfl, hm, hall, mr⟩ := hrel
    have bm : (m : Int) ≤ 281474976802464 := by omega
    have bm0 : (0 : Int) ≤ (m : Int) := by omega
    by_cases hlt : k < n
    · have hd : decide ((k : Int) < (n : Int)) = true := by simpa using hlt
      by_cases hg : m ≤ 100000
      · have hd2 : decide ((m : Int) ≤ 100000) = true := by rw [decide_eq_true_iff]; omega
        obtain ⟨o, ho⟩ : ∃ o, l[k]? = some o := ⟨l[k]'(by rw [en.out]; exact hlt), List.getElem?_eq_getElem _⟩
        obtain ⟨g, off, rfl, hgl, hop⟩ := hx.out k o ho
        obtain ⟨bd, bc, hv, _⟩ := hop.b.slice
        have c1 := cell_mod mr hop.c1 (fun h => h)
        rw [hv] at c1
        have lb := hop.lb
        have hlt' : (k : Int) < (n : Int) := by omega
        have h0 : (0 : Int) ≤ (k : Int) := by omega
        obtain ⟨q, hq⟩ : ∃ q, q = o.bs.length := ⟨_, rfl⟩
        rw [← hq] at c1 lb
        have bq : (q : Int) ≤ 140737488351232 := by omega
        have bq0 : (0 : Int) ≤ (q : Int) := by omega
        have bm1 : (m : Int) ≤ 100000 := by omega
        replace hall := Lib.hid hall
        replace hq := Lib.hid hq
        replace ho := Lib.hid ho
        replace mr := Lib.hid mr
        clear hop hv
        go_wp2
        go_roundw
        case measure => simp [intOf]; omega
        case rel =>
          refine ⟨k + 1, m + q, by omega, by go_num, by go_num, by omega, fun h j o' hj ho' => ?_, mr.out⟩
          by_cases e : j = k
          · subst e
            rw [ho.out] at ho'
            injection ho' with ho'
            subst ho'
            have := hq.out
            omega
          · exact hall.out hg j o' (by omega) ho'
      · have hd2 : decide ((m : Int) ≤ 100000) = false := by rw [decide_eq_false_iff_not]; omega
        have hd3 : decide ((100000 : Int) < (m : Int)) = true := by rw [decide_eq_true_iff]; omega
        clear hg hall
        go_wp2
        go_ret
        exact ⟨mr, true, rfl, fun h => by cases h⟩
    · obtain rfl : k = n := by omega
      have hd : decide ((k : Int) < (k : Int)) = false := by simp
      by_cases hg : m ≤ 100000
      · have hd3 : decide ((100000 : Int) < (m : Int)) = false := by rw [decide_eq_false_iff_not]; omega
        have hfin := hall hg
        replace hfin := Lib.hid hfin
        clear hg hall
        go_wp2
        go_ret
        exact ⟨mr, false, rfl, fun _ j o ho => hfin.out j o (by have := en.out; rw [← this]; exact (List.getElem?_eq_some_iff.1 ho).1) ho⟩
      · have hd3 : decide ((100000 : Int) < (m : Int)) = true := by rw [decide_eq_true_iff]; omega
        clear hg hall
        go_wp2
        go_ret
        exact ⟨mr, true, rfl, fun h => by cases h⟩
end Go.Proofs.Ytcpphhdbboiadaa
