/-
  keys.Of. Printed by gen/kn3.py.
-/
import Derived.Test.YtppjnkgmbmhlcaaGreatDoorN2
namespace Go.Proofs.YtppjnkgmbmhlcaaGreatDoor
set_option maxRecDepth 100000
open Go Go.RowKit Go.Lib
set_option linter.unusedSimpArgs false
set_option linter.unusedVariables false

def nilV : Value := .slice none 0 0
theorem zeroKeys (w : World) : (zeroValue 49).run Tryz.prog w = .ok (.agg #[.slice none 0 0, .slice none 0 0, .slice none 0 0]) w := by kernel_rfl
theorem alloc_keys (w : World) (ev : Operand → Value) (o : Oper) (ho : o.op = .alloc 49) : (execOp ev o).run Tryz.prog w = .ok (.value (.pointer (some ⟨w.heap.size, 0, none⟩))) (w.alloc (.cells #[.slice none 0 0, .slice none 0 0, .slice none 0 0] 49)) := by
  unfold execOp
  simp [ho, Instr.alloc, Sem.run_bind, zeroKeys, newVar, newRow, Value.cells]
theorem infoKeys : (Tryz.prog.info? 49).map (·.size) = some 3 := by kernel_rfl
theorem keys_load {w : World} {g : Nat} {a b c : Value} (x1 : w.heap[g]? = some (.cells #[a, b, c] 49 (0,0))) : (loadVar 49 ⟨g, 0, none⟩).run Tryz.prog w = .ok (.agg #[a, b, c]) w :=
  load_mid w g 0 _ _ [] [a, b, c] [] (0,0) _ x1 rfl Tryz.underlying49 rfl infoKeys
theorem keys_store {w : World} {g : Nat} {a b c x y z : Value} (x1 : w.heap[g]? = some (.cells #[a, b, c] 49 (0,0))) (h1 : x.oneCell' = true) (h2 : y.oneCell' = true) (h3 : z.oneCell' = true) :
    ∃ w', (storeVar 49 ⟨g, 0, none⟩ (.agg #[x, y, z])).run Tryz.prog w = .ok () w' ∧ Mod (fun k => k = g) w w' ∧ w'.heap[g]? = some (.cells #[x, y, z] 49 (0,0)) := by
  obtain ⟨w', h, h4, h5⟩ := store_mid (P := Tryz.prog) w g 0 49 49 [] [a, b, c] [] [x, y, z] (by rw [x1]; simp) rfl rfl infoKeys (by intro v hv; simp at hv; rcases hv with rfl | rfl | rfl <;> assumption)
  exact ⟨w', h, h4, by rw [h5]; simp⟩
theorem results_keys {fn : Func} {p q : Tmp} (h : fn.results = #[.cell p 49, .tmp q]) (tmps : Array Value) (w : World) (g : Nat) (a b c : Value) (r : Value) (h1 : tmps.getD p undef = .pointer (some ⟨g, 0, none⟩)) (h2 : tmps.getD q undef = r)
    (x : w.heap[g]? = some (.cells #[a, b, c] 49 (0,0))) : (results fn tmps).run Tryz.prog w = .ok (.tuple #[.agg #[a, b, c], r]) w := by
  have h1' : tmps[p]?.getD undef = .pointer (some ⟨g, 0, none⟩) := by simpa using h1
  have h2' : tmps[q]?.getD undef = r := by simpa using h2
  simp [results, h, Sem.run_bind, h1', h2', keys_load x, asAddr]
theorem own_one {w : World} {base n size : Nat} {e : TypeId} {v : Value} {xs : List Value} (h : w.ownsRow base e size v n xs) : v.oneCell' = true := by
  obtain ⟨a, c, e⟩ := ownSlice1 h
  rw [e]
  rfl
theorem KeysAt.base {w : World} {base base' i : Nat} {k : List (BitVec 8)} {vs : Nat → Value} (h : KeysAt w base k vs i) (hb : base' ≤ base) : KeysAt w base' k vs i := ⟨fun j hj => ownsRow_base0 (h.own j hj) hb, h.apart⟩
/-- What keys.Of answers. -/
def OfEnd (k : List (BitVec 8)) (w : World) (e : Ending) (w' : World) : Prop :=
  Mod (fun _ => False) w w' ∧ if k.length = 32 then ∃ vs, KeysAt w' w.heap.size k vs 3 ∧ e = .returned (.tuple #[.agg #[vs 0, vs 1, vs 2], .int .i64 0])
    else e = .returned (.tuple #[.agg #[.slice none 0 0, .slice none 0 0, .slice none 0 0], .int .i64 1])

set_option maxRecDepth 100000 in
set_option maxHeartbeats 4000000 in
theorem Of_any (vk : Value) (k : List (BitVec 8)) (w : World) (hk : ByteAt w vk k) (hkl : k.length < 4611686018427387904) :
    Calls Tryz.prog 16 #[vk] w (OfEnd k w) := by
  obtain ⟨ak, ck, rfl, hblk⟩ := hk.slice
  obtain ⟨m, hm⟩ : ∃ m, m = k.length := ⟨_, rfl⟩
  rw [← hm] at hk hkl ⊢
  have bm0 : (0 : Int) ≤ (m : Int) := by omega
  obtain ⟨w1, hw1⟩ : ∃ x, x = w.alloc (.cells #[.slice none 0 0, .slice none 0 0, .slice none 0 0] 49) := ⟨_, rfl⟩
  obtain ⟨R, hR⟩ : ∃ g, g = w.heap.size := ⟨_, rfl⟩
  have m1 : Mod (fun _ => False) w w1 := by rw [hw1]; exact (Mod.refl _ _).alloc _
  have x1 : w1.heap[R]? = some (.cells #[.slice none 0 0, .slice none 0 0, .slice none 0 0] 49 (0,0)) := by rw [hw1]; exact hp_new _ _ _ hR
  obtain ⟨w2, hw2⟩ : ∃ x, x = w1.alloc (.cells #[.slice none 0 0, .slice none 0 0, .slice none 0 0] 49) := ⟨_, rfl⟩
  obtain ⟨G, hG⟩ : ∃ g, g = w1.heap.size := ⟨_, rfl⟩
  have m2 : Mod (fun _ => False) w1 w2 := by rw [hw2]; exact (Mod.refl _ _).alloc _
  have x2 : w2.heap[G]? = some (.cells #[.slice none 0 0, .slice none 0 0, .slice none 0 0] 49 (0,0)) := by rw [hw2]; exact hp_new _ _ _ hG
  have xR2 := m2.heap x1 (fun h => h)
  have hRG : R < G := by rw [hG]; exact lt_of_heap x1
  have m02 := m1.trans m2
  have hk2 := hk.mod m02 (fun _ _ h => h)
  have hRw : w.heap.size ≤ R := by omega
  replace hw1 := Lib.hid hw1
  replace hR := Lib.hid hR
  replace hw2 := Lib.hid hw2
  replace hG := Lib.hid hG
  replace hm := Lib.hid hm
  replace hk2 := Lib.hid hk2
  replace x2 := Lib.hid x2
  replace xR2 := Lib.hid xR2
  replace m02 := Lib.hid m02
  replace hblk := Lib.hid hblk
  clear m1 x1 m2 hk
  go_enter Tryz.func16, Tryz.ntmps16
  go_upto_region 0 with (fail)
  refine wp_region_lit ?_
  refine wpList_yields (by kernel_rfl) _ _ (alloc_keys _ _ _ rfl) ?_
  simp only [Act.put, List.setIfInBounds_toArray, List.set_cons_zero, List.set_cons_succ]
  rw [← hR.out, ← hw1.out]
  refine wpList_reads (by kernel_rfl) (.int .i64 0) (by go_simp) ?_
  simp only [Act.put, List.setIfInBounds_toArray, List.set_cons_zero, List.set_cons_succ]
  go_upto_region 1 with (fail)
  refine wp_region_lit ?_
  refine wpList_yields (by kernel_rfl) _ _ (alloc_keys _ _ _ rfl) ?_
  simp only [Act.put, List.setIfInBounds_toArray, List.set_cons_zero, List.set_cons_succ]
  rw [← hG.out, ← hw2.out]
  by_cases h32 : m = 32
  · have hkl32 : k.length = 32 := by rw [← hm.out]; exact h32
    subst h32
    have hd : decide (((32 : Nat) : Int) = 32) = true := rfl
    have hkG : (Value.slice ak 32 ck).ownBlock ≠ some G := by
      intro h
      obtain ⟨g, off, e1, e2, _⟩ := hblk.out 0 (by omega)
      rw [e1] at h
      injection h with h
      have h2 : g = G := h
      omega
    obtain ⟨w3, hw3⟩ : ∃ x, x = w2.alloc (.cells (toC G).toArray 68) := ⟨_, rfl⟩
    obtain ⟨gt, hgt⟩ : ∃ g, g = w2.heap.size := ⟨_, rfl⟩
    have m3 : Mod (fun _ => False) w2 w3 := by rw [hw3]; exact (Mod.refl _ _).alloc _
    have x3 : w3.heap[gt]? = some (.cells (toC G).toArray 68 (0,0)) := by rw [hw3]; exact hp_new _ _ _ hgt
    obtain ⟨w4, hw4⟩ : ∃ x, x = w3.alloc (.cells wantC.toArray 71) := ⟨_, rfl⟩
    obtain ⟨gl, hgl⟩ : ∃ g, g = w3.heap.size := ⟨_, rfl⟩
    have m4 : Mod (fun _ => False) w3 w4 := by rw [hw4]; exact (Mod.refl _ _).alloc _
    have x4 : w4.heap[gl]? = some (.cells wantC.toArray 71 (0,0)) := by rw [hw4]; exact hp_new _ _ _ hgl
    have hGt : G < gt := by rw [hgt]; exact lt_of_heap x2.out
    have htl : gt < gl := by rw [hgl]; exact lt_of_heap x3
    have m24 := m3.trans m4
    have x34 := m4.heap x3 (fun h => h)
    have x24 := m24.heap x2.out (fun h => h)
    have xR4 := m24.heap xR2.out (fun h => h)
    have hk4 := hk2.out.mod m24 (fun _ _ h => h)
    have m04 := m02.out.trans m24
    replace hw3 := Lib.hid hw3
    replace hgt := Lib.hid hgt
    replace hw4 := Lib.hid hw4
    replace hgl := Lib.hid hgl
    replace hkl32 := Lib.hid hkl32
    replace m04 := Lib.hid m04
    replace xR4 := Lib.hid xR4
    clear m3 x3 m4 m24
    go_upto_region 4 with (fail)
    refine wp_region_lit ?_
    refine wpList_reads (by kernel_rfl) (.slice ak 32 ck) (by go_simp) ?_
    simp only [Act.put, List.setIfInBounds_toArray, List.set_cons_zero, List.set_cons_succ]
    refine wpList_reads (by kernel_rfl) (.pointer (some ⟨G, 0, none⟩)) (by go_simp) ?_
    simp only [Act.put, List.setIfInBounds_toArray, List.set_cons_zero, List.set_cons_succ]
    refine wpList_reads (by kernel_rfl) (.pointer (some ⟨G, 1, none⟩)) (by go_simp) ?_
    simp only [Act.put, List.setIfInBounds_toArray, List.set_cons_zero, List.set_cons_succ]
    refine wpList_reads (by kernel_rfl) (.pointer (some ⟨G, 2, none⟩)) (by go_simp) ?_
    simp only [Act.put, List.setIfInBounds_toArray, List.set_cons_zero, List.set_cons_succ]
    refine wpList_yields (by kernel_rfl) (.slice (some ⟨gt, 0, none⟩) 3 3) w3 (by rw [hw3.out, hgt.out]; unfold toC; go_simp) ?_
    simp only [Act.put, List.setIfInBounds_toArray, List.set_cons_zero, List.set_cons_succ]
    refine wpList_reads (by kernel_rfl) (.agg #[.string { data := #[107, 101, 121] }, .int .i64 32]) (by go_simp) ?_
    simp only [Act.put, List.setIfInBounds_toArray, List.set_cons_zero, List.set_cons_succ]
    refine wpList_reads (by kernel_rfl) (.agg #[.string { data := #[105, 118] }, .int .i64 12]) (by go_simp) ?_
    simp only [Act.put, List.setIfInBounds_toArray, List.set_cons_zero, List.set_cons_succ]
    refine wpList_reads (by kernel_rfl) (.agg #[.string { data := #[104, 112] }, .int .i64 32]) (by go_simp) ?_
    simp only [Act.put, List.setIfInBounds_toArray, List.set_cons_zero, List.set_cons_succ]
    refine wpList_yields (by kernel_rfl) (.slice (some ⟨gl, 0, none⟩) 3 3) w4 (by rw [hw4.out, hgl.out, show wantC.toArray = #[.string { data := #[107, 101, 121] }, .int .i64 32, .string { data := #[105, 118] }, .int .i64 12, .string { data := #[104, 112] }, .int .i64 32] from rfl]; go_simp) ?_
    simp only [Act.put, List.setIfInBounds_toArray, List.set_cons_zero, List.set_cons_succ]
    refine wpList_enter (by kernel_rfl) 67 #[.slice ak 32 ck, .slice (some ⟨gt, 0, none⟩) 3 3, .slice (some ⟨gl, 0, none⟩) 3 3] (by go_simp) (all_any _ k G gt gl _ 0 w4 hk4 (by rw [hkl32.out]; omega) x24 x34 x4 (by omega) (by omega) hkG) ?_
    rintro e w5 ⟨rfl, m5, vs, hvs, x5⟩
    have xR5 := m5.heap xR4.out (by omega)
    obtain ⟨wz, sz, mz, xz⟩ := keys_store xR5 (own_one (hvs.own 0 (by omega))) (own_one (hvs.own 1 (by omega))) (own_one (hvs.own 2 (by omega)))
    have h4w : w.heap.size ≤ w4.heap.size := m04.out.size
    have hR4 : R < w4.heap.size := lt_of_heap xR4.out
    have hvz := (hvs.keep mz (fun x h1 h2 => by omega)).base h4w
    have mfz : Mod (fun _ => False) w wz := (m04.out.trans' m5 (fun x hx h => by omega)).trans' mz (fun x hx h => by omega)
    have hfin : OfEnd k w (.returned (.tuple #[.agg #[vs 0, vs 1, vs 2], .int .i64 0])) wz := ⟨mfz, by rw [if_pos hkl32.out]; exact ⟨vs, hvz, rfl⟩⟩
    replace hfin := Lib.hid hfin
    replace x5 := Lib.hid x5
    replace xz := Lib.hid xz
    clear m5 hvs xR5 mz hvz mfz x34 x4 x24 hk4
    refine ⟨_, rfl, ?_⟩
    simp only [Act.put, List.setIfInBounds_toArray, List.set_cons_zero, List.set_cons_succ]
    go_upto_region 5 with (fail)
    refine wp_region_lit ?_
    refine wpList_reads (by kernel_rfl) (.agg #[vs 0, vs 1, vs 2]) (run_load_op rfl rfl (keys_load x5.out)) ?_
    simp only [Act.put, List.setIfInBounds_toArray, List.set_cons_zero, List.set_cons_succ]
    refine wpList_store_to rfl _ _ _ rfl _ _ _ rfl rfl _ sz ?_
    simp only [Act.put, List.setIfInBounds_toArray, List.set_cons_zero, List.set_cons_succ]
    refine wpList_reads (by kernel_rfl) (.int .i64 0) (by go_simp) ?_
    simp only [Act.put, List.setIfInBounds_toArray, List.set_cons_zero, List.set_cons_succ]
    go_wp2
    exact bodyPost_ret (v := .tuple #[.agg #[vs 0, vs 1, vs 2], .int .i64 0]) (results_keys rfl _ _ _ _ _ _ _ rfl rfl xz.out) rfl hfin.out
  · have hd : ((m : Int) != 32) = true := by rw [bne_iff_ne]; omega
    have hkl32 : ¬ k.length = 32 := by rw [← hm.out]; exact h32
    obtain ⟨wz, sz, mz, xz⟩ := keys_store xR2.out (x := .slice none 0 0) (y := .slice none 0 0) (z := .slice none 0 0) rfl rfl rfl
    have hfin : OfEnd k w (.returned (.tuple #[.agg #[.slice none 0 0, .slice none 0 0, .slice none 0 0], .int .i64 1])) wz := ⟨m02.out.trans' mz (fun x hx h => by omega), by rw [if_neg hkl32]⟩
    replace hfin := Lib.hid hfin
    clear mz hkl32 h32
    go_upto_region 3 with (fail)
    refine wp_region_lit ?_
    refine wpList_reads (by kernel_rfl) (.agg #[.slice none 0 0, .slice none 0 0, .slice none 0 0]) (run_load_op rfl rfl (keys_load x2.out)) ?_
    simp only [Act.put, List.setIfInBounds_toArray, List.set_cons_zero, List.set_cons_succ]
    refine wpList_store_to rfl _ _ _ rfl _ _ _ rfl rfl _ sz ?_
    simp only [Act.put, List.setIfInBounds_toArray, List.set_cons_zero, List.set_cons_succ]
    refine wpList_reads (by kernel_rfl) (.int .i64 1) (by go_simp) ?_
    simp only [Act.put, List.setIfInBounds_toArray, List.set_cons_zero, List.set_cons_succ]
    go_wp2
    exact bodyPost_ret (v := .tuple #[.agg #[.slice none 0 0, .slice none 0 0, .slice none 0 0], .int .i64 1]) (results_keys rfl _ _ _ _ _ _ _ rfl rfl xz) rfl hfin.out
end Go.Proofs.YtppjnkgmbmhlcaaGreatDoor
