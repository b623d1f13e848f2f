/-
  keys.Next; mailcoachref12.Of, Next; SameKeys; Book.Keys. Printed by gen/ko1.py.
-/
import Derived.Test.YtppjnkgmbmhlcaaGreatDoorN3
import Derived.Test.YtppjnkgmbmhlcaaGreatDoorR8
import Derived.Test.YtppjnkgmbmhlcaaGreatDoorBt
namespace Go.Proofs.YtppjnkgmbmhlcaaGreatDoor
set_option maxRecDepth 100000
open Go Go.RowKit Go.Lib
set_option linter.unusedSimpArgs false
set_option linter.unusedVariables false

theorem ld_sl {w : World} {g off n c : Nat} {a : Option Addr} (hc : w.cell? ⟨g, off, none⟩ = some (.slice a n c)) : (loadVar 22 ⟨g, off, none⟩).run Tryz.prog w = .ok (.slice a n c) w := by go_simp
def ofE (k : List (BitVec 8)) : Int := if k.length = 32 then 0 else 1
def ofX (k : List (BitVec 8)) (j : Nat) : List (BitVec 8) := if k.length = 32 then keyB k j else []
def kuS : ByteArray := { data := #[113, 117, 105, 99, 32, 107, 117] }
def nextX (k : List (BitVec 8)) : List (BitVec 8) := if k.length = 32 then expandB (keyS k) (labelI kuS [] 32) 32 else []
theorem ofX_length (k : List (BitVec 8)) (j : Nat) : (ofX k j).length ≤ 32 := by
  unfold ofX
  split
  · rw [keyB_length]; unfold lenK; split <;> omega
  · simp
theorem nextX_length (k : List (BitVec 8)) : (nextX k).length ≤ 32 := by
  unfold nextX
  split
  · rw [expandB_length]; omega
  · simp
/-- Three rows of one's own, apart. -/
structure KeysR (w : World) (base : Nat) (X : Nat → List (BitVec 8)) (vs : Nat → Value) : Prop where
  row : ∀ j, j < 3 → ClipR w base (vs j) (X j).length (bytesV (X j))
  apart : ∀ j l, j < 3 → l < 3 → j ≠ l → ∀ x, (vs j).ownBlock = some x → (vs l).ownBlock = some x → False
theorem KeysR.keep0 {w w' : World} {base : Nat} {X : Nat → List (BitVec 8)} {vs : Nat → Value} (h : KeysR w base X vs) (m : Mod (fun _ => False) w w') : KeysR w' base X vs := ⟨fun j hj => clip_keep0 (h.row j hj) m, h.apart⟩
theorem KeysR.base0 {w : World} {base base' : Nat} {X : Nat → List (BitVec 8)} {vs : Nat → Value} (h : KeysR w base X vs) (hb : base' ≤ base) : KeysR w base' X vs := ⟨fun j hj => clip_base0 (h.row j hj) hb, h.apart⟩
theorem KeysR.below {w w' : World} {base B : Nat} {X : Nat → List (BitVec 8)} {vs : Nat → Value} (h : KeysR w base X vs) (m : Mod (fun k => B ≤ k) w w') (hB : ∀ j, j < 3 → ∀ k, (vs j).ownBlock = some k → k < B) : KeysR w' base X vs := ⟨fun j hj => clip_below (h.row j hj) m (hB j hj), h.apart⟩
theorem KeysR.in_ {w : World} {base : Nat} {X : Nat → List (BitVec 8)} {vs : Nat → Value} (h : KeysR w base X vs) : ∀ j, j < 3 → ∀ k, (vs j).ownBlock = some k → base ≤ k ∧ k < w.heap.size := fun j hj k hk => clip_in (h.row j hj) hk
theorem KeysR.one {w : World} {base : Nat} {X : Nat → List (BitVec 8)} {vs : Nat → Value} (h : KeysR w base X vs) : ∀ j, j < 3 → (vs j).oneCell' = true := by
  intro j hj
  obtain ⟨a, c, e⟩ := clip_slice (h.row j hj)
  rw [e]
  rfl
theorem clip_nil (w : World) (base : Nat) : ClipR w base (.slice none 0 0) 0 (bytesV []) := .of (World.ownsRow_nil _ _ _ _)
theorem KeysR.nil (w : World) (base : Nat) : KeysR w base (fun _ => []) (fun _ => .slice none 0 0) := ⟨fun _ _ => clip_nil _ _, fun _ _ _ _ _ x h => by cases h⟩
/-- What keys.Of and the document's Of answer. -/
def OfAll (k : List (BitVec 8)) (w : World) (e : Ending) (w' : World) : Prop :=
  Mod (fun _ => False) w w' ∧ ∃ vs, e = .returned (.tuple #[.agg #[vs 0, vs 1, vs 2], .int .i64 (ofE k)]) ∧ KeysR w' w.heap.size (ofX k) vs
def NextEnd (k : List (BitVec 8)) (w : World) (e : Ending) (w' : World) : Prop :=
  Mod (fun _ => False) w w' ∧ ∃ v, e = .returned (.tuple #[v, .int .i64 (ofE k)]) ∧ ClipR w' w.heap.size v (nextX k).length (bytesV (nextX k))
theorem KeysAt.rows {w : World} {base : Nat} {k : List (BitVec 8)} {vs : Nat → Value} (h : KeysAt w base k vs 3) (hk : k.length = 32) : KeysR w base (ofX k) vs :=
  ⟨fun j hj => by unfold ofX; rw [if_pos hk, keyB_length]; exact .of (h.own j hj), h.apart⟩
theorem ofX_short {k : List (BitVec 8)} (hk : ¬ k.length = 32) : ofX k = fun _ => [] := by
  funext j
  unfold ofX
  rw [if_neg hk]
theorem OfEnd.uni {k : List (BitVec 8)} {w w' : World} {e : Ending} (h : OfEnd k w e w') : OfAll k w e w' := by
  obtain ⟨m, h⟩ := h
  refine ⟨m, ?_⟩
  by_cases hk : k.length = 32
  · rw [if_pos hk] at h
    obtain ⟨vs, h1, h2⟩ := h
    exact ⟨vs, by unfold ofE; rw [if_pos hk]; exact h2, h1.rows hk⟩
  · rw [if_neg hk] at h
    exact ⟨fun _ => .slice none 0 0, by unfold ofE; rw [if_neg hk]; exact h, by rw [ofX_short hk]; exact KeysR.nil _ _⟩

set_option maxRecDepth 100000 in
set_option maxHeartbeats 4000000 in
theorem next_any (vk : Value) (k : List (BitVec 8)) (w : World) (hk : ByteAt w vk k) (hkl : k.length < 4611686018427387904) :
    Calls Tryz.prog 17 #[vk] w (NextEnd k w) := by
  obtain ⟨ak, ck, rfl, _⟩ := hk.slice
  obtain ⟨m, hm⟩ : ∃ m, m = k.length := ⟨_, rfl⟩
  rw [← hm] at hk hkl ⊢
  have bm0 : (0 : Int) ≤ (m : Int) := by omega
  replace hm := Lib.hid hm
  by_cases h32 : m = 32
  · have hkl32 : k.length = 32 := by rw [← hm.out]; exact h32
    subst h32
    have hd : decide (((32 : Nat) : Int) = 32) = true := rfl
    have hX : nextX k = expandB (keyS k) (labelI kuS [] 32) 32 := by unfold nextX; rw [if_pos hkl32]
    have hE : ofE k = 0 := by unfold ofE; rw [if_pos hkl32]
    replace hX := Lib.hid hX
    replace hE := Lib.hid hE
    replace hkl32 := Lib.hid hkl32
    go_enter Tryz.func17, Tryz.ntmps17
    go_upto_region 3 with (fail)
    refine wp_region_lit ?_
    refine wpList_reads (by kernel_rfl) (.slice ak 32 ck) (by go_simp) ?_
    simp only [Act.put, List.setIfInBounds_toArray, List.set_cons_zero, List.set_cons_succ]
    refine wpList_enter (by kernel_rfl) 68 #[.slice ak 32 ck, .string { data := #[113, 117, 105, 99, 32, 107, 117] }, .int .i64 32] (by go_simp) (klabel_any _ kuS k 32 w hk (by rw [hkl32.out]; omega) (by decide) (by omega)) ?_
    rintro e w1 ⟨m1, v1, rfl, own1⟩
    have hfin : NextEnd k w (.returned (.tuple #[v1, .int .i64 0])) w1 := ⟨m1, v1, by rw [hE.out], by rw [hX.out, expandB_length]; exact .of own1⟩
    replace hfin := Lib.hid hfin
    clear m1 own1
    refine ⟨_, rfl, ?_⟩
    simp only [Act.put, List.setIfInBounds_toArray, List.set_cons_zero, List.set_cons_succ]
    refine wpList_reads (by kernel_rfl) (v1) (by go_simp) ?_
    simp only [Act.put, List.setIfInBounds_toArray, List.set_cons_zero, List.set_cons_succ]
    refine wpList_reads (by kernel_rfl) (.int .i64 0) (by go_simp) ?_
    simp only [Act.put, List.setIfInBounds_toArray, List.set_cons_zero, List.set_cons_succ]
    go_wp2
    refine bodyPost_ret (results_tmp2 rfl _ _ _) rfl ?_
    exact hfin.out
  · have hd : ((m : Int) != 32) = true := by rw [bne_iff_ne]; omega
    have hkl32 : ¬ k.length = 32 := by rw [← hm.out]; exact h32
    have hfin : NextEnd k w (.returned (.tuple #[.slice none 0 0, .int .i64 1])) w := ⟨Mod.refl _ _, .slice none 0 0, by unfold ofE; rw [if_neg hkl32], by unfold nextX; rw [if_neg hkl32]; exact clip_nil _ _⟩
    replace hfin := Lib.hid hfin
    clear hkl32 h32 hk
    go_enter Tryz.func17, Tryz.ntmps17
    go_wp2
    refine bodyPost_ret (results_tmp2 rfl _ _ _) rfl ?_
    exact hfin.out
set_option maxRecDepth 100000 in
set_option maxHeartbeats 4000000 in
theorem refnext_any (vk : Value) (k : List (BitVec 8)) (w : World) (hk : ByteAt w vk k) (hkl : k.length < 4611686018427387904) :
    Calls Tryz.prog 19 #[vk] w (NextEnd k w) := by
  obtain ⟨ak, ck, rfl, _⟩ := hk.slice
  obtain ⟨m, hm⟩ : ∃ m, m = k.length := ⟨_, rfl⟩
  rw [← hm] at hk hkl ⊢
  have bm0 : (0 : Int) ≤ (m : Int) := by omega
  replace hm := Lib.hid hm
  by_cases h32 : m = 32
  · have hkl32 : k.length = 32 := by rw [← hm.out]; exact h32
    subst h32
    have hd : decide (((32 : Nat) : Int) = 32) = true := rfl
    have hX : nextX k = expandB (keyS k) (labelI kuS [] 32) 32 := by unfold nextX; rw [if_pos hkl32]
    have hE : ofE k = 0 := by unfold ofE; rw [if_pos hkl32]
    replace hX := Lib.hid hX
    replace hE := Lib.hid hE
    replace hkl32 := Lib.hid hkl32
    go_enter Tryz.func19, Tryz.ntmps19
    go_upto_region 3 with (fail)
    refine wp_region_lit ?_
    refine wpList_reads (by kernel_rfl) (.slice ak 32 ck) (by go_simp) ?_
    simp only [Act.put, List.setIfInBounds_toArray, List.set_cons_zero, List.set_cons_succ]
    refine wpList_enter (by kernel_rfl) 69 #[.slice ak 32 ck, .string { data := #[113, 117, 105, 99, 32, 107, 117] }, .slice none 0 0, .int .i64 32] (by go_simp) (reflabel_any _ _ kuS k [] 32 w hk (byteAt_nil1 _) (by rw [hkl32.out]; omega) (by simp) (by decide) (by omega) (by omega)) ?_
    rintro e w1 ⟨m1, h1⟩
    rw [if_neg (by decide)] at h1
    obtain ⟨v1, rfl, own1⟩ := h1
    have hfin : NextEnd k w (.returned (.tuple #[v1, .int .i64 0])) w1 := ⟨m1, v1, by rw [hE.out], by rw [hX.out, expandB_length]; exact .of own1⟩
    replace hfin := Lib.hid hfin
    clear m1 own1
    refine ⟨_, rfl, ?_⟩
    simp only [Act.put, List.setIfInBounds_toArray, List.set_cons_zero, List.set_cons_succ]
    refine wpList_reads (by kernel_rfl) (.tuple #[v1, .int .i64 0]) (by go_simp) ?_
    simp only [Act.put, List.setIfInBounds_toArray, List.set_cons_zero, List.set_cons_succ]
    refine wpList_reads (by kernel_rfl) (v1) (by go_simp) ?_
    simp only [Act.put, List.setIfInBounds_toArray, List.set_cons_zero, List.set_cons_succ]
    refine wpList_reads (by kernel_rfl) (.int .i64 0) (by go_simp) ?_
    simp only [Act.put, List.setIfInBounds_toArray, List.set_cons_zero, List.set_cons_succ]
    refine wpList_reads (by kernel_rfl) (v1) (by go_simp) ?_
    simp only [Act.put, List.setIfInBounds_toArray, List.set_cons_zero, List.set_cons_succ]
    refine wpList_reads (by kernel_rfl) (.int .i64 0) (by go_simp) ?_
    simp only [Act.put, List.setIfInBounds_toArray, List.set_cons_zero, List.set_cons_succ]
    go_wp2
    refine bodyPost_ret (results_tmp2 rfl _ _ _) rfl ?_
    exact hfin.out
  · have hd : ((m : Int) != 32) = true := by rw [bne_iff_ne]; omega
    have hkl32 : ¬ k.length = 32 := by rw [← hm.out]; exact h32
    have hfin : NextEnd k w (.returned (.tuple #[.slice none 0 0, .int .i64 1])) w := ⟨Mod.refl _ _, .slice none 0 0, by unfold ofE; rw [if_neg hkl32], by unfold nextX; rw [if_neg hkl32]; exact clip_nil _ _⟩
    replace hfin := Lib.hid hfin
    clear hkl32 h32 hk
    go_enter Tryz.func19, Tryz.ntmps19
    go_wp2
    refine bodyPost_ret (results_tmp2 rfl _ _ _) rfl ?_
    exact hfin.out
theorem build_keys (w : World) (ev : Operand → Value) (o : Oper) (ho : o.op = .build 49 #[]) : (execOp ev o).run Tryz.prog w = .ok (.value (.agg #[.slice none 0 0, .slice none 0 0, .slice none 0 0])) w := by
  have h : (Instr.build 49 #[]).run Tryz.prog w = .ok (.agg #[.slice none 0 0, .slice none 0 0, .slice none 0 0]) w := by kernel_rfl
  unfold execOp
  simp [ho, h]
set_option maxRecDepth 100000 in
set_option maxHeartbeats 4000000 in
theorem refOf_any (vk : Value) (k : List (BitVec 8)) (w : World) (hk : ByteAt w vk k) (hkl : k.length < 4611686018427387904) :
    Calls Tryz.prog 18 #[vk] w (OfAll k w) := by
  obtain ⟨ak, ck, rfl, _⟩ := hk.slice
  obtain ⟨m, hm⟩ : ∃ m, m = k.length := ⟨_, rfl⟩
  rw [← hm] at hk hkl ⊢
  have bm0 : (0 : Int) ≤ (m : Int) := by omega
  obtain ⟨w1, hw1⟩ : ∃ x, x = w.alloc (.cells #[.slice none 0 0, .slice none 0 0, .slice none 0 0] 49) := ⟨_, rfl⟩
  obtain ⟨R, hR⟩ : ∃ g, g = w.heap.size := ⟨_, rfl⟩
  have m1 : Mod (fun _ => False) w w1 := by rw [hw1]; exact (Mod.refl _ _).alloc _
  have x1 : w1.heap[R]? = some (.cells #[.slice none 0 0, .slice none 0 0, .slice none 0 0] 49 (0,0)) := by rw [hw1]; exact hp_new _ _ _ hR
  have hk1 := hk.mod m1 (fun _ _ h => h)
  replace hm := Lib.hid hm
  replace hw1 := Lib.hid hw1
  replace hR := Lib.hid hR
  replace hk1 := Lib.hid hk1
  replace m1 := Lib.hid m1
  replace x1 := Lib.hid x1
  clear hk
  go_enter Tryz.func18, Tryz.ntmps18
  go_upto_region 0 with (fail)
  refine wp_region_lit ?_
  refine wpList_yields (by kernel_rfl) _ _ (alloc_keys _ _ _ rfl) ?_
  simp only [Act.put, List.setIfInBounds_toArray, List.set_cons_succ, List.set_cons_zero]
  rw [← hR.out, ← hw1.out]
  refine wpList_reads (by kernel_rfl) (.int .i64 0) (by go_simp) ?_
  simp only [Act.put, List.setIfInBounds_toArray, List.set_cons_succ, List.set_cons_zero]
  by_cases h32 : m = 32
  · have hkl32 : k.length = 32 := by rw [← hm.out]; exact h32
    subst h32
    have hd : decide (((32 : Nat) : Int) = 32) = true := rfl
    have hE : ofE k = 0 := by unfold ofE; rw [if_pos hkl32]
    replace hE := Lib.hid hE
    replace hkl32 := Lib.hid hkl32
    go_upto_region 3 with (fail)
    refine wp_region_lit ?_
    refine wpList_reads (by kernel_rfl) (.slice ak 32 ck) (by go_simp) ?_
    simp only [Act.put, List.setIfInBounds_toArray, List.set_cons_zero, List.set_cons_succ]
    refine wpList_enter (by kernel_rfl) 69 #[.slice ak 32 ck, .string { data := #[113, 117, 105, 99, 32, 107, 101, 121] }, .slice none 0 0, .int .i64 32] (by go_simp) (reflabel_any _ _ (quicS ++ nameK 0) k [] 32 w1 hk1.out (byteAt_nil1 _) (by rw [hkl32.out]; omega) (by simp) (by decide) (by omega) (by omega)) ?_
    rintro e w2 ⟨m2, h2⟩
    rw [if_neg (by decide)] at h2
    obtain ⟨v0, rfl, own2⟩ := h2
    have own2 : w2.ownsRow w1.heap.size 5 1 v0 (lenK 0) (bytesV (keyB k 0)) := own2
    have hk2 := hk1.out.mod m2 (fun _ _ h => h)
    replace hk2 := Lib.hid hk2
    replace own2 := Lib.hid own2
    replace m2 := Lib.hid m2
    refine ⟨_, rfl, ?_⟩
    simp only [Act.put, List.setIfInBounds_toArray, List.set_cons_zero, List.set_cons_succ]
    refine wpList_reads (by kernel_rfl) (.tuple #[v0, .int .i64 0]) (by go_simp) ?_
    simp only [Act.put, List.setIfInBounds_toArray, List.set_cons_zero, List.set_cons_succ]
    refine wpList_reads (by kernel_rfl) (v0) (by go_simp) ?_
    simp only [Act.put, List.setIfInBounds_toArray, List.set_cons_zero, List.set_cons_succ]
    refine wpList_reads (by kernel_rfl) (.int .i64 0) (by go_simp) ?_
    simp only [Act.put, List.setIfInBounds_toArray, List.set_cons_zero, List.set_cons_succ]
    refine wpList_reads (by kernel_rfl) (v0) (by go_simp) ?_
    simp only [Act.put, List.setIfInBounds_toArray, List.set_cons_zero, List.set_cons_succ]
    refine wpList_reads (by kernel_rfl) (.int .i64 0) (by go_simp) ?_
    simp only [Act.put, List.setIfInBounds_toArray, List.set_cons_zero, List.set_cons_succ]
    go_upto_region 4 with (fail)
    refine wp_region_lit ?_
    refine wpList_reads (by kernel_rfl) (.slice ak 32 ck) (by go_simp) ?_
    simp only [Act.put, List.setIfInBounds_toArray, List.set_cons_zero, List.set_cons_succ]
    refine wpList_enter (by kernel_rfl) 69 #[.slice ak 32 ck, .string { data := #[113, 117, 105, 99, 32, 105, 118] }, .slice none 0 0, .int .i64 12] (by go_simp) (reflabel_any _ _ (quicS ++ nameK 1) k [] 12 w2 hk2.out (byteAt_nil1 _) (by rw [hkl32.out]; omega) (by simp) (by decide) (by omega) (by omega)) ?_
    rintro e w3 ⟨m3, h3⟩
    rw [if_neg (by decide)] at h3
    obtain ⟨v1, rfl, own3⟩ := h3
    have own3 : w3.ownsRow w2.heap.size 5 1 v1 (lenK 1) (bytesV (keyB k 1)) := own3
    have hk3 := hk2.out.mod m3 (fun _ _ h => h)
    replace hk3 := Lib.hid hk3
    replace own3 := Lib.hid own3
    replace m3 := Lib.hid m3
    refine ⟨_, rfl, ?_⟩
    simp only [Act.put, List.setIfInBounds_toArray, List.set_cons_zero, List.set_cons_succ]
    refine wpList_reads (by kernel_rfl) (.tuple #[v1, .int .i64 0]) (by go_simp) ?_
    simp only [Act.put, List.setIfInBounds_toArray, List.set_cons_zero, List.set_cons_succ]
    refine wpList_reads (by kernel_rfl) (v1) (by go_simp) ?_
    simp only [Act.put, List.setIfInBounds_toArray, List.set_cons_zero, List.set_cons_succ]
    refine wpList_reads (by kernel_rfl) (.int .i64 0) (by go_simp) ?_
    simp only [Act.put, List.setIfInBounds_toArray, List.set_cons_zero, List.set_cons_succ]
    refine wpList_reads (by kernel_rfl) (v1) (by go_simp) ?_
    simp only [Act.put, List.setIfInBounds_toArray, List.set_cons_zero, List.set_cons_succ]
    refine wpList_reads (by kernel_rfl) (.int .i64 0) (by go_simp) ?_
    simp only [Act.put, List.setIfInBounds_toArray, List.set_cons_zero, List.set_cons_succ]
    go_upto_region 5 with (fail)
    refine wp_region_lit ?_
    refine wpList_reads (by kernel_rfl) (.slice ak 32 ck) (by go_simp) ?_
    simp only [Act.put, List.setIfInBounds_toArray, List.set_cons_zero, List.set_cons_succ]
    refine wpList_enter (by kernel_rfl) 69 #[.slice ak 32 ck, .string { data := #[113, 117, 105, 99, 32, 104, 112] }, .slice none 0 0, .int .i64 32] (by go_simp) (reflabel_any _ _ (quicS ++ nameK 2) k [] 32 w3 hk3.out (byteAt_nil1 _) (by rw [hkl32.out]; omega) (by simp) (by decide) (by omega) (by omega)) ?_
    rintro e w4 ⟨m4, h4⟩
    rw [if_neg (by decide)] at h4
    obtain ⟨v2, rfl, own4⟩ := h4
    have own4 : w4.ownsRow w3.heap.size 5 1 v2 (lenK 2) (bytesV (keyB k 2)) := own4
    have hk4 := hk3.out.mod m4 (fun _ _ h => h)
    replace hk4 := Lib.hid hk4
    replace own4 := Lib.hid own4
    replace m4 := Lib.hid m4
    refine ⟨_, rfl, ?_⟩
    simp only [Act.put, List.setIfInBounds_toArray, List.set_cons_zero, List.set_cons_succ]
    refine wpList_reads (by kernel_rfl) (.tuple #[v2, .int .i64 0]) (by go_simp) ?_
    simp only [Act.put, List.setIfInBounds_toArray, List.set_cons_zero, List.set_cons_succ]
    refine wpList_reads (by kernel_rfl) (v2) (by go_simp) ?_
    simp only [Act.put, List.setIfInBounds_toArray, List.set_cons_zero, List.set_cons_succ]
    refine wpList_reads (by kernel_rfl) (.int .i64 0) (by go_simp) ?_
    simp only [Act.put, List.setIfInBounds_toArray, List.set_cons_zero, List.set_cons_succ]
    refine wpList_reads (by kernel_rfl) (v2) (by go_simp) ?_
    simp only [Act.put, List.setIfInBounds_toArray, List.set_cons_zero, List.set_cons_succ]
    refine wpList_reads (by kernel_rfl) (.int .i64 0) (by go_simp) ?_
    simp only [Act.put, List.setIfInBounds_toArray, List.set_cons_zero, List.set_cons_succ]
    have x4 := m4.out.heap (m3.out.heap (m2.out.heap x1.out (fun h => h)) (fun h => h)) (fun h => h)
    have oa := ownsRow_keep0 (ownsRow_keep0 own2.out m3.out) m4.out
    have ob := ownsRow_keep0 own3.out m4.out
    have oc := own4.out
    obtain ⟨wz, sz, mz, xz⟩ := keys_store x4 (own_one oa) (own_one ob) (own_one oc)
    have hR1 : R < w1.heap.size := lt_of_heap x1.out
    have s12 := m2.out.size
    have s23 := m3.out.size
    have s34 := m4.out.size
    have hw1s : w.heap.size ≤ w1.heap.size := m1.out.size
    have mfz : Mod (fun _ => False) w wz := (((m1.out.trans m2.out).trans m3.out).trans m4.out).trans' mz (fun x hx h => by have := hR.out; omega)
    have hne : ∀ {v : Value} {w' : World} {b n : Nat} {xs : List Value}, w'.ownsRow b 5 1 v n xs → w1.heap.size ≤ b → ∀ k, v.ownBlock = some k → k ≠ R := fun h1 h2 k h3 => by have := (ownsRow_in h1 h3).1; omega
    have za := ownsRow_base0 (ownsRow_block oa mz (hne oa (Nat.le_refl _))) hw1s
    have zb := ownsRow_base0 (ownsRow_block ob mz (hne ob s12)) (Nat.le_trans hw1s s12)
    have zc := ownsRow_base0 (ownsRow_block oc mz (hne oc (Nat.le_trans s12 s23))) (Nat.le_trans hw1s (Nat.le_trans s12 s23))
    have ia : ∀ x, v0.ownBlock = some x → x < w2.heap.size := fun x hx => (ownsRow_in own2.out hx).2
    have ib : ∀ x, v1.ownBlock = some x → w2.heap.size ≤ x ∧ x < w3.heap.size := fun x hx => ownsRow_in own3.out hx
    have ic : ∀ x, v2.ownBlock = some x → w3.heap.size ≤ x := fun x hx => (ownsRow_in own4.out hx).1
    have hka : KeysAt wz w.heap.size k (fun j => if j = 0 then v0 else if j = 1 then v1 else v2) 3 := by
      refine ⟨fun j hj => ?_, fun j l hj hl hjl x h1 h2 => ?_⟩
      · have h3 : j = 0 ∨ j = 1 ∨ j = 2 := by omega
        rcases h3 with rfl | rfl | rfl
        · exact za
        · exact zb
        · exact zc
      · have h3 : j = 0 ∨ j = 1 ∨ j = 2 := by omega
        have h4 : l = 0 ∨ l = 1 ∨ l = 2 := by omega
        rcases h3 with rfl | rfl | rfl <;> rcases h4 with rfl | rfl | rfl
        · exact hjl rfl
        · have := ia x h1; have := ib x h2; omega
        · have := ia x h1; have := ic x h2; omega
        · have := ib x h1; have := ia x h2; omega
        · exact hjl rfl
        · have := ib x h1; have := ic x h2; omega
        · have := ic x h1; have := ia x h2; omega
        · have := ic x h1; have := ib x h2; omega
        · exact hjl rfl
    have hfin : OfAll k w (.returned (.tuple #[.agg #[v0, v1, v2], .int .i64 0])) wz := ⟨mfz, fun j => if j = 0 then v0 else if j = 1 then v1 else v2, by rw [hE.out]; rfl, hka.rows hkl32.out⟩
    replace hfin := Lib.hid hfin
    replace xz := Lib.hid xz
    obtain ⟨⟨a0, c0, g0⟩, a1, c1, g1⟩ : (∃ a c, v0 = .slice a 32 c) ∧ ∃ a c, v1 = .slice a 12 c := ⟨ownSlice1 oa, ownSlice1 ob⟩
    obtain ⟨a2, c2, g2⟩ : ∃ a c, v2 = .slice a 32 c := ownSlice1 oc
    subst g0 g1 g2
    clear x4 oa ob oc mz hne za zb zc ia ib ic hka mfz own2 own3 own4 x1 hk1 hk2 hk3 hk4
    go_upto_region 6 with (fail)
    refine wp_region_lit ?_
    refine wpList_reads (by kernel_rfl) (.slice a0 32 c0) (by go_simp) ?_
    simp only [Act.put, List.setIfInBounds_toArray, List.set_cons_zero, List.set_cons_succ]
    refine wpList_reads (by kernel_rfl) (.slice a1 12 c1) (by go_simp) ?_
    simp only [Act.put, List.setIfInBounds_toArray, List.set_cons_zero, List.set_cons_succ]
    refine wpList_reads (by kernel_rfl) (.slice a2 32 c2) (by go_simp) ?_
    simp only [Act.put, List.setIfInBounds_toArray, List.set_cons_zero, List.set_cons_succ]
    refine wpList_reads (by kernel_rfl) (.agg #[.slice a0 32 c0, .slice a1 12 c1, .slice a2 32 c2]) (by go_simp) ?_
    simp only [Act.put, List.setIfInBounds_toArray, List.set_cons_zero, List.set_cons_succ]
    refine wpList_store_to rfl _ _ _ rfl _ _ _ rfl rfl _ sz ?_
    simp only [Act.put, List.setIfInBounds_toArray, List.set_cons_zero, List.set_cons_succ]
    refine wpList_reads (by kernel_rfl) (.int .i64 0) (by go_simp) ?_
    simp only [Act.put, List.setIfInBounds_toArray, List.set_cons_zero, List.set_cons_succ]
    go_wp2
    exact bodyPost_ret (v := .tuple #[.agg #[.slice a0 32 c0, .slice a1 12 c1, .slice a2 32 c2], .int .i64 0]) (results_keys rfl _ _ _ _ _ _ _ rfl rfl xz.out) rfl hfin.out
  · have hd : ((m : Int) != 32) = true := by rw [bne_iff_ne]; omega
    have hkl32 : ¬ k.length = 32 := by rw [← hm.out]; exact h32
    obtain ⟨wz, sz, mz, xz⟩ := keys_store x1.out (x := .slice none 0 0) (y := .slice none 0 0) (z := .slice none 0 0) rfl rfl rfl
    have hfin : OfAll k w (.returned (.tuple #[.agg #[.slice none 0 0, .slice none 0 0, .slice none 0 0], .int .i64 1])) wz := ⟨m1.out.trans' mz (fun x hx h => by have := hR.out; omega), fun _ => .slice none 0 0, by unfold ofE; rw [if_neg hkl32], by rw [ofX_short hkl32]; exact KeysR.nil _ _⟩
    replace hfin := Lib.hid hfin
    clear mz hkl32 h32
    go_upto_region 2 with (fail)
    refine wp_region_lit ?_
    refine wpList_yields (by kernel_rfl) _ _ (build_keys _ _ _ rfl) ?_
    simp only [Act.put, List.setIfInBounds_toArray, List.set_cons_succ, List.set_cons_zero]
    refine wpList_store_to rfl _ _ _ rfl _ _ _ rfl rfl _ sz ?_
    simp only [Act.put, List.setIfInBounds_toArray, List.set_cons_succ, List.set_cons_zero]
    refine wpList_reads (by kernel_rfl) (.int .i64 1) (by go_simp) ?_
    simp only [Act.put, List.setIfInBounds_toArray, List.set_cons_succ, List.set_cons_zero]
    go_wp2
    exact bodyPost_ret (v := .tuple #[.agg #[.slice none 0 0, .slice none 0 0, .slice none 0 0], .int .i64 1]) (results_keys rfl _ _ _ _ _ _ _ rfl rfl xz) rfl hfin.out

set_option maxRecDepth 100000 in
set_option maxHeartbeats 4000000 in
theorem samekeys_any (p0 p1 p2 q0 q1 q2 : Value) (X0 X1 X2 : List (BitVec 8)) (w : World) (b0 : ByteAt w p0 X0) (b1 : ByteAt w p1 X1) (b2 : ByteAt w p2 X2) (d0 : ByteAt w q0 X0) (d1 : ByteAt w q1 X1) (d2 : ByteAt w q2 X2) (l0 : X0.length ≤ 32) (l1 : X1.length ≤ 32) (l2 : X2.length ≤ 32) :
    Calls Tryz.prog 20 #[.agg #[p0, p1, p2], .agg #[q0, q1, q2]] w fun e w' => Mod (fun _ => False) w w' ∧ e = .returned (.bool true) := by
  obtain ⟨a0, c0, rfl, _⟩ := b0.slice
  obtain ⟨a1, c1, rfl, _⟩ := b1.slice
  obtain ⟨a2, c2, rfl, _⟩ := b2.slice
  obtain ⟨e0, f0, rfl, _⟩ := d0.slice
  obtain ⟨e1, f1, rfl, _⟩ := d1.slice
  obtain ⟨e2, f2, rfl, _⟩ := d2.slice
  obtain ⟨n0, hn0⟩ : ∃ m, m = X0.length := ⟨_, rfl⟩
  obtain ⟨n1, hn1⟩ : ∃ m, m = X1.length := ⟨_, rfl⟩
  obtain ⟨n2, hn2⟩ : ∃ m, m = X2.length := ⟨_, rfl⟩
  rw [← hn0] at b0 d0 ⊢
  rw [← hn1] at b1 d1 ⊢
  rw [← hn2] at b2 d2 ⊢
  obtain ⟨wa, hwa⟩ : ∃ x, x = w.alloc (.cells #[.slice a0 n0 c0, .slice a1 n1 c1, .slice a2 n2 c2] 49) := ⟨_, rfl⟩
  obtain ⟨G, hG⟩ : ∃ g, g = w.heap.size := ⟨_, rfl⟩
  have ma : Mod (fun _ => False) w wa := by rw [hwa]; exact (Mod.refl _ _).alloc _
  have xa : wa.heap[G]? = some (.cells #[.slice a0 n0 c0, .slice a1 n1 c1, .slice a2 n2 c2] 49 (0,0)) := by rw [hwa]; exact hp_new _ _ _ hG
  obtain ⟨wb, hwb⟩ : ∃ x, x = wa.alloc (.cells #[.slice e0 n0 f0, .slice e1 n1 f1, .slice e2 n2 f2] 49) := ⟨_, rfl⟩
  obtain ⟨H, hH⟩ : ∃ g, g = wa.heap.size := ⟨_, rfl⟩
  have mb : Mod (fun _ => False) wa wb := by rw [hwb]; exact (Mod.refl _ _).alloc _
  have xb : wb.heap[H]? = some (.cells #[.slice e0 n0 f0, .slice e1 n1 f1, .slice e2 n2 f2] 49 (0,0)) := by rw [hwb]; exact hp_new _ _ _ hH
  have xab := mb.heap xa (fun h => h)
  have mab := ma.trans mb
  have b0 := b0.mod mab (fun _ _ h => h)
  have b1 := b1.mod mab (fun _ _ h => h)
  have b2 := b2.mod mab (fun _ _ h => h)
  have d0 := d0.mod mab (fun _ _ h => h)
  have d1 := d1.mod mab (fun _ _ h => h)
  have d2 := d2.mod mab (fun _ _ h => h)
  replace hwa := Lib.hid hwa
  replace hG := Lib.hid hG
  replace hwb := Lib.hid hwb
  replace hH := Lib.hid hH
  replace hn0 := Lib.hid hn0
  replace hn1 := Lib.hid hn1
  replace hn2 := Lib.hid hn2
  replace b0 := Lib.hid b0
  replace b1 := Lib.hid b1
  replace b2 := Lib.hid b2
  replace d0 := Lib.hid d0
  replace d1 := Lib.hid d1
  replace d2 := Lib.hid d2
  replace mab := Lib.hid mab
  replace xab := Lib.hid xab
  replace xb := Lib.hid xb
  clear ma mb xa
  go_enter Tryz.func20, Tryz.ntmps20
  go_upto_region 0 with (fail)
  refine wp_region_lit ?_
  refine wpList_yields (by kernel_rfl) (.pointer (some ⟨G, 0, none⟩)) wa (by rw [hwa.out, hG.out]; go_simp) ?_
  simp only [Act.put, List.setIfInBounds_toArray, List.set_cons_succ, List.set_cons_zero]
  refine wpList_yields (by kernel_rfl) (.pointer (some ⟨H, 0, none⟩)) wb (by rw [hwb.out, hH.out]; go_simp) ?_
  simp only [Act.put, List.setIfInBounds_toArray, List.set_cons_succ, List.set_cons_zero]
  refine wpList_reads (by kernel_rfl) (.bool false) (by go_simp) ?_
  simp only [Act.put, List.setIfInBounds_toArray, List.set_cons_succ, List.set_cons_zero]
  go_upto_region 1 with (fail)
  refine wp_region_lit ?_
  refine wpList_reads (by kernel_rfl) (.pointer (some ⟨G, 0, none⟩)) (by go_simp) ?_
  simp only [Act.put, List.setIfInBounds_toArray, List.set_cons_zero, List.set_cons_succ]
  refine wpList_reads (by kernel_rfl) (.slice a0 n0 c0) (run_load_op rfl rfl (ld_sl (by rw [cell_of_row _ _ _ _ _ _ xab.out]; rfl))) ?_
  simp only [Act.put, List.setIfInBounds_toArray, List.set_cons_zero, List.set_cons_succ]
  refine wpList_reads (by kernel_rfl) (.pointer (some ⟨H, 0, none⟩)) (by go_simp) ?_
  simp only [Act.put, List.setIfInBounds_toArray, List.set_cons_zero, List.set_cons_succ]
  refine wpList_reads (by kernel_rfl) (.slice e0 n0 f0) (run_load_op rfl rfl (ld_sl (by rw [cell_of_row _ _ _ _ _ _ xb.out]; rfl))) ?_
  simp only [Act.put, List.setIfInBounds_toArray, List.set_cons_zero, List.set_cons_succ]
  refine wpList_enter (by kernel_rfl) 11 #[.slice a0 n0 c0, .slice e0 n0 f0] (by go_simp) (same_any _ _ X0 X0 wb b0.out d0.out (by omega) (by omega)) ?_
  rintro e v0 ⟨mv0, rfl⟩
  rw [show decide (X0 = X0) = true by simp]
  have mm0 := mab.out.trans mv0
  replace mm0 := Lib.hid mm0
  clear mab
  have xab := Lib.hid (mv0.heap xab.out (fun h => h))
  have xb := Lib.hid (mv0.heap xb.out (fun h => h))
  have b1 := Lib.hid (b1.out.mod mv0 (fun _ _ h => h))
  have d1 := Lib.hid (d1.out.mod mv0 (fun _ _ h => h))
  have b2 := Lib.hid (b2.out.mod mv0 (fun _ _ h => h))
  have d2 := Lib.hid (d2.out.mod mv0 (fun _ _ h => h))
  clear mv0
  refine ⟨_, rfl, ?_⟩
  simp only [Act.put, List.setIfInBounds_toArray, List.set_cons_zero, List.set_cons_succ]
  refine wpList_reads (by kernel_rfl) (.bool true) (by go_simp) ?_
  simp only [Act.put, List.setIfInBounds_toArray, List.set_cons_zero, List.set_cons_succ]
  refine wpList_reads (by kernel_rfl) (.pointer (some ⟨G, 1, none⟩)) (by go_simp) ?_
  simp only [Act.put, List.setIfInBounds_toArray, List.set_cons_zero, List.set_cons_succ]
  refine wpList_reads (by kernel_rfl) (.slice a1 n1 c1) (run_load_op rfl rfl (ld_sl (by rw [cell_of_row _ _ _ _ _ _ xab.out]; rfl))) ?_
  simp only [Act.put, List.setIfInBounds_toArray, List.set_cons_zero, List.set_cons_succ]
  refine wpList_reads (by kernel_rfl) (.pointer (some ⟨H, 1, none⟩)) (by go_simp) ?_
  simp only [Act.put, List.setIfInBounds_toArray, List.set_cons_zero, List.set_cons_succ]
  refine wpList_reads (by kernel_rfl) (.slice e1 n1 f1) (run_load_op rfl rfl (ld_sl (by rw [cell_of_row _ _ _ _ _ _ xb.out]; rfl))) ?_
  simp only [Act.put, List.setIfInBounds_toArray, List.set_cons_zero, List.set_cons_succ]
  refine wpList_enter (by kernel_rfl) 11 #[.slice a1 n1 c1, .slice e1 n1 f1] (by go_simp) (same_any _ _ X1 X1 v0 b1.out d1.out (by omega) (by omega)) ?_
  rintro e v1 ⟨mv1, rfl⟩
  rw [show decide (X1 = X1) = true by simp]
  have mm1 := mm0.out.trans mv1
  replace mm1 := Lib.hid mm1
  clear mm0
  have xab := Lib.hid (mv1.heap xab.out (fun h => h))
  have xb := Lib.hid (mv1.heap xb.out (fun h => h))
  have b2 := Lib.hid (b2.out.mod mv1 (fun _ _ h => h))
  have d2 := Lib.hid (d2.out.mod mv1 (fun _ _ h => h))
  clear mv1
  refine ⟨_, rfl, ?_⟩
  simp only [Act.put, List.setIfInBounds_toArray, List.set_cons_zero, List.set_cons_succ]
  refine wpList_reads (by kernel_rfl) (.bool true) (by go_simp) ?_
  simp only [Act.put, List.setIfInBounds_toArray, List.set_cons_zero, List.set_cons_succ]
  refine wpList_reads (by kernel_rfl) (.bool true) (by go_simp) ?_
  simp only [Act.put, List.setIfInBounds_toArray, List.set_cons_zero, List.set_cons_succ]
  refine wpList_reads (by kernel_rfl) (.pointer (some ⟨G, 2, none⟩)) (by go_simp) ?_
  simp only [Act.put, List.setIfInBounds_toArray, List.set_cons_zero, List.set_cons_succ]
  refine wpList_reads (by kernel_rfl) (.slice a2 n2 c2) (run_load_op rfl rfl (ld_sl (by rw [cell_of_row _ _ _ _ _ _ xab.out]; rfl))) ?_
  simp only [Act.put, List.setIfInBounds_toArray, List.set_cons_zero, List.set_cons_succ]
  refine wpList_reads (by kernel_rfl) (.pointer (some ⟨H, 2, none⟩)) (by go_simp) ?_
  simp only [Act.put, List.setIfInBounds_toArray, List.set_cons_zero, List.set_cons_succ]
  refine wpList_reads (by kernel_rfl) (.slice e2 n2 f2) (run_load_op rfl rfl (ld_sl (by rw [cell_of_row _ _ _ _ _ _ xb.out]; rfl))) ?_
  simp only [Act.put, List.setIfInBounds_toArray, List.set_cons_zero, List.set_cons_succ]
  refine wpList_enter (by kernel_rfl) 11 #[.slice a2 n2 c2, .slice e2 n2 f2] (by go_simp) (same_any _ _ X2 X2 v1 b2.out d2.out (by omega) (by omega)) ?_
  rintro e v2 ⟨mv2, rfl⟩
  rw [show decide (X2 = X2) = true by simp]
  have mm2 := mm1.out.trans mv2
  replace mm2 := Lib.hid mm2
  clear mm1
  clear mv2
  refine ⟨_, rfl, ?_⟩
  simp only [Act.put, List.setIfInBounds_toArray, List.set_cons_zero, List.set_cons_succ]
  refine wpList_reads (by kernel_rfl) (.bool true) (by go_simp) ?_
  simp only [Act.put, List.setIfInBounds_toArray, List.set_cons_zero, List.set_cons_succ]
  refine wpList_reads (by kernel_rfl) (.bool true) (by go_simp) ?_
  simp only [Act.put, List.setIfInBounds_toArray, List.set_cons_zero, List.set_cons_succ]
  have mf := mm2
  go_wp2
  go_ret
  exact ⟨mf.out, rfl⟩

set_option maxRecDepth 100000 in
set_option maxHeartbeats 4000000 in
theorem keysT (w : World) (base B N : Nat) (T : Nat → Prop) (vb : Value) (h : BookT w base B N T vb) (vs : Nat → Value) (X : Nat → List (BitVec 8)) (hr : KeysR w base X vs) (hT : ∀ j, j < 3 → ∀ k, (vs j).ownBlock = some k → ¬ T k ∧ k < B) (hN : N + 3 ≤ 1000) (hbl : ∀ j, (X j).length ≤ 32) :
    Calls Tryz.prog 21 #[.pointer (some ⟨B, 0, none⟩), .agg #[vs 0, vs 1, vs 2]] w fun e w' => e = .returned (.tuple #[]) ∧ Mod (fun k => B ≤ k) w w' ∧ ∃ vb', BookT w' base B (N + 3) (fun k => T k ∨ ∃ j, j < 3 ∧ (vs j).ownBlock = some k) vb' := by
  have hlt := h.lt
  obtain ⟨a0, c0, e0⟩ := clip_slice (hr.row 0 (by omega))
  obtain ⟨a1, c1, e1⟩ := clip_slice (hr.row 1 (by omega))
  obtain ⟨a2, c2, e2⟩ := clip_slice (hr.row 2 (by omega))
  obtain ⟨n0, hn0⟩ : ∃ m, m = (X 0).length := ⟨_, rfl⟩
  obtain ⟨n1, hn1⟩ : ∃ m, m = (X 1).length := ⟨_, rfl⟩
  obtain ⟨n2, hn2⟩ : ∃ m, m = (X 2).length := ⟨_, rfl⟩
  rw [← hn0] at e0
  rw [← hn1] at e1
  rw [← hn2] at e2
  obtain ⟨wa, hwa⟩ : ∃ x, x = w.alloc (.cells #[.slice a0 n0 c0, .slice a1 n1 c1, .slice a2 n2 c2] 49) := ⟨_, rfl⟩
  obtain ⟨G, hG⟩ : ∃ g, g = w.heap.size := ⟨_, rfl⟩
  have ma : Mod (fun _ => False) w wa := by rw [hwa]; exact (Mod.refl _ _).alloc _
  have xa : wa.heap[G]? = some (.cells #[.slice a0 n0 c0, .slice a1 n1 c1, .slice a2 n2 c2] 49 (0,0)) := by rw [hwa]; exact hp_new _ _ _ hG
  have hr1 := hr.keep0 ma
  have h1 := h.keep0 ma
  have hap := hr.apart
  rw [e0, e1, e2]
  have k0 := keepF wa base B N T vb h1 (vs 0) (X 0) (hr1.row 0 (by omega)) (hT 0 (by omega)) (by omega) (by have := hbl 0; omega)
  have hvG : ∀ k, vb.ownBlock = some k → k ≠ G := fun k hk => by have := h.vlt k hk; omega
  have hup0 := h.up
  have hGa : G < wa.heap.size := lt_of_heap xa
  rw [e0] at k0
  have hBG : B < G := by rw [hG]; omega
  replace hwa := Lib.hid hwa
  replace hG := Lib.hid hG
  replace hn0 := Lib.hid hn0
  replace hn1 := Lib.hid hn1
  replace hn2 := Lib.hid hn2
  replace e0 := Lib.hid e0
  replace e1 := Lib.hid e1
  replace e2 := Lib.hid e2
  replace hr1 := Lib.hid hr1
  replace xa := Lib.hid xa
  replace ma := Lib.hid ma
  clear hr h h1
  go_enter Tryz.func21, Tryz.ntmps21
  go_upto_region 0 with (fail)
  refine wp_region_lit ?_
  refine wpList_yields (by kernel_rfl) (.pointer (some ⟨G, 0, none⟩)) wa (by rw [hwa.out, hG.out]; go_simp) ?_
  simp only [Act.put, List.setIfInBounds_toArray, List.set_cons_succ, List.set_cons_zero]
  go_upto_region 1 with (fail)
  refine wp_region_lit ?_
  refine wpList_reads (by kernel_rfl) (.pointer (some ⟨B, 0, none⟩)) (by go_simp) ?_
  simp only [Act.put, List.setIfInBounds_toArray, List.set_cons_zero, List.set_cons_succ]
  refine wpList_reads (by kernel_rfl) (.pointer (some ⟨G, 0, none⟩)) (by go_simp) ?_
  simp only [Act.put, List.setIfInBounds_toArray, List.set_cons_zero, List.set_cons_succ]
  refine wpList_reads (by kernel_rfl) (.slice a0 n0 c0) (run_load_op rfl rfl (ld_sl (by rw [cell_of_row _ _ _ _ _ _ xa.out]; rfl))) ?_
  simp only [Act.put, List.setIfInBounds_toArray, List.set_cons_zero, List.set_cons_succ]
  refine wpList_enter (by kernel_rfl) 13 #[.pointer (some ⟨B, 0, none⟩), .slice a0 n0 c0] (by go_simp) (k0) ?_
  rintro e u0 ⟨rfl, mf0, vb0, bt0, fr0⟩
  have mm0 : Mod (fun k => B ≤ k) _ _ := mf0.mono (fun k _ h6 => by
    rcases h6 with h6 | h6
    · omega
    · have := hup0 k h6; omega)
  have xa := Lib.hid (mf0.heap xa.out (by rintro (h6 | h6); omega; exact hvG _ h6 rfl))
  have hr2 := Lib.hid (hr1.out.below mm0 (fun j hj k hk => (hT j hj k hk).2))
  have hup1 := bt0.up
  have hvG : ∀ k, vb0.ownBlock = some k → k ≠ G := fun k hk => by
    rcases fr0 k hk with h6 | h6
    · exact hvG k h6
    · omega
  have hGa : G < u0.heap.size := lt_of_heap xa.out
  have k1 := keepF u0 base B (N + 1) _ vb0 bt0 (vs 1) (X 1) (hr2.out.row 1 (by omega)) (fun k hk => ⟨(fun h6 => h6.elim (hT 1 (by omega) k hk).1 (fun h7 => hap 0 1 (by omega) (by omega) (by omega) k (by rw [e0.out]; exact h7) hk)), (hT 1 (by omega) k hk).2⟩) (by omega) (by have := hbl 1; omega)
  rw [e1.out] at k1
  replace mm0 := Lib.hid mm0
  replace bt0 := Lib.hid bt0
  clear mf0 fr0
  refine ⟨_, rfl, ?_⟩
  simp only [Act.put, List.setIfInBounds_toArray, List.set_cons_zero, List.set_cons_succ]
  go_upto_region 2 with (fail)
  refine wp_region_lit ?_
  refine wpList_reads (by kernel_rfl) (.pointer (some ⟨B, 0, none⟩)) (by go_simp) ?_
  simp only [Act.put, List.setIfInBounds_toArray, List.set_cons_zero, List.set_cons_succ]
  refine wpList_reads (by kernel_rfl) (.pointer (some ⟨G, 1, none⟩)) (by go_simp) ?_
  simp only [Act.put, List.setIfInBounds_toArray, List.set_cons_zero, List.set_cons_succ]
  refine wpList_reads (by kernel_rfl) (.slice a1 n1 c1) (run_load_op rfl rfl (ld_sl (by rw [cell_of_row _ _ _ _ _ _ xa.out]; rfl))) ?_
  simp only [Act.put, List.setIfInBounds_toArray, List.set_cons_zero, List.set_cons_succ]
  refine wpList_enter (by kernel_rfl) 13 #[.pointer (some ⟨B, 0, none⟩), .slice a1 n1 c1] (by go_simp) (k1) ?_
  rintro e u1 ⟨rfl, mf1, vb1, bt1, fr1⟩
  have mm1 : Mod (fun k => B ≤ k) _ _ := mf1.mono (fun k _ h6 => by
    rcases h6 with h6 | h6
    · omega
    · have := hup1 k h6; omega)
  have xa := Lib.hid (mf1.heap xa.out (by rintro (h6 | h6); omega; exact hvG _ h6 rfl))
  have hr3 := Lib.hid (hr2.out.below mm1 (fun j hj k hk => (hT j hj k hk).2))
  have hup2 := bt1.up
  have hvG : ∀ k, vb1.ownBlock = some k → k ≠ G := fun k hk => by
    rcases fr1 k hk with h6 | h6
    · exact hvG k h6
    · omega
  have hGa : G < u1.heap.size := lt_of_heap xa.out
  have k2 := keepF u1 base B (N + 2) _ vb1 bt1 (vs 2) (X 2) (hr3.out.row 2 (by omega)) (fun k hk => ⟨(fun h6 => h6.elim (fun h6 => h6.elim (hT 2 (by omega) k hk).1 (fun h7 => hap 0 2 (by omega) (by omega) (by omega) k (by rw [e0.out]; exact h7) hk)) (fun h7 => hap 1 2 (by omega) (by omega) (by omega) k (by rw [e1.out]; exact h7) hk)), (hT 2 (by omega) k hk).2⟩) (by omega) (by have := hbl 2; omega)
  rw [e2.out] at k2
  replace mm1 := Lib.hid mm1
  replace bt1 := Lib.hid bt1
  clear mf1 fr1
  refine ⟨_, rfl, ?_⟩
  simp only [Act.put, List.setIfInBounds_toArray, List.set_cons_zero, List.set_cons_succ]
  go_upto_region 3 with (fail)
  refine wp_region_lit ?_
  refine wpList_reads (by kernel_rfl) (.pointer (some ⟨B, 0, none⟩)) (by go_simp) ?_
  simp only [Act.put, List.setIfInBounds_toArray, List.set_cons_zero, List.set_cons_succ]
  refine wpList_reads (by kernel_rfl) (.pointer (some ⟨G, 2, none⟩)) (by go_simp) ?_
  simp only [Act.put, List.setIfInBounds_toArray, List.set_cons_zero, List.set_cons_succ]
  refine wpList_reads (by kernel_rfl) (.slice a2 n2 c2) (run_load_op rfl rfl (ld_sl (by rw [cell_of_row _ _ _ _ _ _ xa.out]; rfl))) ?_
  simp only [Act.put, List.setIfInBounds_toArray, List.set_cons_zero, List.set_cons_succ]
  refine wpList_enter (by kernel_rfl) 13 #[.pointer (some ⟨B, 0, none⟩), .slice a2 n2 c2] (by go_simp) (k2) ?_
  rintro e u2 ⟨rfl, mf2, vb2, bt2, fr2⟩
  have mm2 : Mod (fun k => B ≤ k) _ _ := mf2.mono (fun k _ h6 => by
    rcases h6 with h6 | h6
    · omega
    · have := hup2 k h6; omega)
  replace mm2 := Lib.hid mm2
  replace bt2 := Lib.hid bt2
  clear mf2 fr2
  refine ⟨_, rfl, ?_⟩
  simp only [Act.put, List.setIfInBounds_toArray, List.set_cons_zero, List.set_cons_succ]
  go_wp2
  go_end0
  exact ⟨rfl, (((ma.out.mono (fun _ _ h => h.elim)).trans' mm0.out (fun k hk h => h)).trans' mm1.out (fun k hk h => h)).trans' mm2.out (fun k hk h => h), _, bt2.out.mono (fun k hk => by
    rcases hk with ((hk | hk) | hk) | hk
    · exact .inl hk
    · exact .inr ⟨0, by omega, by rw [e0.out]; exact hk⟩
    · exact .inr ⟨1, by omega, by rw [e1.out]; exact hk⟩
    · exact .inr ⟨2, by omega, by rw [e2.out]; exact hk⟩)⟩
end Go.Proofs.YtppjnkgmbmhlcaaGreatDoor
