/-
  poly: numbers of five words; of. Printed by gen/po1.py.
-/
import Derived.Test.YtbiijcljpgannaaGreatDoorMA
namespace Go.Proofs.YtbiijcljpgannaaGreatDoor
set_option maxRecDepth 100000
open Go Go.RowKit Go.Lib
set_option linter.unusedSimpArgs false
set_option linter.unusedVariables false

/-- A number as it lies in memory. -/
def NumAt (w : World) (g : Nat) (l : List Nat) : Prop := w.heap[g]? = some (.cells (nums .u64 l).toArray 162 (0,0))
def numA (l : List Nat) : Value := .agg (nums .u64 l).toArray
theorem info_num : (Tryz.prog.info? 162).map (·.size) = some 5 := by kernel_rfl
theorem NumAt.mod {S : Nat → Prop} {w w' : World} {g : Nat} {l : List Nat} (x : NumAt w g l) (m : Mod S w w') (hS : ¬ S g) : NumAt w' g l := m.heap x hS
theorem num_load {w : World} {g : Nat} {l : List Nat} (x : NumAt w g l) (hl : l.length = 5) : (loadVar 162 ⟨g, 0, none⟩).run Tryz.prog w = .ok (numA l) w :=
  load_mid w g 0 162 _ [] (nums .u64 l) [] (0,0) _ (by rw [x]; simp) rfl Tryz.underlying162 rfl (by rw [nums_length, hl]; exact info_num)
theorem num_store {w : World} {g : Nat} {l l' : List Nat} (x : NumAt w g l) (hl : l.length = 5) (hl' : l'.length = 5) : ∃ w', (storeVar 162 ⟨g, 0, none⟩ (numA l')).run Tryz.prog w = .ok () w' ∧ Mod (fun k => k = g) w w' ∧ NumAt w' g l' := by
  obtain ⟨w', h1, h2, h3⟩ := store_mid (P := Tryz.prog) w g 0 162 162 [] (nums .u64 l) [] (nums .u64 l') (by rw [x]; simp) rfl (by rw [nums_length, nums_length, hl, hl']) (by rw [nums_length, hl']; exact info_num) (nums_one _ _)
  exact ⟨w', h1, h2, by unfold NumAt; rw [h3]; simp⟩
theorem num_cell {w : World} {g : Nat} {l : List Nat} (x : NumAt w g l) (i : Nat) (hi : i < l.length) : w.cell? ⟨g, i, none⟩ = some (.int .u64 ((l.getD i 0 : Nat) : Int)) := by
  rw [cell_of_row _ _ _ _ _ _ x]
  exact nums_get hi
theorem num_set {w : World} {g : Nat} {l : List Nat} (x : NumAt w g l) (i n : Nat) : NumAt (w.setCell ⟨g, i, none⟩ (.int .u64 (n : Int))) g (l.set i n) ∧ Mod (fun k => k = g) w (w.setCell ⟨g, i, none⟩ (.int .u64 (n : Int))) := by
  refine ⟨?_, Mod.one_setCell _ _ _ _⟩
  unfold NumAt
  rw [setCell_row _ _ _ _ _ _ x, setRow_heap _ _ _ _ _ _ x]
  simp [nums, List.map_set]
theorem store_u64 {w : World} {a : Addr} {x : Value} {n : Int} (hc : w.cell? a = some x) (hf : w.frozen? a = false) : (storeVar 77 a (.int .u64 n)).run Tryz.prog w = .ok () (w.setCell a (.int .u64 n)) := by go_simp
/-- One word is written. -/
theorem num_put {w : World} {g : Nat} {l : List Nat} (x : NumAt w g l) (i n : Nat) (hi : i < l.length) : ∃ w', (storeVar 77 ⟨g, i, none⟩ (.int .u64 (n : Int))).run Tryz.prog w = .ok () w' ∧ Mod (fun k => k = g) w w' ∧ NumAt w' g (l.set i n) :=
  ⟨_, store_u64 (num_cell x i hi) (frozen_of_row _ _ _ _ _ x), (num_set x i n).2, (num_set x i n).1⟩
theorem ld_u64 {w : World} {g off : Nat} {n : Int} (hc : w.cell? ⟨g, off, none⟩ = some (.int .u64 n)) : (loadVar 77 ⟨g, off, none⟩).run Tryz.prog w = .ok (.int .u64 n) w := by go_simp
theorem zeroNum (w : World) : (zeroValue 162).run Tryz.prog w = .ok (numA [0, 0, 0, 0, 0]) w := by kernel_rfl
theorem alloc_num (w : World) (ev : Operand → Value) (o : Oper) (ho : o.op = .alloc 162) : (execOp ev o).run Tryz.prog w = .ok (.value (.pointer (some ⟨w.heap.size, 0, none⟩))) (w.alloc (.cells (nums .u64 [0, 0, 0, 0, 0]).toArray 162)) := by
  unfold execOp
  simp [ho, Instr.alloc, Sem.run_bind, zeroNum, numA, newVar, newRow, Value.cells]
  rfl
theorem results_num {fn : Func} {p : Tmp} (h : fn.results = #[.cell p 162]) (tmps : Array Value) (w : World) (g : Nat) (l : List Nat) (hp : tmps.getD p undef = .pointer (some ⟨g, 0, none⟩)) (x : NumAt w g l) (hl : l.length = 5) :
    (results fn tmps).run Tryz.prog w = .ok (numA l) w := by
  have hp' : tmps[p]?.getD undef = .pointer (some ⟨g, 0, none⟩) := by simpa using hp
  simp [results, h, Sem.run_bind, hp', asAddr, num_load x hl]
theorem mask26 (n : Nat) (h : n < 18446744073709551616) : bits .and .u64 (n : Int) 67108863 = ((n % 67108864 : Nat) : Int) := by
  rw [show (67108863 : Int) = ((67108863 : Nat) : Int) from rfl, u64_and_nat n 67108863 (by omega) (by omega), show (67108863 : Nat) = 2 ^ 26 - 1 from rfl, Nat.and_two_pow_sub_one_eq_mod]
def ofStep (l : List Nat) (i c : Nat) : List Nat :=
  let W := c * 2 ^ (8 * i % 26)
  let m := l.set (8 * i / 26) (l.getD (8 * i / 26) 0 ||| W % 67108864)
  if 67108863 < W then m.set (8 * i / 26 + 1) (m.getD (8 * i / 26 + 1) 0 ||| W / 67108864) else m
def ofTo (bs : List (BitVec 8)) : Nat → List Nat
  | 0 => [0, 0, 0, 0, 0]
  | i + 1 => ofStep (ofTo bs i) i (bs.getD i 0).toNat
def ofN (bs : List (BitVec 8)) : List Nat := ofTo bs bs.length
theorem ofStep_length (l : List Nat) (i c : Nat) : (ofStep l i c).length = l.length := by
  unfold ofStep
  simp only
  split <;> simp
theorem ofTo_length (bs : List (BitVec 8)) (i : Nat) : (ofTo bs i).length = 5 := by
  induction i with
  | zero => rfl
  | succ i ih => unfold ofTo; rw [ofStep_length, ih]
theorem set_below {l : List Nat} {i n M : Nat} (h : ∀ x ∈ l, x < M) (hn : n < M) : ∀ x ∈ l.set i n, x < M := by
  intro x hx
  rcases List.mem_or_eq_of_mem_set hx with h1 | h1
  · exact h x h1
  · rw [h1]; exact hn
theorem getD_below {l : List Nat} {i M : Nat} (h : ∀ x ∈ l, x < M) (hM : 0 < M) : l.getD i 0 < M := by
  rw [List.getD_eq_getElem?_getD]
  cases hi : l[i]? with
  | none => exact hM
  | some x => exact h x (List.mem_of_getElem? hi)
theorem ofStep_below {l : List Nat} {i c : Nat} (h : ∀ x ∈ l, x < 67108864) (hc : c < 256) (hs : 8 * i % 26 ≤ 25) : ∀ x ∈ ofStep l i c, x < 67108864 := by
  have hp : 2 ^ (8 * i % 26) ≤ 2 ^ 25 := Nat.pow_le_pow_right (by omega) hs
  have hW : c * 2 ^ (8 * i % 26) < 67108864 * 128 := by
    calc c * 2 ^ (8 * i % 26) ≤ 255 * 2 ^ 25 := Nat.mul_le_mul (by omega) hp
      _ < _ := by decide
  unfold ofStep
  simp only
  generalize c * 2 ^ (8 * i % 26) = W at hW ⊢
  have h1 : ∀ x ∈ l.set (8 * i / 26) (l.getD (8 * i / 26) 0 ||| W % 67108864), x < 67108864 :=
    set_below h (Nat.or_lt_two_pow (n := 26) (getD_below h (by omega)) (Nat.mod_lt _ (by omega)))
  split
  · exact set_below h1 (Nat.or_lt_two_pow (n := 26) (getD_below h1 (by omega)) (by omega))
  · exact h1
theorem ofTo_below (bs : List (BitVec 8)) (i : Nat) : ∀ x ∈ ofTo bs i, x < 67108864 := by
  induction i with
  | zero => intro x hx; simp [ofTo] at hx; omega
  | succ i ih => unfold ofTo; exact ofStep_below ih (by have := (bs.getD i 0).isLt; omega) (by omega)

set_option maxRecDepth 100000 in
set_option maxHeartbeats 4000000 in
theorem of_num (v : Value) (bs : List (BitVec 8)) (w : World) (hb : ByteAt w v bs) (hl : bs.length ≤ 17) (h16 : 16 < bs.length → (bs.getD 16 0).toNat < 4) :
    Calls Tryz.prog 106 #[v] w fun e w' => Mod (fun _ => False) w w' ∧ e = .returned (numA (ofN bs)) := by
  obtain ⟨ab, cb, rfl, hbc⟩ := hb.slice
  obtain ⟨n, hn⟩ : ∃ n, n = bs.length := ⟨_, rfl⟩
  rw [← hn] at hb hl h16 ⊢
  have bn0 : (0 : Int) ≤ (n : Int) := by omega
  obtain ⟨wa, hwa⟩ : ∃ x, x = w.alloc (.cells (nums .u64 [0, 0, 0, 0, 0]).toArray 162) := ⟨_, rfl⟩
  obtain ⟨G, hG⟩ : ∃ g, g = w.heap.size := ⟨_, rfl⟩
  have ma : Mod (fun _ => False) w wa := by rw [hwa]; exact (Mod.refl _ _).alloc _
  have xa : NumAt wa G (ofTo bs 0) := by rw [hwa]; exact hp_new _ _ _ hG
  replace hwa := Lib.hid hwa
  replace hG := Lib.hid hG
  replace ma := Lib.hid ma
  replace xa := Lib.hid xa
  replace hb := Lib.hid hb
  replace hn := Lib.hid hn
  replace h16 := Lib.hid h16
  replace hbc := Lib.hid hbc
  go_enter Tryz.func106, Tryz.ntmps106
  go_upto_region 0 with (fail)
  refine wp_region_lit ?_
  refine wpList_yields (by kernel_rfl) _ _ (alloc_num _ _ _ rfl) ?_
  simp only [Act.put, List.setIfInBounds_toArray, List.set_cons_zero, List.set_cons_succ]
  rw [← hG.out, ← hwa.out]
  go_wp2
  go_loopw [9] (fun iv wr => ∃ i : Nat, i ≤ n ∧ iv = .int .i64 (i : Int) ∧ Mod (fun _ => False) w wr ∧ NumAt wr G (ofTo bs i)) (fun iv _ => n - (intOf iv).toNat)
  case atStart => exact ⟨0, by omega, rfl, ma.out, xa.out⟩
  case round =>
    obtain ⟨i, hin, rfl, mr, xr⟩ := hrel
    have bi0 : (0 : Int) ≤ (i : Int) := by omega
    by_cases hlt : i < n
    · obtain ⟨gb, ob, had, _, hcell⟩ := hbc.out i (by rw [← hn.out]; exact hlt)
      subst had
      have hcr := ((hb.out.mod mr (fun _ _ h => h)).slice)
      obtain ⟨a', c', e', hcr⟩ := hcr
      injection e' with e1 e2 e3
      clear e2 e3
      subst e1
      obtain ⟨gb2, ob2, h1, _, hc2⟩ := hcr i (by rw [← hn.out]; exact hlt)
      injection h1 with h1
      injection h1 with h1 h2
      subst h1 h2
      obtain ⟨c, hc⟩ : ∃ c, c = (bs.getD i 0).toNat := ⟨_, rfl⟩
      have hc256 : c < 256 := by rw [hc]; exact (bs.getD i 0).isLt
      rw [← hc] at hc2
      obtain ⟨a, ha⟩ : ∃ a, a = 8 * i := ⟨_, rfl⟩
      obtain ⟨s, hs⟩ : ∃ s, s = a % 26 := ⟨_, rfl⟩
      obtain ⟨q, hq⟩ : ∃ q, q = a / 26 := ⟨_, rfl⟩
      have hai : 8 * (i : Int) = (a : Int) := by omega
      have hwa1 : IntKind.i64.wrap (a : Int) = (a : Int) := by rw [IntKind.wrap_i64]; omega
      have ba0 : (0 : Int) ≤ (a : Int) := by omega
      have bs0 : (0 : Int) ≤ (s : Int) := by omega
      have bs26 : (s : Int) < 26 := by omega
      have hrem : Int.tmod (a : Int) 26 = (s : Int) := by rw [hs]; rfl
      have hrem2 : (a : Int) % 26 = (s : Int) := by omega
      have hquo : Int.tdiv (a : Int) 26 = (q : Int) := by rw [Int.tdiv_eq_ediv_of_nonneg (by omega)]; omega
      have hquo2 : (a : Int) / 26 = (q : Int) := by omega
      have hwq : IntKind.i64.wrap (q : Int) = (q : Int) := by rw [IntKind.wrap_i64]; omega
      have bq0 : (0 : Int) ≤ (q : Int) := by omega
      have hq5 : q < 5 := by omega
      obtain ⟨W, hW⟩ : ∃ W, W = c * 2 ^ s := ⟨_, rfl⟩
      have hWb : W < 8589934592 := by
        have hp : 2 ^ s ≤ 2 ^ 25 := Nat.pow_le_pow_right (by omega) (by omega)
        calc W = c * 2 ^ s := hW
          _ ≤ 255 * 2 ^ 25 := Nat.mul_le_mul (by omega) hp
          _ < _ := by decide
      have hWi : (c : Int) * 2 ^ s = (W : Int) := by rw [hW]; simp
      have hWw : IntKind.u64.wrap (W : Int) = (W : Int) := by rw [IntKind.wrap_u64]; omega
      have hcw : IntKind.u64.wrap (c : Int) = (c : Int) := by rw [IntKind.wrap_u64]; omega
      have bc0 : (0 : Int) ≤ (c : Int) := by omega
      have bW0 : (0 : Int) ≤ (W : Int) := by omega
      have hll := ofTo_length bs i
      have hlb := ofTo_below bs i
      obtain ⟨L, hL⟩ : ∃ L, L = ofTo bs i := ⟨_, rfl⟩
      rw [← hL] at xr hll hlb
      obtain ⟨x, hx⟩ : ∃ x, x = L.getD q 0 := ⟨_, rfl⟩
      have hx26 : x < 67108864 := by rw [hx]; exact getD_below hlb (by omega)
      have cx := num_cell xr q (by omega)
      rw [← hx] at cx
      have hand := mask26 W (by omega)
      obtain ⟨W0, hW0⟩ : ∃ m, m = W % 67108864 := ⟨_, rfl⟩
      rw [← hW0] at hand
      have hor : bits .or .u64 (x : Int) (W0 : Int) = ((x ||| W0 : Nat) : Int) := u64_or_nat x W0 (by omega) (by omega)
      obtain ⟨y, hy⟩ : ∃ y, y = x ||| W0 := ⟨_, rfl⟩
      rw [← hy] at hor
      obtain ⟨w1, s1, m1, x1⟩ := num_put xr q y (by omega)
      have mr1 : Mod (fun _ => False) w w1 := mr.trans' m1 (fun k hk h => by have := hG.out; omega)
      obtain ⟨L1, hL1⟩ : ∃ L1, L1 = L.set q y := ⟨_, rfl⟩
      have hL1l : L1.length = 5 := by rw [hL1, List.length_set, hll]
      rw [← hL1] at x1
      have bq5 : ¬ (5 : Int) ≤ (q : Int) := by omega
      have hvis : i < n := hlt
      replace hc := Lib.hid hc
      replace ha := Lib.hid ha
      replace hs := Lib.hid hs
      replace hq := Lib.hid hq
      replace hW := Lib.hid hW
      replace hL := Lib.hid hL
      replace hx := Lib.hid hx
      replace hW0 := Lib.hid hW0
      replace hy := Lib.hid hy
      replace hL1 := Lib.hid hL1
      replace x1 := Lib.hid x1
      replace mr1 := Lib.hid mr1
      replace hll := Lib.hid hll
      replace hlb := Lib.hid hlb
      replace hlt := Lib.hid hlt
      replace hWb := Lib.hid hWb
      clear hcr hcell m1 mr xr
      go_upto_region 3 with (fail)
      refine wp_region_lit ?_
      refine wpList_reads (by kernel_rfl) (.int .i64 (i : Int)) (by go_simp) ?_
      simp only [Act.put, List.setIfInBounds_toArray, List.set_cons_zero, List.set_cons_succ]
      refine wpList_reads (by kernel_rfl) (.pointer (some ⟨gb, ob + i, none⟩)) (by go_simp) ?_
      simp only [Act.put, List.setIfInBounds_toArray, List.set_cons_zero, List.set_cons_succ]
      refine wpList_reads (by kernel_rfl) (.int .u8 (c : Int)) (by go_simp) ?_
      simp only [Act.put, List.setIfInBounds_toArray, List.set_cons_zero, List.set_cons_succ]
      refine wpList_reads (by kernel_rfl) (.int .i64 (i : Int)) (by go_simp) ?_
      simp only [Act.put, List.setIfInBounds_toArray, List.set_cons_zero, List.set_cons_succ]
      refine wpList_reads (by kernel_rfl) (.int .u8 (c : Int)) (by go_simp) ?_
      simp only [Act.put, List.setIfInBounds_toArray, List.set_cons_zero, List.set_cons_succ]
      clear hc2
      go_upto_region 4 with (fail)
      refine wp_region_lit ?_
      refine wpList_reads (by kernel_rfl) (.int .i64 (i : Int)) (by go_simp) ?_
      simp only [Act.put, List.setIfInBounds_toArray, List.set_cons_zero, List.set_cons_succ]
      refine wpList_reads (by kernel_rfl) (.int .i64 (a : Int)) (by go_simp) ?_
      simp only [Act.put, List.setIfInBounds_toArray, List.set_cons_zero, List.set_cons_succ]
      refine wpList_reads (by kernel_rfl) (.int .i64 (a : Int)) (by go_simp) ?_
      simp only [Act.put, List.setIfInBounds_toArray, List.set_cons_zero, List.set_cons_succ]
      go_upto_region 5 with (fail)
      refine wp_region_lit ?_
      refine wpList_reads (by kernel_rfl) (.int .u8 (c : Int)) (by go_simp) ?_
      simp only [Act.put, List.setIfInBounds_toArray, List.set_cons_zero, List.set_cons_succ]
      refine wpList_reads (by kernel_rfl) (.int .u64 (c : Int)) (by go_simp) ?_
      simp only [Act.put, List.setIfInBounds_toArray, List.set_cons_zero, List.set_cons_succ]
      refine wpList_reads (by kernel_rfl) (.int .i64 (a : Int)) (by go_simp) ?_
      simp only [Act.put, List.setIfInBounds_toArray, List.set_cons_zero, List.set_cons_succ]
      refine wpList_reads (by kernel_rfl) (.int .i64 (s : Int)) (by go_simp) ?_
      simp only [Act.put, List.setIfInBounds_toArray, List.set_cons_zero, List.set_cons_succ]
      refine wpList_reads (by kernel_rfl) (.int .u64 (W : Int)) (by go_simp) ?_
      simp only [Act.put, List.setIfInBounds_toArray, List.set_cons_zero, List.set_cons_succ]
      refine wpList_reads (by kernel_rfl) (.int .u64 (W : Int)) (by go_simp) ?_
      simp only [Act.put, List.setIfInBounds_toArray, List.set_cons_zero, List.set_cons_succ]
      go_upto_region 6 with (fail)
      refine wp_region_lit ?_
      refine wpList_reads (by kernel_rfl) (.int .i64 (a : Int)) (by go_simp) ?_
      simp only [Act.put, List.setIfInBounds_toArray, List.set_cons_zero, List.set_cons_succ]
      refine wpList_reads (by kernel_rfl) (.int .i64 (q : Int)) (by go_simp) ?_
      simp only [Act.put, List.setIfInBounds_toArray, List.set_cons_zero, List.set_cons_succ]
      refine wpList_reads (by kernel_rfl) (.pointer (some ⟨G, q, none⟩)) (by go_simp) ?_
      simp only [Act.put, List.setIfInBounds_toArray, List.set_cons_zero, List.set_cons_succ]
      refine wpList_reads (by kernel_rfl) (.int .u64 (x : Int)) (by go_simp) ?_
      simp only [Act.put, List.setIfInBounds_toArray, List.set_cons_zero, List.set_cons_succ]
      refine wpList_reads (by kernel_rfl) (.int .u64 (W : Int)) (by go_simp) ?_
      simp only [Act.put, List.setIfInBounds_toArray, List.set_cons_zero, List.set_cons_succ]
      refine wpList_reads (by kernel_rfl) (.int .u64 (W0 : Int)) (by go_simp) ?_
      simp only [Act.put, List.setIfInBounds_toArray, List.set_cons_zero, List.set_cons_succ]
      refine wpList_reads (by kernel_rfl) (.int .u64 (y : Int)) (by go_simp) ?_
      simp only [Act.put, List.setIfInBounds_toArray, List.set_cons_zero, List.set_cons_succ]
      refine wpList_reads (by kernel_rfl) (.pointer (some ⟨G, q, none⟩)) (by go_simp) ?_
      simp only [Act.put, List.setIfInBounds_toArray, List.set_cons_zero, List.set_cons_succ]
      refine wpList_store_to rfl _ _ _ rfl _ _ _ rfl rfl _ s1 ?_
      simp only [Act.put, List.setIfInBounds_toArray, List.set_cons_zero, List.set_cons_succ]
      clear s1 cx
      by_cases hov : 67108863 < W
      · have hd : decide ((67108863 : Int) < (W : Int)) = true := by rw [decide_eq_true_iff]; omega
        have hq4 : q + 1 < 5 := by
          by_cases hi13 : i < 13
          · have := ha.out; have := hq.out; omega
          · exfalso
            have hi17 : i < 17 := by have := hlt.out; omega
            have hci : i = 16 → c < 4 := fun h => by rw [hc.out, h]; exact h16.out (by have := hlt.out; omega)
            have h4 : i = 13 ∨ i = 14 ∨ i = 15 ∨ i = 16 := by omega
            have hWo := hW.out
            rw [hs.out, ha.out] at hWo
            rcases h4 with rfl | rfl | rfl | rfl
            · simp at hWo; omega
            · simp at hWo; omega
            · simp at hWo; omega
            · have := hci rfl; simp at hWo; omega
        obtain ⟨r, hr⟩ : ∃ r, r = q + 1 := ⟨_, rfl⟩
        have hr1 : (q : Int) + 1 = (r : Int) := by omega
        have hwr : IntKind.i64.wrap (r : Int) = (r : Int) := by rw [IntKind.wrap_i64]; omega
        have br0 : (0 : Int) ≤ (r : Int) := by omega
        have br5 : ¬ (5 : Int) ≤ (r : Int) := by omega
        have hr5 : r < 5 := by omega
        obtain ⟨u, hu⟩ : ∃ u, u = L1.getD r 0 := ⟨_, rfl⟩
        have hL1b : ∀ z ∈ L1, z < 67108864 := by rw [hL1.out]; exact set_below hlb.out (by rw [hy.out]; exact Nat.or_lt_two_pow (n := 26) hx26 (by have := hW0.out; omega))
        have hu26 : u < 67108864 := by rw [hu]; exact getD_below hL1b (by omega)
        have cu := num_cell x1.out r (by omega)
        rw [← hu] at cu
        obtain ⟨W1, hW1⟩ : ∃ m, m = W / 67108864 := ⟨_, rfl⟩
        have hW1i : (W : Int) / 67108864 = (W1 : Int) := by omega
        have bW1 : (0 : Int) ≤ (W1 : Int) := by omega
        have hor2 : bits .or .u64 (u : Int) (W1 : Int) = ((u ||| W1 : Nat) : Int) := u64_or_nat u W1 (by omega) (by have := hWb.out; omega)
        obtain ⟨z, hz⟩ : ∃ y, y = u ||| W1 := ⟨_, rfl⟩
        rw [← hz] at hor2
        obtain ⟨w2, s2, m2, x2⟩ := num_put x1.out r z (by omega)
        have mr2 : Mod (fun _ => False) w w2 := mr1.out.trans' m2 (fun k hk h => by have := hG.out; omega)
        have hnx : ofTo bs (i + 1) = L1.set r z := by
          rw [ofTo, ← hL.out, ← hc.out]
          unfold ofStep
          simp only
          rw [← ha.out, ← hs.out, ← hq.out, ← hW.out, ← hW0.out, ← hx.out, ← hy.out, ← hL1.out, if_pos hov, ← hW1, ← hr, ← hu, ← hz]
        rw [← hnx] at x2
        replace x2 := Lib.hid x2
        replace mr2 := Lib.hid mr2
        replace hr := Lib.hid hr
        replace hu := Lib.hid hu
        replace hz := Lib.hid hz
        replace hW1 := Lib.hid hW1
        clear hnx m2 hov hL1b hq4
        go_upto_region 8 with (fail)
        refine wp_region_lit ?_
        refine wpList_reads (by kernel_rfl) (.int .i64 (a : Int)) (by go_simp) ?_
        simp only [Act.put, List.setIfInBounds_toArray, List.set_cons_zero, List.set_cons_succ]
        refine wpList_reads (by kernel_rfl) (.int .i64 (q : Int)) (by go_simp) ?_
        simp only [Act.put, List.setIfInBounds_toArray, List.set_cons_zero, List.set_cons_succ]
        refine wpList_reads (by kernel_rfl) (.int .i64 (r : Int)) (by go_simp) ?_
        simp only [Act.put, List.setIfInBounds_toArray, List.set_cons_zero, List.set_cons_succ]
        refine wpList_reads (by kernel_rfl) (.pointer (some ⟨G, r, none⟩)) (by go_simp) ?_
        simp only [Act.put, List.setIfInBounds_toArray, List.set_cons_zero, List.set_cons_succ]
        refine wpList_reads (by kernel_rfl) (.int .u64 (u : Int)) (by go_simp) ?_
        simp only [Act.put, List.setIfInBounds_toArray, List.set_cons_zero, List.set_cons_succ]
        refine wpList_reads (by kernel_rfl) (.int .u64 (W : Int)) (by go_simp) ?_
        simp only [Act.put, List.setIfInBounds_toArray, List.set_cons_zero, List.set_cons_succ]
        refine wpList_reads (by kernel_rfl) (.int .u64 (W1 : Int)) (by go_simp) ?_
        simp only [Act.put, List.setIfInBounds_toArray, List.set_cons_zero, List.set_cons_succ]
        refine wpList_reads (by kernel_rfl) (.int .u64 (z : Int)) (by go_simp) ?_
        simp only [Act.put, List.setIfInBounds_toArray, List.set_cons_zero, List.set_cons_succ]
        refine wpList_reads (by kernel_rfl) (.pointer (some ⟨G, r, none⟩)) (by go_simp) ?_
        simp only [Act.put, List.setIfInBounds_toArray, List.set_cons_zero, List.set_cons_succ]
        refine wpList_store_to rfl _ _ _ rfl _ _ _ rfl rfl _ s2 ?_
        simp only [Act.put, List.setIfInBounds_toArray, List.set_cons_zero, List.set_cons_succ]
        clear s2 cu
        go_wp2
        go_roundw
        case measure => have := hlt.out; simp [intOf]; omega
        case rel => exact ⟨i + 1, by have := hlt.out; omega, by go_num, mr2.out, x2.out⟩
      · have hd : decide ((67108863 : Int) < (W : Int)) = false := by rw [decide_eq_false_iff_not]; omega
        have hnx : ofTo bs (i + 1) = L1 := by
          rw [ofTo, ← hL.out, ← hc.out]
          unfold ofStep
          simp only
          rw [← ha.out, ← hs.out, ← hq.out, ← hW.out, ← hW0.out, ← hx.out, ← hy.out, ← hL1.out, if_neg hov]
        replace hnx := Lib.hid hnx
        clear hov
        go_wp2
        go_roundw
        case measure => have := hlt.out; simp [intOf]; omega
        case rel => exact ⟨i + 1, by have := hlt.out; omega, by go_num, mr1.out, by rw [hnx.out]; exact x1.out⟩
    · have hi : i = n := by omega
      subst hi
      have hd : decide ((i : Int) < (i : Int)) = false := by rw [decide_eq_false_iff_not]; omega
      have hll := ofTo_length bs i
      obtain ⟨wz, sz, mz, xz⟩ := num_store xr hll hll
      have lz := num_load xr hll
      have hres : ofTo bs i = ofN bs := by unfold ofN; rw [← hn.out]
      have mrz : Mod (fun _ => False) w wz := mr.trans' mz (fun k hk h => by have := hG.out; omega)
      rw [hres] at xz
      have hll' : (ofN bs).length = 5 := ofTo_length _ _
      obtain ⟨R, hR⟩ : ∃ R, R = ofTo bs i := ⟨_, rfl⟩
      rw [← hR] at lz sz
      replace xz := Lib.hid xz
      replace mrz := Lib.hid mrz
      replace hR := Lib.hid hR
      clear mr xr mz hlt hres hll
      go_upto_region 10 with (fail)
      refine wp_region_lit ?_
      refine wpList_reads (by kernel_rfl) (numA R) (run_load_op rfl rfl lz) ?_
      simp only [Act.put, List.setIfInBounds_toArray, List.set_cons_zero, List.set_cons_succ]
      refine wpList_store_to rfl _ _ _ rfl _ _ _ rfl rfl _ sz ?_
      simp only [Act.put, List.setIfInBounds_toArray, List.set_cons_zero, List.set_cons_succ]
      clear sz lz
      go_wp2
      exact bodyPost_ret (v := numA (ofN bs)) (results_num rfl _ _ _ _ rfl xz.out hll') rfl ⟨mrz.out, rfl⟩
end Go.Proofs.YtbiijcljpgannaaGreatDoor
