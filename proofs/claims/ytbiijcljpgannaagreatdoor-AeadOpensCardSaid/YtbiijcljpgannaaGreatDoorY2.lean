/-
  poly.number.carried. Printed by gen/po2.py.
-/
import Derived.WalkMore
import Derived.Deep.LoopGhost
import Derived.Test.YtbiijcljpgannaaGreatDoorY1
namespace Go.Proofs.YtbiijcljpgannaaGreatDoor
set_option maxRecDepth 100000
open Go Go.RowKit Go.Lib
set_option linter.unusedSimpArgs false
set_option linter.unusedVariables false

def passStep (l : List Nat) (i : Nat) : List Nat :=
  let h := l.getD i 0 / 67108864
  let m := l.set i (l.getD i 0 % 67108864)
  if i + 1 < 5 then m.set (i + 1) (m.getD (i + 1) 0 + h) else m.set 0 (m.getD 0 0 + 5 * h)
def passTo (l : List Nat) : Nat → List Nat
  | 0 => l
  | i + 1 => passStep (passTo l i) i
def passN (l : List Nat) : List Nat := passTo l 5
def okN (l : List Nat) : Prop := ∀ x ∈ l, x < 67108864
instance (l : List Nat) : Decidable (okN l) := by unfold okN; infer_instance
def carF : Nat → List Nat → List Nat
  | 0, l => l
  | f + 1, l => if okN (passN l) then passN l else carF f (passN l)
def carN (l : List Nat) : List Nat := carF 3 l
/-- So many passes are enough. -/
def Ends : Nat → List Nat → Prop
  | 0, _ => False
  | f + 1, l => okN (passN l) ∨ Ends f (passN l)
theorem passStep_length (l : List Nat) (i : Nat) : (passStep l i).length = l.length := by
  unfold passStep
  simp only
  split <;> simp
theorem passTo_length (l : List Nat) (i : Nat) : (passTo l i).length = l.length := by
  induction i with
  | zero => rfl
  | succ i ih => unfold passTo; rw [passStep_length, ih]
theorem five (l : List Nat) (h : l.length = 5) : ∃ a b c d e, l = [a, b, c, d, e] := by
  match l, h with
  | [a, b, c, d, e], _ => exact ⟨a, b, c, d, e, rfl⟩
/-- One pass, word by word. -/
theorem passN_five (a b c d e : Nat) : ∃ h0 h1 h2 h3 h4 a' b' c' d' e' : Nat, passN [a, b, c, d, e] = [a' + 5 * h4, b', c', d', e'] ∧ a = h0 * 67108864 + a' ∧ a' < 67108864 ∧ b + h0 = h1 * 67108864 + b' ∧ b' < 67108864 ∧ c + h1 = h2 * 67108864 + c' ∧ c' < 67108864 ∧ d + h2 = h3 * 67108864 + d' ∧ d' < 67108864 ∧ e + h3 = h4 * 67108864 + e' ∧ e' < 67108864 := by
  refine ⟨a / 67108864, (b + a / 67108864) / 67108864, (c + (b + a / 67108864) / 67108864) / 67108864, (d + (c + (b + a / 67108864) / 67108864) / 67108864) / 67108864, (e + (d + (c + (b + a / 67108864) / 67108864) / 67108864) / 67108864) / 67108864, a % 67108864, (b + a / 67108864) % 67108864, (c + (b + a / 67108864) / 67108864) % 67108864, (d + (c + (b + a / 67108864) / 67108864) / 67108864) % 67108864, (e + (d + (c + (b + a / 67108864) / 67108864) / 67108864) / 67108864) % 67108864, ?_, ?_⟩
  · simp [passN, passTo, passStep]
  · refine ⟨by omega, by omega, by omega, by omega, by omega, by omega, by omega, by omega, by omega, by omega⟩
theorem passN_below {l : List Nat} (hl : l.length = 5) (h : ∀ x ∈ l, x < 1152921504606846976) : ∀ x ∈ passN l, x < 1152921504606846976 := by
  obtain ⟨a, b, c, d, e, rfl⟩ := five l hl
  obtain ⟨h0, h1, h2, h3, h4, a', b', c', d', e', hp, q0, p0, q1, p1, q2, p2, q3, p3, q4, p4⟩ := passN_five a b c d e
  have ha := h a (by simp)
  have hb := h b (by simp)
  have hc := h c (by simp)
  have hd := h d (by simp)
  have he := h e (by simp)
  rw [hp]
  intro x hx
  simp only [List.mem_cons, List.not_mem_nil, or_false] at hx
  omega
theorem ends3 {l : List Nat} (hl : l.length = 5) (h : ∀ x ∈ l, x < 1152921504606846976) : Ends 3 l := by
  obtain ⟨a, b, c, d, e, rfl⟩ := five l hl
  have ha := h a (by simp)
  have hb := h b (by simp)
  have hc := h c (by simp)
  have hd := h d (by simp)
  have he := h e (by simp)
  clear h hl
  refine .inr ?_
  obtain ⟨h0, h1, h2, h3, h4, a', b', c', d', e', hp, q0, p0, q1, p1, q2, p2, q3, p3, q4, p4⟩ := passN_five a b c d e
  rw [hp]
  have hA : a' + 5 * h4 < 1099511627776 := by omega
  clear hp q0 p0 q1 q2 q3 q4 ha hb hc hd he
  generalize a' + 5 * h4 = A at hA ⊢
  refine .inr (.inl ?_)
  obtain ⟨k0, k1, k2, k3, k4, A', B', C', D', E', hp, q0, p0', q1, p1', q2, p2', q3, p3', q4, p4'⟩ := passN_five A b' c' d' e'
  rw [hp]
  have hk0 : k0 < 16384 := by omega
  have hk1 : k1 ≤ 1 := by omega
  have hk2 : k2 ≤ 1 := by omega
  have hk3 : k3 ≤ 1 := by omega
  have hk4 : k4 ≤ 1 := by omega
  have hB : k4 = 1 → B' < 16384 := by omega
  clear hp
  obtain ⟨j0, j1, j2, j3, j4, A2, B2, C2, D2, E2, hp, r0, s0, r1, s1, r2, s2, r3, s3, r4, s4⟩ := passN_five (A' + 5 * k4) B' C' D' E'
  rw [hp]
  have hj0 : j0 ≤ 1 := by omega
  have hj0' : j0 = 1 → k4 = 1 := by omega
  have hj1 : j1 = 0 := by
    by_cases hq : j0 = 0
    · omega
    · have := hB (hj0' (by omega)); omega
  have hj2 : j2 = 0 := by omega
  have hj3 : j3 = 0 := by omega
  have hj4 : j4 = 0 := by omega
  intro x hx
  simp only [List.mem_cons, List.not_mem_nil, or_false] at hx
  omega
theorem carF_ok : ∀ (f : Nat) (l : List Nat), Ends f l → okN (carF f l) := by
  intro f
  induction f with
  | zero => intro l h; exact h.elim
  | succ f ih =>
    intro l h
    unfold carF
    by_cases hk : okN (passN l)
    · rw [if_pos hk]; exact hk
    · rw [if_neg hk]; exact ih _ (h.resolve_left hk)
theorem carF_length : ∀ (f : Nat) (l : List Nat), (carF f l).length = l.length := by
  intro f
  induction f with
  | zero => intro l; rfl
  | succ f ih =>
    intro l
    unfold carF
    split
    · exact passTo_length l 5
    · rw [ih]; exact passTo_length l 5
theorem carN_ok {l : List Nat} (hl : l.length = 5) (h : ∀ x ∈ l, x < 1152921504606846976) : okN (carN l) := carF_ok 3 l (ends3 hl h)
theorem carN_length (l : List Nat) : (carN l).length = l.length := carF_length 3 l
/-- What stands while a pass goes on. -/
theorem passTo_inv (l : List Nat) (hl : l.length = 5) (h : ∀ x ∈ l, x < 1152921504606846976) : ∀ i, i < 5 → (∀ j, i < j → j < 5 → (passTo l i).getD j 0 = l.getD j 0) ∧ ∀ x ∈ passTo l i, x < 2305843009213693952 := by
  intro i
  induction i with
  | zero => intro _; exact ⟨fun _ _ _ => rfl, fun x hx => by have := h x hx; omega⟩
  | succ i ih =>
    intro hi
    obtain ⟨h1, h2⟩ := ih (by omega)
    have hml : (passTo l i).length = 5 := by rw [passTo_length, hl]
    rw [passTo]
    generalize passTo l i = m at h1 h2 hml
    have hmi : m.getD i 0 < 2305843009213693952 := getD_below h2 (by omega)
    have hl1 : l.getD (i + 1) 0 < 1152921504606846976 := getD_below h (by omega)
    unfold passStep
    simp only
    rw [if_pos (by omega)]
    refine ⟨fun j hj hj5 => ?_, ?_⟩
    · rw [List.getD_eq_getElem?_getD, List.getElem?_set_ne (by omega), List.getElem?_set_ne (by omega), ← List.getD_eq_getElem?_getD]
      exact h1 j (by omega) hj5
    · refine set_below (set_below h2 (by omega)) ?_
      rw [List.getD_eq_getElem?_getD, List.getElem?_set_ne (by omega), ← List.getD_eq_getElem?_getD, h1 (i + 1) (by omega) (by omega)]
      omega
theorem index_num {P : Program} (w : World) (t E : TypeId) (ht : P.underlying t = some (.array 5 E)) (hE : P.underlying E = some (.int .u64)) (hs : ∀ w, (sizeOf E).run P w = .ok 1 w) (l : List Nat) (j : Nat) (hj : j < 5) (hl : l.length = 5) :
    (Instr.index t (numA l) (.int .i64 j)).run P w = .ok (.int .u64 ((l.getD j 0 : Nat) : Int)) w := by
  have hagg : (isAgg E).run P w = .ok false w := by
    unfold isAgg
    rw [Sem.run_bind, run_underlying hE w]
    simp
  have hg := nums_get (k := .u64) (l := l) (i := j) (by omega)
  rw [List.getD_eq_getElem?_getD, List.getElem?_toArray] at hg
  simp [numA, Instr.index, asIntOf, Sem.run_bind, run_underlying ht w, hs, hj, Go.part, hagg, hg]
theorem size64 (w : World) : (sizeOf 77).run Tryz.prog w = .ok 1 w := by kernel_rfl
theorem index_num_op {ev : Operand → Value} {o : Oper} {x y : Operand} {w : World} {l : List Nat} {j : Nat} (ho : o.op = .index 162 x y) (hx : ev x = numA l) (hy : ev y = .int .i64 (j : Int)) (hj : j < 5) (hl : l.length = 5) :
    (execOp ev o).run Tryz.prog w = .ok (.value (.int .u64 ((l.getD j 0 : Nat) : Int))) w := by
  have h := index_num (P := Tryz.prog) w 162 77 Tryz.underlying162 Tryz.underlying77 size64 l j hj hl
  unfold execOp
  simp [ho, hx, hy, h]
theorem box_num {w : World} {l : List Nat} (ev : Operand → Value) (o : Oper) (x : Operand) (ho : o.op = .box 162 x) (hx : ev x = numA l) : (execOp ev o).run Tryz.prog w = .ok (.value (.pointer (some ⟨w.heap.size, 0, none⟩))) (w.alloc (.cells (nums .u64 l).toArray 162)) := by
  unfold execOp
  simp [ho, hx, numA, Instr.box, Sem.run_bind, newVar, newRow, Value.cells]

set_option maxRecDepth 100000 in
set_option maxHeartbeats 4000000 in
theorem carried_any (l : List Nat) (hl : l.length = 5) (hlb : ∀ x ∈ l, x < 1152921504606846976) (w : World) : Calls Tryz.prog 123 #[numA l] w fun e w' => Mod (fun _ => False) w w' ∧ e = .returned (numA (carN l)) := by
  obtain ⟨wa, hwa⟩ : ∃ x, x = w.alloc (.cells (nums .u64 l).toArray 162) := ⟨_, rfl⟩
  obtain ⟨G, hG⟩ : ∃ g, g = w.heap.size := ⟨_, rfl⟩
  have ma : Mod (fun _ => False) w wa := by rw [hwa]; exact (Mod.refl _ _).alloc _
  have xa : NumAt wa G l := by rw [hwa]; exact hp_new _ _ _ hG
  obtain ⟨w0, hw0⟩ : ∃ x, x = wa.alloc (.cells (nums .u64 [0, 0, 0, 0, 0]).toArray 162) := ⟨_, rfl⟩
  obtain ⟨R, hR⟩ : ∃ g, g = wa.heap.size := ⟨_, rfl⟩
  have mb : Mod (fun _ => False) wa w0 := by rw [hw0]; exact (Mod.refl _ _).alloc _
  have xR : NumAt w0 R [0, 0, 0, 0, 0] := by rw [hw0]; exact hp_new _ _ _ hR
  have xG := xa.mod mb (fun h => h)
  have hGR : G < R := by rw [hR]; exact lt_of_heap xa
  have m0 := ma.trans mb
  have hend : ∀ w', Mod (fun k => k = G ∨ k = R) w0 w' → Mod (fun _ => False) w w' := fun w' m => m0.trans' m (fun k hk h => by have := ma.size; omega)
  have hE3 := ends3 hl hlb
  obtain ⟨Z, hZ⟩ : ∃ Z, Z = carN l := ⟨_, rfl⟩
  rw [← hZ]
  have hZf : carF 3 l = Z := hZ.symm
  have hZl : Z.length = 5 := by rw [hZ, carN_length, hl]
  replace hwa := Lib.hid hwa
  replace hG := Lib.hid hG
  replace hw0 := Lib.hid hw0
  replace hR := Lib.hid hR
  replace xR := Lib.hid xR
  replace xG := Lib.hid xG
  replace m0 := Lib.hid m0
  replace hend := Lib.hid hend
  replace hE3 := Lib.hid hE3
  replace hZ := Lib.hid hZ
  replace hZf := Lib.hid hZf
  replace hlb := Lib.hid hlb
  clear ma xa mb
  go_enter Tryz.func123, Tryz.ntmps123
  go_upto_region 0 with (fail)
  refine wp_region_lit ?_
  refine wpList_yields (by kernel_rfl) _ _ (box_num _ _ _ rfl rfl) ?_
  simp only [Act.put, List.setIfInBounds_toArray, List.set_cons_zero, List.set_cons_succ]
  rw [← hG.out, ← hwa.out]
  refine wpList_yields (by kernel_rfl) _ _ (alloc_num _ _ _ rfl) ?_
  simp only [Act.put, List.setIfInBounds_toArray, List.set_cons_zero, List.set_cons_succ]
  rw [← hR.out, ← hw0.out]
  go_wp2
  go_step3
  go_wp2
  go_step3
  go_wp2
  go_loopg [] 3 (fun gh wr => ∃ cur : List Nat, carF gh cur = Z ∧ Ends gh cur ∧ cur.length = 5 ∧ (∀ x ∈ cur, x < 1152921504606846976) ∧ Mod (fun k => k = G) w0 wr ∧ NumAt wr G cur)
  case atStart => exact ⟨l, hZf.out, hE3.out, hl, hlb.out, Mod.refl _ _, xG.out⟩
  case round =>
    obtain ⟨cur, hcz, hen, hcl, hcb, mr, xr⟩ := hrel
    have hinv := passTo_inv cur hcl hcb
    obtain ⟨wo, hwo⟩ : ∃ wo : World, wo = wr := ⟨_, rfl⟩
    rw [← hwo] at mr xr ⊢
    replace hcz := Lib.hid hcz
    replace hen := Lib.hid hen
    replace hcb := Lib.hid hcb
    replace hinv := Lib.hid hinv
    replace mr := Lib.hid mr
    replace xr := Lib.hid xr
    replace hwo := Lib.hid hwo
    go_wp2
    go_loopw [7] (fun iv wr => ∃ i : Nat, i ≤ 5 ∧ iv = .int .i64 (i : Int) ∧ Mod (fun k => k = G) w0 wr ∧ NumAt wr G (passTo cur i)) (fun iv _ => 5 - (intOf iv).toNat)
    case atStart => exact ⟨0, by omega, rfl, mr.out, xr.out⟩
    case round =>
      obtain ⟨i, hi5, rfl, mi, xi⟩ := hrel
      have bi0 : (0 : Int) ≤ (i : Int) := by omega
      by_cases hlt : i < 5
      · have hd5 : decide ((i : Int) < 5) = true := by rw [decide_eq_true_iff]; omega
        have bi5 : ¬ (5 : Int) ≤ (i : Int) := by omega
        obtain ⟨hj, hb61⟩ := hinv.out i hlt
        have hml : (passTo cur i).length = 5 := by rw [passTo_length, hcl]
        obtain ⟨m, hm⟩ : ∃ m, m = passTo cur i := ⟨_, rfl⟩
        rw [← hm] at xi hb61 hml hj
        obtain ⟨x, hx⟩ : ∃ x, x = m.getD i 0 := ⟨_, rfl⟩
        have hx61 : x < 2305843009213693952 := by rw [hx]; exact getD_below hb61 (by omega)
        have cx := num_cell xi i (by omega)
        rw [← hx] at cx
        obtain ⟨h, hh⟩ : ∃ h, h = x / 67108864 := ⟨_, rfl⟩
        have hhi : (x : Int) / 67108864 = (h : Int) := by omega
        have bh0 : (0 : Int) ≤ (h : Int) := by omega
        obtain ⟨y, hy⟩ : ∃ y, y = x % 67108864 := ⟨_, rfl⟩
        have hand := mask26 x (by omega)
        rw [← hy] at hand
        obtain ⟨w1, s1, m1, x1⟩ := num_put xi i y (by omega)
        have cx1 := cx
        obtain ⟨M1, hM1⟩ : ∃ M, M = m.set i y := ⟨_, rfl⟩
        rw [← hM1] at x1
        have hM1l : M1.length = 5 := by rw [hM1, List.length_set, hml]
        have mi1 := mi.trans m1
        replace hm := Lib.hid hm
        replace hx := Lib.hid hx
        replace hh := Lib.hid hh
        replace hy := Lib.hid hy
        replace hM1 := Lib.hid hM1
        replace x1 := Lib.hid x1
        replace mi1 := Lib.hid mi1
        replace hb61 := Lib.hid hb61
        replace hj := Lib.hid hj
        clear m1 xi mi
        go_upto_region 3 with (fail)
        refine wp_region_lit ?_
        refine wpList_reads (by kernel_rfl) (.int .i64 (i : Int)) (by go_simp) ?_
        simp only [Act.put, List.setIfInBounds_toArray, List.set_cons_zero, List.set_cons_succ]
        refine wpList_reads (by kernel_rfl) (.int .i64 (i : Int)) (by go_simp) ?_
        simp only [Act.put, List.setIfInBounds_toArray, List.set_cons_zero, List.set_cons_succ]
        go_upto_region 4 with (fail)
        refine wp_region_lit ?_
        refine wpList_reads (by kernel_rfl) (.int .i64 (i : Int)) (by go_simp) ?_
        simp only [Act.put, List.setIfInBounds_toArray, List.set_cons_zero, List.set_cons_succ]
        refine wpList_reads (by kernel_rfl) (.pointer (some ⟨G, i, none⟩)) (by go_simp) ?_
        simp only [Act.put, List.setIfInBounds_toArray, List.set_cons_zero, List.set_cons_succ]
        refine wpList_reads (by kernel_rfl) (.int .u64 (x : Int)) (by go_simp) ?_
        simp only [Act.put, List.setIfInBounds_toArray, List.set_cons_zero, List.set_cons_succ]
        refine wpList_reads (by kernel_rfl) (.int .u64 (h : Int)) (by go_simp) ?_
        simp only [Act.put, List.setIfInBounds_toArray, List.set_cons_zero, List.set_cons_succ]
        refine wpList_reads (by kernel_rfl) (.int .u64 (h : Int)) (by go_simp) ?_
        simp only [Act.put, List.setIfInBounds_toArray, List.set_cons_zero, List.set_cons_succ]
        go_upto_region 5 with (fail)
        refine wp_region_lit ?_
        refine wpList_reads (by kernel_rfl) (.int .i64 (i : Int)) (by go_simp) ?_
        simp only [Act.put, List.setIfInBounds_toArray, List.set_cons_zero, List.set_cons_succ]
        refine wpList_reads (by kernel_rfl) (.pointer (some ⟨G, i, none⟩)) (by go_simp) ?_
        simp only [Act.put, List.setIfInBounds_toArray, List.set_cons_zero, List.set_cons_succ]
        refine wpList_reads (by kernel_rfl) (.int .u64 (x : Int)) (by go_simp) ?_
        simp only [Act.put, List.setIfInBounds_toArray, List.set_cons_zero, List.set_cons_succ]
        refine wpList_reads (by kernel_rfl) (.int .u64 (y : Int)) (by go_simp) ?_
        simp only [Act.put, List.setIfInBounds_toArray, List.set_cons_zero, List.set_cons_succ]
        refine wpList_reads (by kernel_rfl) (.pointer (some ⟨G, i, none⟩)) (by go_simp) ?_
        simp only [Act.put, List.setIfInBounds_toArray, List.set_cons_zero, List.set_cons_succ]
        refine wpList_store_to rfl _ _ _ rfl _ _ _ rfl rfl _ s1 ?_
        simp only [Act.put, List.setIfInBounds_toArray, List.set_cons_zero, List.set_cons_succ]
        clear s1 cx cx1
        by_cases h4 : i < 4
        · have hd4 : decide ((i : Int) + 1 < 5) = true := by rw [decide_eq_true_iff]; omega
          obtain ⟨r, hr⟩ : ∃ r, r = i + 1 := ⟨_, rfl⟩
          have hr1 : (i : Int) + 1 = (r : Int) := by omega
          have hd4' : decide ((r : Int) < 5) = true := by rw [decide_eq_true_iff]; omega
          have hwr : IntKind.i64.wrap (r : Int) = (r : Int) := by rw [IntKind.wrap_i64]; omega
          have br0 : (0 : Int) ≤ (r : Int) := by omega
          have br5 : ¬ (5 : Int) ≤ (r : Int) := by omega
          obtain ⟨u, hu⟩ : ∃ u, u = M1.getD r 0 := ⟨_, rfl⟩
          have hu60 : u < 1152921504606846976 := by
            rw [hu, hM1.out, hr, List.getD_eq_getElem?_getD, List.getElem?_set_ne (by omega), ← List.getD_eq_getElem?_getD, hj.out (i + 1) (by omega) (by omega)]
            exact getD_below hcb.out (by omega)
          have cu := num_cell x1.out r (by omega)
          rw [← hu] at cu
          have bu0 : (0 : Int) ≤ (u : Int) := by omega
          obtain ⟨z, hz⟩ : ∃ z, z = u + h := ⟨_, rfl⟩
          have hzi : (u : Int) + (h : Int) = (z : Int) := by omega
          have hwz : IntKind.u64.wrap (z : Int) = (z : Int) := by rw [IntKind.wrap_u64]; have := hh.out; omega
          obtain ⟨w2, s2, m2, x2⟩ := num_put x1.out r z (by omega)
          have hnx : M1.set r z = passTo cur (i + 1) := by
            rw [passTo, ← hm.out]
            unfold passStep
            simp only
            rw [if_pos (by omega), ← hx.out, ← hh.out, ← hy.out, ← hM1.out, ← hr, ← hu, ← hz]
          rw [hnx] at x2
          have mi2 := mi1.out.trans m2
          replace x2 := Lib.hid x2
          replace mi2 := Lib.hid mi2
          replace hr := Lib.hid hr
          replace hu := Lib.hid hu
          replace hz := Lib.hid hz
          clear hnx m2
          go_upto_region 7 with (fail)
          refine wp_region_lit ?_
          refine wpList_reads (by kernel_rfl) (.int .i64 (i : Int)) (by go_simp) ?_
          simp only [Act.put, List.setIfInBounds_toArray, List.set_cons_zero, List.set_cons_succ]
          refine wpList_reads (by kernel_rfl) (.int .i64 (r : Int)) (by go_simp) ?_
          simp only [Act.put, List.setIfInBounds_toArray, List.set_cons_zero, List.set_cons_succ]
          refine wpList_reads (by kernel_rfl) (.pointer (some ⟨G, r, none⟩)) (by go_simp) ?_
          simp only [Act.put, List.setIfInBounds_toArray, List.set_cons_zero, List.set_cons_succ]
          refine wpList_reads (by kernel_rfl) (.int .u64 (u : Int)) (by go_simp) ?_
          simp only [Act.put, List.setIfInBounds_toArray, List.set_cons_zero, List.set_cons_succ]
          refine wpList_reads (by kernel_rfl) (.int .u64 (h : Int)) (by go_simp) ?_
          simp only [Act.put, List.setIfInBounds_toArray, List.set_cons_zero, List.set_cons_succ]
          refine wpList_reads (by kernel_rfl) (.int .u64 (z : Int)) (by go_simp) ?_
          simp only [Act.put, List.setIfInBounds_toArray, List.set_cons_zero, List.set_cons_succ]
          refine wpList_reads (by kernel_rfl) (.pointer (some ⟨G, r, none⟩)) (by go_simp) ?_
          simp only [Act.put, List.setIfInBounds_toArray, List.set_cons_zero, List.set_cons_succ]
          refine wpList_store_to rfl _ _ _ rfl _ _ _ rfl rfl _ s2 ?_
          simp only [Act.put, List.setIfInBounds_toArray, List.set_cons_zero, List.set_cons_succ]
          clear s2 cu
          go_wp2
          go_roundw
          case measure => simp [intOf]; omega
          case rel => exact ⟨i + 1, by omega, by go_num, mi2.out, x2.out⟩
        · have hi4 : i = 4 := by omega
          subst hi4
          have hd4 : decide (((4 : Nat) : Int) + 1 < 5) = false := by decide
          obtain ⟨u, hu⟩ : ∃ u, u = M1.getD 0 0 := ⟨_, rfl⟩
          have hu61 : u < 2305843009213693952 := by
            rw [hu, hM1.out]
            exact getD_below (set_below hb61.out (by have := hy.out; omega)) (by omega)
          have cu := num_cell x1.out 0 (by omega)
          rw [← hu] at cu
          have bu0 : (0 : Int) ≤ (u : Int) := by omega
          obtain ⟨f, hf⟩ : ∃ f, f = 5 * h := ⟨_, rfl⟩
          have hfi : 5 * (h : Int) = (f : Int) := by omega
          have hwf : IntKind.u64.wrap (f : Int) = (f : Int) := by rw [IntKind.wrap_u64]; have := hh.out; omega
          obtain ⟨z, hz⟩ : ∃ z, z = u + f := ⟨_, rfl⟩
          have hzi : (u : Int) + (f : Int) = (z : Int) := by omega
          have hwz : IntKind.u64.wrap (z : Int) = (z : Int) := by rw [IntKind.wrap_u64]; have := hh.out; omega
          obtain ⟨w2, s2, m2, x2⟩ := num_put x1.out 0 z (by omega)
          have hnx : M1.set 0 z = passTo cur (4 + 1) := by
            rw [passTo, ← hm.out]
            unfold passStep
            simp only
            rw [if_neg (by omega), ← hx.out, ← hh.out, ← hy.out, ← hM1.out, ← hu, ← hf, ← hz]
          rw [hnx] at x2
          have mi2 := mi1.out.trans m2
          replace x2 := Lib.hid x2
          replace mi2 := Lib.hid mi2
          replace hu := Lib.hid hu
          replace hf := Lib.hid hf
          replace hz := Lib.hid hz
          clear hnx m2
          go_upto_region 8 with (fail)
          refine wp_region_lit ?_
          refine wpList_reads (by kernel_rfl) (.pointer (some ⟨G, 0, none⟩)) (by go_simp) ?_
          simp only [Act.put, List.setIfInBounds_toArray, List.set_cons_zero, List.set_cons_succ]
          refine wpList_reads (by kernel_rfl) (.int .u64 (u : Int)) (by go_simp) ?_
          simp only [Act.put, List.setIfInBounds_toArray, List.set_cons_zero, List.set_cons_succ]
          refine wpList_reads (by kernel_rfl) (.int .u64 (h : Int)) (by go_simp) ?_
          simp only [Act.put, List.setIfInBounds_toArray, List.set_cons_zero, List.set_cons_succ]
          refine wpList_reads (by kernel_rfl) (.int .u64 (f : Int)) (by go_simp) ?_
          simp only [Act.put, List.setIfInBounds_toArray, List.set_cons_zero, List.set_cons_succ]
          refine wpList_reads (by kernel_rfl) (.int .u64 (z : Int)) (by go_simp) ?_
          simp only [Act.put, List.setIfInBounds_toArray, List.set_cons_zero, List.set_cons_succ]
          refine wpList_reads (by kernel_rfl) (.pointer (some ⟨G, 0, none⟩)) (by go_simp) ?_
          simp only [Act.put, List.setIfInBounds_toArray, List.set_cons_zero, List.set_cons_succ]
          refine wpList_store_to rfl _ _ _ rfl _ _ _ rfl rfl _ s2 ?_
          simp only [Act.put, List.setIfInBounds_toArray, List.set_cons_zero, List.set_cons_succ]
          clear s2 cu
          go_wp2
          go_roundw
          case measure => simp [intOf]
          case rel => exact ⟨4 + 1, by omega, by go_num, mi2.out, x2.out⟩
      · have hi : i = 5 := by omega
        subst hi
        have hd5 : decide (((5 : Nat) : Int) < 5) = false := by decide
        have hpl : (passTo cur 5).length = 5 := by rw [passTo_length, hcl]
        obtain ⟨m, hm⟩ : ∃ m, m = passTo cur 5 := ⟨_, rfl⟩
        rw [← hm] at xi hpl
        have lm := num_load xi hpl
        obtain ⟨wc, hwc⟩ : ∃ wc : World, wc = wr := ⟨_, rfl⟩
        rw [← hwc] at xi lm mi ⊢
        have hmb : ∀ x ∈ m, x < 1152921504606846976 := by rw [hm]; exact passN_below hcl hcb.out
        replace hm := Lib.hid hm
        replace xi := Lib.hid xi
        replace mi := Lib.hid mi
        replace hwc := Lib.hid hwc
        replace hmb := Lib.hid hmb
        go_upto_region 10 with (fail)
        refine wp_region_lit ?_
        refine wpList_reads (by kernel_rfl) (numA m) (run_load_op rfl rfl lm) ?_
        simp only [Act.put, List.setIfInBounds_toArray, List.set_cons_zero, List.set_cons_succ]
        refine wpList_reads (by kernel_rfl) (.int .i64 0) (by go_simp) ?_
        simp only [Act.put, List.setIfInBounds_toArray, List.set_cons_zero, List.set_cons_succ]
        obtain ⟨gO, hgO⟩ : ∃ x, x = gk := ⟨_, rfl⟩
        subst hgO
        obtain ⟨MV, hMV⟩ : ∃ v, v = numA m := ⟨_, rfl⟩
        rw [← hMV]
        replace hMV := Lib.hid hMV
        replace lm := Lib.hid lm
        go_wp2
        go_loopg [37] 5 (fun gh kv wr => ∃ k : Nat, k + gh = 5 ∧ kv = .int .i64 (k : Int) ∧ wr = wc ∧ ∀ j, j < k → m.getD j 0 < 67108864)
        case atStart => exact ⟨0, by omega, rfl, rfl, fun j hj => absurd hj (Nat.not_lt_zero j)⟩
        case round =>
          obtain ⟨k, hkg, rfl, hwe, hsm⟩ := hrel
          have hk5 : k ≤ 5 := by omega
          subst hwe
          have bk0 : (0 : Int) ≤ (k : Int) := by omega
          by_cases hkt : k < 5
          · have hdk : decide ((k : Int) < 5) = true := by rw [decide_eq_true_iff]; omega
            obtain ⟨y, hy⟩ : ∃ y, y = m.getD k 0 := ⟨_, rfl⟩
            have hix := fun (ev : Operand → Value) (o : Oper) (a b : Operand) (ho : o.op = .index 162 a b) (ha : ev a = MV) (hb : ev b = .int .i64 (k : Int)) (w : World) => index_num_op (w := w) ho (ha.trans hMV.out) hb hkt hpl
            rw [← hy] at hix
            replace hix := Lib.hid hix
            replace hy := Lib.hid hy
            replace hsm := Lib.hid hsm
            go_upto_region 12 with (fail)
            refine wp_region_lit ?_
            refine wpList_yields (by kernel_rfl) _ _ (hix.out _ _ _ _ rfl rfl rfl _) ?_
            simp only [Act.put, List.setIfInBounds_toArray, List.set_cons_zero, List.set_cons_succ]
            refine wpList_reads (by kernel_rfl) (.int .u64 (y : Int)) (by go_simp) ?_
            simp only [Act.put, List.setIfInBounds_toArray, List.set_cons_zero, List.set_cons_succ]
            have by0 : (0 : Int) ≤ (y : Int) := by omega
            by_cases hyb : 67108863 < y
            · have hdy : decide ((67108863 : Int) < (y : Int)) = true := by rw [decide_eq_true_iff]; omega
              have hnok : ¬ okN m := fun h => by have := getD_below h (by omega) (i := k); rw [← hy.out] at this; omega
              obtain ⟨gf, hgf⟩ : ∃ gf, gO = gf + 1 := by
                cases hgk : gO with
                | zero => exact (hgk ▸ hen.out : Ends 0 cur).elim
                | succ gf => exact ⟨gf, rfl⟩
              have hpm : passN cur = m := by rw [hm.out]; rfl
              have hen2 : Ends gf m := by
                have := hen.out
                rw [hgf] at this
                rw [← hpm]
                exact this.resolve_left (by rw [hpm]; exact hnok)
              have hcz2 : carF gf m = Z := by
                have := hcz.out
                rw [hgf, carF, if_neg (by rw [hpm]; exact hnok), hpm] at this
                exact this
              replace hen2 := Lib.hid hen2
              replace hcz2 := Lib.hid hcz2
              replace hgf := Lib.hid hgf
              clear hnok hyb
              go_wp2
              go_roundg gf
              case measure => have := hgf.out; omega
              case rel => exact ⟨m, hcz2.out, hen2.out, hpl, hmb.out, mi.out, xi.out⟩
            · have hdy : decide ((67108863 : Int) < (y : Int)) = false := by rw [decide_eq_false_iff_not]; omega
              have hsm2 : ∀ j, j < k + 1 → m.getD j 0 < 67108864 := fun j hj => by
                by_cases hjk : j < k
                · exact hsm.out j hjk
                · have : j = k := by omega
                  rw [this, ← hy.out]; omega
              replace hsm2 := Lib.hid hsm2
              clear hyb
              go_wp2
              go_roundg (gk - 1)
              case measure => omega
              case rel => exact ⟨k + 1, by omega, by go_num, rfl, hsm2.out⟩
          · have hk : k = 5 := by omega
            subst hk
            have hdk : decide (((5 : Nat) : Int) < 5) = false := by decide
            have hok : okN m := by
              intro x hx
              obtain ⟨j, hj, rfl⟩ := List.getElem_of_mem hx
              have := hsm j (by omega)
              rwa [List.getD_eq_getElem?_getD, List.getElem?_eq_getElem hj] at this
            have hmZ : m = Z := by
              have hpm : passN cur = m := by rw [hm.out]; rfl
              obtain ⟨gf, hgf⟩ : ∃ gf, gO = gf + 1 := by
                cases hgk : gO with
                | zero => exact (hgk ▸ hen.out : Ends 0 cur).elim
                | succ gf => exact ⟨gf, rfl⟩
              have := hcz.out
              rw [hgf, carF, hpm, if_pos hok] at this
              exact this
            have xRr := xR.out.mod mi.out (by omega)
            obtain ⟨wz, sz, mz, xz⟩ := num_store xRr rfl hpl
            have lm2 := num_load xi.out hpl
            have mf := hend.out _ ((mi.out.mono (S' := fun k => k = G ∨ k = R) (fun _ _ h => .inl h)).trans (mz.mono (fun _ _ h => .inr h)))
            rw [hmZ] at xz
            replace xz := Lib.hid xz
            replace mf := Lib.hid mf
            clear hok hsm mz xRr hmZ
            go_upto_region 15 with (fail)
            refine wp_region_lit ?_
            refine wpList_reads (by kernel_rfl) (numA m) (run_load_op rfl rfl lm2) ?_
            simp only [Act.put, List.setIfInBounds_toArray, List.set_cons_zero, List.set_cons_succ]
            refine wpList_store_to rfl _ _ _ rfl _ _ _ rfl rfl _ sz ?_
            simp only [Act.put, List.setIfInBounds_toArray, List.set_cons_zero, List.set_cons_succ]
            clear sz lm2
            go_wp2
            try rw [Exit.noGoto_ret]
            exact bodyPost_ret (v := numA Z) (results_num rfl _ _ _ _ rfl xz.out hZl) rfl ⟨mf.out, rfl⟩
end Go.Proofs.YtbiijcljpgannaaGreatDoor
