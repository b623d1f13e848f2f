/-
  poly.Tag. Printed by gen/po7.py.
-/
import Derived.Test.YtbiijcljpgannaaGreatDoorY6
import Derived.Test.YtbiijcljpgannaaGreatDoorDs
namespace Go.Proofs.YtbiijcljpgannaaGreatDoor
set_option maxRecDepth 100000
open Go Go.RowKit Go.Lib
set_option linter.unusedSimpArgs false
set_option linter.unusedVariables false

theorem bits_and8 (a b : BitVec 8) : bits .and .u8 (a.toNat : Int) (b.toNat : Int) = ((a &&& b).toNat : Int) := by
  rw [u8_and_nat _ _ a.isLt b.isLt, BitVec.toNat_and]
def clampB (key : List (BitVec 8)) (i : Nat) : BitVec 8 := if i % 4 = 3 then key.getD i 0 &&& 15 else if i % 4 = 0 ∧ 0 < i then key.getD i 0 &&& 252 else key.getD i 0
def clampTo (key : List (BitVec 8)) (i : Nat) : List (BitVec 8) := (List.range 16).map fun j => if j < i then clampB key j else key.getD j 0
def clampS (key : List (BitVec 8)) : List (BitVec 8) := clampTo key 16
theorem clampTo_length (key : List (BitVec 8)) (i : Nat) : (clampTo key i).length = 16 := by simp [clampTo]
theorem clampTo_get (key : List (BitVec 8)) (i : Nat) (hi : i < 16) : (clampTo key i).getD i 0 = key.getD i 0 := by
  simp [clampTo, hi]
theorem clampTo_succ (key : List (BitVec 8)) (i : Nat) (hi : i < 16) : (clampTo key i).set i (clampB key i) = clampTo key (i + 1) := by
  apply List.ext_getElem
  · simp [clampTo]
  · intro j h1 h2
    rw [List.getElem_set]
    by_cases hij : i = j
    · subst hij; simp [clampTo]
    · rw [if_neg hij]
      simp only [clampTo, List.getElem_map, List.getElem_range]
      by_cases h : j < i
      · rw [if_pos h, if_pos (by omega)]
      · rw [if_neg h, if_neg (by omega)]
theorem clampTo_same (key : List (BitVec 8)) (i : Nat) (hi : i < 16) (h : clampB key i = key.getD i 0) : clampTo key (i + 1) = clampTo key i := by
  rw [← clampTo_succ key i hi, h, ← clampTo_get key i hi]
  apply List.ext_getElem
  · simp
  · intro j h1 h2
    rw [List.getElem_set]
    by_cases hij : i = j
    · subst hij; rw [if_pos rfl, List.getD_eq_getElem?_getD, List.getElem?_eq_getElem (by simpa using h2)]; rfl
    · rw [if_neg hij]
theorem clampTo_zero (key : List (BitVec 8)) (hk : key.length = 32) : clampTo key 0 = key.take 16 := by
  apply List.ext_getElem
  · simp [clampTo, hk]
  · intro j h1 h2
    have hj : j < 16 := by simpa [clampTo] using h1
    simp only [clampTo, List.getElem_map, List.getElem_range, List.getElem_take]
    rw [if_neg (by omega), List.getD_eq_getElem?_getD, List.getElem?_eq_getElem (by omega)]
    rfl
def accS (r : List Nat) (b : List (BitVec 8)) : Nat → List Nat
  | 0 => [0, 0, 0, 0, 0]
  | k + 1 => timesN (plusN (accS r b k) (ofN (chunkB b k ++ [1]))) r
theorem ofN_length (bs : List (BitVec 8)) : (ofN bs).length = 5 := ofTo_length _ _
theorem ofN_ok (bs : List (BitVec 8)) : okN (ofN bs) := ofTo_below _ _
theorem accS_length (r : List Nat) (b : List (BitVec 8)) (k : Nat) : (accS r b k).length = 5 := by
  cases k with
  | zero => rfl
  | succ k => exact timesN_length _ _
theorem accS_ok (r : List Nat) (b : List (BitVec 8)) (hr : okN r) (k : Nat) : okN (accS r b k) := by
  induction k with
  | zero => intro x hx; simp [accS] at hx; omega
  | succ k ih => exact timesN_ok (plusN_ok (accS_length r b k) ih (ofN_ok _)) hr
/-- What is carried ahead of the byte i. -/
def cyS (t s : List (BitVec 8)) : Nat → Nat
  | 0 => 0
  | i + 1 => (cyS t s i + ((t.getD i 0).toNat + (s.getD (16 + i) 0).toNat)) / 256
def sumB (t s : List (BitVec 8)) (i : Nat) : BitVec 8 := BitVec.ofNat 8 (cyS t s i + ((t.getD i 0).toNat + (s.getD (16 + i) 0).toNat))
def sumTo (t s : List (BitVec 8)) (i : Nat) : List (BitVec 8) := (List.range 16).map fun j => if j < i then sumB t s j else 0
theorem sumTo_length (t s : List (BitVec 8)) (i : Nat) : (sumTo t s i).length = 16 := by simp [sumTo]
theorem sumTo_succ (t s : List (BitVec 8)) (i : Nat) (hi : i < 16) : (sumTo t s i).set i (sumB t s i) = sumTo t s (i + 1) := by
  apply List.ext_getElem
  · simp [sumTo]
  · intro j h1 h2
    rw [List.getElem_set]
    by_cases hij : i = j
    · subst hij; simp [sumTo]
    · rw [if_neg hij]
      simp only [sumTo, List.getElem_map, List.getElem_range]
      by_cases h : j < i
      · rw [if_pos h, if_pos (by omega)]
      · rw [if_neg h, if_neg (by omega)]
theorem cyS_le (t s : List (BitVec 8)) (i : Nat) : cyS t s i ≤ 1 := by
  induction i with
  | zero => simp [cyS]
  | succ i ih =>
    have h1 := (t.getD i 0).isLt
    have h2 := (s.getD (16 + i) 0).isLt
    unfold cyS
    omega
def polyS (key b : List (BitVec 8)) : List (BitVec 8) := bytesN (leastN (accS (ofN (clampS key)) b (nch b)))
def tagS (key b : List (BitVec 8)) : List (BitVec 8) := sumTo (polyS key b) key 16
theorem tagS_length (key b : List (BitVec 8)) : (tagS key b).length = 16 := sumTo_length _ _ _
/-- What Tag answers. -/
def TagEnd (key b : List (BitVec 8)) (w : World) (e : Ending) (w' : World) : Prop :=
  Mod (fun _ => False) w w' ∧ e = .returned (if 4194304 < b.length then .tuple #[.agg (encB (List.replicate 16 0)), .int .i64 3] else .tuple #[.agg (encB (tagS key b)), .int .i64 0])
theorem results_tagP {fn : Func} {p q : Tmp} (h : fn.results = #[.cell p 61, .tmp q]) (tmps : Array Value) (w : World) (g : Nat) (s : List (BitVec 8)) (r : Value) (h1 : tmps.getD p undef = .pointer (some ⟨g, 0, none⟩)) (h2 : tmps.getD q undef = r) (x : BytesAt16 w g s) (hl : s.length = 16) :
    (results fn tmps).run Tryz.prog w = .ok (.tuple #[.agg (encB s), r]) w := by
  have h1' : tmps[p]?.getD undef = .pointer (some ⟨g, 0, none⟩) := by simpa using h1
  have h2' : tmps[q]?.getD undef = r := by simpa using h2
  simp [results, h, Sem.run_bind, h1', h2', load16P x hl, asAddr]
theorem size8P (w : World) : (sizeOf 5).run Tryz.prog w = .ok 1 w := by kernel_rfl
theorem index16_op {ev : Operand → Value} {o : Oper} {x y : Operand} {w : World} {l : List (BitVec 8)} {j : Nat} (ho : o.op = .index 61 x y) (hx : ev x = .agg (encB l)) (hy : ev y = .int .i64 (j : Int)) (hj : j < 16) (hl : l.length = 16) :
    (execOp ev o).run Tryz.prog w = .ok (.value (.int .u8 ((l.getD j 0).toNat : Int))) w := by
  have h := Cc.index_bytes (P := Tryz.prog) w 61 5 16 Tryz.underlying61 Tryz.underlying5 size8P l j hj hl
  unfold execOp
  simp only [ho, hx, hy]
  simp [h]
theorem ld_u8P {w : World} {g off : Nat} {n : Int} (hc : w.cell? ⟨g, off, none⟩ = some (.int .u8 n)) : (loadVar 5 ⟨g, off, none⟩).run Tryz.prog w = .ok (.int .u8 n) w := by go_simp

set_option maxRecDepth 100000 in
set_option maxHeartbeats 4000000 in
theorem tag_any (key : List (BitVec 8)) (hk : key.length = 32) (vb : Value) (b : List (BitVec 8)) (w : World) (hb : ByteAt w vb b) (hbl : b.length ≤ 140737488351232) : Calls Tryz.prog 70 #[.agg (encB key), vb] w (TagEnd key b w) := by
  obtain ⟨ab, cb, rfl, hbc⟩ := hb.slice
  obtain ⟨n, hn⟩ : ∃ m, m = b.length := ⟨_, rfl⟩
  rw [← hn] at hb hbl ⊢
  have bn0 : (0 : Int) ≤ (n : Int) := by omega
  have hoff0 : ∀ g off n' c, (Value.slice ab n cb) = .slice (some ⟨g, off, none⟩) n' c → 0 < n' → g < w.heap.size := by
    intro g off n' c h h0
    injection h with h1 h2 h3
    obtain ⟨g', off', h4, h5, _⟩ := hbc 0 (by omega)
    rw [h1] at h4
    injection h4 with h4
    injection h4 with h4
    rw [h4]; exact h5
  obtain ⟨wa, hwa⟩ : ∃ x, x = w.alloc (.cells (encB key) 49) := ⟨_, rfl⟩
  obtain ⟨KB, hKB⟩ : ∃ g, g = w.heap.size := ⟨_, rfl⟩
  have ma : Mod (fun _ => False) w wa := by rw [hwa]; exact (Mod.refl _ _).alloc _
  have xa : wa.heap[KB]? = some (.cells (encB key) 49 (0,0)) := by rw [hwa]; exact hp_new _ _ _ hKB
  obtain ⟨w0, hw0⟩ : ∃ x, x = wa.alloc (.cells (encB (List.replicate 16 0)) 61) := ⟨_, rfl⟩
  obtain ⟨O, hO⟩ : ∃ g, g = wa.heap.size := ⟨_, rfl⟩
  have mb : Mod (fun _ => False) wa w0 := by rw [hw0]; exact (Mod.refl _ _).alloc _
  have xO : BytesAt16 w0 O (List.replicate 16 0) := by rw [hw0]; exact hp_new _ _ _ hO
  have xK := mb.heap xa (fun h => h)
  have hKO : KB < O := by rw [hO]; exact lt_of_heap xa
  have hO0 : O < w0.heap.size := lt_of_heap xO
  have m0 := ma.trans mb
  have hb0 := hb.mod m0 (fun _ _ h => h)
  have hwKB : w.heap.size ≤ KB := by omega
  have hdec := encB_size key
  replace hn := Lib.hid hn
  replace hoff0 := Lib.hid hoff0
  replace hwa := Lib.hid hwa
  replace hKB := Lib.hid hKB
  replace hw0 := Lib.hid hw0
  replace hO := Lib.hid hO
  replace xO := Lib.hid xO
  replace xK := Lib.hid xK
  replace m0 := Lib.hid m0
  replace hb0 := Lib.hid hb0
  replace hk := Lib.hid hk
  clear ma xa mb hb hbc hdec
  refine calls_of_marks Tryz.func70 rfl ?_
  simp only [Tryz.ntmps70, List.size_toArray, List.length_cons, List.length_nil, Nat.reduceAdd, Nat.reduceSub, Array.replicate_succ, Array.replicate_zero, List.push_toArray, List.append_toArray, List.nil_append, List.cons_append]
  go_upto_region 0 with (fail)
  refine wp_region_lit ?_
  refine wpList_yields (by kernel_rfl) (.pointer (some ⟨KB, 0, none⟩)) wa (by rw [hwa.out, hKB.out]; simp [execOp, Instr.box, Sem.run_bind, newVar, newRow, Value.cells]; rfl) ?_
  simp only [Act.put, List.setIfInBounds_toArray, List.set_cons_zero, List.set_cons_succ]
  refine wpList_yields (by kernel_rfl) _ _ (alloc16P _ _ _ rfl) ?_
  simp only [Act.put, List.setIfInBounds_toArray, List.set_cons_zero, List.set_cons_succ]
  rw [← hO.out, ← hw0.out]
  refine wpList_reads (by kernel_rfl) (.int .i64 0) (by go_simp) ?_
  simp only [Act.put, List.setIfInBounds_toArray, List.set_cons_zero, List.set_cons_succ]
  by_cases hbig : 4194304 < n
  · have hd : decide ((4194304 : Int) < (n : Int)) = true := by rw [decide_eq_true_iff]; omega
    have l0 := load16P xO.out (by simp)
    obtain ⟨wz, sz, mz, xz⟩ := store16P xO.out (s' := List.replicate 16 0) (by simp) (by simp)
    have hfin : TagEnd key b w (.returned (.tuple #[.agg (encB (List.replicate 16 0)), .int .i64 3])) wz := ⟨m0.out.trans' mz (fun k hk h => by omega), by rw [if_pos (by rw [← hn.out]; exact hbig)]⟩
    obtain ⟨Z, hZ⟩ : ∃ Z, Z = (List.replicate 16 0 : List (BitVec 8)) := ⟨_, rfl⟩
    have hZl : Z.length = 16 := by rw [hZ]; simp
    rw [← hZ] at l0 sz xz hfin
    replace hZ := Lib.hid hZ
    replace hfin := Lib.hid hfin
    replace xz := Lib.hid xz
    clear mz hbig
    go_upto_region 2 with (fail)
    refine wp_region_lit ?_
    refine wpList_reads (by kernel_rfl) (.agg (encB Z)) (run_load_op rfl rfl l0) ?_
    simp only [Act.put, List.setIfInBounds_toArray, List.set_cons_zero, List.set_cons_succ]
    refine wpList_store_to rfl _ _ _ rfl _ _ _ rfl rfl _ sz ?_
    simp only [Act.put, List.setIfInBounds_toArray, List.set_cons_zero, List.set_cons_succ]
    refine wpList_reads (by kernel_rfl) (.int .i64 3) (by go_simp) ?_
    simp only [Act.put, List.setIfInBounds_toArray, List.set_cons_zero, List.set_cons_succ]
    clear l0 sz
    go_wp2
    refine bodyPostM_ret (v := .tuple #[.agg (encB Z), .int .i64 3]) (results_tagP rfl _ _ _ _ _ rfl rfl xz.out hZl) rfl ?_
    exact hfin.out
  · have hd : decide ((4194304 : Int) < (n : Int)) = false := by rw [decide_eq_false_iff_not]; omega
    have hend : ∀ w', Mod (fun _ => False) w w' → TagEnd key b w (.returned (.tuple #[.agg (encB (tagS key b)), .int .i64 0])) w' := fun w' h1 => ⟨h1, by rw [if_neg (by rw [← hn.out]; exact hbig)]⟩
    have hk16 : (key.take 16).length = 16 := by rw [List.length_take, hk.out]; rfl
    have bK : ByteAt w0 (.slice (some ⟨KB, 0, none⟩) 16 32) (key.take 16) := by
      have := ByteAt.part (off := 0) (n := 16) (cap := 32) xK.out (by rw [hk.out]; omega) (by omega)
      rwa [List.drop_zero] at this
    replace hend := Lib.hid hend
    replace hk16 := Lib.hid hk16
    replace bK := Lib.hid bK
    go_upto_region 3 with (fail)
    refine wp_region_lit ?_
    refine wpList_reads (by kernel_rfl) (.slice (some ⟨KB, 0, none⟩) 16 32) (by go_simp) ?_
    simp only [Act.put, List.setIfInBounds_toArray, List.set_cons_zero, List.set_cons_succ]
    refine wpList_enter (by kernel_rfl) 105 #[.slice (some ⟨KB, 0, none⟩) 16 32] (by go_simp) (clone_anyP ⟨KB, 0, none⟩ 16 32 (key.take 16) hk16.out w0 bK.out (by omega) (by omega)) ?_
    rintro e w1 ⟨m1, v1, rfl, own1⟩
    obtain ⟨g, c1, hv1⟩ : ∃ g c, v1 = .slice (some ⟨g, 0, none⟩) 16 c := by
      rcases own1.2 with ⟨_, h⟩ | ⟨g, cap, cur, h, _⟩
      · cases h
      · exact ⟨g, cap, h⟩
    subst hv1
    have hg0 : w0.heap.size ≤ g := (own1.lt g rfl).1
    rw [← clampTo_zero key hk.out] at own1
    have xO1 := m1.heap xO.out (fun h => h)
    replace own1 := Lib.hid own1
    replace m1 := Lib.hid m1
    clear bK
    refine ⟨_, rfl, ?_⟩
    simp only [Act.put, List.setIfInBounds_toArray, List.set_cons_zero, List.set_cons_succ]
    refine wpList_reads (by kernel_rfl) (.slice (some ⟨g, 0, none⟩) 16 c1) (by go_simp) ?_
    simp only [Act.put, List.setIfInBounds_toArray, List.set_cons_zero, List.set_cons_succ]
    go_wp2
    go_loopw [22] (fun iv wr => ∃ i : Nat, i ≤ 16 ∧ iv = .int .i64 (i : Int) ∧ Mod (fun _ => False) w0 wr ∧ wr.ownsRow w0.heap.size 5 1 (.slice (some ⟨g, 0, none⟩) 16 c1) 16 (bytesV (clampTo key i))) (fun iv _ => 16 - (intOf iv).toNat)
    case atStart => exact ⟨0, by omega, rfl, m1.out, own1.out⟩
    case round =>
      obtain ⟨i, hi16, rfl, mr, rowr⟩ := hrel
      have bi0 : (0 : Int) ≤ (i : Int) := by omega
      by_cases hilt : i < 16
      · have hd16 : decide ((i : Int) < 16) = true := by rw [decide_eq_true_iff]; omega
        obtain ⟨m, hm⟩ : ∃ m, m = i % 4 := ⟨_, rfl⟩
        have hmi : Int.tmod (i : Int) 4 = (m : Int) := by rw [hm]; rfl
        have hmi2 : (i : Int) % 4 = (m : Int) := by omega
        have hwm : IntKind.i64.wrap (m : Int) = (m : Int) := by rw [IntKind.wrap_i64]; omega
        have bm0 : (0 : Int) ≤ (m : Int) := by omega
        have hcl := clampTo_length key i
        have cq := rowr.cellAt i (by omega)
        obtain ⟨x, hx⟩ : ∃ x, x = key.getD i 0 := ⟨_, rfl⟩
        rw [show (bytesV (clampTo key i))[i]? = some (.int .u8 (x.toNat : Int)) by rw [hx, ← clampTo_get key i hilt]; exact bytesV_get (by rw [hcl]; exact hilt)] at cq
        have fq := rowr.frozenAt i
        have hsuc := clampTo_succ key i hilt
        have hsame := clampTo_same key i hilt
        have bi16 : ¬ (16 : Int) ≤ (i : Int) := by omega
        replace hx := Lib.hid hx
        replace hsuc := Lib.hid hsuc
        replace hsame := Lib.hid hsame
        replace mr := Lib.hid mr
        replace rowr := Lib.hid rowr
        replace hm := Lib.hid hm
        by_cases h3 : m = 3
        · have hm3 : ((m : Int) == 3) = true := by rw [beq_iff_eq]; omega
          go_upto_region 6 with (fail)
          refine wp_region_lit ?_
          refine wpList_reads (by kernel_rfl) (.int .i64 (i : Int)) (by go_simp) ?_
          simp only [Act.put, List.setIfInBounds_toArray, List.set_cons_zero, List.set_cons_succ]
          refine wpList_reads (by kernel_rfl) (.int .i64 (i : Int)) (by go_simp) ?_
          simp only [Act.put, List.setIfInBounds_toArray, List.set_cons_zero, List.set_cons_succ]
          obtain ⟨y, hy⟩ : ∃ y, y = x &&& 15 := ⟨_, rfl⟩
          have hand : bits .and .u8 (x.toNat : Int) 15 = (y.toNat : Int) := by rw [hy]; exact bits_and8 x 15
          have hcb : clampB key i = y := by unfold clampB; rw [if_pos (by rw [← hm.out]; exact h3), ← hx.out, hy]
          obtain ⟨own9, gr9⟩ := rowr.out.stored i (.int .u8 (y.toNat : Int))
          rw [show (bytesV (clampTo key i)).set i (.int .u8 (y.toNat : Int)) = bytesV (clampTo key (i + 1)) by rw [← hsuc.out, hcb]; simp [bytesV, List.map_set]] at own9
          have s9 : (storeVar 5 ⟨g, i, none⟩ (.int .u8 (y.toNat : Int))).run Tryz.prog wr = .ok () (wr.setCell ⟨g, i, none⟩ (.int .u8 (y.toNat : Int))) := store_u8P cq fq
          obtain ⟨w9, hw9⟩ : ∃ w9, w9 = wr.setCell ⟨g, i, none⟩ (.int .u8 (y.toNat : Int)) := ⟨_, rfl⟩
          rw [← hw9] at own9 gr9 s9
          have m9 : Mod (fun _ => False) w0 w9 := mr.out.trans' ((Mod.refl _ _).grown (S := fun x => x = g) gr9 (fun x hx _ => by injection hx with hx; exact hx.symm)) (fun x hx h => by omega)
          replace hw9 := Lib.hid hw9
          replace m9 := Lib.hid m9
          replace own9 := Lib.hid own9
          replace hy := Lib.hid hy
          replace hcb := Lib.hid hcb
          clear gr9
          go_upto_region 7 with (fail)
          refine wp_region_lit ?_
          refine wpList_reads (by kernel_rfl) (.int .i64 (i : Int)) (by go_simp) ?_
          simp only [Act.put, List.setIfInBounds_toArray, List.set_cons_zero, List.set_cons_succ]
          refine wpList_reads (by kernel_rfl) (.int .i64 (m : Int)) (by go_simp) ?_
          simp only [Act.put, List.setIfInBounds_toArray, List.set_cons_zero, List.set_cons_succ]
          refine wpList_reads (by kernel_rfl) (.bool true) (by go_simp) ?_
          simp only [Act.put, List.setIfInBounds_toArray, List.set_cons_zero, List.set_cons_succ]
          refine wpList_reads (by kernel_rfl) (.bool true) (by go_simp) ?_
          simp only [Act.put, List.setIfInBounds_toArray, List.set_cons_zero, List.set_cons_succ]
          go_upto_region 8 with (fail)
          refine wp_region_lit ?_
          refine wpList_reads (by kernel_rfl) (.slice (some ⟨g, 0, none⟩) 16 c1) (by go_simp) ?_
          simp only [Act.put, List.setIfInBounds_toArray, List.set_cons_zero, List.set_cons_succ]
          refine wpList_reads (by kernel_rfl) (.int .i64 (i : Int)) (by go_simp) ?_
          simp only [Act.put, List.setIfInBounds_toArray, List.set_cons_zero, List.set_cons_succ]
          refine wpList_reads (by kernel_rfl) (.pointer (some ⟨g, i, none⟩)) (by go_simp) ?_
          simp only [Act.put, List.setIfInBounds_toArray, List.set_cons_zero, List.set_cons_succ]
          refine wpList_reads (by kernel_rfl) (.int .u8 (x.toNat : Int)) (by go_simp) ?_
          simp only [Act.put, List.setIfInBounds_toArray, List.set_cons_zero, List.set_cons_succ]
          refine wpList_reads (by kernel_rfl) (.int .u8 (y.toNat : Int)) (by go_simp) ?_
          simp only [Act.put, List.setIfInBounds_toArray, List.set_cons_zero, List.set_cons_succ]
          refine wpList_reads (by kernel_rfl) (.pointer (some ⟨g, i, none⟩)) (by go_simp) ?_
          simp only [Act.put, List.setIfInBounds_toArray, List.set_cons_zero, List.set_cons_succ]
          refine wpList_store_to rfl _ _ _ rfl _ _ _ rfl rfl _ s9 ?_
          simp only [Act.put, List.setIfInBounds_toArray, List.set_cons_zero, List.set_cons_succ]
          clear s9 cq fq
          go_wp2
          go_roundw
          case measure => simp [intOf]; omega
          case rel => exact ⟨i + 1, by omega, by go_num, m9.out, own9.out⟩
        · by_cases h0 : m = 0 ∧ 0 < i
          · have hm3 : ((m : Int) == 3) = false := by rw [beq_eq_false_iff_ne]; omega
            have hm0 : ((m : Int) == 0) = true := by rw [beq_iff_eq]; omega
            have hi0 : decide ((0 : Int) < (i : Int)) = true := by rw [decide_eq_true_iff]; omega
            go_upto_region 6 with (fail)
            refine wp_region_lit ?_
            refine wpList_reads (by kernel_rfl) (.int .i64 (i : Int)) (by go_simp) ?_
            simp only [Act.put, List.setIfInBounds_toArray, List.set_cons_zero, List.set_cons_succ]
            refine wpList_reads (by kernel_rfl) (.int .i64 (i : Int)) (by go_simp) ?_
            simp only [Act.put, List.setIfInBounds_toArray, List.set_cons_zero, List.set_cons_succ]
            obtain ⟨y, hy⟩ : ∃ y, y = x &&& 252 := ⟨_, rfl⟩
            have hand : bits .and .u8 (x.toNat : Int) 252 = (y.toNat : Int) := by rw [hy]; exact bits_and8 x 252
            have hcb : clampB key i = y := by unfold clampB; rw [if_neg (by rw [← hm.out]; exact h3), if_pos (by rw [← hm.out]; exact h0), ← hx.out, hy]
            obtain ⟨own9, gr9⟩ := rowr.out.stored i (.int .u8 (y.toNat : Int))
            rw [show (bytesV (clampTo key i)).set i (.int .u8 (y.toNat : Int)) = bytesV (clampTo key (i + 1)) by rw [← hsuc.out, hcb]; simp [bytesV, List.map_set]] at own9
            have s9 : (storeVar 5 ⟨g, i, none⟩ (.int .u8 (y.toNat : Int))).run Tryz.prog wr = .ok () (wr.setCell ⟨g, i, none⟩ (.int .u8 (y.toNat : Int))) := store_u8P cq fq
            obtain ⟨w9, hw9⟩ : ∃ w9, w9 = wr.setCell ⟨g, i, none⟩ (.int .u8 (y.toNat : Int)) := ⟨_, rfl⟩
            rw [← hw9] at own9 gr9 s9
            have m9 : Mod (fun _ => False) w0 w9 := mr.out.trans' ((Mod.refl _ _).grown (S := fun x => x = g) gr9 (fun x hx _ => by injection hx with hx; exact hx.symm)) (fun x hx h => by omega)
            replace hw9 := Lib.hid hw9
            replace m9 := Lib.hid m9
            replace own9 := Lib.hid own9
            replace hy := Lib.hid hy
            replace hcb := Lib.hid hcb
            clear gr9
            go_upto_region 7 with (fail)
            refine wp_region_lit ?_
            refine wpList_reads (by kernel_rfl) (.int .i64 (i : Int)) (by go_simp) ?_
            simp only [Act.put, List.setIfInBounds_toArray, List.set_cons_zero, List.set_cons_succ]
            refine wpList_reads (by kernel_rfl) (.int .i64 (m : Int)) (by go_simp) ?_
            simp only [Act.put, List.setIfInBounds_toArray, List.set_cons_zero, List.set_cons_succ]
            refine wpList_reads (by kernel_rfl) (.bool false) (by go_simp) ?_
            simp only [Act.put, List.setIfInBounds_toArray, List.set_cons_zero, List.set_cons_succ]
            refine wpList_reads (by kernel_rfl) (.bool false) (by go_simp) ?_
            simp only [Act.put, List.setIfInBounds_toArray, List.set_cons_zero, List.set_cons_succ]
            go_upto_region 9 with (fail)
            refine wp_region_lit ?_
            refine wpList_reads (by kernel_rfl) (.int .i64 (i : Int)) (by go_simp) ?_
            simp only [Act.put, List.setIfInBounds_toArray, List.set_cons_zero, List.set_cons_succ]
            refine wpList_reads (by kernel_rfl) (.int .i64 (m : Int)) (by go_simp) ?_
            simp only [Act.put, List.setIfInBounds_toArray, List.set_cons_zero, List.set_cons_succ]
            refine wpList_reads (by kernel_rfl) (.bool true) (by go_simp) ?_
            simp only [Act.put, List.setIfInBounds_toArray, List.set_cons_zero, List.set_cons_succ]
            refine wpList_reads (by kernel_rfl) (.bool true) (by go_simp) ?_
            simp only [Act.put, List.setIfInBounds_toArray, List.set_cons_zero, List.set_cons_succ]
            refine wpList_reads (by kernel_rfl) (.int .i64 (i : Int)) (by go_simp) ?_
            simp only [Act.put, List.setIfInBounds_toArray, List.set_cons_zero, List.set_cons_succ]
            refine wpList_reads (by kernel_rfl) (.bool true) (by go_simp) ?_
            simp only [Act.put, List.setIfInBounds_toArray, List.set_cons_zero, List.set_cons_succ]
            refine wpList_reads (by kernel_rfl) (.bool true) (by go_simp) ?_
            simp only [Act.put, List.setIfInBounds_toArray, List.set_cons_zero, List.set_cons_succ]
            refine wpList_reads (by kernel_rfl) (.bool true) (by go_simp) ?_
            simp only [Act.put, List.setIfInBounds_toArray, List.set_cons_zero, List.set_cons_succ]
            go_upto_region 10 with (fail)
            refine wp_region_lit ?_
            refine wpList_reads (by kernel_rfl) (.slice (some ⟨g, 0, none⟩) 16 c1) (by go_simp) ?_
            simp only [Act.put, List.setIfInBounds_toArray, List.set_cons_zero, List.set_cons_succ]
            refine wpList_reads (by kernel_rfl) (.int .i64 (i : Int)) (by go_simp) ?_
            simp only [Act.put, List.setIfInBounds_toArray, List.set_cons_zero, List.set_cons_succ]
            refine wpList_reads (by kernel_rfl) (.pointer (some ⟨g, i, none⟩)) (by go_simp) ?_
            simp only [Act.put, List.setIfInBounds_toArray, List.set_cons_zero, List.set_cons_succ]
            refine wpList_reads (by kernel_rfl) (.int .u8 (x.toNat : Int)) (by go_simp) ?_
            simp only [Act.put, List.setIfInBounds_toArray, List.set_cons_zero, List.set_cons_succ]
            refine wpList_reads (by kernel_rfl) (.int .u8 (y.toNat : Int)) (by go_simp) ?_
            simp only [Act.put, List.setIfInBounds_toArray, List.set_cons_zero, List.set_cons_succ]
            refine wpList_reads (by kernel_rfl) (.pointer (some ⟨g, i, none⟩)) (by go_simp) ?_
            simp only [Act.put, List.setIfInBounds_toArray, List.set_cons_zero, List.set_cons_succ]
            refine wpList_store_to rfl _ _ _ rfl _ _ _ rfl rfl _ s9 ?_
            simp only [Act.put, List.setIfInBounds_toArray, List.set_cons_zero, List.set_cons_succ]
            clear s9 cq fq
            go_wp2
            go_roundw
            case measure => simp [intOf]; omega
            case rel => exact ⟨i + 1, by omega, by go_num, m9.out, own9.out⟩
          · have hcb : clampB key i = key.getD i 0 := by unfold clampB; rw [if_neg (by rw [← hm.out]; exact h3), if_neg (by rw [← hm.out]; exact h0)]
            have own9 := rowr.out
            rw [← hsame.out hcb] at own9
            replace own9 := Lib.hid own9
            have hm3 : ((m : Int) == 3) = false := by rw [beq_eq_false_iff_ne]; omega
            clear hcb cq fq
            go_upto_region 6 with (fail)
            refine wp_region_lit ?_
            refine wpList_reads (by kernel_rfl) (.int .i64 (i : Int)) (by go_simp) ?_
            simp only [Act.put, List.setIfInBounds_toArray, List.set_cons_zero, List.set_cons_succ]
            refine wpList_reads (by kernel_rfl) (.int .i64 (i : Int)) (by go_simp) ?_
            simp only [Act.put, List.setIfInBounds_toArray, List.set_cons_zero, List.set_cons_succ]
            go_upto_region 7 with (fail)
            refine wp_region_lit ?_
            refine wpList_reads (by kernel_rfl) (.int .i64 (i : Int)) (by go_simp) ?_
            simp only [Act.put, List.setIfInBounds_toArray, List.set_cons_zero, List.set_cons_succ]
            refine wpList_reads (by kernel_rfl) (.int .i64 (m : Int)) (by go_simp) ?_
            simp only [Act.put, List.setIfInBounds_toArray, List.set_cons_zero, List.set_cons_succ]
            refine wpList_reads (by kernel_rfl) (.bool false) (by go_simp) ?_
            simp only [Act.put, List.setIfInBounds_toArray, List.set_cons_zero, List.set_cons_succ]
            refine wpList_reads (by kernel_rfl) (.bool false) (by go_simp) ?_
            simp only [Act.put, List.setIfInBounds_toArray, List.set_cons_zero, List.set_cons_succ]
            by_cases hz : m = 0
            · have hm0 : ((m : Int) == 0) = true := by rw [beq_iff_eq]; omega
              have hi0 : i = 0 := by omega
              go_upto_region 9 with (fail)
              refine wp_region_lit ?_
              refine wpList_reads (by kernel_rfl) (.int .i64 (i : Int)) (by go_simp) ?_
              simp only [Act.put, List.setIfInBounds_toArray, List.set_cons_zero, List.set_cons_succ]
              refine wpList_reads (by kernel_rfl) (.int .i64 (m : Int)) (by go_simp) ?_
              simp only [Act.put, List.setIfInBounds_toArray, List.set_cons_zero, List.set_cons_succ]
              refine wpList_reads (by kernel_rfl) (.bool true) (by go_simp) ?_
              simp only [Act.put, List.setIfInBounds_toArray, List.set_cons_zero, List.set_cons_succ]
              refine wpList_reads (by kernel_rfl) (.bool true) (by go_simp) ?_
              simp only [Act.put, List.setIfInBounds_toArray, List.set_cons_zero, List.set_cons_succ]
              refine wpList_reads (by kernel_rfl) (.int .i64 (i : Int)) (by go_simp) ?_
              simp only [Act.put, List.setIfInBounds_toArray, List.set_cons_zero, List.set_cons_succ]
              refine wpList_reads (by kernel_rfl) (.bool false) (by go_simp) ?_
              simp only [Act.put, List.setIfInBounds_toArray, List.set_cons_zero, List.set_cons_succ]
              refine wpList_reads (by kernel_rfl) (.bool false) (by go_simp) ?_
              simp only [Act.put, List.setIfInBounds_toArray, List.set_cons_zero, List.set_cons_succ]
              refine wpList_reads (by kernel_rfl) (.bool false) (by go_simp) ?_
              simp only [Act.put, List.setIfInBounds_toArray, List.set_cons_zero, List.set_cons_succ]
              go_wp2
              go_roundw
              case measure => simp [intOf]; omega
              case rel => exact ⟨i + 1, by omega, by go_num, mr.out, own9.out⟩
            · have hm0 : ((m : Int) == 0) = false := by rw [beq_eq_false_iff_ne]; omega
              go_upto_region 9 with (fail)
              refine wp_region_lit ?_
              refine wpList_reads (by kernel_rfl) (.int .i64 (i : Int)) (by go_simp) ?_
              simp only [Act.put, List.setIfInBounds_toArray, List.set_cons_zero, List.set_cons_succ]
              refine wpList_reads (by kernel_rfl) (.int .i64 (m : Int)) (by go_simp) ?_
              simp only [Act.put, List.setIfInBounds_toArray, List.set_cons_zero, List.set_cons_succ]
              refine wpList_reads (by kernel_rfl) (.bool false) (by go_simp) ?_
              simp only [Act.put, List.setIfInBounds_toArray, List.set_cons_zero, List.set_cons_succ]
              refine wpList_reads (by kernel_rfl) (.bool false) (by go_simp) ?_
              simp only [Act.put, List.setIfInBounds_toArray, List.set_cons_zero, List.set_cons_succ]
              refine wpList_skip (by kernel_rfl) ?_
              simp only [Act.put, List.setIfInBounds_toArray, List.set_cons_zero, List.set_cons_succ]
              refine wpList_skip (by kernel_rfl) ?_
              simp only [Act.put, List.setIfInBounds_toArray, List.set_cons_zero, List.set_cons_succ]
              refine wpList_reads (by kernel_rfl) (.bool false) (by go_simp) ?_
              simp only [Act.put, List.setIfInBounds_toArray, List.set_cons_zero, List.set_cons_succ]
              refine wpList_reads (by kernel_rfl) (.bool false) (by go_simp) ?_
              simp only [Act.put, List.setIfInBounds_toArray, List.set_cons_zero, List.set_cons_succ]
              go_wp2
              go_roundw
              case measure => simp [intOf]; omega
              case rel => exact ⟨i + 1, by omega, by go_num, mr.out, own9.out⟩
      · have hi : i = 16 := by omega
        subst hi
        have hd16 : decide (((16 : Nat) : Int) < 16) = false := by decide
        obtain ⟨H, hH⟩ : ∃ H, H = clampTo key 16 := ⟨_, rfl⟩
        have hHl : H.length = 16 := by rw [hH]; exact clampTo_length _ _
        rw [← hH] at rowr
        have bH := byteAt_of_own rowr
        obtain ⟨w2, hw2⟩ : ∃ x : World, x = wr := ⟨_, rfl⟩
        rw [← hw2] at mr bH ⊢
        obtain ⟨r, hr⟩ : ∃ r, r = ofN H := ⟨_, rfl⟩
        have hrl : r.length = 5 := by rw [hr]; exact ofN_length _
        have hrok : okN r := by rw [hr]; exact ofN_ok _
        replace hH := Lib.hid hH
        replace mr := Lib.hid mr
        replace bH := Lib.hid bH
        replace hw2 := Lib.hid hw2
        replace hr := Lib.hid hr
        replace hrok := Lib.hid hrok
        clear rowr hilt
        go_upto_region 12 with (fail)
        refine wp_region_lit ?_
        refine wpList_reads (by kernel_rfl) (.slice (some ⟨g, 0, none⟩) 16 c1) (by go_simp) ?_
        simp only [Act.put, List.setIfInBounds_toArray, List.set_cons_zero, List.set_cons_succ]
        refine wpList_enter (by kernel_rfl) 106 #[.slice (some ⟨g, 0, none⟩) 16 c1] (by go_simp) (of_num _ H w2 bH.out (by omega) (by omega)) ?_
        rintro e w3 ⟨m3, rfl⟩
        rw [← hr.out]
        obtain ⟨w4, hw4⟩ : ∃ x, x = w3.alloc (.cells (nums .u64 [0, 0, 0, 0, 0]).toArray 162) := ⟨_, rfl⟩
        obtain ⟨Rb, hRb⟩ : ∃ g, g = w3.heap.size := ⟨_, rfl⟩
        have m4 : Mod (fun _ => False) w3 w4 := by rw [hw4]; exact (Mod.refl _ _).alloc _
        have x4 : NumAt w4 Rb [0, 0, 0, 0, 0] := by rw [hw4]; exact hp_new _ _ _ hRb
        obtain ⟨w5, s5, m5, xr5⟩ := num_store x4 rfl hrl
        obtain ⟨w6, hw6⟩ : ∃ x, x = w5.alloc (.cells (nums .u64 [0, 0, 0, 0, 0]).toArray 162) := ⟨_, rfl⟩
        obtain ⟨Ab, hAb⟩ : ∃ g, g = w5.heap.size := ⟨_, rfl⟩
        have m6 : Mod (fun _ => False) w5 w6 := by rw [hw6]; exact (Mod.refl _ _).alloc _
        have xa6 : NumAt w6 Ab [0, 0, 0, 0, 0] := by rw [hw6]; exact hp_new _ _ _ hAb
        have xr6 := xr5.mod m6 (fun h => h)
        have hRA : Rb < Ab := by rw [hAb]; exact lt_of_heap xr5
        have m26 : Mod (fun _ => False) w2 w6 := m3.trans ((m4.trans' m5 (fun k hk h => by omega)).trans m6)
        have m06 := mr.out.trans m26
        have hwR : w0.heap.size ≤ Rb := by rw [hRb]; exact (mr.out.trans m3).size
        have hb6 := hb0.out.mod m06 (fun _ _ h => h)
        replace hw4 := Lib.hid hw4
        replace hRb := Lib.hid hRb
        replace hw6 := Lib.hid hw6
        replace hAb := Lib.hid hAb
        replace xa6 := Lib.hid xa6
        replace xr6 := Lib.hid xr6
        replace m06 := Lib.hid m06
        replace hb6 := Lib.hid hb6
        clear m3 m4 x4 m5 xr5 m6 m26 mr bH
        refine ⟨_, rfl, ?_⟩
        simp only [Act.put, List.setIfInBounds_toArray, List.set_cons_zero, List.set_cons_succ]
        refine wpList_yields (by kernel_rfl) _ _ (alloc_num _ _ _ rfl) ?_
        simp only [Act.put, List.setIfInBounds_toArray, List.set_cons_zero, List.set_cons_succ]
        rw [← hRb.out, ← hw4.out]
        refine wpList_store_to rfl _ _ _ rfl _ _ _ rfl rfl _ s5 ?_
        simp only [Act.put, List.setIfInBounds_toArray, List.set_cons_zero, List.set_cons_succ]
        clear s5
        go_upto_region 13 with (fail)
        refine wp_region_lit ?_
        refine wpList_yields (by kernel_rfl) _ _ (alloc_num _ _ _ rfl) ?_
        simp only [Act.put, List.setIfInBounds_toArray, List.set_cons_zero, List.set_cons_succ]
        rw [← hAb.out, ← hw6.out]
        go_upto_region 14 with (fail)
        refine wp_region_lit ?_
        refine wpList_reads (by kernel_rfl) (.slice ab n cb) (by go_simp) ?_
        simp only [Act.put, List.setIfInBounds_toArray, List.set_cons_zero, List.set_cons_succ]
        refine wpList_enter (by kernel_rfl) 107 #[.slice ab n cb] (by go_simp) (parts_make _ w6 ⟨_, _, _, rfl⟩) ?_
        rintro e w7 ⟨m7, rfl, xb7⟩
        obtain ⟨X, hX⟩ : ∃ X, X = w6.heap.size := ⟨_, rfl⟩
        rw [← hX] at xb7 ⊢
        have xa7 := xa6.out.mod m7 (fun h => h)
        have xr7 := xr6.out.mod m7 (fun h => h)
        have hb7 := hb6.out.mod m7 (fun _ _ h => h)
        have m07 := m06.out.trans m7
        have hX7 : X < w7.heap.size := lt_of_heap xb7
        have hA6 : Ab < X := by rw [hX]; exact lt_of_heap xa6.out
        replace hX := Lib.hid hX
        replace xa7 := Lib.hid xa7
        replace xr7 := Lib.hid xr7
        replace hb7 := Lib.hid hb7
        replace m07 := Lib.hid m07
        replace xb7 := Lib.hid xb7
        clear m7
        refine ⟨_, rfl, ?_⟩
        simp only [Act.put, List.setIfInBounds_toArray, List.set_cons_zero, List.set_cons_succ]
        go_wp2
        refine wp_rangeFunc_wide 121 _ rfl (fun _ _ => rfl) fun fn => ?_
        simp only [List.push_toArray, List.append_toArray, List.nil_append, List.cons_append]
        refine calls_rec fun rec W0 hrec hW0 => ?_
        replace hrec := Lib.hid hrec
        have mW : Mod (fun _ => False) w7 W0 := by rw [hW0]; exact ((Mod.refl _ w7).alloc _).alloc _
        have dW : W0.heap[w7.heap.size]? = some (.deferred (some [])) := by
          rw [hW0]
          rw [hp_old _ _ _ (by simp only [World.size_alloc]; omega), hp_new _ _ _ (by simp)]
        have lW : W0.heap[w7.heap.size + 1]? = some (.loop rec) := by
          rw [hW0]
          rw [hp_new _ _ _ (by simp)]
        have sW : W0.heap.size = w7.heap.size + 2 := by rw [hW0]; simp
        clear hW0
        have xaW := xa7.out.mod mW (fun h => h)
        have xrW := xr7.out.mod mW (fun h => h)
        have bW := hb7.out.mod mW (fun _ _ h => h)
        have xbW := mW.heap xb7.out (fun h => h)
        have m0W := m07.out.trans mW
        have h07 := m07.out.size
        have hs00 : w.heap.size ≤ w0.heap.size := m0.out.size
        generalize hs7 : w7.heap.size = s7 at *
        replace hs7 := Lib.hid hs7
        clear mW
        obtain ⟨J, hJ⟩ : ∃ J : Nat → World → Prop, J = fun i W => NumAt W Ab (accS r b i) ∧ NumAt W Rb r := ⟨_, rfl⟩
        refine (parts_iter (s7 + 1) X 54 b (by rw [← hn.out]; exact hbl) rec (fun k => k = Ab ∨ k = s7 + 1) J W0 (.slice ab n cb) (by rw [hrec.out]) (by omega) (fun k hk => by omega) (.inr rfl) ?_ ?_ ?_ lW xbW bW ?_).mono ?_
        · rw [hJ]
          rintro i W W' ⟨h1, h2⟩ hm
          exact ⟨h1.mod hm (by omega), h2.mod hm (by omega)⟩
        · intro i W v hi hj lr bv
          rw [hJ] at hj
          obtain ⟨ja, jr⟩ := hj
          refine round_named fun Q hQ => ?_
          refine roundIn_of_wpIn trivial ?_
          rw [hrec.out]
          dsimp only
          simp only [List.setIfInBounds_toArray, List.set_cons_zero, List.set_cons_succ]
          gi_wp2
          refine ⟨_, run_beginRound lr (by rw [hrec.out]), ?_⟩
          have hst2 : (Loop.mk .ready none rec.fn rec.tmps rec.params rec.assign rec.body rec.defers) = rec := by rw [hrec.out]
          have hwb : ∀ wb, wb = W.putObj (s7 + 1) (.loop { rec with state := .busy }) → Mod (fun k => k = s7 + 1) W wb ∧ wb.heap[s7 + 1]? = some (.loop { rec with state := .busy }) ∧ ByteAt wb v (chunkB b i ++ [1]) := by
            rintro wb rfl
            exact ⟨Mod.one_putObj W (s7 + 1) (.loop { rec with state := .busy }), heap_putObj lr, bv.putP lr _⟩
          refine wpIn_world fun wb hwb' => ?_
          obtain ⟨mb, lb, bvb⟩ := hwb wb hwb'
          have xab := ja.mod mb (by omega)
          have xrb := jr.mod mb (by omega)
          have hal := accS_length r b i
          have haok := accS_ok r b hrok.out i
          have hc16 : (chunkB b i).length ≤ 16 := by rw [chunkB_length]; omega
          have hcl1 : (chunkB b i ++ [1]).length ≤ 17 := by simp; omega
          have hc1 : 16 < (chunkB b i ++ [1]).length → ((chunkB b i ++ [1]).getD 16 0).toNat < 4 := by
            intro h
            have hl : (chunkB b i).length = 16 := by simp at h; omega
            rw [List.getD_eq_getElem?_getD, List.getElem?_append_right (by omega), hl]
            decide
          have hns : accS r b (i + 1) = timesN (plusN (accS r b i) (ofN (chunkB b i ++ [1]))) r := rfl
          obtain ⟨A0, hA0⟩ : ∃ A, A = accS r b i := ⟨_, rfl⟩
          obtain ⟨P, hP⟩ : ∃ P, P = chunkB b i ++ [1] := ⟨_, rfl⟩
          obtain ⟨N, hN⟩ : ∃ N, N = ofN P := ⟨_, rfl⟩
          have hNl : N.length = 5 := by rw [hN]; exact ofN_length _
          have hNok : okN N := by rw [hN]; exact ofN_ok _
          rw [← hA0] at xab hal haok hns
          rw [← hP] at bvb hcl1 hc1 hns
          rw [← hN] at hns
          obtain ⟨U, hU⟩ : ∃ U, U = plusN A0 N := ⟨_, rfl⟩
          have hUl : U.length = 5 := by rw [hU, plusN_length, hal]
          have hUok : okN U := by rw [hU]; exact plusN_ok hal haok hNok
          obtain ⟨V, hV⟩ : ∃ V, V = timesN U r := ⟨_, rfl⟩
          have hVl : V.length = 5 := by rw [hV]; exact timesN_length _ _
          rw [← hU, ← hV] at hns
          clear hwb hwb' ja jr lr bv xaW xrW bW xbW m0W dW lW
          replace hQ := Lib.hid hQ
          replace hJ := Lib.hid hJ
          replace hst2 := Lib.hid hst2
          replace mb := Lib.hid mb
          replace lb := Lib.hid lb
          replace bvb := Lib.hid bvb
          replace xab := Lib.hid xab
          replace xrb := Lib.hid xrb
          replace haok := Lib.hid haok
          replace hNok := Lib.hid hNok
          replace hUok := Lib.hid hUok
          replace hns := Lib.hid hns
          replace hA0 := Lib.hid hA0
          replace hP := Lib.hid hP
          replace hN := Lib.hid hN
          replace hU := Lib.hid hU
          replace hV := Lib.hid hV
          replace hc1 := Lib.hid hc1
          refine wpIn_block ?_
          refine round_draw (by kernel_rfl) (by kernel_rfl) ?_ ?_
          · intro h
            first | (obtain ⟨_, _, h⟩ := h; exact h) | exact h
          obtain ⟨wq, hwq⟩ : ∃ x, x = wb.drew := ⟨_, rfl⟩
          have mq : Mod (fun _ => False) wb wq := by rw [hwq]; exact (Mod.refl _ _).drew
          rw [← hwq]
          replace hwq := Lib.hid hwq
          have xaq := xab.out.mod mq (fun h => h)
          have xrq := xrb.out.mod mq (fun h => h)
          have lq := mq.heap lb.out (fun h => h)
          have bq := bvb.out.mod mq (fun _ _ h => h)
          have mWq : Mod (fun k => k = Ab ∨ k = s7 + 1) W wq := (mb.out.mono (fun _ _ h => .inr h)).trans (mq.mono (fun _ _ h => h.elim))
          obtain ⟨C, hC⟩ : ∃ C : World → Prop, C = fun w' => NumAt w' Ab A0 ∧ NumAt w' Rb r := ⟨_, rfl⟩
          have hCi : ∀ w' : World, C w' → NumAt w' Ab A0 ∧ NumAt w' Rb r := fun w' h => by rw [hC] at h; exact h
          have hCq : C wq := by rw [hC]; exact ⟨xaq, xrq⟩
          refine any_of_Z (S := C) (z := 6) _ _ _ _ ?_
          simp only [List.size_toArray, List.length_cons, List.length_nil, Nat.reduceAdd, Array.replicate_succ, Array.replicate_zero, List.push_toArray, List.nil_append, List.cons_append]
          refine anyZ_take 0 _ (some 55) (numA A0) rfl (by kernel_rfl) (by kernel_rfl) (by kernel_rfl) (by kernel_rfl) (by kernel_rfl) (by decide) rfl (fun w' hS => ?_) hCq ?_
          · exact run_load_op rfl rfl (num_load (hCi _ hS).1 hal)
          simp only [Act.put, List.setIfInBounds_toArray, List.set_cons_zero, List.set_cons_succ]
          refine anyZ_take 4 _ (some 59) (numA r) rfl (by kernel_rfl) (by kernel_rfl) (by kernel_rfl) (by kernel_rfl) (by kernel_rfl) (by decide) rfl (fun w' hS => ?_) hCq ?_
          · exact run_load_op rfl rfl (num_load (hCi _ hS).2 hrl)
          simp only [Act.put, List.setIfInBounds_toArray, List.set_cons_zero, List.set_cons_succ]
          refine anyZ_take 1 _ (some 56) (v) rfl (by kernel_rfl) (by kernel_rfl) (by kernel_rfl) (by kernel_rfl) (by kernel_rfl) (by decide) rfl (fun w' hS => ?_) hCq ?_
          · go_simp
          simp only [Act.put, List.setIfInBounds_toArray, List.set_cons_zero, List.set_cons_succ]
          refine anyZ_call 2 _ (some 57) rfl (by kernel_rfl) (by kernel_rfl) rfl 106 #[v] (by go_simp) ?_
          refine (of_num v P wq bq hcl1 hc1.out).mono ?_
          rintro e u1 ⟨n1, rfl⟩
          rw [← hN.out]
          have C1 : C u1 := by rw [hC]; exact ⟨xaq.mod n1 (fun h => h), xrq.mod n1 (fun h => h)⟩
          refine ⟨_, rfl, fun _ => C1, ?_⟩
          simp only [Act.put, List.setIfInBounds_toArray, List.set_cons_zero, List.set_cons_succ]
          refine anyZ_call 3 _ (some 58) rfl (by kernel_rfl) (by kernel_rfl) rfl 108 #[numA A0, numA N] (by go_simp) ?_
          refine (plus_any A0 N hal hNl haok.out hNok.out u1).mono ?_
          rintro e u2 ⟨n2, rfl⟩
          rw [← hU.out]
          have C2 : C u2 := by rw [hC]; exact ⟨(hCi _ C1).1.mod n2 (fun h => h), (hCi _ C1).2.mod n2 (fun h => h)⟩
          refine ⟨_, rfl, fun _ => C2, ?_⟩
          simp only [Act.put, List.setIfInBounds_toArray, List.set_cons_zero, List.set_cons_succ]
          refine anyZ_call 5 _ (some 60) rfl (by kernel_rfl) (by kernel_rfl) rfl 109 #[numA U, numA r] (by go_simp) ?_
          refine (times_any U r hUl hrl hUok.out hrok.out u2).mono ?_
          rintro e u3 ⟨n3, rfl⟩
          rw [← hV.out]
          have C3 : C u3 := by rw [hC]; exact ⟨(hCi _ C2).1.mod n3 (fun h => h), (hCi _ C2).2.mod n3 (fun h => h)⟩
          refine ⟨_, rfl, fun _ => C3, ?_⟩
          simp only [Act.put, List.setIfInBounds_toArray, List.set_cons_zero, List.set_cons_succ]
          obtain ⟨u4, su, nu, xu⟩ := num_store (hCi _ C3).1 hal hVl
          have n03 := (n1.trans n2).trans n3
          have lq4 := nu.heap (n03.heap lq (fun h => h)) (by omega)
          have xr4 := (hCi _ C3).2.mod nu (by omega)
          have mW4 : Mod (fun k => k = Ab ∨ k = s7 + 1) W u4 := mWq.trans ((n03.mono (fun _ _ h => h.elim)).trans (nu.mono (fun _ _ h => .inl h)))
          rw [← hns.out] at xu
          have hend2 : ∀ o, Mod (fun k => k = Ab ∨ k = s7 + 1) W (u4.putObj (s7 + 1) o) ∧ NumAt (u4.putObj (s7 + 1) o) Ab (accS r b (i + 1)) ∧ NumAt (u4.putObj (s7 + 1) o) Rb r := by
            intro o
            have h1 := Mod.one_putObj u4 (s7 + 1) o
            exact ⟨mW4.trans (h1.mono fun _ _ h => .inr h), xu.mod h1 (by omega), xr4.mod h1 (by omega)⟩
          replace hend2 := Lib.hid hend2
          refine anyZ_skip 6 _ rfl (by kernel_rfl) (by kernel_rfl) rfl u4 (run_store_op rfl rfl rfl su) (fun h => absurd rfl h) ?_
          refine anyZ_done (by kernel_rfl) ?_ _
          clear C1 C2 C3 hCi n1 n2 n3 nu n03 su xu xr4 mW4 xaq xrq bq mWq mq hCq
          go_wp2
          gi_wp2
          refine ⟨_, _, run_endRound _ lq4, hQ.out _ _ ⟨rfl, ?_, ?_, ?_⟩⟩
          · rw [hJ.out]
            exact ⟨(hend2.out _).2.1, (hend2.out _).2.2⟩
          · rw [← hst2.out]
            exact heap_putObj lq4
          · exact (hend2.out _).1
        · rw [hJ]
          exact ⟨xaW, xrW⟩
        · intro g off n' c h h0 hs
          have := hoff0.out g off n' c h h0
          rcases hs with hs | hs
          · omega
          · omega
        · rintro e W ⟨rfl, hj, lst, mfin⟩
          rw [hJ] at hj
          obtain ⟨ja, _⟩ := hj
          refine ⟨_, _, run_endLoop lst (by rw [hrec.out]; simp), ?_⟩
          rw [show rec.pending = none by rw [hrec.out]]
          dsimp only
          obtain ⟨w8, hw8⟩ : ∃ w4, w4 = W.putObj (s7 + 1) (.loop { rec with state := .exhausted, pending := none }) := ⟨_, rfl⟩
          have m8 : Mod (fun k => k = s7 + 1) W w8 := by rw [hw8]; exact Mod.one_putObj W (s7 + 1) (.loop { rec with state := .exhausted, pending := none })
          rw [← hw8]
          have mf8 : Mod (fun k => k = Ab ∨ k = s7 + 1) W0 w8 := mfin.trans (m8.mono fun _ _ h => .inr h)
          have xa8 := ja.mod m8 (by omega)
          have d8 := mf8.heap dW (by omega)
          have m08 : Mod (fun _ => False) w0 w8 := m0W.trans' mf8 (fun i hi h => by omega)
          obtain ⟨A0, hA0⟩ : ∃ A, A = accS r b (nch b) := ⟨_, rfl⟩
          have hal : A0.length = 5 := by rw [hA0]; exact accS_length _ _ _
          have haok : okN A0 := by rw [hA0]; exact accS_ok _ _ hrok.out _
          rw [← hA0] at xa8
          obtain ⟨L, hL⟩ : ∃ L, L = leastN A0 := ⟨_, rfl⟩
          have hLl : L.length = 5 := by rw [hL, leastN_length, hal]
          have hLok : okN L := by rw [hL]; exact leastN_ok hal haok
          obtain ⟨T, hT⟩ : ∃ T, T = bytesN L := ⟨_, rfl⟩
          have hTl : T.length = 16 := by rw [hT]; exact bytesTo_length _ _
          have hTp : polyS key b = T := by rw [hT, hL, hA0, hr.out, hH.out]; rfl
          have hws : w0.heap.size ≤ s7 := h07
          have la := num_load xa8 hal
          replace hw8 := Lib.hid hw8
          replace xa8 := Lib.hid xa8
          replace d8 := Lib.hid d8
          replace m08 := Lib.hid m08
          replace hA0 := Lib.hid hA0
          replace haok := Lib.hid haok
          replace hL := Lib.hid hL
          replace hLok := Lib.hid hLok
          replace hT := Lib.hid hT
          replace hTp := Lib.hid hTp
          clear m8 mf8 ja lst mfin hJ xaW xrW bW xbW m0W dW lW hrec sW
          go_upto_region 17 with (fail)
          refine wp_region_lit ?_
          refine wpList_reads (by kernel_rfl) (.int .i64 0) (by go_simp) ?_
          simp only [Act.put, List.setIfInBounds_toArray, List.set_cons_zero, List.set_cons_succ]
          go_upto_region 18 with (fail)
          refine wp_region_lit ?_
          refine wpList_reads (by kernel_rfl) (numA A0) (run_load_op rfl rfl la) ?_
          simp only [Act.put, List.setIfInBounds_toArray, List.set_cons_zero, List.set_cons_succ]
          clear la
          refine wpList_enter (by kernel_rfl) 110 #[numA A0] (by go_simp) (least_any A0 hal haok.out w8) ?_
          rintro e w9 ⟨m9, rfl⟩
          rw [← hL.out]
          refine ⟨_, rfl, ?_⟩
          simp only [Act.put, List.setIfInBounds_toArray, List.set_cons_zero, List.set_cons_succ]
          refine wpList_enter (by kernel_rfl) 111 #[numA L] (by go_simp) (bytes_any L hLl hLok.out w9) ?_
          rintro e wA ⟨mA, rfl⟩
          rw [← hT.out]
          have m0A := (m08.out.trans m9).trans mA
          have dA := (m9.trans mA).heap d8.out (fun h => h)
          replace m0A := Lib.hid m0A
          replace dA := Lib.hid dA
          clear m9 mA
          refine ⟨_, rfl, ?_⟩
          simp only [Act.put, List.setIfInBounds_toArray, List.set_cons_zero, List.set_cons_succ]
          refine wpList_reads (by kernel_rfl) (.int .i64 0) (by go_simp) ?_
          simp only [Act.put, List.setIfInBounds_toArray, List.set_cons_zero, List.set_cons_succ]
          obtain ⟨TV, hTV⟩ : ∃ v : Value, v = .agg (encB T) := ⟨_, rfl⟩
          rw [← hTV]
          replace hTV := Lib.hid hTV
          have xOA := m0A.out.heap xO.out (fun h => h)
          have xKA := m0A.out.heap xK.out (fun h => h)
          replace xOA := Lib.hid xOA
          replace xKA := Lib.hid xKA
          obtain ⟨wB, hwB⟩ : ∃ x : World, x = wA := ⟨_, rfl⟩
          rw [← hwB] at m0A dA xOA xKA ⊢
          replace hwB := Lib.hid hwB
          go_wp2
          go_loopw [11, 64] (fun mv iv wr => ∃ i : Nat, i ≤ 16 ∧ iv = .int .i64 (i : Int) ∧ mv = .int .i64 ((cyS T key i : Nat) : Int) ∧ Mod (fun k => k = O) wB wr ∧ BytesAt16 wr O (sumTo T key i)) (fun _ iv _ => 16 - (intOf iv).toNat)
          case atStart => exact ⟨0, by omega, rfl, rfl, Mod.refl _ _, xOA.out⟩
          case round =>
            obtain ⟨i, hi16, rfl, rfl, mi, xi⟩ := hrel
            have bi0 : (0 : Int) ≤ (i : Int) := by omega
            obtain ⟨q, hq⟩ : ∃ q, q = cyS T key i := ⟨_, rfl⟩
            have hq1 : q ≤ 1 := by rw [hq]; exact cyS_le _ _ _
            have bq0 : (0 : Int) ≤ (q : Int) := by omega
            rw [← hq]
            by_cases hilt : i < 16
            · have hd16 : decide ((i : Int) < 16) = true := by rw [decide_eq_true_iff]; omega
              have bi16 : ¬ (16 : Int) ≤ (i : Int) := by omega
              obtain ⟨x, hx⟩ : ∃ x, x = T.getD i 0 := ⟨_, rfl⟩
              have hx8 := x.isLt
              have hix := fun (ev : Operand → Value) (o : Oper) (a b : Operand) (ho : o.op = .index 61 a b) (ha : ev a = TV) (hb : ev b = .int .i64 (i : Int)) (w : World) => index16_op (w := w) ho (ha.trans hTV.out) hb hilt hTl
              rw [← hx] at hix
              obtain ⟨p, hp⟩ : ∃ p, p = 16 + i := ⟨_, rfl⟩
              have hpi : 16 + (i : Int) = (p : Int) := by omega
              have hwp : IntKind.i64.wrap (p : Int) = (p : Int) := by rw [IntKind.wrap_i64]; omega
              have bp0 : (0 : Int) ≤ (p : Int) := by omega
              have bp32 : ¬ (32 : Int) ≤ (p : Int) := by omega
              obtain ⟨y, hy⟩ : ∃ y, y = key.getD p 0 := ⟨_, rfl⟩
              have hy8 := y.isLt
              have xKr := mi.heap xKA.out (by omega)
              have cy : wr.cell? ⟨KB, p, none⟩ = some (.int .u8 (y.toNat : Int)) := by
                rw [cell_of_row _ _ _ _ _ _ xKr, hy]
                exact encB_get (by rw [hk.out]; omega)
              obtain ⟨cx, hcx⟩ : ∃ c, c = x.toNat := ⟨_, rfl⟩
              obtain ⟨ck, hck⟩ : ∃ c, c = y.toNat := ⟨_, rfl⟩
              rw [← hcx] at hx8 hix
              rw [← hck] at hy8 cy
              obtain ⟨u, hu⟩ : ∃ u, u = cx + ck := ⟨_, rfl⟩
              have hui : (cx : Int) + (ck : Int) = (u : Int) := by omega
              have hwu : IntKind.i64.wrap (u : Int) = (u : Int) := by rw [IntKind.wrap_i64]; omega
              have bu0 : (0 : Int) ≤ (u : Int) := by omega
              obtain ⟨z, hz⟩ : ∃ z, z = q + u := ⟨_, rfl⟩
              have hzi : (q : Int) + (u : Int) = (z : Int) := by omega
              have hwz : IntKind.i64.wrap (z : Int) = (z : Int) := by rw [IntKind.wrap_i64]; omega
              have bz0 : (0 : Int) ≤ (z : Int) := by omega
              have hwcx : IntKind.i64.wrap (cx : Int) = (cx : Int) := by rw [IntKind.wrap_i64]; omega
              have hwck : IntKind.i64.wrap (ck : Int) = (ck : Int) := by rw [IntKind.wrap_i64]; omega
              obtain ⟨B, hB⟩ : ∃ B, B = BitVec.ofNat 8 z := ⟨_, rfl⟩
              have hBi : IntKind.u8.wrap (z : Int) = (B.toNat : Int) := by rw [hB, BitVec.toNat_ofNat, IntKind.wrap_u8]; omega
              obtain ⟨q', hq'⟩ : ∃ q', q' = z / 256 := ⟨_, rfl⟩
              have hqi' : (z : Int) / 256 = (q' : Int) := by omega
              have hnq : cyS T key (i + 1) = q' := by rw [cyS, ← hq, ← hx, ← hp, ← hy, ← hcx, ← hck, hq', hz, hu]
              have hsb : sumB T key i = B := by unfold sumB; rw [← hq, ← hx, ← hp, ← hy, ← hcx, ← hck, hB, hz, hu]
              obtain ⟨wC, sC, mC, xC⟩ := put16P xi i B (by rw [sumTo_length]; exact hilt)
              rw [← hsb, sumTo_succ T key i hilt] at xC
              have miC := mi.trans mC
              replace hq := Lib.hid hq
              replace hx := Lib.hid hx
              replace hix := Lib.hid hix
              replace hp := Lib.hid hp
              replace hy := Lib.hid hy
              replace hcx := Lib.hid hcx
              replace hck := Lib.hid hck
              replace hu := Lib.hid hu
              replace hz := Lib.hid hz
              replace hB := Lib.hid hB
              replace hq' := Lib.hid hq'
              replace hnq := Lib.hid hnq
              replace hsb := Lib.hid hsb
              replace xC := Lib.hid xC
              replace miC := Lib.hid miC
              clear mC mi xi xKr
              go_upto_region 20 with (fail)
              refine wp_region_lit ?_
              refine wpList_reads (by kernel_rfl) (.int .i64 (i : Int)) (by go_simp) ?_
              simp only [Act.put, List.setIfInBounds_toArray, List.set_cons_zero, List.set_cons_succ]
              refine wpList_yields (by kernel_rfl) _ _ (hix.out _ _ _ _ rfl rfl rfl _) ?_
              simp only [Act.put, List.setIfInBounds_toArray, List.set_cons_zero, List.set_cons_succ]
              refine wpList_reads (by kernel_rfl) (.int .i64 (i : Int)) (by go_simp) ?_
              simp only [Act.put, List.setIfInBounds_toArray, List.set_cons_zero, List.set_cons_succ]
              refine wpList_reads (by kernel_rfl) (.int .u8 (cx : Int)) (by go_simp) ?_
              simp only [Act.put, List.setIfInBounds_toArray, List.set_cons_zero, List.set_cons_succ]
              go_upto_region 21 with (fail)
              refine wp_region_lit ?_
              refine wpList_reads (by kernel_rfl) (.int .i64 (q : Int)) (by go_simp) ?_
              simp only [Act.put, List.setIfInBounds_toArray, List.set_cons_zero, List.set_cons_succ]
              refine wpList_reads (by kernel_rfl) (.int .u8 (cx : Int)) (by go_simp) ?_
              simp only [Act.put, List.setIfInBounds_toArray, List.set_cons_zero, List.set_cons_succ]
              refine wpList_reads (by kernel_rfl) (.int .i64 (cx : Int)) (by go_simp) ?_
              simp only [Act.put, List.setIfInBounds_toArray, List.set_cons_zero, List.set_cons_succ]
              refine wpList_reads (by kernel_rfl) (.int .i64 (i : Int)) (by go_simp) ?_
              simp only [Act.put, List.setIfInBounds_toArray, List.set_cons_zero, List.set_cons_succ]
              refine wpList_reads (by kernel_rfl) (.int .i64 (p : Int)) (by go_simp) ?_
              simp only [Act.put, List.setIfInBounds_toArray, List.set_cons_zero, List.set_cons_succ]
              refine wpList_reads (by kernel_rfl) (.pointer (some ⟨KB, p, none⟩)) (by go_simp) ?_
              simp only [Act.put, List.setIfInBounds_toArray, List.set_cons_zero, List.set_cons_succ]
              refine wpList_reads (by kernel_rfl) (.int .u8 (ck : Int)) (run_load_op rfl rfl (ld_u8P cy)) ?_
              simp only [Act.put, List.setIfInBounds_toArray, List.set_cons_zero, List.set_cons_succ]
              refine wpList_reads (by kernel_rfl) (.int .i64 (ck : Int)) (by go_simp) ?_
              simp only [Act.put, List.setIfInBounds_toArray, List.set_cons_zero, List.set_cons_succ]
              refine wpList_reads (by kernel_rfl) (.int .i64 (u : Int)) (by go_simp) ?_
              simp only [Act.put, List.setIfInBounds_toArray, List.set_cons_zero, List.set_cons_succ]
              refine wpList_reads (by kernel_rfl) (.int .i64 (z : Int)) (by go_simp) ?_
              simp only [Act.put, List.setIfInBounds_toArray, List.set_cons_zero, List.set_cons_succ]
              refine wpList_reads (by kernel_rfl) (.int .i64 (z : Int)) (by go_simp) ?_
              simp only [Act.put, List.setIfInBounds_toArray, List.set_cons_zero, List.set_cons_succ]
              go_upto_region 22 with (fail)
              refine wp_region_lit ?_
              refine wpList_reads (by kernel_rfl) (.int .i64 (i : Int)) (by go_simp) ?_
              simp only [Act.put, List.setIfInBounds_toArray, List.set_cons_zero, List.set_cons_succ]
              refine wpList_reads (by kernel_rfl) (.int .i64 (z : Int)) (by go_simp) ?_
              simp only [Act.put, List.setIfInBounds_toArray, List.set_cons_zero, List.set_cons_succ]
              refine wpList_reads (by kernel_rfl) (.int .u8 (B.toNat : Int)) (by go_simp) ?_
              simp only [Act.put, List.setIfInBounds_toArray, List.set_cons_zero, List.set_cons_succ]
              refine wpList_reads (by kernel_rfl) (.pointer (some ⟨O, i, none⟩)) (by go_simp) ?_
              simp only [Act.put, List.setIfInBounds_toArray, List.set_cons_zero, List.set_cons_succ]
              refine wpList_store_to rfl _ _ _ rfl _ _ _ rfl rfl _ sC ?_
              simp only [Act.put, List.setIfInBounds_toArray, List.set_cons_zero, List.set_cons_succ]
              go_upto_region 23 with (fail)
              refine wp_region_lit ?_
              refine wpList_reads (by kernel_rfl) (.int .i64 (z : Int)) (by go_simp) ?_
              simp only [Act.put, List.setIfInBounds_toArray, List.set_cons_zero, List.set_cons_succ]
              refine wpList_reads (by kernel_rfl) (.int .i64 (q' : Int)) (by go_simp) ?_
              simp only [Act.put, List.setIfInBounds_toArray, List.set_cons_zero, List.set_cons_succ]
              refine wpList_reads (by kernel_rfl) (.int .i64 (q' : Int)) (by go_simp) ?_
              simp only [Act.put, List.setIfInBounds_toArray, List.set_cons_zero, List.set_cons_succ]
              clear sC cy
              go_wp2
              go_roundw
              case measure => simp [intOf]; omega
              case rel => exact ⟨i + 1, by omega, by go_num, by rw [hnq.out], miC.out, xC.out⟩
            · have hi : i = 16 := by omega
              subst hi
              have hd16 : decide (((16 : Nat) : Int) < 16) = false := by decide
              have htag : sumTo T key 16 = tagS key b := by unfold tagS; rw [hTp.out]
              rw [htag] at xi
              obtain ⟨Z, hZ⟩ : ∃ Z, Z = tagS key b := ⟨_, rfl⟩
              have hZl : Z.length = 16 := by rw [hZ]; exact tagS_length _ _
              rw [← hZ] at xi
              have hend := hend.out
              rw [← hZ] at hend
              replace hend := Lib.hid hend
              have lz := load16P xi hZl
              obtain ⟨wz, sz, mz, xz⟩ := store16P xi hZl hZl
              have dz : wz.heap[s7]? = some (.deferred (some [])) := mz.heap (mi.heap dA.out (by omega)) (by omega)
              have mwz : Mod (fun _ => False) w wz := (((m0.out.trans m0A.out).trans' mi (fun k hk h => by omega))).trans' mz (fun k hk h => by omega)
              have h1 := Mod.one_putObj wz s7 (.deferred none)
              have xz' : BytesAt16 (wz.putObj s7 (.deferred none)) O Z := h1.heap xz (by omega)
              have hfin := hend.out _ (mwz.trans' h1 (fun k hk h => by omega))
              replace hZ := Lib.hid hZ
              replace dz := Lib.hid dz
              replace xz' := Lib.hid xz'
              replace hfin := Lib.hid hfin
              clear mz mi xi xz mwz h1 htag hilt
              go_upto_region 25 with (fail)
              refine wp_region_lit ?_
              refine wpList_reads (by kernel_rfl) (.agg (encB Z)) (run_load_op rfl rfl lz) ?_
              simp only [Act.put, List.setIfInBounds_toArray, List.set_cons_zero, List.set_cons_succ]
              refine wpList_store_to rfl _ _ _ rfl _ _ _ rfl rfl _ sz ?_
              simp only [Act.put, List.setIfInBounds_toArray, List.set_cons_zero, List.set_cons_succ]
              refine wpList_reads (by kernel_rfl) (.int .i64 0) (by go_simp) ?_
              simp only [Act.put, List.setIfInBounds_toArray, List.set_cons_zero, List.set_cons_succ]
              clear sz lz
              go_wp2
              refine bodyPostM_mark (v := .tuple #[.agg (encB Z), .int .i64 0]) rfl dz.out (results_tagP rfl _ _ _ _ _ rfl rfl xz'.out hZl) ?_
              exact hfin.out
end Go.Proofs.YtbiijcljpgannaaGreatDoor
