/-
  Bytes as they lie in memory; operations of a region, one by one; mailcoachlaw01.SameBytes.
-/
import Derived.Lib.SlBytesConst
import Derived.ArgAppend
import Derived.Lib.JoinLaws
import Derived.WalkArith
import Derived.Laws.BitsAllLaws
import Derived.Laws.StructEq
import Derived.Deep.LoopGhost
import Derived.Deep.CutBlock
import Derived.Test.YtbiijcljpgannaaFloat
import Derived.Test.YtbiijcljpgannaaProg
namespace Go.Proofs.Ytbiijcljpgannaa
open Go Go.RowKit
set_option linter.unusedSimpArgs false

theorem hp_new (w : World) (o : Obj) (n : Nat) (h : n = w.heap.size) : (w.alloc o).heap[n]? = some o := by subst h; exact heap_alloc_new w o
theorem hp_old (w : World) (o : Obj) (n : Nat) (h : n < w.heap.size) : (w.alloc o).heap[n]? = w.heap[n]? := heap_alloc_old w o h

theorem conv_const {P : Program} (w : World) (t e : TypeId) (C : Array Value) (n c b : Nat) (hb : b = w.heap.size) (ht : P.underlying t = some (.slice e)) (he : P.underlying e = some (.int .u8)) :
    (convert t t (.slice (some ⟨b, 0, none⟩) n c)).run P (w.alloc (.cells C e)) = .ok (.slice (some ⟨b, 0, none⟩) n c) (w.alloc (.cells C e (C.size, C.size + 1))) := by
  subst hb; exact Lib.run_convert_bytes_const w t e C n c ht he
def encB (s : List (BitVec 8)) : Array Value := (s.map fun x => Value.int .u8 (x.toNat : Int)).toArray
theorem encB_get {s : List (BitVec 8)} {i : Nat} (hi : i < s.length) : (encB s)[i]? = some (.int .u8 ((s.getD i 0).toNat : Int)) := by
  simp [encB, hi]
theorem encB_set (s : List (BitVec 8)) (i : Nat) (x : BitVec 8) : (encB s).setIfInBounds i (.int .u8 (x.toNat : Int)) = encB (s.set i x) := by
  simp [encB]
theorem encB_size (s : List (BitVec 8)) : (encB s).size = s.length := by simp [encB]
theorem encB_one (s : List (BitVec 8)) : (encB s).all (·.oneCell') = true := by simp [encB, Value.oneCell']
theorem encB_cell {w : World} {g : Nat} {t : TypeId} {s : List (BitVec 8)} {fr : Nat × Nat} (hg : w.heap[g]? = some (.cells (encB s) t fr)) {i : Nat} (hi : i < s.length) : w.cell? ⟨g, i, none⟩ = some (.int .u8 ((s.getD i 0).toNat : Int)) := by
  rw [cell_of_row _ _ _ _ _ _ hg]; exact encB_get hi
/-- A slice of bytes as it lies in memory. -/
def ByteAt (w : World) (v : Value) (bs : List (BitVec 8)) : Prop :=
  (∃ ad cap, v = .slice ad 0 cap ∧ bs = []) ∨ ∃ g off cap, v = .slice (some ⟨g, off, none⟩) bs.length cap ∧ bs.length ≤ cap ∧ ∀ j, j < bs.length → w.cell? ⟨g, off + j, none⟩ = some (.int .u8 ((bs.getD j 0).toNat : Int))
theorem cell_mod {S : Nat → Prop} {w w' : World} (h : Mod S w w') {g j : Nat} {v : Value} (hc : w.cell? ⟨g, j, none⟩ = some v) (hS : ¬ S g) : w'.cell? ⟨g, j, none⟩ = some v := by
  have hg : w'.heap[g]? = w.heap[g]? := by
    refine h.block g ?_ hS
    by_cases hlt : g < w.heap.size
    · exact hlt
    · rw [World.cell?, Array.getElem?_eq_none (by simpa using hlt)] at hc
      cases hc
  rw [World.cell?] at *
  simp only [hg] at *
  exact hc

theorem wpIn_world {F : Fence} {n : Nat} {P : Program} {c : Code} {Q : Exit → Act → World → Prop} {a : Act} {w : World} (h : ∀ w1, w1 = w → c.wpIn F n P Q a w1) : c.wpIn F n P Q a w := h w rfl
theorem round_named {F : Fence} {n : Nat} {P : Program} {l : Nat} {f : FuncId} {tmps : Array Value} {assign body : Code} {w : World} {R : Ending → World → Prop} (h : ∀ Q : Ending → World → Prop, (∀ e w', R e w' → Q e w') → RoundIn F n P l f tmps assign body w Q) : RoundIn F n P l f tmps assign body w R := h R (fun _ _ h => h)
theorem calls_rec {P : Program} {f : FuncId} {args : Array Value} {w : World} {d : Obj} {r : Loop} {R : Ending → World → Prop} (h : ∀ rec w0, rec = r → w0 = (w.alloc d).alloc (.loop rec) → Calls P f args w0 R) : Calls P f args ((w.alloc d).alloc (.loop r)) R := h r _ rfl rfl
theorem Mod.putObj {S : Nat → Prop} {a w : World} (h : Mod S a w) {l : Nat} (hl : l < a.heap.size → S l) (o : Obj) : Mod S a (w.putObj l o) :=
  h.trans' (S' := fun k => k = l) ⟨rfl, rfl, rfl, by simp [World.putObj], fun k _ hk => by simp only [World.putObj]; exact Array.getElem?_setIfInBounds_ne (Ne.symm hk)⟩ (fun i hi e => by subst e; exact hl hi)
theorem Mod.one_putObj (w : World) (l : Nat) (o : Obj) : Mod (fun k => k = l) w (w.putObj l o) := (Mod.refl (fun k => k = l) w).putObj (fun _ => rfl) o
theorem heap_putObj {w : World} {l : Nat} {o o' : Obj} (h : w.heap[l]? = some o') : (w.putObj l o).heap[l]? = some o := by
  have := (Array.getElem?_eq_some_iff.1 h).1
  simp [World.putObj, this]

/-- The bytes that are done, and zeroes. -/
def part (f : Nat → BitVec 8) (n i : Nat) : List (BitVec 8) := (List.range n).map fun j => if j < i then f j else 0
theorem part_zero (f : Nat → BitVec 8) (n : Nat) : encB (part f n 0) = madeCells #[.int .u8 0] n := by
  unfold part encB madeCells
  apply Array.ext
  · simp
  · intro i h1 h2
    have : i % 1 = 0 := Nat.mod_one i
    simp [this]
theorem part_set (f : Nat → BitVec 8) (n i : Nat) : (encB (part f n i)).setIfInBounds i (.int .u8 ((f i).toNat : Int)) = encB (part f n (i + 1)) := by
  unfold part encB
  apply Array.ext
  · simp
  · intro j h1 h2
    simp only [List.setIfInBounds_toArray, List.getElem_toArray, List.getElem_set, List.getElem_map, List.getElem_range]
    by_cases h : i = j
    · subst h; simp
    · simp only [h, if_false]
      by_cases h' : j < i
      · rw [if_pos h', if_pos (by omega)]
      · rw [if_neg h', if_neg (by omega)]
theorem part_all (f : Nat → BitVec 8) (n : Nat) : part f n n = (List.range n).map f := by
  unfold part
  refine List.map_congr_left fun j hj => ?_
  rw [if_pos (List.mem_range.1 hj)]

theorem ByteAt.slice {w : World} {v : Value} {bs : List (BitVec 8)} (h : ByteAt w v bs) : ∃ ad cap, v = .slice ad bs.length cap ∧ ∀ j, j < bs.length → ∃ g off, ad = some ⟨g, off, none⟩ ∧ g < w.heap.size ∧ w.cell? ⟨g, off + j, none⟩ = some (.int .u8 ((bs.getD j 0).toNat : Int)) := by
  rcases h with ⟨_, _, rfl, rfl⟩ | ⟨g, off, cap, rfl, _, h2⟩
  · exact ⟨_, _, rfl, fun j hj => absurd hj (by simp)⟩
  · refine ⟨_, _, rfl, fun j hj => ⟨g, off, rfl, ?_, h2 j hj⟩⟩
    have h3 := h2 j hj
    by_cases hlt : g < w.heap.size
    · exact hlt
    · rw [World.cell?, Array.getElem?_eq_none (by simpa using hlt)] at h3
      cases h3
theorem ByteAt.mod {S : Nat → Prop} {w w' : World} {v : Value} {bs : List (BitVec 8)} (h : ByteAt w v bs) (m : Mod S w w') (hS : ∀ k, k < w.heap.size → ¬ S k) : ByteAt w' v bs := by
  rcases h with ⟨ad, cap, rfl, rfl⟩ | ⟨g, off, cap, rfl, hc, h2⟩
  · exact .inl ⟨ad, cap, rfl, rfl⟩
  · refine .inr ⟨g, off, cap, rfl, hc, fun j hj => ?_⟩
    have h3 := h2 j hj
    by_cases hlt : g < w.heap.size
    · exact cell_mod m h3 (hS g hlt)
    · rw [World.cell?, Array.getElem?_eq_none (by simpa using hlt)] at h3
      cases h3
theorem ByteAt.row {w : World} {g : Nat} {t : TypeId} {bs : List (BitVec 8)} (h : w.heap[g]? = some (.cells (encB bs) t (0,0))) : ByteAt w (.slice (some ⟨g, 0, none⟩) bs.length bs.length) bs :=
  .inr ⟨g, 0, bs.length, rfl, Nat.le_refl _, fun j hj => by rw [cell_of_row _ _ _ _ _ _ h, Nat.zero_add, encB_get hj]⟩

/-- Bytes as cells. -/
def bytesV (bs : List (BitVec 8)) : List Value := bs.map fun b => .int .u8 (b.toNat : Int)
theorem bytesV_get {bs : List (BitVec 8)} {j : Nat} (hj : j < bs.length) : (bytesV bs)[j]? = some (.int .u8 ((bs.getD j 0).toNat : Int)) := by
  unfold bytesV
  rw [List.getElem?_map, List.getD_eq_getElem?_getD, List.getElem?_eq_getElem hj]
  rfl
theorem own_of_row {w : World} {B g : Nat} {t : TypeId} {bs : List (BitVec 8)} (hB : B ≤ g) (h : w.heap[g]? = some (.cells (encB bs) t (0,0))) (hm : bs.length ≤ maxLen) : w.ownsRow B t 1 (.slice (some ⟨g, 0, none⟩) bs.length bs.length) bs.length (bytesV bs) :=
  ⟨by simp [bytesV], .inr ⟨g, bs.length, encB bs, rfl, hB, h, Nat.le_refl _, hm, by rw [encB_size, Nat.mul_one], by simp only [encB, bytesV, Nat.mul_one]; exact List.take_of_length_le (by simp)⟩⟩
theorem byteAt_of_own {w : World} {B : Nat} {t : TypeId} {v : Value} {n : Nat} {bs : List (BitVec 8)} (h : w.ownsRow B t 1 v n (bytesV bs)) : ByteAt w v bs := by
  obtain ⟨h1, h2⟩ := h
  have hn : bs.length = n := by simpa [bytesV] using h1
  rcases h2 with ⟨rfl, rfl⟩ | ⟨g, cap, cur, rfl, _, h3, h4, _, _, h6⟩
  · exact .inl ⟨_, _, rfl, List.eq_nil_of_length_eq_zero hn⟩
  · refine .inr ⟨g, 0, cap, by rw [hn], by omega, fun j hj => ?_⟩
    rw [cell_of_row _ _ _ _ _ _ h3, Nat.zero_add]
    have h7 := bytesV_get hj
    rw [← h6, List.getElem?_take, if_pos (by omega)] at h7
    simpa using h7
theorem ByteAt.take {w : World} {ad : Option Addr} {n cap m : Nat} {bs : List (BitVec 8)} (h : ByteAt w (.slice ad n cap) bs) (hm : m ≤ bs.length) : ByteAt w (.slice ad m cap) (bs.take m) := by
  have hl : (bs.take m).length = m := by rw [List.length_take]; omega
  rcases h with ⟨ad', cap', h1, rfl⟩ | ⟨g, off, cap', h1, h2, h3⟩
  · obtain rfl : m = 0 := by simpa using hm
    exact .inl ⟨_, _, rfl, by simp⟩
  · injection h1 with h1 h4 h5
    subst h1 h5
    refine .inr ⟨g, off, cap, by rw [hl], by omega, fun j hj => ?_⟩
    rw [hl] at hj
    rw [h3 j (by omega), List.getD_eq_getElem?_getD, List.getD_eq_getElem?_getD, List.getElem?_take, if_pos hj]
theorem ByteAt.drop {w : World} {g off n cap m : Nat} {bs : List (BitVec 8)} (h : ByteAt w (.slice (some ⟨g, off, none⟩) n cap) bs) (hm : m < bs.length) : ByteAt w (.slice (some ⟨g, off + m, none⟩) (bs.length - m) (cap - m)) (bs.drop m) := by
  have hl : (bs.drop m).length = bs.length - m := by rw [List.length_drop]
  rcases h with ⟨ad', cap', h1, rfl⟩ | ⟨g', off', cap', h1, h2, h3⟩
  · simp at hm
  · injection h1 with h1 h4 h5
    injection h1 with h1
    injection h1 with h1 h6 _
    subst h1 h5 h6
    refine .inr ⟨g, off + m, cap - m, by rw [hl], by omega, fun j hj => ?_⟩
    rw [hl] at hj
    rw [Nat.add_assoc, h3 (m + j) (by omega), List.getD_eq_getElem?_getD, List.getD_eq_getElem?_getD, List.getElem?_drop]
theorem ByteAt.part {w : World} {g off n cap : Nat} {t : TypeId} {bs : List (BitVec 8)} (h : w.heap[g]? = some (.cells (encB bs) t (0,0))) (hn : off + n ≤ bs.length) (hc : n ≤ cap) : ByteAt w (.slice (some ⟨g, off, none⟩) n cap) ((bs.drop off).take n) := by
  have hl : ((bs.drop off).take n).length = n := by rw [List.length_take, List.length_drop]; omega
  refine .inr ⟨g, off, cap, by rw [hl], by omega, fun j hj => ?_⟩
  rw [hl] at hj
  rw [cell_of_row _ _ _ _ _ _ h, encB_get (by omega)]
  congr 4
  rw [List.getD_eq_getElem?_getD, List.getD_eq_getElem?_getD, List.getElem?_take, if_pos hj, List.getElem?_drop]
theorem made_bytes (n : Nat) : madeCells #[.int .u8 0] n = encB (List.replicate n 0) := by
  rw [← part_zero (fun _ => 0) n]
  congr 1
  unfold part
  apply List.ext_getElem
  · simp
  · intro i h1 h2
    simp

theorem setCell_id {w : World} {g i : Nat} {cs : Array Value} {t : TypeId} {fr : Nat × Nat} {v : Value} (h : w.heap[g]? = some (.cells cs t fr)) (hv : cs[i]? = some v) : w.setCell ⟨g, i, none⟩ v = w := by
  have e : w.heap.modify g (fun
      | .cells c elem frozen => .cells (if (none : Option Nat).isSome then c else c.setIfInBounds i v) elem frozen
      | o => o) = w.heap := by
    apply Array.ext_getElem?
    intro j
    rw [Array.getElem?_modify]
    split
    · rename_i e
      subst e
      rw [h]
      simp only [Option.map_some, Option.isSome_none, Bool.false_eq_true, if_false, Option.some.injEq, Obj.cells.injEq, and_true]
      obtain ⟨hi, rfl⟩ := Array.getElem?_eq_some_iff.1 hv
      apply Array.ext_getElem?
      intro k
      rw [Array.getElem?_setIfInBounds]
      split
      · rename_i e
        subst e
        exact hv.symm
      · rfl
    · rfl
  show ({ w with heap := w.heap.modify g (fun
      | .cells c elem frozen => .cells (if (none : Option Nat).isSome then c else c.setIfInBounds i v) elem frozen
      | o => o) } : World) = w
  rw [e]
theorem wpList_yields {P : Program} {ops : Array Oper} {rest : List Oper} {o : Oper} {a : Act} {w : World} {Q : Exit → Act → World → Prop} (hw : Region.wanted o (yielded ops a.tmps) = true) (v : Value) (w' : World)
    (hrun : (execOp a.eval o).run P w = .ok (.value v) w') (h : wpList P ops Q rest (a.put o.dst v) w') : wpList P ops Q (o :: rest) a w := by
  unfold wpList
  rw [if_pos hw]
  refine .inl ?_
  unfold Oper.wp
  rw [hrun]
  exact h
theorem run_bin_op {P : Program} {ev : Operand → Value} {o : Oper} {p : BinOp} {ty ty2 : TypeId} {x y : Operand} {w : World} {vx vy v : Value} (ho : o.op = .binOp p ty x y ty2) (hx : ev x = vx) (hy : ev y = vy) (hg : (eqGuard p ty x y vx vy).run P w = .ok () w) (hr : (binOp p ty vx vy).run P w = .ok v w) :
    (execOp ev o).run P w = .ok (.value v) w := by
  unfold execOp
  simp only [ho, hx, hy, hg, Sem.run_bind, Sem.run_pure, Result.andThen_ok, hr]
theorem run_load_op {P : Program} {ev : Operand → Value} {o : Oper} {ty : TypeId} {x : Operand} {g off : Nat} {w : World} {v : Value} (ho : o.op = .load ty x) (hx : ev x = .pointer (some ⟨g, off, none⟩)) (hr : (loadVar ty ⟨g, off, none⟩).run P w = .ok v w) :
    (execOp ev o).run P w = .ok (.value v) w := by
  unfold execOp
  simp only [ho, hx, Instr.loadAt, Instr.sureAddr, Sem.run_bind, Sem.run_pure, Result.andThen_ok, hr]

theorem same_any (va vb : Value) (a b : List (BitVec 8)) (w : World) (ha : ByteAt w va a) (hb : ByteAt w vb b) (hl : a.length < 4611686018427387904) (hl2 : b.length < 4611686018427387904) :
    Calls Try.prog 10 #[va, vb] w fun e w' => Mod (fun _ => False) w w' ∧ e = .returned (.bool (decide (a = b))) := by
  obtain ⟨ad, cap, rfl, ha'⟩ := ha.slice
  obtain ⟨bd, bcap, rfl, hb'⟩ := hb.slice
  clear ha hb
  obtain ⟨n, en⟩ : ∃ n, a.length = n := ⟨_, rfl⟩
  obtain ⟨m, em⟩ : ∃ m, b.length = m := ⟨_, rfl⟩
  rw [en] at ha' hl
  rw [em] at hb' hl2
  rw [show (Value.slice ad a.length cap) = .slice ad n cap by rw [en], show (Value.slice bd b.length bcap) = .slice bd m bcap by rw [em]]
  by_cases hnm : n = m
  · subst hnm
    have hne : ((n : Int) != (n : Int)) = false := by simp
    have hfin : (∀ k, k < n → a.getD k 0 = b.getD k 0) → decide (a = b) = true := by
      intro h
      rw [decide_eq_true_iff]
      apply List.ext_getElem (by omega)
      intro i h1 h2
      have := h i (by omega)
      simp only [List.getD_eq_getElem?_getD, List.getElem?_eq_getElem h1, List.getElem?_eq_getElem h2, Option.getD_some] at this
      exact this
    have hnot : ∀ k, k < n → a.getD k 0 ≠ b.getD k 0 → decide (a = b) = false := by
      intro k hk h
      rw [decide_eq_false_iff_not]
      intro e
      exact h (by rw [e])
    generalize decide (a = b) = r at *
    replace en := Lib.hid en
    replace em := Lib.hid em
    replace ha' := Lib.hid ha'
    replace hb' := Lib.hid hb'
    replace hfin := Lib.hid hfin
    replace hnot := Lib.hid hnot
    go_enter Try.func10, Try.ntmps10
    go_wp2
    go_loopw [5] (fun i wr => ∃ j : Nat, j ≤ n ∧ i = .int .i64 j ∧ Mod (fun _ => False) w wr ∧ ∀ k, k < j → a.getD k 0 = b.getD k 0) (fun i _ => n - (intOf i).toNat)
    case atStart => exact ⟨0, by omega, rfl, Mod.refl _ _, fun k hk => by omega⟩
    case round =>
      obtain ⟨j, hj, rfl, mr, hrel⟩ := hrel
      by_cases hlt : j < n
      · obtain ⟨ga, oa, rfl, _, ca⟩ := ha'.out j hlt
        obtain ⟨gb, ob, rfl, _, cb⟩ := hb'.out j hlt
        have ca := cell_mod mr ca (fun h => h)
        have cb := cell_mod mr cb (fun h => h)
        have hlt' : (j : Int) < (n : Int) := by omega
        have h0 : (0 : Int) ≤ (j : Int) := by omega
        have hd : decide ((j : Int) < (n : Int)) = true := by simpa using hlt
        have hnj := hnot.out j hlt
        have hxy : a.getD j 0 = b.getD j 0 ↔ (((a.getD j 0).toNat : Int) = ((b.getD j 0).toNat : Int)) := by
          rw [Int.ofNat_inj, BitVec.toNat_inj]
        replace hxy := Lib.hid hxy
        replace hnj := Lib.hid hnj
        replace hrel := Lib.hid hrel
        replace mr := Lib.hid mr
        generalize hax : a.getD j 0 = x at *
        generalize hay : b.getD j 0 = y at *
        replace hax := Lib.hid hax
        replace hay := Lib.hid hay
        go_upto_region 6 with (fail)
        go_quiet (fail)
        by_cases hx : (x.toNat : Int) = (y.toNat : Int)
        · have hne : ((x.toNat : Int) != (y.toNat : Int)) = false := by simp [hx]
          go_wp2
          go_roundw
          case measure => simp [intOf]; omega
          case rel =>
            refine ⟨j + 1, by omega, by go_num, mr.out.drewN _, fun k hk => ?_⟩
            by_cases h : k = j
            · subst h
              rw [hax.out, hay.out]
              exact hxy.out.2 hx
            · exact hrel.out k (by omega)
        · have hne : ((x.toNat : Int) != (y.toNat : Int)) = true := by simp [hx]
          go_wp2
          go_ret
          exact ⟨mr.out.drewN _, by rw [hnj.out (fun h => hx (hxy.out.1 h))]; rfl⟩
      · obtain rfl : j = n := by omega
        have hd : decide ((j : Int) < (j : Int)) = false := by simp
        go_wp2
        go_ret
        exact ⟨mr, by rw [hfin.out hrel]; rfl⟩
  · have hne : ((n : Int) != (m : Int)) = true := by simp; omega
    have hr : decide (a = b) = false := by
      rw [decide_eq_false_iff_not]
      intro h
      rw [h] at en
      omega
    rw [hr]
    go_enter Try.func10, Try.ntmps10
    go_wp2
    go_ret
    exact ⟨Mod.refl _ _, rfl⟩

theorem same_true (va vb : Value) (a : List (BitVec 8)) (w : World) (ha : ByteAt w va a) (hb : ByteAt w vb a) (hl : a.length < 4611686018427387904) :
    Calls Try.prog 10 #[va, vb] w fun e w' => Mod (fun _ => False) w w' ∧ e = .returned (.bool true) := by
  refine (same_any va vb a a w ha hb hl hl).mono ?_
  rintro e w' ⟨h1, h2⟩
  exact ⟨h1, by rw [h2]; simp⟩
section
variable {P : Program} {o : Oper} {a : Act} {C : World → Prop} {K : Act → Prop}
theorem quiet_run (v : Value) (h : ∀ w, C w → (execOp a.eval o).run P w = .ok (.value v) w) (hk : K (a.put o.dst v)) : o.quiet P a C K :=
  ⟨v, fun w hw => by unfold Oper.quietAt; rw [h w hw]; exact ⟨rfl, rfl⟩, hk⟩
theorem quiet_load (ty : TypeId) (x : Operand) (ho : o.op = .load ty x) (g off : Nat) (hx : a.eval x = .pointer (some ⟨g, off, none⟩)) (v : Value) (h : ∀ w, C w → (loadVar ty ⟨g, off, none⟩).run P w = .ok v w) (hk : K (a.put o.dst v)) : o.quiet P a C K :=
  quiet_run v (fun w hw => by
    unfold execOp
    simp only [ho, hx, Instr.loadAt, Instr.sureAddr, Sem.run_bind, Sem.run_pure, Result.andThen_ok, h w hw]) hk
theorem quiet_eql (t t2 : TypeId) (x y : Operand) (ho : o.op = .binOp .eql t x y t2) (vx vy : Value) (hx : a.eval x = vx) (hy : a.eval y = vy) (b : Bool) (hg : ∀ w, (eqGuard .eql t x y vx vy).run P w = .ok () w) (h : ∀ w, (binOp .eql t vx vy).run P w = .ok (.bool b) w)
    (hk : K (a.put o.dst (.bool b))) : o.quiet P a C K :=
  quiet_run (.bool b) (fun w _ => by
    unfold execOp
    simp only [ho, hx, hy, Sem.run_bind, Sem.run_pure, Result.andThen_ok, hg w, h w]) hk
theorem quiet_call (f : FuncId) (args : Array Value) (v : Value) (h : ∀ w, C w → (execOp a.eval o).run P w = .ok (.enter f args) w) (hc : ∀ w, C w → Calls P f args w fun e w' => e = .returned v ∧ C w') (hk : K (a.put o.dst v)) : o.quiet P a C K :=
  ⟨v, fun w hw => by unfold Oper.quietAt; rw [h w hw]; exact ⟨rfl, hc w hw⟩, hk⟩
theorem quiet_skip (h : ∀ w, C w → (execOp a.eval o).run P w = .ok .skip w) (hk : K (a.put o.dst undef)) : o.quiet P a C K :=
  ⟨undef, fun w hw => by unfold Oper.quietAt; rw [h w hw]; exact ⟨rfl, rfl⟩, hk⟩
end
/-! ### cuts of bytes -/
theorem ByteAt.cap {w : World} {ad : Option Addr} {n cap : Nat} {bs : List (BitVec 8)} (h : ByteAt w (.slice ad n cap) bs) : n = bs.length ∧ n ≤ cap := by
  rcases h with ⟨ad', cap', h1, rfl⟩ | ⟨g, off, cap', h1, h2, h3⟩
  · injection h1 with h1 h4 h5
    subst h4
    exact ⟨rfl, Nat.zero_le _⟩
  · injection h1 with h1 h4 h5
    subst h4 h5
    exact ⟨rfl, h2⟩
theorem ByteAt.sliced {w : World} {ad : Option Addr} {n cap : Nat} {bs : List (BitVec 8)} (hb : ByteAt w (.slice ad n cap) bs) (l h : Nat) (h1 : l ≤ h) (h2 : h ≤ n) : ByteAt w (sliced ad l h cap 1) ((bs.drop l).take (h - l)) := by
  obtain ⟨hn, hc⟩ := hb.cap
  unfold Go.sliced
  by_cases h0 : h - l = 0
  · rw [h0, List.take_zero]
    exact .inl ⟨_, _, rfl, rfl⟩
  · rw [if_neg (by omega)]
    have hl : ((bs.drop l).take (h - l)).length = h - l := by rw [List.length_take, List.length_drop]; omega
    rcases hb with ⟨ad', cap', h4, rfl⟩ | ⟨g, off, cap', h4, h5, h6⟩
    · simp at hn
      omega
    · injection h4 with h4 h7 h8
      subst h4 h8
      refine .inr ⟨g, off + l, cap - l, by rw [hl]; simp [Addr.add], by omega, fun j hj => ?_⟩
      rw [hl] at hj
      rw [Nat.add_assoc, h6 (l + j) (by omega), List.getD_eq_getElem?_getD, List.getD_eq_getElem?_getD, List.getElem?_take, if_pos hj, List.getElem?_drop]
theorem size_u8 (w : World) : (sizeOf (Try.prog.elem 22)).run Try.prog w = .ok 1 w := by kernel_rfl
theorem ByteAt.cut {w : World} {ad : Option Addr} {n cap : Nat} {bs : List (BitVec 8)} (hb : ByteAt w (.slice ad n cap) bs) (l h : Nat) (h1 : l ≤ h) (h2 : h ≤ n) :
    ∃ v, ByteAt w v ((bs.drop l).take (h - l)) ∧ ∀ w', (Instr.slice 22 (.slice ad n cap) (some (.int .i64 (l : Int))) (some (.int .i64 (h : Int))) none).run Try.prog w' = .ok v w' := by
  obtain ⟨hn, hc⟩ := hb.cap
  refine ⟨_, hb.sliced l h h1 h2, fun w' => ?_⟩
  rw [run_slice_lh w' 22 ad n cap Try.underlying22 .i64 .i64 _ _ (by omega) (by omega) (by omega), size_u8]
  rfl
theorem ByteAt.cutTo {w : World} {ad : Option Addr} {n cap : Nat} {bs : List (BitVec 8)} (hb : ByteAt w (.slice ad n cap) bs) (h : Nat) (h2 : h ≤ n) :
    ∃ v, ByteAt w v (bs.take h) ∧ ∀ w', (Instr.slice 22 (.slice ad n cap) none (some (.int .i64 (h : Int))) none).run Try.prog w' = .ok v w' := by
  obtain ⟨hn, hc⟩ := hb.cap
  have := hb.sliced 0 h (Nat.zero_le _) h2
  rw [List.drop_zero, Nat.sub_zero] at this
  refine ⟨_, this, fun w' => ?_⟩
  rw [run_slice_h w' 22 ad n cap Try.underlying22 .i64 _ (by omega) (by omega), size_u8]
  rfl
theorem ByteAt.cutFrom {w : World} {ad : Option Addr} {n cap : Nat} {bs : List (BitVec 8)} (hb : ByteAt w (.slice ad n cap) bs) (l : Nat) (h2 : l ≤ n) :
    ∃ v, ByteAt w v (bs.drop l) ∧ ∀ w', (Instr.slice 22 (.slice ad n cap) (some (.int .i64 (l : Int))) none none).run Try.prog w' = .ok v w' := by
  obtain ⟨hn, hc⟩ := hb.cap
  have := hb.sliced l n h2 (Nat.le_refl _)
  rw [show (bs.drop l).take (n - l) = bs.drop l from List.take_of_length_le (by rw [List.length_drop]; omega)] at this
  refine ⟨_, this, fun w' => ?_⟩
  rw [run_slice_l w' 22 ad n cap Try.underlying22 .i64 _ (by omega) (by omega), size_u8]
  rfl
end Go.Proofs.Ytbiijcljpgannaa
