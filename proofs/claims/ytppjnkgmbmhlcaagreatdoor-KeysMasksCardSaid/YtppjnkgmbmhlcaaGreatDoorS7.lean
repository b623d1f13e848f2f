/-
  sha.blocks and the function that it makes: the blocks of bytes, in order. Printed by gen/sha7.py.
-/
import Derived.Deep.LoopGhost
import Derived.Laws.CopyOwn
import Derived.Test.YtppjnkgmbmhlcaaGreatDoorS6
import Derived.Test.YtppjnkgmbmhlcaaGreatDoorMA
namespace Go.Proofs.YtppjnkgmbmhlcaaGreatDoor
set_option maxRecDepth 100000
open Go Go.RowKit Go.Lib
set_option linter.unusedSimpArgs false
set_option linter.unusedVariables false

theorem blocks_make (v : Value) (w : World) (hv : ∃ ad n cap, v = .slice ad n cap) :
    Calls Tryz.prog 108 #[v] w fun e w' => Mod (fun _ => False) w w' ∧ e = .returned (.func (.func 125) #[] #[.pointer (some ⟨w.heap.size, 0, none⟩)]) ∧
      w'.heap[w.heap.size]? = some (.cells #[v] 22 (0,0)) := by
  have hmf : ∀ (fn : Fn) (first cap : Array Value) (w : World), (Instr.makeFunc fn first cap).run Tryz.prog w = .ok (.func fn first cap) w := fun _ _ _ _ => rfl
  obtain ⟨ad, n, cap, rfl⟩ := hv
  go_enter Tryz.func108, Tryz.ntmps108
  go_wp2
  go_ret
  exact ⟨(Mod.refl _ w).alloc _, rfl, hp_new _ _ _ rfl⟩
/-- A slice's block is none of these. -/
def OffB (S : Nat → Prop) (v : Value) : Prop := ∀ g off n cap, v = .slice (some ⟨g, off, none⟩) n cap → 0 < n → ¬ S g
theorem ByteAt.keep {S : Nat → Prop} {w w' : World} {v : Value} {bs : List (BitVec 8)} (h : ByteAt w v bs) (m : Mod S w w') (hS : OffB S v) : ByteAt w' v bs := by
  rcases h with h | ⟨g, off, cap, rfl, h2, h3⟩
  · exact .inl h
  · exact .inr ⟨g, off, cap, rfl, h2, fun j hj => cell_mod m (h3 j hj) (hS g off _ cap rfl (by omega))⟩
theorem OffB.sliced {S : Nat → Prop} {g off n cap : Nat} (h : OffB S (.slice (some ⟨g, off, none⟩) n cap)) (l e : Nat) (hen : e ≤ n) : OffB S (sliced (some ⟨g, off, none⟩) l e cap 1) := by
  intro g' off' n' c' hv h0
  unfold Go.sliced at hv
  have hn' : n' = e - l := by injection hv with _ hv _; exact hv.symm
  have hg : g' = g := by
    split at hv
    · injection hv with hv
      injection hv with hv
      injection hv with hv
      exact hv.symm
    · injection hv with hv
      simp only [Option.map_some, Option.some.injEq] at hv
      unfold Addr.add at hv
      split at hv <;> (injection hv with hv; exact hv.symm)
  rw [hg]
  exact h g off n cap rfl (by omega)
theorem run_cutTo {ad : Option Addr} {n cap h : Nat} (h2 : h ≤ cap) (h3 : n ≤ cap) (w' : World) : (Instr.slice 22 (.slice ad n cap) none (some (.int .i64 (h : Int))) none).run Tryz.prog w' = .ok (sliced ad 0 h cap 1) w' := by
  rw [run_slice_h w' 22 ad n cap Tryz.underlying22 .i64 _ (by omega) (by omega), size_u8]
  rfl
theorem run_cutFrom {ad : Option Addr} {n cap l : Nat} (h2 : l ≤ n) (h3 : n ≤ cap) (w' : World) : (Instr.slice 22 (.slice ad n cap) (some (.int .i64 (l : Int))) none none).run Tryz.prog w' = .ok (sliced ad l n cap 1) w' := by
  rw [run_slice_l w' 22 ad n cap Tryz.underlying22 .i64 _ (by omega) (by omega), size_u8]
  rfl
theorem store_slice {w : World} {g : Nat} {x : Value} {ad : Option Addr} {n cap : Nat} (h : w.heap[g]? = some (.cells #[x] 22 (0,0))) : (storeVar 22 ⟨g, 0, none⟩ (.slice ad n cap)).run Tryz.prog w = .ok () (w.setCell ⟨g, 0, none⟩ (.slice ad n cap)) := by
  have hc := cell_of_one h
  have hf := free_of_one h
  go_simp

theorem make128 (w : World) : (Instr.makeSlice 22 (.int .i64 64) (.int .i64 128)).run Tryz.prog w = .ok (.slice (some ⟨w.heap.size, 0, none⟩) 64 128) (w.alloc (.cells (encB (List.replicate 128 0)) 5)) := by
  obtain ⟨i0, hi, hz0, hz1, hz2⟩ := info_parts infoU8
  have h := run_make (P := Tryz.prog) w 22 5 i0 (.int .u8 0) Tryz.underlying22 hi hz0 .i64 .i64 64 128 (by decide) (by decide) (by rw [hz2]; decide) (by decide)
  rw [h, hz1, ← made_bytes]
  rfl
theorem run_copy_head (w : World) (G : Nat) (Z bs : List (BitVec 8)) (v : Value) (hZ : Z.length = 128) (x : w.heap[G]? = some (.cells (encB Z) 5 (0,0))) (hb : ByteAt w v bs) (hl : bs.length < 64) :
    ∃ w', (∀ ty, (Builtin.copy_ #[22, 22] ty #[.slice (some ⟨G, 0, none⟩) 64 128, v]).run Tryz.prog w = .ok (.int .i64 ((bs.length : Nat) : Int)) w') ∧ Mod (fun k => k = G) w w' ∧ w'.heap[G]? = some (.cells (encB (bs ++ Z.drop bs.length)) 5 (0,0)) := by
  have hs8 : (Tryz.prog.info? 5).map (·.size) = some 1 := by kernel_rfl
  rcases hb with ⟨ad, cap, rfl, rfl⟩ | ⟨g, o2, cap, rfl, hc, hcell⟩
  · exact ⟨w, fun ty => run_copy_none w 22 22 ty 5 _ _ 64 128 0 cap Tryz.underlying22 hs8 rfl, Mod.refl _ _, by simpa using x⟩
  · have x' : w.heap[G]? = some (.cells ([] ++ (bytesV (Z.take bs.length) ++ bytesV (Z.drop bs.length))).toArray 5 (0,0)) := by
      rw [x, List.nil_append, ← bytesV_append, List.take_append_drop]
      rfl
    have h2 := setCells_mid G 5 (bytesV bs) (bytesV (Z.take bs.length)) [] _ w (by rw [bytesV_length, bytesV_length, List.length_take, hZ]; omega) x'
    have hth := there_mid (off := 0) (n := (bytesV bs).length) x (by rw [bytesV_length, encB_size, hZ]; omega)
    have hrun := fun ty => run_copy_cells (P := Tryz.prog) w 22 22 ty 5 G 0 64 128 ⟨g, o2, none⟩ bs.length cap (bytesV bs) Tryz.underlying22 hs8 (by rw [bytesV_length]; exact (Nat.min_eq_left (by omega)).symm)
      (fun j u hj => by
        have hj2 : j < bs.length := by
          have := (List.getElem?_eq_some_iff.1 hj).1
          rwa [bytesV_length] at this
        rw [bytesV_get hj2] at hj
        injection hj with hj
        subst hj
        have h3 := hcell j (by omega)
        rw [show ((⟨g, o2, none⟩ : Addr).add j) = ⟨g, o2 + j, none⟩ by unfold Addr.add; split <;> simp_all, h3])
      (fun j hj => (hth j hj).1) (fun j hj => (hth j hj).2) (bytesV_one _)
    refine ⟨_, fun ty => ?_, h2.1, ?_⟩
    · rw [hrun ty, bytesV_length]
      rfl
    · have h3 := h2.2
      rw [List.nil_append, ← bytesV_append] at h3
      exact h3
theorem run_copy_op {P : Program} {ev : Operand → Value} {o : Oper} {d s : Operand} {dT sT : TypeId} {w w' : World} {vd vs r : Value} (ho : o.op = .call { callee := .builtin .copy, args := #[d, s], argTypes := #[dT, sT] }) (hd : ev d = vd) (hs : ev s = vs)
    (hrun : ∀ ty, (Builtin.copy_ #[dT, sT] ty #[vd, vs]).run P w = .ok r w') : (execOp ev o).run P w = .ok (.value r) w' := by
  unfold execOp
  simp [ho, resolve, invoke, builtin, hd, hs, hrun, Result.andThen]
theorem load_slice {w : World} {g n cap : Nat} {ad : Option Addr} (h : w.cell? ⟨g, 0, none⟩ = some (.slice ad n cap)) : (loadVar 22 ⟨g, 0, none⟩).run Tryz.prog w = .ok (.slice ad n cap) w := by go_simp
theorem store_byte {w : World} {g off : Nat} {x : Value} {n : Int} (hc : w.cell? ⟨g, off, none⟩ = some x) (hf : w.frozen? ⟨g, off, none⟩ = false) : (storeVar 5 ⟨g, off, none⟩ (.int .u8 n)).run Tryz.prog w = .ok () (w.setCell ⟨g, off, none⟩ (.int .u8 n)) := by
  go_simp
/-- A byte set in a row. -/
theorem row_set {w : World} {g : Nat} {t : TypeId} {z : List (BitVec 8)} (x : w.heap[g]? = some (.cells (encB z) t (0,0))) (i : Nat) (y : BitVec 8) : (w.setCell ⟨g, i, none⟩ (.int .u8 (y.toNat : Int))).heap[g]? = some (.cells (encB (z.set i y)) t (0,0)) := by
  rw [setCell_row _ _ _ _ _ _ x, setRow_heap _ _ _ _ _ _ x, encB_set]

set_option maxRecDepth 100000 in
set_option maxHeartbeats 4000000 in
theorem blocks_iter (l X T : Nat) (b : List (BitVec 8)) (hbl : b.length ≤ 1048576) (rec : Loop) (S : Nat → Prop) (J : Nat → World → Prop) (W0 : World) (v0 : Value)
    (hT : rec.params = #[T]) (hlX : l ≠ X) (hSX : ¬ S X) (hSlow : ∀ k, S k → k < W0.heap.size) (hSl : S l)
    (hJ : ∀ i W W', J i W → Mod (fun k => k = X) W W' → J i W')
    (hround : ∀ i W v, i < nbS b → J i W → W.heap[l]? = some (.loop rec) → ByteAt W v (blk b i) → RoundIn Fence.wide 0 Tryz.prog l rec.fn (rec.tmps.setIfInBounds T v) rec.assign rec.body W fun e W' =>
      e = .returned (.bool true) ∧ J (i + 1) W' ∧ W'.heap[l]? = some (.loop rec) ∧ Mod S W W')
    (h0 : J 0 W0) (hl : W0.heap[l]? = some (.loop rec)) (hX : W0.heap[X]? = some (.cells #[v0] 22 (0,0))) (hb : ByteAt W0 v0 b) (hoff : OffB (fun k => S k ∨ k = X) v0) :
    Calls Tryz.prog 125 #[.func (.yield l) #[] #[], .pointer (some ⟨X, 0, none⟩)] W0 fun e W' => e = .returned (.tuple #[]) ∧ J (nbS b) W' ∧ W'.heap[l]? = some (.loop rec) ∧ Mod (fun k => S k ∨ k = X) W0 W' := by
  obtain ⟨ad0, cap0, rfl, _⟩ := hb.slice
  obtain ⟨n0, hn0⟩ : ∃ n0, n0 = b.length := ⟨_, rfl⟩
  have cX := cell_of_one hX
  rw [← hn0] at cX hX hb hoff hbl
  have bn0 : (n0 : Int) ≤ 1048576 := by omega
  have bn00 : (0 : Int) ≤ (n0 : Int) := by omega
  have hbits : ((n0 * 8 : Nat) : Int) = (n0 : Int) * 8 := by omega
  have hXlt : X < W0.heap.size := lt_of_heap hX
  replace hT := Lib.hid hT
  replace hJ := Lib.hid hJ
  replace hround := Lib.hid hround
  replace hl := Lib.hid hl
  replace hX := Lib.hid hX
  replace hb := Lib.hid hb
  replace h0 := Lib.hid h0
  replace hoff := Lib.hid hoff
  replace hn0 := Lib.hid hn0
  replace hSX := Lib.hid hSX
  replace hSl := Lib.hid hSl
  replace hSlow := Lib.hid hSlow
  go_enter Tryz.func125, Tryz.ntmps125
  go_wp2
  clear cX
  go_loopg [] n0 (fun m wr => ∃ i ad cap, 64 * i + m = n0 ∧ J i wr ∧ wr.heap[l]? = some (.loop rec) ∧ wr.heap[X]? = some (.cells #[.slice ad m cap] 22 (0,0)) ∧ ByteAt wr (.slice ad m cap) (b.drop (64 * i)) ∧ OffB (fun k => S k ∨ k = X) (.slice ad m cap) ∧ Mod (fun k => S k ∨ k = X) W0 wr)
  case atStart => exact ⟨0, ad0, cap0, by omega, h0.out, hl.out, hX.out, hb.out, hoff.out, Mod.refl _ _⟩
  case round =>
    obtain ⟨i, ad, cap, him, jr, lr, xr, br, offr, mr⟩ := hrel
    have cX := cell_of_one xr
    have hcap := br.cap.2
    have bm : (gk : Int) ≤ 1048576 := by omega
    have bm0 : (0 : Int) ≤ (gk : Int) := by omega
    have hlen : (b.drop (64 * i)).length = gk := by rw [List.length_drop, ← hn0.out]; omega
    by_cases hm : 64 ≤ gk
    · have hd : decide ((64 : Int) ≤ (gk : Int)) = true := by rw [decide_eq_true_iff]; omega
      obtain ⟨g, off, rfl, hgl, _⟩ : ∃ g off, ad = some ⟨g, off, none⟩ ∧ g < wr.heap.size ∧ True := by
        obtain ⟨ad', cap', h1, h2⟩ := br.slice
        obtain ⟨g, off, h3, h4, _⟩ := h2 0 (by omega)
        injection h1 with h1
        exact ⟨g, off, by rw [h1]; exact h3, h4, trivial⟩
      have hcutA := fun w' => run_cutTo (ad := some ⟨g, off, none⟩) (n := gk) (cap := cap) (h := 64) (by omega) hcap w'
      have hcutB := fun w' => run_cutFrom (ad := some ⟨g, off, none⟩) (n := gk) (cap := cap) (l := 64) hm hcap w'
      have bA := br.sliced 0 64 (Nat.zero_le _) hm
      have bB := br.sliced 64 gk hm (Nat.le_refl _)
      rw [List.drop_zero, Nat.sub_zero, ← blk_low (by rw [← hn0.out]; omega)] at bA
      rw [List.drop_drop, List.take_of_length_le (by rw [List.length_drop]; have := hn0.out; omega), show 64 * i + 64 = 64 * (i + 1) by omega] at bB
      have offB := offr.sliced 64 gk (Nat.le_refl _)
      have hiN : i < nbS b := by
        unfold nbS
        have : 1 ≤ endL (b.length % 64) / 64 := by unfold endL; split <;> decide
        have := hn0.out
        omega
      obtain ⟨vA, hvA⟩ : ∃ vA, vA = sliced (some ⟨g, off, none⟩) 0 64 cap 1 := ⟨_, rfl⟩
      rw [← hvA] at bA
      simp only [← hvA] at hcutA
      have hcutA' : ∀ w', (Instr.slice 22 (.slice (some ⟨g, off, none⟩) gk cap) none (some (.int .i64 64)) none).run Tryz.prog w' = .ok vA w' := hcutA
      obtain ⟨adB, capB, hvB, _⟩ := bB.slice
      have hlenB : (b.drop (64 * (i + 1))).length = gk - 64 := by rw [List.length_drop, ← hn0.out]; omega
      rw [hlenB] at hvB
      rw [hvB] at bB offB
      simp only [hvB] at hcutB
      have hcutB' : ∀ w', (Instr.slice 22 (.slice (some ⟨g, off, none⟩) gk cap) (some (.int .i64 64)) none none).run Tryz.prog w' = .ok (.slice adB (gk - 64) capB) w' := hcutB
      have hr := hround.out i wr vA hiN jr lr bA
      replace hr := Lib.hid hr
      replace jr := Lib.hid jr
      replace mr := Lib.hid mr
      replace br := Lib.hid br
      replace bB := Lib.hid bB
      replace offB := Lib.hid offB
      replace him := Lib.hid him
      replace hvA := Lib.hid hvA
      replace hvB := Lib.hid hvB
      replace hm := Lib.hid hm
      clear hcutA hcutB bA hlen hlenB
      go_upto_region 2 with (fail)
      refine (wpIn_wide (n := 1)).1 (wpIn_region_lit ?_)
      gi_wp2_with (refine wpListIn_yield rfl _ _ _ rfl rfl rec T lr hT.out ?_)
      refine hr.out.mono ?_
      rintro e W' ⟨rfl, jr', lr', m'⟩
      refine ⟨_, rfl, ?_⟩
      have xr' := m'.heap xr (fun h => hSX.out h)
      have cX' := cell_of_one xr'
      have fX' := free_of_one xr'
      have bB' := bB.out.keep (w' := W') m' (fun g off n c h h0 hs => offB.out g off n c h h0 (.inl hs))
      have m0' : Mod (fun k => S k ∨ k = X) W0 W' := mr.out.trans' m' (fun k _ h => .inl h)
      obtain ⟨w2, hw2⟩ : ∃ w2, w2 = W'.setCell ⟨X, 0, none⟩ (.slice adB (gk - 64) capB) := ⟨_, rfl⟩
      have m2 : Mod (fun k => k = X) W' w2 := by rw [hw2]; exact Mod.one_setCell _ _ _ _
      have x2 : w2.heap[X]? = some (.cells #[.slice adB (gk - 64) capB] 22 (0,0)) := by rw [hw2, one_setCell xr']
      have j2 := hJ.out _ _ _ jr' m2
      have l2 := m2.heap lr' (fun h => hlX h)
      have b2 := bB'.keep m2 (fun g off n c h h0 hs => offB.out g off n c h h0 (.inr hs))
      have m02 : Mod (fun k => S k ∨ k = X) W0 w2 := m0'.trans' m2 (fun k _ h => .inr h)
      replace hw2 := Lib.hid hw2
      replace x2 := Lib.hid x2
      replace j2 := Lib.hid j2
      replace l2 := Lib.hid l2
      replace b2 := Lib.hid b2
      replace m02 := Lib.hid m02
      clear hr jr mr br bB jr' lr' m' xr' bB' m0' m2 lr xr cX
      gi_wp2
      go_wp2
      go_roundg (gk - 64)
      case measure => have := hm.out; omega
      case rel => rw [← hw2.out]; exact ⟨i + 1, adB, capB, by have := him.out; have := hm.out; omega, j2.out, l2.out, x2.out, b2.out, offB.out, m02.out⟩
    · have hd : decide ((64 : Int) ≤ (gk : Int)) = false := by rw [decide_eq_false_iff_not]; omega
      obtain ⟨rest, hrest⟩ : ∃ rest, rest = b.drop (64 * i) := ⟨_, rfl⟩
      rw [← hrest] at br hlen
      have hi64 : i = n0 / 64 := by omega
      obtain ⟨w1, hw1⟩ : ∃ w1, w1 = wr.alloc (.cells (encB (List.replicate 128 0)) 5) := ⟨_, rfl⟩
      obtain ⟨G, hG⟩ : ∃ G, G = wr.heap.size := ⟨_, rfl⟩
      have hmk : (Instr.makeSlice 22 (.int .i64 64) (.int .i64 128)).run Tryz.prog wr = .ok (.slice (some ⟨G, 0, none⟩) 64 128) w1 := by rw [hw1, hG]; exact make128 wr
      have mal : Mod (fun _ => False) wr w1 := by rw [hw1]; exact (Mod.refl _ _).alloc _
      have z1 : w1.heap[G]? = some (.cells (encB (List.replicate 128 0)) 5 (0,0)) := by rw [hw1]; exact hp_new _ _ _ hG
      have x1 := mal.heap xr (fun h => h)
      have c1 := cell_of_one x1
      have br1 := br.mod mal (fun _ _ h => h)
      have hXG : X < G := by rw [hG]; exact lt_of_heap xr
      have hlG : l < G := by rw [hG]; exact lt_of_heap lr
      obtain ⟨w2, hcp, m2, z2⟩ := run_copy_head w1 G (List.replicate 128 0) rest (.slice ad gk cap) (by simp) z1 br1 (by omega)
      rw [hlen] at hcp z2
      have cz2 : w2.cell? ⟨G, gk, none⟩ = some _ := encB_cell z2 (i := gk) (by simp; omega)
      have fz2 := frozen_of_row w2 G gk _ _ z2
      have s3 := store_byte (n := 128) cz2 fz2
      have z3 := row_set z2 gk 128
      have hz3 : (rest ++ (List.replicate 128 (0 : BitVec 8)).drop gk).set gk 128 = rest ++ ([128] ++ List.replicate (127 - gk) 0) := by
        rw [List.drop_replicate, show 128 - gk = (127 - gk) + 1 by omega, List.replicate_succ, List.set_append_right _ _ (by omega), hlen, Nat.sub_self, List.set_cons_zero]
        rfl
      rw [hz3] at z3
      obtain ⟨w3, hw3⟩ : ∃ w3, w3 = w2.setCell ⟨G, gk, none⟩ (.int .u8 128) := ⟨_, rfl⟩
      have z3' : w3.heap[G]? = some (.cells (encB (rest ++ ([128] ++ List.replicate (127 - gk) 0))) 5 (0,0)) := by rw [hw3]; exact z3
      rw [← hw3] at s3
      have m3 : Mod (fun k => k = G) w1 w3 := by rw [hw3]; exact m2.trans (Mod.one_setCell _ _ _ _)
      have mr3 : Mod (fun _ => False) wr w3 := mal.trans' m3 (fun k hk h => by omega)
      have x3 := mr3.heap xr (fun h => h)
      have c3 := cell_of_one x3
      have hfin : ∀ w4, Mod (fun k => k = G) w3 w4 → J i w4 ∧ w4.heap[l]? = some (.loop rec) ∧ Mod (fun k => S k ∨ k = X) W0 w4 := by
        intro w4 m4
        have mm : Mod (fun _ => False) wr w4 := mr3.trans' m4 (fun k hk h => by omega)
        exact ⟨hJ.out _ _ _ jr (mm.mono (fun _ _ h => h.elim)), mm.heap lr (fun h => h), mr.trans' mm (fun _ _ h => h.elim)⟩
      have hGS : ¬ S G := fun h => by have := hSlow.out G h; have := mr.size; omega
      have hbl1 := blk_high (b := b)
      rw [← hn0.out, ← hi64, ← hrest] at hbl1
      have hnb : nbS b = i + endL gk / 64 := by
        unfold nbS
        rw [← hn0.out, ← hi64, show n0 % 64 = gk by omega]
      have hgk64 : gk < 64 := by omega
      have bgl : (gk : Int) < 64 := by omega
      have lc1 := load_slice c1
      replace hw1 := Lib.hid hw1
      replace hw3 := Lib.hid hw3
      replace hrest := Lib.hid hrest
      replace z3' := Lib.hid z3'
      replace hfin := Lib.hid hfin
      replace hGS := Lib.hid hGS
      replace hbl1 := Lib.hid hbl1
      replace hnb := Lib.hid hnb
      replace hlen := Lib.hid hlen
      replace hgk64 := Lib.hid hgk64
      replace hG := Lib.hid hG
      replace hXG := Lib.hid hXG
      replace hlG := Lib.hid hlG
      replace m3 := Lib.hid m3
      replace mr3 := Lib.hid mr3
      clear br br1 z1 x1 m2 z2 cz2 fz2 z3 hz3 x3 jr lr xr offr mr hi64 hm him mal
      go_upto_region 5 with (fail)
      refine wp_region_lit ?_
      refine wpList_reads (by kernel_rfl) (.slice (some ⟨G, 0, none⟩) 64 128) (by go_simp) ?_
      simp only [Act.put, List.setIfInBounds_toArray, List.set_cons_zero, List.set_cons_succ]
      refine wpList_reads (by kernel_rfl) (.slice (some ⟨G, 0, none⟩) 64 128) (by go_simp) ?_
      simp only [Act.put, List.setIfInBounds_toArray, List.set_cons_zero, List.set_cons_succ]
      refine wpList_reads (by kernel_rfl) (.slice ad gk cap) (run_load_op rfl rfl lc1) ?_
      simp only [Act.put, List.setIfInBounds_toArray, List.set_cons_zero, List.set_cons_succ]
      refine wpList_yields (by kernel_rfl) _ _ (run_copy_op rfl rfl rfl hcp) ?_
      simp only [Act.put, List.setIfInBounds_toArray, List.set_cons_zero, List.set_cons_succ]
      refine wpList_reads (by kernel_rfl) (.pointer (some ⟨G, gk, none⟩)) (by go_simp) ?_
      simp only [Act.put, List.setIfInBounds_toArray, List.set_cons_zero, List.set_cons_succ]
      refine wpList_store_to rfl _ _ _ rfl _ _ _ rfl rfl _ s3 ?_
      simp only [Act.put, List.setIfInBounds_toArray, List.set_cons_zero, List.set_cons_succ]
      by_cases h56 : 56 ≤ gk
      · have hd56 : decide ((56 : Int) ≤ (gk : Int)) = true := by rw [decide_eq_true_iff]; omega
        have hE : endL gk = 128 := by unfold endL; rw [if_neg (by omega)]
        replace h56 := Lib.hid h56
        have hdone := lenTo_done rest n0 (by rw [hlen.out]; exact hgk64.out)
        rw [hlen.out, hE] at hdone
        have htl := tailB_length rest n0 (by rw [hlen.out]; exact hgk64.out)
        rw [hlen.out, hE] at htl
        rw [hE] at hnb
        obtain ⟨Z, hZ⟩ : ∃ Z, Z = rest ++ ([128] ++ List.replicate (127 - gk) (0 : BitVec 8)) := ⟨_, rfl⟩
        have hZl : Z.length = 128 := by rw [hZ]; simp [hlen.out]; have := hgk64.out; omega
        rw [← hZ] at z3'
        rw [← hZ] at hdone
        replace hdone := Lib.hid hdone
        replace htl := Lib.hid htl
        replace hZ := Lib.hid hZ
        replace hZl := Lib.hid hZl
        replace hE := Lib.hid hE
        go_wp2
        go_loopw [31] (fun iv wq => ∃ j : Nat, j ≤ 8 ∧ iv = .int .i64 (j : Int) ∧ Mod (fun k => k = G) w3 wq ∧ wq.heap[G]? = some (.cells (encB (lenTo Z 128 (n0 * 8) j)) 5 (0,0))) (fun iv _ => 8 - (intOf iv).toNat)
        case atStart => exact ⟨0, by omega, rfl, Mod.refl _ _, z3'.out⟩
        case round =>
          obtain ⟨j, hj, rfl, mj, zj⟩ := hrel
          by_cases hlt : j < 8
          · have czj : wr.cell? ⟨G, 128 - 1 - j, none⟩ = some _ := encB_cell zj (i := 128 - 1 - j) (by rw [lenTo_length, hZl.out]; omega)
            have fzj := frozen_of_row wr G (128 - 1 - j) _ _ zj
            have hset := row_set zj (128 - 1 - j) (BitVec.ofNat 8 (n0 * 8 / 256 ^ j))
            have hms := mj.trans (Mod.one_setCell wr G (128 - 1 - j) (.int .u8 ((BitVec.ofNat 8 (n0 * 8 / 256 ^ j)).toNat : Int)))
            replace hset := Lib.hid hset
            replace hms := Lib.hid hms
            replace mj := Lib.hid mj
            replace zj := Lib.hid zj
            have hj8 : j = 0 ∨ j = 1 ∨ j = 2 ∨ j = 3 ∨ j = 4 ∨ j = 5 ∨ j = 6 ∨ j = 7 := by omega
            rcases hj8 with rfl | rfl | rfl | rfl | rfl | rfl | rfl | rfl
            · have hv : ((n0 : Int) * 8 % 256 : Int) = ((BitVec.ofNat 8 (n0 * 8 / 256 ^ 0)).toNat : Int) := by
                rw [BitVec.toNat_ofNat]
                omega
              replace hv := Lib.hid hv
              go_wp2
              go_roundw
              case measure => simp [intOf]
              case rel =>
                rw [hv.out]
                exact ⟨1, by omega, rfl, hms.out, hset.out⟩
            · have hv : ((n0 : Int) * 8 / 256 % 256 : Int) = ((BitVec.ofNat 8 (n0 * 8 / 256 ^ 1)).toNat : Int) := by
                rw [BitVec.toNat_ofNat]
                omega
              replace hv := Lib.hid hv
              go_wp2
              go_roundw
              case measure => simp [intOf]
              case rel =>
                rw [hv.out]
                exact ⟨2, by omega, rfl, hms.out, hset.out⟩
            · have hv : ((n0 : Int) * 8 / 65536 : Int) = ((BitVec.ofNat 8 (n0 * 8 / 256 ^ 2)).toNat : Int) := by
                rw [BitVec.toNat_ofNat]
                omega
              replace hv := Lib.hid hv
              go_wp2
              go_roundw
              case measure => simp [intOf]
              case rel =>
                rw [hv.out]
                exact ⟨3, by omega, rfl, hms.out, hset.out⟩
            · have hv : ((n0 : Int) * 8 / 16777216 : Int) = ((BitVec.ofNat 8 (n0 * 8 / 256 ^ 3)).toNat : Int) := by
                rw [BitVec.toNat_ofNat]
                omega
              replace hv := Lib.hid hv
              go_wp2
              go_roundw
              case measure => simp [intOf]
              case rel =>
                rw [hv.out]
                exact ⟨4, by omega, rfl, hms.out, hset.out⟩
            · have hv : ((n0 : Int) * 8 / 4294967296 : Int) = ((BitVec.ofNat 8 (n0 * 8 / 256 ^ 4)).toNat : Int) := by
                rw [BitVec.toNat_ofNat]
                omega
              replace hv := Lib.hid hv
              go_wp2
              go_roundw
              case measure => simp [intOf]
              case rel =>
                rw [hv.out]
                exact ⟨5, by omega, rfl, hms.out, hset.out⟩
            · have hv : ((n0 : Int) * 8 / 1099511627776 : Int) = ((BitVec.ofNat 8 (n0 * 8 / 256 ^ 5)).toNat : Int) := by
                rw [BitVec.toNat_ofNat]
                omega
              replace hv := Lib.hid hv
              go_wp2
              go_roundw
              case measure => simp [intOf]
              case rel =>
                rw [hv.out]
                exact ⟨6, by omega, rfl, hms.out, hset.out⟩
            · have hv : ((n0 : Int) * 8 / 281474976710656 : Int) = ((BitVec.ofNat 8 (n0 * 8 / 256 ^ 6)).toNat : Int) := by
                rw [BitVec.toNat_ofNat]
                omega
              replace hv := Lib.hid hv
              go_wp2
              go_roundw
              case measure => simp [intOf]
              case rel =>
                rw [hv.out]
                exact ⟨7, by omega, rfl, hms.out, hset.out⟩
            · have hv : ((n0 : Int) * 8 / 72057594037927936 : Int) = ((BitVec.ofNat 8 (n0 * 8 / 256 ^ 7)).toNat : Int) := by
                rw [BitVec.toNat_ofNat]
                omega
              replace hv := Lib.hid hv
              go_wp2
              go_roundw
              case measure => simp [intOf]
              case rel =>
                rw [hv.out]
                exact ⟨8, by omega, rfl, hms.out, hset.out⟩
          · have hj8 : j = 8 := by omega
            have hd8 : decide ((j : Int) < 8) = false := by rw [decide_eq_false_iff_not]; omega
            rw [hj8] at zj
            obtain ⟨w5, hw5⟩ : ∃ w5, w5 = wr := ⟨_, rfl⟩
            rw [← hw5] at mj zj ⊢
            obtain ⟨J5, l5, m5⟩ := hfin.out w5 mj
            have b5 := ByteAt.part (off := 0) (n := 128) (cap := 128) zj (by rw [lenTo_length, hZl.out]; omega) (by omega)
            rw [List.drop_zero, hdone.out] at b5
            have off5 : OffB S (.slice (some ⟨G, 0, none⟩) 128 128) := by
              intro g off n cap h _
              injection h with h
              injection h with h
              injection h with h
              rw [← h]
              exact hGS.out
            replace hw5 := Lib.hid hw5
            replace J5 := Lib.hid J5
            replace l5 := Lib.hid l5
            replace m5 := Lib.hid m5
            replace b5 := Lib.hid b5
            replace off5 := Lib.hid off5
            replace hj8 := Lib.hid hj8
            clear mj zj hj hlt
            go_wp2
            go_loopg [4] 128 (fun m sv wr => ∃ j ad cap, 64 * j + m = 128 ∧ sv = .slice ad m cap ∧ J (i + j) wr ∧ wr.heap[l]? = some (.loop rec) ∧ ByteAt wr (.slice ad m cap) ((tailB rest n0).drop (64 * j)) ∧ OffB S (.slice ad m cap) ∧ Mod (fun k => S k ∨ k = X) W0 wr)
            case atStart => exact ⟨0, _, _, by omega, rfl, J5.out, l5.out, b5.out, off5.out, m5.out⟩
            case round =>
              obtain ⟨j2, ad2, cap2, hj2, rfl, jr, lr, br, offr, mr⟩ := hrel
              have hcap2 := br.cap.2
              have bm2 : (gk : Int) ≤ 128 := by omega
              have bm20 : (0 : Int) ≤ (gk : Int) := by omega
              by_cases hm : 0 < gk
              · have hdm : decide ((0 : Int) < (gk : Int)) = true := by rw [decide_eq_true_iff]; omega
                have hm64 : 64 ≤ gk := by omega
                obtain ⟨g, off, rfl, hgl, _⟩ : ∃ g off, ad2 = some ⟨g, off, none⟩ ∧ g < wr.heap.size ∧ True := by
                  obtain ⟨ad', cap', h1, h2⟩ := br.slice
                  obtain ⟨g, off, h3, h4, _⟩ := h2 0 (by rw [List.length_drop, htl.out]; omega)
                  injection h1 with h1
                  exact ⟨g, off, by rw [h1]; exact h3, h4, trivial⟩
                have hcutA := fun w' => run_cutTo (ad := some ⟨g, off, none⟩) (n := gk) (cap := cap2) (h := 64) (by omega) hcap2 w'
                have hcutB := fun w' => run_cutFrom (ad := some ⟨g, off, none⟩) (n := gk) (cap := cap2) (l := 64) hm64 hcap2 w'
                have bA := br.sliced 0 64 (Nat.zero_le _) hm64
                have bB := br.sliced 64 gk hm64 (Nat.le_refl _)
                rw [List.drop_zero, Nat.sub_zero, ← hbl1.out] at bA
                rw [List.drop_drop, List.take_of_length_le (by rw [List.length_drop, htl.out]; omega), show 64 * j2 + 64 = 64 * (j2 + 1) by omega] at bB
                have offB := offr.sliced 64 gk (Nat.le_refl _)
                have hiN : i + j2 < nbS b := by rw [hnb.out]; omega
                obtain ⟨vA, hvA⟩ : ∃ vA, vA = sliced (some ⟨g, off, none⟩) 0 64 cap2 1 := ⟨_, rfl⟩
                rw [← hvA] at bA
                simp only [← hvA] at hcutA
                have hcutA' : ∀ w', (Instr.slice 22 (.slice (some ⟨g, off, none⟩) gk cap2) none (some (.int .i64 64)) none).run Tryz.prog w' = .ok vA w' := hcutA
                obtain ⟨adB, capB, hvB, _⟩ := bB.slice
                have hlenB : ((tailB rest n0).drop (64 * (j2 + 1))).length = gk - 64 := by rw [List.length_drop, htl.out]; omega
                rw [hlenB] at hvB
                rw [hvB] at bB offB
                simp only [hvB] at hcutB
                have hcutB' : ∀ w', (Instr.slice 22 (.slice (some ⟨g, off, none⟩) gk cap2) (some (.int .i64 64)) none none).run Tryz.prog w' = .ok (.slice adB (gk - 64) capB) w' := hcutB
                have hr := hround.out (i + j2) wr vA hiN jr lr bA
                replace hr := Lib.hid hr
                replace jr := Lib.hid jr
                replace mr := Lib.hid mr
                replace br := Lib.hid br
                replace bB := Lib.hid bB
                replace offB := Lib.hid offB
                replace hj2 := Lib.hid hj2
                replace hvA := Lib.hid hvA
                replace hvB := Lib.hid hvB
                replace hm := Lib.hid hm
                replace hm64 := Lib.hid hm64
                clear hcutA hcutB bA hlenB
                go_upto_region 15 with (fail)
                refine (wpIn_wide (n := 1)).1 (wpIn_region_lit ?_)
                gi_wp2_with (refine wpListIn_yield rfl _ _ _ rfl rfl rec T lr hT.out ?_)
                refine hr.out.mono ?_
                rintro e W' ⟨rfl, jr', lr', m'⟩
                refine ⟨_, rfl, ?_⟩
                have bB' := bB.out.keep (w' := W') m' offB.out
                have m0' : Mod (fun k => S k ∨ k = X) W0 W' := mr.out.trans' m' (fun k _ h => .inl h)
                replace jr' := Lib.hid jr'
                replace lr' := Lib.hid lr'
                replace bB' := Lib.hid bB'
                replace m0' := Lib.hid m0'
                clear hr jr mr br bB m' lr
                gi_wp2
                go_wp2
                go_roundg (gk - 64)
                case measure => have := hm64.out; omega
                case rel => exact ⟨j2 + 1, adB, capB, by have := hj2.out; have := hm64.out; omega, by go_num, jr'.out, lr'.out, bB'.out, offB.out, m0'.out⟩
              · obtain rfl : gk = 0 := by omega
                have hj2e : i + j2 = nbS b := by rw [hnb.out]; omega
                rw [hj2e] at jr
                replace jr := Lib.hid jr
                replace lr := Lib.hid lr
                replace mr := Lib.hid mr
                clear br offr
                go_wp2
                go_end0
                exact ⟨rfl, jr.out, lr.out, mr.out⟩
      · have hd56 : decide ((56 : Int) ≤ (gk : Int)) = false := by rw [decide_eq_false_iff_not]; omega
        have hE : endL gk = 64 := by unfold endL; rw [if_pos (by omega)]
        replace h56 := Lib.hid h56
        have hdone := lenTo_done rest n0 (by rw [hlen.out]; exact hgk64.out)
        rw [hlen.out, hE] at hdone
        have htl := tailB_length rest n0 (by rw [hlen.out]; exact hgk64.out)
        rw [hlen.out, hE] at htl
        rw [hE] at hnb
        obtain ⟨Z, hZ⟩ : ∃ Z, Z = rest ++ ([128] ++ List.replicate (127 - gk) (0 : BitVec 8)) := ⟨_, rfl⟩
        have hZl : Z.length = 128 := by rw [hZ]; simp [hlen.out]; have := hgk64.out; omega
        rw [← hZ] at z3'
        rw [← hZ] at hdone
        replace hdone := Lib.hid hdone
        replace htl := Lib.hid htl
        replace hZ := Lib.hid hZ
        replace hZl := Lib.hid hZl
        replace hE := Lib.hid hE
        go_wp2
        go_loopw [31] (fun iv wq => ∃ j : Nat, j ≤ 8 ∧ iv = .int .i64 (j : Int) ∧ Mod (fun k => k = G) w3 wq ∧ wq.heap[G]? = some (.cells (encB (lenTo Z 64 (n0 * 8) j)) 5 (0,0))) (fun iv _ => 8 - (intOf iv).toNat)
        case atStart => exact ⟨0, by omega, rfl, Mod.refl _ _, z3'.out⟩
        case round =>
          obtain ⟨j, hj, rfl, mj, zj⟩ := hrel
          by_cases hlt : j < 8
          · have czj : wr.cell? ⟨G, 64 - 1 - j, none⟩ = some _ := encB_cell zj (i := 64 - 1 - j) (by rw [lenTo_length, hZl.out]; omega)
            have fzj := frozen_of_row wr G (64 - 1 - j) _ _ zj
            have hset := row_set zj (64 - 1 - j) (BitVec.ofNat 8 (n0 * 8 / 256 ^ j))
            have hms := mj.trans (Mod.one_setCell wr G (64 - 1 - j) (.int .u8 ((BitVec.ofNat 8 (n0 * 8 / 256 ^ j)).toNat : Int)))
            replace hset := Lib.hid hset
            replace hms := Lib.hid hms
            replace mj := Lib.hid mj
            replace zj := Lib.hid zj
            have hj8 : j = 0 ∨ j = 1 ∨ j = 2 ∨ j = 3 ∨ j = 4 ∨ j = 5 ∨ j = 6 ∨ j = 7 := by omega
            rcases hj8 with rfl | rfl | rfl | rfl | rfl | rfl | rfl | rfl
            · have hv : ((n0 : Int) * 8 % 256 : Int) = ((BitVec.ofNat 8 (n0 * 8 / 256 ^ 0)).toNat : Int) := by
                rw [BitVec.toNat_ofNat]
                omega
              replace hv := Lib.hid hv
              go_wp2
              go_roundw
              case measure => simp [intOf]
              case rel =>
                rw [hv.out]
                exact ⟨1, by omega, rfl, hms.out, hset.out⟩
            · have hv : ((n0 : Int) * 8 / 256 % 256 : Int) = ((BitVec.ofNat 8 (n0 * 8 / 256 ^ 1)).toNat : Int) := by
                rw [BitVec.toNat_ofNat]
                omega
              replace hv := Lib.hid hv
              go_wp2
              go_roundw
              case measure => simp [intOf]
              case rel =>
                rw [hv.out]
                exact ⟨2, by omega, rfl, hms.out, hset.out⟩
            · have hv : ((n0 : Int) * 8 / 65536 : Int) = ((BitVec.ofNat 8 (n0 * 8 / 256 ^ 2)).toNat : Int) := by
                rw [BitVec.toNat_ofNat]
                omega
              replace hv := Lib.hid hv
              go_wp2
              go_roundw
              case measure => simp [intOf]
              case rel =>
                rw [hv.out]
                exact ⟨3, by omega, rfl, hms.out, hset.out⟩
            · have hv : ((n0 : Int) * 8 / 16777216 : Int) = ((BitVec.ofNat 8 (n0 * 8 / 256 ^ 3)).toNat : Int) := by
                rw [BitVec.toNat_ofNat]
                omega
              replace hv := Lib.hid hv
              go_wp2
              go_roundw
              case measure => simp [intOf]
              case rel =>
                rw [hv.out]
                exact ⟨4, by omega, rfl, hms.out, hset.out⟩
            · have hv : ((n0 : Int) * 8 / 4294967296 : Int) = ((BitVec.ofNat 8 (n0 * 8 / 256 ^ 4)).toNat : Int) := by
                rw [BitVec.toNat_ofNat]
                omega
              replace hv := Lib.hid hv
              go_wp2
              go_roundw
              case measure => simp [intOf]
              case rel =>
                rw [hv.out]
                exact ⟨5, by omega, rfl, hms.out, hset.out⟩
            · have hv : ((n0 : Int) * 8 / 1099511627776 : Int) = ((BitVec.ofNat 8 (n0 * 8 / 256 ^ 5)).toNat : Int) := by
                rw [BitVec.toNat_ofNat]
                omega
              replace hv := Lib.hid hv
              go_wp2
              go_roundw
              case measure => simp [intOf]
              case rel =>
                rw [hv.out]
                exact ⟨6, by omega, rfl, hms.out, hset.out⟩
            · have hv : ((n0 : Int) * 8 / 281474976710656 : Int) = ((BitVec.ofNat 8 (n0 * 8 / 256 ^ 6)).toNat : Int) := by
                rw [BitVec.toNat_ofNat]
                omega
              replace hv := Lib.hid hv
              go_wp2
              go_roundw
              case measure => simp [intOf]
              case rel =>
                rw [hv.out]
                exact ⟨7, by omega, rfl, hms.out, hset.out⟩
            · have hv : ((n0 : Int) * 8 / 72057594037927936 : Int) = ((BitVec.ofNat 8 (n0 * 8 / 256 ^ 7)).toNat : Int) := by
                rw [BitVec.toNat_ofNat]
                omega
              replace hv := Lib.hid hv
              go_wp2
              go_roundw
              case measure => simp [intOf]
              case rel =>
                rw [hv.out]
                exact ⟨8, by omega, rfl, hms.out, hset.out⟩
          · have hj8 : j = 8 := by omega
            have hd8 : decide ((j : Int) < 8) = false := by rw [decide_eq_false_iff_not]; omega
            rw [hj8] at zj
            obtain ⟨w5, hw5⟩ : ∃ w5, w5 = wr := ⟨_, rfl⟩
            rw [← hw5] at mj zj ⊢
            obtain ⟨J5, l5, m5⟩ := hfin.out w5 mj
            have b5 := ByteAt.part (off := 0) (n := 64) (cap := 128) zj (by rw [lenTo_length, hZl.out]; omega) (by omega)
            rw [List.drop_zero, hdone.out] at b5
            have off5 : OffB S (.slice (some ⟨G, 0, none⟩) 64 128) := by
              intro g off n cap h _
              injection h with h
              injection h with h
              injection h with h
              rw [← h]
              exact hGS.out
            replace hw5 := Lib.hid hw5
            replace J5 := Lib.hid J5
            replace l5 := Lib.hid l5
            replace m5 := Lib.hid m5
            replace b5 := Lib.hid b5
            replace off5 := Lib.hid off5
            replace hj8 := Lib.hid hj8
            clear mj zj hj hlt
            go_wp2
            go_loopg [4] 64 (fun m sv wr => ∃ j ad cap, 64 * j + m = 64 ∧ sv = .slice ad m cap ∧ J (i + j) wr ∧ wr.heap[l]? = some (.loop rec) ∧ ByteAt wr (.slice ad m cap) ((tailB rest n0).drop (64 * j)) ∧ OffB S (.slice ad m cap) ∧ Mod (fun k => S k ∨ k = X) W0 wr)
            case atStart => exact ⟨0, _, _, by omega, rfl, J5.out, l5.out, b5.out, off5.out, m5.out⟩
            case round =>
              obtain ⟨j2, ad2, cap2, hj2, rfl, jr, lr, br, offr, mr⟩ := hrel
              have hcap2 := br.cap.2
              have bm2 : (gk : Int) ≤ 128 := by omega
              have bm20 : (0 : Int) ≤ (gk : Int) := by omega
              by_cases hm : 0 < gk
              · have hdm : decide ((0 : Int) < (gk : Int)) = true := by rw [decide_eq_true_iff]; omega
                have hm64 : 64 ≤ gk := by omega
                obtain ⟨g, off, rfl, hgl, _⟩ : ∃ g off, ad2 = some ⟨g, off, none⟩ ∧ g < wr.heap.size ∧ True := by
                  obtain ⟨ad', cap', h1, h2⟩ := br.slice
                  obtain ⟨g, off, h3, h4, _⟩ := h2 0 (by rw [List.length_drop, htl.out]; omega)
                  injection h1 with h1
                  exact ⟨g, off, by rw [h1]; exact h3, h4, trivial⟩
                have hcutA := fun w' => run_cutTo (ad := some ⟨g, off, none⟩) (n := gk) (cap := cap2) (h := 64) (by omega) hcap2 w'
                have hcutB := fun w' => run_cutFrom (ad := some ⟨g, off, none⟩) (n := gk) (cap := cap2) (l := 64) hm64 hcap2 w'
                have bA := br.sliced 0 64 (Nat.zero_le _) hm64
                have bB := br.sliced 64 gk hm64 (Nat.le_refl _)
                rw [List.drop_zero, Nat.sub_zero, ← hbl1.out] at bA
                rw [List.drop_drop, List.take_of_length_le (by rw [List.length_drop, htl.out]; omega), show 64 * j2 + 64 = 64 * (j2 + 1) by omega] at bB
                have offB := offr.sliced 64 gk (Nat.le_refl _)
                have hiN : i + j2 < nbS b := by rw [hnb.out]; omega
                obtain ⟨vA, hvA⟩ : ∃ vA, vA = sliced (some ⟨g, off, none⟩) 0 64 cap2 1 := ⟨_, rfl⟩
                rw [← hvA] at bA
                simp only [← hvA] at hcutA
                have hcutA' : ∀ w', (Instr.slice 22 (.slice (some ⟨g, off, none⟩) gk cap2) none (some (.int .i64 64)) none).run Tryz.prog w' = .ok vA w' := hcutA
                obtain ⟨adB, capB, hvB, _⟩ := bB.slice
                have hlenB : ((tailB rest n0).drop (64 * (j2 + 1))).length = gk - 64 := by rw [List.length_drop, htl.out]; omega
                rw [hlenB] at hvB
                rw [hvB] at bB offB
                simp only [hvB] at hcutB
                have hcutB' : ∀ w', (Instr.slice 22 (.slice (some ⟨g, off, none⟩) gk cap2) (some (.int .i64 64)) none none).run Tryz.prog w' = .ok (.slice adB (gk - 64) capB) w' := hcutB
                have hr := hround.out (i + j2) wr vA hiN jr lr bA
                replace hr := Lib.hid hr
                replace jr := Lib.hid jr
                replace mr := Lib.hid mr
                replace br := Lib.hid br
                replace bB := Lib.hid bB
                replace offB := Lib.hid offB
                replace hj2 := Lib.hid hj2
                replace hvA := Lib.hid hvA
                replace hvB := Lib.hid hvB
                replace hm := Lib.hid hm
                replace hm64 := Lib.hid hm64
                clear hcutA hcutB bA hlenB
                go_upto_region 15 with (fail)
                refine (wpIn_wide (n := 1)).1 (wpIn_region_lit ?_)
                gi_wp2_with (refine wpListIn_yield rfl _ _ _ rfl rfl rec T lr hT.out ?_)
                refine hr.out.mono ?_
                rintro e W' ⟨rfl, jr', lr', m'⟩
                refine ⟨_, rfl, ?_⟩
                have bB' := bB.out.keep (w' := W') m' offB.out
                have m0' : Mod (fun k => S k ∨ k = X) W0 W' := mr.out.trans' m' (fun k _ h => .inl h)
                replace jr' := Lib.hid jr'
                replace lr' := Lib.hid lr'
                replace bB' := Lib.hid bB'
                replace m0' := Lib.hid m0'
                clear hr jr mr br bB m' lr
                gi_wp2
                go_wp2
                go_roundg (gk - 64)
                case measure => have := hm64.out; omega
                case rel => exact ⟨j2 + 1, adB, capB, by have := hj2.out; have := hm64.out; omega, by go_num, jr'.out, lr'.out, bB'.out, offB.out, m0'.out⟩
              · obtain rfl : gk = 0 := by omega
                have hj2e : i + j2 = nbS b := by rw [hnb.out]; omega
                rw [hj2e] at jr
                replace jr := Lib.hid jr
                replace lr := Lib.hid lr
                replace mr := Lib.hid mr
                clear br offr
                go_wp2
                go_end0
                exact ⟨rfl, jr.out, lr.out, mr.out⟩
end Go.Proofs.YtppjnkgmbmhlcaaGreatDoor
