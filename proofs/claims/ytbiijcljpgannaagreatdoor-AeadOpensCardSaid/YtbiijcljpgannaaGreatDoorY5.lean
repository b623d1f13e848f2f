/-
  slices.Chunk of bytes, sixteen by sixteen. Printed by gen/po5.py.
-/
import Derived.OneCell
import Derived.Lib.MinMax
import Derived.Deep.LoopGhost
import Derived.Test.YtbiijcljpgannaaGreatDoorYz
import Derived.Test.YtbiijcljpgannaaGreatDoorY4
namespace Go.Proofs.YtbiijcljpgannaaGreatDoor
set_option maxRecDepth 100000
open Go Go.RowKit Go.Lib
set_option linter.unusedSimpArgs false
set_option linter.unusedVariables false

def chunkB (b : List (BitVec 8)) (k : Nat) : List (BitVec 8) := (b.drop (16 * k)).take 16
def nch (b : List (BitVec 8)) : Nat := (b.length + 15) / 16
theorem chunkB_length (b : List (BitVec 8)) (k : Nat) : (chunkB b k).length = min 16 (b.length - 16 * k) := by unfold chunkB; rw [List.length_take, List.length_drop]
/-- A slice's block is none of these. -/
def OffC (S : Nat → Prop) (v : Value) : Prop := ∀ g off n cap, v = .slice (some ⟨g, off, none⟩) n cap → 0 < n → ¬ S g
theorem ByteAt.keepC {S : Nat → Prop} {w w' : World} {v : Value} {bs : List (BitVec 8)} (h : ByteAt w v bs) (m : Mod S w w') (hS : OffC S v) : ByteAt w' v bs := by
  rcases h with h | ⟨g, off, cap, rfl, h2, h3⟩
  · exact .inl h
  · exact .inr ⟨g, off, cap, rfl, h2, fun j hj => cell_mod m (h3 j hj) (hS g off _ cap rfl (by omega))⟩
theorem ld_slC {w : World} {g n cap : Nat} {ad : Option Addr} (h : w.cell? ⟨g, 0, none⟩ = some (.slice ad n cap)) : (loadVar 22 ⟨g, 0, none⟩).run Tryz.prog w = .ok (.slice ad n cap) w := by go_simp
theorem ld_intC {w : World} {g : Nat} {n : Int} (h : w.cell? ⟨g, 0, none⟩ = some (.int .i64 n)) : (loadVar 3 ⟨g, 0, none⟩).run Tryz.prog w = .ok (.int .i64 n) w := by go_simp
theorem size_u8C (w : World) : (sizeOf (Tryz.prog.elem 22)).run Tryz.prog w = .ok 1 w := by kernel_rfl
theorem cut_lhm {ad : Option Addr} {n cap l h : Nat} (h1 : l ≤ h) (h2 : h ≤ cap) (w' : World) : (Instr.slice 22 (.slice ad n cap) (some (.int .i64 (l : Int))) (some (.int .i64 (h : Int))) (some (.int .i64 (h : Int)))).run Tryz.prog w' = .ok (sliced ad l h h 1) w' := by
  rw [run_slice_lhm w' 22 ad n cap Tryz.underlying22 .i64 .i64 .i64 _ _ _ (by omega) (by omega) (by omega) (by omega), size_u8C]
  rfl
theorem cut_l {ad : Option Addr} {n cap l : Nat} (h2 : l ≤ n) (h3 : n ≤ cap) (w' : World) : (Instr.slice 22 (.slice ad n cap) (some (.int .i64 (l : Int))) none none).run Tryz.prog w' = .ok (sliced ad l n cap 1) w' := by
  rw [run_slice_l w' 22 ad n cap Tryz.underlying22 .i64 _ (by omega) (by omega), size_u8C]
  rfl
set_option maxRecDepth 100000 in
theorem chunk_make (v : Value) (w : World) (hv : ∃ ad n cap, v = .slice ad n cap) :
    Calls Tryz.prog 122 #[v, .int .i64 16] w fun e w' => Mod (fun _ => False) w w' ∧ e = .returned (.func (.func 130) #[] #[.pointer (some ⟨w.heap.size, 0, none⟩), .pointer (some ⟨w.heap.size + 1, 0, none⟩)]) ∧
      w'.heap[w.heap.size]? = some (.cells #[v] 22 (0,0)) ∧ w'.heap[w.heap.size + 1]? = some (.cells #[.int .i64 16] 3 (0,0)) := by
  have hmf : ∀ (fn : Fn) (first cap : Array Value) (w : World), (Instr.makeFunc fn first cap).run Tryz.prog w = .ok (.func fn first cap) w := fun _ _ _ _ => rfl
  obtain ⟨ad, n, cap, rfl⟩ := hv
  go_enter Tryz.func122, Tryz.ntmps122
  go_wp2
  go_ret
  refine ⟨((Mod.refl _ w).alloc _).alloc _, by simp, ?_, ?_⟩
  rw [hp_old _ _ _ (by simp only [World.size_alloc]; omega), hp_new _ _ _ (by simp)]
  · refine hp_new _ _ _ (by simp)

set_option maxRecDepth 100000 in
set_option maxHeartbeats 4000000 in
theorem chunk_iter (l X N T : Nat) (b : List (BitVec 8)) (hbl : b.length ≤ 140737488351232) (rec : Loop) (S : Nat → Prop) (J : Nat → World → Prop) (W0 : World) (v0 : Value)
    (hT : rec.params = #[T]) (hSX : ¬ S X) (hSN : ¬ S N)
    (hJ : ∀ i W W', J i W → Mod (fun _ => False) W W' → J i W')
    (hround : ∀ i W v, i < nch b → J i W → W.heap[l]? = some (.loop rec) → ByteAt W v (chunkB b i) → RoundIn Fence.wide 0 Tryz.prog l rec.fn (rec.tmps.setIfInBounds T v) rec.assign rec.body W fun e W' =>
      e = .returned (.bool true) ∧ J (i + 1) W' ∧ W'.heap[l]? = some (.loop rec) ∧ Mod S W W')
    (h0 : J 0 W0) (hl : W0.heap[l]? = some (.loop rec)) (hX : W0.heap[X]? = some (.cells #[v0] 22 (0,0))) (hN : W0.heap[N]? = some (.cells #[.int .i64 16] 3 (0,0))) (hb : ByteAt W0 v0 b) (hoff : OffC S v0) :
    Calls Tryz.prog 130 #[.func (.yield l) #[] #[], .pointer (some ⟨X, 0, none⟩), .pointer (some ⟨N, 0, none⟩)] W0 fun e W' => e = .returned (.tuple #[]) ∧ J (nch b) W' ∧ W'.heap[l]? = some (.loop rec) ∧ Mod S W0 W' := by
  obtain ⟨ad, cap, rfl, hbc⟩ := hb.slice
  obtain ⟨n, hn⟩ : ∃ n0, n0 = b.length := ⟨_, rfl⟩
  obtain ⟨c, hc⟩ : ∃ c, c = nch b := ⟨_, rfl⟩
  have hcn : c = (n + 15) / 16 := by rw [hc, hn]; rfl
  rw [← hn] at hX hb hoff hbl
  have hcap : n ≤ cap := hb.cap.2
  rw [← hc] at hround ⊢
  have bn0 : (0 : Int) ≤ (n : Int) := by omega
  replace hT := Lib.hid hT
  replace hJ := Lib.hid hJ
  replace hround := Lib.hid hround
  replace hl := Lib.hid hl
  replace hX := Lib.hid hX
  replace hN := Lib.hid hN
  replace hb := Lib.hid hb
  replace h0 := Lib.hid h0
  replace hoff := Lib.hid hoff
  replace hn := Lib.hid hn
  replace hc := Lib.hid hc
  replace hcn := Lib.hid hcn
  replace hSX := Lib.hid hSX
  replace hSN := Lib.hid hSN
  replace hbc := Lib.hid hbc
  go_enter Tryz.func130, Tryz.ntmps130
  go_wp2
  go_loopg [4] c (fun gh iv wr => ∃ k : Nat, k + gh = c ∧ iv = .int .i64 ((16 * k : Nat) : Int) ∧ J k wr ∧ wr.heap[l]? = some (.loop rec) ∧ Mod S W0 wr)
  case atStart => exact ⟨0, by omega, rfl, h0.out, hl.out, Mod.refl _ _⟩
  case round =>
    obtain ⟨k, hkg, rfl, jr, lr, mr⟩ := hrel
    obtain ⟨i, hi⟩ : ∃ i, i = 16 * k := ⟨_, rfl⟩
    rw [← hi]
    have bi0 : (0 : Int) ≤ (i : Int) := by omega
    have xr := mr.heap hX.out (fun h => hSX.out h)
    have nr := mr.heap hN.out (fun h => hSN.out h)
    have br := hb.out.keepC mr hoff.out
    have cX := cell_of_one xr
    have cN := cell_of_one nr
    by_cases hlt : i < n
    · have hkc : k < c := by have := hcn.out; omega
      obtain ⟨g, off, had, _, _⟩ := hbc.out 0 (by rw [← hn.out]; omega)
      subst had
      obtain ⟨e, he⟩ : ∃ e, e = min 16 (n - i) := ⟨_, rfl⟩
      obtain ⟨q, hq⟩ : ∃ q, q = i + e := ⟨_, rfl⟩
      have he1 : 1 ≤ e := by omega
      have hei : (i : Int) + (e : Int) = (q : Int) := by omega
      have hwq : IntKind.i64.wrap (q : Int) = (q : Int) := by rw [IntKind.wrap_i64]; omega
      have bq0 : (0 : Int) ≤ (q : Int) := by omega
      have be0 : (0 : Int) ≤ (e : Int) := by omega
      have hcutL := fun w' => cut_l (ad := some ⟨g, off, none⟩) (n := n) (cap := cap) (l := i) (by omega) hcap w'
      have hcutM := fun w' => cut_lhm (ad := some ⟨g, off, none⟩) (n := n) (cap := cap) (l := i) (h := q) (by omega) (by omega) w'
      have hslL : ∃ a2, sliced (some ⟨g, off, none⟩) i n cap 1 = .slice a2 (n - i) (cap - i) := ⟨_, rfl⟩
      obtain ⟨a2, ha2⟩ := hslL
      rw [ha2] at hcutL
      have hM : sliced (some ⟨g, off, none⟩) i q q 1 = .slice (some ⟨g, off + i, none⟩) e e := by
        unfold sliced
        rw [if_neg (by omega)]
        simp [Addr.add, show q - i = e by omega]
      rw [hM] at hcutM
      have bA : ByteAt wr (.slice (some ⟨g, off + i, none⟩) e e) (chunkB b k) := by
        have hcl : (chunkB b k).length = e := by rw [chunkB_length, ← hn.out, he, hi]
        refine .inr ⟨g, off + i, e, by rw [hcl], by rw [hcl]; exact Nat.le_refl _, fun j hj => ?_⟩
        rw [hcl] at hj
        obtain ⟨ad', cap', e1, e2⟩ := br.slice
        injection e1 with e1
        obtain ⟨g', off', h3, _, h5⟩ := e2 (i + j) (by rw [← hn.out]; omega)
        rw [← e1] at h3
        injection h3 with h3
        injection h3 with h3 h4
        subst h3 h4
        rw [show off + i + j = off + (i + j) by omega, h5]
        congr 3
        unfold chunkB
        rw [List.getD_eq_getElem?_getD, List.getD_eq_getElem?_getD, List.getElem?_take_of_lt (by omega), List.getElem?_drop, ← hi]
      have hmin : min (16 : Int) ((n - i : Nat) : Int) = (e : Int) := by rw [he]; omega
      have hmod : Mod (fun _ => False) wr wr := Mod.refl _ _
      replace hkg := Lib.hid hkg
      replace hi := Lib.hid hi
      replace he := Lib.hid he
      replace hq := Lib.hid hq
      replace jr := Lib.hid jr
      replace lr := Lib.hid lr
      replace mr := Lib.hid mr
      replace br := Lib.hid br
      replace bA := Lib.hid bA
      replace xr := Lib.hid xr
      replace nr := Lib.hid nr
      replace ha2 := Lib.hid ha2
      replace hM := Lib.hid hM
      replace hkc := Lib.hid hkc
      go_upto_region 3 with (fail)
      obtain ⟨V, hV⟩ : ∃ V : World → Prop, V = fun w' => w'.cell? ⟨X, 0, none⟩ = some (.slice (some ⟨g, off, none⟩) n cap) ∧ w'.cell? ⟨N, 0, none⟩ = some (.int .i64 16) := ⟨_, rfl⟩
      have hVi : ∀ w' : World, V w' → w'.cell? ⟨X, 0, none⟩ = some (.slice (some ⟨g, off, none⟩) n cap) ∧ w'.cell? ⟨N, 0, none⟩ = some (.int .i64 16) := fun w' h => by rw [hV] at h; exact h
      obtain ⟨wq, hwq'⟩ : ∃ x, x = wr.drew := ⟨_, rfl⟩
      have mq : Mod (fun _ => False) wr wq := by rw [hwq']; exact (Mod.refl _ _).drew
      have hVq : V wq := by rw [hV]; exact ⟨cell_of_one (mq.heap xr.out (fun h => h)), cell_of_one (mq.heap nr.out (fun h => h))⟩
      have jq := hJ.out _ _ _ jr.out mq
      have lq := mq.heap lr.out (fun h => h)
      have bq := bA.out.mod mq (fun _ _ h => h)
      have mq0 := mr.out.trans (mq.mono (S' := S) (fun _ _ h => h.elim))
      have hr := hround.out k wq _ hkc.out jq lq bq
      have cXq := cell_of_one (mq.heap xr.out (fun h => h))
      replace hV := Lib.hid hV
      replace mq := Lib.hid mq
      replace jq := Lib.hid jq
      replace lq := Lib.hid lq
      replace bq := Lib.hid bq
      replace mq0 := Lib.hid mq0
      replace hr := Lib.hid hr
      clear cX cN
      refine wp_region_any (by kernel_rfl) (any_of_Z (S := V) (z := 99) _ _ _ _ ?_)
      change anyZ _ _ _ _ _ _ _ _ _ wr.drew
      rw [← hwq']
      replace hwq' := Lib.hid hwq'
      simp only [List.size_toArray, List.length_cons, List.length_nil, Nat.reduceAdd, Array.replicate_succ, Array.replicate_zero, List.push_toArray, List.nil_append, List.cons_append]
      refine anyZ_take 0 _ (some 13) (.int .i64 16) rfl (by kernel_rfl) (by kernel_rfl) (by kernel_rfl) (by kernel_rfl) (by kernel_rfl) (by decide) rfl (fun w' hS => ?_) hVq ?_
      · exact run_load_op rfl rfl (ld_intC (hVi _ hS).2)
      simp only [Act.put, List.setIfInBounds_toArray, List.set_cons_zero, List.set_cons_succ]
      refine anyZ_take 1 _ (some 14) (.slice (some ⟨g, off, none⟩) n cap) rfl (by kernel_rfl) (by kernel_rfl) (by kernel_rfl) (by kernel_rfl) (by kernel_rfl) (by decide) rfl (fun w' hS => ?_) hVq ?_
      · exact run_load_op rfl rfl (ld_slC (hVi _ hS).1)
      simp only [Act.put, List.setIfInBounds_toArray, List.set_cons_zero, List.set_cons_succ]
      refine anyZ_take 2 _ (some 15) (.int .i64 (i : Int)) rfl (by kernel_rfl) (by kernel_rfl) (by kernel_rfl) (by kernel_rfl) (by kernel_rfl) (by decide) rfl (fun w' hS => ?_) hVq ?_
      · go_simp
      simp only [Act.put, List.setIfInBounds_toArray, List.set_cons_zero, List.set_cons_succ]
      refine anyZ_take 3 _ (some 16) (.slice a2 (n - i) (cap - i)) rfl (by kernel_rfl) (by kernel_rfl) (by kernel_rfl) (by kernel_rfl) (by kernel_rfl) (by decide) rfl (fun w' hS => ?_) hVq ?_
      · have h1 := hcutL w'; go_simp
      simp only [Act.put, List.setIfInBounds_toArray, List.set_cons_zero, List.set_cons_succ]
      refine anyZ_take 4 _ (some 17) (.int .i64 ((n - i : Nat) : Int)) rfl (by kernel_rfl) (by kernel_rfl) (by kernel_rfl) (by kernel_rfl) (by kernel_rfl) (by decide) rfl (fun w' hS => ?_) hVq ?_
      · go_simp
      simp only [Act.put, List.setIfInBounds_toArray, List.set_cons_zero, List.set_cons_succ]
      refine anyZ_take 5 _ (some 18) (.int .i64 (e : Int)) rfl (by kernel_rfl) (by kernel_rfl) (by kernel_rfl) (by kernel_rfl) (by kernel_rfl) (by decide) rfl (fun w' hS => ?_) hVq ?_
      · have h1 := hmin; go_simp
      simp only [Act.put, List.setIfInBounds_toArray, List.set_cons_zero, List.set_cons_succ]
      refine anyZ_take 6 _ (some 5) (.int .i64 (e : Int)) rfl (by kernel_rfl) (by kernel_rfl) (by kernel_rfl) (by kernel_rfl) (by kernel_rfl) (by decide) rfl (fun w' hS => ?_) hVq ?_
      · go_simp
      simp only [Act.put, List.setIfInBounds_toArray, List.set_cons_zero, List.set_cons_succ]
      refine anyZ_done (by kernel_rfl) ?_ _
      clear hVi hVq hcutL hmin
      go_upto_region 4 with (fail)
      refine (wpIn_wide (n := 1)).1 (wpIn_region_lit ?_)
      gi_wp2_with (refine wpListIn_yield rfl _ _ _ rfl rfl rec T lq.out hT.out ?_)
      refine hr.out.mono ?_
      rintro e' W' ⟨rfl, jr', lr', m'⟩
      refine ⟨_, rfl, ?_⟩
      have m0' := mq0.out.trans m'
      have xr' := m'.heap (mq.out.heap xr.out (fun h => h)) (fun h => hSX.out h)
      have nr' := m'.heap (mq.out.heap nr.out (fun h => h)) (fun h => hSN.out h)
      have cN' := cell_of_one nr'
      have hni : (i : Int) + 16 = ((16 * (k + 1) : Nat) : Int) := by have := hi.out; omega
      have hwn : IntKind.i64.wrap ((16 * (k + 1) : Nat) : Int) = ((16 * (k + 1) : Nat) : Int) := by rw [IntKind.wrap_i64]; have := hi.out; omega
      replace m0' := Lib.hid m0'
      replace jr' := Lib.hid jr'
      replace lr' := Lib.hid lr'
      clear hr m' xr' nr' cXq hcutM
      gi_wp2
      go_wp2
      go_roundg (gk - 1)
      case measure => have := hkg.out; have := hkc.out; omega
      case rel => exact ⟨k + 1, by have := hkg.out; have := hkc.out; omega, by have := hi.out; congr 1 <;> omega, jr'.out, lr'.out, m0'.out⟩
    · have hkc : k = c := by have := hcn.out; omega
      rw [hkc] at jr
      replace jr := Lib.hid jr
      replace lr := Lib.hid lr
      replace mr := Lib.hid mr
      have hvis : ¬ i < n := hlt
      clear xr nr br hi
      go_wp2
      go_end0
      exact ⟨rfl, jr.out, lr.out, mr.out⟩
end Go.Proofs.YtbiijcljpgannaaGreatDoor
