/-
  slices.Clone of bytes; keys.label, all, Of, Next. Printed by gen/kn2.py.
-/
import Derived.Test.YtppjnkgmbmhlcaaGreatDoorMA
import Derived.Test.YtppjnkgmbmhlcaaGreatDoorN1
namespace Go.Proofs.YtppjnkgmbmhlcaaGreatDoor
set_option maxRecDepth 100000
open Go Go.RowKit Go.Lib
set_option linter.unusedSimpArgs false
set_option linter.unusedVariables false

theorem clip_now (a : Option Addr) (n c : Nat) (hc : n ≤ c) (w : World) : Calls Tryz.prog 24 #[.slice a n c] w fun e w' => e = .returned (.slice a n n) ∧ w' = w := by
  have bn : (n : Int) ≤ (c : Int) := by omega
  have bn0 : (0 : Int) ≤ (n : Int) := by omega
  go_enter Tryz.func24, Tryz.ntmps24
  go_wp2
  go_ret
  exact ⟨rfl, rfl⟩
set_option maxRecDepth 100000 in
set_option maxHeartbeats 4000000 in
theorem clone_any (a : Addr) (n c : Nat) (bs : List (BitVec 8)) (hbl : bs.length = n) (w : World) (hb : ByteAt w (.slice (some a) n c) bs) (h0 : 0 < n) (hl : n ≤ 140737488351232) :
    Calls Tryz.prog 25 #[.slice (some a) n c] w fun e w' => Mod (fun _ => False) w w' ∧ ∃ v, e = .returned v ∧ w'.ownsRow w.heap.size 5 1 v n (bytesV bs) := by
  obtain ⟨w1, hw1⟩ : ∃ x, x = w.alloc (.cells #[] 5) := ⟨_, rfl⟩
  obtain ⟨g1, hg1⟩ : ∃ g, g = w.heap.size := ⟨_, rfl⟩
  have m1 : Mod (fun _ => False) w w1 := by rw [hw1]; exact (Mod.refl _ _).alloc _
  have own1 : w1.ownsRow w.heap.size 5 1 (.slice (some ⟨g1, 0, none⟩) 0 0) 0 (bytesV []) := by
    rw [hw1, hg1]
    exact World.ownsRow_lit w #[] 0 (Nat.le_refl _) (by decide) rfl
  have hb1 := hb.mod m1 (fun _ _ h => h)
  obtain ⟨v2, w2, hr2, own2, gr2⟩ := run_append_bytes own1 hb1 (by omega) m1.size 22
  have m2 : Mod (fun _ => False) w w2 := m1.trans' ((Mod.refl _ _).grown (S := fun x => (Value.slice (some ⟨g1, 0, none⟩) 0 0).ownBlock = some x) gr2 (fun x hx _ => hx)) (fun x hx h => by have := (own1.lt x h).1; omega)
  rw [List.nil_append, Nat.zero_add, hbl] at own2
  replace hw1 := Lib.hid hw1
  replace hg1 := Lib.hid hg1
  replace own2 := Lib.hid own2
  replace m2 := Lib.hid m2
  clear m1 own1 hb1 gr2 hb hbl
  have hne : (binOp .eql 22 (.slice (some a) n c) (.slice none 0 0)).run Tryz.prog w = .ok (.bool false) w := by kernel_rfl
  go_enter Tryz.func25, Tryz.ntmps25
  go_upto_region 3 with (fail)
  refine wp_region_lit ?_
  refine wpList_yields (by kernel_rfl) (.slice (some ⟨g1, 0, none⟩) 0 0) w1 (by rw [hw1.out, hg1.out]; go_simp) ?_
  simp only [Act.put, List.setIfInBounds_toArray, List.set_cons_zero, List.set_cons_succ]
  refine wpList_reads (by kernel_rfl) (.slice (some a) n c) (by go_simp) ?_
  simp only [Act.put, List.setIfInBounds_toArray, List.set_cons_zero, List.set_cons_succ]
  refine wpList_yields (by kernel_rfl) v2 w2 (run_append_op2n rfl rfl rfl hr2) ?_
  simp only [Act.put, List.setIfInBounds_toArray, List.set_cons_zero, List.set_cons_succ]
  refine wpList_reads (by kernel_rfl) (v2) (by go_simp) ?_
  simp only [Act.put, List.setIfInBounds_toArray, List.set_cons_zero, List.set_cons_succ]
  go_wp2
  go_ret
  exact ⟨m2.out, _, rfl, own2.out⟩

theorem ld_ptr {w : World} {g off : Nat} {a : Addr} (hc : w.cell? ⟨g, off, none⟩ = some (.pointer (some a))) : (loadVar 68 ⟨g, off, none⟩).run Tryz.prog w = .ok (.pointer (some a)) w := by go_simp
theorem ld_str {w : World} {g off : Nat} {s : ByteArray} (hc : w.cell? ⟨g, off, none⟩ = some (.string s)) : (loadVar 9 ⟨g, off, none⟩).run Tryz.prog w = .ok (.string s) w := by go_simp
theorem ld_int {w : World} {g off : Nat} {n : Int} (hc : w.cell? ⟨g, off, none⟩ = some (.int .i64 n)) : (loadVar 3 ⟨g, off, none⟩).run Tryz.prog w = .ok (.int .i64 n) w := by go_simp
theorem byteAt_nil1 (w : World) : ByteAt w (.slice none 0 0) [] := .inl ⟨_, _, rfl, rfl⟩
set_option maxRecDepth 100000 in
set_option maxHeartbeats 4000000 in
theorem klabel_any (vk : Value) (s : ByteArray) (k : List (BitVec 8)) (n : Nat) (w : World) (hk : ByteAt w vk k) (hkl : k.length ≤ 1048576) (hsl : s.size ≤ 249) (hn : n ≤ 8160) :
    Calls Tryz.prog 68 #[vk, .string s, .int .i64 (n : Int)] w fun e w' => Mod (fun _ => False) w w' ∧ ∃ v, e = .returned v ∧ w'.ownsRow w.heap.size 5 1 v n (bytesV (expandB (keyS k) (labelI s [] n) n)) := by
  obtain ⟨ak, ck, rfl, _⟩ := hk.slice
  obtain ⟨m, hm⟩ : ∃ m, m = k.length := ⟨_, rfl⟩
  rw [← hm] at hk hkl ⊢
  replace hm := Lib.hid hm
  replace hk := Lib.hid hk
  replace hsl := Lib.hid hsl
  replace hn := Lib.hid hn
  go_enter Tryz.func68, Tryz.ntmps68
  go_upto_region 1 with (fail)
  refine wp_region_lit ?_
  refine wpList_reads (by kernel_rfl) (.slice ak m ck) (by go_simp) ?_
  simp only [Act.put, List.setIfInBounds_toArray, List.set_cons_zero, List.set_cons_succ]
  refine wpList_reads (by kernel_rfl) (.string s) (by go_simp) ?_
  simp only [Act.put, List.setIfInBounds_toArray, List.set_cons_zero, List.set_cons_succ]
  refine wpList_reads (by kernel_rfl) (.int .i64 (n : Int)) (by go_simp) ?_
  simp only [Act.put, List.setIfInBounds_toArray, List.set_cons_zero, List.set_cons_succ]
  refine wpList_enter (by kernel_rfl) 104 #[.slice ak m ck, .string s, .slice none 0 0, .int .i64 (n : Int)] (by go_simp) (label_any _ _ s k [] (n : Int) w hk.out (byteAt_nil1 _) (by rw [← hm.out]; omega) (by simp) (by have := hsl.out; omega) (by omega) (by have := hn.out; omega)) ?_
  rintro e w1 ⟨m1, h1⟩
  rw [if_neg (by have := hsl.out; have := hn.out; simp only [List.length_nil]; omega)] at h1
  obtain ⟨v1, rfl, own1⟩ := h1
  rw [show ((n : Int)).toNat = n from by omega] at own1
  replace own1 := Lib.hid own1
  replace m1 := Lib.hid m1
  refine ⟨_, rfl, ?_⟩
  simp only [Act.put, List.setIfInBounds_toArray, List.set_cons_zero, List.set_cons_succ]
  refine wpList_reads (by kernel_rfl) (.tuple #[v1, .int .i64 0]) (by go_simp) ?_
  simp only [Act.put, List.setIfInBounds_toArray, List.set_cons_zero, List.set_cons_succ]
  refine wpList_reads (by kernel_rfl) (v1) (by go_simp) ?_
  simp only [Act.put, List.setIfInBounds_toArray, List.set_cons_zero, List.set_cons_succ]
  refine wpList_reads (by kernel_rfl) (.int .i64 0) (by go_simp) ?_
  simp only [Act.put, List.setIfInBounds_toArray, List.set_cons_zero, List.set_cons_succ]
  refine wpList_reads (by kernel_rfl) (v1) (by go_simp) ?_
  simp only [Act.put, List.setIfInBounds_toArray, List.set_cons_zero, List.set_cons_succ]
  refine wpList_reads (by kernel_rfl) (.int .i64 0) (by go_simp) ?_
  simp only [Act.put, List.setIfInBounds_toArray, List.set_cons_zero, List.set_cons_succ]
  go_wp2
  go_ret
  exact ⟨m1.out, v1, rfl, own1.out⟩

def nameK (i : Nat) : ByteArray := if i = 0 then { data := #[107, 101, 121] } else if i = 1 then { data := #[105, 118] } else { data := #[104, 112] }
def lenK (i : Nat) : Nat := if i = 1 then 12 else 32
def quicS : ByteArray := { data := #[113, 117, 105, 99, 32] }
def keyB (k : List (BitVec 8)) (i : Nat) : List (BitVec 8) := expandB (keyS k) (labelI (quicS ++ nameK i) [] (lenK i)) (lenK i)
theorem keyB_length (k : List (BitVec 8)) (i : Nat) : (keyB k i).length = lenK i := expandB_length _ _ _
def wantC : List Value := [.string (nameK 0), .int .i64 32, .string (nameK 1), .int .i64 12, .string (nameK 2), .int .i64 32]
theorem infoWant : (Tryz.prog.info? 71).map (·.size) = some 2 := by kernel_rfl
theorem want_load {w : World} {g : Nat} (h : w.heap[g]? = some (.cells wantC.toArray 71 (0,0))) (i : Nat) (hi : i < 3) :
    (loadVar 71 ⟨g, i * 2, none⟩).run Tryz.prog w = .ok (.agg #[.string (nameK i), .int .i64 (lenK i : Int)]) w := by
  have h3 : i = 0 ∨ i = 1 ∨ i = 2 := by omega
  rcases h3 with rfl | rfl | rfl
  · exact load_mid w g 0 _ _ [] [.string (nameK 0), .int .i64 32] [.string (nameK 1), .int .i64 12, .string (nameK 2), .int .i64 32] (0,0) _ h rfl Tryz.underlying71 rfl infoWant
  · exact load_mid w g 2 _ _ [.string (nameK 0), .int .i64 32] [.string (nameK 1), .int .i64 12] [.string (nameK 2), .int .i64 32] (0,0) _ h rfl Tryz.underlying71 rfl infoWant
  · exact load_mid w g 4 _ _ [.string (nameK 0), .int .i64 32, .string (nameK 1), .int .i64 12] [.string (nameK 2), .int .i64 32] [] (0,0) _ h rfl Tryz.underlying71 rfl infoWant
theorem zeroWant (w : World) : (zeroValue 71).run Tryz.prog w = .ok (.agg #[.string { data := #[] }, .int .i64 0]) w := by kernel_rfl
theorem alloc_want (w : World) (ev : Operand → Value) (o : Oper) (ho : o.op = .alloc 71) : (execOp ev o).run Tryz.prog w = .ok (.value (.pointer (some ⟨w.heap.size, 0, none⟩))) (w.alloc (.cells #[.string { data := #[] }, .int .i64 0] 71)) := by
  unfold execOp
  simp [ho, Instr.alloc, Sem.run_bind, zeroWant, newVar, newRow, Value.cells]
theorem want_store {w : World} {g : Nat} {x y : Value} (x1 : w.heap[g]? = some (.cells #[.string { data := #[] }, .int .i64 0] 71 (0,0))) (h1 : x.oneCell' = true) (h2 : y.oneCell' = true) :
    ∃ w', (storeVar 71 ⟨g, 0, none⟩ (.agg #[x, y])).run Tryz.prog w = .ok () w' ∧ Mod (fun k => k = g) w w' ∧ w'.heap[g]? = some (.cells #[x, y] 71 (0,0)) := by
  obtain ⟨w', h, h4, h5⟩ := store_mid (P := Tryz.prog) w g 0 71 71 [] [.string { data := #[] }, .int .i64 0] [] [x, y] (by rw [x1]; simp) rfl rfl infoWant (by intro v hv; simp at hv; rcases hv with rfl | rfl <;> assumption)
  exact ⟨w', h, h4, by rw [h5]; simp⟩
theorem nameK_size (i : Nat) : (quicS ++ nameK i).size ≤ 10 := by
  rw [ByteArray.size_append]
  unfold nameK
  split
  · decide
  · split <;> decide
theorem lenK_le (i : Nat) : lenK i ≤ 32 := by unfold lenK; split <;> decide
/-- Three lists of one's own, apart. -/
structure KeysAt (w : World) (base : Nat) (k : List (BitVec 8)) (vs : Nat → Value) (i : Nat) : Prop where
  own : ∀ j, j < i → w.ownsRow base 5 1 (vs j) (lenK j) (bytesV (keyB k j))
  apart : ∀ j l, j < i → l < i → j ≠ l → ∀ x, (vs j).ownBlock = some x → (vs l).ownBlock = some x → False
theorem KeysAt.keep {S : Nat → Prop} {w w' : World} {base i : Nat} {k : List (BitVec 8)} {vs : Nat → Value} (h : KeysAt w base k vs i) (m : Mod S w w') (hS : ∀ x, base ≤ x → ¬ S x) : KeysAt w' base k vs i :=
  ⟨fun j hj => ownsRow_block (h.own j hj) m (fun x hx => hS x (ownsRow_in (h.own j hj) hx).1), h.apart⟩
theorem KeysAt.add {w w' : World} {base i : Nat} {k : List (BitVec 8)} {vs : Nat → Value} {v : Value} (h : KeysAt w base k vs i) (m : Mod (fun _ => False) w w') (hb : base ≤ w.heap.size) (own : w'.ownsRow w.heap.size 5 1 v (lenK i) (bytesV (keyB k i))) : KeysAt w' base k (fun j => if j = i then v else vs j) (i + 1) := by
  refine ⟨fun j hj => ?_, fun j l hj hl hjl x hx hy => ?_⟩
  · by_cases e : j = i
    · subst e
      simp only [if_pos rfl]
      exact ownsRow_base0 own hb
    · simp only [if_neg e]
      exact ownsRow_keep0 (h.own j (by omega)) m
  · by_cases e : j = i
    · rw [if_pos e] at hx
      rw [if_neg (by omega)] at hy
      have h1 := (ownsRow_in own hx).1
      have h2 := (ownsRow_in (h.own l (by omega)) hy).2
      omega
    · rw [if_neg e] at hx
      have h2 := (ownsRow_in (h.own j (by omega)) hx).2
      by_cases e2 : l = i
      · rw [if_pos e2] at hy
        have h1 := (ownsRow_in own hy).1
        omega
      · rw [if_neg e2] at hy
        exact h.apart j l (by omega) (by omega) hjl x hx hy
def toC (G : Nat) : List Value := [.pointer (some ⟨G, 0, none⟩), .pointer (some ⟨G, 1, none⟩), .pointer (some ⟨G, 2, none⟩)]
theorem toC_get (G i : Nat) (hi : i < 3) : (toC G)[i]? = some (.pointer (some ⟨G, i, none⟩)) := by
  have h3 : i = 0 ∨ i = 1 ∨ i = 2 := by omega
  rcases h3 with rfl | rfl | rfl <;> rfl

set_option maxRecDepth 100000 in
set_option maxHeartbeats 4000000 in
theorem all_any (vk : Value) (k : List (BitVec 8)) (G gt gl : Nat) (T1 T2 : TypeId) (w : World) (hk : ByteAt w vk k) (hkl : k.length ≤ 1048576) (hG : w.heap[G]? = some (.cells #[.slice none 0 0, .slice none 0 0, .slice none 0 0] 49 (0,0)))
    (ht : w.heap[gt]? = some (.cells (toC G).toArray T1 (0,0))) (hl : w.heap[gl]? = some (.cells wantC.toArray 71 (0,0))) (htG : gt ≠ G) (hlG : gl ≠ G) (hkG : vk.ownBlock ≠ some G) :
    Calls Tryz.prog 67 #[vk, .slice (some ⟨gt, 0, none⟩) 3 3, .slice (some ⟨gl, 0, none⟩) 3 3] w fun e w' => e = .returned (.tuple #[]) ∧ Mod (fun x => x = G) w w' ∧ ∃ vs, KeysAt w' w.heap.size k vs 3 ∧ w'.heap[G]? = some (.cells #[vs 0, vs 1, vs 2] 49 (0,0)) := by
  obtain ⟨ak, ck, rfl, _⟩ := hk.slice
  obtain ⟨m, hm⟩ : ∃ m, m = k.length := ⟨_, rfl⟩
  rw [← hm] at hk hkl hkG ⊢
  have hGw : G < w.heap.size := lt_of_heap hG
  replace hm := Lib.hid hm
  replace hk := Lib.hid hk
  replace hkl := Lib.hid hkl
  replace ht := Lib.hid ht
  replace hl := Lib.hid hl
  replace hG := Lib.hid hG
  replace hkG := Lib.hid hkG
  go_enter Tryz.func67, Tryz.ntmps67
  go_wp2
  go_loopw [10] (fun iv wr => ∃ i : Nat, i ≤ 3 ∧ iv = .int .i64 (i : Int) ∧ Mod (fun x => x = G) w wr ∧ ∃ vs, KeysAt wr w.heap.size k vs i ∧ (∀ j, i ≤ j → vs j = .slice none 0 0) ∧ wr.heap[G]? = some (.cells #[vs 0, vs 1, vs 2] 49 (0,0))) (fun iv _ => 3 - (intOf iv).toNat)
  case atStart => exact ⟨0, by omega, rfl, Mod.refl _ _, fun _ => .slice none 0 0, ⟨fun j hj => by omega, fun j l hj => by omega⟩, fun _ _ => rfl, hG.out⟩
  case round =>
    obtain ⟨i, hi3, rfl, mr, vs, hvs, hnil, xG⟩ := hrel
    have bi0 : (0 : Int) ≤ (i : Int) := by omega
    have bi3 : (i : Int) ≤ 3 := by omega
    by_cases hlt : i < 3
    · have hd : decide ((i : Int) < 3) = true := by rw [decide_eq_true_iff]; omega
      have bil : (i : Int) < 3 := by omega
      have xl := mr.heap hl.out hlG
      have xt := mr.heap ht.out htG
      have hld := want_load xl i hlt
      obtain ⟨N, hN⟩ : ∃ N, N = nameK i := ⟨_, rfl⟩
      obtain ⟨Ln, hLn⟩ : ∃ l, l = lenK i := ⟨_, rfl⟩
      rw [← hN, ← hLn] at hld
      have hLl : Ln ≤ 32 := by rw [hLn]; exact lenK_le i
      obtain ⟨wa, hwa⟩ : ∃ x, x = wr.alloc (.cells #[.string { data := #[] }, .int .i64 0] 71) := ⟨_, rfl⟩
      obtain ⟨gw, hgw⟩ : ∃ g, g = wr.heap.size := ⟨_, rfl⟩
      have ma : Mod (fun _ => False) wr wa := by rw [hwa]; exact (Mod.refl _ _).alloc _
      have xa : wa.heap[gw]? = some (.cells #[.string { data := #[] }, .int .i64 0] 71 (0,0)) := by rw [hwa]; exact hp_new _ _ _ hgw
      obtain ⟨w2, st2, m2', x2⟩ := want_store xa (x := .string N) (y := .int .i64 (Ln : Int)) rfl rfl
      have m2 : Mod (fun _ => False) wr w2 := ma.trans' m2' (fun x hx h => by omega)
      have hwr : w.heap.size ≤ wr.heap.size := mr.size
      have xG2 := m2.heap xG (fun h => h)
      have xt2 := m2.heap xt (fun h => h)
      have hvs2 := hvs.keep m2 (fun _ _ h => h)
      have mr2 := mr.trans (m2.mono (S' := fun x => x = G) (fun _ _ h => h.elim))
      have hgG : gw ≠ G := by omega
      replace hwa := Lib.hid hwa
      replace hgw := Lib.hid hgw
      replace hN := Lib.hid hN
      replace hLn := Lib.hid hLn
      replace mr2 := Lib.hid mr2
      replace hvs2 := Lib.hid hvs2
      replace xG2 := Lib.hid xG2
      replace hnil := Lib.hid hnil
      replace hlt := Lib.hid hlt
      clear mr hvs xG xl ma xa m2' m2 hi3
      go_upto_region 2 with (fail)
      refine wp_region_lit ?_
      refine wpList_reads (by kernel_rfl) (.int .i64 (i : Int)) (by go_simp) ?_
      simp only [Act.put, List.setIfInBounds_toArray, List.set_cons_zero, List.set_cons_succ]
      refine wpList_reads (by kernel_rfl) (.pointer (some ⟨gl, i * 2, none⟩)) (by go_simp) ?_
      simp only [Act.put, List.setIfInBounds_toArray, List.set_cons_zero, List.set_cons_succ]
      refine wpList_reads (by kernel_rfl) (.agg #[.string N, .int .i64 (Ln : Int)]) (run_load_op rfl rfl hld) ?_
      simp only [Act.put, List.setIfInBounds_toArray, List.set_cons_zero, List.set_cons_succ]
      refine wpList_yields (by kernel_rfl) _ _ (alloc_want _ _ _ rfl) ?_
      simp only [Act.put, List.setIfInBounds_toArray, List.set_cons_zero, List.set_cons_succ]
      rw [← hgw.out, ← hwa.out]
      refine wpList_reads (by kernel_rfl) (.int .i64 (i : Int)) (by go_simp) ?_
      simp only [Act.put, List.setIfInBounds_toArray, List.set_cons_zero, List.set_cons_succ]
      refine wpList_store_to rfl _ _ _ rfl _ _ _ rfl rfl _ st2 ?_
      simp only [Act.put, List.setIfInBounds_toArray, List.set_cons_zero, List.set_cons_succ]
      clear st2 hld
      go_upto_region 3 with (fail)
      obtain ⟨S, hS⟩ : ∃ S : World → Prop, S = fun w' => Mod (fun x => x = G) w2 w' := ⟨_, rfl⟩
      have hSi : ∀ w', S w' → Mod (fun x => x = G) w2 w' := fun w' h => by rw [hS] at h; exact h
      refine wp_region_any (by kernel_rfl) (any_of_Z (S := S) (z := 99) _ _ _ _ ?_)
      change anyZ _ _ _ _ _ _ _ _ _ w2.drew
      have mq : Mod (fun _ => False) w2 w2.drew := (Mod.refl _ _).drew
      obtain ⟨wq, hwq⟩ : ∃ x, x = w2.drew := ⟨_, rfl⟩
      rw [← hwq] at mq ⊢
      have hSq : S wq := by rw [hS]; exact mq.mono (fun _ _ h => h.elim)
      simp only [List.size_toArray, List.length_cons, List.length_nil, Nat.reduceAdd, Array.replicate_succ, Array.replicate_zero, List.push_toArray, List.nil_append, List.cons_append]
      refine anyZ_take 0 _ (some 15) (.slice (some ⟨gt, 0, none⟩) 3 3) rfl (by kernel_rfl) (by kernel_rfl) (by kernel_rfl) (by kernel_rfl) (by kernel_rfl) (by decide) rfl (fun w' hS => ?_) hSq ?_
      · go_simp
      simp only [Act.put, List.setIfInBounds_toArray, List.set_cons_zero, List.set_cons_succ]
      refine anyZ_take 1 _ (some 16) (.int .i64 (i : Int)) rfl (by kernel_rfl) (by kernel_rfl) (by kernel_rfl) (by kernel_rfl) (by kernel_rfl) (by decide) rfl (fun w' hS => ?_) hSq ?_
      · go_simp
      simp only [Act.put, List.setIfInBounds_toArray, List.set_cons_zero, List.set_cons_succ]
      refine anyZ_take 2 _ (some 17) (.pointer (some ⟨gt, i, none⟩)) rfl (by kernel_rfl) (by kernel_rfl) (by kernel_rfl) (by kernel_rfl) (by kernel_rfl) (by decide) rfl (fun w' hS => ?_) hSq ?_
      · go_simp
      simp only [Act.put, List.setIfInBounds_toArray, List.set_cons_zero, List.set_cons_succ]
      refine anyZ_take 3 _ (some 18) (.pointer (some ⟨G, i, none⟩)) rfl (by kernel_rfl) (by kernel_rfl) (by kernel_rfl) (by kernel_rfl) (by kernel_rfl) (by decide) rfl (fun w' hS => ?_) hSq ?_
      · exact run_load_op rfl rfl (ld_ptr (by rw [cell_of_row _ _ _ _ _ _ ((hSi _ hS).heap xt2 htG), List.getElem?_toArray]; exact toC_get G i hlt.out))
      simp only [Act.put, List.setIfInBounds_toArray, List.set_cons_zero, List.set_cons_succ]
      refine anyZ_take 4 _ (some 19) (.slice ak m ck) rfl (by kernel_rfl) (by kernel_rfl) (by kernel_rfl) (by kernel_rfl) (by kernel_rfl) (by decide) rfl (fun w' hS => ?_) hSq ?_
      · go_simp
      simp only [Act.put, List.setIfInBounds_toArray, List.set_cons_zero, List.set_cons_succ]
      refine anyZ_take 5 _ (some 20) (.pointer (some ⟨gw, 0, none⟩)) rfl (by kernel_rfl) (by kernel_rfl) (by kernel_rfl) (by kernel_rfl) (by kernel_rfl) (by decide) rfl (fun w' hS => ?_) hSq ?_
      · go_simp
      simp only [Act.put, List.setIfInBounds_toArray, List.set_cons_zero, List.set_cons_succ]
      refine anyZ_take 6 _ (some 21) (.string N) rfl (by kernel_rfl) (by kernel_rfl) (by kernel_rfl) (by kernel_rfl) (by kernel_rfl) (by decide) rfl (fun w' hS => ?_) hSq ?_
      · exact run_load_op rfl rfl (ld_str (by rw [cell_of_row _ _ _ _ _ _ ((hSi _ hS).heap x2 hgG)]; rfl))
      simp only [Act.put, List.setIfInBounds_toArray, List.set_cons_zero, List.set_cons_succ]
      refine anyZ_take 7 _ (some 22) (.string (quicS ++ N)) rfl (by kernel_rfl) (by kernel_rfl) (by kernel_rfl) (by kernel_rfl) (by kernel_rfl) (by decide) rfl (fun w' hS => ?_) hSq ?_
      · exact run_strAdd_op rfl rfl rfl (by have h1 := nameK_size i; rw [← hN.out, ByteArray.size_append] at h1; omega)
      simp only [Act.put, List.setIfInBounds_toArray, List.set_cons_zero, List.set_cons_succ]
      refine anyZ_take 8 _ (some 23) (.pointer (some ⟨gw, 1, none⟩)) rfl (by kernel_rfl) (by kernel_rfl) (by kernel_rfl) (by kernel_rfl) (by kernel_rfl) (by decide) rfl (fun w' hS => ?_) hSq ?_
      · go_simp
      simp only [Act.put, List.setIfInBounds_toArray, List.set_cons_zero, List.set_cons_succ]
      refine anyZ_take 9 _ (some 24) (.int .i64 (Ln : Int)) rfl (by kernel_rfl) (by kernel_rfl) (by kernel_rfl) (by kernel_rfl) (by kernel_rfl) (by decide) rfl (fun w' hS => ?_) hSq ?_
      · exact run_load_op rfl rfl (ld_int (by rw [cell_of_row _ _ _ _ _ _ ((hSi _ hS).heap x2 hgG)]; rfl))
      simp only [Act.put, List.setIfInBounds_toArray, List.set_cons_zero, List.set_cons_succ]
      refine anyZ_call 10 _ (some 25) rfl (by kernel_rfl) (by kernel_rfl) rfl 68 #[.slice ak m ck, .string (quicS ++ N), .int .i64 (Ln : Int)] (by go_simp) ?_
      have hkq : ByteAt wq (.slice ak m ck) k := byteAt_block (byteAt_block hk.out (mr2.out) (fun x hx h => hkG.out (by rw [hx, h]))) mq (fun _ _ h => h)
      refine (klabel_any _ _ k Ln wq hkq (by rw [← hm.out]; exact hkl.out) (by rw [hN.out]; have := nameK_size i; omega) (by omega)).mono ?_
      rintro e w3 ⟨m3, v3, rfl, own3⟩
      rw [show expandB (keyS k) (labelI (quicS ++ N) [] Ln) Ln = keyB k i by rw [hN.out, hLn.out]; rfl, hLn.out] at own3
      have hvs3 := (hvs2.out.keep mq (fun _ _ h => h)).add m3 (by have h1 := mq.size; have h2 := mr2.out.size; omega) own3
      have xG3 := (mq.trans m3).heap xG2.out (fun h => h)
      have hi3' : i = 0 ∨ i = 1 ∨ i = 2 := by have := hlt.out; omega
      have hone : ∃ a c, v3 = .slice a (lenK i) c := ownSlice1 own3
      have hset : (#[vs 0, vs 1, vs 2] : Array Value).setIfInBounds i v3 = #[(fun j => if j = i then v3 else vs j) 0, (fun j => if j = i then v3 else vs j) 1, (fun j => if j = i then v3 else vs j) 2] := by
        rcases hi3' with rfl | rfl | rfl <;> rfl
      have c3 : w3.cell? ⟨G, i, none⟩ = some (vs i) := by
        rw [cell_of_row _ _ _ _ _ _ xG3]
        rcases hi3' with rfl | rfl | rfl <;> rfl
      have s3 : (storeVar 22 ⟨G, i, none⟩ v3).run Tryz.prog w3 = .ok () (w3.setCell ⟨G, i, none⟩ v3) := by
        obtain ⟨a3, c3', hv3⟩ := hone
        have f3 := frozen_of_row _ G i _ _ xG3
        rw [hnil.out i (Nat.le_refl _)] at c3
        rw [hv3]
        go_simp
      obtain ⟨w4, hw4⟩ : ∃ x, x = w3.setCell ⟨G, i, none⟩ v3 := ⟨_, rfl⟩
      have xG4 : w4.heap[G]? = some (.cells ((#[vs 0, vs 1, vs 2] : Array Value).setIfInBounds i v3) 49 (0,0)) := by
        rw [hw4, setCell_row _ _ _ _ _ _ xG3]
        exact setRow_heap _ _ _ _ _ _ xG3
      rw [hset] at xG4
      have m4 : Mod (fun x => x = G) w3 w4 := by rw [hw4]; exact Mod.one_setCell _ _ _ _
      rw [← hw4] at s3
      have hvs4 := hvs3.keep m4 (fun x h1 h2 => by omega)
      have mf := mr2.out.trans (((mq.trans m3).mono (S' := fun x => x = G) (fun _ _ h => h.elim)).trans m4)
      have hSf : S w4 := by rw [hS]; exact ((mq.trans m3).mono (S' := fun x => x = G) (fun _ _ h => h.elim)).trans m4
      refine ⟨_, rfl, fun _ => (by rw [hS]; exact (mq.trans m3).mono (fun _ _ h => h.elim)), ?_⟩
      simp only [Act.put, List.setIfInBounds_toArray, List.set_cons_zero, List.set_cons_succ]
      refine anyZ_next 11 _ (some 26) rfl (by kernel_rfl) (by kernel_rfl) rfl (.pointer (some ⟨G, i, none⟩)) w3 (by go_simp) (fun _ => by rw [hS]; exact (mq.trans m3).mono (fun _ _ h => h.elim)) ?_
      simp only [Act.put, List.setIfInBounds_toArray, List.set_cons_zero, List.set_cons_succ]
      refine anyZ_skip 12 _ rfl (by kernel_rfl) (by kernel_rfl) rfl w4 (run_store_op rfl rfl rfl s3) (fun _ => hSf) ?_
      refine anyZ_done (by kernel_rfl) ?_ _
      replace mf := Lib.hid mf
      replace hw4 := Lib.hid hw4
      replace hwq := Lib.hid hwq
      replace hvs4 := Lib.hid hvs4
      replace xG4 := Lib.hid xG4
      replace hS := Lib.hid hS
      clear hSi hSq hSf hvs3 own3 m3 m4 xG3 c3 s3 hset hone mq x2 xt2 xt
      go_wp2
      go_roundw
      case measure => have := hlt.out; simp [intOf]; omega
      case rel => exact ⟨i + 1, by have := hlt.out; omega, by go_num, mf.out, _, hvs4.out, fun j hj => by simp only [if_neg (show j ≠ i by omega)]; exact hnil.out j (by omega), xG4.out⟩
    · have hi : i = 3 := by omega
      subst hi
      have hd : decide (((3 : Nat) : Int) < 3) = false := rfl
      replace mr := Lib.hid mr
      replace hvs := Lib.hid hvs
      replace xG := Lib.hid xG
      replace hnil := Lib.hid hnil
      go_wp2
      go_end0
      exact ⟨rfl, mr.out, vs, hvs.out, xG.out⟩
end Go.Proofs.YtppjnkgmbmhlcaaGreatDoor
