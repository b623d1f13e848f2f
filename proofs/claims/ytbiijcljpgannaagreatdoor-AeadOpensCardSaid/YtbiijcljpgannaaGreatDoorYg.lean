/-
  sealer.tag. Printed by gen/pa3.py.
-/
import Derived.Test.YtbiijcljpgannaaGreatDoorYe
namespace Go.Proofs.YtbiijcljpgannaaGreatDoor
set_option maxRecDepth 100000
open Go Go.RowKit Go.Lib
set_option linter.unusedSimpArgs false
set_option linter.unusedVariables false

theorem anyZ_fork2Y {P : Program} {ops : Array Oper} {md : Region.Mode} {S : World → Prop} {z : Nat} {Q : Exit → Act → World → Prop} (i j : Nat) {f : Nat} {listed : Array Bool} {a : Act} {w : World} (hr : Region.ready md ops listed = [i, j])
    (h1 : wpOp P ops (fun _ _ _ => False) i (fun a' w' => (i ≠ z → S w') ∧ anyZ P md ops S z Q f (listed.setIfInBounds i true) a' w') a w)
    (h2 : wpOp P ops (fun _ _ _ => False) j (fun a' w' => (j ≠ z → S w') ∧ anyZ P md ops S z Q f (listed.setIfInBounds j true) a' w') a w) : anyZ P md ops S z Q (f + 1) listed a w := by
  refine ⟨fun h0 => (by rw [hr] at h0; cases h0), fun k hk => ?_⟩
  rw [hr] at hk
  simp only [List.mem_cons, List.not_mem_nil, or_false] at hk
  rcases hk with rfl | rfl
  · exact h1
  · exact h2
theorem anyZ_fork3Y {P : Program} {ops : Array Oper} {md : Region.Mode} {S : World → Prop} {z : Nat} {Q : Exit → Act → World → Prop} (i j l : Nat) {f : Nat} {listed : Array Bool} {a : Act} {w : World} (hr : Region.ready md ops listed = [i, j, l])
    (h1 : wpOp P ops (fun _ _ _ => False) i (fun a' w' => (i ≠ z → S w') ∧ anyZ P md ops S z Q f (listed.setIfInBounds i true) a' w') a w)
    (h2 : wpOp P ops (fun _ _ _ => False) j (fun a' w' => (j ≠ z → S w') ∧ anyZ P md ops S z Q f (listed.setIfInBounds j true) a' w') a w)
    (h3 : wpOp P ops (fun _ _ _ => False) l (fun a' w' => (l ≠ z → S w') ∧ anyZ P md ops S z Q f (listed.setIfInBounds l true) a' w') a w) : anyZ P md ops S z Q (f + 1) listed a w := by
  refine ⟨fun h0 => (by rw [hr] at h0; cases h0), fun k hk => ?_⟩
  rw [hr] at hk
  simp only [List.mem_cons, List.not_mem_nil, or_false] at hk
  rcases hk with rfl | rfl | rfl
  · exact h1
  · exact h2
  · exact h3
theorem wpOp_enterY {P : Program} {ops : Array Oper} {Q : Exit → Act → World → Prop} {i : Nat} (o : Oper) (d : Option Tmp) {K : Act → World → Prop} {a : Act} {w : World} (hi : ops[i]? = some o) (hw : Region.wanted o (yielded ops a.tmps) = true) (hd : o.dst = d) (f : FuncId) (args : Array Value)
    (hrun : (execOp a.eval o).run P w = .ok (.enter f args) w) (h : Calls P f args w fun e w' => ∃ v, e = .returned v ∧ K (a.put d v) w') : wpOp P ops Q i K a w := by
  subst hd
  unfold wpOp
  simp only [hi]
  rw [if_pos hw]
  refine .inl ?_
  unfold Oper.wp
  rw [hrun]
  simp only [Oper.upon]
  refine h.mono ?_
  rintro e w' ⟨v, rfl, h1⟩
  exact h1
theorem wpOp_valueY {P : Program} {ops : Array Oper} {Q : Exit → Act → World → Prop} {i : Nat} (o : Oper) (d : Option Tmp) {K : Act → World → Prop} {a : Act} {w : World} (hi : ops[i]? = some o) (hw : Region.wanted o (yielded ops a.tmps) = true) (hd : o.dst = d) (v : Value) (w' : World)
    (hrun : (execOp a.eval o).run P w = .ok (.value v) w') (h : K (a.put d v) w') : wpOp P ops Q i K a w := by
  subst hd
  unfold wpOp
  simp only [hi]
  rw [if_pos hw]
  refine .inl ?_
  unfold Oper.wp
  rw [hrun]
  exact h
theorem infoY64 : (Tryz.prog.info? 72).map (·.size) = some 64 := by kernel_rfl
theorem zeroY64 (w : World) : (zeroValue 72).run Tryz.prog w = .ok (.agg (encB (List.replicate 64 0))) w := by kernel_rfl
theorem storeY64 {w : World} {g : Nat} {s s' : List (BitVec 8)} (x : w.heap[g]? = some (.cells (encB s) 72 (0,0))) (hl : s.length = 64) (hl' : s'.length = 64) :
    ∃ w', (storeVar 72 ⟨g, 0, none⟩ (.agg (encB s'))).run Tryz.prog w = .ok () w' ∧ Mod (fun k => k = g) w w' ∧ w'.heap[g]? = some (.cells (encB s') 72 (0,0)) := by
  obtain ⟨w', h1, h2, h3⟩ := store_mid (P := Tryz.prog) w g 0 72 72 [] (bytesV s) [] (bytesV s') (by rw [x]; simp [encB, bytesV]) rfl (by rw [bytesV_length, bytesV_length, hl, hl']) (by rw [bytesV_length, hl']; exact infoY64) (bytesV_one _)
  exact ⟨w', h1, h2, by rw [h3]; simp [encB, bytesV]⟩
theorem halfY {w : World} {g : Nat} {t : TypeId} {s : List (BitVec 8)} (x : w.heap[g]? = some (.cells (encB s) t (0,0))) (hl : s.length = 64) : (loadVar 49 ⟨g, 0, none⟩).run Tryz.prog w = .ok (.agg (encB (s.take 32))) w :=
  load_mid w g 0 t 49 [] (bytesV (s.take 32)) (bytesV (s.drop 32)) (0,0) _ (by rw [x, List.nil_append, ← bytesV_append, List.take_append_drop]; simp [encB, bytesV]) rfl Tryz.underlying49 rfl (by rw [bytesV_length, List.length_take, hl]; exact infoY32)
theorem ByteAt.sliceN {w : World} {v : Value} {bs : List (BitVec 8)} {n : Nat} (h : ByteAt w v bs) (hn : bs.length = n) : ∃ a c, v = .slice a n c := by
  obtain ⟨a, c, rfl, _⟩ := h.slice
  exact ⟨a, c, by rw [hn]⟩
/-- What the tag is taken of. -/
def macL (s b : List (BitVec 8)) : List (List (BitVec 8)) := [b, padZ b, s, padZ s, eightS b.length ++ eightS s.length]
def macB (s b : List (BitVec 8)) : List (BitVec 8) := (macL s b).flatten
def aTag (key nonce s b : List (BitVec 8)) : List (BitVec 8) := tagS ((Cc.blockS key nonce 0).take 32) (macB s b)
theorem aTag_length (key nonce s b : List (BitVec 8)) : (aTag key nonce s b).length = 16 := tagS_length _ _
theorem macB_length (s b : List (BitVec 8)) : (macB s b).length ≤ b.length + s.length + 46 := by
  have h1 := padZ_length b
  have h2 := padZ_length s
  simp only [macB, macL, List.flatten_cons, List.flatten_nil, List.length_append, List.length_nil, eightS, eightTo_length]
  omega
def TagEndY (key nonce s b : List (BitVec 8)) (w : World) (e : Ending) (w' : World) : Prop :=
  Mod (fun _ => False) w w' ∧ ∃ g, w.heap.size ≤ g ∧ e = .returned (.slice (some ⟨g, 0, none⟩) 16 16) ∧ BytesAt16 w' g (aTag key nonce s b)
theorem listAt5 {w : World} {g : Nat} {t : TypeId} {v1 v2 v3 v4 v5 : Value} {a1 a2 a3 a4 a5 : List (BitVec 8)} (x : w.heap[g]? = some (.cells #[v1, v2, v3, v4, v5] t (0,0))) (h1 : ByteAt w v1 a1) (h2 : ByteAt w v2 a2) (h3 : ByteAt w v3 a3) (h4 : ByteAt w v4 a4) (h5 : ByteAt w v5 a5) : ListAt w (.slice (some ⟨g, 0, none⟩) 5 5) [a1, a2, a3, a4, a5] := by
  refine ⟨g, 0, 5, rfl, fun j hj => ?_⟩
  simp only [List.length_cons, List.length_nil] at hj
  rw [cell_of_row _ _ _ _ _ _ x]
  match j, hj with
  | 0, _ => exact ⟨_, rfl, h1⟩
  | 1, _ => exact ⟨_, rfl, h2⟩
  | 2, _ => exact ⟨_, rfl, h3⟩
  | 3, _ => exact ⟨_, rfl, h4⟩
  | 4, _ => exact ⟨_, rfl, h5⟩
set_option maxRecDepth 100000 in
set_option maxHeartbeats 4000000 in
theorem stag_any (key nonce : List (BitVec 8)) (hk : key.length = 32) (hn : nonce.length = 12) (vs vb : Value) (s b : List (BitVec 8)) (hsl : s.length ≤ 1048592) (hbl : b.length ≤ 1048592) (w : World) (hs : ByteAt w vs s) (hb : ByteAt w vb b) :
    Calls Tryz.prog 20 #[.agg (encB (key ++ nonce)), vs, vb] w (TagEndY key nonce s b w) := by
  obtain ⟨NS, hNS⟩ : ∃ n, n = s.length := ⟨_, rfl⟩
  obtain ⟨NB, hNB⟩ : ∃ n, n = b.length := ⟨_, rfl⟩
  obtain ⟨ss, cs, rfl⟩ := hs.sliceN hNS.symm
  obtain ⟨sb, cb, rfl⟩ := hb.sliceN hNB.symm
  obtain ⟨PB, hPB⟩ : ∃ n, n = (padZ b).length := ⟨_, rfl⟩
  obtain ⟨PS, hPS⟩ : ∃ n, n = (padZ s).length := ⟨_, rfl⟩
  have hE16 : (eightS b.length ++ eightS s.length).length = 16 := by simp [eightS, eightTo_length]
  obtain ⟨E8, hE8⟩ : ∃ E, E = eightS b.length ++ eightS s.length := ⟨_, rfl⟩
  rw [← hE8] at hE16
  have hE8n : eightS NB ++ eightS NS = E8 := by rw [hNS, hNB, hE8]
  have hmac := macB_length s b
  have hmacL : macL s b = [b, padZ b, s, padZ s, E8] := by rw [hE8]; rfl
  obtain ⟨L, hL⟩ : ∃ L, L = macB s b := ⟨_, rfl⟩
  have hLf : (macL s b).flatten = L := hL.symm
  rw [← hL] at hmac
  obtain ⟨KN, hKN⟩ : ∃ k, k = key ++ nonce := ⟨_, rfl⟩
  have hKNl : KN.length = 44 := by rw [hKN, List.length_append, hk, hn]
  obtain ⟨O, hO⟩ : ∃ O, O = Cc.blockS key nonce 0 := ⟨_, rfl⟩
  have hOl : O.length = 64 := by rw [hO, Cc.blockS, Cc.outTo_length]
  obtain ⟨H, hH⟩ : ∃ H, H = O.take 32 := ⟨_, rfl⟩
  have hHl : H.length = 32 := by rw [hH, List.length_take, hOl]; rfl
  obtain ⟨T, hT⟩ : ∃ T, T = tagS H L := ⟨_, rfl⟩
  have hTl : T.length = 16 := by rw [hT]; exact tagS_length _ _
  have hTa : aTag key nonce s b = T := by rw [hT, hH, hO, hL]; rfl
  have hend : ∀ w' g, Mod (fun _ => False) w w' → w.heap.size ≤ g → BytesAt16 w' g T → TagEndY key nonce s b w (.returned (.slice (some ⟨g, 0, none⟩) 16 16)) w' := fun w' g h1 h2 h3 => ⟨h1, g, h2, rfl, by rw [hTa]; exact h3⟩
  obtain ⟨w1, hw1⟩ : ∃ x, x = w.alloc (.cells (encB KN) 52) := ⟨_, rfl⟩
  obtain ⟨g1, hg1⟩ : ∃ x, x = w.heap.size := ⟨_, rfl⟩
  have m1 : Mod (fun _ => False) w w1 := by rw [hw1]; exact (Mod.refl _ _).alloc _
  have x1 : w1.heap[g1]? = some (.cells (encB KN) 52 (0,0)) := by rw [hw1]; exact hp_new _ _ _ hg1
  have lk := keySL (k := key) (n := nonce) (by rw [← hKN]; exact x1) hk hn
  have ln := nonceSL (k := key) (n := nonce) (by rw [← hKN]; exact x1) hk hn
  have s1 := hs.mod m1 (fun _ _ h => h)
  have b1 := hb.mod m1 (fun _ _ h => h)
  rw [← hKN]
  have bns : (0 : Int) ≤ (NS : Int) := by omega
  have bnb : (0 : Int) ≤ (NB : Int) := by omega
  have hNSl : NS ≤ 1048592 := by omega
  have hNBl : NB ≤ 1048592 := by omega
  replace hNS := Lib.hid hNS
  replace hNB := Lib.hid hNB
  replace hPB := Lib.hid hPB
  replace hPS := Lib.hid hPS
  replace hE8 := Lib.hid hE8
  replace hE16 := Lib.hid hE16
  replace hE8n := Lib.hid hE8n
  replace hmac := Lib.hid hmac
  replace hmacL := Lib.hid hmacL
  replace hL := Lib.hid hL
  replace hLf := Lib.hid hLf
  replace hKN := Lib.hid hKN
  replace hKNl := Lib.hid hKNl
  replace hO := Lib.hid hO
  replace hOl := Lib.hid hOl
  replace hH := Lib.hid hH
  replace hHl := Lib.hid hHl
  replace hT := Lib.hid hT
  replace hTl := Lib.hid hTl
  replace hTa := Lib.hid hTa
  replace hend := Lib.hid hend
  replace hw1 := Lib.hid hw1
  replace hg1 := Lib.hid hg1
  replace m1 := Lib.hid m1
  replace s1 := Lib.hid s1
  replace b1 := Lib.hid b1
  replace hsl := Lib.hid hsl
  replace hbl := Lib.hid hbl
  clear x1 hs hb
  go_enter Tryz.func20, Tryz.ntmps20
  go_upto_region 0 with (fail)
  refine wp_region_lit ?_
  refine wpList_yields (by kernel_rfl) (.pointer (some ⟨g1, 0, none⟩)) w1 (by rw [hw1.out, hg1.out]; simp [execOp, Instr.box, Sem.run_bind, newVar, newRow, Value.cells]; rfl) ?_
  simp only [Act.put, List.setIfInBounds_toArray, List.set_cons_zero, List.set_cons_succ]
  refine wpList_reads (by kernel_rfl) (.slice none 0 0) (by go_simp) ?_
  simp only [Act.put, List.setIfInBounds_toArray, List.set_cons_zero, List.set_cons_succ]
  go_upto_region 1 with (fail)
  refine wp_region_lit ?_
  refine wpList_reads (by kernel_rfl) (.pointer (some ⟨g1, 0, none⟩)) (by go_simp) ?_
  simp only [Act.put, List.setIfInBounds_toArray, List.set_cons_zero, List.set_cons_succ]
  refine wpList_reads (by kernel_rfl) (.agg (encB key)) (run_load_op rfl rfl lk) ?_
  simp only [Act.put, List.setIfInBounds_toArray, List.set_cons_zero, List.set_cons_succ]
  refine wpList_reads (by kernel_rfl) (.pointer (some ⟨g1, 32, none⟩)) (by go_simp) ?_
  simp only [Act.put, List.setIfInBounds_toArray, List.set_cons_zero, List.set_cons_succ]
  refine wpList_reads (by kernel_rfl) (.agg (encB nonce)) (run_load_op rfl rfl ln) ?_
  simp only [Act.put, List.setIfInBounds_toArray, List.set_cons_zero, List.set_cons_succ]
  refine wpList_enter (by kernel_rfl) 69 #[.agg (encB key), .int .u32 0, .agg (encB nonce)] (by go_simp) (Cc.block_any key nonce hk hn 0 w1) ?_
  rintro e w2 ⟨rfl, m2⟩
  rw [← hO.out]
  obtain ⟨w3, hw3⟩ : ∃ x, x = w2.alloc (.cells (encB (List.replicate 64 0)) 72) := ⟨_, rfl⟩
  obtain ⟨gO, hgO⟩ : ∃ x, x = w2.heap.size := ⟨_, rfl⟩
  have m3 : Mod (fun _ => False) w2 w3 := by rw [hw3]; exact (Mod.refl _ _).alloc _
  have x3 : w3.heap[gO]? = some (.cells (encB (List.replicate 64 0)) 72 (0,0)) := by rw [hw3]; exact hp_new _ _ _ hgO
  obtain ⟨w6, s6, m6, xo⟩ := storeY64 x3 (s' := O) (by simp) hOl.out
  have m16 : Mod (fun _ => False) w1 w6 := m2.trans (m3.trans' m6 (fun k hk h => by omega))
  have hs6 := s1.out.mod m16 (fun _ _ h => h)
  have hb6 := b1.out.mod m16 (fun _ _ h => h)
  have m06 := m1.out.trans m16
  replace hw3 := Lib.hid hw3
  replace hgO := Lib.hid hgO
  replace xo := Lib.hid xo
  replace hs6 := Lib.hid hs6
  replace hb6 := Lib.hid hb6
  replace m06 := Lib.hid m06
  clear m2 m3 x3 m6 m16 lk ln
  refine ⟨_, rfl, ?_⟩
  simp only [Act.put, List.setIfInBounds_toArray, List.set_cons_zero, List.set_cons_succ]
  refine wpList_yields (by kernel_rfl) _ _ (alloc_arrY 72 _ zeroY64 _ _ _ rfl) ?_
  simp only [Act.put, List.setIfInBounds_toArray, List.set_cons_zero, List.set_cons_succ]
  rw [← hgO.out, ← hw3.out]
  refine wpList_store_to rfl _ _ _ rfl _ _ _ rfl rfl _ s6 ?_
  simp only [Act.put, List.setIfInBounds_toArray, List.set_cons_zero, List.set_cons_succ]
  clear s6
  go_upto_region 2 with (fail)
  refine Code.wp_mono (Q := fun e a w' => e = .normal ∧ ∃ x21 x24 x29 x30 x31 x32 g8, a = ({ tmps := #[.agg (encB KN), .slice ss NS cs, .slice sb NB cb, .pointer (some ⟨g1, 0, none⟩), undef, undef, .slice none 0 0, .pointer (some ⟨gO, 0, none⟩), .pointer (some ⟨g8, 0, none⟩), .int .i64 0, .pointer (some ⟨g1, 0, none⟩), .agg (encB key), .pointer (some ⟨g1, 32, none⟩), .agg (encB nonce), .agg (encB O), .tuple #[.agg (encB T), .int .i64 0], .slice (some ⟨gO, 0, none⟩) 32 64, .pointer (some ⟨gO, 0, none⟩), .agg (encB H), .slice sb NB cb, .slice sb NB cb, x21, .slice ss NS cs, .slice ss NS cs, x24, .slice sb NB cb, .int .i64 (NB : Int), .slice ss NS cs, .int .i64 (NS : Int), x29, x30, x31, x32, .tuple #[.agg (encB T), .int .i64 0], .agg (encB T), .int .i64 0, undef], defers := [] } : Act) ∧ Mod (fun _ => False) w6 w' ∧ w6.heap.size ≤ g8 ∧ BytesAt16 w' g8 T) ?_ ?_
  rotate_left
  · refine wp_region_any (by kernel_rfl) (any_of_Z (S := fun W => Mod (fun _ => False) w6 W) (z := 99) _ _ _ _ ?_)
    simp only [List.size_toArray, List.length_cons, List.length_nil, Nat.reduceAdd, Array.replicate_succ, Array.replicate_zero, List.push_toArray, List.nil_append, List.cons_append]
    change anyZ _ _ _ _ _ _ _ _ _ w6.drew
    have md : Mod (fun _ => False) w6 w6.drew := (Mod.refl _ _).drew
    obtain ⟨wd, hwd⟩ : ∃ x, x = w6.drew := ⟨_, rfl⟩
    rw [← hwd] at md ⊢
    clear hwd
    refine anyZ_take 0 _ (some 16) (.slice (some ⟨gO, 0, none⟩) 32 64) rfl (by kernel_rfl) (by kernel_rfl) (by kernel_rfl) (by kernel_rfl) (by kernel_rfl) (by decide) rfl (fun w' hS => ?_) md ?_
    · go_simp
    simp only [Act.put, List.setIfInBounds_toArray, List.set_cons_zero, List.set_cons_succ]
    refine anyZ_take 1 _ (some 17) (.pointer (some ⟨gO, 0, none⟩)) rfl (by kernel_rfl) (by kernel_rfl) (by kernel_rfl) (by kernel_rfl) (by kernel_rfl) (by decide) rfl (fun w' hS => ?_) md ?_
    · exact arrAtY32 rfl rfl (by omega)
    simp only [Act.put, List.setIfInBounds_toArray, List.set_cons_zero, List.set_cons_succ]
    refine anyZ_take 2 _ (some 18) (.agg (encB H)) rfl (by kernel_rfl) (by kernel_rfl) (by kernel_rfl) (by kernel_rfl) (by kernel_rfl) (by decide) rfl (fun w' hS => ?_) md ?_
    · rw [hH.out]; exact run_load_op rfl rfl (halfY (hS.heap xo.out (fun h => h)) hOl.out)
    simp only [Act.put, List.setIfInBounds_toArray, List.set_cons_zero, List.set_cons_succ]
    refine anyZ_take 3 _ (some 19) (.slice sb NB cb) rfl (by kernel_rfl) (by kernel_rfl) (by kernel_rfl) (by kernel_rfl) (by kernel_rfl) (by decide) rfl (fun w' hS => ?_) md ?_
    · go_simp
    simp only [Act.put, List.setIfInBounds_toArray, List.set_cons_zero, List.set_cons_succ]
    refine anyZ_take 4 _ (some 20) (.slice sb NB cb) rfl (by kernel_rfl) (by kernel_rfl) (by kernel_rfl) (by kernel_rfl) (by kernel_rfl) (by decide) rfl (fun w' hS => ?_) md ?_
    · go_simp
    simp only [Act.put, List.setIfInBounds_toArray, List.set_cons_zero, List.set_cons_succ]
    refine anyZ_take 6 _ (some 22) (.slice ss NS cs) rfl (by kernel_rfl) (by kernel_rfl) (by kernel_rfl) (by kernel_rfl) (by kernel_rfl) (by decide) rfl (fun w' hS => ?_) md ?_
    · go_simp
    simp only [Act.put, List.setIfInBounds_toArray, List.set_cons_zero, List.set_cons_succ]
    refine anyZ_take 7 _ (some 23) (.slice ss NS cs) rfl (by kernel_rfl) (by kernel_rfl) (by kernel_rfl) (by kernel_rfl) (by kernel_rfl) (by decide) rfl (fun w' hS => ?_) md ?_
    · go_simp
    simp only [Act.put, List.setIfInBounds_toArray, List.set_cons_zero, List.set_cons_succ]
    refine anyZ_take 9 _ (some 25) (.slice sb NB cb) rfl (by kernel_rfl) (by kernel_rfl) (by kernel_rfl) (by kernel_rfl) (by kernel_rfl) (by decide) rfl (fun w' hS => ?_) md ?_
    · go_simp
    simp only [Act.put, List.setIfInBounds_toArray, List.set_cons_zero, List.set_cons_succ]
    refine anyZ_take 10 _ (some 26) (.int .i64 (NB : Int)) rfl (by kernel_rfl) (by kernel_rfl) (by kernel_rfl) (by kernel_rfl) (by kernel_rfl) (by decide) rfl (fun w' hS => ?_) md ?_
    · go_simp
    simp only [Act.put, List.setIfInBounds_toArray, List.set_cons_zero, List.set_cons_succ]
    refine anyZ_take 11 _ (some 27) (.slice ss NS cs) rfl (by kernel_rfl) (by kernel_rfl) (by kernel_rfl) (by kernel_rfl) (by kernel_rfl) (by decide) rfl (fun w' hS => ?_) md ?_
    · go_simp
    simp only [Act.put, List.setIfInBounds_toArray, List.set_cons_zero, List.set_cons_succ]
    refine anyZ_take 12 _ (some 28) (.int .i64 (NS : Int)) rfl (by kernel_rfl) (by kernel_rfl) (by kernel_rfl) (by kernel_rfl) (by kernel_rfl) (by decide) rfl (fun w' hS => ?_) md ?_
    · go_simp
    simp only [Act.put, List.setIfInBounds_toArray, List.set_cons_zero, List.set_cons_succ]
    refine anyZ_fork3Y 5 13 21 (by kernel_rfl) ?_ ?_ ?_
    · refine wpOp_enterY _ (some 21) rfl (by kernel_rfl) rfl 71 #[.slice sb NB cb] (by go_simp) ?_
      refine (filled_any _ b (by have := hbl.out; omega) wd (hb6.out.mod md (fun _ _ h => h))).mono ?_
      rintro e u1 ⟨lu1, yu1, rfl, pu1⟩
      obtain ⟨au1, cu1, rfl⟩ := pu1.sliceN hPB.out.symm
      have mu1 := md.trans lu1
      have k21u1 := Lib.hid pu1
      clear pu1
      refine ⟨_, rfl, fun _ => mu1, ?_⟩
      simp only [Act.put, List.setIfInBounds_toArray, List.set_cons_zero, List.set_cons_succ]
      refine anyZ_fork3Y 8 13 21 (by kernel_rfl) ?_ ?_ ?_
      · refine wpOp_enterY _ (some 24) rfl (by kernel_rfl) rfl 71 #[.slice ss NS cs] (by go_simp) ?_
        refine (filled_any _ s (by have := hsl.out; omega) u1 (hs6.out.mod mu1 (fun _ _ h => h))).mono ?_
        rintro e u2 ⟨lu2, yu2, rfl, pu2⟩
        obtain ⟨au2, cu2, rfl⟩ := pu2.sliceN hPS.out.symm
        have mu2 := mu1.trans lu2
        have k24u2 := Lib.hid pu2
        clear pu2
        refine ⟨_, rfl, fun _ => mu2, ?_⟩
        simp only [Act.put, List.setIfInBounds_toArray, List.set_cons_zero, List.set_cons_succ]
        refine anyZ_fork2Y 13 21 (by kernel_rfl) ?_ ?_
        · obtain ⟨u3, hu3⟩ : ∃ x, x = u2.alloc (.cells #[.int .i64 (NB : Int), .int .i64 (NS : Int)] 3) := ⟨_, rfl⟩
          obtain ⟨gu3, hgu3⟩ : ∃ g, g = u2.heap.size := ⟨_, rfl⟩
          have lu3 : Mod (fun _ => False) u2 u3 := by rw [hu3]; exact (Mod.refl _ _).alloc _
          have x29u3 : u3.heap[gu3]? = some (.cells #[.int .i64 (NB : Int), .int .i64 (NS : Int)] 3 (0,0)) := by rw [hu3]; exact hp_new _ _ _ hgu3
          replace hu3 := Lib.hid hu3
          replace hgu3 := Lib.hid hgu3
          replace x29u3 := Lib.hid x29u3
          have mu3 := mu2.trans lu3
          refine wpOp_valueY _ (some 29) rfl (by kernel_rfl) rfl (.slice (some ⟨gu3, 0, none⟩) 2 2) u3 (by rw [hu3.out, hgu3.out]; go_simp) ⟨fun _ => mu3, ?_⟩
          simp only [Act.put, List.setIfInBounds_toArray, List.set_cons_zero, List.set_cons_succ]
          refine anyZ_fork2Y 14 21 (by kernel_rfl) ?_ ?_
          · refine wpOp_enterY _ (some 30) rfl (by kernel_rfl) rfl 72 #[.slice (some ⟨gu3, 0, none⟩) 2 2] (by go_simp) ?_
            refine (eights_any NB NS (by omega) (by omega) gu3 3 u3 x29u3.out).mono ?_
            rintro e u4 ⟨lu4, yu4, rfl, pu4⟩
            rw [hE8n.out] at pu4
            obtain ⟨au4, cu4, rfl⟩ := pu4.sliceN hE16.out
            have mu4 := mu3.trans lu4
            have k30u4 := Lib.hid pu4
            clear pu4
            refine ⟨_, rfl, fun _ => mu4, ?_⟩
            simp only [Act.put, List.setIfInBounds_toArray, List.set_cons_zero, List.set_cons_succ]
            refine anyZ_fork2Y 15 21 (by kernel_rfl) ?_ ?_
            · obtain ⟨u5, hu5⟩ : ∃ x, x = u4.alloc (.cells #[.slice sb NB cb, .slice au1 PB cu1, .slice ss NS cs, .slice au2 PS cu2, .slice au4 16 cu4] 22) := ⟨_, rfl⟩
              obtain ⟨gu5, hgu5⟩ : ∃ g, g = u4.heap.size := ⟨_, rfl⟩
              have lu5 : Mod (fun _ => False) u4 u5 := by rw [hu5]; exact (Mod.refl _ _).alloc _
              have x31u5 : u5.heap[gu5]? = some (.cells #[.slice sb NB cb, .slice au1 PB cu1, .slice ss NS cs, .slice au2 PS cu2, .slice au4 16 cu4] 22 (0,0)) := by rw [hu5]; exact hp_new _ _ _ hgu5
              replace hu5 := Lib.hid hu5
              replace hgu5 := Lib.hid hgu5
              replace x31u5 := Lib.hid x31u5
              have mu5 := mu4.trans lu5
              refine wpOp_valueY _ (some 31) rfl (by kernel_rfl) rfl (.slice (some ⟨gu5, 0, none⟩) 5 5) u5 (by rw [hu5.out, hgu5.out]; go_simp) ⟨fun _ => mu5, ?_⟩
              simp only [Act.put, List.setIfInBounds_toArray, List.set_cons_zero, List.set_cons_succ]
              refine anyZ_fork2Y 16 21 (by kernel_rfl) ?_ ?_
              · have qu6 : ListAt u5 (.slice (some ⟨gu5, 0, none⟩) 5 5) (macL s b) := by
                  rw [hmacL.out]
                  exact listAt5 x31u5.out (hb6.out.mod mu5 (fun _ _ h => h)) (k21u1.out.mod (((lu2.trans lu3).trans lu4).trans lu5) (fun _ _ h => h)) (hs6.out.mod mu5 (fun _ _ h => h)) (k24u2.out.mod ((lu3.trans lu4).trans lu5) (fun _ _ h => h)) (k30u4.out.mod lu5 (fun _ _ h => h))
                refine wpOp_enterY _ (some 32) rfl (by kernel_rfl) rfl 19 #[.slice (some ⟨gu5, 0, none⟩) 5 5] (by go_simp) ?_
                refine (concat_any _ (macL s b) u5 qu6 (by rw [hmacL.out]; simp) (by rw [hLf.out]; have := hmac.out; have := hsl.out; have := hbl.out; omega)).mono ?_
                rintro e u6 ⟨lu6, yu6, rfl, pu6⟩
                rw [hLf.out] at pu6
                have k32u6 := Lib.hid (byteAt_of_own pu6)
                clear pu6 qu6
                have mu6 := mu5.trans lu6
                refine ⟨_, rfl, fun _ => mu6, ?_⟩
                simp only [Act.put, List.setIfInBounds_toArray, List.set_cons_zero, List.set_cons_succ]
                refine anyZ_fork2Y 17 21 (by kernel_rfl) ?_ ?_
                · refine wpOp_enterY _ (some 33) rfl (by kernel_rfl) rfl 70 #[.agg (encB H), yu6] (by go_simp) ?_
                  refine (tag_any H hHl.out _ L u6 k32u6.out (by have := hmac.out; have := hsl.out; have := hbl.out; omega)).mono ?_
                  rintro e u7 ⟨lu7, rfl⟩
                  rw [if_neg (by have := hmac.out; have := hsl.out; have := hbl.out; omega), ← hT.out]
                  have mu7 := mu6.trans lu7
                  refine ⟨_, rfl, fun _ => mu7, ?_⟩
                  simp only [Act.put, List.setIfInBounds_toArray, List.set_cons_zero, List.set_cons_succ]
                  refine anyZ_take 18 _ (some 15) (.tuple #[.agg (encB T), .int .i64 0]) rfl (by kernel_rfl) (by kernel_rfl) (by kernel_rfl) (by kernel_rfl) (by kernel_rfl) (by decide) rfl (fun w' hS => ?_) mu7 ?_
                  · go_simp
                  simp only [Act.put, List.setIfInBounds_toArray, List.set_cons_zero, List.set_cons_succ]
                  refine anyZ_take 19 _ (some 34) (.agg (encB T)) rfl (by kernel_rfl) (by kernel_rfl) (by kernel_rfl) (by kernel_rfl) (by kernel_rfl) (by decide) rfl (fun w' hS => ?_) mu7 ?_
                  · go_simp
                  simp only [Act.put, List.setIfInBounds_toArray, List.set_cons_zero, List.set_cons_succ]
                  refine anyZ_take 20 _ (some 35) (.int .i64 0) rfl (by kernel_rfl) (by kernel_rfl) (by kernel_rfl) (by kernel_rfl) (by kernel_rfl) (by decide) rfl (fun w' hS => ?_) mu7 ?_
                  · go_simp
                  simp only [Act.put, List.setIfInBounds_toArray, List.set_cons_zero, List.set_cons_succ]
                  obtain ⟨u8, hu8⟩ : ∃ x, x = u7.alloc (.cells (encB (List.replicate 16 0)) 61) := ⟨_, rfl⟩
                  obtain ⟨gu8, hgu8⟩ : ∃ g, g = u7.heap.size := ⟨_, rfl⟩
                  have lu8 : Mod (fun _ => False) u7 u8 := by rw [hu8]; exact (Mod.refl _ _).alloc _
                  have x8u8 : BytesAt16 u8 gu8 (List.replicate 16 0) := by rw [hu8]; exact hp_new _ _ _ hgu8
                  have gwu8 : w6.heap.size ≤ gu8 := by rw [hgu8]; exact mu7.size
                  replace hu8 := Lib.hid hu8
                  replace hgu8 := Lib.hid hgu8
                  replace x8u8 := Lib.hid x8u8
                  have mu8 := mu7.trans lu8
                  refine anyZ_next 21 _ (some 8) rfl (by kernel_rfl) (by kernel_rfl) rfl (.pointer (some ⟨gu8, 0, none⟩)) u8 (by rw [hu8.out, hgu8.out]; exact alloc16P _ _ _ rfl) (fun _ => mu8) ?_
                  simp only [Act.put, List.setIfInBounds_toArray, List.set_cons_zero, List.set_cons_succ]
                  obtain ⟨u9, su9, nu9, yu9⟩ := store16P x8u8.out (s' := T) (by simp) hTl.out
                  have mu9 := mu8.trans' nu9 (fun k hk h => by have := gwu8; omega)
                  refine anyZ_skip 22 _ rfl (by kernel_rfl) (by kernel_rfl) rfl u9 (run_store_op rfl rfl rfl su9) (fun _ => mu9) ?_
                  simp only [Act.put, List.setIfInBounds_toArray, List.set_cons_zero, List.set_cons_succ]
                  refine anyZ_next 23 _ (some 9) rfl (by kernel_rfl) (by kernel_rfl) rfl (.int .i64 0) u9 (by go_simp) (fun _ => mu9) ?_
                  simp only [Act.put, List.setIfInBounds_toArray, List.set_cons_zero, List.set_cons_succ]
                  refine anyZ_done (by kernel_rfl) ?_ _
                  exact ⟨rfl, _, _, _, _, _, _, _, rfl, mu9, gwu8, yu9⟩
                · obtain ⟨u10, hu10⟩ : ∃ x, x = u6.alloc (.cells (encB (List.replicate 16 0)) 61) := ⟨_, rfl⟩
                  obtain ⟨gu10, hgu10⟩ : ∃ g, g = u6.heap.size := ⟨_, rfl⟩
                  have lu10 : Mod (fun _ => False) u6 u10 := by rw [hu10]; exact (Mod.refl _ _).alloc _
                  have x8u10 : BytesAt16 u10 gu10 (List.replicate 16 0) := by rw [hu10]; exact hp_new _ _ _ hgu10
                  have gwu10 : w6.heap.size ≤ gu10 := by rw [hgu10]; exact mu6.size
                  replace hu10 := Lib.hid hu10
                  replace hgu10 := Lib.hid hgu10
                  replace x8u10 := Lib.hid x8u10
                  have mu10 := mu6.trans lu10
                  refine wpOp_valueY _ (some 8) rfl (by kernel_rfl) rfl (.pointer (some ⟨gu10, 0, none⟩)) u10 (by rw [hu10.out, hgu10.out]; exact alloc16P _ _ _ rfl) ⟨fun _ => mu10, ?_⟩
                  simp only [Act.put, List.setIfInBounds_toArray, List.set_cons_zero, List.set_cons_succ]
                  refine anyZ_call 17 _ (some 33) rfl (by kernel_rfl) (by kernel_rfl) rfl 70 #[.agg (encB H), yu6] (by go_simp) ?_
                  refine (tag_any H hHl.out _ L u10 (k32u6.out.mod lu10 (fun _ _ h => h)) (by have := hmac.out; have := hsl.out; have := hbl.out; omega)).mono ?_
                  rintro e u11 ⟨lu11, rfl⟩
                  rw [if_neg (by have := hmac.out; have := hsl.out; have := hbl.out; omega), ← hT.out]
                  have mu11 := mu10.trans lu11
                  refine ⟨_, rfl, fun _ => mu11, ?_⟩
                  simp only [Act.put, List.setIfInBounds_toArray, List.set_cons_zero, List.set_cons_succ]
                  refine anyZ_take 18 _ (some 15) (.tuple #[.agg (encB T), .int .i64 0]) rfl (by kernel_rfl) (by kernel_rfl) (by kernel_rfl) (by kernel_rfl) (by kernel_rfl) (by decide) rfl (fun w' hS => ?_) mu11 ?_
                  · go_simp
                  simp only [Act.put, List.setIfInBounds_toArray, List.set_cons_zero, List.set_cons_succ]
                  refine anyZ_take 19 _ (some 34) (.agg (encB T)) rfl (by kernel_rfl) (by kernel_rfl) (by kernel_rfl) (by kernel_rfl) (by kernel_rfl) (by decide) rfl (fun w' hS => ?_) mu11 ?_
                  · go_simp
                  simp only [Act.put, List.setIfInBounds_toArray, List.set_cons_zero, List.set_cons_succ]
                  refine anyZ_take 20 _ (some 35) (.int .i64 0) rfl (by kernel_rfl) (by kernel_rfl) (by kernel_rfl) (by kernel_rfl) (by kernel_rfl) (by decide) rfl (fun w' hS => ?_) mu11 ?_
                  · go_simp
                  simp only [Act.put, List.setIfInBounds_toArray, List.set_cons_zero, List.set_cons_succ]
                  obtain ⟨u12, su12, nu12, yu12⟩ := store16P (lu11.heap x8u10.out (fun h => h)) (s' := T) (by simp) hTl.out
                  have mu12 := mu11.trans' nu12 (fun k hk h => by have := gwu10; omega)
                  refine anyZ_skip 22 _ rfl (by kernel_rfl) (by kernel_rfl) rfl u12 (run_store_op rfl rfl rfl su12) (fun _ => mu12) ?_
                  simp only [Act.put, List.setIfInBounds_toArray, List.set_cons_zero, List.set_cons_succ]
                  refine anyZ_next 23 _ (some 9) rfl (by kernel_rfl) (by kernel_rfl) rfl (.int .i64 0) u12 (by go_simp) (fun _ => mu12) ?_
                  simp only [Act.put, List.setIfInBounds_toArray, List.set_cons_zero, List.set_cons_succ]
                  refine anyZ_done (by kernel_rfl) ?_ _
                  exact ⟨rfl, _, _, _, _, _, _, _, rfl, mu12, gwu10, yu12⟩
              · obtain ⟨u13, hu13⟩ : ∃ x, x = u5.alloc (.cells (encB (List.replicate 16 0)) 61) := ⟨_, rfl⟩
                obtain ⟨gu13, hgu13⟩ : ∃ g, g = u5.heap.size := ⟨_, rfl⟩
                have lu13 : Mod (fun _ => False) u5 u13 := by rw [hu13]; exact (Mod.refl _ _).alloc _
                have x8u13 : BytesAt16 u13 gu13 (List.replicate 16 0) := by rw [hu13]; exact hp_new _ _ _ hgu13
                have gwu13 : w6.heap.size ≤ gu13 := by rw [hgu13]; exact mu5.size
                replace hu13 := Lib.hid hu13
                replace hgu13 := Lib.hid hgu13
                replace x8u13 := Lib.hid x8u13
                have mu13 := mu5.trans lu13
                refine wpOp_valueY _ (some 8) rfl (by kernel_rfl) rfl (.pointer (some ⟨gu13, 0, none⟩)) u13 (by rw [hu13.out, hgu13.out]; exact alloc16P _ _ _ rfl) ⟨fun _ => mu13, ?_⟩
                simp only [Act.put, List.setIfInBounds_toArray, List.set_cons_zero, List.set_cons_succ]
                have qu14 : ListAt u13 (.slice (some ⟨gu5, 0, none⟩) 5 5) (macL s b) := by
                  rw [hmacL.out]
                  exact listAt5 (lu13.heap x31u5.out (fun h => h)) (hb6.out.mod mu13 (fun _ _ h => h)) (k21u1.out.mod ((((lu2.trans lu3).trans lu4).trans lu5).trans lu13) (fun _ _ h => h)) (hs6.out.mod mu13 (fun _ _ h => h)) (k24u2.out.mod (((lu3.trans lu4).trans lu5).trans lu13) (fun _ _ h => h)) (k30u4.out.mod (lu5.trans lu13) (fun _ _ h => h))
                refine anyZ_call 16 _ (some 32) rfl (by kernel_rfl) (by kernel_rfl) rfl 19 #[.slice (some ⟨gu5, 0, none⟩) 5 5] (by go_simp) ?_
                refine (concat_any _ (macL s b) u13 qu14 (by rw [hmacL.out]; simp) (by rw [hLf.out]; have := hmac.out; have := hsl.out; have := hbl.out; omega)).mono ?_
                rintro e u14 ⟨lu14, yu14, rfl, pu14⟩
                rw [hLf.out] at pu14
                have k32u14 := Lib.hid (byteAt_of_own pu14)
                clear pu14 qu14
                have mu14 := mu13.trans lu14
                refine ⟨_, rfl, fun _ => mu14, ?_⟩
                simp only [Act.put, List.setIfInBounds_toArray, List.set_cons_zero, List.set_cons_succ]
                refine anyZ_call 17 _ (some 33) rfl (by kernel_rfl) (by kernel_rfl) rfl 70 #[.agg (encB H), yu14] (by go_simp) ?_
                refine (tag_any H hHl.out _ L u14 k32u14.out (by have := hmac.out; have := hsl.out; have := hbl.out; omega)).mono ?_
                rintro e u15 ⟨lu15, rfl⟩
                rw [if_neg (by have := hmac.out; have := hsl.out; have := hbl.out; omega), ← hT.out]
                have mu15 := mu14.trans lu15
                refine ⟨_, rfl, fun _ => mu15, ?_⟩
                simp only [Act.put, List.setIfInBounds_toArray, List.set_cons_zero, List.set_cons_succ]
                refine anyZ_take 18 _ (some 15) (.tuple #[.agg (encB T), .int .i64 0]) rfl (by kernel_rfl) (by kernel_rfl) (by kernel_rfl) (by kernel_rfl) (by kernel_rfl) (by decide) rfl (fun w' hS => ?_) mu15 ?_
                · go_simp
                simp only [Act.put, List.setIfInBounds_toArray, List.set_cons_zero, List.set_cons_succ]
                refine anyZ_take 19 _ (some 34) (.agg (encB T)) rfl (by kernel_rfl) (by kernel_rfl) (by kernel_rfl) (by kernel_rfl) (by kernel_rfl) (by decide) rfl (fun w' hS => ?_) mu15 ?_
                · go_simp
                simp only [Act.put, List.setIfInBounds_toArray, List.set_cons_zero, List.set_cons_succ]
                refine anyZ_take 20 _ (some 35) (.int .i64 0) rfl (by kernel_rfl) (by kernel_rfl) (by kernel_rfl) (by kernel_rfl) (by kernel_rfl) (by decide) rfl (fun w' hS => ?_) mu15 ?_
                · go_simp
                simp only [Act.put, List.setIfInBounds_toArray, List.set_cons_zero, List.set_cons_succ]
                obtain ⟨u16, su16, nu16, yu16⟩ := store16P ((lu14.trans lu15).heap x8u13.out (fun h => h)) (s' := T) (by simp) hTl.out
                have mu16 := mu15.trans' nu16 (fun k hk h => by have := gwu13; omega)
                refine anyZ_skip 22 _ rfl (by kernel_rfl) (by kernel_rfl) rfl u16 (run_store_op rfl rfl rfl su16) (fun _ => mu16) ?_
                simp only [Act.put, List.setIfInBounds_toArray, List.set_cons_zero, List.set_cons_succ]
                refine anyZ_next 23 _ (some 9) rfl (by kernel_rfl) (by kernel_rfl) rfl (.int .i64 0) u16 (by go_simp) (fun _ => mu16) ?_
                simp only [Act.put, List.setIfInBounds_toArray, List.set_cons_zero, List.set_cons_succ]
                refine anyZ_done (by kernel_rfl) ?_ _
                exact ⟨rfl, _, _, _, _, _, _, _, rfl, mu16, gwu13, yu16⟩
            · obtain ⟨u17, hu17⟩ : ∃ x, x = u4.alloc (.cells (encB (List.replicate 16 0)) 61) := ⟨_, rfl⟩
              obtain ⟨gu17, hgu17⟩ : ∃ g, g = u4.heap.size := ⟨_, rfl⟩
              have lu17 : Mod (fun _ => False) u4 u17 := by rw [hu17]; exact (Mod.refl _ _).alloc _
              have x8u17 : BytesAt16 u17 gu17 (List.replicate 16 0) := by rw [hu17]; exact hp_new _ _ _ hgu17
              have gwu17 : w6.heap.size ≤ gu17 := by rw [hgu17]; exact mu4.size
              replace hu17 := Lib.hid hu17
              replace hgu17 := Lib.hid hgu17
              replace x8u17 := Lib.hid x8u17
              have mu17 := mu4.trans lu17
              refine wpOp_valueY _ (some 8) rfl (by kernel_rfl) rfl (.pointer (some ⟨gu17, 0, none⟩)) u17 (by rw [hu17.out, hgu17.out]; exact alloc16P _ _ _ rfl) ⟨fun _ => mu17, ?_⟩
              simp only [Act.put, List.setIfInBounds_toArray, List.set_cons_zero, List.set_cons_succ]
              obtain ⟨u18, hu18⟩ : ∃ x, x = u17.alloc (.cells #[.slice sb NB cb, .slice au1 PB cu1, .slice ss NS cs, .slice au2 PS cu2, .slice au4 16 cu4] 22) := ⟨_, rfl⟩
              obtain ⟨gu18, hgu18⟩ : ∃ g, g = u17.heap.size := ⟨_, rfl⟩
              have lu18 : Mod (fun _ => False) u17 u18 := by rw [hu18]; exact (Mod.refl _ _).alloc _
              have x31u18 : u18.heap[gu18]? = some (.cells #[.slice sb NB cb, .slice au1 PB cu1, .slice ss NS cs, .slice au2 PS cu2, .slice au4 16 cu4] 22 (0,0)) := by rw [hu18]; exact hp_new _ _ _ hgu18
              replace hu18 := Lib.hid hu18
              replace hgu18 := Lib.hid hgu18
              replace x31u18 := Lib.hid x31u18
              have mu18 := mu17.trans lu18
              refine anyZ_next 15 _ (some 31) rfl (by kernel_rfl) (by kernel_rfl) rfl (.slice (some ⟨gu18, 0, none⟩) 5 5) u18 (by rw [hu18.out, hgu18.out]; go_simp) (fun _ => mu18) ?_
              simp only [Act.put, List.setIfInBounds_toArray, List.set_cons_zero, List.set_cons_succ]
              have qu19 : ListAt u18 (.slice (some ⟨gu18, 0, none⟩) 5 5) (macL s b) := by
                rw [hmacL.out]
                exact listAt5 x31u18.out (hb6.out.mod mu18 (fun _ _ h => h)) (k21u1.out.mod ((((lu2.trans lu3).trans lu4).trans lu17).trans lu18) (fun _ _ h => h)) (hs6.out.mod mu18 (fun _ _ h => h)) (k24u2.out.mod (((lu3.trans lu4).trans lu17).trans lu18) (fun _ _ h => h)) (k30u4.out.mod (lu17.trans lu18) (fun _ _ h => h))
              refine anyZ_call 16 _ (some 32) rfl (by kernel_rfl) (by kernel_rfl) rfl 19 #[.slice (some ⟨gu18, 0, none⟩) 5 5] (by go_simp) ?_
              refine (concat_any _ (macL s b) u18 qu19 (by rw [hmacL.out]; simp) (by rw [hLf.out]; have := hmac.out; have := hsl.out; have := hbl.out; omega)).mono ?_
              rintro e u19 ⟨lu19, yu19, rfl, pu19⟩
              rw [hLf.out] at pu19
              have k32u19 := Lib.hid (byteAt_of_own pu19)
              clear pu19 qu19
              have mu19 := mu18.trans lu19
              refine ⟨_, rfl, fun _ => mu19, ?_⟩
              simp only [Act.put, List.setIfInBounds_toArray, List.set_cons_zero, List.set_cons_succ]
              refine anyZ_call 17 _ (some 33) rfl (by kernel_rfl) (by kernel_rfl) rfl 70 #[.agg (encB H), yu19] (by go_simp) ?_
              refine (tag_any H hHl.out _ L u19 k32u19.out (by have := hmac.out; have := hsl.out; have := hbl.out; omega)).mono ?_
              rintro e u20 ⟨lu20, rfl⟩
              rw [if_neg (by have := hmac.out; have := hsl.out; have := hbl.out; omega), ← hT.out]
              have mu20 := mu19.trans lu20
              refine ⟨_, rfl, fun _ => mu20, ?_⟩
              simp only [Act.put, List.setIfInBounds_toArray, List.set_cons_zero, List.set_cons_succ]
              refine anyZ_take 18 _ (some 15) (.tuple #[.agg (encB T), .int .i64 0]) rfl (by kernel_rfl) (by kernel_rfl) (by kernel_rfl) (by kernel_rfl) (by kernel_rfl) (by decide) rfl (fun w' hS => ?_) mu20 ?_
              · go_simp
              simp only [Act.put, List.setIfInBounds_toArray, List.set_cons_zero, List.set_cons_succ]
              refine anyZ_take 19 _ (some 34) (.agg (encB T)) rfl (by kernel_rfl) (by kernel_rfl) (by kernel_rfl) (by kernel_rfl) (by kernel_rfl) (by decide) rfl (fun w' hS => ?_) mu20 ?_
              · go_simp
              simp only [Act.put, List.setIfInBounds_toArray, List.set_cons_zero, List.set_cons_succ]
              refine anyZ_take 20 _ (some 35) (.int .i64 0) rfl (by kernel_rfl) (by kernel_rfl) (by kernel_rfl) (by kernel_rfl) (by kernel_rfl) (by decide) rfl (fun w' hS => ?_) mu20 ?_
              · go_simp
              simp only [Act.put, List.setIfInBounds_toArray, List.set_cons_zero, List.set_cons_succ]
              obtain ⟨u21, su21, nu21, yu21⟩ := store16P (((lu18.trans lu19).trans lu20).heap x8u17.out (fun h => h)) (s' := T) (by simp) hTl.out
              have mu21 := mu20.trans' nu21 (fun k hk h => by have := gwu17; omega)
              refine anyZ_skip 22 _ rfl (by kernel_rfl) (by kernel_rfl) rfl u21 (run_store_op rfl rfl rfl su21) (fun _ => mu21) ?_
              simp only [Act.put, List.setIfInBounds_toArray, List.set_cons_zero, List.set_cons_succ]
              refine anyZ_next 23 _ (some 9) rfl (by kernel_rfl) (by kernel_rfl) rfl (.int .i64 0) u21 (by go_simp) (fun _ => mu21) ?_
              simp only [Act.put, List.setIfInBounds_toArray, List.set_cons_zero, List.set_cons_succ]
              refine anyZ_done (by kernel_rfl) ?_ _
              exact ⟨rfl, _, _, _, _, _, _, _, rfl, mu21, gwu17, yu21⟩
          · obtain ⟨u22, hu22⟩ : ∃ x, x = u3.alloc (.cells (encB (List.replicate 16 0)) 61) := ⟨_, rfl⟩
            obtain ⟨gu22, hgu22⟩ : ∃ g, g = u3.heap.size := ⟨_, rfl⟩
            have lu22 : Mod (fun _ => False) u3 u22 := by rw [hu22]; exact (Mod.refl _ _).alloc _
            have x8u22 : BytesAt16 u22 gu22 (List.replicate 16 0) := by rw [hu22]; exact hp_new _ _ _ hgu22
            have gwu22 : w6.heap.size ≤ gu22 := by rw [hgu22]; exact mu3.size
            replace hu22 := Lib.hid hu22
            replace hgu22 := Lib.hid hgu22
            replace x8u22 := Lib.hid x8u22
            have mu22 := mu3.trans lu22
            refine wpOp_valueY _ (some 8) rfl (by kernel_rfl) rfl (.pointer (some ⟨gu22, 0, none⟩)) u22 (by rw [hu22.out, hgu22.out]; exact alloc16P _ _ _ rfl) ⟨fun _ => mu22, ?_⟩
            simp only [Act.put, List.setIfInBounds_toArray, List.set_cons_zero, List.set_cons_succ]
            refine anyZ_call 14 _ (some 30) rfl (by kernel_rfl) (by kernel_rfl) rfl 72 #[.slice (some ⟨gu3, 0, none⟩) 2 2] (by go_simp) ?_
            refine (eights_any NB NS (by omega) (by omega) gu3 3 u22 (lu22.heap x29u3.out (fun h => h))).mono ?_
            rintro e u23 ⟨lu23, yu23, rfl, pu23⟩
            rw [hE8n.out] at pu23
            obtain ⟨au23, cu23, rfl⟩ := pu23.sliceN hE16.out
            have mu23 := mu22.trans lu23
            have k30u23 := Lib.hid pu23
            clear pu23
            refine ⟨_, rfl, fun _ => mu23, ?_⟩
            simp only [Act.put, List.setIfInBounds_toArray, List.set_cons_zero, List.set_cons_succ]
            obtain ⟨u24, hu24⟩ : ∃ x, x = u23.alloc (.cells #[.slice sb NB cb, .slice au1 PB cu1, .slice ss NS cs, .slice au2 PS cu2, .slice au23 16 cu23] 22) := ⟨_, rfl⟩
            obtain ⟨gu24, hgu24⟩ : ∃ g, g = u23.heap.size := ⟨_, rfl⟩
            have lu24 : Mod (fun _ => False) u23 u24 := by rw [hu24]; exact (Mod.refl _ _).alloc _
            have x31u24 : u24.heap[gu24]? = some (.cells #[.slice sb NB cb, .slice au1 PB cu1, .slice ss NS cs, .slice au2 PS cu2, .slice au23 16 cu23] 22 (0,0)) := by rw [hu24]; exact hp_new _ _ _ hgu24
            replace hu24 := Lib.hid hu24
            replace hgu24 := Lib.hid hgu24
            replace x31u24 := Lib.hid x31u24
            have mu24 := mu23.trans lu24
            refine anyZ_next 15 _ (some 31) rfl (by kernel_rfl) (by kernel_rfl) rfl (.slice (some ⟨gu24, 0, none⟩) 5 5) u24 (by rw [hu24.out, hgu24.out]; go_simp) (fun _ => mu24) ?_
            simp only [Act.put, List.setIfInBounds_toArray, List.set_cons_zero, List.set_cons_succ]
            have qu25 : ListAt u24 (.slice (some ⟨gu24, 0, none⟩) 5 5) (macL s b) := by
              rw [hmacL.out]
              exact listAt5 x31u24.out (hb6.out.mod mu24 (fun _ _ h => h)) (k21u1.out.mod ((((lu2.trans lu3).trans lu22).trans lu23).trans lu24) (fun _ _ h => h)) (hs6.out.mod mu24 (fun _ _ h => h)) (k24u2.out.mod (((lu3.trans lu22).trans lu23).trans lu24) (fun _ _ h => h)) (k30u23.out.mod lu24 (fun _ _ h => h))
            refine anyZ_call 16 _ (some 32) rfl (by kernel_rfl) (by kernel_rfl) rfl 19 #[.slice (some ⟨gu24, 0, none⟩) 5 5] (by go_simp) ?_
            refine (concat_any _ (macL s b) u24 qu25 (by rw [hmacL.out]; simp) (by rw [hLf.out]; have := hmac.out; have := hsl.out; have := hbl.out; omega)).mono ?_
            rintro e u25 ⟨lu25, yu25, rfl, pu25⟩
            rw [hLf.out] at pu25
            have k32u25 := Lib.hid (byteAt_of_own pu25)
            clear pu25 qu25
            have mu25 := mu24.trans lu25
            refine ⟨_, rfl, fun _ => mu25, ?_⟩
            simp only [Act.put, List.setIfInBounds_toArray, List.set_cons_zero, List.set_cons_succ]
            refine anyZ_call 17 _ (some 33) rfl (by kernel_rfl) (by kernel_rfl) rfl 70 #[.agg (encB H), yu25] (by go_simp) ?_
            refine (tag_any H hHl.out _ L u25 k32u25.out (by have := hmac.out; have := hsl.out; have := hbl.out; omega)).mono ?_
            rintro e u26 ⟨lu26, rfl⟩
            rw [if_neg (by have := hmac.out; have := hsl.out; have := hbl.out; omega), ← hT.out]
            have mu26 := mu25.trans lu26
            refine ⟨_, rfl, fun _ => mu26, ?_⟩
            simp only [Act.put, List.setIfInBounds_toArray, List.set_cons_zero, List.set_cons_succ]
            refine anyZ_take 18 _ (some 15) (.tuple #[.agg (encB T), .int .i64 0]) rfl (by kernel_rfl) (by kernel_rfl) (by kernel_rfl) (by kernel_rfl) (by kernel_rfl) (by decide) rfl (fun w' hS => ?_) mu26 ?_
            · go_simp
            simp only [Act.put, List.setIfInBounds_toArray, List.set_cons_zero, List.set_cons_succ]
            refine anyZ_take 19 _ (some 34) (.agg (encB T)) rfl (by kernel_rfl) (by kernel_rfl) (by kernel_rfl) (by kernel_rfl) (by kernel_rfl) (by decide) rfl (fun w' hS => ?_) mu26 ?_
            · go_simp
            simp only [Act.put, List.setIfInBounds_toArray, List.set_cons_zero, List.set_cons_succ]
            refine anyZ_take 20 _ (some 35) (.int .i64 0) rfl (by kernel_rfl) (by kernel_rfl) (by kernel_rfl) (by kernel_rfl) (by kernel_rfl) (by decide) rfl (fun w' hS => ?_) mu26 ?_
            · go_simp
            simp only [Act.put, List.setIfInBounds_toArray, List.set_cons_zero, List.set_cons_succ]
            obtain ⟨u27, su27, nu27, yu27⟩ := store16P ((((lu23.trans lu24).trans lu25).trans lu26).heap x8u22.out (fun h => h)) (s' := T) (by simp) hTl.out
            have mu27 := mu26.trans' nu27 (fun k hk h => by have := gwu22; omega)
            refine anyZ_skip 22 _ rfl (by kernel_rfl) (by kernel_rfl) rfl u27 (run_store_op rfl rfl rfl su27) (fun _ => mu27) ?_
            simp only [Act.put, List.setIfInBounds_toArray, List.set_cons_zero, List.set_cons_succ]
            refine anyZ_next 23 _ (some 9) rfl (by kernel_rfl) (by kernel_rfl) rfl (.int .i64 0) u27 (by go_simp) (fun _ => mu27) ?_
            simp only [Act.put, List.setIfInBounds_toArray, List.set_cons_zero, List.set_cons_succ]
            refine anyZ_done (by kernel_rfl) ?_ _
            exact ⟨rfl, _, _, _, _, _, _, _, rfl, mu27, gwu22, yu27⟩
        · obtain ⟨u28, hu28⟩ : ∃ x, x = u2.alloc (.cells (encB (List.replicate 16 0)) 61) := ⟨_, rfl⟩
          obtain ⟨gu28, hgu28⟩ : ∃ g, g = u2.heap.size := ⟨_, rfl⟩
          have lu28 : Mod (fun _ => False) u2 u28 := by rw [hu28]; exact (Mod.refl _ _).alloc _
          have x8u28 : BytesAt16 u28 gu28 (List.replicate 16 0) := by rw [hu28]; exact hp_new _ _ _ hgu28
          have gwu28 : w6.heap.size ≤ gu28 := by rw [hgu28]; exact mu2.size
          replace hu28 := Lib.hid hu28
          replace hgu28 := Lib.hid hgu28
          replace x8u28 := Lib.hid x8u28
          have mu28 := mu2.trans lu28
          refine wpOp_valueY _ (some 8) rfl (by kernel_rfl) rfl (.pointer (some ⟨gu28, 0, none⟩)) u28 (by rw [hu28.out, hgu28.out]; exact alloc16P _ _ _ rfl) ⟨fun _ => mu28, ?_⟩
          simp only [Act.put, List.setIfInBounds_toArray, List.set_cons_zero, List.set_cons_succ]
          obtain ⟨u29, hu29⟩ : ∃ x, x = u28.alloc (.cells #[.int .i64 (NB : Int), .int .i64 (NS : Int)] 3) := ⟨_, rfl⟩
          obtain ⟨gu29, hgu29⟩ : ∃ g, g = u28.heap.size := ⟨_, rfl⟩
          have lu29 : Mod (fun _ => False) u28 u29 := by rw [hu29]; exact (Mod.refl _ _).alloc _
          have x29u29 : u29.heap[gu29]? = some (.cells #[.int .i64 (NB : Int), .int .i64 (NS : Int)] 3 (0,0)) := by rw [hu29]; exact hp_new _ _ _ hgu29
          replace hu29 := Lib.hid hu29
          replace hgu29 := Lib.hid hgu29
          replace x29u29 := Lib.hid x29u29
          have mu29 := mu28.trans lu29
          refine anyZ_next 13 _ (some 29) rfl (by kernel_rfl) (by kernel_rfl) rfl (.slice (some ⟨gu29, 0, none⟩) 2 2) u29 (by rw [hu29.out, hgu29.out]; go_simp) (fun _ => mu29) ?_
          simp only [Act.put, List.setIfInBounds_toArray, List.set_cons_zero, List.set_cons_succ]
          refine anyZ_call 14 _ (some 30) rfl (by kernel_rfl) (by kernel_rfl) rfl 72 #[.slice (some ⟨gu29, 0, none⟩) 2 2] (by go_simp) ?_
          refine (eights_any NB NS (by omega) (by omega) gu29 3 u29 x29u29.out).mono ?_
          rintro e u30 ⟨lu30, yu30, rfl, pu30⟩
          rw [hE8n.out] at pu30
          obtain ⟨au30, cu30, rfl⟩ := pu30.sliceN hE16.out
          have mu30 := mu29.trans lu30
          have k30u30 := Lib.hid pu30
          clear pu30
          refine ⟨_, rfl, fun _ => mu30, ?_⟩
          simp only [Act.put, List.setIfInBounds_toArray, List.set_cons_zero, List.set_cons_succ]
          obtain ⟨u31, hu31⟩ : ∃ x, x = u30.alloc (.cells #[.slice sb NB cb, .slice au1 PB cu1, .slice ss NS cs, .slice au2 PS cu2, .slice au30 16 cu30] 22) := ⟨_, rfl⟩
          obtain ⟨gu31, hgu31⟩ : ∃ g, g = u30.heap.size := ⟨_, rfl⟩
          have lu31 : Mod (fun _ => False) u30 u31 := by rw [hu31]; exact (Mod.refl _ _).alloc _
          have x31u31 : u31.heap[gu31]? = some (.cells #[.slice sb NB cb, .slice au1 PB cu1, .slice ss NS cs, .slice au2 PS cu2, .slice au30 16 cu30] 22 (0,0)) := by rw [hu31]; exact hp_new _ _ _ hgu31
          replace hu31 := Lib.hid hu31
          replace hgu31 := Lib.hid hgu31
          replace x31u31 := Lib.hid x31u31
          have mu31 := mu30.trans lu31
          refine anyZ_next 15 _ (some 31) rfl (by kernel_rfl) (by kernel_rfl) rfl (.slice (some ⟨gu31, 0, none⟩) 5 5) u31 (by rw [hu31.out, hgu31.out]; go_simp) (fun _ => mu31) ?_
          simp only [Act.put, List.setIfInBounds_toArray, List.set_cons_zero, List.set_cons_succ]
          have qu32 : ListAt u31 (.slice (some ⟨gu31, 0, none⟩) 5 5) (macL s b) := by
            rw [hmacL.out]
            exact listAt5 x31u31.out (hb6.out.mod mu31 (fun _ _ h => h)) (k21u1.out.mod ((((lu2.trans lu28).trans lu29).trans lu30).trans lu31) (fun _ _ h => h)) (hs6.out.mod mu31 (fun _ _ h => h)) (k24u2.out.mod (((lu28.trans lu29).trans lu30).trans lu31) (fun _ _ h => h)) (k30u30.out.mod lu31 (fun _ _ h => h))
          refine anyZ_call 16 _ (some 32) rfl (by kernel_rfl) (by kernel_rfl) rfl 19 #[.slice (some ⟨gu31, 0, none⟩) 5 5] (by go_simp) ?_
          refine (concat_any _ (macL s b) u31 qu32 (by rw [hmacL.out]; simp) (by rw [hLf.out]; have := hmac.out; have := hsl.out; have := hbl.out; omega)).mono ?_
          rintro e u32 ⟨lu32, yu32, rfl, pu32⟩
          rw [hLf.out] at pu32
          have k32u32 := Lib.hid (byteAt_of_own pu32)
          clear pu32 qu32
          have mu32 := mu31.trans lu32
          refine ⟨_, rfl, fun _ => mu32, ?_⟩
          simp only [Act.put, List.setIfInBounds_toArray, List.set_cons_zero, List.set_cons_succ]
          refine anyZ_call 17 _ (some 33) rfl (by kernel_rfl) (by kernel_rfl) rfl 70 #[.agg (encB H), yu32] (by go_simp) ?_
          refine (tag_any H hHl.out _ L u32 k32u32.out (by have := hmac.out; have := hsl.out; have := hbl.out; omega)).mono ?_
          rintro e u33 ⟨lu33, rfl⟩
          rw [if_neg (by have := hmac.out; have := hsl.out; have := hbl.out; omega), ← hT.out]
          have mu33 := mu32.trans lu33
          refine ⟨_, rfl, fun _ => mu33, ?_⟩
          simp only [Act.put, List.setIfInBounds_toArray, List.set_cons_zero, List.set_cons_succ]
          refine anyZ_take 18 _ (some 15) (.tuple #[.agg (encB T), .int .i64 0]) rfl (by kernel_rfl) (by kernel_rfl) (by kernel_rfl) (by kernel_rfl) (by kernel_rfl) (by decide) rfl (fun w' hS => ?_) mu33 ?_
          · go_simp
          simp only [Act.put, List.setIfInBounds_toArray, List.set_cons_zero, List.set_cons_succ]
          refine anyZ_take 19 _ (some 34) (.agg (encB T)) rfl (by kernel_rfl) (by kernel_rfl) (by kernel_rfl) (by kernel_rfl) (by kernel_rfl) (by decide) rfl (fun w' hS => ?_) mu33 ?_
          · go_simp
          simp only [Act.put, List.setIfInBounds_toArray, List.set_cons_zero, List.set_cons_succ]
          refine anyZ_take 20 _ (some 35) (.int .i64 0) rfl (by kernel_rfl) (by kernel_rfl) (by kernel_rfl) (by kernel_rfl) (by kernel_rfl) (by decide) rfl (fun w' hS => ?_) mu33 ?_
          · go_simp
          simp only [Act.put, List.setIfInBounds_toArray, List.set_cons_zero, List.set_cons_succ]
          obtain ⟨u34, su34, nu34, yu34⟩ := store16P (((((lu29.trans lu30).trans lu31).trans lu32).trans lu33).heap x8u28.out (fun h => h)) (s' := T) (by simp) hTl.out
          have mu34 := mu33.trans' nu34 (fun k hk h => by have := gwu28; omega)
          refine anyZ_skip 22 _ rfl (by kernel_rfl) (by kernel_rfl) rfl u34 (run_store_op rfl rfl rfl su34) (fun _ => mu34) ?_
          simp only [Act.put, List.setIfInBounds_toArray, List.set_cons_zero, List.set_cons_succ]
          refine anyZ_next 23 _ (some 9) rfl (by kernel_rfl) (by kernel_rfl) rfl (.int .i64 0) u34 (by go_simp) (fun _ => mu34) ?_
          simp only [Act.put, List.setIfInBounds_toArray, List.set_cons_zero, List.set_cons_succ]
          refine anyZ_done (by kernel_rfl) ?_ _
          exact ⟨rfl, _, _, _, _, _, _, _, rfl, mu34, gwu28, yu34⟩
      · obtain ⟨u35, hu35⟩ : ∃ x, x = u1.alloc (.cells #[.int .i64 (NB : Int), .int .i64 (NS : Int)] 3) := ⟨_, rfl⟩
        obtain ⟨gu35, hgu35⟩ : ∃ g, g = u1.heap.size := ⟨_, rfl⟩
        have lu35 : Mod (fun _ => False) u1 u35 := by rw [hu35]; exact (Mod.refl _ _).alloc _
        have x29u35 : u35.heap[gu35]? = some (.cells #[.int .i64 (NB : Int), .int .i64 (NS : Int)] 3 (0,0)) := by rw [hu35]; exact hp_new _ _ _ hgu35
        replace hu35 := Lib.hid hu35
        replace hgu35 := Lib.hid hgu35
        replace x29u35 := Lib.hid x29u35
        have mu35 := mu1.trans lu35
        refine wpOp_valueY _ (some 29) rfl (by kernel_rfl) rfl (.slice (some ⟨gu35, 0, none⟩) 2 2) u35 (by rw [hu35.out, hgu35.out]; go_simp) ⟨fun _ => mu35, ?_⟩
        simp only [Act.put, List.setIfInBounds_toArray, List.set_cons_zero, List.set_cons_succ]
        refine anyZ_fork2Y 8 21 (by kernel_rfl) ?_ ?_
        · refine wpOp_enterY _ (some 24) rfl (by kernel_rfl) rfl 71 #[.slice ss NS cs] (by go_simp) ?_
          refine (filled_any _ s (by have := hsl.out; omega) u35 (hs6.out.mod mu35 (fun _ _ h => h))).mono ?_
          rintro e u36 ⟨lu36, yu36, rfl, pu36⟩
          obtain ⟨au36, cu36, rfl⟩ := pu36.sliceN hPS.out.symm
          have mu36 := mu35.trans lu36
          have k24u36 := Lib.hid pu36
          clear pu36
          refine ⟨_, rfl, fun _ => mu36, ?_⟩
          simp only [Act.put, List.setIfInBounds_toArray, List.set_cons_zero, List.set_cons_succ]
          refine anyZ_fork2Y 14 21 (by kernel_rfl) ?_ ?_
          · refine wpOp_enterY _ (some 30) rfl (by kernel_rfl) rfl 72 #[.slice (some ⟨gu35, 0, none⟩) 2 2] (by go_simp) ?_
            refine (eights_any NB NS (by omega) (by omega) gu35 3 u36 (lu36.heap x29u35.out (fun h => h))).mono ?_
            rintro e u37 ⟨lu37, yu37, rfl, pu37⟩
            rw [hE8n.out] at pu37
            obtain ⟨au37, cu37, rfl⟩ := pu37.sliceN hE16.out
            have mu37 := mu36.trans lu37
            have k30u37 := Lib.hid pu37
            clear pu37
            refine ⟨_, rfl, fun _ => mu37, ?_⟩
            simp only [Act.put, List.setIfInBounds_toArray, List.set_cons_zero, List.set_cons_succ]
            refine anyZ_fork2Y 15 21 (by kernel_rfl) ?_ ?_
            · obtain ⟨u38, hu38⟩ : ∃ x, x = u37.alloc (.cells #[.slice sb NB cb, .slice au1 PB cu1, .slice ss NS cs, .slice au36 PS cu36, .slice au37 16 cu37] 22) := ⟨_, rfl⟩
              obtain ⟨gu38, hgu38⟩ : ∃ g, g = u37.heap.size := ⟨_, rfl⟩
              have lu38 : Mod (fun _ => False) u37 u38 := by rw [hu38]; exact (Mod.refl _ _).alloc _
              have x31u38 : u38.heap[gu38]? = some (.cells #[.slice sb NB cb, .slice au1 PB cu1, .slice ss NS cs, .slice au36 PS cu36, .slice au37 16 cu37] 22 (0,0)) := by rw [hu38]; exact hp_new _ _ _ hgu38
              replace hu38 := Lib.hid hu38
              replace hgu38 := Lib.hid hgu38
              replace x31u38 := Lib.hid x31u38
              have mu38 := mu37.trans lu38
              refine wpOp_valueY _ (some 31) rfl (by kernel_rfl) rfl (.slice (some ⟨gu38, 0, none⟩) 5 5) u38 (by rw [hu38.out, hgu38.out]; go_simp) ⟨fun _ => mu38, ?_⟩
              simp only [Act.put, List.setIfInBounds_toArray, List.set_cons_zero, List.set_cons_succ]
              refine anyZ_fork2Y 16 21 (by kernel_rfl) ?_ ?_
              · have qu39 : ListAt u38 (.slice (some ⟨gu38, 0, none⟩) 5 5) (macL s b) := by
                  rw [hmacL.out]
                  exact listAt5 x31u38.out (hb6.out.mod mu38 (fun _ _ h => h)) (k21u1.out.mod (((lu35.trans lu36).trans lu37).trans lu38) (fun _ _ h => h)) (hs6.out.mod mu38 (fun _ _ h => h)) (k24u36.out.mod (lu37.trans lu38) (fun _ _ h => h)) (k30u37.out.mod lu38 (fun _ _ h => h))
                refine wpOp_enterY _ (some 32) rfl (by kernel_rfl) rfl 19 #[.slice (some ⟨gu38, 0, none⟩) 5 5] (by go_simp) ?_
                refine (concat_any _ (macL s b) u38 qu39 (by rw [hmacL.out]; simp) (by rw [hLf.out]; have := hmac.out; have := hsl.out; have := hbl.out; omega)).mono ?_
                rintro e u39 ⟨lu39, yu39, rfl, pu39⟩
                rw [hLf.out] at pu39
                have k32u39 := Lib.hid (byteAt_of_own pu39)
                clear pu39 qu39
                have mu39 := mu38.trans lu39
                refine ⟨_, rfl, fun _ => mu39, ?_⟩
                simp only [Act.put, List.setIfInBounds_toArray, List.set_cons_zero, List.set_cons_succ]
                refine anyZ_fork2Y 17 21 (by kernel_rfl) ?_ ?_
                · refine wpOp_enterY _ (some 33) rfl (by kernel_rfl) rfl 70 #[.agg (encB H), yu39] (by go_simp) ?_
                  refine (tag_any H hHl.out _ L u39 k32u39.out (by have := hmac.out; have := hsl.out; have := hbl.out; omega)).mono ?_
                  rintro e u40 ⟨lu40, rfl⟩
                  rw [if_neg (by have := hmac.out; have := hsl.out; have := hbl.out; omega), ← hT.out]
                  have mu40 := mu39.trans lu40
                  refine ⟨_, rfl, fun _ => mu40, ?_⟩
                  simp only [Act.put, List.setIfInBounds_toArray, List.set_cons_zero, List.set_cons_succ]
                  refine anyZ_take 18 _ (some 15) (.tuple #[.agg (encB T), .int .i64 0]) rfl (by kernel_rfl) (by kernel_rfl) (by kernel_rfl) (by kernel_rfl) (by kernel_rfl) (by decide) rfl (fun w' hS => ?_) mu40 ?_
                  · go_simp
                  simp only [Act.put, List.setIfInBounds_toArray, List.set_cons_zero, List.set_cons_succ]
                  refine anyZ_take 19 _ (some 34) (.agg (encB T)) rfl (by kernel_rfl) (by kernel_rfl) (by kernel_rfl) (by kernel_rfl) (by kernel_rfl) (by decide) rfl (fun w' hS => ?_) mu40 ?_
                  · go_simp
                  simp only [Act.put, List.setIfInBounds_toArray, List.set_cons_zero, List.set_cons_succ]
                  refine anyZ_take 20 _ (some 35) (.int .i64 0) rfl (by kernel_rfl) (by kernel_rfl) (by kernel_rfl) (by kernel_rfl) (by kernel_rfl) (by decide) rfl (fun w' hS => ?_) mu40 ?_
                  · go_simp
                  simp only [Act.put, List.setIfInBounds_toArray, List.set_cons_zero, List.set_cons_succ]
                  obtain ⟨u41, hu41⟩ : ∃ x, x = u40.alloc (.cells (encB (List.replicate 16 0)) 61) := ⟨_, rfl⟩
                  obtain ⟨gu41, hgu41⟩ : ∃ g, g = u40.heap.size := ⟨_, rfl⟩
                  have lu41 : Mod (fun _ => False) u40 u41 := by rw [hu41]; exact (Mod.refl _ _).alloc _
                  have x8u41 : BytesAt16 u41 gu41 (List.replicate 16 0) := by rw [hu41]; exact hp_new _ _ _ hgu41
                  have gwu41 : w6.heap.size ≤ gu41 := by rw [hgu41]; exact mu40.size
                  replace hu41 := Lib.hid hu41
                  replace hgu41 := Lib.hid hgu41
                  replace x8u41 := Lib.hid x8u41
                  have mu41 := mu40.trans lu41
                  refine anyZ_next 21 _ (some 8) rfl (by kernel_rfl) (by kernel_rfl) rfl (.pointer (some ⟨gu41, 0, none⟩)) u41 (by rw [hu41.out, hgu41.out]; exact alloc16P _ _ _ rfl) (fun _ => mu41) ?_
                  simp only [Act.put, List.setIfInBounds_toArray, List.set_cons_zero, List.set_cons_succ]
                  obtain ⟨u42, su42, nu42, yu42⟩ := store16P x8u41.out (s' := T) (by simp) hTl.out
                  have mu42 := mu41.trans' nu42 (fun k hk h => by have := gwu41; omega)
                  refine anyZ_skip 22 _ rfl (by kernel_rfl) (by kernel_rfl) rfl u42 (run_store_op rfl rfl rfl su42) (fun _ => mu42) ?_
                  simp only [Act.put, List.setIfInBounds_toArray, List.set_cons_zero, List.set_cons_succ]
                  refine anyZ_next 23 _ (some 9) rfl (by kernel_rfl) (by kernel_rfl) rfl (.int .i64 0) u42 (by go_simp) (fun _ => mu42) ?_
                  simp only [Act.put, List.setIfInBounds_toArray, List.set_cons_zero, List.set_cons_succ]
                  refine anyZ_done (by kernel_rfl) ?_ _
                  exact ⟨rfl, _, _, _, _, _, _, _, rfl, mu42, gwu41, yu42⟩
                · obtain ⟨u43, hu43⟩ : ∃ x, x = u39.alloc (.cells (encB (List.replicate 16 0)) 61) := ⟨_, rfl⟩
                  obtain ⟨gu43, hgu43⟩ : ∃ g, g = u39.heap.size := ⟨_, rfl⟩
                  have lu43 : Mod (fun _ => False) u39 u43 := by rw [hu43]; exact (Mod.refl _ _).alloc _
                  have x8u43 : BytesAt16 u43 gu43 (List.replicate 16 0) := by rw [hu43]; exact hp_new _ _ _ hgu43
                  have gwu43 : w6.heap.size ≤ gu43 := by rw [hgu43]; exact mu39.size
                  replace hu43 := Lib.hid hu43
                  replace hgu43 := Lib.hid hgu43
                  replace x8u43 := Lib.hid x8u43
                  have mu43 := mu39.trans lu43
                  refine wpOp_valueY _ (some 8) rfl (by kernel_rfl) rfl (.pointer (some ⟨gu43, 0, none⟩)) u43 (by rw [hu43.out, hgu43.out]; exact alloc16P _ _ _ rfl) ⟨fun _ => mu43, ?_⟩
                  simp only [Act.put, List.setIfInBounds_toArray, List.set_cons_zero, List.set_cons_succ]
                  refine anyZ_call 17 _ (some 33) rfl (by kernel_rfl) (by kernel_rfl) rfl 70 #[.agg (encB H), yu39] (by go_simp) ?_
                  refine (tag_any H hHl.out _ L u43 (k32u39.out.mod lu43 (fun _ _ h => h)) (by have := hmac.out; have := hsl.out; have := hbl.out; omega)).mono ?_
                  rintro e u44 ⟨lu44, rfl⟩
                  rw [if_neg (by have := hmac.out; have := hsl.out; have := hbl.out; omega), ← hT.out]
                  have mu44 := mu43.trans lu44
                  refine ⟨_, rfl, fun _ => mu44, ?_⟩
                  simp only [Act.put, List.setIfInBounds_toArray, List.set_cons_zero, List.set_cons_succ]
                  refine anyZ_take 18 _ (some 15) (.tuple #[.agg (encB T), .int .i64 0]) rfl (by kernel_rfl) (by kernel_rfl) (by kernel_rfl) (by kernel_rfl) (by kernel_rfl) (by decide) rfl (fun w' hS => ?_) mu44 ?_
                  · go_simp
                  simp only [Act.put, List.setIfInBounds_toArray, List.set_cons_zero, List.set_cons_succ]
                  refine anyZ_take 19 _ (some 34) (.agg (encB T)) rfl (by kernel_rfl) (by kernel_rfl) (by kernel_rfl) (by kernel_rfl) (by kernel_rfl) (by decide) rfl (fun w' hS => ?_) mu44 ?_
                  · go_simp
                  simp only [Act.put, List.setIfInBounds_toArray, List.set_cons_zero, List.set_cons_succ]
                  refine anyZ_take 20 _ (some 35) (.int .i64 0) rfl (by kernel_rfl) (by kernel_rfl) (by kernel_rfl) (by kernel_rfl) (by kernel_rfl) (by decide) rfl (fun w' hS => ?_) mu44 ?_
                  · go_simp
                  simp only [Act.put, List.setIfInBounds_toArray, List.set_cons_zero, List.set_cons_succ]
                  obtain ⟨u45, su45, nu45, yu45⟩ := store16P (lu44.heap x8u43.out (fun h => h)) (s' := T) (by simp) hTl.out
                  have mu45 := mu44.trans' nu45 (fun k hk h => by have := gwu43; omega)
                  refine anyZ_skip 22 _ rfl (by kernel_rfl) (by kernel_rfl) rfl u45 (run_store_op rfl rfl rfl su45) (fun _ => mu45) ?_
                  simp only [Act.put, List.setIfInBounds_toArray, List.set_cons_zero, List.set_cons_succ]
                  refine anyZ_next 23 _ (some 9) rfl (by kernel_rfl) (by kernel_rfl) rfl (.int .i64 0) u45 (by go_simp) (fun _ => mu45) ?_
                  simp only [Act.put, List.setIfInBounds_toArray, List.set_cons_zero, List.set_cons_succ]
                  refine anyZ_done (by kernel_rfl) ?_ _
                  exact ⟨rfl, _, _, _, _, _, _, _, rfl, mu45, gwu43, yu45⟩
              · obtain ⟨u46, hu46⟩ : ∃ x, x = u38.alloc (.cells (encB (List.replicate 16 0)) 61) := ⟨_, rfl⟩
                obtain ⟨gu46, hgu46⟩ : ∃ g, g = u38.heap.size := ⟨_, rfl⟩
                have lu46 : Mod (fun _ => False) u38 u46 := by rw [hu46]; exact (Mod.refl _ _).alloc _
                have x8u46 : BytesAt16 u46 gu46 (List.replicate 16 0) := by rw [hu46]; exact hp_new _ _ _ hgu46
                have gwu46 : w6.heap.size ≤ gu46 := by rw [hgu46]; exact mu38.size
                replace hu46 := Lib.hid hu46
                replace hgu46 := Lib.hid hgu46
                replace x8u46 := Lib.hid x8u46
                have mu46 := mu38.trans lu46
                refine wpOp_valueY _ (some 8) rfl (by kernel_rfl) rfl (.pointer (some ⟨gu46, 0, none⟩)) u46 (by rw [hu46.out, hgu46.out]; exact alloc16P _ _ _ rfl) ⟨fun _ => mu46, ?_⟩
                simp only [Act.put, List.setIfInBounds_toArray, List.set_cons_zero, List.set_cons_succ]
                have qu47 : ListAt u46 (.slice (some ⟨gu38, 0, none⟩) 5 5) (macL s b) := by
                  rw [hmacL.out]
                  exact listAt5 (lu46.heap x31u38.out (fun h => h)) (hb6.out.mod mu46 (fun _ _ h => h)) (k21u1.out.mod ((((lu35.trans lu36).trans lu37).trans lu38).trans lu46) (fun _ _ h => h)) (hs6.out.mod mu46 (fun _ _ h => h)) (k24u36.out.mod ((lu37.trans lu38).trans lu46) (fun _ _ h => h)) (k30u37.out.mod (lu38.trans lu46) (fun _ _ h => h))
                refine anyZ_call 16 _ (some 32) rfl (by kernel_rfl) (by kernel_rfl) rfl 19 #[.slice (some ⟨gu38, 0, none⟩) 5 5] (by go_simp) ?_
                refine (concat_any _ (macL s b) u46 qu47 (by rw [hmacL.out]; simp) (by rw [hLf.out]; have := hmac.out; have := hsl.out; have := hbl.out; omega)).mono ?_
                rintro e u47 ⟨lu47, yu47, rfl, pu47⟩
                rw [hLf.out] at pu47
                have k32u47 := Lib.hid (byteAt_of_own pu47)
                clear pu47 qu47
                have mu47 := mu46.trans lu47
                refine ⟨_, rfl, fun _ => mu47, ?_⟩
                simp only [Act.put, List.setIfInBounds_toArray, List.set_cons_zero, List.set_cons_succ]
                refine anyZ_call 17 _ (some 33) rfl (by kernel_rfl) (by kernel_rfl) rfl 70 #[.agg (encB H), yu47] (by go_simp) ?_
                refine (tag_any H hHl.out _ L u47 k32u47.out (by have := hmac.out; have := hsl.out; have := hbl.out; omega)).mono ?_
                rintro e u48 ⟨lu48, rfl⟩
                rw [if_neg (by have := hmac.out; have := hsl.out; have := hbl.out; omega), ← hT.out]
                have mu48 := mu47.trans lu48
                refine ⟨_, rfl, fun _ => mu48, ?_⟩
                simp only [Act.put, List.setIfInBounds_toArray, List.set_cons_zero, List.set_cons_succ]
                refine anyZ_take 18 _ (some 15) (.tuple #[.agg (encB T), .int .i64 0]) rfl (by kernel_rfl) (by kernel_rfl) (by kernel_rfl) (by kernel_rfl) (by kernel_rfl) (by decide) rfl (fun w' hS => ?_) mu48 ?_
                · go_simp
                simp only [Act.put, List.setIfInBounds_toArray, List.set_cons_zero, List.set_cons_succ]
                refine anyZ_take 19 _ (some 34) (.agg (encB T)) rfl (by kernel_rfl) (by kernel_rfl) (by kernel_rfl) (by kernel_rfl) (by kernel_rfl) (by decide) rfl (fun w' hS => ?_) mu48 ?_
                · go_simp
                simp only [Act.put, List.setIfInBounds_toArray, List.set_cons_zero, List.set_cons_succ]
                refine anyZ_take 20 _ (some 35) (.int .i64 0) rfl (by kernel_rfl) (by kernel_rfl) (by kernel_rfl) (by kernel_rfl) (by kernel_rfl) (by decide) rfl (fun w' hS => ?_) mu48 ?_
                · go_simp
                simp only [Act.put, List.setIfInBounds_toArray, List.set_cons_zero, List.set_cons_succ]
                obtain ⟨u49, su49, nu49, yu49⟩ := store16P ((lu47.trans lu48).heap x8u46.out (fun h => h)) (s' := T) (by simp) hTl.out
                have mu49 := mu48.trans' nu49 (fun k hk h => by have := gwu46; omega)
                refine anyZ_skip 22 _ rfl (by kernel_rfl) (by kernel_rfl) rfl u49 (run_store_op rfl rfl rfl su49) (fun _ => mu49) ?_
                simp only [Act.put, List.setIfInBounds_toArray, List.set_cons_zero, List.set_cons_succ]
                refine anyZ_next 23 _ (some 9) rfl (by kernel_rfl) (by kernel_rfl) rfl (.int .i64 0) u49 (by go_simp) (fun _ => mu49) ?_
                simp only [Act.put, List.setIfInBounds_toArray, List.set_cons_zero, List.set_cons_succ]
                refine anyZ_done (by kernel_rfl) ?_ _
                exact ⟨rfl, _, _, _, _, _, _, _, rfl, mu49, gwu46, yu49⟩
            · obtain ⟨u50, hu50⟩ : ∃ x, x = u37.alloc (.cells (encB (List.replicate 16 0)) 61) := ⟨_, rfl⟩
              obtain ⟨gu50, hgu50⟩ : ∃ g, g = u37.heap.size := ⟨_, rfl⟩
              have lu50 : Mod (fun _ => False) u37 u50 := by rw [hu50]; exact (Mod.refl _ _).alloc _
              have x8u50 : BytesAt16 u50 gu50 (List.replicate 16 0) := by rw [hu50]; exact hp_new _ _ _ hgu50
              have gwu50 : w6.heap.size ≤ gu50 := by rw [hgu50]; exact mu37.size
              replace hu50 := Lib.hid hu50
              replace hgu50 := Lib.hid hgu50
              replace x8u50 := Lib.hid x8u50
              have mu50 := mu37.trans lu50
              refine wpOp_valueY _ (some 8) rfl (by kernel_rfl) rfl (.pointer (some ⟨gu50, 0, none⟩)) u50 (by rw [hu50.out, hgu50.out]; exact alloc16P _ _ _ rfl) ⟨fun _ => mu50, ?_⟩
              simp only [Act.put, List.setIfInBounds_toArray, List.set_cons_zero, List.set_cons_succ]
              obtain ⟨u51, hu51⟩ : ∃ x, x = u50.alloc (.cells #[.slice sb NB cb, .slice au1 PB cu1, .slice ss NS cs, .slice au36 PS cu36, .slice au37 16 cu37] 22) := ⟨_, rfl⟩
              obtain ⟨gu51, hgu51⟩ : ∃ g, g = u50.heap.size := ⟨_, rfl⟩
              have lu51 : Mod (fun _ => False) u50 u51 := by rw [hu51]; exact (Mod.refl _ _).alloc _
              have x31u51 : u51.heap[gu51]? = some (.cells #[.slice sb NB cb, .slice au1 PB cu1, .slice ss NS cs, .slice au36 PS cu36, .slice au37 16 cu37] 22 (0,0)) := by rw [hu51]; exact hp_new _ _ _ hgu51
              replace hu51 := Lib.hid hu51
              replace hgu51 := Lib.hid hgu51
              replace x31u51 := Lib.hid x31u51
              have mu51 := mu50.trans lu51
              refine anyZ_next 15 _ (some 31) rfl (by kernel_rfl) (by kernel_rfl) rfl (.slice (some ⟨gu51, 0, none⟩) 5 5) u51 (by rw [hu51.out, hgu51.out]; go_simp) (fun _ => mu51) ?_
              simp only [Act.put, List.setIfInBounds_toArray, List.set_cons_zero, List.set_cons_succ]
              have qu52 : ListAt u51 (.slice (some ⟨gu51, 0, none⟩) 5 5) (macL s b) := by
                rw [hmacL.out]
                exact listAt5 x31u51.out (hb6.out.mod mu51 (fun _ _ h => h)) (k21u1.out.mod ((((lu35.trans lu36).trans lu37).trans lu50).trans lu51) (fun _ _ h => h)) (hs6.out.mod mu51 (fun _ _ h => h)) (k24u36.out.mod ((lu37.trans lu50).trans lu51) (fun _ _ h => h)) (k30u37.out.mod (lu50.trans lu51) (fun _ _ h => h))
              refine anyZ_call 16 _ (some 32) rfl (by kernel_rfl) (by kernel_rfl) rfl 19 #[.slice (some ⟨gu51, 0, none⟩) 5 5] (by go_simp) ?_
              refine (concat_any _ (macL s b) u51 qu52 (by rw [hmacL.out]; simp) (by rw [hLf.out]; have := hmac.out; have := hsl.out; have := hbl.out; omega)).mono ?_
              rintro e u52 ⟨lu52, yu52, rfl, pu52⟩
              rw [hLf.out] at pu52
              have k32u52 := Lib.hid (byteAt_of_own pu52)
              clear pu52 qu52
              have mu52 := mu51.trans lu52
              refine ⟨_, rfl, fun _ => mu52, ?_⟩
              simp only [Act.put, List.setIfInBounds_toArray, List.set_cons_zero, List.set_cons_succ]
              refine anyZ_call 17 _ (some 33) rfl (by kernel_rfl) (by kernel_rfl) rfl 70 #[.agg (encB H), yu52] (by go_simp) ?_
              refine (tag_any H hHl.out _ L u52 k32u52.out (by have := hmac.out; have := hsl.out; have := hbl.out; omega)).mono ?_
              rintro e u53 ⟨lu53, rfl⟩
              rw [if_neg (by have := hmac.out; have := hsl.out; have := hbl.out; omega), ← hT.out]
              have mu53 := mu52.trans lu53
              refine ⟨_, rfl, fun _ => mu53, ?_⟩
              simp only [Act.put, List.setIfInBounds_toArray, List.set_cons_zero, List.set_cons_succ]
              refine anyZ_take 18 _ (some 15) (.tuple #[.agg (encB T), .int .i64 0]) rfl (by kernel_rfl) (by kernel_rfl) (by kernel_rfl) (by kernel_rfl) (by kernel_rfl) (by decide) rfl (fun w' hS => ?_) mu53 ?_
              · go_simp
              simp only [Act.put, List.setIfInBounds_toArray, List.set_cons_zero, List.set_cons_succ]
              refine anyZ_take 19 _ (some 34) (.agg (encB T)) rfl (by kernel_rfl) (by kernel_rfl) (by kernel_rfl) (by kernel_rfl) (by kernel_rfl) (by decide) rfl (fun w' hS => ?_) mu53 ?_
              · go_simp
              simp only [Act.put, List.setIfInBounds_toArray, List.set_cons_zero, List.set_cons_succ]
              refine anyZ_take 20 _ (some 35) (.int .i64 0) rfl (by kernel_rfl) (by kernel_rfl) (by kernel_rfl) (by kernel_rfl) (by kernel_rfl) (by decide) rfl (fun w' hS => ?_) mu53 ?_
              · go_simp
              simp only [Act.put, List.setIfInBounds_toArray, List.set_cons_zero, List.set_cons_succ]
              obtain ⟨u54, su54, nu54, yu54⟩ := store16P (((lu51.trans lu52).trans lu53).heap x8u50.out (fun h => h)) (s' := T) (by simp) hTl.out
              have mu54 := mu53.trans' nu54 (fun k hk h => by have := gwu50; omega)
              refine anyZ_skip 22 _ rfl (by kernel_rfl) (by kernel_rfl) rfl u54 (run_store_op rfl rfl rfl su54) (fun _ => mu54) ?_
              simp only [Act.put, List.setIfInBounds_toArray, List.set_cons_zero, List.set_cons_succ]
              refine anyZ_next 23 _ (some 9) rfl (by kernel_rfl) (by kernel_rfl) rfl (.int .i64 0) u54 (by go_simp) (fun _ => mu54) ?_
              simp only [Act.put, List.setIfInBounds_toArray, List.set_cons_zero, List.set_cons_succ]
              refine anyZ_done (by kernel_rfl) ?_ _
              exact ⟨rfl, _, _, _, _, _, _, _, rfl, mu54, gwu50, yu54⟩
          · obtain ⟨u55, hu55⟩ : ∃ x, x = u36.alloc (.cells (encB (List.replicate 16 0)) 61) := ⟨_, rfl⟩
            obtain ⟨gu55, hgu55⟩ : ∃ g, g = u36.heap.size := ⟨_, rfl⟩
            have lu55 : Mod (fun _ => False) u36 u55 := by rw [hu55]; exact (Mod.refl _ _).alloc _
            have x8u55 : BytesAt16 u55 gu55 (List.replicate 16 0) := by rw [hu55]; exact hp_new _ _ _ hgu55
            have gwu55 : w6.heap.size ≤ gu55 := by rw [hgu55]; exact mu36.size
            replace hu55 := Lib.hid hu55
            replace hgu55 := Lib.hid hgu55
            replace x8u55 := Lib.hid x8u55
            have mu55 := mu36.trans lu55
            refine wpOp_valueY _ (some 8) rfl (by kernel_rfl) rfl (.pointer (some ⟨gu55, 0, none⟩)) u55 (by rw [hu55.out, hgu55.out]; exact alloc16P _ _ _ rfl) ⟨fun _ => mu55, ?_⟩
            simp only [Act.put, List.setIfInBounds_toArray, List.set_cons_zero, List.set_cons_succ]
            refine anyZ_call 14 _ (some 30) rfl (by kernel_rfl) (by kernel_rfl) rfl 72 #[.slice (some ⟨gu35, 0, none⟩) 2 2] (by go_simp) ?_
            refine (eights_any NB NS (by omega) (by omega) gu35 3 u55 ((lu36.trans lu55).heap x29u35.out (fun h => h))).mono ?_
            rintro e u56 ⟨lu56, yu56, rfl, pu56⟩
            rw [hE8n.out] at pu56
            obtain ⟨au56, cu56, rfl⟩ := pu56.sliceN hE16.out
            have mu56 := mu55.trans lu56
            have k30u56 := Lib.hid pu56
            clear pu56
            refine ⟨_, rfl, fun _ => mu56, ?_⟩
            simp only [Act.put, List.setIfInBounds_toArray, List.set_cons_zero, List.set_cons_succ]
            obtain ⟨u57, hu57⟩ : ∃ x, x = u56.alloc (.cells #[.slice sb NB cb, .slice au1 PB cu1, .slice ss NS cs, .slice au36 PS cu36, .slice au56 16 cu56] 22) := ⟨_, rfl⟩
            obtain ⟨gu57, hgu57⟩ : ∃ g, g = u56.heap.size := ⟨_, rfl⟩
            have lu57 : Mod (fun _ => False) u56 u57 := by rw [hu57]; exact (Mod.refl _ _).alloc _
            have x31u57 : u57.heap[gu57]? = some (.cells #[.slice sb NB cb, .slice au1 PB cu1, .slice ss NS cs, .slice au36 PS cu36, .slice au56 16 cu56] 22 (0,0)) := by rw [hu57]; exact hp_new _ _ _ hgu57
            replace hu57 := Lib.hid hu57
            replace hgu57 := Lib.hid hgu57
            replace x31u57 := Lib.hid x31u57
            have mu57 := mu56.trans lu57
            refine anyZ_next 15 _ (some 31) rfl (by kernel_rfl) (by kernel_rfl) rfl (.slice (some ⟨gu57, 0, none⟩) 5 5) u57 (by rw [hu57.out, hgu57.out]; go_simp) (fun _ => mu57) ?_
            simp only [Act.put, List.setIfInBounds_toArray, List.set_cons_zero, List.set_cons_succ]
            have qu58 : ListAt u57 (.slice (some ⟨gu57, 0, none⟩) 5 5) (macL s b) := by
              rw [hmacL.out]
              exact listAt5 x31u57.out (hb6.out.mod mu57 (fun _ _ h => h)) (k21u1.out.mod ((((lu35.trans lu36).trans lu55).trans lu56).trans lu57) (fun _ _ h => h)) (hs6.out.mod mu57 (fun _ _ h => h)) (k24u36.out.mod ((lu55.trans lu56).trans lu57) (fun _ _ h => h)) (k30u56.out.mod lu57 (fun _ _ h => h))
            refine anyZ_call 16 _ (some 32) rfl (by kernel_rfl) (by kernel_rfl) rfl 19 #[.slice (some ⟨gu57, 0, none⟩) 5 5] (by go_simp) ?_
            refine (concat_any _ (macL s b) u57 qu58 (by rw [hmacL.out]; simp) (by rw [hLf.out]; have := hmac.out; have := hsl.out; have := hbl.out; omega)).mono ?_
            rintro e u58 ⟨lu58, yu58, rfl, pu58⟩
            rw [hLf.out] at pu58
            have k32u58 := Lib.hid (byteAt_of_own pu58)
            clear pu58 qu58
            have mu58 := mu57.trans lu58
            refine ⟨_, rfl, fun _ => mu58, ?_⟩
            simp only [Act.put, List.setIfInBounds_toArray, List.set_cons_zero, List.set_cons_succ]
            refine anyZ_call 17 _ (some 33) rfl (by kernel_rfl) (by kernel_rfl) rfl 70 #[.agg (encB H), yu58] (by go_simp) ?_
            refine (tag_any H hHl.out _ L u58 k32u58.out (by have := hmac.out; have := hsl.out; have := hbl.out; omega)).mono ?_
            rintro e u59 ⟨lu59, rfl⟩
            rw [if_neg (by have := hmac.out; have := hsl.out; have := hbl.out; omega), ← hT.out]
            have mu59 := mu58.trans lu59
            refine ⟨_, rfl, fun _ => mu59, ?_⟩
            simp only [Act.put, List.setIfInBounds_toArray, List.set_cons_zero, List.set_cons_succ]
            refine anyZ_take 18 _ (some 15) (.tuple #[.agg (encB T), .int .i64 0]) rfl (by kernel_rfl) (by kernel_rfl) (by kernel_rfl) (by kernel_rfl) (by kernel_rfl) (by decide) rfl (fun w' hS => ?_) mu59 ?_
            · go_simp
            simp only [Act.put, List.setIfInBounds_toArray, List.set_cons_zero, List.set_cons_succ]
            refine anyZ_take 19 _ (some 34) (.agg (encB T)) rfl (by kernel_rfl) (by kernel_rfl) (by kernel_rfl) (by kernel_rfl) (by kernel_rfl) (by decide) rfl (fun w' hS => ?_) mu59 ?_
            · go_simp
            simp only [Act.put, List.setIfInBounds_toArray, List.set_cons_zero, List.set_cons_succ]
            refine anyZ_take 20 _ (some 35) (.int .i64 0) rfl (by kernel_rfl) (by kernel_rfl) (by kernel_rfl) (by kernel_rfl) (by kernel_rfl) (by decide) rfl (fun w' hS => ?_) mu59 ?_
            · go_simp
            simp only [Act.put, List.setIfInBounds_toArray, List.set_cons_zero, List.set_cons_succ]
            obtain ⟨u60, su60, nu60, yu60⟩ := store16P ((((lu56.trans lu57).trans lu58).trans lu59).heap x8u55.out (fun h => h)) (s' := T) (by simp) hTl.out
            have mu60 := mu59.trans' nu60 (fun k hk h => by have := gwu55; omega)
            refine anyZ_skip 22 _ rfl (by kernel_rfl) (by kernel_rfl) rfl u60 (run_store_op rfl rfl rfl su60) (fun _ => mu60) ?_
            simp only [Act.put, List.setIfInBounds_toArray, List.set_cons_zero, List.set_cons_succ]
            refine anyZ_next 23 _ (some 9) rfl (by kernel_rfl) (by kernel_rfl) rfl (.int .i64 0) u60 (by go_simp) (fun _ => mu60) ?_
            simp only [Act.put, List.setIfInBounds_toArray, List.set_cons_zero, List.set_cons_succ]
            refine anyZ_done (by kernel_rfl) ?_ _
            exact ⟨rfl, _, _, _, _, _, _, _, rfl, mu60, gwu55, yu60⟩
        · obtain ⟨u61, hu61⟩ : ∃ x, x = u35.alloc (.cells (encB (List.replicate 16 0)) 61) := ⟨_, rfl⟩
          obtain ⟨gu61, hgu61⟩ : ∃ g, g = u35.heap.size := ⟨_, rfl⟩
          have lu61 : Mod (fun _ => False) u35 u61 := by rw [hu61]; exact (Mod.refl _ _).alloc _
          have x8u61 : BytesAt16 u61 gu61 (List.replicate 16 0) := by rw [hu61]; exact hp_new _ _ _ hgu61
          have gwu61 : w6.heap.size ≤ gu61 := by rw [hgu61]; exact mu35.size
          replace hu61 := Lib.hid hu61
          replace hgu61 := Lib.hid hgu61
          replace x8u61 := Lib.hid x8u61
          have mu61 := mu35.trans lu61
          refine wpOp_valueY _ (some 8) rfl (by kernel_rfl) rfl (.pointer (some ⟨gu61, 0, none⟩)) u61 (by rw [hu61.out, hgu61.out]; exact alloc16P _ _ _ rfl) ⟨fun _ => mu61, ?_⟩
          simp only [Act.put, List.setIfInBounds_toArray, List.set_cons_zero, List.set_cons_succ]
          refine anyZ_call 8 _ (some 24) rfl (by kernel_rfl) (by kernel_rfl) rfl 71 #[.slice ss NS cs] (by go_simp) ?_
          refine (filled_any _ s (by have := hsl.out; omega) u61 (hs6.out.mod mu61 (fun _ _ h => h))).mono ?_
          rintro e u62 ⟨lu62, yu62, rfl, pu62⟩
          obtain ⟨au62, cu62, rfl⟩ := pu62.sliceN hPS.out.symm
          have mu62 := mu61.trans lu62
          have k24u62 := Lib.hid pu62
          clear pu62
          refine ⟨_, rfl, fun _ => mu62, ?_⟩
          simp only [Act.put, List.setIfInBounds_toArray, List.set_cons_zero, List.set_cons_succ]
          refine anyZ_call 14 _ (some 30) rfl (by kernel_rfl) (by kernel_rfl) rfl 72 #[.slice (some ⟨gu35, 0, none⟩) 2 2] (by go_simp) ?_
          refine (eights_any NB NS (by omega) (by omega) gu35 3 u62 ((lu61.trans lu62).heap x29u35.out (fun h => h))).mono ?_
          rintro e u63 ⟨lu63, yu63, rfl, pu63⟩
          rw [hE8n.out] at pu63
          obtain ⟨au63, cu63, rfl⟩ := pu63.sliceN hE16.out
          have mu63 := mu62.trans lu63
          have k30u63 := Lib.hid pu63
          clear pu63
          refine ⟨_, rfl, fun _ => mu63, ?_⟩
          simp only [Act.put, List.setIfInBounds_toArray, List.set_cons_zero, List.set_cons_succ]
          obtain ⟨u64, hu64⟩ : ∃ x, x = u63.alloc (.cells #[.slice sb NB cb, .slice au1 PB cu1, .slice ss NS cs, .slice au62 PS cu62, .slice au63 16 cu63] 22) := ⟨_, rfl⟩
          obtain ⟨gu64, hgu64⟩ : ∃ g, g = u63.heap.size := ⟨_, rfl⟩
          have lu64 : Mod (fun _ => False) u63 u64 := by rw [hu64]; exact (Mod.refl _ _).alloc _
          have x31u64 : u64.heap[gu64]? = some (.cells #[.slice sb NB cb, .slice au1 PB cu1, .slice ss NS cs, .slice au62 PS cu62, .slice au63 16 cu63] 22 (0,0)) := by rw [hu64]; exact hp_new _ _ _ hgu64
          replace hu64 := Lib.hid hu64
          replace hgu64 := Lib.hid hgu64
          replace x31u64 := Lib.hid x31u64
          have mu64 := mu63.trans lu64
          refine anyZ_next 15 _ (some 31) rfl (by kernel_rfl) (by kernel_rfl) rfl (.slice (some ⟨gu64, 0, none⟩) 5 5) u64 (by rw [hu64.out, hgu64.out]; go_simp) (fun _ => mu64) ?_
          simp only [Act.put, List.setIfInBounds_toArray, List.set_cons_zero, List.set_cons_succ]
          have qu65 : ListAt u64 (.slice (some ⟨gu64, 0, none⟩) 5 5) (macL s b) := by
            rw [hmacL.out]
            exact listAt5 x31u64.out (hb6.out.mod mu64 (fun _ _ h => h)) (k21u1.out.mod ((((lu35.trans lu61).trans lu62).trans lu63).trans lu64) (fun _ _ h => h)) (hs6.out.mod mu64 (fun _ _ h => h)) (k24u62.out.mod (lu63.trans lu64) (fun _ _ h => h)) (k30u63.out.mod lu64 (fun _ _ h => h))
          refine anyZ_call 16 _ (some 32) rfl (by kernel_rfl) (by kernel_rfl) rfl 19 #[.slice (some ⟨gu64, 0, none⟩) 5 5] (by go_simp) ?_
          refine (concat_any _ (macL s b) u64 qu65 (by rw [hmacL.out]; simp) (by rw [hLf.out]; have := hmac.out; have := hsl.out; have := hbl.out; omega)).mono ?_
          rintro e u65 ⟨lu65, yu65, rfl, pu65⟩
          rw [hLf.out] at pu65
          have k32u65 := Lib.hid (byteAt_of_own pu65)
          clear pu65 qu65
          have mu65 := mu64.trans lu65
          refine ⟨_, rfl, fun _ => mu65, ?_⟩
          simp only [Act.put, List.setIfInBounds_toArray, List.set_cons_zero, List.set_cons_succ]
          refine anyZ_call 17 _ (some 33) rfl (by kernel_rfl) (by kernel_rfl) rfl 70 #[.agg (encB H), yu65] (by go_simp) ?_
          refine (tag_any H hHl.out _ L u65 k32u65.out (by have := hmac.out; have := hsl.out; have := hbl.out; omega)).mono ?_
          rintro e u66 ⟨lu66, rfl⟩
          rw [if_neg (by have := hmac.out; have := hsl.out; have := hbl.out; omega), ← hT.out]
          have mu66 := mu65.trans lu66
          refine ⟨_, rfl, fun _ => mu66, ?_⟩
          simp only [Act.put, List.setIfInBounds_toArray, List.set_cons_zero, List.set_cons_succ]
          refine anyZ_take 18 _ (some 15) (.tuple #[.agg (encB T), .int .i64 0]) rfl (by kernel_rfl) (by kernel_rfl) (by kernel_rfl) (by kernel_rfl) (by kernel_rfl) (by decide) rfl (fun w' hS => ?_) mu66 ?_
          · go_simp
          simp only [Act.put, List.setIfInBounds_toArray, List.set_cons_zero, List.set_cons_succ]
          refine anyZ_take 19 _ (some 34) (.agg (encB T)) rfl (by kernel_rfl) (by kernel_rfl) (by kernel_rfl) (by kernel_rfl) (by kernel_rfl) (by decide) rfl (fun w' hS => ?_) mu66 ?_
          · go_simp
          simp only [Act.put, List.setIfInBounds_toArray, List.set_cons_zero, List.set_cons_succ]
          refine anyZ_take 20 _ (some 35) (.int .i64 0) rfl (by kernel_rfl) (by kernel_rfl) (by kernel_rfl) (by kernel_rfl) (by kernel_rfl) (by decide) rfl (fun w' hS => ?_) mu66 ?_
          · go_simp
          simp only [Act.put, List.setIfInBounds_toArray, List.set_cons_zero, List.set_cons_succ]
          obtain ⟨u67, su67, nu67, yu67⟩ := store16P (((((lu62.trans lu63).trans lu64).trans lu65).trans lu66).heap x8u61.out (fun h => h)) (s' := T) (by simp) hTl.out
          have mu67 := mu66.trans' nu67 (fun k hk h => by have := gwu61; omega)
          refine anyZ_skip 22 _ rfl (by kernel_rfl) (by kernel_rfl) rfl u67 (run_store_op rfl rfl rfl su67) (fun _ => mu67) ?_
          simp only [Act.put, List.setIfInBounds_toArray, List.set_cons_zero, List.set_cons_succ]
          refine anyZ_next 23 _ (some 9) rfl (by kernel_rfl) (by kernel_rfl) rfl (.int .i64 0) u67 (by go_simp) (fun _ => mu67) ?_
          simp only [Act.put, List.setIfInBounds_toArray, List.set_cons_zero, List.set_cons_succ]
          refine anyZ_done (by kernel_rfl) ?_ _
          exact ⟨rfl, _, _, _, _, _, _, _, rfl, mu67, gwu61, yu67⟩
      · obtain ⟨u68, hu68⟩ : ∃ x, x = u1.alloc (.cells (encB (List.replicate 16 0)) 61) := ⟨_, rfl⟩
        obtain ⟨gu68, hgu68⟩ : ∃ g, g = u1.heap.size := ⟨_, rfl⟩
        have lu68 : Mod (fun _ => False) u1 u68 := by rw [hu68]; exact (Mod.refl _ _).alloc _
        have x8u68 : BytesAt16 u68 gu68 (List.replicate 16 0) := by rw [hu68]; exact hp_new _ _ _ hgu68
        have gwu68 : w6.heap.size ≤ gu68 := by rw [hgu68]; exact mu1.size
        replace hu68 := Lib.hid hu68
        replace hgu68 := Lib.hid hgu68
        replace x8u68 := Lib.hid x8u68
        have mu68 := mu1.trans lu68
        refine wpOp_valueY _ (some 8) rfl (by kernel_rfl) rfl (.pointer (some ⟨gu68, 0, none⟩)) u68 (by rw [hu68.out, hgu68.out]; exact alloc16P _ _ _ rfl) ⟨fun _ => mu68, ?_⟩
        simp only [Act.put, List.setIfInBounds_toArray, List.set_cons_zero, List.set_cons_succ]
        refine anyZ_fork2Y 8 13 (by kernel_rfl) ?_ ?_
        · refine wpOp_enterY _ (some 24) rfl (by kernel_rfl) rfl 71 #[.slice ss NS cs] (by go_simp) ?_
          refine (filled_any _ s (by have := hsl.out; omega) u68 (hs6.out.mod mu68 (fun _ _ h => h))).mono ?_
          rintro e u69 ⟨lu69, yu69, rfl, pu69⟩
          obtain ⟨au69, cu69, rfl⟩ := pu69.sliceN hPS.out.symm
          have mu69 := mu68.trans lu69
          have k24u69 := Lib.hid pu69
          clear pu69
          refine ⟨_, rfl, fun _ => mu69, ?_⟩
          simp only [Act.put, List.setIfInBounds_toArray, List.set_cons_zero, List.set_cons_succ]
          obtain ⟨u70, hu70⟩ : ∃ x, x = u69.alloc (.cells #[.int .i64 (NB : Int), .int .i64 (NS : Int)] 3) := ⟨_, rfl⟩
          obtain ⟨gu70, hgu70⟩ : ∃ g, g = u69.heap.size := ⟨_, rfl⟩
          have lu70 : Mod (fun _ => False) u69 u70 := by rw [hu70]; exact (Mod.refl _ _).alloc _
          have x29u70 : u70.heap[gu70]? = some (.cells #[.int .i64 (NB : Int), .int .i64 (NS : Int)] 3 (0,0)) := by rw [hu70]; exact hp_new _ _ _ hgu70
          replace hu70 := Lib.hid hu70
          replace hgu70 := Lib.hid hgu70
          replace x29u70 := Lib.hid x29u70
          have mu70 := mu69.trans lu70
          refine anyZ_next 13 _ (some 29) rfl (by kernel_rfl) (by kernel_rfl) rfl (.slice (some ⟨gu70, 0, none⟩) 2 2) u70 (by rw [hu70.out, hgu70.out]; go_simp) (fun _ => mu70) ?_
          simp only [Act.put, List.setIfInBounds_toArray, List.set_cons_zero, List.set_cons_succ]
          refine anyZ_call 14 _ (some 30) rfl (by kernel_rfl) (by kernel_rfl) rfl 72 #[.slice (some ⟨gu70, 0, none⟩) 2 2] (by go_simp) ?_
          refine (eights_any NB NS (by omega) (by omega) gu70 3 u70 x29u70.out).mono ?_
          rintro e u71 ⟨lu71, yu71, rfl, pu71⟩
          rw [hE8n.out] at pu71
          obtain ⟨au71, cu71, rfl⟩ := pu71.sliceN hE16.out
          have mu71 := mu70.trans lu71
          have k30u71 := Lib.hid pu71
          clear pu71
          refine ⟨_, rfl, fun _ => mu71, ?_⟩
          simp only [Act.put, List.setIfInBounds_toArray, List.set_cons_zero, List.set_cons_succ]
          obtain ⟨u72, hu72⟩ : ∃ x, x = u71.alloc (.cells #[.slice sb NB cb, .slice au1 PB cu1, .slice ss NS cs, .slice au69 PS cu69, .slice au71 16 cu71] 22) := ⟨_, rfl⟩
          obtain ⟨gu72, hgu72⟩ : ∃ g, g = u71.heap.size := ⟨_, rfl⟩
          have lu72 : Mod (fun _ => False) u71 u72 := by rw [hu72]; exact (Mod.refl _ _).alloc _
          have x31u72 : u72.heap[gu72]? = some (.cells #[.slice sb NB cb, .slice au1 PB cu1, .slice ss NS cs, .slice au69 PS cu69, .slice au71 16 cu71] 22 (0,0)) := by rw [hu72]; exact hp_new _ _ _ hgu72
          replace hu72 := Lib.hid hu72
          replace hgu72 := Lib.hid hgu72
          replace x31u72 := Lib.hid x31u72
          have mu72 := mu71.trans lu72
          refine anyZ_next 15 _ (some 31) rfl (by kernel_rfl) (by kernel_rfl) rfl (.slice (some ⟨gu72, 0, none⟩) 5 5) u72 (by rw [hu72.out, hgu72.out]; go_simp) (fun _ => mu72) ?_
          simp only [Act.put, List.setIfInBounds_toArray, List.set_cons_zero, List.set_cons_succ]
          have qu73 : ListAt u72 (.slice (some ⟨gu72, 0, none⟩) 5 5) (macL s b) := by
            rw [hmacL.out]
            exact listAt5 x31u72.out (hb6.out.mod mu72 (fun _ _ h => h)) (k21u1.out.mod ((((lu68.trans lu69).trans lu70).trans lu71).trans lu72) (fun _ _ h => h)) (hs6.out.mod mu72 (fun _ _ h => h)) (k24u69.out.mod ((lu70.trans lu71).trans lu72) (fun _ _ h => h)) (k30u71.out.mod lu72 (fun _ _ h => h))
          refine anyZ_call 16 _ (some 32) rfl (by kernel_rfl) (by kernel_rfl) rfl 19 #[.slice (some ⟨gu72, 0, none⟩) 5 5] (by go_simp) ?_
          refine (concat_any _ (macL s b) u72 qu73 (by rw [hmacL.out]; simp) (by rw [hLf.out]; have := hmac.out; have := hsl.out; have := hbl.out; omega)).mono ?_
          rintro e u73 ⟨lu73, yu73, rfl, pu73⟩
          rw [hLf.out] at pu73
          have k32u73 := Lib.hid (byteAt_of_own pu73)
          clear pu73 qu73
          have mu73 := mu72.trans lu73
          refine ⟨_, rfl, fun _ => mu73, ?_⟩
          simp only [Act.put, List.setIfInBounds_toArray, List.set_cons_zero, List.set_cons_succ]
          refine anyZ_call 17 _ (some 33) rfl (by kernel_rfl) (by kernel_rfl) rfl 70 #[.agg (encB H), yu73] (by go_simp) ?_
          refine (tag_any H hHl.out _ L u73 k32u73.out (by have := hmac.out; have := hsl.out; have := hbl.out; omega)).mono ?_
          rintro e u74 ⟨lu74, rfl⟩
          rw [if_neg (by have := hmac.out; have := hsl.out; have := hbl.out; omega), ← hT.out]
          have mu74 := mu73.trans lu74
          refine ⟨_, rfl, fun _ => mu74, ?_⟩
          simp only [Act.put, List.setIfInBounds_toArray, List.set_cons_zero, List.set_cons_succ]
          refine anyZ_take 18 _ (some 15) (.tuple #[.agg (encB T), .int .i64 0]) rfl (by kernel_rfl) (by kernel_rfl) (by kernel_rfl) (by kernel_rfl) (by kernel_rfl) (by decide) rfl (fun w' hS => ?_) mu74 ?_
          · go_simp
          simp only [Act.put, List.setIfInBounds_toArray, List.set_cons_zero, List.set_cons_succ]
          refine anyZ_take 19 _ (some 34) (.agg (encB T)) rfl (by kernel_rfl) (by kernel_rfl) (by kernel_rfl) (by kernel_rfl) (by kernel_rfl) (by decide) rfl (fun w' hS => ?_) mu74 ?_
          · go_simp
          simp only [Act.put, List.setIfInBounds_toArray, List.set_cons_zero, List.set_cons_succ]
          refine anyZ_take 20 _ (some 35) (.int .i64 0) rfl (by kernel_rfl) (by kernel_rfl) (by kernel_rfl) (by kernel_rfl) (by kernel_rfl) (by decide) rfl (fun w' hS => ?_) mu74 ?_
          · go_simp
          simp only [Act.put, List.setIfInBounds_toArray, List.set_cons_zero, List.set_cons_succ]
          obtain ⟨u75, su75, nu75, yu75⟩ := store16P ((((((lu69.trans lu70).trans lu71).trans lu72).trans lu73).trans lu74).heap x8u68.out (fun h => h)) (s' := T) (by simp) hTl.out
          have mu75 := mu74.trans' nu75 (fun k hk h => by have := gwu68; omega)
          refine anyZ_skip 22 _ rfl (by kernel_rfl) (by kernel_rfl) rfl u75 (run_store_op rfl rfl rfl su75) (fun _ => mu75) ?_
          simp only [Act.put, List.setIfInBounds_toArray, List.set_cons_zero, List.set_cons_succ]
          refine anyZ_next 23 _ (some 9) rfl (by kernel_rfl) (by kernel_rfl) rfl (.int .i64 0) u75 (by go_simp) (fun _ => mu75) ?_
          simp only [Act.put, List.setIfInBounds_toArray, List.set_cons_zero, List.set_cons_succ]
          refine anyZ_done (by kernel_rfl) ?_ _
          exact ⟨rfl, _, _, _, _, _, _, _, rfl, mu75, gwu68, yu75⟩
        · obtain ⟨u76, hu76⟩ : ∃ x, x = u68.alloc (.cells #[.int .i64 (NB : Int), .int .i64 (NS : Int)] 3) := ⟨_, rfl⟩
          obtain ⟨gu76, hgu76⟩ : ∃ g, g = u68.heap.size := ⟨_, rfl⟩
          have lu76 : Mod (fun _ => False) u68 u76 := by rw [hu76]; exact (Mod.refl _ _).alloc _
          have x29u76 : u76.heap[gu76]? = some (.cells #[.int .i64 (NB : Int), .int .i64 (NS : Int)] 3 (0,0)) := by rw [hu76]; exact hp_new _ _ _ hgu76
          replace hu76 := Lib.hid hu76
          replace hgu76 := Lib.hid hgu76
          replace x29u76 := Lib.hid x29u76
          have mu76 := mu68.trans lu76
          refine wpOp_valueY _ (some 29) rfl (by kernel_rfl) rfl (.slice (some ⟨gu76, 0, none⟩) 2 2) u76 (by rw [hu76.out, hgu76.out]; go_simp) ⟨fun _ => mu76, ?_⟩
          simp only [Act.put, List.setIfInBounds_toArray, List.set_cons_zero, List.set_cons_succ]
          refine anyZ_call 8 _ (some 24) rfl (by kernel_rfl) (by kernel_rfl) rfl 71 #[.slice ss NS cs] (by go_simp) ?_
          refine (filled_any _ s (by have := hsl.out; omega) u76 (hs6.out.mod mu76 (fun _ _ h => h))).mono ?_
          rintro e u77 ⟨lu77, yu77, rfl, pu77⟩
          obtain ⟨au77, cu77, rfl⟩ := pu77.sliceN hPS.out.symm
          have mu77 := mu76.trans lu77
          have k24u77 := Lib.hid pu77
          clear pu77
          refine ⟨_, rfl, fun _ => mu77, ?_⟩
          simp only [Act.put, List.setIfInBounds_toArray, List.set_cons_zero, List.set_cons_succ]
          refine anyZ_call 14 _ (some 30) rfl (by kernel_rfl) (by kernel_rfl) rfl 72 #[.slice (some ⟨gu76, 0, none⟩) 2 2] (by go_simp) ?_
          refine (eights_any NB NS (by omega) (by omega) gu76 3 u77 (lu77.heap x29u76.out (fun h => h))).mono ?_
          rintro e u78 ⟨lu78, yu78, rfl, pu78⟩
          rw [hE8n.out] at pu78
          obtain ⟨au78, cu78, rfl⟩ := pu78.sliceN hE16.out
          have mu78 := mu77.trans lu78
          have k30u78 := Lib.hid pu78
          clear pu78
          refine ⟨_, rfl, fun _ => mu78, ?_⟩
          simp only [Act.put, List.setIfInBounds_toArray, List.set_cons_zero, List.set_cons_succ]
          obtain ⟨u79, hu79⟩ : ∃ x, x = u78.alloc (.cells #[.slice sb NB cb, .slice au1 PB cu1, .slice ss NS cs, .slice au77 PS cu77, .slice au78 16 cu78] 22) := ⟨_, rfl⟩
          obtain ⟨gu79, hgu79⟩ : ∃ g, g = u78.heap.size := ⟨_, rfl⟩
          have lu79 : Mod (fun _ => False) u78 u79 := by rw [hu79]; exact (Mod.refl _ _).alloc _
          have x31u79 : u79.heap[gu79]? = some (.cells #[.slice sb NB cb, .slice au1 PB cu1, .slice ss NS cs, .slice au77 PS cu77, .slice au78 16 cu78] 22 (0,0)) := by rw [hu79]; exact hp_new _ _ _ hgu79
          replace hu79 := Lib.hid hu79
          replace hgu79 := Lib.hid hgu79
          replace x31u79 := Lib.hid x31u79
          have mu79 := mu78.trans lu79
          refine anyZ_next 15 _ (some 31) rfl (by kernel_rfl) (by kernel_rfl) rfl (.slice (some ⟨gu79, 0, none⟩) 5 5) u79 (by rw [hu79.out, hgu79.out]; go_simp) (fun _ => mu79) ?_
          simp only [Act.put, List.setIfInBounds_toArray, List.set_cons_zero, List.set_cons_succ]
          have qu80 : ListAt u79 (.slice (some ⟨gu79, 0, none⟩) 5 5) (macL s b) := by
            rw [hmacL.out]
            exact listAt5 x31u79.out (hb6.out.mod mu79 (fun _ _ h => h)) (k21u1.out.mod ((((lu68.trans lu76).trans lu77).trans lu78).trans lu79) (fun _ _ h => h)) (hs6.out.mod mu79 (fun _ _ h => h)) (k24u77.out.mod (lu78.trans lu79) (fun _ _ h => h)) (k30u78.out.mod lu79 (fun _ _ h => h))
          refine anyZ_call 16 _ (some 32) rfl (by kernel_rfl) (by kernel_rfl) rfl 19 #[.slice (some ⟨gu79, 0, none⟩) 5 5] (by go_simp) ?_
          refine (concat_any _ (macL s b) u79 qu80 (by rw [hmacL.out]; simp) (by rw [hLf.out]; have := hmac.out; have := hsl.out; have := hbl.out; omega)).mono ?_
          rintro e u80 ⟨lu80, yu80, rfl, pu80⟩
          rw [hLf.out] at pu80
          have k32u80 := Lib.hid (byteAt_of_own pu80)
          clear pu80 qu80
          have mu80 := mu79.trans lu80
          refine ⟨_, rfl, fun _ => mu80, ?_⟩
          simp only [Act.put, List.setIfInBounds_toArray, List.set_cons_zero, List.set_cons_succ]
          refine anyZ_call 17 _ (some 33) rfl (by kernel_rfl) (by kernel_rfl) rfl 70 #[.agg (encB H), yu80] (by go_simp) ?_
          refine (tag_any H hHl.out _ L u80 k32u80.out (by have := hmac.out; have := hsl.out; have := hbl.out; omega)).mono ?_
          rintro e u81 ⟨lu81, rfl⟩
          rw [if_neg (by have := hmac.out; have := hsl.out; have := hbl.out; omega), ← hT.out]
          have mu81 := mu80.trans lu81
          refine ⟨_, rfl, fun _ => mu81, ?_⟩
          simp only [Act.put, List.setIfInBounds_toArray, List.set_cons_zero, List.set_cons_succ]
          refine anyZ_take 18 _ (some 15) (.tuple #[.agg (encB T), .int .i64 0]) rfl (by kernel_rfl) (by kernel_rfl) (by kernel_rfl) (by kernel_rfl) (by kernel_rfl) (by decide) rfl (fun w' hS => ?_) mu81 ?_
          · go_simp
          simp only [Act.put, List.setIfInBounds_toArray, List.set_cons_zero, List.set_cons_succ]
          refine anyZ_take 19 _ (some 34) (.agg (encB T)) rfl (by kernel_rfl) (by kernel_rfl) (by kernel_rfl) (by kernel_rfl) (by kernel_rfl) (by decide) rfl (fun w' hS => ?_) mu81 ?_
          · go_simp
          simp only [Act.put, List.setIfInBounds_toArray, List.set_cons_zero, List.set_cons_succ]
          refine anyZ_take 20 _ (some 35) (.int .i64 0) rfl (by kernel_rfl) (by kernel_rfl) (by kernel_rfl) (by kernel_rfl) (by kernel_rfl) (by decide) rfl (fun w' hS => ?_) mu81 ?_
          · go_simp
          simp only [Act.put, List.setIfInBounds_toArray, List.set_cons_zero, List.set_cons_succ]
          obtain ⟨u82, su82, nu82, yu82⟩ := store16P ((((((lu76.trans lu77).trans lu78).trans lu79).trans lu80).trans lu81).heap x8u68.out (fun h => h)) (s' := T) (by simp) hTl.out
          have mu82 := mu81.trans' nu82 (fun k hk h => by have := gwu68; omega)
          refine anyZ_skip 22 _ rfl (by kernel_rfl) (by kernel_rfl) rfl u82 (run_store_op rfl rfl rfl su82) (fun _ => mu82) ?_
          simp only [Act.put, List.setIfInBounds_toArray, List.set_cons_zero, List.set_cons_succ]
          refine anyZ_next 23 _ (some 9) rfl (by kernel_rfl) (by kernel_rfl) rfl (.int .i64 0) u82 (by go_simp) (fun _ => mu82) ?_
          simp only [Act.put, List.setIfInBounds_toArray, List.set_cons_zero, List.set_cons_succ]
          refine anyZ_done (by kernel_rfl) ?_ _
          exact ⟨rfl, _, _, _, _, _, _, _, rfl, mu82, gwu68, yu82⟩
    · obtain ⟨u83, hu83⟩ : ∃ x, x = wd.alloc (.cells #[.int .i64 (NB : Int), .int .i64 (NS : Int)] 3) := ⟨_, rfl⟩
      obtain ⟨gu83, hgu83⟩ : ∃ g, g = wd.heap.size := ⟨_, rfl⟩
      have lu83 : Mod (fun _ => False) wd u83 := by rw [hu83]; exact (Mod.refl _ _).alloc _
      have x29u83 : u83.heap[gu83]? = some (.cells #[.int .i64 (NB : Int), .int .i64 (NS : Int)] 3 (0,0)) := by rw [hu83]; exact hp_new _ _ _ hgu83
      replace hu83 := Lib.hid hu83
      replace hgu83 := Lib.hid hgu83
      replace x29u83 := Lib.hid x29u83
      have mu83 := md.trans lu83
      refine wpOp_valueY _ (some 29) rfl (by kernel_rfl) rfl (.slice (some ⟨gu83, 0, none⟩) 2 2) u83 (by rw [hu83.out, hgu83.out]; go_simp) ⟨fun _ => mu83, ?_⟩
      simp only [Act.put, List.setIfInBounds_toArray, List.set_cons_zero, List.set_cons_succ]
      refine anyZ_fork2Y 5 21 (by kernel_rfl) ?_ ?_
      · refine wpOp_enterY _ (some 21) rfl (by kernel_rfl) rfl 71 #[.slice sb NB cb] (by go_simp) ?_
        refine (filled_any _ b (by have := hbl.out; omega) u83 (hb6.out.mod mu83 (fun _ _ h => h))).mono ?_
        rintro e u84 ⟨lu84, yu84, rfl, pu84⟩
        obtain ⟨au84, cu84, rfl⟩ := pu84.sliceN hPB.out.symm
        have mu84 := mu83.trans lu84
        have k21u84 := Lib.hid pu84
        clear pu84
        refine ⟨_, rfl, fun _ => mu84, ?_⟩
        simp only [Act.put, List.setIfInBounds_toArray, List.set_cons_zero, List.set_cons_succ]
        refine anyZ_fork2Y 8 21 (by kernel_rfl) ?_ ?_
        · refine wpOp_enterY _ (some 24) rfl (by kernel_rfl) rfl 71 #[.slice ss NS cs] (by go_simp) ?_
          refine (filled_any _ s (by have := hsl.out; omega) u84 (hs6.out.mod mu84 (fun _ _ h => h))).mono ?_
          rintro e u85 ⟨lu85, yu85, rfl, pu85⟩
          obtain ⟨au85, cu85, rfl⟩ := pu85.sliceN hPS.out.symm
          have mu85 := mu84.trans lu85
          have k24u85 := Lib.hid pu85
          clear pu85
          refine ⟨_, rfl, fun _ => mu85, ?_⟩
          simp only [Act.put, List.setIfInBounds_toArray, List.set_cons_zero, List.set_cons_succ]
          refine anyZ_fork2Y 14 21 (by kernel_rfl) ?_ ?_
          · refine wpOp_enterY _ (some 30) rfl (by kernel_rfl) rfl 72 #[.slice (some ⟨gu83, 0, none⟩) 2 2] (by go_simp) ?_
            refine (eights_any NB NS (by omega) (by omega) gu83 3 u85 ((lu84.trans lu85).heap x29u83.out (fun h => h))).mono ?_
            rintro e u86 ⟨lu86, yu86, rfl, pu86⟩
            rw [hE8n.out] at pu86
            obtain ⟨au86, cu86, rfl⟩ := pu86.sliceN hE16.out
            have mu86 := mu85.trans lu86
            have k30u86 := Lib.hid pu86
            clear pu86
            refine ⟨_, rfl, fun _ => mu86, ?_⟩
            simp only [Act.put, List.setIfInBounds_toArray, List.set_cons_zero, List.set_cons_succ]
            refine anyZ_fork2Y 15 21 (by kernel_rfl) ?_ ?_
            · obtain ⟨u87, hu87⟩ : ∃ x, x = u86.alloc (.cells #[.slice sb NB cb, .slice au84 PB cu84, .slice ss NS cs, .slice au85 PS cu85, .slice au86 16 cu86] 22) := ⟨_, rfl⟩
              obtain ⟨gu87, hgu87⟩ : ∃ g, g = u86.heap.size := ⟨_, rfl⟩
              have lu87 : Mod (fun _ => False) u86 u87 := by rw [hu87]; exact (Mod.refl _ _).alloc _
              have x31u87 : u87.heap[gu87]? = some (.cells #[.slice sb NB cb, .slice au84 PB cu84, .slice ss NS cs, .slice au85 PS cu85, .slice au86 16 cu86] 22 (0,0)) := by rw [hu87]; exact hp_new _ _ _ hgu87
              replace hu87 := Lib.hid hu87
              replace hgu87 := Lib.hid hgu87
              replace x31u87 := Lib.hid x31u87
              have mu87 := mu86.trans lu87
              refine wpOp_valueY _ (some 31) rfl (by kernel_rfl) rfl (.slice (some ⟨gu87, 0, none⟩) 5 5) u87 (by rw [hu87.out, hgu87.out]; go_simp) ⟨fun _ => mu87, ?_⟩
              simp only [Act.put, List.setIfInBounds_toArray, List.set_cons_zero, List.set_cons_succ]
              refine anyZ_fork2Y 16 21 (by kernel_rfl) ?_ ?_
              · have qu88 : ListAt u87 (.slice (some ⟨gu87, 0, none⟩) 5 5) (macL s b) := by
                  rw [hmacL.out]
                  exact listAt5 x31u87.out (hb6.out.mod mu87 (fun _ _ h => h)) (k21u84.out.mod ((lu85.trans lu86).trans lu87) (fun _ _ h => h)) (hs6.out.mod mu87 (fun _ _ h => h)) (k24u85.out.mod (lu86.trans lu87) (fun _ _ h => h)) (k30u86.out.mod lu87 (fun _ _ h => h))
                refine wpOp_enterY _ (some 32) rfl (by kernel_rfl) rfl 19 #[.slice (some ⟨gu87, 0, none⟩) 5 5] (by go_simp) ?_
                refine (concat_any _ (macL s b) u87 qu88 (by rw [hmacL.out]; simp) (by rw [hLf.out]; have := hmac.out; have := hsl.out; have := hbl.out; omega)).mono ?_
                rintro e u88 ⟨lu88, yu88, rfl, pu88⟩
                rw [hLf.out] at pu88
                have k32u88 := Lib.hid (byteAt_of_own pu88)
                clear pu88 qu88
                have mu88 := mu87.trans lu88
                refine ⟨_, rfl, fun _ => mu88, ?_⟩
                simp only [Act.put, List.setIfInBounds_toArray, List.set_cons_zero, List.set_cons_succ]
                refine anyZ_fork2Y 17 21 (by kernel_rfl) ?_ ?_
                · refine wpOp_enterY _ (some 33) rfl (by kernel_rfl) rfl 70 #[.agg (encB H), yu88] (by go_simp) ?_
                  refine (tag_any H hHl.out _ L u88 k32u88.out (by have := hmac.out; have := hsl.out; have := hbl.out; omega)).mono ?_
                  rintro e u89 ⟨lu89, rfl⟩
                  rw [if_neg (by have := hmac.out; have := hsl.out; have := hbl.out; omega), ← hT.out]
                  have mu89 := mu88.trans lu89
                  refine ⟨_, rfl, fun _ => mu89, ?_⟩
                  simp only [Act.put, List.setIfInBounds_toArray, List.set_cons_zero, List.set_cons_succ]
                  refine anyZ_take 18 _ (some 15) (.tuple #[.agg (encB T), .int .i64 0]) rfl (by kernel_rfl) (by kernel_rfl) (by kernel_rfl) (by kernel_rfl) (by kernel_rfl) (by decide) rfl (fun w' hS => ?_) mu89 ?_
                  · go_simp
                  simp only [Act.put, List.setIfInBounds_toArray, List.set_cons_zero, List.set_cons_succ]
                  refine anyZ_take 19 _ (some 34) (.agg (encB T)) rfl (by kernel_rfl) (by kernel_rfl) (by kernel_rfl) (by kernel_rfl) (by kernel_rfl) (by decide) rfl (fun w' hS => ?_) mu89 ?_
                  · go_simp
                  simp only [Act.put, List.setIfInBounds_toArray, List.set_cons_zero, List.set_cons_succ]
                  refine anyZ_take 20 _ (some 35) (.int .i64 0) rfl (by kernel_rfl) (by kernel_rfl) (by kernel_rfl) (by kernel_rfl) (by kernel_rfl) (by decide) rfl (fun w' hS => ?_) mu89 ?_
                  · go_simp
                  simp only [Act.put, List.setIfInBounds_toArray, List.set_cons_zero, List.set_cons_succ]
                  obtain ⟨u90, hu90⟩ : ∃ x, x = u89.alloc (.cells (encB (List.replicate 16 0)) 61) := ⟨_, rfl⟩
                  obtain ⟨gu90, hgu90⟩ : ∃ g, g = u89.heap.size := ⟨_, rfl⟩
                  have lu90 : Mod (fun _ => False) u89 u90 := by rw [hu90]; exact (Mod.refl _ _).alloc _
                  have x8u90 : BytesAt16 u90 gu90 (List.replicate 16 0) := by rw [hu90]; exact hp_new _ _ _ hgu90
                  have gwu90 : w6.heap.size ≤ gu90 := by rw [hgu90]; exact mu89.size
                  replace hu90 := Lib.hid hu90
                  replace hgu90 := Lib.hid hgu90
                  replace x8u90 := Lib.hid x8u90
                  have mu90 := mu89.trans lu90
                  refine anyZ_next 21 _ (some 8) rfl (by kernel_rfl) (by kernel_rfl) rfl (.pointer (some ⟨gu90, 0, none⟩)) u90 (by rw [hu90.out, hgu90.out]; exact alloc16P _ _ _ rfl) (fun _ => mu90) ?_
                  simp only [Act.put, List.setIfInBounds_toArray, List.set_cons_zero, List.set_cons_succ]
                  obtain ⟨u91, su91, nu91, yu91⟩ := store16P x8u90.out (s' := T) (by simp) hTl.out
                  have mu91 := mu90.trans' nu91 (fun k hk h => by have := gwu90; omega)
                  refine anyZ_skip 22 _ rfl (by kernel_rfl) (by kernel_rfl) rfl u91 (run_store_op rfl rfl rfl su91) (fun _ => mu91) ?_
                  simp only [Act.put, List.setIfInBounds_toArray, List.set_cons_zero, List.set_cons_succ]
                  refine anyZ_next 23 _ (some 9) rfl (by kernel_rfl) (by kernel_rfl) rfl (.int .i64 0) u91 (by go_simp) (fun _ => mu91) ?_
                  simp only [Act.put, List.setIfInBounds_toArray, List.set_cons_zero, List.set_cons_succ]
                  refine anyZ_done (by kernel_rfl) ?_ _
                  exact ⟨rfl, _, _, _, _, _, _, _, rfl, mu91, gwu90, yu91⟩
                · obtain ⟨u92, hu92⟩ : ∃ x, x = u88.alloc (.cells (encB (List.replicate 16 0)) 61) := ⟨_, rfl⟩
                  obtain ⟨gu92, hgu92⟩ : ∃ g, g = u88.heap.size := ⟨_, rfl⟩
                  have lu92 : Mod (fun _ => False) u88 u92 := by rw [hu92]; exact (Mod.refl _ _).alloc _
                  have x8u92 : BytesAt16 u92 gu92 (List.replicate 16 0) := by rw [hu92]; exact hp_new _ _ _ hgu92
                  have gwu92 : w6.heap.size ≤ gu92 := by rw [hgu92]; exact mu88.size
                  replace hu92 := Lib.hid hu92
                  replace hgu92 := Lib.hid hgu92
                  replace x8u92 := Lib.hid x8u92
                  have mu92 := mu88.trans lu92
                  refine wpOp_valueY _ (some 8) rfl (by kernel_rfl) rfl (.pointer (some ⟨gu92, 0, none⟩)) u92 (by rw [hu92.out, hgu92.out]; exact alloc16P _ _ _ rfl) ⟨fun _ => mu92, ?_⟩
                  simp only [Act.put, List.setIfInBounds_toArray, List.set_cons_zero, List.set_cons_succ]
                  refine anyZ_call 17 _ (some 33) rfl (by kernel_rfl) (by kernel_rfl) rfl 70 #[.agg (encB H), yu88] (by go_simp) ?_
                  refine (tag_any H hHl.out _ L u92 (k32u88.out.mod lu92 (fun _ _ h => h)) (by have := hmac.out; have := hsl.out; have := hbl.out; omega)).mono ?_
                  rintro e u93 ⟨lu93, rfl⟩
                  rw [if_neg (by have := hmac.out; have := hsl.out; have := hbl.out; omega), ← hT.out]
                  have mu93 := mu92.trans lu93
                  refine ⟨_, rfl, fun _ => mu93, ?_⟩
                  simp only [Act.put, List.setIfInBounds_toArray, List.set_cons_zero, List.set_cons_succ]
                  refine anyZ_take 18 _ (some 15) (.tuple #[.agg (encB T), .int .i64 0]) rfl (by kernel_rfl) (by kernel_rfl) (by kernel_rfl) (by kernel_rfl) (by kernel_rfl) (by decide) rfl (fun w' hS => ?_) mu93 ?_
                  · go_simp
                  simp only [Act.put, List.setIfInBounds_toArray, List.set_cons_zero, List.set_cons_succ]
                  refine anyZ_take 19 _ (some 34) (.agg (encB T)) rfl (by kernel_rfl) (by kernel_rfl) (by kernel_rfl) (by kernel_rfl) (by kernel_rfl) (by decide) rfl (fun w' hS => ?_) mu93 ?_
                  · go_simp
                  simp only [Act.put, List.setIfInBounds_toArray, List.set_cons_zero, List.set_cons_succ]
                  refine anyZ_take 20 _ (some 35) (.int .i64 0) rfl (by kernel_rfl) (by kernel_rfl) (by kernel_rfl) (by kernel_rfl) (by kernel_rfl) (by decide) rfl (fun w' hS => ?_) mu93 ?_
                  · go_simp
                  simp only [Act.put, List.setIfInBounds_toArray, List.set_cons_zero, List.set_cons_succ]
                  obtain ⟨u94, su94, nu94, yu94⟩ := store16P (lu93.heap x8u92.out (fun h => h)) (s' := T) (by simp) hTl.out
                  have mu94 := mu93.trans' nu94 (fun k hk h => by have := gwu92; omega)
                  refine anyZ_skip 22 _ rfl (by kernel_rfl) (by kernel_rfl) rfl u94 (run_store_op rfl rfl rfl su94) (fun _ => mu94) ?_
                  simp only [Act.put, List.setIfInBounds_toArray, List.set_cons_zero, List.set_cons_succ]
                  refine anyZ_next 23 _ (some 9) rfl (by kernel_rfl) (by kernel_rfl) rfl (.int .i64 0) u94 (by go_simp) (fun _ => mu94) ?_
                  simp only [Act.put, List.setIfInBounds_toArray, List.set_cons_zero, List.set_cons_succ]
                  refine anyZ_done (by kernel_rfl) ?_ _
                  exact ⟨rfl, _, _, _, _, _, _, _, rfl, mu94, gwu92, yu94⟩
              · obtain ⟨u95, hu95⟩ : ∃ x, x = u87.alloc (.cells (encB (List.replicate 16 0)) 61) := ⟨_, rfl⟩
                obtain ⟨gu95, hgu95⟩ : ∃ g, g = u87.heap.size := ⟨_, rfl⟩
                have lu95 : Mod (fun _ => False) u87 u95 := by rw [hu95]; exact (Mod.refl _ _).alloc _
                have x8u95 : BytesAt16 u95 gu95 (List.replicate 16 0) := by rw [hu95]; exact hp_new _ _ _ hgu95
                have gwu95 : w6.heap.size ≤ gu95 := by rw [hgu95]; exact mu87.size
                replace hu95 := Lib.hid hu95
                replace hgu95 := Lib.hid hgu95
                replace x8u95 := Lib.hid x8u95
                have mu95 := mu87.trans lu95
                refine wpOp_valueY _ (some 8) rfl (by kernel_rfl) rfl (.pointer (some ⟨gu95, 0, none⟩)) u95 (by rw [hu95.out, hgu95.out]; exact alloc16P _ _ _ rfl) ⟨fun _ => mu95, ?_⟩
                simp only [Act.put, List.setIfInBounds_toArray, List.set_cons_zero, List.set_cons_succ]
                have qu96 : ListAt u95 (.slice (some ⟨gu87, 0, none⟩) 5 5) (macL s b) := by
                  rw [hmacL.out]
                  exact listAt5 (lu95.heap x31u87.out (fun h => h)) (hb6.out.mod mu95 (fun _ _ h => h)) (k21u84.out.mod (((lu85.trans lu86).trans lu87).trans lu95) (fun _ _ h => h)) (hs6.out.mod mu95 (fun _ _ h => h)) (k24u85.out.mod ((lu86.trans lu87).trans lu95) (fun _ _ h => h)) (k30u86.out.mod (lu87.trans lu95) (fun _ _ h => h))
                refine anyZ_call 16 _ (some 32) rfl (by kernel_rfl) (by kernel_rfl) rfl 19 #[.slice (some ⟨gu87, 0, none⟩) 5 5] (by go_simp) ?_
                refine (concat_any _ (macL s b) u95 qu96 (by rw [hmacL.out]; simp) (by rw [hLf.out]; have := hmac.out; have := hsl.out; have := hbl.out; omega)).mono ?_
                rintro e u96 ⟨lu96, yu96, rfl, pu96⟩
                rw [hLf.out] at pu96
                have k32u96 := Lib.hid (byteAt_of_own pu96)
                clear pu96 qu96
                have mu96 := mu95.trans lu96
                refine ⟨_, rfl, fun _ => mu96, ?_⟩
                simp only [Act.put, List.setIfInBounds_toArray, List.set_cons_zero, List.set_cons_succ]
                refine anyZ_call 17 _ (some 33) rfl (by kernel_rfl) (by kernel_rfl) rfl 70 #[.agg (encB H), yu96] (by go_simp) ?_
                refine (tag_any H hHl.out _ L u96 k32u96.out (by have := hmac.out; have := hsl.out; have := hbl.out; omega)).mono ?_
                rintro e u97 ⟨lu97, rfl⟩
                rw [if_neg (by have := hmac.out; have := hsl.out; have := hbl.out; omega), ← hT.out]
                have mu97 := mu96.trans lu97
                refine ⟨_, rfl, fun _ => mu97, ?_⟩
                simp only [Act.put, List.setIfInBounds_toArray, List.set_cons_zero, List.set_cons_succ]
                refine anyZ_take 18 _ (some 15) (.tuple #[.agg (encB T), .int .i64 0]) rfl (by kernel_rfl) (by kernel_rfl) (by kernel_rfl) (by kernel_rfl) (by kernel_rfl) (by decide) rfl (fun w' hS => ?_) mu97 ?_
                · go_simp
                simp only [Act.put, List.setIfInBounds_toArray, List.set_cons_zero, List.set_cons_succ]
                refine anyZ_take 19 _ (some 34) (.agg (encB T)) rfl (by kernel_rfl) (by kernel_rfl) (by kernel_rfl) (by kernel_rfl) (by kernel_rfl) (by decide) rfl (fun w' hS => ?_) mu97 ?_
                · go_simp
                simp only [Act.put, List.setIfInBounds_toArray, List.set_cons_zero, List.set_cons_succ]
                refine anyZ_take 20 _ (some 35) (.int .i64 0) rfl (by kernel_rfl) (by kernel_rfl) (by kernel_rfl) (by kernel_rfl) (by kernel_rfl) (by decide) rfl (fun w' hS => ?_) mu97 ?_
                · go_simp
                simp only [Act.put, List.setIfInBounds_toArray, List.set_cons_zero, List.set_cons_succ]
                obtain ⟨u98, su98, nu98, yu98⟩ := store16P ((lu96.trans lu97).heap x8u95.out (fun h => h)) (s' := T) (by simp) hTl.out
                have mu98 := mu97.trans' nu98 (fun k hk h => by have := gwu95; omega)
                refine anyZ_skip 22 _ rfl (by kernel_rfl) (by kernel_rfl) rfl u98 (run_store_op rfl rfl rfl su98) (fun _ => mu98) ?_
                simp only [Act.put, List.setIfInBounds_toArray, List.set_cons_zero, List.set_cons_succ]
                refine anyZ_next 23 _ (some 9) rfl (by kernel_rfl) (by kernel_rfl) rfl (.int .i64 0) u98 (by go_simp) (fun _ => mu98) ?_
                simp only [Act.put, List.setIfInBounds_toArray, List.set_cons_zero, List.set_cons_succ]
                refine anyZ_done (by kernel_rfl) ?_ _
                exact ⟨rfl, _, _, _, _, _, _, _, rfl, mu98, gwu95, yu98⟩
            · obtain ⟨u99, hu99⟩ : ∃ x, x = u86.alloc (.cells (encB (List.replicate 16 0)) 61) := ⟨_, rfl⟩
              obtain ⟨gu99, hgu99⟩ : ∃ g, g = u86.heap.size := ⟨_, rfl⟩
              have lu99 : Mod (fun _ => False) u86 u99 := by rw [hu99]; exact (Mod.refl _ _).alloc _
              have x8u99 : BytesAt16 u99 gu99 (List.replicate 16 0) := by rw [hu99]; exact hp_new _ _ _ hgu99
              have gwu99 : w6.heap.size ≤ gu99 := by rw [hgu99]; exact mu86.size
              replace hu99 := Lib.hid hu99
              replace hgu99 := Lib.hid hgu99
              replace x8u99 := Lib.hid x8u99
              have mu99 := mu86.trans lu99
              refine wpOp_valueY _ (some 8) rfl (by kernel_rfl) rfl (.pointer (some ⟨gu99, 0, none⟩)) u99 (by rw [hu99.out, hgu99.out]; exact alloc16P _ _ _ rfl) ⟨fun _ => mu99, ?_⟩
              simp only [Act.put, List.setIfInBounds_toArray, List.set_cons_zero, List.set_cons_succ]
              obtain ⟨u100, hu100⟩ : ∃ x, x = u99.alloc (.cells #[.slice sb NB cb, .slice au84 PB cu84, .slice ss NS cs, .slice au85 PS cu85, .slice au86 16 cu86] 22) := ⟨_, rfl⟩
              obtain ⟨gu100, hgu100⟩ : ∃ g, g = u99.heap.size := ⟨_, rfl⟩
              have lu100 : Mod (fun _ => False) u99 u100 := by rw [hu100]; exact (Mod.refl _ _).alloc _
              have x31u100 : u100.heap[gu100]? = some (.cells #[.slice sb NB cb, .slice au84 PB cu84, .slice ss NS cs, .slice au85 PS cu85, .slice au86 16 cu86] 22 (0,0)) := by rw [hu100]; exact hp_new _ _ _ hgu100
              replace hu100 := Lib.hid hu100
              replace hgu100 := Lib.hid hgu100
              replace x31u100 := Lib.hid x31u100
              have mu100 := mu99.trans lu100
              refine anyZ_next 15 _ (some 31) rfl (by kernel_rfl) (by kernel_rfl) rfl (.slice (some ⟨gu100, 0, none⟩) 5 5) u100 (by rw [hu100.out, hgu100.out]; go_simp) (fun _ => mu100) ?_
              simp only [Act.put, List.setIfInBounds_toArray, List.set_cons_zero, List.set_cons_succ]
              have qu101 : ListAt u100 (.slice (some ⟨gu100, 0, none⟩) 5 5) (macL s b) := by
                rw [hmacL.out]
                exact listAt5 x31u100.out (hb6.out.mod mu100 (fun _ _ h => h)) (k21u84.out.mod (((lu85.trans lu86).trans lu99).trans lu100) (fun _ _ h => h)) (hs6.out.mod mu100 (fun _ _ h => h)) (k24u85.out.mod ((lu86.trans lu99).trans lu100) (fun _ _ h => h)) (k30u86.out.mod (lu99.trans lu100) (fun _ _ h => h))
              refine anyZ_call 16 _ (some 32) rfl (by kernel_rfl) (by kernel_rfl) rfl 19 #[.slice (some ⟨gu100, 0, none⟩) 5 5] (by go_simp) ?_
              refine (concat_any _ (macL s b) u100 qu101 (by rw [hmacL.out]; simp) (by rw [hLf.out]; have := hmac.out; have := hsl.out; have := hbl.out; omega)).mono ?_
              rintro e u101 ⟨lu101, yu101, rfl, pu101⟩
              rw [hLf.out] at pu101
              have k32u101 := Lib.hid (byteAt_of_own pu101)
              clear pu101 qu101
              have mu101 := mu100.trans lu101
              refine ⟨_, rfl, fun _ => mu101, ?_⟩
              simp only [Act.put, List.setIfInBounds_toArray, List.set_cons_zero, List.set_cons_succ]
              refine anyZ_call 17 _ (some 33) rfl (by kernel_rfl) (by kernel_rfl) rfl 70 #[.agg (encB H), yu101] (by go_simp) ?_
              refine (tag_any H hHl.out _ L u101 k32u101.out (by have := hmac.out; have := hsl.out; have := hbl.out; omega)).mono ?_
              rintro e u102 ⟨lu102, rfl⟩
              rw [if_neg (by have := hmac.out; have := hsl.out; have := hbl.out; omega), ← hT.out]
              have mu102 := mu101.trans lu102
              refine ⟨_, rfl, fun _ => mu102, ?_⟩
              simp only [Act.put, List.setIfInBounds_toArray, List.set_cons_zero, List.set_cons_succ]
              refine anyZ_take 18 _ (some 15) (.tuple #[.agg (encB T), .int .i64 0]) rfl (by kernel_rfl) (by kernel_rfl) (by kernel_rfl) (by kernel_rfl) (by kernel_rfl) (by decide) rfl (fun w' hS => ?_) mu102 ?_
              · go_simp
              simp only [Act.put, List.setIfInBounds_toArray, List.set_cons_zero, List.set_cons_succ]
              refine anyZ_take 19 _ (some 34) (.agg (encB T)) rfl (by kernel_rfl) (by kernel_rfl) (by kernel_rfl) (by kernel_rfl) (by kernel_rfl) (by decide) rfl (fun w' hS => ?_) mu102 ?_
              · go_simp
              simp only [Act.put, List.setIfInBounds_toArray, List.set_cons_zero, List.set_cons_succ]
              refine anyZ_take 20 _ (some 35) (.int .i64 0) rfl (by kernel_rfl) (by kernel_rfl) (by kernel_rfl) (by kernel_rfl) (by kernel_rfl) (by decide) rfl (fun w' hS => ?_) mu102 ?_
              · go_simp
              simp only [Act.put, List.setIfInBounds_toArray, List.set_cons_zero, List.set_cons_succ]
              obtain ⟨u103, su103, nu103, yu103⟩ := store16P (((lu100.trans lu101).trans lu102).heap x8u99.out (fun h => h)) (s' := T) (by simp) hTl.out
              have mu103 := mu102.trans' nu103 (fun k hk h => by have := gwu99; omega)
              refine anyZ_skip 22 _ rfl (by kernel_rfl) (by kernel_rfl) rfl u103 (run_store_op rfl rfl rfl su103) (fun _ => mu103) ?_
              simp only [Act.put, List.setIfInBounds_toArray, List.set_cons_zero, List.set_cons_succ]
              refine anyZ_next 23 _ (some 9) rfl (by kernel_rfl) (by kernel_rfl) rfl (.int .i64 0) u103 (by go_simp) (fun _ => mu103) ?_
              simp only [Act.put, List.setIfInBounds_toArray, List.set_cons_zero, List.set_cons_succ]
              refine anyZ_done (by kernel_rfl) ?_ _
              exact ⟨rfl, _, _, _, _, _, _, _, rfl, mu103, gwu99, yu103⟩
          · obtain ⟨u104, hu104⟩ : ∃ x, x = u85.alloc (.cells (encB (List.replicate 16 0)) 61) := ⟨_, rfl⟩
            obtain ⟨gu104, hgu104⟩ : ∃ g, g = u85.heap.size := ⟨_, rfl⟩
            have lu104 : Mod (fun _ => False) u85 u104 := by rw [hu104]; exact (Mod.refl _ _).alloc _
            have x8u104 : BytesAt16 u104 gu104 (List.replicate 16 0) := by rw [hu104]; exact hp_new _ _ _ hgu104
            have gwu104 : w6.heap.size ≤ gu104 := by rw [hgu104]; exact mu85.size
            replace hu104 := Lib.hid hu104
            replace hgu104 := Lib.hid hgu104
            replace x8u104 := Lib.hid x8u104
            have mu104 := mu85.trans lu104
            refine wpOp_valueY _ (some 8) rfl (by kernel_rfl) rfl (.pointer (some ⟨gu104, 0, none⟩)) u104 (by rw [hu104.out, hgu104.out]; exact alloc16P _ _ _ rfl) ⟨fun _ => mu104, ?_⟩
            simp only [Act.put, List.setIfInBounds_toArray, List.set_cons_zero, List.set_cons_succ]
            refine anyZ_call 14 _ (some 30) rfl (by kernel_rfl) (by kernel_rfl) rfl 72 #[.slice (some ⟨gu83, 0, none⟩) 2 2] (by go_simp) ?_
            refine (eights_any NB NS (by omega) (by omega) gu83 3 u104 (((lu84.trans lu85).trans lu104).heap x29u83.out (fun h => h))).mono ?_
            rintro e u105 ⟨lu105, yu105, rfl, pu105⟩
            rw [hE8n.out] at pu105
            obtain ⟨au105, cu105, rfl⟩ := pu105.sliceN hE16.out
            have mu105 := mu104.trans lu105
            have k30u105 := Lib.hid pu105
            clear pu105
            refine ⟨_, rfl, fun _ => mu105, ?_⟩
            simp only [Act.put, List.setIfInBounds_toArray, List.set_cons_zero, List.set_cons_succ]
            obtain ⟨u106, hu106⟩ : ∃ x, x = u105.alloc (.cells #[.slice sb NB cb, .slice au84 PB cu84, .slice ss NS cs, .slice au85 PS cu85, .slice au105 16 cu105] 22) := ⟨_, rfl⟩
            obtain ⟨gu106, hgu106⟩ : ∃ g, g = u105.heap.size := ⟨_, rfl⟩
            have lu106 : Mod (fun _ => False) u105 u106 := by rw [hu106]; exact (Mod.refl _ _).alloc _
            have x31u106 : u106.heap[gu106]? = some (.cells #[.slice sb NB cb, .slice au84 PB cu84, .slice ss NS cs, .slice au85 PS cu85, .slice au105 16 cu105] 22 (0,0)) := by rw [hu106]; exact hp_new _ _ _ hgu106
            replace hu106 := Lib.hid hu106
            replace hgu106 := Lib.hid hgu106
            replace x31u106 := Lib.hid x31u106
            have mu106 := mu105.trans lu106
            refine anyZ_next 15 _ (some 31) rfl (by kernel_rfl) (by kernel_rfl) rfl (.slice (some ⟨gu106, 0, none⟩) 5 5) u106 (by rw [hu106.out, hgu106.out]; go_simp) (fun _ => mu106) ?_
            simp only [Act.put, List.setIfInBounds_toArray, List.set_cons_zero, List.set_cons_succ]
            have qu107 : ListAt u106 (.slice (some ⟨gu106, 0, none⟩) 5 5) (macL s b) := by
              rw [hmacL.out]
              exact listAt5 x31u106.out (hb6.out.mod mu106 (fun _ _ h => h)) (k21u84.out.mod (((lu85.trans lu104).trans lu105).trans lu106) (fun _ _ h => h)) (hs6.out.mod mu106 (fun _ _ h => h)) (k24u85.out.mod ((lu104.trans lu105).trans lu106) (fun _ _ h => h)) (k30u105.out.mod lu106 (fun _ _ h => h))
            refine anyZ_call 16 _ (some 32) rfl (by kernel_rfl) (by kernel_rfl) rfl 19 #[.slice (some ⟨gu106, 0, none⟩) 5 5] (by go_simp) ?_
            refine (concat_any _ (macL s b) u106 qu107 (by rw [hmacL.out]; simp) (by rw [hLf.out]; have := hmac.out; have := hsl.out; have := hbl.out; omega)).mono ?_
            rintro e u107 ⟨lu107, yu107, rfl, pu107⟩
            rw [hLf.out] at pu107
            have k32u107 := Lib.hid (byteAt_of_own pu107)
            clear pu107 qu107
            have mu107 := mu106.trans lu107
            refine ⟨_, rfl, fun _ => mu107, ?_⟩
            simp only [Act.put, List.setIfInBounds_toArray, List.set_cons_zero, List.set_cons_succ]
            refine anyZ_call 17 _ (some 33) rfl (by kernel_rfl) (by kernel_rfl) rfl 70 #[.agg (encB H), yu107] (by go_simp) ?_
            refine (tag_any H hHl.out _ L u107 k32u107.out (by have := hmac.out; have := hsl.out; have := hbl.out; omega)).mono ?_
            rintro e u108 ⟨lu108, rfl⟩
            rw [if_neg (by have := hmac.out; have := hsl.out; have := hbl.out; omega), ← hT.out]
            have mu108 := mu107.trans lu108
            refine ⟨_, rfl, fun _ => mu108, ?_⟩
            simp only [Act.put, List.setIfInBounds_toArray, List.set_cons_zero, List.set_cons_succ]
            refine anyZ_take 18 _ (some 15) (.tuple #[.agg (encB T), .int .i64 0]) rfl (by kernel_rfl) (by kernel_rfl) (by kernel_rfl) (by kernel_rfl) (by kernel_rfl) (by decide) rfl (fun w' hS => ?_) mu108 ?_
            · go_simp
            simp only [Act.put, List.setIfInBounds_toArray, List.set_cons_zero, List.set_cons_succ]
            refine anyZ_take 19 _ (some 34) (.agg (encB T)) rfl (by kernel_rfl) (by kernel_rfl) (by kernel_rfl) (by kernel_rfl) (by kernel_rfl) (by decide) rfl (fun w' hS => ?_) mu108 ?_
            · go_simp
            simp only [Act.put, List.setIfInBounds_toArray, List.set_cons_zero, List.set_cons_succ]
            refine anyZ_take 20 _ (some 35) (.int .i64 0) rfl (by kernel_rfl) (by kernel_rfl) (by kernel_rfl) (by kernel_rfl) (by kernel_rfl) (by decide) rfl (fun w' hS => ?_) mu108 ?_
            · go_simp
            simp only [Act.put, List.setIfInBounds_toArray, List.set_cons_zero, List.set_cons_succ]
            obtain ⟨u109, su109, nu109, yu109⟩ := store16P ((((lu105.trans lu106).trans lu107).trans lu108).heap x8u104.out (fun h => h)) (s' := T) (by simp) hTl.out
            have mu109 := mu108.trans' nu109 (fun k hk h => by have := gwu104; omega)
            refine anyZ_skip 22 _ rfl (by kernel_rfl) (by kernel_rfl) rfl u109 (run_store_op rfl rfl rfl su109) (fun _ => mu109) ?_
            simp only [Act.put, List.setIfInBounds_toArray, List.set_cons_zero, List.set_cons_succ]
            refine anyZ_next 23 _ (some 9) rfl (by kernel_rfl) (by kernel_rfl) rfl (.int .i64 0) u109 (by go_simp) (fun _ => mu109) ?_
            simp only [Act.put, List.setIfInBounds_toArray, List.set_cons_zero, List.set_cons_succ]
            refine anyZ_done (by kernel_rfl) ?_ _
            exact ⟨rfl, _, _, _, _, _, _, _, rfl, mu109, gwu104, yu109⟩
        · obtain ⟨u110, hu110⟩ : ∃ x, x = u84.alloc (.cells (encB (List.replicate 16 0)) 61) := ⟨_, rfl⟩
          obtain ⟨gu110, hgu110⟩ : ∃ g, g = u84.heap.size := ⟨_, rfl⟩
          have lu110 : Mod (fun _ => False) u84 u110 := by rw [hu110]; exact (Mod.refl _ _).alloc _
          have x8u110 : BytesAt16 u110 gu110 (List.replicate 16 0) := by rw [hu110]; exact hp_new _ _ _ hgu110
          have gwu110 : w6.heap.size ≤ gu110 := by rw [hgu110]; exact mu84.size
          replace hu110 := Lib.hid hu110
          replace hgu110 := Lib.hid hgu110
          replace x8u110 := Lib.hid x8u110
          have mu110 := mu84.trans lu110
          refine wpOp_valueY _ (some 8) rfl (by kernel_rfl) rfl (.pointer (some ⟨gu110, 0, none⟩)) u110 (by rw [hu110.out, hgu110.out]; exact alloc16P _ _ _ rfl) ⟨fun _ => mu110, ?_⟩
          simp only [Act.put, List.setIfInBounds_toArray, List.set_cons_zero, List.set_cons_succ]
          refine anyZ_call 8 _ (some 24) rfl (by kernel_rfl) (by kernel_rfl) rfl 71 #[.slice ss NS cs] (by go_simp) ?_
          refine (filled_any _ s (by have := hsl.out; omega) u110 (hs6.out.mod mu110 (fun _ _ h => h))).mono ?_
          rintro e u111 ⟨lu111, yu111, rfl, pu111⟩
          obtain ⟨au111, cu111, rfl⟩ := pu111.sliceN hPS.out.symm
          have mu111 := mu110.trans lu111
          have k24u111 := Lib.hid pu111
          clear pu111
          refine ⟨_, rfl, fun _ => mu111, ?_⟩
          simp only [Act.put, List.setIfInBounds_toArray, List.set_cons_zero, List.set_cons_succ]
          refine anyZ_call 14 _ (some 30) rfl (by kernel_rfl) (by kernel_rfl) rfl 72 #[.slice (some ⟨gu83, 0, none⟩) 2 2] (by go_simp) ?_
          refine (eights_any NB NS (by omega) (by omega) gu83 3 u111 (((lu84.trans lu110).trans lu111).heap x29u83.out (fun h => h))).mono ?_
          rintro e u112 ⟨lu112, yu112, rfl, pu112⟩
          rw [hE8n.out] at pu112
          obtain ⟨au112, cu112, rfl⟩ := pu112.sliceN hE16.out
          have mu112 := mu111.trans lu112
          have k30u112 := Lib.hid pu112
          clear pu112
          refine ⟨_, rfl, fun _ => mu112, ?_⟩
          simp only [Act.put, List.setIfInBounds_toArray, List.set_cons_zero, List.set_cons_succ]
          obtain ⟨u113, hu113⟩ : ∃ x, x = u112.alloc (.cells #[.slice sb NB cb, .slice au84 PB cu84, .slice ss NS cs, .slice au111 PS cu111, .slice au112 16 cu112] 22) := ⟨_, rfl⟩
          obtain ⟨gu113, hgu113⟩ : ∃ g, g = u112.heap.size := ⟨_, rfl⟩
          have lu113 : Mod (fun _ => False) u112 u113 := by rw [hu113]; exact (Mod.refl _ _).alloc _
          have x31u113 : u113.heap[gu113]? = some (.cells #[.slice sb NB cb, .slice au84 PB cu84, .slice ss NS cs, .slice au111 PS cu111, .slice au112 16 cu112] 22 (0,0)) := by rw [hu113]; exact hp_new _ _ _ hgu113
          replace hu113 := Lib.hid hu113
          replace hgu113 := Lib.hid hgu113
          replace x31u113 := Lib.hid x31u113
          have mu113 := mu112.trans lu113
          refine anyZ_next 15 _ (some 31) rfl (by kernel_rfl) (by kernel_rfl) rfl (.slice (some ⟨gu113, 0, none⟩) 5 5) u113 (by rw [hu113.out, hgu113.out]; go_simp) (fun _ => mu113) ?_
          simp only [Act.put, List.setIfInBounds_toArray, List.set_cons_zero, List.set_cons_succ]
          have qu114 : ListAt u113 (.slice (some ⟨gu113, 0, none⟩) 5 5) (macL s b) := by
            rw [hmacL.out]
            exact listAt5 x31u113.out (hb6.out.mod mu113 (fun _ _ h => h)) (k21u84.out.mod (((lu110.trans lu111).trans lu112).trans lu113) (fun _ _ h => h)) (hs6.out.mod mu113 (fun _ _ h => h)) (k24u111.out.mod (lu112.trans lu113) (fun _ _ h => h)) (k30u112.out.mod lu113 (fun _ _ h => h))
          refine anyZ_call 16 _ (some 32) rfl (by kernel_rfl) (by kernel_rfl) rfl 19 #[.slice (some ⟨gu113, 0, none⟩) 5 5] (by go_simp) ?_
          refine (concat_any _ (macL s b) u113 qu114 (by rw [hmacL.out]; simp) (by rw [hLf.out]; have := hmac.out; have := hsl.out; have := hbl.out; omega)).mono ?_
          rintro e u114 ⟨lu114, yu114, rfl, pu114⟩
          rw [hLf.out] at pu114
          have k32u114 := Lib.hid (byteAt_of_own pu114)
          clear pu114 qu114
          have mu114 := mu113.trans lu114
          refine ⟨_, rfl, fun _ => mu114, ?_⟩
          simp only [Act.put, List.setIfInBounds_toArray, List.set_cons_zero, List.set_cons_succ]
          refine anyZ_call 17 _ (some 33) rfl (by kernel_rfl) (by kernel_rfl) rfl 70 #[.agg (encB H), yu114] (by go_simp) ?_
          refine (tag_any H hHl.out _ L u114 k32u114.out (by have := hmac.out; have := hsl.out; have := hbl.out; omega)).mono ?_
          rintro e u115 ⟨lu115, rfl⟩
          rw [if_neg (by have := hmac.out; have := hsl.out; have := hbl.out; omega), ← hT.out]
          have mu115 := mu114.trans lu115
          refine ⟨_, rfl, fun _ => mu115, ?_⟩
          simp only [Act.put, List.setIfInBounds_toArray, List.set_cons_zero, List.set_cons_succ]
          refine anyZ_take 18 _ (some 15) (.tuple #[.agg (encB T), .int .i64 0]) rfl (by kernel_rfl) (by kernel_rfl) (by kernel_rfl) (by kernel_rfl) (by kernel_rfl) (by decide) rfl (fun w' hS => ?_) mu115 ?_
          · go_simp
          simp only [Act.put, List.setIfInBounds_toArray, List.set_cons_zero, List.set_cons_succ]
          refine anyZ_take 19 _ (some 34) (.agg (encB T)) rfl (by kernel_rfl) (by kernel_rfl) (by kernel_rfl) (by kernel_rfl) (by kernel_rfl) (by decide) rfl (fun w' hS => ?_) mu115 ?_
          · go_simp
          simp only [Act.put, List.setIfInBounds_toArray, List.set_cons_zero, List.set_cons_succ]
          refine anyZ_take 20 _ (some 35) (.int .i64 0) rfl (by kernel_rfl) (by kernel_rfl) (by kernel_rfl) (by kernel_rfl) (by kernel_rfl) (by decide) rfl (fun w' hS => ?_) mu115 ?_
          · go_simp
          simp only [Act.put, List.setIfInBounds_toArray, List.set_cons_zero, List.set_cons_succ]
          obtain ⟨u116, su116, nu116, yu116⟩ := store16P (((((lu111.trans lu112).trans lu113).trans lu114).trans lu115).heap x8u110.out (fun h => h)) (s' := T) (by simp) hTl.out
          have mu116 := mu115.trans' nu116 (fun k hk h => by have := gwu110; omega)
          refine anyZ_skip 22 _ rfl (by kernel_rfl) (by kernel_rfl) rfl u116 (run_store_op rfl rfl rfl su116) (fun _ => mu116) ?_
          simp only [Act.put, List.setIfInBounds_toArray, List.set_cons_zero, List.set_cons_succ]
          refine anyZ_next 23 _ (some 9) rfl (by kernel_rfl) (by kernel_rfl) rfl (.int .i64 0) u116 (by go_simp) (fun _ => mu116) ?_
          simp only [Act.put, List.setIfInBounds_toArray, List.set_cons_zero, List.set_cons_succ]
          refine anyZ_done (by kernel_rfl) ?_ _
          exact ⟨rfl, _, _, _, _, _, _, _, rfl, mu116, gwu110, yu116⟩
      · obtain ⟨u117, hu117⟩ : ∃ x, x = u83.alloc (.cells (encB (List.replicate 16 0)) 61) := ⟨_, rfl⟩
        obtain ⟨gu117, hgu117⟩ : ∃ g, g = u83.heap.size := ⟨_, rfl⟩
        have lu117 : Mod (fun _ => False) u83 u117 := by rw [hu117]; exact (Mod.refl _ _).alloc _
        have x8u117 : BytesAt16 u117 gu117 (List.replicate 16 0) := by rw [hu117]; exact hp_new _ _ _ hgu117
        have gwu117 : w6.heap.size ≤ gu117 := by rw [hgu117]; exact mu83.size
        replace hu117 := Lib.hid hu117
        replace hgu117 := Lib.hid hgu117
        replace x8u117 := Lib.hid x8u117
        have mu117 := mu83.trans lu117
        refine wpOp_valueY _ (some 8) rfl (by kernel_rfl) rfl (.pointer (some ⟨gu117, 0, none⟩)) u117 (by rw [hu117.out, hgu117.out]; exact alloc16P _ _ _ rfl) ⟨fun _ => mu117, ?_⟩
        simp only [Act.put, List.setIfInBounds_toArray, List.set_cons_zero, List.set_cons_succ]
        refine anyZ_call 5 _ (some 21) rfl (by kernel_rfl) (by kernel_rfl) rfl 71 #[.slice sb NB cb] (by go_simp) ?_
        refine (filled_any _ b (by have := hbl.out; omega) u117 (hb6.out.mod mu117 (fun _ _ h => h))).mono ?_
        rintro e u118 ⟨lu118, yu118, rfl, pu118⟩
        obtain ⟨au118, cu118, rfl⟩ := pu118.sliceN hPB.out.symm
        have mu118 := mu117.trans lu118
        have k21u118 := Lib.hid pu118
        clear pu118
        refine ⟨_, rfl, fun _ => mu118, ?_⟩
        simp only [Act.put, List.setIfInBounds_toArray, List.set_cons_zero, List.set_cons_succ]
        refine anyZ_call 8 _ (some 24) rfl (by kernel_rfl) (by kernel_rfl) rfl 71 #[.slice ss NS cs] (by go_simp) ?_
        refine (filled_any _ s (by have := hsl.out; omega) u118 (hs6.out.mod mu118 (fun _ _ h => h))).mono ?_
        rintro e u119 ⟨lu119, yu119, rfl, pu119⟩
        obtain ⟨au119, cu119, rfl⟩ := pu119.sliceN hPS.out.symm
        have mu119 := mu118.trans lu119
        have k24u119 := Lib.hid pu119
        clear pu119
        refine ⟨_, rfl, fun _ => mu119, ?_⟩
        simp only [Act.put, List.setIfInBounds_toArray, List.set_cons_zero, List.set_cons_succ]
        refine anyZ_call 14 _ (some 30) rfl (by kernel_rfl) (by kernel_rfl) rfl 72 #[.slice (some ⟨gu83, 0, none⟩) 2 2] (by go_simp) ?_
        refine (eights_any NB NS (by omega) (by omega) gu83 3 u119 (((lu117.trans lu118).trans lu119).heap x29u83.out (fun h => h))).mono ?_
        rintro e u120 ⟨lu120, yu120, rfl, pu120⟩
        rw [hE8n.out] at pu120
        obtain ⟨au120, cu120, rfl⟩ := pu120.sliceN hE16.out
        have mu120 := mu119.trans lu120
        have k30u120 := Lib.hid pu120
        clear pu120
        refine ⟨_, rfl, fun _ => mu120, ?_⟩
        simp only [Act.put, List.setIfInBounds_toArray, List.set_cons_zero, List.set_cons_succ]
        obtain ⟨u121, hu121⟩ : ∃ x, x = u120.alloc (.cells #[.slice sb NB cb, .slice au118 PB cu118, .slice ss NS cs, .slice au119 PS cu119, .slice au120 16 cu120] 22) := ⟨_, rfl⟩
        obtain ⟨gu121, hgu121⟩ : ∃ g, g = u120.heap.size := ⟨_, rfl⟩
        have lu121 : Mod (fun _ => False) u120 u121 := by rw [hu121]; exact (Mod.refl _ _).alloc _
        have x31u121 : u121.heap[gu121]? = some (.cells #[.slice sb NB cb, .slice au118 PB cu118, .slice ss NS cs, .slice au119 PS cu119, .slice au120 16 cu120] 22 (0,0)) := by rw [hu121]; exact hp_new _ _ _ hgu121
        replace hu121 := Lib.hid hu121
        replace hgu121 := Lib.hid hgu121
        replace x31u121 := Lib.hid x31u121
        have mu121 := mu120.trans lu121
        refine anyZ_next 15 _ (some 31) rfl (by kernel_rfl) (by kernel_rfl) rfl (.slice (some ⟨gu121, 0, none⟩) 5 5) u121 (by rw [hu121.out, hgu121.out]; go_simp) (fun _ => mu121) ?_
        simp only [Act.put, List.setIfInBounds_toArray, List.set_cons_zero, List.set_cons_succ]
        have qu122 : ListAt u121 (.slice (some ⟨gu121, 0, none⟩) 5 5) (macL s b) := by
          rw [hmacL.out]
          exact listAt5 x31u121.out (hb6.out.mod mu121 (fun _ _ h => h)) (k21u118.out.mod ((lu119.trans lu120).trans lu121) (fun _ _ h => h)) (hs6.out.mod mu121 (fun _ _ h => h)) (k24u119.out.mod (lu120.trans lu121) (fun _ _ h => h)) (k30u120.out.mod lu121 (fun _ _ h => h))
        refine anyZ_call 16 _ (some 32) rfl (by kernel_rfl) (by kernel_rfl) rfl 19 #[.slice (some ⟨gu121, 0, none⟩) 5 5] (by go_simp) ?_
        refine (concat_any _ (macL s b) u121 qu122 (by rw [hmacL.out]; simp) (by rw [hLf.out]; have := hmac.out; have := hsl.out; have := hbl.out; omega)).mono ?_
        rintro e u122 ⟨lu122, yu122, rfl, pu122⟩
        rw [hLf.out] at pu122
        have k32u122 := Lib.hid (byteAt_of_own pu122)
        clear pu122 qu122
        have mu122 := mu121.trans lu122
        refine ⟨_, rfl, fun _ => mu122, ?_⟩
        simp only [Act.put, List.setIfInBounds_toArray, List.set_cons_zero, List.set_cons_succ]
        refine anyZ_call 17 _ (some 33) rfl (by kernel_rfl) (by kernel_rfl) rfl 70 #[.agg (encB H), yu122] (by go_simp) ?_
        refine (tag_any H hHl.out _ L u122 k32u122.out (by have := hmac.out; have := hsl.out; have := hbl.out; omega)).mono ?_
        rintro e u123 ⟨lu123, rfl⟩
        rw [if_neg (by have := hmac.out; have := hsl.out; have := hbl.out; omega), ← hT.out]
        have mu123 := mu122.trans lu123
        refine ⟨_, rfl, fun _ => mu123, ?_⟩
        simp only [Act.put, List.setIfInBounds_toArray, List.set_cons_zero, List.set_cons_succ]
        refine anyZ_take 18 _ (some 15) (.tuple #[.agg (encB T), .int .i64 0]) rfl (by kernel_rfl) (by kernel_rfl) (by kernel_rfl) (by kernel_rfl) (by kernel_rfl) (by decide) rfl (fun w' hS => ?_) mu123 ?_
        · go_simp
        simp only [Act.put, List.setIfInBounds_toArray, List.set_cons_zero, List.set_cons_succ]
        refine anyZ_take 19 _ (some 34) (.agg (encB T)) rfl (by kernel_rfl) (by kernel_rfl) (by kernel_rfl) (by kernel_rfl) (by kernel_rfl) (by decide) rfl (fun w' hS => ?_) mu123 ?_
        · go_simp
        simp only [Act.put, List.setIfInBounds_toArray, List.set_cons_zero, List.set_cons_succ]
        refine anyZ_take 20 _ (some 35) (.int .i64 0) rfl (by kernel_rfl) (by kernel_rfl) (by kernel_rfl) (by kernel_rfl) (by kernel_rfl) (by decide) rfl (fun w' hS => ?_) mu123 ?_
        · go_simp
        simp only [Act.put, List.setIfInBounds_toArray, List.set_cons_zero, List.set_cons_succ]
        obtain ⟨u124, su124, nu124, yu124⟩ := store16P ((((((lu118.trans lu119).trans lu120).trans lu121).trans lu122).trans lu123).heap x8u117.out (fun h => h)) (s' := T) (by simp) hTl.out
        have mu124 := mu123.trans' nu124 (fun k hk h => by have := gwu117; omega)
        refine anyZ_skip 22 _ rfl (by kernel_rfl) (by kernel_rfl) rfl u124 (run_store_op rfl rfl rfl su124) (fun _ => mu124) ?_
        simp only [Act.put, List.setIfInBounds_toArray, List.set_cons_zero, List.set_cons_succ]
        refine anyZ_next 23 _ (some 9) rfl (by kernel_rfl) (by kernel_rfl) rfl (.int .i64 0) u124 (by go_simp) (fun _ => mu124) ?_
        simp only [Act.put, List.setIfInBounds_toArray, List.set_cons_zero, List.set_cons_succ]
        refine anyZ_done (by kernel_rfl) ?_ _
        exact ⟨rfl, _, _, _, _, _, _, _, rfl, mu124, gwu117, yu124⟩
    · obtain ⟨u125, hu125⟩ : ∃ x, x = wd.alloc (.cells (encB (List.replicate 16 0)) 61) := ⟨_, rfl⟩
      obtain ⟨gu125, hgu125⟩ : ∃ g, g = wd.heap.size := ⟨_, rfl⟩
      have lu125 : Mod (fun _ => False) wd u125 := by rw [hu125]; exact (Mod.refl _ _).alloc _
      have x8u125 : BytesAt16 u125 gu125 (List.replicate 16 0) := by rw [hu125]; exact hp_new _ _ _ hgu125
      have gwu125 : w6.heap.size ≤ gu125 := by rw [hgu125]; exact md.size
      replace hu125 := Lib.hid hu125
      replace hgu125 := Lib.hid hgu125
      replace x8u125 := Lib.hid x8u125
      have mu125 := md.trans lu125
      refine wpOp_valueY _ (some 8) rfl (by kernel_rfl) rfl (.pointer (some ⟨gu125, 0, none⟩)) u125 (by rw [hu125.out, hgu125.out]; exact alloc16P _ _ _ rfl) ⟨fun _ => mu125, ?_⟩
      simp only [Act.put, List.setIfInBounds_toArray, List.set_cons_zero, List.set_cons_succ]
      refine anyZ_fork2Y 5 13 (by kernel_rfl) ?_ ?_
      · refine wpOp_enterY _ (some 21) rfl (by kernel_rfl) rfl 71 #[.slice sb NB cb] (by go_simp) ?_
        refine (filled_any _ b (by have := hbl.out; omega) u125 (hb6.out.mod mu125 (fun _ _ h => h))).mono ?_
        rintro e u126 ⟨lu126, yu126, rfl, pu126⟩
        obtain ⟨au126, cu126, rfl⟩ := pu126.sliceN hPB.out.symm
        have mu126 := mu125.trans lu126
        have k21u126 := Lib.hid pu126
        clear pu126
        refine ⟨_, rfl, fun _ => mu126, ?_⟩
        simp only [Act.put, List.setIfInBounds_toArray, List.set_cons_zero, List.set_cons_succ]
        refine anyZ_fork2Y 8 13 (by kernel_rfl) ?_ ?_
        · refine wpOp_enterY _ (some 24) rfl (by kernel_rfl) rfl 71 #[.slice ss NS cs] (by go_simp) ?_
          refine (filled_any _ s (by have := hsl.out; omega) u126 (hs6.out.mod mu126 (fun _ _ h => h))).mono ?_
          rintro e u127 ⟨lu127, yu127, rfl, pu127⟩
          obtain ⟨au127, cu127, rfl⟩ := pu127.sliceN hPS.out.symm
          have mu127 := mu126.trans lu127
          have k24u127 := Lib.hid pu127
          clear pu127
          refine ⟨_, rfl, fun _ => mu127, ?_⟩
          simp only [Act.put, List.setIfInBounds_toArray, List.set_cons_zero, List.set_cons_succ]
          obtain ⟨u128, hu128⟩ : ∃ x, x = u127.alloc (.cells #[.int .i64 (NB : Int), .int .i64 (NS : Int)] 3) := ⟨_, rfl⟩
          obtain ⟨gu128, hgu128⟩ : ∃ g, g = u127.heap.size := ⟨_, rfl⟩
          have lu128 : Mod (fun _ => False) u127 u128 := by rw [hu128]; exact (Mod.refl _ _).alloc _
          have x29u128 : u128.heap[gu128]? = some (.cells #[.int .i64 (NB : Int), .int .i64 (NS : Int)] 3 (0,0)) := by rw [hu128]; exact hp_new _ _ _ hgu128
          replace hu128 := Lib.hid hu128
          replace hgu128 := Lib.hid hgu128
          replace x29u128 := Lib.hid x29u128
          have mu128 := mu127.trans lu128
          refine anyZ_next 13 _ (some 29) rfl (by kernel_rfl) (by kernel_rfl) rfl (.slice (some ⟨gu128, 0, none⟩) 2 2) u128 (by rw [hu128.out, hgu128.out]; go_simp) (fun _ => mu128) ?_
          simp only [Act.put, List.setIfInBounds_toArray, List.set_cons_zero, List.set_cons_succ]
          refine anyZ_call 14 _ (some 30) rfl (by kernel_rfl) (by kernel_rfl) rfl 72 #[.slice (some ⟨gu128, 0, none⟩) 2 2] (by go_simp) ?_
          refine (eights_any NB NS (by omega) (by omega) gu128 3 u128 x29u128.out).mono ?_
          rintro e u129 ⟨lu129, yu129, rfl, pu129⟩
          rw [hE8n.out] at pu129
          obtain ⟨au129, cu129, rfl⟩ := pu129.sliceN hE16.out
          have mu129 := mu128.trans lu129
          have k30u129 := Lib.hid pu129
          clear pu129
          refine ⟨_, rfl, fun _ => mu129, ?_⟩
          simp only [Act.put, List.setIfInBounds_toArray, List.set_cons_zero, List.set_cons_succ]
          obtain ⟨u130, hu130⟩ : ∃ x, x = u129.alloc (.cells #[.slice sb NB cb, .slice au126 PB cu126, .slice ss NS cs, .slice au127 PS cu127, .slice au129 16 cu129] 22) := ⟨_, rfl⟩
          obtain ⟨gu130, hgu130⟩ : ∃ g, g = u129.heap.size := ⟨_, rfl⟩
          have lu130 : Mod (fun _ => False) u129 u130 := by rw [hu130]; exact (Mod.refl _ _).alloc _
          have x31u130 : u130.heap[gu130]? = some (.cells #[.slice sb NB cb, .slice au126 PB cu126, .slice ss NS cs, .slice au127 PS cu127, .slice au129 16 cu129] 22 (0,0)) := by rw [hu130]; exact hp_new _ _ _ hgu130
          replace hu130 := Lib.hid hu130
          replace hgu130 := Lib.hid hgu130
          replace x31u130 := Lib.hid x31u130
          have mu130 := mu129.trans lu130
          refine anyZ_next 15 _ (some 31) rfl (by kernel_rfl) (by kernel_rfl) rfl (.slice (some ⟨gu130, 0, none⟩) 5 5) u130 (by rw [hu130.out, hgu130.out]; go_simp) (fun _ => mu130) ?_
          simp only [Act.put, List.setIfInBounds_toArray, List.set_cons_zero, List.set_cons_succ]
          have qu131 : ListAt u130 (.slice (some ⟨gu130, 0, none⟩) 5 5) (macL s b) := by
            rw [hmacL.out]
            exact listAt5 x31u130.out (hb6.out.mod mu130 (fun _ _ h => h)) (k21u126.out.mod (((lu127.trans lu128).trans lu129).trans lu130) (fun _ _ h => h)) (hs6.out.mod mu130 (fun _ _ h => h)) (k24u127.out.mod ((lu128.trans lu129).trans lu130) (fun _ _ h => h)) (k30u129.out.mod lu130 (fun _ _ h => h))
          refine anyZ_call 16 _ (some 32) rfl (by kernel_rfl) (by kernel_rfl) rfl 19 #[.slice (some ⟨gu130, 0, none⟩) 5 5] (by go_simp) ?_
          refine (concat_any _ (macL s b) u130 qu131 (by rw [hmacL.out]; simp) (by rw [hLf.out]; have := hmac.out; have := hsl.out; have := hbl.out; omega)).mono ?_
          rintro e u131 ⟨lu131, yu131, rfl, pu131⟩
          rw [hLf.out] at pu131
          have k32u131 := Lib.hid (byteAt_of_own pu131)
          clear pu131 qu131
          have mu131 := mu130.trans lu131
          refine ⟨_, rfl, fun _ => mu131, ?_⟩
          simp only [Act.put, List.setIfInBounds_toArray, List.set_cons_zero, List.set_cons_succ]
          refine anyZ_call 17 _ (some 33) rfl (by kernel_rfl) (by kernel_rfl) rfl 70 #[.agg (encB H), yu131] (by go_simp) ?_
          refine (tag_any H hHl.out _ L u131 k32u131.out (by have := hmac.out; have := hsl.out; have := hbl.out; omega)).mono ?_
          rintro e u132 ⟨lu132, rfl⟩
          rw [if_neg (by have := hmac.out; have := hsl.out; have := hbl.out; omega), ← hT.out]
          have mu132 := mu131.trans lu132
          refine ⟨_, rfl, fun _ => mu132, ?_⟩
          simp only [Act.put, List.setIfInBounds_toArray, List.set_cons_zero, List.set_cons_succ]
          refine anyZ_take 18 _ (some 15) (.tuple #[.agg (encB T), .int .i64 0]) rfl (by kernel_rfl) (by kernel_rfl) (by kernel_rfl) (by kernel_rfl) (by kernel_rfl) (by decide) rfl (fun w' hS => ?_) mu132 ?_
          · go_simp
          simp only [Act.put, List.setIfInBounds_toArray, List.set_cons_zero, List.set_cons_succ]
          refine anyZ_take 19 _ (some 34) (.agg (encB T)) rfl (by kernel_rfl) (by kernel_rfl) (by kernel_rfl) (by kernel_rfl) (by kernel_rfl) (by decide) rfl (fun w' hS => ?_) mu132 ?_
          · go_simp
          simp only [Act.put, List.setIfInBounds_toArray, List.set_cons_zero, List.set_cons_succ]
          refine anyZ_take 20 _ (some 35) (.int .i64 0) rfl (by kernel_rfl) (by kernel_rfl) (by kernel_rfl) (by kernel_rfl) (by kernel_rfl) (by decide) rfl (fun w' hS => ?_) mu132 ?_
          · go_simp
          simp only [Act.put, List.setIfInBounds_toArray, List.set_cons_zero, List.set_cons_succ]
          obtain ⟨u133, su133, nu133, yu133⟩ := store16P (((((((lu126.trans lu127).trans lu128).trans lu129).trans lu130).trans lu131).trans lu132).heap x8u125.out (fun h => h)) (s' := T) (by simp) hTl.out
          have mu133 := mu132.trans' nu133 (fun k hk h => by have := gwu125; omega)
          refine anyZ_skip 22 _ rfl (by kernel_rfl) (by kernel_rfl) rfl u133 (run_store_op rfl rfl rfl su133) (fun _ => mu133) ?_
          simp only [Act.put, List.setIfInBounds_toArray, List.set_cons_zero, List.set_cons_succ]
          refine anyZ_next 23 _ (some 9) rfl (by kernel_rfl) (by kernel_rfl) rfl (.int .i64 0) u133 (by go_simp) (fun _ => mu133) ?_
          simp only [Act.put, List.setIfInBounds_toArray, List.set_cons_zero, List.set_cons_succ]
          refine anyZ_done (by kernel_rfl) ?_ _
          exact ⟨rfl, _, _, _, _, _, _, _, rfl, mu133, gwu125, yu133⟩
        · obtain ⟨u134, hu134⟩ : ∃ x, x = u126.alloc (.cells #[.int .i64 (NB : Int), .int .i64 (NS : Int)] 3) := ⟨_, rfl⟩
          obtain ⟨gu134, hgu134⟩ : ∃ g, g = u126.heap.size := ⟨_, rfl⟩
          have lu134 : Mod (fun _ => False) u126 u134 := by rw [hu134]; exact (Mod.refl _ _).alloc _
          have x29u134 : u134.heap[gu134]? = some (.cells #[.int .i64 (NB : Int), .int .i64 (NS : Int)] 3 (0,0)) := by rw [hu134]; exact hp_new _ _ _ hgu134
          replace hu134 := Lib.hid hu134
          replace hgu134 := Lib.hid hgu134
          replace x29u134 := Lib.hid x29u134
          have mu134 := mu126.trans lu134
          refine wpOp_valueY _ (some 29) rfl (by kernel_rfl) rfl (.slice (some ⟨gu134, 0, none⟩) 2 2) u134 (by rw [hu134.out, hgu134.out]; go_simp) ⟨fun _ => mu134, ?_⟩
          simp only [Act.put, List.setIfInBounds_toArray, List.set_cons_zero, List.set_cons_succ]
          refine anyZ_call 8 _ (some 24) rfl (by kernel_rfl) (by kernel_rfl) rfl 71 #[.slice ss NS cs] (by go_simp) ?_
          refine (filled_any _ s (by have := hsl.out; omega) u134 (hs6.out.mod mu134 (fun _ _ h => h))).mono ?_
          rintro e u135 ⟨lu135, yu135, rfl, pu135⟩
          obtain ⟨au135, cu135, rfl⟩ := pu135.sliceN hPS.out.symm
          have mu135 := mu134.trans lu135
          have k24u135 := Lib.hid pu135
          clear pu135
          refine ⟨_, rfl, fun _ => mu135, ?_⟩
          simp only [Act.put, List.setIfInBounds_toArray, List.set_cons_zero, List.set_cons_succ]
          refine anyZ_call 14 _ (some 30) rfl (by kernel_rfl) (by kernel_rfl) rfl 72 #[.slice (some ⟨gu134, 0, none⟩) 2 2] (by go_simp) ?_
          refine (eights_any NB NS (by omega) (by omega) gu134 3 u135 (lu135.heap x29u134.out (fun h => h))).mono ?_
          rintro e u136 ⟨lu136, yu136, rfl, pu136⟩
          rw [hE8n.out] at pu136
          obtain ⟨au136, cu136, rfl⟩ := pu136.sliceN hE16.out
          have mu136 := mu135.trans lu136
          have k30u136 := Lib.hid pu136
          clear pu136
          refine ⟨_, rfl, fun _ => mu136, ?_⟩
          simp only [Act.put, List.setIfInBounds_toArray, List.set_cons_zero, List.set_cons_succ]
          obtain ⟨u137, hu137⟩ : ∃ x, x = u136.alloc (.cells #[.slice sb NB cb, .slice au126 PB cu126, .slice ss NS cs, .slice au135 PS cu135, .slice au136 16 cu136] 22) := ⟨_, rfl⟩
          obtain ⟨gu137, hgu137⟩ : ∃ g, g = u136.heap.size := ⟨_, rfl⟩
          have lu137 : Mod (fun _ => False) u136 u137 := by rw [hu137]; exact (Mod.refl _ _).alloc _
          have x31u137 : u137.heap[gu137]? = some (.cells #[.slice sb NB cb, .slice au126 PB cu126, .slice ss NS cs, .slice au135 PS cu135, .slice au136 16 cu136] 22 (0,0)) := by rw [hu137]; exact hp_new _ _ _ hgu137
          replace hu137 := Lib.hid hu137
          replace hgu137 := Lib.hid hgu137
          replace x31u137 := Lib.hid x31u137
          have mu137 := mu136.trans lu137
          refine anyZ_next 15 _ (some 31) rfl (by kernel_rfl) (by kernel_rfl) rfl (.slice (some ⟨gu137, 0, none⟩) 5 5) u137 (by rw [hu137.out, hgu137.out]; go_simp) (fun _ => mu137) ?_
          simp only [Act.put, List.setIfInBounds_toArray, List.set_cons_zero, List.set_cons_succ]
          have qu138 : ListAt u137 (.slice (some ⟨gu137, 0, none⟩) 5 5) (macL s b) := by
            rw [hmacL.out]
            exact listAt5 x31u137.out (hb6.out.mod mu137 (fun _ _ h => h)) (k21u126.out.mod (((lu134.trans lu135).trans lu136).trans lu137) (fun _ _ h => h)) (hs6.out.mod mu137 (fun _ _ h => h)) (k24u135.out.mod (lu136.trans lu137) (fun _ _ h => h)) (k30u136.out.mod lu137 (fun _ _ h => h))
          refine anyZ_call 16 _ (some 32) rfl (by kernel_rfl) (by kernel_rfl) rfl 19 #[.slice (some ⟨gu137, 0, none⟩) 5 5] (by go_simp) ?_
          refine (concat_any _ (macL s b) u137 qu138 (by rw [hmacL.out]; simp) (by rw [hLf.out]; have := hmac.out; have := hsl.out; have := hbl.out; omega)).mono ?_
          rintro e u138 ⟨lu138, yu138, rfl, pu138⟩
          rw [hLf.out] at pu138
          have k32u138 := Lib.hid (byteAt_of_own pu138)
          clear pu138 qu138
          have mu138 := mu137.trans lu138
          refine ⟨_, rfl, fun _ => mu138, ?_⟩
          simp only [Act.put, List.setIfInBounds_toArray, List.set_cons_zero, List.set_cons_succ]
          refine anyZ_call 17 _ (some 33) rfl (by kernel_rfl) (by kernel_rfl) rfl 70 #[.agg (encB H), yu138] (by go_simp) ?_
          refine (tag_any H hHl.out _ L u138 k32u138.out (by have := hmac.out; have := hsl.out; have := hbl.out; omega)).mono ?_
          rintro e u139 ⟨lu139, rfl⟩
          rw [if_neg (by have := hmac.out; have := hsl.out; have := hbl.out; omega), ← hT.out]
          have mu139 := mu138.trans lu139
          refine ⟨_, rfl, fun _ => mu139, ?_⟩
          simp only [Act.put, List.setIfInBounds_toArray, List.set_cons_zero, List.set_cons_succ]
          refine anyZ_take 18 _ (some 15) (.tuple #[.agg (encB T), .int .i64 0]) rfl (by kernel_rfl) (by kernel_rfl) (by kernel_rfl) (by kernel_rfl) (by kernel_rfl) (by decide) rfl (fun w' hS => ?_) mu139 ?_
          · go_simp
          simp only [Act.put, List.setIfInBounds_toArray, List.set_cons_zero, List.set_cons_succ]
          refine anyZ_take 19 _ (some 34) (.agg (encB T)) rfl (by kernel_rfl) (by kernel_rfl) (by kernel_rfl) (by kernel_rfl) (by kernel_rfl) (by decide) rfl (fun w' hS => ?_) mu139 ?_
          · go_simp
          simp only [Act.put, List.setIfInBounds_toArray, List.set_cons_zero, List.set_cons_succ]
          refine anyZ_take 20 _ (some 35) (.int .i64 0) rfl (by kernel_rfl) (by kernel_rfl) (by kernel_rfl) (by kernel_rfl) (by kernel_rfl) (by decide) rfl (fun w' hS => ?_) mu139 ?_
          · go_simp
          simp only [Act.put, List.setIfInBounds_toArray, List.set_cons_zero, List.set_cons_succ]
          obtain ⟨u140, su140, nu140, yu140⟩ := store16P (((((((lu126.trans lu134).trans lu135).trans lu136).trans lu137).trans lu138).trans lu139).heap x8u125.out (fun h => h)) (s' := T) (by simp) hTl.out
          have mu140 := mu139.trans' nu140 (fun k hk h => by have := gwu125; omega)
          refine anyZ_skip 22 _ rfl (by kernel_rfl) (by kernel_rfl) rfl u140 (run_store_op rfl rfl rfl su140) (fun _ => mu140) ?_
          simp only [Act.put, List.setIfInBounds_toArray, List.set_cons_zero, List.set_cons_succ]
          refine anyZ_next 23 _ (some 9) rfl (by kernel_rfl) (by kernel_rfl) rfl (.int .i64 0) u140 (by go_simp) (fun _ => mu140) ?_
          simp only [Act.put, List.setIfInBounds_toArray, List.set_cons_zero, List.set_cons_succ]
          refine anyZ_done (by kernel_rfl) ?_ _
          exact ⟨rfl, _, _, _, _, _, _, _, rfl, mu140, gwu125, yu140⟩
      · obtain ⟨u141, hu141⟩ : ∃ x, x = u125.alloc (.cells #[.int .i64 (NB : Int), .int .i64 (NS : Int)] 3) := ⟨_, rfl⟩
        obtain ⟨gu141, hgu141⟩ : ∃ g, g = u125.heap.size := ⟨_, rfl⟩
        have lu141 : Mod (fun _ => False) u125 u141 := by rw [hu141]; exact (Mod.refl _ _).alloc _
        have x29u141 : u141.heap[gu141]? = some (.cells #[.int .i64 (NB : Int), .int .i64 (NS : Int)] 3 (0,0)) := by rw [hu141]; exact hp_new _ _ _ hgu141
        replace hu141 := Lib.hid hu141
        replace hgu141 := Lib.hid hgu141
        replace x29u141 := Lib.hid x29u141
        have mu141 := mu125.trans lu141
        refine wpOp_valueY _ (some 29) rfl (by kernel_rfl) rfl (.slice (some ⟨gu141, 0, none⟩) 2 2) u141 (by rw [hu141.out, hgu141.out]; go_simp) ⟨fun _ => mu141, ?_⟩
        simp only [Act.put, List.setIfInBounds_toArray, List.set_cons_zero, List.set_cons_succ]
        refine anyZ_call 5 _ (some 21) rfl (by kernel_rfl) (by kernel_rfl) rfl 71 #[.slice sb NB cb] (by go_simp) ?_
        refine (filled_any _ b (by have := hbl.out; omega) u141 (hb6.out.mod mu141 (fun _ _ h => h))).mono ?_
        rintro e u142 ⟨lu142, yu142, rfl, pu142⟩
        obtain ⟨au142, cu142, rfl⟩ := pu142.sliceN hPB.out.symm
        have mu142 := mu141.trans lu142
        have k21u142 := Lib.hid pu142
        clear pu142
        refine ⟨_, rfl, fun _ => mu142, ?_⟩
        simp only [Act.put, List.setIfInBounds_toArray, List.set_cons_zero, List.set_cons_succ]
        refine anyZ_call 8 _ (some 24) rfl (by kernel_rfl) (by kernel_rfl) rfl 71 #[.slice ss NS cs] (by go_simp) ?_
        refine (filled_any _ s (by have := hsl.out; omega) u142 (hs6.out.mod mu142 (fun _ _ h => h))).mono ?_
        rintro e u143 ⟨lu143, yu143, rfl, pu143⟩
        obtain ⟨au143, cu143, rfl⟩ := pu143.sliceN hPS.out.symm
        have mu143 := mu142.trans lu143
        have k24u143 := Lib.hid pu143
        clear pu143
        refine ⟨_, rfl, fun _ => mu143, ?_⟩
        simp only [Act.put, List.setIfInBounds_toArray, List.set_cons_zero, List.set_cons_succ]
        refine anyZ_call 14 _ (some 30) rfl (by kernel_rfl) (by kernel_rfl) rfl 72 #[.slice (some ⟨gu141, 0, none⟩) 2 2] (by go_simp) ?_
        refine (eights_any NB NS (by omega) (by omega) gu141 3 u143 ((lu142.trans lu143).heap x29u141.out (fun h => h))).mono ?_
        rintro e u144 ⟨lu144, yu144, rfl, pu144⟩
        rw [hE8n.out] at pu144
        obtain ⟨au144, cu144, rfl⟩ := pu144.sliceN hE16.out
        have mu144 := mu143.trans lu144
        have k30u144 := Lib.hid pu144
        clear pu144
        refine ⟨_, rfl, fun _ => mu144, ?_⟩
        simp only [Act.put, List.setIfInBounds_toArray, List.set_cons_zero, List.set_cons_succ]
        obtain ⟨u145, hu145⟩ : ∃ x, x = u144.alloc (.cells #[.slice sb NB cb, .slice au142 PB cu142, .slice ss NS cs, .slice au143 PS cu143, .slice au144 16 cu144] 22) := ⟨_, rfl⟩
        obtain ⟨gu145, hgu145⟩ : ∃ g, g = u144.heap.size := ⟨_, rfl⟩
        have lu145 : Mod (fun _ => False) u144 u145 := by rw [hu145]; exact (Mod.refl _ _).alloc _
        have x31u145 : u145.heap[gu145]? = some (.cells #[.slice sb NB cb, .slice au142 PB cu142, .slice ss NS cs, .slice au143 PS cu143, .slice au144 16 cu144] 22 (0,0)) := by rw [hu145]; exact hp_new _ _ _ hgu145
        replace hu145 := Lib.hid hu145
        replace hgu145 := Lib.hid hgu145
        replace x31u145 := Lib.hid x31u145
        have mu145 := mu144.trans lu145
        refine anyZ_next 15 _ (some 31) rfl (by kernel_rfl) (by kernel_rfl) rfl (.slice (some ⟨gu145, 0, none⟩) 5 5) u145 (by rw [hu145.out, hgu145.out]; go_simp) (fun _ => mu145) ?_
        simp only [Act.put, List.setIfInBounds_toArray, List.set_cons_zero, List.set_cons_succ]
        have qu146 : ListAt u145 (.slice (some ⟨gu145, 0, none⟩) 5 5) (macL s b) := by
          rw [hmacL.out]
          exact listAt5 x31u145.out (hb6.out.mod mu145 (fun _ _ h => h)) (k21u142.out.mod ((lu143.trans lu144).trans lu145) (fun _ _ h => h)) (hs6.out.mod mu145 (fun _ _ h => h)) (k24u143.out.mod (lu144.trans lu145) (fun _ _ h => h)) (k30u144.out.mod lu145 (fun _ _ h => h))
        refine anyZ_call 16 _ (some 32) rfl (by kernel_rfl) (by kernel_rfl) rfl 19 #[.slice (some ⟨gu145, 0, none⟩) 5 5] (by go_simp) ?_
        refine (concat_any _ (macL s b) u145 qu146 (by rw [hmacL.out]; simp) (by rw [hLf.out]; have := hmac.out; have := hsl.out; have := hbl.out; omega)).mono ?_
        rintro e u146 ⟨lu146, yu146, rfl, pu146⟩
        rw [hLf.out] at pu146
        have k32u146 := Lib.hid (byteAt_of_own pu146)
        clear pu146 qu146
        have mu146 := mu145.trans lu146
        refine ⟨_, rfl, fun _ => mu146, ?_⟩
        simp only [Act.put, List.setIfInBounds_toArray, List.set_cons_zero, List.set_cons_succ]
        refine anyZ_call 17 _ (some 33) rfl (by kernel_rfl) (by kernel_rfl) rfl 70 #[.agg (encB H), yu146] (by go_simp) ?_
        refine (tag_any H hHl.out _ L u146 k32u146.out (by have := hmac.out; have := hsl.out; have := hbl.out; omega)).mono ?_
        rintro e u147 ⟨lu147, rfl⟩
        rw [if_neg (by have := hmac.out; have := hsl.out; have := hbl.out; omega), ← hT.out]
        have mu147 := mu146.trans lu147
        refine ⟨_, rfl, fun _ => mu147, ?_⟩
        simp only [Act.put, List.setIfInBounds_toArray, List.set_cons_zero, List.set_cons_succ]
        refine anyZ_take 18 _ (some 15) (.tuple #[.agg (encB T), .int .i64 0]) rfl (by kernel_rfl) (by kernel_rfl) (by kernel_rfl) (by kernel_rfl) (by kernel_rfl) (by decide) rfl (fun w' hS => ?_) mu147 ?_
        · go_simp
        simp only [Act.put, List.setIfInBounds_toArray, List.set_cons_zero, List.set_cons_succ]
        refine anyZ_take 19 _ (some 34) (.agg (encB T)) rfl (by kernel_rfl) (by kernel_rfl) (by kernel_rfl) (by kernel_rfl) (by kernel_rfl) (by decide) rfl (fun w' hS => ?_) mu147 ?_
        · go_simp
        simp only [Act.put, List.setIfInBounds_toArray, List.set_cons_zero, List.set_cons_succ]
        refine anyZ_take 20 _ (some 35) (.int .i64 0) rfl (by kernel_rfl) (by kernel_rfl) (by kernel_rfl) (by kernel_rfl) (by kernel_rfl) (by decide) rfl (fun w' hS => ?_) mu147 ?_
        · go_simp
        simp only [Act.put, List.setIfInBounds_toArray, List.set_cons_zero, List.set_cons_succ]
        obtain ⟨u148, su148, nu148, yu148⟩ := store16P (((((((lu141.trans lu142).trans lu143).trans lu144).trans lu145).trans lu146).trans lu147).heap x8u125.out (fun h => h)) (s' := T) (by simp) hTl.out
        have mu148 := mu147.trans' nu148 (fun k hk h => by have := gwu125; omega)
        refine anyZ_skip 22 _ rfl (by kernel_rfl) (by kernel_rfl) rfl u148 (run_store_op rfl rfl rfl su148) (fun _ => mu148) ?_
        simp only [Act.put, List.setIfInBounds_toArray, List.set_cons_zero, List.set_cons_succ]
        refine anyZ_next 23 _ (some 9) rfl (by kernel_rfl) (by kernel_rfl) rfl (.int .i64 0) u148 (by go_simp) (fun _ => mu148) ?_
        simp only [Act.put, List.setIfInBounds_toArray, List.set_cons_zero, List.set_cons_succ]
        refine anyZ_done (by kernel_rfl) ?_ _
        exact ⟨rfl, _, _, _, _, _, _, _, rfl, mu148, gwu125, yu148⟩
  rintro e a w7 ⟨rfl, x21, x24, x29, x30, x31, x32, g8, rfl, m7, hg8, x8⟩
  dsimp only
  have mf := m06.out.trans m7
  have hgw : w.heap.size ≤ g8 := Nat.le_trans m06.out.size hg8
  replace mf := Lib.hid mf
  replace x8 := Lib.hid x8
  replace hgw := Lib.hid hgw
  clear m7 hg8
  go_upto_region 3 with (fail)
  refine wp_region_lit ?_
  refine wpList_reads (by kernel_rfl) (.slice (some ⟨g8, 0, none⟩) 16 16) (by go_simp) ?_
  simp only [Act.put, List.setIfInBounds_toArray, List.set_cons_zero, List.set_cons_succ]
  refine wpList_reads (by kernel_rfl) (.slice (some ⟨g8, 0, none⟩) 16 16) (by go_simp) ?_
  simp only [Act.put, List.setIfInBounds_toArray, List.set_cons_zero, List.set_cons_succ]
  go_wp2
  go_ret
  exact hend.out _ _ mf.out hgw.out x8.out
end Go.Proofs.YtbiijcljpgannaaGreatDoor
