/-
  mailcoachlaw06.twin, left; contracts with clipped rows. Printed by gen/pr7.py.
-/
import Derived.Test.YtbiijcljpgannaaGreatDoorZb
import Derived.Test.YtbiijcljpgannaaGreatDoorBt
import Derived.Test.YtbiijcljpgannaaGreatDoorTw
namespace Go.Proofs.YtbiijcljpgannaaGreatDoor
set_option maxRecDepth 100000
open Go Go.RowKit Go.Lib
set_option linter.unusedSimpArgs false
set_option linter.unusedVariables false

theorem seal_clip {k n p b : List (BitVec 8)} {w w' : World} {e : Ending} (h : SealEnd k n p b w e w') : Mod (fun _ => False) w w' ∧ ∃ v, e = .returned (.tuple #[v, .int .i64 (sealE k n p b)]) ∧ ClipR w' w.heap.size v (sealX k n p b).length (bytesV (sealX k n p b)) := by
  obtain ⟨m, v, h1, h2⟩ := h
  exact ⟨m, v, h1, .of h2⟩
theorem open_clip {k n p b : List (BitVec 8)} {w w' : World} {e : Ending} (h : OpenEnd k n p b w e w') : Mod (fun _ => False) w w' ∧ ∃ v, e = .returned (.tuple #[v, .int .i64 (openE k n p b)]) ∧ ClipR w' w.heap.size v (openX k n p b).length (bytesV (openX k n p b)) := by
  obtain ⟨m, v, h1, h2⟩ := h
  exact ⟨m, v, h1, .of h2⟩
theorem sealX_len (k n p b : List (BitVec 8)) : (sealX k n p b).length ≤ 1048592 := by
  unfold sealX
  split
  · next h => rw [sealS_length]; omega
  · simp
theorem openX_len (k n p b : List (BitVec 8)) : (openX k n p b).length ≤ 1048576 := by
  unfold openX
  split
  · next h =>
    unfold openE at h
    rw [xorS_length, List.length_take]
    split at h
    · split at h
      · omega
      · split at h
        · omega
        · omega
    · omega
  · simp
theorem build_with (w : World) (ev : Operand → Value) (o : Oper) (x y z : Operand) (a b c : Value) (ha : ∃ q n d, a = .slice q n d) (hb : ∃ q n d, b = .slice q n d) (hc : ∃ q n d, c = .slice q n d) (ho : o.op = .build 24 #[(0, x), (1, y), (2, z)]) (hx : ev x = a) (hy : ev y = b) (hz : ev z = c) : (execOp ev o).run Tryz.prog w = .ok (.value (.agg #[a, b, c])) w := by
  have h : ∀ q1 n1 c1 q2 n2 c2 q3 n3 c3, (Instr.build 24 #[(0, .slice q1 n1 c1), (1, .slice q2 n2 c2), (2, .slice q3 n3 c3)]).run Tryz.prog w = .ok (.agg #[.slice q1 n1 c1, .slice q2 n2 c2, .slice q3 n3 c3]) w := fun _ _ _ _ _ _ _ _ _ => by kernel_rfl
  obtain ⟨q1, n1, c1, rfl⟩ := ha
  obtain ⟨q2, n2, c2, rfl⟩ := hb
  obtain ⟨q3, n3, c3, rfl⟩ := hc
  unfold execOp
  simp only [ho]
  simp [hx, hy, hz, h]
theorem zeroWT (w : World) : (zeroValue 24).run Tryz.prog w = .ok (.agg #[.slice none 0 0, .slice none 0 0, .slice none 0 0]) w := by kernel_rfl
theorem storeWT {w : World} {g : Nat} {a b c : Value} {a' b' c' : Value} (x : w.heap[g]? = some (.cells #[a, b, c] 24 (0,0))) (ha : a'.oneCell' = true) (hb : b'.oneCell' = true) (hc : c'.oneCell' = true) :
    ∃ w', (storeVar 24 ⟨g, 0, none⟩ (.agg #[a', b', c'])).run Tryz.prog w = .ok () w' ∧ Mod (fun k => k = g) w w' ∧ w'.heap[g]? = some (.cells #[a', b', c'] 24 (0,0)) := by
  obtain ⟨w', h1, h2, h3⟩ := store_mid (P := Tryz.prog) w g 0 24 24 [] [a, b, c] [] [a', b', c'] (by rw [x]; rfl) rfl rfl infoWT (by simp [ha, hb, hc])
  exact ⟨w', h1, h2, by rw [h3]; rfl⟩
theorem resultsWT {fn : Func} {p : Tmp} (h : fn.results = #[.cell p 24]) (tmps : Array Value) (w : World) (g : Nat) (a b c : Value) (h1 : tmps.getD p undef = .pointer (some ⟨g, 0, none⟩)) (x : w.heap[g]? = some (.cells #[a, b, c] 24 (0,0))) :
    (results fn tmps).run Tryz.prog w = .ok (.agg #[a, b, c]) w := by
  have h1' : tmps[p]?.getD undef = .pointer (some ⟨g, 0, none⟩) := by simpa using h1
  simp [results, h, Sem.run_bind, h1', loadWT x, asAddr]
theorem twin_block {S : Nat → Prop} {w w' : World} {v : Value} {b : List (BitVec 8)} (h : TwinAt w v b) (m : Mod S w w') (hS : ∀ k, v.ownBlock = some k → ¬ S k) : TwinAt w' v b := by
  obtain ⟨g, h1, h2⟩ := h
  exact ⟨g, h1, m.heap h2 (hS g (by rw [h1]; rfl))⟩
theorem TwinAt.sl {w : World} {v : Value} {b : List (BitVec 8)} (h : TwinAt w v b) : ∃ q n c, v = .slice q n c := by
  obtain ⟨g, h1, _⟩ := h
  exact ⟨_, _, _, h1⟩
set_option maxRecDepth 100000 in
set_option maxHeartbeats 4000000 in
theorem wtwin_any (vk vn vb : Value) (k n b : List (BitVec 8)) (hkl : k.length ≤ 140737488351232) (hnl : n.length ≤ 140737488351232) (hbl : b.length ≤ 140737488351232) (w : World) (hk : ByteAt w vk k) (hn : ByteAt w vn n) (hb : ByteAt w vb b) :
    Calls Tryz.prog 6 #[.agg #[vk, vn, vb]] w fun e w' => Mod (fun _ => False) w w' ∧ ∃ v1 v2 v3, e = .returned (.agg #[v1, v2, v3]) ∧ TwinAt w' v1 k ∧ TwinAt w' v2 n ∧ TwinAt w' v3 b := by
  obtain ⟨ak, ck, rfl, _⟩ := hk.slice
  obtain ⟨an, cn, rfl, _⟩ := hn.slice
  obtain ⟨ab, cb, rfl, _⟩ := hb.slice
  obtain ⟨NK, hNK⟩ : ∃ x, x = k.length := ⟨_, rfl⟩
  obtain ⟨NN, hNN⟩ : ∃ x, x = n.length := ⟨_, rfl⟩
  obtain ⟨NB, hNB⟩ : ∃ x, x = b.length := ⟨_, rfl⟩
  rw [← hNK] at hk ⊢
  rw [← hNN] at hn ⊢
  rw [← hNB] at hb ⊢
  obtain ⟨w1, hw1⟩ : ∃ x, x = w.alloc (.cells #[.slice ak NK ck, .slice an NN cn, .slice ab NB cb] 24) := ⟨_, rfl⟩
  obtain ⟨g1, hg1⟩ : ∃ x, x = w.heap.size := ⟨_, rfl⟩
  have m1 : Mod (fun _ => False) w w1 := by rw [hw1]; exact (Mod.refl _ _).alloc _
  have x1 : w1.heap[g1]? = some (.cells #[.slice ak NK ck, .slice an NN cn, .slice ab NB cb] 24 (0,0)) := by rw [hw1]; exact hp_new _ _ _ hg1
  obtain ⟨w2, hw2⟩ : ∃ x, x = w1.alloc (.cells #[.slice none 0 0, .slice none 0 0, .slice none 0 0] 24) := ⟨_, rfl⟩
  obtain ⟨g2, hg2⟩ : ∃ x, x = w1.heap.size := ⟨_, rfl⟩
  have m2 : Mod (fun _ => False) w1 w2 := by rw [hw2]; exact (Mod.refl _ _).alloc _
  have x2 : w2.heap[g2]? = some (.cells #[.slice none 0 0, .slice none 0 0, .slice none 0 0] 24 (0,0)) := by rw [hw2]; exact hp_new _ _ _ hg2
  have y1 := m2.heap x1 (fun h => h)
  have m02 := m1.trans m2
  have k2 := hk.mod m02 (fun _ _ h => h)
  have n2 := hn.mod m02 (fun _ _ h => h)
  have b2 := hb.mod m02 (fun _ _ h => h)
  have g2w : w.heap.size ≤ g2 := by rw [hg2]; exact m1.size
  replace hNK := Lib.hid hNK
  replace hNN := Lib.hid hNN
  replace hNB := Lib.hid hNB
  replace hw1 := Lib.hid hw1
  replace hg1 := Lib.hid hg1
  replace hw2 := Lib.hid hw2
  replace hg2 := Lib.hid hg2
  replace x2 := Lib.hid x2
  replace y1 := Lib.hid y1
  replace m02 := Lib.hid m02
  replace k2 := Lib.hid k2
  replace n2 := Lib.hid n2
  replace b2 := Lib.hid b2
  replace g2w := Lib.hid g2w
  replace hkl := Lib.hid hkl
  replace hnl := Lib.hid hnl
  replace hbl := Lib.hid hbl
  clear m1 m2 x1 hk hn hb
  go_enter Tryz.func6, Tryz.ntmps6
  go_upto_region 0 with (fail)
  refine wp_region_lit ?_
  refine wpList_yields (by kernel_rfl) (.pointer (some ⟨g1, 0, none⟩)) w1 (by rw [hw1.out, hg1.out]; simp [execOp, Instr.box, Sem.run_bind, newVar, newRow, Value.cells]; rfl) ?_
  simp only [Act.put, List.setIfInBounds_toArray, List.set_cons_zero, List.set_cons_succ]
  refine wpList_yields (by kernel_rfl) (.pointer (some ⟨g2, 0, none⟩)) w2 (by rw [hw2.out, hg2.out]; exact alloc_arrY 24 _ zeroWT _ _ _ rfl) ?_
  simp only [Act.put, List.setIfInBounds_toArray, List.set_cons_zero, List.set_cons_succ]
  go_upto_region 1 with (fail)
  refine wp_region_any (by kernel_rfl) (any_of_Z (S := fun W => Mod (fun _ => False) w2 W) (z := 10) _ _ _ _ ?_)
  simp only [List.size_toArray, List.length_cons, List.length_nil, Nat.reduceAdd, Array.replicate_succ, Array.replicate_zero, List.push_toArray, List.nil_append, List.cons_append]
  have md : Mod (fun _ => False) w2 w2.drew := (Mod.refl _ _).drew
  change anyZ _ _ _ _ _ _ _ _ _ w2.drew
  obtain ⟨wd, hwd⟩ : ∃ x, x = w2.drew := ⟨_, rfl⟩
  rw [← hwd] at md ⊢
  clear hwd
  refine anyZ_take 0 _ (some 3) (.pointer (some ⟨g1, 0, none⟩)) rfl (by kernel_rfl) (by kernel_rfl) (by kernel_rfl) (by kernel_rfl) (by kernel_rfl) (by decide) rfl (fun w' hS => ?_) md ?_
  · go_simp
  simp only [Act.put, List.setIfInBounds_toArray, List.set_cons_zero, List.set_cons_succ]
  refine anyZ_take 1 _ (some 4) (.slice ak NK ck) rfl (by kernel_rfl) (by kernel_rfl) (by kernel_rfl) (by kernel_rfl) (by kernel_rfl) (by decide) rfl (fun w' hS => ?_) md ?_
  · exact run_load_op rfl rfl (ld_slC1 (cell_of_row _ _ _ _ _ _ (hS.heap y1.out (fun h => h))))
  simp only [Act.put, List.setIfInBounds_toArray, List.set_cons_zero, List.set_cons_succ]
  refine anyZ_take 3 _ (some 6) (.pointer (some ⟨g1, 1, none⟩)) rfl (by kernel_rfl) (by kernel_rfl) (by kernel_rfl) (by kernel_rfl) (by kernel_rfl) (by decide) rfl (fun w' hS => ?_) md ?_
  · go_simp
  simp only [Act.put, List.setIfInBounds_toArray, List.set_cons_zero, List.set_cons_succ]
  refine anyZ_take 4 _ (some 7) (.slice an NN cn) rfl (by kernel_rfl) (by kernel_rfl) (by kernel_rfl) (by kernel_rfl) (by kernel_rfl) (by decide) rfl (fun w' hS => ?_) md ?_
  · exact run_load_op rfl rfl (ld_slC1 (cell_of_row _ _ _ _ _ _ (hS.heap y1.out (fun h => h))))
  simp only [Act.put, List.setIfInBounds_toArray, List.set_cons_zero, List.set_cons_succ]
  refine anyZ_take 6 _ (some 9) (.pointer (some ⟨g1, 2, none⟩)) rfl (by kernel_rfl) (by kernel_rfl) (by kernel_rfl) (by kernel_rfl) (by kernel_rfl) (by decide) rfl (fun w' hS => ?_) md ?_
  · go_simp
  simp only [Act.put, List.setIfInBounds_toArray, List.set_cons_zero, List.set_cons_succ]
  refine anyZ_take 7 _ (some 10) (.slice ab NB cb) rfl (by kernel_rfl) (by kernel_rfl) (by kernel_rfl) (by kernel_rfl) (by kernel_rfl) (by decide) rfl (fun w' hS => ?_) md ?_
  · exact run_load_op rfl rfl (ld_slC1 (cell_of_row _ _ _ _ _ _ (hS.heap y1.out (fun h => h))))
  simp only [Act.put, List.setIfInBounds_toArray, List.set_cons_zero, List.set_cons_succ]
  refine anyZ_call 2 _ (some 5) rfl (by kernel_rfl) (by kernel_rfl) rfl 7 #[.slice ak NK ck] (by go_simp) ?_
  refine (twin_new _ k wd (k2.out.mod md (fun _ _ h => h)) (by have := hkl.out; omega)).mono ?_
  rintro e u1 ⟨n1, v1, rfl, t1, f1⟩
  have m1' := md.trans n1
  refine ⟨_, rfl, fun _ => m1', ?_⟩
  simp only [Act.put, List.setIfInBounds_toArray, List.set_cons_zero, List.set_cons_succ]
  refine anyZ_call 5 _ (some 8) rfl (by kernel_rfl) (by kernel_rfl) rfl 7 #[.slice an NN cn] (by go_simp) ?_
  refine (twin_new _ n u1 (n2.out.mod m1' (fun _ _ h => h)) (by have := hnl.out; omega)).mono ?_
  rintro e u2 ⟨n2, v2, rfl, t2, f2⟩
  have m2' := m1'.trans n2
  replace t1 := t1.mod n2 (fun _ h => h)
  refine ⟨_, rfl, fun _ => m2', ?_⟩
  simp only [Act.put, List.setIfInBounds_toArray, List.set_cons_zero, List.set_cons_succ]
  refine anyZ_call 8 _ (some 11) rfl (by kernel_rfl) (by kernel_rfl) rfl 7 #[.slice ab NB cb] (by go_simp) ?_
  refine (twin_new _ b u2 (b2.out.mod m2' (fun _ _ h => h)) (by have := hbl.out; omega)).mono ?_
  rintro e u3 ⟨n3, v3, rfl, t3, f3⟩
  have m3' := m2'.trans n3
  replace t1 := t1.mod n3 (fun _ h => h)
  replace t2 := t2.mod n3 (fun _ h => h)
  refine ⟨_, rfl, fun _ => m3', ?_⟩
  simp only [Act.put, List.setIfInBounds_toArray, List.set_cons_zero, List.set_cons_succ]
  refine anyZ_next 9 _ (some 12) rfl (by kernel_rfl) (by kernel_rfl) rfl (.agg #[v1, v2, v3]) u3 (build_with _ _ _ _ _ _ _ _ _ t1.sl t2.sl t3.sl rfl rfl rfl rfl) (fun _ => m3') ?_
  simp only [Act.put, List.setIfInBounds_toArray, List.set_cons_zero, List.set_cons_succ]
  obtain ⟨u4, s4, n4, x4⟩ := storeWT (m3'.heap x2.out (fun h => h)) (a' := v1) (b' := v2) (c' := v3) (by obtain ⟨_, _, _, h⟩ := t1.sl; rw [h]; rfl) (by obtain ⟨_, _, _, h⟩ := t2.sl; rw [h]; rfl) (by obtain ⟨_, _, _, h⟩ := t3.sl; rw [h]; rfl)
  have g2u : g2 < w2.heap.size := lt_of_heap x2.out
  have mf : Mod (fun _ => False) w u4 := (m02.out.trans m3').trans' n4 (fun i hi h => by have := g2w.out; omega)
  have sz1 := md.size
  have sz2 := m1'.size
  have sz3 := m2'.size
  have t1' : TwinAt u4 v1 k := twin_block t1 n4 (fun x hx h => by have := f1 x hx; omega)
  have t2' : TwinAt u4 v2 n := twin_block t2 n4 (fun x hx h => by have := f2 x hx; omega)
  have t3' : TwinAt u4 v3 b := twin_block t3 n4 (fun x hx h => by have := f3 x hx; omega)
  refine anyZ_skip 10 _ rfl (by kernel_rfl) (by kernel_rfl) rfl u4 (run_store_op rfl rfl rfl s4) (fun h => absurd rfl h) ?_
  simp only [Act.put, List.setIfInBounds_toArray, List.set_cons_zero, List.set_cons_succ]
  refine anyZ_done (by kernel_rfl) ?_ _
  replace x4 := Lib.hid x4
  replace mf := Lib.hid mf
  replace t1' := Lib.hid t1'
  replace t2' := Lib.hid t2'
  replace t3' := Lib.hid t3'
  clear t1 t2 t3 f1 f2 f3 n1 n3 n4 m1' m2' m3' md s4 sz1 sz2 sz3
  go_wp2
  refine bodyPost_ret (v := .agg #[v1, v2, v3]) (resultsWT rfl _ _ _ _ _ _ rfl x4.out) rfl ?_
  exact ⟨mf.out, v1, v2, v3, rfl, t1'.out, t2'.out, t3'.out⟩
set_option maxRecDepth 100000 in
set_option maxHeartbeats 4000000 in
theorem wleft_any (v1 v2 v3 vk vn vb : Value) (k n b : List (BitVec 8)) (hkl : k.length ≤ 140737488351232) (hnl : n.length ≤ 140737488351232) (hbl : b.length ≤ 140737488351232) (w : World) (t1 : TwinAt w v1 k) (t2 : TwinAt w v2 n) (t3 : TwinAt w v3 b) (hk : ByteAt w vk k) (hn : ByteAt w vn n) (hb : ByteAt w vb b) :
    Calls Tryz.prog 11 #[.agg #[v1, v2, v3], .agg #[vk, vn, vb]] w fun e w' => Mod (fun _ => False) w w' ∧ e = .returned (.bool true) := by
  obtain ⟨ak, ck, hvk, _⟩ := hk.slice
  obtain ⟨an, cn, hvn, _⟩ := hn.slice
  obtain ⟨ab, cb, hvb, _⟩ := hb.slice
  obtain ⟨q1, l1, c1, hv1⟩ := t1.sl
  obtain ⟨q2, l2, c2, hv2⟩ := t2.sl
  obtain ⟨q3, l3, c3, hv3⟩ := t3.sl
  subst hvk hvn hvb hv1 hv2 hv3
  obtain ⟨NK, hNK⟩ : ∃ x, x = k.length := ⟨_, rfl⟩
  obtain ⟨NN, hNN⟩ : ∃ x, x = n.length := ⟨_, rfl⟩
  obtain ⟨NB, hNB⟩ : ∃ x, x = b.length := ⟨_, rfl⟩
  rw [← hNK] at hk ⊢
  rw [← hNN] at hn ⊢
  rw [← hNB] at hb ⊢
  obtain ⟨w1, hw1⟩ : ∃ x, x = w.alloc (.cells #[.slice q1 l1 c1, .slice q2 l2 c2, .slice q3 l3 c3] 24) := ⟨_, rfl⟩
  obtain ⟨g1, hg1⟩ : ∃ x, x = w.heap.size := ⟨_, rfl⟩
  have m1 : Mod (fun _ => False) w w1 := by rw [hw1]; exact (Mod.refl _ _).alloc _
  have x1 : w1.heap[g1]? = some (.cells #[.slice q1 l1 c1, .slice q2 l2 c2, .slice q3 l3 c3] 24 (0,0)) := by rw [hw1]; exact hp_new _ _ _ hg1
  obtain ⟨w2, hw2⟩ : ∃ x, x = w1.alloc (.cells #[.slice ak NK ck, .slice an NN cn, .slice ab NB cb] 24) := ⟨_, rfl⟩
  obtain ⟨g2, hg2⟩ : ∃ x, x = w1.heap.size := ⟨_, rfl⟩
  have m2 : Mod (fun _ => False) w1 w2 := by rw [hw2]; exact (Mod.refl _ _).alloc _
  have y2 : w2.heap[g2]? = some (.cells #[.slice ak NK ck, .slice an NN cn, .slice ab NB cb] 24 (0,0)) := by rw [hw2]; exact hp_new _ _ _ hg2
  have y1 := m2.heap x1 (fun h => h)
  have m0 := m1.trans m2
  replace hk := hk.mod m0 (fun _ _ h => h)
  replace hn := hn.mod m0 (fun _ _ h => h)
  replace hb := hb.mod m0 (fun _ _ h => h)
  replace t1 := t1.mod m0 (fun _ h => h)
  replace t2 := t2.mod m0 (fun _ h => h)
  replace t3 := t3.mod m0 (fun _ h => h)
  replace hNK := Lib.hid hNK
  replace hNN := Lib.hid hNN
  replace hNB := Lib.hid hNB
  replace hw1 := Lib.hid hw1
  replace hg1 := Lib.hid hg1
  replace hw2 := Lib.hid hw2
  replace hg2 := Lib.hid hg2
  replace y1 := Lib.hid y1
  replace y2 := Lib.hid y2
  replace m0 := Lib.hid m0
  replace hk := Lib.hid hk
  replace hn := Lib.hid hn
  replace hb := Lib.hid hb
  replace t1 := Lib.hid t1
  replace t2 := Lib.hid t2
  replace t3 := Lib.hid t3
  replace hkl := Lib.hid hkl
  replace hnl := Lib.hid hnl
  replace hbl := Lib.hid hbl
  clear m1 m2 x1
  go_enter Tryz.func11, Tryz.ntmps11
  go_upto_region 0 with (fail)
  refine wp_region_lit ?_
  refine wpList_yields (by kernel_rfl) (.pointer (some ⟨g1, 0, none⟩)) w1 (by rw [hw1.out, hg1.out]; simp [execOp, Instr.box, Sem.run_bind, newVar, newRow, Value.cells]; rfl) ?_
  simp only [Act.put, List.setIfInBounds_toArray, List.set_cons_zero, List.set_cons_succ]
  refine wpList_yields (by kernel_rfl) (.pointer (some ⟨g2, 0, none⟩)) w2 (by rw [hw2.out, hg2.out]; simp [execOp, Instr.box, Sem.run_bind, newVar, newRow, Value.cells]; rfl) ?_
  simp only [Act.put, List.setIfInBounds_toArray, List.set_cons_zero, List.set_cons_succ]
  refine wpList_reads (by kernel_rfl) (.bool false) (by go_simp) ?_
  simp only [Act.put, List.setIfInBounds_toArray, List.set_cons_zero, List.set_cons_succ]
  go_upto_region 1 with (fail)
  refine wp_region_lit ?_
  refine wpList_reads (by kernel_rfl) (.pointer (some ⟨g1, 0, none⟩)) (by go_simp) ?_
  simp only [Act.put, List.setIfInBounds_toArray, List.set_cons_zero, List.set_cons_succ]
  refine wpList_reads (by kernel_rfl) (.slice q1 l1 c1) (run_load_op rfl rfl (ld_slC1 (show w2.cell? ⟨g1, 0, none⟩ = _ from cell_of_row _ _ _ _ _ _ y1.out))) ?_
  simp only [Act.put, List.setIfInBounds_toArray, List.set_cons_zero, List.set_cons_succ]
  refine wpList_reads (by kernel_rfl) (.pointer (some ⟨g2, 0, none⟩)) (by go_simp) ?_
  simp only [Act.put, List.setIfInBounds_toArray, List.set_cons_zero, List.set_cons_succ]
  refine wpList_reads (by kernel_rfl) (.slice ak NK ck) (run_load_op rfl rfl (ld_slC1 (show w2.cell? ⟨g2, 0, none⟩ = _ from cell_of_row _ _ _ _ _ _ y2.out))) ?_
  simp only [Act.put, List.setIfInBounds_toArray, List.set_cons_zero, List.set_cons_succ]
  refine wpList_enter (by kernel_rfl) 12 #[.slice q1 l1 c1, .slice ak NK ck] (by go_simp) (left_any _ _ k w2 t1.out hk.out (by have := hkl.out; omega)) ?_
  rintro e u1 ⟨mu1, rfl⟩
  replace hk := Lib.hid (hk.out.mod mu1 (fun _ _ h => h))
  replace hn := Lib.hid (hn.out.mod mu1 (fun _ _ h => h))
  replace hb := Lib.hid (hb.out.mod mu1 (fun _ _ h => h))
  replace t1 := Lib.hid (t1.out.mod mu1 (fun _ h => h))
  replace t2 := Lib.hid (t2.out.mod mu1 (fun _ h => h))
  replace t3 := Lib.hid (t3.out.mod mu1 (fun _ h => h))
  replace y1 := Lib.hid (mu1.heap y1.out (fun h => h))
  replace y2 := Lib.hid (mu1.heap y2.out (fun h => h))
  replace m0 := Lib.hid (m0.out.trans mu1)
  clear mu1
  refine ⟨_, rfl, ?_⟩
  simp only [Act.put, List.setIfInBounds_toArray, List.set_cons_zero, List.set_cons_succ]
  refine wpList_reads (by kernel_rfl) (.bool true) (by go_simp) ?_
  simp only [Act.put, List.setIfInBounds_toArray, List.set_cons_zero, List.set_cons_succ]
  refine wpList_reads (by kernel_rfl) (.pointer (some ⟨g1, 1, none⟩)) (by go_simp) ?_
  simp only [Act.put, List.setIfInBounds_toArray, List.set_cons_zero, List.set_cons_succ]
  refine wpList_reads (by kernel_rfl) (.slice q2 l2 c2) (run_load_op rfl rfl (ld_slC1 (show u1.cell? ⟨g1, 1, none⟩ = _ from cell_of_row _ _ _ _ _ _ y1.out))) ?_
  simp only [Act.put, List.setIfInBounds_toArray, List.set_cons_zero, List.set_cons_succ]
  refine wpList_reads (by kernel_rfl) (.pointer (some ⟨g2, 1, none⟩)) (by go_simp) ?_
  simp only [Act.put, List.setIfInBounds_toArray, List.set_cons_zero, List.set_cons_succ]
  refine wpList_reads (by kernel_rfl) (.slice an NN cn) (run_load_op rfl rfl (ld_slC1 (show u1.cell? ⟨g2, 1, none⟩ = _ from cell_of_row _ _ _ _ _ _ y2.out))) ?_
  simp only [Act.put, List.setIfInBounds_toArray, List.set_cons_zero, List.set_cons_succ]
  refine wpList_enter (by kernel_rfl) 12 #[.slice q2 l2 c2, .slice an NN cn] (by go_simp) (left_any _ _ n u1 t2.out hn.out (by have := hnl.out; omega)) ?_
  rintro e u2 ⟨mu2, rfl⟩
  replace hk := Lib.hid (hk.out.mod mu2 (fun _ _ h => h))
  replace hn := Lib.hid (hn.out.mod mu2 (fun _ _ h => h))
  replace hb := Lib.hid (hb.out.mod mu2 (fun _ _ h => h))
  replace t1 := Lib.hid (t1.out.mod mu2 (fun _ h => h))
  replace t2 := Lib.hid (t2.out.mod mu2 (fun _ h => h))
  replace t3 := Lib.hid (t3.out.mod mu2 (fun _ h => h))
  replace y1 := Lib.hid (mu2.heap y1.out (fun h => h))
  replace y2 := Lib.hid (mu2.heap y2.out (fun h => h))
  replace m0 := Lib.hid (m0.out.trans mu2)
  clear mu2
  refine ⟨_, rfl, ?_⟩
  simp only [Act.put, List.setIfInBounds_toArray, List.set_cons_zero, List.set_cons_succ]
  refine wpList_reads (by kernel_rfl) (.bool true) (by go_simp) ?_
  simp only [Act.put, List.setIfInBounds_toArray, List.set_cons_zero, List.set_cons_succ]
  refine wpList_reads (by kernel_rfl) (.bool true) (by go_simp) ?_
  simp only [Act.put, List.setIfInBounds_toArray, List.set_cons_zero, List.set_cons_succ]
  refine wpList_reads (by kernel_rfl) (.pointer (some ⟨g1, 2, none⟩)) (by go_simp) ?_
  simp only [Act.put, List.setIfInBounds_toArray, List.set_cons_zero, List.set_cons_succ]
  refine wpList_reads (by kernel_rfl) (.slice q3 l3 c3) (run_load_op rfl rfl (ld_slC1 (show u2.cell? ⟨g1, 2, none⟩ = _ from cell_of_row _ _ _ _ _ _ y1.out))) ?_
  simp only [Act.put, List.setIfInBounds_toArray, List.set_cons_zero, List.set_cons_succ]
  refine wpList_reads (by kernel_rfl) (.pointer (some ⟨g2, 2, none⟩)) (by go_simp) ?_
  simp only [Act.put, List.setIfInBounds_toArray, List.set_cons_zero, List.set_cons_succ]
  refine wpList_reads (by kernel_rfl) (.slice ab NB cb) (run_load_op rfl rfl (ld_slC1 (show u2.cell? ⟨g2, 2, none⟩ = _ from cell_of_row _ _ _ _ _ _ y2.out))) ?_
  simp only [Act.put, List.setIfInBounds_toArray, List.set_cons_zero, List.set_cons_succ]
  refine wpList_enter (by kernel_rfl) 12 #[.slice q3 l3 c3, .slice ab NB cb] (by go_simp) (left_any _ _ b u2 t3.out hb.out (by have := hbl.out; omega)) ?_
  rintro e u3 ⟨mu3, rfl⟩
  replace hk := Lib.hid (hk.out.mod mu3 (fun _ _ h => h))
  replace hn := Lib.hid (hn.out.mod mu3 (fun _ _ h => h))
  replace hb := Lib.hid (hb.out.mod mu3 (fun _ _ h => h))
  replace t1 := Lib.hid (t1.out.mod mu3 (fun _ h => h))
  replace t2 := Lib.hid (t2.out.mod mu3 (fun _ h => h))
  replace t3 := Lib.hid (t3.out.mod mu3 (fun _ h => h))
  replace y1 := Lib.hid (mu3.heap y1.out (fun h => h))
  replace y2 := Lib.hid (mu3.heap y2.out (fun h => h))
  replace m0 := Lib.hid (m0.out.trans mu3)
  clear mu3
  refine ⟨_, rfl, ?_⟩
  simp only [Act.put, List.setIfInBounds_toArray, List.set_cons_zero, List.set_cons_succ]
  refine wpList_reads (by kernel_rfl) (.bool true) (by go_simp) ?_
  simp only [Act.put, List.setIfInBounds_toArray, List.set_cons_zero, List.set_cons_succ]
  refine wpList_reads (by kernel_rfl) (.bool true) (by go_simp) ?_
  simp only [Act.put, List.setIfInBounds_toArray, List.set_cons_zero, List.set_cons_succ]
  go_wp2
  go_ret
  exact ⟨m0.out, rfl⟩
end Go.Proofs.YtbiijcljpgannaaGreatDoor
