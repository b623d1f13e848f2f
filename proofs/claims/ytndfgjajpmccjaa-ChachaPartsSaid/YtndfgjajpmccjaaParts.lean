/-
  The walk of ChachaParts.
-/
import Derived.Deep.AppendLies
import Derived.Test.YtndfgjajpmccjaaTwice
namespace Go.Proofs.Ytndfgjajpmccjaa
open Go Go.RowKit
set_option linter.unusedSimpArgs false

theorem streamAt_shift (key nonce : List (BitVec 8)) (count : BitVec 32) (k i : Nat) : streamAt key nonce (count + BitVec.ofNat 32 k) i = streamAt key nonce count (64 * k + i) := by
  unfold streamAt
  rw [show (64 * k + i) / 64 = k + i / 64 by omega, show (64 * k + i) % 64 = i % 64 by omega, BitVec.ofNat_add, BitVec.add_assoc]
theorem xorS_append (key nonce : List (BitVec 8)) (count : BitVec 32) (bs : List (BitVec 8)) (k : Nat) (hk : 64 * k ≤ bs.length) :
    xorS key nonce count (bs.take (64 * k)) ++ xorS key nonce (count + BitVec.ofNat 32 k) (bs.drop (64 * k)) = xorS key nonce count bs := by
  have l1 : (bs.take (64 * k)).length = 64 * k := by rw [List.length_take]; omega
  apply List.ext_getElem
  · rw [List.length_append, xorS_length, xorS_length, xorS_length, List.length_take, List.length_drop]; omega
  · intro i h1 h2
    have h3 : i < bs.length := by rw [xorS_length] at h2; exact h2
    have e : ∀ (l : List (BitVec 8)) (h : i < l.length), l[i] = l.getD i 0 := fun l h => by rw [List.getD_eq_getElem?_getD, List.getElem?_eq_getElem h]; rfl
    rw [e _ h2, xorS_get _ _ _ _ _ h3]
    by_cases hlt : i < 64 * k
    · rw [List.getElem_append_left (by rw [xorS_length, l1]; exact hlt), e _ (by rw [xorS_length, l1]; exact hlt), xorS_get _ _ _ _ _ (by rw [l1]; exact hlt)]
      rw [List.getD_eq_getElem?_getD, List.getD_eq_getElem?_getD, List.getElem?_take, if_pos hlt]
    · have h5 : i - 64 * k < (bs.drop (64 * k)).length := by rw [List.length_drop]; omega
      have e2 : ∀ (l : List (BitVec 8)) (h : i - 64 * k < l.length), l[i - 64 * k] = l.getD (i - 64 * k) 0 := fun l h => by rw [List.getD_eq_getElem?_getD, List.getElem?_eq_getElem h]; rfl
      rw [List.getElem_append_right (by rw [xorS_length, l1]; omega)]
      simp only [xorS_length, l1]
      rw [e2 _ (by rw [xorS_length]; exact h5), xorS_get _ _ _ _ _ h5, streamAt_shift, show 64 * k + (i - 64 * k) = i by omega]
      rw [List.getD_eq_getElem?_getD, List.getD_eq_getElem?_getD, List.getElem?_drop, show 64 * k + (i - 64 * k) = i by omega]

/-- Bytes as cells. -/
def bytesV (bs : List (BitVec 8)) : List Value := bs.map fun b => .int .u8 (b.toNat : Int)
theorem bytesV_get {bs : List (BitVec 8)} {j : Nat} (hj : j < bs.length) : (bytesV bs)[j]? = some (.int .u8 ((bs.getD j 0).toNat : Int)) := by
  unfold bytesV
  rw [List.getElem?_map, List.getD_eq_getElem?_getD, List.getElem?_eq_getElem hj]
  rfl
theorem own_of_row {w : World} {g : Nat} {t : TypeId} {bs : List (BitVec 8)} (h : w.heap[g]? = some (.cells (encB bs) t (0,0))) (hm : bs.length ≤ maxLen) : w.ownsRow 0 t 1 (.slice (some ⟨g, 0, none⟩) bs.length bs.length) bs.length (bytesV bs) :=
  ⟨by simp [bytesV], .inr ⟨g, bs.length, encB bs, rfl, Nat.zero_le _, h, Nat.le_refl _, hm, by rw [encB_size, Nat.mul_one], by simp only [encB, bytesV, Nat.mul_one]; exact List.take_of_length_le (by simp)⟩⟩
theorem byteAt_of_own {w : World} {t : TypeId} {v : Value} {n : Nat} {bs : List (BitVec 8)} (h : w.ownsRow 0 t 1 v n (bytesV bs)) : ByteAt w v bs := by
  obtain ⟨h1, h2⟩ := h
  have hn : bs.length = n := by simpa [bytesV] using h1
  rcases h2 with ⟨rfl, rfl⟩ | ⟨g, cap, cur, rfl, _, h3, h4, _, _, h6⟩
  · exact .inl ⟨_, _, rfl, List.eq_nil_of_length_eq_zero hn⟩
  · refine .inr ⟨g, 0, cap, by rw [hn], by omega, fun j hj => ?_⟩
    rw [cell_of_row _ _ _ _ _ _ h3, Nat.zero_add]
    have h7 := bytesV_get hj
    rw [← h6, List.getElem?_take, if_pos (by omega)] at h7
    simpa using h7
theorem run_load_op {P : Program} {o : Oper} {a : Act} {w : World} {ty : TypeId} (x : Operand) (ho : o.op = .load ty x) (p : Addr) (hx : a.eval x = .pointer (some p)) (v : Value) (hr : (loadVar ty p).run P w = .ok v w) : (execOp a.eval o).run P w = .ok (.value v) w := by
  unfold execOp
  simp only [ho, hx, Instr.loadAt, Instr.sureAddr, Sem.run_bind, Sem.run_pure, Result.andThen_ok, hr]
theorem ByteAt.take {w : World} {ad : Option Addr} {n cap m : Nat} {bs : List (BitVec 8)} (h : ByteAt w (.slice ad n cap) bs) (hm : m ≤ bs.length) : ByteAt w (.slice ad m cap) (bs.take m) := by
  have hl : (bs.take m).length = m := by rw [List.length_take]; omega
  rcases h with ⟨ad', cap', h1, rfl⟩ | ⟨g, off, cap', h1, h2, h3⟩
  · obtain rfl : m = 0 := by simpa using hm
    exact .inl ⟨_, _, rfl, by simp⟩
  · injection h1 with h1 h4 h5
    subst h1 h5
    refine .inr ⟨g, off, cap, by rw [hl], by omega, fun j hj => ?_⟩
    rw [hl] at hj
    rw [h3 j (by omega), List.getD_eq_getElem?_getD, List.getD_eq_getElem?_getD, List.getElem?_take, if_pos hj]
theorem ByteAt.drop {w : World} {g off n cap m : Nat} {bs : List (BitVec 8)} (h : ByteAt w (.slice (some ⟨g, off, none⟩) n cap) bs) (hm : m < bs.length) : ByteAt w (.slice (some ⟨g, off + m, none⟩) (bs.length - m) (cap - m)) (bs.drop m) := by
  have hl : (bs.drop m).length = bs.length - m := by rw [List.length_drop]
  rcases h with ⟨ad', cap', h1, rfl⟩ | ⟨g', off', cap', h1, h2, h3⟩
  · simp at hm
  · injection h1 with h1 h4 h5
    injection h1 with h1
    injection h1 with h1 h6 _
    subst h1 h5 h6
    refine .inr ⟨g, off + m, cap - m, by rw [hl], by omega, fun j hj => ?_⟩
    rw [hl] at hj
    rw [Nat.add_assoc, h3 (m + j) (by omega), List.getD_eq_getElem?_getD, List.getD_eq_getElem?_getD, List.getElem?_drop]
set_option maxHeartbeats 4000000 in
theorem parts_walk (key nonce : List (BitVec 8)) (count : BitVec 32) (hk : key.length = 32) (hn : nonce.length = 12) (v : Value) (bs : List (BitVec 8)) (a : Nat) (w : World) (hb : ByteAt w v bs) (hl : bs.length < 9223372036854775808) (ha : a < 65536) :
    Calls Try.prog 5 #[.agg (fromC key count nonce), v, .int .u16 (a : Int)] w fun e w' => e = .returned (.bool true) ∧ Below w.heap.size w w' := by
  have hw1 : ∀ w1, w1 = w.alloc (.cells (fromC key count nonce) 26) → Mod (fun _ => False) w w1 ∧ w1.heap[w.heap.size]? = some (.cells (fromC key count nonce) 26 (0,0)) := by
    rintro w1 rfl
    exact ⟨(Mod.refl _ w).alloc _, heap_alloc_new w _⟩
  have hbm : ∀ w', Mod (fun _ => False) w w' → ByteAt w' v bs := fun w' m => hb.mod m (fun _ _ h => h)
  have lk : ∀ w', w'.heap[w.heap.size]? = some (.cells (fromC key count nonce) 26 (0,0)) → (loadVar 22 ⟨w.heap.size, 0, none⟩).run Try.prog w' = .ok (.agg (encB key)) w' := fun w' h => load_key key count nonce hk w' _ _ h
  have lc : ∀ w', w'.heap[w.heap.size]? = some (.cells (fromC key count nonce) 26 (0,0)) → (loadVar 23 ⟨w.heap.size, 32, none⟩).run Try.prog w' = .ok (.int .u32 (count.toNat : Int)) w' := fun w' h => load_count key count nonce hk w' _ _ h
  have ln : ∀ w', w'.heap[w.heap.size]? = some (.cells (fromC key count nonce) 26 (0,0)) → (loadVar 24 ⟨w.heap.size, 33, none⟩).run Try.prog w' = .ok (.agg (encB nonce)) w' := fun w' h => load_nonce key count nonce hk hn w' _ _ h
  have hx := fun v bs w h h2 => xor_any key nonce hk hn count v bs w h h2
  obtain ⟨ad, cap, hv, _⟩ := hb.slice
  generalize hfr : fromC key count nonce = fr at *
  clear hfr
  obtain ⟨n, en⟩ : ∃ n, bs.length = n := ⟨_, rfl⟩
  rw [en] at hl hv
  subst hv
  have hncap : n = 0 ∨ ∃ g off, ad = some ⟨g, off, none⟩ ∧ n ≤ cap := by
    rcases hb with ⟨_, _, _, h2⟩ | ⟨g, off, c, h1, h2, _⟩
    · left; rw [← en, h2]; rfl
    · right
      injection h1 with h1 h3 h4
      exact ⟨g, off, h1, by omega⟩
  clear hb
  replace hw1 := Lib.hid hw1
  replace hbm := Lib.hid hbm
  replace lk := Lib.hid lk
  replace lc := Lib.hid lc
  replace ln := Lib.hid ln
  replace hx := Lib.hid hx
  replace en := Lib.hid en
  replace hncap := Lib.hid hncap
  go_enter Try.func5, Try.ntmps5
  go_wp2_with (fail)
  refine calls_world fun w1 hw1' => ?_
  obtain ⟨m1, f1⟩ := hw1.out w1 hw1'
  clear hw1 hw1'
  refine (alive_any w1).mono ?_
  rintro e w2 ⟨m2, rfl⟩
  have f2 := m2.heap f1 (fun h => h)
  have m02 := m1.trans m2
  clear m1 m2 f1
  by_cases hbig : 20000 < n
  · have hd : decide ((20000 : Int) < (n : Int)) = true := by rw [decide_eq_true_iff]; omega
    go_wp2_with (fail)
    refine (alive_any _).mono ?_
    rintro e w5 ⟨m5, rfl⟩
    go_wp2
    go_ret
    exact ⟨rfl, (m02.trans m5).below (Nat.le_refl _) (fun i h => h.elim)⟩
  · have hd : decide ((20000 : Int) < (n : Int)) = false := by rw [decide_eq_false_iff_not]; omega
    go_wp2_with (first | (refine wpList_load_run rfl 22 _ rfl _ _ rfl _ (lk.out _ f2) ?_) | (refine wpList_load_run rfl 23 _ rfl _ _ rfl _ (lc.out _ f2) ?_) | (refine wpList_load_run rfl 24 _ rfl _ _ rfl _ (ln.out _ f2) ?_))
    refine (hx.out _ bs w2 (hbm.out _ m02) (by rw [en.out]; omega)).mono ?_
    rintro e w3 ⟨m3, h3⟩
    have f3 := m3.heap f2 (fun h => h)
    have m03 := m02.trans m3
    rw [en.out] at h3
    clear m3 f2 m02
    have hovf : (∃ s, e = .returned (.tuple #[s, .int .i64 3])) ∨ (∃ s, e = .returned (.tuple #[s, .int .i64 0]) ∧ count.toNat + (n + 63) / 64 ≤ 4294967296 ∧ (n ≠ 0 → ∃ g, s = .slice (some ⟨g, 0, none⟩) n n ∧ w3.heap[g]? = some (.cells (encB (xorS key nonce count bs)) 5 (0,0)))) := by
      rcases h3 with ⟨h0, rfl⟩ | ⟨h0, hnil, rfl⟩ | ⟨h0, hnil, g, hg, rfl, hr⟩
      · exact .inl ⟨_, rfl⟩
      · exact .inr ⟨_, rfl, h0, fun h => absurd (by rw [← en.out, hnil]; rfl) h⟩
      · exact .inr ⟨_, rfl, h0, fun _ => ⟨g, rfl, hr⟩⟩
    clear h3
    rcases hovf with ⟨s, rfl⟩ | ⟨s, rfl, hov, hrow⟩
    · go_wp2
      go_ret
      exact ⟨rfl, m03.below (Nat.le_refl _) (fun i h => h.elim)⟩
    · replace hov := Lib.hid hov
      replace hrow := Lib.hid hrow
      replace m03 := Lib.hid m03
      obtain ⟨k, ek⟩ : ∃ k, k = a % (n / 64 + 1) := ⟨_, rfl⟩
      have hkn : k ≤ n / 64 := by have := Nat.mod_lt a (y := n / 64 + 1) (by omega); omega
      go_upto_region 7 with (fail)
      generalize ek' : ((a : Int) % ((n : Int) / 64 + 1)) = kz
      obtain rfl : kz = (k : Int) := by rw [← ek', ek]; rfl
      clear ek'
      replace ek := Lib.hid ek
      obtain ⟨m, em⟩ : ∃ m, m = 64 * k := ⟨_, rfl⟩
      have hmul : 64 * (k : Int) = (m : Int) := by omega
      have hmn : m ≤ n := by omega
      replace em := Lib.hid em
      by_cases hmeq : m = n
      · have hd : ((m : Int) == (n : Int)) = true := by rw [hmeq]; simp
        go_wp2
        go_ret
        exact ⟨rfl, m03.out.below (Nat.le_refl _) (fun i h => h.elim)⟩
      · have hd : ((m : Int) == (n : Int)) = false := by simp; omega
        have hlt : m < n := by omega
        obtain ⟨g, off, rfl, hcap⟩ : ∃ g off, ad = some ⟨g, off, none⟩ ∧ n ≤ cap := by
          rcases hncap.out with h | h
          · omega
          · exact h
        have b1 : (0 : Int) ≤ (m : Int) := by omega
        have b2 : (m : Int) ≤ (cap : Int) := by omega
        have b3 : (m : Int) ≤ (n : Int) := by omega
        have hwm : IntKind.i64.wrap (m : Int) = (m : Int) := by rw [IntKind.wrap_i64]; omega
        go_wp2_with (fail)
        have hS0 : w3.drew.heap[w.heap.size]? = some (.cells fr 26 (0,0)) := f3
        refine wp_region_any (by kernel_rfl) (any_of_Z (S := fun w' => w'.heap[w.heap.size]? = some (.cells fr 26 (0,0))) (z := 99) _ _ _ _ ?_)
        simp only [List.size_toArray, List.length_cons, List.length_nil, Nat.reduceAdd, Array.replicate_succ, Array.replicate_zero, List.push_toArray, List.nil_append, List.cons_append]
        refine anyZ_take 0 _ (some 51) (.pointer (some ⟨w.heap.size, 0, none⟩)) rfl (by kernel_rfl) (by kernel_rfl) (by kernel_rfl) (by kernel_rfl) (by kernel_rfl) (by decide) rfl (fun w' hS => ?_) hS0 ?_
        · go_simp
        simp only [Act.put, List.setIfInBounds_toArray, List.set_cons_zero, List.set_cons_succ]
        refine anyZ_take 1 _ (some 52) (.agg (encB key)) rfl (by kernel_rfl) (by kernel_rfl) (by kernel_rfl) (by kernel_rfl) (by kernel_rfl) (by decide) rfl (fun w' hS => ?_) hS0 ?_
        · exact run_load_op _ rfl _ rfl _ (lk.out _ hS)
        simp only [Act.put, List.setIfInBounds_toArray, List.set_cons_zero, List.set_cons_succ]
        refine anyZ_take 2 _ (some 53) (.pointer (some ⟨w.heap.size, 32, none⟩)) rfl (by kernel_rfl) (by kernel_rfl) (by kernel_rfl) (by kernel_rfl) (by kernel_rfl) (by decide) rfl (fun w' hS => ?_) hS0 ?_
        · go_simp
        simp only [Act.put, List.setIfInBounds_toArray, List.set_cons_zero, List.set_cons_succ]
        refine anyZ_take 3 _ (some 54) (.int .u32 (count.toNat : Int)) rfl (by kernel_rfl) (by kernel_rfl) (by kernel_rfl) (by kernel_rfl) (by kernel_rfl) (by decide) rfl (fun w' hS => ?_) hS0 ?_
        · exact run_load_op _ rfl _ rfl _ (lc.out _ hS)
        simp only [Act.put, List.setIfInBounds_toArray, List.set_cons_zero, List.set_cons_succ]
        refine anyZ_take 4 _ (some 55) (.pointer (some ⟨w.heap.size, 33, none⟩)) rfl (by kernel_rfl) (by kernel_rfl) (by kernel_rfl) (by kernel_rfl) (by kernel_rfl) (by decide) rfl (fun w' hS => ?_) hS0 ?_
        · go_simp
        simp only [Act.put, List.setIfInBounds_toArray, List.set_cons_zero, List.set_cons_succ]
        refine anyZ_take 5 _ (some 56) (.agg (encB nonce)) rfl (by kernel_rfl) (by kernel_rfl) (by kernel_rfl) (by kernel_rfl) (by kernel_rfl) (by decide) rfl (fun w' hS => ?_) hS0 ?_
        · exact run_load_op _ rfl _ rfl _ (ln.out _ hS)
        simp only [Act.put, List.setIfInBounds_toArray, List.set_cons_zero, List.set_cons_succ]
        refine anyZ_take 6 _ (some 57) (.slice (some ⟨g, off, none⟩) n cap) rfl (by kernel_rfl) (by kernel_rfl) (by kernel_rfl) (by kernel_rfl) (by kernel_rfl) (by decide) rfl (fun w' hS => ?_) hS0 ?_
        · go_simp
        simp only [Act.put, List.setIfInBounds_toArray, List.set_cons_zero, List.set_cons_succ]
        refine anyZ_take 7 _ (some 58) (.int .i64 (k : Int)) rfl (by kernel_rfl) (by kernel_rfl) (by kernel_rfl) (by kernel_rfl) (by kernel_rfl) (by decide) rfl (fun w' hS => ?_) hS0 ?_
        · go_simp
        simp only [Act.put, List.setIfInBounds_toArray, List.set_cons_zero, List.set_cons_succ]
        refine anyZ_take 8 _ (some 59) (.int .i64 (m : Int)) rfl (by kernel_rfl) (by kernel_rfl) (by kernel_rfl) (by kernel_rfl) (by kernel_rfl) (by decide) rfl (fun w' hS => ?_) hS0 ?_
        · go_simp
        simp only [Act.put, List.setIfInBounds_toArray, List.set_cons_zero, List.set_cons_succ]
        refine anyZ_take 9 _ (some 60) (.slice (some ⟨g, off, none⟩) m cap) rfl (by kernel_rfl) (by kernel_rfl) (by kernel_rfl) (by kernel_rfl) (by kernel_rfl) (by decide) rfl (fun w' hS => ?_) hS0 ?_
        · go_simp
        simp only [Act.put, List.setIfInBounds_toArray, List.set_cons_zero, List.set_cons_succ]
        refine anyZ_call 10 _ (some 61) rfl rfl (by kernel_rfl) rfl 11 #[.agg (encB key), .int .u32 (count.toNat : Int), .agg (encB nonce), .slice (some ⟨g, off, none⟩) m cap] (by go_simp) ?_
        have hb3 : ByteAt w3.drew (.slice (some ⟨g, off, none⟩) m cap) (bs.take m) := (hbm.out _ m03.out.drew).take (by rw [en.out]; exact hmn)
        have ltk : (bs.take m).length = m := by rw [List.length_take, en.out]; omega
        refine (hx.out _ (bs.take m) _ hb3 (by rw [ltk]; omega)).mono ?_
        rintro e w4 ⟨m4, h4⟩
        rw [ltk] at h4
        have f4 := m4.heap hS0 (fun h => h)
        have m04 := m03.out.drew.trans m4
        have hov' := hov.out
        obtain ⟨s4, rfl, own4, blk4⟩ : ∃ s4, e = .returned (.tuple #[s4, .int .i64 0]) ∧ (∀ w', Mod (fun k => w4.heap.size ≤ k) w4 w' → w'.ownsRow 0 5 1 s4 m (bytesV (xorS key nonce count (bs.take m)))) ∧ (∀ k, s4.ownBlock = some k → w3.heap.size ≤ k ∧ k < w4.heap.size) := by
          rcases h4 with ⟨h0, rfl⟩ | ⟨h0, hnil, rfl⟩ | ⟨h0, hnil, g2, hg2, rfl, hr⟩
          · omega
          · have hm0 : m = 0 := by rw [← ltk, hnil]; rfl
            rw [hnil]
            subst hm0
            exact ⟨_, rfl, fun w' _ => ⟨rfl, .inl ⟨rfl, rfl⟩⟩, fun k hk => by cases hk⟩
          · refine ⟨_, rfl, fun w' mm => ?_, fun k hk => ?_⟩
            · have h := own_of_row (mm.heap hr (by have := lt_of_heap hr; omega)) (by rw [xorS_length, ltk]; have : maxLen = 9223372036854775807 := rfl; omega)
              rw [xorS_length, ltk] at h
              exact h
            · injection hk with hk
              subst hk
              exact ⟨hg2, lt_of_heap hr⟩
        replace own4 := Lib.hid own4
        replace blk4 := Lib.hid blk4
        clear h4
        refine ⟨_, rfl, fun _ => f4, ?_⟩
        simp only [Act.put, List.setIfInBounds_toArray, List.set_cons_zero, List.set_cons_succ]
        have hS0 := f4
        refine anyZ_take 11 _ (some 50) (.tuple #[s4, .int .i64 0]) rfl (by kernel_rfl) (by kernel_rfl) (by kernel_rfl) (by kernel_rfl) (by kernel_rfl) (by decide) rfl (fun w' hS => ?_) hS0 ?_
        · go_simp
        simp only [Act.put, List.setIfInBounds_toArray, List.set_cons_zero, List.set_cons_succ]
        refine anyZ_take 12 _ (some 62) (s4) rfl (by kernel_rfl) (by kernel_rfl) (by kernel_rfl) (by kernel_rfl) (by kernel_rfl) (by decide) rfl (fun w' hS => ?_) hS0 ?_
        · go_simp
        simp only [Act.put, List.setIfInBounds_toArray, List.set_cons_zero, List.set_cons_succ]
        refine anyZ_take 13 _ (some 63) (.int .i64 0) rfl (by kernel_rfl) (by kernel_rfl) (by kernel_rfl) (by kernel_rfl) (by kernel_rfl) (by decide) rfl (fun w' hS => ?_) hS0 ?_
        · go_simp
        simp only [Act.put, List.setIfInBounds_toArray, List.set_cons_zero, List.set_cons_succ]
        refine anyZ_take 14 _ (some 10) (s4) rfl (by kernel_rfl) (by kernel_rfl) (by kernel_rfl) (by kernel_rfl) (by kernel_rfl) (by decide) rfl (fun w' hS => ?_) hS0 ?_
        · go_simp
        simp only [Act.put, List.setIfInBounds_toArray, List.set_cons_zero, List.set_cons_succ]
        refine anyZ_take 15 _ (some 11) (.int .i64 0) rfl (by kernel_rfl) (by kernel_rfl) (by kernel_rfl) (by kernel_rfl) (by kernel_rfl) (by decide) rfl (fun w' hS => ?_) hS0 ?_
        · go_simp
        simp only [Act.put, List.setIfInBounds_toArray, List.set_cons_zero, List.set_cons_succ]
        refine anyZ_done (by kernel_rfl) ?_ _
        go_wp2_with (fail)
        have m4' : Mod (fun _ => False) w4 w4 := Mod.refl _ _
        have m34 := (Mod.refl (fun _ => False) w3).drew.trans m4
        clear m4 hS0 hb3
        obtain ⟨c2, hc2⟩ : ∃ c2, c2 = count + BitVec.ofNat 32 k := ⟨_, rfl⟩
        have hkc : count.toNat + k < 4294967296 := by have := hov.out; have := em.out; omega
        have hc2n : c2.toNat = count.toNat + k := by rw [hc2, BitVec.toNat_add, BitVec.toNat_ofNat, Nat.mod_eq_of_lt (a := k) (by omega), Nat.mod_eq_of_lt (by omega)]
        have hadd : ((count.toNat : Int) + (k : Int)) % 4294967296 = (c2.toNat : Int) := by rw [hc2n]; omega
        have hkw : (k : Int) % 4294967296 = (k : Int) := by omega
        have hkw2 : IntKind.u32.wrap (k : Int) = (k : Int) := by rw [IntKind.wrap_u32']; omega
        have hadd2 : IntKind.u32.wrap ((count.toNat : Int) + (k : Int)) = (c2.toNat : Int) := by rw [IntKind.wrap_u32']; exact hadd
        replace hc2n := Lib.hid hc2n
        replace hc2 := Lib.hid hc2
        have hnm : (n : Int) - (m : Int) = ((n - m : Nat) : Int) := by omega
        have hcm : (cap : Int) - (m : Int) = ((cap - m : Nat) : Int) := by omega
        have hmc : m < cap := by omega
        have hmc' : ¬ cap = m := by omega
        have hS0 : w4.drew.heap[w.heap.size]? = some (.cells fr 26 (0,0)) := f4
        refine wp_region_any (by kernel_rfl) (any_of_Z (S := fun w' => w'.heap[w.heap.size]? = some (.cells fr 26 (0,0))) (z := 99) _ _ _ _ ?_)
        simp only [List.size_toArray, List.length_cons, List.length_nil, Nat.reduceAdd, Array.replicate_succ, Array.replicate_zero, List.push_toArray, List.nil_append, List.cons_append]
        refine anyZ_take 0 _ (some 65) (.pointer (some ⟨w.heap.size, 0, none⟩)) rfl (by kernel_rfl) (by kernel_rfl) (by kernel_rfl) (by kernel_rfl) (by kernel_rfl) (by decide) rfl (fun w' hS => ?_) hS0 ?_
        · go_simp
        simp only [Act.put, List.setIfInBounds_toArray, List.set_cons_zero, List.set_cons_succ]
        refine anyZ_take 1 _ (some 66) (.agg (encB key)) rfl (by kernel_rfl) (by kernel_rfl) (by kernel_rfl) (by kernel_rfl) (by kernel_rfl) (by decide) rfl (fun w' hS => ?_) hS0 ?_
        · exact run_load_op _ rfl _ rfl _ (lk.out _ hS)
        simp only [Act.put, List.setIfInBounds_toArray, List.set_cons_zero, List.set_cons_succ]
        refine anyZ_take 2 _ (some 67) (.pointer (some ⟨w.heap.size, 32, none⟩)) rfl (by kernel_rfl) (by kernel_rfl) (by kernel_rfl) (by kernel_rfl) (by kernel_rfl) (by decide) rfl (fun w' hS => ?_) hS0 ?_
        · go_simp
        simp only [Act.put, List.setIfInBounds_toArray, List.set_cons_zero, List.set_cons_succ]
        refine anyZ_take 3 _ (some 68) (.int .u32 (count.toNat : Int)) rfl (by kernel_rfl) (by kernel_rfl) (by kernel_rfl) (by kernel_rfl) (by kernel_rfl) (by decide) rfl (fun w' hS => ?_) hS0 ?_
        · exact run_load_op _ rfl _ rfl _ (lc.out _ hS)
        simp only [Act.put, List.setIfInBounds_toArray, List.set_cons_zero, List.set_cons_succ]
        refine anyZ_take 4 _ (some 69) (.int .i64 (k : Int)) rfl (by kernel_rfl) (by kernel_rfl) (by kernel_rfl) (by kernel_rfl) (by kernel_rfl) (by decide) rfl (fun w' hS => ?_) hS0 ?_
        · go_simp
        simp only [Act.put, List.setIfInBounds_toArray, List.set_cons_zero, List.set_cons_succ]
        refine anyZ_take 5 _ (some 70) (.int .u32 (k : Int)) rfl (by kernel_rfl) (by kernel_rfl) (by kernel_rfl) (by kernel_rfl) (by kernel_rfl) (by decide) rfl (fun w' hS => ?_) hS0 ?_
        · go_simp
        simp only [Act.put, List.setIfInBounds_toArray, List.set_cons_zero, List.set_cons_succ]
        refine anyZ_take 6 _ (some 71) (.int .u32 (c2.toNat : Int)) rfl (by kernel_rfl) (by kernel_rfl) (by kernel_rfl) (by kernel_rfl) (by kernel_rfl) (by decide) rfl (fun w' hS => ?_) hS0 ?_
        · go_simp
        simp only [Act.put, List.setIfInBounds_toArray, List.set_cons_zero, List.set_cons_succ]
        refine anyZ_take 7 _ (some 72) (.pointer (some ⟨w.heap.size, 33, none⟩)) rfl (by kernel_rfl) (by kernel_rfl) (by kernel_rfl) (by kernel_rfl) (by kernel_rfl) (by decide) rfl (fun w' hS => ?_) hS0 ?_
        · go_simp
        simp only [Act.put, List.setIfInBounds_toArray, List.set_cons_zero, List.set_cons_succ]
        refine anyZ_take 8 _ (some 73) (.agg (encB nonce)) rfl (by kernel_rfl) (by kernel_rfl) (by kernel_rfl) (by kernel_rfl) (by kernel_rfl) (by decide) rfl (fun w' hS => ?_) hS0 ?_
        · exact run_load_op _ rfl _ rfl _ (ln.out _ hS)
        simp only [Act.put, List.setIfInBounds_toArray, List.set_cons_zero, List.set_cons_succ]
        refine anyZ_take 9 _ (some 74) (.slice (some ⟨g, off, none⟩) n cap) rfl (by kernel_rfl) (by kernel_rfl) (by kernel_rfl) (by kernel_rfl) (by kernel_rfl) (by decide) rfl (fun w' hS => ?_) hS0 ?_
        · go_simp
        simp only [Act.put, List.setIfInBounds_toArray, List.set_cons_zero, List.set_cons_succ]
        refine anyZ_take 10 _ (some 75) (.int .i64 (k : Int)) rfl (by kernel_rfl) (by kernel_rfl) (by kernel_rfl) (by kernel_rfl) (by kernel_rfl) (by decide) rfl (fun w' hS => ?_) hS0 ?_
        · go_simp
        simp only [Act.put, List.setIfInBounds_toArray, List.set_cons_zero, List.set_cons_succ]
        refine anyZ_take 11 _ (some 76) (.int .i64 (m : Int)) rfl (by kernel_rfl) (by kernel_rfl) (by kernel_rfl) (by kernel_rfl) (by kernel_rfl) (by decide) rfl (fun w' hS => ?_) hS0 ?_
        · go_simp
        simp only [Act.put, List.setIfInBounds_toArray, List.set_cons_zero, List.set_cons_succ]
        refine anyZ_take 12 _ (some 77) (.slice (some ⟨g, off + m, none⟩) (n - m) (cap - m)) rfl (by kernel_rfl) (by kernel_rfl) (by kernel_rfl) (by kernel_rfl) (by kernel_rfl) (by decide) rfl (fun w' hS => ?_) hS0 ?_
        · go_simp
        simp only [Act.put, List.setIfInBounds_toArray, List.set_cons_zero, List.set_cons_succ]
        refine anyZ_call 13 _ (some 78) rfl rfl (by kernel_rfl) rfl 11 #[.agg (encB key), .int .u32 (c2.toNat : Int), .agg (encB nonce), .slice (some ⟨g, off + m, none⟩) (n - m) (cap - m)] (by go_simp) ?_
        have hb4 : ByteAt w4.drew (.slice (some ⟨g, off + m, none⟩) (n - m) (cap - m)) (bs.drop m) := by
          have h := (hbm.out _ m04.drew).drop (m := m) (by rw [en.out]; exact hlt)
          rw [en.out] at h
          exact h
        have ldk : (bs.drop m).length = n - m := by rw [List.length_drop, en.out]
        refine (xor_any key nonce hk hn c2 _ (bs.drop m) _ hb4 (by rw [ldk]; omega)).mono ?_
        rintro e w5 ⟨m5, h5⟩
        rw [ldk] at h5
        have f5 := m5.heap hS0 (fun h => h)
        have m05 := m04.drew.trans m5
        obtain ⟨g5, rfl, r5⟩ : ∃ g5, e = .returned (.tuple #[.slice (some ⟨g5, 0, none⟩) (n - m) (n - m), .int .i64 0]) ∧ w5.heap[g5]? = some (.cells (encB (xorS key nonce c2 (bs.drop m))) 5 (0,0)) := by
          rcases h5 with ⟨h0, rfl⟩ | ⟨h0, hnil, rfl⟩ | ⟨h0, hnil, g2, hg2, rfl, hr⟩
          · rw [hc2n.out] at h0
            have := hov.out
            have := em.out
            omega
          · rw [hnil] at ldk
            simp at ldk
            omega
          · exact ⟨_, rfl, hr⟩
        clear h5 hb4
        refine ⟨_, rfl, fun _ => f5, ?_⟩
        simp only [Act.put, List.setIfInBounds_toArray, List.set_cons_zero, List.set_cons_succ]
        have m45 := m4'.drew.trans m5
        have hS0 := f5
        refine anyZ_take 14 _ (some 64) (.tuple #[.slice (some ⟨g5, 0, none⟩) (n - m) (n - m), .int .i64 0]) rfl (by kernel_rfl) (by kernel_rfl) (by kernel_rfl) (by kernel_rfl) (by kernel_rfl) (by decide) rfl (fun w' hS => ?_) hS0 ?_
        · go_simp
        simp only [Act.put, List.setIfInBounds_toArray, List.set_cons_zero, List.set_cons_succ]
        refine anyZ_take 15 _ (some 79) (.slice (some ⟨g5, 0, none⟩) (n - m) (n - m)) rfl (by kernel_rfl) (by kernel_rfl) (by kernel_rfl) (by kernel_rfl) (by kernel_rfl) (by decide) rfl (fun w' hS => ?_) hS0 ?_
        · go_simp
        simp only [Act.put, List.setIfInBounds_toArray, List.set_cons_zero, List.set_cons_succ]
        refine anyZ_take 16 _ (some 80) (.int .i64 0) rfl (by kernel_rfl) (by kernel_rfl) (by kernel_rfl) (by kernel_rfl) (by kernel_rfl) (by decide) rfl (fun w' hS => ?_) hS0 ?_
        · go_simp
        simp only [Act.put, List.setIfInBounds_toArray, List.set_cons_zero, List.set_cons_succ]
        refine anyZ_take 17 _ (some 12) (.slice (some ⟨g5, 0, none⟩) (n - m) (n - m)) rfl (by kernel_rfl) (by kernel_rfl) (by kernel_rfl) (by kernel_rfl) (by kernel_rfl) (by decide) rfl (fun w' hS => ?_) hS0 ?_
        · go_simp
        simp only [Act.put, List.setIfInBounds_toArray, List.set_cons_zero, List.set_cons_succ]
        refine anyZ_take 18 _ (some 13) (.int .i64 0) rfl (by kernel_rfl) (by kernel_rfl) (by kernel_rfl) (by kernel_rfl) (by kernel_rfl) (by decide) rfl (fun w' hS => ?_) hS0 ?_
        · go_simp
        simp only [Act.put, List.setIfInBounds_toArray, List.set_cons_zero, List.set_cons_succ]
        refine anyZ_done (by kernel_rfl) ?_ _
        clear hS0 m5 m04
        have hrow' := hrow.out (by omega)
        go_wp2_with (first | (refine wpList_load_run rfl 22 _ rfl _ _ rfl _ (lk.out _ f5) ?_) | (refine wpList_load_run rfl 23 _ rfl _ _ rfl _ (lc.out _ f5) ?_) | (refine wpList_load_run rfl 24 _ rfl _ _ rfl _ (ln.out _ f5) ?_))
        refine (block_any key nonce hk hn c2 w5).mono ?_
        rintro e w6 ⟨rfl, m6⟩
        have lblk : (blockS key nonce c2).length = 64 := by rw [blockS, outTo_length]
        have hst0 : streamAt key nonce count m = (blockS key nonce c2).getD 0 0 := by
          unfold streamAt
          rw [show m / 64 = k by have := em.out; omega, show m % 64 = 0 by have := em.out; omega, hc2.out]
        generalize blockS key nonce c2 = blk at *
        have h27 : (Try.prog.info? 27).map (·.size) = some (encB blk).size := by rw [encB_size, lblk]; kernel_rfl
        have hz : (64 : Nat) = (encB blk).size := by rw [encB_size, lblk]
        replace h27 := Lib.hid h27
        replace hz := Lib.hid hz
        go_upto_region 12 with (refine wpList_store_row rfl 27 _ _ rfl _ (encB blk) rfl rfl _ _ (heap_alloc_new w6 _) h27.out hz.out (encB_one blk) ?_)
        refine wp_world fun w7 hw7 => ?_
        obtain ⟨ga, rfl, ra3⟩ := hrow'
        have m36 := m34.trans (m45.trans m6)
        have gaw3 := lt_of_heap ra3
        have sz36 := m36.size
        have m67 : Mod (fun k => w6.heap.size ≤ k) w6 w7 := by
          rw [hw7]
          exact ((Mod.refl _ w6).alloc _).setRow (fun h => Nat.le_refl _) _
        have sr7 : w7.heap[w6.heap.size]? = some (.cells (encB blk) 27 (0,0)) := by rw [hw7, setRow_heap _ _ _ _ _ _ (heap_alloc_new w6 _)]
        clear hw7
        have m37 : Mod (fun k => w6.heap.size ≤ k) w3 w7 := (m36.mono (fun k _ h => h.elim)).trans m67
        have ra7 := m37.heap ra3 (by omega)
        have r57 := m67.heap (m6.heap r5 (fun h => h)) (by have := lt_of_heap (m6.heap r5 (fun h => h)); omega)
        have m07 : Mod (fun k => w6.heap.size ≤ k) w w7 := (m03.out.mono (fun k _ h => h.elim)).trans m37
        have hbb : w7.cell? ⟨g, off + m, none⟩ = some (.int .u8 ((bs.getD m 0).toNat : Int)) ∧ g < w.heap.size := by
          have hbw := hbm.out _ (Mod.refl _ w)
          obtain ⟨_, _, hq, hcell⟩ := hbw.slice
          obtain ⟨g', off', hq2, hglt, hcm⟩ := hcell m (by rw [en.out]; exact hlt)
          injection hq with hq _ _
          rw [hq2] at hq
          injection hq with hq
          injection hq with hq3 hq4 _
          subst hq3 hq4
          have := m03.out.size
          exact ⟨cell_mod m07 hcm (by omega), hglt⟩
        have m47 : Mod (fun k => w6.heap.size ≤ k) w4 w7 := ((m45.trans m6).mono (fun k _ h => h.elim)).trans m67
        obtain ⟨y, hy⟩ : ∃ y, y = bs.getD m 0 := ⟨_, rfl⟩
        obtain ⟨z, hz2⟩ : ∃ z, z = blk.getD 0 0 := ⟨_, rfl⟩
        obtain ⟨u, hu⟩ : ∃ u, u = y ^^^ z := ⟨_, rfl⟩
        have hxg := xorS_get key nonce count bs m (by rw [en.out]; exact hlt)
        rw [hst0, ← hy, ← hz2, ← hu] at hxg
        have hbx : bits .xor .u8 (y.toNat : Int) (z.toNat : Int) = (u.toNat : Int) := by rw [hu]; exact bits_xor8 y z
        rw [← hy] at hbb
        have hS0 : w7.drew.cell? ⟨ga, m, none⟩ = some (.int .u8 (u.toNat : Int)) ∧ w7.drew.cell? ⟨g, off + m, none⟩ = some (.int .u8 (y.toNat : Int)) ∧ w7.drew.cell? ⟨w6.heap.size, 0, none⟩ = some (.int .u8 (z.toNat : Int)) := by
          refine ⟨?_, hbb.1, ?_⟩
          · rw [World.cell?_drew, encB_cell ra7 (by rw [xorS_length, en.out]; exact hlt), hxg]
          · rw [World.cell?_drew, encB_cell sr7 (by omega), hz2]
        have hglt := hbb.2
        clear hbb hst0 hz h27 sr7
        replace hu := Lib.hid hu
        replace hy := Lib.hid hy
        replace hz2 := Lib.hid hz2
        replace hxg := Lib.hid hxg
        have hlt' : (m : Int) < (n : Int) := by omega
        have hall : bytesV (xorS key nonce count (bs.take m)) ++ bytesV (xorS key nonce c2 (bs.drop m)) = bytesV (xorS key nonce count bs) := by
          have h := xorS_append key nonce count bs k (by have := em.out; rw [en.out]; omega)
          rw [← em.out, ← hc2.out] at h
          unfold bytesV
          rw [← List.map_append, h]
        have ldk : (xorS key nonce c2 (bs.drop m)).length = n - m := by rw [xorS_length, List.length_drop, en.out]
        have hbsl : (xorS key nonce count bs).length = n := by rw [xorS_length, en.out]
        replace hall := Lib.hid hall
        replace ldk := Lib.hid ldk
        replace hbsl := Lib.hid hbsl
        have hwsz := m03.out.size
        have hm46 := m45.trans m6
        clear hx lk lc ln hbm hrow hov hov' hncap f3 f4 f5 hcap b2 hd hadd hadd2 hkw hkw2 hnm hcm hmc hmc' hc2n ra3 m36 m34 m45 m6 m67 r5
        replace r57 := Lib.hid r57
        replace ra7 := Lib.hid ra7
        replace m37 := Lib.hid m37
        replace m07 := Lib.hid m07
        replace m47 := Lib.hid m47
        replace hm46 := Lib.hid hm46
        refine wp_region_any (by kernel_rfl) (any_of_Z (S := fun w' => w'.cell? ⟨ga, m, none⟩ = some (.int .u8 (u.toNat : Int)) ∧ w'.cell? ⟨g, off + m, none⟩ = some (.int .u8 (y.toNat : Int)) ∧ w'.cell? ⟨w6.heap.size, 0, none⟩ = some (.int .u8 (z.toNat : Int))) (z := 99) _ _ _ _ ?_)
        simp only [List.size_toArray, List.length_cons, List.length_nil, Nat.reduceAdd, Array.replicate_succ, Array.replicate_zero, List.push_toArray, List.nil_append, List.cons_append]
        refine anyZ_take 0 _ (some 91) (.int .i64 0) rfl (by kernel_rfl) (by kernel_rfl) (by kernel_rfl) (by kernel_rfl) (by kernel_rfl) (by decide) rfl (fun w' hS => ?_) hS0 ?_
        · (obtain ⟨q1, q2, q3⟩ := hS; go_simp)
        simp only [Act.put, List.setIfInBounds_toArray, List.set_cons_zero, List.set_cons_succ]
        refine anyZ_take 1 _ (some 92) (.bool true) rfl (by kernel_rfl) (by kernel_rfl) (by kernel_rfl) (by kernel_rfl) (by kernel_rfl) (by decide) rfl (fun w' hS => ?_) hS0 ?_
        · (obtain ⟨q1, q2, q3⟩ := hS; go_simp)
        simp only [Act.put, List.setIfInBounds_toArray, List.set_cons_zero, List.set_cons_succ]
        refine anyZ_take 2 _ (some 93) (.bool true) rfl (by kernel_rfl) (by kernel_rfl) (by kernel_rfl) (by kernel_rfl) (by kernel_rfl) (by decide) rfl (fun w' hS => ?_) hS0 ?_
        · (obtain ⟨q1, q2, q3⟩ := hS; go_simp)
        simp only [Act.put, List.setIfInBounds_toArray, List.set_cons_zero, List.set_cons_succ]
        refine anyZ_take 3 _ (some 94) (.int .i64 0) rfl (by kernel_rfl) (by kernel_rfl) (by kernel_rfl) (by kernel_rfl) (by kernel_rfl) (by decide) rfl (fun w' hS => ?_) hS0 ?_
        · (obtain ⟨q1, q2, q3⟩ := hS; go_simp)
        simp only [Act.put, List.setIfInBounds_toArray, List.set_cons_zero, List.set_cons_succ]
        refine anyZ_take 4 _ (some 95) (.bool true) rfl (by kernel_rfl) (by kernel_rfl) (by kernel_rfl) (by kernel_rfl) (by kernel_rfl) (by decide) rfl (fun w' hS => ?_) hS0 ?_
        · (obtain ⟨q1, q2, q3⟩ := hS; go_simp)
        simp only [Act.put, List.setIfInBounds_toArray, List.set_cons_zero, List.set_cons_succ]
        refine anyZ_take 5 _ (some 96) (.bool true) rfl (by kernel_rfl) (by kernel_rfl) (by kernel_rfl) (by kernel_rfl) (by kernel_rfl) (by decide) rfl (fun w' hS => ?_) hS0 ?_
        · (obtain ⟨q1, q2, q3⟩ := hS; go_simp)
        simp only [Act.put, List.setIfInBounds_toArray, List.set_cons_zero, List.set_cons_succ]
        refine anyZ_take 6 _ (some 97) (.bool true) rfl (by kernel_rfl) (by kernel_rfl) (by kernel_rfl) (by kernel_rfl) (by kernel_rfl) (by decide) rfl (fun w' hS => ?_) hS0 ?_
        · (obtain ⟨q1, q2, q3⟩ := hS; go_simp)
        simp only [Act.put, List.setIfInBounds_toArray, List.set_cons_zero, List.set_cons_succ]
        refine anyZ_take 7 _ (some 98) (.slice (some ⟨ga, 0, none⟩) n n) rfl (by kernel_rfl) (by kernel_rfl) (by kernel_rfl) (by kernel_rfl) (by kernel_rfl) (by decide) rfl (fun w' hS => ?_) hS0 ?_
        · (obtain ⟨q1, q2, q3⟩ := hS; go_simp)
        simp only [Act.put, List.setIfInBounds_toArray, List.set_cons_zero, List.set_cons_succ]
        refine anyZ_take 8 _ (some 99) (s4) rfl (by kernel_rfl) (by kernel_rfl) (by kernel_rfl) (by kernel_rfl) (by kernel_rfl) (by decide) rfl (fun w' hS => ?_) hS0 ?_
        · (obtain ⟨q1, q2, q3⟩ := hS; go_simp)
        simp only [Act.put, List.setIfInBounds_toArray, List.set_cons_zero, List.set_cons_succ]
        refine anyZ_take 9 _ (some 100) (.slice (some ⟨g5, 0, none⟩) (n - m) (n - m)) rfl (by kernel_rfl) (by kernel_rfl) (by kernel_rfl) (by kernel_rfl) (by kernel_rfl) (by decide) rfl (fun w' hS => ?_) hS0 ?_
        · (obtain ⟨q1, q2, q3⟩ := hS; go_simp)
        simp only [Act.put, List.setIfInBounds_toArray, List.set_cons_zero, List.set_cons_succ]
        obtain ⟨i0, hi0, hz0, hs0, hb0⟩ : ∃ i0, Try.prog.info? 5 = some i0 ∧ i0.zero = some (.int .u8 0) ∧ i0.size = 1 ∧ i0.bytes = 1 := ⟨_, rfl, by kernel_rfl, by kernel_rfl, by kernel_rfl⟩
        refine anyZ_wp 10 _ rfl (by kernel_rfl) (by kernel_rfl) ?_
        refine wp_append_lies _ _ _ _ rfl 0 5 i0 (.int .u8 0) 1 1 Try.underlying30 hi0 hz0 hs0 hb0 rfl (by omega) s4 m (bytesV (xorS key nonce count (bs.take m))) rfl ?_ ⟨g5, 0, none⟩ (n - m) (n - m) (bytesV (xorS key nonce c2 (bs.drop m))) rfl (by rw [bytesV, List.length_map, ldk.out]; omega) ?_ ?_ (by omega) ?_ (by omega) (Nat.zero_le _) _ rfl ?_
        · exact own4.out _ ((m47.out.mono (fun k _ h => by have := hm46.out.size; omega)).drew)
        · intro j u hj
          have hjl : j < (xorS key nonce c2 (bs.drop m)).length := by
            have := (List.getElem?_eq_some_iff.1 hj).1
            simpa [bytesV] using this
          rw [bytesV_get hjl] at hj
          rw [Addr.add_lit, Nat.zero_add]
          have h := encB_cell r57.out (i := j) (by omega)
          exact h.trans hj
        · intro u hu
          simp only [bytesV, List.mem_map] at hu
          obtain ⟨b, _, rfl⟩ := hu
          rfl
        · have : maxLen = 9223372036854775807 := rfl
          omega
        intro g8 cap8 w8 own8 grow8 _ _
        rw [hall.out, show m + (n - m) = n by omega] at own8
        rw [show m + (n - m) = n by omega]
        have hap := byteAt_of_own own8
        have m78 : Mod (fun k => s4.ownBlock = some k) w7 w8 := (Mod.refl _ w7).drew.grown grow8 (fun k h _ => h)
        have m38 : Mod (fun k => w3.heap.size ≤ k) w3 w8 := (m37.out.mono (fun k _ h => by omega)).trans (m78.mono (fun k _ h => (blk4.out k h).1))
        have n1 : ¬ s4.ownBlock = some ga := fun h => by have := blk4.out _ h; omega
        have n2 : ¬ s4.ownBlock = some g := fun h => by have := blk4.out _ h; have := m03.out.size; omega
        have n3 : ¬ s4.ownBlock = some w6.heap.size := fun h => by have := blk4.out _ h; have := hm46.out.size; omega
        have hS8 : w8.cell? ⟨ga, m, none⟩ = some (.int .u8 (u.toNat : Int)) ∧ w8.cell? ⟨g, off + m, none⟩ = some (.int .u8 (y.toNat : Int)) ∧ w8.cell? ⟨w6.heap.size, 0, none⟩ = some (.int .u8 (z.toNat : Int)) :=
          ⟨cell_mod m78 hS0.1 n1, cell_mod m78 hS0.2.1 n2, cell_mod m78 hS0.2.2 n3⟩
        have ra8 := m78.heap ra7.out n1
        refine ⟨fun _ => hS8, ?_⟩
        simp only [Act.put, List.setIfInBounds_toArray, List.set_cons_zero, List.set_cons_succ]
        refine anyZ_call 11 _ (some 102) rfl (by kernel_rfl) (by kernel_rfl) rfl 12 #[.slice (some ⟨ga, 0, none⟩) n n, .slice (some ⟨g8, 0, none⟩) n cap8] (by go_simp) ?_
        have hrow8 := ByteAt.row ra8
        rw [hbsl.out] at hrow8
        refine (same_true _ _ _ _ hrow8 hap (by rw [hbsl.out]; omega)).mono ?_
        rintro e w9 ⟨m9, rfl⟩
        have hS9 : w9.cell? ⟨ga, m, none⟩ = some (.int .u8 (u.toNat : Int)) ∧ w9.cell? ⟨g, off + m, none⟩ = some (.int .u8 (y.toNat : Int)) ∧ w9.cell? ⟨w6.heap.size, 0, none⟩ = some (.int .u8 (z.toNat : Int)) :=
          ⟨cell_mod m9 hS8.1 (fun h => h), cell_mod m9 hS8.2.1 (fun h => h), cell_mod m9 hS8.2.2 (fun h => h)⟩
        refine ⟨_, rfl, fun _ => hS9, ?_⟩
        simp only [Act.put, List.setIfInBounds_toArray, List.set_cons_zero, List.set_cons_succ]
        have hfin : Below w.heap.size w w9 := ((m03.out.mono (fun k _ h => h.elim)).trans ((m38.mono (S' := fun k => w.heap.size ≤ k) (fun k _ h => by have := m03.out.size; omega)).trans (m9.mono (fun k _ h => h.elim)))).below (Nat.le_refl _) (fun i h => h)
        replace hfin := Lib.hid hfin
        have hS0 := hS9
        clear hS8 hS9 m9 m38 m78 own8 grow8 hap hrow8 ra8
        refine anyZ_take 12 _ (some 103) (.bool true) rfl (by kernel_rfl) (by kernel_rfl) (by kernel_rfl) (by kernel_rfl) (by kernel_rfl) (by decide) rfl (fun w' hS => ?_) hS0 ?_
        · (obtain ⟨q1, q2, q3⟩ := hS; go_simp)
        simp only [Act.put, List.setIfInBounds_toArray, List.set_cons_zero, List.set_cons_succ]
        refine anyZ_take 13 _ (some 104) (.bool true) rfl (by kernel_rfl) (by kernel_rfl) (by kernel_rfl) (by kernel_rfl) (by kernel_rfl) (by decide) rfl (fun w' hS => ?_) hS0 ?_
        · (obtain ⟨q1, q2, q3⟩ := hS; go_simp)
        simp only [Act.put, List.setIfInBounds_toArray, List.set_cons_zero, List.set_cons_succ]
        refine anyZ_take 14 _ (some 105) (.slice (some ⟨ga, 0, none⟩) n n) rfl (by kernel_rfl) (by kernel_rfl) (by kernel_rfl) (by kernel_rfl) (by kernel_rfl) (by decide) rfl (fun w' hS => ?_) hS0 ?_
        · (obtain ⟨q1, q2, q3⟩ := hS; go_simp)
        simp only [Act.put, List.setIfInBounds_toArray, List.set_cons_zero, List.set_cons_succ]
        refine anyZ_take 15 _ (some 106) (.int .i64 (k : Int)) rfl (by kernel_rfl) (by kernel_rfl) (by kernel_rfl) (by kernel_rfl) (by kernel_rfl) (by decide) rfl (fun w' hS => ?_) hS0 ?_
        · (obtain ⟨q1, q2, q3⟩ := hS; go_simp)
        simp only [Act.put, List.setIfInBounds_toArray, List.set_cons_zero, List.set_cons_succ]
        refine anyZ_take 16 _ (some 107) (.int .i64 (m : Int)) rfl (by kernel_rfl) (by kernel_rfl) (by kernel_rfl) (by kernel_rfl) (by kernel_rfl) (by decide) rfl (fun w' hS => ?_) hS0 ?_
        · (obtain ⟨q1, q2, q3⟩ := hS; go_simp)
        simp only [Act.put, List.setIfInBounds_toArray, List.set_cons_zero, List.set_cons_succ]
        refine anyZ_take 17 _ (some 108) (.pointer (some ⟨ga, m, none⟩)) rfl (by kernel_rfl) (by kernel_rfl) (by kernel_rfl) (by kernel_rfl) (by kernel_rfl) (by decide) rfl (fun w' hS => ?_) hS0 ?_
        · (obtain ⟨q1, q2, q3⟩ := hS; go_simp)
        simp only [Act.put, List.setIfInBounds_toArray, List.set_cons_zero, List.set_cons_succ]
        refine anyZ_take 18 _ (some 109) (.int .u8 (u.toNat : Int)) rfl (by kernel_rfl) (by kernel_rfl) (by kernel_rfl) (by kernel_rfl) (by kernel_rfl) (by decide) rfl (fun w' hS => ?_) hS0 ?_
        · (obtain ⟨q1, q2, q3⟩ := hS; go_simp)
        simp only [Act.put, List.setIfInBounds_toArray, List.set_cons_zero, List.set_cons_succ]
        refine anyZ_take 19 _ (some 110) (.slice (some ⟨g, off, none⟩) n cap) rfl (by kernel_rfl) (by kernel_rfl) (by kernel_rfl) (by kernel_rfl) (by kernel_rfl) (by decide) rfl (fun w' hS => ?_) hS0 ?_
        · (obtain ⟨q1, q2, q3⟩ := hS; go_simp)
        simp only [Act.put, List.setIfInBounds_toArray, List.set_cons_zero, List.set_cons_succ]
        refine anyZ_take 20 _ (some 111) (.int .i64 (k : Int)) rfl (by kernel_rfl) (by kernel_rfl) (by kernel_rfl) (by kernel_rfl) (by kernel_rfl) (by decide) rfl (fun w' hS => ?_) hS0 ?_
        · (obtain ⟨q1, q2, q3⟩ := hS; go_simp)
        simp only [Act.put, List.setIfInBounds_toArray, List.set_cons_zero, List.set_cons_succ]
        refine anyZ_take 21 _ (some 112) (.int .i64 (m : Int)) rfl (by kernel_rfl) (by kernel_rfl) (by kernel_rfl) (by kernel_rfl) (by kernel_rfl) (by decide) rfl (fun w' hS => ?_) hS0 ?_
        · (obtain ⟨q1, q2, q3⟩ := hS; go_simp)
        simp only [Act.put, List.setIfInBounds_toArray, List.set_cons_zero, List.set_cons_succ]
        refine anyZ_take 22 _ (some 113) (.pointer (some ⟨g, off + m, none⟩)) rfl (by kernel_rfl) (by kernel_rfl) (by kernel_rfl) (by kernel_rfl) (by kernel_rfl) (by decide) rfl (fun w' hS => ?_) hS0 ?_
        · (obtain ⟨q1, q2, q3⟩ := hS; go_simp)
        simp only [Act.put, List.setIfInBounds_toArray, List.set_cons_zero, List.set_cons_succ]
        refine anyZ_take 23 _ (some 114) (.int .u8 (y.toNat : Int)) rfl (by kernel_rfl) (by kernel_rfl) (by kernel_rfl) (by kernel_rfl) (by kernel_rfl) (by decide) rfl (fun w' hS => ?_) hS0 ?_
        · (obtain ⟨q1, q2, q3⟩ := hS; go_simp)
        simp only [Act.put, List.setIfInBounds_toArray, List.set_cons_zero, List.set_cons_succ]
        refine anyZ_take 24 _ (some 115) (.pointer (some ⟨w6.heap.size, 0, none⟩)) rfl (by kernel_rfl) (by kernel_rfl) (by kernel_rfl) (by kernel_rfl) (by kernel_rfl) (by decide) rfl (fun w' hS => ?_) hS0 ?_
        · (obtain ⟨q1, q2, q3⟩ := hS; go_simp)
        simp only [Act.put, List.setIfInBounds_toArray, List.set_cons_zero, List.set_cons_succ]
        refine anyZ_take 25 _ (some 116) (.int .u8 (z.toNat : Int)) rfl (by kernel_rfl) (by kernel_rfl) (by kernel_rfl) (by kernel_rfl) (by kernel_rfl) (by decide) rfl (fun w' hS => ?_) hS0 ?_
        · (obtain ⟨q1, q2, q3⟩ := hS; go_simp)
        simp only [Act.put, List.setIfInBounds_toArray, List.set_cons_zero, List.set_cons_succ]
        refine anyZ_take 26 _ (some 117) (.int .u8 (u.toNat : Int)) rfl (by kernel_rfl) (by kernel_rfl) (by kernel_rfl) (by kernel_rfl) (by kernel_rfl) (by decide) rfl (fun w' hS => ?_) hS0 ?_
        · (obtain ⟨q1, q2, q3⟩ := hS; go_simp)
        simp only [Act.put, List.setIfInBounds_toArray, List.set_cons_zero, List.set_cons_succ]
        refine anyZ_take 27 _ (some 118) (.bool true) rfl (by kernel_rfl) (by kernel_rfl) (by kernel_rfl) (by kernel_rfl) (by kernel_rfl) (by decide) rfl (fun w' hS => ?_) hS0 ?_
        · (obtain ⟨q1, q2, q3⟩ := hS; go_simp)
        simp only [Act.put, List.setIfInBounds_toArray, List.set_cons_zero, List.set_cons_succ]
        refine anyZ_take 28 _ (some 119) (.bool true) rfl (by kernel_rfl) (by kernel_rfl) (by kernel_rfl) (by kernel_rfl) (by kernel_rfl) (by decide) rfl (fun w' hS => ?_) hS0 ?_
        · (obtain ⟨q1, q2, q3⟩ := hS; go_simp)
        simp only [Act.put, List.setIfInBounds_toArray, List.set_cons_zero, List.set_cons_succ]
        refine anyZ_take 29 _ (some 6) (.bool true) rfl (by kernel_rfl) (by kernel_rfl) (by kernel_rfl) (by kernel_rfl) (by kernel_rfl) (by decide) rfl (fun w' hS => ?_) hS0 ?_
        · (obtain ⟨q1, q2, q3⟩ := hS; go_simp)
        simp only [Act.put, List.setIfInBounds_toArray, List.set_cons_zero, List.set_cons_succ]
        refine anyZ_done (by kernel_rfl) ?_ _
        go_wp2
        go_ret
        exact ⟨rfl, hfin.out⟩
end Go.Proofs.Ytndfgjajpmccjaa
