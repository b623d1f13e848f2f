/-
  mailcoachlaw12.digit, unhex, Known; slices.Clone. Printed by gen/kn1.py.
-/
import Derived.Laws.IdiomStrings
import Derived.Test.YtppjnkgmbmhlcaaGreatDoorMA
import Derived.Test.YtppjnkgmbmhlcaaGreatDoorK7
namespace Go.Proofs.YtppjnkgmbmhlcaaGreatDoor
set_option maxRecDepth 100000
open Go Go.RowKit Go.Lib
set_option linter.unusedSimpArgs false
set_option linter.unusedVariables false

theorem run_append_op2n {ev : Operand → Value} {o : Oper} {a b : Operand} {w w' : World} {x y v : Value} (ho : o.op = .call { callee := .builtin .append, args := #[a, b], argTypes := #[22, 22] }) (ha : ev a = x) (hb : ev b = y) (hr : (Builtin.append_ #[22, 22] o.type #[x, y]).run Tryz.prog w = .ok v w') :
    (execOp ev o).run Tryz.prog w = .ok (.value v) w' := by
  unfold execOp
  simp only [ho, resolve, invoke, builtin, Sem.run_bind, Sem.run_pure, Result.andThen_ok, List.map_toArray, List.map_cons, List.map_nil, ha, hb, hr]
theorem ownSlice1 {w : World} {base n size : Nat} {e : TypeId} {v : Value} {xs : List Value} (h : w.ownsRow base e size v n xs) : ∃ a c, v = .slice a n c := by
  rcases h.2 with ⟨h1, h2⟩ | ⟨g, cap, cur, h1, _⟩
  · exact ⟨_, _, by rw [h1, h2]⟩
  · exact ⟨_, _, h1⟩
def digitB (x : BitVec 8) : BitVec 8 := if 97 ≤ x.toNat then x - 97 + 10 else x - 48
theorem digit_any (x : BitVec 8) (w : World) : Calls Tryz.prog 103 #[.int .u8 (x.toNat : Int)] w fun e w' => e = .returned (.int .u8 ((digitB x).toNat : Int)) ∧ w' = w := by
  have bx := x.isLt
  by_cases h : 97 ≤ x.toNat
  · have hd : decide ((97 : Int) ≤ (x.toNat : Int)) = true := by rw [decide_eq_true_iff]; omega
    have h3 : (((x.toNat : Int) - 97) % 256 + 10) % 256 = ((digitB x).toNat : Int) := by
      unfold digitB
      rw [if_pos h, BitVec.toNat_add, BitVec.toNat_sub]
      simp
      omega
    replace h3 := Lib.hid h3
    clear h
    go_enter Tryz.func103, Tryz.ntmps103
    go_wp2
    go_ret
    exact ⟨ret_int h3.out, rfl⟩
  · have hd : decide ((97 : Int) ≤ (x.toNat : Int)) = false := by rw [decide_eq_false_iff_not]; omega
    obtain ⟨y, hy⟩ : ∃ y : Int, y = IntKind.u8.wrap ((x.toNat : Int) - 48) := ⟨_, rfl⟩
    have h3 : y = ((digitB x).toNat : Int) := by
      unfold digitB
      rw [if_neg h, hy, BitVec.toNat_sub, IntKind.wrap_u8]
      simp
      omega
    replace h3 := Lib.hid h3
    rw [eq_comm] at hy
    clear h
    go_enter Tryz.func103, Tryz.ntmps103
    go_wp2
    go_ret
    exact ⟨ret_int h3.out, rfl⟩
def pairB (L : List (BitVec 8)) (k : Nat) : BitVec 8 := digitB (L.getD (2 * k) 0) * 16 + digitB (L.getD (2 * k + 1) 0)
def hexTo (L : List (BitVec 8)) : Nat → List (BitVec 8)
  | 0 => []
  | k + 1 => hexTo L k ++ [pairB L k]
theorem hexTo_length (L : List (BitVec 8)) (k : Nat) : (hexTo L k).length = k := by
  induction k with
  | zero => rfl
  | succ k ih => unfold hexTo; rw [List.length_append, ih]; rfl
theorem run_str_at (s : ByteArray) (i : Nat) (h : i < s.size) (j : Int) (hj : j = (i : Int)) (w : World) : (Instr.index 9 (.string s) (.int .i64 j)).run Tryz.prog w = .ok (.int .u8 (((strB s).getD i 0).toNat : Int)) w := by
  subst hj
  rw [run_index_string _ _ _ _ _ Tryz.underlying9, dif_pos ⟨by omega, by omega⟩]
  have h' : i < s.data.size := h
  have e : (strB s).getD i 0 = (s[i]'h).toBitVec := by
    unfold strB
    rw [List.getD_eq_getElem?_getD, List.getElem?_map]
    rw [show s.data.toList[i]? = some s.data[i] by simp [h']]
    rfl
  rw [e]
  rfl

set_option maxRecDepth 100000 in
set_option maxHeartbeats 4000000 in
theorem unhex_any (s : ByteArray) (n : Nat) (hs : s.size = 2 * n) (hn : n ≤ 1000) (w : World) :
    Calls Tryz.prog 66 #[.string s] w fun e w' => Mod (fun _ => False) w w' ∧ ∃ v, e = .returned v ∧ w'.ownsRow w.heap.size 5 1 v n (bytesV (hexTo (strB s) n)) := by
  have hsz : ((s.size : Nat) : Int) = 2 * (n : Int) := by omega
  have bn0 : (0 : Int) ≤ (n : Int) := by omega
  have bn : (n : Int) ≤ 1000 := by omega
  replace hs := Lib.hid hs
  go_enter Tryz.func66, Tryz.ntmps66
  go_wp2
  go_loopg [3, 4] n (fun gh lv kv wr => ∃ k : Nat, k + gh = n ∧ kv = .int .i64 (2 * (k : Int)) ∧ Mod (fun _ => False) w wr ∧ wr.ownsRow w.heap.size 5 1 lv k (bytesV (hexTo (strB s) k)))
  case atStart => exact ⟨0, by omega, rfl, Mod.refl _ _, World.ownsRow_nil _ _ _ _⟩
  case round =>
    obtain ⟨k, hkg, rfl, mk, rowk⟩ := hrel
    have bk0 : (0 : Int) ≤ (k : Int) := by omega
    have bkn : (k : Int) ≤ (n : Int) := by omega
    have hwk : IntKind.i64.wrap (2 * (k : Int) + 1) = 2 * (k : Int) + 1 := by rw [IntKind.wrap_i64]; omega
    by_cases hkn : k < n
    · have hd : decide (2 * (k : Int) + 1 < 2 * (n : Int)) = true := by rw [decide_eq_true_iff]; omega
      have hwk2 : IntKind.i64.wrap (2 * (k : Int) + 2) = 2 * (k : Int) + 2 := by rw [IntKind.wrap_i64]; omega
      have r0 := run_str_at s (2 * k) (by rw [hs.out]; omega) (2 * (k : Int)) (by omega)
      have r1 := run_str_at s (2 * k + 1) (by rw [hs.out]; omega) (2 * (k : Int) + 1) (by omega)
      obtain ⟨x, hx⟩ : ∃ x, x = (strB s).getD (2 * k) 0 := ⟨_, rfl⟩
      obtain ⟨y, hy⟩ : ∃ y, y = (strB s).getD (2 * k + 1) 0 := ⟨_, rfl⟩
      rw [← hx] at r0
      rw [← hy] at r1
      have r0' : ∀ (ev : Operand → Value) (o : Oper) (p q : Operand) w, o.op = .index 9 p q → ev p = .string s → ev q = .int .i64 (2 * (k : Int)) → (execOp ev o).run Tryz.prog w = .ok (.value (.int .u8 (x.toNat : Int))) w := by
        intro ev o p q w ho hp hq
        unfold execOp
        simp [ho, hp, hq, r0]
      have r1' : ∀ (ev : Operand → Value) (o : Oper) (p q : Operand) w, o.op = .index 9 p q → ev p = .string s → ev q = .int .i64 (2 * (k : Int) + 1) → (execOp ev o).run Tryz.prog w = .ok (.value (.int .u8 (y.toNat : Int))) w := by
        intro ev o p q w ho hp hq
        unfold execOp
        simp [ho, hp, hq, r1]
      clear r0 r1
      have hm16 : IntKind.u8.wrap (((digitB x).toNat : Int) * 16) = ((digitB x * 16).toNat : Int) := by
        rw [IntKind.wrap_u8, BitVec.toNat_mul]
        simp
      have hz0 : IntKind.u8.wrap (((digitB x).toNat : Int) * 16 % 256 + ((digitB y).toNat : Int)) = ((pairB (strB s) k).toNat : Int) := by
        unfold pairB
        rw [← hx, ← hy, BitVec.toNat_add, BitVec.toNat_mul, IntKind.wrap_u8]
        simp
      obtain ⟨z, hz⟩ : ∃ z, z = pairB (strB s) k := ⟨_, rfl⟩
      rw [← hz] at hz0
      replace hx := Lib.hid hx
      replace hy := Lib.hid hy
      replace hz := Lib.hid hz
      go_upto_region 5 with (fail)
      obtain ⟨ll, cc, hlv⟩ := ownSlice1 rowk
      subst hlv
      have wb : w.heap.size ≤ wr.heap.size := mk.size
      obtain ⟨wq, hwq⟩ : ∃ x, x = ({ heap := wr.heap, tape := wr.tape, drawn := wr.drawn + 1, os := wr.os, output := wr.output } : World) := ⟨_, rfl⟩
      have mkq : Mod (fun _ => False) w wq := by rw [hwq]; exact mk.drew
      have rowq : wq.ownsRow w.heap.size 5 1 (.slice ll k cc) k (bytesV (hexTo (strB s) k)) := by rw [hwq]; exact rowk
      clear rowk mk wb
      obtain ⟨wc, hwc⟩ : ∃ x, x = wq.alloc (.cells #[.int .u8 (z.toNat : Int)] 5) := ⟨_, rfl⟩
      obtain ⟨gc, hgc⟩ : ∃ g, g = wq.heap.size := ⟨_, rfl⟩
      have mc : Mod (fun _ => False) wq wc := by rw [hwc]; exact (Mod.refl _ _).alloc _
      have xc : wc.heap[gc]? = some (.cells (encB [z]) 5 (0,0)) := by rw [hwc]; exact hp_new _ _ _ hgc
      have rowc := ownsRow_keep0 rowq mc
      have mkc := mkq.trans mc
      obtain ⟨v9, w9, hr9, own9, gr9⟩ := run_append_bytes rowc (ByteAt.row xc) (by simp; omega) mkc.size 22
      have mk9 : Mod (fun _ => False) w w9 := mkc.trans' ((Mod.refl _ _).grown (S := fun x => (Value.slice ll k cc).ownBlock = some x) gr9 (fun x hx _ => hx)) (fun x hx h => by have := (rowc.lt x h).1; omega)
      rw [show hexTo (strB s) k ++ [z] = hexTo (strB s) (k + 1) by rw [hz.out]; rfl] at own9
      replace hwc := Lib.hid hwc
      replace hgc := Lib.hid hgc
      replace own9 := Lib.hid own9
      replace mk9 := Lib.hid mk9
      replace hkg := Lib.hid hkg
      replace hkn := Lib.hid hkn
      clear rowq mkq mc xc rowc mkc gr9
      refine wp_region_any (by kernel_rfl) (any_of_Z (S := fun _ => True) (z := 99) _ _ _ _ ?_)
      rw [← hwq]
      simp only [List.size_toArray, List.length_cons, List.length_nil, Nat.reduceAdd, Array.replicate_succ, Array.replicate_zero, List.push_toArray, List.nil_append, List.cons_append]
      refine anyZ_take 0 _ (some 12) (.slice ll k cc) rfl (by kernel_rfl) (by kernel_rfl) (by kernel_rfl) (by kernel_rfl) (by kernel_rfl) (by decide) rfl (fun w' hS => ?_) trivial ?_
      · go_simp
      simp only [Act.put, List.setIfInBounds_toArray, List.set_cons_zero, List.set_cons_succ]
      refine anyZ_take 1 _ (some 13) (.string s) rfl (by kernel_rfl) (by kernel_rfl) (by kernel_rfl) (by kernel_rfl) (by kernel_rfl) (by decide) rfl (fun w' hS => ?_) trivial ?_
      · go_simp
      simp only [Act.put, List.setIfInBounds_toArray, List.set_cons_zero, List.set_cons_succ]
      refine anyZ_take 2 _ (some 14) (.int .i64 (2 * (k : Int))) rfl (by kernel_rfl) (by kernel_rfl) (by kernel_rfl) (by kernel_rfl) (by kernel_rfl) (by decide) rfl (fun w' hS => ?_) trivial ?_
      · go_simp
      simp only [Act.put, List.setIfInBounds_toArray, List.set_cons_zero, List.set_cons_succ]
      refine anyZ_take 3 _ (some 15) (.int .u8 (x.toNat : Int)) rfl (by kernel_rfl) (by kernel_rfl) (by kernel_rfl) (by kernel_rfl) (by kernel_rfl) (by decide) rfl (fun w' hS => ?_) trivial ?_
      · exact r0' _ _ _ _ _ rfl rfl rfl
      simp only [Act.put, List.setIfInBounds_toArray, List.set_cons_zero, List.set_cons_succ]
      refine anyZ_take 6 _ (some 18) (.string s) rfl (by kernel_rfl) (by kernel_rfl) (by kernel_rfl) (by kernel_rfl) (by kernel_rfl) (by decide) rfl (fun w' hS => ?_) trivial ?_
      · go_simp
      simp only [Act.put, List.setIfInBounds_toArray, List.set_cons_zero, List.set_cons_succ]
      refine anyZ_take 7 _ (some 19) (.int .i64 (2 * (k : Int))) rfl (by kernel_rfl) (by kernel_rfl) (by kernel_rfl) (by kernel_rfl) (by kernel_rfl) (by decide) rfl (fun w' hS => ?_) trivial ?_
      · go_simp
      simp only [Act.put, List.setIfInBounds_toArray, List.set_cons_zero, List.set_cons_succ]
      refine anyZ_take 8 _ (some 20) (.int .i64 ((2 * (k : Int)) + 1)) rfl (by kernel_rfl) (by kernel_rfl) (by kernel_rfl) (by kernel_rfl) (by kernel_rfl) (by decide) rfl (fun w' hS => ?_) trivial ?_
      · go_simp
      simp only [Act.put, List.setIfInBounds_toArray, List.set_cons_zero, List.set_cons_succ]
      refine anyZ_take 9 _ (some 21) (.int .u8 (y.toNat : Int)) rfl (by kernel_rfl) (by kernel_rfl) (by kernel_rfl) (by kernel_rfl) (by kernel_rfl) (by decide) rfl (fun w' hS => ?_) trivial ?_
      · exact r1' _ _ _ _ _ rfl rfl rfl
      simp only [Act.put, List.setIfInBounds_toArray, List.set_cons_zero, List.set_cons_succ]
      refine anyZ_call 4 _ (some 16) rfl (by kernel_rfl) (by kernel_rfl) rfl 103 #[.int .u8 (x.toNat : Int)] (by go_simp) ?_
      refine (digit_any x _).mono ?_
      rintro e wd ⟨rfl, rfl⟩
      refine ⟨_, rfl, fun _ => trivial, ?_⟩
      simp only [Act.put, List.setIfInBounds_toArray, List.set_cons_zero, List.set_cons_succ]
      refine anyZ_take 5 _ (some 17) (.int .u8 ((digitB x * 16).toNat : Int)) rfl (by kernel_rfl) (by kernel_rfl) (by kernel_rfl) (by kernel_rfl) (by kernel_rfl) (by decide) rfl (fun w' hS => ?_) trivial ?_
      · go_simp
      simp only [Act.put, List.setIfInBounds_toArray, List.set_cons_zero, List.set_cons_succ]
      refine anyZ_call 10 _ (some 22) rfl (by kernel_rfl) (by kernel_rfl) rfl 103 #[.int .u8 (y.toNat : Int)] (by go_simp) ?_
      refine (digit_any y _).mono ?_
      rintro e wd ⟨rfl, rfl⟩
      refine ⟨_, rfl, fun _ => trivial, ?_⟩
      simp only [Act.put, List.setIfInBounds_toArray, List.set_cons_zero, List.set_cons_succ]
      refine anyZ_take 11 _ (some 23) (.int .u8 (z.toNat : Int)) rfl (by kernel_rfl) (by kernel_rfl) (by kernel_rfl) (by kernel_rfl) (by kernel_rfl) (by decide) rfl (fun w' hS => ?_) trivial ?_
      · go_simp
      simp only [Act.put, List.setIfInBounds_toArray, List.set_cons_zero, List.set_cons_succ]
      refine anyZ_next 12 _ (some 24) rfl (by kernel_rfl) (by kernel_rfl) rfl (.slice (some ⟨gc, 0, none⟩) 1 1) wc (by rw [hwc.out, hgc.out]; go_simp) (fun _ => trivial) ?_
      simp only [Act.put, List.setIfInBounds_toArray, List.set_cons_zero, List.set_cons_succ]
      refine anyZ_next 13 _ (some 25) rfl (by kernel_rfl) (by kernel_rfl) rfl v9 w9 (run_append_op2n rfl rfl rfl hr9) (fun _ => trivial) ?_
      simp only [Act.put, List.setIfInBounds_toArray, List.set_cons_zero, List.set_cons_succ]
      refine anyZ_next 14 _ (some 3) rfl (by kernel_rfl) (by kernel_rfl) rfl v9 w9 (by go_simp) (fun _ => trivial) ?_
      simp only [Act.put, List.setIfInBounds_toArray, List.set_cons_zero, List.set_cons_succ]
      refine anyZ_done (by kernel_rfl) ?_ _
      go_wp2
      go_roundg (gk - 1)
      case measure => have := hkg.out; have := hkn.out; omega
      case rel => exact ⟨k + 1, by have := hkg.out; have := hkn.out; omega, by go_num, mk9.out, own9.out⟩
    · have hkn' : k = n := by omega
      subst hkn'
      have hd : decide (2 * (k : Int) + 1 < 2 * (k : Int)) = false := by rw [decide_eq_false_iff_not]; omega
      replace rowk := Lib.hid rowk
      replace mk := Lib.hid mk
      go_wp2
      go_ret
      exact ⟨mk.out, _, rfl, rowk.out⟩
end Go.Proofs.YtppjnkgmbmhlcaaGreatDoor
