/-
  sha.below, square, cube: 32 bits behind the point of a root.
-/
import Derived.Test.YtppjnkgmbmhlcaaGreatDoorS1
namespace Go.Proofs.YtppjnkgmbmhlcaaGreatDoor
set_option maxRecDepth 100000
open Go Go.RowKit Go.Lib
set_option linter.unusedSimpArgs false
set_option linter.unusedVariables false

/-- The greatest number of which it is not said that it is too great: after so many bits. -/
def belowTo (g : Nat → Bool) : Nat → Nat
  | 0 => 0
  | i + 1 => if g (belowTo g i ||| 68719476736 / 2 ^ i) then belowTo g i else belowTo g i ||| 68719476736 / 2 ^ i
theorem bit_lt (i : Nat) : 68719476736 / 2 ^ i < 2 ^ 37 := Nat.lt_of_le_of_lt (Nat.div_le_self _ _) (by decide)
theorem belowTo_lt (g : Nat → Bool) (i : Nat) : belowTo g i < 2 ^ 37 := by
  induction i with
  | zero => exact (by decide : 0 < 2 ^ 37)
  | succ i ih =>
    unfold belowTo
    split
    · exact ih
    · exact Nat.or_lt_two_pow ih (bit_lt i)
def sqG (p x : Nat) : Bool := decide (p ≤ x * x / 18446744073709551616)
def cbG (p x : Nat) : Bool := decide (p * 4294967296 ≤ x * x / 18446744073709551616 * x + x * x % 18446744073709551616 * x / 18446744073709551616)
theorem sqG_any (p x B : Nat) (hx : x < 137438953472) (w : World) (hc : w.cell? ⟨B, 0, none⟩ = some (.int .u64 (p : Int))) :
    Calls Tryz.prog 137 #[.int .u64 (x : Int), .pointer (some ⟨B, 0, none⟩)] w fun e w' => e = .returned (.bool (sqG p x)) ∧ w' = w := by
  go_enter Tryz.func137, Tryz.ntmps137
  go_wp2_with fail
  refine (mul64_any x x (by omega) (by omega) w).mono ?_
  rintro e w1 ⟨rfl, rfl⟩
  obtain ⟨a, ha⟩ : ∃ a, a = x * x / 18446744073709551616 := ⟨_, rfl⟩
  obtain ⟨b, hb⟩ : ∃ b, b = x * x % 18446744073709551616 := ⟨_, rfl⟩
  rw [← ha, ← hb]
  have hfin : sqG p x = decide (p ≤ a) := by
    unfold sqG
    rw [← ha]
  replace hfin := Lib.hid hfin
  clear ha hb
  go_wp2
  go_ret
  exact ⟨by rw [hfin.out]; rfl, rfl⟩
theorem cb_facts (p x a b d m : Nat) (hp : p < 1024) (hx : x < 137438953472) (ha : a = x * x / 18446744073709551616) (hb : b = x * x % 18446744073709551616) (hd : d = b * x / 18446744073709551616) (hm : m = a * x) :
    b < 18446744073709551616 ∧ m < 140737488355328 ∧ d ≤ 137438953472 ∧ cbG p x = decide (p * 4294967296 ≤ m + d) := by
  have h1 : x * x < 137438953472 * 137438953472 := Nat.mul_lt_mul'' hx hx
  have hb2 : b < 18446744073709551616 := by rw [hb]; exact Nat.mod_lt _ (by decide)
  have ha2 : a < 1024 := by rw [ha]; exact Nat.div_lt_of_lt_mul (Nat.lt_of_lt_of_le h1 (by decide))
  have h2 : a * x < 1024 * 137438953472 := Nat.mul_lt_mul'' ha2 hx
  have h3 : b * x < 18446744073709551616 * 137438953472 := Nat.mul_lt_mul'' hb2 hx
  refine ⟨hb2, by rw [hm]; exact Nat.lt_of_lt_of_le h2 (by decide), ?_, ?_⟩
  · rw [hd]
    exact Nat.le_of_lt (Nat.div_lt_of_lt_mul h3)
  · unfold cbG
    rw [← ha, ← hb, ← hd, ← hm]
theorem cbG_any (p x B : Nat) (hp : p < 1024) (hx : x < 137438953472) (w : World) (hc : w.cell? ⟨B, 0, none⟩ = some (.int .u64 (p : Int))) :
    Calls Tryz.prog 139 #[.int .u64 (x : Int), .pointer (some ⟨B, 0, none⟩)] w fun e w' => e = .returned (.bool (cbG p x)) ∧ w' = w := by
  obtain ⟨a, ha⟩ : ∃ a, a = x * x / 18446744073709551616 := ⟨_, rfl⟩
  obtain ⟨b, hb⟩ : ∃ b, b = x * x % 18446744073709551616 := ⟨_, rfl⟩
  obtain ⟨d, hd⟩ : ∃ d, d = b * x / 18446744073709551616 := ⟨_, rfl⟩
  obtain ⟨d', hd'⟩ : ∃ d', d' = b * x % 18446744073709551616 := ⟨_, rfl⟩
  obtain ⟨m, hm⟩ : ∃ m, m = a * x := ⟨_, rfl⟩
  obtain ⟨hb2, hm2, hd2, hfin⟩ := cb_facts p x a b d m hp hx ha hb hd hm
  rw [show decide (p * 4294967296 ≤ m + d) = decide ((p : Int) * 4294967296 ≤ (m : Int) + (d : Int)) by rw [decide_eq_decide]; omega] at hfin
  have em : (a : Int) * (x : Int) = (m : Int) := by rw [hm, Int.natCast_mul]
  have e1 : IntKind.u64.wrap (m : Int) = (m : Int) := by clear hfin hd hd' ha hb hm em; rw [IntKind.wrap_u64]; omega
  have e2 : IntKind.u64.wrap ((m : Int) + (d : Int)) = (m : Int) + (d : Int) := by clear hfin hd hd' ha hb hm em; rw [IntKind.wrap_u64]; omega
  have e3 : IntKind.u64.wrap ((p : Int) * 4294967296) = (p : Int) * 4294967296 := by clear hfin hd hd' ha hb hm em; rw [IntKind.wrap_u64]; omega
  have hx64 : x < 18446744073709551616 := Nat.lt_trans hx (by decide)
  have c1 := fun w => mul64_any x x hx64 hx64 w
  rw [← ha, ← hb] at c1
  have c2 := fun w => mul64_any b x hb2 hx64 w
  rw [← hd, ← hd'] at c2
  replace c1 := Lib.hid c1
  replace c2 := Lib.hid c2
  replace hfin := Lib.hid hfin
  clear ha hb hd hd' hm hb2 hm2 hd2 hx64 hx hp
  go_enter Tryz.func139, Tryz.ntmps139
  go_wp2_with fail
  refine (c1.out w).mono ?_
  rintro e w1 ⟨rfl, rfl⟩
  go_wp2_with fail
  refine (c2.out w1).mono ?_
  rintro e w2 ⟨rfl, rfl⟩
  go_wp2
  go_ret
  exact ⟨by rw [hfin.out]; rfl, rfl⟩
set_option maxRecDepth 100000 in
theorem belowSq_any (p B : Nat) (w : World) (hc : w.cell? ⟨B, 0, none⟩ = some (.int .u64 (p : Int))) :
    Calls Tryz.prog 136 #[.func (.func 137) #[] #[.pointer (some ⟨B, 0, none⟩)]] w fun e w' => e = .returned (.int .u64 ((belowTo (sqG p) 37 : Nat) : Int)) ∧ w' = w := by
  go_enter Tryz.func136, Tryz.ntmps136
  go_wp2
  go_loopw [3, 4] (fun xv bv wr => ∃ i : Nat, i ≤ 37 ∧ xv = .int .u64 ((belowTo (sqG p) i : Nat) : Int) ∧ bv = .int .u64 ((68719476736 / 2 ^ i : Nat) : Int) ∧ wr = w) (fun _ bv _ => (intOf bv).toNat)
  case atStart => exact ⟨0, by omega, rfl, rfl, rfl⟩
  case round =>
    obtain ⟨i, hi, rfl, rfl, rfl⟩ := hrel
    have hbl := bit_lt i
    have hxl := belowTo_lt (sqG p) i
    have hnx : belowTo (sqG p) (i + 1) = if sqG p (belowTo (sqG p) i ||| 68719476736 / 2 ^ i) then belowTo (sqG p) i else belowTo (sqG p) i ||| 68719476736 / 2 ^ i := rfl
    have hnb : 68719476736 / 2 ^ (i + 1) = 68719476736 / 2 ^ i / 2 := by rw [Nat.div_div_eq_div_mul, Nat.pow_succ]
    have hb0 : 0 < 68719476736 / 2 ^ i ↔ i < 37 := by
      constructor
      · intro h
        by_cases h37 : i < 37
        · exact h37
        · obtain rfl : i = 37 := by omega
          exact absurd h (by decide)
      · intro h
        exact Nat.div_pos (by rw [show 68719476736 = 2 ^ 36 by decide]; exact Nat.pow_le_pow_right (by omega) (by omega)) (Nat.pow_pos (by omega))
    generalize hx : belowTo (sqG p) i = x at *
    generalize hb : 68719476736 / 2 ^ i = b at *
    have hor : bits .or .u64 (x : Int) (b : Int) = ((x ||| b : Nat) : Int) := u64_or_nat _ _ (by omega) (by omega)
    have horl : x ||| b < 137438953472 := Nat.or_lt_two_pow (n := 37) hxl hbl
    generalize ho : x ||| b = o at *
    by_cases hlt : i < 37
    · have hbp := hb0.2 hlt
      have hbp' : (0 : Int) < (b : Int) := by omega
      replace hnx := Lib.hid hnx
      replace hnb := Lib.hid hnb
      replace hx := Lib.hid hx
      replace hb := Lib.hid hb
      replace ho := Lib.hid ho
      replace hb0 := Lib.hid hb0
      replace hlt := Lib.hid hlt
      replace hi := Lib.hid hi
      replace hxl := Lib.hid hxl
      replace hbl := Lib.hid hbl
      go_wp2_with fail
      refine (sqG_any p o B horl wr hc).mono ?_
      rintro e w1 ⟨rfl, rfl⟩
      generalize hg : sqG p o = gg at *
      cases gg
      · go_wp2
        go_roundw
        case measure => have := hbp; simp [intOf]; omega
        case rel => exact ⟨i + 1, by have := hlt.out; omega, by rw [hnx.out]; rfl, by rw [hnb.out]; go_num, trivial⟩
      · go_wp2
        go_roundw
        case measure => have := hbp; simp [intOf]; omega
        case rel => exact ⟨i + 1, by have := hlt.out; omega, by rw [hnx.out]; rfl, by rw [hnb.out]; go_num, trivial⟩
    · obtain rfl : i = 37 := by omega
      have hbz : b = 0 := by
        rcases Nat.eq_zero_or_pos b with h | h
        · exact h
        · exact absurd (hb0.1 h) (by omega)
      subst hbz
      replace hx := Lib.hid hx
      clear hnx hnb hb0 hor horl ho hxl hbl hlt hi
      go_wp2
      go_ret
      exact ⟨by rw [hx.out]; rfl, rfl⟩
theorem square_any (p : Nat) (w : World) : Calls Tryz.prog 123 #[.int .u64 (p : Int)] w fun e w' => e = .returned (W (BitVec.ofNat 32 (belowTo (sqG p) 37))) ∧ Mod (fun _ => False) w w' := by
  have hmf : ∀ (fn : Fn) (first cap : Array Value) (w : World), (Instr.makeFunc fn first cap).run Tryz.prog w = .ok (.func fn first cap) w := fun _ _ _ _ => rfl
  go_enter Tryz.func123, Tryz.ntmps123
  go_wp2_with fail
  refine (belowSq_any p w.heap.size _ ?_).mono ?_
  · exact cell_of_one (hp_new _ _ _ rfl)
  rintro e w1 ⟨rfl, rfl⟩
  have hbl := belowTo_lt (sqG p) 37
  obtain ⟨x, hx⟩ : ∃ x, x = belowTo (sqG p) 37 := ⟨_, rfl⟩
  rw [← hx] at hbl ⊢
  have H : ((x : Int) % 4294967296) = ((BitVec.ofNat 32 x).toNat : Int) := by simp
  replace H := Lib.hid H
  replace hbl := Lib.hid hbl
  replace hx := Lib.hid hx
  go_wp2
  go_ret
  exact ⟨by rw [← hx.out]; exact ret_int H.out, (Mod.refl _ _).alloc _⟩
set_option maxRecDepth 100000 in
theorem belowCb_any (p B : Nat) (hp : p < 1024) (w : World) (hc : w.cell? ⟨B, 0, none⟩ = some (.int .u64 (p : Int))) :
    Calls Tryz.prog 136 #[.func (.func 139) #[] #[.pointer (some ⟨B, 0, none⟩)]] w fun e w' => e = .returned (.int .u64 ((belowTo (cbG p) 37 : Nat) : Int)) ∧ w' = w := by
  go_enter Tryz.func136, Tryz.ntmps136
  go_wp2
  go_loopw [3, 4] (fun xv bv wr => ∃ i : Nat, i ≤ 37 ∧ xv = .int .u64 ((belowTo (cbG p) i : Nat) : Int) ∧ bv = .int .u64 ((68719476736 / 2 ^ i : Nat) : Int) ∧ wr = w) (fun _ bv _ => (intOf bv).toNat)
  case atStart => exact ⟨0, by omega, rfl, rfl, rfl⟩
  case round =>
    obtain ⟨i, hi, rfl, rfl, rfl⟩ := hrel
    have hbl := bit_lt i
    have hxl := belowTo_lt (cbG p) i
    have hnx : belowTo (cbG p) (i + 1) = if cbG p (belowTo (cbG p) i ||| 68719476736 / 2 ^ i) then belowTo (cbG p) i else belowTo (cbG p) i ||| 68719476736 / 2 ^ i := rfl
    have hnb : 68719476736 / 2 ^ (i + 1) = 68719476736 / 2 ^ i / 2 := by rw [Nat.div_div_eq_div_mul, Nat.pow_succ]
    have hb0 : 0 < 68719476736 / 2 ^ i ↔ i < 37 := by
      constructor
      · intro h
        by_cases h37 : i < 37
        · exact h37
        · obtain rfl : i = 37 := by omega
          exact absurd h (by decide)
      · intro h
        exact Nat.div_pos (by rw [show 68719476736 = 2 ^ 36 by decide]; exact Nat.pow_le_pow_right (by omega) (by omega)) (Nat.pow_pos (by omega))
    generalize hx : belowTo (cbG p) i = x at *
    generalize hb : 68719476736 / 2 ^ i = b at *
    have hor : bits .or .u64 (x : Int) (b : Int) = ((x ||| b : Nat) : Int) := u64_or_nat _ _ (by omega) (by omega)
    have horl : x ||| b < 137438953472 := Nat.or_lt_two_pow (n := 37) hxl hbl
    generalize ho : x ||| b = o at *
    by_cases hlt : i < 37
    · have hbp := hb0.2 hlt
      have hbp' : (0 : Int) < (b : Int) := by omega
      replace hnx := Lib.hid hnx
      replace hnb := Lib.hid hnb
      replace hx := Lib.hid hx
      replace hb := Lib.hid hb
      replace ho := Lib.hid ho
      replace hb0 := Lib.hid hb0
      replace hlt := Lib.hid hlt
      replace hi := Lib.hid hi
      replace hxl := Lib.hid hxl
      replace hbl := Lib.hid hbl
      go_wp2_with fail
      refine (cbG_any p o B hp horl wr hc).mono ?_
      rintro e w1 ⟨rfl, rfl⟩
      generalize hg : cbG p o = gg at *
      cases gg
      · go_wp2
        go_roundw
        case measure => have := hbp; simp [intOf]; omega
        case rel => exact ⟨i + 1, by have := hlt.out; omega, by rw [hnx.out]; rfl, by rw [hnb.out]; go_num, trivial⟩
      · go_wp2
        go_roundw
        case measure => have := hbp; simp [intOf]; omega
        case rel => exact ⟨i + 1, by have := hlt.out; omega, by rw [hnx.out]; rfl, by rw [hnb.out]; go_num, trivial⟩
    · obtain rfl : i = 37 := by omega
      have hbz : b = 0 := by
        rcases Nat.eq_zero_or_pos b with h | h
        · exact h
        · exact absurd (hb0.1 h) (by omega)
      subst hbz
      replace hx := Lib.hid hx
      clear hnx hnb hb0 hor horl ho hxl hbl hlt hi
      go_wp2
      go_ret
      exact ⟨by rw [hx.out]; rfl, rfl⟩
theorem cube_any (p : Nat) (hp : p < 1024) (w : World) : Calls Tryz.prog 124 #[.int .u64 (p : Int)] w fun e w' => e = .returned (W (BitVec.ofNat 32 (belowTo (cbG p) 37))) ∧ Mod (fun _ => False) w w' := by
  have hmf : ∀ (fn : Fn) (first cap : Array Value) (w : World), (Instr.makeFunc fn first cap).run Tryz.prog w = .ok (.func fn first cap) w := fun _ _ _ _ => rfl
  go_enter Tryz.func124, Tryz.ntmps124
  go_wp2_with fail
  refine (belowCb_any p w.heap.size hp _ ?_).mono ?_
  · exact cell_of_one (hp_new _ _ _ rfl)
  rintro e w1 ⟨rfl, rfl⟩
  have hbl := belowTo_lt (cbG p) 37
  obtain ⟨x, hx⟩ : ∃ x, x = belowTo (cbG p) 37 := ⟨_, rfl⟩
  rw [← hx] at hbl ⊢
  have H : ((x : Int) % 4294967296) = ((BitVec.ofNat 32 x).toNat : Int) := by simp
  replace H := Lib.hid H
  replace hbl := Lib.hid hbl
  replace hx := Lib.hid hx
  go_wp2
  go_ret
  exact ⟨by rw [← hx.out]; exact ret_int H.out, (Mod.refl _ _).alloc _⟩
end Go.Proofs.YtppjnkgmbmhlcaaGreatDoor
