/-
  sha.primes: the first primes.
-/
import Derived.WalkMore
import Derived.Deep.LoopGhost
import Derived.Test.YtppjnkgmbmhlcaaGreatDoorS2
import Derived.Test.YtppjnkgmbmhlcaaGreatDoorMA
namespace Go.Proofs.YtppjnkgmbmhlcaaGreatDoor
set_option maxRecDepth 100000
open Go Go.RowKit Go.Lib
set_option linter.unusedSimpArgs false
set_option linter.unusedVariables false

theorem infoU64 : (Tryz.prog.info? 23).map (fun i => (i.zero, i.size, i.bytes)) = some (some (.int .u64 0), 1, 8) := by kernel_rfl
theorem wpList_append_one {w : World} {ops : Array Oper} {rest : List Oper} {o : Oper} {a : Act} {Q : Exit → Act → World → Prop} (hgd : o.guard = none) (s x : Operand)
    (ho : o.op = .call { callee := .builtin .append, args := #[s, x], argTypes := #[90, 90] }) (base n : Nat) (v : Value) (g cap : Nat) (u : Value) (xs : List Value) (hs : a.eval s = v) (hx : a.eval x = .slice (some ⟨g, 0, none⟩) 1 cap)
    (hown : w.ownsRow base 23 1 v n xs) (hc : w.cell? ⟨g, 0, none⟩ = some u) (h1 : u.oneCell' = true) (hfit : n ≤ 1000) (hbase : base ≤ w.heap.size)
    (h : ∀ v' w', w'.ownsRow base 23 1 v' (n + 1) (xs ++ [u]) → w.grownBy w' v.ownBlock → wpList Tryz.prog ops Q rest (a.put o.dst v') w') : wpList Tryz.prog ops Q (o :: rest) a w := by
  refine wpList_plain hgd fun K hK => ?_
  obtain ⟨i0, hi, hz0, hz1, hz2⟩ := info_parts infoU64
  obtain ⟨v', w', hr, h2, h3, _⟩ := run_append_own (P := Tryz.prog) w base 90 o.type 23 i0 (.int .u64 0) 1 8 Tryz.underlying90 hi hz0 hz1 hz2 rfl (by decide) v n xs hown ⟨g, 0, none⟩ 1 cap [u] rfl
    (fun j y hj => by
      cases j with
      | zero => simp only [List.getElem?_cons_zero, Option.some.injEq] at hj; subst hj; exact hc
      | succ j => simp at hj) (fun y hy => by rw [List.mem_singleton.1 hy]; exact h1) (by unfold maxLen; omega) (by omega) hbase
  unfold Oper.wp execOp
  simp only [ho, resolve, invoke, builtin, Sem.run_bind, Sem.run_pure, Result.andThen_ok, List.map_toArray, List.map_cons, List.map_nil, hs, hx, hr]
  exact hK _ _ (h v' w' h2 h3)
theorem own_cells {w : World} {base n : Nat} {t : TypeId} {v : Value} {xs : List Value} (h : w.ownsRow base t 1 v n xs) (hn : 0 < n) : ∃ g cap, v = .slice (some ⟨g, 0, none⟩) n cap ∧ base ≤ g ∧ g < w.heap.size ∧ ∀ j u, xs[j]? = some u → w.cell? ⟨g, j, none⟩ = some u := by
  obtain ⟨_, ⟨_, rfl⟩ | ⟨g, cap, cur, rfl, hb, hg, hnc, _, hcs, ht⟩⟩ := h
  · omega
  · refine ⟨g, cap, rfl, hb, lt_of_heap hg, fun j u hj => ?_⟩
    rw [cell_of_row _ _ _ _ _ _ hg]
    rw [← ht, List.getElem?_take] at hj
    split at hj
    · simpa using hj
    · cases hj

theorem ownsRow_kept {S : Nat → Prop} {w w' : World} {base n size : Nat} {e : TypeId} {v : Value} {xs : List Value} (h : w.ownsRow base e size v n xs) (m : Mod S w w') (hS : ∀ k, base ≤ k → ¬ S k) : w'.ownsRow base e size v n xs := by
  obtain ⟨h1, h2⟩ := h
  refine ⟨h1, h2.imp_right ?_⟩
  rintro ⟨g, cap, cur, a1, a2, a3, a4⟩
  exact ⟨g, cap, cur, a1, a2, m.heap a3 (hS g a2), a4⟩
theorem own_grown64 {w w' : World} {base n : Nat} {e : TypeId} {v : Value} {xs : List Value} (h : w.ownsRow base e 1 v n xs) (g : w.grownBy w' v.ownBlock) : Mod (fun k => base ≤ k) w w' :=
  (Mod.refl _ w).grown g (fun k hk _ => (h.lt k hk).1)
/-- The primes below a number. -/
def primesTo : Nat → List Nat
  | 0 => []
  | p + 1 => if p < 2 ∨ (primesTo p).any (fun q => p % q == 0) then primesTo p else primesTo p ++ [p]
theorem primes_all : (primesTo 312).length = 64 := by decide +kernel
theorem primes_two (p : Nat) : ∀ q ∈ primesTo p, 2 ≤ q := by
  induction p with
  | zero => simp [primesTo]
  | succ p ih =>
    unfold primesTo
    split
    · exact ih
    · rename_i h
      intro q hq
      rcases List.mem_append.1 hq with hq | hq
      · exact ih q hq
      · rw [List.mem_singleton.1 hq]
        have : ¬ p < 2 := fun h2 => h (.inl h2)
        omega
theorem primes_lt (p : Nat) : ∀ q ∈ primesTo p, q < p := by
  induction p with
  | zero => simp [primesTo]
  | succ p ih =>
    unfold primesTo
    split
    · intro q hq; have := ih q hq; omega
    · intro q hq
      rcases List.mem_append.1 hq with hq | hq
      · have := ih q hq; omega
      · rw [List.mem_singleton.1 hq]; omega
theorem primes_pre (p k : Nat) : primesTo p <+: primesTo (p + k) := by
  induction k with
  | zero => exact List.prefix_refl _
  | succ k ih =>
    refine ih.trans ?_
    rw [← Nat.add_assoc]
    conv => rhs; unfold primesTo
    split
    · exact List.prefix_refl _
    · exact List.prefix_append _ _
theorem primes_take {p n : Nat} (hp : p ≤ 312) (hn : (primesTo p).length = n) : primesTo p = (primesTo 312).take n := by
  have := (List.prefix_iff_eq_take.1 (primes_pre p (312 - p)))
  rw [show p + (312 - p) = 312 by omega] at this
  rw [hn] at this
  exact this

theorem primes_skip {p i : Nat} (hi : i < (primesTo p).length) (h : p % (primesTo p).getD i 0 = 0) : primesTo (p + 1) = primesTo p := by
  conv => lhs; unfold primesTo
  rw [if_pos]
  refine .inr (List.any_eq_true.2 ⟨(primesTo p).getD i 0, ?_, by rw [h]; rfl⟩)
  rw [List.getD_eq_getElem?_getD, List.getElem?_eq_getElem hi]
  exact List.getElem_mem _
theorem primes_more {p : Nat} (hp : 2 ≤ p) (h : ∀ i, i < (primesTo p).length → ¬ p % (primesTo p).getD i 0 = 0) : primesTo (p + 1) = primesTo p ++ [p] := by
  conv => lhs; unfold primesTo
  rw [if_neg]
  rintro (h1 | h1)
  · omega
  · obtain ⟨q, hq, h2⟩ := List.any_eq_true.1 h1
    obtain ⟨i, hi, rfl⟩ := List.getElem_of_mem hq
    refine h i hi ?_
    rw [List.getD_eq_getElem?_getD, List.getElem?_eq_getElem hi]
    simpa using h2
set_option maxRecDepth 100000 in
set_option maxHeartbeats 2000000 in
theorem primes_any (n : Nat) (hn : n ≤ 64) (w : World) : Calls Tryz.prog 122 #[.int .i64 (n : Int)] w fun e w' => Mod (fun _ => False) w w' ∧ ∃ v, e = .returned v ∧ w'.ownsRow w.heap.size 23 1 v n (nums .u64 ((primesTo 312).take n)) := by
  have hall := primes_all
  replace hall := Lib.hid hall
  go_enter Tryz.func122, Tryz.ntmps122
  go_wp2
  go_step3
  go_wp2
  go_step3
  go_wp2
  go_loopg [2, 3] 310 (fun gh lv pv wr => ∃ p : Nat, p + gh = 312 ∧ 2 ≤ p ∧ pv = .int .u64 (p : Int) ∧ (primesTo p).length ≤ n ∧ Mod (fun _ => False) w wr ∧ wr.ownsRow w.heap.size 23 1 lv (primesTo p).length (nums .u64 (primesTo p)))
  case atStart => exact ⟨2, by omega, by omega, rfl, by simp [primesTo], Mod.refl _ _, ⟨rfl, .inl ⟨rfl, rfl⟩⟩⟩
  case round =>
    obtain ⟨p, hpg, hp2, rfl, hln, mr, ownr⟩ := hrel
    have hlt64 : (primesTo p).length < n → p < 312 := by
      intro h
      rcases Nat.lt_or_ge p 312 with h1 | h1
      · exact h1
      · obtain rfl : p = 312 := by omega
        rw [hall.out] at h
        omega
    have htake := primes_take (p := p) (n := n) (by omega)
    have hskip := fun i => primes_skip (p := p) (i := i)
    have hmore := primes_more (p := p) hp2
    have htwo := primes_two p
    generalize hLp : primesTo p = Lp at *
    obtain ⟨m, hm⟩ : ∃ m, m = Lp.length := ⟨_, rfl⟩
    rw [← hm] at hln ownr hlt64 htake
    simp only [← hm] at hskip hmore
    have bm : (m : Int) ≤ 64 := by omega
    have bp : (p : Int) ≤ 312 := by omega
    have bp0 : (0 : Int) ≤ (p : Int) := by omega
    have bm0 : (0 : Int) ≤ (m : Int) := by omega
    obtain ⟨ad, cap, rfl, hcells⟩ : ∃ ad cap, u2 = .slice ad m cap ∧ ∀ j, j < m → ∃ g, ad = some ⟨g, 0, none⟩ ∧ g < wr.heap.size ∧ wr.cell? ⟨g, j, none⟩ = some (.int .u64 ((Lp.getD j 0 : Nat) : Int)) := by
      rcases Nat.eq_zero_or_pos m with h0 | h0
      · obtain ⟨_, ⟨rfl, _⟩ | ⟨g, cap, cur, rfl, _⟩⟩ := ownr
        · exact ⟨_, _, by rw [h0], fun j hj => by omega⟩
        · exact ⟨_, _, rfl, fun j hj => by omega⟩
      · obtain ⟨g, cap, rfl, _, hgl, hc⟩ := own_cells ownr h0
        refine ⟨_, _, rfl, fun j hj => ⟨g, rfl, hgl, hc j _ ?_⟩⟩
        have := nums_get (k := .u64) (l := Lp) (i := j) (by omega)
        rwa [List.getElem?_toArray] at this
    by_cases hmn : m < n
    · have hdm : decide ((m : Int) < (n : Int)) = true := by rw [decide_eq_true_iff]; omega
      have hp312 := hlt64 hmn
      replace hcells := Lib.hid hcells
      replace hskip := Lib.hid hskip
      replace hmore := Lib.hid hmore
      replace htwo := Lib.hid htwo
      replace hLp := Lib.hid hLp
      replace hm := Lib.hid hm
      replace mr := Lib.hid mr
      replace ownr := Lib.hid ownr
      replace hpg := Lib.hid hpg
      replace hmn := Lib.hid hmn
      replace hln := Lib.hid hln
      replace hp312 := Lib.hid hp312
      replace hp2 := Lib.hid hp2
      clear htake hlt64
      obtain ⟨G, rfl⟩ : ∃ G, G = gk := ⟨_, rfl⟩
      obtain ⟨wo, hwo⟩ : ∃ wo : World, wo = wr := ⟨_, rfl⟩
      rw [← hwo] at hcells mr ownr ⊢
      replace hwo := Lib.hid hwo
      go_wp2
      go_loopg [14] m (fun gh iv wx => ∃ j : Nat, j + gh = m ∧ iv = .int .i64 (j : Int) ∧ wx = wo ∧ ∀ i, i < j → ¬ p % Lp.getD i 0 = 0)
      case atStart => exact ⟨0, by omega, rfl, rfl, fun i hi => by omega⟩
      case round =>
        obtain ⟨j, hjg, rfl, rfl, hno⟩ := hrel
        have bj0 : (0 : Int) ≤ (j : Int) := by omega
        have bjm : (j : Int) ≤ (m : Int) := by omega
        replace hno := Lib.hid hno
        by_cases hjm : j < m
        · obtain ⟨g, rfl, _, hcj⟩ := hcells.out j hjm
          have hdj : decide ((j : Int) < (m : Int)) = true := by rw [decide_eq_true_iff]; omega
          have hq2 : 2 ≤ Lp.getD j 0 := by
            refine htwo.out _ ?_
            rw [List.getD_eq_getElem?_getD, List.getElem?_eq_getElem (by rw [← hm.out]; exact hjm)]
            exact List.getElem_mem _
          obtain ⟨q, hq⟩ : ∃ q, q = Lp.getD j 0 := ⟨_, rfl⟩
          rw [← hq] at hq2 hcj
          have bq : ¬ (q : Int) = 0 := by omega
          have bqs : (q : Int) ≠ 0 := by omega
          have bq2 : (2 : Int) ≤ (q : Int) := by omega
          have hrem : Int.tmod (p : Int) (q : Int) = ((p % q : Nat) : Int) := by rw [Int.ofNat_tmod]
          have hemod : (p : Int) % (q : Int) = ((p % q : Nat) : Int) := by omega
          generalize hx : p % q = x at *
          replace hx := Lib.hid hx
          replace hq := Lib.hid hq
          by_cases hx0 : x = 0
          · have hsk := hskip.out j hjm (by rw [← hq.out, hx.out]; exact hx0)
            subst hx0
            have hfin : primesTo (p + 1) = Lp := by rw [hsk]
            replace hfin := Lib.hid hfin
            clear hsk
            go_wp2
            go_roundg (G - 1)
            case measure => have := hp312.out; have := hpg.out; omega
            case rel => exact ⟨p + 1, by have := hp312.out; have := hpg.out; omega, by have := hp2.out; omega, by go_num, by rw [hfin.out, ← hm.out]; exact hln.out, mr.out, by rw [hfin.out, ← hm.out]; exact ownr.out⟩
          · have hxb : ((x : Int) == 0) = false := by rw [beq_eq_false_iff_ne]; omega
            have hnx : ∀ i, i < j + 1 → ¬ p % Lp.getD i 0 = 0 := by
              intro i hi
              by_cases hij : i < j
              · exact hno.out i hij
              · obtain rfl : i = j := by omega
                rw [← hq.out, hx.out]
                exact hx0
            replace hnx := Lib.hid hnx
            replace hjg := Lib.hid hjg
            replace hjm := Lib.hid hjm
            go_wp2
            go_roundg (gk - 1)
            case measure => have := hjm.out; have := hjg.out; omega
            case rel => exact ⟨j + 1, by have := hjm.out; have := hjg.out; omega, by go_num, rfl, hnx.out⟩
        · obtain rfl : j = m := by omega
          have hdj : decide ((j : Int) < (j : Int)) = false := by rw [decide_eq_false_iff_not]; omega
          have hfin := hmore.out hno.out
          have hhp := hp_new wr (.cells #[.int .u64 (p : Int)] 23) wr.heap.size rfl
          have mall : Mod (fun _ => False) wr (wr.alloc (.cells #[.int .u64 (p : Int)] 23)) := (Mod.refl _ _).alloc _
          have hcp := cell_of_one hhp
          have ownA := ownsRow_kept ownr.out mall (fun _ _ h => h)
          have hszA := mall.size
          have hmrs := mr.out.size
          replace hfin := Lib.hid hfin
          replace ownA := Lib.hid ownA
          replace mall := Lib.hid mall
          clear hhp
          go_wp2_with (first | fail | (at_builtin; refine wpList_append_one rfl _ _ rfl w.heap.size j _ _ _ (.int .u64 (p : Int)) _ rfl rfl ownA.out hcp rfl (by have := hmn.out; omega) (by omega) ?_))
          intro v' w' own' grow'
          have m' := own_grown64 ownA.out grow'
          have mr' : Mod (fun _ => False) w w' := (mr.out.trans mall.out).trans' m' (fun i hi h => by omega)
          replace mr' := Lib.hid mr'
          replace own' := Lib.hid own'
          clear grow' m'
          go_wp2
          go_roundg (G - 1)
          case measure => have := hp312.out; have := hpg.out; omega
          case rel => exact ⟨p + 1, by have := hp312.out; have := hpg.out; omega, by have := hp2.out; omega, by go_num, by rw [hfin.out, List.length_append, List.length_singleton, ← hm.out]; exact hmn.out, mr'.out, by rw [hfin.out, List.length_append, List.length_singleton, ← hm.out]; have := own'.out; simpa [nums] using this⟩
    · have hdm : decide ((m : Int) < (n : Int)) = false := by rw [decide_eq_false_iff_not]; omega
      obtain rfl : m = n := by omega
      have hfin := htake rfl
      replace hfin := Lib.hid hfin
      replace mr := Lib.hid mr
      replace ownr := Lib.hid ownr
      clear hcells htake hlt64
      go_wp2
      rw [Exit.noGoto_ret]
      go_ret
      exact ⟨mr.out, _, rfl, by rw [← hfin.out]; exact ownr.out⟩
end Go.Proofs.YtppjnkgmbmhlcaaGreatDoor
