/-
  'append' to a row of one's own: either it stays in its block, or it lies in a new one and the old one is as it was.
-/
import Derived.OwnWalk
import Derived.Laws.OwnMore
import Derived.Test.YtbiijcljpgannaaApp
namespace Go.Proofs.Ytbiijcljpgannaa
open Go Go.RowKit
set_option linter.unusedSimpArgs false
set_option linter.unusedVariables false

theorem own_newRow (w : World) (base n m size cap : Nat) (e : TypeId) (xs news : List Value) (z : Array Value) (hz : z.size = size) (hx : xs.length = n * size) (hl : news.length = m * size) (hc : n + m ≤ cap) (hcm : cap ≤ maxLen) (hb : base ≤ w.heap.size) :
    (w.drew.alloc (.cells (xs.toArray ++ news.toArray ++ Builtin.zeroCells z (cap - (n + m))) e)).ownsRow base e size (.slice (some ⟨w.heap.size, 0, none⟩) (n + m) cap) (n + m) (xs ++ news) := by
  have hlen : (xs ++ news).length = (n + m) * size := by rw [List.length_append, hx, hl, Nat.add_mul]
  refine ⟨hlen, .inr ⟨w.heap.size, cap, _, rfl, hb, heap_alloc_new w.drew _, hc, hcm, ?_, ?_⟩⟩
  · rw [Array.size_append, Array.size_append, size_zeroCells, hz]
    show xs.length + news.length + (cap - (n + m)) * size = cap * size
    rw [hx, hl, ← Nat.add_mul, ← Nat.add_mul]
    congr 1
    omega
  · rw [Array.toList_append, Array.toList_append, ← hlen]
    exact List.take_left
theorem grown_newRow (w : World) (o : Obj) (row : Option Nat) : w.grownBy (w.drew.alloc o) row := ⟨rfl, rfl, rfl, by simp, fun k hk _ => Go.heap_alloc_old w.drew o hk⟩
theorem run_append_split {P : Program} (w : World) (base : Nat) (t ty e : TypeId) (i : TypeInfo) (z : Value) (size bytes : Nat) (ht : P.underlying t = some (.slice e)) (hi : P.info? e = some i) (hz : i.zero = some z)
    (hsize : i.size = size) (hby : i.bytes = bytes) (hzs : z.cells.size = size) (v : Value) (n : Nat) (xs : List Value) (hown : w.ownsRow base e size v n xs)
    (a : Addr) (m c : Nat) (news : List Value) (hl : news.length = m * size) (hnews : ∀ j u, news[j]? = some u → w.cell? (a.add j) = some u) (h1 : ∀ u ∈ news, u.oneCell' = true)
    (hm : 0 < m) (h63 : n + m ≤ maxLen) (hbytes : (n + m) * bytes ≤ 140737488355328) (hbase : base ≤ w.heap.size) :
    ∃ v' w', (Builtin.append_ #[t, t] ty #[v, .slice (some a) m c]).run P w = .ok v' w' ∧ w'.ownsRow base e size v' (n + m) (xs ++ news) ∧
      ((∃ g cap, v = .slice (some ⟨g, 0, none⟩) n cap ∧ v' = .slice (some ⟨g, 0, none⟩) (n + m) cap ∧ w.grownBy w' (some g)) ∨ (v'.ownBlock = some w.heap.size ∧ w.grownBy w' none)) := by
  subst hsize
  subst hby
  have hsmall : n + m ≤ 9223372036854775807 := by simp only [maxLen] at h63; omega
  rcases hown.2 with ⟨rfl, rfl⟩ | ⟨g, cap, cur, rfl, hbg, hg, hnc, hcm, hcs, htake⟩
  · have hx : xs = [] := List.eq_nil_of_length_eq_zero (by simpa using hown.1)
    subst hx
    have hr := run_append_nil (P := P) w t ty e i z ht hi hz a m c news hl hnews hm (by omega) (by rw [Nat.zero_add] at hbytes; omega)
    have ho := own_newRow w base 0 m i.size (grownCap w m 0 e) e [] news z.cells hzs (by simp) hl (by rw [Nat.zero_add]; exact grownCap_ge w m 0 e) (grownCap_le_maxLen w m 0 e (by omega)) hbase
    simp only [Nat.zero_add, Array.empty_append, List.nil_append] at ho ⊢
    exact ⟨_, _, hr, by simpa using ho, .inr ⟨rfl, grown_newRow w _ none⟩⟩
  · by_cases hroom : n + m ≤ cap
    · obtain ⟨w', h2, h3, h4⟩ := run_append_fits (P := P) w base t ty e i i.size ht hi rfl g n cap xs hown a m c news hl hnews h1 hroom
      exact ⟨_, w', h2, h3, .inl ⟨g, cap, rfl, rfl, h4⟩⟩
    · have holds : ∀ j u, xs[j]? = some u → w.cell? ((⟨g, 0, none⟩ : Addr).add j) = some u := hown.cells (g := g) rfl
      have hr := run_append_grow (P := P) w t ty e i z ht hi hz ⟨g, 0, none⟩ n cap xs hown.1 holds a m c news hl hnews (by omega) (by omega) (growslice_fits (by omega) hbytes)
      have ho := own_newRow w base n m i.size (grownCap w (n + m) cap e) e xs news z.cells hzs hown.1 hl (grownCap_ge w (n + m) cap e) (grownCap_le_maxLen w (n + m) cap e h63) hbase
      exact ⟨_, _, hr, ho, .inr ⟨rfl, grown_newRow w _ none⟩⟩
theorem run_append_bytes2 {w : World} {base n : Nat} {v x : Value} {bs cs : List (BitVec 8)} (hown : w.ownsRow base 5 1 v n (bytesV bs)) (hx : ByteAt w x cs) (hfit : n + cs.length ≤ 140737488355328) (hbase : base ≤ w.heap.size) (ty : TypeId) :
    ∃ v' w', (Builtin.append_ #[22, 22] ty #[v, x]).run Try.prog w = .ok v' w' ∧ w'.ownsRow base 5 1 v' (n + cs.length) (bytesV (bs ++ cs)) ∧ w.grownBy w' v.ownBlock ∧ ∀ k, v'.ownBlock = some k → v.ownBlock = some k ∨ w.heap.size ≤ k := by
  obtain ⟨v', w', h1, h2, h3⟩ := run_append_bytes hown hx hfit hbase ty
  refine ⟨v', w', h1, h2, h3, ?_⟩
  obtain ⟨i0, hi, hz0, hz1, hz2⟩ := info_parts infoU8
  obtain ⟨ad, cap, rfl, _⟩ := hx.slice
  cases ad with
  | none =>
    have h0 : cs = [] := by
      rcases hx with ⟨_, _, _, h⟩ | ⟨_, _, _, h, _⟩
      · exact h
      · injection h with h; cases h
    subst h0
    have h4 := run_append_none w base n cap ty v _ hown
    rw [show (Value.slice none ([] : List (BitVec 8)).length cap) = .slice none 0 cap from rfl, h4] at h1
    injection h1 with h1 _
    subst h1
    exact fun k hk => .inl hk
  | some a =>
    have hl : (bytesV cs).length = cs.length * 1 := by rw [bytesV_length, Nat.mul_one]
    by_cases h0 : cs.length = 0
    · have hcs := List.eq_nil_of_length_eq_zero h0
      subst hcs
      rcases hown.2 with ⟨rfl, rfl⟩ | ⟨g, cap', cur, rfl, hbg, hg, hnc, hcm, hcs, htake⟩
      · have h4 : (Builtin.append_ #[22, 22] ty #[.slice none 0 0, .slice (some a) 0 cap]).run Try.prog w = .ok (.slice none 0 0) w := by
          simp [Builtin.append_, run_underlying Try.underlying22, sizeOf, typeInfo, hi, Builtin.lenOf, Builtin.firstCells, loadCells, loadCellsFrom]
        rw [show (Value.slice (some a) ([] : List (BitVec 8)).length cap) = .slice (some a) 0 cap from rfl, h4] at h1
        injection h1 with h1 _
        subst h1
        exact fun k hk => by cases hk
      · obtain ⟨w2, h4, _, _⟩ := run_append_fits (P := Try.prog) w base 22 ty 5 i0 1 Try.underlying22 hi hz1 g n cap' (bytesV bs) hown a 0 cap [] rfl (fun j u h => by simp at h) (fun u h => by simp at h) (by omega)
        rw [show (Value.slice (some a) ([] : List (BitVec 8)).length cap) = .slice (some a) 0 cap from rfl, h4] at h1
        injection h1 with h1 _
        subst h1
        exact fun k hk => .inl hk
    · obtain ⟨g, off, cap', hv⟩ : ∃ g off cap', Value.slice (some a) cs.length cap = .slice (some ⟨g, off, none⟩) cs.length cap' := by
        rcases hx with ⟨_, _, _, h⟩ | ⟨g, off, cap', h, _⟩
        · rw [h] at h0; exact absurd rfl h0
        · exact ⟨g, off, cap', h⟩
      injection hv with hv _ hc
      injection hv with hv
      subst hv hc
      obtain ⟨v2, w2, h4, _, h5⟩ := run_append_split (P := Try.prog) w base 22 ty 5 i0 (.int .u8 0) 1 1 Try.underlying22 hi hz0 hz1 hz2 rfl v n (bytesV bs) hown ⟨g, off, none⟩ cs.length cap (bytesV cs) hl (cells_byteAt hx) (bytesV_one cs) (by omega) (by unfold maxLen; omega) (by omega) hbase
      rw [h4] at h1
      injection h1 with h1 _
      subst h1
      intro k hk
      rcases h5 with ⟨g2, c2, h6, h7, _⟩ | ⟨h6, _⟩
      · rw [h7] at hk
        exact .inl (by rw [h6]; exact hk)
      · rw [h6] at hk
        injection hk with hk
        exact .inr (by omega)
theorem wpList_append_bytes2 {w : World} {ops : Array Oper} {rest : List Oper} {o : Oper} {a : Act} {Q : Exit → Act → World → Prop} (hgd : o.guard = none) (s x : Operand)
    (ho : o.op = .call { callee := .builtin .append, args := #[s, x], argTypes := #[22, 22] }) (base n : Nat) (v xv : Value) (bs cs : List (BitVec 8)) (hs : a.eval s = v) (hx : a.eval x = xv)
    (hown : w.ownsRow base 5 1 v n (bytesV bs)) (hb : ByteAt w xv cs) (hfit : n + cs.length ≤ 140737488355328) (hbase : base ≤ w.heap.size)
    (h : ∀ v' w', w'.ownsRow base 5 1 v' (n + cs.length) (bytesV (bs ++ cs)) → w.grownBy w' v.ownBlock → (∀ k, v'.ownBlock = some k → v.ownBlock = some k ∨ w.heap.size ≤ k) → wpList Try.prog ops Q rest (a.put o.dst v') w') : wpList Try.prog ops Q (o :: rest) a w := by
  refine wpList_plain hgd fun K hK => ?_
  obtain ⟨v', w', hr, h2, h3, h4⟩ := run_append_bytes2 hown hb hfit hbase o.type
  unfold Oper.wp execOp
  simp only [ho, resolve, invoke, builtin, Sem.run_bind, Sem.run_pure, Result.andThen_ok, List.map_toArray, List.map_cons, List.map_nil, hs, hx, hr]
  exact hK _ _ (h v' w' h2 h3 h4)
/-- A row of one's own is kept by what leaves its block alone. -/
theorem ownsRow_block {S : Nat → Prop} {w w' : World} {base n size : Nat} {e : TypeId} {v : Value} {xs : List Value} (h : w.ownsRow base e size v n xs) (m : Mod S w w') (hS : ∀ k, v.ownBlock = some k → ¬ S k) : w'.ownsRow base e size v n xs := by
  rcases h with ⟨h0, h1 | ⟨g, cap, cur, h2, h3, h4, h5⟩⟩
  · exact ⟨h0, .inl h1⟩
  · exact ⟨h0, .inr ⟨g, cap, cur, h2, h3, m.heap h4 (hS g (by rw [h2]; rfl)), h5⟩⟩
theorem ownsRow_keep0 {w w' : World} {base n size : Nat} {e : TypeId} {v : Value} {xs : List Value} (h : w.ownsRow base e size v n xs) (m : Mod (fun _ => False) w w') : w'.ownsRow base e size v n xs := ownsRow_block h m (fun _ _ h => h)
theorem ownsRow_base0 {w : World} {base base' n size : Nat} {e : TypeId} {v : Value} {xs : List Value} (h : w.ownsRow base e size v n xs) (hb : base' ≤ base) : w.ownsRow base' e size v n xs := by
  rcases h with ⟨h0, h1 | ⟨g, cap, cur, h2, h3, h4⟩⟩
  · exact ⟨h0, .inl h1⟩
  · exact ⟨h0, .inr ⟨g, cap, cur, h2, Nat.le_trans hb h3, h4⟩⟩
theorem ownsRow_in {w : World} {base n size k : Nat} {e : TypeId} {v : Value} {xs : List Value} (h : w.ownsRow base e size v n xs) (hk : v.ownBlock = some k) : base ≤ k ∧ k < w.heap.size := by
  rcases h with ⟨h0, ⟨h1, _⟩ | ⟨g, cap, cur, h2, h3, h4, h5⟩⟩
  · rw [h1] at hk; cases hk
  · rw [h2] at hk
    injection hk with hk
    obtain rfl : g = k := hk
    exact ⟨h3, lt_of_heap h4⟩
theorem own_prefix {w : World} {base a b g cap : Nat} {xs : List (BitVec 8)} (h : w.ownsRow base 5 1 (.slice (some ⟨g, 0, none⟩) a cap) a (bytesV xs)) (hb : b ≤ a) : w.ownsRow base 5 1 (.slice (some ⟨g, 0, none⟩) b cap) b (bytesV (xs.take b)) := by
  have hl : xs.length = a := by have := h.1; rw [bytesV_length] at this; omega
  rcases h.2 with ⟨h1, _⟩ | ⟨g', cap', cur, h1, h2, h3, h4, h5, h6, h7⟩
  · cases h1
  · injection h1 with h1 _ hc
    injection h1 with h1
    injection h1 with h1
    subst h1 hc
    refine ⟨by rw [bytesV_length, List.length_take]; omega, .inr ⟨g, cap, cur, rfl, h2, h3, by omega, h5, h6, ?_⟩⟩
    rw [Nat.mul_one] at h7 ⊢
    rw [show cur.toList.take b = (cur.toList.take a).take b by rw [List.take_take, Nat.min_eq_left hb], h7]
    simp [bytesV, List.map_take]
theorem own_cap {w : World} {base base' a b g c1 c2 : Nat} {xs ys : List Value} (h1 : w.ownsRow base 5 1 (.slice (some ⟨g, 0, none⟩) a c1) a xs) (h2 : w.ownsRow base' 5 1 (.slice (some ⟨g, 0, none⟩) b c2) b ys) : c1 = c2 := by
  rcases h1.2 with ⟨e, _⟩ | ⟨g1, k1, cur1, e1, _, p1, _, _, s1, _⟩
  · cases e
  · rcases h2.2 with ⟨e, _⟩ | ⟨g2, k2, cur2, e2, _, p2, _, _, s2, _⟩
    · cases e
    · injection e1 with e1 _ f1
      injection e1 with e1
      injection e1 with e1
      injection e2 with e2 _ f2
      injection e2 with e2
      injection e2 with e2
      subst e1 e2 f1 f2
      rw [p1] at p2
      injection p2 with p2
      injection p2 with p2
      subst p2
      omega
/-- One byte behind a row of one's own; another row of one's own that begins it stays. -/
theorem run_append_one {w : World} {base n ga : Nat} {v : Value} {bs : List (BitVec 8)} {y : BitVec 8} (hown : w.ownsRow base 5 1 v n (bytesV bs)) (hx : w.heap[ga]? = some (.cells (encB [y]) 5 (0,0))) (hfit : n + 1 ≤ 140737488355328) (hbase : base ≤ w.heap.size) (ty : TypeId) :
    ∃ v' w', (Builtin.append_ #[22, 22] ty #[v, .slice (some ⟨ga, 0, none⟩) 1 1]).run Try.prog w = .ok v' w' ∧ w'.ownsRow base 5 1 v' (n + 1) (bytesV (bs ++ [y])) ∧ Mod (fun k => v.ownBlock = some k) w w' ∧ (∀ k, v'.ownBlock = some k → v.ownBlock = some k ∨ w.heap.size ≤ k) ∧
      ∀ (u : Value) (m : Nat), m ≤ n → w.ownsRow base 5 1 u m (bytesV (bs.take m)) → w'.ownsRow base 5 1 u m (bytesV (bs.take m)) := by
  obtain ⟨i0, hi, hz0, hz1, hz2⟩ := info_parts infoU8
  have hlb : bs.length = n := by have := hown.1; rw [bytesV_length] at this; omega
  obtain ⟨v', w', h1, h2, h3⟩ := run_append_split (P := Try.prog) w base 22 ty 5 i0 (.int .u8 0) 1 1 Try.underlying22 hi hz0 hz1 hz2 rfl v n (bytesV bs) hown ⟨ga, 0, none⟩ 1 1 (bytesV [y]) rfl (cells_byteAt (ByteAt.row hx)) (bytesV_one _) (by omega) (by unfold maxLen; omega) (by omega) hbase
  rw [← bytesV_append] at h2
  refine ⟨v', w', h1, h2, ?_⟩
  rcases h3 with ⟨g, cap, rfl, rfl, hg⟩ | ⟨hv, hg⟩
  · have hm : Mod (fun k => (Value.slice (some ⟨g, 0, none⟩) n cap).ownBlock = some k) w w' := (Mod.refl _ _).grown hg (fun k hk _ => hk)
    refine ⟨hm, fun k hk => .inl hk, fun u m hmn hu => ?_⟩
    by_cases hb : u.ownBlock = some g
    · rcases hu.2 with ⟨rfl, rfl⟩ | ⟨g2, c2, cur, rfl, _⟩
      · cases hb
      · obtain rfl : g2 = g := by injection hb
        obtain rfl := own_cap hown hu
        have h4 := own_prefix h2 (show m ≤ n + 1 by omega)
        rwa [List.take_append_of_le_length (by omega)] at h4
    · exact ownsRow_block hu hm (fun k hk h => by injection h with h; exact hb (by rw [hk, ← h]))
  · have hm : Mod (fun _ => False) w w' := (Mod.refl _ _).grown hg (fun k hk _ => by cases hk)
    exact ⟨hm.mono (fun _ _ h => h.elim), fun k hk => .inr (by rw [hv] at hk; injection hk with hk; omega), fun u m _ hu => ownsRow_keep0 hu hm⟩
theorem byteAt_block {S : Nat → Prop} {w w' : World} {v : Value} {bs : List (BitVec 8)} (h : ByteAt w v bs) (m : Mod S w w') (hS : ∀ k, v.ownBlock = some k → ¬ S k) : ByteAt w' v bs := by
  rcases h with ⟨ad, cap, rfl, rfl⟩ | ⟨g, off, cap, rfl, hc, h2⟩
  · exact .inl ⟨ad, cap, rfl, rfl⟩
  · exact .inr ⟨g, off, cap, rfl, hc, fun j hj => cell_mod m (h2 j hj) (hS g rfl)⟩
end Go.Proofs.Ytbiijcljpgannaa
