/-
  SHA-256's values in the kernel: the same functions, every word forced.
-/
import Derived.Test.YtppjnkgmbmhlcaaGreatDoorK7
namespace Go.Proofs.YtppjnkgmbmhlcaaGreatDoor
set_option maxRecDepth 100000
open Go Go.RowKit Go.Lib
set_option linter.unusedSimpArgs false
set_option linter.unusedVariables false

def forceN {α : Type} (x : Nat) (k : Nat → α) : α := Nat.rec (k 0) (fun n _ => k (n + 1)) x
theorem forceN_eq {α : Type} (x : Nat) (k : Nat → α) : forceN x k = k x := by cases x <;> rfl
def forceV {n : Nat} {α : Type} (x : BitVec n) (k : BitVec n → α) : α := forceN x.toNat fun m => k (BitVec.ofNat n m)
theorem forceV_eq {n : Nat} {α : Type} (x : BitVec n) (k : BitVec n → α) : forceV x k = k x := by
  unfold forceV
  rw [forceN_eq, BitVec.ofNat_toNat, BitVec.setWidth_eq]
def normL {n : Nat} {α : Type} : List (BitVec n) → (List (BitVec n) → α) → α
  | [], k => k []
  | x :: l, k => forceV x fun x' => normL l fun l' => k (x' :: l')
theorem normL_eq {n : Nat} {α : Type} (l : List (BitVec n)) : ∀ (k : List (BitVec n) → α), normL l k = k l := by
  induction l with
  | nil => intro k; rfl
  | cons x l ih => intro k; unfold normL; rw [forceV_eq, ih]
def itL {n : Nat} (f : Nat → List (BitVec n) → List (BitVec n)) (s : List (BitVec n)) : Nat → List (BitVec n)
  | 0 => s
  | t + 1 => f t (itL f s t)
def fwdL {n : Nat} {α : Type} (f : Nat → List (BitVec n) → List (BitVec n)) : Nat → Nat → List (BitVec n) → (List (BitVec n) → α) → α
  | 0, _, l, k => k l
  | m + 1, t, l, k => normL (f t l) fun l' => fwdL f m (t + 1) l' k
theorem fwdL_eq {n : Nat} {α : Type} (f : Nat → List (BitVec n) → List (BitVec n)) (s : List (BitVec n)) (k : List (BitVec n) → α) : ∀ m t, fwdL f m t (itL f s t) k = k (itL f s (t + m)) := by
  intro m
  induction m with
  | zero => intro t; rfl
  | succ m ih =>
    intro t
    unfold fwdL
    rw [normL_eq]
    have := ih (t + 1)
    rw [show t + 1 + m = t + (m + 1) by omega] at this
    exact this
theorem fwdL_all {n : Nat} {α : Type} (f : Nat → List (BitVec n) → List (BitVec n)) (s : List (BitVec n)) (k : List (BitVec n) → α) (m : Nat) : fwdL f m 0 s k = k (itL f s m) := by
  have := fwdL_eq f s k m 0
  rw [Nat.zero_add] at this
  exact this
def fillN (b : List (BitVec 8)) (i : Nat) (l : List (BitVec 32)) : List (BitVec 32) := l.set (i / 4) (l.getD (i / 4) 0 <<< 8 ||| (b.getD i 0).setWidth 32)
def schedN (t : Nat) (l : List (BitVec 32)) : List (BitVec 32) := l.set (t + 16) (nextW l (t + 16))
def addN (x : List (BitVec 32)) (i : Nat) (l : List (BitVec 32)) : List (BitVec 32) := l.set i (l.getD i 0 + x.getD i 0)
theorem fillS_it (b : List (BitVec 8)) (i : Nat) : fillS b i = itL (fillN b) (zw 64) i := by
  induction i with
  | zero => rfl
  | succ i ih => unfold fillS itL; rw [ih]; rfl
theorem schedS_it (b : List (BitVec 8)) (i : Nat) : schedS b i = itL schedN (fillS b 64) i := by
  induction i with
  | zero => rfl
  | succ i ih => unfold schedS itL; rw [ih]; rfl
theorem addTo_it (s x : List (BitVec 32)) (i : Nat) : addTo s x i = itL (addN x) s i := by
  induction i with
  | zero => rfl
  | succ i ih => unfold addTo itL; rw [ih]; rfl
def stepF {α : Type} (k w : BitVec 32) (s : St) (c : St → α) : α :=
  forceV (oneS k w s) fun one => forceV (one + twoS s) fun a' => forceV (s.d + one) fun e' => c ⟨a', s.a, s.b, s.c, e', s.e, s.f, s.g⟩
theorem stepF_eq {α : Type} (k w : BitVec 32) (s : St) (c : St → α) : stepF k w s c = c (stepS k w s) := by
  unfold stepF
  rw [forceV_eq, forceV_eq, forceV_eq]
  rfl
def runF {α : Type} (K W : List (BitVec 32)) : Nat → Nat → St → (St → α) → α
  | 0, _, s, c => c s
  | n + 1, t, s, c => stepF (K.getD t 0) (W.getD t 0) s fun s' => runF K W n (t + 1) s' c
theorem runF_eq {α : Type} (K W : List (BitVec 32)) (s : St) (c : St → α) : ∀ m t, runF K W m t (runS K W s t) c = c (runS K W s (t + m)) := by
  intro m
  induction m with
  | zero => intro t; rfl
  | succ m ih =>
    intro t
    unfold runF
    rw [stepF_eq]
    have := ih (t + 1)
    rw [show t + 1 + m = t + (m + 1) by omega] at this
    exact this
def furtherF {α : Type} (K s : List (BitVec 32)) (b : List (BitVec 8)) (c : List (BitVec 32) → α) : α :=
  fwdL (fillN b) 64 0 (zw 64) fun l => fwdL schedN 48 0 l fun W => runF K W 64 0 (ofL s) fun st => fwdL (addN (toL st)) 8 0 s c
theorem furtherF_eq {α : Type} (K s : List (BitVec 32)) (b : List (BitVec 8)) (c : List (BitVec 32) → α) : furtherF K s b c = c (furtherS K s b) := by
  unfold furtherF furtherS
  rw [fwdL_all, ← fillS_it, fwdL_all, ← schedS_it, addTo_it]
  have := runF_eq K (schedS b 48) (ofL s) (fun st => fwdL (addN (toL st)) 8 0 s c) 64 0
  rw [Nat.zero_add] at this
  refine Eq.trans this ?_
  rw [fwdL_all]
def stateF {α : Type} (K : List (BitVec 32)) (b : List (BitVec 8)) : Nat → Nat → List (BitVec 32) → (List (BitVec 32) → α) → α
  | 0, _, s, c => c s
  | m + 1, i, s, c => normL (blk b i) fun bb => furtherF K s bb fun s' => stateF K b m (i + 1) s' c
theorem stateF_eq {α : Type} (K s : List (BitVec 32)) (b : List (BitVec 8)) (c : List (BitVec 32) → α) : ∀ m t, stateF K b m t (stateS K s b t) c = c (stateS K s b (t + m)) := by
  intro m
  induction m with
  | zero => intro t; rfl
  | succ m ih =>
    intro t
    unfold stateF
    rw [normL_eq, furtherF_eq]
    have := ih (t + 1)
    rw [show t + 1 + m = t + (m + 1) by omega] at this
    exact this
def shaF {α : Type} (K s : List (BitVec 32)) (b : List (BitVec 8)) (c : List (BitVec 8) → α) : α := stateF K b (nbS b) 0 s fun s' => normL (outB s') c
theorem shaF_eq {α : Type} (b : List (BitVec 8)) (c : List (BitVec 8) → α) : shaF wordsL beginL b c = c (shaS b) := by
  unfold shaF shaS
  have := stateF_eq wordsL beginL b (fun s' => normL (outB s') c) (nbS b) 0
  rw [Nat.zero_add] at this
  refine Eq.trans this ?_
  rw [normL_eq]
def belowF (g : Nat → Bool) : Nat → Nat
  | 0 => 0
  | i + 1 => forceN (belowF g i) fun v => forceN (v ||| 68719476736 / 2 ^ i) fun x => if g x then v else x
theorem belowF_eq (g : Nat → Bool) (i : Nat) : belowF g i = belowTo g i := by
  induction i with
  | zero => rfl
  | succ i ih => unfold belowF belowTo; rw [ih, forceN_eq, forceN_eq]
def primesL : List Nat := [2, 3, 5, 7, 11, 13, 17, 19, 23, 29, 31, 37, 41, 43, 47, 53, 59, 61, 67, 71, 73, 79, 83, 89, 97, 101, 103, 107, 109, 113, 127, 131, 137, 139, 149, 151, 157, 163, 167, 173, 179, 181, 191, 193, 197, 199, 211, 223, 227, 229, 233, 239, 241, 251, 257, 263, 269, 271, 277, 281, 283, 293, 307, 311]
theorem primes_list : primesTo 312 = primesL := by decide +kernel
def K0 : List (BitVec 32) := [0x428a2f98, 0x71374491, 0xb5c0fbcf, 0xe9b5dba5, 0x3956c25b, 0x59f111f1, 0x923f82a4, 0xab1c5ed5,
  0xd807aa98, 0x12835b01, 0x243185be, 0x550c7dc3, 0x72be5d74, 0x80deb1fe, 0x9bdc06a7, 0xc19bf174,
  0xe49b69c1, 0xefbe4786, 0x0fc19dc6, 0x240ca1cc, 0x2de92c6f, 0x4a7484aa, 0x5cb0a9dc, 0x76f988da,
  0x983e5152, 0xa831c66d, 0xb00327c8, 0xbf597fc7, 0xc6e00bf3, 0xd5a79147, 0x06ca6351, 0x14292967,
  0x27b70a85, 0x2e1b2138, 0x4d2c6dfc, 0x53380d13, 0x650a7354, 0x766a0abb, 0x81c2c92e, 0x92722c85,
  0xa2bfe8a1, 0xa81a664b, 0xc24b8b70, 0xc76c51a3, 0xd192e819, 0xd6990624, 0xf40e3585, 0x106aa070,
  0x19a4c116, 0x1e376c08, 0x2748774c, 0x34b0bcb5, 0x391c0cb3, 0x4ed8aa4a, 0x5b9cca4f, 0x682e6ff3,
  0x748f82ee, 0x78a5636f, 0x84c87814, 0x8cc70208, 0x90befffa, 0xa4506ceb, 0xbef9a3f7, 0xc67178f2]
def H0 : List (BitVec 32) := [0x6a09e667, 0xbb67ae85, 0x3c6ef372, 0xa54ff53a, 0x510e527f, 0x9b05688c, 0x1f83d9ab, 0x5be0cd19]
theorem begin_list : beginL = H0 := by
  have h : ((List.range 8).map fun j => BitVec.ofNat 32 (belowF (sqG (primesL.getD j 0)) 37)) = H0 := by decide +kernel
  rw [← h]
  unfold beginL
  rw [primes_list]
  simp only [belowF_eq]
theorem words_list : wordsL = K0 := by
  have h : ((List.range 64).map fun j => BitVec.ofNat 32 (belowF (cbG (primesL.getD j 0)) 37)) = K0 := by decide +kernel
  rw [← h]
  unfold wordsL
  rw [primes_list]
  simp only [belowF_eq]
theorem shaS_of {b r : List (BitVec 8)} (h : shaF K0 H0 b (fun l => decide (l = r)) = true) : shaS b = r := by
  rw [← words_list, ← begin_list, shaF_eq] at h
  exact of_decide_eq_true h
theorem sha_abc : shaS [0x61, 0x62, 0x63] = [0xba, 0x78, 0x16, 0xbf, 0x8f, 0x01, 0xcf, 0xea, 0x41, 0x41, 0x40, 0xde, 0x5d, 0xae, 0x22, 0x23, 0xb0, 0x03, 0x61, 0xa3, 0x96, 0x17, 0x7a, 0x9c, 0xb4, 0x10, 0xff, 0x61, 0xf2, 0x00, 0x15, 0xad] := shaS_of (by decide +kernel)
end Go.Proofs.YtppjnkgmbmhlcaaGreatDoor
