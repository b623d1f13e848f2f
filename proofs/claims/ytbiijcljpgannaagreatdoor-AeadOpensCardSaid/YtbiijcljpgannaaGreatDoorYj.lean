/-
  mailcoachlaw06.alive, great. Printed by gen/pa5.py.
-/
import Derived.Lib.SlBytesConst
import Derived.Test.YtbiijcljpgannaaGreatDoorYi
namespace Go.Proofs.YtbiijcljpgannaaGreatDoor
set_option maxRecDepth 100000
open Go Go.RowKit Go.Lib
set_option linter.unusedSimpArgs false
set_option linter.unusedVariables false

theorem ByteAt.rowF {w : World} {g : Nat} {t : TypeId} {fz : Nat × Nat} {bs : List (BitVec 8)} (h : w.heap[g]? = some (.cells (encB bs) t fz)) : ByteAt w (.slice (some ⟨g, 0, none⟩) bs.length bs.length) bs :=
  .inr ⟨g, 0, bs.length, rfl, Nat.le_refl _, fun j hj => by
    unfold World.cell?
    simp only [h]
    rw [Nat.zero_add, encB_get hj]
    rfl⟩
theorem run_conv_op {P : Program} {ev : Operand → Value} {o : Oper} {t u : TypeId} {x : Operand} {v r : Value} {w w' : World} (ho : o.op = .convert t u x) (hx : ev x = v) (h : (convert t u v).run P w = .ok r w') : (execOp ev o).run P w = .ok (.value r) w' := by
  unfold execOp
  simp only [ho]
  simp [hx, h]
def fourA : List (BitVec 8) := [211, 26, 141, 52]
theorem sealX_A : sealX keyA nonceA plainA besideA = ctA ++ tagA := by
  unfold sealX sealS
  rw [if_pos (by decide), xorA, aTagA]
theorem sealE_A : sealE keyA nonceA plainA besideA = 0 := by decide
theorem sealA_take : (ctA ++ tagA).take 4 = fourA := by decide +kernel
theorem sealA_drop : (ctA ++ tagA).drop 114 = tagA := by decide +kernel
theorem keyA_succ : ∀ j, j < 32 → keyA.take (j + 1) = keyA.take j ++ [BitVec.ofNat 8 (128 + j)] := by decide +kernel
theorem sealE_bad : sealE (keyA.take 31) nonceA [] [] = 1 := by decide
theorem openE_short : openE keyA nonceA (List.replicate 15 0) [] = 4 := by decide
def macZ : List (BitVec 8) := [0, 0, 0, 0, 0, 0, 0, 0, 0, 0, 0, 0, 0, 0, 0, 0, 0, 0, 0, 0, 0, 0, 0, 0, 4, 0, 0, 0, 0, 0, 0, 0]
theorem macZ_eq : macB [0, 0, 0, 0] [] = macZ := by decide +kernel
theorem nchZ : nch macZ = 2 := by decide +kernel
theorem accZ0 : accS rA macZ 0 = [0, 0, 0, 0, 0] := rfl
theorem accZ1 : accS rA macZ 1 = [41326486, 40390081, 37265713, 3414885, 50686820] := by unfold accS timesN; rw [accZ0, show plusN [0, 0, 0, 0, 0] (ofN (chunkB macZ 0 ++ [1])) = [0, 0, 0, 0, 16777216] by decide +kernel, show mulTo [0, 0, 0, 0, 16777216] rA 5 = [2710532469555200, 4752659479265280, 3606868740014080, 23835139112960, 329494774677504] by decide +kernel]; decide +kernel
theorem accZ2 : accS rA macZ 2 = [46176658, 30596136, 58504781, 51688025, 22500389] := by unfold accS timesN; rw [accZ1, show plusN [41326486, 40390081, 37265713, 3414885, 50686820] (ofN (chunkB macZ 1 ++ [1])) = [41326491, 40390081, 37282097, 3414885, 355172] by decide +kernel, show mulTo [41326491, 40390081, 37282097, 3414885, 355172] rA 5 = [9908895914273024, 3016314344298109, 4459892644438449, 5337502074184302, 3977979996256418] by decide +kernel]; decide +kernel
theorem aTagZ : aTag keyA nonceA [0, 0, 0, 0] [] = [156, 122, 151, 22, 129, 192, 176, 80, 246, 10, 12, 165, 3, 251, 167, 86] := by
  unfold aTag
  rw [blkA0_eq, macZ_eq]
  unfold tagS polyS
  rw [rA_eq, nchZ, accZ2]
  decide +kernel
theorem openE_tag : openE keyA nonceA (List.replicate 20 0) [] = 11 := by
  have h1 : ((List.replicate 20 0 : List (BitVec 8)).take ((List.replicate 20 0 : List (BitVec 8)).length - 16)) = [0, 0, 0, 0] := by decide
  unfold openE
  rw [if_pos (by decide), if_neg (by decide), if_pos (by decide), h1, aTagZ, if_neg (by decide)]
end Go.Proofs.YtbiijcljpgannaaGreatDoor
