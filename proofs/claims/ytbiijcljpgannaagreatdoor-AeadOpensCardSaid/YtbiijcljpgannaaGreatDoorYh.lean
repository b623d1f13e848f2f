/-
  The known answer of aead in the kernel, step by step. Printed by gen/ya.py.
-/
import Derived.Test.YtbiijcljpgannaaGreatDoorYg
import Derived.Test.YtbiijcljpgannaaGreatDoorDx
namespace Go.Proofs.YtbiijcljpgannaaGreatDoor
set_option maxRecDepth 100000
open Go Go.RowKit Go.Lib
set_option linter.unusedSimpArgs false
set_option linter.unusedVariables false

def keyA : List (BitVec 8) := [128, 129, 130, 131, 132, 133, 134, 135, 136, 137, 138, 139, 140, 141, 142, 143, 144, 145, 146, 147, 148, 149, 150, 151, 152, 153, 154, 155, 156, 157, 158, 159]
def nonceA : List (BitVec 8) := [7, 0, 0, 0, 64, 65, 66, 67, 68, 69, 70, 71]
def besideA : List (BitVec 8) := [80, 81, 82, 83, 192, 193, 194, 195, 196, 197, 198, 199]
def plainA : List (BitVec 8) := [76, 97, 100, 105, 101, 115, 32, 97, 110, 100, 32, 71, 101, 110, 116, 108, 101, 109, 101, 110, 32, 111, 102, 32, 116, 104, 101, 32, 99, 108, 97, 115, 115, 32, 111, 102, 32, 39, 57, 57, 58, 32, 73, 102, 32, 73, 32, 99, 111, 117, 108, 100, 32, 111, 102, 102, 101, 114, 32, 121, 111, 117, 32, 111, 110, 108, 121, 32, 111, 110, 101, 32, 116, 105, 112, 32, 102, 111, 114, 32, 116, 104, 101, 32, 102, 117, 116, 117, 114, 101, 44, 32, 115, 117, 110, 115, 99, 114, 101, 101, 110, 32, 119, 111, 117, 108, 100, 32, 98, 101, 32, 105, 116, 46]
def ctA : List (BitVec 8) := [211, 26, 141, 52, 100, 142, 96, 219, 123, 134, 175, 188, 83, 239, 126, 194, 164, 173, 237, 81, 41, 110, 8, 254, 169, 226, 181, 167, 54, 238, 98, 214, 61, 190, 164, 94, 140, 169, 103, 18, 130, 250, 251, 105, 218, 146, 114, 139, 26, 113, 222, 10, 158, 6, 11, 41, 5, 214, 165, 182, 126, 205, 59, 54, 146, 221, 189, 127, 45, 119, 139, 140, 152, 3, 174, 227, 40, 9, 27, 88, 250, 179, 36, 228, 250, 214, 117, 148, 85, 133, 128, 139, 72, 49, 215, 188, 63, 244, 222, 240, 142, 75, 122, 157, 229, 118, 210, 101, 134, 206, 198, 75, 97, 22]
def onceA : List (BitVec 8) := [123, 172, 43, 37, 45, 180, 71, 175, 9, 182, 122, 85, 164, 233, 85, 132, 10, 225, 214, 115, 16, 117, 217, 235, 42, 147, 117, 120, 62, 213, 83, 255]
def tagA : List (BitVec 8) := [26, 225, 11, 89, 79, 9, 226, 106, 126, 144, 46, 203, 208, 96, 6, 145]
def macA : List (BitVec 8) := [80, 81, 82, 83, 192, 193, 194, 195, 196, 197, 198, 199, 0, 0, 0, 0, 211, 26, 141, 52, 100, 142, 96, 219, 123, 134, 175, 188, 83, 239, 126, 194, 164, 173, 237, 81, 41, 110, 8, 254, 169, 226, 181, 167, 54, 238, 98, 214, 61, 190, 164, 94, 140, 169, 103, 18, 130, 250, 251, 105, 218, 146, 114, 139, 26, 113, 222, 10, 158, 6, 11, 41, 5, 214, 165, 182, 126, 205, 59, 54, 146, 221, 189, 127, 45, 119, 139, 140, 152, 3, 174, 227, 40, 9, 27, 88, 250, 179, 36, 228, 250, 214, 117, 148, 85, 133, 128, 139, 72, 49, 215, 188, 63, 244, 222, 240, 142, 75, 122, 157, 229, 118, 210, 101, 134, 206, 198, 75, 97, 22, 0, 0, 0, 0, 0, 0, 0, 0, 0, 0, 0, 0, 0, 0, 12, 0, 0, 0, 0, 0, 0, 0, 114, 0, 0, 0, 0, 0, 0, 0]
def rA : List Nat := [19639419, 32312065, 56656116, 42997226, 284137]
def blkA1 : List (BitVec 8) := [159, 123, 233, 93, 1, 253, 64, 186, 21, 226, 143, 251, 54, 129, 10, 174, 193, 192, 136, 63, 9, 1, 110, 222, 221, 138, 208, 135, 85, 130, 3, 165, 78, 158, 203, 56, 172, 142, 94, 43, 184, 218, 178, 15, 250, 219, 82, 232, 117, 4, 178, 110, 190, 105, 109, 79, 96, 164, 133, 207, 17, 184, 27, 89]
def blkA2 : List (BitVec 8) := [252, 177, 196, 95, 66, 25, 238, 172, 236, 106, 222, 195, 78, 102, 105, 120, 142, 219, 65, 196, 156, 163, 1, 225, 39, 224, 172, 171, 59, 68, 185, 207, 92, 134, 187, 149, 224, 107, 13, 242, 144, 26, 182, 69, 228, 171, 230, 34, 21, 56, 12, 3, 206, 53, 108, 215, 166, 118, 99, 251, 221, 239, 255, 100]
theorem blkA0_eq : (Cc.blockS keyA nonceA 0).take 32 = onceA := by decide +kernel
theorem blkA1_eq : Cc.blockS keyA nonceA 1 = blkA1 := by decide +kernel
theorem blkA2_eq : Cc.blockS keyA nonceA 2 = blkA2 := by decide +kernel
theorem ctA_low : ∀ i, i < 64 → plainA.getD i 0 ^^^ blkA1.getD (i % 64) 0 = ctA.getD i 0 := by decide +kernel
theorem ctA_high : ∀ i, i < 114 → 64 ≤ i → plainA.getD i 0 ^^^ blkA2.getD (i % 64) 0 = ctA.getD i 0 := by decide +kernel
theorem xorA : Cc.xorS keyA nonceA 1 plainA = ctA := by
  have hl : (Cc.xorS keyA nonceA 1 plainA).length = 114 := by simp [Cc.xorS, plainA]
  apply List.ext_getElem
  · rw [hl]; rfl
  · intro i h1 h2
    have hi : i < 114 := by omega
    simp only [Cc.xorS, List.getElem_map, List.getElem_range]
    have h3 : ctA[i] = ctA.getD i 0 := by rw [List.getD_eq_getElem?_getD, List.getElem?_eq_getElem h2]; rfl
    refine Eq.trans ?_ h3.symm
    unfold Cc.streamAt
    by_cases h : i < 64
    · rw [show i / 64 = 0 by omega, show (1 : BitVec 32) + BitVec.ofNat 32 0 = 1 from rfl, blkA1_eq]
      exact ctA_low i h
    · rw [show i / 64 = 1 by omega, show (1 : BitVec 32) + BitVec.ofNat 32 1 = 2 from rfl, blkA2_eq]
      exact ctA_high i hi (by omega)
theorem macA_eq : macB ctA besideA = macA := by decide +kernel
theorem rA_eq : ofN (clampS onceA) = rA := by decide +kernel
theorem nchA_eq : nch macA = 10 := by decide +kernel
theorem accA0 : accS rA macA 0 = [0, 0, 0, 0, 0] := rfl
theorem stepA0a : plusN [0, 0, 0, 0, 0] (ofN (chunkB macA 0 ++ [1])) = [55726416, 11563028, 6048828, 204571, 16777216] := by decide +kernel
theorem stepA0b : mulTo [55726416, 11563028, 6048828, 204571, 16777216] rA 5 = [5179759437468504, 6832959613882462, 7256822440009223, 3274500476808293, 1191820051781987] := by decide +kernel
theorem stepA0c : carN [5179759437468504, 6832959613882462, 7256822440009223, 3274500476808293, 1191820051781987] = [43369635, 52858381, 30261408, 3059471, 29041256] := by decide +kernel
theorem accA1 : accS rA macA 1 = [43369635, 52858381, 30261408, 3059471, 29041256] := by unfold accS timesN; rw [accA0, stepA0a, stepA0b, stepA0c]
theorem stepA1a : plusN [43369635, 52858381, 30261408, 3059471, 29041256] (ofN (chunkB macA 1 ++ [1])) = [52617078, 55191322, 37060182, 25010637, 58564951] := by decide +kernel
theorem stepA1b : mulTo [52617078, 55191322, 37060182, 25010637, 58564951] rA 5 = [25626003702667447, 24803996131449048, 18118449707119211, 7161202072258148, 6446037114176444] := by decide +kernel
theorem stepA1c : carN [25626003702667447, 24803996131449048, 18118449707119211, 7161202072258148, 6446037114176444] = [5645426, 19891867, 11811081, 29765373, 46303378] := by decide +kernel
theorem accA2 : accS rA macA 2 = [5645426, 19891867, 11811081, 29765373, 46303378] := by unfold accS timesN; rw [accA1, stepA1a, stepA1b, stepA1c]
theorem stepA2a : plusN [5645426, 19891867, 11811081, 29765373, 46303378] (ofN (chunkB macA 2 ++ [1])) = [37999131, 55251183, 48158953, 44092884, 10021760] := by decide +kernel
theorem stepA2b : mulTo [37999131, 55251183, 48158953, 44092884, 10021760] rA 5 = [25288058868651854, 14699678703260717, 7101158343920738, 7200486264163775, 6736497466512753] := by decide +kernel
theorem stepA2c : carN [25288058868651854, 14699678703260717, 7101158343920738, 7200486264163775, 6736497466512753] = [64444962, 31550197, 27500113, 4909971, 15386857] := by decide +kernel
theorem accA3 : accS rA macA 3 = [64444962, 31550197, 27500113, 4909971, 15386857] := by unfold accS timesN; rw [accA2, stepA2a, stepA2b, stepA2c]
theorem stepA3a : plusN [64444962, 31550197, 27500113, 4909971, 15386857] (ofN (chunkB macA 3 ++ [1])) = [41687135, 63688205, 21741431, 62165891, 41302907] := by decide +kernel
theorem stepA3b : mulTo [41687135, 63688205, 21741431, 62165891, 41302907] rA 5 = [29866598837108575, 27693800258774795, 13814587931564819, 7382848428152929, 6801919445404769] := by decide +kernel
theorem stepA3c : carN [29866598837108575, 27693800258774795, 13814587931564819, 7382848428152929, 6801919445404769] = [9085566, 24020974, 49934959, 37923648, 48510650] := by decide +kernel
theorem accA4 : accS rA macA 4 = [9085566, 24020974, 49934959, 37923648, 48510650] := by unfold accS timesN; rw [accA3, stepA3a, stepA3b, stepA3c]
theorem stepA4a : plusN [9085566, 24020974, 49934959, 37923648, 48510650] (ofN (chunkB macA 4 ++ [1])) = [57217949, 3157872, 5915904, 4031960, 1733256] := by decide +kernel
theorem stepA4b : mulTo [57217949, 3157872, 5915904, 4031960, 1733256] rA 5 = [3822252292530471, 3277066736368573, 3838323183403420, 2911928683967986, 651530710122613] := by decide +kernel
theorem stepA4c : carN [3822252292530471, 3277066736368573, 3838323183403420, 2911928683967986, 651530710122613] = [17307019, 35590171, 13262848, 37384643, 52402436] := by decide +kernel
theorem accA5 : accS rA macA 5 = [17307019, 35590171, 13262848, 37384643, 52402436] := by unfold accS timesN; rw [accA4, stepA4a, stepA4b, stepA4c]
theorem stepA5a : plusN [17307019, 35590171, 13262848, 37384643, 52402436] (ofN (chunkB macA 5 ++ [1])) = [12972834, 16571259, 17033417, 48103547, 7844877] := by decide +kernel
theorem stepA5b : mulTo [12972834, 16571259, 17033417, 48103547, 7844877] rA 5 = [18834491435064356, 13332724789723146, 3359848133583007, 3002914738804571, 3389645243691182] := by decide +kernel
theorem stepA5c : carN [18834491435064356, 13332724789723146, 3359848133583007, 3002914738804571, 3389645243691182] = [43036862, 28653502, 39314268, 21497924, 55900499] := by decide +kernel
theorem accA6 : accS rA macA 6 = [43036862, 28653502, 39314268, 21497924, 55900499] := by unfold accS timesN; rw [accA5, stepA5a, stepA5b, stepA5c]
theorem stepA6a : plusN [43036862, 28653502, 39314268, 21497924, 55900499] (ofN (chunkB macA 6 ++ [1])) = [45442237, 53147255, 44907683, 40515142, 17944708] := by decide +kernel
theorem stepA6b : mulTo [45442237, 53147255, 44907683, 40515142, 17944708] rA 5 = [24998799397199228, 16369494272108205, 9089261593071554, 7237254777759015, 6503942793781209] := by decide +kernel
theorem stepA6c : carN [24998799397199228, 16369494272108205, 9089261593071554, 7237254777759015, 6503942793781209] = [46382589, 24246359, 51416512, 4197842, 38432647] := by decide +kernel
theorem accA7 : accS rA macA 7 = [46382589, 24246359, 51416512, 4197842, 38432647] := by unfold accS timesN; rw [accA6, stepA6a, stepA6b, stepA6c]
theorem stepA7a : plusN [46382589, 24246359, 51416512, 4197842, 38432647] (ofN (chunkB macA 7 ++ [1])) = [60994108, 318483, 41871256, 39429404, 60175957] := by decide +kernel
theorem stepA7b : mulTo [60994108, 318483, 41871256, 39429404, 60175957] rA 5 = [31091712197523732, 27560041243906337, 17281320119500337, 4853429867186897, 4859153603602893] := by decide +kernel
theorem stepA7c : carN [31091712197523732, 27560041243906337, 17281320119500337, 4853429867186897, 4859153603602893] = [43135212, 66322685, 57895872, 42359823, 12792989] := by decide +kernel
theorem accA8 : accS rA macA 8 = [43135212, 66322685, 57895872, 42359823, 12792989] := by unfold accS timesN; rw [accA7, stepA7a, stepA7b, stepA7c]
theorem stepA8a : plusN [43135212, 66322685, 57895872, 42359823, 12792989] (ofN (chunkB macA 8 ++ [1])) = [43140941, 66322685, 57895872, 42359823, 29570205] := by decide +kernel
theorem stepA8b : mulTo [43140941, 66322685, 57895872, 42359823, 29570205] rA 5 = [30165383282601829, 20262202923959390, 12141626256313454, 8357193963470068, 8093579653453269] := by decide +kernel
theorem stepA8c : carN [30165383282601829, 20262202923959390, 12141626256313454, 8357193963470068, 8093579653453269] = [50595101, 40965325, 33547236, 4959394, 60869262] := by decide +kernel
theorem accA9 : accS rA macA 9 = [50595101, 40965325, 33547236, 4959394, 60869262] := by unfold accS timesN; rw [accA8, stepA8a, stepA8b, stepA8c]
theorem stepA9a : plusN [50595101, 40965325, 33547236, 4959394, 60869262] (ofN (chunkB macA 9 ++ [1])) = [50595118, 40965325, 34014180, 4959394, 10537614] := by decide +kernel
theorem stepA9b : mulTo [50595118, 40965325, 34014180, 4959394, 10537614] rA 5 = [11471794819160537, 6538993687899485, 7130702441507943, 5707824570299744, 4070083487851372] := by decide +kernel
theorem stepA9c : carN [11471794819160537, 6538993687899485, 7130702441507943, 5707824570299744, 4070083487851372] = [20250640, 35983289, 64305136, 38357731, 26325643] := by decide +kernel
theorem accA10 : accS rA macA 10 = [20250640, 35983289, 64305136, 38357731, 26325643] := by unfold accS timesN; rw [accA9, stepA9a, stepA9b, stepA9c]
theorem polyA : polyS onceA macA = [16, 0, 53, 229, 62, 148, 8, 127, 83, 253, 184, 82, 146, 139, 178, 145] := by
  unfold polyS
  rw [rA_eq, nchA_eq, accA10]
  decide +kernel
theorem tagA_eq : tagS onceA macA = tagA := by
  unfold tagS
  rw [polyA]
  decide +kernel
theorem aTagA : aTag keyA nonceA ctA besideA = tagA := by
  unfold aTag
  rw [blkA0_eq, macA_eq, tagA_eq]
end Go.Proofs.YtbiijcljpgannaaGreatDoor
