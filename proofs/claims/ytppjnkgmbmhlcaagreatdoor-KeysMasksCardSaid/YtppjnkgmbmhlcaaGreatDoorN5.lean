/-
  The values that the chapter fixes. Printed by gen/kn5.py.
-/
import Derived.Test.YtppjnkgmbmhlcaaGreatDoorK9
import Derived.Test.YtppjnkgmbmhlcaaGreatDoorN4
namespace Go.Proofs.YtppjnkgmbmhlcaaGreatDoor
set_option maxRecDepth 100000
open Go Go.RowKit Go.Lib
set_option linter.unusedSimpArgs false
set_option linter.unusedVariables false

def knownT : ByteArray := { data := #[57, 97, 99, 51, 49, 50, 97, 55, 102, 56, 55, 55, 52, 54, 56, 101, 98, 101, 54, 57, 52, 50, 50, 55, 52, 56, 97, 100, 48, 48, 97, 49, 53, 52, 52, 51, 102, 49, 56, 50, 48, 51, 97, 48, 55, 100, 54, 48, 54, 48, 102, 54, 56, 56, 102, 51, 48, 102, 50, 49, 54, 51, 50, 98] }
def knownL : List (BitVec 8) := [0x9a, 0xc3, 0x12, 0xa7, 0xf8, 0x77, 0x46, 0x8e, 0xbe, 0x69, 0x42, 0x27, 0x48, 0xad, 0x00, 0xa1, 0x54, 0x43, 0xf1, 0x82, 0x03, 0xa0, 0x7d, 0x60, 0x60, 0xf6, 0x88, 0xf3, 0x0f, 0x21, 0x63, 0x2b]
theorem known_hex : hexTo (strB knownT) 32 = knownL := by decide +kernel
theorem known_size : knownT.size = 2 * 32 := rfl
def keyT : ByteArray := { data := #[99, 54, 100, 57, 56, 102, 102, 51, 52, 52, 49, 99, 51, 102, 101, 49, 98, 50, 49, 56, 50, 48, 57, 52, 102, 54, 57, 99, 97, 97, 50, 101, 100, 52, 98, 55, 49, 54, 98, 54, 53, 52, 56, 56, 57, 54, 48, 97, 55, 97, 57, 56, 52, 57, 55, 57, 102, 98, 50, 51, 101, 49, 99, 56] }
def keyL : List (BitVec 8) := [0xc6, 0xd9, 0x8f, 0xf3, 0x44, 0x1c, 0x3f, 0xe1, 0xb2, 0x18, 0x20, 0x94, 0xf6, 0x9c, 0xaa, 0x2e, 0xd4, 0xb7, 0x16, 0xb6, 0x54, 0x88, 0x96, 0x0a, 0x7a, 0x98, 0x49, 0x79, 0xfb, 0x23, 0xe1, 0xc8]
theorem key_hex : hexTo (strB keyT) 32 = keyL := by decide +kernel
theorem key_size : keyT.size = 2 * 32 := rfl
def ivT : ByteArray := { data := #[101, 48, 52, 53, 57, 98, 51, 52, 55, 52, 98, 100, 100, 48, 101, 52, 52, 97, 52, 49, 99, 49, 52, 52] }
def ivL : List (BitVec 8) := [0xe0, 0x45, 0x9b, 0x34, 0x74, 0xbd, 0xd0, 0xe4, 0x4a, 0x41, 0xc1, 0x44]
theorem iv_hex : hexTo (strB ivT) 12 = ivL := by decide +kernel
theorem iv_size : ivT.size = 2 * 12 := rfl
def nonT : ByteArray := { data := #[101, 48, 52, 53, 57, 98, 51, 52, 55, 52, 98, 100, 100, 48, 101, 52, 54, 100, 52, 49, 55, 101, 98, 48] }
def nonL : List (BitVec 8) := [0xe0, 0x45, 0x9b, 0x34, 0x74, 0xbd, 0xd0, 0xe4, 0x6d, 0x41, 0x7e, 0xb0]
theorem non_hex : hexTo (strB nonT) 12 = nonL := by decide +kernel
theorem non_size : nonT.size = 2 * 12 := rfl
def smpT : ByteArray := { data := #[53, 101, 53, 99, 100, 53, 53, 99, 52, 49, 102, 54, 57, 48, 56, 48, 53, 55, 53, 100, 55, 57, 57, 57, 99, 50, 53, 97, 53, 98, 102, 98] }
def smpL : List (BitVec 8) := [0x5e, 0x5c, 0xd5, 0x5c, 0x41, 0xf6, 0x90, 0x80, 0x57, 0x5d, 0x79, 0x99, 0xc2, 0x5a, 0x5b, 0xfb]
theorem smp_hex : hexTo (strB smpT) 16 = smpL := by decide +kernel
theorem smp_size : smpT.size = 2 * 16 := rfl
def mskT : ByteArray := { data := #[97, 101, 102, 101, 102, 101, 55, 100, 48, 51] }
def mskL : List (BitVec 8) := [0xae, 0xfe, 0xfe, 0x7d, 0x03]
theorem msk_hex : hexTo (strB mskT) 5 = mskL := by decide +kernel
theorem msk_size : mskT.size = 2 * 5 := rfl
def hpL : List (BitVec 8) := [0x25, 0xa2, 0x82, 0xb9, 0xe8, 0x2f, 0x06, 0xf2, 0x1f, 0x48, 0x89, 0x17, 0xa4, 0xfc, 0x8f, 0x1b, 0x73, 0x57, 0x36, 0x85, 0x60, 0x85, 0x97, 0xd0, 0xef, 0xcb, 0x07, 0x6b, 0x0a, 0xb7, 0xa7, 0xa4]
theorem label_key : keyB knownL 0 = keyL :=
  label_lit _ _ _ _ [0x00, 0x20, 0x0e, 0x74, 0x6c, 0x73, 0x31, 0x33, 0x20, 0x71, 0x75, 0x69, 0x63, 0x20, 0x6b, 0x65, 0x79, 0x00] (by unfold labelI; rw [strB_append]; rfl) rfl (by decide +kernel)
theorem label_iv : keyB knownL 1 = ivL :=
  label_lit _ _ _ _ [0x00, 0x0c, 0x0d, 0x74, 0x6c, 0x73, 0x31, 0x33, 0x20, 0x71, 0x75, 0x69, 0x63, 0x20, 0x69, 0x76, 0x00] (by unfold labelI; rw [strB_append]; rfl) rfl (by decide +kernel)
theorem label_hp : keyB knownL 2 = hpL :=
  label_lit _ _ _ _ [0x00, 0x20, 0x0d, 0x74, 0x6c, 0x73, 0x31, 0x33, 0x20, 0x71, 0x75, 0x69, 0x63, 0x20, 0x68, 0x70, 0x00] (by unfold labelI; rw [strB_append]; rfl) rfl (by decide +kernel)
theorem nonce_known : nonceTo ivL 654360564 8 = nonL := by decide +kernel
theorem mask_known : maskS hpL smpL = mskL := by decide +kernel
end Go.Proofs.YtppjnkgmbmhlcaaGreatDoor
