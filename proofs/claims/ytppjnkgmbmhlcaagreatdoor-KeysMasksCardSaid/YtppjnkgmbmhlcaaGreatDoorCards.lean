/-
  DERIVED. GIVEN WITH THE SEED: THE CARDS: each row of YtppjnkgmbmhlcaaGreatDoorRows.lean that lists a variable, with what it lists TIED to the program's text (the seventh form; the later family's looks); each row that meets fmt, with fmt's text TOLD by the authors' own Lean function (tested against real Go, not proved from fmt's source: count such statements apart). THE CARD IS WHAT COUNTS. Prove the row's statement (the work); the ties are given (YtppjnkgmbmhlcaaGreatDoorTie.lean); close each card by the builder's one call (the guide's Derived/Test/ToyasCard.lean, 'card_holds'). Laid BY PROGRAM, IN A SANDBOX (cutbox-door.mjs). By AI agents, Wed Nov 11 2026. No macro, syntax, notation, axiom, sorry.
-/
import Derived.Test.YtppjnkgmbmhlcaaGreatDoorRows
import GoSem.ClaimSeven
namespace Go.Proofs.YtppjnkgmbmhlcaaGreatDoor
namespace Rows

/-- THE TIED CARD OF 'mailcoachlaw12.KeysMasks'. -/
def keysMasksCard : Claim7 := { stood := { row := keysMasksRow, standIns := [], harness := (true, "2d6efdacc832b89d87a2bdc875079735466b4a1b44f1400c817c5f27948e351b"), looks := false }, kinds := [], alts := [], laidByText := true, laidKinds := [.data, .data, .data], laidTests := true, laidLooks := .later }
def KeysMasksCardSaid : Prop := Claim7.holds Tryz.pinned (.plain (OpenSpec.ofChange keysMasksSpec)) keysMasksCard

/-- THE TIED CARD OF 'mailcoachlaw12.KeysOf'. -/
def keysOfCard : Claim7 := { stood := { row := keysOfRow, standIns := [], harness := (true, "2d6efdacc832b89d87a2bdc875079735466b4a1b44f1400c817c5f27948e351b"), looks := false }, kinds := [], alts := [], laidByText := true, laidKinds := [.data, .data, .data], laidTests := true, laidLooks := .later }
def KeysOfCardSaid : Prop := Claim7.holds Tryz.pinned (.plain (OpenSpec.ofChange keysOfSpec)) keysOfCard

/-- THE TIED CARD OF 'mailcoachlaw12.KeysSecrets'. -/
def keysSecretsCard : Claim7 := { stood := { row := keysSecretsRow, standIns := [], harness := (true, "2d6efdacc832b89d87a2bdc875079735466b4a1b44f1400c817c5f27948e351b"), looks := false }, kinds := [], alts := [], laidByText := true, laidKinds := [.data, .data, .data], laidTests := true, laidLooks := .later }
def KeysSecretsCardSaid : Prop := Claim7.holds Tryz.pinned (.plain (OpenSpec.ofChange keysSecretsSpec)) keysSecretsCard

/-- THE SECOND FORM's CARD OF 'mailcoachlaw12.KeysMasks'. -/
def keysMasksUptoCard : Claim7 := { stood := { row := keysMasksUptoRow, standIns := [], harness := (true, "2d6efdacc832b89d87a2bdc875079735466b4a1b44f1400c817c5f27948e351b"), looks := false }, kinds := [], alts := [], laidByText := true, laidKinds := [.data, .data, .data], laidTests := true, laidLooks := .later }
def KeysMasksUptoCardSaid : Prop := Claim7.holds Tryz.pinned (.plain (OpenSpec.upto keysMasksSpec)) keysMasksUptoCard

/-- THE SECOND FORM's CARD OF 'mailcoachlaw12.KeysOf'. -/
def keysOfUptoCard : Claim7 := { stood := { row := keysOfUptoRow, standIns := [], harness := (true, "2d6efdacc832b89d87a2bdc875079735466b4a1b44f1400c817c5f27948e351b"), looks := false }, kinds := [], alts := [], laidByText := true, laidKinds := [.data, .data, .data], laidTests := true, laidLooks := .later }
def KeysOfUptoCardSaid : Prop := Claim7.holds Tryz.pinned (.plain (OpenSpec.upto keysOfSpec)) keysOfUptoCard

/-- THE SECOND FORM's CARD OF 'mailcoachlaw12.KeysSecrets'. -/
def keysSecretsUptoCard : Claim7 := { stood := { row := keysSecretsUptoRow, standIns := [], harness := (true, "2d6efdacc832b89d87a2bdc875079735466b4a1b44f1400c817c5f27948e351b"), looks := false }, kinds := [], alts := [], laidByText := true, laidKinds := [.data, .data, .data], laidTests := true, laidLooks := .later }
def KeysSecretsUptoCardSaid : Prop := Claim7.holds Tryz.pinned (.plain (OpenSpec.upto keysSecretsSpec)) keysSecretsUptoCard
end Rows
end Go.Proofs.YtppjnkgmbmhlcaaGreatDoor
