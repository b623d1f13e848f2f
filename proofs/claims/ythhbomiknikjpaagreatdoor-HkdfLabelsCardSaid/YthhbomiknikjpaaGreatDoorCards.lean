/-
  DERIVED. GIVEN WITH THE SEED: THE CARDS: each row of YthhbomiknikjpaaGreatDoorRows.lean that lists a variable, with what it lists TIED to the program's text (the seventh form; the later family's looks); each row that meets fmt, with fmt's text TOLD by the authors' own Lean function (tested against real Go, not proved from fmt's source: count such statements apart). THE CARD IS WHAT COUNTS. Prove the row's statement (the work); the ties are given (YthhbomiknikjpaaGreatDoorTie.lean); close each card by the builder's one call (the guide's Derived/Test/ToyasCard.lean, 'card_holds'). Laid BY PROGRAM, IN A SANDBOX (cutbox-door.mjs). By AI agents, Wed Nov 11 2026. No macro, syntax, notation, axiom, sorry.
-/
import Derived.Test.YthhbomiknikjpaaGreatDoorRows
import GoSem.ClaimSeven
namespace Go.Proofs.YthhbomiknikjpaaGreatDoor
namespace Rows

/-- THE TIED CARD OF 'mailcoachlaw03.HkdfExpands'. -/
def hkdfExpandsCard : Claim7 := { stood := { row := hkdfExpandsRow, standIns := [], harness := (true, "ee93df7438357325ceeaa0c9c9f03478b55310e00bc82569b1a72963a2e20403"), looks := false }, kinds := [], alts := [], laidByText := true, laidKinds := [.data, .data, .data], laidTests := true, laidLooks := .later }
def HkdfExpandsCardSaid : Prop := Claim7.holds Tryz.pinned (.plain (OpenSpec.ofChange hkdfExpandsSpec)) hkdfExpandsCard

/-- THE TIED CARD OF 'mailcoachlaw03.HkdfLabels'. -/
def hkdfLabelsCard : Claim7 := { stood := { row := hkdfLabelsRow, standIns := [], harness := (true, "ee93df7438357325ceeaa0c9c9f03478b55310e00bc82569b1a72963a2e20403"), looks := false }, kinds := [], alts := [], laidByText := true, laidKinds := [.data, .data, .data], laidTests := true, laidLooks := .later }
def HkdfLabelsCardSaid : Prop := Claim7.holds Tryz.pinned (.plain (OpenSpec.ofChange hkdfLabelsSpec)) hkdfLabelsCard

/-- THE SECOND FORM's CARD OF 'mailcoachlaw03.HkdfExpands'. -/
def hkdfExpandsUptoCard : Claim7 := { stood := { row := hkdfExpandsUptoRow, standIns := [], harness := (true, "ee93df7438357325ceeaa0c9c9f03478b55310e00bc82569b1a72963a2e20403"), looks := false }, kinds := [], alts := [], laidByText := true, laidKinds := [.data, .data, .data], laidTests := true, laidLooks := .later }
def HkdfExpandsUptoCardSaid : Prop := Claim7.holds Tryz.pinned (.plain (OpenSpec.upto hkdfExpandsSpec)) hkdfExpandsUptoCard

/-- THE SECOND FORM's CARD OF 'mailcoachlaw03.HkdfLabels'. -/
def hkdfLabelsUptoCard : Claim7 := { stood := { row := hkdfLabelsUptoRow, standIns := [], harness := (true, "ee93df7438357325ceeaa0c9c9f03478b55310e00bc82569b1a72963a2e20403"), looks := false }, kinds := [], alts := [], laidByText := true, laidKinds := [.data, .data, .data], laidTests := true, laidLooks := .later }
def HkdfLabelsUptoCardSaid : Prop := Claim7.holds Tryz.pinned (.plain (OpenSpec.upto hkdfLabelsSpec)) hkdfLabelsUptoCard
end Rows
end Go.Proofs.YthhbomiknikjpaaGreatDoor
