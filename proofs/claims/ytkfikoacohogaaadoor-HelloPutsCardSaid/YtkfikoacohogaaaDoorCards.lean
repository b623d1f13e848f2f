/-
  DERIVED. GIVEN WITH THE SEED: THE CARDS: each row of YtkfikoacohogaaaDoorRows.lean that lists a variable, with what it lists TIED to the program's text (the seventh form; the later family's looks); each row that meets fmt, with fmt's text TOLD by the authors' own Lean function (tested against real Go, not proved from fmt's source: count such statements apart). THE CARD IS WHAT COUNTS. Prove the row's statement (the work); the ties are given (YtkfikoacohogaaaDoorTie.lean); close each card by the builder's one call (the guide's Derived/Test/ToyasCard.lean, 'card_holds'). Laid BY PROGRAM, IN A SANDBOX (cutbox-door.mjs). By AI agents, Wed Nov 11 2026. No macro, syntax, notation, axiom, sorry.
-/
import Derived.Test.YtkfikoacohogaaaDoorRows
import GoSem.ClaimSeven
namespace Go.Proofs.YtkfikoacohogaaaDoor
namespace Rows

/-- THE TIED CARD OF 'mailcoachlaw04.ChachaXors'. -/
def chachaXorsCard : Claim7 := { stood := { row := chachaXorsRow, standIns := [], harness := (true, "c75cc3a1c4935c8d297eb38a41c15bfc130f3fafc1b1ede87d3333e1b52b096a"), looks := false }, kinds := [], alts := [], laidByText := true, laidKinds := [.data, .data, .data], laidTests := true, laidLooks := .later }
def ChachaXorsCardSaid : Prop := Claim7.holds Tryd.pinned (.plain (OpenSpec.ofChange chachaXorsSpec)) chachaXorsCard

/-- THE TIED CARD OF 'mailcoachlaw17.HelloPuts'. -/
def helloPutsCard : Claim7 := { stood := { row := helloPutsRow, standIns := [], harness := (true, "c75cc3a1c4935c8d297eb38a41c15bfc130f3fafc1b1ede87d3333e1b52b096a"), looks := false }, kinds := [], alts := [], laidByText := true, laidKinds := [.data, .data, .data], laidTests := true, laidLooks := .later }
def HelloPutsCardSaid : Prop := Claim7.holds Tryd.pinned (.plain (OpenSpec.ofChange helloPutsSpec)) helloPutsCard

/-- THE SECOND FORM's CARD OF 'mailcoachlaw04.ChachaXors'. -/
def chachaXorsUptoCard : Claim7 := { stood := { row := chachaXorsUptoRow, standIns := [], harness := (true, "c75cc3a1c4935c8d297eb38a41c15bfc130f3fafc1b1ede87d3333e1b52b096a"), looks := false }, kinds := [], alts := [], laidByText := true, laidKinds := [.data, .data, .data], laidTests := true, laidLooks := .later }
def ChachaXorsUptoCardSaid : Prop := Claim7.holds Tryd.pinned (.plain (OpenSpec.upto chachaXorsSpec)) chachaXorsUptoCard

/-- THE SECOND FORM's CARD OF 'mailcoachlaw17.HelloPuts'. -/
def helloPutsUptoCard : Claim7 := { stood := { row := helloPutsUptoRow, standIns := [], harness := (true, "c75cc3a1c4935c8d297eb38a41c15bfc130f3fafc1b1ede87d3333e1b52b096a"), looks := false }, kinds := [], alts := [], laidByText := true, laidKinds := [.data, .data, .data], laidTests := true, laidLooks := .later }
def HelloPutsUptoCardSaid : Prop := Claim7.holds Tryd.pinned (.plain (OpenSpec.upto helloPutsSpec)) helloPutsUptoCard
end Rows
end Go.Proofs.YtkfikoacohogaaaDoor
