/-
  No cell of these rows narrows 'for every input' (looked for: loops, veiled, ifaces, maps, wideKeys, modest, calm, conditions, laid).
  DERIVED. THE GIVEN ROWS OF THIS SEAT. 4 by the template 'for every input the law returns true; each argument reads behind the call as it read before'; 0 by the template 'total and deterministic' (their statements: YtcpphhdbboiadaaTotals.lean).
  GIVEN WITH THE SEED: the statements are not yours to turn. If you find one false, say at which input.
  Laid BY PROGRAM, IN A SANDBOX (cutbox-rows.mjs): the forced cells as the released guide's own fill.sh prints them over the translation ef456aa252d6411d… (all of the seat's roots in one cut). By AI agents, Wed Nov 11 2026. No macro, syntax, notation, axiom, sorry.
-/
import Derived.Test.YtcpphhdbboiadaaChecked
import GoSem.Claim
import GoSem.ClaimJoined
import GoSem.ClaimMapViews
import Derived.JoinedTies
import Derived.KernelRfl
namespace Go.Proofs.Ytcpphhdbboiadaa
/- THE CELL 'sum', in the pinned program and in every row, IS THE sha256 OF THE DUMP (.gsa) THAT YtcpphhdbboiadaaProg.lean LOADS. Nothing in Lean hashes anything: it is a label: what it is worth is what the hold of that sum in a sandbox is worth. -/
noncomputable def Try.pinned : Pinned := { name := "ytcpphhdbboiadaa", sum := "ef456aa252d6411d24fe21196b75b18bde300eeffddc23b73830ef6e7422ad1c", checked := Try.checked }
namespace Rows
def none {H : Type} : Left H := { results := [], args := [] }

/-- 'mailcoachlaw09.PiecesFirst': WHATEVER THE INPUT: true; the input reads as it did. -/
def piecesFirstSpec : ChangeSpec := { name := "piecesFirst", fn := fun _ => fun
  | [d1, d2, d3] => { results := [.lit (.bool true)], args := [d1, d2, d3] }
  | _ => none }
def piecesFirstRow : OpenClaim := { program := "ytcpphhdbboiadaa", sum := "ef456aa252d6411d24fe21196b75b18bde300eeffddc23b73830ef6e7422ad1c", func := "mailcoach/mailcoachlaw09.PiecesFirst", spec := "piecesFirst", unfollowed := true, recurses := true, apart := false }
def PiecesFirstSaid : Prop := piecesFirstRow.holds Try.pinned (OpenSpec.ofChange piecesFirstSpec)

/-- ITS FALSE NEIGHBOUR: 'it returns false'. Refute it at one input. -/
def piecesFirstWrong : ChangeSpec := { name := "piecesFirst", fn := fun _ => fun
  | [d1, d2, d3] => { results := [.lit (.bool false)], args := [d1, d2, d3] }
  | _ => none }
def PiecesFirstWrongFalsely : Prop := piecesFirstRow.holds Try.pinned (OpenSpec.ofChange piecesFirstWrong)

/-- 'mailcoachlaw09.PiecesSplit': WHATEVER THE INPUT: true; the input reads as it did. -/
def piecesSplitSpec : ChangeSpec := { name := "piecesSplit", fn := fun _ => fun
  | [d1, d2, d3] => { results := [.lit (.bool true)], args := [d1, d2, d3] }
  | _ => none }
def piecesSplitRow : OpenClaim := { program := "ytcpphhdbboiadaa", sum := "ef456aa252d6411d24fe21196b75b18bde300eeffddc23b73830ef6e7422ad1c", func := "mailcoach/mailcoachlaw09.PiecesSplit", spec := "piecesSplit", unfollowed := true, recurses := true, apart := false }
def PiecesSplitSaid : Prop := piecesSplitRow.holds Try.pinned (OpenSpec.ofChange piecesSplitSpec)

/-- ITS FALSE NEIGHBOUR: 'it returns false'. Refute it at one input. -/
def piecesSplitWrong : ChangeSpec := { name := "piecesSplit", fn := fun _ => fun
  | [d1, d2, d3] => { results := [.lit (.bool false)], args := [d1, d2, d3] }
  | _ => none }
def PiecesSplitWrongFalsely : Prop := piecesSplitRow.holds Try.pinned (OpenSpec.ofChange piecesSplitWrong)

/-- 'mailcoachlaw09.PiecesOrder': WHATEVER THE INPUT: true; the input reads as it did. -/
def piecesOrderSpec : ChangeSpec := { name := "piecesOrder", fn := fun _ => fun
  | [d1, d2] => { results := [.lit (.bool true)], args := [d1, d2] }
  | _ => none }
def piecesOrderRow : OpenClaim := { program := "ytcpphhdbboiadaa", sum := "ef456aa252d6411d24fe21196b75b18bde300eeffddc23b73830ef6e7422ad1c", func := "mailcoach/mailcoachlaw09.PiecesOrder", spec := "piecesOrder", unfollowed := true, recurses := true, apart := false }
def PiecesOrderSaid : Prop := piecesOrderRow.holds Try.pinned (OpenSpec.ofChange piecesOrderSpec)

/-- ITS FALSE NEIGHBOUR: 'it returns false'. Refute it at one input. -/
def piecesOrderWrong : ChangeSpec := { name := "piecesOrder", fn := fun _ => fun
  | [d1, d2] => { results := [.lit (.bool false)], args := [d1, d2] }
  | _ => none }
def PiecesOrderWrongFalsely : Prop := piecesOrderRow.holds Try.pinned (OpenSpec.ofChange piecesOrderWrong)

/-- 'mailcoachlaw09.PiecesRoom': WHATEVER THE INPUT: true; the input reads as it did. -/
def piecesRoomSpec : ChangeSpec := { name := "piecesRoom", fn := fun _ => fun
  | [d1, d2] => { results := [.lit (.bool true)], args := [d1, d2] }
  | _ => none }
def piecesRoomRow : OpenClaim := { program := "ytcpphhdbboiadaa", sum := "ef456aa252d6411d24fe21196b75b18bde300eeffddc23b73830ef6e7422ad1c", func := "mailcoach/mailcoachlaw09.PiecesRoom", spec := "piecesRoom", unfollowed := true, recurses := true, apart := false }
def PiecesRoomSaid : Prop := piecesRoomRow.holds Try.pinned (OpenSpec.ofChange piecesRoomSpec)

/-- ITS FALSE NEIGHBOUR: 'it returns false'. Refute it at one input. -/
def piecesRoomWrong : ChangeSpec := { name := "piecesRoom", fn := fun _ => fun
  | [d1, d2] => { results := [.lit (.bool false)], args := [d1, d2] }
  | _ => none }
def PiecesRoomWrongFalsely : Prop := piecesRoomRow.holds Try.pinned (OpenSpec.ofChange piecesRoomWrong)

/- THE SECOND FORM. 'bulk': how many values and letters a reading holds, each counted each time it is reached (what is shared counts as often as it is met; a slice's spare places count too). A statement '..UptoSaid' is the law's where the arguments, and the package variables that the reading takes, are together of bulk at most 1048576: NARROWER than '..Said'. Prove '..Said' where nothing that the law and all that it calls make is longer than what came in: it says more and counts as full. Else prove '..UptoSaid'. A law counts once. -/
mutual
def uptoBulk {H : Type} : DataW H → Nat
  | .lit (.string bytes) => bytes.length + 1
  | .lit _ => 1
  | .nil => 1
  | .ptr d => uptoBulk d + 1
  | .slice elems spare => uptoBulkAll elems + uptoBulkAll spare + 1
  | .agg parts => uptoBulkAll parts + 1
  | .iface _ d => uptoBulk d + 1
  | .map entries => uptoBulkEntries entries + 1
  | .held _ => 1
def uptoBulkAll {H : Type} : List (DataW H) → Nat
  | [] => 0
  | d :: r => uptoBulk d + uptoBulkAll r
def uptoBulkEntries {H : Type} : List (Lit × DataW H) → Nat
  | [] => 0
  | x :: r => uptoBulkEntry x + uptoBulkEntries r
def uptoBulkEntry {H : Type} : Lit × DataW H → Nat
  | (.string bytes, d) => bytes.length + uptoBulk d + 1
  | (_, d) => uptoBulk d + 1
 end
def uptoSmall : (H : Type) → List (DataW H) → Bool := fun _ ds => decide (uptoBulkAll ds ≤ 1048576)
def OpenSpec.upto (s : _root_.Go.ChangeSpec) : _root_.Go.OpenSpec := { _root_.Go.OpenSpec.ofChange s with cond := some uptoSmall }

/-- 'mailcoachlaw09.PiecesFirst', WHERE WHAT IT READS IS OF BULK AT MOST 1048576: true; the input reads as it did. -/
def piecesFirstUptoRow : OpenClaim := { program := "ytcpphhdbboiadaa", sum := "ef456aa252d6411d24fe21196b75b18bde300eeffddc23b73830ef6e7422ad1c", func := "mailcoach/mailcoachlaw09.PiecesFirst", spec := "piecesFirst", unfollowed := true, recurses := true, apart := false, narrowed := true }
def PiecesFirstUptoSaid : Prop := piecesFirstUptoRow.holds Try.pinned (OpenSpec.upto piecesFirstSpec)

/-- 'mailcoachlaw09.PiecesSplit', WHERE WHAT IT READS IS OF BULK AT MOST 1048576: true; the input reads as it did. -/
def piecesSplitUptoRow : OpenClaim := { program := "ytcpphhdbboiadaa", sum := "ef456aa252d6411d24fe21196b75b18bde300eeffddc23b73830ef6e7422ad1c", func := "mailcoach/mailcoachlaw09.PiecesSplit", spec := "piecesSplit", unfollowed := true, recurses := true, apart := false, narrowed := true }
def PiecesSplitUptoSaid : Prop := piecesSplitUptoRow.holds Try.pinned (OpenSpec.upto piecesSplitSpec)

/-- 'mailcoachlaw09.PiecesOrder', WHERE WHAT IT READS IS OF BULK AT MOST 1048576: true; the input reads as it did. -/
def piecesOrderUptoRow : OpenClaim := { program := "ytcpphhdbboiadaa", sum := "ef456aa252d6411d24fe21196b75b18bde300eeffddc23b73830ef6e7422ad1c", func := "mailcoach/mailcoachlaw09.PiecesOrder", spec := "piecesOrder", unfollowed := true, recurses := true, apart := false, narrowed := true }
def PiecesOrderUptoSaid : Prop := piecesOrderUptoRow.holds Try.pinned (OpenSpec.upto piecesOrderSpec)

/-- 'mailcoachlaw09.PiecesRoom', WHERE WHAT IT READS IS OF BULK AT MOST 1048576: true; the input reads as it did. -/
def piecesRoomUptoRow : OpenClaim := { program := "ytcpphhdbboiadaa", sum := "ef456aa252d6411d24fe21196b75b18bde300eeffddc23b73830ef6e7422ad1c", func := "mailcoach/mailcoachlaw09.PiecesRoom", spec := "piecesRoom", unfollowed := true, recurses := true, apart := false, narrowed := true }
def PiecesRoomUptoSaid : Prop := piecesRoomUptoRow.holds Try.pinned (OpenSpec.upto piecesRoomSpec)

end Rows
end Go.Proofs.Ytcpphhdbboiadaa
