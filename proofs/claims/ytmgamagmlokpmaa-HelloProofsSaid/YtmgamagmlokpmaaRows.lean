/-
  No cell of these rows narrows 'for every input' (looked for: loops, veiled, ifaces, maps, wideKeys, modest, calm, conditions, laid).
  DERIVED. THE GIVEN ROWS OF THIS SEAT. 3 by the template 'for every input the law returns true; each argument reads behind the call as it read before'; 0 by the template 'total and deterministic' (their statements: YtmgamagmlokpmaaTotals.lean).
  GIVEN WITH THE SEED: the statements are not yours to turn. If you find one false, say at which input.
  Laid BY PROGRAM, IN A SANDBOX (cutbox-rows.mjs): the forced cells as the released guide's own fill.sh prints them over the translation 509fc9724800f259… (all of the seat's roots in one cut). By AI agents, Wed Nov 11 2026. No macro, syntax, notation, axiom, sorry.
-/
import Derived.Test.YtmgamagmlokpmaaChecked
import GoSem.Claim
import GoSem.ClaimJoined
import GoSem.ClaimMapViews
import Derived.JoinedTies
import Derived.KernelRfl
namespace Go.Proofs.Ytmgamagmlokpmaa
/- THE CELL 'sum', in the pinned program and in every row, IS THE sha256 OF THE DUMP (.gsa) THAT YtmgamagmlokpmaaProg.lean LOADS. Nothing in Lean hashes anything: it is a label: what it is worth is what the hold of that sum in a sandbox is worth. -/
noncomputable def Try.pinned : Pinned := { name := "ytmgamagmlokpmaa", sum := "509fc9724800f259aebb740f73d1ef0471355fbc2f5ce4cae8b77c54808ea486", checked := Try.checked }
namespace Rows
def none {H : Type} : Left H := { results := [], args := [] }

/-- 'mailcoachlaw17.HelloBack': WHATEVER THE INPUT: true; the input reads as it did. -/
def helloBackSpec : ChangeSpec := { name := "helloBack", fn := fun _ => fun
  | [d1, d2] => { results := [.lit (.bool true)], args := [d1, d2] }
  | _ => none }
def helloBackRow : OpenClaim := { program := "ytmgamagmlokpmaa", sum := "509fc9724800f259aebb740f73d1ef0471355fbc2f5ce4cae8b77c54808ea486", func := "mailcoach/mailcoachlaw17.HelloBack", spec := "helloBack", unfollowed := true, recurses := true, apart := false }
def HelloBackSaid : Prop := helloBackRow.holds Try.pinned (OpenSpec.ofChange helloBackSpec)

/-- ITS FALSE NEIGHBOUR: 'it returns false'. Refute it at one input. -/
def helloBackWrong : ChangeSpec := { name := "helloBack", fn := fun _ => fun
  | [d1, d2] => { results := [.lit (.bool false)], args := [d1, d2] }
  | _ => none }
def HelloBackWrongFalsely : Prop := helloBackRow.holds Try.pinned (OpenSpec.ofChange helloBackWrong)

/-- 'mailcoachlaw17.HelloAgain': WHATEVER THE INPUT: true; the input reads as it did. -/
def helloAgainSpec : ChangeSpec := { name := "helloAgain", fn := fun _ => fun
  | [d] => { results := [.lit (.bool true)], args := [d] }
  | _ => none }
def helloAgainRow : OpenClaim := { program := "ytmgamagmlokpmaa", sum := "509fc9724800f259aebb740f73d1ef0471355fbc2f5ce4cae8b77c54808ea486", func := "mailcoach/mailcoachlaw17.HelloAgain", spec := "helloAgain", unfollowed := true, recurses := true, apart := false }
def HelloAgainSaid : Prop := helloAgainRow.holds Try.pinned (OpenSpec.ofChange helloAgainSpec)

/-- ITS FALSE NEIGHBOUR: 'it returns false'. Refute it at one input. -/
def helloAgainWrong : ChangeSpec := { name := "helloAgain", fn := fun _ => fun
  | [d] => { results := [.lit (.bool false)], args := [d] }
  | _ => none }
def HelloAgainWrongFalsely : Prop := helloAgainRow.holds Try.pinned (OpenSpec.ofChange helloAgainWrong)

/-- 'mailcoachlaw17.HelloProofs': WHATEVER THE INPUT: true; the input reads as it did. -/
def helloProofsSpec : ChangeSpec := { name := "helloProofs", fn := fun _ => fun
  | [d1, d2, d3] => { results := [.lit (.bool true)], args := [d1, d2, d3] }
  | _ => none }
def helloProofsRow : OpenClaim := { program := "ytmgamagmlokpmaa", sum := "509fc9724800f259aebb740f73d1ef0471355fbc2f5ce4cae8b77c54808ea486", func := "mailcoach/mailcoachlaw17.HelloProofs", spec := "helloProofs", unfollowed := true, recurses := true, apart := false }
def HelloProofsSaid : Prop := helloProofsRow.holds Try.pinned (OpenSpec.ofChange helloProofsSpec)

/-- ITS FALSE NEIGHBOUR: 'it returns false'. Refute it at one input. -/
def helloProofsWrong : ChangeSpec := { name := "helloProofs", fn := fun _ => fun
  | [d1, d2, d3] => { results := [.lit (.bool false)], args := [d1, d2, d3] }
  | _ => none }
def HelloProofsWrongFalsely : Prop := helloProofsRow.holds Try.pinned (OpenSpec.ofChange helloProofsWrong)

/- THE SECOND FORM. 'bulk': how many values and letters a reading holds, each counted each time it is reached (what is shared counts as often as it is met; a slice's spare places count too). A statement '..UptoSaid' is the law's where the arguments, and the package variables that the reading takes, are together of bulk at most 1048576: NARROWER than '..Said'. Prove '..Said' where nothing that the law and all that it calls make is longer than what came in: it says more and counts as full. Else prove '..UptoSaid'. A law counts once. -/
mutual
def uptoBulk {H : Type} : DataW H → Nat
  | .lit (.string bytes) => bytes.length + 1
  | .lit _ => 1
  | .nil => 1
  | .ptr d => uptoBulk d + 1
  | .slice elems spare => uptoBulkAll elems + uptoBulkAll spare + 1
  | .agg parts => uptoBulkAll parts + 1
  | .iface _ d => uptoBulk d + 1
  | .map entries => uptoBulkEntries entries + 1
  | .held _ => 1
def uptoBulkAll {H : Type} : List (DataW H) → Nat
  | [] => 0
  | d :: r => uptoBulk d + uptoBulkAll r
def uptoBulkEntries {H : Type} : List (Lit × DataW H) → Nat
  | [] => 0
  | x :: r => uptoBulkEntry x + uptoBulkEntries r
def uptoBulkEntry {H : Type} : Lit × DataW H → Nat
  | (.string bytes, d) => bytes.length + uptoBulk d + 1
  | (_, d) => uptoBulk d + 1
 end
def uptoSmall : (H : Type) → List (DataW H) → Bool := fun _ ds => decide (uptoBulkAll ds ≤ 1048576)
def OpenSpec.upto (s : _root_.Go.ChangeSpec) : _root_.Go.OpenSpec := { _root_.Go.OpenSpec.ofChange s with cond := some uptoSmall }

/-- 'mailcoachlaw17.HelloBack', WHERE WHAT IT READS IS OF BULK AT MOST 1048576: true; the input reads as it did. -/
def helloBackUptoRow : OpenClaim := { program := "ytmgamagmlokpmaa", sum := "509fc9724800f259aebb740f73d1ef0471355fbc2f5ce4cae8b77c54808ea486", func := "mailcoach/mailcoachlaw17.HelloBack", spec := "helloBack", unfollowed := true, recurses := true, apart := false, narrowed := true }
def HelloBackUptoSaid : Prop := helloBackUptoRow.holds Try.pinned (OpenSpec.upto helloBackSpec)

/-- 'mailcoachlaw17.HelloAgain', WHERE WHAT IT READS IS OF BULK AT MOST 1048576: true; the input reads as it did. -/
def helloAgainUptoRow : OpenClaim := { program := "ytmgamagmlokpmaa", sum := "509fc9724800f259aebb740f73d1ef0471355fbc2f5ce4cae8b77c54808ea486", func := "mailcoach/mailcoachlaw17.HelloAgain", spec := "helloAgain", unfollowed := true, recurses := true, apart := false, narrowed := true }
def HelloAgainUptoSaid : Prop := helloAgainUptoRow.holds Try.pinned (OpenSpec.upto helloAgainSpec)

/-- 'mailcoachlaw17.HelloProofs', WHERE WHAT IT READS IS OF BULK AT MOST 1048576: true; the input reads as it did. -/
def helloProofsUptoRow : OpenClaim := { program := "ytmgamagmlokpmaa", sum := "509fc9724800f259aebb740f73d1ef0471355fbc2f5ce4cae8b77c54808ea486", func := "mailcoach/mailcoachlaw17.HelloProofs", spec := "helloProofs", unfollowed := true, recurses := true, apart := false, narrowed := true }
def HelloProofsUptoSaid : Prop := helloProofsUptoRow.holds Try.pinned (OpenSpec.upto helloProofsSpec)

end Rows
end Go.Proofs.Ytmgamagmlokpmaa
