/-
  No cell of these rows narrows 'for every input' (looked for: loops, veiled, ifaces, maps, wideKeys, modest, calm, conditions, laid).
  DERIVED. THE GIVEN ROWS OF THIS SEAT. 5 by the template 'for every input the law returns true; each argument reads behind the call as it read before'; 0 by the template 'total and deterministic' (their statements: YthhbomiknikjpaaTotals.lean).
  GIVEN WITH THE SEED: the statements are not yours to turn. If you find one false, say at which input.
  Laid BY PROGRAM, IN A SANDBOX (cutbox-rows.mjs): the forced cells as the released guide's own fill.sh prints them over the translation 8a20fe7aab0c6006… (all of the seat's roots in one cut). By AI agents, Wed Nov 11 2026. No macro, syntax, notation, axiom, sorry.
-/
import Derived.Test.YthhbomiknikjpaaChecked
import GoSem.Claim
import GoSem.ClaimJoined
import GoSem.ClaimMapViews
import Derived.JoinedTies
import Derived.KernelRfl
namespace Go.Proofs.Ythhbomiknikjpaa
/- THE CELL 'sum', in the pinned program and in every row, IS THE sha256 OF THE DUMP (.gsa) THAT YthhbomiknikjpaaProg.lean LOADS. Nothing in Lean hashes anything: it is a label: what it is worth is what the hold of that sum in a sandbox is worth. -/
noncomputable def Try.pinned : Pinned := { name := "ythhbomiknikjpaa", sum := "8a20fe7aab0c600656a8c93fd4ba11624bf8faea837c77521d12892d061670f4", checked := Try.checked }
namespace Rows
def none {H : Type} : Left H := { results := [], args := [] }

/-- 'mailcoachlaw03.HkdfMacs': WHATEVER THE INPUT: true; the input reads as it did. -/
def hkdfMacsSpec : ChangeSpec := { name := "hkdfMacs", fn := fun _ => fun
  | [d1, d2] => { results := [.lit (.bool true)], args := [d1, d2] }
  | _ => none }
def hkdfMacsRow : OpenClaim := { program := "ythhbomiknikjpaa", sum := "8a20fe7aab0c600656a8c93fd4ba11624bf8faea837c77521d12892d061670f4", func := "mailcoach/mailcoachlaw03.HkdfMacs", spec := "hkdfMacs", unfollowed := true, recurses := true, apart := false }
def HkdfMacsSaid : Prop := hkdfMacsRow.holds Try.pinned (OpenSpec.ofChange hkdfMacsSpec)

/-- ITS FALSE NEIGHBOUR: 'it returns false'. Refute it at one input. -/
def hkdfMacsWrong : ChangeSpec := { name := "hkdfMacs", fn := fun _ => fun
  | [d1, d2] => { results := [.lit (.bool false)], args := [d1, d2] }
  | _ => none }
def HkdfMacsWrongFalsely : Prop := hkdfMacsRow.holds Try.pinned (OpenSpec.ofChange hkdfMacsWrong)

/-- 'mailcoachlaw03.HkdfTwice': WHATEVER THE INPUT: true; the input reads as it did. -/
def hkdfTwiceSpec : ChangeSpec := { name := "hkdfTwice", fn := fun _ => fun
  | [d1, d2] => { results := [.lit (.bool true)], args := [d1, d2] }
  | _ => none }
def hkdfTwiceRow : OpenClaim := { program := "ythhbomiknikjpaa", sum := "8a20fe7aab0c600656a8c93fd4ba11624bf8faea837c77521d12892d061670f4", func := "mailcoach/mailcoachlaw03.HkdfTwice", spec := "hkdfTwice", unfollowed := true, recurses := true, apart := false }
def HkdfTwiceSaid : Prop := hkdfTwiceRow.holds Try.pinned (OpenSpec.ofChange hkdfTwiceSpec)

/-- ITS FALSE NEIGHBOUR: 'it returns false'. Refute it at one input. -/
def hkdfTwiceWrong : ChangeSpec := { name := "hkdfTwice", fn := fun _ => fun
  | [d1, d2] => { results := [.lit (.bool false)], args := [d1, d2] }
  | _ => none }
def HkdfTwiceWrongFalsely : Prop := hkdfTwiceRow.holds Try.pinned (OpenSpec.ofChange hkdfTwiceWrong)

/-- 'mailcoachlaw03.HkdfKeys': WHATEVER THE INPUT: true; the input reads as it did. -/
def hkdfKeysSpec : ChangeSpec := { name := "hkdfKeys", fn := fun _ => fun
  | [d1, d2, d3] => { results := [.lit (.bool true)], args := [d1, d2, d3] }
  | _ => none }
def hkdfKeysRow : OpenClaim := { program := "ythhbomiknikjpaa", sum := "8a20fe7aab0c600656a8c93fd4ba11624bf8faea837c77521d12892d061670f4", func := "mailcoach/mailcoachlaw03.HkdfKeys", spec := "hkdfKeys", unfollowed := true, recurses := true, apart := false }
def HkdfKeysSaid : Prop := hkdfKeysRow.holds Try.pinned (OpenSpec.ofChange hkdfKeysSpec)

/-- ITS FALSE NEIGHBOUR: 'it returns false'. Refute it at one input. -/
def hkdfKeysWrong : ChangeSpec := { name := "hkdfKeys", fn := fun _ => fun
  | [d1, d2, d3] => { results := [.lit (.bool false)], args := [d1, d2, d3] }
  | _ => none }
def HkdfKeysWrongFalsely : Prop := hkdfKeysRow.holds Try.pinned (OpenSpec.ofChange hkdfKeysWrong)

/-- 'mailcoachlaw03.HkdfBegins': WHATEVER THE INPUT: true; the input reads as it did. -/
def hkdfBeginsSpec : ChangeSpec := { name := "hkdfBegins", fn := fun _ => fun
  | [d1, d2, d3] => { results := [.lit (.bool true)], args := [d1, d2, d3] }
  | _ => none }
def hkdfBeginsRow : OpenClaim := { program := "ythhbomiknikjpaa", sum := "8a20fe7aab0c600656a8c93fd4ba11624bf8faea837c77521d12892d061670f4", func := "mailcoach/mailcoachlaw03.HkdfBegins", spec := "hkdfBegins", unfollowed := true, recurses := true, apart := false }
def HkdfBeginsSaid : Prop := hkdfBeginsRow.holds Try.pinned (OpenSpec.ofChange hkdfBeginsSpec)

/-- ITS FALSE NEIGHBOUR: 'it returns false'. Refute it at one input. -/
def hkdfBeginsWrong : ChangeSpec := { name := "hkdfBegins", fn := fun _ => fun
  | [d1, d2, d3] => { results := [.lit (.bool false)], args := [d1, d2, d3] }
  | _ => none }
def HkdfBeginsWrongFalsely : Prop := hkdfBeginsRow.holds Try.pinned (OpenSpec.ofChange hkdfBeginsWrong)

/-- 'mailcoachlaw03.HkdfNames': WHATEVER THE INPUT: true; the input reads as it did. -/
def hkdfNamesSpec : ChangeSpec := { name := "hkdfNames", fn := fun _ => fun
  | [d1, d2] => { results := [.lit (.bool true)], args := [d1, d2] }
  | _ => none }
def hkdfNamesRow : OpenClaim := { program := "ythhbomiknikjpaa", sum := "8a20fe7aab0c600656a8c93fd4ba11624bf8faea837c77521d12892d061670f4", func := "mailcoach/mailcoachlaw03.HkdfNames", spec := "hkdfNames", unfollowed := true, recurses := true, apart := false }
def HkdfNamesSaid : Prop := hkdfNamesRow.holds Try.pinned (OpenSpec.ofChange hkdfNamesSpec)

/-- ITS FALSE NEIGHBOUR: 'it returns false'. Refute it at one input. -/
def hkdfNamesWrong : ChangeSpec := { name := "hkdfNames", fn := fun _ => fun
  | [d1, d2] => { results := [.lit (.bool false)], args := [d1, d2] }
  | _ => none }
def HkdfNamesWrongFalsely : Prop := hkdfNamesRow.holds Try.pinned (OpenSpec.ofChange hkdfNamesWrong)

/- THE SECOND FORM. 'bulk': how many values and letters a reading holds, each counted each time it is reached (what is shared counts as often as it is met; a slice's spare places count too). A statement '..UptoSaid' is the law's where the arguments, and the package variables that the reading takes, are together of bulk at most 1048576: NARROWER than '..Said'. Prove '..Said' where nothing that the law and all that it calls make is longer than what came in: it says more and counts as full. Else prove '..UptoSaid'. A law counts once. -/
mutual
def uptoBulk {H : Type} : DataW H → Nat
  | .lit (.string bytes) => bytes.length + 1
  | .lit _ => 1
  | .nil => 1
  | .ptr d => uptoBulk d + 1
  | .slice elems spare => uptoBulkAll elems + uptoBulkAll spare + 1
  | .agg parts => uptoBulkAll parts + 1
  | .iface _ d => uptoBulk d + 1
  | .map entries => uptoBulkEntries entries + 1
  | .held _ => 1
def uptoBulkAll {H : Type} : List (DataW H) → Nat
  | [] => 0
  | d :: r => uptoBulk d + uptoBulkAll r
def uptoBulkEntries {H : Type} : List (Lit × DataW H) → Nat
  | [] => 0
  | x :: r => uptoBulkEntry x + uptoBulkEntries r
def uptoBulkEntry {H : Type} : Lit × DataW H → Nat
  | (.string bytes, d) => bytes.length + uptoBulk d + 1
  | (_, d) => uptoBulk d + 1
 end
def uptoSmall : (H : Type) → List (DataW H) → Bool := fun _ ds => decide (uptoBulkAll ds ≤ 1048576)
def OpenSpec.upto (s : _root_.Go.ChangeSpec) : _root_.Go.OpenSpec := { _root_.Go.OpenSpec.ofChange s with cond := some uptoSmall }

/-- 'mailcoachlaw03.HkdfMacs', WHERE WHAT IT READS IS OF BULK AT MOST 1048576: true; the input reads as it did. -/
def hkdfMacsUptoRow : OpenClaim := { program := "ythhbomiknikjpaa", sum := "8a20fe7aab0c600656a8c93fd4ba11624bf8faea837c77521d12892d061670f4", func := "mailcoach/mailcoachlaw03.HkdfMacs", spec := "hkdfMacs", unfollowed := true, recurses := true, apart := false, narrowed := true }
def HkdfMacsUptoSaid : Prop := hkdfMacsUptoRow.holds Try.pinned (OpenSpec.upto hkdfMacsSpec)

/-- 'mailcoachlaw03.HkdfTwice', WHERE WHAT IT READS IS OF BULK AT MOST 1048576: true; the input reads as it did. -/
def hkdfTwiceUptoRow : OpenClaim := { program := "ythhbomiknikjpaa", sum := "8a20fe7aab0c600656a8c93fd4ba11624bf8faea837c77521d12892d061670f4", func := "mailcoach/mailcoachlaw03.HkdfTwice", spec := "hkdfTwice", unfollowed := true, recurses := true, apart := false, narrowed := true }
def HkdfTwiceUptoSaid : Prop := hkdfTwiceUptoRow.holds Try.pinned (OpenSpec.upto hkdfTwiceSpec)

/-- 'mailcoachlaw03.HkdfKeys', WHERE WHAT IT READS IS OF BULK AT MOST 1048576: true; the input reads as it did. -/
def hkdfKeysUptoRow : OpenClaim := { program := "ythhbomiknikjpaa", sum := "8a20fe7aab0c600656a8c93fd4ba11624bf8faea837c77521d12892d061670f4", func := "mailcoach/mailcoachlaw03.HkdfKeys", spec := "hkdfKeys", unfollowed := true, recurses := true, apart := false, narrowed := true }
def HkdfKeysUptoSaid : Prop := hkdfKeysUptoRow.holds Try.pinned (OpenSpec.upto hkdfKeysSpec)

/-- 'mailcoachlaw03.HkdfBegins', WHERE WHAT IT READS IS OF BULK AT MOST 1048576: true; the input reads as it did. -/
def hkdfBeginsUptoRow : OpenClaim := { program := "ythhbomiknikjpaa", sum := "8a20fe7aab0c600656a8c93fd4ba11624bf8faea837c77521d12892d061670f4", func := "mailcoach/mailcoachlaw03.HkdfBegins", spec := "hkdfBegins", unfollowed := true, recurses := true, apart := false, narrowed := true }
def HkdfBeginsUptoSaid : Prop := hkdfBeginsUptoRow.holds Try.pinned (OpenSpec.upto hkdfBeginsSpec)

/-- 'mailcoachlaw03.HkdfNames', WHERE WHAT IT READS IS OF BULK AT MOST 1048576: true; the input reads as it did. -/
def hkdfNamesUptoRow : OpenClaim := { program := "ythhbomiknikjpaa", sum := "8a20fe7aab0c600656a8c93fd4ba11624bf8faea837c77521d12892d061670f4", func := "mailcoach/mailcoachlaw03.HkdfNames", spec := "hkdfNames", unfollowed := true, recurses := true, apart := false, narrowed := true }
def HkdfNamesUptoSaid : Prop := hkdfNamesUptoRow.holds Try.pinned (OpenSpec.upto hkdfNamesSpec)

end Rows
end Go.Proofs.Ythhbomiknikjpaa
