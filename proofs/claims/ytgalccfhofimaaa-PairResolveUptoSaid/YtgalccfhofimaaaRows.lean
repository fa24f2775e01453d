/-
  No cell of these rows narrows 'for every input' (looked for: loops, veiled, ifaces, maps, wideKeys, modest, calm, conditions, laid).
  DERIVED. THE GIVEN ROWS OF THIS SEAT. 5 by the template 'for every input the law returns true; each argument reads behind the call as it read before'; 0 by the template 'total and deterministic' (their statements: YtgalccfhofimaaaTotals.lean).
  GIVEN WITH THE SEED: the statements are not yours to turn. If you find one false, say at which input.
  Laid BY PROGRAM, IN A SANDBOX (cutbox-rows.mjs): the forced cells as the released guide's own fill.sh prints them over the translation 731a70307bf4c31f… (all of the seat's roots in one cut). By AI agents, Wed Nov 11 2026. No macro, syntax, notation, axiom, sorry.
-/
import Derived.Test.YtgalccfhofimaaaChecked
import GoSem.Claim
import GoSem.ClaimJoined
import GoSem.ClaimMapViews
import Derived.JoinedTies
import Derived.KernelRfl
namespace Go.Proofs.Ytgalccfhofimaaa
/- THE CELL 'sum', in the pinned program and in every row, IS THE sha256 OF THE DUMP (.gsa) THAT YtgalccfhofimaaaProg.lean LOADS. Nothing in Lean hashes anything: it is a label: what it is worth is what the hold of that sum in a sandbox is worth. -/
noncomputable def Try.pinned : Pinned := { name := "ytgalccfhofimaaa", sum := "731a70307bf4c31f4a502c4ae5918c8d75a5bde495abad6dd0fe4a86f3ec1258", checked := Try.checked }
namespace Rows
def none {H : Type} : Left H := { results := [], args := [] }

/-- 'shuttlelaw09.PairBrackets': WHATEVER THE INPUT: true; the input reads as it did. -/
def pairBracketsSpec : ChangeSpec := { name := "pairBrackets", fn := fun _ => fun
  | [d1, d2] => { results := [.lit (.bool true)], args := [d1, d2] }
  | _ => none }
def pairBracketsRow : OpenClaim := { program := "ytgalccfhofimaaa", sum := "731a70307bf4c31f4a502c4ae5918c8d75a5bde495abad6dd0fe4a86f3ec1258", func := "shuttle/shuttlelaw09.PairBrackets", spec := "pairBrackets", inPlace := ["internal/reflectlite.ValueOf", "internal/reflectlite.Swapper", "(internal/reflectlite.Value).Len"], unfollowed := true, recurses := true, apart := false }
def PairBracketsSaid : Prop := pairBracketsRow.holds Try.pinned (OpenSpec.ofChange pairBracketsSpec)

/-- ITS FALSE NEIGHBOUR: 'it returns false'. Refute it at one input. -/
def pairBracketsWrong : ChangeSpec := { name := "pairBrackets", fn := fun _ => fun
  | [d1, d2] => { results := [.lit (.bool false)], args := [d1, d2] }
  | _ => none }
def PairBracketsWrongFalsely : Prop := pairBracketsRow.holds Try.pinned (OpenSpec.ofChange pairBracketsWrong)

/-- 'shuttlelaw09.PairResolve': WHATEVER THE INPUT: true; the input reads as it did. -/
def pairResolveSpec : ChangeSpec := { name := "pairResolve", fn := fun _ => fun
  | [d1, d2, d3, d4, d5] => { results := [.lit (.bool true)], args := [d1, d2, d3, d4, d5] }
  | _ => none }
def pairResolveRow : OpenClaim := { program := "ytgalccfhofimaaa", sum := "731a70307bf4c31f4a502c4ae5918c8d75a5bde495abad6dd0fe4a86f3ec1258", func := "shuttle/shuttlelaw09.PairResolve", spec := "pairResolve", inPlace := ["internal/reflectlite.ValueOf", "internal/reflectlite.Swapper", "(internal/reflectlite.Value).Len"], unfollowed := true, recurses := true, apart := false }
def PairResolveSaid : Prop := pairResolveRow.holds Try.pinned (OpenSpec.ofChange pairResolveSpec)

/-- ITS FALSE NEIGHBOUR: 'it returns false'. Refute it at one input. -/
def pairResolveWrong : ChangeSpec := { name := "pairResolve", fn := fun _ => fun
  | [d1, d2, d3, d4, d5] => { results := [.lit (.bool false)], args := [d1, d2, d3, d4, d5] }
  | _ => none }
def PairResolveWrongFalsely : Prop := pairResolveRow.holds Try.pinned (OpenSpec.ofChange pairResolveWrong)

/-- 'shuttlelaw09.PairNests': WHATEVER THE INPUT: true; the input reads as it did. -/
def pairNestsSpec : ChangeSpec := { name := "pairNests", fn := fun _ => fun
  | [d1, d2] => { results := [.lit (.bool true)], args := [d1, d2] }
  | _ => none }
def pairNestsRow : OpenClaim := { program := "ytgalccfhofimaaa", sum := "731a70307bf4c31f4a502c4ae5918c8d75a5bde495abad6dd0fe4a86f3ec1258", func := "shuttle/shuttlelaw09.PairNests", spec := "pairNests", inPlace := ["internal/reflectlite.ValueOf", "internal/reflectlite.Swapper", "(internal/reflectlite.Value).Len"], unfollowed := true, recurses := true, apart := false }
def PairNestsSaid : Prop := pairNestsRow.holds Try.pinned (OpenSpec.ofChange pairNestsSpec)

/-- ITS FALSE NEIGHBOUR: 'it returns false'. Refute it at one input. -/
def pairNestsWrong : ChangeSpec := { name := "pairNests", fn := fun _ => fun
  | [d1, d2] => { results := [.lit (.bool false)], args := [d1, d2] }
  | _ => none }
def PairNestsWrongFalsely : Prop := pairNestsRow.holds Try.pinned (OpenSpec.ofChange pairNestsWrong)

/-- 'shuttlelaw09.PairStays': WHATEVER THE INPUT: true; the input reads as it did. -/
def pairStaysSpec : ChangeSpec := { name := "pairStays", fn := fun _ => fun
  | [d1, d2, d3, d4, d5] => { results := [.lit (.bool true)], args := [d1, d2, d3, d4, d5] }
  | _ => none }
def pairStaysRow : OpenClaim := { program := "ytgalccfhofimaaa", sum := "731a70307bf4c31f4a502c4ae5918c8d75a5bde495abad6dd0fe4a86f3ec1258", func := "shuttle/shuttlelaw09.PairStays", spec := "pairStays", inPlace := ["internal/reflectlite.ValueOf", "internal/reflectlite.Swapper", "(internal/reflectlite.Value).Len"], unfollowed := true, recurses := true, apart := false }
def PairStaysSaid : Prop := pairStaysRow.holds Try.pinned (OpenSpec.ofChange pairStaysSpec)

/-- ITS FALSE NEIGHBOUR: 'it returns false'. Refute it at one input. -/
def pairStaysWrong : ChangeSpec := { name := "pairStays", fn := fun _ => fun
  | [d1, d2, d3, d4, d5] => { results := [.lit (.bool false)], args := [d1, d2, d3, d4, d5] }
  | _ => none }
def PairStaysWrongFalsely : Prop := pairStaysRow.holds Try.pinned (OpenSpec.ofChange pairStaysWrong)

/-- 'shuttlelaw09.PairAgain': WHATEVER THE INPUT: true; the input reads as it did. -/
def pairAgainSpec : ChangeSpec := { name := "pairAgain", fn := fun _ => fun
  | [d1, d2, d3, d4, d5] => { results := [.lit (.bool true)], args := [d1, d2, d3, d4, d5] }
  | _ => none }
def pairAgainRow : OpenClaim := { program := "ytgalccfhofimaaa", sum := "731a70307bf4c31f4a502c4ae5918c8d75a5bde495abad6dd0fe4a86f3ec1258", func := "shuttle/shuttlelaw09.PairAgain", spec := "pairAgain", inPlace := ["internal/reflectlite.ValueOf", "internal/reflectlite.Swapper", "(internal/reflectlite.Value).Len"], unfollowed := true, recurses := true, apart := false }
def PairAgainSaid : Prop := pairAgainRow.holds Try.pinned (OpenSpec.ofChange pairAgainSpec)

/-- ITS FALSE NEIGHBOUR: 'it returns false'. Refute it at one input. -/
def pairAgainWrong : ChangeSpec := { name := "pairAgain", fn := fun _ => fun
  | [d1, d2, d3, d4, d5] => { results := [.lit (.bool false)], args := [d1, d2, d3, d4, d5] }
  | _ => none }
def PairAgainWrongFalsely : Prop := pairAgainRow.holds Try.pinned (OpenSpec.ofChange pairAgainWrong)

/- THE SECOND FORM. 'bulk': how many values and letters a reading holds, each counted each time it is reached (what is shared counts as often as it is met; a slice's spare places count too). A statement '..UptoSaid' is the law's where the arguments, and the package variables that the reading takes, are together of bulk at most 1048576: NARROWER than '..Said'. Prove '..Said' where nothing that the law and all that it calls make is longer than what came in: it says more and counts as full. Else prove '..UptoSaid'. A law counts once. -/
mutual
def uptoBulk {H : Type} : DataW H → Nat
  | .lit (.string bytes) => bytes.length + 1
  | .lit _ => 1
  | .nil => 1
  | .ptr d => uptoBulk d + 1
  | .slice elems spare => uptoBulkAll elems + uptoBulkAll spare + 1
  | .agg parts => uptoBulkAll parts + 1
  | .iface _ d => uptoBulk d + 1
  | .map entries => uptoBulkEntries entries + 1
  | .held _ => 1
def uptoBulkAll {H : Type} : List (DataW H) → Nat
  | [] => 0
  | d :: r => uptoBulk d + uptoBulkAll r
def uptoBulkEntries {H : Type} : List (Lit × DataW H) → Nat
  | [] => 0
  | x :: r => uptoBulkEntry x + uptoBulkEntries r
def uptoBulkEntry {H : Type} : Lit × DataW H → Nat
  | (.string bytes, d) => bytes.length + uptoBulk d + 1
  | (_, d) => uptoBulk d + 1
 end
def uptoSmall : (H : Type) → List (DataW H) → Bool := fun _ ds => decide (uptoBulkAll ds ≤ 1048576)
def OpenSpec.upto (s : _root_.Go.ChangeSpec) : _root_.Go.OpenSpec := { _root_.Go.OpenSpec.ofChange s with cond := some uptoSmall }

/-- 'shuttlelaw09.PairBrackets', WHERE WHAT IT READS IS OF BULK AT MOST 1048576: true; the input reads as it did. -/
def pairBracketsUptoRow : OpenClaim := { program := "ytgalccfhofimaaa", sum := "731a70307bf4c31f4a502c4ae5918c8d75a5bde495abad6dd0fe4a86f3ec1258", func := "shuttle/shuttlelaw09.PairBrackets", spec := "pairBrackets", inPlace := ["internal/reflectlite.ValueOf", "internal/reflectlite.Swapper", "(internal/reflectlite.Value).Len"], unfollowed := true, recurses := true, apart := false, narrowed := true }
def PairBracketsUptoSaid : Prop := pairBracketsUptoRow.holds Try.pinned (OpenSpec.upto pairBracketsSpec)

/-- 'shuttlelaw09.PairResolve', WHERE WHAT IT READS IS OF BULK AT MOST 1048576: true; the input reads as it did. -/
def pairResolveUptoRow : OpenClaim := { program := "ytgalccfhofimaaa", sum := "731a70307bf4c31f4a502c4ae5918c8d75a5bde495abad6dd0fe4a86f3ec1258", func := "shuttle/shuttlelaw09.PairResolve", spec := "pairResolve", inPlace := ["internal/reflectlite.ValueOf", "internal/reflectlite.Swapper", "(internal/reflectlite.Value).Len"], unfollowed := true, recurses := true, apart := false, narrowed := true }
def PairResolveUptoSaid : Prop := pairResolveUptoRow.holds Try.pinned (OpenSpec.upto pairResolveSpec)

/-- 'shuttlelaw09.PairNests', WHERE WHAT IT READS IS OF BULK AT MOST 1048576: true; the input reads as it did. -/
def pairNestsUptoRow : OpenClaim := { program := "ytgalccfhofimaaa", sum := "731a70307bf4c31f4a502c4ae5918c8d75a5bde495abad6dd0fe4a86f3ec1258", func := "shuttle/shuttlelaw09.PairNests", spec := "pairNests", inPlace := ["internal/reflectlite.ValueOf", "internal/reflectlite.Swapper", "(internal/reflectlite.Value).Len"], unfollowed := true, recurses := true, apart := false, narrowed := true }
def PairNestsUptoSaid : Prop := pairNestsUptoRow.holds Try.pinned (OpenSpec.upto pairNestsSpec)

/-- 'shuttlelaw09.PairStays', WHERE WHAT IT READS IS OF BULK AT MOST 1048576: true; the input reads as it did. -/
def pairStaysUptoRow : OpenClaim := { program := "ytgalccfhofimaaa", sum := "731a70307bf4c31f4a502c4ae5918c8d75a5bde495abad6dd0fe4a86f3ec1258", func := "shuttle/shuttlelaw09.PairStays", spec := "pairStays", inPlace := ["internal/reflectlite.ValueOf", "internal/reflectlite.Swapper", "(internal/reflectlite.Value).Len"], unfollowed := true, recurses := true, apart := false, narrowed := true }
def PairStaysUptoSaid : Prop := pairStaysUptoRow.holds Try.pinned (OpenSpec.upto pairStaysSpec)

/-- 'shuttlelaw09.PairAgain', WHERE WHAT IT READS IS OF BULK AT MOST 1048576: true; the input reads as it did. -/
def pairAgainUptoRow : OpenClaim := { program := "ytgalccfhofimaaa", sum := "731a70307bf4c31f4a502c4ae5918c8d75a5bde495abad6dd0fe4a86f3ec1258", func := "shuttle/shuttlelaw09.PairAgain", spec := "pairAgain", inPlace := ["internal/reflectlite.ValueOf", "internal/reflectlite.Swapper", "(internal/reflectlite.Value).Len"], unfollowed := true, recurses := true, apart := false, narrowed := true }
def PairAgainUptoSaid : Prop := pairAgainUptoRow.holds Try.pinned (OpenSpec.upto pairAgainSpec)

end Rows
end Go.Proofs.Ytgalccfhofimaaa
