/-
  No cell of these rows narrows 'for every input' (looked for: loops, veiled, ifaces, maps, wideKeys, modest, calm, conditions, laid).
  DERIVED. THE GIVEN ROWS OF THIS SEAT. 8 by the template 'for every input the law returns true; each argument reads behind the call as it read before'; 0 by the template 'total and deterministic' (their statements: YtbhhebheclfdlaaTotals.lean).
  GIVEN WITH THE SEED: the statements are not yours to turn. If you find one false, say at which input.
  Laid BY PROGRAM, IN A SANDBOX (cutbox-rows.mjs): the forced cells as the released guide's own fill.sh prints them over the translation 6d13f7347d66e843… (all of the seat's roots in one cut). By AI agents, Wed Nov 11 2026. No macro, syntax, notation, axiom, sorry.
-/
import Derived.Test.YtbhhebheclfdlaaChecked
import GoSem.Claim
import GoSem.ClaimJoined
import GoSem.ClaimMapViews
import Derived.JoinedTies
import Derived.KernelRfl
namespace Go.Proofs.Ytbhhebheclfdlaa
/- THE CELL 'sum', in the pinned program and in every row, IS THE sha256 OF THE DUMP (.gsa) THAT YtbhhebheclfdlaaProg.lean LOADS. Nothing in Lean hashes anything: it is a label: what it is worth is what the hold of that sum in a sandbox is worth. -/
noncomputable def Try.pinned : Pinned := { name := "ytbhhebheclfdlaa", sum := "6d13f7347d66e8436d5bcb643796071e24f975b1ad5d6bb45719d1a95e1709a0", checked := Try.checked }
namespace Rows
def none {H : Type} : Left H := { results := [], args := [] }

/-- 'shuttlelaw10.VisualRow': WHATEVER THE INPUT: true; the input reads as it did. -/
def visualRowSpec : ChangeSpec := { name := "visualRow", fn := fun _ => fun
  | [d1, d2, d3] => { results := [.lit (.bool true)], args := [d1, d2, d3] }
  | _ => none }
def visualRowRow : OpenClaim := { program := "ytbhhebheclfdlaa", sum := "6d13f7347d66e8436d5bcb643796071e24f975b1ad5d6bb45719d1a95e1709a0", func := "shuttle/shuttlelaw10.VisualRow", spec := "visualRow", inPlace := ["internal/reflectlite.ValueOf", "internal/reflectlite.Swapper", "(internal/reflectlite.Value).Len"], unfollowed := true, recurses := true, apart := false }
def VisualRowSaid : Prop := visualRowRow.holds Try.pinned (OpenSpec.ofChange visualRowSpec)

/-- ITS FALSE NEIGHBOUR: 'it returns false'. Refute it at one input. -/
def visualRowWrong : ChangeSpec := { name := "visualRow", fn := fun _ => fun
  | [d1, d2, d3] => { results := [.lit (.bool false)], args := [d1, d2, d3] }
  | _ => none }
def VisualRowWrongFalsely : Prop := visualRowRow.holds Try.pinned (OpenSpec.ofChange visualRowWrong)

/-- 'shuttlelaw10.VisualOrder': WHATEVER THE INPUT: true; the input reads as it did. -/
def visualOrderSpec : ChangeSpec := { name := "visualOrder", fn := fun _ => fun
  | [d1, d2] => { results := [.lit (.bool true)], args := [d1, d2] }
  | _ => none }
def visualOrderRow : OpenClaim := { program := "ytbhhebheclfdlaa", sum := "6d13f7347d66e8436d5bcb643796071e24f975b1ad5d6bb45719d1a95e1709a0", func := "shuttle/shuttlelaw10.VisualOrder", spec := "visualOrder", inPlace := ["internal/reflectlite.ValueOf", "internal/reflectlite.Swapper", "(internal/reflectlite.Value).Len"], unfollowed := true, recurses := true, apart := false }
def VisualOrderSaid : Prop := visualOrderRow.holds Try.pinned (OpenSpec.ofChange visualOrderSpec)

/-- ITS FALSE NEIGHBOUR: 'it returns false'. Refute it at one input. -/
def visualOrderWrong : ChangeSpec := { name := "visualOrder", fn := fun _ => fun
  | [d1, d2] => { results := [.lit (.bool false)], args := [d1, d2] }
  | _ => none }
def VisualOrderWrongFalsely : Prop := visualOrderRow.holds Try.pinned (OpenSpec.ofChange visualOrderWrong)

/-- 'shuttlelaw10.VisualMirrored': WHATEVER THE INPUT: true; the input reads as it did. -/
def visualMirroredSpec : ChangeSpec := { name := "visualMirrored", fn := fun _ => fun
  | [d1, d2] => { results := [.lit (.bool true)], args := [d1, d2] }
  | _ => none }
def visualMirroredRow : OpenClaim := { program := "ytbhhebheclfdlaa", sum := "6d13f7347d66e8436d5bcb643796071e24f975b1ad5d6bb45719d1a95e1709a0", func := "shuttle/shuttlelaw10.VisualMirrored", spec := "visualMirrored", inPlace := ["internal/reflectlite.ValueOf", "internal/reflectlite.Swapper", "(internal/reflectlite.Value).Len"], unfollowed := true, recurses := true, apart := false }
def VisualMirroredSaid : Prop := visualMirroredRow.holds Try.pinned (OpenSpec.ofChange visualMirroredSpec)

/-- ITS FALSE NEIGHBOUR: 'it returns false'. Refute it at one input. -/
def visualMirroredWrong : ChangeSpec := { name := "visualMirrored", fn := fun _ => fun
  | [d1, d2] => { results := [.lit (.bool false)], args := [d1, d2] }
  | _ => none }
def VisualMirroredWrongFalsely : Prop := visualMirroredRow.holds Try.pinned (OpenSpec.ofChange visualMirroredWrong)

/-- 'shuttlelaw10.VisualTurns': WHATEVER THE INPUT: true; the input reads as it did. -/
def visualTurnsSpec : ChangeSpec := { name := "visualTurns", fn := fun _ => fun
  | [d] => { results := [.lit (.bool true)], args := [d] }
  | _ => none }
def visualTurnsRow : OpenClaim := { program := "ytbhhebheclfdlaa", sum := "6d13f7347d66e8436d5bcb643796071e24f975b1ad5d6bb45719d1a95e1709a0", func := "shuttle/shuttlelaw10.VisualTurns", spec := "visualTurns", inPlace := ["internal/reflectlite.ValueOf", "internal/reflectlite.Swapper", "(internal/reflectlite.Value).Len"], unfollowed := true, recurses := true, apart := false }
def VisualTurnsSaid : Prop := visualTurnsRow.holds Try.pinned (OpenSpec.ofChange visualTurnsSpec)

/-- ITS FALSE NEIGHBOUR: 'it returns false'. Refute it at one input. -/
def visualTurnsWrong : ChangeSpec := { name := "visualTurns", fn := fun _ => fun
  | [d] => { results := [.lit (.bool false)], args := [d] }
  | _ => none }
def VisualTurnsWrongFalsely : Prop := visualTurnsRow.holds Try.pinned (OpenSpec.ofChange visualTurnsWrong)

/-- 'shuttlelaw10.VisualBounds': WHATEVER THE INPUT: true; the input reads as it did. -/
def visualBoundsSpec : ChangeSpec := { name := "visualBounds", fn := fun _ => fun
  | [d1, d2] => { results := [.lit (.bool true)], args := [d1, d2] }
  | _ => none }
def visualBoundsRow : OpenClaim := { program := "ytbhhebheclfdlaa", sum := "6d13f7347d66e8436d5bcb643796071e24f975b1ad5d6bb45719d1a95e1709a0", func := "shuttle/shuttlelaw10.VisualBounds", spec := "visualBounds", inPlace := ["internal/reflectlite.ValueOf", "internal/reflectlite.Swapper", "(internal/reflectlite.Value).Len"], unfollowed := true, recurses := true, apart := false }
def VisualBoundsSaid : Prop := visualBoundsRow.holds Try.pinned (OpenSpec.ofChange visualBoundsSpec)

/-- ITS FALSE NEIGHBOUR: 'it returns false'. Refute it at one input. -/
def visualBoundsWrong : ChangeSpec := { name := "visualBounds", fn := fun _ => fun
  | [d1, d2] => { results := [.lit (.bool false)], args := [d1, d2] }
  | _ => none }
def VisualBoundsWrongFalsely : Prop := visualBoundsRow.holds Try.pinned (OpenSpec.ofChange visualBoundsWrong)

/-- 'shuttlelaw10.VisualParts': WHATEVER THE INPUT: true; the input reads as it did. -/
def visualPartsSpec : ChangeSpec := { name := "visualParts", fn := fun _ => fun
  | [d1, d2, d3] => { results := [.lit (.bool true)], args := [d1, d2, d3] }
  | _ => none }
def visualPartsRow : OpenClaim := { program := "ytbhhebheclfdlaa", sum := "6d13f7347d66e8436d5bcb643796071e24f975b1ad5d6bb45719d1a95e1709a0", func := "shuttle/shuttlelaw10.VisualParts", spec := "visualParts", inPlace := ["internal/reflectlite.ValueOf", "internal/reflectlite.Swapper", "(internal/reflectlite.Value).Len"], unfollowed := true, recurses := true, apart := false }
def VisualPartsSaid : Prop := visualPartsRow.holds Try.pinned (OpenSpec.ofChange visualPartsSpec)

/-- ITS FALSE NEIGHBOUR: 'it returns false'. Refute it at one input. -/
def visualPartsWrong : ChangeSpec := { name := "visualParts", fn := fun _ => fun
  | [d1, d2, d3] => { results := [.lit (.bool false)], args := [d1, d2, d3] }
  | _ => none }
def VisualPartsWrongFalsely : Prop := visualPartsRow.holds Try.pinned (OpenSpec.ofChange visualPartsWrong)

/-- 'shuttlelaw10.VisualIsolates': WHATEVER THE INPUT: true; the input reads as it did. -/
def visualIsolatesSpec : ChangeSpec := { name := "visualIsolates", fn := fun _ => fun
  | [d1, d2] => { results := [.lit (.bool true)], args := [d1, d2] }
  | _ => none }
def visualIsolatesRow : OpenClaim := { program := "ytbhhebheclfdlaa", sum := "6d13f7347d66e8436d5bcb643796071e24f975b1ad5d6bb45719d1a95e1709a0", func := "shuttle/shuttlelaw10.VisualIsolates", spec := "visualIsolates", inPlace := ["internal/reflectlite.ValueOf", "internal/reflectlite.Swapper", "(internal/reflectlite.Value).Len"], unfollowed := true, recurses := true, apart := false }
def VisualIsolatesSaid : Prop := visualIsolatesRow.holds Try.pinned (OpenSpec.ofChange visualIsolatesSpec)

/-- ITS FALSE NEIGHBOUR: 'it returns false'. Refute it at one input. -/
def visualIsolatesWrong : ChangeSpec := { name := "visualIsolates", fn := fun _ => fun
  | [d1, d2] => { results := [.lit (.bool false)], args := [d1, d2] }
  | _ => none }
def VisualIsolatesWrongFalsely : Prop := visualIsolatesRow.holds Try.pinned (OpenSpec.ofChange visualIsolatesWrong)

/-- 'shuttlelaw10.VisualPairs': WHATEVER THE INPUT: true; the input reads as it did. -/
def visualPairsSpec : ChangeSpec := { name := "visualPairs", fn := fun _ => fun
  | [d1, d2] => { results := [.lit (.bool true)], args := [d1, d2] }
  | _ => none }
def visualPairsRow : OpenClaim := { program := "ytbhhebheclfdlaa", sum := "6d13f7347d66e8436d5bcb643796071e24f975b1ad5d6bb45719d1a95e1709a0", func := "shuttle/shuttlelaw10.VisualPairs", spec := "visualPairs", inPlace := ["internal/reflectlite.ValueOf", "internal/reflectlite.Swapper", "(internal/reflectlite.Value).Len"], unfollowed := true, recurses := true, apart := false }
def VisualPairsSaid : Prop := visualPairsRow.holds Try.pinned (OpenSpec.ofChange visualPairsSpec)

/-- ITS FALSE NEIGHBOUR: 'it returns false'. Refute it at one input. -/
def visualPairsWrong : ChangeSpec := { name := "visualPairs", fn := fun _ => fun
  | [d1, d2] => { results := [.lit (.bool false)], args := [d1, d2] }
  | _ => none }
def VisualPairsWrongFalsely : Prop := visualPairsRow.holds Try.pinned (OpenSpec.ofChange visualPairsWrong)

/- THE SECOND FORM. 'bulk': how many values and letters a reading holds, each counted each time it is reached (what is shared counts as often as it is met; a slice's spare places count too). A statement '..UptoSaid' is the law's where the arguments, and the package variables that the reading takes, are together of bulk at most 1048576: NARROWER than '..Said'. Prove '..Said' where nothing that the law and all that it calls make is longer than what came in: it says more and counts as full. Else prove '..UptoSaid'. A law counts once. -/
mutual
def uptoBulk {H : Type} : DataW H → Nat
  | .lit (.string bytes) => bytes.length + 1
  | .lit _ => 1
  | .nil => 1
  | .ptr d => uptoBulk d + 1
  | .slice elems spare => uptoBulkAll elems + uptoBulkAll spare + 1
  | .agg parts => uptoBulkAll parts + 1
  | .iface _ d => uptoBulk d + 1
  | .map entries => uptoBulkEntries entries + 1
  | .held _ => 1
def uptoBulkAll {H : Type} : List (DataW H) → Nat
  | [] => 0
  | d :: r => uptoBulk d + uptoBulkAll r
def uptoBulkEntries {H : Type} : List (Lit × DataW H) → Nat
  | [] => 0
  | x :: r => uptoBulkEntry x + uptoBulkEntries r
def uptoBulkEntry {H : Type} : Lit × DataW H → Nat
  | (.string bytes, d) => bytes.length + uptoBulk d + 1
  | (_, d) => uptoBulk d + 1
 end
def uptoSmall : (H : Type) → List (DataW H) → Bool := fun _ ds => decide (uptoBulkAll ds ≤ 1048576)
def OpenSpec.upto (s : _root_.Go.ChangeSpec) : _root_.Go.OpenSpec := { _root_.Go.OpenSpec.ofChange s with cond := some uptoSmall }

/-- 'shuttlelaw10.VisualRow', WHERE WHAT IT READS IS OF BULK AT MOST 1048576: true; the input reads as it did. -/
def visualRowUptoRow : OpenClaim := { program := "ytbhhebheclfdlaa", sum := "6d13f7347d66e8436d5bcb643796071e24f975b1ad5d6bb45719d1a95e1709a0", func := "shuttle/shuttlelaw10.VisualRow", spec := "visualRow", inPlace := ["internal/reflectlite.ValueOf", "internal/reflectlite.Swapper", "(internal/reflectlite.Value).Len"], unfollowed := true, recurses := true, apart := false, narrowed := true }
def VisualRowUptoSaid : Prop := visualRowUptoRow.holds Try.pinned (OpenSpec.upto visualRowSpec)

/-- 'shuttlelaw10.VisualOrder', WHERE WHAT IT READS IS OF BULK AT MOST 1048576: true; the input reads as it did. -/
def visualOrderUptoRow : OpenClaim := { program := "ytbhhebheclfdlaa", sum := "6d13f7347d66e8436d5bcb643796071e24f975b1ad5d6bb45719d1a95e1709a0", func := "shuttle/shuttlelaw10.VisualOrder", spec := "visualOrder", inPlace := ["internal/reflectlite.ValueOf", "internal/reflectlite.Swapper", "(internal/reflectlite.Value).Len"], unfollowed := true, recurses := true, apart := false, narrowed := true }
def VisualOrderUptoSaid : Prop := visualOrderUptoRow.holds Try.pinned (OpenSpec.upto visualOrderSpec)

/-- 'shuttlelaw10.VisualMirrored', WHERE WHAT IT READS IS OF BULK AT MOST 1048576: true; the input reads as it did. -/
def visualMirroredUptoRow : OpenClaim := { program := "ytbhhebheclfdlaa", sum := "6d13f7347d66e8436d5bcb643796071e24f975b1ad5d6bb45719d1a95e1709a0", func := "shuttle/shuttlelaw10.VisualMirrored", spec := "visualMirrored", inPlace := ["internal/reflectlite.ValueOf", "internal/reflectlite.Swapper", "(internal/reflectlite.Value).Len"], unfollowed := true, recurses := true, apart := false, narrowed := true }
def VisualMirroredUptoSaid : Prop := visualMirroredUptoRow.holds Try.pinned (OpenSpec.upto visualMirroredSpec)

/-- 'shuttlelaw10.VisualTurns', WHERE WHAT IT READS IS OF BULK AT MOST 1048576: true; the input reads as it did. -/
def visualTurnsUptoRow : OpenClaim := { program := "ytbhhebheclfdlaa", sum := "6d13f7347d66e8436d5bcb643796071e24f975b1ad5d6bb45719d1a95e1709a0", func := "shuttle/shuttlelaw10.VisualTurns", spec := "visualTurns", inPlace := ["internal/reflectlite.ValueOf", "internal/reflectlite.Swapper", "(internal/reflectlite.Value).Len"], unfollowed := true, recurses := true, apart := false, narrowed := true }
def VisualTurnsUptoSaid : Prop := visualTurnsUptoRow.holds Try.pinned (OpenSpec.upto visualTurnsSpec)

/-- 'shuttlelaw10.VisualBounds', WHERE WHAT IT READS IS OF BULK AT MOST 1048576: true; the input reads as it did. -/
def visualBoundsUptoRow : OpenClaim := { program := "ytbhhebheclfdlaa", sum := "6d13f7347d66e8436d5bcb643796071e24f975b1ad5d6bb45719d1a95e1709a0", func := "shuttle/shuttlelaw10.VisualBounds", spec := "visualBounds", inPlace := ["internal/reflectlite.ValueOf", "internal/reflectlite.Swapper", "(internal/reflectlite.Value).Len"], unfollowed := true, recurses := true, apart := false, narrowed := true }
def VisualBoundsUptoSaid : Prop := visualBoundsUptoRow.holds Try.pinned (OpenSpec.upto visualBoundsSpec)

/-- 'shuttlelaw10.VisualParts', WHERE WHAT IT READS IS OF BULK AT MOST 1048576: true; the input reads as it did. -/
def visualPartsUptoRow : OpenClaim := { program := "ytbhhebheclfdlaa", sum := "6d13f7347d66e8436d5bcb643796071e24f975b1ad5d6bb45719d1a95e1709a0", func := "shuttle/shuttlelaw10.VisualParts", spec := "visualParts", inPlace := ["internal/reflectlite.ValueOf", "internal/reflectlite.Swapper", "(internal/reflectlite.Value).Len"], unfollowed := true, recurses := true, apart := false, narrowed := true }
def VisualPartsUptoSaid : Prop := visualPartsUptoRow.holds Try.pinned (OpenSpec.upto visualPartsSpec)

/-- 'shuttlelaw10.VisualIsolates', WHERE WHAT IT READS IS OF BULK AT MOST 1048576: true; the input reads as it did. -/
def visualIsolatesUptoRow : OpenClaim := { program := "ytbhhebheclfdlaa", sum := "6d13f7347d66e8436d5bcb643796071e24f975b1ad5d6bb45719d1a95e1709a0", func := "shuttle/shuttlelaw10.VisualIsolates", spec := "visualIsolates", inPlace := ["internal/reflectlite.ValueOf", "internal/reflectlite.Swapper", "(internal/reflectlite.Value).Len"], unfollowed := true, recurses := true, apart := false, narrowed := true }
def VisualIsolatesUptoSaid : Prop := visualIsolatesUptoRow.holds Try.pinned (OpenSpec.upto visualIsolatesSpec)

/-- 'shuttlelaw10.VisualPairs', WHERE WHAT IT READS IS OF BULK AT MOST 1048576: true; the input reads as it did. -/
def visualPairsUptoRow : OpenClaim := { program := "ytbhhebheclfdlaa", sum := "6d13f7347d66e8436d5bcb643796071e24f975b1ad5d6bb45719d1a95e1709a0", func := "shuttle/shuttlelaw10.VisualPairs", spec := "visualPairs", inPlace := ["internal/reflectlite.ValueOf", "internal/reflectlite.Swapper", "(internal/reflectlite.Value).Len"], unfollowed := true, recurses := true, apart := false, narrowed := true }
def VisualPairsUptoSaid : Prop := visualPairsUptoRow.holds Try.pinned (OpenSpec.upto visualPairsSpec)

end Rows
end Go.Proofs.Ytbhhebheclfdlaa
