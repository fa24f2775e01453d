/-
  DERIVED. GIVEN WITH THE SEED: THE CARDS: each row of YtlbclfmbejjneaaGreatDoorRows.lean that lists a variable, with what it lists TIED to the program's text (the seventh form; the later family's looks); each row that meets fmt, with fmt's text TOLD by the authors' own Lean function (tested against real Go, not proved from fmt's source: count such statements apart). THE CARD IS WHAT COUNTS. Prove the row's statement (the work); the ties are given (YtlbclfmbejjneaaGreatDoorTie.lean); close each card by the builder's one call (the guide's Derived/Test/ToyasCard.lean, 'card_holds'). Laid BY PROGRAM, IN A SANDBOX (cutbox-door.mjs). By AI agents, Wed Nov 11 2026. No macro, syntax, notation, axiom, sorry.
-/
import Derived.Test.YtlbclfmbejjneaaGreatDoorRows
import GoSem.ClaimSeven
namespace Go.Proofs.YtlbclfmbejjneaaGreatDoor
namespace Rows

/-- THE TIED CARD OF 'shuttlelaw15.RowTiles'. -/
def rowTilesCard : Claim7 := { stood := { row := rowTilesRow, standIns := [], harness := (true, "382fb15d6d722f2d5141f84e239137af1d566ef2bbadcc17db90bfb853255e5f"), looks := false }, kinds := [], alts := [], laidByText := true, laidKinds := [.data, .data, .data, .data, .pinned], laidTests := true, laidLooks := .later }
def RowTilesCardSaid : Prop := Claim7.holds Tryz.pinned (.plain (OpenSpec.ofChange rowTilesSpec)) rowTilesCard

/-- THE TIED CARD OF 'shuttlelaw15.RowShown'. -/
def rowShownCard : Claim7 := { stood := { row := rowShownRow, standIns := [], harness := (true, "382fb15d6d722f2d5141f84e239137af1d566ef2bbadcc17db90bfb853255e5f"), looks := false }, kinds := [], alts := [], laidByText := true, laidKinds := [.data, .data, .data, .data, .pinned], laidTests := true, laidLooks := .later }
def RowShownCardSaid : Prop := Claim7.holds Tryz.pinned (.plain (OpenSpec.ofChange rowShownSpec)) rowShownCard

/-- THE TIED CARD OF 'shuttlelaw15.RowEdges'. -/
def rowEdgesCard : Claim7 := { stood := { row := rowEdgesRow, standIns := [], harness := (true, "382fb15d6d722f2d5141f84e239137af1d566ef2bbadcc17db90bfb853255e5f"), looks := false }, kinds := [], alts := [], laidByText := true, laidKinds := [.data, .data, .data, .data, .pinned], laidTests := true, laidLooks := .later }
def RowEdgesCardSaid : Prop := Claim7.holds Tryz.pinned (.plain (OpenSpec.ofChange rowEdgesSpec)) rowEdgesCard

/-- THE TIED CARD OF 'shuttlelaw15.RowStraight'. -/
def rowStraightCard : Claim7 := { stood := { row := rowStraightRow, standIns := [], harness := (true, "382fb15d6d722f2d5141f84e239137af1d566ef2bbadcc17db90bfb853255e5f"), looks := false }, kinds := [], alts := [], laidByText := true, laidKinds := [.data, .data, .data, .data, .pinned], laidTests := true, laidLooks := .later }
def RowStraightCardSaid : Prop := Claim7.holds Tryz.pinned (.plain (OpenSpec.ofChange rowStraightSpec)) rowStraightCard

/-- THE TIED CARD OF 'shuttlelaw15.RowKnown'. -/
def rowKnownCard : Claim7 := { stood := { row := rowKnownRow, standIns := [], harness := (true, "382fb15d6d722f2d5141f84e239137af1d566ef2bbadcc17db90bfb853255e5f"), looks := false }, kinds := [], alts := [], laidByText := true, laidKinds := [.data, .data, .data, .data, .pinned], laidTests := true, laidLooks := .later }
def RowKnownCardSaid : Prop := Claim7.holds Tryz.pinned (.plain (OpenSpec.ofChange rowKnownSpec)) rowKnownCard

/-- THE TIED CARD OF 'shuttlelaw17.ChoiceCells'. -/
def choiceCellsCard : Claim7 := { stood := { row := choiceCellsRow, standIns := [], harness := (true, "382fb15d6d722f2d5141f84e239137af1d566ef2bbadcc17db90bfb853255e5f"), looks := false }, kinds := [], alts := [], laidByText := true, laidKinds := [.data, .data, .data, .data, .pinned], laidTests := true, laidLooks := .later }
def ChoiceCellsCardSaid : Prop := Claim7.holds Tryz.pinned (.plain (OpenSpec.ofChange choiceCellsSpec)) choiceCellsCard

/-- THE TIED CARD OF 'shuttlelaw17.ChoiceLines'. -/
def choiceLinesCard : Claim7 := { stood := { row := choiceLinesRow, standIns := [], harness := (true, "382fb15d6d722f2d5141f84e239137af1d566ef2bbadcc17db90bfb853255e5f"), looks := false }, kinds := [], alts := [], laidByText := true, laidKinds := [.data, .data, .data, .data, .pinned], laidTests := true, laidLooks := .later }
def ChoiceLinesCardSaid : Prop := Claim7.holds Tryz.pinned (.plain (OpenSpec.ofChange choiceLinesSpec)) choiceLinesCard

/-- THE TIED CARD OF 'shuttlelaw17.ChoiceKnown'. -/
def choiceKnownCard : Claim7 := { stood := { row := choiceKnownRow, standIns := [], harness := (true, "382fb15d6d722f2d5141f84e239137af1d566ef2bbadcc17db90bfb853255e5f"), looks := false }, kinds := [], alts := [], laidByText := true, laidKinds := [.data, .data, .data, .data, .pinned], laidTests := true, laidLooks := .later }
def ChoiceKnownCardSaid : Prop := Claim7.holds Tryz.pinned (.plain (OpenSpec.ofChange choiceKnownSpec)) choiceKnownCard

/-- THE TIED CARD OF 'shuttlelaw17.ChoiceHolds'. -/
def choiceHoldsCard : Claim7 := { stood := { row := choiceHoldsRow, standIns := [], harness := (true, "382fb15d6d722f2d5141f84e239137af1d566ef2bbadcc17db90bfb853255e5f"), looks := false }, kinds := [], alts := [], laidByText := true, laidKinds := [.data, .data, .data, .data, .pinned], laidTests := true, laidLooks := .later }
def ChoiceHoldsCardSaid : Prop := Claim7.holds Tryz.pinned (.plain (OpenSpec.ofChange choiceHoldsSpec)) choiceHoldsCard

/-- THE SECOND FORM's CARD OF 'shuttlelaw15.RowTiles'. -/
def rowTilesUptoCard : Claim7 := { stood := { row := rowTilesUptoRow, standIns := [], harness := (true, "382fb15d6d722f2d5141f84e239137af1d566ef2bbadcc17db90bfb853255e5f"), looks := false }, kinds := [], alts := [], laidByText := true, laidKinds := [.data, .data, .data, .data, .pinned], laidTests := true, laidLooks := .later }
def RowTilesUptoCardSaid : Prop := Claim7.holds Tryz.pinned (.plain (OpenSpec.upto rowTilesSpec)) rowTilesUptoCard

/-- THE SECOND FORM's CARD OF 'shuttlelaw15.RowShown'. -/
def rowShownUptoCard : Claim7 := { stood := { row := rowShownUptoRow, standIns := [], harness := (true, "382fb15d6d722f2d5141f84e239137af1d566ef2bbadcc17db90bfb853255e5f"), looks := false }, kinds := [], alts := [], laidByText := true, laidKinds := [.data, .data, .data, .data, .pinned], laidTests := true, laidLooks := .later }
def RowShownUptoCardSaid : Prop := Claim7.holds Tryz.pinned (.plain (OpenSpec.upto rowShownSpec)) rowShownUptoCard

/-- THE SECOND FORM's CARD OF 'shuttlelaw15.RowEdges'. -/
def rowEdgesUptoCard : Claim7 := { stood := { row := rowEdgesUptoRow, standIns := [], harness := (true, "382fb15d6d722f2d5141f84e239137af1d566ef2bbadcc17db90bfb853255e5f"), looks := false }, kinds := [], alts := [], laidByText := true, laidKinds := [.data, .data, .data, .data, .pinned], laidTests := true, laidLooks := .later }
def RowEdgesUptoCardSaid : Prop := Claim7.holds Tryz.pinned (.plain (OpenSpec.upto rowEdgesSpec)) rowEdgesUptoCard

/-- THE SECOND FORM's CARD OF 'shuttlelaw15.RowStraight'. -/
def rowStraightUptoCard : Claim7 := { stood := { row := rowStraightUptoRow, standIns := [], harness := (true, "382fb15d6d722f2d5141f84e239137af1d566ef2bbadcc17db90bfb853255e5f"), looks := false }, kinds := [], alts := [], laidByText := true, laidKinds := [.data, .data, .data, .data, .pinned], laidTests := true, laidLooks := .later }
def RowStraightUptoCardSaid : Prop := Claim7.holds Tryz.pinned (.plain (OpenSpec.upto rowStraightSpec)) rowStraightUptoCard

/-- THE SECOND FORM's CARD OF 'shuttlelaw15.RowKnown'. -/
def rowKnownUptoCard : Claim7 := { stood := { row := rowKnownUptoRow, standIns := [], harness := (true, "382fb15d6d722f2d5141f84e239137af1d566ef2bbadcc17db90bfb853255e5f"), looks := false }, kinds := [], alts := [], laidByText := true, laidKinds := [.data, .data, .data, .data, .pinned], laidTests := true, laidLooks := .later }
def RowKnownUptoCardSaid : Prop := Claim7.holds Tryz.pinned (.plain (OpenSpec.upto rowKnownSpec)) rowKnownUptoCard

/-- THE SECOND FORM's CARD OF 'shuttlelaw17.ChoiceCells'. -/
def choiceCellsUptoCard : Claim7 := { stood := { row := choiceCellsUptoRow, standIns := [], harness := (true, "382fb15d6d722f2d5141f84e239137af1d566ef2bbadcc17db90bfb853255e5f"), looks := false }, kinds := [], alts := [], laidByText := true, laidKinds := [.data, .data, .data, .data, .pinned], laidTests := true, laidLooks := .later }
def ChoiceCellsUptoCardSaid : Prop := Claim7.holds Tryz.pinned (.plain (OpenSpec.upto choiceCellsSpec)) choiceCellsUptoCard

/-- THE SECOND FORM's CARD OF 'shuttlelaw17.ChoiceLines'. -/
def choiceLinesUptoCard : Claim7 := { stood := { row := choiceLinesUptoRow, standIns := [], harness := (true, "382fb15d6d722f2d5141f84e239137af1d566ef2bbadcc17db90bfb853255e5f"), looks := false }, kinds := [], alts := [], laidByText := true, laidKinds := [.data, .data, .data, .data, .pinned], laidTests := true, laidLooks := .later }
def ChoiceLinesUptoCardSaid : Prop := Claim7.holds Tryz.pinned (.plain (OpenSpec.upto choiceLinesSpec)) choiceLinesUptoCard

/-- THE SECOND FORM's CARD OF 'shuttlelaw17.ChoiceKnown'. -/
def choiceKnownUptoCard : Claim7 := { stood := { row := choiceKnownUptoRow, standIns := [], harness := (true, "382fb15d6d722f2d5141f84e239137af1d566ef2bbadcc17db90bfb853255e5f"), looks := false }, kinds := [], alts := [], laidByText := true, laidKinds := [.data, .data, .data, .data, .pinned], laidTests := true, laidLooks := .later }
def ChoiceKnownUptoCardSaid : Prop := Claim7.holds Tryz.pinned (.plain (OpenSpec.upto choiceKnownSpec)) choiceKnownUptoCard

/-- THE SECOND FORM's CARD OF 'shuttlelaw17.ChoiceHolds'. -/
def choiceHoldsUptoCard : Claim7 := { stood := { row := choiceHoldsUptoRow, standIns := [], harness := (true, "382fb15d6d722f2d5141f84e239137af1d566ef2bbadcc17db90bfb853255e5f"), looks := false }, kinds := [], alts := [], laidByText := true, laidKinds := [.data, .data, .data, .data, .pinned], laidTests := true, laidLooks := .later }
def ChoiceHoldsUptoCardSaid : Prop := Claim7.holds Tryz.pinned (.plain (OpenSpec.upto choiceHoldsSpec)) choiceHoldsUptoCard
end Rows
end Go.Proofs.YtlbclfmbejjneaaGreatDoor
