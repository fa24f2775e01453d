/-
  DERIVED. GIVEN WITH THE SEED: THE CARDS: each row of YtncplikdjcmoeaaGreatDoorRows.lean that lists a variable, with what it lists TIED to the program's text (the seventh form; the later family's looks); each row that meets fmt, with fmt's text TOLD by the authors' own Lean function (tested against real Go, not proved from fmt's source: count such statements apart). THE CARD IS WHAT COUNTS. Prove the row's statement (the work); the ties are given (YtncplikdjcmoeaaGreatDoorTie.lean); close each card by the builder's one call (the guide's Derived/Test/ToyasCard.lean, 'card_holds'). Laid BY PROGRAM, IN A SANDBOX (cutbox-door.mjs). By AI agents, Wed Nov 11 2026. No macro, syntax, notation, axiom, sorry.
-/
import Derived.Test.YtncplikdjcmoeaaGreatDoorRows
import GoSem.ClaimSeven
namespace Go.Proofs.YtncplikdjcmoeaaGreatDoor
namespace Rows

/-- THE TIED CARD OF 'shuttlelaw15.RowEdges'. -/
def rowEdgesCard : Claim7 := { stood := { row := rowEdgesRow, standIns := [], harness := (true, "063f2608a82e61c7b1e1d0034a16923742c68c2747c62d4424def5b1464b1664"), looks := false }, kinds := [], alts := [], laidByText := true, laidKinds := [.data, .data, .data, .data, .pinned], laidTests := true, laidLooks := .later }
def RowEdgesCardSaid : Prop := Claim7.holds Tryz.pinned (.plain (OpenSpec.ofChange rowEdgesSpec)) rowEdgesCard

/-- THE TIED CARD OF 'shuttlelaw25.PaintTiles'. -/
def paintTilesCard : Claim7 := { stood := { row := paintTilesRow, standIns := [], harness := (true, "063f2608a82e61c7b1e1d0034a16923742c68c2747c62d4424def5b1464b1664"), looks := false }, kinds := [], alts := [], laidByText := true, laidKinds := [.data, .data, .data, .data, .pinned], laidTests := true, laidLooks := .later }
def PaintTilesCardSaid : Prop := Claim7.holds Tryz.pinned (.plain (OpenSpec.ofChange paintTilesSpec)) paintTilesCard

/-- THE TIED CARD OF 'shuttlelaw25.PaintNil'. -/
def paintNilCard : Claim7 := { stood := { row := paintNilRow, standIns := [], harness := (true, "063f2608a82e61c7b1e1d0034a16923742c68c2747c62d4424def5b1464b1664"), looks := false }, kinds := [], alts := [], laidByText := true, laidKinds := [.data, .data, .data, .data, .pinned], laidTests := true, laidLooks := .later }
def PaintNilCardSaid : Prop := Claim7.holds Tryz.pinned (.plain (OpenSpec.ofChange paintNilSpec)) paintNilCard

/-- THE TIED CARD OF 'shuttlelaw25.PaintParts'. -/
def paintPartsCard : Claim7 := { stood := { row := paintPartsRow, standIns := [], harness := (true, "063f2608a82e61c7b1e1d0034a16923742c68c2747c62d4424def5b1464b1664"), looks := false }, kinds := [], alts := [], laidByText := true, laidKinds := [.data, .data, .data, .data, .pinned], laidTests := true, laidLooks := .later }
def PaintPartsCardSaid : Prop := Claim7.holds Tryz.pinned (.plain (OpenSpec.ofChange paintPartsSpec)) paintPartsCard

/-- THE TIED CARD OF 'shuttlelaw16.CaretWalks'. -/
def caretWalksCard : Claim7 := { stood := { row := caretWalksRow, standIns := [], harness := (true, "063f2608a82e61c7b1e1d0034a16923742c68c2747c62d4424def5b1464b1664"), looks := false }, kinds := [], alts := [], laidByText := true, laidKinds := [.data, .data, .data, .data, .pinned], laidTests := true, laidLooks := .later }
def CaretWalksCardSaid : Prop := Claim7.holds Tryz.pinned (.plain (OpenSpec.ofChange caretWalksSpec)) caretWalksCard

/-- THE TIED CARD OF 'shuttlelaw16.CaretDown'. -/
def caretDownCard : Claim7 := { stood := { row := caretDownRow, standIns := [], harness := (true, "063f2608a82e61c7b1e1d0034a16923742c68c2747c62d4424def5b1464b1664"), looks := false }, kinds := [], alts := [], laidByText := true, laidKinds := [.data, .data, .data, .data, .pinned], laidTests := true, laidLooks := .later }
def CaretDownCardSaid : Prop := Claim7.holds Tryz.pinned (.plain (OpenSpec.ofChange caretDownSpec)) caretDownCard

/-- THE TIED CARD OF 'shuttlelaw16.CaretSides'. -/
def caretSidesCard : Claim7 := { stood := { row := caretSidesRow, standIns := [], harness := (true, "063f2608a82e61c7b1e1d0034a16923742c68c2747c62d4424def5b1464b1664"), looks := false }, kinds := [], alts := [], laidByText := true, laidKinds := [.data, .data, .data, .data, .pinned], laidTests := true, laidLooks := .later }
def CaretSidesCardSaid : Prop := Claim7.holds Tryz.pinned (.plain (OpenSpec.ofChange caretSidesSpec)) caretSidesCard

/-- THE TIED CARD OF 'shuttlelaw16.CaretThere'. -/
def caretThereCard : Claim7 := { stood := { row := caretThereRow, standIns := [], harness := (true, "063f2608a82e61c7b1e1d0034a16923742c68c2747c62d4424def5b1464b1664"), looks := false }, kinds := [], alts := [], laidByText := true, laidKinds := [.data, .data, .data, .data, .pinned], laidTests := true, laidLooks := .later }
def CaretThereCardSaid : Prop := Claim7.holds Tryz.pinned (.plain (OpenSpec.ofChange caretThereSpec)) caretThereCard

/-- THE SECOND FORM's CARD OF 'shuttlelaw15.RowEdges'. -/
def rowEdgesUptoCard : Claim7 := { stood := { row := rowEdgesUptoRow, standIns := [], harness := (true, "063f2608a82e61c7b1e1d0034a16923742c68c2747c62d4424def5b1464b1664"), looks := false }, kinds := [], alts := [], laidByText := true, laidKinds := [.data, .data, .data, .data, .pinned], laidTests := true, laidLooks := .later }
def RowEdgesUptoCardSaid : Prop := Claim7.holds Tryz.pinned (.plain (OpenSpec.upto rowEdgesSpec)) rowEdgesUptoCard

/-- THE SECOND FORM's CARD OF 'shuttlelaw25.PaintTiles'. -/
def paintTilesUptoCard : Claim7 := { stood := { row := paintTilesUptoRow, standIns := [], harness := (true, "063f2608a82e61c7b1e1d0034a16923742c68c2747c62d4424def5b1464b1664"), looks := false }, kinds := [], alts := [], laidByText := true, laidKinds := [.data, .data, .data, .data, .pinned], laidTests := true, laidLooks := .later }
def PaintTilesUptoCardSaid : Prop := Claim7.holds Tryz.pinned (.plain (OpenSpec.upto paintTilesSpec)) paintTilesUptoCard

/-- THE SECOND FORM's CARD OF 'shuttlelaw25.PaintNil'. -/
def paintNilUptoCard : Claim7 := { stood := { row := paintNilUptoRow, standIns := [], harness := (true, "063f2608a82e61c7b1e1d0034a16923742c68c2747c62d4424def5b1464b1664"), looks := false }, kinds := [], alts := [], laidByText := true, laidKinds := [.data, .data, .data, .data, .pinned], laidTests := true, laidLooks := .later }
def PaintNilUptoCardSaid : Prop := Claim7.holds Tryz.pinned (.plain (OpenSpec.upto paintNilSpec)) paintNilUptoCard

/-- THE SECOND FORM's CARD OF 'shuttlelaw25.PaintParts'. -/
def paintPartsUptoCard : Claim7 := { stood := { row := paintPartsUptoRow, standIns := [], harness := (true, "063f2608a82e61c7b1e1d0034a16923742c68c2747c62d4424def5b1464b1664"), looks := false }, kinds := [], alts := [], laidByText := true, laidKinds := [.data, .data, .data, .data, .pinned], laidTests := true, laidLooks := .later }
def PaintPartsUptoCardSaid : Prop := Claim7.holds Tryz.pinned (.plain (OpenSpec.upto paintPartsSpec)) paintPartsUptoCard

/-- THE SECOND FORM's CARD OF 'shuttlelaw16.CaretWalks'. -/
def caretWalksUptoCard : Claim7 := { stood := { row := caretWalksUptoRow, standIns := [], harness := (true, "063f2608a82e61c7b1e1d0034a16923742c68c2747c62d4424def5b1464b1664"), looks := false }, kinds := [], alts := [], laidByText := true, laidKinds := [.data, .data, .data, .data, .pinned], laidTests := true, laidLooks := .later }
def CaretWalksUptoCardSaid : Prop := Claim7.holds Tryz.pinned (.plain (OpenSpec.upto caretWalksSpec)) caretWalksUptoCard

/-- THE SECOND FORM's CARD OF 'shuttlelaw16.CaretDown'. -/
def caretDownUptoCard : Claim7 := { stood := { row := caretDownUptoRow, standIns := [], harness := (true, "063f2608a82e61c7b1e1d0034a16923742c68c2747c62d4424def5b1464b1664"), looks := false }, kinds := [], alts := [], laidByText := true, laidKinds := [.data, .data, .data, .data, .pinned], laidTests := true, laidLooks := .later }
def CaretDownUptoCardSaid : Prop := Claim7.holds Tryz.pinned (.plain (OpenSpec.upto caretDownSpec)) caretDownUptoCard

/-- THE SECOND FORM's CARD OF 'shuttlelaw16.CaretSides'. -/
def caretSidesUptoCard : Claim7 := { stood := { row := caretSidesUptoRow, standIns := [], harness := (true, "063f2608a82e61c7b1e1d0034a16923742c68c2747c62d4424def5b1464b1664"), looks := false }, kinds := [], alts := [], laidByText := true, laidKinds := [.data, .data, .data, .data, .pinned], laidTests := true, laidLooks := .later }
def CaretSidesUptoCardSaid : Prop := Claim7.holds Tryz.pinned (.plain (OpenSpec.upto caretSidesSpec)) caretSidesUptoCard

/-- THE SECOND FORM's CARD OF 'shuttlelaw16.CaretThere'. -/
def caretThereUptoCard : Claim7 := { stood := { row := caretThereUptoRow, standIns := [], harness := (true, "063f2608a82e61c7b1e1d0034a16923742c68c2747c62d4424def5b1464b1664"), looks := false }, kinds := [], alts := [], laidByText := true, laidKinds := [.data, .data, .data, .data, .pinned], laidTests := true, laidLooks := .later }
def CaretThereUptoCardSaid : Prop := Claim7.holds Tryz.pinned (.plain (OpenSpec.upto caretThereSpec)) caretThereUptoCard
end Rows
end Go.Proofs.YtncplikdjcmoeaaGreatDoor
