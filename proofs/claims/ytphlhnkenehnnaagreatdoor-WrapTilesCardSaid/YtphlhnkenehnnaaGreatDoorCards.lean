/-
  DERIVED. GIVEN WITH THE SEED: THE CARDS: each row of YtphlhnkenehnnaaGreatDoorRows.lean that lists a variable, with what it lists TIED to the program's text (the seventh form; the later family's looks); each row that meets fmt, with fmt's text TOLD by the authors' own Lean function (tested against real Go, not proved from fmt's source: count such statements apart). THE CARD IS WHAT COUNTS. Prove the row's statement (the work); the ties are given (YtphlhnkenehnnaaGreatDoorTie.lean); close each card by the builder's one call (the guide's Derived/Test/ToyasCard.lean, 'card_holds'). Laid BY PROGRAM, IN A SANDBOX (cutbox-door.mjs). By AI agents, Wed Nov 11 2026. No macro, syntax, notation, axiom, sorry.
-/
import Derived.Test.YtphlhnkenehnnaaGreatDoorRows
import GoSem.ClaimSeven
namespace Go.Proofs.YtphlhnkenehnnaaGreatDoor
namespace Rows

/-- THE TIED CARD OF 'shuttlelaw14.WrapRows'. -/
def wrapRowsCard : Claim7 := { stood := { row := wrapRowsRow, standIns := [], harness := (true, "7684f2b8a9a697baa589ee96ec6a9e1e1c28a35dd095a01dccd2d80f36390391"), looks := false }, kinds := [], alts := [], laidByText := true, laidKinds := [.data, .data, .data, .data, .pinned], laidTests := true, laidLooks := .later }
def WrapRowsCardSaid : Prop := Claim7.holds Tryz.pinned (.plain (OpenSpec.ofChange wrapRowsSpec)) wrapRowsCard

/-- THE TIED CARD OF 'shuttlelaw14.WrapAt'. -/
def wrapAtCard : Claim7 := { stood := { row := wrapAtRow, standIns := [], harness := (true, "7684f2b8a9a697baa589ee96ec6a9e1e1c28a35dd095a01dccd2d80f36390391"), looks := false }, kinds := [], alts := [], laidByText := true, laidKinds := [.data, .data, .data, .data, .pinned], laidTests := true, laidLooks := .later }
def WrapAtCardSaid : Prop := Claim7.holds Tryz.pinned (.plain (OpenSpec.ofChange wrapAtSpec)) wrapAtCard

/-- THE TIED CARD OF 'shuttlelaw14.WrapFinds'. -/
def wrapFindsCard : Claim7 := { stood := { row := wrapFindsRow, standIns := [], harness := (true, "7684f2b8a9a697baa589ee96ec6a9e1e1c28a35dd095a01dccd2d80f36390391"), looks := false }, kinds := [], alts := [], laidByText := true, laidKinds := [.data, .data, .data, .data, .pinned], laidTests := true, laidLooks := .later }
def WrapFindsCardSaid : Prop := Claim7.holds Tryz.pinned (.plain (OpenSpec.ofChange wrapFindsSpec)) wrapFindsCard

/-- THE TIED CARD OF 'shuttlelaw14.WrapKnown'. -/
def wrapKnownCard : Claim7 := { stood := { row := wrapKnownRow, standIns := [], harness := (true, "7684f2b8a9a697baa589ee96ec6a9e1e1c28a35dd095a01dccd2d80f36390391"), looks := false }, kinds := [], alts := [], laidByText := true, laidKinds := [.data, .data, .data, .data, .pinned], laidTests := true, laidLooks := .later }
def WrapKnownCardSaid : Prop := Claim7.holds Tryz.pinned (.plain (OpenSpec.ofChange wrapKnownSpec)) wrapKnownCard

/-- THE TIED CARD OF 'shuttlelaw14.WrapTiles'. -/
def wrapTilesCard : Claim7 := { stood := { row := wrapTilesRow, standIns := [], harness := (true, "7684f2b8a9a697baa589ee96ec6a9e1e1c28a35dd095a01dccd2d80f36390391"), looks := false }, kinds := [], alts := [], laidByText := true, laidKinds := [.data, .data, .data, .data, .pinned], laidTests := true, laidLooks := .later }
def WrapTilesCardSaid : Prop := Claim7.holds Tryz.pinned (.plain (OpenSpec.ofChange wrapTilesSpec)) wrapTilesCard

/-- THE TIED CARD OF 'shuttlelaw14.WrapFits'. -/
def wrapFitsCard : Claim7 := { stood := { row := wrapFitsRow, standIns := [], harness := (true, "7684f2b8a9a697baa589ee96ec6a9e1e1c28a35dd095a01dccd2d80f36390391"), looks := false }, kinds := [], alts := [], laidByText := true, laidKinds := [.data, .data, .data, .data, .pinned], laidTests := true, laidLooks := .later }
def WrapFitsCardSaid : Prop := Claim7.holds Tryz.pinned (.plain (OpenSpec.ofChange wrapFitsSpec)) wrapFitsCard

/-- THE SECOND FORM's CARD OF 'shuttlelaw14.WrapRows'. -/
def wrapRowsUptoCard : Claim7 := { stood := { row := wrapRowsUptoRow, standIns := [], harness := (true, "7684f2b8a9a697baa589ee96ec6a9e1e1c28a35dd095a01dccd2d80f36390391"), looks := false }, kinds := [], alts := [], laidByText := true, laidKinds := [.data, .data, .data, .data, .pinned], laidTests := true, laidLooks := .later }
def WrapRowsUptoCardSaid : Prop := Claim7.holds Tryz.pinned (.plain (OpenSpec.upto wrapRowsSpec)) wrapRowsUptoCard

/-- THE SECOND FORM's CARD OF 'shuttlelaw14.WrapAt'. -/
def wrapAtUptoCard : Claim7 := { stood := { row := wrapAtUptoRow, standIns := [], harness := (true, "7684f2b8a9a697baa589ee96ec6a9e1e1c28a35dd095a01dccd2d80f36390391"), looks := false }, kinds := [], alts := [], laidByText := true, laidKinds := [.data, .data, .data, .data, .pinned], laidTests := true, laidLooks := .later }
def WrapAtUptoCardSaid : Prop := Claim7.holds Tryz.pinned (.plain (OpenSpec.upto wrapAtSpec)) wrapAtUptoCard

/-- THE SECOND FORM's CARD OF 'shuttlelaw14.WrapFinds'. -/
def wrapFindsUptoCard : Claim7 := { stood := { row := wrapFindsUptoRow, standIns := [], harness := (true, "7684f2b8a9a697baa589ee96ec6a9e1e1c28a35dd095a01dccd2d80f36390391"), looks := false }, kinds := [], alts := [], laidByText := true, laidKinds := [.data, .data, .data, .data, .pinned], laidTests := true, laidLooks := .later }
def WrapFindsUptoCardSaid : Prop := Claim7.holds Tryz.pinned (.plain (OpenSpec.upto wrapFindsSpec)) wrapFindsUptoCard

/-- THE SECOND FORM's CARD OF 'shuttlelaw14.WrapKnown'. -/
def wrapKnownUptoCard : Claim7 := { stood := { row := wrapKnownUptoRow, standIns := [], harness := (true, "7684f2b8a9a697baa589ee96ec6a9e1e1c28a35dd095a01dccd2d80f36390391"), looks := false }, kinds := [], alts := [], laidByText := true, laidKinds := [.data, .data, .data, .data, .pinned], laidTests := true, laidLooks := .later }
def WrapKnownUptoCardSaid : Prop := Claim7.holds Tryz.pinned (.plain (OpenSpec.upto wrapKnownSpec)) wrapKnownUptoCard

/-- THE SECOND FORM's CARD OF 'shuttlelaw14.WrapTiles'. -/
def wrapTilesUptoCard : Claim7 := { stood := { row := wrapTilesUptoRow, standIns := [], harness := (true, "7684f2b8a9a697baa589ee96ec6a9e1e1c28a35dd095a01dccd2d80f36390391"), looks := false }, kinds := [], alts := [], laidByText := true, laidKinds := [.data, .data, .data, .data, .pinned], laidTests := true, laidLooks := .later }
def WrapTilesUptoCardSaid : Prop := Claim7.holds Tryz.pinned (.plain (OpenSpec.upto wrapTilesSpec)) wrapTilesUptoCard

/-- THE SECOND FORM's CARD OF 'shuttlelaw14.WrapFits'. -/
def wrapFitsUptoCard : Claim7 := { stood := { row := wrapFitsUptoRow, standIns := [], harness := (true, "7684f2b8a9a697baa589ee96ec6a9e1e1c28a35dd095a01dccd2d80f36390391"), looks := false }, kinds := [], alts := [], laidByText := true, laidKinds := [.data, .data, .data, .data, .pinned], laidTests := true, laidLooks := .later }
def WrapFitsUptoCardSaid : Prop := Claim7.holds Tryz.pinned (.plain (OpenSpec.upto wrapFitsSpec)) wrapFitsUptoCard
end Rows
end Go.Proofs.YtphlhnkenehnnaaGreatDoor
