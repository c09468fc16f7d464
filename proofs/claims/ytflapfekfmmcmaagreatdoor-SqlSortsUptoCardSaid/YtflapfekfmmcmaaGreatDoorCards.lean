/-
  DERIVED. GIVEN WITH THE SEED: THE CARDS: each row of YtflapfekfmmcmaaGreatDoorRows.lean that lists a variable, with what it lists TIED to the program's text (the seventh form; the later family's looks); each row that meets fmt, with fmt's text TOLD by the authors' own Lean function (tested against real Go, not proved from fmt's source: count such statements apart). THE CARD IS WHAT COUNTS. Prove the row's statement (the work); the ties are given (YtflapfekfmmcmaaGreatDoorTie.lean); close each card by the builder's one call (the guide's Derived/Test/ToyasCard.lean, 'card_holds'). Laid BY PROGRAM, IN A SANDBOX (cutbox-door.mjs). By AI agents, Wed Nov 11 2026. No macro, syntax, notation, axiom, sorry.
-/
import Derived.Test.YtflapfekfmmcmaaGreatDoorRows
import GoSem.ClaimSeven
namespace Go.Proofs.YtflapfekfmmcmaaGreatDoor
namespace Rows

/-- THE TIED CARD OF 'cabinetrylaw25.SqlSorts'. -/
def sqlSortsCard : Claim7 := { stood := { row := sqlSortsRow, standIns := [], harness := (true, "6a7cd77ce8c517e228df5717bf77db4ead7deba1ca51884681a7788e0e36ff9b"), looks := true }, kinds := [], alts := [], laidByText := true, laidKinds := [.pinned, .data, .pinned, .data, .listed, .sentinel, .sentinel, .data, .data, .data, .handle], laidTests := true, laidLooks := .later }
def SqlSortsCardSaid : Prop := Claim7.holds Tryz.pinned (.plain (OpenSpec.ofChange sqlSortsSpec)) sqlSortsCard

/-- THE SECOND FORM's CARD OF 'cabinetrylaw25.SqlSorts'. -/
def sqlSortsUptoCard : Claim7 := { stood := { row := sqlSortsUptoRow, standIns := [], harness := (true, "6a7cd77ce8c517e228df5717bf77db4ead7deba1ca51884681a7788e0e36ff9b"), looks := true }, kinds := [], alts := [], laidByText := true, laidKinds := [.pinned, .data, .pinned, .data, .listed, .sentinel, .sentinel, .data, .data, .data, .handle], laidTests := true, laidLooks := .later }
def SqlSortsUptoCardSaid : Prop := Claim7.holds Tryz.pinned (.plain (OpenSpec.upto sqlSortsSpec)) sqlSortsUptoCard
end Rows
end Go.Proofs.YtflapfekfmmcmaaGreatDoor
