/-
  DERIVED. GIVEN WITH THE SEED: THE CARDS: each row of YtdmepghoffhphaaGreatDoorRows.lean that lists a variable, with what it lists TIED to the program's text (the seventh form; the later family's looks); each row that meets fmt, with fmt's text TOLD by the authors' own Lean function (tested against real Go, not proved from fmt's source: count such statements apart). THE CARD IS WHAT COUNTS. Prove the row's statement (the work); the ties are given (YtdmepghoffhphaaGreatDoorTie.lean); close each card by the builder's one call (the guide's Derived/Test/ToyasCard.lean, 'card_holds'). Laid BY PROGRAM, IN A SANDBOX (cutbox-door.mjs). By AI agents, Wed Nov 11 2026. No macro, syntax, notation, axiom, sorry.
-/
import Derived.Test.YtdmepghoffhphaaGreatDoorRows
import GoSem.ClaimSeven
namespace Go.Proofs.YtdmepghoffhphaaGreatDoor
namespace Rows

/-- THE TIED CARD OF 'cabinetrylaw15.CmdScopes'. -/
def cmdScopesCard : Claim7 := { stood := { row := cmdScopesRow, standIns := [], harness := (true, "c5bd5e31d3711f76b32e921e66e0167012e69d1ecfe96e0c776b890043b1767f"), looks := true }, kinds := [], alts := [], laidByText := true, laidKinds := [.pinned, .data, .pinned, .sentinel, .sentinel, .data, .data, .data, .data, .listed, .handle], laidTests := true, laidLooks := .later }
def CmdScopesCardSaid : Prop := Claim7.holds Tryz.pinned (.plain (OpenSpec.ofChange cmdScopesSpec)) cmdScopesCard

/-- THE SECOND FORM's CARD OF 'cabinetrylaw15.CmdScopes'. -/
def cmdScopesUptoCard : Claim7 := { stood := { row := cmdScopesUptoRow, standIns := [], harness := (true, "c5bd5e31d3711f76b32e921e66e0167012e69d1ecfe96e0c776b890043b1767f"), looks := true }, kinds := [], alts := [], laidByText := true, laidKinds := [.pinned, .data, .pinned, .sentinel, .sentinel, .data, .data, .data, .data, .listed, .handle], laidTests := true, laidLooks := .later }
def CmdScopesUptoCardSaid : Prop := Claim7.holds Tryz.pinned (.plain (OpenSpec.upto cmdScopesSpec)) cmdScopesUptoCard
end Rows
end Go.Proofs.YtdmepghoffhphaaGreatDoor
