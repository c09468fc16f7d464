/-
  DERIVED. GIVEN WITH THE SEED: THE CARDS: each row of YtblbcopalfngcaaGreatDoorRows.lean that lists a variable, with what it lists TIED to the program's text (the seventh form; the later family's looks); each row that meets fmt, with fmt's text TOLD by the authors' own Lean function (tested against real Go, not proved from fmt's source: count such statements apart). THE CARD IS WHAT COUNTS. Prove the row's statement (the work); the ties are given (YtblbcopalfngcaaGreatDoorTie.lean); close each card by the builder's one call (the guide's Derived/Test/ToyasCard.lean, 'card_holds'). Laid BY PROGRAM, IN A SANDBOX (cutbox-door.mjs). By AI agents, Wed Nov 11 2026. No macro, syntax, notation, axiom, sorry.
-/
import Derived.Test.YtblbcopalfngcaaGreatDoorRows
import GoSem.ClaimSeven
namespace Go.Proofs.YtblbcopalfngcaaGreatDoor
namespace Rows

/-- THE TIED CARD OF 'cabinetrylaw15.CmdNils'. -/
def cmdNilsCard : Claim7 := { stood := { row := cmdNilsRow, standIns := [], harness := (true, "3ff476d210e4904922a5ae3c75a5b3d1a3a94646d7d9558a65702072223485cd"), looks := true }, kinds := [], alts := [], laidByText := true, laidKinds := [.pinned, .data, .handle, .pinned, .sentinel, .sentinel, .data, .data, .data, .data, .listed], laidTests := true, laidLooks := .later }
def CmdNilsCardSaid : Prop := Claim7.holds Tryz.pinned (.plain (OpenSpec.ofChange cmdNilsSpec)) cmdNilsCard

/-- THE SECOND FORM's CARD OF 'cabinetrylaw15.CmdNils'. -/
def cmdNilsUptoCard : Claim7 := { stood := { row := cmdNilsUptoRow, standIns := [], harness := (true, "3ff476d210e4904922a5ae3c75a5b3d1a3a94646d7d9558a65702072223485cd"), looks := true }, kinds := [], alts := [], laidByText := true, laidKinds := [.pinned, .data, .handle, .pinned, .sentinel, .sentinel, .data, .data, .data, .data, .listed], laidTests := true, laidLooks := .later }
def CmdNilsUptoCardSaid : Prop := Claim7.holds Tryz.pinned (.plain (OpenSpec.upto cmdNilsSpec)) cmdNilsUptoCard
end Rows
end Go.Proofs.YtblbcopalfngcaaGreatDoor
