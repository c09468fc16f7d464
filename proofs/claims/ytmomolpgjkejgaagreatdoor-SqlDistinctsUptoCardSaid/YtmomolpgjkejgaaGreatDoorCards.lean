/-
  DERIVED. GIVEN WITH THE SEED: THE CARDS: each row of YtmomolpgjkejgaaGreatDoorRows.lean that lists a variable, with what it lists TIED to the program's text (the seventh form; the later family's looks); each row that meets fmt, with fmt's text TOLD by the authors' own Lean function (tested against real Go, not proved from fmt's source: count such statements apart). THE CARD IS WHAT COUNTS. Prove the row's statement (the work); the ties are given (YtmomolpgjkejgaaGreatDoorTie.lean); close each card by the builder's one call (the guide's Derived/Test/ToyasCard.lean, 'card_holds'). Laid BY PROGRAM, IN A SANDBOX (cutbox-door.mjs). By AI agents, Wed Nov 11 2026. No macro, syntax, notation, axiom, sorry.
-/
import Derived.Test.YtmomolpgjkejgaaGreatDoorRows
import GoSem.ClaimSeven
namespace Go.Proofs.YtmomolpgjkejgaaGreatDoor
namespace Rows

/-- THE TIED CARD OF 'cabinetrylaw25.SqlDistincts'. -/
def sqlDistinctsCard : Claim7 := { stood := { row := sqlDistinctsRow, standIns := [], harness := (true, "7d799c34b557fc7747ae7cc1ecf9f4dfa044c7fa4f85d110a678ede8e6d1b4fa"), looks := true }, kinds := [], alts := [], laidByText := true, laidKinds := [.pinned, .data, .pinned, .data, .listed, .sentinel, .sentinel, .data, .data, .data, .handle], laidTests := true, laidLooks := .later }
def SqlDistinctsCardSaid : Prop := Claim7.holds Tryz.pinned (.plain (OpenSpec.ofChange sqlDistinctsSpec)) sqlDistinctsCard

/-- THE SECOND FORM's CARD OF 'cabinetrylaw25.SqlDistincts'. -/
def sqlDistinctsUptoCard : Claim7 := { stood := { row := sqlDistinctsUptoRow, standIns := [], harness := (true, "7d799c34b557fc7747ae7cc1ecf9f4dfa044c7fa4f85d110a678ede8e6d1b4fa"), looks := true }, kinds := [], alts := [], laidByText := true, laidKinds := [.pinned, .data, .pinned, .data, .listed, .sentinel, .sentinel, .data, .data, .data, .handle], laidTests := true, laidLooks := .later }
def SqlDistinctsUptoCardSaid : Prop := Claim7.holds Tryz.pinned (.plain (OpenSpec.upto sqlDistinctsSpec)) sqlDistinctsUptoCard
end Rows
end Go.Proofs.YtmomolpgjkejgaaGreatDoor
