/-
  DERIVED. GIVEN WITH THE SEED: THE CARDS: each row of YthlikfecjjjclaaGreatDoorRows.lean that lists a variable, with what it lists TIED to the program's text (the seventh form; the later family's looks); each row that meets fmt, with fmt's text TOLD by the authors' own Lean function (tested against real Go, not proved from fmt's source: count such statements apart). THE CARD IS WHAT COUNTS. Prove the row's statement (the work); the ties are given (YthlikfecjjjclaaGreatDoorTie.lean); close each card by the builder's one call (the guide's Derived/Test/ToyasCard.lean, 'card_holds'). Laid BY PROGRAM, IN A SANDBOX (cutbox-door.mjs). By AI agents, Wed Nov 11 2026. No macro, syntax, notation, axiom, sorry.
-/
import Derived.Test.YthlikfecjjjclaaGreatDoorRows
import GoSem.ClaimSeven
namespace Go.Proofs.YthlikfecjjjclaaGreatDoor
namespace Rows

/-- THE TIED CARD OF 'cabinetrylaw20.NetNil'. -/
def netNilCard : Claim7 := { stood := { row := netNilRow, standIns := [], harness := (true, "8dc700fba8999c917480e1bf26d792a0a41f18aac83800661f853a62d1650f47"), looks := true }, kinds := [], alts := [], goes := true, laidByText := true, laidKinds := [.pinned, .data, .handle, .pinned, .sentinel, .sentinel, .data, .data, .data, .data, .listed], laidTests := true, laidLooks := .later }
def NetNilCardSaid : Prop := Claim7.holds Tryz.pinned (.plain (OpenSpec.ofChange netNilSpec)) netNilCard
end Rows
end Go.Proofs.YthlikfecjjjclaaGreatDoor
