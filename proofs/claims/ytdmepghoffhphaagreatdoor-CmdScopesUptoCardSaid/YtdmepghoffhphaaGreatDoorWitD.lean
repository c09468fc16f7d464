/- PROVED: a start that fits the law's row. CONDITIONS: the row's own cells: the package-level variables start as the program's text lays them. -/
import Derived.Test.YtdmepghoffhphaaGreatDoorWitA
namespace Go.Proofs.YtdmepghoffhphaaGreatDoor
open Go Go.ChangeShapes Go.WideShapes Go.ChangeAt Go.RowKit
theorem lw_zip (os : Os) : ((lw os).forCall (fun _ _ => 0) ⟨#[], #[.agg #[.int .i64 0, .slice none 0 0, .slice none 0 0, .slice none 0 0]], []⟩).variablesZipB Tryz.prog = true := by kernel_rfl
end Go.Proofs.YtdmepghoffhphaaGreatDoor
