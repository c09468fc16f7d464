/- PROVED: a start that fits the law's row. CONDITIONS: the row's own cells: the package-level variables start as the program's text lays them. -/
import Derived.Test.YtdmepghoffhphaaGreatDoorWitA
namespace Go.Proofs.YtdmepghoffhphaaGreatDoor
open Go Go.ChangeShapes Go.WideShapes Go.ChangeAt Go.RowKit
theorem lw_ifaces (os : Os) : (w0 os).layIfaces Tryz.prog plain (lw os) = true := by kernel_rfl
end Go.Proofs.YtdmepghoffhphaaGreatDoor
