/- PROVED: a part of the tie of the row's variables to the program's text. CONDITIONS: none. -/
import Derived.Test.YtdmepghoffhphaaGreatDoorTieK
namespace Go.Proofs.YtdmepghoffhphaaGreatDoor
open Go
theorem tie_r0 (os : Os) (tape : Tape) : (DataW.laidRun Tryz.pinned.checked.prog (varsWorld Tryz.pinned.checked.prog 400 (varsId Tryz.pinned.checked.prog) os tape).memory 8 ((tl.filter fun x => x.2.handleName?.isNone).map (·.1))).map (fun x => laidRowsB Tryz.pinned.checked.prog (varsWorld Tryz.pinned.checked.prog 400 (varsId Tryz.pinned.checked.prog) os tape).memory (x.2.take 110)) = some true := by rw [tie_id]; kernel_rfl
end Go.Proofs.YtdmepghoffhphaaGreatDoor
