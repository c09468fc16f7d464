/- PROVED: a part of the tie of the row's variables to the program's text. CONDITIONS: none. -/
import Derived.Test.YtdmepghoffhphaaGreatDoorTieK
namespace Go.Proofs.YtdmepghoffhphaaGreatDoor
open Go
theorem tie_h (os : Os) (tape : Tape) : (tl.filter fun x => x.2.handleName?.isSome).all (handleAtB Tryz.pinned.checked.prog (varsWorld Tryz.pinned.checked.prog 400 (varsId Tryz.pinned.checked.prog) os tape).memory) = true := by rw [tie_id]; kernel_rfl
end Go.Proofs.YtdmepghoffhphaaGreatDoor
