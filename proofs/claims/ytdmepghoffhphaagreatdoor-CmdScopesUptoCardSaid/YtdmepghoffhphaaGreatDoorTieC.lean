/- PROVED: a part of the tie of the row's variables to the program's text. CONDITIONS: none. -/
import Derived.Test.YtdmepghoffhphaaGreatDoorTieK
namespace Go.Proofs.YtdmepghoffhphaaGreatDoor
open Go
theorem tie_d (os : Os) (tape : Tape) : varsDone Tryz.pinned.checked.prog 400 (varsId Tryz.pinned.checked.prog) os tape = true := by rw [tie_id]; kernel_rfl
end Go.Proofs.YtdmepghoffhphaaGreatDoor
