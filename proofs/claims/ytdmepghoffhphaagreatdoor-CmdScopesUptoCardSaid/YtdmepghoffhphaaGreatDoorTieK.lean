/- PROVED: a part of the tie of the row's variables to the program's text. CONDITIONS: none. -/
import Derived.Test.YtdmepghoffhphaaGreatDoorTieA
namespace Go.Proofs.YtdmepghoffhphaaGreatDoor
open Go
theorem tie_id : varsId Tryz.pinned.checked.prog = 734 := by kernel_rfl
end Go.Proofs.YtdmepghoffhphaaGreatDoor
