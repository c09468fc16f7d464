/- PROVED: a part of the tie of the row's variables to the program's text. CONDITIONS: none. -/
import Derived.Test.YtdmepghoffhphaaGreatDoorTieK
namespace Go.Proofs.YtdmepghoffhphaaGreatDoor
open Go
theorem tie_n : varsNamedLaterB Tryz.pinned.checked.prog (varsId Tryz.pinned.checked.prog) tl = true := by rw [tie_id]; kernel_rfl
end Go.Proofs.YtdmepghoffhphaaGreatDoor
