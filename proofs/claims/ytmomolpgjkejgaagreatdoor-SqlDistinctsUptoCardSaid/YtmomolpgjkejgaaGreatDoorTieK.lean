/- PROVED: a part of the tie of the row's variables to the program's text. CONDITIONS: none. -/
import Derived.Test.YtmomolpgjkejgaaGreatDoorTieA
namespace Go.Proofs.YtmomolpgjkejgaaGreatDoor
open Go
theorem tie_id : varsId Tryz.pinned.checked.prog = 509 := by kernel_rfl
end Go.Proofs.YtmomolpgjkejgaaGreatDoor
