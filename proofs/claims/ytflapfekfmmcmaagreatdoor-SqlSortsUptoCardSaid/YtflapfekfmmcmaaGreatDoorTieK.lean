/- PROVED: a part of the tie of the row's variables to the program's text. CONDITIONS: none. -/
import Derived.Test.YtflapfekfmmcmaaGreatDoorTieA
namespace Go.Proofs.YtflapfekfmmcmaaGreatDoor
open Go
theorem tie_id : varsId Tryz.pinned.checked.prog = 523 := by kernel_rfl
end Go.Proofs.YtflapfekfmmcmaaGreatDoor
