/- PROVED: closed facts of the row. CONDITIONS: none. -/
import Derived.Test.YtflapfekfmmcmaaGreatDoorJoF
import Derived.Test.YtflapfekfmmcmaaGreatDoorRows
import Derived.JoinedOf
import GoSem.ClaimFollow
import Derived.KernelRfl
namespace Go.Proofs.YtflapfekfmmcmaaGreatDoor
open Go
theorem ld3 : ((Tryz.pinned.checked.prog.funcs.toList.drop 393).take 131).map Tryz.pinned.checked.prog.leadsTo = (ldL.drop 393).take 131 := by kernel_rfl
end Go.Proofs.YtflapfekfmmcmaaGreatDoor
