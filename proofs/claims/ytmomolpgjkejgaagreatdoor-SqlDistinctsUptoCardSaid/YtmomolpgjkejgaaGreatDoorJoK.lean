/- PROVED: closed facts of the row. CONDITIONS: none. -/
import Derived.Test.YtmomolpgjkejgaaGreatDoorJoF
import Derived.Test.YtmomolpgjkejgaaGreatDoorRows
import Derived.JoinedOf
import GoSem.ClaimFollow
import Derived.KernelRfl
namespace Go.Proofs.YtmomolpgjkejgaaGreatDoor
open Go
theorem ld3 : ((Tryz.pinned.checked.prog.funcs.toList.drop 384).take 128).map Tryz.pinned.checked.prog.leadsTo = (ldL.drop 384).take 128 := by kernel_rfl
end Go.Proofs.YtmomolpgjkejgaaGreatDoor
