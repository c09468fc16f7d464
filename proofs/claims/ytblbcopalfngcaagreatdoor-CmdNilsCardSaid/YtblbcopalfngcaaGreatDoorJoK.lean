/- PROVED: closed facts of the row. CONDITIONS: none. -/
import Derived.Test.YtblbcopalfngcaaGreatDoorJoF
import Derived.Test.YtblbcopalfngcaaGreatDoorRows
import Derived.JoinedOf
import GoSem.ClaimFollow
import Derived.KernelRfl
namespace Go.Proofs.YtblbcopalfngcaaGreatDoor
open Go
theorem ld3 : ((Tryz.pinned.checked.prog.funcs.toList.drop 549).take 183).map Tryz.pinned.checked.prog.leadsTo = (ldL.drop 549).take 183 := by kernel_rfl
end Go.Proofs.YtblbcopalfngcaaGreatDoor
