/- PROVED: closed facts of the row. CONDITIONS: none. -/
import Derived.Test.YtdmepghoffhphaaGreatDoorJoF
import Derived.Test.YtdmepghoffhphaaGreatDoorRows
import Derived.JoinedOf
import GoSem.ClaimFollow
import Derived.KernelRfl
namespace Go.Proofs.YtdmepghoffhphaaGreatDoor
open Go
theorem ld3 : ((Tryz.pinned.checked.prog.funcs.toList.drop 552).take 184).map Tryz.pinned.checked.prog.leadsTo = (ldL.drop 552).take 184 := by kernel_rfl
end Go.Proofs.YtdmepghoffhphaaGreatDoor
