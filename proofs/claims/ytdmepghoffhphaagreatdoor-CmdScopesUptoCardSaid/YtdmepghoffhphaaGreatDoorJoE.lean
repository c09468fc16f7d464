/- PROVED: closed facts of the row. CONDITIONS: none. -/
import Derived.Test.YtdmepghoffhphaaGreatDoorJoC
import Derived.Test.YtdmepghoffhphaaGreatDoorJoD
import Derived.Test.YtdmepghoffhphaaGreatDoorRows
import Derived.JoinedOf
import GoSem.ClaimFollow
import Derived.KernelRfl
import Derived.SevenTiedAt
namespace Go.Proofs.YtdmepghoffhphaaGreatDoor
open Go
theorem goes_cl : (cl.any fun g => (Tryz.pinned.checked.prog.funcs[g]?).any Func.goes) = false := by kernel_rfl
theorem any_goes : Tryz.pinned.checked.prog.funcs.any Func.goes = false := by kernel_rfl
theorem goes_t : Tryz.pinned.checked.prog.goes 3 = false := by
  unfold Program.goes
  rw [cl_eq, goes_cl, any_goes, Bool.and_false, Bool.or_false]
theorem goes_from : Tryz.pinned.checked.prog.goesFrom Rows.cmdScopesUptoRow.func = false := by
  unfold Program.goesFrom
  rw [named_f, Option.any_some, goes_t]
theorem goes_f : false = Rows.cmdScopesUptoRow.goesBy Tryz.pinned.checked.prog := by
  unfold OpenClaim.goesBy Program.goesAt
  rw [goes_from, Bool.false_or]
  rfl
end Go.Proofs.YtdmepghoffhphaaGreatDoor
