/- PROVED: closed facts of the row. CONDITIONS: none. -/
import Derived.Test.YthlikfecjjjclaaGreatDoorJoC
import Derived.Test.YthlikfecjjjclaaGreatDoorJoD
import Derived.Test.YthlikfecjjjclaaGreatDoorRows
import Derived.JoinedOf
import GoSem.ClaimFollow
import Derived.KernelRfl
import Derived.SevenTiedAt
namespace Go.Proofs.YthlikfecjjjclaaGreatDoor
open Go
theorem any_goes : Tryz.pinned.checked.prog.funcs.any Func.goes = true := by kernel_rfl
theorem goes_t : Tryz.pinned.checked.prog.goes 3 = true := by
  unfold Program.goes
  rw [unf_t, any_goes, Bool.and_self, Bool.or_true]
theorem goes_from : Tryz.pinned.checked.prog.goesFrom Rows.netNilRow.func = true := by
  unfold Program.goesFrom
  rw [named_f, Option.any_some, goes_t]
theorem goes_f : true = Rows.netNilRow.goesBy Tryz.pinned.checked.prog := by
  unfold OpenClaim.goesBy Program.goesAt
  rw [goes_from, Bool.true_or]
end Go.Proofs.YthlikfecjjjclaaGreatDoor
