/- PROVED: closed facts of the row. CONDITIONS: none. -/
import Derived.Test.YtdmepghoffhphaaGreatDoorJoB
import Derived.Test.YtdmepghoffhphaaGreatDoorRows
import Derived.JoinedOf
import GoSem.ClaimFollow
import Derived.KernelRfl
namespace Go.Proofs.YtdmepghoffhphaaGreatDoor
open Go
theorem inpl_eq : Tryz.pinned.checked.prog.inPlace 3 = Tryz.pinned.checked.prog.inPlaceOf cl := by
  unfold Program.inPlace Program.inPlaceOf
  rw [cl_eq]
theorem j9' : (Rows.cmdScopesUptoRow.inPlace == Tryz.pinned.checked.prog.inPlaceOf cl) = true := by kernel_rfl
theorem j9 : (Rows.cmdScopesUptoRow.inPlace == Tryz.pinned.checked.prog.inPlace 3) = true := by rw [inpl_eq]; exact j9'
theorem vars_eq : Tryz.pinned.checked.prog.varsNamed 3 = Tryz.pinned.checked.prog.varsOf cl := by
  unfold Program.varsNamed Program.varsOf
  rw [cl_eq]
theorem j12' : (Rows.cmdScopesUptoRow.named == Tryz.pinned.checked.prog.varsOf cl) = true := by kernel_rfl
theorem j12 : (Rows.cmdScopesUptoRow.named == Tryz.pinned.checked.prog.varsNamed 3) = true := by rw [vars_eq]; exact j12'
theorem unf_t : Tryz.pinned.checked.prog.unfollowed 3 = true := by
  unfold Program.unfollowed
  rw [cl_eq]
  kernel_rfl
theorem j10 : (Rows.cmdScopesUptoRow.unfollowed == Tryz.pinned.checked.prog.unfollowed 3) = true := by rw [unf_t]; rfl
theorem rec_t : Tryz.pinned.checked.prog.recurses 3 = true := by
  unfold Program.recurses
  rw [unf_t, Bool.true_or]
theorem j11 : (Rows.cmdScopesUptoRow.recurses == Tryz.pinned.checked.prog.recurses 3) = true := by rw [rec_t]; rfl
end Go.Proofs.YtdmepghoffhphaaGreatDoor
