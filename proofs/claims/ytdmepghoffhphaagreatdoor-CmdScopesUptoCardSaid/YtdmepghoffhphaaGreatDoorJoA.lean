/- PROVED: closed facts of the row. CONDITIONS: none. -/
import Derived.Test.YtdmepghoffhphaaGreatDoorRows
import Derived.JoinedOf
import GoSem.ClaimFollow
import Derived.KernelRfl
namespace Go.Proofs.YtdmepghoffhphaaGreatDoor
open Go
theorem lo1 : ((List.range Tryz.pinned.checked.prog.types.size).take 335).all (rowFine Tryz.pinned.checked.prog) = true := by kernel_rfl
theorem lo2 : ((List.range Tryz.pinned.checked.prog.types.size).drop 335).all (rowFine Tryz.pinned.checked.prog) = true := by kernel_rfl
theorem lo3 : (Tryz.pinned.checked.prog.globals.all fun g => decide (g.type < Tryz.pinned.checked.prog.types.size)) = true := by kernel_rfl
theorem lo4 : (Tryz.pinned.checked.prog.funcs.all fun f => f.params.all fun t => decide (t < Tryz.pinned.checked.prog.types.size)) = true := by kernel_rfl
theorem j2 : mapsRowed Tryz.pinned.checked.prog = true := by kernel_rfl
theorem j22 : (Rows.cmdScopesUptoRow.plainKeys == Tryz.pinned.checked.prog.plainKeys) = true := by kernel_rfl
theorem j24 : Tryz.pinned.checked.prog.stopsHeard = true := by kernel_rfl
theorem j25 : Tryz.pinned.checked.prog.mayEnter = true := by kernel_rfl
end Go.Proofs.YtdmepghoffhphaaGreatDoor
