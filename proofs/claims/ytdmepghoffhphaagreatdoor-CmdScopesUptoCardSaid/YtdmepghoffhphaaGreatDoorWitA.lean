/- PROVED: a start that fits the law's row. CONDITIONS: the row's own cells: the package-level variables start as the program's text lays them. -/
import Derived.Test.YtdmepghoffhphaaGreatDoorRows
import Derived.ProofKit
import Derived.Lay
import Derived.LaidHandle
import Derived.LaidLaws
namespace Go.Proofs.YtdmepghoffhphaaGreatDoor
open Go Go.ChangeShapes Go.WideShapes Go.ChangeAt Go.RowKit
noncomputable def erG : Nat := (Tryz.prog.globalNamed ((Rows.cmdScopesUptoRow.laid.find? fun x => x.2.handleName?.isSome).map (·.1) |>.getD "")).getD 0
noncomputable def rtU : Nat := ((Tryz.prog.cutTypes.find? (·.1 == (match (Rows.laid_errors_errorType : DataW Unit) with | .iface s _ => s | _ => ""))).map (·.2)).getD 0
noncomputable def erT : Nat := ((List.range Tryz.prog.types.size).find? fun t => Tryz.prog.rowNamed t [101, 114, 114, 111, 114]).getD 0
noncomputable def w0 (os : Os) : World :=
  let w := World.holding Tryz.prog os ⟨#[], #[], []⟩
  { w with heap := w.heap.modify erG fun
      | .cells _ t frozen => .cells #[.iface rtU (.agg #[typeHandle Tryz.prog erT])] t frozen
      | o => o }
def plain : List (String × DataW Unit) := Rows.cmdScopesUptoRow.laid.filter fun x => x.2.handleName?.isNone
noncomputable def lw (os : Os) : World := (w0 os).layVars Tryz.prog plain
theorem lw_os (os : Os) : (lw os).os = os := (World.layVars_os _ _ _).trans rfl
theorem lw_fits (os : Os) : (w0 os).layFits Tryz.prog plain [] = true := by kernel_rfl
end Go.Proofs.YtdmepghoffhphaaGreatDoor
