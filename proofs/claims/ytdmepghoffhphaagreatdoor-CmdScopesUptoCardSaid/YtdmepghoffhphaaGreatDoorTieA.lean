/- PROVED: a part of the tie of the row's variables to the program's text. CONDITIONS: none. -/
import Derived.Test.YtdmepghoffhphaaGreatDoorRows
import Derived.LaidOnce
namespace Go.Proofs.YtdmepghoffhphaaGreatDoor
open Go
def tkAll : List LaidKind := [.pinned, .data, .pinned, .sentinel, .sentinel, .data, .data, .data, .data, .listed, .handle]
def tl : List (String × DataW Unit) := ((Rows.cmdScopesUptoRow.laid.zip tkAll).filter (·.2 != .pinned)).map (·.1)
def tk : List LaidKind := tkAll.filter (· != .pinned)
theorem tie_g : (Tryz.pinned.checked.prog.funcNamed "gosem.cut.vars").isSome = true := by kernel_rfl
theorem tie_k : tl.map (fun x => Tryz.pinned.checked.prog.kindOfLater x.1) = tk.map some := by kernel_rfl
theorem pin0 : Tryz.pinned.checked.prog.pinnedFits ((Rows.cmdScopesUptoRow.laid[0]?.map (·.1)).getD "") = true := by kernel_rfl
theorem pin2 : Tryz.pinned.checked.prog.pinnedFits ((Rows.cmdScopesUptoRow.laid[2]?.map (·.1)).getD "") = true := by kernel_rfl
theorem no_own : Tryz.pinned.checked.prog.headLifts.contains "ownunsafe" = false := by kernel_rfl
theorem fits1 : Tryz.pinned.checked.prog.listedFits Rows.cmdScopesUptoRow.laid = true := by
  unfold Program.listedFits
  rw [no_own]
  kernel_rfl
theorem tie_w : Tryz.pinned.checked.prog.worded (varsWordLater true) = true := by kernel_rfl
theorem tie_w' : Tryz.pinned.checked.prog.worded (varsWordLater !true) = false := by kernel_rfl
theorem tie_root : Tryz.pinned.checked.prog.worded rootWordLater = true := by kernel_rfl
end Go.Proofs.YtdmepghoffhphaaGreatDoor
