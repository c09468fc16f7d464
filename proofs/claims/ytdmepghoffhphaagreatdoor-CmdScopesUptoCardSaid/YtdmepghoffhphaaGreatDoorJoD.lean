/- PROVED: closed facts of the row. CONDITIONS: none. -/
import Derived.Test.YtdmepghoffhphaaGreatDoorRows
import Derived.JoinedOf
import GoSem.ClaimFollow
import Derived.KernelRfl
import Derived.SevenTiedAt
namespace Go.Proofs.YtdmepghoffhphaaGreatDoor
open Go
theorem j0 : Rows.cmdScopesUptoRow.wf (OpenSpec.ofChange (Rows.OpenSpec.upto Rows.cmdScopesSpec).bare) = true := by kernel_rfl
theorem j3 : Tryz.f3.params.all (Tryz.pinned.checked.prog.readableRec ·) = true := by kernel_rfl
theorem j4 : namedTie Tryz.pinned.checked.prog Rows.cmdScopesUptoRow.named (Rows.OpenSpec.upto Rows.cmdScopesSpec).bare.vars = true := by kernel_rfl
theorem j5 : (Rows.cmdScopesUptoRow.stops == []) = true := by kernel_rfl
theorem j6 : (Tryz.pinned.checked.prog.stops == []) = true := by kernel_rfl
theorem j7 : (Rows.cmdScopesUptoRow.knobs == []) = true := by kernel_rfl
theorem j8 : (Tryz.pinned.checked.prog.stopKnobs == []) = true := by kernel_rfl
theorem j13 : (Rows.cmdScopesUptoRow.maps == (Tryz.f3.params.toList ++ (Rows.OpenSpec.upto Rows.cmdScopesSpec).bare.plain.varTypes Tryz.pinned.checked.prog).any (Tryz.pinned.checked.prog.mapsRec ·)) = true := by kernel_rfl
theorem j14 : (Rows.cmdScopesUptoRow.ifaces == (Tryz.f3.params.toList ++ (Rows.OpenSpec.upto Rows.cmdScopesSpec).bare.plain.varTypes Tryz.pinned.checked.prog).any (Tryz.pinned.checked.prog.ifacesRec ·)) = true := by kernel_rfl
theorem j15 : (Rows.cmdScopesUptoRow.mapsOut == Tryz.pinned.checked.prog.mapsAmong Tryz.f3.resultTypes.toList) = true := by kernel_rfl
theorem j16 : (Rows.cmdScopesUptoRow.loops == (Tryz.f3.params.toList ++ (Rows.OpenSpec.upto Rows.cmdScopesSpec).bare.plain.varTypes Tryz.pinned.checked.prog).any (Tryz.pinned.checked.prog.loopsFrom ·)) = true := by kernel_rfl
theorem j17 : (Rows.cmdScopesUptoRow.wideKeys == (Tryz.f3.params.toList ++ (Rows.OpenSpec.upto Rows.cmdScopesSpec).bare.plain.varTypes Tryz.pinned.checked.prog ++ Tryz.f3.resultTypes.toList).any (Tryz.pinned.checked.prog.wideKeysFrom ·)) = true := by kernel_rfl
theorem j18 : (Rows.OpenSpec.upto Rows.cmdScopesSpec).bare.vars.all (Tryz.pinned.checked.prog.varReadable ·) = true := by kernel_rfl
theorem j19 : Tryz.f3.resultTypes.all (fun t => Tryz.pinned.checked.prog.readableRec t && decide (t < Tryz.pinned.checked.prog.types.size)) = true := by kernel_rfl
theorem j20 : (Rows.cmdScopesUptoRow.ifacesOut == Tryz.f3.resultTypes.toList.any (Tryz.pinned.checked.prog.ifacesRec ·)) = true := by kernel_rfl
theorem j21 : (Rows.cmdScopesUptoRow.loopsOut == Tryz.f3.resultTypes.toList.any (Tryz.pinned.checked.prog.loopsFrom ·)) = true := by kernel_rfl
theorem j23 : Rows.cmdScopesUptoRow.shortTexts.isNone = true := by kernel_rfl
theorem j26 : (Rows.cmdScopesUptoRow.lifted == Tryz.pinned.checked.prog.liftsFinal) = true := by kernel_rfl
theorem j27 : (Tryz.pinned.checked.prog.make == some Rows.cmdScopesUptoRow.make) = true := by kernel_rfl
theorem j28 : (Rows.cmdScopesUptoRow.kinds == (if Rows.cmdScopesUptoRow.domain.isEmpty then [] else Tryz.f3.params.toList.map fun t => match Tryz.pinned.checked.prog.underlying t with | some (.int k) => some k | _ => none)) = true := by kernel_rfl
theorem j29 : (Rows.cmdScopesUptoRow.pinned == Rows.cmdScopesUptoRow.pinnedBy) = true := by kernel_rfl
theorem j30 : (Rows.cmdScopesUptoRow.veiled == (Tryz.f3.params.toList ++ (Rows.OpenSpec.upto Rows.cmdScopesSpec).bare.plain.varTypes Tryz.pinned.checked.prog ++ Tryz.f3.resultTypes.toList).any (Tryz.pinned.checked.prog.veiledRec ·)) = true := by kernel_rfl
theorem j31 : Rows.cmdScopesUptoRow.veiledFits Tryz.pinned.checked.prog Tryz.f3.params.toList (Tryz.f3.params.toList ++ (Rows.OpenSpec.upto Rows.cmdScopesSpec).bare.plain.varTypes Tryz.pinned.checked.prog ++ Tryz.f3.resultTypes.toList) = true := by kernel_rfl
theorem named_f : Tryz.pinned.checked.prog.funcNamed Rows.cmdScopesUptoRow.func = some 3 := by kernel_rfl
theorem inst_f : Tryz.f3.isInstance Tryz.pinned.checked.prog Rows.cmdScopesUptoRow.origin Rows.cmdScopesUptoRow.targs := of_decide_eq_true (by kernel_rfl)
theorem wrap_f : Tryz.f3.isWrapper Tryz.pinned.checked.prog Rows.cmdScopesUptoRow.wrapper Rows.cmdScopesUptoRow.mainSum := by unfold Func.isWrapper; first | (rw [if_pos (by decide +kernel)]; kernel_rfl) | (rw [if_neg (by decide +kernel)]; exact ⟨rfl, rfl⟩)
theorem wf_f : Rows.cmdScopesUptoRow.wfByText (Rows.OpenSpec.upto Rows.cmdScopesSpec) = true := by kernel_rfl
theorem main_f : Tryz.pinned.checked.prog.mainIs = some (true, "c5bd5e31d3711f76b32e921e66e0167012e69d1ecfe96e0c776b890043b1767f".toList) := by kernel_rfl
theorem looks_f : true = Tryz.pinned.checked.prog.looks [] := by kernel_rfl
theorem stand_f : ([24].all fun u => !Tryz.pinned.checked.prog.wantsStandIn u) = true := by kernel_rfl
end Go.Proofs.YtdmepghoffhphaaGreatDoor
