/- PROVED: closed facts of the row. CONDITIONS: none. -/
import Derived.Test.YtmomolpgjkejgaaGreatDoorRows
import Derived.JoinedOf
import GoSem.ClaimFollow
import Derived.KernelRfl
import Derived.SevenTiedAt
namespace Go.Proofs.YtmomolpgjkejgaaGreatDoor
open Go
theorem j0 : Rows.sqlDistinctsUptoRow.wf (OpenSpec.ofChange (Rows.OpenSpec.upto Rows.sqlDistinctsSpec).bare) = true := by kernel_rfl
theorem j3 : Tryz.f3.params.all (Tryz.pinned.checked.prog.readableRec ·) = true := by kernel_rfl
theorem j4 : namedTie Tryz.pinned.checked.prog Rows.sqlDistinctsUptoRow.named (Rows.OpenSpec.upto Rows.sqlDistinctsSpec).bare.vars = true := by kernel_rfl
theorem j5 : (Rows.sqlDistinctsUptoRow.stops == []) = true := by kernel_rfl
theorem j6 : (Tryz.pinned.checked.prog.stops == []) = true := by kernel_rfl
theorem j7 : (Rows.sqlDistinctsUptoRow.knobs == []) = true := by kernel_rfl
theorem j8 : (Tryz.pinned.checked.prog.stopKnobs == []) = true := by kernel_rfl
theorem j13 : (Rows.sqlDistinctsUptoRow.maps == (Tryz.f3.params.toList ++ (Rows.OpenSpec.upto Rows.sqlDistinctsSpec).bare.plain.varTypes Tryz.pinned.checked.prog).any (Tryz.pinned.checked.prog.mapsRec ·)) = true := by kernel_rfl
theorem j14 : (Rows.sqlDistinctsUptoRow.ifaces == (Tryz.f3.params.toList ++ (Rows.OpenSpec.upto Rows.sqlDistinctsSpec).bare.plain.varTypes Tryz.pinned.checked.prog).any (Tryz.pinned.checked.prog.ifacesRec ·)) = true := by kernel_rfl
theorem j15 : (Rows.sqlDistinctsUptoRow.mapsOut == Tryz.pinned.checked.prog.mapsAmong Tryz.f3.resultTypes.toList) = true := by kernel_rfl
theorem j16 : (Rows.sqlDistinctsUptoRow.loops == (Tryz.f3.params.toList ++ (Rows.OpenSpec.upto Rows.sqlDistinctsSpec).bare.plain.varTypes Tryz.pinned.checked.prog).any (Tryz.pinned.checked.prog.loopsFrom ·)) = true := by kernel_rfl
theorem j17 : (Rows.sqlDistinctsUptoRow.wideKeys == (Tryz.f3.params.toList ++ (Rows.OpenSpec.upto Rows.sqlDistinctsSpec).bare.plain.varTypes Tryz.pinned.checked.prog ++ Tryz.f3.resultTypes.toList).any (Tryz.pinned.checked.prog.wideKeysFrom ·)) = true := by kernel_rfl
theorem j18 : (Rows.OpenSpec.upto Rows.sqlDistinctsSpec).bare.vars.all (Tryz.pinned.checked.prog.varReadable ·) = true := by kernel_rfl
theorem j19 : Tryz.f3.resultTypes.all (fun t => Tryz.pinned.checked.prog.readableRec t && decide (t < Tryz.pinned.checked.prog.types.size)) = true := by kernel_rfl
theorem j20 : (Rows.sqlDistinctsUptoRow.ifacesOut == Tryz.f3.resultTypes.toList.any (Tryz.pinned.checked.prog.ifacesRec ·)) = true := by kernel_rfl
theorem j21 : (Rows.sqlDistinctsUptoRow.loopsOut == Tryz.f3.resultTypes.toList.any (Tryz.pinned.checked.prog.loopsFrom ·)) = true := by kernel_rfl
theorem j23 : Rows.sqlDistinctsUptoRow.shortTexts.isNone = true := by kernel_rfl
theorem j26 : (Rows.sqlDistinctsUptoRow.lifted == Tryz.pinned.checked.prog.liftsFinal) = true := by kernel_rfl
theorem j27 : (Tryz.pinned.checked.prog.make == some Rows.sqlDistinctsUptoRow.make) = true := by kernel_rfl
theorem j28 : (Rows.sqlDistinctsUptoRow.kinds == (if Rows.sqlDistinctsUptoRow.domain.isEmpty then [] else Tryz.f3.params.toList.map fun t => match Tryz.pinned.checked.prog.underlying t with | some (.int k) => some k | _ => none)) = true := by kernel_rfl
theorem j29 : (Rows.sqlDistinctsUptoRow.pinned == Rows.sqlDistinctsUptoRow.pinnedBy) = true := by kernel_rfl
theorem j30 : (Rows.sqlDistinctsUptoRow.veiled == (Tryz.f3.params.toList ++ (Rows.OpenSpec.upto Rows.sqlDistinctsSpec).bare.plain.varTypes Tryz.pinned.checked.prog ++ Tryz.f3.resultTypes.toList).any (Tryz.pinned.checked.prog.veiledRec ·)) = true := by kernel_rfl
theorem j31 : Rows.sqlDistinctsUptoRow.veiledFits Tryz.pinned.checked.prog Tryz.f3.params.toList (Tryz.f3.params.toList ++ (Rows.OpenSpec.upto Rows.sqlDistinctsSpec).bare.plain.varTypes Tryz.pinned.checked.prog ++ Tryz.f3.resultTypes.toList) = true := by kernel_rfl
theorem named_f : Tryz.pinned.checked.prog.funcNamed Rows.sqlDistinctsUptoRow.func = some 3 := by kernel_rfl
theorem inst_f : Tryz.f3.isInstance Tryz.pinned.checked.prog Rows.sqlDistinctsUptoRow.origin Rows.sqlDistinctsUptoRow.targs := of_decide_eq_true (by kernel_rfl)
theorem wrap_f : Tryz.f3.isWrapper Tryz.pinned.checked.prog Rows.sqlDistinctsUptoRow.wrapper Rows.sqlDistinctsUptoRow.mainSum := by unfold Func.isWrapper; first | (rw [if_pos (by decide +kernel)]; kernel_rfl) | (rw [if_neg (by decide +kernel)]; exact ⟨rfl, rfl⟩)
theorem wf_f : Rows.sqlDistinctsUptoRow.wfByText (Rows.OpenSpec.upto Rows.sqlDistinctsSpec) = true := by kernel_rfl
theorem main_f : Tryz.pinned.checked.prog.mainIs = some (true, "7d799c34b557fc7747ae7cc1ecf9f4dfa044c7fa4f85d110a678ede8e6d1b4fa".toList) := by kernel_rfl
theorem looks_f : true = Tryz.pinned.checked.prog.looks [] := by kernel_rfl
theorem stand_f : ([22].all fun u => !Tryz.pinned.checked.prog.wantsStandIn u) = true := by kernel_rfl
end Go.Proofs.YtmomolpgjkejgaaGreatDoor
