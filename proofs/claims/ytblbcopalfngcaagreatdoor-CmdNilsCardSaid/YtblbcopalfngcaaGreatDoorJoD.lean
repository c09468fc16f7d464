/- PROVED: closed facts of the row. CONDITIONS: none. -/
import Derived.Test.YtblbcopalfngcaaGreatDoorRows
import Derived.JoinedOf
import GoSem.ClaimFollow
import Derived.KernelRfl
import Derived.SevenTiedAt
namespace Go.Proofs.YtblbcopalfngcaaGreatDoor
open Go
theorem j0 : Rows.cmdNilsRow.wf (OpenSpec.ofChange Rows.cmdNilsSpec) = true := by kernel_rfl
theorem j3 : Tryz.f3.params.all (Tryz.pinned.checked.prog.readableRec ·) = true := by kernel_rfl
theorem j4 : namedTie Tryz.pinned.checked.prog Rows.cmdNilsRow.named Rows.cmdNilsSpec.vars = true := by kernel_rfl
theorem j5 : (Rows.cmdNilsRow.stops == []) = true := by kernel_rfl
theorem j6 : (Tryz.pinned.checked.prog.stops == []) = true := by kernel_rfl
theorem j7 : (Rows.cmdNilsRow.knobs == []) = true := by kernel_rfl
theorem j8 : (Tryz.pinned.checked.prog.stopKnobs == []) = true := by kernel_rfl
theorem j13 : (Rows.cmdNilsRow.maps == (Tryz.f3.params.toList ++ Rows.cmdNilsSpec.plain.varTypes Tryz.pinned.checked.prog).any (Tryz.pinned.checked.prog.mapsRec ·)) = true := by kernel_rfl
theorem j14 : (Rows.cmdNilsRow.ifaces == (Tryz.f3.params.toList ++ Rows.cmdNilsSpec.plain.varTypes Tryz.pinned.checked.prog).any (Tryz.pinned.checked.prog.ifacesRec ·)) = true := by kernel_rfl
theorem j15 : (Rows.cmdNilsRow.mapsOut == Tryz.pinned.checked.prog.mapsAmong Tryz.f3.resultTypes.toList) = true := by kernel_rfl
theorem j16 : (Rows.cmdNilsRow.loops == (Tryz.f3.params.toList ++ Rows.cmdNilsSpec.plain.varTypes Tryz.pinned.checked.prog).any (Tryz.pinned.checked.prog.loopsFrom ·)) = true := by kernel_rfl
theorem j17 : (Rows.cmdNilsRow.wideKeys == (Tryz.f3.params.toList ++ Rows.cmdNilsSpec.plain.varTypes Tryz.pinned.checked.prog ++ Tryz.f3.resultTypes.toList).any (Tryz.pinned.checked.prog.wideKeysFrom ·)) = true := by kernel_rfl
theorem j18 : Rows.cmdNilsSpec.vars.all (Tryz.pinned.checked.prog.varReadable ·) = true := by kernel_rfl
theorem j19 : Tryz.f3.resultTypes.all (fun t => Tryz.pinned.checked.prog.readableRec t && decide (t < Tryz.pinned.checked.prog.types.size)) = true := by kernel_rfl
theorem j20 : (Rows.cmdNilsRow.ifacesOut == Tryz.f3.resultTypes.toList.any (Tryz.pinned.checked.prog.ifacesRec ·)) = true := by kernel_rfl
theorem j21 : (Rows.cmdNilsRow.loopsOut == Tryz.f3.resultTypes.toList.any (Tryz.pinned.checked.prog.loopsFrom ·)) = true := by kernel_rfl
theorem j23 : Rows.cmdNilsRow.shortTexts.isNone = true := by kernel_rfl
theorem j26 : (Rows.cmdNilsRow.lifted == Tryz.pinned.checked.prog.liftsFinal) = true := by kernel_rfl
theorem j27 : (Tryz.pinned.checked.prog.make == some Rows.cmdNilsRow.make) = true := by kernel_rfl
theorem j28 : (Rows.cmdNilsRow.kinds == (if Rows.cmdNilsRow.domain.isEmpty then [] else Tryz.f3.params.toList.map fun t => match Tryz.pinned.checked.prog.underlying t with | some (.int k) => some k | _ => none)) = true := by kernel_rfl
theorem j29 : (Rows.cmdNilsRow.pinned == Rows.cmdNilsRow.pinnedBy) = true := by kernel_rfl
theorem j30 : (Rows.cmdNilsRow.veiled == (Tryz.f3.params.toList ++ Rows.cmdNilsSpec.plain.varTypes Tryz.pinned.checked.prog ++ Tryz.f3.resultTypes.toList).any (Tryz.pinned.checked.prog.veiledRec ·)) = true := by kernel_rfl
theorem j31 : Rows.cmdNilsRow.veiledFits Tryz.pinned.checked.prog Tryz.f3.params.toList (Tryz.f3.params.toList ++ Rows.cmdNilsSpec.plain.varTypes Tryz.pinned.checked.prog ++ Tryz.f3.resultTypes.toList) = true := by kernel_rfl
theorem named_f : Tryz.pinned.checked.prog.funcNamed Rows.cmdNilsRow.func = some 3 := by kernel_rfl
theorem inst_f : Tryz.f3.isInstance Tryz.pinned.checked.prog Rows.cmdNilsRow.origin Rows.cmdNilsRow.targs := of_decide_eq_true (by kernel_rfl)
theorem wrap_f : Tryz.f3.isWrapper Tryz.pinned.checked.prog Rows.cmdNilsRow.wrapper Rows.cmdNilsRow.mainSum := by unfold Func.isWrapper; first | (rw [if_pos (by decide +kernel)]; kernel_rfl) | (rw [if_neg (by decide +kernel)]; exact ⟨rfl, rfl⟩)
theorem wf_f : Rows.cmdNilsRow.wfByText (OpenSpec.ofChange Rows.cmdNilsSpec) = true := by kernel_rfl
theorem main_f : Tryz.pinned.checked.prog.mainIs = some (true, "3ff476d210e4904922a5ae3c75a5b3d1a3a94646d7d9558a65702072223485cd".toList) := by kernel_rfl
theorem looks_f : true = Tryz.pinned.checked.prog.looks [] := by kernel_rfl
theorem stand_f : ([9].all fun u => !Tryz.pinned.checked.prog.wantsStandIn u) = true := by kernel_rfl
end Go.Proofs.YtblbcopalfngcaaGreatDoor
