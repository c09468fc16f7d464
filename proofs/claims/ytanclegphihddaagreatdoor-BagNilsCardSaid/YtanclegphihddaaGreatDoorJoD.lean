/- PROVED: closed facts of the row. CONDITIONS: none. -/
import Derived.Test.YtanclegphihddaaGreatDoorRows
import Derived.JoinedOf
import GoSem.ClaimFollow
import Derived.KernelRfl
import Derived.SevenTiedAt
namespace Go.Proofs.YtanclegphihddaaGreatDoor
open Go
theorem j0 : Rows.bagNilsRow.wf (OpenSpec.ofChange Rows.bagNilsSpec) = true := by kernel_rfl
theorem j3 : Tryz.f3.params.all (Tryz.pinned.checked.prog.readableRec ·) = true := by kernel_rfl
theorem j4 : namedTie Tryz.pinned.checked.prog Rows.bagNilsRow.named Rows.bagNilsSpec.vars = true := by kernel_rfl
theorem j5 : (Rows.bagNilsRow.stops == []) = true := by kernel_rfl
theorem j6 : (Tryz.pinned.checked.prog.stops == []) = true := by kernel_rfl
theorem j7 : (Rows.bagNilsRow.knobs == []) = true := by kernel_rfl
theorem j8 : (Tryz.pinned.checked.prog.stopKnobs == []) = true := by kernel_rfl
theorem j13 : (Rows.bagNilsRow.maps == (Tryz.f3.params.toList ++ Rows.bagNilsSpec.plain.varTypes Tryz.pinned.checked.prog).any (Tryz.pinned.checked.prog.mapsRec ·)) = true := by kernel_rfl
theorem j14 : (Rows.bagNilsRow.ifaces == (Tryz.f3.params.toList ++ Rows.bagNilsSpec.plain.varTypes Tryz.pinned.checked.prog).any (Tryz.pinned.checked.prog.ifacesRec ·)) = true := by kernel_rfl
theorem j15 : (Rows.bagNilsRow.mapsOut == Tryz.pinned.checked.prog.mapsAmong Tryz.f3.resultTypes.toList) = true := by kernel_rfl
theorem j16 : (Rows.bagNilsRow.loops == (Tryz.f3.params.toList ++ Rows.bagNilsSpec.plain.varTypes Tryz.pinned.checked.prog).any (Tryz.pinned.checked.prog.loopsFrom ·)) = true := by kernel_rfl
theorem j17 : (Rows.bagNilsRow.wideKeys == (Tryz.f3.params.toList ++ Rows.bagNilsSpec.plain.varTypes Tryz.pinned.checked.prog ++ Tryz.f3.resultTypes.toList).any (Tryz.pinned.checked.prog.wideKeysFrom ·)) = true := by kernel_rfl
theorem j18 : Rows.bagNilsSpec.vars.all (Tryz.pinned.checked.prog.varReadable ·) = true := by kernel_rfl
theorem j19 : Tryz.f3.resultTypes.all (fun t => Tryz.pinned.checked.prog.readableRec t && decide (t < Tryz.pinned.checked.prog.types.size)) = true := by kernel_rfl
theorem j20 : (Rows.bagNilsRow.ifacesOut == Tryz.f3.resultTypes.toList.any (Tryz.pinned.checked.prog.ifacesRec ·)) = true := by kernel_rfl
theorem j21 : (Rows.bagNilsRow.loopsOut == Tryz.f3.resultTypes.toList.any (Tryz.pinned.checked.prog.loopsFrom ·)) = true := by kernel_rfl
theorem j23 : Rows.bagNilsRow.shortTexts.isNone = true := by kernel_rfl
theorem j26 : (Rows.bagNilsRow.lifted == Tryz.pinned.checked.prog.liftsFinal) = true := by kernel_rfl
theorem j27 : (Tryz.pinned.checked.prog.make == some Rows.bagNilsRow.make) = true := by kernel_rfl
theorem j28 : (Rows.bagNilsRow.kinds == (if Rows.bagNilsRow.domain.isEmpty then [] else Tryz.f3.params.toList.map fun t => match Tryz.pinned.checked.prog.underlying t with | some (.int k) => some k | _ => none)) = true := by kernel_rfl
theorem j29 : (Rows.bagNilsRow.pinned == Rows.bagNilsRow.pinnedBy) = true := by kernel_rfl
theorem j30 : (Rows.bagNilsRow.veiled == (Tryz.f3.params.toList ++ Rows.bagNilsSpec.plain.varTypes Tryz.pinned.checked.prog ++ Tryz.f3.resultTypes.toList).any (Tryz.pinned.checked.prog.veiledRec ·)) = true := by kernel_rfl
theorem j31 : Rows.bagNilsRow.veiledFits Tryz.pinned.checked.prog Tryz.f3.params.toList (Tryz.f3.params.toList ++ Rows.bagNilsSpec.plain.varTypes Tryz.pinned.checked.prog ++ Tryz.f3.resultTypes.toList) = true := by kernel_rfl
theorem named_f : Tryz.pinned.checked.prog.funcNamed Rows.bagNilsRow.func = some 3 := by kernel_rfl
theorem inst_f : Tryz.f3.isInstance Tryz.pinned.checked.prog Rows.bagNilsRow.origin Rows.bagNilsRow.targs := of_decide_eq_true (by kernel_rfl)
theorem wrap_f : Tryz.f3.isWrapper Tryz.pinned.checked.prog Rows.bagNilsRow.wrapper Rows.bagNilsRow.mainSum := by unfold Func.isWrapper; first | (rw [if_pos (by decide +kernel)]; kernel_rfl) | (rw [if_neg (by decide +kernel)]; exact ⟨rfl, rfl⟩)
theorem wf_f : Rows.bagNilsRow.wfByText (OpenSpec.ofChange Rows.bagNilsSpec) = true := by kernel_rfl
theorem main_f : Tryz.pinned.checked.prog.mainIs = some (true, "0b14eb4dae6b2ccea9c007fe35c4316b60a75e22d359835ac549486746522c34".toList) := by kernel_rfl
theorem looks_f : true = Tryz.pinned.checked.prog.looks [] := by kernel_rfl
theorem stand_f : ([3, 9].all fun u => !Tryz.pinned.checked.prog.wantsStandIn u) = true := by kernel_rfl
end Go.Proofs.YtanclegphihddaaGreatDoor
