/- PROVED: closed facts of the row. CONDITIONS: none. -/
import Derived.Test.YtliackfnanndpaaGreatDoorRows
import Derived.JoinedOf
import GoSem.ClaimFollow
import Derived.KernelRfl
import Derived.SevenTiedAt
namespace Go.Proofs.YtliackfnanndpaaGreatDoor
open Go
theorem j0 : Rows.areaNilRow.wf (OpenSpec.ofChange Rows.areaNilSpec) = true := by kernel_rfl
theorem j3 : Tryz.f3.params.all (Tryz.pinned.checked.prog.readableRec ·) = true := by kernel_rfl
theorem j4 : namedTie Tryz.pinned.checked.prog Rows.areaNilRow.named Rows.areaNilSpec.vars = true := by kernel_rfl
theorem j5 : (Rows.areaNilRow.stops == []) = true := by kernel_rfl
theorem j6 : (Tryz.pinned.checked.prog.stops == []) = true := by kernel_rfl
theorem j7 : (Rows.areaNilRow.knobs == []) = true := by kernel_rfl
theorem j8 : (Tryz.pinned.checked.prog.stopKnobs == []) = true := by kernel_rfl
theorem j13 : (Rows.areaNilRow.maps == (Tryz.f3.params.toList ++ Rows.areaNilSpec.plain.varTypes Tryz.pinned.checked.prog).any (Tryz.pinned.checked.prog.mapsRec ·)) = true := by kernel_rfl
theorem j14 : (Rows.areaNilRow.ifaces == (Tryz.f3.params.toList ++ Rows.areaNilSpec.plain.varTypes Tryz.pinned.checked.prog).any (Tryz.pinned.checked.prog.ifacesRec ·)) = true := by kernel_rfl
theorem j15 : (Rows.areaNilRow.mapsOut == Tryz.pinned.checked.prog.mapsAmong Tryz.f3.resultTypes.toList) = true := by kernel_rfl
theorem j16 : (Rows.areaNilRow.loops == (Tryz.f3.params.toList ++ Rows.areaNilSpec.plain.varTypes Tryz.pinned.checked.prog).any (Tryz.pinned.checked.prog.loopsFrom ·)) = true := by kernel_rfl
theorem j17 : (Rows.areaNilRow.wideKeys == (Tryz.f3.params.toList ++ Rows.areaNilSpec.plain.varTypes Tryz.pinned.checked.prog ++ Tryz.f3.resultTypes.toList).any (Tryz.pinned.checked.prog.wideKeysFrom ·)) = true := by kernel_rfl
theorem j18 : Rows.areaNilSpec.vars.all (Tryz.pinned.checked.prog.varReadable ·) = true := by kernel_rfl
theorem j19 : Tryz.f3.resultTypes.all (fun t => Tryz.pinned.checked.prog.readableRec t && decide (t < Tryz.pinned.checked.prog.types.size)) = true := by kernel_rfl
theorem j20 : (Rows.areaNilRow.ifacesOut == Tryz.f3.resultTypes.toList.any (Tryz.pinned.checked.prog.ifacesRec ·)) = true := by kernel_rfl
theorem j21 : (Rows.areaNilRow.loopsOut == Tryz.f3.resultTypes.toList.any (Tryz.pinned.checked.prog.loopsFrom ·)) = true := by kernel_rfl
theorem j23 : Rows.areaNilRow.shortTexts.isNone = true := by kernel_rfl
theorem j26 : (Rows.areaNilRow.lifted == Tryz.pinned.checked.prog.liftsFinal) = true := by kernel_rfl
theorem j27 : (Tryz.pinned.checked.prog.make == some Rows.areaNilRow.make) = true := by kernel_rfl
theorem j28 : (Rows.areaNilRow.kinds == (if Rows.areaNilRow.domain.isEmpty then [] else Tryz.f3.params.toList.map fun t => match Tryz.pinned.checked.prog.underlying t with | some (.int k) => some k | _ => none)) = true := by kernel_rfl
theorem j29 : (Rows.areaNilRow.pinned == Rows.areaNilRow.pinnedBy) = true := by kernel_rfl
theorem j30 : (Rows.areaNilRow.veiled == (Tryz.f3.params.toList ++ Rows.areaNilSpec.plain.varTypes Tryz.pinned.checked.prog ++ Tryz.f3.resultTypes.toList).any (Tryz.pinned.checked.prog.veiledRec ·)) = true := by kernel_rfl
theorem j31 : Rows.areaNilRow.veiledFits Tryz.pinned.checked.prog Tryz.f3.params.toList (Tryz.f3.params.toList ++ Rows.areaNilSpec.plain.varTypes Tryz.pinned.checked.prog ++ Tryz.f3.resultTypes.toList) = true := by kernel_rfl
theorem named_f : Tryz.pinned.checked.prog.funcNamed Rows.areaNilRow.func = some 3 := by kernel_rfl
theorem inst_f : Tryz.f3.isInstance Tryz.pinned.checked.prog Rows.areaNilRow.origin Rows.areaNilRow.targs := of_decide_eq_true (by kernel_rfl)
theorem wrap_f : Tryz.f3.isWrapper Tryz.pinned.checked.prog Rows.areaNilRow.wrapper Rows.areaNilRow.mainSum := by unfold Func.isWrapper; first | (rw [if_pos (by decide +kernel)]; kernel_rfl) | (rw [if_neg (by decide +kernel)]; exact ⟨rfl, rfl⟩)
theorem wf_f : Rows.areaNilRow.wfByText (OpenSpec.ofChange Rows.areaNilSpec) = true := by kernel_rfl
theorem main_f : Tryz.pinned.checked.prog.mainIs = some (true, "a4079e8e17514f64bbf2b9da4e7814e9195e81df0e0ece84ad62377aa767d26d".toList) := by kernel_rfl
theorem looks_f : true = Tryz.pinned.checked.prog.looks [] := by kernel_rfl
theorem stand_f : ([9, 3].all fun u => !Tryz.pinned.checked.prog.wantsStandIn u) = true := by kernel_rfl
end Go.Proofs.YtliackfnanndpaaGreatDoor
