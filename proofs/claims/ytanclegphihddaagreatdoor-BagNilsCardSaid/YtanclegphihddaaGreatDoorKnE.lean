/- PROVED: calls that known() makes, by the evaluator. CONDITIONS: the row's own cells: the package-level variables start as the program's text lays them. -/
import Derived.Test.YtanclegphihddaaGreatDoorKnD
namespace Go.Proofs.YtanclegphihddaaGreatDoor
open Go Go.Ev Go.RowKit
theorem t5 : TEOk Tryz.prog 13 e5 := TEOk_of prog_ok (hookOf_ok ts4) (n := 1000) (by kernel_rfl) (by kernel_rfl) (by kernel_rfl) (by kernel_rfl)
noncomputable def T5 : List TE := e5 :: T4
theorem ts5 : ∀ x, x ∈ T5 → TEOk Tryz.prog 13 x := TEs_cons t5 ts4
theorem t6 : TEOk Tryz.prog 13 e6 := TEOk_of prog_ok (hookOf_ok ts5) (n := 1000) (by kernel_rfl) (by kernel_rfl) (by kernel_rfl) (by kernel_rfl)
noncomputable def T6 : List TE := e6 :: T5
theorem ts6 : ∀ x, x ∈ T6 → TEOk Tryz.prog 13 x := TEs_cons t6 ts5
theorem t7 : TEOk Tryz.prog 13 e7 := TEOk_of prog_ok (hookOf_ok ts6) (n := 1000) (by kernel_rfl) (by kernel_rfl) (by kernel_rfl) (by kernel_rfl)
noncomputable def T7 : List TE := e7 :: T6
theorem ts7 : ∀ x, x ∈ T7 → TEOk Tryz.prog 13 x := TEs_cons t7 ts6
end Go.Proofs.YtanclegphihddaaGreatDoor
