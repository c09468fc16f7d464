/- PROVED: calls that known() makes, by the evaluator. CONDITIONS: the row's own cells: the package-level variables start as the program's text lays them. -/
import Derived.Test.YtliackfnanndpaaGreatDoorKnD
namespace Go.Proofs.YtliackfnanndpaaGreatDoor
open Go Go.Ev Go.RowKit
theorem t14 : TEOk Tryz.prog 13 e14 := TEOk_of prog_ok (hookOf_ok ts13) (n := 1000) (by kernel_rfl) (by kernel_rfl) (by kernel_rfl) (by kernel_rfl)
noncomputable def T14 : List TE := e14 :: T13
theorem ts14 : ∀ x, x ∈ T14 → TEOk Tryz.prog 13 x := TEs_cons t14 ts13
theorem t15 : TEOk Tryz.prog 13 e15 := TEOk_of prog_ok (hookOf_ok ts14) (n := 1000) (by kernel_rfl) (by kernel_rfl) (by kernel_rfl) (by kernel_rfl)
noncomputable def T15 : List TE := e15 :: T14
theorem ts15 : ∀ x, x ∈ T15 → TEOk Tryz.prog 13 x := TEs_cons t15 ts14
theorem t16 : TEOk Tryz.prog 13 e16 := TEOk_of prog_ok (hookOf_ok ts15) (n := 1000) (by kernel_rfl) (by kernel_rfl) (by kernel_rfl) (by kernel_rfl)
noncomputable def T16 : List TE := e16 :: T15
theorem ts16 : ∀ x, x ∈ T16 → TEOk Tryz.prog 13 x := TEs_cons t16 ts15
end Go.Proofs.YtliackfnanndpaaGreatDoor
