/- PROVED: calls that known() makes, by the evaluator. CONDITIONS: the row's own cells: the package-level variables start as the program's text lays them. -/
import Derived.Test.YtliackfnanndpaaGreatDoorKnC
namespace Go.Proofs.YtliackfnanndpaaGreatDoor
open Go Go.Ev Go.RowKit
theorem t13 : TEOk Tryz.prog 13 e13 := TEOk_of prog_ok (hookOf_ok ts12) (n := 1000) (by kernel_rfl) (by kernel_rfl) (by kernel_rfl) (by kernel_rfl)
noncomputable def T13 : List TE := e13 :: T12
theorem ts13 : ∀ x, x ∈ T13 → TEOk Tryz.prog 13 x := TEs_cons t13 ts12
end Go.Proofs.YtliackfnanndpaaGreatDoor
