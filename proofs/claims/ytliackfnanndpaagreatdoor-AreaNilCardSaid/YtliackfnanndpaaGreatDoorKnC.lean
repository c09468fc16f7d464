/- PROVED: calls that known() makes, by the evaluator. CONDITIONS: the row's own cells: the package-level variables start as the program's text lays them. -/
import Derived.Test.YtliackfnanndpaaGreatDoorKnB
namespace Go.Proofs.YtliackfnanndpaaGreatDoor
open Go Go.Ev Go.RowKit
theorem t12 : TEOk Tryz.prog 13 e12 := TEOk_of prog_ok (hookOf_ok ts11) (n := 1000) (by kernel_rfl) (by kernel_rfl) (by kernel_rfl) (by kernel_rfl)
noncomputable def T12 : List TE := e12 :: T11
theorem ts12 : ∀ x, x ∈ T12 → TEOk Tryz.prog 13 x := TEs_cons t12 ts11
end Go.Proofs.YtliackfnanndpaaGreatDoor
