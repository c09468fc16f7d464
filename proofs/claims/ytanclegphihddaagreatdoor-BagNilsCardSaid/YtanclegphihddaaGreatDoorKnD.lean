/- PROVED: calls that known() makes, by the evaluator. CONDITIONS: the row's own cells: the package-level variables start as the program's text lays them. -/
import Derived.Test.YtanclegphihddaaGreatDoorKnC
namespace Go.Proofs.YtanclegphihddaaGreatDoor
open Go Go.Ev Go.RowKit
theorem t4 : TEOk Tryz.prog 13 e4 := TEOk_of prog_ok (hookOf_ok ts3) (n := 1000) (by kernel_rfl) (by kernel_rfl) (by kernel_rfl) (by kernel_rfl)
noncomputable def T4 : List TE := e4 :: T3
theorem ts4 : ∀ x, x ∈ T4 → TEOk Tryz.prog 13 x := TEs_cons t4 ts3
end Go.Proofs.YtanclegphihddaaGreatDoor
