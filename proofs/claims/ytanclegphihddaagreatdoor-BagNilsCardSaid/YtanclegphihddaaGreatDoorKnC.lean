/- PROVED: calls that known() makes, by the evaluator. CONDITIONS: the row's own cells: the package-level variables start as the program's text lays them. -/
import Derived.Test.YtanclegphihddaaGreatDoorKnB
namespace Go.Proofs.YtanclegphihddaaGreatDoor
open Go Go.Ev Go.RowKit
theorem t3 : TEOk Tryz.prog 13 e3 := TEOk_of prog_ok (hookOf_ok ts2) (n := 1000) (by kernel_rfl) (by kernel_rfl) (by kernel_rfl) (by kernel_rfl)
noncomputable def T3 : List TE := e3 :: T2
theorem ts3 : ∀ x, x ∈ T3 → TEOk Tryz.prog 13 x := TEs_cons t3 ts2
end Go.Proofs.YtanclegphihddaaGreatDoor
