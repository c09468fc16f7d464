/- PROVED: calls that known() makes, by the evaluator. CONDITIONS: the row's own cells: the package-level variables start as the program's text lays them. -/
import Derived.Test.YtanclegphihddaaGreatDoorKnA
namespace Go.Proofs.YtanclegphihddaaGreatDoor
open Go Go.Ev Go.RowKit
theorem t1 : TEOk Tryz.prog 13 e1 := TEOk_of prog_ok (hookOf_ok ts0) (n := 1000) (by kernel_rfl) (by kernel_rfl) (by kernel_rfl) (by kernel_rfl)
noncomputable def T1 : List TE := e1 :: T0
theorem ts1 : ∀ x, x ∈ T1 → TEOk Tryz.prog 13 x := TEs_cons t1 ts0
theorem t2 : TEOk Tryz.prog 13 e2 := TEOk_of prog_ok (hookOf_ok ts1) (n := 1000) (by kernel_rfl) (by kernel_rfl) (by kernel_rfl) (by kernel_rfl)
noncomputable def T2 : List TE := e2 :: T1
theorem ts2 : ∀ x, x ∈ T2 → TEOk Tryz.prog 13 x := TEs_cons t2 ts1
end Go.Proofs.YtanclegphihddaaGreatDoor
