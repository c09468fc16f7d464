/- PROVED: calls that known() makes, by the evaluator. CONDITIONS: the row's own cells: the package-level variables start as the program's text lays them. -/
import Derived.Test.YtdmepghoffhphaaGreatDoorKnA
namespace Go.Proofs.YtdmepghoffhphaaGreatDoor
open Go Go.Ev Go.RowKit
theorem ff2 (h : ∀ x, x ∈ T19 → TEOk Tryz.prog 13 x) (hf : ∀ x, x ∈ ([] : List FE) → FEOk Tryz.prog 13 x) : FEOk Tryz.prog 13 f2 := FEOk_of prog_ok (hookOr_ok (hookOf_ok h) (hookFr_ok hf)) (n := 1000) (by kernel_rfl)
end Go.Proofs.YtdmepghoffhphaaGreatDoor
