/- PROVED: calls that known() makes, by the evaluator. CONDITIONS: the row's own cells: the package-level variables start as the program's text lays them. -/
import Derived.Test.YtcncphhecokgdaaGreatDoorKnA
namespace Go.Proofs.YtcncphhecokgdaaGreatDoor
open Go Go.Ev Go.RowKit
theorem ff3 (h : ∀ x, x ∈ T19 → TEOk Tryz.prog 13 x) (hf : ∀ x, x ∈ (L2 : List FE) → FEOk Tryz.prog 13 x) : FEOk Tryz.prog 13 f3 := FEOk_of prog_ok (hookOr_ok (hookOf_ok h) (hookFr_ok hf)) (n := 1000) (by kernel_rfl)
end Go.Proofs.YtcncphhecokgdaaGreatDoor
