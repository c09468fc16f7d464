/- PROVED: FastNils: the walk, by the evaluator. CONDITIONS: the row's own cells: the package-level variables start as the program's text lays them. -/
import Derived.Test.YtcncphhecokgdaaGreatDoorKnA
namespace Go.Proofs.YtcncphhecokgdaaGreatDoor
open Go Go.Ev Go.RowKit
theorem law_true (s : List Nat) (k : Bool) : isTrue (evCall Tryz.prog (extOf kk) (regD Tryz.prog (extOf kk)) (hookOf 13 T20) 1000 (.fn 3) [.str s, .bool k] (baseH 13 [b1, b3])) = true := by kernel_rfl
end Go.Proofs.YtcncphhecokgdaaGreatDoor
