/- PROVED: CmdNils: the walk, by the evaluator. CONDITIONS: the row's own cells: the package-level variables start as the program's text lays them. -/
import Derived.Test.YtblbcopalfngcaaGreatDoorKnA
namespace Go.Proofs.YtblbcopalfngcaaGreatDoor
open Go Go.Ev Go.RowKit
theorem law_true (s : List Nat) : isTrue (evCall Tryz.prog (extOf kk) (regD Tryz.prog (extOf kk)) (hookOf 13 T20) 1000 (.fn 3) [.str s] (baseH 13 [b4])) = true := by kernel_rfl
end Go.Proofs.YtblbcopalfngcaaGreatDoor
