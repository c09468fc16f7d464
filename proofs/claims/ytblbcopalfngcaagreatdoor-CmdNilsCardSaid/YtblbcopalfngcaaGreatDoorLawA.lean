/- PROVED: CmdNils: the walk, by the evaluator. CONDITIONS: the row's own cells: the package-level variables start as the program's text lays them. -/
import Derived.Test.YtblbcopalfngcaaGreatDoorKnZ
import Derived.Test.YtblbcopalfngcaaGreatDoorLawT
namespace Go.Proofs.YtblbcopalfngcaaGreatDoor
open Go Go.Ev Go.RowKit
theorem base_ok : baseOk 13 [b4] = true := by kernel_rfl
theorem law (s : ByteArray) (W : World) (hW : ∀ x, x ∈ ([b4] : List BE) → HasBE W x) : Calls Tryz.prog 3 #[.string s] W fun e W' => e = .returned (.bool true) ∧ Below W.heap.size W W' :=
  calls_true prog_ok (hookOf_ok ts20) (vs := [.string s]) base_ok (fun _ => .cons _ _ _ _ (.str _ _ rfl) .nil) (law_true _) W hW
end Go.Proofs.YtblbcopalfngcaaGreatDoor
