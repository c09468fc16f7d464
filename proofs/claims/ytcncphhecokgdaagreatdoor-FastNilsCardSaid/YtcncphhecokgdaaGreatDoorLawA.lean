/- PROVED: FastNils: the walk, by the evaluator. CONDITIONS: the row's own cells: the package-level variables start as the program's text lays them. -/
import Derived.Test.YtcncphhecokgdaaGreatDoorKnZ
import Derived.Test.YtcncphhecokgdaaGreatDoorLawT
namespace Go.Proofs.YtcncphhecokgdaaGreatDoor
open Go Go.Ev Go.RowKit
theorem base_ok : baseOk 13 [b1, b3] = true := by kernel_rfl
theorem law (s : ByteArray) (k : Bool) (W : World) (hW : ∀ x, x ∈ ([b1, b3] : List BE) → HasBE W x) : Calls Tryz.prog 3 #[.string s, .bool k] W fun e W' => e = .returned (.bool true) ∧ Below W.heap.size W W' :=
  calls_true prog_ok (hookOf_ok ts20) (vs := [.string s, .bool k]) base_ok (fun _ => .cons _ _ _ _ (.str _ _ rfl) (.cons _ _ _ _ (.bool _) .nil)) (law_true _ k) W hW
end Go.Proofs.YtcncphhecokgdaaGreatDoor
