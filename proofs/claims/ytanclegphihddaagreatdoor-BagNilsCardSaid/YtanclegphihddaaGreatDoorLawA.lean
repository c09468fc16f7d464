/- PROVED: BagNils returns true on every input: the walk, by the evaluator. CONDITIONS: the row's own cells: the package-level variables start as the program's text lays them. -/
import Derived.Test.YtanclegphihddaaGreatDoorKnE
namespace Go.Proofs.YtanclegphihddaaGreatDoor
open Go Go.Ev Go.RowKit
theorem law_true_nil (k : Int) : isTrue (evCall Tryz.prog (extOf kk) (regD Tryz.prog (extOf kk)) (hookOf 13 T7) 1000 (.fn 3) [.int .i64 k, .str []] (baseH 13 [b1])) = true := by kernel_rfl
theorem law_true_cons (k : Int) (c : Nat) (s : List Nat) : isTrue (evCall Tryz.prog (extOf kk) (regD Tryz.prog (extOf kk)) (hookOf 13 T7) 1000 (.fn 3) [.int .i64 k, .str (c :: s)] (baseH 13 [b1])) = true := by kernel_rfl
theorem law_true (k : Int) (s : List Nat) : isTrue (evCall Tryz.prog (extOf kk) (regD Tryz.prog (extOf kk)) (hookOf 13 T7) 1000 (.fn 3) [.int .i64 k, .str s] (baseH 13 [b1])) = true := by
  cases s with
  | nil => exact law_true_nil k
  | cons c s => exact law_true_cons k c s
theorem base_ok : baseOk 13 [b1] = true := by kernel_rfl
theorem law (k : Int) (s : ByteArray) (W : World) (hW : ∀ x, x ∈ ([b1] : List BE) → HasBE W x) : Calls Tryz.prog 3 #[.int .i64 k, .string s] W fun e W' => e = .returned (.bool true) ∧ Below W.heap.size W W' :=
  calls_true prog_ok (hookOf_ok ts7) (vs := [.int .i64 k, .string s]) base_ok (fun _ => .cons _ _ _ _ (.int _ _) (.cons _ _ _ _ (.str _ _ rfl) .nil)) (law_true k _) W hW
end Go.Proofs.YtanclegphihddaaGreatDoor
