/- PROVED: the methods of no desk give nothing and ErrState, and known() holds, for all names and numbers: the walk, by the evaluator. CONDITIONS: the row's own cells: the package-level variables start as the program's text lays them. -/
import Derived.Test.YtliackfnanndpaaGreatDoorKnE
namespace Go.Proofs.YtliackfnanndpaaGreatDoor
open Go Go.Ev Go.RowKit
noncomputable def c3 : Code := Tryz.f3.body.getD .skip
noncomputable def a0 : Code := seqL c3
noncomputable def a1 : Code := seqL (seqL (seqR c3))
noncomputable def aC : Code := seqR (seqL (seqR c3))
noncomputable def aR : Code := seqR (seqR c3)
theorem c3_eq : c3 = .seq a0 (.seq (.seq a1 (.cond (condX aC) (condT aC) (condF aC))) aR) := by kernel_rfl
noncomputable def tA (s : List Nat) (k : Int) : Tr AV := (ofL [.str s, .int .i64 k]).put 4 (.bool false)
noncomputable def tB (s : List Nat) (k : Int) : Tr AV := (((tA s k).put 20 (.str s)).put 21 (.int .i64 (Int.ofNat s.length))).put 22 (.bool (decide (Int.ofNat s.length > 131072)))
theorem run_a0 (s : List Nat) (k : Int) : evCode Tryz.prog (extOf kk) (evCall Tryz.prog (extOf kk) (regD Tryz.prog (extOf kk)) (hookOf 13 T16) 999) (regD Tryz.prog (extOf kk) (evCall Tryz.prog (extOf kk) (regD Tryz.prog (extOf kk)) (hookOf 13 T16) 999)) Tryz.f3.ntmps none 999999999 a0 (ofL [.str s, .int .i64 k]) [] (baseH 13 [b4]) = .ok .normal (tA s k) [] (baseH 13 [b4]) := by kernel_rfl
theorem run_a1 (s : List Nat) (k : Int) : evCode Tryz.prog (extOf kk) (evCall Tryz.prog (extOf kk) (regD Tryz.prog (extOf kk)) (hookOf 13 T16) 999) (regD Tryz.prog (extOf kk) (evCall Tryz.prog (extOf kk) (regD Tryz.prog (extOf kk)) (hookOf 13 T16) 999)) Tryz.f3.ntmps none 999999997 a1 (tA s k) [] (baseH 13 [b4]) = .ok .normal (tB s k) [] (baseH 13 [b4]) := by kernel_rfl
theorem test_a (s : List Nat) (k : Int) : evX (baseH 13 [b4]).G (tB s k) (condX aC) = some (.bool (decide (Int.ofNat s.length > 131072))) := by kernel_rfl
noncomputable def fin3 (r : CR) : Bool := isTrue (finA Tryz.prog (extOf kk) (evCall Tryz.prog (extOf kk) (regD Tryz.prog (extOf kk)) (hookOf 13 T16) 999) (regD Tryz.prog (extOf kk)) Tryz.f3 r)
theorem long_s (s : List Nat) (k : Int) : fin3 (seqK (fun T D H => evCode Tryz.prog (extOf kk) (evCall Tryz.prog (extOf kk) (regD Tryz.prog (extOf kk)) (hookOf 13 T16) 999) (regD Tryz.prog (extOf kk) (evCall Tryz.prog (extOf kk) (regD Tryz.prog (extOf kk)) (hookOf 13 T16) 999)) Tryz.f3.ntmps none 999999998 aR T D H) (evCode Tryz.prog (extOf kk) (evCall Tryz.prog (extOf kk) (regD Tryz.prog (extOf kk)) (hookOf 13 T16) 999) (regD Tryz.prog (extOf kk) (evCall Tryz.prog (extOf kk) (regD Tryz.prog (extOf kk)) (hookOf 13 T16) 999)) Tryz.f3.ntmps none 999999996 (condT aC) (tB s k) [] (baseH 13 [b4]))) = true := by kernel_rfl
theorem short_s (s : List Nat) (k : Int) : fin3 (seqK (fun T D H => evCode Tryz.prog (extOf kk) (evCall Tryz.prog (extOf kk) (regD Tryz.prog (extOf kk)) (hookOf 13 T16) 999) (regD Tryz.prog (extOf kk) (evCall Tryz.prog (extOf kk) (regD Tryz.prog (extOf kk)) (hookOf 13 T16) 999)) Tryz.f3.ntmps none 999999998 aR T D H) (evCode Tryz.prog (extOf kk) (evCall Tryz.prog (extOf kk) (regD Tryz.prog (extOf kk)) (hookOf 13 T16) 999) (regD Tryz.prog (extOf kk) (evCall Tryz.prog (extOf kk) (regD Tryz.prog (extOf kk)) (hookOf 13 T16) 999)) Tryz.f3.ntmps none 999999996 (condF aC) (tB s k) [] (baseH 13 [b4]))) = true := by kernel_rfl
theorem area_true (s : List Nat) (k : Int) : isTrue (evCall Tryz.prog (extOf kk) (regD Tryz.prog (extOf kk)) (hookOf 13 T16) 1000 (.fn 3) [.str s, .int .i64 k] (baseH 13 [b4])) = true := by
  rw [show (1000 : Nat) = 999 + 1 from rfl, evCall_unf (fn := Tryz.f3) (c := c3) (by kernel_rfl) (by kernel_rfl) (by kernel_rfl) (by kernel_rfl)]
  rw [c3_eq, show (1000000000 : Nat) = 999999999 + 1 from rfl, code_seq (run_a0 s k), show (999999999 : Nat) = 999999998 + 1 from rfl, code_seq_unf, show (999999998 : Nat) = 999999997 + 1 from rfl, code_seq (run_a1 s k), show (999999997 : Nat) = 999999996 + 1 from rfl, code_cond (test_a s k)]
  cases decide (Int.ofNat s.length > 131072)
  · exact short_s s k
  · exact long_s s k
theorem base_ok : baseOk 13 [b4] = true := by kernel_rfl
theorem law (s : ByteArray) (k : Int) (W : World) (hW : ∀ x, x ∈ ([b4] : List BE) → HasBE W x) : Calls Tryz.prog 3 #[.string s, .int .i64 k] W fun e W' => e = .returned (.bool true) ∧ Below W.heap.size W W' :=
  calls_true prog_ok (hookOf_ok ts16) (vs := [.string s, .int .i64 k]) base_ok (fun _ => .cons _ _ _ _ (.str _ s rfl) (.cons _ _ _ _ (.int _ _) .nil)) (area_true _ k) W hW
end Go.Proofs.YtliackfnanndpaaGreatDoor
