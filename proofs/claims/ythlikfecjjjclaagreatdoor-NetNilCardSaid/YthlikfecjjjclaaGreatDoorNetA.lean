/- PROVED: the methods of no net give nothing and ErrState, and known() holds, for all numbers: the walk, by the evaluator. CONDITIONS: the row's own cells: the package-level variables start as the program's text lays them. -/
import Derived.Test.YthlikfecjjjclaaGreatDoorRows
import Derived.Test.YthlikfecjjjclaaGreatDoorEvD
namespace Go.Proofs.YthlikfecjjjclaaGreatDoor
open Go Go.Ev Go.RowKit
def kk : List (Nat × EK) := [(144, .unitP), (145, .unit), (146, .addI32), (148, .unit), (153, .casI32), (154, .unitP), (274, .ident)]
theorem net_true (u k : Int) : isTrue (evCall Tryz.prog (extOf kk) (regD Tryz.prog (extOf kk)) noHook 1000 (.fn 3) [.int .i64 u, .int .i64 k] (baseH 12 [])) = true := by kernel_rfl
theorem net_follows : Tryz.prog.follows .mixedOrders = true := by kernel_rfl
theorem net_names : namesB Tryz.prog = true := by kernel_rfl
theorem x144 : ExtFact Tryz.prog 144 .unitP := extFact_of (by kernel_rfl) (by kernel_rfl) ok_releaseMerge
theorem x145 : ExtFact Tryz.prog 145 .unit := extFact_of (by kernel_rfl) (by kernel_rfl) ok_disable
theorem x146 : ExtFact Tryz.prog 146 .addI32 := extFact_of (by kernel_rfl) (by kernel_rfl) ok_addI32
theorem x148 : ExtFact Tryz.prog 148 .unit := extFact_of (by kernel_rfl) (by kernel_rfl) ok_enable
theorem x153 : ExtFact Tryz.prog 153 .casI32 := extFact_of (by kernel_rfl) (by kernel_rfl) ok_casI32
theorem x154 : ExtFact Tryz.prog 154 .unitP := extFact_of (by kernel_rfl) (by kernel_rfl) ok_acquire
theorem x274 : ExtFact Tryz.prog 274 .ident := extFact_of (by kernel_rfl) (by kernel_rfl) ok_same
theorem net_ok : EvOk Tryz.prog (extOf kk) (regD Tryz.prog (extOf kk)) := evOk_of net_names (fun g k h => by
  simp only [kk, List.mem_cons, Prod.mk.injEq, List.not_mem_nil, or_false] at h
  rcases h with ⟨rfl, rfl⟩ | ⟨rfl, rfl⟩ | ⟨rfl, rfl⟩ | ⟨rfl, rfl⟩ | ⟨rfl, rfl⟩ | ⟨rfl, rfl⟩ | ⟨rfl, rfl⟩
  · exact x144
  · exact x145
  · exact x146
  · exact x148
  · exact x153
  · exact x154
  · exact x274) net_follows
theorem law (u k : Int) (W : World) : Calls Tryz.prog 3 #[.int .i64 u, .int .i64 k] W fun e W' => e = .returned (.bool true) ∧ Below W.heap.size W W' :=
  calls_true net_ok noHook_ok (base := []) (vs := [.int .i64 u, .int .i64 k]) rfl (fun _ => .cons _ _ _ _ (.int _ _) (.cons _ _ _ _ (.int _ _) .nil)) (net_true u k) W (fun x h => by cases h)
end Go.Proofs.YthlikfecjjjclaaGreatDoor
