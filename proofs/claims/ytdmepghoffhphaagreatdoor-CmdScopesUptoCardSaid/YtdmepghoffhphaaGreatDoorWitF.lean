/- PROVED: a start that fits the law's row. CONDITIONS: the row's own cells: the package-level variables start as the program's text lays them; the bulk of the arguments is at most 1048576. -/
import Derived.Test.YtdmepghoffhphaaGreatDoorWitA
namespace Go.Proofs.YtdmepghoffhphaaGreatDoor
open Go Go.ChangeShapes Go.WideShapes Go.ChangeAt Go.RowKit
theorem lw_ok (os : Os) : Input.okWideB Tryz.prog ((lw os).forCall (fun _ _ => 0) ⟨#[], #[.agg #[.int .i64 0, .slice none 0 0, .slice none 0 0, .slice none 0 0]], []⟩) 3 ⟨#[], #[.agg #[.int .i64 0, .slice none 0 0, .slice none 0 0, .slice none 0 0]], []⟩ = true := by kernel_rfl
theorem lw_whole {H : Type} (enc : TypeId × Value → H) (os : Os) : DataW.whole enc Tryz.prog ((lw os).forCall (fun _ _ => 0) ⟨#[], #[.agg #[.int .i64 0, .slice none 0 0, .slice none 0 0, .slice none 0 0]], []⟩).memory Tryz.f3.params.toList (Rows.OpenSpec.upto Rows.cmdScopesSpec).vars false #[Value.agg #[.int .i64 0, .slice none 0 0, .slice none 0 0, .slice none 0 0]].toList 8 = some ([.agg [.lit (.int .i64 0), .nil, .nil, .nil]], [], []) := by kernel_rfl
theorem lw_sized {H : Type} (enc : TypeId × Value → H) (os : Os) : (Rows.OpenSpec.upto Rows.cmdScopesSpec).bare.sizedB enc Tryz.prog Tryz.f3 false ((lw os).forCall (fun _ _ => 0) ⟨#[], #[.agg #[.int .i64 0, .slice none 0 0, .slice none 0 0, .slice none 0 0]], []⟩).memory #[Value.agg #[.int .i64 0, .slice none 0 0, .slice none 0 0, .slice none 0 0]] 8 = true := by kernel_rfl
end Go.Proofs.YtdmepghoffhphaaGreatDoor
