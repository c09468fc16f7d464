/- PROVED: facts of a start that fits NetNil's row. CONDITIONS: the row's own cells: the package-level variables start as the program's text lays them. -/
import Derived.Test.YthlikfecjjjclaaGreatDoorNetB
namespace Go.Proofs.YthlikfecjjjclaaGreatDoor
open Go Go.ChangeShapes Go.WideShapes Go.ChangeAt Go.RowKit
theorem lw_pre {H : Type} (enc : TypeId × Value → H) (os : Os) : Rows.netNilSpec.preB enc Tryz.prog Tryz.f3 [] false ((lw os).forCall (fun _ _ => 0) ⟨#[], #[.int .i64 0, .int .i64 0], []⟩).memory #[.int .i64 0, .int .i64 0] 8 = true := by kernel_rfl
theorem lw_sized {H : Type} (enc : TypeId × Value → H) (os : Os) : Rows.netNilSpec.sizedB enc Tryz.prog Tryz.f3 false ((lw os).forCall (fun _ _ => 0) ⟨#[], #[.int .i64 0, .int .i64 0], []⟩).memory #[.int .i64 0, .int .i64 0] 8 = true := by kernel_rfl
end Go.Proofs.YthlikfecjjjclaaGreatDoor
