/- PROVED: a start that fits AreaNil's row. CONDITIONS: the row's own cells: the package-level variables start as the program's text lays them. -/
import Derived.Test.YtliackfnanndpaaGreatDoorWitA
namespace Go.Proofs.YtliackfnanndpaaGreatDoor
open Go Go.ChangeShapes Go.WideShapes Go.ChangeAt Go.RowKit
theorem lw_ok (os : Os) : Input.okWideB Tryz.prog ((lw os).forCall (fun _ _ => 0) ⟨#[], #[.string ByteArray.empty, .int .i64 0], []⟩) 3 ⟨#[], #[.string ByteArray.empty, .int .i64 0], []⟩ = true := by kernel_rfl
theorem lw_pre {H : Type} (enc : TypeId × Value → H) (os : Os) : Rows.areaNilSpec.preB enc Tryz.prog Tryz.f3 [] false ((lw os).forCall (fun _ _ => 0) ⟨#[], #[.string ByteArray.empty, .int .i64 0], []⟩).memory #[.string ByteArray.empty, .int .i64 0] 8 = true := by kernel_rfl
theorem lw_sized {H : Type} (enc : TypeId × Value → H) (os : Os) : Rows.areaNilSpec.sizedB enc Tryz.prog Tryz.f3 false ((lw os).forCall (fun _ _ => 0) ⟨#[], #[.string ByteArray.empty, .int .i64 0], []⟩).memory #[.string ByteArray.empty, .int .i64 0] 8 = true := by kernel_rfl
end Go.Proofs.YtliackfnanndpaaGreatDoor
