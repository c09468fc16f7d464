/- PROVED: a start that fits the law's row. CONDITIONS: the row's own cells: the package-level variables start as the program's text lays them. -/
import Derived.Test.YtblbcopalfngcaaGreatDoorWitA
namespace Go.Proofs.YtblbcopalfngcaaGreatDoor
open Go Go.ChangeShapes Go.WideShapes Go.ChangeAt Go.RowKit
theorem lw_ok (os : Os) : Input.okWideB Tryz.prog ((lw os).forCall (fun _ _ => 0) ⟨#[], #[.string ByteArray.empty], []⟩) 3 ⟨#[], #[.string ByteArray.empty], []⟩ = true := by kernel_rfl
theorem lw_pre {H : Type} (enc : TypeId × Value → H) (os : Os) : Rows.cmdNilsSpec.preB enc Tryz.prog Tryz.f3 [] false ((lw os).forCall (fun _ _ => 0) ⟨#[], #[.string ByteArray.empty], []⟩).memory #[.string ByteArray.empty] 8 = true := by kernel_rfl
theorem lw_sized {H : Type} (enc : TypeId × Value → H) (os : Os) : Rows.cmdNilsSpec.sizedB enc Tryz.prog Tryz.f3 false ((lw os).forCall (fun _ _ => 0) ⟨#[], #[.string ByteArray.empty], []⟩).memory #[.string ByteArray.empty] 8 = true := by kernel_rfl
end Go.Proofs.YtblbcopalfngcaaGreatDoor
