/- PROVED: a part of the tie of the row's variables to the program's text. CONDITIONS: none. -/
import Derived.Test.YtblbcopalfngcaaGreatDoorTieA
namespace Go.Proofs.YtblbcopalfngcaaGreatDoor
open Go
theorem tie_id : varsId Tryz.pinned.checked.prog = 730 := by kernel_rfl
end Go.Proofs.YtblbcopalfngcaaGreatDoor
