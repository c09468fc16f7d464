/- PROVED: calls that known() makes, by the evaluator. CONDITIONS: the row's own cells: the package-level variables start as the program's text lays them. -/
import Derived.Test.YtflapfekfmmcmaaGreatDoorKnA
namespace Go.Proofs.YtflapfekfmmcmaaGreatDoor
open Go Go.Ev Go.RowKit
theorem tt6 (h : ∀ x, x ∈ T5 → TEOk Tryz.prog 13 x) (hf : ∀ x, x ∈ (L2 : List FE) → FEOk Tryz.prog 13 x) : TEOk Tryz.prog 13 e6 := TEOk_of prog_ok (hookOr_ok (hookOf_ok h) (hookFr_ok hf)) (n := 1000) (by kernel_rfl) (by kernel_rfl) (by kernel_rfl) (by kernel_rfl)
theorem tt7 (h : ∀ x, x ∈ T6 → TEOk Tryz.prog 13 x) (hf : ∀ x, x ∈ ([] : List FE) → FEOk Tryz.prog 13 x) : TEOk Tryz.prog 13 e7 := TEOk_of prog_ok (hookOr_ok (hookOf_ok h) (hookFr_ok hf)) (n := 1000) (by kernel_rfl) (by kernel_rfl) (by kernel_rfl) (by kernel_rfl)
theorem tt8 (h : ∀ x, x ∈ T7 → TEOk Tryz.prog 13 x) (hf : ∀ x, x ∈ ([] : List FE) → FEOk Tryz.prog 13 x) : TEOk Tryz.prog 13 e8 := TEOk_of prog_ok (hookOr_ok (hookOf_ok h) (hookFr_ok hf)) (n := 1000) (by kernel_rfl) (by kernel_rfl) (by kernel_rfl) (by kernel_rfl)
theorem tt9 (h : ∀ x, x ∈ T8 → TEOk Tryz.prog 13 x) (hf : ∀ x, x ∈ ([] : List FE) → FEOk Tryz.prog 13 x) : TEOk Tryz.prog 13 e9 := TEOk_of prog_ok (hookOr_ok (hookOf_ok h) (hookFr_ok hf)) (n := 1000) (by kernel_rfl) (by kernel_rfl) (by kernel_rfl) (by kernel_rfl)
end Go.Proofs.YtflapfekfmmcmaaGreatDoor
