/- PROVED: calls that known() makes, by the evaluator. CONDITIONS: the row's own cells: the package-level variables start as the program's text lays them. -/
import Derived.Test.YtflapfekfmmcmaaGreatDoorKnA
namespace Go.Proofs.YtflapfekfmmcmaaGreatDoor
open Go Go.Ev Go.RowKit
theorem tt2 (h : ∀ x, x ∈ T1 → TEOk Tryz.prog 13 x) (hf : ∀ x, x ∈ (L1 : List FE) → FEOk Tryz.prog 13 x) : TEOk Tryz.prog 13 e2 := TEOk_of prog_ok (hookOr_ok (hookOf_ok h) (hookFr_ok hf)) (n := 1000) (by kernel_rfl) (by kernel_rfl) (by kernel_rfl) (by kernel_rfl)
theorem tt3 (h : ∀ x, x ∈ T2 → TEOk Tryz.prog 13 x) (hf : ∀ x, x ∈ ([] : List FE) → FEOk Tryz.prog 13 x) : TEOk Tryz.prog 13 e3 := TEOk_of prog_ok (hookOr_ok (hookOf_ok h) (hookFr_ok hf)) (n := 1000) (by kernel_rfl) (by kernel_rfl) (by kernel_rfl) (by kernel_rfl)
theorem tt4 (h : ∀ x, x ∈ T3 → TEOk Tryz.prog 13 x) (hf : ∀ x, x ∈ ([] : List FE) → FEOk Tryz.prog 13 x) : TEOk Tryz.prog 13 e4 := TEOk_of prog_ok (hookOr_ok (hookOf_ok h) (hookFr_ok hf)) (n := 1000) (by kernel_rfl) (by kernel_rfl) (by kernel_rfl) (by kernel_rfl)
end Go.Proofs.YtflapfekfmmcmaaGreatDoor
