/- PROVED: calls that known() makes, by the evaluator. CONDITIONS: the row's own cells: the package-level variables start as the program's text lays them. -/
import Derived.Test.YtdmepghoffhphaaGreatDoorKnA
namespace Go.Proofs.YtdmepghoffhphaaGreatDoor
open Go Go.Ev Go.RowKit
theorem tt1 (h : ∀ x, x ∈ T0 → TEOk Tryz.prog 13 x) (hf : ∀ x, x ∈ ([] : List FE) → FEOk Tryz.prog 13 x) : TEOk Tryz.prog 13 e1 := TEOk_of prog_ok (hookOr_ok (hookOf_ok h) (hookFr_ok hf)) (n := 1000) (by kernel_rfl) (by kernel_rfl) (by kernel_rfl) (by kernel_rfl)
theorem tt2 (h : ∀ x, x ∈ T1 → TEOk Tryz.prog 13 x) (hf : ∀ x, x ∈ ([] : List FE) → FEOk Tryz.prog 13 x) : TEOk Tryz.prog 13 e2 := TEOk_of prog_ok (hookOr_ok (hookOf_ok h) (hookFr_ok hf)) (n := 1000) (by kernel_rfl) (by kernel_rfl) (by kernel_rfl) (by kernel_rfl)
theorem tt3 (h : ∀ x, x ∈ T2 → TEOk Tryz.prog 13 x) (hf : ∀ x, x ∈ ([] : List FE) → FEOk Tryz.prog 13 x) : TEOk Tryz.prog 13 e3 := TEOk_of prog_ok (hookOr_ok (hookOf_ok h) (hookFr_ok hf)) (n := 1000) (by kernel_rfl) (by kernel_rfl) (by kernel_rfl) (by kernel_rfl)
theorem tt4 (h : ∀ x, x ∈ T3 → TEOk Tryz.prog 13 x) (hf : ∀ x, x ∈ ([] : List FE) → FEOk Tryz.prog 13 x) : TEOk Tryz.prog 13 e4 := TEOk_of prog_ok (hookOr_ok (hookOf_ok h) (hookFr_ok hf)) (n := 1000) (by kernel_rfl) (by kernel_rfl) (by kernel_rfl) (by kernel_rfl)
theorem tt5 (h : ∀ x, x ∈ T4 → TEOk Tryz.prog 13 x) (hf : ∀ x, x ∈ ([] : List FE) → FEOk Tryz.prog 13 x) : TEOk Tryz.prog 13 e5 := TEOk_of prog_ok (hookOr_ok (hookOf_ok h) (hookFr_ok hf)) (n := 1000) (by kernel_rfl) (by kernel_rfl) (by kernel_rfl) (by kernel_rfl)
theorem tt6 (h : ∀ x, x ∈ T5 → TEOk Tryz.prog 13 x) (hf : ∀ x, x ∈ ([] : List FE) → FEOk Tryz.prog 13 x) : TEOk Tryz.prog 13 e6 := TEOk_of prog_ok (hookOr_ok (hookOf_ok h) (hookFr_ok hf)) (n := 1000) (by kernel_rfl) (by kernel_rfl) (by kernel_rfl) (by kernel_rfl)
theorem tt7 (h : ∀ x, x ∈ T6 → TEOk Tryz.prog 13 x) (hf : ∀ x, x ∈ ([] : List FE) → FEOk Tryz.prog 13 x) : TEOk Tryz.prog 13 e7 := TEOk_of prog_ok (hookOr_ok (hookOf_ok h) (hookFr_ok hf)) (n := 1000) (by kernel_rfl) (by kernel_rfl) (by kernel_rfl) (by kernel_rfl)
end Go.Proofs.YtdmepghoffhphaaGreatDoor
