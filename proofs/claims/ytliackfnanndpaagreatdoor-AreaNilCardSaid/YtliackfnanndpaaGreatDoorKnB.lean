/- PROVED: calls that known() makes, by the evaluator. CONDITIONS: the row's own cells: the package-level variables start as the program's text lays them. -/
import Derived.Test.YtliackfnanndpaaGreatDoorKnA
namespace Go.Proofs.YtliackfnanndpaaGreatDoor
open Go Go.Ev Go.RowKit
theorem t1 : TEOk Tryz.prog 13 e1 := TEOk_of prog_ok (hookOf_ok ts0) (n := 1000) (by kernel_rfl) (by kernel_rfl) (by kernel_rfl) (by kernel_rfl)
noncomputable def T1 : List TE := e1 :: T0
theorem ts1 : ∀ x, x ∈ T1 → TEOk Tryz.prog 13 x := TEs_cons t1 ts0
theorem t2 : TEOk Tryz.prog 13 e2 := TEOk_of prog_ok (hookOf_ok ts1) (n := 1000) (by kernel_rfl) (by kernel_rfl) (by kernel_rfl) (by kernel_rfl)
noncomputable def T2 : List TE := e2 :: T1
theorem ts2 : ∀ x, x ∈ T2 → TEOk Tryz.prog 13 x := TEs_cons t2 ts1
theorem t3 : TEOk Tryz.prog 13 e3 := TEOk_of prog_ok (hookOf_ok ts2) (n := 1000) (by kernel_rfl) (by kernel_rfl) (by kernel_rfl) (by kernel_rfl)
noncomputable def T3 : List TE := e3 :: T2
theorem ts3 : ∀ x, x ∈ T3 → TEOk Tryz.prog 13 x := TEs_cons t3 ts2
theorem t4 : TEOk Tryz.prog 13 e4 := TEOk_of prog_ok (hookOf_ok ts3) (n := 1000) (by kernel_rfl) (by kernel_rfl) (by kernel_rfl) (by kernel_rfl)
noncomputable def T4 : List TE := e4 :: T3
theorem ts4 : ∀ x, x ∈ T4 → TEOk Tryz.prog 13 x := TEs_cons t4 ts3
theorem t5 : TEOk Tryz.prog 13 e5 := TEOk_of prog_ok (hookOf_ok ts4) (n := 1000) (by kernel_rfl) (by kernel_rfl) (by kernel_rfl) (by kernel_rfl)
noncomputable def T5 : List TE := e5 :: T4
theorem ts5 : ∀ x, x ∈ T5 → TEOk Tryz.prog 13 x := TEs_cons t5 ts4
theorem t6 : TEOk Tryz.prog 13 e6 := TEOk_of prog_ok (hookOf_ok ts5) (n := 1000) (by kernel_rfl) (by kernel_rfl) (by kernel_rfl) (by kernel_rfl)
noncomputable def T6 : List TE := e6 :: T5
theorem ts6 : ∀ x, x ∈ T6 → TEOk Tryz.prog 13 x := TEs_cons t6 ts5
theorem t7 : TEOk Tryz.prog 13 e7 := TEOk_of prog_ok (hookOf_ok ts6) (n := 1000) (by kernel_rfl) (by kernel_rfl) (by kernel_rfl) (by kernel_rfl)
noncomputable def T7 : List TE := e7 :: T6
theorem ts7 : ∀ x, x ∈ T7 → TEOk Tryz.prog 13 x := TEs_cons t7 ts6
theorem t8 : TEOk Tryz.prog 13 e8 := TEOk_of prog_ok (hookOf_ok ts7) (n := 1000) (by kernel_rfl) (by kernel_rfl) (by kernel_rfl) (by kernel_rfl)
noncomputable def T8 : List TE := e8 :: T7
theorem ts8 : ∀ x, x ∈ T8 → TEOk Tryz.prog 13 x := TEs_cons t8 ts7
theorem t9 : TEOk Tryz.prog 13 e9 := TEOk_of prog_ok (hookOf_ok ts8) (n := 1000) (by kernel_rfl) (by kernel_rfl) (by kernel_rfl) (by kernel_rfl)
noncomputable def T9 : List TE := e9 :: T8
theorem ts9 : ∀ x, x ∈ T9 → TEOk Tryz.prog 13 x := TEs_cons t9 ts8
theorem t10 : TEOk Tryz.prog 13 e10 := TEOk_of prog_ok (hookOf_ok ts9) (n := 1000) (by kernel_rfl) (by kernel_rfl) (by kernel_rfl) (by kernel_rfl)
noncomputable def T10 : List TE := e10 :: T9
theorem ts10 : ∀ x, x ∈ T10 → TEOk Tryz.prog 13 x := TEs_cons t10 ts9
theorem t11 : TEOk Tryz.prog 13 e11 := TEOk_of prog_ok (hookOf_ok ts10) (n := 1000) (by kernel_rfl) (by kernel_rfl) (by kernel_rfl) (by kernel_rfl)
noncomputable def T11 : List TE := e11 :: T10
theorem ts11 : ∀ x, x ∈ T11 → TEOk Tryz.prog 13 x := TEs_cons t11 ts10
end Go.Proofs.YtliackfnanndpaaGreatDoor
