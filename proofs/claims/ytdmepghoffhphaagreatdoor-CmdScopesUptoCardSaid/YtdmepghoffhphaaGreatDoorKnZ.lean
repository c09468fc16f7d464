/- PROVED: calls that known() makes, by the evaluator. CONDITIONS: the row's own cells: the package-level variables start as the program's text lays them. -/
import Derived.Test.YtdmepghoffhphaaGreatDoorKnB
import Derived.Test.YtdmepghoffhphaaGreatDoorKnC
import Derived.Test.YtdmepghoffhphaaGreatDoorKnD
import Derived.Test.YtdmepghoffhphaaGreatDoorKnE
import Derived.Test.YtdmepghoffhphaaGreatDoorKnF
import Derived.Test.YtdmepghoffhphaaGreatDoorKnG
import Derived.Test.YtdmepghoffhphaaGreatDoorOpA
namespace Go.Proofs.YtdmepghoffhphaaGreatDoor
open Go Go.Ev Go.Proofs Go.RowKit
theorem oT : TEOk Tryz.prog 13 oE := by
  have h : oE = ownTE 223 13 16 opsAV 9 := by kernel_rfl
  rw [h]; exact ops_ok 13
theorem ts0 : ∀ x, x ∈ T0 → TEOk Tryz.prog 13 x := TEs_cons oT (fun x h => by cases h)
theorem ts1 : ∀ x, x ∈ T1 → TEOk Tryz.prog 13 x := TEs_cons (tt1 ts0 FEs_nil) ts0
theorem ts2 : ∀ x, x ∈ T2 → TEOk Tryz.prog 13 x := TEs_cons (tt2 ts1 FEs_nil) ts1
theorem ts3 : ∀ x, x ∈ T3 → TEOk Tryz.prog 13 x := TEs_cons (tt3 ts2 FEs_nil) ts2
theorem ts4 : ∀ x, x ∈ T4 → TEOk Tryz.prog 13 x := TEs_cons (tt4 ts3 FEs_nil) ts3
theorem ts5 : ∀ x, x ∈ T5 → TEOk Tryz.prog 13 x := TEs_cons (tt5 ts4 FEs_nil) ts4
theorem ts6 : ∀ x, x ∈ T6 → TEOk Tryz.prog 13 x := TEs_cons (tt6 ts5 FEs_nil) ts5
theorem ts7 : ∀ x, x ∈ T7 → TEOk Tryz.prog 13 x := TEs_cons (tt7 ts6 FEs_nil) ts6
theorem ts8 : ∀ x, x ∈ T8 → TEOk Tryz.prog 13 x := TEs_cons (tt8 ts7 FEs_nil) ts7
theorem ls1 : ∀ x, x ∈ L1 → FEOk Tryz.prog 13 x := FEs_cons (ff1 ts8 FEs_nil) FEs_nil
theorem ts9 : ∀ x, x ∈ T9 → TEOk Tryz.prog 13 x := TEs_cons (tt9 ts8 ls1) ts8
theorem ts10 : ∀ x, x ∈ T10 → TEOk Tryz.prog 13 x := TEs_cons (tt10 ts9 FEs_nil) ts9
theorem ts11 : ∀ x, x ∈ T11 → TEOk Tryz.prog 13 x := TEs_cons (tt11 ts10 FEs_nil) ts10
theorem ts12 : ∀ x, x ∈ T12 → TEOk Tryz.prog 13 x := TEs_cons (tt12 ts11 FEs_nil) ts11
theorem ts13 : ∀ x, x ∈ T13 → TEOk Tryz.prog 13 x := TEs_cons (tt13 ts12 FEs_nil) ts12
theorem ts14 : ∀ x, x ∈ T14 → TEOk Tryz.prog 13 x := TEs_cons (tt14 ts13 FEs_nil) ts13
theorem ts15 : ∀ x, x ∈ T15 → TEOk Tryz.prog 13 x := TEs_cons (tt15 ts14 FEs_nil) ts14
theorem ts16 : ∀ x, x ∈ T16 → TEOk Tryz.prog 13 x := TEs_cons (tt16 ts15 FEs_nil) ts15
theorem ts17 : ∀ x, x ∈ T17 → TEOk Tryz.prog 13 x := TEs_cons (tt17 ts16 FEs_nil) ts16
theorem ts18 : ∀ x, x ∈ T18 → TEOk Tryz.prog 13 x := TEs_cons (tt18 ts17 FEs_nil) ts17
theorem ts19 : ∀ x, x ∈ T19 → TEOk Tryz.prog 13 x := TEs_cons (tt19 ts18 FEs_nil) ts18
theorem ls2 : ∀ x, x ∈ L2 → FEOk Tryz.prog 13 x := FEs_cons (ff2 ts19 FEs_nil) FEs_nil
theorem ts20 : ∀ x, x ∈ T20 → TEOk Tryz.prog 13 x := TEs_cons (tt20 ts19 ls2) ts19
end Go.Proofs.YtdmepghoffhphaaGreatDoor
