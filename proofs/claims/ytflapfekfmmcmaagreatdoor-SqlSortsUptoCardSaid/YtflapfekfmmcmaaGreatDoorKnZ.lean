/- PROVED: calls that known() makes, by the evaluator. CONDITIONS: the row's own cells: the package-level variables start as the program's text lays them. -/
import Derived.Test.YtflapfekfmmcmaaGreatDoorKnB
import Derived.Test.YtflapfekfmmcmaaGreatDoorKnC
import Derived.Test.YtflapfekfmmcmaaGreatDoorKnD
import Derived.Test.YtflapfekfmmcmaaGreatDoorKnE
import Derived.Test.YtflapfekfmmcmaaGreatDoorKnF
import Derived.Test.YtflapfekfmmcmaaGreatDoorKnG
namespace Go.Proofs.YtflapfekfmmcmaaGreatDoor
open Go Go.Ev Go.Proofs Go.RowKit
theorem ts0 : ∀ x, x ∈ T0 → TEOk Tryz.prog 13 x := fun x h => by cases h
theorem ts1 : ∀ x, x ∈ T1 → TEOk Tryz.prog 13 x := TEs_cons (tt1 ts0 FEs_nil) ts0
theorem ls1 : ∀ x, x ∈ L1 → FEOk Tryz.prog 13 x := FEs_cons (ff1 ts1 FEs_nil) FEs_nil
theorem ts2 : ∀ x, x ∈ T2 → TEOk Tryz.prog 13 x := TEs_cons (tt2 ts1 ls1) ts1
theorem ts3 : ∀ x, x ∈ T3 → TEOk Tryz.prog 13 x := TEs_cons (tt3 ts2 FEs_nil) ts2
theorem ts4 : ∀ x, x ∈ T4 → TEOk Tryz.prog 13 x := TEs_cons (tt4 ts3 FEs_nil) ts3
theorem ts5 : ∀ x, x ∈ T5 → TEOk Tryz.prog 13 x := TEs_cons (tt5 ts4 FEs_nil) ts4
theorem ls2 : ∀ x, x ∈ L2 → FEOk Tryz.prog 13 x := FEs_cons (ff2 ts5 FEs_nil) FEs_nil
theorem ts6 : ∀ x, x ∈ T6 → TEOk Tryz.prog 13 x := TEs_cons (tt6 ts5 ls2) ts5
theorem ts7 : ∀ x, x ∈ T7 → TEOk Tryz.prog 13 x := TEs_cons (tt7 ts6 FEs_nil) ts6
theorem ts8 : ∀ x, x ∈ T8 → TEOk Tryz.prog 13 x := TEs_cons (tt8 ts7 FEs_nil) ts7
theorem ts9 : ∀ x, x ∈ T9 → TEOk Tryz.prog 13 x := TEs_cons (tt9 ts8 FEs_nil) ts8
end Go.Proofs.YtflapfekfmmcmaaGreatDoor
