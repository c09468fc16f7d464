/- PROVED: what syntax.Operators returns (part OpD). CONDITIONS: none. -/
import Derived.Test.YtblbcopalfngcaaGreatDoorOpC
namespace Go.Proofs
open Go Go.Ev Go.RowKit
noncomputable section
def opsAV : List AV := endOps.map fun s => .str (s.map UInt8.toNat)
theorem ops_VRs (μ : Mp) : VRs μ opsAV (endOps.map encStr) := by
  simp only [opsAV]
  generalize endOps = l
  induction l with
  | nil => exact .nil
  | cons x l ih => exact .cons _ _ _ _ (.str _ _ (by simp)) ih
theorem ops_ok (G : Nat) : TEOk Tryz.prog G (ownTE 282 G 16 opsAV 9) := ownTE_ok ops_VRs (by decide +kernel) operators_walk
end
end Go.Proofs
