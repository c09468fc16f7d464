/- PROVED: closed facts of the row. CONDITIONS: none. -/
import Derived.Test.YtdmepghoffhphaaGreatDoorJoA
import Derived.Test.YtdmepghoffhphaaGreatDoorJoB
import Derived.Test.YtdmepghoffhphaaGreatDoorJoC
import Derived.Test.YtdmepghoffhphaaGreatDoorJoD
import Derived.Test.YtdmepghoffhphaaGreatDoorJoE
namespace Go.Proofs.YtdmepghoffhphaaGreatDoor
open Go
theorem and_t {a b : Bool} (h : a = true) (h' : b = true) : (a && b) = true := by rw [h, h']; rfl
theorem range_all {p : Nat → Bool} {n k : Nat} (h : ((List.range n).take k).all p = true) (h' : ((List.range n).drop k).all p = true) : (List.range n).all p = true := by
  rw [← List.take_append_drop k (List.range n), List.all_append, h, h']; rfl
theorem j1 : laidOutB Tryz.pinned.checked.prog = true := by
  unfold laidOutB
  exact and_t (and_t (range_all lo1 lo2) lo3) lo4
set_option maxRecDepth 100000 in
theorem closed : joinedFacts Tryz.pinned.checked.prog 3 Tryz.f3 (Rows.OpenSpec.upto Rows.cmdScopesSpec).bare Rows.cmdScopesUptoRow = true := by
  unfold joinedFacts
  exact (and_t (and_t (and_t (and_t (and_t (and_t (and_t (and_t (and_t (and_t (and_t (and_t (and_t (and_t (and_t (and_t (and_t (and_t (and_t (and_t (and_t (and_t (and_t (and_t (and_t (and_t (and_t (and_t (and_t (and_t (and_t j0 j1) j2) j3) j4) j5) j6) j7) j8) j9) j10) j11) j12) j13) j14) j15) j16) j17) j18) j19) j20) j21) j22) j23) j24) j25) j26) j27) j28) j29) j30) j31)
end Go.Proofs.YtdmepghoffhphaaGreatDoor
