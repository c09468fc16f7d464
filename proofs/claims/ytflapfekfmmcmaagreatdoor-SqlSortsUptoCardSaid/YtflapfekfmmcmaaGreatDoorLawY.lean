/- PROVED: known() is true in every world that the law makes; the table that Itoa reads. CONDITIONS: the row's own cells: the package-level variables start as the program's text lays them; the bulk of the arguments is at most 1048576. -/
import Derived.Test.YtflapfekfmmcmaaGreatDoorLawB
import Derived.Test.YtflapfekfmmcmaaGreatDoorSvH
namespace Go.Proofs.YtflapfekfmmcmaaGreatDoor
open Go Go.Ev Go.RowKit
theorem base_ok : baseOk 13 [b2] = true := by kernel_rfl
theorem known_run : isTrue (evCall Tryz.prog (extOf kk) (regD Tryz.prog (extOf kk)) (hookOf 13 T9) 1000 (.fn 5) [] (baseH 13 [b2])) = true := by kernel_rfl
theorem known_any (W : World) (hW : ∀ x, x ∈ ([b2] : List BE) → HasBE W x) : Calls Tryz.prog 5 #[] W fun e W' => e = .returned (.bool true) ∧ Below W.heap.size W W' :=
  calls_true prog_ok (hookOf_ok ts9) (vs := []) base_ok (fun _ => .nil) known_run W hW
theorem hasBE_keep {W w : World} {x : BE} (h : HasBE W x) (hb : Below W.heap.size W w) : HasBE w x := by
  obtain ⟨cs, h1, h2⟩ := h
  exact ⟨cs, (hb.block x.b (Array.getElem?_eq_some_iff.1 h1).1).trans h1, h2⟩
theorem law_at (v bv dv : Value) (R : List (List Vl)) (B : List Int) (D : List Bool) (W : World) (h : RowsAt W v R) (hrc : R = [] ∨ RowsC W v R) (hB : IntsAt W bv B) (hD : BoolsAt W dv D) (hl : ∀ r ∈ R, r.length ≤ 1048576) (hx : laidMetH Tryz.prog Rows.sqlSortsUptoRow.laid W) (hs : W.ShapedOpen Tryz.prog) :
    Calls Tryz.prog 3 #[v, bv, dv] W fun e W' => e = .returned (.bool true) ∧ Below W.heap.size W W' :=
  law3 v bv dv R B D W h hrc hB hD hl (fun _ hb => known_any _ fun x hm => hasBE_keep (has_space hx hs x hm) hb)
end Go.Proofs.YtflapfekfmmcmaaGreatDoor
