/- PROVED: known() is true in every world that the law makes; the table that Itoa reads. CONDITIONS: the row's own cells: the package-level variables start as the program's text lays them; the bulk of the arguments is at most 1048576. -/
import Derived.Test.YtdmepghoffhphaaGreatDoorLawB
import Derived.Test.YtdmepghoffhphaaGreatDoorCvJ
import Derived.Test.YtdmepghoffhphaaGreatDoorOpA
namespace Go.Proofs.YtdmepghoffhphaaGreatDoor
open Go Go.Ev Go.RowKit Go.Proofs
theorem base_ok : baseOk 13 [b4] = true := by kernel_rfl
theorem known_run : isTrue (evCall Tryz.prog (extOf kk) (regD Tryz.prog (extOf kk)) (hookOf 13 T20) 1000 (.fn 5) [] (baseH 13 [b4])) = true := by kernel_rfl
theorem known_any (W : World) (hW : ∀ x, x ∈ ([b4] : List BE) → HasBE W x) : Calls Tryz.prog 5 #[] W fun e W' => e = .returned (.bool true) ∧ Below W.heap.size W W' :=
  calls_true prog_ok (hookOf_ok ts20) (vs := []) base_ok (fun _ => .nil) known_run W hW
theorem hasBE_keep {W w : World} {x : BE} (h : HasBE W x) (hb : Below W.heap.size W w) : HasBE w x := by
  obtain ⟨cs, h1, h2⟩ := h
  exact ⟨cs, (hb.block x.b (Array.getElem?_eq_some_iff.1 h1).1).trans h1, h2⟩
theorem ops_eq : endOps.map encStr = opsL.map Value.string := rfl
theorem ops_calls : OpsC := fun w => (operators_walk w).mono fun e w' ⟨g, cap, he, ho, hb⟩ => by
  refine ⟨_, he, ⟨by unfold mx; decide, by unfold mx; decide, _, cap, rfl, .inr ⟨g, 0, rfl, trivial, fun j hj => ?_⟩⟩, hb⟩
  have hj' : j < 16 := hj
  rw [Nat.zero_add, ho.cellAt j (by omega), ops_eq, List.getElem?_map]
  rw [List.getElem?_eq_getElem hj]
  simp [List.getD, List.getElem?_eq_getElem hj]
theorem law_at (k : Int) (n f wl : List Ex) (nv fv wv : Value) (W : World) (hw : szL n + szL f + szL wl ≤ 2000000) (hn : SlAt W.heap.size W nv n) (hf : SlAt W.heap.size W fv f) (hwl : SlAt W.heap.size W wv wl) (hx : laidMetH Tryz.prog Rows.cmdScopesUptoRow.laid W) (hs : W.ShapedOpen Tryz.prog) :
    Calls Tryz.prog 3 #[.agg #[.int .i64 k, nv, fv, wv]] W fun e W' => e = .returned (.bool true) ∧ Below W.heap.size W W' :=
  law3 prog_follows ops_calls k n f wl nv fv wv W hw hn hf hwl (fun _ hb => known_any _ fun x hm => hasBE_keep (has_space hx hs x hm) hb)
end Go.Proofs.YtdmepghoffhphaaGreatDoor
