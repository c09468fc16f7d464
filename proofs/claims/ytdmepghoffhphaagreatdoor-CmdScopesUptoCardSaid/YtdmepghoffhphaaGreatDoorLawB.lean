/- PROVED: the row's variables give what the evaluator asks of the world. CONDITIONS: the row's own cells: the package-level variables start as the program's text lays them. -/
import Derived.Test.YtdmepghoffhphaaGreatDoorKnZ
import Derived.Test.YtdmepghoffhphaaGreatDoorRows
import Derived.LaidSub
import Derived.Lib.LaidU8
namespace Go.Proofs.YtdmepghoffhphaaGreatDoor
open Go Go.Ev Go.RowKit
noncomputable def spaceZ : List Int := [0, 0, 0, 0, 0, 0, 0, 0, 0, 1, 1, 1, 1, 1, 0, 0, 0, 0, 0, 0, 0, 0, 0, 0, 0, 0, 0, 0, 0, 0, 0, 0, 1, 0, 0, 0, 0, 0, 0, 0, 0, 0, 0, 0, 0, 0, 0, 0, 0, 0, 0, 0, 0, 0, 0, 0, 0, 0, 0, 0, 0, 0, 0, 0, 0, 0, 0, 0, 0, 0, 0, 0, 0, 0, 0, 0, 0, 0, 0, 0, 0, 0, 0, 0, 0, 0, 0, 0, 0, 0, 0, 0, 0, 0, 0, 0, 0, 0, 0, 0, 0, 0, 0, 0, 0, 0, 0, 0, 0, 0, 0, 0, 0, 0, 0, 0, 0, 0, 0, 0, 0, 0, 0, 0, 0, 0, 0, 0, 0, 0, 0, 0, 0, 0, 0, 0, 0, 0, 0, 0, 0, 0, 0, 0, 0, 0, 0, 0, 0, 0, 0, 0, 0, 0, 0, 0, 0, 0, 0, 0, 0, 0, 0, 0, 0, 0, 0, 0, 0, 0, 0, 0, 0, 0, 0, 0, 0, 0, 0, 0, 0, 0, 0, 0, 0, 0, 0, 0, 0, 0, 0, 0, 0, 0, 0, 0, 0, 0, 0, 0, 0, 0, 0, 0, 0, 0, 0, 0, 0, 0, 0, 0, 0, 0, 0, 0, 0, 0, 0, 0, 0, 0, 0, 0, 0, 0, 0, 0, 0, 0, 0, 0, 0, 0, 0, 0, 0, 0, 0, 0, 0, 0, 0, 0, 0, 0, 0, 0, 0, 0, 0, 0, 0, 0, 0, 0]
theorem space_l : b4.l = spaceZ.map fun z => AV.int .u8 z := by kernel_rfl
theorem space_d : (Rows.laid_strings_asciiSpace : DataW Unit) = .agg (spaceZ.map fun z => .lit (.int .u8 z)) := by kernel_rfl
noncomputable def spaceN : String := ((Tryz.prog.globals[4]?).map (·.name)).getD ""
theorem space_g : Tryz.prog.globalNamed spaceN = some 4 := by kernel_rfl
noncomputable def spaceT : TypeId := ((Tryz.prog.globals[4]?).map (·.type)).getD 0
theorem space_t : (Tryz.prog.globals[4]?).map (·.type) = some spaceT := by kernel_rfl
theorem space_u : Tryz.prog.underlying spaceT = some (.array 256 5) := by kernel_rfl
theorem space_e : Tryz.prog.underlying 5 = some (.int .u8) := by kernel_rfl
theorem space_c : Tryz.prog.cellsOf 5 = 1 := by kernel_rfl
theorem space_ct : Tryz.prog.cellsOf spaceT = 256 := by kernel_rfl
theorem space_row : ((begin Tryz.prog (fun _ _ => 0) default).world.heap[4]?).bind (fun o => (Obj.row? o).map (·.2)) = some b4.e := by kernel_rfl
theorem space_in : (spaceN, (Rows.laid_strings_asciiSpace : DataW Unit)) ∈ Rows.cmdScopesUptoRow.laid.filter fun x => x.2.handleName?.isNone := by
  have h : (Rows.cmdScopesUptoRow.laid.filter fun x => x.2.handleName?.isNone)[8]? = some (spaceN, (Rows.laid_strings_asciiSpace : DataW Unit)) := by kernel_rfl
  exact List.mem_of_getElem? h
theorem has_space {W : World} (h : laidMetH Tryz.prog Rows.cmdScopesUptoRow.laid W) (hs : W.ShapedOpen Tryz.prog) : ∀ x, x ∈ ([b4] : List BE) → HasBE W x := by
  intro x hx
  simp only [List.mem_singleton] at hx
  subst hx
  have h1 : laidMet Tryz.prog (Rows.cmdScopesUptoRow.laid.filter fun x => x.2.handleName?.isNone) W := (laidMetH_iff.1 h).1
  have h2 := Lib.laidMet.reads h1 space_in
  rw [space_d] at h2
  refine HasBE_of_reads (k := .u8) (zs := spaceZ) h2 space_g space_t space_u space_e space_c space_ct (by kernel_rfl) space_l ?_
  have h3 := space_row
  cases hz : ((begin Tryz.prog (fun _ _ => 0) default).world.heap[4]?).bind Obj.row? with
  | none =>
    cases hy : (begin Tryz.prog (fun _ _ => 0) default).world.heap[4]? with
    | none => rw [hy] at h3; cases h3
    | some o => rw [hy] at h3 hz; simp only [Option.bind_some] at h3 hz; rw [hz] at h3; cases h3
  | some q =>
    obtain ⟨zero, t⟩ := q
    have h4 : t = b4.e := by
      cases hy : (begin Tryz.prog (fun _ _ => 0) default).world.heap[4]? with
      | none => rw [hy] at hz; cases hz
      | some o => rw [hy] at h3 hz; simp only [Option.bind_some] at h3 hz; rw [hz] at h3; simpa using h3
    subst h4
    obtain ⟨cs, h5, _⟩ := hs.1 4 zero _ (by decide +kernel) hz
    exact ⟨cs, h5⟩
end Go.Proofs.YtdmepghoffhphaaGreatDoor
