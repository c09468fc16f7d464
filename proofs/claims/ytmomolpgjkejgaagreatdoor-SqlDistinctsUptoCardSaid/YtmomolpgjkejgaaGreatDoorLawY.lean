/- PROVED: known() is true in every world that the law makes; the table that Itoa reads. CONDITIONS: the row's own cells: the package-level variables start as the program's text lays them; the bulk of the arguments is at most 1048576. -/
import Derived.Test.YtmomolpgjkejgaaGreatDoorLawB
import Derived.Test.YtmomolpgjkejgaaGreatDoorDvE
import Derived.Lib.LaidTab
namespace Go.Proofs.YtmomolpgjkejgaaGreatDoor
open Go Go.Ev Go.RowKit
theorem base_ok : baseOk 13 [b3] = true := by kernel_rfl
theorem known_run : isTrue (evCall Tryz.prog (extOf kk) (regD Tryz.prog (extOf kk)) (hookOf 13 T9) 1000 (.fn 5) [] (baseH 13 [b3])) = true := by kernel_rfl
theorem known_any (W : World) (hW : ∀ x, x ∈ ([b3] : List BE) → HasBE W x) : Calls Tryz.prog 5 #[] W fun e W' => e = .returned (.bool true) ∧ Below W.heap.size W W' :=
  calls_true prog_ok (hookOf_ok ts9) (vs := []) base_ok (fun _ => .nil) known_run W hW
theorem hasBE_keep {W w : World} {x : BE} (h : HasBE W x) (hb : Below W.heap.size W w) : HasBE w x := by
  obtain ⟨cs, h1, h2⟩ := h
  exact ⟨cs, (hb.block x.b (Array.getElem?_eq_some_iff.1 h1).1).trans h1, h2⟩
noncomputable def powG : Nat := (Tryz.prog.globalNamed "internal/strconv.uint64pow10").getD 0
theorem pow_g : Tryz.prog.globalNamed "internal/strconv.uint64pow10" = some powG := by kernel_rfl
noncomputable def powT : TypeId := ((Tryz.prog.globals[powG]?).map (·.type)).getD 0
theorem pow_t : (Tryz.prog.globals[powG]?).map (·.type) = some powT := by kernel_rfl
noncomputable def powE : TypeId := match Tryz.prog.underlying powT with | some (.array _ e) => e | _ => 0
theorem pow_u : Tryz.prog.underlying powT = some (.array 20 powE) := by kernel_rfl
theorem pow_e : Tryz.prog.underlying powE = some (.int .u64) := by kernel_rfl
theorem pow_c : Tryz.prog.cellsOf powE = 1 := by kernel_rfl
theorem pow_ct : Tryz.prog.cellsOf powT = 20 := by kernel_rfl
theorem pow_d : (Rows.laid_internal_strconv_uint64pow10 : DataW Unit) = Lib.tabData .u64 Lib.pow10Tab := by kernel_rfl
theorem pow_in : ("internal/strconv.uint64pow10", (Rows.laid_internal_strconv_uint64pow10 : DataW Unit)) ∈ Rows.sqlDistinctsUptoRow.laid.filter fun x => x.2.handleName?.isNone := by
  have h : (Rows.sqlDistinctsUptoRow.laid.filter fun x => x.2.handleName?.isNone)[7]? = some ("internal/strconv.uint64pow10", (Rows.laid_internal_strconv_uint64pow10 : DataW Unit)) := by kernel_rfl
  exact List.mem_of_getElem? h
theorem has_tab {W : World} (h : laidMetH Tryz.prog Rows.sqlDistinctsUptoRow.laid W) : Tab W := by
  have h1 : laidMet Tryz.prog (Rows.sqlDistinctsUptoRow.laid.filter fun x => x.2.handleName?.isNone) W := (laidMetH_iff.1 h).1
  obtain ⟨g, t', cs, fuel, p, k1, k2, k3, k4⟩ := Lib.laidMet.reads h1 pow_in
  rw [pow_g] at k1; cases k1
  rw [pow_t] at k2; cases k2
  rw [pow_d] at k4
  unfold Tab Lib.TabIs
  rw [k3, ← Lib.cells_of_tab pow_u pow_e pow_c pow_ct k4]
theorem tab_keep {W w : World} (h : Tab W) (hb : Below W.heap.size W w) : Tab w := by
  unfold Tab Lib.TabIs World.var? at *
  rw [pow_g] at *
  simp only [Option.bind_some] at *
  have hlt : powG < W.heap.size := by
    rcases Nat.lt_or_ge powG W.heap.size with h' | h'
    · exact h'
    · rw [Array.getElem?_eq_none h'] at h; cases h
  rw [hb.block powG hlt]; exact h
theorem law_at (v : Value) (R : List (List Vl)) (W : World) (h : RowsAt W v R) (hl : ∀ r ∈ R, r.length ≤ 1048576) (hx : laidMetH Tryz.prog Rows.sqlDistinctsUptoRow.laid W) (hs : W.ShapedOpen Tryz.prog) :
    Calls Tryz.prog 3 #[v] W fun e w' => e = .returned (.bool true) ∧ Below W.heap.size W w' :=
  law3 v R W h hl (fun _ hb => tab_keep (has_tab hx) hb) (fun _ hb => known_any _ fun x hm => hasBE_keep (has_space hx hs x hm) hb)
end Go.Proofs.YtmomolpgjkejgaaGreatDoor
