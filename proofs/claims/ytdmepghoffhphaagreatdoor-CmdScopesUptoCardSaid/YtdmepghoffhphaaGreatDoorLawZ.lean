/- PROVED: CmdScopes: the law returns true, and nothing that was there is turned: the tied card of the second form. CONDITIONS: the row's own cells: the package-level variables start as the program's text lays them; the bulk of the arguments is at most 1048576. -/
import Derived.Test.YtdmepghoffhphaaGreatDoorCards
import Derived.Test.YtdmepghoffhphaaGreatDoorTieZ
import Derived.Test.YtdmepghoffhphaaGreatDoorJoZ
import Derived.Test.YtdmepghoffhphaaGreatDoorLawY
import Derived.Test.YtdmepghoffhphaaGreatDoorWitB
import Derived.Test.YtdmepghoffhphaaGreatDoorWitC
import Derived.Test.YtdmepghoffhphaaGreatDoorWitD
import Derived.Test.YtdmepghoffhphaaGreatDoorWitE
import Derived.Test.YtdmepghoffhphaaGreatDoorWitF
import Derived.OpenShut
import Derived.ChangeMaps5
import Derived.RowKit
import Derived.SevenTiedAt
import Derived.Handed
import Derived.JoinedOf
import Derived.JoinedCond
import Derived.RowKit3
import Derived.Deep.DeepHandedRow
import Derived.Carry
namespace Go.Proofs.YtdmepghoffhphaaGreatDoor
open Go Go.Ev Go.ChangeMaps Go.ChangeShapes Go.WideShapes Go.ChangeAt Go.RowKit
theorem lw_laid (os : Os) : laidMetH Tryz.prog Rows.cmdScopesUptoRow.laid (lw os) :=
  laidMetH_of_parts (by
    have e1 : (plain.filter fun x => (plain.map (·.1)).contains x.1) = plain := List.filter_eq_self.2 fun x hx => List.contains_iff_mem.2 (List.mem_map.2 ⟨x, hx, rfl⟩)
    have e2 : (plain.filter fun x => !(plain.map (·.1)).contains x.1) = [] := List.filter_eq_nil_iff.2 fun x hx => by rw [List.contains_iff_mem.2 (List.mem_map.2 ⟨x, hx, rfl⟩)]; simp
    show laidMet Tryz.prog plain (lw os)
    exact laidMet_layVars (w0 := w0 os) (laid := plain) (plain.map (·.1)) [] (by rw [e1]; rfl) (by rw [e1]; exact lw_fits os) (by rw [e1]; exact lw_ifaces os) (by rw [e2]; exact LaidIn.none)) (lw_handles os)
theorem own : ownKnob Tryz.prog.godebug = none := by kernel_rfl
section
variable {H : Type}
theorem one_le (d : DataW H) : 1 ≤ Rows.uptoBulk d := by
  cases d with
  | lit l => cases l <;> simp [Rows.uptoBulk]
  | nil => simp [Rows.uptoBulk]
  | ptr d => simp [Rows.uptoBulk]
  | slice elems spare => simp [Rows.uptoBulk]
  | agg parts => simp [Rows.uptoBulk]
  | iface t d => simp [Rows.uptoBulk]
  | map entries => simp [Rows.uptoBulk]
  | held h => simp [Rows.uptoBulk]
theorem part_le {d : DataW H} {l : List (DataW H)} (h : d ∈ l) : Rows.uptoBulk d ≤ Rows.uptoBulkAll l := by
  induction l with
  | nil => cases h
  | cons x r ih =>
    simp only [Rows.uptoBulkAll]
    cases List.mem_cons.1 h with
    | inl e => subst e; omega
    | inr e => have := ih e; omega
theorem all_sum (l : List (DataW H)) : Rows.uptoBulkAll l = (l.map Rows.uptoBulk).sum := by
  induction l with
  | nil => simp [Rows.uptoBulkAll]
  | cons x r ih => simp only [Rows.uptoBulkAll, List.map_cons, List.sum_cons, ih]
theorem bulk_blk : Blk (Rows.uptoBulk : DataW H → Nat) :=
  ⟨fun b => by simp [Rows.uptoBulk], fun ps => by simp only [Rows.uptoBulk, all_sum]; omega, fun es rest => by simp only [Rows.uptoBulk, all_sum]; omega⟩
end
theorem readable24 : Tryz.prog.readableRec 24 = true := by kernel_rfl
theorem types24 : 24 < Tryz.prog.types.size := of_decide_eq_true (by kernel_rfl)
set_option maxRecDepth 100000 in
theorem lifted (os : Os) (started : os.Started) (H : Type) (enc : TypeId × Value → H) (F : Stop.Interp) :
    ReturnsInHanded {} Tryz.checked os 3 .any ((Rows.OpenSpec.upto Rows.cmdScopesSpec).preRow enc Tryz.prog Tryz.f3 Rows.cmdScopesUptoRow.domain false Rows.cmdScopesUptoRow.laid) (((Rows.OpenSpec.upto Rows.cmdScopesSpec).at F).post enc Tryz.prog Tryz.f3 false true false false) := by
  refine returnsInHanded_of_row (C := Tryz.checked) (s := (Rows.OpenSpec.upto Rows.cmdScopesSpec)) own started (by kernel_rfl) Tryz.func3
    ⟨lw os, fun _ _ => 0, ⟨#[], #[.agg #[.int .i64 0, .slice none 0 0, .slice none 0 0, .slice none 0 0]], []⟩, lw_os os, World.shaped_of_ZipB (lw_zip os) (lw_rest os), (Input.okWide_of_okWideB (base := 0) (lw_ok os)).1, (Input.okWide_of_okWideB (lw_ok os)).2,
      OpenSpec.preRow_of_cond 8 (lw_whole enc os) (by kernel_rfl) (fun k hk => by cases hk; kernel_rfl) (lw_sized enc os) ((lw_laid os).of_heap (by simp [World.memory, World.forCall, Input.heap])), by
      simp only [Assume.holds]
      exact ⟨by simp, by simp, fun _ => Modest.zero, by simp, by simp⟩⟩ ?_
  intro W base args ds gs before hval0 hW _ hcond _ hx hsh _
  have hW' := hW
  obtain ⟨p, q, hA0, hV, rfl, _, _⟩ := hW
  have hA : DataW.TrodAll enc Tryz.prog W 0 (fun _ => true) true Tryz.f3.params.toList args.toList ds p := hA0
  rw [Tryz.params3] at hA
  obtain ⟨v0, d0, rfl, rfl, h0⟩ := trodAll_one hA
  obtain ⟨rfl, rfl⟩ := trodVars_none hV
  simp only [List.append_nil] at hW' hcond
  have hk : Rows.uptoSmall H [d0] = true := hcond _ rfl
  have hbulk : Rows.uptoBulkAll [d0] ≤ 1048576 := by
    have := of_decide_eq_true hk
    exact this
  have hval : ∀ (j : Nat) t v, Tryz.f3.params[j]? = some t → (#[v0] : Array Value)[j]? = some v → Value.okWide Tryz.prog W .any base t v := hval0
  rw [Tryz.params3] at hval
  obtain ⟨g0, g1, g2, g3, hu, _, _, _, _, _⟩ := under24
  obtain ⟨cs, rfl, hcs⟩ := okWide_struct hu (hval 0 24 v0 rfl rfl)
  rw [cellsOf24] at hcs
  obtain ⟨c0, c1, c2, c3, rfl⟩ := Joins.array4 hcs
  obtain ⟨fuel, hf⟩ := h0
  obtain ⟨k, n, f, wl, e0, hn, hfo, hwl, hz⟩ := scope_of_trod bulk_blk hf
  subst e0
  have hsum : szL n + szL f + szL wl ≤ 2000000 := by
    have hz' : szL n + szL f + szL wl ≤ Rows.uptoBulk d0 := hz
    simp only [Rows.uptoBulkAll] at hbulk
    omega
  refine (law_at k n f wl c1 c2 c3 W hsum hn hfo hwl hx hsh).mono fun e W' ⟨he, hb⟩ => ?_
  subst he
  have hlt : ∀ x ∈ p, x.block < W.heap.size := fun x hxm => hW'.lt x hxm
  have T := trodAll_mk1 (Below.trod j1 readable24 types24 ⟨fuel, hf⟩ hb hlt)
  exact ⟨_, rfl, _, _, _, [], p, [], hW', trodAll_mk1 (shut_bool Tryz.underlying4 _), T, rfl, World.keptBut_mono (fun x hxm => ⟨hxm, .inr (.inl hxm)⟩) (hb.frame (· ∈ p)), fun h => by cases h⟩
theorem row_holds : Rows.CmdScopesUptoSaid :=
  OpenClaim.holds_of_cond 3 Tryz.f3 rfl rfl rfl rfl rfl rfl rfl ⟨rfl, rfl, rfl, rfl, rfl⟩ rfl rfl rfl rfl rfl named_f Tryz.func3 closed inst_f wrap_f
    (fun os started H enc _ F => by rw [OpenClaim.pre_eq_preRow]; exact lifted os started H enc F)
theorem card_holds : Rows.CmdScopesUptoCardSaid :=
  Claim7.holds_tied_plain_at .later [] tkAll true (true, "c5bd5e31d3711f76b32e921e66e0167012e69d1ecfe96e0c776b890043b1767f") true
    row_holds (fun _ h => by cases h) wf_f (fun _ h => by cases h) row_tie rfl ⟨rfl, rfl⟩ main_f rfl
    (fun f fn hf hfn => by
      obtain rfl : f = 3 := Option.some.inj (hf.symm.trans named_f)
      obtain rfl : fn = Tryz.f3 := (Option.some.inj (Tryz.func3.symm.trans hfn)).symm
      exact ⟨looks_f, fun j t ht => by
        rw [Tryz.params3] at ht
        have hm : t ∈ [24] := by simpa using Array.mem_of_getElem? ht
        exact (show Tryz.pinned.checked.prog.wantsStandIn t = false by simpa using List.all_eq_true.1 stand_f t hm)⟩)
    goes_f
end Go.Proofs.YtdmepghoffhphaaGreatDoor
