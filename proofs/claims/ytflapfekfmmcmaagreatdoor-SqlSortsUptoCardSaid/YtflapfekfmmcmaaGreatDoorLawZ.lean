/- PROVED: SqlSorts: the law returns true, and nothing that was there is turned: the tied card of the second form. CONDITIONS: the row's own cells: the package-level variables start as the program's text lays them; the bulk of the arguments is at most 1048576. -/
import Derived.Test.YtflapfekfmmcmaaGreatDoorCards
import Derived.Test.YtflapfekfmmcmaaGreatDoorTieZ
import Derived.Test.YtflapfekfmmcmaaGreatDoorJoZ
import Derived.Test.YtflapfekfmmcmaaGreatDoorLawY
import Derived.Test.YtflapfekfmmcmaaGreatDoorWitB
import Derived.Test.YtflapfekfmmcmaaGreatDoorWitC
import Derived.Test.YtflapfekfmmcmaaGreatDoorWitD
import Derived.Test.YtflapfekfmmcmaaGreatDoorWitE
import Derived.Test.YtflapfekfmmcmaaGreatDoorWitF
import Derived.OpenShut
import Derived.ChangeMaps5
import Derived.RowKit
import Derived.SevenTiedAt
import Derived.Handed
import Derived.JoinedOf
import Derived.JoinedCond
import Derived.RowKit3
import Derived.Deep.DeepHandedRow
import Derived.Carry
namespace Go.Proofs.YtflapfekfmmcmaaGreatDoor
open Go Go.Ev Go.ChangeMaps Go.ChangeShapes Go.WideShapes Go.ChangeAt Go.RowKit
theorem lw_laid (os : Os) : laidMetH Tryz.prog Rows.sqlSortsUptoRow.laid (lw os) :=
  laidMetH_of_parts (by
    have e1 : (plain.filter fun x => (plain.map (·.1)).contains x.1) = plain := List.filter_eq_self.2 fun x hx => List.contains_iff_mem.2 (List.mem_map.2 ⟨x, hx, rfl⟩)
    have e2 : (plain.filter fun x => !(plain.map (·.1)).contains x.1) = [] := List.filter_eq_nil_iff.2 fun x hx => by rw [List.contains_iff_mem.2 (List.mem_map.2 ⟨x, hx, rfl⟩)]; simp
    show laidMet Tryz.prog plain (lw os)
    exact laidMet_layVars (w0 := w0 os) (laid := plain) (plain.map (·.1)) [] (by rw [e1]; rfl) (by rw [e1]; exact lw_fits os) (by rw [e1]; exact lw_ifaces os) (by rw [e2]; exact LaidIn.none)) (lw_handles os)
theorem own : ownKnob Tryz.prog.godebug = none := by kernel_rfl
section
variable {H : Type}
theorem one_le (d : DataW H) : 1 ≤ Rows.uptoBulk d := by
  cases d with
  | lit l => cases l <;> simp [Rows.uptoBulk]
  | nil => simp [Rows.uptoBulk]
  | ptr d => simp [Rows.uptoBulk]
  | slice elems spare => simp [Rows.uptoBulk]
  | agg parts => simp [Rows.uptoBulk]
  | iface t d => simp [Rows.uptoBulk]
  | map entries => simp [Rows.uptoBulk]
  | held h => simp [Rows.uptoBulk]
theorem part_le {d : DataW H} {l : List (DataW H)} (h : d ∈ l) : Rows.uptoBulk d ≤ Rows.uptoBulkAll l := by
  induction l with
  | nil => cases h
  | cons x r ih =>
    simp only [Rows.uptoBulkAll]
    cases List.mem_cons.1 h with
    | inl e => subst e; omega
    | inr e => have := ih e; omega
theorem length_le (l : List (DataW H)) : l.length ≤ Rows.uptoBulkAll l := by
  induction l with
  | nil => simp [Rows.uptoBulkAll]
  | cons x r ih => have := one_le x; simp only [Rows.uptoBulkAll, List.length_cons]; omega
end
theorem readable22 : Tryz.prog.readableRec 22 = true := by kernel_rfl
theorem types22 : 22 < Tryz.prog.types.size := of_decide_eq_true (by kernel_rfl)
theorem readable23 : Tryz.prog.readableRec 23 = true := by kernel_rfl
theorem types23 : 23 < Tryz.prog.types.size := of_decide_eq_true (by kernel_rfl)
theorem readable24 : Tryz.prog.readableRec 24 = true := by kernel_rfl
theorem types24 : 24 < Tryz.prog.types.size := of_decide_eq_true (by kernel_rfl)
set_option maxRecDepth 100000 in
theorem lifted (os : Os) (started : os.Started) (H : Type) (enc : TypeId × Value → H) (F : Stop.Interp) :
    ReturnsInHanded {} Tryz.checked os 3 .any ((Rows.OpenSpec.upto Rows.sqlSortsSpec).preRow enc Tryz.prog Tryz.f3 Rows.sqlSortsUptoRow.domain false Rows.sqlSortsUptoRow.laid) (((Rows.OpenSpec.upto Rows.sqlSortsSpec).at F).post enc Tryz.prog Tryz.f3 false true false false) := by
  refine returnsInHanded_of_row (C := Tryz.checked) (s := (Rows.OpenSpec.upto Rows.sqlSortsSpec)) own started (by kernel_rfl) Tryz.func3
    ⟨lw os, fun _ _ => 0, ⟨#[], #[.slice none 0 0, .slice none 0 0, .slice none 0 0], []⟩, lw_os os, World.shaped_of_ZipB (lw_zip os) (lw_rest os), (Input.okWide_of_okWideB (base := 0) (lw_ok os)).1, (Input.okWide_of_okWideB (lw_ok os)).2,
      OpenSpec.preRow_of_cond 8 (lw_whole enc os) (by kernel_rfl) (fun k hk => by cases hk; kernel_rfl) (lw_sized enc os) ((lw_laid os).of_heap (by simp [World.memory, World.forCall, Input.heap])), by
      simp only [Assume.holds]
      exact ⟨by simp, by simp, fun _ => Modest.zero, by simp, by simp⟩⟩ ?_
  intro W base args ds gs before hval0 hW _ hcond _ hx hsh _
  have hW' := hW
  obtain ⟨p, q, hA0, hV, rfl, _, _⟩ := hW
  have hA : DataW.TrodAll enc Tryz.prog W 0 (fun _ => true) true Tryz.f3.params.toList args.toList ds p := hA0
  rw [Tryz.params3] at hA
  obtain ⟨v0, v1, v2, d0, d1, d2, p0, p1, p2, rfl, rfl, hp, h0, h1, h2⟩ := trodAll_three hA
  obtain ⟨rfl, rfl⟩ := trodVars_none hV
  simp only [List.append_nil] at hW' hcond
  have hk : Rows.uptoSmall H [d0, d1, d2] = true := hcond _ rfl
  have hbulk : Rows.uptoBulkAll [d0, d1, d2] ≤ 1048576 := by
    have := of_decide_eq_true hk
    exact this
  obtain ⟨fuel, hf⟩ := h0
  obtain ⟨fuel1, hf1⟩ := h1
  obtain ⟨fuel2, hf2⟩ := h2
  obtain ⟨u, R, hu, hrows, hrc, hlen⟩ := rows_of_trod (B := 1048576) hf (fun elems rest e el rs hm => by
    simp only at e
    rw [e] at hbulk
    have h1 := part_le hm
    have h2 := length_le el
    simp only [Rows.uptoBulkAll, Rows.uptoBulk] at hbulk h1
    omega)
  obtain ⟨ub, B, hub, hB⟩ := ints_of_trod hf1
  obtain ⟨ud, D, hud, hD⟩ := bools_of_trod hf2
  have hval : ∀ (j : Nat) t v, Tryz.f3.params[j]? = some t → (#[v0, v1, v2] : Array Value)[j]? = some v → Value.okWide Tryz.prog W .any base t v := hval0
  rw [Tryz.params3] at hval
  have hv : v0 = u := by
    obtain ⟨a, len, cap, rfl⟩ := okWide_slice Tryz.underlying22 (hval 0 22 v0 rfl rfl)
    simpa [Value.cells] using hu
  have hv1 : v1 = ub := by
    obtain ⟨a, len, cap, rfl⟩ := okWide_slice Tryz.underlying23 (hval 1 23 v1 rfl rfl)
    simpa [Value.cells] using hub
  have hv2 : v2 = ud := by
    obtain ⟨a, len, cap, rfl⟩ := okWide_slice Tryz.underlying24 (hval 2 24 v2 rfl rfl)
    simpa [Value.cells] using hud
  subst hv
  subst hv1
  subst hv2
  refine (law_at v0 v1 v2 R B D W hrows hrc hB hD hlen hx hsh).mono fun e W' ⟨he, hb⟩ => ?_
  subst he
  have hlt : ∀ x ∈ p, x.block < W.heap.size := fun x hxm => hW'.lt x hxm
  subst hp
  have hlt0 : ∀ x ∈ p0, x.block < W.heap.size := fun x hxm => hlt x (by simp [hxm])
  have hlt1 : ∀ x ∈ p1, x.block < W.heap.size := fun x hxm => hlt x (by simp [hxm])
  have hlt2 : ∀ x ∈ p2, x.block < W.heap.size := fun x hxm => hlt x (by simp [hxm])
  have T := trodAll_mk3 (Below.trod j1 readable22 types22 ⟨fuel, hf⟩ hb hlt0) (Below.trod j1 readable23 types23 ⟨fuel1, hf1⟩ hb hlt1) (Below.trod j1 readable24 types24 ⟨fuel2, hf2⟩ hb hlt2)
  rw [← List.append_assoc] at T
  exact ⟨_, rfl, _, _, _, [], _, [], hW', trodAll_mk1 (shut_bool Tryz.underlying4 _), T, rfl, World.keptBut_mono (fun x hxm => ⟨hxm, .inr (.inl hxm)⟩) (hb.frame (· ∈ _)), fun h => by cases h⟩
theorem row_holds : Rows.SqlSortsUptoSaid :=
  OpenClaim.holds_of_cond 3 Tryz.f3 rfl rfl rfl rfl rfl rfl rfl ⟨rfl, rfl, rfl, rfl, rfl⟩ rfl rfl rfl rfl rfl named_f Tryz.func3 closed inst_f wrap_f
    (fun os started H enc _ F => by rw [OpenClaim.pre_eq_preRow]; exact lifted os started H enc F)
theorem card_holds : Rows.SqlSortsUptoCardSaid :=
  Claim7.holds_tied_plain_at .later [] tkAll true (true, "6a7cd77ce8c517e228df5717bf77db4ead7deba1ca51884681a7788e0e36ff9b") true
    row_holds (fun _ h => by cases h) wf_f (fun _ h => by cases h) row_tie rfl ⟨rfl, rfl⟩ main_f rfl
    (fun f fn hf hfn => by
      obtain rfl : f = 3 := Option.some.inj (hf.symm.trans named_f)
      obtain rfl : fn = Tryz.f3 := (Option.some.inj (Tryz.func3.symm.trans hfn)).symm
      exact ⟨looks_f, fun j t ht => by
        rw [Tryz.params3] at ht
        have hm : t ∈ [22, 23, 24] := by simpa using Array.mem_of_getElem? ht
        exact (show Tryz.pinned.checked.prog.wantsStandIn t = false by simpa using List.all_eq_true.1 stand_f t hm)⟩)
    goes_f
end Go.Proofs.YtflapfekfmmcmaaGreatDoor
