/- PROVED: the methods of no net give nothing and ErrState, and known() holds: for all numbers u and k the law returns true, and nothing that was there is turned: the tied card. CONDITIONS: the row's own cells: the package-level variables start as the program's text lays them. -/
import Derived.Test.YthlikfecjjjclaaGreatDoorCards
import Derived.Test.YthlikfecjjjclaaGreatDoorTieZ
import Derived.Test.YthlikfecjjjclaaGreatDoorJoZ
import Derived.Test.YthlikfecjjjclaaGreatDoorNetA
import Derived.Test.YthlikfecjjjclaaGreatDoorNetC
import Derived.Test.YthlikfecjjjclaaGreatDoorNetD
import Derived.Test.YthlikfecjjjclaaGreatDoorNetE
import Derived.Test.YthlikfecjjjclaaGreatDoorNetF
import Derived.Test.YthlikfecjjjclaaGreatDoorNetG
import Derived.Test.YthlikfecjjjclaaGreatDoorNetH
import Derived.ProofKit
import Derived.OpenShut
import Derived.Lay
import Derived.LaidHandle
import Derived.SevenTiedAt
import Derived.Stop.Joined
import Derived.Clock
import Derived.Leaving
import Derived.Conc.HoldsTime
namespace Go.Proofs.YthlikfecjjjclaaGreatDoor
open Go Go.ChangeShapes Go.WideShapes Go.ChangeAt Go.RowKit
theorem lw_laid (os : Os) : laidMetH Tryz.prog Rows.netNilRow.laid (lw os) :=
  laidMetH_of_parts (by
    have e1 : (plain.filter fun x => (plain.map (·.1)).contains x.1) = plain := List.filter_eq_self.2 fun x hx => List.contains_iff_mem.2 (List.mem_map.2 ⟨x, hx, rfl⟩)
    have e2 : (plain.filter fun x => !(plain.map (·.1)).contains x.1) = [] := List.filter_eq_nil_iff.2 fun x hx => by rw [List.contains_iff_mem.2 (List.mem_map.2 ⟨x, hx, rfl⟩)]; simp
    show laidMet Tryz.prog plain (lw os)
    exact laidMet_layVars (w0 := w0 os) (laid := plain) (plain.map (·.1)) [] (by rw [e1]; rfl) (by rw [e1]; exact lw_fits os) (by rw [e1]; exact lw_ifaces os) (by rw [e2]; exact LaidIn.none)) (lw_handles os)

theorem own : ownKnob Tryz.prog.godebug = none := by kernel_rfl
set_option maxRecDepth 100000 in
theorem lifted (os : Os) (started : os.Started) (H : Type) (enc : TypeId × Value → H) (F : Stop.Interp) :
    ReturnsInHanded { calm := true } Tryz.checked os 3 .any (fun w args => (Rows.netNilSpec.pre enc Tryz.prog Tryz.f3 [] false w args ∧ laidMetH Tryz.prog Rows.netNilRow.laid w) ∧ sizedMet enc Tryz.prog Tryz.f3 (OpenSpec.ofChange Rows.netNilSpec) false w args)
      ((OpenSpec.ofChange Rows.netNilSpec).postWith enc Tryz.prog Tryz.f3 F (outsideKept [.timePasses]) false true false) := by
  refine Clock.returns_of_change (C := Tryz.checked) (X := fun w _ => laidMetH Tryz.prog Rows.netNilRow.laid w) (fun _ _ _ hh h => h.of_heap hh) own started (by kernel_rfl) Tryz.func3
    (Clock.witness_at (enc := enc) (C := Tryz.checked) (X := fun w _ => laidMetH Tryz.prog Rows.netNilRow.laid w) (lw os) #[.int .i64 0, .int .i64 0] 8 (lw_os os)
      (World.shaped_of_ZipB (lw_zip os) (lw_rest os)) (lw_ok os) (lw_pre enc os) (lw_sized enc os)
      ((lw_laid os).of_heap (by simp [World.memory, World.forCall, Input.heap]))) ?_
  intro W base args ds gs before hval0 hW _ _ _ _
  have hval : ∀ (j : Nat) t v, Tryz.f3.params[j]? = some t → args[j]? = some v → Value.okWide Tryz.prog W .any base t v := hval0
  have hW' := hW
  obtain ⟨p, q, hA0, hV, rfl, _, _⟩ := hW
  have hA : DataW.TrodAll enc Tryz.prog W 0 (fun _ => true) true Tryz.f3.params.toList args.toList ds p := hA0
  rw [Tryz.params3] at hA hval
  obtain ⟨v0, v1, d0, d1, p0, p1, rfl, rfl, rfl, h0, h1⟩ := trodAll_two hA
  obtain ⟨rfl, rfl⟩ := trodVars_none hV
  obtain ⟨x, rfl, rfl, rfl, wx⟩ := open_int Tryz.underlying3 (hval 0 3 v0 rfl rfl) h0
  obtain ⟨y, rfl, rfl, rfl, wy⟩ := open_int Tryz.underlying3 (hval 1 3 v1 rfl rfl) h1
  simp only [List.append_nil] at hW'
  refine (law x y W).mono fun e W' ⟨he, hb⟩ => ?_
  subst he
  have hs := Clock.Since.of_below hb
  exact ⟨_, rfl, ⟨_, _, _, [], [], [], hW', trodAll_mk1 (shut_bool Tryz.underlying4 _), trodAll_mk2 (shut_int Tryz.underlying3 wx) (shut_int Tryz.underlying3 wy), rfl, hs.2.frame _, fun h => by cases h⟩, hs.1⟩

theorem leaving_of_handed {a : Assume} {C : Checked} {os : Os} {f : FuncId} {r : Reach} {Pre : World → Array Value → Prop} {Post : World → Array Value → Value → World → Prop} (h : ReturnsInHanded a C os f r Pre Post) :
    ReturnsInLeavingWide a C os f r Pre Post := fun hm => by
  obtain ⟨h1, h2, h3, h4, h5⟩ := h hm
  refine ⟨h1, h2, h3, h4, fun w tape i hf => ?_⟩
  obtain ⟨n, v, w', r1, r2, r3, r4, ⟨j, last, l1, l2, l3⟩, r5⟩ := h5 w tape i hf
  exact ⟨n, v, w', r1, r2, r3, r4, ⟨j, last, l1, l2, l3.2.1, onlyLeaving_of_quiet l3.1, l3.2.2⟩, r5⟩

theorem row_holds : Rows.NetNilSaid :=
  OpenClaim.holds_of_wide_leaving_time 3 Tryz.f3 rfl rfl rfl rfl rfl rfl rfl ⟨rfl, rfl, rfl, rfl, rfl⟩ rfl rfl rfl rfl rfl named_f Tryz.func3 closed inst_f wrap_f
    (fun os started H enc _ F => leaving_of_handed (lifted os started H enc F))
/-- A TIED CARD WITHOUT A COMPANION, of a call that can start goroutines (the library's builder asks that it can start none). -/
theorem holds_tied_goes_at (Lk : Looks) {p : Pinned} {s : OpenSpec} {c : OpenClaim} (kinds : List LaidKind) (tests : Bool) (har : Bool × String) (lk : Bool)
    (hc : c.holds p s) (hw : c.wfByText s = true) (htie : c.laidByTextAt Lk p kinds tests)
    (hst : c.start = .entering) (hnb : c.noBlocks = false ∧ c.again = false) (hm : p.checked.prog.mainIs = some (har.1, har.2.toList)) (hn : (!har.1 && har.2.isEmpty && !lk) = false)
    (hl : ∀ f fn, p.checked.prog.funcNamed c.func = some f → p.checked.prog.funcs[f]? = some fn → lk = p.checked.prog.looks [] ∧ ∀ (j : Nat) t, fn.params[j]? = some t → p.checked.prog.wantsStandIn t = false)
    (hg : true = c.goesBy p.checked.prog) :
    Claim7.holds p (.plain s) { stood := { row := c, standIns := [], harness := har, looks := lk }, kinds := [], alts := [], goes := true, laidByText := true, laidKinds := kinds, laidTests := tests, laidLooks := Lk } := by
  have h6 : ∀ r : OpenClaim, Claim7.isSixth { stood := { row := r, standIns := [], harness := har, looks := lk }, kinds := [] } = false := fun r => by simpa [Claim7.isSixth] using hn
  exact ⟨Claim7.tied_new_at Lk kinds tests (Claim7.new_of_sixth hc har lk hst hnb hm (h6 c) hl) hw, (fun D hD => by cases hD), htie, (fun h => by cases h), hg⟩

theorem card_holds : Rows.NetNilCardSaid :=
  holds_tied_goes_at .later tkAll true (true, "8dc700fba8999c917480e1bf26d792a0a41f18aac83800661f853a62d1650f47") true row_holds wf_f row_tie rfl ⟨rfl, rfl⟩ main_f rfl
    (fun f fn hf hfn => by
      obtain rfl : f = 3 := Option.some.inj (hf.symm.trans named_f)
      obtain rfl : fn = Tryz.f3 := (Option.some.inj (Tryz.func3.symm.trans hfn)).symm
      exact ⟨looks_f, fun j t ht => by
        rw [Tryz.params3] at ht
        have hm : t ∈ [3, 3] := by simpa using Array.mem_of_getElem? ht
        exact (show Tryz.pinned.checked.prog.wantsStandIn t = false by simpa using List.all_eq_true.1 stand_f t hm)⟩)
    goes_f
end Go.Proofs.YthlikfecjjjclaaGreatDoor
