/- PROVED: an evaluator of the model's runs over abstract heaps is sound (part EvC). CONDITIONS: none. -/
import Derived.Test.YtdmepghoffhphaaGreatDoorEvB
import Derived.Lib.UnsafeStr
import Derived.Maps.RangeRun
import Derived.RangeFuncRecord
import Derived.RecoverIn
/- What leaves the world as it is, all together; what lays one new block. -/
set_option linter.unusedSimpArgs false
set_option linter.unusedVariables false
namespace Go.Ev
open Go
section
variable {P : Program} {μ : Mp} {H : AH} {w : World} {T : Tr AV} {a : Act}
theorem amap {α β : Type} (f : α -> β) (xs : Array α) : xs.map f = ⟨xs.toList.map f⟩ := by apply Array.ext'; simp
theorem toList_opt (hR : Rel μ H w) (hT : TR μ T a.tmps) {x : Option Operand} {l : List AV} (h : evXs H.G T x.toList = some l) : OR2 μ l.head? (x.map a.eval) := by
  have h1 := evXs_sound hR hT h
  cases x with
  | none => simp at h1; cases h1; exact .none
  | some x =>
    simp at h1
    cases h1 with
    | cons y v _ _ hy ht => cases ht; exact .some _ _ hy
theorem evParts_arr (hR : Rel μ H w) (hT : TR μ T a.tmps) {ps : Array (Nat × Operand)} {l : List (Nat × AV)} (h : evParts H.G T ps.toList = some l) :
    ∃ vs : List (Nat × Value), (ps.map fun (i, x) => (i, a.eval x)) = vs.toArray /\ vs.map (·.1) = l.map (·.1) /\ VRs μ (l.map (·.2)) (vs.map (·.2)) := by
  obtain ⟨h1, h2⟩ := evParts_sound hR hT h
  refine ⟨ps.toList.map fun (i, x) => (i, a.eval x), amap _ _, ?_, ?_⟩
  · rw [h1, List.map_map]; rfl
  · rw [List.map_map]; exact h2
theorem evLight_sound (hR : Rel μ H w) (hT : TR μ T a.tmps) {o : Oper} {z : AV} (h : evLight P T H o = some z) : ∃ v, (execOp a.eval o).run P w = .ok (.value v) w /\ VR μ z v := by
  unfold evLight at h
  unfold execOp
  split at h
  · rename_i x ho
    simp only [ho]
    exact ⟨_, rfl, evX_sound hR hT h⟩
  · rename_i x ho
    simp only [ho]
    exact ⟨_, rfl, evX_sound hR hT h⟩
  · rename_i c x y ho
    simp only [ho]
    split at h <;> try (cases h; done)
    · rename_i hc
      have := bool_inv (evX_sound hR hT hc)
      exact ⟨_, by simp [this, asBool], evX_sound hR hT h⟩
    · rename_i hc
      have := bool_inv (evX_sound hR hT hc)
      exact ⟨_, by simp [this, asBool], evX_sound hR hT h⟩
  · rename_i t ps ho
    simp only [ho]
    split at h <;> try (cases h; done)
    rename_i l hl
    obtain ⟨vs, h1, h2, h3⟩ := evParts_arr hR hT hl
    obtain ⟨v, hv, hr⟩ := evBuild_sound (P := P) (w := w) h2 h3 h
    exact ⟨v, by rw [h1]; exact run_of_next hv, hr⟩
  · rename_i t x ho
    simp only [ho]
    split at h <;> try (cases h; done)
    rename_i b off hx
    obtain ⟨p, hp, hxe⟩ := ptr_inv (evX_sound hR hT hx)
    obtain ⟨v, hv, hr⟩ := evLoad_sound hR hp h
    exact ⟨v, run_of_next (by simp [Instr.loadAt, Instr.sureAddr, hxe, hv]), hr⟩
  · rename_i x ho
    simp only [ho]
    split at h <;> try (cases h; done)
    · rename_i b off hx
      simp only [Option.some.injEq] at h; subst h
      have hv := evX_sound hR hT hx
      obtain ⟨p, hp, hxe⟩ := ptr_inv hv
      exact ⟨a.eval x, by rw [hxe]; rfl, hv⟩
    · rename_i g f c hx
      simp only [Option.some.injEq] at h; subst h
      have hv := evX_sound hR hT hx
      obtain ⟨a', b', hxe, _, _⟩ := fn_inv hv
      exact ⟨a.eval x, by rw [hxe]; rfl, hv⟩
  · rename_i op t x y yt ho
    simp only [ho]
    split at h <;> try (cases h; done)
    rename_i u v hu hv
    obtain ⟨r, hr1, hr2⟩ := evBin_sound (P := P) (xo := x) (yo := y) hR (evX_sound hR hT hu) (evX_sound hR hT hv) (by
      intro hc
      cases x <;> cases y <;> simp_all) h
    exact ⟨r, run_of_next hr1, hr2⟩
  · rename_i op t x ho
    simp only [ho]
    split at h <;> try (cases h; done)
    rename_i u hu
    obtain ⟨r, hr1, hr2⟩ := evUn_sound (P := P) (w := w) (evX_sound hR hT hu) h
    exact ⟨r, run_of_next hr1, hr2⟩
  · rename_i s d x ho
    simp only [ho]
    split at h <;> try (cases h; done)
    rename_i u hu
    obtain ⟨r, hr1, hr2⟩ := evConv_sound hR (evX_sound hR hT hu) h
    exact ⟨r, run_of_next hr1, hr2⟩
  · rename_i t x ho
    simp only [ho]
    split at h <;> try (cases h; done)
    rename_i u d hni hu hd
    simp only [Option.some.injEq] at h; subst h
    refine ⟨.iface t (a.eval x), run_of_next ?_, .ifc _ _ _ (evX_sound hR hT hu)⟩
    simp only [Instr.makeInterface, Sem.run_bind, run_underlying_ev hd, Result.andThen_ok]
    cases d <;> first | rfl | exact absurd rfl (hni _)
  · rename_i f first captured ho
    simp only [ho]
    split at h <;> try (cases h; done)
    rename_i l c hl hc
    simp only [Option.some.injEq] at h; subst h
    have h1 := evXs_sound hR hT hl
    have h2 := evXs_sound hR hT hc
    refine ⟨.func f (first.map a.eval) (captured.map a.eval), rfl, ?_⟩
    have := VR.fn f l c _ _ h1 h2
    rw [amap, amap]
    exact this
  · rename_i t x lo hi mx ho
    simp only [ho]
    split at h <;> try (cases h; done)
    rename_i u l hh m hu hl hhh hm
    obtain ⟨r, hr1, hr2⟩ := evSlice_sound (P := P) (w := w) (evX_sound hR hT hu) (toList_opt hR hT hl) (toList_opt hR hT hhh) (toList_opt hR hT hm) h
    exact ⟨r, run_of_next hr1, hr2⟩
  · rename_i t x f ho
    simp only [ho]
    split at h <;> try (cases h; done)
    rename_i u hu
    obtain ⟨r, hr1, hr2⟩ := evFieldAddr_sound (P := P) (w := w) (evX_sound hR hT hu) h
    exact ⟨r, run_of_next hr1, hr2⟩
  · rename_i t x f ho
    simp only [ho]
    split at h <;> try (cases h; done)
    rename_i u hu
    obtain ⟨r, hr1, hr2⟩ := evField_sound (P := P) (w := w) (evX_sound hR hT hu) h
    exact ⟨r, run_of_next hr1, hr2⟩
  · rename_i t x i ho
    simp only [ho]
    split at h <;> try (cases h; done)
    rename_i u v hu hv
    obtain ⟨r, hr1, hr2⟩ := evIndexAddr_sound (P := P) (w := w) (evX_sound hR hT hu) (evX_sound hR hT hv) h
    exact ⟨r, run_of_next hr1, hr2⟩
  · rename_i t x i ho
    simp only [ho]
    split at h <;> try (cases h; done)
    rename_i u v hu hv
    obtain ⟨r, hr1, hr2⟩ := evIndex_sound (P := P) (w := w) (evX_sound hR hT hu) (evX_sound hR hT hv) h
    exact ⟨r, run_of_next hr1, hr2⟩
  · rename_i t x i ok ho
    simp only [ho]
    split at h <;> try (cases h; done)
    rename_i u v hu hv
    obtain ⟨r, hr1, hr2⟩ := evLookup_sound hR (evX_sound hR hT hu) (evX_sound hR hT hv) h
    exact ⟨r, run_of_next hr1, hr2⟩
  · rename_i x i ho
    simp only [ho]
    split at h <;> try (cases h; done)
    rename_i l hl
    obtain ⟨vs, hxe, hvs⟩ := tup_inv (evX_sound hR hT hl)
    obtain ⟨v, hv, hr⟩ := hvs.get h
    exact ⟨v, run_of_next (by simp [Instr.extract, hxe, hv]), hr⟩
  · rename_i c ho
    simp only [ho]
    split at h <;> try (cases h; done)
    rename_i b hb
    split at h <;> try (cases h; done)
    rename_i args hargs
    have h1 := evXs_sound hR hT hargs
    obtain ⟨v, hv, hr⟩ := evBuiltinL_sound (P := P) (ty := o.type) (cs := c.args.map fun | .const _ => true | _ => false) hR h1 h
    refine ⟨v, ?_, hr⟩
    have e : (c.args.toList.map a.eval).toArray = c.args.map a.eval := (amap _ _).symm
    rw [e] at hv
    simp only [Sem.run_bind, resolve, hb, Sem.run_pure, Result.andThen_ok, invoke]
    exact hv
  · cases h
theorem wrap_small {n : Int} (h : 0 <= n /\ n <= 1000000) : IntKind.i64.wrap n = n := by
  unfold IntKind.wrap
  have h1 : n % (2 ^ IntKind.i64.bits : Int) = n := by
    have : (2 ^ IntKind.i64.bits : Int) = 18446744073709551616 := by decide
    rw [this]; omega
  have h2 : ¬ (n ≥ (2 ^ (IntKind.i64.bits - 1) : Int)) := by
    have : (2 ^ (IntKind.i64.bits - 1) : Int) = 9223372036854775808 := by decide
    rw [this]; omega
  simp only [h1]
  simp [h2]
def Obj.ofB (elem : TypeId) (vs : List Value) : Obj := .cells ⟨vs⟩ elem
theorem BR_rowB {μ' : Mp} {l : List AV} {vs : List Value} {elem : TypeId} {n : Nat} {heap : Array Obj} (hv : VRs μ' l vs) (hh : heap[n]? = some (.cells ⟨vs⟩ elem (0, 0))) :
    BR μ' (rowB l elem) ⟨n, 0, vs.length⟩ heap := by
  have hlen := hv.length
  refine ⟨⟨vs⟩, (0, 0), hh, by simp, by simp [hlen], fun _ => ⟨rfl, hlen.symm⟩, fun i x hx => ?_, fun _ => rfl, fun _ i _ => by simp⟩
  rw [ofL_get] at hx
  obtain ⟨v, hv', hr⟩ := hv.get hx
  exact ⟨(List.getElem?_eq_some_iff.1 hx).1, v, by simpa using hv', hr⟩
theorem repL_spec : ∀ (z : List AV) (n : Nat), (repL z n).length = n * z.length /\ ∀ i, i < n * z.length -> (repL z n)[i]? = z[i % z.length]?
  | z, 0 => by simp [repL]
  | z, n + 1 => by
    obtain ⟨h1, h2⟩ := repL_spec z n
    refine ⟨by simp [repL, h1, Nat.succ_mul]; omega, fun i hi => ?_⟩
    simp only [repL]
    by_cases hlt : i < z.length
    · rw [List.getElem?_append_left hlt, Nat.mod_eq_of_lt hlt]
    · have hge : z.length <= i := by omega
      rw [List.getElem?_append_right hge, h2 (i - z.length) (by rw [Nat.succ_mul] at hi; omega)]
      congr 1
      exact (Nat.mod_eq_sub_mod hge).symm
theorem rep_VRs {z : List AV} {zv : List Value} (hz : VRs μ z zv) (n : Nat) : VRs μ (repL z n) ((List.range (n * z.length)).map fun i => zv[i % zv.length]?.getD default) := by
  obtain ⟨h1, h2⟩ := repL_spec z n
  have hl := hz.length
  refine VRs.of_get _ _ (by simp [h1]) fun i x hx => ?_
  have hi : i < n * z.length := by rw [<- h1]; exact (List.getElem?_eq_some_iff.1 hx).1
  rw [h2 i hi] at hx
  obtain ⟨v, hv, hr⟩ := hz.get hx
  exact ⟨v, by simp [hi, hl, hv], hr⟩
theorem run_zero_all {elem : TypeId} {zl : List AV} (hz : zeroC P elem = some zl) (μ : Mp) : ∃ zv, (∀ w1, (zeroValue elem).run P w1 = .ok zv w1) /\ VRs μ zl zv.cells.toList := by
  unfold zeroC at hz
  cases hi : P.info? elem with
  | none => rw [hi] at hz; cases hz
  | some i =>
    cases hzz : i.zero with
    | none => simp [hi, hzz] at hz
    | some zz =>
      simp only [hi, hzz] at hz
      split at hz
      · cases hz
      · rename_i x hx
        simp only [Option.some.injEq] at hz; subst hz
        exact ⟨zz, fun w1 => by simp [zeroValue, run_typeInfo_ev hi, hzz], (ofV_sound hx μ).cells⟩
theorem evFlt_sound (hR : Rel μ H w) (hT : TR μ T a.tmps) {o : Oper} {id : Nat} {z : AV} {B : AB} (h : evFlt P H.G T id o = some (z, B)) :
    ∃ v ob fin, (∀ w1 : World, w1.heap.size = w.heap.size -> (execOp a.eval o).run P w1 = .ok (.value v) { w1 with heap := w1.heap.push ob }) /\
      ∀ μ' : Mp, μ.le μ' -> μ' id = some ⟨w.heap.size, 0, fin⟩ -> VR μ' z v /\ ∀ heap : Array Obj, heap[w.heap.size]? = some ob -> BR μ' B ⟨w.heap.size, 0, fin⟩ heap := by
  unfold evFlt at h
  unfold execOp
  split at h
  · -- alloc
    rename_i elem ho
    simp only [ho]
    split at h <;> try (cases h; done)
    rename_i zl hz
    simp only [Option.some.injEq, Prod.mk.injEq] at h
    obtain ⟨rfl, rfl⟩ := h
    obtain ⟨zv, hzr', hzv⟩ := run_zero_all hz μ
    refine ⟨.pointer (some ⟨w.heap.size, 0, none⟩), .cells zv.cells elem, zv.cells.toList.length, fun w1 hw1 => ?_, fun μ' hm hid => ⟨VR.ptr id 0 _ hid, fun heap hh => BR_rowB (hzv.mono hm) hh⟩⟩
    refine run_of_next ?_
    simp [Instr.alloc, hzr' w1, newVar, newRow, hw1]
  · -- box
    rename_i elem x ho
    simp only [ho]
    split at h <;> try (cases h; done)
    rename_i u hu
    simp only [Option.some.injEq, Prod.mk.injEq] at h
    obtain ⟨rfl, rfl⟩ := h
    have hv := evX_sound hR hT hu
    refine ⟨.pointer (some ⟨w.heap.size, 0, none⟩), .cells (a.eval x).cells elem, (a.eval x).cells.toList.length, fun w1 hw1 => ?_, fun μ' hm hid => ⟨VR.ptr id 0 _ hid, fun heap hh => BR_rowB (hv.cells.mono hm) hh⟩⟩
    refine run_of_next ?_
    simp [Instr.box, newVar, newRow, hw1]
  · -- buildSlice
    rename_i t len ps ho
    simp only [ho]
    split at h <;> try (cases h; done)
    rename_i l hl
    obtain ⟨vs, h1, h2, h3⟩ := evParts_arr hR hT hl
    unfold evBuildSlice at h
    split at h <;> try (cases h; done)
    rename_i elem hu
    split at h <;> try (cases h; done)
    rename_i n hn
    split at h <;> try (cases h; done)
    rename_i hle
    split at h <;> try (cases h; done)
    rename_i z hz
    split at h <;> try (cases h; done)
    rename_i hlen
    have hlen := natEq_iff hlen
    split at h <;> try (cases h; done)
    rename_i r hr
    simp only [Option.some.injEq, Prod.mk.injEq] at h
    obtain ⟨rfl, rfl⟩ := h
    have hle := ble hle
    have hle' : ¬ (16777216 < len * n) := by omega
    have hzv : ∃ zv : List Value, VRs μ z zv /\ ((len * n = 0 /\ zv = []) \/ (¬ (len * n = 0) /\ ∃ zz : Value, zz.cells = zv.toArray /\ ∀ w1 : World, (zeroValue elem).run P w1 = .ok zz w1)) := by
      split at hz
      · rename_i e
        have e := natEq_iff e
        simp only [Option.some.injEq] at hz; subst hz
        exact ⟨[], .nil, .inl ⟨e, rfl⟩⟩
      · rename_i e
        have e : ¬ (len * n = 0) := Nat.ne_of_beq_eq_false e
        obtain ⟨zv, hzr, hzv⟩ := run_zero_all hz μ
        exact ⟨zv.cells.toList, hzv, .inr ⟨e, zv, by simp, hzr⟩⟩
    obtain ⟨zv, hzv, hzr⟩ := hzv
    have hrep := rep_VRs hzv len
    obtain ⟨hrl, _⟩ := repL_spec z len
    have hcells : (Array.range (len * n)).map (fun i => zv.toArray[i % zv.toArray.size]!) = ⟨(List.range (len * z.length)).map fun i => zv[i % zv.length]?.getD default⟩ := by
      rw [amap, <- hlen, hrl]
      congr 1
      simp only [Array.toList_range]
      apply List.map_congr_left
      intro i _
      simp [Array.getElem!_eq_getD, Array.getD_eq_getD_getElem?]
    obtain ⟨b, hb, hbr⟩ := fillA_sound hrep h2 h3 hr
    refine ⟨.slice (some ⟨w.heap.size, 0, none⟩) len len, .cells ⟨b⟩ elem, b.length, fun w1 hw1 => run_of_next ?_, fun μ' hm hid => ⟨VR.slc id 0 len n (some len) len _ hid (by intro k hk; simpa using hk) (by simp), fun heap hh => BR_rowB (hbr.mono hm) hh⟩⟩
    rw [h1]
    simp only [Instr.buildSlice, Sem.run_bind, run_underlying_ev hu, Result.andThen_ok, run_sizeOf_ev hn, gt_iff_lt, Nat.reducePow, if_neg hle', Sem.run_pure]
    rcases hzr with ⟨e0, rfl⟩ | ⟨e0, zz, hzz, hzr⟩
    · rw [if_pos e0]
      simp only [Sem.run_bind, Sem.run_pure, Result.andThen_ok]
      rw [hcells]
      simp only [hb]
      simp [newRow, hw1]
    · rw [if_neg e0]
      simp only [Sem.run_bind, Sem.run_pure, hzr w1, Result.andThen_ok, hzz]
      rw [hcells]
      simp only [hb]
      simp [newRow, hw1]
  · -- makeMap
    rename_i t r ho
    simp only [ho]
    have key : ∀ {id : Nat}, ∃ ob fin, ob = Obj.map #[] 0 /\ fin = 0 /\ ∀ μ' : Mp, μ.le μ' -> μ' id = some ⟨w.heap.size, 0, fin⟩ -> VR μ' (.map id) (.map (some w.heap.size)) /\
        ∀ heap : Array Obj, heap[w.heap.size]? = some ob -> BR μ' (.map [] 0) ⟨w.heap.size, 0, fin⟩ heap :=
      fun {id} => ⟨_, _, rfl, rfl, fun μ' hm hid => ⟨VR.map id _ hid, fun heap hh => ⟨[], hh, .nil⟩⟩⟩
    split at h
    · simp only [Option.some.injEq, Prod.mk.injEq] at h
      obtain ⟨rfl, rfl⟩ := h
      obtain ⟨ob, fin, rfl, rfl, hk⟩ := @key id
      refine ⟨.map (some w.heap.size), _, _, fun w1 hw1 => run_of_next ?_, hk⟩
      simp [Instr.makeMap, hw1]
    · rename_i r
      split at h <;> try (cases h; done)
      rename_i k n kt et hx hu
      simp only [Option.some.injEq, Prod.mk.injEq] at h
      obtain ⟨rfl, rfl⟩ := h
      have hx := int_inv (evX_sound hR hT hx)
      obtain ⟨ob, fin, rfl, rfl, hk⟩ := @key id
      refine ⟨.map (some w.heap.size), _, _, fun w1 hw1 => run_of_next ?_, hk⟩
      simp [Instr.makeMap, hw1, run_underlying_ev hu, hx, asInt, asIntOf]
  · -- makeSlice
    rename_i t l c ho
    simp only [ho]
    split at h <;> try (cases h; done)
    rename_i x y hx hy
    unfold evMakeSlice at h
    split at h <;> try (cases h; done)
    rename_i elem k1 l' k2 c' hu
    have hx := int_inv (evX_sound hR hT hx)
    have hy := int_inv (evX_sound hR hT hy)
    split at h <;> try (cases h; done)
    rename_i i hi
    split at h <;> try (cases h; done)
    rename_i h1 h2 h3
    have h1 := ble h1
    have h2 := ble h2
    have h3 := ble h3
    split at h <;> try (cases h; done)
    rename_i z hz
    split at h <;> try (cases h; done)
    rename_i hlen
    have hlen := natEq_iff hlen
    simp only [Option.some.injEq, Prod.mk.injEq] at h
    obtain ⟨rfl, rfl⟩ := h
    have hzv : ∃ zv : List Value, VRs μ z zv /\ ((c' * i.size = 0 /\ zv = []) \/ (¬ (c' * i.size = 0) /\ ∃ zz : Value, zz.cells = zv.toArray /\ ∀ w1 : World, (zeroValue elem).run P w1 = .ok zz w1)) := by
      split at hz
      · rename_i e
        have e := natEq_iff e
        simp only [Option.some.injEq] at hz; subst hz
        exact ⟨[], .nil, .inl ⟨e, rfl⟩⟩
      · rename_i e
        have e : ¬ (c' * i.size = 0) := Nat.ne_of_beq_eq_false e
        obtain ⟨zv, hzr, hzv⟩ := run_zero_all hz μ
        exact ⟨zv.cells.toList, hzv, .inr ⟨e, zv, by simp, hzr⟩⟩
    obtain ⟨zv, hzv, hzr⟩ := hzv
    have hrep := rep_VRs hzv c'
    obtain ⟨hrl, _⟩ := repL_spec z c'
    have hcells : (Array.range (c' * i.size)).map (fun i => zv.toArray[i % zv.toArray.size]!) = ⟨(List.range (c' * z.length)).map fun i => zv[i % zv.length]?.getD default⟩ := by
      rw [amap, <- hlen, hrl]
      congr 1
      simp only [Array.toList_range]
      apply List.map_congr_left
      intro i _
      simp [Array.getElem!_eq_getD, Array.getD_eq_getD_getElem?]
    have hwl : IntKind.i64.wrap (l' : Int) = (l' : Int) := wrap_small (by omega)
    have hwc : IntKind.i64.wrap (c' : Int) = (c' : Int) := wrap_small (by omega)
    have hbc : i.bytes * c' <= 1000000000000 := Nat.le_trans (Nat.mul_le_mul h3 h2) (by omega)
    have d1 : decide ((c' : Int) < 0) = false := decide_eq_false (by omega)
    have d2 : decide ((l' : Int) < 0) = false := decide_eq_false (by omega)
    have d3 : decide ((i.bytes : Int) * (c' : Int) > 2 ^ 48) = false := decide_eq_false (by
      have : (i.bytes : Int) * (c' : Int) = ((i.bytes * c' : Nat) : Int) := by simp
      rw [this]; omega)
    have d4 : decide ((l' : Int) > (c' : Int)) = false := decide_eq_false (by omega)
    refine ⟨.slice (some ⟨w.heap.size, 0, none⟩) l' c', .cells ⟨(List.range (c' * z.length)).map fun i => zv[i % zv.length]?.getD default⟩ elem, _, fun w1 hw1 => run_of_next ?_,
      fun μ' hm hid => ⟨VR.slc id 0 l' i.size (some c') c' _ hid (by intro k hk; simpa using hk) (by simp), fun heap hh => BR_rowB (hrep.mono hm) hh⟩⟩
    rw [hx, hy]
    simp only [Instr.makeSlice, Sem.run_bind, run_underlying_ev hu, Result.andThen_ok, asInt, asIntOf, Sem.run_pure, run_typeInfo_ev hi, hwl, hwc, d1, d2, d3, d4, Bool.or_self, Bool.false_eq_true, if_false, run_askRoom, sizeOf, Int.toNat_natCast, Int.ofNat_eq_natCast]
    rcases hzr with ⟨e0, rfl⟩ | ⟨e0, zz, hzz, hzr⟩
    · rw [if_pos e0]
      simp only [Sem.run_bind, Sem.run_pure, Result.andThen_ok]
      rw [hcells]
      simp [newRow, hw1]
    · rw [if_neg e0]
      simp only [Sem.run_bind, Sem.run_pure, hzr w1, Result.andThen_ok, hzz]
      rw [hcells]
      simp [newRow, hw1]
  · cases h
end
end Go.Ev
/- What writes. -/
set_option linter.unusedSimpArgs false
set_option linter.unusedVariables false
namespace Go.Ev
open Go
section
variable {P : Program} {μ : Mp} {H : AH} {w : World} {T : Tr AV} {a : Act}
theorem allOne_spec {l : List AV} {vs : List Value} (h : allOne l = true) (hv : VRs μ l vs) : ∀ v ∈ vs, v.oneCell' = true := by
  induction l generalizing vs with
  | nil => cases hv; simp
  | cons x l ih =>
    cases hv with
    | cons _ v _ vs' hx ht =>
      simp only [allOne] at h
      split at h
      · rename_i h1
        intro u hu
        rcases List.mem_cons.1 hu with rfl | hu
        · rw [hx.oneCell]; exact h1
        · exact ih h ht u hu
      · cases h
theorem writeB_sound (hR : Rel μ H w) {b off : Nat} {p : Pl} {l : List AV} {vs : List Value} {H' : AH} (hp : μ b = some p) (hv : VRs μ l vs) (h : writeB H b off l = some H') :
    ∃ w', (storeCells ⟨p.blk, p.off + off, none⟩ vs).run P w = .ok () w' /\ Stp μ H w μ H' w' := by
  unfold writeB at h
  split at h <;> try (cases h; done)
  rename_i n c opn frz e hb
  split at h <;> try (cases h; done)
  rename_i h1 h2 h3
  simp only [Option.some.injEq] at h; subst h
  have h1 := ble h1
  have h2 := ble h2
  obtain ⟨p', hp', cs, fr, g1, g2, g3, g4, g5, g6, g7⟩ := hR.blk b _ hb
  rw [hp] at hp'; cases hp'
  have hlen := hv.length
  obtain ⟨w', cs', hr, hh, hsz, hg, hws, hoth, ht, hos, hout⟩ := run_storeCells_ev P p.blk (p.off + off) e fr vs 0 cs w g1 (by omega) (allOne_spec h3 hv) (by rw [g2]; exact g7 h1)
  refine ⟨w', hr, ?_⟩
  refine stp_set hR hb rfl rfl hp hws hoth ?_ ht hos hout
  refine ⟨cs', fr, hh, by rw [hsz, g2], g3, g4, fun i x hx => ?_, g6, g7⟩
  rw [putL_get] at hx
  rw [hg]
  by_cases hc : off <= i /\ i < off + l.length
  · rw [if_pos hc] at hx
    obtain ⟨v, hv1, hr1⟩ := hv.get hx
    refine ⟨by omega, v, ?_, hr1⟩
    rw [if_pos (by omega), <- hv1]; congr 1; omega
  · rw [if_neg hc] at hx
    obtain ⟨q1, v, q2, q3⟩ := g5 i x hx
    exact ⟨q1, v, by rw [if_neg (by omega)]; exact q2, q3⟩
theorem evStore_sound (hR : Rel μ H w) {t : TypeId} {b off : Nat} {p : Pl} {x : AV} {v : Value} {H' : AH} (hp : μ b = some p) (hv : VR μ x v) (h : evStore P H t b off x = some H') :
    ∃ w', (storeVar t ⟨p.blk, p.off + off, none⟩ v).run P w = .ok () w' /\ Stp μ H w μ H' w' := by
  unfold evStore at h
  split at h <;> try (cases h; done)
  rename_i n hn
  split at h <;> try (cases h; done)
  rename_i hl
  have hl := natEq_iff hl
  obtain ⟨w', hr, hs⟩ := writeB_sound (P := P) hR hp hv.cells h
  refine ⟨w', ?_, hs⟩
  have hc : v.cells.size = n := by have := hv.cells.length; simp at this; omega
  simp [storeVar, run_sizeOf_ev hn, hc, hr]
theorem ERs.snoc {k z : AV} {b c : Value} {n : Nat} (hk : VR μ k b) (hz : VR μ z c) : ∀ {es : List (AV × AV × Nat)} {l : List MapEntry}, ERs μ es l -> ERs μ (es ++ [(k, z, n)]) (l ++ [{ key := b, val := c, born := n }])
  | _, _, .nil => .cons _ _ _ _ _ _ _ hk hz .nil
  | _, _, .cons k1 v1 born l1 k1' v1' a1 hk1 hv1 t1 => .cons _ _ _ _ _ _ _ hk1 hv1 (ERs.snoc hk hz t1)
theorem ERs.modL {k z : AV} {b c : Value} (hk : VR μ k b) (hz : VR μ z c) : ∀ {es : List (AV × AV × Nat)} {l : List MapEntry} (i : Nat), ERs μ es l -> ERs μ (Ev.modL es i k z) (l.modify i fun e => { e with key := b, val := c })
  | _, _, i, .nil => by cases i <;> simp [Ev.modL] <;> exact .nil
  | _, _, 0, .cons k1 v1 born l1 k1' v1' a1 hk1 hv1 t1 => by simp [Ev.modL]; exact .cons _ _ _ _ _ _ _ hk hz t1
  | _, _, i + 1, .cons k1 v1 born l1 k1' v1' a1 hk1 hv1 t1 => by simp [Ev.modL]; exact .cons _ _ _ _ _ _ _ hk1 hv1 (ERs.modL hk hz i t1)
theorem sameBits_of {kind : TypeDesc} {a b : Value} (h : Instr.sameNow kind a b = some true) (n : Nat) : Instr.sameBits n b a = true := by
  unfold Instr.sameNow at h
  split at h
  · rename_i k x k' y
    split at h
    · rename_i hk
      simp at h; subst h; subst hk
      cases n <;> simp [Instr.sameBits]
    · cases h
  · rename_i x y
    simp only [Option.some.injEq] at h
    have h' : (x.data == y.data) = true := h
    have h'' : (y == x) = (y.data == x.data) := rfl
    have e : y.data = x.data := (eq_of_beq h').symm
    cases n <;> simp only [Instr.sameBits, h'', e] <;> simp
  · rename_i x y
    simp only [Option.some.injEq] at h
    have : x = y := by simpa using h
    subst this
    cases n <;> simp [Instr.sameBits]
  · cases h
theorem evMapUpdate_sound (hR : Rel μ H w) {t : TypeId} {x k z : AV} {a b c : Value} {H' : AH} (hx : VR μ x a) (hk : VR μ k b) (hz : VR μ z c) (h : evMapUpdate P H t x k z = some H') :
    ∃ w', (Instr.mapUpdate t a b c).run P w = .ok () w' /\ Stp μ H w μ H' w' := by
  unfold evMapUpdate at h
  split at h <;> try (cases h; done)
  rename_i key elem bb hu
  obtain ⟨p, hp, rfl⟩ := map_inv hx
  split at h <;> try (cases h; done)
  rename_i kind hkk
  split at h <;> try (cases h; done)
  rename_i es clock hpk hb
  obtain ⟨p', hp', l, h1, h2⟩ := hR.blk bb _ hb
  rw [hp] at hp'; cases hp'
  have hlt : p.blk < w.heap.size := (Array.getElem?_eq_some_iff.1 h1).1
  have hset : ∀ o : Obj, (setObj p.blk o).run P w = .ok () { w with heap := w.heap.setIfInBounds p.blk o } := fun o => by
    simp [setObj, Sem.run, h1]
  have hstp : ∀ (es' : List (AV × AV × Nat)) (l' : List MapEntry) (clock' : Nat), ERs μ es' l' ->
      Stp μ H w μ { next := H.next, m := H.m.put bb (.map es' clock'), G := H.G } { w with heap := w.heap.setIfInBounds p.blk (.map ⟨l'⟩ clock') } := fun es' l' clock' he => by
    refine stp_set hR hb rfl rfl hp (by simp) (fun k hk => by simp [Array.getElem?_setIfInBounds, Ne.symm hk]) ⟨l', by simp [hlt], he⟩ rfl rfl rfl
  split at h
  · rename_i i v hf
    split at h <;> try (cases h; done)
    rename_i hnp hns
    simp only [Option.some.injEq] at h; subst h
    obtain ⟨v', f1, f2, f3⟩ := findK_sound hR hkk hk h2 hf
    obtain ⟨e, f5, f6⟩ := f3 hnp hns
    have hs : Instr.sameBits 10000 e.key b = true := sameBits_of f6 _
    have hkt : (Instr.keyThatStays e.key b).run P w = .ok b w := by
      unfold Instr.keyThatStays
      rw [if_pos hs]; rfl
    refine ⟨_, ?_, hstp _ _ _ (ERs.modL hk hz i h2)⟩
    have hm : (⟨l⟩ : Array MapEntry).modify i (fun e => { e with key := b, val := c }) = ⟨l.modify i fun e => { e with key := b, val := c }⟩ := by
      apply Array.ext'; simp
    simp [Instr.mapUpdate, run_underlying_ev hu, run_getObj_map h1, keyOk_sound hkk hk hpk, f1, hset, f5, hkt, hm]
  · rename_i hf
    simp only [Option.some.injEq] at h; subst h
    have f1 := findK_sound hR hkk hk h2 hf
    simp only at f1
    refine ⟨_, ?_, hstp _ _ _ (h2.snoc hk hz)⟩
    simp [Instr.mapUpdate, run_underlying_ev hu, run_getObj_map h1, keyOk_sound hkk hk hpk, f1, hset]
  · cases h
end
end Go.Ev
/- append. -/
set_option linter.unusedSimpArgs false
set_option linter.unusedVariables false
namespace Go.Ev
open Go
section
variable {P : Program} {μ : Mp} {H : AH} {w : World}
theorem lenA_sound {x : AV} {v : Value} {n : Nat} (hx : VR μ x v) (h : lenA x = some n) : ∀ w1, (Builtin.lenOf v).run P w1 = .ok n w1 := by
  intro w1
  unfold lenA at h
  split at h <;> try (cases h; done)
  · cases nils_inv hx; simp at h; subst h; rfl
  · obtain ⟨a, c, rfl⟩ := slcE_inv hx; simp at h; subst h; rfl
  · obtain ⟨s, rfl, hs⟩ := str_inv hx
    simp at h; subst h
    simp [Builtin.lenOf, <- hs]
  · obtain ⟨p, c, hp, rfl, hc, ho⟩ := slc_inv hx; simp at h; subst h; rfl
theorem u8L_VRs : ∀ (l : List UInt8), VRs μ (u8L (l.map UInt8.toNat)) (l.map fun b => Value.int .u8 b.toNat)
  | [] => .nil
  | b :: l => .cons _ _ _ _ (.int _ _) (u8L_VRs l)
theorem u8L_length : ∀ (l : List Nat), (u8L l).length = l.length
  | [] => rfl
  | _ :: l => by simp [u8L, u8L_length l]
theorem srcCells_sound (hR : Rel μ H w) {x : AV} {v : Value} {es n : Nat} {l : List AV} (hx : VR μ x v) (h : srcCells H es x n = some l) :
    ∃ vs : List Value, (∀ w1 : World, w1.heap = w.heap -> (Builtin.firstCells es n v).run P w1 = .ok ⟨vs⟩ w1) /\ VRs μ l vs := by
  unfold srcCells at h
  split at h
  · cases nils_inv hx
    split at h <;> try (cases h; done)
    simp only [Option.some.injEq] at h; subst h
    exact ⟨[], fun w1 _ => rfl, .nil⟩
  · obtain ⟨a, c, rfl⟩ := slcE_inv hx
    split at h <;> try (cases h; done)
    simp only [Option.some.injEq] at h; subst h
    exact ⟨[], fun w1 _ => by simp [Builtin.firstCells, loadCells, loadCellsFrom], .nil⟩
  · obtain ⟨s, rfl, hs⟩ := str_inv hx
    simp only [Option.some.injEq] at h; subst h
    refine ⟨(s.data.toList.take n).map fun b => Value.int .u8 b.toNat, fun w1 _ => ?_, ?_⟩
    · simp only [Builtin.firstCells, Sem.run_pure, Result.ok.injEq, and_true]
      apply Array.ext'
      simp [ByteArray.data_extract, List.extract_eq_take_drop]
    · rw [<- hs, <- List.map_take]
      exact u8L_VRs _
  · rename_i b off len es' cap
    obtain ⟨p, c, hp, rfl, hc, ho⟩ := slc_inv hx
    split at h <;> try (cases h; done)
    split at h
    · rename_i hz
      simp only [Option.some.injEq] at h; subst h
      exact ⟨[], fun w1 _ => by simp [Builtin.firstCells, hz, loadCells, loadCellsFrom], .nil⟩
    · rename_i k hk
      obtain ⟨vs, cs, e', fr, h1, hlen, hvl, hvs, hvr⟩ := readB_sound hR hp h
      refine ⟨vs, fun w1 hw1 => ?_, hvr⟩
      simp only [Builtin.firstCells, hk]
      exact run_loadCells_ev P (by rw [hw1]; exact h1) (k + 1) vs hvl hvs
  · cases h
theorem srcCells_len {x : AV} {es n : Nat} {l : List AV} (h : srcCells H es x n = some l) (hn : lenA x = some n) (hs : ∀ s, x = .str s -> es = 1) : l.length = n * es := by
  unfold srcCells at h
  split at h
  · split at h <;> try (cases h; done)
    simp only [Option.some.injEq] at h; subst h; simp
  · split at h <;> try (cases h; done)
    simp only [Option.some.injEq] at h; subst h; simp
  · rename_i s
    simp only [Option.some.injEq] at h; subst h
    simp only [lenA, Option.some.injEq] at hn; subst hn
    rw [hs s rfl, u8L_length]; simp
  · split at h <;> try (cases h; done)
    split at h
    · rename_i hz
      simp only [Option.some.injEq] at h; subst h; rw [hz]; rfl
    · rename_i k hk
      unfold readB at h
      split at h <;> try (cases h; done)
      rw [(getL_get _ _ _ _ h).1, hk]
  · cases h
theorem stp_del (hR : Rel μ H w) (b : Nat) : Stp μ H w μ { H with m := H.m.del b } w := by
  have get : ∀ c C, (H.m.del b).get c = some C -> H.m.get c = some C := fun c C hc => by
    rw [Tr.get_del] at hc
    split at hc
    · cases hc
    · exact hc
  exact ⟨Mp.le_refl _, Nat.le_refl _, fun _ _ h => h, ⟨fun c C hc => hR.blk c C (get c C hc), fun c c' p p' C C' hc hc' => hR.inj c c' p p' C C' (get c C hc) (get c' C' hc'), hR.fresh, hR.glob⟩,
    Keeps.refl _ _ _, fun c C p hc hp => .inr ⟨c, C, p, get c C hc, id, hp, rfl⟩⟩
theorem zeroCells_size (z : Array Value) (n : Nat) : (Builtin.zeroCells z n).size = n * z.size := by simp [Builtin.zeroCells]
theorem append_grow {argTypes : Array TypeId} {ty st xt elem : TypeId} {i : TypeInfo} {z : Value} {base : Option Addr} {sLen sCap n : Nat} {x : Value} {vo vn : List Value}
    (h0 : argTypes[0]? = some st) (h1 : argTypes[1]? = some xt) (hu : P.underlying st = some (.slice elem)) (hxt : (∃ e', P.underlying xt = some (.slice e')) \/ P.underlying xt = some .string) (hi : P.info? elem = some i) (hz : i.zero = some z)
    (hl : ∀ w1, (Builtin.lenOf x).run P w1 = .ok n w1) (hg : sCap < sLen + n) (hb : (sLen + n) <= 2000000) (hby : i.bytes <= 1000000)
    (ho : ∀ w1 : World, w1.heap = w.heap -> (Builtin.firstCells i.size sLen (.slice base sLen sCap)).run P w1 = .ok ⟨vo⟩ w1) (hn : ∀ w1 : World, w1.heap = w.heap -> (Builtin.firstCells i.size n x).run P w1 = .ok ⟨vn⟩ w1) :
    ∃ newCap, sLen + n <= newCap /\ (Builtin.append_ argTypes ty #[.slice base sLen sCap, x]).run P w =
      .ok (.slice (some ⟨w.heap.size, 0, none⟩) (sLen + n) newCap) (w.drew.alloc (.cells (⟨vo⟩ ++ (⟨vn⟩ ++ Builtin.zeroCells z.cells (newCap - (sLen + n)))) elem)) := by
  have hf : Builtin.nextslicecap (sLen + n) sCap * i.bytes <= 281474976710656 := growslice_fits hg (by
    have : (sLen + n) * i.bytes <= 2000000 * 1000000 := Nat.mul_le_mul hb hby
    omega)
  have hn' : ¬ (sLen + n <= sCap) := by omega
  have h63' : ¬ (IntKind.i64.max < ((sLen + n : Nat) : Int)) := by
    have : IntKind.i64.max = 9223372036854775807 := by decide
    rw [this]; omega
  have h48' : ¬ (281474976710656 < Builtin.nextslicecap (sLen + n) sCap * i.bytes) := by omega
  refine ⟨grownCap w (sLen + n) sCap elem, ?_, ?_⟩
  · simp only [grownCap, Question.cut]; omega
  · have hf1 := ho w.drew rfl
    have hf2 := hn w.drew rfl
    have hz1 : ∀ w1, (zeroValue elem).run P w1 = .ok z w1 := fun w1 => by simp [zeroValue, run_typeInfo_ev hi, hz]
    have h48'' : ¬ (2 ^ 48 < Builtin.nextslicecap (sLen + n) sCap * i.bytes) := by simpa using h48'
    have h63'' : ¬ (IntKind.i64.max < (sLen : Int) + (n : Int)) := by simpa using h63'
    rcases hxt with ⟨e', hxt⟩ | hxt
    · simp [Builtin.append_, h0, h1, run_underlying_ev hu, run_underlying_ev hxt, sizeOf, run_typeInfo_ev hi, hl, hn', h48'', h63'', Question.forced, hf1, hf2, newRow, grownCap, hz1]
      intro h; omega
    · simp [Builtin.append_, h0, h1, run_underlying_ev hu, run_underlying_ev hxt, sizeOf, run_typeInfo_ev hi, hl, hn', h48'', h63'', Question.forced, hf1, hf2, newRow, grownCap, hz1]
      intro h; omega
theorem append_room {argTypes : Array TypeId} {ty st xt elem : TypeId} {i : TypeInfo} {base : Option Addr} {sLen sCap n : Nat} {x : Value} {vn : List Value} {w' : World}
    (h0 : argTypes[0]? = some st) (h1 : argTypes[1]? = some xt) (hu : P.underlying st = some (.slice elem)) (hxt : (∃ e', P.underlying xt = some (.slice e')) \/ P.underlying xt = some .string) (hi : P.info? elem = some i)
    (hl : ∀ w1, (Builtin.lenOf x).run P w1 = .ok n w1) (hg : sLen + n <= sCap) (hn : ∀ w1 : World, w1.heap = w.heap -> (Builtin.firstCells i.size n x).run P w1 = .ok ⟨vn⟩ w1)
    (hs : (match base with | some a => (storeCells (a.add (sLen * i.size)) vn).run P w | none => .ok () w) = .ok () w') :
    (Builtin.append_ argTypes ty #[.slice base sLen sCap, x]).run P w = .ok (.slice base (sLen + n) sCap) w' := by
  have hf := hn w rfl
  rcases hxt with ⟨e', hxt⟩ | hxt
  · cases base with
    | none => simp only [Result.ok.injEq, true_and] at hs; subst hs; simp [Builtin.append_, h0, h1, run_underlying_ev hu, run_underlying_ev hxt, sizeOf, run_typeInfo_ev hi, hl, hg, hf]
    | some a => simp only at hs; simp [Builtin.append_, h0, h1, run_underlying_ev hu, run_underlying_ev hxt, sizeOf, run_typeInfo_ev hi, hl, hg, hf, hs]
  · cases base with
    | none => simp only [Result.ok.injEq, true_and] at hs; subst hs; simp [Builtin.append_, h0, h1, run_underlying_ev hu, run_underlying_ev hxt, sizeOf, run_typeInfo_ev hi, hl, hg, hf]
    | some a => simp only at hs; simp [Builtin.append_, h0, h1, run_underlying_ev hu, run_underlying_ev hxt, sizeOf, run_typeInfo_ev hi, hl, hg, hf, hs]
theorem srcTy_spec {d : Option TypeDesc} (h : srcTy d = true) : (∃ e, d = some (.slice e)) \/ d = some .string := by
  unfold srcTy at h
  split at h
  · exact .inl ⟨_, rfl⟩
  · exact .inr rfl
  · cases h
theorem BR_open {μ' : Mp} {l : List AV} {vs : List Value} {rest : Array Value} {elem : TypeId} {n fin : Nat} {heap : Array Obj} (hv : VRs μ' l vs)
    (hh : heap[n]? = some (.cells (⟨vs⟩ ++ rest) elem (0, 0))) (hf : fin = vs.length + rest.size) : BR μ' (.cells l.length (ofL l) true false 0 elem) ⟨n, 0, fin⟩ heap := by
  have hlen := hv.length
  refine ⟨⟨vs⟩ ++ rest, (0, 0), hh, by simp [hf], by simp [hf]; omega, by simp, fun i x hx => ?_, fun _ => rfl, fun _ i _ => by simp⟩
  rw [ofL_get] at hx
  obtain ⟨v, hv', hr⟩ := hv.get hx
  have hi : i < vs.length := (List.getElem?_eq_some_iff.1 hv').1
  refine ⟨(List.getElem?_eq_some_iff.1 hx).1, v, ?_, hr⟩
  simp only [Nat.zero_add]
  rw [Array.getElem?_append_left (by simpa using hi)]
  simpa using hv'
theorem arr3 (a b : List Value) (c : Array Value) : (⟨a⟩ : Array Value) ++ (⟨b⟩ ++ c) = ⟨a ++ b⟩ ++ c := by apply Array.ext'; simp
theorem slc_new {id len es c n fin : Nat} (hf : c * es = fin) (hl : len <= c) : VR (fun x => if x = id then some ⟨n, 0, fin⟩ else μ x) (.slc id 0 len es none) (.slice (some ⟨n, 0, none⟩) len c) := by
  have := VR.slc (μ := fun x => if x = id then some (⟨n, 0, fin⟩ : Pl) else μ x) id 0 len es none c ⟨n, 0, fin⟩ (by simp) (by simp) (fun _ => ⟨by simpa using hf, hl⟩)
  simpa using this
theorem stp_grow (hR : Rel μ H w) {l : List AV} {vo vn : List Value} {rest : Array Value} {elem : TypeId} (hv : VRs μ l (vo ++ vn)) :
    Stp μ H w (fun x => if x = H.next then some ⟨w.heap.size, 0, vo.length + vn.length + rest.size⟩ else μ x) { next := Nat.succ H.next, m := openBlk H l elem, G := H.G }
      (w.drew.alloc (.cells (⟨vo⟩ ++ (⟨vn⟩ ++ rest)) elem)) := by
  have hd := stp_drew hR (w.drawn + 1)
  refine hd.trans ?_
  refine stp_new (w := { w with drawn := w.drawn + 1 }) hd.rel _ (.cells (⟨vo⟩ ++ (⟨vn⟩ ++ rest)) elem) _ ?_ rfl
  refine BR_open (rest := rest) (vs := vo ++ vn) (hv.mono (Mp.set_le (hR.fresh _ (Nat.le_refl _)))) ?_ (by simp)
  show (w.heap.push _)[w.heap.size]? = _
  rw [arr3]; simp
theorem evAppend_sound (hR : Rel μ H w) {ts : Array TypeId} {ty : TypeId} {s x z : AV} {sv xv : Value} {H' : AH} (hs : VR μ s sv) (hx : VR μ x xv) (h : evAppend P H ts.toList s x = some (z, H')) :
    ∃ v μ' w', (Builtin.append_ ts ty #[sv, xv]).run P w = .ok v w' /\ VR μ' z v /\ Stp μ H w μ' H' w' := by
  unfold evAppend at h
  split at h <;> try (cases h; done)
  rename_i st xt rest0 hts
  have h0 : ts[0]? = some st := by rw [<- Array.getElem?_toList, hts]; rfl
  have h1 : ts[1]? = some xt := by rw [<- Array.getElem?_toList, hts]; rfl
  split at h <;> try (cases h; done)
  rename_i elem hu
  split at h <;> try (cases h; done)
  rename_i hsrc
  have hxt := srcTy_spec hsrc
  split at h <;> try (cases h; done)
  rename_i i n hi hn
  split at h <;> try (cases h; done)
  rename_i new hnew g1 g2 g3
  replace g1 := ble g1
  replace g2 := ble g2
  replace g3 := ble g3
  split at h <;> try (cases h; done)
  rename_i zl hz
  split at h <;> try (cases h; done)
  rename_i hone hzl hnl
  replace hzl := natEq_iff hzl
  replace hnl := natEq_iff hnl
  have hl := lenA_sound (P := P) hx hn
  obtain ⟨vn, hvn, hvr⟩ := srcCells_sound (P := P) hR hx hnew
  have hvl : vn.length = n * i.size := by rw [hvr.length, hnl]
  have hzz : ∃ zv : Value, i.zero = some zv /\ zv.cells.size = i.size := by
    unfold zeroC at hz
    rw [hi] at hz
    simp only at hz
    cases hzr : i.zero with
    | none => rw [hzr] at hz; cases hz
    | some zv =>
      rw [hzr] at hz
      simp only at hz
      split at hz
      · cases hz
      · rename_i xx hxx
        simp only [Option.some.injEq] at hz; subst hz
        have := ((ofV_sound hxx μ).cells).length
        exact ⟨zv, rfl, by simp at this; omega⟩
  obtain ⟨zv, hzv, hzs⟩ := hzz
  have hmul : ∀ a b : Nat, (a + b) * i.size = a * i.size + b * i.size := fun a b => Nat.add_mul a b i.size
  split at h
  · -- nil
    cases nils_inv hs
    split at h
    · simp only [Option.some.injEq, Prod.mk.injEq] at h
      obtain ⟨rfl, rfl⟩ := h
      exact ⟨_, μ, w, append_room h0 h1 hu hxt hi hl (Nat.le_refl _) hvn rfl, .nils, Stp.refl hR⟩
    · rename_i k
      simp only [Option.some.injEq, Prod.mk.injEq] at h
      obtain ⟨rfl, rfl⟩ := h
      obtain ⟨newCap, hc, hrun⟩ := append_grow (ty := ty) (vo := []) h0 h1 hu hxt hi hzv hl (sLen := 0) (sCap := 0) (base := none) (by omega) (by omega) g2 (fun w1 _ => rfl) hvn
      refine ⟨_, _, _, hrun, ?_, stp_grow hR (vo := []) (vn := vn) (by simpa using hvr)⟩
      simp only [Nat.zero_add] at hc ⊢
      refine slc_new ?_ hc
      show newCap * i.size = ([] : List Value).length + vn.length + (Builtin.zeroCells zv.cells (newCap - k.succ)).size
      rw [zeroCells_size, hzs, hvl, List.length_nil]
      have := hmul (newCap - k.succ) k.succ
      rw [show newCap - k.succ + k.succ = newCap by omega] at this
      omega
  · -- an empty one
    obtain ⟨a', c, rfl⟩ := slcE_inv hs
    split at h <;> try (cases h; done)
    simp only [Option.some.injEq, Prod.mk.injEq] at h
    obtain ⟨rfl, rfl⟩ := h
    have : vn = [] := by cases vn with | nil => rfl | cons => simp at hvl
    subst this
    exact ⟨_, μ, w, append_room (w' := w) h0 h1 hu hxt hi hl (by omega) hvn rfl, .slcE _ _, Stp.refl hR⟩
  · rename_i b off len es cap
    obtain ⟨p, c, hp, rfl, hcap, hopn⟩ := slc_inv hs
    split at h <;> try (cases h; done)
    rename_i hes g4
    replace hes := natEq_iff hes
    replace g4 := ble g4
    subst hes
    split at h
    · -- known capacity
      rename_i cap
      have hcc := hcap cap rfl
      subst hcc
      split at h
      · rename_i hroom
        replace hroom := ble hroom
        split at h
        · simp only [Option.some.injEq, Prod.mk.injEq] at h
          obtain ⟨rfl, rfl⟩ := h
          have : vn = [] := by cases vn with | nil => rfl | cons => simp at hvl
          subst this
          exact ⟨_, μ, w, append_room (w' := w) h0 h1 hu hxt hi hl hroom hvn rfl, .slc b off len _ _ _ p hp hcap hopn, Stp.refl hR⟩
        · rename_i k
          split at h <;> try (cases h; done)
          rename_i H2 hw
          simp only [Option.some.injEq, Prod.mk.injEq] at h
          obtain ⟨rfl, rfl⟩ := h
          obtain ⟨w', hrun, hst⟩ := writeB_sound (P := P) hR hp hvr hw
          refine ⟨_, μ, w', append_room (w' := w') h0 h1 hu hxt hi hl hroom hvn ?_, .slc b off _ _ _ _ p hp hcap (by simp), hst⟩
          simp only [add_pl]; exact hrun
      · rename_i hroom
        replace hroom : ¬ (len + n <= c) := by intro hh; rw [Nat.ble_eq_true_of_le hh] at hroom; cases hroom
        have grow : ∀ (lo : List AV) (vo : List Value), VRs μ lo vo -> vo.length = len * i.size ->
            (∀ w1 : World, w1.heap = w.heap -> (Builtin.firstCells i.size len (.slice (some ⟨p.blk, p.off + off, none⟩) len c)).run P w1 = .ok ⟨vo⟩ w1) ->
            ∃ v μ' w', (Builtin.append_ ts ty #[.slice (some ⟨p.blk, p.off + off, none⟩) len c, xv]).run P w = .ok v w' /\ VR μ' (.slc H.next 0 (len + n) i.size none) v /\
              Stp μ H w μ' { next := Nat.succ H.next, m := openBlk H (lo ++ new) elem, G := H.G } w' := by
          intro lo vo hvo hvol hfo
          obtain ⟨newCap, hc, hrun⟩ := append_grow (ty := ty) h0 h1 hu hxt hi hzv hl (by omega) (by omega) g2 hfo hvn
          refine ⟨_, _, _, hrun, ?_, stp_grow hR (hvo.append hvr)⟩
          refine slc_new ?_ (by omega)
          show newCap * i.size = vo.length + vn.length + (Builtin.zeroCells zv.cells (newCap - (len + n))).size
          rw [zeroCells_size, hzs, hvl, hvol]
          have e1 := hmul (newCap - (len + n)) (len + n)
          have e2 := hmul len n
          rw [show newCap - (len + n) + (len + n) = newCap by omega] at e1
          omega
        split at h
        · rename_i hzero
          simp only [Option.some.injEq, Prod.mk.injEq] at h
          obtain ⟨rfl, rfl⟩ := h
          have := grow [] [] .nil (by simpa using hzero.symm) (fun w1 _ => by simp [Builtin.firstCells, hzero, loadCells, loadCellsFrom])
          simpa using this
        · rename_i k hk
          split at h <;> try (cases h; done)
          rename_i old hold
          simp only [Option.some.injEq, Prod.mk.injEq] at h
          obtain ⟨rfl, rfl⟩ := h
          obtain ⟨vs, cs, e', fr, q1, q2, q3, q4, q5⟩ := readB_sound hR hp hold
          refine grow old vs q5 (by omega) (fun w1 hw1 => ?_)
          simp only [Builtin.firstCells, hk]
          exact run_loadCells_ev P (by rw [hw1]; exact q1) (k + 1) vs q3 q4
    · -- unknown capacity
      obtain ⟨hend, hlc⟩ := hopn rfl
      split at h
      · simp only [Option.some.injEq, Prod.mk.injEq] at h
        obtain ⟨rfl, rfl⟩ := h
        have : vn = [] := by cases vn with | nil => rfl | cons => simp at hvl
        subst this
        exact ⟨_, μ, w, append_room (w' := w) h0 h1 hu hxt hi hl hlc hvn rfl, .slc b off len _ _ _ p hp hcap hopn, Stp.refl hR⟩
      · rename_i k
        split at h <;> try (cases h; done)
        rename_i nb cb frz eb hb
        split at h <;> try (cases h; done)
        rename_i old g5 g6 hold
        replace g5 := ble g5
        replace g6 := natEq_iff g6
        subst g6
        simp only [Option.some.injEq, Prod.mk.injEq] at h
        obtain ⟨rfl, rfl⟩ := h
        obtain ⟨p', hp', cs, fr, q1, q2, q3, q4, q5, q6, q7⟩ := hR.blk b _ hb
        rw [hp] at hp'; cases hp'
        have hread : readB H b off (len * i.size) = some old := by simp [readB, hb, hold]
        obtain ⟨vs, cs', e', fr', r1, r2, r3, r4, r5⟩ := readB_sound hR hp hread
        rw [q1] at r1; cases r1
        have e2 := hmul len (k + 1)
        replace hvl : vn.length = (k + 1) * i.size := hvl
        replace hnl : new.length = (k + 1) * i.size := hnl
        have hlen2 : (old ++ new).length = (len + (k + 1)) * i.size := by simp [r2, hnl]; omega
        by_cases hroom : len + (k + 1) <= c
        · -- it lies where it lay
          have e3 : (len + (k + 1)) * i.size <= c * i.size := Nat.mul_le_mul_right _ hroom
          obtain ⟨w', cs2, s1, s2, s3, s4, s5, s6, s7, s8, s9⟩ := run_storeCells_ev P p.blk (p.off + (off + len * i.size)) eb fr vn 0 cs w q1 (by omega) (allOne_spec hone hvr) (by rw [q2]; exact q7 g5)
          have hμ : μ H.next = none := hR.fresh _ (Nat.le_refl _)
          refine ⟨_, _, w', append_room (w' := w') h0 h1 hu hxt hi hl hroom hvn (by simp only [add_pl]; exact s1), ?_,
            stp_move hR hb rfl rfl hp (q := ⟨p.blk, p.off + off, p.fin⟩) rfl s5 s6 ?_ s7 s8 s9⟩
          · have hpp := VR.slc (μ := fun x => if x = H.next then some (⟨p.blk, p.off + off, p.fin⟩ : Pl) else μ x) H.next 0 (len + (k + 1)) i.size none c ⟨p.blk, p.off + off, p.fin⟩ (by simp) (by simp) (fun _ => ⟨by simp; omega, hroom⟩)
            simpa using hpp
          · refine ⟨cs2, fr, s2, by rw [s3, q2], by simp; omega, by simp, fun j y hy => ?_, by simp, fun _ => q7 g5⟩
            rw [ofL_get] at hy
            have hj : j < (len + (k + 1)) * i.size := by rw [<- hlen2]; exact (List.getElem?_eq_some_iff.1 hy).1
            refine ⟨hj, ?_⟩
            obtain ⟨v, hv1, hv2⟩ := (r5.append hvr).get hy
            refine ⟨v, ?_, hv2.mono (Mp.set_le hμ)⟩
            simp only
            rw [s4]
            by_cases hjl : j < len * i.size
            · rw [if_neg (by omega), r4 j hjl]
              rw [List.getElem?_append_left (by omega)] at hv1; exact hv1
            · rw [if_pos (by omega)]
              rw [List.getElem?_append_right (by omega)] at hv1
              rw [<- hv1]; congr 1; omega
        · -- it lies anew
          have hfo : ∀ w1 : World, w1.heap = w.heap -> (Builtin.firstCells i.size len (.slice (some ⟨p.blk, p.off + off, none⟩) len c)).run P w1 = .ok ⟨vs⟩ w1 := fun w1 hw1 => by
            simp only [Builtin.firstCells]
            exact run_loadCells_ev P (by rw [hw1]; exact q1) _ vs r3 r4
          obtain ⟨newCap, hc, hrun⟩ := append_grow (ty := ty) h0 h1 hu hxt hi hzv hl (by omega) (by omega) g2 hfo hvn
          have hd := stp_del hR b
          have hdd := stp_drew hd.rel (w.drawn + 1)
          have hμ : μ H.next = none := hR.fresh _ (Nat.le_refl _)
          refine ⟨_, _, _, hrun, ?_, (hd.trans hdd).trans (stp_new (w := { w with drawn := w.drawn + 1 }) hdd.rel _ (.cells (⟨vs⟩ ++ (⟨vn⟩ ++ Builtin.zeroCells zv.cells (newCap - (len + (k + 1))))) eb) (vs.length + vn.length + (Builtin.zeroCells zv.cells (newCap - (len + (k + 1)))).size) ?_ rfl)⟩
          · refine slc_new ?_ (by omega)
            show newCap * i.size = vs.length + vn.length + (Builtin.zeroCells zv.cells (newCap - (len + (k + 1)))).size
            rw [zeroCells_size, hzs, hvl, r3]
            have e1 := hmul (newCap - (len + (k + 1))) (len + (k + 1))
            rw [show newCap - (len + (k + 1)) + (len + (k + 1)) = newCap by omega] at e1
            omega
          · rw [<- hlen2]
            have := BR_open (n := w.heap.size) (fin := vs.length + vn.length + (Builtin.zeroCells zv.cells (newCap - (len + (k + 1)))).size) (elem := eb) (rest := Builtin.zeroCells zv.cells (newCap - (len + (k + 1))))
              (heap := w.heap.push (.cells (⟨vs⟩ ++ (⟨vn⟩ ++ Builtin.zeroCells zv.cells (newCap - (len + (k + 1))))) eb)) ((r5.append hvr).mono (Mp.set_le (p := (⟨w.heap.size, 0, vs.length + vn.length + (Builtin.zeroCells zv.cells (newCap - (len + (k + 1)))).size⟩ : Pl)) hμ)) (by rw [arr3]; simp) (by simp)
            obtain ⟨cs3, fr3, t1, t2, t3, t4, t5, t6, t7⟩ := this
            exact ⟨cs3, fr3, t1, t2, t3, t4, t5, by simp, fun _ => t7 (by omega)⟩
  · cases h
theorem zeroCells_list {zv : Value} {zl : List AV} {i n : Nat} (hz : VRs μ zl zv.cells.toList) (hl : zl.length = i) : ∃ l : List Value, Builtin.zeroCells zv.cells n = ⟨l⟩ /\ VRs μ (repL zl n) l /\ l.length = n * i := by
  have h := rep_VRs hz n
  refine ⟨_, ?_, h, by simp [hl]⟩
  unfold Builtin.zeroCells
  have hsz : zv.cells.size = zl.length := by have := hz.length; simpa using this
  rw [amap, hsz]
  congr 1
  simp only [Array.toList_range]
  apply List.map_congr_left
  intro j _
  simp only [Array.length_toList, hsz, Array.getElem!_eq_getD, Array.getD_eq_getD_getElem?]
  congr 1
  simp
theorem evAppendZ_sound (hR : Rel μ H w) {ts : Array TypeId} {ty : TypeId} {s x z : AV} {sv xv : Value} {H' : AH} (hs : VR μ s sv) (hx : VR μ x xv) (h : evAppendZ P H ts.toList s x = some (z, H')) :
    ∃ v μ' w', (Builtin.append_ ts ty #[sv, xv]).run P w = .ok v w' /\ VR μ' z v /\ Stp μ H w μ' H' w' := by
  unfold evAppendZ at h
  split at h <;> try (cases h; done)
  rename_i st xt rest0 k hts
  have h0 : ts[0]? = some st := by rw [<- Array.getElem?_toList, hts]; rfl
  have h1 : ts[1]? = some xt := by rw [<- Array.getElem?_toList, hts]; rfl
  split at h <;> try (cases h; done)
  rename_i elem kd hu hxt
  split at h <;> try (cases h; done)
  rename_i i zl hi hz
  split at h <;> try (cases h; done)
  rename_i g1 g2 g3 hzl
  replace g1 := ble g1
  replace g2 := ble g2
  replace g3 := ble g3
  replace hzl := natEq_iff hzl
  simp only [Option.some.injEq, Prod.mk.injEq] at h
  obtain ⟨rfl, rfl⟩ := h
  cases nils_inv hs
  cases int_inv hx
  obtain ⟨zv, hzr, hzv⟩ := run_zero_all hz μ
  obtain ⟨vn, hvn, hvr, hvl⟩ := zeroCells_list (n := Nat.succ k) hzv hzl
  have hw : IntKind.i64.wrap (Int.ofNat (Nat.succ k)) = Int.ofNat (Nat.succ k) := wrap_small ⟨by show (0:Int) <= ((Nat.succ k : Nat) : Int); omega, by show ((Nat.succ k : Nat) : Int) <= 1000000; omega⟩
  have hf : Builtin.nextslicecap (0 + Nat.succ k) 0 * i.bytes <= 281474976710656 := growslice_fits (by omega) (by
    have : (0 + Nat.succ k) * i.bytes <= 1000000 * 1000000 := Nat.mul_le_mul (by omega) g2
    omega)
  have d1 : ¬ (Int.ofNat (Nat.succ k) < 0) := by
    show ¬ (((Nat.succ k : Nat) : Int) < 0)
    omega
  have d3 : ¬ (Int.ofNat (Nat.succ k) * (i.bytes : Int) > 2 ^ 48) := by
    have hm : Nat.succ k * i.bytes <= 1000000 * 1000000 := Nat.mul_le_mul g3 g2
    have : Int.ofNat (Nat.succ k) * (i.bytes : Int) = ((Nat.succ k * i.bytes : Nat) : Int) := by simp
    rw [this]; omega
  have hn' : ¬ (0 + Nat.succ k <= 0) := by omega
  have h48 : ¬ (Builtin.nextslicecap (0 + Nat.succ k) 0 * i.bytes > 2 ^ 48) := by omega
  have h63 : ¬ (((0 + Nat.succ k : Nat) : Int) > IntKind.i64.max) := by
    have : IntKind.i64.max = 9223372036854775807 := by decide
    rw [this]; omega
  have hne : ¬ (Nat.succ k * i.size = 0) := by
    intro e
    rcases Nat.mul_eq_zero.1 e with e | e <;> omega
  refine ⟨.slice (some ⟨w.heap.size, 0, none⟩) (0 + Nat.succ k) (grownCap w (0 + Nat.succ k) 0 elem), _, _, ?_, ?_, stp_grow hR (vo := []) (vn := vn) (rest := Builtin.zeroCells zv.cells (grownCap w (0 + Nat.succ k) 0 elem - (0 + Nat.succ k))) (by simpa using hvr)⟩
  · have hz0 : (Builtin.firstCells i.size 0 (.slice none 0 0)).run P w.drew = .ok #[] w.drew := rfl
    have hasi : (asInt (.int .i64 (Int.ofNat (Nat.succ k)))).run P w = .ok (Int.ofNat (Nat.succ k)) w := rfl
    have hasi' : (asInt (.int .i64 ((k : Int) + 1))).run P w = .ok ((k : Int) + 1) w := rfl
    have d1' : ¬ ((k : Int) + 1 < 0) := by omega
    have d1'' : ¬ ((k : Int) + 1 <= 0) := by omega
    have d3' : ¬ (281474976710656 < ((k : Int) + 1) * (i.bytes : Int)) := by simpa using d3
    have e2 : ((k : Int) + 1).toNat = k + 1 := by omega
    have h48' : ¬ (281474976710656 < Builtin.nextslicecap (k + 1) 0 * i.bytes) := by simpa using h48
    have h63' : ¬ (9223372036854775807 < max ((k : Int) + 1) 0) := by omega
    have hne' : ¬ ((k + 1) * i.size = 0) := hne
    have hvn' : Builtin.zeroCells zv.cells (k + 1) = ⟨vn⟩ := hvn
    have e1 : (IntKind.i64.wrap ((k : Int) + 1)) = (k : Int) + 1 := hw
    simp [Builtin.append_, h0, h1, run_underlying_ev hu, run_underlying_ev hxt, sizeOf, run_typeInfo_ev hi, hasi, hasi', hw, e1, e2, d1, d1', d1'', d3, d3', hne, hne', h48', h63', hvn', h48, h63, Question.forced, Builtin.firstCells, newRow, grownCap, hzr, hvn]
  · simp only [Nat.zero_add]
    refine slc_new ?_ ?_
    · rw [List.length_nil, zeroCells_size, hvl]
      have hs : zv.cells.size = i.size := by have := hzv.length; simp at this; omega
      rw [hs]
      have hg : Nat.succ k <= grownCap w (0 + Nat.succ k) 0 elem := by simp only [grownCap, Question.cut]; omega
      have h3 := Nat.add_mul (grownCap w (0 + Nat.succ k) 0 elem - Nat.succ k) (Nat.succ k) i.size
      rw [Nat.sub_add_cancel hg] at h3
      rw [Nat.zero_add] at h3 ⊢
      omega
    · simp only [grownCap, Question.cut]; omega
end
end Go.Ev
/- Ranges over maps with at most one entry left at a time; type assertions. -/
set_option linter.unusedSimpArgs false
set_option linter.unusedVariables false
namespace Go.Ev
open Go
section
variable {P : Program} {μ : Mp} {H : AH} {w : World}
theorem evRange_sound (hR : Rel μ H w) {t : TypeId} {x : AV} {a : Value} {B : AB} (hx : VR μ x a) (h : evRange P H t x = some B) :
    ∃ v μ' w', (Instr.range t a).run P w = .ok v w' /\ VR μ' (.ptr H.next 0) v /\ Stp μ H w μ' (newBlk H B) w' := by
  have hn : μ H.next = none := hR.fresh _ (Nat.le_refl _)
  have hle := Mp.set_le (p := (⟨w.heap.size, 0, 0⟩ : Pl)) hn
  have hv : VR (fun x => if x = H.next then some (⟨w.heap.size, 0, 0⟩ : Pl) else μ x) (.ptr H.next 0) (.pointer (some ⟨w.heap.size, 0, none⟩)) := .ptr H.next 0 ⟨w.heap.size, 0, 0⟩ (by simp)
  unfold evRange at h
  split at h <;> try (cases h; done)
  rename_i key elem hu
  split at h
  · simp only [Option.some.injEq] at h; subst h
    cases hx
    refine ⟨_, _, _, ?_, hv, stp_new hR _ (.mapIter none 0 #[] 0) 0 ?_ rfl⟩
    · simp [Instr.range, run_underlying_ev hu, newObj, Sem.run]
    · exact ⟨rfl, by simp⟩
  · rename_i b
    obtain ⟨p, hp, rfl⟩ := map_inv hx
    split at h <;> try (cases h; done)
    rename_i es clock hb
    simp only [Option.some.injEq] at h; subst h
    obtain ⟨p', hp', l, h1, h2⟩ := hR.blk b _ hb
    rw [hp] at hp'; cases hp'
    refine ⟨_, _, _, ?_, hv, stp_new hR _ (.mapIter (some p.blk) clock #[] clock) 0 ?_ rfl⟩
    · simp [Instr.range, run_underlying_ev hu, run_getObj_map h1, newObj, Sem.run]
    · exact ⟨rfl, p, hle _ _ hp, by simp⟩
  · cases h
theorem memN_spec {n : Nat} : ∀ {l : List Nat}, memN n l = l.contains n
  | [] => rfl
  | x :: l => by
    simp only [memN, List.contains_cons]
    have : (n == x) = Nat.beq x n := by
      rw [Bool.eq_iff_iff]; simp [Nat.beq_eq]; exact ⟨fun h => h.symm, fun h => h.symm⟩
    rw [this]
    cases Nat.beq x n
    · simp [memN_spec]
    · simp
theorem oldB_spec {since : Nat} : ∀ {es : List (AV × AV × Nat)} {l : List MapEntry}, ERs μ es l -> oldB since es = true -> ∀ x ∈ l, x.born < since
  | _, _, .nil, _, x, hx => by cases hx
  | _, _, .cons k v born es k' v' l hk hv ht, h, x, hx => by
    simp only [oldB] at h
    split at h
    · rename_i hlt
      rcases List.mem_cons.1 hx with rfl | hx
      · simpa [Nat.blt_eq] using hlt
      · exact oldB_spec ht h x hx
    · cases h
theorem leftA_spec {seen : List Nat} : ∀ {es : List (AV × AV × Nat)} {l : List MapEntry}, ERs μ es l -> ERs μ (leftA seen es) (l.filter fun e => !seen.contains e.born)
  | _, _, .nil => .nil
  | _, _, .cons k v born es k' v' l hk hv ht => by
    have ih := leftA_spec (seen := seen) ht
    simp only [leftA, memN_spec, List.filter_cons]
    cases hc : seen.contains born with
    | true => simpa using ih
    | false => simpa using ERs.cons _ _ _ _ _ _ _ hk hv ih
theorem leftOf_list (l : List MapEntry) (seen : List Nat) : (leftOf ⟨l⟩ ⟨seen⟩).toList = l.filter fun e => !seen.contains e.born := by
  unfold leftOf
  rw [Array.toList_filter]
  congr 1
  funext e
  simp
theorem evNext_sound (hR : Rel μ H w) {x z : AV} {a : Value} {H' : AH} {isS : Bool} {ty : TypeId} (hx : VR μ x a) (h : evNext H x isS = some (z, H')) :
    ∃ v w', (Instr.next a isS ty).run P w = .ok v w' /\ VR μ z v /\ Stp μ H w μ H' w' := by
  unfold evNext at h
  split at h
  · rename_i r
    obtain ⟨p, hp, rfl⟩ := ptr_inv hx
    split at h
    · rename_i since seen last hr
      simp only [Option.some.injEq, Prod.mk.injEq] at h
      obtain ⟨rfl, rfl⟩ := h
      obtain ⟨p', hp', h0, h1⟩ := hR.blk r _ hr
      rw [hp] at hp'; cases hp'
      refine ⟨.tuple #[.bool false], w, ?_, .tup _ _ (.cons _ _ _ _ (.bool _) .nil), Stp.refl hR⟩
      simp [Instr.next, h0, getObj, Sem.run, h1]
    · rename_i b since seen last hr
      split at h <;> try (cases h; done)
      rename_i es clock hb
      split at h <;> try (cases h; done)
      rename_i hold hsl
      obtain ⟨p', hp', h0, q, hq, h1⟩ := hR.blk r _ hr
      rw [hp] at hp'; cases hp'
      obtain ⟨q', hq', l, h2, h3⟩ := hR.blk b _ hb
      rw [hq] at hq'; cases hq'
      have hl := leftA_spec (seen := seen) h3
      have hll := leftOf_list l seen
      have e0 : (⟨p.blk, p.off + 0, none⟩ : Addr) = ⟨p.blk, 0, none⟩ := by rw [h0]
      rw [e0]
      have law := run_next_at (P := P) w ty p.blk q.blk since last ⟨seen⟩ ⟨l⟩ clock h1 h2 (oldB_spec h3 hold) (ble hsl)
      split at h
      · rename_i hla
        rw [hla] at hl
        simp only [Option.some.injEq, Prod.mk.injEq] at h
        obtain ⟨rfl, rfl⟩ := h
        have hnil : (leftOf ⟨l⟩ ⟨seen⟩).toList = [] := by
          rw [hll]
          generalize (l.filter fun e => !seen.contains e.born) = L at hl
          cases hl; rfl
        rcases law with ⟨_, hrun⟩ | ⟨e, he, _⟩
        · exact ⟨_, w, hrun, .tup _ _ (.cons _ _ _ _ (.bool _) .nil), Stp.refl hR⟩
        · rw [hnil] at he; cases he
      · rename_i k v n hla
        rw [hla] at hl
        simp only [Option.some.injEq, Prod.mk.injEq] at h
        obtain ⟨rfl, rfl⟩ := h
        have hone : ∃ e : MapEntry, (leftOf ⟨l⟩ ⟨seen⟩).toList = [e] /\ VR μ k e.key /\ VR μ v e.val /\ e.born = n := by
          rw [hll]
          generalize (l.filter fun e => !seen.contains e.born) = L at hl
          cases hl with
          | cons _ _ _ _ k' v' a hk hv ht => cases ht; exact ⟨_, rfl, hk, hv, rfl⟩
        obtain ⟨e, he1, hk, hv, hbn⟩ := hone
        rcases law with ⟨hz, _⟩ | ⟨e', he', w1, hw1, hrun⟩
        · have : (leftOf ⟨l⟩ ⟨seen⟩).toList.length = 0 := by simpa using hz
          rw [he1] at this; cases this
        · rw [he1] at he'
          have he' : e' = e := by simpa using he'
          subst he'
          have hlt : p.blk < w.heap.size := (Array.getElem?_eq_some_iff.1 h1).1
          have hw : w1.heap = w.heap /\ w1.tape = w.tape /\ w1.os = w.os /\ w1.output = w.output := by rcases hw1 with rfl | rfl <;> exact ⟨rfl, rfl, rfl, rfl⟩
          refine ⟨_, _, hrun, .tup _ _ (.cons _ _ _ _ (.bool _) (.cons _ _ _ _ hk (.cons _ _ _ _ hv .nil))), ?_⟩
          refine stp_set hR hr rfl rfl hp (by simp [ChangeMaps.setBlock, hw.1]) (fun k hk => by simp [ChangeMaps.setBlock, hw.1, Array.getElem?_setIfInBounds, Ne.symm hk]) ?_ hw.2.1 hw.2.2.1 hw.2.2.2
          refine ⟨h0, q, hq, ?_⟩
          simp [ChangeMaps.setBlock, hw.1, hlt, hbn]
      · cases h
    · cases h
  · cases h
theorem lastN_spec : ∀ {l : List Nat} {n : Nat}, lastN l = some n -> l.getLast? = some n
  | [], _, h => by cases h
  | [_], _, h => by simpa [lastN] using h
  | _ :: y :: l, n, h => by
    have := lastN_spec (l := y :: l) h
    simpa [List.getLast?_cons_cons] using this
theorem findN_spec {n : Nat} {k v : AV} : ∀ {es : List (AV × AV × Nat)} {l : List MapEntry}, ERs μ es l -> findN n es = some (k, v) -> ∃ e, l.find? (fun e => e.born == n) = some e /\ VR μ k e.key /\ VR μ v e.val
  | _, _, .nil, h => by cases h
  | _, _, .cons k1 v1 born es k' v' l hk hv ht, h => by
    simp only [findN] at h
    split at h
    · rename_i hb
      have hb := Nat.eq_of_beq_eq_true hb
      simp only [Option.some.injEq, Prod.mk.injEq] at h
      obtain ⟨rfl, rfl⟩ := h
      exact ⟨⟨k', v', born⟩, by simp [List.find?_cons, hb], hk, hv⟩
    · rename_i hb
      have hb' : (born == n) = false := by
        rw [beq_eq_false_iff_ne]; intro e; subst e; simp at hb
      obtain ⟨e, h1, h2⟩ := findN_spec ht h
      exact ⟨e, by simp [List.find?_cons, hb', h1], h2⟩
theorem evEntry_sound (hR : Rel μ H w) {x z : AV} {a : Value} (hx : VR μ x a) (h : evEntry H x = some z) : ∃ v, (Instr.entry a).run P w = .ok v w /\ VR μ z v := by
  unfold evEntry at h
  split at h <;> try (cases h; done)
  rename_i r
  obtain ⟨p, hp, rfl⟩ := ptr_inv hx
  split at h <;> try (cases h; done)
  rename_i b since seen last hr
  split at h <;> try (cases h; done)
  rename_i n es clock hln hb
  split at h <;> try (cases h; done)
  rename_i hcl
  have hcl := natEq_iff hcl
  subst hcl
  split at h <;> try (cases h; done)
  rename_i k v hf
  simp only [Option.some.injEq] at h; subst h
  obtain ⟨p', hp', h0, q, hq, h1⟩ := hR.blk r _ hr
  rw [hp] at hp'; cases hp'
  obtain ⟨q', hq', l, h2, h3⟩ := hR.blk b _ hb
  rw [hq] at hq'; cases hq'
  obtain ⟨e, he, hk, hv⟩ := findN_spec h3 hf
  refine ⟨.tuple #[e.key, e.val], ?_, .tup _ _ (.cons _ _ _ _ hk (.cons _ _ _ _ hv .nil))⟩
  have hbk : (⟨seen⟩ : Array Nat).back? = some n := by
    have := lastN_spec hln
    simpa [Array.back?_eq_getElem?, List.getLast?_eq_getElem?] using this
  have hfd : (⟨l⟩ : Array MapEntry).find? (fun e => e.born == n) = some e := by rw [<- Array.find?_toList]; exact he
  simp [Instr.entry, h0, getObj, Sem.run, h1, h2, hbk, hfd]
theorem missing_nil {want : Array (String × TypeId)} (h : want.toList = []) (got : Array Method) : Instr.missingMethod want got = none := by
  simp [Instr.missingMethod, h, Instr.least]
theorem zeroOf_sound {t : TypeId} {z : AV} (h : zeroOf P t = some z) : ∃ v, (∀ w1, (zeroValue t).run P w1 = .ok v w1) /\ ∀ μ, VR μ z v := by
  unfold zeroOf at h
  split at h <;> try (cases h; done)
  rename_i i hi
  split at h <;> try (cases h; done)
  rename_i zv hz
  exact ⟨zv, fun w1 => by simp [zeroValue, run_typeInfo_ev hi, hz], fun μ => ofV_sound h μ⟩
theorem evAssert_sound {t xt : TypeId} {ok : Bool} {x z : AV} {a : Value} (hx : VR μ x a) (h : evAssert P x t ok = some z) : ∃ v, (Instr.typeAssert a xt t ok).run P w = .ok v w /\ VR μ z v := by
  unfold evAssert at h
  split at h
  · cases h
  · rename_i ms hu
    split at h <;> try (cases h; done)
    rename_i d y
    split at h <;> try (cases h; done)
    rename_i i hms hi
    simp only [Option.some.injEq] at h; subst h
    obtain ⟨u, rfl, hu'⟩ := ifc_inv hx
    cases ok
    · exact ⟨.iface d u, by simp [Instr.typeAssert, run_underlying_ev hu, run_typeInfo_ev hi, missing_nil hms], .ifc _ _ _ hu'⟩
    · exact ⟨.tuple #[.iface d u, .bool true], by simp [Instr.typeAssert, run_underlying_ev hu, run_typeInfo_ev hi, missing_nil hms], .tup _ _ (.cons _ _ _ _ (.ifc _ _ _ hu') (.cons _ _ _ _ (.bool _) .nil))⟩
  · rename_i dsc hni hu
    split at h
    · rename_i d y
      obtain ⟨u, rfl, hu'⟩ := ifc_inv hx
      split at h
      · rename_i hd
        have hd := Nat.eq_of_beq_eq_true hd
        subst hd
        simp only [Option.some.injEq] at h; subst h
        cases ok
        · refine ⟨u, ?_, hu'⟩
          cases dsc <;> first | exact absurd rfl (hni _) | simp [Instr.typeAssert, run_underlying_ev hu]
        · refine ⟨.tuple #[u, .bool true], ?_, .tup _ _ (.cons _ _ _ _ hu' (.cons _ _ _ _ (.bool _) .nil))⟩
          cases dsc <;> first | exact absurd rfl (hni _) | simp [Instr.typeAssert, run_underlying_ev hu]
      · rename_i hd
        have hd : ¬ d = t := by intro e; subst e; simp at hd
        split at h
        · split at h <;> try (cases h; done)
          rename_i zz hz
          simp only [Option.some.injEq] at h; subst h
          obtain ⟨zv, h1, h2⟩ := zeroOf_sound hz
          refine ⟨.tuple #[zv, .bool false], ?_, .tup _ _ (.cons _ _ _ _ (h2 _) (.cons _ _ _ _ (.bool _) .nil))⟩
          cases dsc <;> first | exact absurd rfl (hni _) | simp [Instr.typeAssert, run_underlying_ev hu, hd, h1]
        · cases h
    · cases nili_inv hx
      split at h
      · split at h <;> try (cases h; done)
        rename_i zz hz
        simp only [Option.some.injEq] at h; subst h
        obtain ⟨zv, h1, h2⟩ := zeroOf_sound hz
        refine ⟨.tuple #[zv, .bool false], ?_, .tup _ _ (.cons _ _ _ _ (h2 _) (.cons _ _ _ _ (.bool _) .nil))⟩
        cases dsc <;> first | exact absurd rfl (hni _) | simp [Instr.typeAssert, run_underlying_ev hu, h1]
      · cases h
    · cases h
end
end Go.Ev
/- What writes, all together. -/
set_option linter.unusedSimpArgs false
set_option linter.unusedVariables false
namespace Go.Ev
open Go
section
variable {P : Program} {μ : Mp} {H : AH} {w : World} {T : Tr AV} {a : Act}
theorem evCopy_sound (hR : Rel μ H w) {ts : Array TypeId} {ty : TypeId} {d s z : AV} {dv sv : Value} {H' : AH} (hd : VR μ d dv) (hs : VR μ s sv) (h : evCopy P H ts.toList d s = some (z, H')) :
    ∃ v w', (Builtin.copy_ ts ty #[dv, sv]).run P w = .ok v w' /\ VR μ z v /\ Stp μ H w μ H' w' := by
  unfold evCopy at h
  split at h <;> try (cases h; done)
  rename_i dt rest0 hts
  have h0 : ts[0]? = some dt := by rw [<- Array.getElem?_toList, hts]; rfl
  split at h <;> try (cases h; done)
  rename_i elem hu
  split at h <;> try (cases h; done)
  rename_i es dl sl hes hdl hsl
  split at h <;> try (cases h; done)
  rename_i cells hcells
  have hl := lenA_sound (P := P) hs hsl
  obtain ⟨vs, hvs, hvr⟩ := srcCells_sound (P := P) hR hs hcells
  have hv := hvs w rfl
  have fin : ∀ (base : Option Addr) (c : Nat) (w' : World), dv = .slice base dl c -> (match base with | some a => (storeCells a vs).run P w | none => .ok () w) = .ok () w' ->
      (Builtin.copy_ ts ty #[dv, sv]).run P w = .ok (goInt (Nat.min sl dl)) w' := by
    intro base c w' hdv hst
    subst hdv
    cases base with
    | none => simp only [Result.ok.injEq, true_and] at hst; subst hst; simp [Builtin.copy_, h0, run_underlying_ev hu, hl, run_sizeOf_ev hes, hv]
    | some b => simp only at hst; simp [Builtin.copy_, h0, run_underlying_ev hu, hl, run_sizeOf_ev hes, hv, hst]
  split at h
  · cases nils_inv hd
    simp only [lenA, Option.some.injEq] at hdl; subst hdl
    simp only [Option.some.injEq, Prod.mk.injEq] at h
    obtain ⟨rfl, rfl⟩ := h
    exact ⟨_, w, fin none 0 w rfl rfl, .int _ _, Stp.refl hR⟩
  · obtain ⟨a', c, rfl⟩ := slcE_inv hd
    simp only [lenA, Option.some.injEq] at hdl; subst hdl
    simp only [Option.some.injEq, Prod.mk.injEq] at h
    obtain ⟨rfl, rfl⟩ := h
    have hv0 : vs = [] := by
      have h1 : cells = [] \/ True := .inr trivial
      have := hvr.length
      have hc0 : cells.length = 0 := by
        have hm : Nat.min sl 0 = 0 := by simp
        rw [hm] at hcells
        unfold srcCells at hcells
        split at hcells
        · simp at hcells; subst hcells; rfl
        · simp at hcells; subst hcells; rfl
        · simp at hcells; subst hcells; rfl
        · split at hcells
          · simp at hcells; subst hcells; rfl
          · cases hcells
        · cases hcells
      cases vs with
      | nil => rfl
      | cons => simp at this; omega
    subst hv0
    exact ⟨_, w, fin (some a') c w rfl rfl, .int _ _, Stp.refl hR⟩
  · rename_i b off len es' cap
    obtain ⟨p, c, hp, rfl, hcap, hopn⟩ := slc_inv hd
    simp only [lenA, Option.some.injEq] at hdl; subst hdl
    split at h
    · simp only [Option.some.injEq, Prod.mk.injEq] at h
      obtain ⟨rfl, rfl⟩ := h
      cases hvr
      exact ⟨_, w, fin (some _) c w rfl rfl, .int _ _, Stp.refl hR⟩
    · split at h <;> try (cases h; done)
      rename_i H2 hw
      simp only [Option.some.injEq, Prod.mk.injEq] at h
      obtain ⟨rfl, rfl⟩ := h
      obtain ⟨w', hr, hst⟩ := writeB_sound (P := P) hR hp hvr hw
      exact ⟨_, w', fin (some _) c w' rfl hr, .int _ _, hst⟩
  · cases h
theorem evBytesOf_sound (hR : Rel μ H w) {src d : TypeId} {x z : AV} {v : Value} {H' : AH} (hsrc : ∃ sd, P.underlying src = some sd) (hx : VR μ x v) (h : evBytesOf P H d x = some (z, H')) :
    ∃ r μ' w', (Go.convert src d v).run P w = .ok r w' /\ VR μ' z r /\ Stp μ H w μ' H' w' := by
  unfold evBytesOf at h
  split at h <;> try (cases h; done)
  rename_i e l hd
  obtain ⟨s, rfl, hs⟩ := str_inv hx
  split at h <;> try (cases h; done)
  rename_i he
  split at h <;> try (cases h; done)
  rename_i hsz
  simp only [Option.some.injEq, Prod.mk.injEq] at h
  obtain ⟨rfl, rfl⟩ := h
  obtain ⟨sd, hsd⟩ := hsrc
  obtain ⟨cap, hcap⟩ : ∃ cap, cap = (Question.appendCap s.size 0 e).cut (w.tape w.drawn (.appendCap s.size 0 e)) := ⟨_, rfl⟩
  have hle : s.size <= cap := by rw [hcap]; simp only [Question.cut]; omega
  let cs : Array Value := s.data.map (fun b => Value.int .u8 b.toNat) ++ Array.replicate (cap - s.size) (.int .u8 0)
  have hcs : cs.size = cap := by simp [cs]; omega
  have hlen : l.length = s.size := by rw [<- hs]; simp
  refine ⟨.slice (some ⟨w.heap.size, 0, none⟩) s.size cap, _, { w with drawn := w.drawn + 1, heap := (w.heap.push (.cells cs e (cap, cap + 1))) }, ?_, ?_,
    (stp_drew hR (w.drawn + 1)).trans (stp_new (w := { w with drawn := w.drawn + 1 }) (hR.drew _) _ (.cells cs e (cap, cap + 1)) cap ?_ rfl)⟩
  · have hfrz : ({ w with drawn := w.drawn + 1, heap := w.heap.push (.cells cs e) } : World).freeze { block := w.heap.size, off := cap } 1 =
        { w with drawn := w.drawn + 1, heap := w.heap.push (.cells cs e (cap, cap + 1)) } := by
      simp only [World.freeze]
      rw [if_neg (by omega)]
      congr 1
      apply Array.ext_getElem?
      intro k
      rw [Array.getElem?_modify]
      by_cases hk : w.heap.size = k
      · subst hk; simp
      · rw [if_neg hk]
        simp only [Array.getElem?_push]
        rw [if_neg (by omega), if_neg (by omega)]
    have hconv : (Conv.stringToBytes e s).run P w = .ok (.slice (some ⟨w.heap.size, 0, none⟩) s.size cap) { w with drawn := w.drawn + 1, heap := w.heap.push (.cells cs e (cap, cap + 1)) } := by
      rw [<- hfrz]
      have hcs' : (cs.size : Nat) = cap := hcs
      simp only [Conv.stringToBytes, Sem.run_bind, run_choose, Question.forced, Result.andThen_ok, newRow, run_newObj, Sem.run_pure, markStringish, run_shape, Bool.false_eq_true, if_false]
      rw [<- hcap]
      have hsh : World.shape? { heap := w.heap.push (Obj.cells (Array.map (fun b => Value.int IntKind.u8 ↑b.toNat) s.data ++ Array.replicate (cap - s.size) (Value.int IntKind.u8 0)) e), tape := w.tape, drawn := w.drawn + 1, os := w.os, output := w.output } w.heap.size = some (e, cap) := by
        simp only [World.shape?, Array.getElem?_push_size]
        rw [show (Array.map (fun b => Value.int IntKind.u8 ↑b.toNat) s.data ++ Array.replicate (cap - s.size) (Value.int IntKind.u8 0)).size = cap from hcs]
      rw [hsh]
      rfl
    simp [Go.convert, run_underlying_ev hsd, run_underlying_ev hd, run_underlying_ev he, hconv]
  · have := slc_new (μ := μ) (id := H.next) (len := s.size) (es := 1) (c := cap) (n := w.heap.size) (fin := cap) (by omega) hle
    rw [hlen]; exact this
  · refine ⟨cs, (cap, cap + 1), by simp, hcs, by simp; omega, by simp, fun i y hy => ?_, by simp, fun _ j hj => by have hj' : j < cap := hj; show ¬ (cap <= j /\ j < cap + 1); omega⟩
    rw [ofL_get] at hy
    rw [<- hs] at hy ⊢
    obtain ⟨v, hv1, hv2⟩ := (u8L_VRs (μ := fun x => if x = H.next then some ⟨w.heap.size, 0, cap⟩ else μ x) s.data.toList).get hy
    have hi : i < s.data.toList.length := by have := (List.getElem?_eq_some_iff.1 hv1).1; simpa using this
    refine ⟨by simpa using hi, v, ?_, hv2⟩
    simp only [Nat.zero_add, cs]
    rw [Array.getElem?_append_left (by simpa using hi)]
    simpa using hv1
theorem u8ofNat {l : List Nat} (h : ∀ n ∈ l, n < 256) : (l.map UInt8.ofNat).map UInt8.toNat = l := by
  rw [List.map_map]
  conv => rhs; rw [<- List.map_id l]
  apply List.map_congr_left
  intro n hn
  simp [UInt8.toNat_ofNat, Nat.mod_eq_of_lt (h n hn)]
theorem unsafeString_def (ts : Array TypeId) (ty : TypeId) (q : Option Addr) (nv : Value) : ∃ s1 s2 s3 s4 s5 : String, Builtin.unsafeString_ ts ty #[.pointer q, nv] = (do
    let n <- asInt nv
    let some pt := ts[0]? | stuck s1
    if n < 0 then runtimePanic (.error s2)
    if n > IntKind.i64.max then unsupported (.unsafePointer s3)
    match q with
    | none =>
      if n = 0 then pure (.string .empty)
      else runtimePanic (.error s4)
    | some a =>
      if n = 0 then pure (.string .empty)
      else if <- variablesAt a (<- elemOf pt) n.toNat then do
        let s <- loadBytes a .empty n.toNat
        freeze a n.toNat
        pure (.string s)
      else unsupported (.unsafePointer s5)) := ⟨_, _, _, _, _, rfl⟩
theorem liesAt_off {e : TypeId} (hc : P.cellsOf e = 1) (count off n : Nat) (hn : off + n <= count) : liesAt P P.depth e count off e n = true := by
  have hd : P.depth = (2 * (P.types.size + Made.depth) + 1) + 1 := rfl
  rw [hd]
  simp only [liesAt, Bool.or_eq_true]
  left
  rw [hd]
  simp [rowAt, hc, hn, sameLayout, Nat.mod_one]
theorem freeze_spec {rb : Nat} {cs : Array Value} {e : TypeId} {fr : Nat × Nat} (h : w.heap[rb]? = some (.cells cs e fr)) (o n : Nat) :
    ∃ fr', (w.freeze ⟨rb, o, none⟩ n).heap[rb]? = some (.cells cs e fr') /\ (w.freeze ⟨rb, o, none⟩ n).heap.size = w.heap.size /\ (∀ k, k ≠ rb -> (w.freeze ⟨rb, o, none⟩ n).heap[k]? = w.heap[k]?) /\
      (w.freeze ⟨rb, o, none⟩ n).tape = w.tape /\ (w.freeze ⟨rb, o, none⟩ n).os = w.os /\ (w.freeze ⟨rb, o, none⟩ n).output = w.output := by
  unfold World.freeze
  split
  · exact ⟨fr, h, rfl, fun _ _ => rfl, rfl, rfl, rfl⟩
  · obtain ⟨lo, hi⟩ := fr
    exact ⟨if lo == hi then (o, o + n) else (min lo o, max hi (o + n)), by simp [Array.getElem?_modify, h], by simp, fun k hk => by simp [Array.getElem?_modify, Ne.symm hk], rfl, rfl, rfl⟩
theorem evUnsafeString_sound (hR : Rel μ H w) {ts : Array TypeId} {ty pt : TypeId} {x n z : AV} {xv nv : Value} {H' : AH} (ht : ts[0]? = some pt) (hx : VR μ x xv) (hn : VR μ n nv)
    (h : evUnsafeString P H pt x n = some (z, H')) : ∃ v w', (Builtin.unsafeString_ ts ty #[xv, nv]).run P w = .ok v w' /\ VR μ z v /\ Stp μ H w μ H' w' := by
  unfold evUnsafeString at h
  split at h
  · rename_i k
    cases nilp_inv hx
    cases int_inv hn
    simp only [Option.some.injEq, Prod.mk.injEq] at h
    obtain ⟨rfl, rfl⟩ := h
    refine ⟨.string .empty, w, ?_, .str _ _ rfl, Stp.refl hR⟩
    obtain ⟨s1, s2, s3, s4, s5, hdef⟩ := unsafeString_def ts ty none (.int k 0)
    rw [show (Int.ofNat 0) = (0 : Int) from rfl, hdef]
    have hmax : IntKind.i64.max = 9223372036854775807 := rfl
    simp [asInt, asIntOf, ht, hmax]
  · rename_i b off k
    obtain ⟨p, hp, rfl⟩ := ptr_inv hx
    cases int_inv hn
    simp only [Option.some.injEq, Prod.mk.injEq] at h
    obtain ⟨rfl, rfl⟩ := h
    refine ⟨.string .empty, w, ?_, .str _ _ rfl, Stp.refl hR⟩
    obtain ⟨s1, s2, s3, s4, s5, hdef⟩ := unsafeString_def ts ty (some ⟨p.blk, p.off + off, none⟩) (.int k 0)
    rw [show (Int.ofNat 0) = (0 : Int) from rfl, hdef]
    have hmax : IntKind.i64.max = 9223372036854775807 := rfl
    simp [asInt, asIntOf, ht, hmax]
  · rename_i b off k m
    obtain ⟨p, hp, rfl⟩ := ptr_inv hx
    cases int_inv hn
    split at h <;> try (cases h; done)
    rename_i u nb c opn frz e hpt hb
    split at h <;> try (cases h; done)
    rename_i l hu g1 g2 hl g3
    split at h <;> try (cases h; done)
    rename_i r hr
    simp only [Option.some.injEq, Prod.mk.injEq] at h
    obtain ⟨rfl, rfl⟩ := h
    replace g1 := natEq_iff g1
    replace g2 := natEq_iff g2
    replace g3 := ble g3
    subst g1
    obtain ⟨p', hp', cs, fr, q1, q2, q3, q4, q5, q6, q7⟩ := hR.blk b _ hb
    rw [hp] at hp'; cases hp'
    have hread : readB H b off (m + 1) = some l := by simp [readB, hb, hl]
    obtain ⟨vs, cs', e', fr', r1, r2, r3, r4, r5⟩ := readB_sound hR hp hread
    rw [q1] at r1; cases r1
    obtain ⟨hvs, hlt⟩ := bytesL_sound hr r5
    have hrl : r.length = m + 1 := by rw [<- r3, hvs]; simp
    have hcell : ∀ j y, (r.map UInt8.ofNat)[j]? = some y -> w.cell? ((⟨p.blk, p.off + off, none⟩ : Addr).add j) = some (.int .u8 y.toNat) := by
      intro j y hy
      have hj : j < r.length := by have := (List.getElem?_eq_some_iff.1 hy).1; simpa using this
      rw [Addr.add_none, World.cell?_at q1, r4 j (by omega), hvs]
      simp only [List.getElem?_map, List.getElem?_eq_getElem hj, Option.map_some, Option.some.injEq] at hy ⊢
      rw [<- hy]
      have := hlt r[j] (List.getElem_mem hj)
      simp [UInt8.toNat_ofNat, Nat.mod_eq_of_lt this]
    have hlb := Go.Lib.run_loadBytes (P := P) w (r.map UInt8.ofNat) ⟨p.blk, p.off + off, none⟩ .empty hcell
    have hsz : p.off + off + (m + 1) <= cs.size := by
      have h1 := r4 m (by omega)
      have h2 : vs[m]? = some vs[m] := by simp [r3]
      rw [h2] at h1
      have := (Array.getElem?_eq_some_iff.1 h1).1
      omega
    have hlies := liesAt_off (P := P) g2 (cs.size / P.cellsOf u) (p.off + off) (m + 1) (by rw [g2]; simpa using hsz)
    refine ⟨.string ⟨(r.map UInt8.ofNat).toArray⟩, w.freeze ⟨p.blk, p.off + off, none⟩ (m + 1), ?_, .str _ _ (by simpa using u8ofNat hlt), ?_⟩
    · obtain ⟨s1, s2, s3, s4, s5, hdef⟩ := unsafeString_def ts ty (some ⟨p.blk, p.off + off, none⟩) (.int _ ((m : Int) + 1))
      rw [show (Int.ofNat (m + 1)) = (m : Int) + 1 from rfl, hdef]
      have hmax : IntKind.i64.max = 9223372036854775807 := rfl
      have hneg : ¬ ((m : Int) + 1 < 0) := by omega
      have h63 : ¬ (9223372036854775807 < (m : Int) + 1) := by omega
      have hm : ¬ ((m : Int) + 1 = 0) := by omega
      have htn : ((m : Int) + 1).toNat = m + 1 := by omega
      have hlen : (r.map UInt8.ofNat).length = m + 1 := by simp [hrl]
      rw [hlen] at hlb
      simp [asInt, asIntOf, ht, hmax, hneg, h63, hm, htn, variablesAt, shape_cells q1, elemOf, run_underlying_ev hpt, hlies, hlb]
    · obtain ⟨fr', f1, f2, f3, f4, f5, f6⟩ := freeze_spec q1 (p.off + off) (m + 1)
      exact stp_set hR hb rfl rfl hp f2 f3 ⟨cs, fr', f1, q2, q3, q4, q5, by simp, by simp⟩ f4 f5 f6
  · cases h
def HvOk (P : Program) (μ : Mp) (H : AH) (w : World) (z : AV) (H' : AH) (r : Result Next) : Prop :=
  ∃ nx v μ' w', r = .ok nx w' /\ (nx = .value v \/ (nx = .skip /\ v = undef)) /\ VR μ' z v /\ Stp μ H w μ' H' w'
def ExtOk (P : Program) (X : Ext) : Prop :=
  ∀ (g : FuncId) (args : List AV) (H : AH) (z : AV) (H' : AH), X g args H = some (z, H') -> ∀ (μ : Mp) (w : World) (vs : List Value), Rel μ H w -> VRs μ args vs ->
    ∃ v μ' w', (callFunc g ⟨vs⟩).run P w = .ok (.value v) w' /\ VR μ' z v /\ Stp μ H w μ' H' w'
def NamesOk (P : Program) : Prop := ∀ (g : FuncId) (fn : Func), P.funcs[g]? = some fn -> fn.body.isSome = true -> (fn.name == "runtime.NumGoroutine") = false
theorem evClear_sound (hR : Rel μ H w) {ts : Array TypeId} {ty t : TypeId} {x : AV} {v : Value} {H' : AH} (ht : ts[0]? = some t) (hx : VR μ x v) (h : evClear P H t x = some H') :
    ∃ w', (Builtin.clear_ ts ty #[v]).run P w = .ok (.tuple #[]) w' /\ Stp μ H w μ H' w' := by
  unfold evClear at h
  split at h <;> try (cases h; done)
  rename_i elem hu
  split at h
  · cases nils_inv hx
    simp only [Option.some.injEq] at h; subst h
    exact ⟨w, by simp [Builtin.clear_, ht, run_underlying_ev hu], Stp.refl hR⟩
  · cases hx
    simp only [Option.some.injEq] at h; subst h
    exact ⟨w, by simp [Builtin.clear_, ht, run_underlying_ev hu], Stp.refl hR⟩
  · rename_i b off len es cap
    obtain ⟨p, c, hp, rfl, hc, ho⟩ := slc_inv hx
    split at h
    · simp only [Option.some.injEq] at h; subst h
      exact ⟨w, by simp [Builtin.clear_, ht, run_underlying_ev hu], Stp.refl hR⟩
    · rename_i n
      split at h <;> try (cases h; done)
      rename_i z hz
      obtain ⟨zv, hzr, hzv⟩ := run_zero_all hz μ
      have hrep := rep_VRs hzv (n + 1)
      obtain ⟨w', hr, hs⟩ := writeB_sound (P := P) hR hp hrep h
      refine ⟨w', ?_, hs⟩
      have hcells : (Builtin.zeroCells zv.cells (n + 1)).toList = (List.range ((n + 1) * z.length)).map fun i => zv.cells.toList[i % zv.cells.toList.length]?.getD default := by
        have hl : zv.cells.size = z.length := by have := hzv.length; simpa using this
        simp only [Builtin.zeroCells, Array.toList_map, Array.toList_range, hl]
        apply List.map_congr_left
        intro i _
        simp [Array.getElem!_eq_getD, Array.getD_eq_getD_getElem?, hl]
      simp only [Array.length_toList, Array.getElem?_toList] at hr hcells
      simp [Builtin.clear_, ht, run_underlying_ev hu, hzr w, hcells, hr]
  · cases h
theorem unAV_VR : VR μ unAV undef := .tup _ _ .nil
theorem run_callFunc_body (hN : NamesOk P) {g : FuncId} {fn : Func} {c : Code} (hg : P.funcs[g]? = some fn) (hb : fn.body = some c) (vs : Array Value) : (callFunc g vs).run P w = .ok (.enter g vs) w := by
  have hn := hN g fn hg (by simp [hb])
  have hn' : ¬ (fn.name = "runtime.NumGoroutine") := by simpa using hn
  simp [callFunc, hg, hn', hb]
theorem run_resolve_fn {c : Call} {ty : TypeId} {f : Operand} {fn : Fn} {first cap : Array Value} (hc : c.callee = .value f) (hf : a.eval f = .func fn first cap) :
    (resolve a.eval c ty).run P w = .ok { target := .fn fn cap, args := first ++ c.args.map a.eval } w := by
  simp [resolve, hc, hf, Deferred.ofValue]
theorem run_method {t : TypeId} {name : String} {g : FuncId} (hm : evMethod P t name = some g) (v : Value) (k : Nat) : (Go.method (k + 1) t v name).run P w = .ok (g, v) w := by
  unfold evMethod at hm
  split at hm
  · cases hm
  · rename_i i hi
    split at hm
    · cases hm
    · rename_i m hf
      split at hm
      · rename_i hp
        split at hm
        · rename_i f hfn
          split at hm
          · rename_i e hu
            simp only [Option.some.injEq] at hm; subst hm
            simp [Go.method, run_typeInfo_ev hi, hf, hp, follow, hfn, receiverAt, run_underlying_ev hu, Place.get]
          · cases hm
        · rename_i f hfn
          split at hm
          · cases hm
          · rename_i d hne hu
            simp only [Option.some.injEq] at hm; subst hm
            simp only [Go.method, Sem.run_bind, run_typeInfo_ev hi, Result.andThen_ok, hf, hp, follow, Sem.run_pure, hfn, receiverAt, run_underlying_ev hu]
            cases d <;> first | exact absurd rfl (hne _ _) | simp [Place.get]
          · cases hm
        · cases hm
      · cases hm
theorem run_invoke {c : Call} {ty : TypeId} {r : Operand} {name : String} {t : TypeId} {v : Value} {g : FuncId} (hc : c.callee = .invoke r name) (hr : a.eval r = .iface t v) (hm : evMethod P t name = some g) :
    (do let d <- resolve a.eval c ty; invoke d.target d.args : Sem Next).run P w = (callFunc g ⟨v :: c.args.toList.map a.eval⟩).run P w := by
  have hsz : ∃ k, P.types.size + Made.depth = k + 1 := ⟨P.types.size + 99, rfl⟩
  obtain ⟨k, hk⟩ := hsz
  have e1 : (#[v] ++ c.args.map a.eval) = ⟨v :: c.args.toList.map a.eval⟩ := by
    apply Array.ext'; simp
  have e2 : (#[Value.iface t v] ++ c.args.map a.eval)[0]? = some (.iface t v) := by
    rw [<- Array.getElem?_toList]; simp
  have e3 : (#[Value.iface t v] ++ c.args.map a.eval).extract 1 (#[Value.iface t v] ++ c.args.map a.eval).size = c.args.map a.eval := by
    apply Array.ext'
    simp only [Array.toList_extract, Array.toList_append, Array.size_append]
    simp
    exact List.take_of_length_le (by simp)
  have hp : ∀ w1, (program).run P w1 = .ok P w1 := fun _ => rfl
  simp only [resolve, hc, hr, Sem.run_bind, Sem.run_pure, Result.andThen_ok, invoke, e2, e3, callMethod, hp, hk, run_method hm, e1]
theorem R1valinv {z z' : AV} {H1 H2 : AH} {o : Option (AV × AH)} (h : (match o with | some (v, H') => R1.val v H' | none => R1.fail) = .val z H1) : o = some (z, H1) := by
  cases o with
  | none => cases h
  | some q => obtain ⟨v, H'⟩ := q; simp at h; rw [h.1, h.2]
theorem evHeavy_val (hR : Rel μ H w) (hT : TR μ T a.tmps) {X : Ext} (hX : ExtOk P X) {o : Oper} {z : AV} {H' : AH} (h : evHeavy P X T H o = .val z H') : HvOk P μ H w z H' ((execOp a.eval o).run P w) := by
  unfold evHeavy at h
  unfold execOp
  split at h
  · -- store
    rename_i t x y ho
    simp only [ho]
    split at h <;> try (cases h; done)
    rename_i b off v hx hy
    split at h <;> try (cases h; done)
    rename_i H2 hs
    simp only [R1.val.injEq] at h
    obtain ⟨rfl, rfl⟩ := h
    obtain ⟨p, hp, hxe⟩ := ptr_inv (evX_sound hR hT hx)
    obtain ⟨w', hr, hst⟩ := evStore_sound (P := P) hR hp (evX_sound hR hT hy) hs
    refine ⟨.skip, undef, μ, w', ?_, .inr ⟨rfl, rfl⟩, unAV_VR, hst⟩
    simp [Instr.storeAt, Instr.sureAddr, hxe, hr]
  · -- convert
    rename_i s d x ho
    simp only [ho]
    split at h <;> try (cases h; done)
    rename_i u sd hu hsd
    split at h <;> try (cases h; done)
    rename_i v H2 hb
    simp only [R1.val.injEq] at h
    obtain ⟨rfl, rfl⟩ := h
    obtain ⟨r, μ', w', k1, k2, k3⟩ := evBytesOf_sound (P := P) hR ⟨sd, hsd⟩ (evX_sound hR hT hu) hb
    exact ⟨.value r, r, μ', w', run_of_next k1, .inl rfl, k2, k3⟩
  · -- mapUpdate
    rename_i t m k x ho
    simp only [ho]
    split at h <;> try (cases h; done)
    rename_i u v y hu hv hy
    split at h <;> try (cases h; done)
    rename_i H2 hs
    simp only [R1.val.injEq] at h
    obtain ⟨rfl, rfl⟩ := h
    obtain ⟨w', hr, hst⟩ := evMapUpdate_sound (P := P) hR (evX_sound hR hT hu) (evX_sound hR hT hv) (evX_sound hR hT hy) hs
    exact ⟨.skip, undef, μ, w', by simp [hr], .inr ⟨rfl, rfl⟩, unAV_VR, hst⟩
  · -- insert
    rename_i t m k x ho
    simp only [ho]
    split at h <;> try (cases h; done)
    rename_i u v y hu hv hy
    split at h <;> try (cases h; done)
    rename_i H2 hs
    simp only [R1.val.injEq] at h
    obtain ⟨rfl, rfl⟩ := h
    obtain ⟨w', hr, hst⟩ := evMapUpdate_sound (P := P) hR (evX_sound hR hT hu) (evX_sound hR hT hv) (evX_sound hR hT hy) hs
    exact ⟨.skip, undef, μ, w', by simp [hr], .inr ⟨rfl, rfl⟩, unAV_VR, hst⟩
  · -- call
    rename_i c ho
    simp only [ho]
    split at h
    · -- builtin
      rename_i b hb
      split at h <;> try (cases h; done)
      rename_i args hargs
      split at h <;> try (cases h; done)
      rename_i v H2 hbi
      simp only [R1.val.injEq] at h
      obtain ⟨rfl, rfl⟩ := h
      have h1 := evXs_sound hR hT hargs
      generalize hv0 : c.args.toList.map a.eval = vs0 at h1
      have key : ∃ r μ' w', (Go.builtin b c.argTypes o.type (c.args.map fun | .const _ => true | _ => false) ⟨vs0⟩).run P w = .ok (.value r) w' /\ VR μ' v r /\ Stp μ H w μ' H2 w' := by
        unfold evBuiltinH at hbi
        split at hbi
        · rename_i s x
          cases h1 with
          | cons _ sv _ vs hs ht =>
            cases ht with
            | cons _ xv _ vs' hx ht' =>
              cases ht'
              split at hbi
              · rename_i rr hap
                simp only [Option.some.injEq] at hbi; subst hbi
                obtain ⟨r, μ', w', k1, k2, k3⟩ := evAppend_sound (P := P) (ty := o.type) hR hs hx hap
                exact ⟨r, μ', w', run_of_next k1, k2, k3⟩
              · obtain ⟨r, μ', w', k1, k2, k3⟩ := evAppendZ_sound (P := P) (ty := o.type) hR hs hx hbi
                exact ⟨r, μ', w', run_of_next k1, k2, k3⟩
        · rename_i s x
          cases h1 with
          | cons _ sv _ vs hs ht =>
            cases ht with
            | cons _ xv _ vs' hx ht' =>
              cases ht'
              obtain ⟨r, w', k1, k2, k3⟩ := evCopy_sound (P := P) (ty := o.type) hR hs hx hbi
              exact ⟨r, μ, w', run_of_next k1, k2, k3⟩
        · rename_i s x
          cases h1 with
          | cons _ sv _ vs hs ht =>
            cases ht with
            | cons _ xv _ vs' hx ht' =>
              cases ht'
              split at hbi <;> try (cases hbi; done)
              rename_i t ts' hts
              have h0 : c.argTypes[0]? = some t := by rw [<- Array.getElem?_toList, hts]; rfl
              obtain ⟨r, w', k1, k2, k3⟩ := evUnsafeString_sound (P := P) (ty := o.type) hR h0 hs hx hbi
              exact ⟨r, μ, w', run_of_next k1, k2, k3⟩
        · rename_i x
          cases h1 with
          | cons _ sv _ vs hs ht =>
            cases ht
            split at hbi <;> try (cases hbi; done)
            rename_i t ts' hts
            split at hbi <;> try (cases hbi; done)
            rename_i H3 hcl
            simp only [Option.some.injEq, Prod.mk.injEq] at hbi
            obtain ⟨rfl, rfl⟩ := hbi
            have h0 : c.argTypes[0]? = some t := by rw [<- Array.getElem?_toList, hts]; rfl
            obtain ⟨w', k1, k3⟩ := evClear_sound (P := P) (ty := o.type) hR h0 hs hcl
            exact ⟨.tuple #[], μ, w', run_of_next k1, .tup _ _ .nil, k3⟩
        · cases hbi
      obtain ⟨r, μ', w', k1, k2, k3⟩ := key
      refine ⟨.value r, r, μ', w', ?_, .inl rfl, k2, k3⟩
      rw [<- hv0, <- amap] at k1
      simp only [Sem.run_bind, resolve, hb, Sem.run_pure, Result.andThen_ok, invoke]
      exact k1
    · -- a function
      rename_i f hf
      split at h <;> try (cases h; done)
      rename_i g first captured args hfv hargs
      unfold evCallee at h
      split at h <;> try (cases h; done)
      rename_i fn hfn
      split at h <;> try (cases h; done)
      rename_i hbody
      split at h <;> try (cases h; done)
      rename_i v H2 hx
      simp only [R1.val.injEq] at h
      obtain ⟨rfl, rfl⟩ := h
      obtain ⟨fa, ca, hfe, hfa, hca⟩ := fn_inv (evX_sound hR hT hfv)
      have h1 := evXs_sound hR hT hargs
      obtain ⟨v, μ', w', k1, k2, k3⟩ := hX g _ H _ _ hx μ w _ hR ((hfa.append h1).append hca)
      refine ⟨.value v, v, μ', w', ?_, .inl rfl, k2, k3⟩
      have e : (⟨fa⟩ : Array Value) ++ c.args.map a.eval ++ ⟨ca⟩ = ⟨fa ++ c.args.toList.map a.eval ++ ca⟩ := by apply Array.ext'; simp
      simp only [Sem.run_bind, run_resolve_fn hf hfe, Result.andThen_ok, invoke, e]
      exact k1
    · -- a method
      rename_i r name hf
      split at h <;> try (cases h; done)
      rename_i t x args hrv hargs
      split at h <;> try (cases h; done)
      rename_i g hm
      unfold evCallee at h
      split at h <;> try (cases h; done)
      rename_i fn hfn
      split at h <;> try (cases h; done)
      rename_i hbody
      split at h <;> try (cases h; done)
      rename_i v H2 hx
      simp only [R1.val.injEq] at h
      obtain ⟨rfl, rfl⟩ := h
      obtain ⟨u, hre, hu⟩ := ifc_inv (evX_sound hR hT hrv)
      have h1 := evXs_sound hR hT hargs
      obtain ⟨v, μ', w', k1, k2, k3⟩ := hX g _ H _ _ hx μ w _ hR (.cons _ _ _ _ hu h1)
      refine ⟨.value v, v, μ', w', ?_, .inl rfl, k2, k3⟩
      rw [run_invoke hf hre hm]
      exact k1
  · -- defer
    split at h <;> try (cases h; done)
    split at h <;> cases h
  · -- range
    rename_i t x ho
    simp only [ho]
    split at h <;> try (cases h; done)
    rename_i u hu
    split at h <;> try (cases h; done)
    rename_i B hB
    simp only [R1.val.injEq] at h
    obtain ⟨rfl, rfl⟩ := h
    obtain ⟨r, μ', w', k1, k2, k3⟩ := evRange_sound (P := P) hR (evX_sound hR hT hu) hB
    exact ⟨.value r, r, μ', w', run_of_next k1, .inl rfl, k2, k3⟩
  · -- next
    rename_i x isS ho
    simp only [ho]
    split at h <;> try (cases h; done)
    rename_i u hu
    split at h <;> try (cases h; done)
    rename_i v H2 hv
    simp only [R1.val.injEq] at h
    obtain ⟨rfl, rfl⟩ := h
    obtain ⟨r, w', k1, k2, k3⟩ := evNext_sound (P := P) (ty := o.type) hR (evX_sound hR hT hu) hv
    exact ⟨.value r, r, μ, w', run_of_next k1, .inl rfl, k2, k3⟩
  · -- entry
    rename_i x ho
    simp only [ho]
    split at h <;> try (cases h; done)
    rename_i u hu
    split at h <;> try (cases h; done)
    rename_i v hv
    simp only [R1.val.injEq] at h
    obtain ⟨rfl, rfl⟩ := h
    obtain ⟨r, k1, k2⟩ := evEntry_sound (P := P) hR (evX_sound hR hT hu) hv
    exact ⟨.value r, r, μ, w, run_of_next k1, .inl rfl, k2, Stp.refl hR⟩
  · -- typeAssert
    rename_i x xt t ok ho
    simp only [ho]
    split at h <;> try (cases h; done)
    rename_i u hu
    split at h <;> try (cases h; done)
    rename_i v hv
    simp only [R1.val.injEq] at h
    obtain ⟨rfl, rfl⟩ := h
    obtain ⟨r, k1, k2⟩ := evAssert_sound (P := P) (w := w) (xt := xt) (evX_sound hR hT hu) hv
    exact ⟨.value r, r, μ, w, run_of_next k1, .inl rfl, k2, Stp.refl hR⟩
  · cases h
end
end Go.Ev
/- Regions in the order of the text, code, bodies, calls. -/
set_option linter.unusedSimpArgs false
set_option linter.unusedVariables false
namespace Go.Ev
open Go
def Fr (ro : Option Nat) : Fence := { fn := fun _ => True, depth := none, alive := false, round := ro }
inductive DRs (μ : Mp) : List ADef -> List Deferred -> Prop where
  | nil : DRs μ [] []
  | cons (g : FuncId) (captured args : List AV) (cv av : List Value) (D : List ADef) (ds : List Deferred) (hc : VRs μ captured cv) (ha : VRs μ args av) (t : DRs μ D ds) :
      DRs μ (.call g captured args :: D) ({ target := .fn (.func g) ⟨cv⟩, args := ⟨av⟩ } :: ds)
  | coll (b : Nat) (p : Pl) (D : List ADef) (ds : List Deferred) (h : μ b = some p) (t : DRs μ D ds) : DRs μ (.coll b :: D) ({ target := .collected p.blk, args := #[] } :: ds)
theorem DRs.mono {μ μ' : Mp} (hm : μ.le μ') : ∀ {D : List ADef} {ds : List Deferred}, DRs μ D ds -> DRs μ' D ds
  | _, _, .nil => .nil
  | _, _, .cons g c a cv av D ds hc ha t => .cons g c a cv av D ds (hc.mono hm) (ha.mono hm) (t.mono hm)
  | _, _, .coll b p D ds h t => .coll b p D ds (hm _ _ h) (t.mono hm)
structure AR (μ : Mp) (n : Nat) (T : Tr AV) (D : List ADef) (a : Act) : Prop where
  tmps : TR μ T a.tmps
  size : a.tmps.size = n
  defers : DRs μ D a.defers
theorem AR.mono {μ μ' : Mp} (hm : μ.le μ') {n : Nat} {T : Tr AV} {D : List ADef} {a : Act} (h : AR μ n T D a) : AR μ' n T D a := ⟨h.tmps.mono hm, h.size, h.defers.mono hm⟩
noncomputable def updA (T : Tr AV) (dst : Option Tmp) (v : AV) (t : Nat) : Option AV :=
  match dst with
  | some d => if t = d then some v else T.get t
  | none => T.get t
theorem putA_get {n : Nat} {T T' : Tr AV} {dst : Option Tmp} {v : AV} (h : putA n T dst v = some T') : (∀ d, dst = some d -> d < n) /\ ∀ t, T'.get t = updA T dst v t := by
  cases dst with
  | none => simp only [putA, Option.some.injEq] at h; subst h; exact ⟨(fun d hd => by cases hd), fun t => rfl⟩
  | some d =>
    simp only [putA] at h
    split at h
    · cases h
    · rename_i hlt
      have hlt : d < n := by simpa [Nat.blt_eq] using hlt
      have hget := Tr.get_put T d v
      split at h
      · cases h
      · rename_i x l r heq
        simp only [Option.some.injEq] at h; subst h
        rw [heq] at hget
        exact ⟨fun d' hd => by cases hd; exact hlt, hget⟩
theorem putA_AR {μ : Mp} {n : Nat} {T T' : Tr AV} {D : List ADef} {a : Act} {dst : Option Tmp} {v : AV} {u : Value} (ha : AR μ n T D a) (hv : VR μ v u) (h : putA n T dst v = some T') : AR μ n T' D (a.put dst u) := by
  obtain ⟨h1, h2⟩ := putA_get h
  cases dst with
  | none => exact ⟨fun t x hx => ha.tmps t x (by rw [h2 t] at hx; exact hx), ha.size, ha.defers⟩
  | some d =>
    refine ⟨fun t x hx => ?_, by simp [Act.put, ha.size], ha.defers⟩
    rw [h2 t] at hx
    simp only [updA] at hx
    simp only [Act.put]
    by_cases e : t = d
    · subst e
      simp only [if_true, Option.some.injEq] at hx; subst hx
      exact ⟨u, by rw [Array.getElem?_setIfInBounds_self_of_lt (by rw [ha.size]; exact h1 t rfl)], hv⟩
    · rw [if_neg e] at hx
      obtain ⟨w, hw, hr⟩ := ha.tmps t x hx
      exact ⟨w, by rw [Array.getElem?_setIfInBounds_ne (Ne.symm e)]; exact hw, hr⟩
theorem wantedA_sound {μ : Mp} {ops : Array Oper} {T : Tr AV} {tmps : Array Value} (hT : TR μ T tmps) {o : Oper} {b : Bool} (h : wantedA ops.toList T o = some b) : Region.wanted o (yielded ops tmps) = b := by
  unfold wantedA at h
  unfold Region.wanted
  split at h
  · rename_i hg; simp only [Option.some.injEq] at h; subst h; rw [hg]
  · rename_i j want hg
    rw [hg]
    simp only
    split at h <;> try (cases h; done)
    rename_i oj hoj
    have hoj' : ops[j]? = some oj := by simpa using hoj
    split at h <;> try (cases h; done)
    rename_i t ht
    split at h
    · rename_i bb hb
      simp only [Option.some.injEq] at h; subst h
      obtain ⟨v, hv, hr⟩ := hT t _ hb
      have := bool_inv hr
      subst this
      simp [yielded, hoj', ht, hv]
    · rename_i x hne hx
      simp only [Option.some.injEq] at h; subst h
      obtain ⟨v, hv, hr⟩ := hT t _ hx
      have : yielded ops tmps j = none := by
        simp only [yielded, hoj', Option.bind_some, ht, hv]
        cases hr <;> first | rfl | exact absurd rfl (hne _)
      rw [this]; rfl
    · cases h
def FnSnd (P : Program) (g : FuncId) (args : List AV) (H : AH) (z : AV) (H' : AH) : Prop :=
  ∀ (μ : Mp) (w : World) (vs : List Value), Rel μ H w -> VRs μ args vs -> Calls P g ⟨vs⟩ w fun e w' => ∃ u μ', e = .returned u /\ VR μ' z u /\ Stp μ H w μ' H' w'
def HookOk (P : Program) (hk : Hook) : Prop := ∀ g args H z H', hk g args H = some (z, H') -> FnSnd P g args H z H'
theorem noHook_ok {P : Program} : HookOk P noHook := fun g args H z H' h => by cases h
structure CallOk (P : Program) (callF : CallF) : Prop where
  fn : ∀ (g : FuncId) (args : List AV) (H : AH) (z : AV) (H' : AH), callF (.fn g) args H = some (z, H') -> ∀ (μ : Mp) (w : World) (vs : List Value), Rel μ H w -> VRs μ args vs ->
    Calls P g ⟨vs⟩ w fun e w' => ∃ u μ', e = .returned u /\ VR μ' z u /\ Stp μ H w μ' H' w'
  rnd : ∀ (b : Nat) (args : List AV) (H : AH) (z : AV) (H' : AH), callF (.rnd b) args H = some (z, H') -> ∀ (μ : Mp) (w : World) (vs : List Value) (p : Pl) (ro : Option Nat) (k : Nat), Rel μ H w -> VRs μ args vs -> μ b = some p ->
    ∃ r : Loop, w.heap[p.blk]? = some (.loop r) /\ vs.length = r.params.size /\
      RoundIn (Fr ro) k P p.blk r.fn ((r.params.zip ⟨vs⟩).foldl (fun tmps (t, a) => tmps.setIfInBounds t a) r.tmps) r.assign r.body w fun e w' => ∃ u μ', e = .returned u /\ VR μ' z u /\ Stp μ H w μ' H' w'
section
variable {P : Program} {X : Ext} {callF : CallF} {μ : Mp} {H H' : AH} {w : World} {T T' : Tr AV} {D D' : List ADef} {a : Act} {n : Nat} {ro : Option Nat}
theorem calls_Fr {k : Nat} {f : FuncId} {args : Array Value} {R : Ending -> World -> Prop} (h : Calls P f args w R) : CallsIn (Fr ro) k P f args w R :=
  have h1 : CallsIn Fence.wide k P f args w R := callsIn_wide.2 h
  h1
theorem CallsIn.conseq {F : Fence} {k : Nat} {f : FuncId} {args : Array Value} {R R' : Ending -> World -> Prop} (h : CallsIn F k P f args w R) (hr : ∀ e w', R e w' -> R' e w') : CallsIn F k P f args w R' := h.mono hr
theorem oper_val {o : Oper} {next : Act -> World -> Prop} {Q : Exit -> Act -> World -> Prop} {k : Nat} (hnd : ∀ c, o.op ≠ .defer c) {nx : Next} {v : Value} {w' : World}
    (hr : (execOp a.eval o).run P w = .ok nx w') (hnx : nx = .value v \/ (nx = .skip /\ v = undef)) (hk : next (a.put o.dst v) w') : o.wpIn (Fr ro) k P a w next Q := by
  refine ⟨fun _ _ => trivial, ?_⟩
  rw [Oper.semAt_eq _ _ _ hnd, hr]
  rcases hnx with rfl | ⟨rfl, rfl⟩
  · exact hk
  · exact hk
theorem evFlt_step (hR : Rel μ H w) (hT : TR μ T a.tmps) {o : Oper} {z : AV} {B : AB} (h : evFlt P H.G T H.next o = some (z, B)) : HvOk P μ H w z (newBlk H B) ((execOp a.eval o).run P w) := by
  obtain ⟨v, ob, fin, h1, h2⟩ := evFlt_sound hR hT h
  have hm := Mp.set_le (p := (⟨w.heap.size, 0, fin⟩ : Pl)) (hR.fresh _ (Nat.le_refl _))
  obtain ⟨h3, h4⟩ := h2 _ hm (by simp)
  refine ⟨.value v, v, _, _, h1 w rfl, .inl rfl, h3, stp_new hR B ob fin (h4 _ (by simp)) rfl⟩
theorem evOp_val (hR : Rel μ H w) (hT : TR μ T a.tmps) (hX : ExtOk P X) {o : Oper} {z : AV} (h : evOp P X T H o = .val z H') : HvOk P μ H w z H' ((execOp a.eval o).run P w) := by
  unfold evOp at h
  split at h
  · rename_i v hv
    simp only [R1.val.injEq] at h
    obtain ⟨rfl, rfl⟩ := h
    obtain ⟨u, h1, h2⟩ := evLight_sound hR hT hv
    exact ⟨.value u, u, μ, w, h1, .inl rfl, h2, Stp.refl hR⟩
  · split at h
    · rename_i v B hv
      simp only [R1.val.injEq] at h
      obtain ⟨rfl, rfl⟩ := h
      exact evFlt_step hR hT hv
    · exact evHeavy_val hR hT hX h
theorem evLight_noDefer {o : Oper} {z : AV} (h : evLight P T H o = some z) : ∀ c, o.op ≠ .defer c := by
  intro c hc
  unfold evLight at h
  rw [hc] at h; cases h
theorem evFlt_noDefer {o : Oper} {G id : Nat} {z : AV × AB} (h : evFlt P G T id o = some z) : ∀ c, o.op ≠ .defer c := by
  intro c hc
  unfold evFlt at h
  rw [hc] at h; cases h
theorem evHeavy_noDefer {o : Oper} {z : AV} (h : evHeavy P X T H o = .val z H') : ∀ c, o.op ≠ .defer c := by
  intro c hc
  unfold evHeavy at h
  rw [hc] at h
  simp only at h
  split at h <;> try (cases h; done)
  split at h <;> cases h
theorem evOp_noDefer {o : Oper} {z : AV} (h : evOp P X T H o = .val z H') : ∀ c, o.op ≠ .defer c := by
  unfold evOp at h
  split at h
  · rename_i hv; exact evLight_noDefer hv
  · split at h
    · rename_i hv; exact evFlt_noDefer hv
    · exact evHeavy_noDefer h
theorem evHeavy_call (hR : Rel μ H w) (hT : TR μ T a.tmps) (hN : NamesOk P) {o : Oper} {g : FuncId} {args : List AV} (h : evHeavy P X T H o = .call g args) :
    (∀ c, o.op ≠ .defer c) /\ ∃ vs : List Value, (execOp a.eval o).run P w = .ok (.enter g ⟨vs⟩) w /\ VRs μ args vs := by
  unfold evHeavy at h
  split at h
  · split at h <;> try (cases h; done)
    split at h <;> cases h
  · split at h <;> try (cases h; done)
    split at h <;> cases h
  · split at h <;> try (cases h; done)
    split at h <;> cases h
  · split at h <;> try (cases h; done)
    split at h <;> cases h
  · rename_i c ho
    split at h
    · split at h <;> try (cases h; done)
      split at h <;> cases h
    · rename_i f hf
      split at h <;> try (cases h; done)
      rename_i g' first captured args' hfv hargs
      unfold evCallee at h
      split at h <;> try (cases h; done)
      rename_i fn hfn
      split at h
      · rename_i cb hbody
        simp only [R1.call.injEq] at h
        obtain ⟨rfl, rfl⟩ := h
        obtain ⟨fa, ca, hfe, hfa, hca⟩ := fn_inv (evX_sound hR hT hfv)
        have h1 := evXs_sound hR hT hargs
        refine ⟨(fun c' hc' => by rw [ho] at hc'; cases hc'), fa ++ c.args.toList.map a.eval ++ ca, ?_, (hfa.append h1).append hca⟩
        unfold execOp
        simp only [ho]
        have e : (⟨fa⟩ : Array Value) ++ c.args.map a.eval ++ ⟨ca⟩ = ⟨fa ++ c.args.toList.map a.eval ++ ca⟩ := by apply Array.ext'; simp
        simp only [Sem.run_bind, run_resolve_fn hf hfe, Result.andThen_ok, invoke, e]
        exact run_callFunc_body hN hfn hbody _
      · split at h <;> cases h
    · rename_i r name hf
      split at h <;> try (cases h; done)
      rename_i t x args' hrv hargs
      split at h <;> try (cases h; done)
      rename_i g' hm
      unfold evCallee at h
      split at h <;> try (cases h; done)
      rename_i fn hfn
      split at h
      · rename_i cb hbody
        simp only [R1.call.injEq] at h
        obtain ⟨rfl, rfl⟩ := h
        obtain ⟨u, hre, hu⟩ := ifc_inv (evX_sound hR hT hrv)
        have h1 := evXs_sound hR hT hargs
        refine ⟨(fun c' hc' => by rw [ho] at hc'; cases hc'), u :: c.args.toList.map a.eval, ?_, .cons _ _ _ _ hu h1⟩
        unfold execOp
        simp only [ho]
        rw [run_invoke hf hre hm]
        exact run_callFunc_body hN hfn hbody _
      · split at h <;> cases h
  · split at h <;> try (cases h; done)
    split at h <;> cases h
  · split at h <;> try (cases h; done)
    split at h <;> cases h
  · split at h <;> try (cases h; done)
    split at h <;> cases h
  · split at h <;> try (cases h; done)
    split at h <;> cases h
  · split at h <;> try (cases h; done)
    split at h <;> cases h
  · cases h
theorem evOp_call (hR : Rel μ H w) (hT : TR μ T a.tmps) (hN : NamesOk P) {o : Oper} {g : FuncId} {args : List AV} (h : evOp P X T H o = .call g args) :
    (∀ c, o.op ≠ .defer c) /\ ∃ vs : List Value, (execOp a.eval o).run P w = .ok (.enter g ⟨vs⟩) w /\ VRs μ args vs := by
  unfold evOp at h
  split at h
  · cases h
  · split at h
    · cases h
    · exact evHeavy_call hR hT hN h
theorem evHeavy_round (hR : Rel μ H w) (hT : TR μ T a.tmps) {o : Oper} {b : Nat} {args : List AV} (h : evHeavy P X T H o = .round b args) :
    (∀ c, o.op ≠ .defer c) /\ ∃ (vs : List Value) (p : Pl), μ b = some p /\ VRs μ args vs /\ ∀ r : Loop, w.heap[p.blk]? = some (.loop r) -> vs.length = r.params.size ->
      (execOp a.eval o).run P w = .ok (.round p.blk r.fn ((r.params.zip ⟨vs⟩).foldl (fun tmps (t, a) => tmps.setIfInBounds t a) r.tmps) r.assign r.body) w := by
  unfold evHeavy at h
  split at h
  · split at h <;> try (cases h; done)
    split at h <;> cases h
  · split at h <;> try (cases h; done)
    split at h <;> cases h
  · split at h <;> try (cases h; done)
    split at h <;> cases h
  · split at h <;> try (cases h; done)
    split at h <;> cases h
  · rename_i c ho
    split at h
    · split at h <;> try (cases h; done)
      split at h <;> cases h
    · rename_i f hf
      split at h
      · unfold evCallee at h
        split at h <;> try (cases h; done)
        split at h <;> try (cases h; done)
        split at h <;> cases h
      · rename_i b' args' hfv hargs
        simp only [R1.round.injEq] at h
        obtain ⟨rfl, rfl⟩ := h
        have hfr := evX_sound hR hT hfv
        have h1 := evXs_sound hR hT hargs
        generalize hfe : a.eval f = fv at hfr
        cases hfr with
        | yld _ p hp =>
          refine ⟨(fun c' hc' => by rw [ho] at hc'; cases hc'), c.args.toList.map a.eval, p, hp, h1, fun r hr hl => ?_⟩
          unfold execOp
          simp only [ho]
          have e : (⟨[]⟩ : Array Value) ++ c.args.map a.eval = ⟨c.args.toList.map a.eval⟩ := by apply Array.ext'; simp
          simp only [Sem.run_bind, run_resolve_fn hf hfe, Result.andThen_ok, invoke, e]
          exact run_yield hr (by simpa using hl)
      · cases h
    · split at h <;> try (cases h; done)
      split at h <;> try (cases h; done)
      unfold evCallee at h
      split at h <;> try (cases h; done)
      split at h <;> try (cases h; done)
      split at h <;> cases h
  · split at h <;> try (cases h; done)
    split at h <;> cases h
  · split at h <;> try (cases h; done)
    split at h <;> cases h
  · split at h <;> try (cases h; done)
    split at h <;> cases h
  · split at h <;> try (cases h; done)
    split at h <;> cases h
  · split at h <;> try (cases h; done)
    split at h <;> cases h
  · cases h
theorem evOp_round (hR : Rel μ H w) (hT : TR μ T a.tmps) {o : Oper} {b : Nat} {args : List AV} (h : evOp P X T H o = .round b args) :
    (∀ c, o.op ≠ .defer c) /\ ∃ (vs : List Value) (p : Pl), μ b = some p /\ VRs μ args vs /\ ∀ r : Loop, w.heap[p.blk]? = some (.loop r) -> vs.length = r.params.size ->
      (execOp a.eval o).run P w = .ok (.round p.blk r.fn ((r.params.zip ⟨vs⟩).foldl (fun tmps (t, a) => tmps.setIfInBounds t a) r.tmps) r.assign r.body) w := by
  unfold evOp at h
  split at h
  · cases h
  · split at h
    · cases h
    · exact evHeavy_round hR hT h
theorem evOp_dfr (hR : Rel μ H w) (hT : TR μ T a.tmps) {o : Oper} {g : FuncId} {captured args : List AV} (h : evOp P X T H o = .dfr g captured args) :
    ∃ cv av : List Value, (execOp a.eval o).run P w = .ok (.defer { target := .fn (.func g) ⟨cv⟩, args := ⟨av⟩ }) w /\ VRs μ captured cv /\ VRs μ args av := by
  unfold evOp at h
  split at h
  · cases h
  · split at h
    · cases h
    · unfold evHeavy at h
      split at h
      · split at h <;> try (cases h; done)
        split at h <;> cases h
      · split at h <;> try (cases h; done)
        split at h <;> cases h
      · split at h <;> try (cases h; done)
        split at h <;> cases h
      · split at h <;> try (cases h; done)
        split at h <;> cases h
      · split at h
        · split at h <;> try (cases h; done)
          split at h <;> cases h
        · split at h <;> try (cases h; done)
          unfold evCallee at h
          split at h <;> try (cases h; done)
          split at h <;> try (cases h; done)
          split at h <;> cases h
        · split at h <;> try (cases h; done)
          split at h <;> try (cases h; done)
          unfold evCallee at h
          split at h <;> try (cases h; done)
          split at h <;> try (cases h; done)
          split at h <;> cases h
      · rename_i c ho
        split at h <;> try (cases h; done)
        rename_i f hf
        split at h <;> try (cases h; done)
        rename_i g' first cap args' hfv hargs
        simp only [R1.dfr.injEq] at h
        obtain ⟨rfl, rfl, rfl⟩ := h
        obtain ⟨fa, ca, hfe, hfa, hca⟩ := fn_inv (evX_sound hR hT hfv)
        have h1 := evXs_sound hR hT hargs
        refine ⟨ca, fa ++ c.args.toList.map a.eval, ?_, hca, hfa.append h1⟩
        unfold execOp
        simp only [ho]
        have e : (⟨fa⟩ : Array Value) ++ c.args.map a.eval = ⟨fa ++ c.args.toList.map a.eval⟩ := by apply Array.ext'; simp
        simp only [Sem.run_bind, run_resolve_fn hf hfe, Result.andThen_ok, Sem.run_pure, e]
      · split at h <;> try (cases h; done)
        split at h <;> cases h
      · split at h <;> try (cases h; done)
        split at h <;> cases h
      · split at h <;> try (cases h; done)
        split at h <;> cases h
      · split at h <;> try (cases h; done)
        split at h <;> cases h
      · cases h
def Ends (μ : Mp) (H : AH) (w : World) (n : Nat) (T' : Tr AV) (D' : List ADef) (H' : AH) (a' : Act) (w' : World) : Prop := ∃ μ', Stp μ H w μ' H' w' /\ AR μ' n T' D' a'
theorem evOps_sound (hX : ExtOk P X) (hC : CallOk P callF) (hN : NamesOk P) {ops : Array Oper} {Q : Exit -> Act -> World -> Prop} {nn : Nat} {inR : Option Nat} (hro : inR = none -> ro = none) :
    ∀ (rest : List Oper) (k : Nat) (T : Tr AV) (D : List ADef) (H : AH) (μ : Mp) (w : World) (a : Act), ops.toList.drop k = rest -> Rel μ H w -> AR μ n T D a ->
      evOps P X callF n inR ops.toList rest T D H = .done T' D' H' -> (∀ a' w', Ends μ H w n T' D' H' a' w' -> Q .normal a' w') -> wpOpsIn (Fr ro) nn P ops Q (List.range' k rest.length) a w
  | [], k, T, D, H, μ, w, a, hk, hR, hA, h, hQ => by
    simp only [evOps, OR.done.injEq] at h
    obtain ⟨rfl, rfl, rfl⟩ := h
    exact hQ a w ⟨μ, Stp.refl hR, hA⟩
  | o :: rest, k, T, D, H, μ, w, a, hk, hR, hA, h, hQ => by
    have hok : ops[k]? = some o := by
      have := congrArg (fun l => l[0]?) hk
      simpa using this
    have hk' : ops.toList.drop (k + 1) = rest := by
      rw [<- List.drop_drop, hk]; rfl
    simp only [List.length_cons, List.range'_succ, wpOpsIn, hok]
    simp only [evOps] at h
    split at h
    · cases h
    · rename_i hw
      have hw := wantedA_sound hA.tmps hw
      simp only [hw, Bool.false_eq_true, if_false]
      split at h
      · rename_i T1 hT1
        exact ⟨fun _ _ => trivial, evOps_sound hX hC hN hro rest (k + 1) T1 D H μ w (a.put o.dst undef) hk' hR (putA_AR hA unAV_VR hT1) h hQ⟩
      · cases h
    · rename_i hw
      have hw := wantedA_sound hA.tmps hw
      simp only [hw, if_true]
      split at h
      · rename_i v H1 hop
        split at h
        · rename_i T1 hT1
          obtain ⟨nx, u, μ', w', r1, r2, r3, r4⟩ := evOp_val hR hA.tmps hX hop
          refine oper_val (evOp_noDefer hop) r1 r2 ?_
          exact evOps_sound hX hC hN hro rest (k + 1) T1 D H1 μ' w' (a.put o.dst u) hk' r4.rel (putA_AR (hA.mono r4.le) r3 hT1) h fun a2 w2 ⟨μ2, s2, hA2⟩ => hQ a2 w2 ⟨μ2, r4.trans s2, hA2⟩
        · cases h
      · rename_i g args hop
        split at h
        · rename_i v H1 hcall
          split at h
          · rename_i T1 hT1
            obtain ⟨hnd, vs, r1, r2⟩ := evOp_call hR hA.tmps hN hop
            refine ⟨fun _ _ => trivial, ?_⟩
            rw [Oper.semAt_eq _ _ _ hnd, r1]
            refine ⟨fun hd => by simp [Fr] at hd, calls_Fr ((hC.fn g args H v H1 hcall μ w vs hR r2).mono ?_)⟩
            rintro e w' ⟨u, μ', rfl, hu, hs⟩
            exact evOps_sound hX hC hN hro rest (k + 1) T1 D H1 μ' w' (a.put o.dst u) hk' hs.rel (putA_AR (hA.mono hs.le) hu hT1) h fun a2 w2 ⟨μ2, s2, hA2⟩ => hQ a2 w2 ⟨μ2, hs.trans s2, hA2⟩
          · cases h
        · cases h
      · rename_i b args hop
        split at h
        · rename_i v H1 hcall
          split at h
          · rename_i T1 hT1
            obtain ⟨hnd, vs, p, hp, r2, r1⟩ := evOp_round hR hA.tmps hop
            obtain ⟨r, q1, q2, q3⟩ := hC.rnd b args H v H1 hcall μ w vs p ro (nn - 1) hR r2 hp
            refine ⟨fun _ _ => trivial, ?_⟩
            rw [Oper.semAt_eq _ _ _ hnd, r1 r q1 q2]
            refine ⟨fun hd => by simp [Fr] at hd, q3.mono ?_⟩
            rintro e w' ⟨u, μ', rfl, hu, hs⟩
            exact evOps_sound hX hC hN hro rest (k + 1) T1 D H1 μ' w' (a.put o.dst u) hk' hs.rel (putA_AR (hA.mono hs.le) hu hT1) h fun a2 w2 ⟨μ2, s2, hA2⟩ => hQ a2 w2 ⟨μ2, hs.trans s2, hA2⟩
          · cases h
        · cases h
      · rename_i g captured args hop
        split at h
        · cases h
        split at h
        · rename_i T1 hT1
          have hro := hro rfl
          obtain ⟨cv, av, r1, r2, r3⟩ := evOp_dfr hR hA.tmps hop
          refine ⟨fun _ _ => trivial, ?_⟩
          have hsem : o.semAt (Fr ro).round a.eval = execOp a.eval o := by rw [show (Fr ro).round = none from hro]; exact Oper.semAt_none _ _
          rw [hsem, r1]
          have hA1 : AR μ n T (.call g captured args :: D) { a with defers := { target := .fn (.func g) ⟨cv⟩, args := ⟨av⟩ } :: a.defers } := ⟨hA.tmps, hA.size, .cons _ _ _ _ _ _ _ r2 r3 hA.defers⟩
          exact evOps_sound hX hC hN (fun _ => hro) rest (k + 1) T1 _ H μ w _ hk' hR (putA_AR hA1 unAV_VR hT1) h hQ
        · cases h
      · cases h
def RegOk (P : Program) (regD : Nat -> List Oper -> Tr AV -> AH -> OR) : Prop :=
  ∀ (n : Nat) (ops : Array Oper) (T : Tr AV) (H : AH) (T' : Tr AV) (D0 : List ADef) (H' : AH), regD n ops.toList T H = .done T' D0 H' -> ∀ (id nn : Nat) (ro : Option Nat) (D : List ADef) (μ : Mp) (w : World) (a : Act) (Q : Exit -> Act -> World -> Prop),
    Rel μ H w -> AR μ n T D a -> (∀ a' w', Ends μ H w n T' D H' a' w' -> Q .normal a' w') -> (Code.region id ops true).wpIn (Fr ro) nn P Q a w
def AExit.exit' : AExit -> Exit
  | .normal => .normal
  | .exit id => .exit id
  | .ret => .ret
def LoopWp (F : Fence) (nn : Nat) (P : Program) (c : Code) (Q : Exit -> Act -> World -> Prop) (a : Act) (w : World) : Prop :=
  ∀ (b : Frame) (k : List Item) (cs : List Frame), b.roundOf = F.round -> F.fn b.fn -> F.room (cs.length + 1 + nn) ->
    ∃ e a' w', Q e a' w' /\ ArrivesIn (Machine.fenced P F) P (lone (b.atR a (.code c :: .inLoop c :: k)) cs w) b k cs e a' w'
theorem wpIn_of_loopWp {F : Fence} {nn : Nat} {c : Code} {Q : Exit -> Act -> World -> Prop} (h : LoopWp F nn P c Q a w) : (Code.loop c).wpIn F nn P Q a w := fun b k cs hro hb hr =>
  let ⟨e, a', w', hq, harr⟩ := h b k cs hro hb hr
  ⟨e, a', w', hq, .of_steps (.one (fenced_calm hb hr rfl) stepR_loop) harr⟩
theorem loopWp_round {F : Fence} {nn : Nat} {c : Code} {Q : Exit -> Act -> World -> Prop} (h : c.wpIn F nn P (Exit.then (fun a' w' => LoopWp F nn P c Q a' w') Q) a w) : LoopWp F nn P c Q a w := by
  intro b k cs hro hb hr
  obtain ⟨e, a₁, w₁, hq, harr⟩ := h b (.inLoop c :: k) cs hro hb hr
  cases e with
  | normal =>
    obtain ⟨e₂, a₂, w₂, hq₂, harr₂⟩ := hq b k cs hro hb hr
    exact ⟨e₂, a₂, w₂, hq₂, .of_steps (StepsIn.trans harr (.one (fenced_calm hb hr rfl) stepR_inLoop)) harr₂⟩
  | exit id => exact ⟨_, a₁, w₁, hq, .pass (x := .inLoop c) rfl (fun _ _ => .inl (by simp)) harr⟩
  | goto l => exact ⟨_, a₁, w₁, hq, .pass (x := .inLoop c) rfl (fun _ _ => .inl (by simp)) harr⟩
  | ret => exact ⟨_, a₁, w₁, hq, .pass (x := .inLoop c) rfl (fun _ _ => .inl (by simp)) harr⟩
  | panic ch => exact ⟨_, a₁, w₁, hq, .pass (x := .inLoop c) rfl (fun _ _ => .inl (by simp)) harr⟩
  | outgrown => exact ⟨_, a₁, w₁, hq, .pass (x := .inLoop c) rfl (fun _ _ => .inl (by simp)) harr⟩
def RO (μ : Mp) (inR ro : Option Nat) : Prop :=
  match inR with
  | none => ro = none
  | some b => ∃ p, μ b = some p /\ ro = some p.blk
theorem RO.mono {μ μ' : Mp} (hm : μ.le μ') {inR ro : Option Nat} (h : RO μ inR ro) : RO μ' inR ro := by
  cases inR with
  | none => exact h
  | some b => obtain ⟨p, h1, h2⟩ := h; exact ⟨p, hm _ _ h1, h2⟩
theorem DRs.append {μ : Mp} : ∀ {D0 D : List ADef} {d0 ds : List Deferred}, DRs μ D0 d0 -> DRs μ D ds -> DRs μ (D0 ++ D) (d0 ++ ds)
  | _, _, _, _, .nil, h => h
  | _, _, _, _, .cons g c a cv av D ds hc ha t, h => .cons g c a cv av _ _ hc ha (t.append h)
  | _, _, _, _, .coll b p D ds hb t, h => .coll b p _ _ hb (t.append h)
theorem stp_alloc (h : Rel μ H w) (B : AB) (o : Obj) (hB : ∀ μ' p, μ.le μ' -> μ' H.next = some p -> p.blk = w.heap.size -> BR μ' B p (w.alloc o).heap) :
    ∃ μ', Stp μ H w μ' (newBlk H B) (w.alloc o) /\ ∃ p, μ' H.next = some p /\ p.blk = w.heap.size := by
  have hm := Mp.set_le (p := (⟨w.heap.size, 0, 0⟩ : Pl)) (h.fresh _ (Nat.le_refl _))
  exact ⟨_, stp_new h B o 0 (hB _ _ hm (by simp) rfl) rfl, ⟨w.heap.size, 0, 0⟩, by simp, rfl⟩
theorem loopIn_sound (hR : Rel μ H w) (hT : TR μ T a.tmps) (hsz : a.tmps.size = n) {inR : Option Nat} (hro : RO μ inR ro) {dB : Nat} {H0 : AH} {D0 : List ADef} (h : loopIn inR H = some (dB, H0, D0)) (ps : Array Tmp) (as bd : Code) (fn : FuncId) :
    ∃ l mark w1 μ2, (Instr.enterLoop fn a.tmps ps as bd ro).run P w = .ok (l, mark) w1 /\ Stp μ H w μ2 (newBlk H0 (.loop .ready none n T ps.toList as bd dB)) w1 /\ (∃ q, μ2 H0.next = some q /\ q.blk = l) /\ DRs μ2 D0 mark := by
  cases inR with
  | none =>
    have hro : ro = none := hro
    subst hro
    simp only [loopIn, Option.some.injEq, Prod.mk.injEq] at h
    obtain ⟨rfl, rfl, rfl⟩ := h
    obtain ⟨μ1, s1, p1, hp1, hb1⟩ := stp_alloc hR .dfrd (.deferred (some [])) fun μ' p _ _ hb => by
      show (w.alloc (.deferred (some []))).heap[p.blk]? = _
      rw [hb]; exact World.alloc_heap_new w _
    obtain ⟨μ2, s2, p2, hp2, hb2⟩ := stp_alloc s1.rel (.loop .ready none n T ps.toList as bd H.next) (.loop { state := .ready, pending := none, fn, tmps := a.tmps, params := ps, assign := as, body := bd, defers := w.heap.size }) fun μ' p hm _ hb => by
      refine ⟨_, by rw [hb]; exact World.alloc_heap_new _ _, rfl, rfl, (hT.mono s1.le).mono hm, hsz, rfl, rfl, rfl, p1, hm _ _ hp1, hb1⟩
    refine ⟨_, _, _, μ2, run_enterLoop_outer fn a.tmps ps as bd, s1.trans s2, ⟨p2, hp2, by rw [hb2]; simp⟩, ?_⟩
    rw [<- hb1]
    exact .coll _ _ _ _ (s2.le _ _ hp1) .nil
  | some b =>
    obtain ⟨p, hp, rfl⟩ := hro
    simp only [loopIn] at h
    split at h <;> try (cases h; done)
    rename_i st pend n' T' ps' as' bd' dB' hb
    simp only [Option.some.injEq, Prod.mk.injEq] at h
    obtain ⟨rfl, rfl, rfl⟩ := h
    obtain ⟨p', hp', r, hr, hl⟩ := hR.blk b _ hb
    rw [hp] at hp'; cases hp'
    obtain ⟨q, hq1, hq2⟩ := hl.defers
    obtain ⟨μ2, s2, p2, hp2, hb2⟩ := stp_alloc hR (.loop .ready none n T ps.toList as bd dB') (.loop { state := .ready, pending := none, fn, tmps := a.tmps, params := ps, assign := as, body := bd, defers := r.defers }) fun μ' p hm _ hb => by
      exact ⟨{ state := .ready, pending := none, fn, tmps := a.tmps, params := ps, assign := as, body := bd, defers := r.defers }, by rw [hb]; exact World.alloc_heap_new _ _, rfl, rfl, hT.mono hm, hsz, rfl, rfl, rfl, q, hm _ _ hq1, hq2⟩
    refine ⟨w.heap.size, [], _, μ2, ?_, s2, ⟨p2, hp2, hb2⟩, .nil⟩
    unfold Instr.enterLoop
    simp only [Sem.run_bind, run_getLoop hr, run_newObj_alloc, Result.andThen, Sem.run_pure]
theorem rangeFunc_sound (hC : CallOk P callF) (hN : NamesOk P) {nn : Nat} {inR : Option Nat} {g : Operand} {ps : Array Tmp} {as bd : Code} {gf : FuncId} {first cap : List AV} {dB : Nat} {H0 H2 : AH} {D0 : List ADef} {z : AV} {e : AExit} {Q : Exit -> Act -> World -> Prop}
    (hR : Rel μ H w) (hA : AR μ n T D a) (hro : RO μ inR ro) (hg : evX H.G T g = some (.fn (.func gf) first cap)) (hin : loopIn inR H = some (dB, H0, D0)) (hb : hasBody P gf = true)
    (hcall : callF (.fn gf) (first ++ .yld H0.next :: cap) (newBlk H0 (.loop .ready none n T ps.toList as bd dB)) = some (z, H2)) (hout : loopOut H0.next T (D0 ++ D) H2 = .ok e T' D' H')
    (hQ : ∀ a' w', Ends μ H w n T' D' H' a' w' -> Q e.exit' a' w') : (Code.rangeFunc g ps as bd).wpIn (Fr ro) nn P Q a w := by
  apply wpIn_rangeFunc
  intro fn _
  obtain ⟨l, mark, w1, μ2, h1, s1, ⟨q, hq1, hq2⟩, hd⟩ := loopIn_sound (P := P) (n := n) hR hA.tmps hA.size hro hin ps as bd fn
  obtain ⟨fa, ca, hfe, hfa, hca⟩ := fn_inv (evX_sound hR hA.tmps hg)
  obtain ⟨fnd, cb, hfn, hcb⟩ : ∃ fnd cb, P.funcs[gf]? = some fnd /\ fnd.body = some cb := by
    unfold hasBody at hb
    split at hb <;> try (cases hb; done)
    rename_i fnd hf
    split at hb <;> try (cases hb; done)
    rename_i cb hcb
    exact ⟨fnd, cb, hf, hcb⟩
  have hvs : VRs μ2 (first ++ .yld H0.next :: cap) (fa ++ .func (.yield l) ⟨[]⟩ ⟨[]⟩ :: ca) := by
    refine (hfa.mono s1.le).append (.cons _ _ _ _ ?_ (hca.mono s1.le))
    rw [<- hq2]; exact .yld _ _ hq1
  refine ⟨l, mark, w1, _, w1, gf, ⟨fa ++ .func (.yield l) ⟨[]⟩ ⟨[]⟩ :: ca⟩, w1, h1, run_resolve_fn (c := rangeCall g l) rfl hfe, fun _ _ => trivial, ?_, fun hd => by simp [Fr] at hd, ?_⟩
  · have e1 : (⟨fa⟩ : Array Value) ++ (rangeCall g l).args.map a.eval ++ ⟨ca⟩ = ⟨fa ++ .func (.yield l) ⟨[]⟩ ⟨[]⟩ :: ca⟩ := by apply Array.ext'; simp [rangeCall, Act.eval]
    simp only [invoke, e1]
    exact run_callFunc_body hN hfn hcb _
  · refine calls_Fr ((hC.fn gf _ _ z H2 hcall μ2 w1 _ s1.rel hvs).mono ?_)
    rintro x w3 ⟨u, μ3, rfl, _, s3⟩
    unfold loopOut at hout
    split at hout <;> try (cases hout; done)
    rename_i st pend n3 T3 ps3 as3 bd3 dB3 hget
    obtain ⟨q3, hq3, r, hr, hl⟩ := s3.rel.blk _ _ hget
    rw [s3.le _ _ hq1] at hq3; cases hq3
    rw [hq2] at hr
    have hnb : r.state ≠ .busy := by
      rw [hl.st]
      intro hc; subst hc
      simp at hout
    have hout2 : ∃ e1, jumpA pend = some e1 /\ CR.ok e1 T (D0 ++ D) { next := H2.next, m := H2.m.put H0.next (.loop .exhausted pend n3 T3 ps3 as3 bd3 dB3), G := H2.G } = .ok e T' D' H' := by
      cases st <;> simp only at hout <;> first
        | (cases hout; done)
        | (split at hout
           · rename_i e1 he1; exact ⟨e1, he1, hout⟩
           · cases hout)
    obtain ⟨e1, he1, hout3⟩ := hout2
    simp only [CR.ok.injEq] at hout3
    obtain ⟨rfl, rfl, rfl, rfl⟩ := hout3
    have hlt : l < w3.heap.size := (Array.getElem?_eq_some_iff.1 hr).1
    have s4 := stp_set (w' := w3.putObj l (.loop { r with state := .exhausted })) s3.rel hget rfl (B' := .loop .exhausted pend n3 T3 ps3 as3 bd3 dB3) rfl (s3.le _ _ hq1) (by simp)
      (fun k hk => World.putObj_heap_other (by rw [<- hq2]; exact hk)) ⟨{ r with state := .exhausted }, by rw [hq2]; exact World.putObj_heap_same hlt, rfl, hl.pend, hl.tmps, hl.size, hl.params, hl.assign, hl.body, hl.defers⟩ rfl rfl rfl
    have hends : Ends μ H w n T (D0 ++ D) { next := H2.next, m := H2.m.put H0.next (.loop .exhausted pend n3 T3 ps3 as3 bd3 dB3), G := H2.G } { a with defers := mark ++ a.defers } (w3.putObj l (.loop { r with state := .exhausted })) :=
      ⟨μ3, (s1.trans s3).trans s4, hA.tmps.mono (Mp.le_trans s1.le s3.le), hA.size, (hd.append (hA.defers.mono s1.le)).mono s3.le⟩
    have hq := hQ _ _ hends
    have hrun := run_endLoop (P := P) hr hnb
    have hpe := hl.pend
    generalize w3.putObj l (.loop { r with state := .exhausted }) = w4 at hq hrun
    refine ⟨r.pending, w4, hrun, ?_⟩
    rw [hpe]
    cases pend with
    | none => simp only [jumpA, Option.some.injEq] at he1; subst he1; exact hq
    | some c =>
      cases c <;> simp only [jumpA, Option.some.injEq] at he1 <;> first
        | (cases he1; done)
        | (subst he1; exact wpIn_exit hq)
        | (subst he1; exact wpIn_ret hq)
theorem evCode_sound (hX : ExtOk P X) (hC : CallOk P callF) (hN : NamesOk P) {regD : Nat -> List Oper -> Tr AV -> AH -> OR} (hD : RegOk P regD) {nn : Nat} {inR : Option Nat} :
    ∀ (fuel : Nat) (c : Code) (T : Tr AV) (D : List ADef) (H : AH) (e : AExit) (T' : Tr AV) (D' : List ADef) (H' : AH), evCode P X callF regD n inR fuel c T D H = .ok e T' D' H' ->
      ∀ (μ : Mp) (w : World) (a : Act) (Q : Exit -> Act -> World -> Prop), Rel μ H w -> AR μ n T D a -> RO μ inR ro -> (∀ a' w', Ends μ H w n T' D' H' a' w' -> Q e.exit' a' w') ->
        c.wpIn (Fr ro) nn P Q a w /\ ∀ b, c = .loop b -> LoopWp (Fr ro) nn P b Q a w
  | 0, c, T, D, H, e, T', D', H', h, μ, w, a, Q, hR, hA, hro, hQ => by simp [evCode] at h
  | fuel + 1, c, T, D, H, e, T', D', H', h, μ, w, a, Q, hR, hA, hro, hQ => by
    have here : T' = T -> D' = D -> H' = H -> Q e.exit' a w := fun h1 h2 h3 => by
      subst h1; subst h2; subst h3
      exact hQ a w ⟨μ, Stp.refl hR, hA⟩
    cases c with
    | skip =>
      simp only [evCode, CR.ok.injEq] at h
      obtain ⟨rfl, rfl, rfl, rfl⟩ := h
      exact ⟨wpIn_skip (here rfl rfl rfl), fun b hb => by cases hb⟩
    | label l =>
      simp only [evCode, CR.ok.injEq] at h
      obtain ⟨rfl, rfl, rfl, rfl⟩ := h
      exact ⟨wpIn_label (here rfl rfl rfl), fun b hb => by cases hb⟩
    | ret =>
      simp only [evCode, CR.ok.injEq] at h
      obtain ⟨rfl, rfl, rfl, rfl⟩ := h
      exact ⟨wpIn_ret (here rfl rfl rfl), fun b hb => by cases hb⟩
    | exit id =>
      simp only [evCode, CR.ok.injEq] at h
      obtain ⟨rfl, rfl, rfl, rfl⟩ := h
      exact ⟨wpIn_exit (here rfl rfl rfl), fun b hb => by cases hb⟩
    | seq x y =>
      refine ⟨?_, fun b hb => by cases hb⟩
      simp only [evCode] at h
      apply wpIn_seq
      split at h
      · rename_i T1 D1 H1 h1
        refine (evCode_sound hX hC hN hD fuel x T D H .normal T1 D1 H1 h1 μ w a _ hR hA hro ?_).1
        rintro a1 w1 ⟨μ1, s1, hA1⟩
        exact (evCode_sound hX hC hN hD fuel y T1 D1 H1 e T' D' H' h μ1 w1 a1 Q s1.rel hA1 (hro.mono s1.le) fun a2 w2 ⟨μ2, s2, hA2⟩ => hQ a2 w2 ⟨μ2, s1.trans s2, hA2⟩).1
      · rename_i hne
        refine (evCode_sound hX hC hN hD fuel x T D H e T' D' H' h μ w a _ hR hA hro ?_).1
        intro a1 w1 h1
        have := hQ a1 w1 h1
        cases e with
        | normal => exact absurd h (hne _ _ _)
        | exit id => exact this
        | ret => exact this
    | cond x y z =>
      refine ⟨?_, fun b hb => by cases hb⟩
      simp only [evCode] at h
      split at h
      · rename_i hx
        have := bool_inv (evX_sound hR hA.tmps hx)
        exact wpIn_cond this (evCode_sound hX hC hN hD fuel y T D H e T' D' H' h μ w a Q hR hA hro hQ).1
      · rename_i hx
        have := bool_inv (evX_sound hR hA.tmps hx)
        exact wpIn_cond this (evCode_sound hX hC hN hD fuel z T D H e T' D' H' h μ w a Q hR hA hro hQ).1
      · cases h
    | block id x =>
      refine ⟨?_, fun b hb => by cases hb⟩
      simp only [evCode] at h
      apply wpIn_block
      split at h
      · rename_i id' T1 D1 H1 h1
        split at h
        · rename_i hid
          have hid := Nat.eq_of_beq_eq_true hid
          simp only [CR.ok.injEq] at h
          obtain ⟨rfl, rfl, rfl, rfl⟩ := h
          refine (evCode_sound hX hC hN hD fuel x T D H (.exit id') T1 D1 H1 h1 μ w a _ hR hA hro ?_).1
          intro a1 w1 h2
          show Exit.inBlock id Q (.exit id') a1 w1
          simp only [Exit.inBlock, hid, if_true]
          exact hQ a1 w1 h2
        · rename_i hid
          have hid := Nat.ne_of_beq_eq_false hid
          simp only [CR.ok.injEq] at h
          obtain ⟨rfl, rfl, rfl, rfl⟩ := h
          refine (evCode_sound hX hC hN hD fuel x T D H (.exit id') T1 D1 H1 h1 μ w a _ hR hA hro ?_).1
          intro a1 w1 h2
          show Exit.inBlock id Q (.exit id') a1 w1
          simp only [Exit.inBlock, hid, if_false]
          exact hQ a1 w1 h2
      · rename_i hne
        refine (evCode_sound hX hC hN hD fuel x T D H e T' D' H' h μ w a _ hR hA hro ?_).1
        intro a1 w1 h1
        have := hQ a1 w1 h1
        cases e with
        | normal => exact this
        | exit id => exact absurd h (hne _ _ _ _)
        | ret => exact this
    | loop x =>
      have key : LoopWp (Fr ro) nn P x Q a w := by
        simp only [evCode] at h
        apply loopWp_round
        split at h
        · rename_i T1 D1 H1 h1
          refine (evCode_sound hX hC hN hD fuel x T D H .normal T1 D1 H1 h1 μ w a _ hR hA hro ?_).1
          rintro a1 w1 ⟨μ1, s1, hA1⟩
          exact (evCode_sound hX hC hN hD fuel (.loop x) T1 D1 H1 e T' D' H' h μ1 w1 a1 Q s1.rel hA1 (hro.mono s1.le) fun a2 w2 ⟨μ2, s2, hA2⟩ => hQ a2 w2 ⟨μ2, s1.trans s2, hA2⟩).2 x rfl
        · rename_i hne
          refine (evCode_sound hX hC hN hD fuel x T D H e T' D' H' h μ w a _ hR hA hro ?_).1
          intro a1 w1 h1
          have := hQ a1 w1 h1
          cases e with
          | normal => exact absurd h (hne _ _ _)
          | exit id => exact this
          | ret => exact this
      exact ⟨wpIn_of_loopWp key, fun b hb => by cases hb; exact key⟩
    | region id ops draw =>
      refine ⟨?_, fun b hb => by cases hb⟩
      simp only [evCode] at h
      split at h
      · split at h
        · rename_i T1 D1 H1 h1
          simp only [CR.ok.injEq] at h
          obtain ⟨rfl, rfl, rfl, rfl⟩ := h
          apply wpIn_region
          have := evOps_sound (ro := ro) (nn := nn) (Q := Q) (inR := inR) hX hC hN (fun he => by subst he; exact hro) ops.toList 0 T D H μ w a (by simp) hR hA h1 hQ
          rw [List.range_eq_range']
          simpa using this
        · cases h
      · split at h
        · rename_i T1 D1 H1 h1
          simp only [CR.ok.injEq] at h
          obtain ⟨rfl, rfl, rfl, rfl⟩ := h
          exact hD n ops T H T1 D1 H1 h1 id nn ro D μ w a Q hR hA hQ
        · cases h
    | rangeFunc g ps as bd =>
      refine ⟨?_, fun b hb => by cases hb⟩
      simp only [evCode] at h
      split at h <;> try (cases h; done)
      rename_i gf first cap hg
      split at h <;> try (cases h; done)
      rename_i dB H0 D0 hin hbody
      split at h <;> try (cases h; done)
      rename_i z H2 hcall
      exact rangeFunc_sound hC hN hR hA hro hg hin hbody hcall h hQ
    | scope x => simp [evCode] at h
    | goto l => simp [evCode] at h
    | refuse w => simp [evCode] at h
end
end Go.Ev
/- Bodies, deferred calls, calls. -/
set_option linter.unusedSimpArgs false
set_option linter.unusedVariables false
namespace Go.Ev
open Go
section
variable {P : Program} {X : Ext} {callF : CallF} {μ : Mp} {H H' : AH} {w : World} {T T' : Tr AV} {D D' : List ADef} {a : Act} {n : Nat}
theorem start_AR {args : List AV} {vs : List Value} {m : Nat} (hv : VRs μ args vs) (hm : args.length <= m) : AR μ m (ofL args) [] { tmps := ⟨vs⟩ ++ Array.replicate (m - (⟨vs⟩ : Array Value).size) undef, defers := [] } := by
  have hl := hv.length
  refine ⟨fun t x hx => ?_, by simp; omega, .nil⟩
  rw [ofL_get] at hx
  obtain ⟨v, hv1, hv2⟩ := hv.get hx
  have ht : t < vs.length := (List.getElem?_eq_some_iff.1 hv1).1
  exact ⟨v, by rw [Array.getElem?_append_left (by simpa using ht)]; simpa using hv1, hv2⟩
def resF (tmps : Array Value) : ResultVar -> Sem Value
  | .tmp t => pure (tmps.getD t undef)
  | .cell b t => do loadVar t (<- asAddr (tmps.getD b undef))
theorem results_resF (fn : Func) (tmps : Array Value) : results fn tmps = (do
    let vs <- fn.results.mapM (resF tmps)
    pure (if h : vs.size = 1 then vs[0] else .tuple vs)) := rfl
theorem resA_sound (hR : Rel μ H w) (hT : TR μ T a.tmps) : ∀ {rs : List ResultVar} {l : List AV}, resA P T H rs = some l ->
    ∃ vs : List Value, (rs.mapM (resF a.tmps)).run P w = .ok vs w /\ VRs μ l vs
  | [], l, h => by simp [resA] at h; subst h; exact ⟨[], rfl, .nil⟩
  | .tmp t :: rs, l, h => by
    simp only [resA] at h
    split at h
    · cases h
    · rename_i x hx
      split at h
      · cases h
      · rename_i r hr
        simp only [Option.some.injEq] at h; subst h
        obtain ⟨v, hv, hvr⟩ := hT t x hx
        obtain ⟨vs, h1, h2⟩ := resA_sound hR hT hr
        refine ⟨v :: vs, ?_, .cons _ _ _ _ hvr h2⟩
        have hF : (resF a.tmps (.tmp t)).run P w = .ok v w := by simp [resF, hv]
        simp only [List.mapM_cons, Sem.run_bind, hF, h1, Result.andThen_ok, Sem.run_pure]
  | .cell b t :: rs, l, h => by
    simp only [resA] at h
    split at h
    · rename_i bb off hx
      split at h
      · cases h
      · rename_i x hl
        split at h
        · cases h
        · rename_i r hr
          simp only [Option.some.injEq] at h; subst h
          obtain ⟨v, hv, hvr⟩ := hT b _ hx
          obtain ⟨p, hp, rfl⟩ := ptr_inv hvr
          obtain ⟨u, hu, hur⟩ := evLoad_sound (P := P) hR hp hl
          obtain ⟨vs, h1, h2⟩ := resA_sound hR hT hr
          refine ⟨u :: vs, ?_, .cons _ _ _ _ hur h2⟩
          have hF : (resF a.tmps (.cell b t)).run P w = .ok u w := by simp [resF, hv, asAddr, hu]
          simp only [List.mapM_cons, Sem.run_bind, hF, h1, Result.andThen_ok, Sem.run_pure]
    · cases h
theorem results_sound (hR : Rel μ H w) (hT : TR μ T a.tmps) {fn : Func} {l : List AV} (h : resA P T H fn.results.toList = some l) : ∃ v, (results fn a.tmps).run P w = .ok v w /\ VR μ (tupA l) v := by
  obtain ⟨vs, h1, h2⟩ := resA_sound (P := P) hR hT h
  have hm : (fn.results.mapM (resF a.tmps)).run P w = .ok vs.toArray w := by
    rw [Array.mapM_eq_mapM_toList]
    simp [h1]
  cases h2 with
  | nil => exact ⟨.tuple #[], by rw [results_resF]; simp only [Sem.run_bind]; rw [hm]; simp, .tup _ _ .nil⟩
  | cons x v l' a' hx ht =>
    cases ht with
    | nil => exact ⟨v, by rw [results_resF]; simp only [Sem.run_bind]; rw [hm]; simp, hx⟩
    | cons x2 v2 l2 a2 hx2 ht2 =>
      refine ⟨.tuple (v :: v2 :: a2).toArray, ?_, .tup _ _ (.cons _ _ _ _ hx (.cons _ _ _ _ hx2 ht2))⟩
      rw [results_resF]
      simp only [Sem.run_bind]
      rw [hm]
      simp
theorem drs_nil {ds : List Deferred} (h : DRs μ [] ds) : ds = [] := by cases h; rfl
structure EvOk (P : Program) (X : Ext) (regD : CallF -> Nat -> List Oper -> Tr AV -> AH -> OR) : Prop where
  ext : ExtOk P X
  names : NamesOk P
  reg : ∀ callF, CallOk P callF -> RegOk P (regD callF)
theorem evBody_sound {regD : CallF -> Nat -> List Oper -> Tr AV -> AH -> OR} (hE : EvOk P X regD) (hC : CallOk P callF) {fn : Func} {args : List AV} {vs : List Value} {e : AExit} {nn : Nat} {Q : Exit -> Act -> World -> Prop}
    (hR : Rel μ H w) (hv : VRs μ args vs) (h : evBody P X callF regD fn args H = .ok e T' D' H') (hQ : ∀ a' w', Ends μ H w fn.ntmps T' D' H' a' w' -> Q e.exit' a' w') :
    ∃ c, fn.body = some c /\ c.wpIn (Fr none) nn P Q { tmps := ⟨vs⟩ ++ Array.replicate (fn.ntmps - (⟨vs⟩ : Array Value).size) undef, defers := [] } w := by
  unfold evBody at h
  split at h
  · cases h
  · rename_i c hc
    split at h
    · cases h
    · rename_i hle
      exact ⟨c, hc, (evCode_sound (inR := none) hE.ext hC hE.names (hE.reg callF hC) _ c _ _ H e T' D' H' h μ w _ Q hR (start_AR hv (ble hle)) rfl hQ).1⟩
theorem evOpsD_sound (hX : ExtOk P X) {ops : Array Oper} {Q : Exit -> Act -> List Frame -> World -> Prop} {nn : Nat} {cs : List Frame} (hcs : recoverD cs = none) :
    ∀ (rest : List Oper) (k : Nat) (T : Tr AV) (H : AH) (μ : Mp) (w : World) (a : Act), ops.toList.drop k = rest -> Rel μ H w -> AR μ n T [] a ->
      evOpsD P X n ops.toList rest T H = .done T' D' H' -> (∀ a' w', Ends μ H w n T' [] H' a' w' -> Q .normal a' cs w') -> wpOpsSIn (Fr none) nn P ops Q (List.range' k rest.length) a cs w
  | [], k, T, H, μ, w, a, hk, hR, hA, h, hQ => by
    simp only [evOpsD, OR.done.injEq] at h
    obtain ⟨rfl, _, rfl⟩ := h
    exact hQ a w ⟨μ, Stp.refl hR, hA⟩
  | o :: rest, k, T, H, μ, w, a, hk, hR, hA, h, hQ => by
    have hok : ops[k]? = some o := by
      have := congrArg (fun l => l[0]?) hk
      simpa using this
    have hk' : ops.toList.drop (k + 1) = rest := by
      rw [<- List.drop_drop, hk]; rfl
    simp only [List.length_cons, List.range'_succ, wpOpsSIn, hok]
    refine ⟨fun _ _ => trivial, ?_⟩
    simp only [evOpsD] at h
    split at h
    · cases h
    · rename_i hw
      have hw := wantedA_sound hA.tmps hw
      simp only [hw, Bool.false_eq_true, if_false]
      split at h
      · rename_i T1 hT1
        exact evOpsD_sound hX hcs rest (k + 1) T1 H μ w (a.put o.dst undef) hk' hR (putA_AR hA unAV_VR hT1) h hQ
      · cases h
    · rename_i hw
      have hw := wantedA_sound hA.tmps hw
      simp only [hw, if_true]
      split at h
      · rename_i hrec
        split at h
        · rename_i T1 hT1
          have hrun : (execOp a.eval o).run P w = .ok .recover w := by
            unfold isRecA at hrec
            split at hrec <;> try (cases hrec; done)
            rename_i c ho
            split at hrec <;> try (cases hrec; done)
            rename_i b hb
            split at hrec <;> try (cases hrec; done)
            unfold execOp
            simp only [ho, Sem.run_bind, resolve, hb, Sem.run_pure, Result.andThen_ok, invoke]
            rfl
          rw [hrun]
          simp only [hcs]
          exact evOpsD_sound hX hcs rest (k + 1) T1 H μ w (a.put o.dst .nilIface) hk' hR (putA_AR hA .nili hT1) h hQ
        · cases h
      · split at h
        · rename_i v H1 hop
          split at h
          · rename_i T1 hT1
            obtain ⟨nx, u, μ', w', r1, r2, r3, r4⟩ := evOp_val hR hA.tmps hX hop
            rw [r1]
            have hk := evOpsD_sound (Q := Q) (nn := nn) hX hcs rest (k + 1) T1 H1 μ' w' (a.put o.dst u) hk' r4.rel (putA_AR (hA.mono r4.le) r3 hT1) h fun a2 w2 ⟨μ2, s2, hA2⟩ => hQ a2 w2 ⟨μ2, r4.trans s2, hA2⟩
            rcases r2 with rfl | ⟨rfl, rfl⟩
            · exact hk
            · exact hk
          · cases h
        · cases h
theorem evCodeD_sound (hX : ExtOk P X) (hC : CallOk P callF) (hN : NamesOk P) {regD : Nat -> List Oper -> Tr AV -> AH -> OR} (hD : RegOk P regD) {nn fuel : Nat} {cs : List Frame} (hcs : recoverD cs = none) :
    ∀ (c : Code) (T : Tr AV) (H : AH) (e : AExit) (T' : Tr AV) (D' : List ADef) (H' : AH), evCodeD P X callF regD n fuel c T H = .ok e T' D' H' -> ∀ (μ : Mp) (w : World) (a : Act) (Q : Exit -> Act -> List Frame -> World -> Prop),
      Rel μ H w -> AR μ n T [] a -> (∀ a' w', Ends μ H w n T' D' H' a' w' -> Q e.exit' a' cs w') -> c.wpSIn (Fr none) nn P Q a cs w := by
  have other : ∀ (c : Code) (T : Tr AV) (H : AH) (e : AExit) (T' : Tr AV) (D' : List ADef) (H' : AH), evCode P X callF regD n none fuel c T [] H = .ok e T' D' H' -> ∀ (μ : Mp) (w : World) (a : Act) (Q : Exit -> Act -> List Frame -> World -> Prop),
      Rel μ H w -> AR μ n T [] a -> (∀ a' w', Ends μ H w n T' D' H' a' w' -> Q e.exit' a' cs w') -> c.wpSIn (Fr none) nn P Q a cs w := by
    intro c T H e T' D' H' h μ w a Q hR hA hQ
    exact wpSIn_of_wpIn rfl (evCode_sound (inR := none) (ro := none) hX hC hN hD fuel c T [] H e T' D' H' h μ w a _ hR hA rfl hQ).1
  intro c
  induction c with
  | seq x y ihx ihy =>
    intro T H e T' D' H' h μ w a Q hR hA hQ
    simp only [evCodeD] at h
    refine wpSIn_seq ?_
    split at h
    · rename_i T1 H1 h1
      refine ihx _ _ _ _ _ _ h1 μ w a _ hR hA ?_
      rintro a1 w1 ⟨μ1, s1, hA1⟩
      exact ihy _ _ _ _ _ _ h μ1 w1 a1 Q s1.rel hA1 fun a2 w2 ⟨μ2, s2, hA2⟩ => hQ a2 w2 ⟨μ2, s1.trans s2, hA2⟩
    · cases h
    · rename_i hne1 hne2
      refine ihx _ _ _ _ _ _ h μ w a _ hR hA ?_
      intro a1 w1 hE
      cases e with
      | normal =>
        cases D' with
        | nil => exact absurd h (hne1 _ _)
        | cons d D => exact absurd h (hne2 _ _ _ _)
      | exit id => exact hQ a1 w1 hE
      | ret => exact hQ a1 w1 hE
  | region id ops draw =>
    intro T H e T' D' H' h μ w a Q hR hA hQ
    simp only [evCodeD] at h
    split at h
    · split at h <;> try (cases h; done)
      rename_i hops
      simp only [CR.ok.injEq] at h
      obtain ⟨rfl, rfl, rfl, rfl⟩ := h
      refine wpSIn_region ?_
      have := evOpsD_sound (nn := nn) (Q := Q) hX hcs ops.toList 0 T H μ w a (by simp) hR hA hops hQ
      rw [List.range_eq_range']
      simpa using this
    · exact other _ _ _ _ _ _ _ h μ w a Q hR hA hQ
  | _ => exact fun T H e T' D' H' h => other _ _ _ _ _ _ _ (by simpa only [evCodeD] using h)
theorem evBodyD_sound {regD : CallF -> Nat -> List Oper -> Tr AV -> AH -> OR} (hE : EvOk P X regD) (hC : CallOk P callF) {fn : Func} {args : List AV} {vs : List Value} {e : AExit} {nn : Nat} {cs : List Frame} (hcs : recoverD cs = none)
    {Q : Exit -> Act -> List Frame -> World -> Prop}
    (hR : Rel μ H w) (hv : VRs μ args vs) (h : evBodyD P X callF regD fn args H = .ok e T' D' H') (hQ : ∀ a' w', Ends μ H w fn.ntmps T' D' H' a' w' -> Q e.exit' a' cs w') :
    ∃ c, fn.body = some c /\ c.wpSIn (Fr none) nn P Q { tmps := ⟨vs⟩ ++ Array.replicate (fn.ntmps - (⟨vs⟩ : Array Value).size) undef, defers := [] } cs w := by
  unfold evBodyD at h
  split at h
  · cases h
  · rename_i c hc
    split at h
    · cases h
    · rename_i hle
      exact ⟨c, hc, evCodeD_sound hE.ext hC hE.names (hE.reg callF hC) hcs c _ H e T' D' H' h μ w _ Q hR (start_AR hv (ble hle)) hQ⟩
theorem evBodyD_has {regD : CallF -> Nat -> List Oper -> Tr AV -> AH -> OR} {fn : Func} {args : List AV} {e : AExit} (h : evBodyD P X callF regD fn args H = .ok e T' D' H') : ∃ c, fn.body = some c := by
  unfold evBodyD at h
  split at h
  · cases h
  · rename_i c hc; exact ⟨c, hc⟩
theorem stp_drop (hR : Rel μ H w) {b : Nat} {B : AB} {p : Pl} (hb : H.m.get b = some B) (hro : B.ro = false) (hp : μ b = some p) (o : Obj) :
    Stp μ H w μ { next := H.next, m := H.m.del b, G := H.G } (w.putObj p.blk o) := by
  have get : ∀ c C, (H.m.del b).get c = some C -> c ≠ b /\ H.m.get c = some C := fun c C hc => by
    rw [Tr.get_del] at hc
    split at hc
    · cases hc
    · rename_i hne; exact ⟨hne, hc⟩
  refine ⟨Mp.le_refl _, Nat.le_refl _, fun _ _ h => h, ⟨fun c C hc => ?_, fun c c' q q' C C' hc hc' => hR.inj c c' q q' C C' (get c C hc).2 (get c' C' hc').2, hR.fresh, hR.glob⟩,
    ⟨by simp, fun k _ hno => World.putObj_heap_other fun hk => hno b B p hb hro hp hk.symm, rfl, rfl, rfl⟩, fun c C q hc hq => .inr ⟨c, C, q, (get c C hc).2, id, hq, rfl⟩⟩
  obtain ⟨hne, hc⟩ := get c C hc
  obtain ⟨q, hq, hr⟩ := hR.blk c C hc
  exact ⟨q, hq, hr.of_heap (World.putObj_heap_other fun hk => hne (hR.inj c b q p C B hc hb hq hp hk))⟩
theorem evDefers_sound {regD : CallF -> Nat -> List Oper -> Tr AV -> AH -> OR} (hE : EvOk P X regD) (hC : CallOk P callF) {fn0 : Func} {tmps : Array Value} {R : Ending -> World -> Prop} {nn : Nat} :
    ∀ (D : List ADef) (ds : List Deferred) (μ : Mp) (H H' : AH) (w : World), Rel μ H w -> DRs μ D ds -> evDefers P X callF regD D H = some H' ->
      (∀ μ' w', Stp μ H w μ' H' w' -> ∃ v, (results fn0 tmps).run P w' = .ok v w' /\ R (.returned v) w') -> LeavesInM (Fr none) nn P fn0 tmps R ds .returning w
  | [], ds, μ, H, H', w, hR, hD, h, hq => by
    cases hD
    simp only [evDefers, Option.some.injEq] at h; subst h
    exact hq μ w (Stp.refl hR)
  | .coll b :: D, ds, μ, H, H', w, hR, hD, h, hq => by
    cases hD with
    | coll _ p _ ds' hp ht =>
      simp only [evDefers] at h
      split at h <;> try (cases h; done)
      rename_i hb
      obtain ⟨p', hp', hr⟩ := hR.blk b _ hb
      rw [hp] at hp'; cases hp'
      have s1 := stp_drop hR hb rfl hp (.deferred none)
      exact ⟨by simp, .inl ⟨p.blk, _, rfl, run_takeDeferred hr, evDefers_sound hE hC D ds' μ _ H' _ s1.rel ht h fun μ2 w3 s2 => hq μ2 w3 (s1.trans s2)⟩⟩
  | .call g captured args :: D, ds, μ, H, H', w, hR, hD, h, hq => by
    cases hD with
    | cons _ _ _ cv av _ ds' hc ha ht =>
      simp only [evDefers] at h
      split at h
      · cases h
      · rename_i fn hfn
        split at h
        · rename_i e T1 D1 H1 hb
          split at h
          · rename_i l hex hres
            have hvs := ha.append hc
            obtain ⟨c, hbody⟩ := evBodyD_has hb
            refine ⟨by simp, .inr ⟨fun hd => by simp [Fr] at hd, .func g, ⟨cv⟩, g, ⟨av ++ cv⟩, rfl, ?_, fun _ _ => trivial, ?_⟩⟩
            · have e1 : (⟨av⟩ : Array Value) ++ ⟨cv⟩ = ⟨av ++ cv⟩ := by apply Array.ext'; simp
              simp only [invoke, e1]
              exact run_callFunc_body hE.names hfn hbody _
            · have hD1 : D1 = [] /\ (e = .normal \/ e = .ret) := by
                cases e <;> cases D1 <;> simp_all
              obtain ⟨rfl, he⟩ := hD1
              refine callsDIn_of_wpSIn (F := Fr none) (u := .returning) hfn hbody trivial fun c0 cs0 hmode => ?_
              have hrec : recoverD (c0 :: cs0) = none := by simp [recoverD, hmode]
              have hc0 : ({ c0 with mode := FrameMode.returning } : Frame) = c0 := by cases c0; simp at hmode; subst hmode; rfl
              obtain ⟨c', hb2, hwp⟩ := evBodyD_sound (nn := nn - 1) (cs := c0 :: cs0) (Q := bodyPostS P fn c0 cs0 fun
                  | .returned _, u', w' => LeavesInM (Fr none) nn P fn0 tmps R ds' (settle u') w'
                  | .panicked chain, u', w' => LeavesInM (Fr none) nn P fn0 tmps R ds' (raised u' chain) w'
                  | .outgrown, _, w' => R .outgrown w') hE hC hrec hR hvs hb (by
                rintro a1 w1 ⟨μ1, s1, hA1⟩
                obtain ⟨v, hv1, hv2⟩ := results_sound (P := P) s1.rel hA1.tmps hres
                have hd : a1.defers = [] := drs_nil hA1.defers
                have hgo : LeavesInM (Fr none) nn P fn0 tmps R ds' .returning w1 := evDefers_sound hE hC D ds' μ1 H1 H' w1 s1.rel (ht.mono s1.le) h fun μ2 w3 s2 => hq μ2 w3 (s1.trans s2)
                rcases he with rfl | rfl
                · exact ⟨hd, .returning, by rw [hc0], v, hv1, hgo⟩
                · exact ⟨hd, .returning, by rw [hc0], v, hv1, hgo⟩)
              rw [hbody] at hb2; cases hb2
              exact hwp
          · cases h
        · cases h
theorem putPs_AR : ∀ {ps : List Tmp} {args : List AV} {vs : List Value} {T T1 : Tr AV} {tmps : Array Value}, putPs n T ps args = some T1 -> VRs μ args vs -> AR μ n T [] { tmps, defers := [] } ->
    ps.length = vs.length /\ AR μ n T1 [] { tmps := (ps.zip vs).foldl (fun tmps (t, a) => tmps.setIfInBounds t a) tmps, defers := [] }
  | [], [], vs, T, T1, tmps, h, hv, hA => by
    cases hv
    simp only [putPs, Option.some.injEq] at h; subst h
    exact ⟨rfl, hA⟩
  | [], _ :: _, vs, T, T1, tmps, h, hv, hA => by simp [putPs] at h
  | _ :: _, [], vs, T, T1, tmps, h, hv, hA => by simp [putPs] at h
  | t :: ps, x :: xs, vs, T, T1, tmps, h, hv, hA => by
    cases hv with
    | cons _ v _ vs' hx ht =>
      simp only [putPs] at h
      split at h
      · rename_i T' hT'
        have hA' := putA_AR hA hx hT'
        obtain ⟨h1, h2⟩ := putPs_AR h ht hA'
        exact ⟨by simp [h1], h2⟩
      · cases h
theorem evRound_sound {regD : CallF -> Nat -> List Oper -> Tr AV -> AH -> OR} (hE : EvOk P X regD) (hC : CallOk P callF) {b : Nat} {args : List AV} {z : AV} {vs : List Value} {p : Pl} (ro : Option Nat) (k : Nat)
    (h : evRound P X callF regD b args H = some (z, H')) (hR : Rel μ H w) (hv : VRs μ args vs) (hp : μ b = some p) :
    ∃ r : Loop, w.heap[p.blk]? = some (.loop r) /\ vs.length = r.params.size /\
      RoundIn (Fr ro) k P p.blk r.fn ((r.params.zip ⟨vs⟩).foldl (fun tmps (t, a) => tmps.setIfInBounds t a) r.tmps) r.assign r.body w fun e w' => ∃ u μ', e = .returned u /\ VR μ' z u /\ Stp μ H w μ' H' w' := by
  unfold evRound at h
  split at h <;> try (cases h; done)
  rename_i st pend n0 T0 ps as bd dB hb
  obtain ⟨p', hp', r, hr, hl⟩ := hR.blk b _ hb
  rw [hp] at hp'; cases hp'
  split at h <;> try (cases h; done)
  rename_i T1 hT1
  obtain ⟨hlen, hA1⟩ := putPs_AR (n := n0) (μ := μ) hT1 hv (⟨hl.tmps, hl.size, .nil⟩ : AR μ n0 T0 [] { tmps := r.tmps, defers := [] })
  have hz : (r.params.zip ⟨vs⟩).foldl (fun tmps (t, a) => tmps.setIfInBounds t a) r.tmps = (ps.zip vs).foldl (fun tmps (t, a) => tmps.setIfInBounds t a) r.tmps := by
    rw [<- Array.foldl_toList, Array.toList_zip, hl.params]
  refine ⟨r, hr, by rw [<- hlen, <- hl.params]; simp, ?_⟩
  rw [hz]
  split at h <;> try (cases h; done)
  rename_i T2 H1 hasg
  split at h <;> try (cases h; done)
  rename_i H2 hbeg
  split at h <;> try (cases h; done)
  rename_i e T3 H3 hbody
  rw [hl.assign, hl.body]
  refine roundIn_of_wpIn trivial ?_
  refine (evCode_sound (inR := some b) (ro := some p.blk) hE.ext hC hE.names (hE.reg callF hC) _ as _ _ H .normal T2 [] H1 hasg μ w _ _ hR hA1 ⟨p, hp, rfl⟩ ?_).1
  rintro a1 w1 ⟨μ1, s1, hA2⟩
  have hd1 : a1.defers = [] := drs_nil hA2.defers
  unfold beginR at hbeg
  split at hbeg <;> try (cases hbeg; done)
  rename_i pend1 n1 Tl1 ps1 as1 bd1 dB1 hb1
  simp only [Option.some.injEq] at hbeg
  obtain ⟨p1, hp1, r1, hr1, hl1⟩ := s1.rel.blk b _ hb1
  rw [s1.le _ _ hp] at hp1; cases hp1
  have hlt1 : p.blk < w1.heap.size := (Array.getElem?_eq_some_iff.1 hr1).1
  have s2 := stp_set (w' := w1.putObj p.blk (.loop { r1 with state := .busy })) s1.rel hb1 rfl (B' := .loop .busy pend1 n1 Tl1 ps1 as1 bd1 dB1) rfl (s1.le _ _ hp) (by simp)
    (fun k hk => World.putObj_heap_other hk) ⟨{ r1 with state := .busy }, World.putObj_heap_same hlt1, rfl, hl1.pend, hl1.tmps, hl1.size, hl1.params, hl1.assign, hl1.body, hl1.defers⟩ rfl rfl rfl
  refine ⟨_, run_beginRound hr1 hl1.st, ?_⟩
  subst hbeg
  refine (evCode_sound (inR := some b) (ro := some p.blk) hE.ext hC hE.names (hE.reg callF hC) _ bd _ _ _ e T3 [] H3 hbody μ1 _ a1 _ s2.rel ⟨hA2.tmps, hA2.size, by rw [hd1]; exact .nil⟩ ⟨p, s1.le _ _ hp, rfl⟩ ?_).1
  rintro a3 w3 ⟨μ3, s3, hA3⟩
  have hp3 : μ3 b = some p := s3.le _ _ (s1.le _ _ hp)
  unfold endR at h
  split at h <;> try (cases h; done)
  rename_i st3 pend3 n3 Tl3 ps3 as3 bd3 dB3 hb3
  obtain ⟨p3, hp3', r3, hr3, hl3⟩ := s3.rel.blk b _ hb3
  rw [hp3] at hp3'; cases hp3'
  have hlt3 : p.blk < w3.heap.size := (Array.getElem?_eq_some_iff.1 hr3).1
  have fin : ∀ (st' : LoopState) (j : Option Code), Stp μ H w μ3 { next := H3.next, m := H3.m.put b (.loop st' j n3 Tl3 ps3 as3 bd3 dB3), G := H3.G } (w3.putObj p.blk (.loop { r3 with state := st', pending := j })) := fun st' j =>
    ((s1.trans s2).trans s3).trans (stp_set (w' := w3.putObj p.blk (.loop { r3 with state := st', pending := j })) s3.rel hb3 rfl (B' := .loop st' j n3 Tl3 ps3 as3 bd3 dB3) rfl hp3 (by simp)
      (fun k hk => World.putObj_heap_other hk) ⟨{ r3 with state := st', pending := j }, World.putObj_heap_same hlt3, rfl, rfl, hl3.tmps, hl3.size, hl3.params, hl3.assign, hl3.body, hl3.defers⟩ rfl rfl rfl)
  cases e with
  | normal =>
    simp only [Option.some.injEq, Prod.mk.injEq] at h
    obtain ⟨rfl, rfl⟩ := h
    exact ⟨_, _, run_endRound none hr3, _, μ3, rfl, .bool _, fin .ready none⟩
  | ret =>
    simp only [Option.some.injEq, Prod.mk.injEq] at h
    obtain ⟨rfl, rfl⟩ := h
    exact ⟨_, _, run_endRound (some .ret) hr3, _, μ3, rfl, .bool _, fin .done (some .ret)⟩
  | exit id =>
    simp only [Option.some.injEq, Prod.mk.injEq] at h
    obtain ⟨rfl, rfl⟩ := h
    exact ⟨_, _, run_endRound (some (.exit id)) hr3, _, μ3, rfl, .bool _, fin .done (some (.exit id))⟩
theorem evCall_sound {regD : CallF -> Nat -> List Oper -> Tr AV -> AH -> OR} (hE : EvOk P X regD) {hk : Hook} (hH : HookOk P hk) : ∀ n, CallOk P (evCall P X regD hk n)
  | 0 => ⟨fun g args H z H' h => by simp [evCall] at h, fun b args H z H' h => by simp [evCall] at h⟩
  | n + 1 => by
    have ih := evCall_sound hE hH n
    refine ⟨?_, fun b args H z H' h μ w vs p ro k hR hv hp => evRound_sound hE ih ro k (by simpa only [evCall] using h) hR hv hp⟩
    intro g args H z H' h μ w vs hR hv
    simp only [evCall] at h
    split at h
    · rename_i r hr
      simp only [Option.some.injEq] at h; subst h
      exact hH g args H z H' hr μ w vs hR hv
    split at h
    · cases h
    · rename_i fn hfn
      split at h
      · rename_i e T1 D1 H1 hb
        split at h
        · cases h
        · rename_i hex
          split at h
          · cases h
          · rename_i H2 hdef
            split at h
            · cases h
            · rename_i l hres
              simp only [Option.some.injEq, Prod.mk.injEq] at h
              obtain ⟨rfl, rfl⟩ := h
              obtain ⟨c, hbody, hwp⟩ := evBody_sound (nn := 0) (Q := bodyPostM (Fr none) 0 P fn fun e w' => ∃ u μ', e = .returned u /\ VR μ' (tupA l) u /\ Stp μ H w μ' H2 w') hE ih hR hv hb (by
                rintro a1 w1 ⟨μ1, s1, hA1⟩
                have key : LeavesInM (Fr none) 0 P fn a1.tmps (fun e w' => ∃ u μ', e = .returned u /\ VR μ' (tupA l) u /\ Stp μ H w μ' H2 w') a1.defers .returning w1 := by
                  refine evDefers_sound hE ih D1 a1.defers μ1 H1 H2 w1 s1.rel hA1.defers hdef fun μ2 w2 s2 => ?_
                  obtain ⟨v, hv1, hv2⟩ := results_sound (P := P) (a := a1) s2.rel (hA1.tmps.mono s2.le) hres
                  exact ⟨v, hv1, v, μ2, rfl, hv2, s1.trans s2⟩
                cases e with
                | normal => exact key
                | ret => exact key
                | exit id => simp at hex)
              have := callsIn_of_wp_marks (F := Fr none) (n := 0) hfn hbody trivial hwp
              exact this.calls fun k d hd => by simp [Fr] at hd
      · cases h
end
end Go.Ev
