/- PROVED: an evaluator of the model's runs over abstract heaps is sound (part EvB). CONDITIONS: none. -/
import Derived.Test.YtdmepghoffhphaaGreatDoorEvA
import Derived.Laws.Strings
import Derived.Laws.Alloc2
import Derived.Laws.BytesArg
import Derived.Laws.Append
/- What leaves the world as it is: the abstract run's word holds of the model's. First part: values, arithmetic. -/
set_option linter.unusedSimpArgs false
set_option linter.unusedVariables false
namespace Go.Ev
open Go
theorem pureRun_sound (P : Program) {α : Type} : ∀ (s : Sem α) (a : α) (w : World), pureRun P s = some a -> s.run P w = .ok a w := by
  intro s
  induction s with
  | pure a => intro b w h; simp [pureRun] at h; subst h; rfl
  | program k ih => intro b w h; simp only [pureRun] at h; exact ih P b w h
  | mark m k ih => intro b w h; simp only [pureRun] at h; exact ih b w h
  | _ => intros; rename_i h; simp [pureRun] at h
theorem natEq_iff {a b : Nat} (h : natEq a b = true) : a = b := Nat.eq_of_beq_eq_true h
theorem ofV1sound {v : Value} {x : AV} (h : ofV1 v = some x) (μ : Mp) : VR μ x v := by
  unfold ofV1 at h
  split at h <;> (try (simp at h; subst h; first | exact .bool _ | exact .int _ _ | exact .str _ _ rfl | exact .nilp | exact .nilm | exact .nilf | exact .nili | exact .fn _ _ _ _ _ .nil .nil))
  · split at h
    · rename_i h1 h2
      simp at h; subst h
      rw [natEq_iff h1, natEq_iff h2]; exact .nils
    · cases h
  · cases h
theorem ofVs_sound : ∀ {l : List Value} {r : List AV}, ofVs l = some r -> ∀ (μ : Mp), VRs μ r l
  | [], r, h, μ => by simp [ofVs] at h; subst h; exact .nil
  | v :: l, r, h, μ => by
    simp only [ofVs] at h
    split at h
    · cases h
    · rename_i x hx
      split at h
      · cases h
      · rename_i r' hr
        simp at h; subst h
        exact .cons _ _ _ _ (ofV1sound hx μ) (ofVs_sound hr μ)
theorem ofV_sound {v : Value} {x : AV} (h : ofV v = some x) (μ : Mp) : VR μ x v := by
  unfold ofV at h
  split at h
  · split at h
    · cases h
    · rename_i hr; simp at h; subst h; exact .agg _ _ (ofVs_sound hr μ)
  · split at h
    · cases h
    · rename_i hr; simp at h; subst h; exact .tup _ _ (ofVs_sound hr μ)
  · exact ofV1sound h μ
theorem u8round : ∀ (l : List UInt8), (l.map UInt8.toNat).map UInt8.ofNat = l
  | [] => rfl
  | a :: l => by simp only [List.map_cons, u8round l]; simp
theorem toB_eq {s : ByteArray} {l : List Nat} (h : s.data.toList.map UInt8.toNat = l) : s = toB l := by
  subst h
  obtain ⟨⟨d⟩⟩ := s
  unfold toB
  rw [u8round]
mutual
theorem toV_eq {μ : Mp} : ∀ {x : AV} {v : Value}, VR μ x v -> ∀ u, toV x = some u -> v = u
  | _, _, .int k n, u, h => by simp [toV] at h; exact h
  | _, _, .bool b, u, h => by simp [toV] at h; exact h
  | _, _, .str l s hs, u, h => by simp [toV] at h; rw [<- h, toB_eq hs]
  | _, _, .nilp, u, h => by simp [toV] at h; exact h
  | _, _, .ptr b off p hp, u, h => by simp [toV] at h
  | _, _, .nils, u, h => by simp [toV] at h; exact h
  | _, _, .slc b off len es cap c p hp hc ho, u, h => by simp [toV] at h
  | _, _, .slcE a c, u, h => by simp [toV] at h
  | _, _, .nilm, u, h => by simp [toV] at h; exact h
  | _, _, .map b p hp, u, h => by simp [toV] at h
  | _, _, .fn f first captured a c h1 h2, u, h => by simp [toV] at h
  | _, _, .nilf, u, h => by simp [toV] at h; exact h
  | _, _, .nili, u, h => by simp [toV] at h; exact h
  | _, _, .ifc t x v hv, u, h => by simp [toV] at h
  | _, _, .agg l a hl, u, h => by
    simp only [toV] at h
    split at h
    · cases h
    · rename_i r hr; simp at h; rw [<- h, toVs_eq hl r hr]
  | _, _, .tup l a hl, u, h => by simp [toV] at h
theorem toVs_eq {μ : Mp} : ∀ {l : List AV} {a : List Value}, VRs μ l a -> ∀ r, toVs l = some r -> a = r
  | _, _, .nil, r, h => by simp [toVs] at h; exact h.symm ▸ rfl
  | _, _, .cons x v l a hv ht, r, h => by
    simp only [toVs] at h
    split at h
    · cases h
    · rename_i u hu
      split at h
      · cases h
      · rename_i r' hr
        simp at h
        rw [<- h, toV_eq hv u hu, toVs_eq ht r' hr]
end
theorem pureOp_sound {P : Program} {s : Sem Value} {x : AV} (h : pureOp P s = some x) (μ : Mp) (w : World) : ∃ v, s.run P w = .ok v w /\ VR μ x v := by
  unfold pureOp at h
  split at h
  · rename_i v hv; exact ⟨v, pureRun_sound P s v w hv, ofV_sound h μ⟩
  · cases h
section
variable {P : Program} {μ : Mp} {H : AH} {w : World} {T : Tr AV} {a : Act}
theorem evX_sound (hR : Rel μ H w) (hT : TR μ T a.tmps) {x : Operand} {v : AV} (h : evX H.G T x = some v) : VR μ v (a.eval x) := by
  cases x with
  | tmp t =>
    obtain ⟨u, hu, hr⟩ := hT t v h
    simpa [Act.eval, hu] using hr
  | const c => exact ofV_sound h μ
  | global g =>
    simp only [evX] at h
    split at h
    · rename_i hg
      simp at h; subst h
      obtain ⟨p, hp, h1, h2⟩ := hR.glob g (by simpa [Nat.blt_eq] using hg)
      have := VR.ptr (μ := μ) g 0 p hp
      rw [h1, h2] at this
      exact this
    · cases h
  | func f => simp [evX] at h; subst h; exact .fn _ _ _ _ _ .nil .nil
theorem evXs_sound (hR : Rel μ H w) (hT : TR μ T a.tmps) : ∀ {l : List Operand} {r : List AV}, evXs H.G T l = some r -> VRs μ r (l.map a.eval)
  | [], r, h => by simp [evXs] at h; subst h; exact .nil
  | x :: l, r, h => by
    simp only [evXs] at h
    split at h
    · cases h
    · rename_i v hv
      split at h
      · cases h
      · rename_i r' hr
        simp at h; subst h
        exact .cons _ _ _ _ (evX_sound hR hT hv) (evXs_sound hR hT hr)
theorem evParts_sound (hR : Rel μ H w) (hT : TR μ T a.tmps) : ∀ {l : List (Nat × Operand)} {r : List (Nat × AV)}, evParts H.G T l = some r ->
    r.map (·.1) = l.map (·.1) /\ VRs μ (r.map (·.2)) (l.map fun p => a.eval p.2)
  | [], r, h => by simp [evParts] at h; subst h; exact ⟨rfl, .nil⟩
  | (i, x) :: l, r, h => by
    simp only [evParts] at h
    split at h
    · cases h
    · rename_i v hv
      split at h
      · cases h
      · rename_i r' hr
        simp at h; subst h
        obtain ⟨h1, h2⟩ := evParts_sound hR hT hr
        exact ⟨by simp [h1], .cons _ _ _ _ (evX_sound hR hT hv) h2⟩
end
section
variable {P : Program} {w : World}
theorem run_underlying_ev {t : TypeId} {d : TypeDesc} (h : P.underlying t = some d) : (underlying t).run P w = .ok d w := by
  simp [underlying, h]
theorem run_typeInfo_ev {t : TypeId} {i : TypeInfo} (h : P.info? t = some i) : (typeInfo t).run P w = .ok i w := by
  simp [typeInfo, h]
theorem run_sizeOf_ev {t : TypeId} {n : Nat} (h : sizeA P t = some n) : (sizeOf t).run P w = .ok n w := by
  unfold sizeA at h
  split at h
  · rename_i i hi; simp at h; simp [sizeOf, run_typeInfo_ev hi, h]
  · cases h
theorem run_isAgg_ev {t : TypeId} {b : Bool} (h : isAggA P t = some b) : (isAgg t).run P w = .ok b w := by
  unfold isAggA at h
  split at h
  · rename_i hu; simp at h; subst h; simp [isAgg, run_underlying_ev hu]
  · rename_i hu; simp at h; subst h; simp [isAgg, run_underlying_ev hu]
  · rename_i d h1 h2 hu; simp at h; subst h; simp [isAgg, run_underlying_ev hu]
  · cases h
theorem run_zeroValue_ev {t : TypeId} {l : List AV} (h : zeroC P t = some l) (μ : Mp) : ∃ v, (zeroValue t).run P w = .ok v w /\ VRs μ l v.cells.toList := by
  unfold zeroC at h
  split at h
  · cases h
  · rename_i i hi
    split at h
    · cases h
    · rename_i z hz
      split at h
      · cases h
      · rename_i x hx
        simp at h; subst h
        exact ⟨z, by simp [zeroValue, run_typeInfo_ev hi, hz], (ofV_sound hx μ).cells⟩
end
theorem natsEq_iff : ∀ (a b : List UInt8), natsEq (a.map UInt8.toNat) (b.map UInt8.toNat) = (a == b)
  | [], [] => rfl
  | [], _ :: _ => rfl
  | _ :: _, [] => rfl
  | x :: a, y :: b => by
    simp only [List.map_cons, natsEq]
    rw [natsEq_iff a b]
    by_cases e : x = y
    · subst e; simp
    · have : Nat.beq x.toNat y.toNat = false := by
        rw [<- Bool.not_eq_true]; intro h; exact e (UInt8.toNat_inj.1 (Nat.eq_of_beq_eq_true h))
      simp [this, e]
theorem natsLess_iff : ∀ (a b : List UInt8), natsLess (a.map UInt8.toNat) (b.map UInt8.toNat) = Op.bytesLess a b
  | [], [] => rfl
  | [], _ :: _ => rfl
  | _ :: _, [] => rfl
  | x :: a, y :: b => by
    simp only [List.map_cons, natsLess, Op.bytesLess]
    rw [natsLess_iff a b]
    by_cases hlt : x < y
    · have h1 : Nat.blt x.toNat y.toNat = true := by rw [Nat.blt_eq]; exact hlt
      simp [h1, hlt]
    · have h1 : Nat.blt x.toNat y.toNat = false := by
        rw [<- Bool.not_eq_true, Nat.blt_eq]; exact hlt
      by_cases e : x = y
      · subst e; simp [h1]
      · have : Nat.beq x.toNat y.toNat = false := by
          rw [<- Bool.not_eq_true]; intro h; exact e (UInt8.toNat_inj.1 (Nat.eq_of_beq_eq_true h))
        simp [h1, hlt, this, e]
theorem ba_toList (s : ByteArray) : s.toList = s.data.toList := Go.ByteArray.toList_eq s
end Go.Ev
/- What leaves the world as it is: operators, conversions, places. -/
set_option linter.unusedSimpArgs false
set_option linter.unusedVariables false
namespace Go.Ev
open Go
section
variable {P : Program} {μ : Mp} {H : AH} {w : World}
theorem str_inv {l : List Nat} {v : Value} (h : VR μ (.str l) v) : ∃ s : ByteArray, v = .string s /\ s.data.toList.map UInt8.toNat = l := by
  cases h with | str _ s hs => exact ⟨s, rfl, hs⟩
theorem int_inv {k : IntKind} {n : Int} {v : Value} (h : VR μ (.int k n) v) : v = .int k n := by cases h; rfl
theorem bool_inv {b : Bool} {v : Value} (h : VR μ (.bool b) v) : v = .bool b := by cases h; rfl
theorem nilp_inv {v : Value} (h : VR μ .nilp v) : v = .pointer none := by cases h; rfl
theorem nils_inv {v : Value} (h : VR μ .nils v) : v = .slice none 0 0 := by cases h; rfl
theorem nilm_inv {v : Value} (h : VR μ .nilm v) : v = .map none := by cases h; rfl
theorem nilf_inv {v : Value} (h : VR μ .nilf v) : v = .nilFunc := by cases h; rfl
theorem nili_inv {v : Value} (h : VR μ .nili v) : v = .nilIface := by cases h; rfl
theorem ptr_inv {b off : Nat} {v : Value} (h : VR μ (.ptr b off) v) : ∃ p, μ b = some p /\ v = .pointer (some ⟨p.blk, p.off + off, none⟩) := by
  cases h with | ptr _ _ p hp => exact ⟨p, hp, rfl⟩
theorem slc_inv {b off len es : Nat} {cap : Option Nat} {v : Value} (h : VR μ (.slc b off len es cap) v) : ∃ p c, μ b = some p /\ v = .slice (some ⟨p.blk, p.off + off, none⟩) len c /\
    (∀ k, cap = some k -> c = k) /\ (cap = none -> p.off + off + c * es = p.fin /\ len <= c) := by
  cases h with | slc _ _ _ _ _ c p hp hc ho => exact ⟨p, c, hp, rfl, hc, ho⟩
theorem slcE_inv {v : Value} (h : VR μ .slcE v) : ∃ a c, v = .slice (some a) 0 c := by cases h with | slcE a c => exact ⟨a, c, rfl⟩
theorem map_inv {b : Nat} {v : Value} (h : VR μ (.map b) v) : ∃ p, μ b = some p /\ v = .map (some p.blk) := by
  cases h with | map _ p hp => exact ⟨p, hp, rfl⟩
theorem agg_inv {l : List AV} {v : Value} (h : VR μ (.agg l) v) : ∃ a, v = .agg ⟨a⟩ /\ VRs μ l a := by cases h with | agg _ a ha => exact ⟨a, rfl, ha⟩
theorem tup_inv {l : List AV} {v : Value} (h : VR μ (.tup l) v) : ∃ a, v = .tuple ⟨a⟩ /\ VRs μ l a := by cases h with | tup _ a ha => exact ⟨a, rfl, ha⟩
theorem fn_inv {f : Fn} {l c : List AV} {v : Value} (h : VR μ (.fn f l c) v) : ∃ a b, v = .func f ⟨a⟩ ⟨b⟩ /\ VRs μ l a /\ VRs μ c b := by
  cases h with | fn _ _ _ a b h1 h2 => exact ⟨a, b, rfl, h1, h2⟩
theorem ifc_inv {t : TypeId} {x : AV} {v : Value} (h : VR μ (.ifc t x) v) : ∃ u, v = .iface t u /\ VR μ x u := by cases h with | ifc _ _ u hu => exact ⟨u, rfl, hu⟩
theorem eqGuard_none {op : BinOp} {t : TypeId} {x y : Operand} {a b : Value} (h1 : ¬ (a = .nilIface /\ b = .nilIface)) (h2 : ∀ l r, ¬ (a = .agg l /\ b = .agg r)) :
    (eqGuard op t x y a b).run P w = .ok () w := by
  unfold eqGuard
  cases op <;> first
    | rfl
    | (cases a <;> cases b <;> first | rfl | (exact absurd ⟨rfl, rfl⟩ h1) | (exact absurd ⟨rfl, rfl⟩ (h2 _ _)))
theorem run_bin {op : BinOp} {t : TypeId} {x y : Operand} {a b u : Value} (hg : (eqGuard op t x y a b).run P w = .ok () w) (h : (Go.binOp op t a b).run P w = .ok u w) :
    (do eqGuard op t x y a b; Go.binOp op t a b : Sem Value).run P w = .ok u w := by
  simp [hg, h]
theorem strOp_sound {op : BinOp} {a b : List Nat} {s s' : ByteArray} {x : AV} (ha : s.data.toList.map UInt8.toNat = a) (hb : s'.data.toList.map UInt8.toNat = b) (h : strOp op a b = some x) :
    ∃ v, (Op.stringOp op s s').run P w = .ok v w /\ VR μ x v := by
  subst ha; subst hb
  have he : natsEq (s.data.toList.map UInt8.toNat) (s'.data.toList.map UInt8.toNat) = (s.toList == s'.toList) := by rw [natsEq_iff, ba_toList, ba_toList]
  have hl : natsLess (s.data.toList.map UInt8.toNat) (s'.data.toList.map UInt8.toNat) = Op.bytesLess s.toList s'.toList := by rw [natsLess_iff, ba_toList, ba_toList]
  unfold strOp at h
  unfold Op.stringOp
  cases op <;> simp only [] at h ⊢ <;> (try (simp at h; done)) <;> (try (rw [he] at h)) <;> (try (rw [hl] at h)) <;>
    (try (simp only [Option.some.injEq] at h; subst h; exact ⟨_, rfl, .bool _⟩))
  · split at h
    · rename_i hle
      simp only [Option.some.injEq] at h; subst h
      have hle' : s.size + s'.size <= 1000000000 := by
        have := Nat.le_of_ble_eq_true hle
        simpa using this
      refine ⟨.string (s ++ s'), ?_, .str _ _ (by simp)⟩
      rw [if_neg]
      · rfl
      · have : IntKind.i64.max = 9223372036854775807 := by decide
        omega
    · cases h
theorem bin_eq {op : BinOp} {t : TypeId} {a b : Value} {r : Bool} {x : AV} (hne : Go.binOp .eql t a b = (do pure (.bool (<- Op.equal t a b))))
    (hnn : Go.binOp .neq t a b = (do pure (.bool (!(<- Op.equal t a b))))) (hE : (Op.equal t a b).run P w = .ok r w) (h : eqOp op r = some x) :
    ∃ v, (Go.binOp op t a b).run P w = .ok v w /\ VR μ x v := by
  cases op <;> simp only [eqOp] at h <;> try (cases h; done)
  · simp only [Option.some.injEq] at h; subst h
    exact ⟨_, by rw [hne]; simp [hE], .bool _⟩
  · simp only [Option.some.injEq] at h; subst h
    exact ⟨_, by rw [hnn]; simp [hE], .bool _⟩
theorem plainB_spec (hR : Rel μ H w) {b : Nat} (h : plainB H b = true) : ∃ B p cs e, H.m.get b = some B /\ μ b = some p /\ w.heap[p.blk]? = some (.cells cs e (0, 0)) := by
  unfold plainB at h
  split at h
  · rename_i n c opn ro e hb
    obtain ⟨p, hp, cs, fr, h1, h2, h3, h4, h5, h6, h7⟩ := hR.blk b _ hb
    have := h6 rfl
    subst this
    exact ⟨_, p, cs, e, hb, hp, h1⟩
  · cases h
theorem frozen_plain {rb o : Nat} {sp : Option Nat} {cs : Array Value} {e : TypeId} (h : w.heap[rb]? = some (.cells cs e (0, 0))) : w.frozen? ⟨rb, o, sp⟩ = false := by
  simp [World.frozen?, h]
theorem shape_cells {rb : Nat} {cs : Array Value} {e : TypeId} {fr : Nat × Nat} (h : w.heap[rb]? = some (.cells cs e fr)) : w.shape? rb = some (e, cs.size) := by
  simp [World.shape?, h]
theorem run_sameAddr_other {a b : Addr} {cs cs' : Array Value} {e e' : TypeId} (h : w.heap[a.block]? = some (.cells cs e (0, 0))) (h' : w.heap[b.block]? = some (.cells cs' e' (0, 0))) (hne : a.block ≠ b.block) :
    (sameAddr a b).run P w = .ok false w := by
  obtain ⟨ab, ao, as⟩ := a
  obtain ⟨bb, bo, bs⟩ := b
  simp only at h h' hne
  have hb : (ab == bb) = false := by simpa using hne
  simp [sameAddr, hb, frozen_plain h, noView, viewAt, shape_cells h, shape_cells h', mayBeOne, stringish, frozen_plain h']
theorem bin_eq' {op : BinOp} {t : TypeId} {xo yo : Operand} {a b : Value} {r : Bool} {x : AV} (h1 : ¬ (a = .nilIface /\ b = .nilIface)) (h2 : ∀ l r, ¬ (a = .agg l /\ b = .agg r))
    (hne : Go.binOp .eql t a b = (do pure (.bool (<- Op.equal t a b))))
    (hnn : Go.binOp .neq t a b = (do pure (.bool (!(<- Op.equal t a b))))) (hE : (Op.equal t a b).run P w = .ok r w) (h : eqOp op r = some x) :
    ∃ v, (do eqGuard op t xo yo a b; Go.binOp op t a b : Sem Value).run P w = .ok v w /\ VR μ x v :=
  let ⟨v, hv, hr⟩ := bin_eq (μ := μ) hne hnn hE h
  ⟨v, run_bin (eqGuard_none h1 h2) hv, hr⟩
theorem equal_of {t : TypeId} {a b : Value} {r : Bool} (h : ∀ d, (Op.equalIn (d + 1) t a b).run P w = .ok r w) : (Op.equal t a b).run P w = .ok r w := h 9999
theorem evBin_sound (hR : Rel μ H w) {op : BinOp} {t : TypeId} {xo yo : Operand} {x y z : AV} {a b : Value} (ha : VR μ x a) (hb : VR μ y b) {cst : Bool} (hc : cst = true -> (∃ v, xo = .const v) \/ (∃ v, yo = .const v)) (h : evBin P H op t cst x y = some z) :
    ∃ v, (do eqGuard op t xo yo a b; Go.binOp op t a b : Sem Value).run P w = .ok v w /\ VR μ z v := by
  unfold evBin at h
  split at h
  · -- int int
    rename_i k m k' m'
    cases int_inv ha
    cases int_inv hb
    have hg : (eqGuard op t xo yo (.int k m) (.int k' m')).run P w = .ok () w := eqGuard_none (by simp) (by simp)
    suffices hs : ∃ v, (Go.binOp op t (.int k m) (.int k' m')).run P w = .ok v w /\ VR μ z v from
      let ⟨v, h1, h2⟩ := hs; ⟨v, run_bin hg h1, h2⟩
    split at h
    · rename_i u hu
      split at h
      · rename_i hk
        have hk : k = k' := of_decide_eq_true hk
        subst hk
        simp only [Option.some.injEq] at h; subst h
        unfold intOp at hu
        cases op <;> simp only [] at hu <;> first
          | (simp at hu; done)
          | (simp only [Option.some.injEq] at hu; subst hu; simp [Go.binOp, Op.intArith, Op.intCmp]; first | exact .int _ _ | exact .bool _)
      · exact pureOp_sound h μ w
    · exact pureOp_sound h μ w
  · -- str str
    rename_i a' b'
    obtain ⟨s, rfl, hs⟩ := str_inv ha
    obtain ⟨s', rfl, hs'⟩ := str_inv hb
    obtain ⟨v, hv, hr⟩ := strOp_sound (P := P) (μ := μ) (w := w) hs hs' h
    refine ⟨v, run_bin (eqGuard_none (by simp) (by simp)) ?_, hr⟩
    rw [<- hv]
    cases op <;> rfl
  · -- nilp nilp
    cases nilp_inv ha
    cases nilp_inv hb
    split at h <;> try (cases h; done)
    rename_i hu
    exact bin_eq' (by simp) (by simp) rfl rfl (equal_of fun d => by simp [Op.equalIn, run_underlying_ev hu]) h
  · -- nilp ptr
    cases nilp_inv ha
    obtain ⟨pB, hpB, rfl⟩ := ptr_inv hb
    split at h <;> try (cases h; done)
    rename_i hu
    exact bin_eq' (by simp) (by simp) rfl rfl (equal_of fun d => by simp [Op.equalIn, run_underlying_ev hu]) h
  · -- ptr nilp
    obtain ⟨pA, hpA, rfl⟩ := ptr_inv ha
    cases nilp_inv hb
    split at h <;> try (cases h; done)
    rename_i hu
    exact bin_eq' (by simp) (by simp) rfl rfl (equal_of fun d => by simp [Op.equalIn, run_underlying_ev hu]) h
  · -- ptr ptr
    rename_i b o b' o'
    obtain ⟨p, hp, rfl⟩ := ptr_inv ha
    obtain ⟨p', hp', rfl⟩ := ptr_inv hb
    split at h <;> try (cases h; done)
    rename_i e hu
    split at h <;> try (cases h; done)
    rename_i n hs
    have eqn : ∀ r, (sameAddr ⟨p.blk, p.off + o, none⟩ ⟨p'.blk, p'.off + o', none⟩).run P w = .ok r w -> (Op.equal t (.pointer (some ⟨p.blk, p.off + o, none⟩)) (.pointer (some ⟨p'.blk, p'.off + o', none⟩))).run P w = .ok r w := by
      intro r hr
      refine equal_of fun d => ?_
      simp [Op.equalIn, run_underlying_ev hu, run_sizeOf_ev hs, hr]
    split at h
    · rename_i hbb
      have hbb := Nat.eq_of_beq_eq_true hbb
      subst hbb
      rw [hp] at hp'; cases hp'
      split at h <;> try (cases h; done)
      refine bin_eq' (by simp) (by simp) rfl rfl (eqn (Nat.beq o o') ?_) h
      have : ((⟨p.blk, p.off + o, none⟩ : Addr) == ⟨p.blk, p.off + o', none⟩) = Nat.beq o o' := by
        by_cases e : o = o'
        · subst e; simp
        · have h1 : Nat.beq o o' = false := by rw [<- Bool.not_eq_true]; intro hh; exact e (Nat.eq_of_beq_eq_true hh)
          rw [h1]; simp; omega
      simp [sameAddr, this]
    · rename_i hbb
      have hbb := Nat.ne_of_beq_eq_false hbb
      split at h <;> try (cases h; done)
      rename_i h1 h2
      obtain ⟨B, q, cs, e1, hB, hq, hc⟩ := plainB_spec hR h1
      obtain ⟨B', q', cs', e2, hB', hq', hc'⟩ := plainB_spec hR h2
      rw [hp] at hq; cases hq
      rw [hp'] at hq'; cases hq'
      exact bin_eq' (by simp) (by simp) rfl rfl (eqn false (run_sameAddr_other hc hc' fun e => hbb (hR.inj _ _ _ _ _ _ hB hB' hp hp' e))) h
  · -- nils nils
    cases nils_inv ha
    cases nils_inv hb
    split at h <;> try (cases h; done)
    rename_i hu
    exact bin_eq' (by simp) (by simp) rfl rfl (equal_of fun d => by simp [Op.equalIn, run_underlying_ev hu]) h
  · -- nils slc
    cases nils_inv ha
    obtain ⟨pB, cB, hpB, rfl, hcB, hoB⟩ := slc_inv hb
    split at h <;> try (cases h; done)
    rename_i hu
    exact bin_eq' (by simp) (by simp) rfl rfl (equal_of fun d => by simp [Op.equalIn, run_underlying_ev hu]) h
  · -- slc nils
    obtain ⟨pA, cA, hpA, rfl, hcA, hoA⟩ := slc_inv ha
    cases nils_inv hb
    split at h <;> try (cases h; done)
    rename_i hu
    exact bin_eq' (by simp) (by simp) rfl rfl (equal_of fun d => by simp [Op.equalIn, run_underlying_ev hu]) h
  · -- nils slcE
    cases nils_inv ha
    obtain ⟨aB, cB, rfl⟩ := slcE_inv hb
    split at h <;> try (cases h; done)
    rename_i hu
    exact bin_eq' (by simp) (by simp) rfl rfl (equal_of fun d => by simp [Op.equalIn, run_underlying_ev hu]) h
  · -- slcE nils
    obtain ⟨aA, cA, rfl⟩ := slcE_inv ha
    cases nils_inv hb
    split at h <;> try (cases h; done)
    rename_i hu
    exact bin_eq' (by simp) (by simp) rfl rfl (equal_of fun d => by simp [Op.equalIn, run_underlying_ev hu]) h
  · -- nilm nilm
    cases nilm_inv ha
    cases nilm_inv hb
    split at h <;> try (cases h; done)
    rename_i hu
    exact bin_eq' (by simp) (by simp) rfl rfl (equal_of fun d => by simp [Op.equalIn, run_underlying_ev hu]) h
  · -- nilm map
    cases nilm_inv ha
    obtain ⟨pB, hpB, rfl⟩ := map_inv hb
    split at h <;> try (cases h; done)
    rename_i hu
    exact bin_eq' (by simp) (by simp) rfl rfl (equal_of fun d => by simp [Op.equalIn, run_underlying_ev hu]) h
  · -- map nilm
    obtain ⟨pA, hpA, rfl⟩ := map_inv ha
    cases nilm_inv hb
    split at h <;> try (cases h; done)
    rename_i hu
    exact bin_eq' (by simp) (by simp) rfl rfl (equal_of fun d => by simp [Op.equalIn, run_underlying_ev hu]) h
  · -- nilf nilf
    cases nilf_inv ha
    cases nilf_inv hb
    split at h <;> try (cases h; done)
    rename_i hu
    exact bin_eq' (by simp) (by simp) rfl rfl (equal_of fun d => by simp [Op.equalIn, run_underlying_ev hu]) h
  · -- nilf fn
    cases nilf_inv ha
    obtain ⟨aB, bB, rfl, hfB, hgB⟩ := fn_inv hb
    split at h <;> try (cases h; done)
    rename_i hu
    exact bin_eq' (by simp) (by simp) rfl rfl (equal_of fun d => by simp [Op.equalIn, run_underlying_ev hu]) h
  · -- fn nilf
    obtain ⟨aA, bA, rfl, hfA, hgA⟩ := fn_inv ha
    cases nilf_inv hb
    split at h <;> try (cases h; done)
    rename_i hu
    exact bin_eq' (by simp) (by simp) rfl rfl (equal_of fun d => by simp [Op.equalIn, run_underlying_ev hu]) h
  · -- nili nili
    cases nili_inv ha
    cases nili_inv hb
    split at h <;> try (cases h; done)
    rename_i ms hu
    split at h <;> try (cases h; done)
    rename_i hm
    obtain ⟨v, hv, hr⟩ := bin_eq (P := P) (w := w) (μ := μ) (t := t) (a := .nilIface) (b := .nilIface) rfl rfl (equal_of fun d => by simp [Op.equalIn, run_underlying_ev hu]) h
    refine ⟨v, run_bin ?_ hv, hr⟩
    have hguard : (Op.eqGuardIn Op.maxDepth t .nilIface .nilIface).run P w = .ok (!ms.isEmpty) w := by
      have : ∀ d, (Op.eqGuardIn (d + 1) t .nilIface .nilIface).run P w = .ok (!ms.isEmpty) w := fun d => by simp [Op.eqGuardIn, run_underlying_ev hu]
      exact this 9999
    unfold eqGuard
    cases hcst : cst with
    | true =>
      rcases hc hcst with ⟨u, rfl⟩ | ⟨u, rfl⟩ <;> cases op <;> simp
    | false =>
      rw [hcst] at hm
      simp only [Bool.false_or] at hm
      cases op <;> cases xo <;> cases yo <;> simp [hguard, hm]
  · -- nili ifc
    cases nili_inv ha
    obtain ⟨uB, rfl, huB⟩ := ifc_inv hb
    split at h <;> try (cases h; done)
    rename_i hu
    exact bin_eq' (by simp) (by simp) rfl rfl (equal_of fun d => by simp [Op.equalIn, run_underlying_ev hu]) h
  · -- ifc nili
    obtain ⟨uA, rfl, huA⟩ := ifc_inv ha
    cases nili_inv hb
    split at h <;> try (cases h; done)
    rename_i hu
    exact bin_eq' (by simp) (by simp) rfl rfl (equal_of fun d => by simp [Op.equalIn, run_underlying_ev hu]) h
  · -- what bears no address
    split at h <;> try (cases h; done)
    rename_i a' b' h1 h2
    cases toV_eq ha _ h1
    cases toV_eq hb _ h2
    obtain ⟨v, hv, hr⟩ := pureOp_sound h μ w
    refine ⟨v, ?_, hr⟩
    by_cases hn : a = .nilIface /\ b = .nilIface
    · obtain ⟨rfl, rfl⟩ := hn
      cases ha
      cases hb
      simp at *
    · rw [<- hv]
      have : eqGuard op t xo yo a b = eqGuard op t (.tmp 0) (.tmp 0) a b := by
        unfold eqGuard
        cases a <;> first
          | rfl
          | (cases b <;> first | rfl | exact absurd ⟨rfl, rfl⟩ hn)
      rw [this]
end
end Go.Ev
/- What leaves the world as it is: reading memory, conversions, places. -/
set_option linter.unusedSimpArgs false
set_option linter.unusedVariables false
namespace Go.Ev
open Go
section
variable {P : Program} {μ : Mp} {H : AH} {w : World}
theorem evUn_sound {op : UnOp} {x z : AV} {a : Value} (ha : VR μ x a) (h : evUn P op x = some z) : ∃ v, (Op.unary op a).run P w = .ok v w /\ VR μ z v := by
  unfold evUn at h
  split at h
  · cases bool_inv ha
    simp only [Option.some.injEq] at h; subst h
    exact ⟨_, rfl, .bool _⟩
  · cases int_inv ha
    exact pureOp_sound h μ w
  · cases h
theorem evLoad_sound (hR : Rel μ H w) {t : TypeId} {b off : Nat} {p : Pl} {x : AV} (hp : μ b = some p) (h : evLoad P H t b off = some x) :
    ∃ v, (loadVar t ⟨p.blk, p.off + off, none⟩).run P w = .ok v w /\ VR μ x v := by
  unfold evLoad at h
  split at h
  · cases h
  · rename_i hg
    split at h
    · cases h
    · rename_i n hn
      split at h
      · cases h
      · rename_i l hl
        simp only [Option.some.injEq] at h; subst h
        unfold readB at hl
        split at hl
        · rename_i n' c opn ro frz e hb
          obtain ⟨p', hp', cs, fr, h1, h2, h3, h4, h5, h6, h7⟩ := hR.blk b _ hb
          rw [hp] at hp'; cases hp'
          obtain ⟨hlen, hget⟩ := getL_get c n off l hl
          have hv : ∀ i, i < n -> ∃ v, cs[p.off + off + i]? = some v /\ ∃ y, l[i]? = some y /\ VR μ y v := fun i hi => by
            have hy : l[i]? = some l[i] := by simp [hlen, hi]
            obtain ⟨_, v, hv, hr⟩ := h5 (off + i) l[i] (by rw [hget i hi, hy])
            exact ⟨v, by rw [Nat.add_assoc]; exact hv, l[i], hy, hr⟩
          let vs := (List.range n).map fun i => cs[p.off + off + i]?.getD default
          have hvs : ∀ i, i < n -> cs[p.off + off + i]? = vs[i]? := fun i hi => by
            obtain ⟨v, hv1, _⟩ := hv i hi
            simp [vs, hi, hv1]
          have hvl : vs.length = n := by simp [vs]
          refine ⟨.agg vs.toArray, ?_, .agg _ _ (VRs.of_get _ _ (by rw [hvl, hlen]) fun i y hy => ?_)⟩
          · simp [loadVar, run_isAgg_ev hg, run_sizeOf_ev hn, run_loadCells_ev P h1 n vs hvl hvs]
          · have hi : i < n := by rw [<- hlen]; exact (List.getElem?_eq_some_iff.1 hy).1
            obtain ⟨v, hv1, y', hy', hr⟩ := hv i hi
            rw [hy] at hy'; cases hy'
            exact ⟨v, by rw [<- hvs i hi]; exact hv1, hr⟩
        · cases hl
  · rename_i hg
    split at h
    · rename_i n' c opn ro frz e hb
      obtain ⟨p', hp', cs, fr, h1, h2, h3, h4, h5, h6, h7⟩ := hR.blk b _ hb
      rw [hp] at hp'; cases hp'
      obtain ⟨_, v, hv, hr⟩ := h5 off x h
      exact ⟨v, by simp [loadVar, run_isAgg_ev hg, World.cell?_at h1, hv], hr⟩
    · cases h
theorem readB_sound (hR : Rel μ H w) {b off n : Nat} {p : Pl} {l : List AV} (hp : μ b = some p) (h : readB H b off n = some l) :
    ∃ vs cs e fr, w.heap[p.blk]? = some (.cells cs e fr) /\ l.length = n /\ vs.length = n /\ (∀ i, i < n -> cs[p.off + off + i]? = vs[i]?) /\ VRs μ l vs := by
  unfold readB at h
  split at h
  · rename_i n' c opn ro frz e hb
    obtain ⟨p', hp', cs, fr, h1, h2, h3, h4, h5, h6, h7⟩ := hR.blk b _ hb
    rw [hp] at hp'; cases hp'
    obtain ⟨hlen, hget⟩ := getL_get c n off l h
    have hv : ∀ i, i < n -> ∃ v, cs[p.off + off + i]? = some v /\ ∃ y, l[i]? = some y /\ VR μ y v := fun i hi => by
      have hy : l[i]? = some l[i] := by simp [hlen, hi]
      obtain ⟨_, v, hv, hr⟩ := h5 (off + i) l[i] (by rw [hget i hi, hy])
      exact ⟨v, by rw [Nat.add_assoc]; exact hv, l[i], hy, hr⟩
    let vs := (List.range n).map fun i => cs[p.off + off + i]?.getD default
    have hvs : ∀ i, i < n -> cs[p.off + off + i]? = vs[i]? := fun i hi => by
      obtain ⟨v, hv1, _⟩ := hv i hi
      simp [vs, hi, hv1]
    have hvl : vs.length = n := by simp [vs]
    refine ⟨vs, cs, e, fr, h1, hlen, hvl, hvs, VRs.of_get _ _ (by rw [hvl, hlen]) fun i y hy => ?_⟩
    have hi : i < n := by rw [<- hlen]; exact (List.getElem?_eq_some_iff.1 hy).1
    obtain ⟨v, hv1, y', hy', hr⟩ := hv i hi
    rw [hy] at hy'; cases hy'
    exact ⟨v, by rw [<- hvs i hi]; exact hv1, hr⟩
  · cases h
theorem bytesL_sound : ∀ {l : List AV} {r : List Nat} {vs : List Value}, bytesL l = some r -> VRs μ l vs -> vs = r.map (fun n => Value.int .u8 (Int.ofNat n)) /\ ∀ n ∈ r, n < 256
  | [], r, vs, h, hv => by simp [bytesL] at h; subst h; cases hv; simp
  | x :: l, r, vs, h, hv => by
    cases hv with
    | cons _ v _ a hx ht =>
      unfold bytesL at h
      split at h
      · rename_i h0; cases h0
      · rename_i n l' heq
        simp only [List.cons.injEq] at heq
        obtain ⟨rfl, rfl⟩ := heq
        cases int_inv hx
        split at h
        · cases h
        · rename_i hlt
          split at h
          · cases h
          · rename_i r' hr'
            simp only [Option.some.injEq] at h; subst h
            obtain ⟨h1, h2⟩ := bytesL_sound hr' ht
            refine ⟨by simp [h1], fun m hm => ?_⟩
            rcases List.mem_cons.1 hm with rfl | hm
            · simpa [Nat.blt_eq] using hlt
            · exact h2 m hm
      · cases h
theorem evConv_sound (hR : Rel μ H w) {s d : TypeId} {x z : AV} {a : Value} (ha : VR μ x a) (h : evConv P H s d x = some z) : ∃ v, (Go.convert s d a).run P w = .ok v w /\ VR μ z v := by
  unfold evConv at h
  split at h
  · rename_i sd dd hs hd
    split at h
    · -- int int
      cases int_inv ha
      simp only [Option.some.injEq] at h; subst h
      exact ⟨_, by simp [Go.convert, run_underlying_ev hs, run_underlying_ev hd, Conv.intToInt], .int _ _⟩
    · -- string string
      obtain ⟨s', rfl, hs'⟩ := str_inv ha
      simp only [Option.some.injEq] at h; subst h
      exact ⟨_, by simp [Go.convert, run_underlying_ev hs, run_underlying_ev hd], .str _ _ hs'⟩
    · -- nils string
      cases nils_inv ha
      split at h <;> try (cases h; done)
      rename_i e
      split at h <;> try (cases h; done)
      rename_i he
      simp only [Option.some.injEq] at h; subst h
      exact ⟨_, run_convert_bytes_nil w s e hs he 0 0 d hd, .str _ _ rfl⟩
    · -- slcE string
      obtain ⟨a', c, rfl⟩ := slcE_inv ha
      split at h <;> try (cases h; done)
      rename_i e
      split at h <;> try (cases h; done)
      rename_i he
      simp only [Option.some.injEq] at h; subst h
      refine ⟨.string ByteArray.empty, ?_, .str _ _ rfl⟩
      rw [run_convert_bytes_string w s d e _ 0 c hs he hd]
      simp [Conv.bytesToString, loadCells, loadCellsFrom]
    · -- slc string
      rename_i b off len es cap
      obtain ⟨p, c, hp, rfl, hc, ho⟩ := slc_inv ha
      split at h <;> try (cases h; done)
      rename_i e
      split at h <;> try (cases h; done)
      rename_i he
      split at h <;> try (cases h; done)
      rename_i l hl
      split at h <;> try (cases h; done)
      rename_i r hr
      simp only [Option.some.injEq] at h; subst h
      obtain ⟨vs, cs, e', fr, h1, hlen, hvl, hvs, hvr⟩ := readB_sound hR hp hl
      obtain ⟨hvs', hlt⟩ := bytesL_sound hr hvr
      have hrl : r.length = len := by rw [<- hvl, hvs']; simp
      refine ⟨_, run_convert_bytes_arg w s e hs he p.blk (p.off + off) len c (r.map Int.ofNat) (by simp [hrl]) (fun i hi => ?_) d hd, .str _ _ ?_⟩
      · rw [World.cell?_at h1, hvs i hi, hvs']
        simp [hrl, hi, List.getD]
      · simp only [strOfNums, List.map_map]
        rw [List.map_congr_left (g := id)]
        · simp
        · intro n hn
          have := hlt n hn
          simp [UInt8.toNat_ofNat, Nat.mod_eq_of_lt this]
    · -- unsafe pointer of a pointer
      rename_i b off
      obtain ⟨p, hp, rfl⟩ := ptr_inv ha
      split at h <;> try (cases h; done)
      rename_i t
      split at h <;> try (cases h; done)
      rename_i n hn
      split at h <;> try (cases h; done)
      rename_i n' c opn ro frz e hb
      split at h <;> try (cases h; done)
      rename_i hlt
      simp only [Option.some.injEq] at h; subst h
      obtain ⟨p', hp', cs, fr, h1, h2, h3, h4, h5, h6, h7⟩ := hR.blk b _ hb
      rw [hp] at hp'; cases hp'
      have hlt : off < n' := by simpa [Nat.blt_eq] using hlt
      refine ⟨.pointer (some ⟨p.blk, p.off + off, none⟩), ?_, .ptr _ _ _ hp⟩
      have hsz : ¬ (cs.size <= p.off + off) := by omega
      simp [Go.convert, run_underlying_ev hs, run_underlying_ev hd, Conv.unsafePointer, Conv.seenAt, viewAt, cellsIn, shape_cells h1, run_sizeOf_ev hn, hsz]
    · -- a pointer of an unsafe pointer
      rename_i u b off
      obtain ⟨p, hp, rfl⟩ := ptr_inv ha
      split at h <;> try (cases h; done)
      split at h <;> try (cases h; done)
      rename_i n' c ro frz e hb
      split at h <;> try (cases h; done)
      rename_i sz hl hsz
      simp only [Option.some.injEq] at h; subst h
      obtain ⟨p', hp', cs, fr, h1, h2, h3, h4, h5, h6, h7⟩ := hR.blk b _ hb
      rw [hp] at hp'; cases hp'
      obtain ⟨hoff, hn⟩ := h4 rfl
      refine ⟨.pointer (some ⟨p.blk, p.off + off, none⟩), ?_, .ptr _ _ _ hp⟩
      have hv : (variablesAt ⟨p.blk, p.off + off, none⟩ u 1).run P w = .ok true w := by
        simp [variablesAt, shape_cells h1, h2, <- hn, hoff, hl]
      simp [Go.convert, run_underlying_ev hs, run_underlying_ev hd, Conv.unsafePointer, Conv.seenAt, viewAt, shape_cells h1, run_sizeOf_ev hsz, hv]
    · cases h
  · cases h
end
end Go.Ev
/- What leaves the world as it is: places, slices, maps' look-ups, building. -/
set_option linter.unusedSimpArgs false
set_option linter.unusedVariables false
namespace Go.Ev
open Go
section
variable {P : Program} {μ : Mp} {H : AH} {w : World}
theorem add_pl (p : Pl) (off n : Nat) : Addr.add ⟨p.blk, p.off + off, none⟩ n = ⟨p.blk, p.off + (off + n), none⟩ := by
  rw [Addr.add_none, Nat.add_assoc]
theorem evIndexAddr_sound {t : TypeId} {x i z : AV} {a b : Value} (ha : VR μ x a) (hb : VR μ i b) (h : evIndexAddr P t x i = some z) :
    ∃ v, (Instr.indexAt t a b).run P w = .ok v w /\ VR μ z v := by
  unfold evIndexAddr at h
  split at h <;> try (cases h; done)
  rename_i k n
  cases int_inv hb
  split at h
  · rename_i len elem b' off hu
    obtain ⟨p, hp, rfl⟩ := ptr_inv ha
    split at h <;> try (cases h; done)
    rename_i es hlt hs
    simp only [Option.some.injEq] at h; subst h
    have hlt : n < len := by simpa [Nat.blt_eq] using hlt
    refine ⟨_, ?_, .ptr b' (off + n * es) p hp⟩
    have h1 : (0 : Int) <= (n : Int) /\ (n : Int) < (len : Int) := by omega
    simp [Instr.indexAt, asIntOf, run_underlying_ev hu, Instr.sureAddr, hlt, run_sizeOf_ev hs, add_pl]
  · rename_i elem b' off len es' cap hu
    obtain ⟨p, c, hp, rfl, hc, ho⟩ := slc_inv ha
    split at h <;> try (cases h; done)
    rename_i es hlt hs
    simp only [Option.some.injEq] at h; subst h
    have hlt : n < len := by simpa [Nat.blt_eq] using hlt
    refine ⟨_, ?_, .ptr b' (off + n * es) p hp⟩
    simp [Instr.indexAt, asIntOf, run_underlying_ev hu, Instr.sureAddr, hlt, run_sizeOf_ev hs, add_pl]
  · cases h
theorem evPart_sound {t : TypeId} {l : List AV} {a : List Value} {off : Nat} {z : AV} (hl : VRs μ l a) (h : evPart P t l off = some z) :
    ∃ v, (part t ⟨a⟩ off).run P w = .ok v w /\ VR μ z v := by
  unfold evPart at h
  split at h
  · cases h
  · rename_i hg
    split at h <;> try (cases h; done)
    rename_i n hn
    split at h <;> try (cases h; done)
    rename_i hle
    simp only [Option.some.injEq] at h; subst h
    refine ⟨.agg ⟨(a.drop off).take n⟩, ?_, .agg _ _ ((hl.drop off).take n)⟩
    simp [part, run_isAgg_ev hg, run_sizeOf_ev hn, List.extract_eq_take_drop]
  · rename_i hg
    obtain ⟨v, hv, hr⟩ := hl.get h
    exact ⟨v, by simp [part, run_isAgg_ev hg, hv], hr⟩
theorem evIndex_sound {t : TypeId} {x i z : AV} {a b : Value} (ha : VR μ x a) (hb : VR μ i b) (h : evIndex P t x i = some z) :
    ∃ v, (Instr.index t a b).run P w = .ok v w /\ VR μ z v := by
  unfold evIndex at h
  split at h <;> try (cases h; done)
  rename_i k n
  cases int_inv hb
  split at h
  · rename_i s hu
    obtain ⟨s', rfl, hs⟩ := str_inv ha
    split at h <;> try (cases h; done)
    rename_i c hc
    simp only [Option.some.injEq] at h; subst h
    rw [<- hs] at hc
    have hlt : n < s'.size := by
      have := (List.getElem?_eq_some_iff.1 hc).1
      simpa using this
    have hget : (s'[n]? : Option UInt8) = some s'[n] := by simp [hlt]
    have hc' : c = s'[n].toNat := by
      have := (List.getElem?_eq_some_iff.1 hc).2
      rw [<- this]; simp; rfl
    refine ⟨.int .u8 s'[n].toNat, ?_, by rw [hc']; exact .int _ _⟩
    simp [Instr.index, asIntOf, run_underlying_ev hu, hget]
  · rename_i len elem cs hu
    obtain ⟨a', rfl, hl⟩ := agg_inv ha
    split at h <;> try (cases h; done)
    rename_i es hlt hs
    have hlt : n < len := by simpa [Nat.blt_eq] using hlt
    obtain ⟨v, hv, hr⟩ := evPart_sound (P := P) (w := w) hl h
    refine ⟨v, ?_, hr⟩
    simp [Instr.index, asIntOf, run_underlying_ev hu, hlt, run_sizeOf_ev hs, hv]
  · cases h
theorem evFieldAddr_sound {t : TypeId} {x z : AV} {f : Nat} {a : Value} (ha : VR μ x a) (h : evFieldAddr P t x f = some z) :
    ∃ v, (Instr.fieldAt t a f).run P w = .ok v w /\ VR μ z v := by
  unfold evFieldAddr at h
  split at h <;> try (cases h; done)
  rename_i fields b off hu
  obtain ⟨p, hp, rfl⟩ := ptr_inv ha
  split at h <;> try (cases h; done)
  rename_i fd hf
  split at h <;> try (cases h; done)
  rename_i n hs
  simp only [Option.some.injEq] at h; subst h
  refine ⟨_, ?_, .ptr b (off + fd.offset) p hp⟩
  simp [Instr.fieldAt, run_underlying_ev hu, hf, Instr.sureAddr, fieldPlace, run_sizeOf_ev hs, add_pl]
theorem evField_sound {t : TypeId} {x z : AV} {f : Nat} {a : Value} (ha : VR μ x a) (h : evField P t x f = some z) :
    ∃ v, (Instr.field t a f).run P w = .ok v w /\ VR μ z v := by
  unfold evField at h
  split at h <;> try (cases h; done)
  rename_i fields cs hu
  obtain ⟨a', rfl, hl⟩ := agg_inv ha
  split at h <;> try (cases h; done)
  rename_i fd hf
  obtain ⟨v, hv, hr⟩ := evPart_sound (P := P) (w := w) hl h
  exact ⟨v, by simp [Instr.field, run_underlying_ev hu, hf, asAgg, hv], hr⟩
inductive OR2 (μ : Mp) : Option AV -> Option Value -> Prop where
  | none : OR2 μ none none
  | some (x : AV) (v : Value) (h : VR μ x v) : OR2 μ (some x) (some v)
theorem bound_inv {x : Option AV} {v : Option Value} {r : Option Nat} (hx : OR2 μ x v) (h : bound x = some r) :
    (r = none /\ v = none) \/ ∃ k n, r = some n /\ v = some (.int k (Int.ofNat n)) := by
  cases hx with
  | none => simp [bound] at h; exact .inl ⟨h.symm, rfl⟩
  | some x v hv =>
    unfold bound at h
    split at h
    · rename_i h0; cases h0
    · rename_i k n heq
      cases heq
      cases int_inv hv
      simp at h
      exact .inr ⟨k, n, h.symm, rfl⟩
    · cases h
theorem run_sliceBound {k : IntKind} {n y : Nat} {code : BoundsCode} (h : n <= y) : (Instr.sliceBound (.int k (Int.ofNat n)) y code).run P w = .ok n w := by
  simp [Instr.sliceBound, asIntOf, h]
theorem run_sliceBounds {isSlice : Bool} {len cap : Nat} {lo hi mx : Option Value} {l h m : Option Nat}
    (hl : (l = none /\ lo = none) \/ ∃ k n, l = some n /\ lo = some (.int k (Int.ofNat n)))
    (hh : (h = none /\ hi = none) \/ ∃ k n, h = some n /\ hi = some (.int k (Int.ofNat n)))
    (hm : (m = none /\ mx = none) \/ ∃ k n, m = some n /\ mx = some (.int k (Int.ofNat n)))
    (h1 : m.getD cap <= cap) (h2 : h.getD len <= m.getD cap) (h3 : l.getD 0 <= h.getD len) (h4 : m.isSome = true -> h.isSome = true) :
    (Instr.sliceBounds isSlice len cap lo hi mx).run P w = .ok (l.getD 0, h.getD len, m.getD cap) w := by
  rcases hl with ⟨rfl, rfl⟩ | ⟨_, _, rfl, rfl⟩ <;> rcases hh with ⟨rfl, rfl⟩ | ⟨_, _, rfl, rfl⟩ <;> rcases hm with ⟨rfl, rfl⟩ | ⟨_, _, rfl, rfl⟩ <;>
    simp only [Option.getD_none, Option.getD_some, Option.isSome_none, Option.isSome_some] at h1 h2 h3 h4 <;>
    first
      | (exact absurd (h4 trivial) Bool.false_ne_true)
      | (simp only [Instr.sliceBounds, Sem.run_bind, Sem.run_pure, Result.andThen_ok, run_sliceBound h1, run_sliceBound h2, run_sliceBound h3, Option.getD_none, Option.getD_some]; done)
      | (simp only [Instr.sliceBounds, Sem.run_bind, Sem.run_pure, Result.andThen_ok, run_sliceBound h2, run_sliceBound h3, Option.getD_none, Option.getD_some]; done)
      | (simp only [Instr.sliceBounds, Sem.run_bind, Sem.run_pure, Result.andThen_ok, run_sliceBound h1, run_sliceBound h3, Option.getD_none, Option.getD_some]; done)
      | (simp only [Instr.sliceBounds, Sem.run_bind, Sem.run_pure, Result.andThen_ok, run_sliceBound h3, Option.getD_none, Option.getD_some]; done)
      | (simp only [Instr.sliceBounds, Sem.run_bind, Sem.run_pure, Result.andThen_ok, Option.getD_none, Option.getD_some]; done)
theorem ble {a b : Nat} (h : Nat.ble a b = true) : a <= b := Nat.le_of_ble_eq_true h
theorem mx_hi {m h : Option Nat} (e : (match m, h with | some _, none => false | _, _ => true) = true) : m.isSome = true -> h.isSome = true := by
  cases m <;> cases h <;> simp_all
theorem run_sliceAt_slice {t elem : TypeId} {x : Value} {lo hi mx : Option Value} (hu : P.underlying t = some (.slice elem)) :
    (Instr.sliceAt t x lo hi mx).run P w = (Instr.slice t x lo hi mx).run P w := by
  simp [Instr.sliceAt, run_underlying_ev hu]
theorem evSlice_sound {t : TypeId} {x z : AV} {a : Value} {lo hi mx : Option AV} {lo' hi' mx' : Option Value} (ha : VR μ x a) (hlo : OR2 μ lo lo') (hhi : OR2 μ hi hi') (hmx : OR2 μ mx mx')
    (h : evSlice P t x lo hi mx = some z) : ∃ v, (Instr.sliceAt t a lo' hi' mx').run P w = .ok v w /\ VR μ z v := by
  unfold evSlice at h
  split at h <;> try (cases h; done)
  rename_i l hh m hbl hbh hbm
  have il := bound_inv hlo hbl
  have ih := bound_inv hhi hbh
  have im := bound_inv hmx hbm
  split at h
  · -- string
    rename_i s hu
    obtain ⟨s', rfl, hs⟩ := str_inv ha
    simp only at h
    split at h <;> try (cases h; done)
    rename_i h1 h2
    simp only [Option.some.injEq] at h; subst h
    have hsz : s.length = s'.size := by rw [<- hs]; simp
    have h1 := ble h1
    have h2 := ble h2
    rw [hsz] at h1 h2
    have imn : mx' = none := by rcases im with ⟨_, h⟩ | ⟨_, _, h, _⟩ <;> simp_all
    have hb := run_sliceBounds (P := P) (w := w) (isSlice := false) (len := s'.size) (cap := s'.size) (m := none) (mx := none) il ih (.inl ⟨rfl, rfl⟩) (by simp) (by simpa using h1) h2 (by simp)
    rw [imn]
    refine ⟨.string (s'.extract (l.getD 0) (hh.getD s'.size)), ?_, .str _ _ ?_⟩
    · simp [Instr.sliceAt, Instr.slice, run_underlying_ev hu, hb]
    · rw [hsz, <- hs]
      simp [cutStr, ByteArray.data_extract, List.extract_eq_take_drop, List.map_take, List.map_drop]
  · -- array
    rename_i n elem b off hu
    obtain ⟨p, hp, rfl⟩ := ptr_inv ha
    split at h <;> try (cases h; done)
    rename_i es hs
    simp only at h
    split at h <;> try (cases h; done)
    rename_i h1 h2 h3 h4
    have hb := run_sliceBounds (P := P) (w := w) (isSlice := false) (len := n) (cap := n) il ih im (ble h1) (ble h2) (ble h3) (mx_hi h4)
    split at h
    · rename_i e
      have e := Nat.eq_of_beq_eq_true e
      simp only [Option.some.injEq] at h; subst h
      refine ⟨_, ?_, .slc b off _ es _ (m.getD n - l.getD 0) p hp (by intro k hk; simpa using hk) (by simp)⟩
      simp [Instr.sliceAt, run_underlying_ev hu, Instr.sureAddr, hb, run_sizeOf_ev hs, e]
    · rename_i e
      have e := Nat.ne_of_beq_eq_false e
      simp only [Option.some.injEq] at h; subst h
      refine ⟨_, ?_, .slc b (off + l.getD 0 * es) _ es _ (m.getD n - l.getD 0) p hp (by intro k hk; simpa using hk) (by simp)⟩
      simp [Instr.sliceAt, run_underlying_ev hu, Instr.sureAddr, hb, run_sizeOf_ev hs, e, add_pl]
  · -- slice of known capacity
    rename_i elem b off len es' cap hu
    obtain ⟨p, c, hp, rfl, hc, ho⟩ := slc_inv ha
    have hcc : c = cap := hc cap rfl
    subst hcc
    split at h <;> try (cases h; done)
    rename_i es hs
    simp only at h
    split at h <;> try (cases h; done)
    rename_i h1 h2 h3 h4 h5
    have h5 := Nat.eq_of_beq_eq_true h5
    subst h5
    have hb := run_sliceBounds (P := P) (w := w) (isSlice := true) (len := len) (cap := c) il ih im (ble h1) (ble h2) (ble h3) (mx_hi h4)
    rw [run_sliceAt_slice hu]
    split at h
    · rename_i e
      have e := Nat.eq_of_beq_eq_true e
      simp only [Option.some.injEq] at h; subst h
      refine ⟨_, ?_, .slc b off _ es _ (m.getD c - l.getD 0) p hp (by intro k hk; simpa using hk) (by simp)⟩
      simp [Instr.slice, run_underlying_ev hu, hb, run_sizeOf_ev hs, e]
    · rename_i e
      have e := Nat.ne_of_beq_eq_false e
      simp only [Option.some.injEq] at h; subst h
      refine ⟨_, ?_, .slc b (off + l.getD 0 * es) _ es _ (m.getD c - l.getD 0) p hp (by intro k hk; simpa using hk) (by simp)⟩
      simp [Instr.slice, run_underlying_ev hu, hb, run_sizeOf_ev hs, e, add_pl]
  · -- slice of unknown capacity
    rename_i elem b off len es' hu
    obtain ⟨p, c, hp, rfl, hc, ho⟩ := slc_inv ha
    obtain ⟨ho, hlc⟩ := ho rfl
    split at h <;> try (cases h; done)
    rename_i es hs
    rw [run_sliceAt_slice hu]
    split at h
    · rename_i m'
      simp only at h
      split at h <;> try (cases h; done)
      rename_i h'
      split at h <;> try (cases h; done)
      rename_i h1 h2 h3 h5
      have h5 := Nat.eq_of_beq_eq_true h5
      subst h5
      have h1 := ble h1
      have hb := run_sliceBounds (P := P) (w := w) (isSlice := true) (len := len) (cap := c) il ih im (by simp; omega) (by simpa using ble h2) (by simpa using ble h3) (by simp)
      simp only [Option.getD_some] at hb
      split at h
      · rename_i e
        have e := Nat.eq_of_beq_eq_true e
        simp only [Option.some.injEq] at h; subst h
        refine ⟨_, ?_, .slc b off _ es _ (m' - l.getD 0) p hp (by intro k hk; simpa using hk) (by simp)⟩
        simp [Instr.slice, run_underlying_ev hu, hb, run_sizeOf_ev hs, e]
      · rename_i e
        have e := Nat.ne_of_beq_eq_false e
        simp only [Option.some.injEq] at h; subst h
        refine ⟨_, ?_, .slc b (off + l.getD 0 * es) _ es _ (m' - l.getD 0) p hp (by intro k hk; simpa using hk) (by simp)⟩
        simp [Instr.slice, run_underlying_ev hu, hb, run_sizeOf_ev hs, e, add_pl]
    · simp only at h
      split at h <;> try (cases h; done)
      rename_i h1 h2 h5
      have h5 := Nat.eq_of_beq_eq_true h5
      subst h5
      have h1 := ble h1
      have h2 := ble h2
      have hb := run_sliceBounds (P := P) (w := w) (isSlice := true) (len := len) (cap := c) (m := none) il ih im (by simp) (by simp; omega) h2 (by simp)
      simp only [Option.getD_none] at hb
      split at h
      · rename_i hlt
        have hlt : l.getD 0 < len := by simpa [Nat.blt_eq] using hlt
        simp only [Option.some.injEq] at h; subst h
        have hne : ¬ (c = l.getD 0) := by omega
        refine ⟨_, ?_, .slc b (off + l.getD 0 * es) (hh.getD len - l.getD 0) es none (c - l.getD 0) p hp (by simp) (fun _ => ⟨?_, by omega⟩)⟩
        · simp [Instr.slice, run_underlying_ev hu, hb, run_sizeOf_ev hs, hne, add_pl]
        · rw [<- ho, Nat.sub_mul]
          have : l.getD 0 * es <= c * es := Nat.mul_le_mul_right _ (by omega)
          omega
      · rename_i hlt
        have hlt : ¬ (l.getD 0 < len) := by rw [<- Nat.blt_eq, hlt]; simp
        split at h
        · rename_i el
          simp only [Option.some.injEq] at h; subst h
          refine ⟨_, ?_, .slc b off (hh.getD len - l.getD 0) es none c p hp (by simp) (fun _ => ⟨ho, by omega⟩)⟩
          rw [el] at hb
          simp only [Instr.slice, Sem.run_bind, run_underlying_ev hu, Result.andThen_ok, hb, run_sizeOf_ev hs, Sem.run_pure]
          by_cases e : c = 0
          · simp [e, ‹l.getD 0 = 0›]
          · simp [e, Addr.add, ‹l.getD 0 = 0›]
        · simp only [Option.some.injEq] at h; subst h
          have hz : hh.getD len - l.getD 0 = 0 := by omega
          by_cases e : c = l.getD 0
          · refine ⟨.slice (some ⟨p.blk, p.off + off, none⟩) 0 (c - l.getD 0), ?_, .slcE _ _⟩
            simp [Instr.slice, run_underlying_ev hu, hb, run_sizeOf_ev hs, hz, if_pos e]
          · refine ⟨.slice (some ⟨p.blk, p.off + (off + l.getD 0 * es), none⟩) 0 (c - l.getD 0), ?_, .slcE _ _⟩
            simp [Instr.slice, run_underlying_ev hu, hb, run_sizeOf_ev hs, e, add_pl, hz]
  · -- nil slice
    rename_i elem hu
    cases nils_inv ha
    split at h <;> try (cases h; done)
    rename_i es hsz
    split at h <;> try (cases h; done)
    rename_i h1 h2 h3
    split at h <;> try (cases h; done)
    rename_i hmh
    simp only [Option.some.injEq] at h; subst h
    rw [run_sliceAt_slice hu]
    have hm' : m.getD 0 = 0 := h3
    have hh' : hh.getD 0 = 0 := h2
    have hl' : l.getD 0 = 0 := h1
    have hb := run_sliceBounds (P := P) (w := w) (isSlice := true) (len := 0) (cap := 0) il ih im (by omega) (by omega) (by omega) (by cases m <;> cases hh <;> simp_all)
    rw [hm', hh', hl'] at hb
    exact ⟨.slice none 0 0, by simp [Instr.slice, run_underlying_ev hu, hb, run_sizeOf_ev hsz], .nils⟩
  · -- an empty slice somewhere
    rename_i elem hu
    obtain ⟨a', c, rfl⟩ := slcE_inv ha
    split at h <;> try (cases h; done)
    rename_i es hsz
    split at h <;> try (cases h; done)
    rename_i h1 h2
    simp only [Option.some.injEq] at h; subst h
    rw [run_sliceAt_slice hu]
    have hh' : hh.getD 0 = 0 := h2
    have hl' : l.getD 0 = 0 := h1
    have hb := run_sliceBounds (P := P) (w := w) (isSlice := true) (len := 0) (cap := c) (m := none) il ih im (by simp) (by simp; omega) (by omega) (by simp)
    rw [hh', hl'] at hb
    simp only [Option.getD_none] at hb
    by_cases e : c = 0
    · subst e
      exact ⟨.slice (some a') 0 (0 - 0), by simp [Instr.slice, run_underlying_ev hu, hb, run_sizeOf_ev hsz], .slcE _ _⟩
    · exact ⟨.slice (some (a'.add 0)) 0 (c - 0), by simp [Instr.slice, run_underlying_ev hu, hb, run_sizeOf_ev hsz, e], .slcE _ _⟩
  · cases h
end
end Go.Ev
/- What leaves the world as it is: maps' look-ups, building, the small builtins; all together. -/
set_option linter.unusedSimpArgs false
set_option linter.unusedVariables false
namespace Go.Ev
open Go
section
variable {P : Program} {μ : Mp} {H : AH} {w : World}
theorem keyEq_sound {kind : TypeDesc} {x y : AV} {a b : Value} {r : Bool} (ha : VR μ x a) (hb : VR μ y b) (h : keyEq kind x y = some r) : Instr.sameNow kind a b = some r := by
  unfold keyEq at h
  split at h
  · rename_i k m k' m'
    cases int_inv ha
    cases int_inv hb
    split at h <;> try (cases h; done)
    rename_i hk
    have hk := of_decide_eq_true hk
    simp only [Option.some.injEq] at h; subst h
    simp [Instr.sameNow, hk]
  · obtain ⟨s, rfl, hs⟩ := str_inv ha
    obtain ⟨s', rfl, hs'⟩ := str_inv hb
    simp only [Option.some.injEq] at h; subst h
    simp only [Instr.sameNow, Option.some.injEq]
    rw [<- hs, <- hs', natsEq_iff]
    have : (s == s') = (s.data == s'.data) := rfl
    rw [this]
    obtain ⟨⟨x⟩⟩ := s
    obtain ⟨⟨y⟩⟩ := s'
    rw [Bool.eq_iff_iff]
    simp
  · cases bool_inv ha
    cases bool_inv hb
    simp only [Option.some.injEq] at h; subst h
    rfl
  · cases h
theorem findA_sound {kind : TypeDesc} {x : AV} {a : Value} (hx : VR μ x a) : ∀ {es : List (AV × AV × Nat)} {l : List MapEntry} {i : Nat} {r : Option (Nat × AV)}, ERs μ es l -> findA kind x es i = some r ->
    match r with
    | none => Instr.findNow kind a l i = some none
    | some (j, v) => ∃ v', Instr.findNow kind a l i = some (some (j, v')) /\ VR μ v v' /\ i <= j /\ j - i < es.length /\ ∃ e, l[j - i]? = some e /\ Instr.sameNow kind a e.key = some true
  | [], _, i, r, .nil, h => by simp [findA] at h; subst h; rfl
  | _ :: _, _, i, r, .cons k v born es k' v' l hk hv ht, h => by
    simp only [findA] at h
    split at h
    · rename_i hke
      simp only [Option.some.injEq] at h; subst h
      exact ⟨v', by simp [Instr.findNow, keyEq_sound hx hk hke], hv, Nat.le_refl _, by simp, _, by simp; rfl, keyEq_sound hx hk hke⟩
    · rename_i hke
      have ih := findA_sound hx ht h
      cases r with
      | none => simp only at ih ⊢; simp [Instr.findNow, keyEq_sound hx hk hke, ih]
      | some q =>
        obtain ⟨j, y⟩ := q
        simp only at ih ⊢
        obtain ⟨y', h1, h2, h3, h4, e, h5, h6⟩ := ih
        exact ⟨y', by simp [Instr.findNow, keyEq_sound hx hk hke]; exact h1, h2, by omega, by simp; omega, e, by rw [show j - i = (j - Nat.succ i) + 1 by omega]; simpa using h5, h6⟩
    · cases h
theorem run_checkKey {key : TypeId} {kind : TypeDesc} {v : Value} {e : Bool} (hu : P.underlying key = some kind) (hk : plainKey kind = true) : (Instr.checkKey e 10000 key v).run P w = .ok () w := by
  have : ∀ d, (Instr.checkKey e (d + 1) key v).run P w = .ok () w := fun d => by
    simp only [Instr.checkKey, Sem.run_bind, run_underlying_ev hu, Result.andThen_ok]
    cases kind <;> simp_all [plainKey]
  exact this 9999
theorem run_findKey {key : TypeId} {kind : TypeDesc} {v : Value} {l : List MapEntry} {r : Option (Nat × Value)} (hu : P.underlying key = some kind) (h : Instr.findNow kind v l 0 = some r) :
    (Instr.findKey key v l).run P w = .ok r w := by
  simp [Instr.findKey, run_underlying_ev hu, h]
theorem findKey_ask {t : TypeId} {kind : TypeDesc} {a : Value} {l : List MapEntry} {q : Option (Nat × Value)} (hu : P.underlying t = some kind) (hn : ∀ a b, Instr.sameNow kind a b = none)
    (hq : (Instr.findAsking t a l 0).run P w = .ok q w) : (Instr.findKey t a l).run P w = .ok q w := by
  cases l with
  | nil => simpa [Instr.findKey, run_underlying_ev hu, Instr.findNow, Instr.findAsking] using hq
  | cons m l =>
    have hn : Instr.findNow kind a (m :: l) 0 = none := by
      simp only [Instr.findNow, hn]
    simpa [Instr.findKey, run_underlying_ev hu, hn] using hq
theorem keyPtr_sound (hR : Rel μ H w) {t e : TypeId} {x y : AV} {a b : Value} {r : Bool} (hu : P.underlying t = some (.pointer e)) (ha : VR μ x a) (hb : VR μ y b) (h : keyPtr P H e x y = some r) :
    (Op.equal t a b).run P w = .ok r w := by
  unfold keyPtr at h
  split at h <;> try (cases h; done)
  rename_i b1 o b2 o'
  obtain ⟨p, hp, rfl⟩ := ptr_inv ha
  obtain ⟨p', hp', rfl⟩ := ptr_inv hb
  split at h <;> try (cases h; done)
  rename_i n hs
  have eqn : ∀ r, (sameAddr ⟨p.blk, p.off + o, none⟩ ⟨p'.blk, p'.off + o', none⟩).run P w = .ok r w -> (Op.equal t (.pointer (some ⟨p.blk, p.off + o, none⟩)) (.pointer (some ⟨p'.blk, p'.off + o', none⟩))).run P w = .ok r w := by
    intro r hr
    refine equal_of fun d => ?_
    simp [Op.equalIn, run_underlying_ev hu, run_sizeOf_ev hs, hr]
  split at h
  · rename_i hbb
    have hbb := Nat.eq_of_beq_eq_true hbb
    subst hbb
    rw [hp] at hp'; cases hp'
    simp only [Option.some.injEq] at h; subst h
    refine eqn (Nat.beq o o') ?_
    have : ((⟨p.blk, p.off + o, none⟩ : Addr) == ⟨p.blk, p.off + o', none⟩) = Nat.beq o o' := by
      by_cases e : o = o'
      · subst e; simp
      · have h1 : Nat.beq o o' = false := by rw [<- Bool.not_eq_true]; intro hh; exact e (Nat.eq_of_beq_eq_true hh)
        rw [h1]; simp; omega
    simp [sameAddr, this]
  · rename_i hbb
    have hbb := Nat.ne_of_beq_eq_false hbb
    split at h <;> try (cases h; done)
    rename_i h1 h2
    simp only [Option.some.injEq] at h; subst h
    obtain ⟨B, q, cs, e1, hB, hq, hc⟩ := plainB_spec hR h1
    obtain ⟨B', q', cs', e2, hB', hq', hc'⟩ := plainB_spec hR h2
    rw [hp] at hq; cases hq
    rw [hp'] at hq'; cases hq'
    exact eqn false (run_sameAddr_other hc hc' fun e => hbb (hR.inj _ _ _ _ _ _ hB hB' hp hp' e))
theorem findP_sound (hR : Rel μ H w) {t e : TypeId} {x : AV} {a : Value} (hu : P.underlying t = some (.pointer e)) (hx : VR μ x a) : ∀ {es : List (AV × AV × Nat)} {l : List MapEntry} {i : Nat} {r : Option (Nat × AV)}, ERs μ es l -> findP P H e x es i = some r ->
    match r with
    | none => (Instr.findAsking t a l i).run P w = .ok none w
    | some (j, v) => ∃ v', (Instr.findAsking t a l i).run P w = .ok (some (j, v')) w /\ VR μ v v'
  | [], _, i, r, .nil, h => by simp [findP] at h; subst h; rfl
  | _ :: _, _, i, r, .cons k v born es k' v' l hk hv ht, h => by
    simp only [findP] at h
    split at h
    · rename_i hke
      simp only [Option.some.injEq] at h; subst h
      exact ⟨v', by simp [Instr.findAsking, keyPtr_sound hR hu hx hk hke], hv⟩
    · rename_i hke
      have ih := findP_sound hR hu hx ht h
      cases r with
      | none => simp only at ih ⊢; simpa [Instr.findAsking, keyPtr_sound hR hu hx hk hke] using ih
      | some q =>
        obtain ⟨j, y⟩ := q
        simp only at ih ⊢
        obtain ⟨y', h1, h2⟩ := ih
        exact ⟨y', by simpa [Instr.findAsking, keyPtr_sound hR hu hx hk hke] using h1, h2⟩
    · cases h
theorem keyAgg_sound {t : TypeId} {x y : AV} {a b : Value} {r : Bool} (ha : VR μ x a) (hb : VR μ y b) (h : keyAgg P t x y = some r) : (Op.equal t a b).run P w = .ok r w := by
  unfold keyAgg at h
  split at h <;> try (cases h; done)
  rename_i u v hu hv
  cases toV_eq ha _ hu
  cases toV_eq hb _ hv
  split at h <;> try (cases h; done)
  rename_i q hq
  simp only [Option.some.injEq] at h; subst h
  have := pureRun_sound P _ _ w hq
  simp only [Sem.run_bind, Sem.run_pure] at this
  cases hr : (Op.equal t a b).run P w with
  | ok r' w' => rw [hr] at this; simp only [Result.andThen_ok, Result.ok.injEq, Value.bool.injEq] at this; obtain ⟨h1, h2⟩ := this; subst h1 h2; rfl
  | _ => rw [hr] at this; cases this
theorem findS_sound {t : TypeId} {x : AV} {a : Value} (hx : VR μ x a) : ∀ {es : List (AV × AV × Nat)} {l : List MapEntry} {i : Nat} {r : Option (Nat × AV)}, ERs μ es l -> findS P t x es i = some r ->
    match r with
    | none => (Instr.findAsking t a l i).run P w = .ok none w
    | some (j, v) => ∃ v', (Instr.findAsking t a l i).run P w = .ok (some (j, v')) w /\ VR μ v v'
  | [], _, i, r, .nil, h => by simp [findS] at h; subst h; rfl
  | _ :: _, _, i, r, .cons k v born es k' v' l hk hv ht, h => by
    simp only [findS] at h
    split at h
    · rename_i hke
      simp only [Option.some.injEq] at h; subst h
      exact ⟨v', by simp [Instr.findAsking, keyAgg_sound hx hk hke], hv⟩
    · rename_i hke
      have ih := findS_sound hx ht h
      cases r with
      | none => simp only at ih ⊢; simpa [Instr.findAsking, keyAgg_sound hx hk hke] using ih
      | some q =>
        obtain ⟨j, y⟩ := q
        simp only at ih ⊢
        obtain ⟨y', h1, h2⟩ := ih
        exact ⟨y', by simpa [Instr.findAsking, keyAgg_sound hx hk hke] using h1, h2⟩
    · cases h
theorem keyOk_sound {t : TypeId} {kind : TypeDesc} {x : AV} {a : Value} (hu : P.underlying t = some kind) (hx : VR μ x a) (h : keyOk P t kind x = true) (e : Bool) : (Instr.checkKey e 10000 t a).run P w = .ok () w := by
  unfold keyOk at h
  split at h
  · rename_i hp; exact run_checkKey hu hp
  · split at h <;> try (cases h; done)
    rename_i u _ hu'
    cases toV_eq hx _ hu'
    have key : ∀ e, checkOk P t e a = true -> (Instr.checkKey e 10000 t a).run P w = .ok () w := by
      intro e he
      unfold checkOk at he
      split at he <;> try (cases he; done)
      rename_i v hv
      have := pureRun_sound P _ _ w hv
      simp only [Sem.run_bind, Sem.run_pure] at this
      cases hr : (Instr.checkKey e 10000 t a).run P w with
      | ok r' w' => rw [hr] at this; simp only [Result.andThen_ok, Result.ok.injEq] at this; obtain ⟨h1, h2⟩ := this; subst h2; rfl
      | _ => rw [hr] at this; cases this
    split at h <;> try (cases h; done)
    rename_i h1 h2
    cases e
    · exact key false h2
    · exact key true h1
theorem findK_sound (hR : Rel μ H w) {t : TypeId} {kind : TypeDesc} {x : AV} {a : Value} {es : List (AV × AV × Nat)} {l : List MapEntry} {r : Option (Nat × AV)} (hu : P.underlying t = some kind) (hx : VR μ x a) (he : ERs μ es l) (h : findK P H t kind x es = some r) :
    match r with
    | none => (Instr.findKey t a l).run P w = .ok none w
    | some (j, v) => ∃ v', (Instr.findKey t a l).run P w = .ok (some (j, v')) w /\ VR μ v v' /\ (isPtr kind = none -> isStr kind = false -> ∃ e, l[j]? = some e /\ Instr.sameNow kind a e.key = some true) := by
  unfold findK at h
  split at h
  · rename_i e hp
    have hk : kind = .pointer e := by
      unfold isPtr at hp
      split at hp
      · simp only [Option.some.injEq] at hp; subst hp; rfl
      · cases hp
    subst hk
    have law := findP_sound hR hu hx he h
    have hfk : ∀ q, (Instr.findAsking t a l 0).run P w = .ok q w -> (Instr.findKey t a l).run P w = .ok q w := by
      intro q hq
      exact findKey_ask hu (fun a b => by simp only [Instr.sameNow]) hq
    cases r with
    | none => exact hfk _ law
    | some q =>
      obtain ⟨j, v⟩ := q
      obtain ⟨v', h1, h2⟩ := law
      exact ⟨v', hfk _ h1, h2, fun hc _ => by rw [hp] at hc; cases hc⟩
  · split at h
    · rename_i hs
      have law := findS_sound (w := w) hx he h
      have hfk : ∀ q, (Instr.findAsking t a l 0).run P w = .ok q w -> (Instr.findKey t a l).run P w = .ok q w := fun q hq => findKey_ask hu (fun a b => by
        cases kind <;> simp only [isStr] at hs <;> first | (cases hs; done) | simp only [Instr.sameNow]) hq
      cases r with
      | none => exact hfk _ law
      | some q =>
        obtain ⟨j, v⟩ := q
        obtain ⟨v', h1, h2⟩ := law
        rename_i hs'
        exact ⟨v', hfk _ h1, h2, fun _ hc => by rw [hs] at hc; cases hc⟩
    have law := findA_sound hx he h
    cases r with
    | none => exact run_findKey hu law
    | some q =>
      obtain ⟨j, v⟩ := q
      obtain ⟨v', h1, h2, _, _, e, h5, h6⟩ := law
      exact ⟨v', run_findKey hu h1, h2, fun _ _ => ⟨e, by simpa using h5, h6⟩⟩
theorem getMap_sound (hR : Rel μ H w) {x : AV} {a : Value} {es : List (AV × AV × Nat)} (hx : VR μ x a) (h : getMap H x = some es) :
    (a = .map none /\ es = []) \/ ∃ r l clock, a = .map (some r) /\ w.heap[r]? = some (.map ⟨l⟩ clock) /\ ERs μ es l := by
  unfold getMap at h
  split at h
  · cases nilm_inv hx; simp only [Option.some.injEq] at h; exact .inl ⟨rfl, h.symm⟩
  · rename_i b
    obtain ⟨p, hp, rfl⟩ := map_inv hx
    split at h <;> try (cases h; done)
    rename_i es' clock hb
    simp only [Option.some.injEq] at h; subst h
    obtain ⟨p', hp', l, h1, h2⟩ := hR.blk b _ hb
    rw [hp] at hp'; cases hp'
    exact .inr ⟨_, l, clock, rfl, h1, h2⟩
  · cases h
theorem run_getObj_map {r : Nat} {l : Array MapEntry} {clock : Nat} (h : w.heap[r]? = some (.map l clock)) : (getObj r).run P w = .ok (.map l clock) w := by
  simp [getObj, Sem.run, h]
theorem lookup_core {t key elem : TypeId} {kind : TypeDesc} {a b : Value} {l : List MapEntry} {ok : Bool} {q : Option (Nat × Value)} (hu : P.underlying t = some (.map key elem)) (hk : P.underlying key = some kind)
    (hck : ∀ e, (Instr.checkKey e 10000 key b).run P w = .ok () w) (hent : (a = .map none /\ l = []) \/ ∃ r clock, a = .map (some r) /\ w.heap[r]? = some (.map ⟨l⟩ clock)) (hfk : (Instr.findKey key b l).run P w = .ok q w) :
    (Instr.lookup t a b ok).run P w = match q with
      | some (_, v) => .ok (if ok then .tuple #[v, .bool true] else v) w
      | none => ((zeroValue elem).run P w).andThen fun v w' => .ok (if ok then .tuple #[v, .bool false] else v) w' := by
  rcases hent with ⟨rfl, rfl⟩ | ⟨r, clock, rfl, h1⟩
  · cases q with
    | none => simp [Instr.lookup, run_underlying_ev hu, hck, hfk]
    | some q => simp [Instr.lookup, run_underlying_ev hu, hck, hfk]
  · cases q with
    | none => simp [Instr.lookup, run_underlying_ev hu, hck, hfk, run_getObj_map h1]
    | some q => simp [Instr.lookup, run_underlying_ev hu, hck, hfk, run_getObj_map h1]
theorem evLookup_sound (hR : Rel μ H w) {t : TypeId} {x i z : AV} {a b : Value} {ok : Bool} (hx : VR μ x a) (hi : VR μ i b) (h : evLookup P H t x i ok = some z) :
    ∃ v, (Instr.lookup t a b ok).run P w = .ok v w /\ VR μ z v := by
  unfold evLookup at h
  split at h <;> try (cases h; done)
  rename_i key elem hu
  split at h <;> try (cases h; done)
  rename_i kind hk
  split at h <;> try (cases h; done)
  rename_i es hpk hgm
  have hes : ∃ l, ERs μ es l /\ ((a = .map none /\ l = []) \/ ∃ r clock, a = .map (some r) /\ w.heap[r]? = some (.map ⟨l⟩ clock)) := by
    rcases getMap_sound hR hx hgm with ⟨h1, h2⟩ | ⟨r, l, clock, h1, h2, h3⟩
    · exact ⟨[], h2 ▸ .nil, .inl ⟨h1, rfl⟩⟩
    · exact ⟨l, h3, .inr ⟨r, clock, h1, h2⟩⟩
  obtain ⟨l, hl, hent⟩ := hes
  split at h
  · rename_i j v hf
    obtain ⟨v', h1, h2, _⟩ := findK_sound hR hk hi hl hf
    refine ⟨_, lookup_core hu hk (keyOk_sound hk hi hpk) hent h1, ?_⟩
    cases ok <;> simp only [Option.some.injEq] at h <;> subst h
    · exact h2
    · exact .tup _ _ (.cons _ _ _ _ h2 (.cons _ _ _ _ (.bool _) .nil))
  · rename_i hf
    have h1 := findK_sound hR hk hi hl hf
    simp only at h1
    split at h <;> try (cases h; done)
    rename_i inf hinf
    split at h <;> try (cases h; done)
    rename_i zz hz
    split at h <;> try (cases h; done)
    rename_i v hv
    have hzv : (zeroValue elem).run P w = .ok zz w := by simp [zeroValue, run_typeInfo_ev hinf, hz]
    refine ⟨if ok then .tuple #[zz, .bool false] else zz, (lookup_core hu hk (keyOk_sound hk hi hpk) hent h1).trans (by simp only [hzv, Result.andThen_ok]), ?_⟩
    cases ok <;> simp only [Option.some.injEq] at h <;> subst h
    · exact ofV_sound hv μ
    · exact .tup _ _ (.cons _ _ _ _ (ofV_sound hv μ) (.cons _ _ _ _ (.bool _) .nil))
  · cases h
theorem splice_spec : ∀ (l : List AV) (off : Nat) (xs : List AV), off + xs.length <= l.length -> (splice l off xs).length = l.length /\
    ∀ i, (splice l off xs)[i]? = if off <= i /\ i < off + xs.length then xs[i - off]? else l[i]?
  | l, 0, xs, h => by
    simp only [splice]
    refine ⟨by simp; omega, fun i => ?_⟩
    by_cases hi : i < xs.length
    · rw [List.getElem?_append_left hi, if_pos (by omega)]; rfl
    · have : xs.length <= i := by omega
      rw [List.getElem?_append_right this, List.getElem?_drop, if_neg (by omega)]
      congr 1; omega
  | [], off + 1, xs, h => by simp at h
  | y :: l, off + 1, xs, h => by
    simp only [splice, List.length_cons] at h ⊢
    obtain ⟨h1, h2⟩ := splice_spec l off xs (by omega)
    refine ⟨by simp [h1], fun i => ?_⟩
    cases i with
    | zero => simp
    | succ i =>
      simp only [List.getElem?_cons_succ]
      rw [h2 i]
      by_cases hc : off <= i /\ i < off + xs.length
      · rw [if_pos hc, if_pos (by omega)]; congr 1; omega
      · rw [if_neg hc, if_neg (by omega)]
theorem foldl_set_spec : ∀ (vs : List Value) (k : Nat) (off : Nat) (cs : Array Value), off + k + vs.length <= cs.size ->
    (vs.zipIdx k).foldl (fun (cs : Array Value) (x : Value × Nat) => cs.setIfInBounds (off + x.2) x.1) cs = ⟨(List.range cs.size).map fun i => if off + k <= i /\ i < off + k + vs.length then (vs[i - (off + k)]?).getD default else (cs[i]?).getD default⟩
  | [], k, off, cs, h => by
    simp only [List.zipIdx_nil, List.foldl_nil]
    apply Array.ext'
    apply List.ext_getElem?
    intro i
    by_cases hi : i < cs.size
    · have : ¬ (off + k <= i /\ i < off + k + ([] : List Value).length) := by simp only [List.length_nil]; omega
      simp [hi, this]
      intro h1 h2; omega
    · simp [hi]
  | v :: vs, k, off, cs, h => by
    simp only [List.length_cons] at h
    simp only [List.zipIdx_cons, List.foldl_cons]
    rw [foldl_set_spec vs (k + 1) off (cs.setIfInBounds (off + k) v) (by simp; omega)]
    congr 1
    simp only [Array.size_setIfInBounds]
    apply List.map_congr_left
    intro i hi
    have hi : i < cs.size := by simpa using hi
    by_cases e : i = off + k
    · subst e
      have n1 : ¬ (off + (k + 1) <= off + k /\ off + k < off + (k + 1) + vs.length) := by omega
      have n2 : off + k <= off + k /\ off + k < off + k + (v :: vs).length := by simp
      rw [if_neg n1, if_pos n2, Array.getElem?_setIfInBounds_self_of_lt hi]; try simp
    · rw [Array.getElem?_setIfInBounds_ne (Ne.symm e)]
      by_cases hc : off + (k + 1) <= i /\ i < off + (k + 1) + vs.length
      · rw [if_pos hc, if_pos (by simp only [List.length_cons]; omega), show i - (off + k) = (i - (off + (k + 1))) + 1 by omega]; rfl
      · rw [if_neg hc, if_neg (by simp only [List.length_cons]; omega)]
theorem fillA_sound {place : Nat -> Option (Nat × Nat)} : ∀ {ps : List (Nat × AV)} {l r : List AV} {a : List Value} {vs : List (Nat × Value)}, VRs μ l a -> vs.map (·.1) = ps.map (·.1) -> VRs μ (ps.map (·.2)) (vs.map (·.2)) ->
    fillA place l ps = some r -> ∃ b, Instr.fill place ⟨a⟩ vs = some ⟨b⟩ /\ VRs μ r b
  | [], l, r, a, vs, hl, hm, hv, h => by
    cases vs with
    | nil => simp [fillA] at h; subst h; exact ⟨a, rfl, hl⟩
    | cons x xs => simp at hm
  | (i, x) :: ps, l, r, a, vs, hl, hm, hv, h => by
    cases vs with
    | nil => simp at hm
    | cons y ys =>
      obtain ⟨j, v⟩ := y
      simp only [List.map_cons, List.cons.injEq] at hm
      obtain ⟨rfl, hm⟩ := hm
      cases hv with
      | cons _ _ _ _ hxv hv =>
        simp only [fillA] at h
        split at h
        · cases h
        · rename_i off size hp
          split at h <;> try (cases h; done)
          rename_i h1 h2
          have h1 := natEq_iff h1
          have h2 := ble h2
          have hcl := hxv.cells
          have hlen : v.cells.size = x.cells.length := by have := hcl.length; simpa using this
          have hal := hl.length
          have hstep : v.cells.zipIdx.foldl (fun (cs : Array Value) (q : Value × Nat) => cs.setIfInBounds (off + q.2) q.1) ⟨a⟩ =
              ⟨(List.range a.length).map fun i => if off <= i /\ i < off + v.cells.size then (v.cells.toList[i - off]?).getD default else (a[i]?).getD default⟩ := by
            have := foldl_set_spec v.cells.toList 0 off ⟨a⟩ (by simp; omega)
            rw [<- Array.foldl_toList]
            simp only [Array.toList_zipIdx]
            simpa using this
          obtain ⟨s1, s2⟩ := splice_spec l off x.cells h2
          obtain ⟨b, hb, hr⟩ := fillA_sound (a := (List.range a.length).map fun i => if off <= i /\ i < off + v.cells.size then (v.cells.toList[i - off]?).getD default else (a[i]?).getD default)
            (VRs.of_get _ _ (by simp [s1, hal]) fun i z hz => by
              rw [s2 i] at hz
              by_cases hc : off <= i /\ i < off + x.cells.length
              · rw [if_pos hc] at hz
                obtain ⟨u, hu, hur⟩ := hcl.get hz
                have hlt : i < a.length := by omega
                exact ⟨u, by simp only [List.getElem?_map, List.getElem?_range hlt, Option.map_some, hlen, if_pos hc, hu, Option.getD_some], hur⟩
              · rw [if_neg hc] at hz
                obtain ⟨u, hu, hur⟩ := hl.get hz
                have hlt : i < a.length := (List.getElem?_eq_some_iff.1 hu).1
                exact ⟨u, by simp only [List.getElem?_map, List.getElem?_range hlt, Option.map_some, hlen, if_neg hc, hu, Option.getD_some], hur⟩)
            hm hv h
          refine ⟨b, ?_, hr⟩
          simp only [Instr.fill, hp]
          rw [if_neg (by simp only [Bool.or_eq_true, decide_eq_true_eq, ne_eq]; simp; omega)]
          rw [hstep]
          exact hb
theorem placesA_sound : ∀ {l : List Field} {r : List (Nat × Nat)}, placesA P l = some r -> (l.mapM fun f => Functor.map (Prod.mk f.offset) (sizeOf f.type)).run P w = .ok r w
  | [], r, h => by simp [placesA] at h; subst h; rfl
  | f :: l, r, h => by
    simp only [placesA] at h
    split at h
    · cases h
    · rename_i n hn
      split at h
      · cases h
      · rename_i r' hr
        simp only [Option.some.injEq] at h; subst h
        simp [List.mapM_cons, run_sizeOf_ev hn, placesA_sound hr]
theorem run_fields_mapM {fields : Array Field} {r : List (Nat × Nat)} (h : placesA P fields.toList = some r) :
    (fields.mapM fun f => Functor.map (Prod.mk f.offset) (sizeOf f.type)).run P w = .ok r.toArray w := by
  rw [Array.mapM_eq_mapM_toList]
  simp [placesA_sound h]
theorem evBuild_sound {t : TypeId} {ps : List (Nat × AV)} {vs : List (Nat × Value)} {z : AV} (hm : vs.map (·.1) = ps.map (·.1)) (hv : VRs μ (ps.map (·.2)) (vs.map (·.2))) (h : evBuild P t ps = some z) :
    ∃ v, (Instr.build t vs.toArray).run P w = .ok v w /\ VR μ z v := by
  unfold evBuild at h
  split at h
  · cases h
  · rename_i zl hz
    obtain ⟨zv, hzr, hzv⟩ := run_zeroValue_ev (P := P) (w := w) hz μ
    split at h
    · rename_i fields hu
      split at h
      · cases h
      · rename_i pl hpl
        split at h
        · cases h
        · rename_i l hf
          simp only [Option.some.injEq] at h; subst h
          obtain ⟨b, hb, hr⟩ := fillA_sound hzv hm hv hf
          refine ⟨.agg ⟨b⟩, ?_, .agg _ _ hr⟩
          have hb' : Instr.fill (fun i => pl[i]?) zv.cells vs = some ⟨b⟩ := by simpa using hb
          simp [Instr.build, hzr, run_underlying_ev hu, run_fields_mapM hpl, hb']
    · rename_i len elem hu
      split at h
      · cases h
      · rename_i n hn
        split at h
        · cases h
        · rename_i l hf
          simp only [Option.some.injEq] at h; subst h
          obtain ⟨b, hb, hr⟩ := fillA_sound hzv hm hv hf
          refine ⟨.agg ⟨b⟩, ?_, .agg _ _ hr⟩
          have hb' : Instr.fill (fun i => some (i * n, n)) zv.cells vs = some ⟨b⟩ := by simpa using hb
          simp [Instr.build, hzr, run_underlying_ev hu, run_sizeOf_ev hn, hb']
    · cases h
theorem ERs.length : ∀ {es : List (AV × AV × Nat)} {l : List MapEntry}, ERs μ es l -> es.length = l.length
  | _, _, .nil => rfl
  | _, _, .cons _ _ _ _ _ _ _ _ _ t => by simp [ERs.length t]
theorem evLen_sound (hR : Rel μ H w) {ts : Array TypeId} {ty t : TypeId} {x z : AV} {vs : Array Value} {a : Value} (ht : ts[0]? = some t) (hvs : vs[0]? = some a) (ha : VR μ x a) (h : evLen P H t x = some z) :
    ∃ v, (Builtin.len_ ts ty vs).run P w = .ok v w /\ VR μ z v := by
  unfold evLen at h
  split at h
  · rename_i n e hu
    simp only [Option.some.injEq] at h; subst h
    exact ⟨.int .i64 n, by simp [Builtin.len_, ht, hvs, run_underlying_ev hu, goInt], .int _ _⟩
  · rename_i hu
    split at h <;> try (cases h; done)
    rename_i s
    obtain ⟨s', rfl, hs⟩ := str_inv ha
    simp only [Option.some.injEq] at h; subst h
    refine ⟨.int .i64 s'.size, by simp [Builtin.len_, ht, hvs, run_underlying_ev hu, goInt], ?_⟩
    have : s.length = s'.size := by rw [<- hs]; simp
    rw [this]; exact .int _ _
  · rename_i e hu
    split at h <;> try (cases h; done)
    · rename_i b off len es cap
      obtain ⟨p, c, hp, rfl, hc, ho⟩ := slc_inv ha
      simp only [Option.some.injEq] at h; subst h
      exact ⟨.int .i64 len, by simp [Builtin.len_, ht, hvs, run_underlying_ev hu, goInt], .int _ _⟩
    · cases nils_inv ha
      simp only [Option.some.injEq] at h; subst h
      exact ⟨.int .i64 0, by simp [Builtin.len_, ht, hvs, run_underlying_ev hu, goInt], .int _ _⟩
    · obtain ⟨a', c, rfl⟩ := slcE_inv ha
      simp only [Option.some.injEq] at h; subst h
      exact ⟨.int .i64 0, by simp [Builtin.len_, ht, hvs, run_underlying_ev hu, goInt], .int _ _⟩
  · rename_i k e hu
    split at h <;> try (cases h; done)
    · cases nilm_inv ha
      simp only [Option.some.injEq] at h; subst h
      exact ⟨.int .i64 0, by simp [Builtin.len_, ht, hvs, run_underlying_ev hu, goInt], .int _ _⟩
    · rename_i b
      obtain ⟨p, hp, rfl⟩ := map_inv ha
      split at h <;> try (cases h; done)
      rename_i es clock hb
      simp only [Option.some.injEq] at h; subst h
      obtain ⟨p', hp', l, h1, h2⟩ := hR.blk b _ hb
      rw [hp] at hp'; cases hp'
      have hlen : es.length = l.length := h2.length
      refine ⟨.int .i64 l.length, by simp [Builtin.len_, ht, hvs, run_underlying_ev hu, goInt, run_getObj_map h1], ?_⟩
      rw [hlen]; exact .int _ _
  · cases h
theorem evCap_sound {ts : Array TypeId} {ty t : TypeId} {x z : AV} {vs : Array Value} {a : Value} (ht : ts[0]? = some t) (hvs : vs[0]? = some a) (ha : VR μ x a) (h : evCap P t x = some z) :
    ∃ v, (Builtin.cap_ ts ty vs).run P w = .ok v w /\ VR μ z v := by
  unfold evCap at h
  split at h <;> try (cases h; done)
  rename_i e hu
  split at h <;> try (cases h; done)
  · rename_i b off len es c
    obtain ⟨p, c', hp, rfl, hc, ho⟩ := slc_inv ha
    simp only [Option.some.injEq] at h; subst h
    have := hc c rfl
    subst this
    exact ⟨.int .i64 c', by simp [Builtin.cap_, ht, hvs, run_underlying_ev hu, goInt], .int _ _⟩
  · cases nils_inv ha
    simp only [Option.some.injEq] at h; subst h
    exact ⟨.int .i64 0, by simp [Builtin.cap_, ht, hvs, run_underlying_ev hu, goInt], .int _ _⟩
theorem run_of_next {s : Sem Value} {v : Value} {w' : World} (h : s.run P w = .ok v w') : (do pure (.value (<- s)) : Sem Next).run P w = .ok (.value v) w' := by
  simp [h]
theorem evBuiltinL_sound (hR : Rel μ H w) {b : Builtin} {ts : Array TypeId} {ty : TypeId} {cs : Array Bool} {args : List AV} {vs : List Value} {z : AV} (ha : VRs μ args vs) (h : evBuiltinL P H b ts.toList args = some z) :
    ∃ v, (Go.builtin b ts ty cs vs.toArray).run P w = .ok (.value v) w /\ VR μ z v := by
  unfold evBuiltinL at h
  split at h
  · rename_i x l
    cases ha with
    | cons _ v _ vs' hx ht =>
      split at h <;> try (cases h; done)
      rename_i t ts' hts
      have h0 : ts[0]? = some t := by rw [<- Array.getElem?_toList, hts]; rfl
      obtain ⟨v', h1, h2⟩ := evLen_sound (P := P) (ty := ty) (vs := (v :: vs').toArray) hR h0 (by simp) hx h
      exact ⟨v', run_of_next h1, h2⟩
  · rename_i x l
    cases ha with
    | cons _ v _ vs' hx ht =>
      split at h <;> try (cases h; done)
      rename_i t ts' hts
      have h0 : ts[0]? = some t := by rw [<- Array.getElem?_toList, hts]; rfl
      obtain ⟨v', h1, h2⟩ := evCap_sound (P := P) (w := w) (ty := ty) (vs := (v :: vs').toArray) h0 (by simp) hx h
      exact ⟨v', run_of_next h1, h2⟩
  · rename_i x
    cases ha with
    | cons _ v _ vs' hx ht =>
      cases ht
      unfold evSliceData at h
      split at h
      · cases nils_inv hx
        simp only [Option.some.injEq] at h; subst h
        exact ⟨.pointer none, rfl, .nilp⟩
      · rename_i b' off len es
        obtain ⟨p, c, hp, rfl, hc, ho⟩ := slc_inv hx
        simp only [Option.some.injEq] at h; subst h
        have : c ≠ 0 := by have := (ho rfl).2; omega
        exact ⟨.pointer (some ⟨p.blk, p.off + off, none⟩), run_of_next (by show Sem.run P (if c ≠ 0 then pure (Value.pointer (some _)) else _) w = _; rw [if_pos this]; rfl), .ptr _ _ _ hp⟩
      · rename_i b' off len es k
        obtain ⟨p, c, hp, rfl, hc, ho⟩ := slc_inv hx
        simp only [Option.some.injEq] at h; subst h
        have : c ≠ 0 := by have := hc _ rfl; omega
        exact ⟨.pointer (some ⟨p.blk, p.off + off, none⟩), run_of_next (by show Sem.run P (if c ≠ 0 then pure (Value.pointer (some _)) else _) w = _; rw [if_pos this]; rfl), .ptr _ _ _ hp⟩
      · cases h
  · rename_i x y
    cases ha with
    | cons _ v _ vs' hx ht =>
      cases ht with
      | cons _ u _ us hy ht =>
        cases ht
        unfold min2 at h
        split at h <;> try (cases h; done)
        cases int_inv hx
        cases int_inv hy
        simp only [Option.some.injEq] at h; subst h
        rename_i k x _ y
        exact ⟨.int k (if y < x then y else x), by simp [Go.builtin, Builtin.min_, Builtin.min2, List.foldlM], .int _ _⟩
  · rename_i x y
    cases ha with
    | cons _ v _ vs' hx ht =>
      cases ht with
      | cons _ u _ us hy ht =>
        cases ht
        unfold max2A at h
        split at h <;> try (cases h; done)
        cases int_inv hx
        cases int_inv hy
        simp only [Option.some.injEq] at h; subst h
        rename_i k x _ y
        exact ⟨.int k (if y > x then y else x), by simp [Go.builtin, Builtin.max_, Builtin.max2, List.foldlM], .int _ _⟩
  · cases h
end
end Go.Ev
