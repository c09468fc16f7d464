/- PROVED: an evaluator of the model's runs over abstract heaps is sound (part EvE). CONDITIONS: none. -/
import Derived.Test.YtflapfekfmmcmaaGreatDoorEvD
import Derived.Laws.AppendOwn
import Derived.Lib.Index
/- A function without arguments that returns a slice of its own, of known cells: an entry of the table. -/
set_option linter.unusedVariables false
namespace Go.Ev
open Go
noncomputable section

def ownTE (g : FuncId) (G n : Nat) (l : List AV) (e : TypeId) : TE := { g := g, args := [], base := [], z := .slc G 0 n 1 none, nx := Nat.succ G, bl := [(G, true, .cells n (ofL l) true false 0 e)] }

theorem ownTE_ok {P : Program} {g : FuncId} {G n : Nat} {l : List AV} {xs : List Value} {e : TypeId} (hl : ∀ μ, VRs μ l xs) (hf : freeT (ofL l) = true)
    (hc : ∀ w : World, Calls P g #[] w fun en w' => ∃ b cap, en = .returned (.slice (some ⟨b, 0, none⟩) n cap) ∧ w'.ownsRow w.heap.size e 1 (.slice (some ⟨b, 0, none⟩) n cap) n xs ∧ RowKit.Below w.heap.size w w') : TEOk P G (ownTE g G n l e) := by
  refine ⟨rfl, rfl, ?_, ?_⟩
  · simp only [ownTE, shapeB, freeAB, hf]
    have h1 : Nat.ble G G = true := by simp
    have h2 : Nat.blt G (Nat.succ G) = true := by simp [Nat.blt_eq]
    rw [h1, h2]
  · let B : AB := .cells n (ofL l) true false 0 e
    refine ⟨{ next := Nat.succ G, m := Tr.nil.put G B, G := G }, ?_, rfl, ?_, rfl⟩
    · intro μ w vs hR hv
      cases hv
      refine (hc w).mono ?_
      rintro en w' ⟨b, cap, rfl, hrow, hbel⟩
      obtain ⟨hlen, hrow⟩ := hrow
      rcases hrow with ⟨h, _⟩ | ⟨g', cap', cur, hs, hbase, hb, h1, h2, h3, h4⟩
      · cases h
      · simp only [Value.slice.injEq, Option.some.injEq, Addr.mk.injEq] at hs
        obtain ⟨⟨rfl, _⟩, _, rfl⟩ := hs
        have hGn : μ G = none := hR.fresh G (Nat.le_refl _)
        let p0 : Pl := ⟨b, 0, cur.size⟩
        let μ' : Mp := fun k => if k = G then some p0 else μ k
        have h0 : μ' G = some p0 := by simp [μ']
        have hle : μ.le μ' := fun k p hk => by
          have : k ≠ G := fun e => by subst e; rw [hGn] at hk; cases hk
          simp only [μ', this, if_false]; exact hk
        have hm : ∀ k C, (Tr.nil.put G B).get k = some C → k = G ∧ C = B := by
          intro k C hk
          rw [Tr.get_put] at hk
          split at hk
          · rename_i e; cases hk; exact ⟨e, rfl⟩
          · cases hk
        have hxs : xs.length = n := by simpa using hlen
        have hbr : BR μ' B p0 w'.heap := by
          refine ⟨cur, (0, 0), hb, rfl, (by simp [p0]; omega), (fun h => by cases h), fun i x hx => ?_, (fun _ => rfl), (fun _ i _ => by simp)⟩
          rw [ofL_get] at hx
          obtain ⟨v, hv1, hv2⟩ := (hl μ').get hx
          have hi : i < xs.length := (List.getElem?_eq_some_iff.1 hv1).1
          refine ⟨by omega, v, ?_, hv2⟩
          rw [← h4] at hv1
          simp only [p0, Nat.zero_add]
          rw [List.getElem?_take] at hv1
          split at hv1
          · simpa using hv1
          · cases hv1
        refine ⟨_, μ', rfl, ?_, hle, Nat.le_succ _, ?_, ⟨?_, ?_, ?_, ?_⟩, ⟨hbel.size, fun k hk _ => hbel.block k hk, hbel.tape, hbel.os, hbel.output⟩, ?_⟩
        · exact .slc G 0 n 1 none cap p0 h0 (fun k h => by cases h) (fun _ => ⟨by simp [p0]; omega, h1⟩)
        · intro k hk hn
          have hk : k < G := hk
          have : k ≠ G := by omega
          simp only [μ', this, if_false]; exact hn
        · intro k C hk
          obtain ⟨rfl, rfl⟩ := hm k C hk
          exact ⟨p0, h0, hbr⟩
        · intro k k' p p' C C' hk hk' _ _ _
          rw [(hm k C hk).1, (hm k' C' hk').1]
        · intro k hk
          have hk : Nat.succ G ≤ k := hk
          have : k ≠ G := by omega
          simp only [μ', this, if_false]
          exact hR.fresh k (by show G ≤ k; omega)
        · intro k hk
          obtain ⟨p, q1, q2, q3⟩ := hR.glob k hk
          exact ⟨p, hle k p q1, q2, q3⟩
        · intro k C p hk hp
          obtain ⟨rfl, rfl⟩ := hm k C hk
          rw [h0] at hp; cases hp
          exact .inl hbase
    · show [(Tr.nil.put G B).get G] = [some B]
      rw [Tr.get_put]; simp
end
end Go.Ev

/- Calls that are known ahead at one heap: definitions. -/
set_option linter.unusedVariables false
namespace Go.Ev
open Go
noncomputable section

/-- A block as it is written down: 'none': a cell that is not known. -/
inductive PB where
  | cells (n : Nat) (l : List (Option AV)) (opn ro : Bool) (frz : Nat) (e : TypeId)
  | map (es : List (AV × AV × Nat)) (clock : Nat)

def fl : List AV → List (Option AV)
  | [] => []
  | x :: l => some x :: fl l
def ofLO : Nat → List (Option AV) → Tr AV → Tr AV
  | _, [], t => t
  | i, none :: l, t => ofLO (Nat.succ i) l t
  | i, some x :: l, t => ofLO (Nat.succ i) l (t.put i x)
def PB.ab : PB → AB
  | .cells n l opn ro frz e => .cells n (ofLO 0 l .nil) opn ro frz e
  | .map es c => .map es c

def matchC (c : Tr AV) : Nat → List (Option AV) → Bool
  | _, [] => true
  | i, none :: l => matchC c (Nat.succ i) l
  | i, some x :: l => match c.get i with
    | some y => match AV.beq y x with | true => matchC c (Nat.succ i) l | false => false
    | none => false
def bEq : Bool → Bool → Bool
  | true, true => true
  | false, false => true
  | _, _ => false
def matchE : List (AV × AV × Nat) → List (AV × AV × Nat) → Bool
  | [], [] => true
  | (k, v, n) :: l, (k', v', n') :: l' => match AV.beq k k', AV.beq v v', natEq n n' with
    | true, true, true => matchE l l'
    | _, _, _ => false
  | _, _ => false
def matchB : AB → PB → Bool
  | .cells n c opn ro frz e, .cells n' l opn' ro' frz' e' => match natEq n n', bEq opn opn', bEq ro ro', natEq frz frz', natEq e e' with
    | true, true, true, true, true => matchC c 0 l
    | _, _, _, _, _ => false
  | .map es c, .map es' c' => match natEq c c' with | true => matchE es es' | false => false
  | _, _ => false
def matchAll (m : Tr AB) : List (Nat × PB) → Bool
  | [] => true
  | (b, p) :: l => match m.get b with
    | some B => match matchB B p with | true => matchAll m l | false => false
    | none => false
def putAll : List (Nat × PB) → Tr AB → Tr AB
  | [], m => m
  | (b, p) :: l, m => putAll l (m.put b p.ab)
def delAll : List (Nat × PB) → Tr AB → Tr AB
  | [], m => m
  | (b, _) :: l, m => delAll l (m.del b)

/-- A call known ahead at one heap: the blocks that it sees ('keep': those that it leaves as they are), those that it leaves. -/
structure FE where
  g : FuncId
  args : List AV
  nx0 : Nat
  keep : List (Nat × PB)
  pre : List (Nat × PB)
  z : AV
  nx1 : Nat
  post : List (Nat × PB)
def FE.H (G : Nat) (e : FE) : AH := { next := e.nx0, m := putAll e.pre (putAll e.keep .nil), G := G }

def findFE (g : FuncId) (args : List AV) (nx : Nat) : List FE → Option FE
  | [] => none
  | e :: l => match Nat.beq e.g g with
    | false => findFE g args nx l
    | true => match Nat.beq e.nx0 nx with
      | false => findFE g args nx l
      | true => match AV.beqL e.args args with
        | true => some e
        | false => findFE g args nx l

def hookFr (G : Nat) (L : List FE) : Hook := fun g args H =>
  match findFE g args H.next L with
  | none => none
  | some e => match natEq H.G G, matchAll H.m e.keep, matchAll H.m e.pre with
    | true, true, true => some (e.z, { next := e.nx1, m := putAll e.post (putAll e.keep (delAll e.pre H.m)), G := G })
    | _, _, _ => none
def hookOr (a b : Hook) : Hook := fun g args H => match a g args H with | some r => some r | none => b g args H

/-- What the kernel runs for an entry. -/
def runFE (r : Option (AV × AH)) (e : FE) : Option (AV × Nat × Bool × Bool) :=
  match r with
  | none => none
  | some (z, H) => some (z, H.next, matchAll H.m e.keep, matchAll H.m e.post)
end
end Go.Ev

/- Calls that are known ahead at one heap: a frame's law. -/
set_option linter.unusedVariables false
set_option linter.unusedSimpArgs false
namespace Go.Ev
open Go
noncomputable section

theorem ofLO_get : ∀ (l : List (Option AV)) (i : Nat) (t : Tr AV) (j : Nat) (x : AV), (ofLO i l t).get j = some x → (∃ k, l[k]? = some (some x) ∧ j = i + k) ∨ t.get j = some x
  | [], i, t, j, x, h => .inr h
  | none :: l, i, t, j, x, h => by
    rcases ofLO_get l (Nat.succ i) t j x h with ⟨k, h1, h2⟩ | h
    · exact .inl ⟨k + 1, by simpa using h1, by omega⟩
    · exact .inr h
  | some y :: l, i, t, j, x, h => by
    rcases ofLO_get l (Nat.succ i) _ j x h with ⟨k, h1, h2⟩ | h
    · exact .inl ⟨k + 1, by simpa using h1, by omega⟩
    · rw [Tr.get_put] at h
      split at h
      · rename_i e
        simp only [Option.some.injEq] at h; subst h
        exact .inl ⟨0, by simp, by omega⟩
      · exact .inr h
theorem matchC_get (c : Tr AV) : ∀ (l : List (Option AV)) (i : Nat), matchC c i l = true → ∀ (k : Nat) (x : AV), l[k]? = some (some x) → c.get (i + k) = some x
  | [], _, _, k, x, h => by simp at h
  | none :: l, i, h, k, x, hx => by
    cases k with
    | zero => simp at hx
    | succ k =>
      have := matchC_get c l (Nat.succ i) h k x (by simpa using hx)
      rw [show i + (k + 1) = Nat.succ i + k by omega]; exact this
  | some y :: l, i, h, k, x, hx => by
    simp only [matchC] at h
    split at h <;> try (cases h; done)
    rename_i z hz
    split at h <;> try (cases h; done)
    rename_i hb
    cases k with
    | zero =>
      simp at hx; subst hx
      rw [Nat.add_zero, hz, beq_spec _ _ hb]
    | succ k =>
      have := matchC_get c l (Nat.succ i) h k x (by simpa using hx)
      rw [show i + (k + 1) = Nat.succ i + k by omega]; exact this
theorem bEq_spec {a b : Bool} (h : bEq a b = true) : a = b := by cases a <;> cases b <;> simp_all [bEq]
theorem matchE_spec : ∀ {a b : List (AV × AV × Nat)}, matchE a b = true → a = b
  | [], [], _ => rfl
  | [], _ :: _, h => by simp [matchE] at h
  | _ :: _, [], h => by simp [matchE] at h
  | (k, v, n) :: l, (k', v', n') :: l', h => by
    simp only [matchE] at h
    split at h <;> try (cases h; done)
    rename_i h1 h2 h3
    rw [beq_spec _ _ h1, beq_spec _ _ h2, natEq_iff h3, matchE_spec h]

theorem matchB_ro {B : AB} {q : PB} (h : matchB B q = true) : q.ab.ro = B.ro := by
  cases B with
  | cells n c opn ro frz e =>
    cases q with
    | cells n' l opn' ro' frz' e' =>
      simp only [matchB] at h
      split at h <;> try (cases h; done)
      rename_i h1 h2 h3 h4 h5
      rw [bEq_spec h3]; rfl
    | map => simp [matchB] at h
  | map es c => cases q with
    | cells => simp [matchB] at h
    | map => rfl
  | _ => simp [matchB] at h
theorem matchB_BR {B : AB} {q : PB} (h : matchB B q = true) {μ : Mp} {p : Pl} {heap : Array Obj} (hb : BR μ B p heap) : BR μ q.ab p heap := by
  cases B with
  | cells n c opn ro frz e =>
    cases q with
    | cells n' l opn' ro' frz' e' =>
      simp only [matchB] at h
      split at h <;> try (cases h; done)
      rename_i h1 h2 h3 h4 h5
      have h1 := natEq_iff h1; have h2 := bEq_spec h2; have h3 := bEq_spec h3; have h4 := natEq_iff h4; have h5 := natEq_iff h5
      subst h1 h2 h3 h4 h5
      obtain ⟨cs, fr, g1, g2, g3, g4, g5, g6⟩ := hb
      refine ⟨cs, fr, g1, g2, g3, g4, fun i x hx => ?_, g6⟩
      rcases ofLO_get l 0 .nil i x hx with ⟨k, k1, k2⟩ | hn
      · have := matchC_get c l 0 h k x k1
        rw [Nat.zero_add] at this k2
        subst k2
        exact g5 _ x this
      · cases hn
    | map => simp [matchB] at h
  | map es c => cases q with
    | cells => simp [matchB] at h
    | map es' c' =>
      simp only [matchB] at h
      split at h <;> try (cases h; done)
      rename_i h1
      rw [PB.ab, ← natEq_iff h1, ← matchE_spec h]; exact hb
  | _ => simp [matchB] at h

theorem matchAll_mem {m : Tr AB} : ∀ {l : List (Nat × PB)}, matchAll m l = true → ∀ b q, (b, q) ∈ l → ∃ B, m.get b = some B ∧ matchB B q = true
  | [], _, _, _, h => by cases h
  | (c, r) :: l, he, b, q, h => by
    simp only [matchAll] at he
    split at he <;> try (cases he; done)
    rename_i B hB
    split at he <;> try (cases he; done)
    rename_i hm
    rcases List.mem_cons.1 h with h | h
    · cases h; exact ⟨B, hB, hm⟩
    · exact matchAll_mem he b q h
theorem putAll_get : ∀ {l : List (Nat × PB)} {m : Tr AB} {b : Nat} {C : AB}, (putAll l m).get b = some C → (∃ q, (b, q) ∈ l ∧ C = q.ab) ∨ m.get b = some C
  | [], m, b, C, h => .inr h
  | (c, r) :: l, m, b, C, h => by
    rcases putAll_get (l := l) h with ⟨q, h1, h2⟩ | h
    · exact .inl ⟨q, List.mem_cons_of_mem _ h1, h2⟩
    · rw [Tr.get_put] at h
      split at h
      · rename_i e
        simp only [Option.some.injEq] at h
        exact .inl ⟨r, by rw [e]; simp, h.symm⟩
      · exact .inr h
theorem putAll_dom : ∀ {l : List (Nat × PB)} {m : Tr AB} {b : Nat}, (∃ q, (b, q) ∈ l) ∨ (∃ C, m.get b = some C) → ∃ C, (putAll l m).get b = some C
  | [], m, b, h => by
    rcases h with ⟨q, hq⟩ | h
    · cases hq
    · exact h
  | (c, r) :: l, m, b, h => by
    refine putAll_dom (l := l) ?_
    rw [Tr.get_put]
    by_cases e : b = c
    · exact .inr ⟨r.ab, by simp [e]⟩
    · rcases h with ⟨q, hq⟩ | ⟨C, hC⟩
      · rcases List.mem_cons.1 hq with hq | hq
        · cases hq; exact absurd rfl e
        · exact .inl ⟨q, hq⟩
      · exact .inr ⟨C, by simp [e, hC]⟩
theorem putAll_in : ∀ {l : List (Nat × PB)} {m : Tr AB} {b : Nat} {C : AB}, (∃ q, (b, q) ∈ l) → (putAll l m).get b = some C → ∃ q, (b, q) ∈ l ∧ C = q.ab
  | [], m, b, C, h, _ => by obtain ⟨q, hq⟩ := h; cases hq
  | (c, r) :: l, m, b, C, h, hg => by
    by_cases hl : ∃ q, (b, q) ∈ l
    · obtain ⟨q, h1, h2⟩ := putAll_in (l := l) hl hg
      exact ⟨q, List.mem_cons_of_mem _ h1, h2⟩
    · have hbc : b = c := by
        obtain ⟨q, hq⟩ := h
        rcases List.mem_cons.1 hq with hq | hq
        · cases hq; rfl
        · exact absurd ⟨q, hq⟩ hl
      rcases putAll_get (l := l) hg with ⟨q, hq, _⟩ | hg
      · exact absurd ⟨q, hq⟩ hl
      · rw [Tr.get_put, if_pos hbc] at hg
        simp only [Option.some.injEq] at hg
        exact ⟨r, by rw [hbc]; simp, hg.symm⟩
theorem delAll_get : ∀ {l : List (Nat × PB)} {m : Tr AB} {b : Nat} {C : AB}, (delAll l m).get b = some C → m.get b = some C ∧ ∀ q, (b, q) ∉ l
  | [], m, b, C, h => ⟨h, fun q hq => by cases hq⟩
  | (c, r) :: l, m, b, C, h => by
    obtain ⟨h1, h2⟩ := delAll_get (l := l) h
    rw [Tr.get_del] at h1
    split at h1
    · cases h1
    · rename_i e
      refine ⟨h1, fun q hq => ?_⟩
      rcases List.mem_cons.1 hq with hq | hq
      · cases hq; exact e rfl
      · exact h2 q hq

/-- What the evaluator must say of an entry. -/
structure FEOk (P : Program) (G : Nat) (e : FE) : Prop where
  run : ∃ H1 : AH, FnSnd P e.g e.args (e.H G) e.z H1 ∧ H1.next = e.nx1 ∧ matchAll H1.m e.keep = true ∧ matchAll H1.m e.post = true

theorem FEOk.serves {P : Program} {G : Nat} {e : FE} (he : FEOk P G e) {H : AH} (hG : H.G = G) (hnx : e.nx0 = H.next) (hk : matchAll H.m e.keep = true) (hp : matchAll H.m e.pre = true) :
    FnSnd P e.g e.args H e.z { next := e.nx1, m := putAll e.post (putAll e.keep (delAll e.pre H.m)), G := G } := by
  intro μ w vs hR hv
  obtain ⟨H1, hrun, hn1, hk1, hp1⟩ := he.run
  -- the blocks that it sees
  have hsee : ∀ b B, (e.H G).m.get b = some B → ∃ B', H.m.get b = some B' ∧ B.ro = B'.ro ∧ ∀ p, BR μ B' p w.heap → BR μ B p w.heap := by
    intro b B hb
    have key : ∀ l q, matchAll H.m l = true → (b, q) ∈ l → B = q.ab → ∃ B', H.m.get b = some B' ∧ B.ro = B'.ro ∧ ∀ p, BR μ B' p w.heap → BR μ B p w.heap := by
      intro l q hl hq hB
      obtain ⟨B', h1, h2⟩ := matchAll_mem hl b q hq
      subst hB
      exact ⟨B', h1, matchB_ro h2, fun p hp => matchB_BR h2 hp⟩
    rcases putAll_get hb with ⟨q, hq, hB⟩ | hb
    · exact key _ q hp hq hB
    · rcases putAll_get hb with ⟨q, hq, hB⟩ | hb
      · exact key _ q hk hq hB
      · cases hb
  have hdom : ∀ b q, (b, q) ∈ e.pre ∨ (b, q) ∈ e.keep → ∃ B, (e.H G).m.get b = some B := by
    intro b q hq
    refine putAll_dom ?_
    rcases hq with h | h
    · exact .inl ⟨q, h⟩
    · exact .inr (putAll_dom (.inl ⟨q, h⟩))
  have hR0 : Rel μ (e.H G) w := by
    refine ⟨fun b B hb => ?_, fun b b' p p' B B' hb hb' hp hp' hpp => ?_, fun b hb => hR.fresh b (by rw [← hnx]; exact hb), fun g hg => hR.glob g (by rw [hG]; exact hg)⟩
    · obtain ⟨B', h1, _, h3⟩ := hsee b B hb
      obtain ⟨p, k1, k2⟩ := hR.blk b B' h1
      exact ⟨p, k1, h3 p k2⟩
    · obtain ⟨C, h1, _⟩ := hsee b B hb
      obtain ⟨C', h1', _⟩ := hsee b' B' hb'
      exact hR.inj b b' p p' C C' h1 h1' hp hp' hpp
  refine (hrun μ w vs hR0 hv).mono ?_
  rintro en w' ⟨u, μ1, rfl, hu, hs⟩
  have hnext : H.next ≤ H1.next := by rw [← hnx]; exact hs.next
  -- the blocks behind it
  have hcase : ∀ b C, (putAll e.post (putAll e.keep (delAll e.pre H.m))).get b = some C →
      (∃ B1, H1.m.get b = some B1 ∧ C.ro = B1.ro ∧ ∀ p, BR μ1 B1 p w'.heap → BR μ1 C p w'.heap) ∨ (H.m.get b = some C ∧ ∀ B, (e.H G).m.get b ≠ some B) := by
    intro b C hb
    have key : ∀ l q, matchAll H1.m l = true → (b, q) ∈ l → C = q.ab → ∃ B1, H1.m.get b = some B1 ∧ C.ro = B1.ro ∧ ∀ p, BR μ1 B1 p w'.heap → BR μ1 C p w'.heap := by
      intro l q hl hq hB
      obtain ⟨B', h1, h2⟩ := matchAll_mem hl b q hq
      subst hB
      exact ⟨B', h1, matchB_ro h2, fun p hp => matchB_BR h2 hp⟩
    rcases putAll_get hb with ⟨q, hq, hB⟩ | hb
    · exact .inl (key _ q hp1 hq hB)
    · by_cases hkeep : ∃ q, (b, q) ∈ e.keep
      · obtain ⟨q, hq, hB⟩ := putAll_in hkeep hb
        exact .inl (key _ q hk1 hq hB)
      · rcases putAll_get hb with ⟨q, hq, hB⟩ | hb
        · exact absurd ⟨q, hq⟩ hkeep
        · obtain ⟨h1, h2⟩ := delAll_get hb
          refine .inr ⟨h1, fun B hB => ?_⟩
          rcases putAll_get hB with ⟨q, hq, _⟩ | hB
          · exact h2 q hq
          · rcases putAll_get hB with ⟨q, hq, _⟩ | hB
            · exact hkeep ⟨q, hq⟩
            · cases hB
  have hsame : ∀ b C p, H.m.get b = some C → (∀ B, (e.H G).m.get b ≠ some B) → μ b = some p → w'.heap[p.blk]? = w.heap[p.blk]? := by
    intro b C p hb hno hp
    obtain ⟨p', k1, k2⟩ := hR.blk b C hb
    rw [hp] at k1; cases k1
    refine hs.keeps.same p.blk k2.lt fun b' B' p' hb' _ hp' heq => ?_
    obtain ⟨C', h1, _⟩ := hsee b' B' hb'
    have := hR.inj b' b p' p C' C h1 hb hp' hp heq
    subst this
    exact hno _ hb'
  -- where they lie
  have hold : ∀ b C p, H.m.get b = some C → (∀ B, (e.H G).m.get b ≠ some B) → μ1 b = some p → μ b = some p := by
    intro b C p hb _ hp
    obtain ⟨p', k1, _⟩ := hR.blk b C hb
    rw [hs.le b p' k1] at hp; cases hp; exact k1
  refine ⟨u, μ1, rfl, hu, hs.le, by show H.next ≤ e.nx1; omega, fun b hb hn => hs.old b (by rw [show (e.H G).next = H.next from hnx]; exact hb) hn, ⟨?_, ?_, ?_, ?_⟩, ⟨hs.keeps.size, ?_, hs.keeps.tape, hs.keeps.os, hs.keeps.output⟩, ?_⟩
  · intro b C hb
    rcases hcase b C hb with ⟨B1, h1, _, h3⟩ | ⟨h1, h2⟩
    · obtain ⟨p, k1, k2⟩ := hs.rel.blk b B1 h1
      exact ⟨p, k1, h3 p k2⟩
    · obtain ⟨p, k1, k2⟩ := hR.blk b C h1
      exact ⟨p, hs.le _ _ k1, (k2.mono hs.le).of_heap (hsame b C p h1 h2 k1)⟩
  · intro b b' p p' C C' hb hb' hp hp' hpp
    rcases hcase b C hb with ⟨B1, h1, _, _⟩ | ⟨h1, h2⟩ <;> rcases hcase b' C' hb' with ⟨B1', h1', _, _⟩ | ⟨h1', h2'⟩
    · exact hs.rel.inj b b' p p' B1 B1' h1 h1' hp hp' hpp
    · have hq := hold b' C' p' h1' h2' hp'
      obtain ⟨q, k1, k2⟩ := hR.blk b' C' h1'
      rw [hq] at k1; cases k1
      rcases hs.own b B1 p h1 hp with hlt | ⟨b0, B0, p0, g1, _, g3, g4⟩
      · have := k2.lt; omega
      · obtain ⟨D, d1, _⟩ := hsee b0 B0 g1
        have := hR.inj b0 b' p0 p' D C' d1 h1' g3 hq (g4.trans hpp)
        subst this
        exact absurd g1 (h2' _)
    · have hq := hold b C p h1 h2 hp
      obtain ⟨q, k1, k2⟩ := hR.blk b C h1
      rw [hq] at k1; cases k1
      rcases hs.own b' B1' p' h1' hp' with hlt | ⟨b0, B0, p0, g1, _, g3, g4⟩
      · have := k2.lt; omega
      · obtain ⟨D, d1, _⟩ := hsee b0 B0 g1
        have := hR.inj b0 b p0 p D C d1 h1 g3 hq (g4.trans hpp.symm)
        subst this
        exact absurd g1 (h2 _)
    · exact hR.inj b b' p p' C C' h1 h1' (hold b C p h1 h2 hp) (hold b' C' p' h1' h2' hp') hpp
  · intro b hb
    exact hs.rel.fresh b (by rw [hn1]; exact hb)
  · intro g hg
    obtain ⟨p, k1, k2, k3⟩ := hR.glob g (by rw [hG]; exact hg)
    exact ⟨p, hs.le _ _ k1, k2, k3⟩
  · intro k hk hno
    refine hs.keeps.same k hk fun b B p hb hro hp => ?_
    obtain ⟨B', h1, h2, _⟩ := hsee b B hb
    exact hno b B' p h1 (by rw [← h2]; exact hro) hp
  · intro b C p hb hp
    rcases hcase b C hb with ⟨B1, h1, h2, _⟩ | ⟨h1, h2⟩
    · rcases hs.own b B1 p h1 hp with hlt | ⟨b0, B0, p0, g1, g2, g3, g4⟩
      · exact .inl hlt
      · obtain ⟨D, d1, d2, _⟩ := hsee b0 B0 g1
        exact .inr ⟨b0, D, p0, d1, fun hr => by rw [← d2]; exact g2 (by rw [← h2]; exact hr), g3, g4⟩
    · exact .inr ⟨b, C, p, h1, id, hold b C p h1 h2 hp, rfl⟩

theorem findFE_mem {g : FuncId} {args : List AV} {nx : Nat} : ∀ {L : List FE} {e : FE}, findFE g args nx L = some e → e ∈ L ∧ e.g = g ∧ e.args = args ∧ e.nx0 = nx
  | [], e, h => by cases h
  | x :: L, e, h => by
    simp only [findFE] at h
    split at h
    · obtain ⟨h1, h2⟩ := findFE_mem h; exact ⟨List.mem_cons_of_mem _ h1, h2⟩
    · rename_i hg
      split at h
      · obtain ⟨h1, h2⟩ := findFE_mem h; exact ⟨List.mem_cons_of_mem _ h1, h2⟩
      · rename_i hn
        split at h
        · rename_i ha
          simp only [Option.some.injEq] at h; subst h
          exact ⟨by simp, Nat.eq_of_beq_eq_true hg, beqL_spec _ _ ha, Nat.eq_of_beq_eq_true hn⟩
        · obtain ⟨h1, h2⟩ := findFE_mem h; exact ⟨List.mem_cons_of_mem _ h1, h2⟩

theorem hookFr_ok {P : Program} {G : Nat} {L : List FE} (h : ∀ e, e ∈ L → FEOk P G e) : HookOk P (hookFr G L) := by
  intro g args H z H' hk
  unfold hookFr at hk
  split at hk
  · cases hk
  · rename_i e he
    split at hk <;> try (cases hk; done)
    rename_i h1 h2 h3
    simp only [Option.some.injEq, Prod.mk.injEq] at hk
    obtain ⟨rfl, rfl⟩ := hk
    obtain ⟨k1, rfl, rfl, k4⟩ := findFE_mem he
    exact (h e k1).serves (natEq_iff h1) k4 h2 h3
theorem hookOr_ok {P : Program} {a b : Hook} (ha : HookOk P a) (hb : HookOk P b) : HookOk P (hookOr a b) := by
  intro g args H z H' hk
  unfold hookOr at hk
  split at hk
  · rename_i r hr
    simp only [Option.some.injEq] at hk; subst hk
    exact ha g args H _ _ hr
  · exact hb g args H z H' hk

theorem FEs_nil {P : Program} {G : Nat} : ∀ x, x ∈ ([] : List FE) → FEOk P G x := fun x hx => by cases hx
theorem FEs_cons {P : Program} {G : Nat} {e : FE} {L : List FE} (he : FEOk P G e) (h : ∀ x, x ∈ L → FEOk P G x) : ∀ x, x ∈ e :: L → FEOk P G x :=
  fun x hx => by rcases List.mem_cons.1 hx with rfl | hx; exact he; exact h x hx

theorem FEOk_of {P : Program} {X : Ext} {rD : CallF → Nat → List Oper → Tr AV → AH → OR} {hk : Hook} (hE : EvOk P X rD) (hH : HookOk P hk) {G n : Nat} {e : FE}
    (h : runFE (evCall P X rD hk n (.fn e.g) e.args (e.H G)) e = some (e.z, e.nx1, true, true)) : FEOk P G e := by
  refine ⟨?_⟩
  unfold runFE at h
  split at h
  · cases h
  · rename_i z H hc
    simp only [Option.some.injEq, Prod.mk.injEq] at h
    obtain ⟨rfl, k1, k2, k3⟩ := h
    exact ⟨H, fun μ w vs hR hv => (evCall_sound hE hH n).fn _ _ _ _ _ hc μ w vs hR hv, k1, k2, k3⟩

end
end Go.Ev

/- A function that returns a value without an address and leaves the world, whatever an int variable holds: an entry of the table. -/
set_option linter.unusedVariables false
namespace Go.Ev
open Go
noncomputable section

/-- A variable that holds some int. -/
def anyBE (b : Nat) (e : TypeId) : BE := { b := b, l := [.anyI .i64], e := e }
def pureTE (g : FuncId) (G : Nat) (args : List AV) (base : List BE) (z : AV) : TE := { g := g, args := args, base := base, z := z, nx := G, bl := [] }

theorem pureTE_ok {P : Program} {g : FuncId} {G : Nat} {args : List AV} {base : List BE} {z : AV} (hf : AV.freeL args = true) (hb : baseOk G base = true) (h1 : base.length ≤ 1)
    (hc : ∀ (vs : List Value) (w : World), VRs (fun _ => none) args vs → (∀ x, x ∈ base → HasBE w x) → Calls P g ⟨vs⟩ w fun en w' => ∃ u, en = .returned u ∧ (∀ μ, VR μ z u) ∧ w' = w) : TEOk P G (pureTE g G args base z) := by
  refine ⟨hf, hb, rfl, baseH G base, ?_, rfl, rfl, ?_⟩
  · intro μ w vs hR hv
    refine (hc vs w (free_VRs hf hv) fun x hx => ?_).mono ?_
    · obtain ⟨hlt, hfr⟩ := baseOk_mem hb x hx
      have hget : (baseM base).get x.b = some x.blk := by
        match base, h1, hx with
        | [y], _, hx =>
          have : x = y := by simpa using hx
          subst this
          simp [baseM, Tr.get_put]
      obtain ⟨p, hp, cs, fr, k1, k2, k3, k4, k5, k6, _⟩ := hR.blk x.b _ hget
      obtain ⟨p', hp', k7, k8⟩ := hR.glob x.b hlt
      rw [hp] at hp'; cases hp'
      rw [k7, k6 rfl] at k1
      refine ⟨cs, k1, ?_, fun i y hy => ?_⟩
      · rw [k2]; exact (k4 rfl).2.symm
      · obtain ⟨_, v, q1, q2⟩ := k5 i y (by rw [ofL_get]; exact hy)
        exact ⟨v, by simpa [k8] using q1, free_VR (free_get hfr hy) q2⟩
    · rintro en w' ⟨u, rfl, hu, rfl⟩
      exact ⟨u, μ, rfl, hu μ, Stp.refl hR⟩
  · show keepB (baseM base) base = true
    match base, h1 with
    | [], _ => rfl
    | [y], _ => simp [keepB, baseM, Tr.get_put]

theorem any_cell {w : World} {b : Nat} {e : TypeId} (h : HasBE w (anyBE b e)) : ∃ m, w.cell? ⟨b, 0, none⟩ = some (.int .i64 m) := by
  obtain ⟨cs, h1, h2, h3⟩ := h
  obtain ⟨v, k1, k2⟩ := h3 0 (.anyI .i64) rfl
  cases k2 with
  | anyI _ n => exact ⟨n, by simp only [anyBE] at h1; simp [World.cell?, h1, k1]⟩

theorem bytes_back {l : List Nat} {s : ByteArray} (h : s.data.toList.map UInt8.toNat = l) : s.data.toList = l.map UInt8.ofNat := by
  subst h
  rw [List.map_map]
  conv => lhs; rw [← List.map_id s.data.toList]
  congr 1
  funext x
  simp

/-- A predicate on two strings that asks of the world that a variable holds some int. -/
theorem strTE_ok {P : Program} {g : FuncId} {G b : Nat} {e : TypeId} {la lb : List Nat} {r : Bool} {f : List UInt8 → List UInt8 → Bool} (hb : Nat.blt b G = true) (hl : la.length < 4294967281)
    (hc : ∀ (s sub : ByteArray) (m : Int) (w : World), s.size < 4294967281 → w.cell? ⟨b, 0, none⟩ = some (.int .i64 m) → Calls P g #[.string s, .string sub] w fun en w' => en = .returned (.bool (f s.data.toList sub.data.toList)) ∧ w' = w)
    (hr : f (la.map UInt8.ofNat) (lb.map UInt8.ofNat) = r) : TEOk P G (pureTE g G [.str la, .str lb] [anyBE b e] (.bool r)) := by
  refine pureTE_ok rfl ?_ (by simp) fun vs w hv hw => ?_
  · simp only [baseOk, anyBE, AV.freeL, AV.free, hb]
  · obtain ⟨m, hm⟩ := any_cell (hw (anyBE b e) (by simp))
    cases hv with
    | cons _ v _ _ hx ht =>
      cases ht with
      | cons _ v2 _ _ hx2 ht2 =>
        cases ht2
        obtain ⟨s, rfl, hs⟩ := str_inv hx
        obtain ⟨s2, rfl, hs2⟩ := str_inv hx2
        have hsz : s.size = la.length := by rw [← hs]; simp
        refine (hc s s2 m w (by omega) hm).mono ?_
        rintro en w' ⟨rfl, rfl⟩
        rw [bytes_back hs, bytes_back hs2, hr]
        exact ⟨_, rfl, fun μ => .bool _, rfl⟩
end
end Go.Ev
