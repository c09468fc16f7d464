/- PROVED: an evaluator of the model's runs over abstract heaps is sound (part EvA). CONDITIONS: none. -/
import Derived.OrdersIn
import Derived.DefersIn
import Derived.RecoverIn
import Derived.RangeFuncIn
import Derived.RowKit3
import Derived.Laws.Cells
/- An abstract heap for a run of the model: blocks by abstract numbers, slices whose capacity may be unknown. The relations to the real world. -/
namespace Go.Ev
open Go
inductive Tr (α : Type) where
  | nil
  | node (v : Option α) (l r : Tr α)
namespace Tr
variable {α : Type}
noncomputable def force (t : Tr α) (k : Tr α -> Tr α) : Tr α := Tr.rec (k .nil) (fun v l r _ _ => k (.node v l r)) t
theorem force_eq (t : Tr α) (k : Tr α -> Tr α) : force t k = k t := by cases t <;> rfl
noncomputable def get (t : Tr α) : Nat -> Option α :=
  Tr.rec (fun _ => none) (fun v _ _ l r k => Nat.rec v (fun k _ => Bool.rec (r (Nat.div k 2)) (l (Nat.div k 2)) (Nat.beq (Nat.mod k 2) 0)) k) t
noncomputable def path (x : Option α) : Nat -> Nat -> Tr α :=
  Nat.rec (fun _ => .nil) fun _ ih k => Nat.rec (.node x .nil .nil) (fun k _ => Bool.rec (force (ih (Nat.div k 2)) fun r => .node none .nil r) (force (ih (Nat.div k 2)) fun l => .node none l .nil) (Nat.beq (Nat.mod k 2) 0)) k
noncomputable def set (x : Option α) (t : Tr α) : Nat -> Tr α :=
  Tr.rec (fun k => path x (Nat.succ k) k) (fun v l r ihl ihr k => Nat.rec (.node x l r) (fun k _ => Bool.rec (force (ihr (Nat.div k 2)) fun r => .node v l r) (force (ihl (Nat.div k 2)) fun l => .node v l r) (Nat.beq (Nat.mod k 2) 0)) k) t
theorem beq_t {k : Nat} (h : Nat.beq (Nat.mod k 2) 0 = true) : k % 2 = 0 := Nat.eq_of_beq_eq_true h
theorem beq_f {k : Nat} (h : Nat.beq (Nat.mod k 2) 0 = false) : k % 2 ≠ 0 := Nat.ne_of_beq_eq_false h
theorem div_lt' {k f : Nat} (h : k + 1 < f + 1) : Nat.div k 2 < f := by
  have : k / 2 <= k := Nat.div_le_self _ _
  show k / 2 < f
  omega
theorem div_ne {j k : Nat} (h : j % 2 = k % 2) (e : j ≠ k) : Nat.div j 2 ≠ Nat.div k 2 := by
  intro h'
  change j / 2 = k / 2 at h'
  omega
theorem get_nil' (j : Nat) : (Tr.nil : Tr α).get j = none := rfl
theorem get_zero (v : Option α) (l r : Tr α) : (Tr.node v l r).get 0 = v := rfl
theorem get_succ (v : Option α) (l r : Tr α) (k : Nat) : (Tr.node v l r).get (k + 1) = match Nat.beq (Nat.mod k 2) 0 with | true => l.get (Nat.div k 2) | false => r.get (Nat.div k 2) := by
  show (Bool.rec (r.get (Nat.div k 2)) (l.get (Nat.div k 2)) (Nat.beq (Nat.mod k 2) 0) : Option α) = _
  cases Nat.beq (Nat.mod k 2) 0 <;> rfl
theorem path_succ (x : Option α) (f k : Nat) : path x (f + 1) (k + 1) = match Nat.beq (Nat.mod k 2) 0 with | true => .node none (path x f (Nat.div k 2)) .nil | false => .node none .nil (path x f (Nat.div k 2)) := by
  show (Bool.rec (force (path x f (Nat.div k 2)) fun r => .node none .nil r) (force (path x f (Nat.div k 2)) fun l => .node none l .nil) (Nat.beq (Nat.mod k 2) 0) : Tr α) = _
  cases Nat.beq (Nat.mod k 2) 0 <;> simp only [force_eq]
theorem set_succ (x v : Option α) (l r : Tr α) (k : Nat) : set x (.node v l r) (k + 1) = match Nat.beq (Nat.mod k 2) 0 with | true => .node v (set x l (Nat.div k 2)) r | false => .node v l (set x r (Nat.div k 2)) := by
  show (Bool.rec (force (set x r (Nat.div k 2)) fun r => .node v l r) (force (set x l (Nat.div k 2)) fun l => .node v l r) (Nat.beq (Nat.mod k 2) 0) : Tr α) = _
  cases Nat.beq (Nat.mod k 2) 0 <;> simp only [force_eq]
theorem set_zero (x v : Option α) (l r : Tr α) : set x (.node v l r) 0 = .node x l r := rfl
theorem path_zero (x : Option α) (f : Nat) : path x (f + 1) 0 = .node x .nil .nil := rfl
theorem get_path (x : Option α) : ∀ (f k j : Nat), k < f -> (path x f k).get j = if j = k then x else none := by
  intro f
  induction f with
  | zero => intro k j h; omega
  | succ f ih =>
    intro k j hk
    cases k with
    | zero => rw [path_zero]; cases j with
      | zero => rfl
      | succ j => rw [get_succ]; cases Nat.beq (Nat.mod j 2) 0 <;> simp [get_nil']
    | succ k =>
      rw [path_succ]
      have hlt := div_lt' hk
      cases hb : Nat.beq (Nat.mod k 2) 0 <;> simp only
      · cases j with
        | zero => simp [get_zero]
        | succ j =>
          rw [get_succ]
          cases hj : Nat.beq (Nat.mod j 2) 0 <;> simp only
          · rw [ih _ _ hlt]
            by_cases e : j = k
            · subst e; simp
            · have h2 := beq_f hb
              have h3 := beq_f hj
              have : ¬ (Nat.div j 2 = Nat.div k 2) := div_ne (by omega) e
              simp [this, e]
          · have : ¬ (j = k) := by rintro rfl; rw [hb] at hj; cases hj
            simp [this, get_nil']
      · cases j with
        | zero => simp [get_zero]
        | succ j =>
          rw [get_succ]
          cases hj : Nat.beq (Nat.mod j 2) 0 <;> simp only
          · have : ¬ (j = k) := by rintro rfl; rw [hb] at hj; cases hj
            simp [this, get_nil']
          · rw [ih _ _ hlt]
            by_cases e : j = k
            · subst e; simp
            · have h2 := beq_t hb
              have h3 := beq_t hj
              have : ¬ (Nat.div j 2 = Nat.div k 2) := div_ne (by omega) e
              simp [this, e]
theorem get_set (x : Option α) : ∀ (t : Tr α) (k j : Nat), (set x t k).get j = if j = k then x else t.get j := by
  intro t
  induction t with
  | nil => intro k j; exact get_path x _ k j (Nat.lt_succ_self k)
  | node v l r ihl ihr =>
    intro k j
    cases k with
    | zero => rw [set_zero]; cases j with
      | zero => simp [get_zero]
      | succ j => simp [get_succ]
    | succ k =>
      rw [set_succ]
      cases hb : Nat.beq (Nat.mod k 2) 0 <;> simp only
      · cases j with
        | zero => simp [get_zero]
        | succ j =>
          rw [get_succ, get_succ]
          cases hj : Nat.beq (Nat.mod j 2) 0 <;> simp only
          · rw [ihr]
            by_cases e : j = k
            · subst e; simp
            · have h2 := beq_f hb
              have h3 := beq_f hj
              have : ¬ (Nat.div j 2 = Nat.div k 2) := div_ne (by omega) e
              simp [this, e]
          · have : ¬ (j = k) := by rintro rfl; rw [hb] at hj; cases hj
            simp [this]
      · cases j with
        | zero => simp [get_zero]
        | succ j =>
          rw [get_succ, get_succ]
          cases hj : Nat.beq (Nat.mod j 2) 0 <;> simp only
          · have : ¬ (j = k) := by rintro rfl; rw [hb] at hj; cases hj
            simp [this]
          · rw [ihl]
            by_cases e : j = k
            · subst e; simp
            · have h2 := beq_t hb
              have h3 := beq_t hj
              have : ¬ (Nat.div j 2 = Nat.div k 2) := div_ne (by omega) e
              simp [this, e]
noncomputable def put (t : Tr α) (k : Nat) (x : α) : Tr α := set (some x) t k
noncomputable def del (t : Tr α) (k : Nat) : Tr α := set none t k
theorem get_put (t : Tr α) (k : Nat) (x : α) (j : Nat) : (t.put k x).get j = if j = k then some x else t.get j := get_set _ _ _ _
theorem get_del (t : Tr α) (k : Nat) (j : Nat) : (t.del k).get j = if j = k then none else t.get j := get_set _ _ _ _
theorem get_nil (j : Nat) : (Tr.nil : Tr α).get j = none := rfl
end Tr
inductive AV where
  | int (k : IntKind) (n : Int)
  | bool (b : Bool)
  | str (s : List Nat)
  | nilp
  | ptr (b off : Nat)
  | nils
  | slc (b off len es : Nat) (cap : Option Nat)
  | slcE
  | nilm
  | map (b : Nat)
  | fn (f : Fn) (first captured : List AV)
  | yld (b : Nat)
  | nilf
  | nili
  | ifc (t : TypeId) (v : AV)
  | agg (l : List AV)
  | tup (l : List AV)
  | anyI (k : IntKind)
structure Pl where
  blk : Nat
  off : Nat
  fin : Nat
abbrev Mp := Nat -> Option Pl
mutual
inductive VR (μ : Mp) : AV -> Value -> Prop where
  | int (k : IntKind) (n : Int) : VR μ (.int k n) (.int k n)
  | bool (b : Bool) : VR μ (.bool b) (.bool b)
  | str (l : List Nat) (s : ByteArray) (h : s.data.toList.map UInt8.toNat = l) : VR μ (.str l) (.string s)
  | nilp : VR μ .nilp (.pointer none)
  | ptr (b off : Nat) (p : Pl) (h : μ b = some p) : VR μ (.ptr b off) (.pointer (some ⟨p.blk, p.off + off, none⟩))
  | nils : VR μ .nils (.slice none 0 0)
  | slc (b off len es : Nat) (cap : Option Nat) (c : Nat) (p : Pl) (h : μ b = some p) (hc : ∀ k, cap = some k -> c = k)
      (ho : cap = none -> p.off + off + c * es = p.fin /\ len <= c) : VR μ (.slc b off len es cap) (.slice (some ⟨p.blk, p.off + off, none⟩) len c)
  | slcE (a : Addr) (c : Nat) : VR μ .slcE (.slice (some a) 0 c)
  | nilm : VR μ .nilm (.map none)
  | map (b : Nat) (p : Pl) (h : μ b = some p) : VR μ (.map b) (.map (some p.blk))
  | fn (f : Fn) (first captured : List AV) (a c : List Value) (h1 : VRs μ first a) (h2 : VRs μ captured c) : VR μ (.fn f first captured) (.func f ⟨a⟩ ⟨c⟩)
  | yld (b : Nat) (p : Pl) (h : μ b = some p) : VR μ (.yld b) (.func (.yield p.blk) ⟨[]⟩ ⟨[]⟩)
  | nilf : VR μ .nilf .nilFunc
  | nili : VR μ .nili .nilIface
  | ifc (t : TypeId) (x : AV) (v : Value) (h : VR μ x v) : VR μ (.ifc t x) (.iface t v)
  | agg (l : List AV) (a : List Value) (h : VRs μ l a) : VR μ (.agg l) (.agg ⟨a⟩)
  | tup (l : List AV) (a : List Value) (h : VRs μ l a) : VR μ (.tup l) (.tuple ⟨a⟩)
  | anyI (k : IntKind) (n : Int) : VR μ (.anyI k) (.int k n)
inductive VRs (μ : Mp) : List AV -> List Value -> Prop where
  | nil : VRs μ [] []
  | cons (x : AV) (v : Value) (l : List AV) (a : List Value) (h : VR μ x v) (t : VRs μ l a) : VRs μ (x :: l) (v :: a)
end
def Mp.le (μ μ' : Mp) : Prop := ∀ b p, μ b = some p -> μ' b = some p
theorem Mp.le_refl (μ : Mp) : μ.le μ := fun _ _ h => h
theorem Mp.le_trans {a b c : Mp} (h : a.le b) (h' : b.le c) : a.le c := fun x p hx => h' x p (h x p hx)
mutual
theorem VR.mono {μ μ' : Mp} (hm : μ.le μ') : ∀ {x : AV} {v : Value}, VR μ x v -> VR μ' x v
  | _, _, .int k n => .int k n
  | _, _, .bool b => .bool b
  | _, _, .str l s h => .str l s h
  | _, _, .nilp => .nilp
  | _, _, .ptr b off p h => .ptr b off p (hm _ _ h)
  | _, _, .nils => .nils
  | _, _, .slc b off len es cap c p h hc ho => .slc b off len es cap c p (hm _ _ h) hc ho
  | _, _, .slcE a c => .slcE a c
  | _, _, .nilm => .nilm
  | _, _, .map b p h => .map b p (hm _ _ h)
  | _, _, .fn f first captured a c h1 h2 => .fn f first captured a c (VRs.mono hm h1) (VRs.mono hm h2)
  | _, _, .yld b p h => .yld b p (hm _ _ h)
  | _, _, .nilf => .nilf
  | _, _, .nili => .nili
  | _, _, .ifc t x v h => .ifc t x v (VR.mono hm h)
  | _, _, .agg l a h => .agg l a (VRs.mono hm h)
  | _, _, .tup l a h => .tup l a (VRs.mono hm h)
  | _, _, .anyI k n => .anyI k n
theorem VRs.mono {μ μ' : Mp} (hm : μ.le μ') : ∀ {l : List AV} {a : List Value}, VRs μ l a -> VRs μ' l a
  | _, _, .nil => .nil
  | _, _, .cons x v l a h t => .cons x v l a (VR.mono hm h) (VRs.mono hm t)
end
theorem VRs.length {μ : Mp} : ∀ {l : List AV} {a : List Value}, VRs μ l a -> a.length = l.length
  | _, _, .nil => rfl
  | _, _, .cons _ _ _ _ _ t => by simp [VRs.length t]
theorem VRs.get {μ : Mp} : ∀ {l : List AV} {a : List Value}, VRs μ l a -> ∀ {i : Nat} {x : AV}, l[i]? = some x -> ∃ v, a[i]? = some v /\ VR μ x v
  | _, _, .nil, i, x, h => by simp at h
  | _, _, .cons y v l a hv t, i, x, h => by
    cases i with
    | zero => simp at h; subst h; exact ⟨v, rfl, hv⟩
    | succ i => simp at h; exact VRs.get t h
theorem VRs.append {μ : Mp} : ∀ {l l' : List AV} {a a' : List Value}, VRs μ l a -> VRs μ l' a' -> VRs μ (l ++ l') (a ++ a')
  | _, _, _, _, .nil, h => h
  | _, _, _, _, .cons x v l a hv t, h => .cons x v _ _ hv (VRs.append t h)
theorem VRs.take {μ : Mp} : ∀ {l : List AV} {a : List Value} (n : Nat), VRs μ l a -> VRs μ (l.take n) (a.take n)
  | _, _, 0, _ => by simp; exact .nil
  | _, _, n + 1, .nil => by simp; exact .nil
  | _, _, n + 1, .cons x v l a hv t => by simp; exact .cons x v _ _ hv (VRs.take n t)
theorem VRs.drop {μ : Mp} : ∀ {l : List AV} {a : List Value} (n : Nat), VRs μ l a -> VRs μ (l.drop n) (a.drop n)
  | _, _, 0, h => by simpa using h
  | _, _, n + 1, .nil => by simp; exact .nil
  | _, _, n + 1, .cons x v l a hv t => by simp; exact VRs.drop n t
theorem VRs.of_get {μ : Mp} : ∀ (l : List AV) (a : List Value), a.length = l.length -> (∀ (i : Nat) (x : AV), l[i]? = some x -> ∃ v, a[i]? = some v /\ VR μ x v) -> VRs μ l a
  | [], [], _, _ => .nil
  | [], _ :: _, h, _ => by simp at h
  | _ :: _, [], h, _ => by simp at h
  | x :: l, v :: a, h, H => by
    obtain ⟨w, hw, hr⟩ := H 0 x rfl
    simp at hw; subst hw
    exact .cons x v l a hr (VRs.of_get l a (by simpa using h) fun i y hy => by simpa using H (i + 1) y (by simpa using hy))
def TR (μ : Mp) (T : Tr AV) (tmps : Array Value) : Prop := ∀ t x, T.get t = some x -> ∃ v, tmps[t]? = some v /\ VR μ x v
theorem TR.mono {μ μ' : Mp} (hm : μ.le μ') {T : Tr AV} {tmps : Array Value} (h : TR μ T tmps) : TR μ' T tmps :=
  fun t x ht => let ⟨v, hv, hr⟩ := h t x ht; ⟨v, hv, hr.mono hm⟩
inductive AB where
  | cells (n : Nat) (c : Tr AV) (opn ro : Bool) (frz : Nat) (elem : TypeId)
  | map (es : List (AV × AV × Nat)) (clock : Nat)
  | loop (st : LoopState) (pend : Option Code) (n : Nat) (T : Tr AV) (ps : List Tmp) (assign body : Code) (dB : Nat)
  | dfrd
  | iter (m : Option Nat) (since : Nat) (seen : List Nat) (last : Nat)
def AB.ro : AB -> Bool
  | .cells _ _ _ ro _ _ => ro
  | .map .. => false
  | .loop .. => false
  | .dfrd => false
  | .iter .. => false
structure AH where
  next : Nat
  m : Tr AB
  G : Nat
inductive ERs (μ : Mp) : List (AV × AV × Nat) -> List MapEntry -> Prop where
  | nil : ERs μ [] []
  | cons (k v : AV) (born : Nat) (l : List (AV × AV × Nat)) (k' v' : Value) (a : List MapEntry) (hk : VR μ k k') (hv : VR μ v v') (t : ERs μ l a) :
      ERs μ ((k, v, born) :: l) ({ key := k', val := v', born } :: a)
theorem ERs.mono {μ μ' : Mp} (hm : μ.le μ') : ∀ {l : List (AV × AV × Nat)} {a : List MapEntry}, ERs μ l a -> ERs μ' l a
  | _, _, .nil => .nil
  | _, _, .cons k v born l k' v' a hk hv t => .cons k v born l k' v' a (hk.mono hm) (hv.mono hm) (t.mono hm)
structure LR (μ : Mp) (st : LoopState) (pend : Option Code) (n : Nat) (T : Tr AV) (ps : List Tmp) (assign body : Code) (dB : Nat) (r : Loop) : Prop where
  st : r.state = st
  pend : r.pending = pend
  tmps : TR μ T r.tmps
  size : r.tmps.size = n
  params : r.params.toList = ps
  assign : r.assign = assign
  body : r.body = body
  defers : ∃ q, μ dB = some q /\ q.blk = r.defers
theorem LR.mono {μ μ' : Mp} (hm : μ.le μ') {st : LoopState} {pend : Option Code} {n : Nat} {T : Tr AV} {ps : List Tmp} {assign body : Code} {dB : Nat} {r : Loop} (h : LR μ st pend n T ps assign body dB r) : LR μ' st pend n T ps assign body dB r :=
  ⟨h.st, h.pend, h.tmps.mono hm, h.size, h.params, h.assign, h.body, let ⟨q, h1, h2⟩ := h.defers; ⟨q, hm _ _ h1, h2⟩⟩
def BR (μ : Mp) (B : AB) (p : Pl) (heap : Array Obj) : Prop :=
  match B with
  | .cells n c opn _ frz elem => ∃ cs fr, heap[p.blk]? = some (.cells cs elem fr) /\ cs.size = p.fin /\ p.off + n <= p.fin /\ (opn = false -> p.off = 0 /\ n = p.fin) /\
      (∀ i x, c.get i = some x -> i < n /\ ∃ v, cs[p.off + i]? = some v /\ VR μ x v) /\ (frz = 0 -> fr = (0, 0)) /\ (frz <= 1 -> ∀ i, i < p.fin -> ¬ (fr.1 <= i /\ i < fr.2))
  | .map es clock => ∃ a, heap[p.blk]? = some (.map ⟨a⟩ clock) /\ ERs μ es a
  | .loop st pend n T ps assign body dB => ∃ r, heap[p.blk]? = some (.loop r) /\ LR μ st pend n T ps assign body dB r
  | .dfrd => heap[p.blk]? = some (.deferred (some []))
  | .iter m since seen last => p.off = 0 /\ match m with
    | none => heap[p.blk]? = some (.mapIter none since ⟨seen⟩ last)
    | some b => ∃ q, μ b = some q /\ heap[p.blk]? = some (.mapIter (some q.blk) since ⟨seen⟩ last)
theorem BR.mono {μ μ' : Mp} (hm : μ.le μ') {B : AB} {p : Pl} {heap : Array Obj} (h : BR μ B p heap) : BR μ' B p heap := by
  cases B with
  | cells n c opn ro frz elem =>
    obtain ⟨cs, fr, h1, h2, h3, h4, h5, h6⟩ := h
    exact ⟨cs, fr, h1, h2, h3, h4, fun i x hx => let ⟨a, v, b, r⟩ := h5 i x hx; ⟨a, v, b, r.mono hm⟩, h6⟩
  | map es clock =>
    obtain ⟨a, h1, h2⟩ := h
    exact ⟨a, h1, h2.mono hm⟩
  | loop st pend n T ps assign body dB =>
    obtain ⟨r, h1, h2⟩ := h
    exact ⟨r, h1, h2.mono hm⟩
  | dfrd => exact h
  | iter m since seen last =>
    cases m with
    | none => exact h
    | some b => obtain ⟨h0, q, h1, h2⟩ := h; exact ⟨h0, q, hm _ _ h1, h2⟩
theorem BR.of_heap {μ : Mp} {B : AB} {p : Pl} {heap heap' : Array Obj} (h : BR μ B p heap) (e : heap'[p.blk]? = heap[p.blk]?) : BR μ B p heap' := by
  cases B with
  | cells n c opn ro frz elem => obtain ⟨cs, fr, h1, hr⟩ := h; exact ⟨cs, fr, e.trans h1, hr⟩
  | map es clock => obtain ⟨a, h1, hr⟩ := h; exact ⟨a, e.trans h1, hr⟩
  | loop st pend n T ps assign body dB => obtain ⟨a, h1, hr⟩ := h; exact ⟨a, e.trans h1, hr⟩
  | dfrd => exact e.trans h
  | iter m since seen last =>
    cases m with
    | none => obtain ⟨h0, h⟩ := h; exact ⟨h0, e.trans h⟩
    | some b => obtain ⟨h0, q, h1, h2⟩ := h; exact ⟨h0, q, h1, e.trans h2⟩
theorem BR.lt {μ : Mp} {B : AB} {p : Pl} {heap : Array Obj} (h : BR μ B p heap) : p.blk < heap.size := by
  cases B with
  | cells n c opn ro frz elem => obtain ⟨cs, fr, h1, hr⟩ := h; exact (Array.getElem?_eq_some_iff.1 h1).1
  | map es clock => obtain ⟨a, h1, hr⟩ := h; exact (Array.getElem?_eq_some_iff.1 h1).1
  | loop st pend n T ps assign body dB => obtain ⟨a, h1, hr⟩ := h; exact (Array.getElem?_eq_some_iff.1 h1).1
  | dfrd => exact (Array.getElem?_eq_some_iff.1 h).1
  | iter m since seen last =>
    cases m with
    | none => obtain ⟨h0, h⟩ := h; exact (Array.getElem?_eq_some_iff.1 h).1
    | some b => obtain ⟨h0, q, h1, h2⟩ := h; exact (Array.getElem?_eq_some_iff.1 h2).1
structure Rel (μ : Mp) (H : AH) (w : World) : Prop where
  blk : ∀ b B, H.m.get b = some B -> ∃ p, μ b = some p /\ BR μ B p w.heap
  inj : ∀ b b' p p' B B', H.m.get b = some B -> H.m.get b' = some B' -> μ b = some p -> μ b' = some p' -> p.blk = p'.blk -> b = b'
  fresh : ∀ b, H.next <= b -> μ b = none
  glob : ∀ g, g < H.G -> ∃ p, μ g = some p /\ p.blk = g /\ p.off = 0
structure Keeps (μ : Mp) (H : AH) (w w' : World) : Prop where
  size : w.heap.size <= w'.heap.size
  same : ∀ k, k < w.heap.size -> (∀ b B p, H.m.get b = some B -> B.ro = false -> μ b = some p -> p.blk ≠ k) -> w'.heap[k]? = w.heap[k]?
  tape : w'.tape = w.tape
  os : w'.os = w.os
  output : w'.output = w.output
structure Stp (μ : Mp) (H : AH) (w : World) (μ' : Mp) (H' : AH) (w' : World) : Prop where
  le : μ.le μ'
  next : H.next <= H'.next
  old : ∀ b, b < H.next -> μ b = none -> μ' b = none
  rel : Rel μ' H' w'
  keeps : Keeps μ H w w'
  own : ∀ b B p, H'.m.get b = some B -> μ' b = some p ->
    w.heap.size <= p.blk \/ ∃ b0 B0 p0, H.m.get b0 = some B0 /\ (B.ro = false -> B0.ro = false) /\ μ b0 = some p0 /\ p0.blk = p.blk
theorem Keeps.refl (μ : Mp) (H : AH) (w : World) : Keeps μ H w w := ⟨Nat.le_refl _, fun _ _ _ => rfl, rfl, rfl, rfl⟩
theorem Stp.refl {μ : Mp} {H : AH} {w : World} (h : Rel μ H w) : Stp μ H w μ H w :=
  ⟨Mp.le_refl _, Nat.le_refl _, fun _ _ h => h, h, Keeps.refl _ _ _, fun b B p hb hp => .inr ⟨b, B, p, hb, id, hp, rfl⟩⟩
theorem Stp.trans {μ μ1 μ2 : Mp} {H H1 H2 : AH} {w w1 w2 : World} (h : Stp μ H w μ1 H1 w1) (h' : Stp μ1 H1 w1 μ2 H2 w2) : Stp μ H w μ2 H2 w2 where
  le := Mp.le_trans h.le h'.le
  next := Nat.le_trans h.next h'.next
  old := fun b hb hn => h'.old b (Nat.lt_of_lt_of_le hb h.next) (h.old b hb hn)
  rel := h'.rel
  keeps :=
    { size := Nat.le_trans h.keeps.size h'.keeps.size
      same := fun k hk hno => by
        rw [<- h.keeps.same k hk hno]
        refine h'.keeps.same k (Nat.lt_of_lt_of_le hk h.keeps.size) fun b B p hb hro hp => ?_
        rcases h.own b B p hb hp with hge | ⟨b0, B0, p0, hb0, hro0, hp0, he⟩
        · omega
        · rw [<- he]; exact hno b0 B0 p0 hb0 (hro0 hro) hp0
      tape := h'.keeps.tape.trans h.keeps.tape
      os := h'.keeps.os.trans h.keeps.os
      output := h'.keeps.output.trans h.keeps.output }
  own := fun b B p hb hp => by
    rcases h'.own b B p hb hp with hge | ⟨b0, B0, p0, hb0, hro0, hp0, he⟩
    · exact .inl (Nat.le_trans h.keeps.size hge)
    · rcases h.own b0 B0 p0 hb0 hp0 with hge | ⟨b1, B1, p1, hb1, hro1, hp1, he1⟩
      · exact .inl (he ▸ hge)
      · exact .inr ⟨b1, B1, p1, hb1, fun hr => hro1 (hro0 hr), hp1, he1.trans he⟩
end Go.Ev
/- Memory: new blocks, writes, reads. -/
set_option linter.unusedSimpArgs false
set_option linter.unusedVariables false
namespace Go.Ev
open Go
theorem Mp.set_le {μ : Mp} {b : Nat} {p : Pl} (h : μ b = none) : μ.le (fun x => if x = b then some p else μ x) := by
  intro x q hx
  have : x ≠ b := by rintro rfl; rw [h] at hx; cases hx
  simp [this, hx]
theorem glob_le {G : Nat} {μ μ' : Mp} (h : ∀ g, g < G -> ∃ p, μ g = some p /\ p.blk = g /\ p.off = 0) (hle : μ.le μ') : ∀ g, g < G -> ∃ p, μ' g = some p /\ p.blk = g /\ p.off = 0 :=
  fun g hg => let ⟨p, a, b⟩ := h g hg; ⟨p, hle _ _ a, b⟩
theorem stp_new {μ : Mp} {H : AH} {w w' : World} (h : Rel μ H w) (B : AB) (o : Obj) (fin : Nat)
    (hB : BR (fun x => if x = H.next then some ⟨w.heap.size, 0, fin⟩ else μ x) B ⟨w.heap.size, 0, fin⟩ w'.heap)
    (hw : w' = { w with heap := w.heap.push o }) :
    Stp μ H w (fun x => if x = H.next then some ⟨w.heap.size, 0, fin⟩ else μ x) { next := Nat.succ H.next, m := H.m.put H.next B, G := H.G } w' := by
  have hn : μ H.next = none := h.fresh _ (Nat.le_refl _)
  have hle := Mp.set_le (p := (⟨w.heap.size, 0, fin⟩ : Pl)) hn
  subst hw
  have hold : ∀ k, k < w.heap.size -> (w.heap.push o)[k]? = w.heap[k]? := fun k hk => by
    rw [Array.getElem?_push_lt hk, Array.getElem?_eq_getElem hk]
  refine ⟨hle, Nat.le_succ _, fun b hb hno => ?_, ⟨?_, ?_, ?_, glob_le h.glob hle⟩, ⟨by simp, fun k hk _ => hold k hk, rfl, rfl, rfl⟩, ?_⟩
  · have : b ≠ H.next := by omega
    simp [this, hno]
  · intro b B' hb
    simp only [Tr.get_put] at hb
    by_cases e : b = H.next
    · simp [e] at hb; subst hb; exact ⟨_, by simp [e], hB⟩
    · simp [e] at hb
      obtain ⟨p, hp, hr⟩ := h.blk b B' hb
      exact ⟨p, by simp [e, hp], (hr.mono hle).of_heap (hold _ hr.lt)⟩
  · intro b b' p p' B1 B2 hb hb' hp hp' he
    simp only [Tr.get_put] at hb hb'
    have lt : ∀ x B q, H.m.get x = some B -> μ x = some q -> q.blk < w.heap.size := fun x B q hx hq => by
      obtain ⟨q', hq', hr⟩ := h.blk x B hx
      rw [hq] at hq'; cases hq'; exact hr.lt
    by_cases e : b = H.next <;> by_cases e' : b' = H.next <;> simp [e, e'] at hb hb' hp hp'
    · rw [e, e']
    · have := lt _ _ _ hb' hp'; rw [<- he, <- hp] at this; simp at this
    · have := lt _ _ _ hb hp; rw [he, <- hp'] at this; simp at this
    · exact h.inj b b' p p' _ _ hb hb' hp hp' he
  · intro b hb
    have : b ≠ H.next := by show b ≠ H.next; have : Nat.succ H.next <= b := hb; omega
    simp only [this, if_false]
    exact h.fresh b (by have : Nat.succ H.next <= b := hb; omega)
  · intro b B' p hb hp
    simp only [Tr.get_put] at hb
    by_cases e : b = H.next
    · simp [e] at hp; subst hp; exact .inl (Nat.le_refl _)
    · simp [e] at hb hp; exact .inr ⟨b, B', p, hb, id, hp, rfl⟩
theorem stp_set {μ : Mp} {H : AH} {w w' : World} (h : Rel μ H w) {b : Nat} {B B' : AB} {p : Pl} (hb : H.m.get b = some B) (hro : B.ro = false) (hro' : B'.ro = false) (hp : μ b = some p)
    (hsz : w'.heap.size = w.heap.size) (hoth : ∀ k, k ≠ p.blk -> w'.heap[k]? = w.heap[k]?) (hB : BR μ B' p w'.heap)
    (ht : w'.tape = w.tape) (hos : w'.os = w.os) (hout : w'.output = w.output) : Stp μ H w μ { H with m := H.m.put b B' } w' := by
  refine ⟨Mp.le_refl _, Nat.le_refl _, fun _ _ h => h, ⟨?_, ?_, h.fresh, h.glob⟩, ⟨by omega, fun k _ hno => hoth k fun e => hno b B p hb hro hp e.symm, ht, hos, hout⟩, ?_⟩
  · intro c C hc
    simp only [Tr.get_put] at hc
    by_cases e : c = b
    · simp [e] at hc; subst hc; subst e; exact ⟨p, hp, hB⟩
    · simp [e] at hc
      obtain ⟨q, hq, hr⟩ := h.blk c C hc
      exact ⟨q, hq, hr.of_heap (hoth _ fun e' => e (h.inj c b q p C B hc hb hq hp e'))⟩
  · intro c c' q q' C C' hc hc' hq hq' he
    simp only [Tr.get_put] at hc hc'
    have get : ∀ x X, (if x = b then some B' else H.m.get x) = some X -> ∃ Y, H.m.get x = some Y := fun x X hx => by
      by_cases e : x = b
      · exact ⟨B, e ▸ hb⟩
      · simp [e] at hx; exact ⟨X, hx⟩
    obtain ⟨Y, hY⟩ := get c C hc
    obtain ⟨Y', hY'⟩ := get c' C' hc'
    exact h.inj c c' q q' _ _ hY hY' hq hq' he
  · intro c C q hc hq
    simp only [Tr.get_put] at hc
    by_cases e : c = b
    · subst e; rw [hp] at hq; cases hq; exact .inr ⟨c, B, p, hb, fun _ => hro, hp, rfl⟩
    · simp [e] at hc; exact .inr ⟨c, C, q, hc, id, hq, rfl⟩
theorem stp_move {μ : Mp} {H : AH} {w w' : World} (h : Rel μ H w) {b : Nat} {B B' : AB} {p q : Pl} (hb : H.m.get b = some B) (hro : B.ro = false) (hro' : B'.ro = false) (hp : μ b = some p)
    (hqp : q.blk = p.blk) (hsz : w'.heap.size = w.heap.size) (hoth : ∀ k, k ≠ p.blk -> w'.heap[k]? = w.heap[k]?)
    (hB : BR (fun x => if x = H.next then some q else μ x) B' q w'.heap) (ht : w'.tape = w.tape) (hos : w'.os = w.os) (hout : w'.output = w.output) :
    Stp μ H w (fun x => if x = H.next then some q else μ x) { next := Nat.succ H.next, m := (H.m.del b).put H.next B', G := H.G } w' := by
  have hn : μ H.next = none := h.fresh _ (Nat.le_refl _)
  have hle := Mp.set_le (p := q) hn
  have hbn : b ≠ H.next := by rintro rfl; rw [hn] at hp; cases hp
  refine ⟨hle, Nat.le_succ _, fun c hc hno => ?_, ⟨?_, ?_, ?_, glob_le h.glob hle⟩, ⟨by omega, fun k _ hno => hoth k fun e => hno b B p hb hro hp e.symm, ht, hos, hout⟩, ?_⟩
  · have : c ≠ H.next := by omega
    simp [this, hno]
  · intro c C hc
    simp only [Tr.get_put, Tr.get_del] at hc
    by_cases e : c = H.next
    · simp [e] at hc; subst hc; exact ⟨q, by simp [e], hB⟩
    · by_cases e2 : c = b
      · simp [e, e2] at hc; exact absurd hc.1 hbn
      · simp [e, e2] at hc
        obtain ⟨r, hr, hbr⟩ := h.blk c C hc
        exact ⟨r, by simp [e, hr], (hbr.mono hle).of_heap (hoth _ fun e' => e2 (h.inj c b r p C B hc hb hr hp e'))⟩
  · intro c c' r r' C C' hc hc' hr hr' he
    simp only [Tr.get_put, Tr.get_del] at hc hc'
    by_cases e : c = H.next <;> by_cases e' : c' = H.next
    · rw [e, e']
    · by_cases e2 : c' = b
      · simp [e', e2] at hc'; exact absurd hc'.1 hbn
      · simp [e, e', e2] at hc hc' hr hr'
        subst hr
        exact absurd (h.inj c' b r' p _ _ hc' hb hr' hp (he.symm.trans hqp)) e2
    · by_cases e2 : c = b
      · simp [e, e2] at hc; exact absurd hc.1 hbn
      · simp [e, e', e2] at hc hc' hr hr'
        subst hr'
        exact absurd (h.inj c b r p _ _ hc hb hr hp (he.trans hqp)) e2
    · by_cases e2 : c = b
      · simp [e, e2] at hc; exact absurd hc.1 hbn
      · by_cases e3 : c' = b
        · simp [e', e3] at hc'; exact absurd hc'.1 hbn
        · simp [e, e', e2, e3] at hc hc' hr hr'
          exact h.inj c c' r r' _ _ hc hc' hr hr' he
  · intro c hc
    have hc' : Nat.succ H.next <= c := hc
    have : c ≠ H.next := by omega
    simp only [this, if_false]
    exact h.fresh c (by omega)
  · intro c C r hc hq
    simp only [Tr.get_put, Tr.get_del] at hc
    by_cases e : c = H.next
    · simp [e] at hq; subst hq; exact .inr ⟨b, B, p, hb, fun _ => hro, hp, hqp.symm⟩
    · by_cases e2 : c = b
      · simp [e, e2] at hc; exact absurd hc.1 hbn
      · simp [e, e2] at hc hq; exact .inr ⟨c, C, r, hc, id, hq, rfl⟩
theorem Rel.drew {μ : Mp} {H : AH} {w : World} (h : Rel μ H w) (n : Nat) : Rel μ H { w with drawn := n } := ⟨h.blk, h.inj, h.fresh, h.glob⟩
theorem stp_drew {μ : Mp} {H : AH} {w : World} (h : Rel μ H w) (n : Nat) : Stp μ H w μ H { w with drawn := n } :=
  ⟨Mp.le_refl _, Nat.le_refl _, fun _ _ h => h, h.drew n, ⟨Nat.le_refl _, fun _ _ _ => rfl, rfl, rfl, rfl⟩, fun b B p hb hp => .inr ⟨b, B, p, hb, id, hp, rfl⟩⟩
def AV.one : AV -> Bool
  | .agg _ | .tup _ => false
  | _ => true
theorem VR.oneCell {μ : Mp} {x : AV} {v : Value} (h : VR μ x v) : v.oneCell' = x.one := by cases h <;> rfl
def AV.cells : AV -> List AV
  | .agg l => l
  | x => [x]
theorem VR.cells {μ : Mp} {x : AV} {v : Value} (h : VR μ x v) : VRs μ x.cells v.cells.toList := by
  cases h <;> first | (rename_i t; exact t) | exact .cons _ _ _ _ (by constructor <;> assumption) .nil
noncomputable def getL (c : Tr AV) : Nat -> Nat -> Option (List AV)
  | _, 0 => some []
  | off, n + 1 => match c.get off with
    | none => none
    | some x => match getL c (Nat.succ off) n with
      | none => none
      | some l => some (x :: l)
theorem getL_get (c : Tr AV) : ∀ (n off : Nat) (l : List AV), getL c off n = some l -> l.length = n /\ ∀ i, i < n -> c.get (off + i) = l[i]?
  | 0, off, l, h => by simp [getL] at h; subst h; simp
  | n + 1, off, l, h => by
    simp only [getL] at h
    split at h
    · cases h
    · rename_i x hx
      split at h
      · cases h
      · rename_i l' hl
        simp at h; subst h
        obtain ⟨h1, h2⟩ := getL_get c n (Nat.succ off) l' hl
        refine ⟨by simp [h1], fun i hi => ?_⟩
        cases i with
        | zero => simpa using hx
        | succ i => rw [show off + (i + 1) = Nat.succ off + i by omega, h2 i (by omega)]; simp
noncomputable def putL (c : Tr AV) : Nat -> List AV -> Tr AV
  | _, [] => c
  | off, x :: l => putL (c.put off x) (Nat.succ off) l
theorem putL_get : ∀ (l : List AV) (c : Tr AV) (off j : Nat), (putL c off l).get j = if off <= j /\ j < off + l.length then l[j - off]? else c.get j
  | [], c, off, j => by
    have : ¬ (off <= j /\ j < off) := by omega
    simp [putL]; intro h1 h2; omega
  | x :: l, c, off, j => by
    simp only [putL]
    rw [putL_get l _ _ j, Tr.get_put]
    simp only [List.length_cons]
    by_cases e : j = off
    · subst e
      have : ¬ (Nat.succ j <= j /\ j < Nat.succ j + l.length) := by omega
      simp [this]
    · by_cases h : Nat.succ off <= j /\ j < Nat.succ off + l.length
      · have h' : off <= j /\ j < off + (l.length + 1) := by omega
        rw [if_pos h, if_pos h', show j - off = (j - Nat.succ off) + 1 by omega]; simp
      · have h' : ¬ (off <= j /\ j < off + (l.length + 1)) := by omega
        rw [if_neg h, if_neg h', if_neg e]
noncomputable def ofL (l : List AV) : Tr AV := putL .nil 0 l
theorem ofL_get (l : List AV) (j : Nat) : (ofL l).get j = l[j]? := by
  unfold ofL
  rw [putL_get]
  by_cases h : j < l.length
  · simp [h]
  · simp [h, Tr.get_nil]
theorem World.cell?_at {w : World} {rb o : Nat} {cs : Array Value} {elem : TypeId} {fr : Nat × Nat} (h : w.heap[rb]? = some (.cells cs elem fr)) : w.cell? ⟨rb, o, none⟩ = cs[o]? := by
  simp [World.cell?, h]
theorem Addr.add_none (rb o i : Nat) : (Addr.add ⟨rb, o, none⟩ i) = ⟨rb, o + i, none⟩ := by
  unfold Addr.add; split
  · rename_i h; simp [h]
  · rfl
theorem run_loadCells_ev (P : Program) {w : World} {rb o : Nat} {cs : Array Value} {elem : TypeId} {fr : Nat × Nat} (h : w.heap[rb]? = some (.cells cs elem fr)) (n : Nat) (vs : List Value)
    (hl : vs.length = n) (hv : ∀ i, i < n -> cs[o + i]? = vs[i]?) : (loadCells ⟨rb, o, none⟩ n).run P w = .ok vs.toArray w := by
  subst hl
  refine run_loadCells_list (P := P) (w := w) ⟨rb, o, none⟩ vs fun j v hj => ?_
  rw [Addr.add_none, World.cell?_at h, hv j (List.getElem?_eq_some_iff.1 hj).1, hj]
theorem heap_setCell_same {w : World} {rb o : Nat} {cs : Array Value} {elem : TypeId} {fr : Nat × Nat} (h : w.heap[rb]? = some (.cells cs elem fr)) (v : Value) :
    (w.setCell ⟨rb, o, none⟩ v).heap[rb]? = some (.cells (cs.setIfInBounds o v) elem fr) := by
  simp [World.setCell, Array.getElem?_modify, h]
theorem heap_setCell_other {w : World} {a : Addr} {k : Nat} (h : k ≠ a.block) (v : Value) : (w.setCell a v).heap[k]? = w.heap[k]? := by
  simp [World.setCell, Array.getElem?_modify, Ne.symm h]
theorem frozen_at {w : World} {rb o : Nat} {cs : Array Value} {elem : TypeId} {fr : Nat × Nat} (h : w.heap[rb]? = some (.cells cs elem fr)) : w.frozen? ⟨rb, o, none⟩ = (decide (fr.1 <= o) && decide (o < fr.2)) := by
  obtain ⟨lo, hi⟩ := fr
  simp [World.frozen?, h]
theorem run_store_ev {α : Type} (P : Program) {w : World} {rb o : Nat} {cs : Array Value} {elem : TypeId} {fr : Nat × Nat} (h : w.heap[rb]? = some (.cells cs elem fr)) (ho : o < cs.size)
    (hf : ¬ (fr.1 <= o /\ o < fr.2)) {v : Value} (hv : v.oneCell' = true) (m : Mode) (k : Sem α) : (Sem.store m ⟨rb, o, none⟩ v k).run P w = k.run P (w.setCell ⟨rb, o, none⟩ v) := by
  have hc : w.cell? ⟨rb, o, none⟩ = some cs[o] := by rw [World.cell?_at h]; simp [ho]
  have hz : w.frozen? ⟨rb, o, none⟩ = false := by
    rw [frozen_at h]
    by_cases h1 : fr.1 <= o <;> by_cases h2 : o < fr.2 <;> simp_all
  cases v <;> simp_all [Sem.run, Value.oneCell']
theorem run_storeCells_ev (P : Program) (rb o : Nat) (elem : TypeId) (fr : Nat × Nat) : ∀ (vs : List Value) (i : Nat) (cs : Array Value) (w : World), w.heap[rb]? = some (.cells cs elem fr) ->
    o + i + vs.length <= cs.size -> (∀ v ∈ vs, v.oneCell' = true) -> (∀ k, k < cs.size -> ¬ (fr.1 <= k /\ k < fr.2)) ->
    ∃ w' cs', (storeCells ⟨rb, o, none⟩ vs i).run P w = .ok () w' /\ w'.heap[rb]? = some (.cells cs' elem fr) /\ cs'.size = cs.size /\
      (∀ k, cs'[k]? = if o + i <= k /\ k < o + i + vs.length then vs[k - (o + i)]? else cs[k]?) /\ w'.heap.size = w.heap.size /\ (∀ k, k ≠ rb -> w'.heap[k]? = w.heap[k]?) /\
      w'.tape = w.tape /\ w'.os = w.os /\ w'.output = w.output
  | [], i, cs, w, h, _, _, _ => ⟨w, cs, rfl, h, rfl, fun k => by rw [if_neg (by simp only [List.length_nil]; omega)], rfl, fun _ _ => rfl, rfl, rfl, rfl⟩
  | v :: vs, i, cs, w, h, hl, h1, hf => by
    simp only [List.length_cons] at hl
    have hs := heap_setCell_same (o := o + i) h v
    obtain ⟨w', cs', hr, hh, hsz, hg, hws, hoth, ht, hos, hout⟩ := run_storeCells_ev P rb o elem fr vs (i + 1) (cs.setIfInBounds (o + i) v) (w.setCell ⟨rb, o + i, none⟩ v) hs (by simp; omega) (fun x hx => h1 x (by simp [hx])) (by simpa using hf)
    refine ⟨w', cs', ?_, hh, by simpa using hsz, fun k => ?_, by simpa [World.setCell] using hws, fun k hk => (hoth k hk).trans (heap_setCell_other hk v), ht, hos, hout⟩
    · show (Sem.bind (store (Addr.add ⟨rb, o, none⟩ i) v) fun _ => storeCells ⟨rb, o, none⟩ vs (i + 1)).run P w = _
      rw [Addr.add_none]
      show (Sem.store .plain ⟨rb, o + i, none⟩ v (storeCells ⟨rb, o, none⟩ vs (i + 1))).run P w = _
      rw [run_store_ev P h (by omega) (hf _ (by omega)) (h1 v (by simp))]
      exact hr
    · rw [hg k]
      by_cases e : k = o + i
      · subst e
        have n1 : ¬ (o + (i + 1) <= o + i /\ o + i < o + (i + 1) + vs.length) := by omega
        have n2 : o + i <= o + i /\ o + i < o + i + (v :: vs).length := by simp
        rw [if_neg n1, if_pos n2, Array.getElem?_setIfInBounds_self_of_lt (by omega)]; try simp
      · rw [Array.getElem?_setIfInBounds_ne (Ne.symm e)]
        by_cases h2 : o + (i + 1) <= k /\ k < o + (i + 1) + vs.length
        · rw [if_pos h2, if_pos (by simp only [List.length_cons]; omega), show k - (o + i) = (k - (o + (i + 1))) + 1 by omega]; rfl
        · rw [if_neg h2, if_neg (by simp only [List.length_cons]; omega)]
end Go.Ev
/- The abstract run: definitions. -/
set_option linter.unusedVariables false
namespace Go.Ev
open Go
noncomputable section
def natEq : Nat -> Nat -> Bool := Nat.beq
def ofV1 : Value -> Option AV
  | .bool b => some (.bool b)
  | .int k n => some (.int k n)
  | .string s => some (.str (s.data.toList.map UInt8.toNat))
  | .pointer none => some .nilp
  | .slice none l c => match natEq l 0, natEq c 0 with | true, true => some .nils | _, _ => none
  | .map none => some .nilm
  | .nilFunc => some .nilf
  | .nilIface => some .nili
  | .func f ⟨[]⟩ ⟨[]⟩ => some (.fn f [] [])
  | _ => none
def ofVs : List Value -> Option (List AV)
  | [] => some []
  | v :: l => match ofV1 v with
    | none => none
    | some x => match ofVs l with
      | none => none
      | some r => some (x :: r)
def ofV : Value -> Option AV
  | .agg ⟨l⟩ => match ofVs l with | none => none | some r => some (.agg r)
  | .tuple ⟨l⟩ => match ofVs l with | none => none | some r => some (.tup r)
  | v => ofV1 v
def evX (G : Nat) (T : Tr AV) : Operand -> Option AV
  | .tmp t => T.get t
  | .const v => ofV v
  | .global g => match Nat.blt g G with | true => some (.ptr g 0) | false => none
  | .func f => some (.fn (.func f) [] [])
def evXs (G : Nat) (T : Tr AV) : List Operand -> Option (List AV)
  | [] => some []
  | x :: l => match evX G T x with
    | none => none
    | some v => match evXs G T l with
      | none => none
      | some r => some (v :: r)
def pureRun (P : Program) {α : Type} : Sem α -> Option α
  | .pure a => some a
  | .program k => pureRun P (k P)
  | .mark _ k => pureRun P k
  | _ => none
def toB : List Nat -> ByteArray := fun l => ⟨⟨l.map UInt8.ofNat⟩⟩
mutual
def toV : AV -> Option Value
  | .int k n => some (.int k n)
  | .bool b => some (.bool b)
  | .str s => some (.string (toB s))
  | .nilp => some (.pointer none)
  | .nilm => some (.map none)
  | .nils => some (.slice none 0 0)
  | .nilf => some .nilFunc
  | .nili => some .nilIface
  | .agg l => match toVs l with | none => none | some r => some (.agg ⟨r⟩)
  | _ => none
def toVs : List AV -> Option (List Value)
  | [] => some []
  | x :: l => match toV x with
    | none => none
    | some v => match toVs l with
      | none => none
      | some r => some (v :: r)
end
def pureOp (P : Program) (s : Sem Value) : Option AV :=
  match pureRun P s with
  | some v => ofV v
  | none => none
inductive R1 where
  | val (v : AV) (H : AH)
  | call (f : FuncId) (args : List AV)
  | round (b : Nat) (args : List AV)
  | dfr (f : FuncId) (captured args : List AV)
  | fail
def rowB (l : List AV) (elem : TypeId) : AB := .cells l.length (ofL l) false false 0 elem
def newBlk (H : AH) (B : AB) : AH := { next := Nat.succ H.next, m := H.m.put H.next B, G := H.G }
def unAV : AV := .tup []
def zeroC (P : Program) (t : TypeId) : Option (List AV) :=
  match P.info? t with
  | none => none
  | some i => match i.zero with
    | none => none
    | some z => match ofV z with
      | none => none
      | some x => some x.cells
def isAggA (P : Program) (t : TypeId) : Option Bool :=
  match P.underlying t with
  | some (.struct _) => some true
  | some (.array _ _) => some true
  | some _ => some false
  | none => none
def sizeA (P : Program) (t : TypeId) : Option Nat :=
  match P.info? t with
  | some i => some i.size
  | none => none
def readB (H : AH) (b off n : Nat) : Option (List AV) :=
  match H.m.get b with
  | some (.cells _ c _ _ _ _) => getL c off n
  | _ => none
def evLoad (P : Program) (H : AH) (t : TypeId) (b off : Nat) : Option AV :=
  match isAggA P t with
  | none => none
  | some true => match sizeA P t with
    | none => none
    | some n => match readB H b off n with
      | none => none
      | some l => some (.agg l)
  | some false => match H.m.get b with
    | some (.cells _ c _ _ _ _) => c.get off
    | _ => none
def allOne : List AV -> Bool
  | [] => true
  | x :: l => match x.one with | true => allOne l | false => false
def writeB (H : AH) (b off : Nat) (l : List AV) : Option AH :=
  match H.m.get b with
  | some (.cells n c opn false frz elem) =>
    match Nat.ble frz 1, Nat.ble (off + l.length) n, allOne l with
    | true, true, true => some { next := H.next, m := H.m.put b (.cells n (putL c off l) opn false frz elem), G := H.G }
    | _, _, _ => none
  | _ => none
def evStore (P : Program) (H : AH) (t : TypeId) (b off : Nat) (x : AV) : Option AH :=
  match sizeA P t with
  | none => none
  | some n => match natEq x.cells.length n with
    | false => none
    | true => writeB H b off x.cells
def splice : List AV -> Nat -> List AV -> List AV
  | l, 0, xs => xs ++ l.drop xs.length
  | [], _ + 1, _ => []
  | y :: l, n + 1, xs => y :: splice l n xs
def fillA (place : Nat -> Option (Nat × Nat)) (cells : List AV) : List (Nat × AV) -> Option (List AV)
  | [] => some cells
  | (i, v) :: rest =>
    match place i with
    | none => none
    | some (off, size) =>
      match natEq v.cells.length size, Nat.ble (off + v.cells.length) cells.length with
      | true, true => fillA place (splice cells off v.cells) rest
      | _, _ => none
def evParts (G : Nat) (T : Tr AV) : List (Nat × Operand) -> Option (List (Nat × AV))
  | [] => some []
  | (i, x) :: l => match evX G T x with
    | none => none
    | some v => match evParts G T l with
      | none => none
      | some r => some ((i, v) :: r)
def placesA (P : Program) : List Field -> Option (List (Nat × Nat))
  | [] => some []
  | f :: l => match sizeA P f.type with
    | none => none
    | some n => match placesA P l with
      | none => none
      | some r => some ((f.offset, n) :: r)
def evBuild (P : Program) (t : TypeId) (ps : List (Nat × AV)) : Option AV :=
  match zeroC P t with
  | none => none
  | some z => match P.underlying t with
    | some (.struct fields) => match placesA P fields.toList with
      | none => none
      | some pl => match fillA (fun i => pl[i]?) z ps with
        | none => none
        | some l => some (.agg l)
    | some (.array _ elem) => match sizeA P elem with
      | none => none
      | some n => match fillA (fun i => some (i * n, n)) z ps with
        | none => none
        | some l => some (.agg l)
    | _ => none
def repL (z : List AV) : Nat -> List AV
  | 0 => []
  | n + 1 => z ++ repL z n
def evBuildSlice (P : Program) (id : Nat) (t : TypeId) (len : Nat) (ps : List (Nat × AV)) : Option (AV × AB) :=
  match P.underlying t with
  | some (.slice elem) => match sizeA P elem with
    | none => none
    | some n => match Nat.ble (len * n) 16777216 with
      | false => none
      | true => match (match natEq (len * n) 0 with | true => some [] | false => zeroC P elem) with
        | none => none
        | some z => match natEq (repL z len).length (len * n) with
          | false => none
          | true => match fillA (fun i => some (i * n, n)) (repL z len) ps with
            | none => none
            | some l => some (.slc id 0 len n (some len), rowB l elem)
  | _ => none
def intOp (op : BinOp) (k : IntKind) (a b : Int) : Option AV :=
  match op with
  | .add => some (.int k (k.wrap (a + b)))
  | .sub => some (.int k (k.wrap (a - b)))
  | .mul => some (.int k (k.wrap (a * b)))
  | .eql => some (.bool (a == b))
  | .neq => some (.bool (a != b))
  | .lss => some (.bool (decide (a < b)))
  | .leq => some (.bool (decide (a <= b)))
  | .gtr => some (.bool (decide (a > b)))
  | .geq => some (.bool (decide (a ≥ b)))
  | _ => none
def natsEq : List Nat -> List Nat -> Bool
  | [], [] => true
  | a :: x, b :: y => match Nat.beq a b with | true => natsEq x y | false => false
  | _, _ => false
def natsLess : List Nat -> List Nat -> Bool
  | _, [] => false
  | [], _ :: _ => true
  | a :: x, b :: y => match Nat.blt a b with
    | true => true
    | false => match Nat.beq a b with | true => natsLess x y | false => false
def strOp (op : BinOp) (a b : List Nat) : Option AV :=
  match op with
  | .add => match Nat.ble (a.length + b.length) 1000000000 with | true => some (.str (a ++ b)) | false => none
  | .eql => some (.bool (natsEq a b))
  | .neq => some (.bool (!natsEq a b))
  | .lss => some (.bool (natsLess a b))
  | .leq => some (.bool (natsLess a b || natsEq a b))
  | .gtr => some (.bool (!(natsLess a b || natsEq a b)))
  | .geq => some (.bool (!natsLess a b))
  | _ => none
def eqOp (op : BinOp) (b : Bool) : Option AV :=
  match op with
  | .eql => some (.bool b)
  | .neq => some (.bool (!b))
  | _ => none
def plainB (H : AH) (b : Nat) : Bool :=
  match H.m.get b with
  | some (.cells _ _ _ _ 0 _) => true
  | _ => false
def evBin (P : Program) (H : AH) (op : BinOp) (t : TypeId) (cst : Bool) (x y : AV) : Option AV :=
  match x, y with
  | .int k a, .int k' b =>
    match intOp op k a b with
    | some v => match decide (k = k') with | true => some v | false => pureOp P (Go.binOp op t (.int k a) (.int k' b))
    | none => pureOp P (Go.binOp op t (.int k a) (.int k' b))
  | .str a, .str b => strOp op a b
  | .nilp, .nilp => match P.underlying t with | some (.pointer _) => eqOp op true | _ => none
  | .nilp, .ptr _ _ => match P.underlying t with | some (.pointer _) => eqOp op false | _ => none
  | .ptr _ _, .nilp => match P.underlying t with | some (.pointer _) => eqOp op false | _ => none
  | .ptr b o, .ptr b' o' => match P.underlying t with
    | some (.pointer e) => match sizeA P e with
      | some (n + 1) => match Nat.beq b b' with
        | true => match plainB H b with | true => eqOp op (Nat.beq o o') | false => none
        | false => match plainB H b, plainB H b' with | true, true => eqOp op false | _, _ => none
      | _ => none
    | _ => none
  | .nils, .nils => match P.underlying t with | some (.slice _) => eqOp op true | _ => none
  | .nils, .slc .. => match P.underlying t with | some (.slice _) => eqOp op false | _ => none
  | .slc .., .nils => match P.underlying t with | some (.slice _) => eqOp op false | _ => none
  | .nils, .slcE => match P.underlying t with | some (.slice _) => eqOp op false | _ => none
  | .slcE, .nils => match P.underlying t with | some (.slice _) => eqOp op false | _ => none
  | .nilm, .nilm => match P.underlying t with | some (.map _ _) => eqOp op true | _ => none
  | .nilm, .map _ => match P.underlying t with | some (.map _ _) => eqOp op false | _ => none
  | .map _, .nilm => match P.underlying t with | some (.map _ _) => eqOp op false | _ => none
  | .nilf, .nilf => match P.underlying t with | some (.func _ _ _) => eqOp op true | _ => none
  | .nilf, .fn _ _ _ => match P.underlying t with | some (.func _ _ _) => eqOp op false | _ => none
  | .fn _ _ _, .nilf => match P.underlying t with | some (.func _ _ _) => eqOp op false | _ => none
  | .nili, .nili => match P.underlying t with
    | some (.interface ms) => match cst || ms.isEmpty with | true => eqOp op true | false => none
    | _ => none
  | .nili, .ifc _ _ => match P.underlying t with | some (.interface _) => eqOp op false | _ => none
  | .ifc _ _, .nili => match P.underlying t with | some (.interface _) => eqOp op false | _ => none
  | x, y => match toV x, toV y with
    | some a, some b => pureOp P (do eqGuard op t (.tmp 0) (.tmp 0) a b; Go.binOp op t a b)
    | _, _ => none
def evUn (P : Program) (op : UnOp) (x : AV) : Option AV :=
  match op, x with
  | .not, .bool b => some (.bool (!b))
  | _, .int k n => pureOp P (Op.unary op (.int k n))
  | _, _ => none
def bytesL : List AV -> Option (List Nat)
  | [] => some []
  | .int .u8 (.ofNat n) :: l => match Nat.blt n 256 with
    | false => none
    | true => match bytesL l with
      | none => none
      | some r => some (n :: r)
  | _ :: _ => none
def u8L : List Nat -> List AV
  | [] => []
  | n :: l => .int .u8 (.ofNat n) :: u8L l
def evConv (P : Program) (H : AH) (src dst : TypeId) (x : AV) : Option AV :=
  match P.underlying src, P.underlying dst with
  | some s, some d => match d, x with
    | .int k, .int _ n => some (.int k (k.wrap n))
    | .string, .str _ => some x
    | .string, .nils => match s with
      | .slice e => match P.underlying e with | some (.int .u8) => some (.str []) | _ => none
      | _ => none
    | .string, .slcE => match s with
      | .slice e => match P.underlying e with | some (.int .u8) => some (.str []) | _ => none
      | _ => none
    | .string, .slc b off len _ _ => match s with
      | .slice e => match P.underlying e with
        | some (.int .u8) => match readB H b off len with
          | none => none
          | some l => match bytesL l with
            | none => none
            | some r => some (.str r)
        | _ => none
      | _ => none
    | .unsafePointer, .ptr b off => match s with
      | .pointer t => match sizeA P t with
        | some (n + 1) => match H.m.get b with
          | some (.cells n _ _ _ _ _) => match Nat.blt off n with | true => some x | false => none
          | _ => none
        | _ => none
      | _ => none
    | .pointer u, .ptr b off => match s with
      | .unsafePointer => match H.m.get b with
        | some (.cells n _ false _ _ e) => match liesAt P P.depth e (n / P.cellsOf e) off u 1, sizeA P u with | true, some _ => some x | _, _ => none
        | _ => none
      | _ => none
    | _, _ => none
  | _, _ => none
def natOf : Int -> Option Nat
  | .ofNat n => some n
  | _ => none
def evIndexAddr (P : Program) (t : TypeId) (x i : AV) : Option AV :=
  match i with
  | .int _ (.ofNat i) => match P.underlying t, x with
    | some (.array len elem), .ptr b off => match Nat.blt i len, sizeA P elem with
      | true, some n => some (.ptr b (off + i * n))
      | _, _ => none
    | some (.slice elem), .slc b off len _ _ => match Nat.blt i len, sizeA P elem with
      | true, some n => some (.ptr b (off + i * n))
      | _, _ => none
    | _, _ => none
  | _ => none
def evPart (P : Program) (t : TypeId) (cs : List AV) (off : Nat) : Option AV :=
  match isAggA P t with
  | none => none
  | some true => match sizeA P t with
    | none => none
    | some n => match Nat.ble (off + n) cs.length with | true => some (.agg ((cs.drop off).take n)) | false => none
  | some false => cs[off]?
def evIndex (P : Program) (t : TypeId) (x i : AV) : Option AV :=
  match i with
  | .int _ (.ofNat i) => match P.underlying t, x with
    | some .string, .str s => match s[i]? with
      | some c => some (.int .u8 (.ofNat c))
      | none => none
    | some (.array len elem), .agg cs => match Nat.blt i len, sizeA P elem with
      | true, some n => evPart P elem cs (i * n)
      | _, _ => none
    | _, _ => none
  | _ => none
def evFieldAddr (P : Program) (t : TypeId) (x : AV) (f : Nat) : Option AV :=
  match P.underlying t, x with
  | some (.struct fields), .ptr b off => match fields[f]? with
    | some f => match sizeA P f.type with
      | some (_ + 1) => some (.ptr b (off + f.offset))
      | _ => none
    | none => none
  | _, _ => none
def evField (P : Program) (t : TypeId) (x : AV) (f : Nat) : Option AV :=
  match P.underlying t, x with
  | some (.struct fields), .agg cs => match fields[f]? with
    | some f => evPart P f.type cs f.offset
    | none => none
  | _, _ => none
def bound : Option AV -> Option (Option Nat)
  | none => some none
  | some (.int _ (.ofNat n)) => some (some n)
  | _ => none
def cutStr (s : List Nat) (l h : Nat) : List Nat := (s.drop l).take (h - l)
def evSlice (P : Program) (t : TypeId) (x : AV) (lo hi mx : Option AV) : Option AV :=
  match bound lo, bound hi, bound mx with
  | some lo, some hi, some mx =>
    match P.underlying t, x with
    | some .string, .str s =>
      let h := hi.getD s.length
      let l := lo.getD 0
      match mx, Nat.ble h s.length, Nat.ble l h with
      | none, true, true => some (.str (cutStr s l h))
      | _, _, _ => none
    | some (.array n elem), .ptr b off =>
      match sizeA P elem with
      | none => none
      | some es =>
        let m := mx.getD n
        let h := hi.getD n
        let l := lo.getD 0
        match Nat.ble m n, Nat.ble h m, Nat.ble l h, (match mx, hi with | some _, none => false | _, _ => true) with
        | true, true, true, true => match Nat.beq m l with
          | true => some (.slc b off (h - l) es (some (m - l)))
          | false => some (.slc b (off + l * es) (h - l) es (some (m - l)))
        | _, _, _, _ => none
    | some (.slice elem), .slc b off len es' (some cap) =>
      match sizeA P elem with
      | none => none
      | some es =>
        let m := mx.getD cap
        let h := hi.getD len
        let l := lo.getD 0
        match Nat.ble m cap, Nat.ble h m, Nat.ble l h, (match mx, hi with | some _, none => false | _, _ => true), Nat.beq es es' with
        | true, true, true, true, true => match Nat.beq m l with
          | true => some (.slc b off (h - l) es (some (m - l)))
          | false => some (.slc b (off + l * es) (h - l) es (some (m - l)))
        | _, _, _, _, _ => none
    | some (.slice elem), .slc b off len es' none =>
      match sizeA P elem with
      | none => none
      | some es =>
        match mx with
        | some m => 
          let l := lo.getD 0
          match hi with
          | none => none
          | some h => match Nat.ble m len, Nat.ble h m, Nat.ble l h, Nat.beq es es' with
            | true, true, true, true => match Nat.beq m l with
              | true => some (.slc b off (h - l) es (some (m - l)))
              | false => some (.slc b (off + l * es) (h - l) es (some (m - l)))
            | _, _, _, _ => none
        | none =>
          let h := hi.getD len
          let l := lo.getD 0
          match Nat.ble h len, Nat.ble l h, Nat.beq es es' with
          | true, true, true => match Nat.blt l len with
            | true => some (.slc b (off + l * es) (h - l) es none)
            | false => match l with
              | 0 => some (.slc b off (h - l) es none)
              | _ + 1 => some .slcE
          | _, _, _ => none
    | some (.slice elem), .nils => match sizeA P elem with
      | none => none
      | some _ => match lo.getD 0, hi.getD 0, mx.getD 0 with
        | 0, 0, 0 => match mx, hi with | some _, none => none | _, _ => some .nils
        | _, _, _ => none
    | some (.slice elem), .slcE => match sizeA P elem with
      | none => none
      | some _ => match lo.getD 0, hi.getD 0, mx with
        | 0, 0, none => some .slcE
        | _, _, _ => none
    | _, _ => none
  | _, _, _ => none
def keyEq : TypeDesc -> AV -> AV -> Option Bool
  | .int _, .int k a, .int k' b => match decide (k = k') with | true => some (a == b) | false => none
  | .string, .str a, .str b => some (natsEq a b)
  | .bool, .bool a, .bool b => some (a == b)
  | _, _, _ => none
def findA (kind : TypeDesc) (k : AV) : List (AV × AV × Nat) -> Nat -> Option (Option (Nat × AV))
  | [], _ => some none
  | (k', v, _) :: es, i => match keyEq kind k k' with
    | some true => some (some (i, v))
    | some false => findA kind k es (Nat.succ i)
    | none => none
def keyPtr (P : Program) (H : AH) (e : TypeId) (x y : AV) : Option Bool :=
  match x, y with
  | .ptr b o, .ptr b' o' => match sizeA P e with
    | some (_ + 1) => match Nat.beq b b' with
      | true => some (Nat.beq o o')
      | false => match plainB H b, plainB H b' with | true, true => some false | _, _ => none
    | _ => none
  | _, _ => none
def findP (P : Program) (H : AH) (e : TypeId) (k : AV) : List (AV × AV × Nat) -> Nat -> Option (Option (Nat × AV))
  | [], _ => some none
  | (k', v, _) :: es, i => match keyPtr P H e k k' with
    | some true => some (some (i, v))
    | some false => findP P H e k es (Nat.succ i)
    | none => none
def isPtr : TypeDesc -> Option TypeId
  | .pointer e => some e
  | _ => none
def keyAgg (P : Program) (key : TypeId) (x y : AV) : Option Bool :=
  match toV x, toV y with
  | some a, some b => match pureRun P (Op.equal key a b >>= fun r => pure (Value.bool r)) with
    | some (.bool r) => some r
    | _ => none
  | _, _ => none
def findS (P : Program) (key : TypeId) (k : AV) : List (AV × AV × Nat) -> Nat -> Option (Option (Nat × AV))
  | [], _ => some none
  | (k', v, _) :: es, i => match keyAgg P key k k' with
    | some true => some (some (i, v))
    | some false => findS P key k es (Nat.succ i)
    | none => none
def isStr : TypeDesc -> Bool
  | .struct _ => true
  | .array _ _ => true
  | _ => false
def findK (P : Program) (H : AH) (key : TypeId) (kind : TypeDesc) (k : AV) (es : List (AV × AV × Nat)) : Option (Option (Nat × AV)) :=
  match isPtr kind with
  | some e => findP P H e k es 0
  | none => match isStr kind with
    | true => findS P key k es 0
    | false => findA kind k es 0
def plainKey : TypeDesc -> Bool
  | .int _ | .string | .bool | .pointer _ => true
  | _ => false
def checkOk (P : Program) (key : TypeId) (e : Bool) (a : Value) : Bool :=
  match pureRun P (Instr.checkKey e 10000 key a >>= fun _ => pure true) with
  | some _ => true
  | none => false
def keyOk (P : Program) (key : TypeId) (kind : TypeDesc) (k : AV) : Bool :=
  match plainKey kind with
  | true => true
  | false => match isStr kind, toV k with
    | true, some a => match checkOk P key true a, checkOk P key false a with | true, true => true | _, _ => false
    | _, _ => false
def getMap (H : AH) : AV -> Option (List (AV × AV × Nat))
  | .nilm => some []
  | .map b => match H.m.get b with | some (.map es _) => some es | _ => none
  | _ => none
def evLookup (P : Program) (H : AH) (t : TypeId) (x i : AV) (ok : Bool) : Option AV :=
  match P.underlying t with
  | some (.map key elem) => match P.underlying key with
    | some kind => match keyOk P key kind i, getMap H x with
      | true, some es => match findK P H key kind i es with
        | some (some (_, v)) => some (match ok with | true => .tup [v, .bool true] | false => v)
        | some none => match P.info? elem with
          | some inf => match inf.zero with
            | some z => match ofV z with
              | some v => some (match ok with | true => .tup [v, .bool false] | false => v)
              | none => none
            | none => none
          | none => none
        | none => none
      | _, _ => none
    | none => none
  | _ => none
def modL : List (AV × AV × Nat) -> Nat -> AV -> AV -> List (AV × AV × Nat)
  | [], _, _, _ => []
  | (_, _, b) :: l, 0, k, v => (k, v, b) :: l
  | e :: l, n + 1, k, v => e :: modL l n k v
def evMapUpdate (P : Program) (H : AH) (t : TypeId) (x k v : AV) : Option AH :=
  match P.underlying t, x with
  | some (.map key _), .map b => match P.underlying key with
    | some kind => match keyOk P key kind k, H.m.get b with
      | true, some (.map es clock) => match findK P H key kind k es with
        | some (some (i, _)) => match isPtr kind, isStr kind with
          | some _, _ => none
          | _, true => none
          | none, false => some { next := H.next, m := H.m.put b (.map (modL es i k v) clock), G := H.G }
        | some none => some { next := H.next, m := H.m.put b (.map (es ++ [(k, v, clock)]) (Nat.succ clock)), G := H.G }
        | none => none
      | _, _ => none
    | none => none
  | _, _ => none
def evMakeSlice (P : Program) (id : Nat) (t : TypeId) (l c : AV) : Option (AV × AB) :=
  match P.underlying t, l, c with
  | some (.slice elem), .int _ (.ofNat l), .int _ (.ofNat c) => match P.info? elem with
    | some i => match Nat.ble l c, Nat.ble c 1000000, Nat.ble i.bytes 1000000 with
      | true, true, true => match (match natEq (c * i.size) 0 with | true => some [] | false => zeroC P elem) with
        | some z => match natEq (repL z c).length (c * i.size) with
          | true => some (.slc id 0 l i.size (some c), rowB (repL z c) elem)
          | false => none
        | none => none
      | _, _, _ => none
    | none => none
  | _, _, _ => none
def srcCells (H : AH) (es : Nat) (x : AV) (n : Nat) : Option (List AV) :=
  match x with
  | .nils => match n with | 0 => some [] | _ + 1 => none
  | .slcE => match n with | 0 => some [] | _ + 1 => none
  | .str s => some (u8L (s.take n))
  | .slc b off len _ _ => match Nat.ble n len with
    | true => match n * es with
      | 0 => some []
      | k + 1 => readB H b off (k + 1)
    | false => none
  | _ => none
def lenA : AV -> Option Nat
  | .nils => some 0
  | .slcE => some 0
  | .str s => some s.length
  | .slc _ _ len _ _ => some len
  | _ => none
def srcTy : Option TypeDesc -> Bool
  | some (.slice _) => true
  | some .string => true
  | _ => false
def openBlk (H : AH) (l : List AV) (elem : TypeId) : Tr AB := H.m.put H.next (.cells l.length (ofL l) true false 0 elem)
def evAppend (P : Program) (H : AH) (argTypes : List TypeId) (s x : AV) : Option (AV × AH) :=
  match argTypes with
  | st :: xt :: _ => match P.underlying st with
    | some (.slice elem) => match srcTy (P.underlying xt) with
      | false => none
      | true => match P.info? elem, lenA x with
        | some i, some n => match srcCells H i.size x n, Nat.ble 1 i.size, Nat.ble i.bytes 1000000, Nat.ble n 1000000 with
          | some new, true, true, true => match zeroC P elem with
            | none => none
            | some z => match allOne new, natEq z.length i.size, natEq new.length (n * i.size) with
              | true, true, true => match s with
                | .nils => match n with
                  | 0 => some (.nils, H)
                  | _ + 1 => some (.slc H.next 0 n i.size none, { next := Nat.succ H.next, m := openBlk H new elem, G := H.G })
                | .slcE => match n with
                  | 0 => some (.slcE, H)
                  | _ + 1 => none
                | .slc b off len es cap => match natEq es i.size, Nat.ble len 1000000 with
                  | true, true => match cap with
                    | some c => match Nat.ble (len + n) c with
                      | true => match n with
                        | 0 => some (s, H)
                        | _ + 1 => match writeB H b (off + len * es) new with
                          | some H' => some (.slc b off (len + n) es (some c), H')
                          | none => none
                      | false => match len * es with
                        | 0 => some (.slc H.next 0 (len + n) es none, { next := Nat.succ H.next, m := openBlk H new elem, G := H.G })
                        | k + 1 => match readB H b off (k + 1) with
                          | some old => some (.slc H.next 0 (len + n) es none, { next := Nat.succ H.next, m := openBlk H (old ++ new) elem, G := H.G })
                          | none => none
                    | none => match n with
                      | 0 => some (s, H)
                      | _ + 1 => match H.m.get b with
                        | some (.cells _ c true false frz e) => match Nat.ble frz 1, natEq e elem, getL c off (len * es) with
                          | true, true, some old => some (.slc H.next 0 (len + n) es none,
                              { next := Nat.succ H.next, m := (H.m.del b).put H.next (.cells ((len + n) * es) (ofL (old ++ new)) true false 1 elem), G := H.G })
                          | _, _, _ => none
                        | _ => none
                  | _, _ => none
                | _ => none
              | _, _, _ => none
          | _, _, _, _ => none
        | _, _ => none
    | _ => none
  | _ => none
def evAppendZ (P : Program) (H : AH) (argTypes : List TypeId) (s x : AV) : Option (AV × AH) :=
  match argTypes, s, x with
  | st :: xt :: _, .nils, .int .i64 (.ofNat (Nat.succ k)) => match P.underlying st, P.underlying xt with
    | some (.slice elem), some (.int _) => match P.info? elem, zeroC P elem with
      | some i, some z => match Nat.ble 1 i.size, Nat.ble i.bytes 1000000, Nat.ble (Nat.succ k) 1000000, natEq z.length i.size with
        | true, true, true, true => some (.slc H.next 0 (Nat.succ k) i.size none, { next := Nat.succ H.next, m := openBlk H (repL z (Nat.succ k)) elem, G := H.G })
        | _, _, _, _ => none
      | _, _ => none
    | _, _ => none
  | _, _, _ => none
def evCopy (P : Program) (H : AH) (argTypes : List TypeId) (d s : AV) : Option (AV × AH) :=
  match argTypes with
  | dt :: _ => match P.underlying dt with
    | some (.slice elem) => match sizeA P elem, lenA d, lenA s with
      | some es, some dl, some sl => match srcCells H es s (Nat.min sl dl) with
        | some cells => match d with
          | .nils => some (.int .i64 (Int.ofNat (Nat.min sl dl)), H)
          | .slcE => some (.int .i64 (Int.ofNat (Nat.min sl dl)), H)
          | .slc b off _ _ _ => match cells with
            | [] => some (.int .i64 (Int.ofNat (Nat.min sl dl)), H)
            | _ :: _ => match writeB H b off cells with
              | some H' => some (.int .i64 (Int.ofNat (Nat.min sl dl)), H')
              | none => none
          | _ => none
        | none => none
      | _, _, _ => none
    | _ => none
  | _ => none
def evLen (P : Program) (H : AH) (t : TypeId) (x : AV) : Option AV :=
  match P.underlying t with
  | some (.array n _) => some (.int .i64 (Int.ofNat n))
  | some .string => match x with | .str s => some (.int .i64 (Int.ofNat s.length)) | _ => none
  | some (.slice _) => match x with
    | .slc _ _ len _ _ => some (.int .i64 (Int.ofNat len))
    | .nils => some (.int .i64 0)
    | .slcE => some (.int .i64 0)
    | _ => none
  | some (.map _ _) => match x with
    | .nilm => some (.int .i64 0)
    | .map b => match H.m.get b with | some (.map es _) => some (.int .i64 (Int.ofNat es.length)) | _ => none
    | _ => none
  | _ => none
def evCap (P : Program) (t : TypeId) (x : AV) : Option AV :=
  match P.underlying t with
  | some (.slice _) => match x with
    | .slc _ _ _ _ (some c) => some (.int .i64 (Int.ofNat c))
    | .nils => some (.int .i64 0)
    | _ => none
  | _ => none
def evSliceData (H : AH) (x : AV) : Option AV :=
  match x with
  | .nils => some .nilp
  | .slc b off (_ + 1) _ none => some (.ptr b off)
  | .slc b off _ _ (some (_ + 1)) => some (.ptr b off)
  | _ => none
def frzB (H : AH) (b : Nat) : Option AH :=
  match H.m.get b with
  | some (.cells n c opn ro _ e) => some { next := H.next, m := H.m.put b (.cells n c opn ro 2 e), G := H.G }
  | _ => none
def evUnsafeString (P : Program) (H : AH) (pt : TypeId) (x n : AV) : Option (AV × AH) :=
  match x, n with
  | .nilp, .int _ (.ofNat 0) => some (.str [], H)
  | .ptr _ _, .int _ (.ofNat 0) => some (.str [], H)
  | .ptr b off, .int _ (.ofNat (n + 1)) => match P.underlying pt, H.m.get b with
    | some (.pointer u), some (.cells k c opn false frz e) =>
      match P.underlying u, natEq u e, natEq (P.cellsOf e) 1, getL c off (n + 1), Nat.ble n 1000000 with
      | some (.int .u8), true, true, some l, true => match bytesL l with
        | some r => some (.str r, { next := H.next, m := H.m.put b (.cells k c opn false 2 e), G := H.G })
        | none => none
      | _, _, _, _, _ => none
    | _, _ => none
  | _, _ => none
def min2 : AV -> AV -> Option AV
  | .int k x, .int _ y => some (.int k (if y < x then y else x))
  | _, _ => none
def max2A : AV -> AV -> Option AV
  | .int k x, .int _ y => some (.int k (if y > x then y else x))
  | _, _ => none
def evClear (P : Program) (H : AH) (t : TypeId) (x : AV) : Option AH :=
  match P.underlying t with
  | some (.slice elem) => match x with
    | .nils => some H
    | .slcE => some H
    | .slc b off len _ _ => match len with
      | 0 => some H
      | n + 1 => match zeroC P elem with
        | some z => writeB H b off (repL z (n + 1))
        | none => none
    | _ => none
  | _ => none
def evBuiltinL (P : Program) (H : AH) (b : Builtin) (argTypes : List TypeId) (args : List AV) : Option AV :=
  match b, args with
  | .len, x :: _ => match argTypes with | t :: _ => evLen P H t x | _ => none
  | .cap, x :: _ => match argTypes with | t :: _ => evCap P t x | _ => none
  | .unsafeSliceData, [x] => evSliceData H x
  | .min, [x, y] => min2 x y
  | .max, [x, y] => max2A x y
  | _, _ => none
def evBuiltinH (P : Program) (H : AH) (b : Builtin) (argTypes : List TypeId) (args : List AV) : Option (AV × AH) :=
  match b, args with
  | .append, [s, x] => match evAppend P H argTypes s x with | some r => some r | none => evAppendZ P H argTypes s x
  | .copy, [d, s] => evCopy P H argTypes d s
  | .unsafeString, [x, n] => match argTypes with | t :: _ => evUnsafeString P H t x n | _ => none
  | .clear, [x] => match argTypes with | t :: _ => (match evClear P H t x with | some H' => some (.tup [], H') | none => none) | _ => none
  | _, _ => none
def evBytesOf (P : Program) (H : AH) (dst : TypeId) (x : AV) : Option (AV × AH) :=
  match P.underlying dst, x with
  | some (.slice e), .str l => match P.underlying e with
    | some (.int .u8) => match sizeA P e with
      | some 1 => some (.slc H.next 0 l.length 1 none, { next := Nat.succ H.next, m := H.m.put H.next (.cells l.length (ofL (u8L l)) true false 1 e), G := H.G })
      | _ => none
    | _ => none
  | _, _ => none
abbrev Ext := FuncId -> List AV -> AH -> Option (AV × AH)
def evCallee (P : Program) (X : Ext) (H : AH) (g : FuncId) (args : List AV) : R1 :=
  match P.funcs[g]? with
  | none => .fail
  | some fn => match fn.body with
    | some _ => .call g args
    | none => match X g args H with
      | some (v, H') => .val v H'
      | none => .fail
def evMethod (P : Program) (t : TypeId) (name : String) : Option FuncId :=
  match P.info? t with
  | none => none
  | some i => match i.methods.find? (fun m => m.name == name) with
    | none => none
    | some m => match m.path.toList with
      | [] => match m.func with
        | some (f, true) => match P.underlying t with | some (.pointer _) => some f | _ => none
        | some (f, false) => match P.underlying t with | some (.pointer _) => none | some _ => some f | none => none
        | none => none
      | _ :: _ => none
def evLight (P : Program) (T : Tr AV) (H : AH) (o : Oper) : Option AV :=
  match o.op with
  | .move x => evX H.G T x
  | .assign x => evX H.G T x
  | .pick c a b => match evX H.G T c with
    | some (.bool true) => evX H.G T a
    | some (.bool false) => evX H.G T b
    | _ => none
  | .build t ps => match evParts H.G T ps.toList with
    | some l => evBuild P t l
    | none => none
  | .load t a => match evX H.G T a with
    | some (.ptr b off) => evLoad P H t b off
    | _ => none
  | .nilCheck x => match evX H.G T x with
    | some (.ptr b off) => some (.ptr b off)
    | some (.fn (.func g) a c) => some (.fn (.func g) a c)
    | _ => none
  | .binOp op t x y yt => match evX H.G T x, evX H.G T y with
    | some a, some b => evBin P H op t (match x, y with | .const _, _ => true | _, .const _ => true | _, _ => false) a b
    | _, _ => none
  | .unOp op _ x => match evX H.G T x with
    | some a => evUn P op a
    | none => none
  | .convert s d x => match evX H.G T x with
    | some a => evConv P H s d a
    | none => none
  | .makeInterface t x => match evX H.G T x, P.underlying t with
    | some _, some (.interface _) => none
    | some a, some _ => some (.ifc t a)
    | _, _ => none
  | .makeFunc f first captured => match evXs H.G T first.toList, evXs H.G T captured.toList with
    | some a, some c => some (.fn f a c)
    | _, _ => none
  | .slice t x lo hi mx => match evX H.G T x, evXs H.G T lo.toList, evXs H.G T hi.toList, evXs H.G T mx.toList with
    | some a, some l, some h, some m => evSlice P t a l.head? h.head? m.head?
    | _, _, _, _ => none
  | .fieldAddr t x f => match evX H.G T x with
    | some a => evFieldAddr P t a f
    | none => none
  | .field t x f => match evX H.G T x with
    | some a => evField P t a f
    | none => none
  | .indexAddr t x i => match evX H.G T x, evX H.G T i with
    | some a, some b => evIndexAddr P t a b
    | _, _ => none
  | .index t x i => match evX H.G T x, evX H.G T i with
    | some a, some b => evIndex P t a b
    | _, _ => none
  | .lookup t x i ok => match evX H.G T x, evX H.G T i with
    | some a, some b => evLookup P H t a b ok
    | _, _ => none
  | .extract x i => match evX H.G T x with
    | some (.tup l) => l[i]?
    | _ => none
  | .call c => match c.callee with
    | .builtin b => match evXs H.G T c.args.toList with
      | some args => evBuiltinL P H b c.argTypes.toList args
      | none => none
    | _ => none
  | _ => none
def evFlt (P : Program) (G : Nat) (T : Tr AV) (id : Nat) (o : Oper) : Option (AV × AB) :=
  match o.op with
  | .alloc elem => match zeroC P elem with
    | some z => some (.ptr id 0, rowB z elem)
    | none => none
  | .box elem x => match evX G T x with
    | some v => some (.ptr id 0, rowB v.cells elem)
    | none => none
  | .buildSlice t n ps => match evParts G T ps.toList with
    | some l => evBuildSlice P id t n l
    | none => none
  | .makeMap t r => match r with
    | none => some (.map id, .map [] 0)
    | some r => match evX G T r, P.underlying t with
      | some (.int _ _), some (.map _ _) => some (.map id, .map [] 0)
      | _, _ => none
  | .makeSlice t l c => match evX G T l, evX G T c with
    | some a, some b => evMakeSlice P id t a b
    | _, _ => none
  | _ => none
def evRange (P : Program) (H : AH) (t : TypeId) (x : AV) : Option AB :=
  match P.underlying t with
  | some (.map _ _) => match x with
    | .nilm => some (.iter none 0 [] 0)
    | .map b => match H.m.get b with
      | some (.map _ clock) => some (.iter (some b) clock [] clock)
      | _ => none
    | _ => none
  | _ => none
def memN (n : Nat) : List Nat -> Bool
  | [] => false
  | x :: l => match Nat.beq x n with | true => true | false => memN n l
def oldB (since : Nat) : List (AV × AV × Nat) -> Bool
  | [] => true
  | (_, _, n) :: l => match Nat.blt n since with | true => oldB since l | false => false
def leftA (seen : List Nat) : List (AV × AV × Nat) -> List (AV × AV × Nat)
  | [] => []
  | (k, v, n) :: l => match memN n seen with | true => leftA seen l | false => (k, v, n) :: leftA seen l
def evNext (H : AH) (x : AV) (isS : Bool) : Option (AV × AH) :=
  match x, isS with
  | .ptr r 0, false => match H.m.get r with
    | some (.iter none _ _ _) => some (.tup [.bool false], H)
    | some (.iter (some b) since seen last) => match H.m.get b with
      | some (.map es clock) => match oldB since es, Nat.ble since last with
        | true, true => match leftA seen es with
          | [] => some (.tup [.bool false], H)
          | [(k, v, n)] => some (.tup [.bool true, k, v], { next := H.next, m := H.m.put r (.iter (some b) since (seen ++ [n]) clock), G := H.G })
          | _ => none
        | _, _ => none
      | _ => none
    | _ => none
  | _, _ => none
def findN (n : Nat) : List (AV × AV × Nat) -> Option (AV × AV)
  | [] => none
  | (k, v, m) :: l => match Nat.beq m n with | true => some (k, v) | false => findN n l
def lastN : List Nat -> Option Nat
  | [] => none
  | [n] => some n
  | _ :: l => lastN l
def evEntry (H : AH) (x : AV) : Option AV :=
  match x with
  | .ptr r 0 => match H.m.get r with
    | some (.iter (some b) _ seen last) => match lastN seen, H.m.get b with
      | some n, some (.map es clock) => match natEq clock last with
        | true => match findN n es with
          | some (k, v) => some (.tup [k, v])
          | none => none
        | false => none
      | _, _ => none
    | _ => none
  | _ => none
def zeroOf (P : Program) (t : TypeId) : Option AV :=
  match P.info? t with
  | none => none
  | some i => match i.zero with
    | none => none
    | some z => ofV z
def evAssert (P : Program) (x : AV) (t : TypeId) (ok : Bool) : Option AV :=
  match P.underlying t with
  | none => none
  | some (.interface ms) => match x with
    | .ifc d v => match ms.toList, P.info? d with
      | [], some _ => some (match ok with | true => .tup [.ifc d v, .bool true] | false => .ifc d v)
      | _, _ => none
    | _ => none
  | some _ => match x with
    | .ifc d v => match Nat.beq d t with
      | true => some (match ok with | true => .tup [v, .bool true] | false => v)
      | false => match ok with
        | true => match zeroOf P t with | some z => some (.tup [z, .bool false]) | none => none
        | false => none
    | .nili => match ok with
      | true => match zeroOf P t with | some z => some (.tup [z, .bool false]) | none => none
      | false => none
    | _ => none
def evHeavy (P : Program) (X : Ext) (T : Tr AV) (H : AH) (o : Oper) : R1 :=
  match o.op with
  | .store t a x => match evX H.G T a, evX H.G T x with
    | some (.ptr b off), some v => match evStore P H t b off v with | some H' => .val unAV H' | none => .fail
    | _, _ => .fail
  | .convert s d x => match evX H.G T x, P.underlying s with
    | some a, some _ => match evBytesOf P H d a with | some (v, H') => .val v H' | none => .fail
    | _, _ => .fail
  | .mapUpdate t m k x => match evX H.G T m, evX H.G T k, evX H.G T x with
    | some a, some b, some c => match evMapUpdate P H t a b c with | some H' => .val unAV H' | none => .fail
    | _, _, _ => .fail
  | .insert t m k x => match evX H.G T m, evX H.G T k, evX H.G T x with
    | some a, some b, some c => match evMapUpdate P H t a b c with | some H' => .val unAV H' | none => .fail
    | _, _, _ => .fail
  | .call c => match c.callee with
    | .builtin b => match evXs H.G T c.args.toList with
      | some args => match evBuiltinH P H b c.argTypes.toList args with | some (v, H') => .val v H' | none => .fail
      | none => .fail
    | .value f => match evX H.G T f, evXs H.G T c.args.toList with
      | some (.fn (.func g) first captured), some args => evCallee P X H g (first ++ args ++ captured)
      | some (.yld b), some args => .round b args
      | _, _ => .fail
    | .invoke r name => match evX H.G T r, evXs H.G T c.args.toList with
      | some (.ifc t v), some args => match evMethod P t name with
        | some g => evCallee P X H g (v :: args)
        | none => .fail
      | _, _ => .fail
  | .defer c => match c.callee with
    | .value f => match evX H.G T f, evXs H.G T c.args.toList with
      | some (.fn (.func g) first captured), some args => .dfr g captured (first ++ args)
      | _, _ => .fail
    | _ => .fail
  | .range t x => match evX H.G T x with
    | some a => match evRange P H t a with | some B => .val (.ptr H.next 0) (newBlk H B) | none => .fail
    | none => .fail
  | .next x isS => match evX H.G T x with
    | some a => match evNext H a isS with | some (v, H') => .val v H' | none => .fail
    | none => .fail
  | .entry x => match evX H.G T x with
    | some a => match evEntry H a with | some v => .val v H | none => .fail
    | none => .fail
  | .typeAssert x _ t ok => match evX H.G T x with
    | some a => match evAssert P a t ok with | some v => .val v H | none => .fail
    | none => .fail
  | _ => .fail
def evOp (P : Program) (X : Ext) (T : Tr AV) (H : AH) (o : Oper) : R1 :=
  match evLight P T H o with
  | some v => .val v H
  | none => match evFlt P H.G T H.next o with
    | some (v, B) => .val v (newBlk H B)
    | none => evHeavy P X T H o
def wantedA (all : List Oper) (T : Tr AV) (o : Oper) : Option Bool :=
  match o.guard with
  | none => some true
  | some (j, want) => match all[j]? with
    | none => none
    | some oj => match oj.dst with
      | none => none
      | some t => match T.get t with
        | some (.bool b) => some (b == want)
        | some _ => some false
        | none => none
def putA (n : Nat) (T : Tr AV) (dst : Option Tmp) (v : AV) : Option (Tr AV) :=
  match dst with
  | none => some T
  | some d => match Nat.blt d n with
    | false => none
    | true => match T.put d v with
      | .nil => none
      | .node a b c => some (.node a b c)
inductive ADef where
  | call (g : FuncId) (captured args : List AV)
  | coll (b : Nat)
inductive OR where
  | done (T : Tr AV) (D : List ADef) (H : AH)
  | fail
inductive CK where
  | fn (g : FuncId)
  | rnd (b : Nat)
abbrev CallF := CK -> List AV -> AH -> Option (AV × AH)
def evOps (P : Program) (X : Ext) (callF : CallF) (n : Nat) (inR : Option Nat) (all : List Oper) : List Oper -> Tr AV -> List ADef -> AH -> OR
  | [], T, D, H => .done T D H
  | o :: rest, T, D, H =>
    match wantedA all T o with
    | none => .fail
    | some false => match putA n T o.dst unAV with
      | some T' => evOps P X callF n inR all rest T' D H
      | none => .fail
    | some true => match evOp P X T H o with
      | .val v H' => match putA n T o.dst v with
        | some T' => evOps P X callF n inR all rest T' D H'
        | none => .fail
      | .call g args => match callF (.fn g) args H with
        | some (v, H') => match putA n T o.dst v with
          | some T' => evOps P X callF n inR all rest T' D H'
          | none => .fail
        | none => .fail
      | .round b args => match callF (.rnd b) args H with
        | some (v, H') => match putA n T o.dst v with
          | some T' => evOps P X callF n inR all rest T' D H'
          | none => .fail
        | none => .fail
      | .dfr g captured args => match inR with
        | some _ => .fail
        | none => match putA n T o.dst unAV with
          | some T' => evOps P X callF n inR all rest T' (.call g captured args :: D) H
          | none => .fail
      | .fail => .fail
inductive AExit where
  | normal | exit (id : Nat) | ret
inductive CR where
  | ok (e : AExit) (T : Tr AV) (D : List ADef) (H : AH)
  | fail
def hasBody (P : Program) (g : FuncId) : Bool :=
  match P.funcs[g]? with
  | none => false
  | some fn => match fn.body with | some _ => true | none => false
def loopIn (inR : Option Nat) (H : AH) : Option (Nat × AH × List ADef) :=
  match inR with
  | none => some (H.next, newBlk H .dfrd, [.coll H.next])
  | some b => match H.m.get b with
    | some (.loop _ _ _ _ _ _ _ dB) => some (dB, H, [])
    | _ => none
def jumpA : Option Code -> Option AExit
  | none => some .normal
  | some .ret => some .ret
  | some (.exit id) => some (.exit id)
  | _ => none
def loopOut (l : Nat) (T : Tr AV) (D : List ADef) (H2 : AH) : CR :=
  match H2.m.get l with
  | some (.loop st pend n T' ps assign body dB) => match st with
    | .busy => .fail
    | _ => match jumpA pend with
      | some e => .ok e T D { next := H2.next, m := H2.m.put l (.loop .exhausted pend n T' ps assign body dB), G := H2.G }
      | none => .fail
  | _ => .fail
def evCode (P : Program) (X : Ext) (callF : CallF) (regD : Nat -> List Oper -> Tr AV -> AH -> OR) (n : Nat) (inR : Option Nat) : Nat -> Code -> Tr AV -> List ADef -> AH -> CR
  | 0, _, _, _, _ => .fail
  | fuel + 1, c, T, D, H =>
    match c with
    | .skip => .ok .normal T D H
    | .label _ => .ok .normal T D H
    | .ret => .ok .ret T D H
    | .exit id => .ok (.exit id) T D H
    | .seq a b => match evCode P X callF regD n inR fuel a T D H with
      | .ok .normal T' D' H' => evCode P X callF regD n inR fuel b T' D' H'
      | r => r
    | .cond x a b => match evX H.G T x with
      | some (.bool true) => evCode P X callF regD n inR fuel a T D H
      | some (.bool false) => evCode P X callF regD n inR fuel b T D H
      | _ => .fail
    | .block id b => match evCode P X callF regD n inR fuel b T D H with
      | .ok (.exit id') T' D' H' => match Nat.beq id' id with
        | true => .ok .normal T' D' H'
        | false => .ok (.exit id') T' D' H'
      | r => r
    | .loop b => match evCode P X callF regD n inR fuel b T D H with
      | .ok .normal T' D' H' => evCode P X callF regD n inR fuel (.loop b) T' D' H'
      | r => r
    | .region id ops draw => match draw with
      | false => match evOps P X callF n inR ops.toList ops.toList T D H with
        | .done T' D' H' => .ok .normal T' D' H'
        | .fail => .fail
      | true => match regD n ops.toList T H with
        | .done T' _ H' => .ok .normal T' D H'
        | .fail => .fail
    | .rangeFunc g ps assign body => match evX H.G T g with
      | some (.fn (.func gf) first cap) => match loopIn inR H, hasBody P gf with
        | some (dB, H0, D0), true => match callF (.fn gf) (first ++ .yld H0.next :: cap) (newBlk H0 (.loop .ready none n T ps.toList assign body dB)) with
          | none => .fail
          | some (_, H2) => loopOut H0.next T (D0 ++ D) H2
        | _, _ => .fail
      | _ => .fail
    | _ => .fail
def resA (P : Program) (T : Tr AV) (H : AH) : List ResultVar -> Option (List AV)
  | [] => some []
  | .tmp t :: l => match T.get t with
    | none => none
    | some v => match resA P T H l with
      | none => none
      | some r => some (v :: r)
  | .cell a t :: l => match T.get a with
    | some (.ptr b off) => match evLoad P H t b off with
      | none => none
      | some v => match resA P T H l with
        | none => none
        | some r => some (v :: r)
    | _ => none
def tupA : List AV -> AV
  | [v] => v
  | l => .tup l
def evBody (P : Program) (X : Ext) (callF : CallF) (regD : CallF -> Nat -> List Oper -> Tr AV -> AH -> OR) (fn : Func) (args : List AV) (H : AH) : CR :=
  match fn.body with
  | none => .fail
  | some c => match Nat.ble args.length fn.ntmps with
    | false => .fail
    | true => evCode P X callF (regD callF) fn.ntmps none 1000000000 c (ofL args) [] H
def isRecA (o : Oper) : Bool :=
  match o.op with
  | .call c => match c.callee with
    | .builtin b => match b with | .recover => true | _ => false
    | _ => false
  | _ => false
def hasRec : List Oper -> Bool
  | [] => false
  | o :: l => match isRecA o with | true => true | false => hasRec l
def evOpsD (P : Program) (X : Ext) (n : Nat) (all : List Oper) : List Oper -> Tr AV -> AH -> OR
  | [], T, H => .done T [] H
  | o :: rest, T, H =>
    match wantedA all T o with
    | none => .fail
    | some false => match putA n T o.dst unAV with
      | some T' => evOpsD P X n all rest T' H
      | none => .fail
    | some true => match isRecA o with
      | true => match putA n T o.dst .nili with
        | some T' => evOpsD P X n all rest T' H
        | none => .fail
      | false => match evOp P X T H o with
        | .val v H' => match putA n T o.dst v with
          | some T' => evOpsD P X n all rest T' H'
          | none => .fail
        | _ => .fail
def evCodeD (P : Program) (X : Ext) (callF : CallF) (regD : Nat -> List Oper -> Tr AV -> AH -> OR) (n fuel : Nat) : Code -> Tr AV -> AH -> CR
  | .seq a b, T, H => match evCodeD P X callF regD n fuel a T H with
    | .ok .normal T' [] H' => evCodeD P X callF regD n fuel b T' H'
    | .ok .normal _ (_ :: _) _ => .fail
    | r => r
  | .region id ops draw, T, H => match draw, hasRec ops.toList with
    | false, true => match evOpsD P X n ops.toList ops.toList T H with
      | .done T' _ H' => .ok .normal T' [] H'
      | .fail => .fail
    | _, _ => evCode P X callF regD n none fuel (.region id ops draw) T [] H
  | c, T, H => evCode P X callF regD n none fuel c T [] H
def evBodyD (P : Program) (X : Ext) (callF : CallF) (regD : CallF -> Nat -> List Oper -> Tr AV -> AH -> OR) (fn : Func) (args : List AV) (H : AH) : CR :=
  match fn.body with
  | none => .fail
  | some c => match Nat.ble args.length fn.ntmps with
    | false => .fail
    | true => evCodeD P X callF (regD callF) fn.ntmps 1000000000 c (ofL args) H
def evDefers (P : Program) (X : Ext) (callF : CallF) (regD : CallF -> Nat -> List Oper -> Tr AV -> AH -> OR) : List ADef -> AH -> Option AH
  | [], H => some H
  | .coll b :: l, H => match H.m.get b with
    | some .dfrd => evDefers P X callF regD l { next := H.next, m := H.m.del b, G := H.G }
    | _ => none
  | .call g captured args :: l, H => match P.funcs[g]? with
    | none => none
    | some fn => match evBodyD P X callF regD fn (args ++ captured) H with
      | .ok e T D H' => match (match e, D with | .normal, [] => true | .ret, [] => true | _, _ => false), resA P T H' fn.results.toList with
        | true, some _ => evDefers P X callF regD l H'
        | _, _ => none
      | .fail => none
def putPs (n : Nat) : Tr AV -> List Tmp -> List AV -> Option (Tr AV)
  | T, [], [] => some T
  | T, t :: ps, x :: xs => match putA n T (some t) x with
    | some T' => putPs n T' ps xs
    | none => none
  | _, _, _ => none
def beginR (b : Nat) (H : AH) : Option AH :=
  match H.m.get b with
  | some (.loop .ready pend n T ps assign body dB) => some { next := H.next, m := H.m.put b (.loop .busy pend n T ps assign body dB), G := H.G }
  | _ => none
def endR (b : Nat) (e : AExit) (H : AH) : Option (AV × AH) :=
  match H.m.get b with
  | some (.loop _ _ n T ps assign body dB) => match e with
    | .normal => some (.bool true, { next := H.next, m := H.m.put b (.loop .ready none n T ps assign body dB), G := H.G })
    | .ret => some (.bool false, { next := H.next, m := H.m.put b (.loop .done (some .ret) n T ps assign body dB), G := H.G })
    | .exit id => some (.bool false, { next := H.next, m := H.m.put b (.loop .done (some (.exit id)) n T ps assign body dB), G := H.G })
  | _ => none
def evRound (P : Program) (X : Ext) (callF : CallF) (regD : CallF -> Nat -> List Oper -> Tr AV -> AH -> OR) (b : Nat) (args : List AV) (H : AH) : Option (AV × AH) :=
  match H.m.get b with
  | some (.loop _ _ n T ps assign body _) => match putPs n T ps args with
    | none => none
    | some T1 => match evCode P X callF (regD callF) n (some b) 1000000000 assign T1 [] H with
      | .ok .normal T2 [] H1 => match beginR b H1 with
        | none => none
        | some H2 => match evCode P X callF (regD callF) n (some b) 1000000000 body T2 [] H2 with
          | .ok e _ [] H3 => endR b e H3
          | _ => none
      | _ => none
  | _ => none
abbrev Hook := FuncId -> List AV -> AH -> Option (AV × AH)
def noHook : Hook := fun _ _ _ => none
def evCall (P : Program) (X : Ext) (regD : CallF -> Nat -> List Oper -> Tr AV -> AH -> OR) (hk : Hook) : Nat -> CallF
  | 0, _, _, _ => none
  | n + 1, .rnd b, args, H => evRound P X (evCall P X regD hk n) regD b args H
  | n + 1, .fn g, args, H => match hk g args H with
    | some r => some r
    | none => match P.funcs[g]? with
      | none => none
      | some fn => match evBody P X (evCall P X regD hk n) regD fn args H with
        | .ok e T D H' => match (match e with | .exit _ => false | _ => true) with
          | false => none
          | true => match evDefers P X (evCall P X regD hk n) regD D H' with
            | none => none
            | some H2 => match resA P T H2 fn.results.toList with
              | none => none
              | some l => some (tupA l, H2)
        | .fail => none
end
end Go.Ev
