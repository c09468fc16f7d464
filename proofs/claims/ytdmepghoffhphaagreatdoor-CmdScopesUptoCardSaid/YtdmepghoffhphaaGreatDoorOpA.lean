/- PROVED: what syntax.Operators returns (part OpA). CONDITIONS: none. -/
import Derived.Test.YtdmepghoffhphaaGreatDoorEvD
import Derived.Test.YtdmepghoffhphaaGreatDoorProg
import Derived.KernelRfl
import Derived.Sort.EncStr
import Derived.Test.YtdmepghoffhphaaGreatDoorShelf
import Derived.Sort.KeysCollected
import Derived.Lib.SlicesCompact
import Derived.Maps.RangeRun
import Derived.Sort.OwnSorted
import Derived.Sort.Grow
import Derived.Lib.OwnBridge
import Derived.Maps.Range
import Derived.Laws.AppendOwn
import Derived.WalkKit
import Derived.Maps.AppendAt
import Derived.LoopTactic
set_option linter.unusedVariables false
namespace Go.Ev
open Go Go.Proofs
def encN (l : List Nat) : Value := encStr (l.map Nat.toUInt8)
def ent (x : List Nat × List Nat × Nat) : MapEntry := { key := encN x.1, val := encN x.2.1, born := x.2.2 }
def entA : List (List Nat × List Nat × Nat) → List (AV × AV × Nat)
  | [] => []
  | (k, v, n) :: l => (.str k, .str v, n) :: entA l

theorem str_enc {μ : Mp} {l : List Nat} {v : Value} (h : VR μ (.str l) v) : v = encN l := by
  cases h with
  | str _ s h =>
    subst h
    simp only [encN, encStr, List.map_map, Value.string.injEq]
    have : List.map (Nat.toUInt8 ∘ UInt8.toNat) s.data.toList = s.data.toList := by
      conv => rhs; rw [← List.map_id s.data.toList]
      exact List.map_congr_left fun x _ => by simp
    rw [this]

theorem ents_inv {μ : Mp} : ∀ {l : List (List Nat × List Nat × Nat)} {a : List MapEntry}, ERs μ (entA l) a → a = l.map ent
  | [], _, h => by cases h; rfl
  | (k, v, n) :: l, _, h => by
    simp only [entA] at h
    cases h with
    | cons _ _ _ _ k' v' a hk hv t =>
      rw [str_enc hk, str_enc hv, ents_inv t]; rfl
end Go.Ev

set_option linter.unusedVariables false
namespace Go.Ev
open Go Go.Proofs Go.RowKit
noncomputable section
def lvE : List (List (List Nat × List Nat × Nat)) := [[([46, 79, 82, 46], [46, 79, 82, 46], 0)],
  [([46, 65, 78, 68, 46], [46, 65, 78, 68, 46], 0)],
  [([61], [61], 0), ([61, 61], [61, 61], 1), ([60, 62], [60, 62], 2), ([35], [60, 62], 3), ([33, 61], [60, 62], 4), ([60], [60], 5), ([62], [62], 6), ([60, 61], [60, 61], 7), ([62, 61], [62, 61], 8), ([36], [36], 9)],
  [([43], [43], 0), ([45], [45], 1)],
  [([42], [42], 0), ([47], [47], 1), ([37], [37], 2)],
  [([94], [94], 0)]]

theorem lv_names : namesB Tryz.prog = true := by kernel_rfl
theorem lv_follows : Tryz.prog.follows .mixedOrders = true := by kernel_rfl
theorem lv_ok : EvOk Tryz.prog (extOf []) (regD Tryz.prog (extOf [])) := evOk_of lv_names (fun g k h => by cases h) lv_follows
def lvRun : Option (AV × AH) := evCall Tryz.prog (extOf []) (regD Tryz.prog (extOf [])) noHook 1000 (.fn 299) [] (baseH 0 [])
def lvSee : Option (AV × AH) → Option (AV × List (Option AB))
  | some (z, H) => some (z, (List.range 6).map fun j => H.m.get (j + 1))
  | none => none
theorem lv_run : lvSee lvRun = some (.agg [.map 1, .map 2, .map 3, .map 4, .map 5, .map 6], lvE.map fun es => some (.map (entA es) es.length)) := by kernel_rfl

def MapsAt (w : World) : List Nat → List (List (List Nat × List Nat × Nat)) → Prop
  | [], [] => True
  | b :: l, es :: r => w.heap[b]? = some (.map ⟨es.map ent⟩ es.length) ∧ MapsAt w l r
  | _, _ => False
theorem levels_calls (w : World) : Calls Tryz.prog 299 #[] w fun e w' => ∃ b0 b1 b2 b3 b4 b5 : Nat, e = .returned (.agg #[.map (some b0), .map (some b1), .map (some b2), .map (some b3), .map (some b4), .map (some b5)]) ∧
    MapsAt w' [b0, b1, b2, b3, b4, b5] lvE ∧ Below w.heap.size w w' := by
  have h := lv_run
  cases hc : lvRun with
  | none => rw [hc] at h; cases h
  | some r =>
    obtain ⟨z, H'⟩ := r
    rw [hc] at h
    simp only [lvSee, Option.some.injEq, Prod.mk.injEq] at h
    obtain ⟨rfl, hm⟩ := h
    refine ((evCall_sound lv_ok noHook_ok 1000).fn 299 [] _ _ H' hc (startMp 0 w) w [] (start_Rel (by rfl) (fun x hx => by cases hx)) .nil).mono ?_
    rintro e W' ⟨u, μ', rfl, hu, hs⟩
    cases hu with
    | agg _ a ha =>
    cases ha with | cons _ v0 _ a h0 ha =>
    cases ha with | cons _ v1 _ a h1 ha =>
    cases ha with | cons _ v2 _ a h2 ha =>
    cases ha with | cons _ v3 _ a h3 ha =>
    cases ha with | cons _ v4 _ a h4 ha =>
    cases ha with | cons _ v5 _ a h5 ha =>
    cases ha
    cases h0 with | map _ p0 q0 =>
    cases h1 with | map _ p1 q1 =>
    cases h2 with | map _ p2 q2 =>
    cases h3 with | map _ p3 q3 =>
    cases h4 with | map _ p4 q4 =>
    cases h5 with | map _ p5 q5 =>
    simp only [lvE, List.map_cons, List.map_nil, List.range_succ, List.range_zero, List.nil_append, List.cons_append, List.cons.injEq] at hm
    obtain ⟨m0, m1, m2, m3, m4, m5, _⟩ := hm
    have key : ∀ {k : Nat} {p : Pl} {es : List (List Nat × List Nat × Nat)} {n : Nat}, μ' k = some p → H'.m.get k = some (.map (entA es) n) → W'.heap[p.blk]? = some (.map ⟨es.map ent⟩ n) := by
      intro k p es n hp hg
      obtain ⟨p', hp', a, hb, he⟩ := hs.rel.blk k _ hg
      rw [hp] at hp'; cases hp'
      rw [hb, ents_inv he]
    refine ⟨p0.blk, p1.blk, p2.blk, p3.blk, p4.blk, p5.blk, rfl, ?_, ⟨hs.keeps.os, hs.keeps.tape, hs.keeps.output, hs.keeps.size, fun k hk => hs.keeps.same k hk ?_⟩⟩
    · exact ⟨key q0 m0, key q1 m1, key q2 m2, key q3 m3, key q4 m4, key q5 m5, trivial⟩
    · intro b B p hB hro
      obtain ⟨x, hx, _⟩ := baseM_get hB
      cases hx
end
end Go.Ev

set_option linter.unusedVariables false
namespace Go.Ev
open Go Go.Proofs

def vU (x : List Nat × List Nat × Nat) : List UInt8 := x.2.1.map Nat.toUInt8
/-- The values of the entries that have been handed out. -/
def got (l : List (List Nat × List Nat × Nat)) (seen : Array Nat) : List (List UInt8) := (l.filter fun x => seen.contains x.2.2).map vU
theorem got_none (l : List (List Nat × List Nat × Nat)) : got l #[] = [] := by simp [got]
theorem got_other (seen : Array Nat) (b : Nat) : ∀ (l : List (List Nat × List Nat × Nat)), b ∉ l.map (·.2.2) → got l (seen.push b) = got l seen
  | [], _ => rfl
  | x :: l, h => by
    have hx : (x.2.2 == b) = false := by
      cases hc : x.2.2 == b with
      | false => rfl
      | true => exact absurd (List.mem_cons.2 (Or.inl (beq_iff_eq.1 hc).symm)) h
    have ih := got_other seen b l (fun e => h (List.mem_cons.2 (Or.inr e)))
    cases hc : seen.contains x.2.2 with
    | true =>
      have e1 : got (x :: l) seen = vU x :: got l seen := by simp only [got, List.filter_cons, hc, if_true, List.map_cons]
      have e2 : got (x :: l) (seen.push b) = vU x :: got l (seen.push b) := by simp only [got, List.filter_cons, contains_push, hc, Bool.true_or, if_true, List.map_cons]
      rw [e1, e2, ih]
    | false =>
      have e1 : got (x :: l) seen = got l seen := by simp only [got, List.filter_cons, hc]; rfl
      have e2 : got (x :: l) (seen.push b) = got l (seen.push b) := by simp only [got, List.filter_cons, contains_push, hc, hx, Bool.or_false]; rfl
      rw [e1, e2, ih]
theorem got_push (seen : Array Nat) (e : List Nat × List Nat × Nat) (hs : seen.contains e.2.2 = false) : ∀ (l : List (List Nat × List Nat × Nat)), (l.map (·.2.2)).Nodup → e ∈ l → (got l seen ++ [vU e]).Perm (got l (seen.push e.2.2))
  | x :: l, hn, he => by
    have hn' : x.2.2 ∉ l.map (·.2.2) ∧ (l.map (·.2.2)).Nodup := List.nodup_cons.1 hn
    rcases List.mem_cons.1 he with rfl | h
    · have h1 := got_other seen e.2.2 l hn'.1
      have e1 : got (e :: l) seen = got l seen := by simp only [got, List.filter_cons, hs]; rfl
      have e2 : got (e :: l) (seen.push e.2.2) = vU e :: got l (seen.push e.2.2) := by
        simp only [got, List.filter_cons, contains_push, beq_self_eq_true, Bool.or_true, if_true, List.map_cons]
      rw [e1, e2, h1]
      exact List.perm_append_comm
    · have hx : (x.2.2 == e.2.2) = false := by
        cases hc : x.2.2 == e.2.2 with
        | false => rfl
        | true => exact absurd (by rw [beq_iff_eq.1 hc]; exact List.mem_map.2 ⟨e, h, rfl⟩) hn'.1
      have ih := got_push seen e hs l hn'.2 h
      cases hc : seen.contains x.2.2 with
      | true =>
        have e1 : got (x :: l) seen = vU x :: got l seen := by simp only [got, List.filter_cons, hc, if_true, List.map_cons]
        have e2 : got (x :: l) (seen.push e.2.2) = vU x :: got l (seen.push e.2.2) := by simp only [got, List.filter_cons, contains_push, hc, Bool.true_or, if_true, List.map_cons]
        rw [e1, e2]
        exact ih.cons _
      | false =>
        have e1 : got (x :: l) seen = got l seen := by simp only [got, List.filter_cons, hc]; rfl
        have e2 : got (x :: l) (seen.push e.2.2) = got l (seen.push e.2.2) := by simp only [got, List.filter_cons, contains_push, hc, hx, Bool.or_false]; rfl
        rw [e1, e2]
        exact ih
theorem got_all {l : List (List Nat × List Nat × Nat)} {seen : Array Nat} (h : (leftOf ⟨l.map ent⟩ seen).size = 0) : got l seen = l.map vU := by
  have ha := all_seen ⟨l.map ent⟩ seen h
  have : l.filter (fun x => seen.contains x.2.2) = l := List.filter_eq_self.2 fun x hx => ha (ent x) (by simpa using ⟨x.1, x.2.1, x.2.2, hx, rfl⟩)
  simp only [got, this]

/-- The operators, as the maps give them; as they stand in the end. -/
def allOps : List (List UInt8) := lvE.flatMap fun es => es.map vU
def sortedOps : List (List UInt8) := [[36], [37], [42], [43], [45], [46, 65, 78, 68, 46], [46, 79, 82, 46], [47], [60], [60, 61], [60, 62], [60, 62], [60, 62], [61], [61, 61], [62], [62, 61], [94]]
def endOps : List (List UInt8) := [[36], [37], [42], [43], [45], [46, 65, 78, 68, 46], [46, 79, 82, 46], [47], [60], [60, 61], [60, 62], [61], [61, 61], [62], [62, 61], [94]]
theorem sorted_perm : sortedOps.isPerm allOps = true := by decide +kernel
theorem sorted_pw : sortedOps.Pairwise (fun a b => leB a b = true) := by decide +kernel
theorem compact_ops : Lib.compact sortedOps = endOps := by decide +kernel
theorem sort_ops {ss : List (List UInt8)} (h : ss.Perm allOps) : ss.mergeSort leB = sortedOps := by
  have tr : ∀ a b c : List UInt8, leB a b = true → leB b c = true → leB a c = true := fun a b c h1 h2 => by simp only [leB, decide_eq_true_eq] at *; exact List.le_trans h1 h2
  have to : ∀ a b : List UInt8, (leB a b || leB b a) = true := fun a b => by simp only [leB, Bool.or_eq_true, decide_eq_true_eq]; exact List.le_total a b
  refine List.Perm.eq_of_pairwise (le := fun a b => leB a b = true) (fun a b _ _ h1 h2 => ?_) (List.pairwise_mergeSort tr to ss) sorted_pw (((List.mergeSort_perm ss leB).trans h).trans (List.isPerm_iff.1 sorted_perm).symm)
  simp only [leB, decide_eq_true_eq] at h1 h2
  exact List.le_antisymm h1 h2
end Go.Ev

namespace Go.Proofs
open Go Go.Ev Go.RowKit Go.Maps Go.Sort
set_option linter.unusedVariables false

theorem sort_own (base : Nat) (v : Value) (ss : List (List UInt8)) (W : World) (hp : ss.Perm allOps) (hown : W.ownsRow base 9 1 v ss.length (ss.map encStr)) :
    Calls Tryz.prog 46 #[v] W fun e w' => e = .returned (.tuple #[]) ∧ w'.ownsRow base 9 1 v 18 (sortedOps.map encStr) ∧ Below base W w' := by
  have hl : ss.length = 18 := by rw [hp.length_eq]; rfl
  rcases hown.2 with ⟨_, h0⟩ | ⟨g, cap, cur, rfl, hbase, hb, h1, h2, h3, h4⟩
  · omega
  have hH : Holds encStr W g 0 ss.toArray := holds_of_block hb (by simpa using h4)
  have hgl : g < W.heap.size := (Array.getElem?_eq_some_iff.1 hb).1
  refine (Tryz.slices_Sort_string g 0 cap ss W hH hgl (by omega)).mono ?_
  rintro e w' ⟨rfl, nn, os, rfl⟩
  have hs : (ss.mergeSort fun x y => decide (x ≤ y)) = sortedOps := sort_ops hp
  rw [hs, hl]
  have := ownsRow_sorted (n := nn) (os := os) (ts := sortedOps) (ss := ss) (by rw [hl]; rfl) hbase hb h1 h2 h3
  rw [hl] at this
  exact ⟨rfl, this, (Below.refl _ _).grown (grownBy_sorted _) (Nat.le_of_lt (Nat.lt_of_le_of_lt hbase hgl)) (fun j hj => by cases hj; exact hbase)⟩

theorem compact_own (base : Nat) (v : Value) (W : World) (hown : W.ownsRow base 9 1 v 18 (sortedOps.map encStr)) :
    Calls Tryz.prog 23 #[v] W fun e w' => ∃ g cap, e = .returned (.slice (some ⟨g, 0, none⟩) 16 cap) ∧ w'.ownsRow base 9 1 (.slice (some ⟨g, 0, none⟩) 16 cap) 16 (endOps.map encStr) ∧ Below base W w' := by
  rcases hown.2 with ⟨_, h0⟩ | ⟨g, cap, cur, rfl, hbase, hb, h1, h2, h3, h4⟩
  · omega
  have hH : Holds encStr W g 0 sortedOps.toArray := holds_of_block hb (by rw [show sortedOps.length = 18 from rfl]; simpa using h4)
  refine (Tryz.slices_Compact_string g 0 cap sortedOps W hH (by decide) h1).mono ?_
  rintro e w' ⟨rfl, q, rfl⟩
  rw [compact_ops]
  have hc := Lib.ownsRow_putRow (q := q) (k := 16) (ys := endOps ++ List.replicate 2 []) hown (by rfl) (by decide)
  exact ⟨g, cap, rfl, hc, Lib.below_putRow (Below.refl _ _) hbase⟩

theorem next_own {P : Program} {W : World} {r b : Nat} {es : List (List Nat × List Nat × Nat)} {seen : Array Nat} (hr : W.heap[r]? = some (.mapIter (some b) es.length seen es.length)) (hb : W.heap[b]? = some (.map ⟨es.map ent⟩ es.length))
    (hlt : ∀ x ∈ es, x.2.2 < es.length) (hn : (es.map (·.2.2)).Nodup) :
    (got es seen = es.map vU ∧ ∀ ty, (Instr.next (.pointer (some ⟨r, 0, none⟩)) false ty).run P W = .ok (.tuple #[.bool false]) W) ∨
    ∃ e ∈ es, seen.contains e.2.2 = false ∧ ∃ W2, (∀ ty, (Instr.next (.pointer (some ⟨r, 0, none⟩)) false ty).run P W = .ok (.tuple #[.bool true, encN e.1, encN e.2.1]) W2) ∧ W2.heap[r]? = some (.mapIter (some b) es.length (seen.push e.2.2) es.length) ∧
      W.grownBy W2 (some r) ∧ (Instr.entry (.pointer (some ⟨r, 0, none⟩))).run P W2 = .ok (.tuple #[encN e.1, encN e.2.1]) W2 ∧ W2.rangeLeft b r < W.rangeLeft b r := by
  have hne : r ≠ b := fun e => by rw [e, hb] at hr; cases hr
  have law := fun ty => run_next_at (P := P) W ty r b es.length es.length seen ⟨es.map ent⟩ es.length hr hb (fun x hx => by
    obtain ⟨y, hy, rfl⟩ := List.mem_map.1 hx; exact hlt y hy) (Nat.le_refl _)
  rcases law 0 with ⟨h0, hrun⟩ | ⟨e, he, w1, hw1, hrun⟩
  · exact .inl ⟨got_all h0, fun ty => hrun⟩
  · refine .inr ?_
    obtain ⟨hmem, hns⟩ := mem_left he
    obtain ⟨y, hy, rfl⟩ := List.mem_map.1 hmem
    have hsz : r < W.heap.size := (Array.getElem?_eq_some_iff.1 hr).1
    have hw : w1.heap = W.heap := by rcases hw1 with rfl | rfl <;> rfl
    have hr2 : (ChangeMaps.setBlock w1 r (.mapIter (some b) es.length (seen.push y.2.2) es.length)).heap[r]? = some (.mapIter (some b) es.length (seen.push y.2.2) es.length) := by
      simp [ChangeMaps.setBlock, hw, hsz]
    have hb2 : (ChangeMaps.setBlock w1 r (.mapIter (some b) es.length (seen.push y.2.2) es.length)).heap[b]? = some (.map ⟨es.map ent⟩ es.length) := by
      simp [ChangeMaps.setBlock, hw, hne, hb]
    refine ⟨y, hy, hns, ChangeMaps.setBlock w1 r (.mapIter (some b) es.length (seen.push y.2.2) es.length), fun ty => hrun, hr2, ?_, ?_, ?_⟩
    · refine ⟨?_, ?_, ?_, by simp [ChangeMaps.setBlock, hw], fun k hk hkr => ?_⟩
      · rcases hw1 with rfl | rfl <;> rfl
      · rcases hw1 with rfl | rfl <;> rfl
      · rcases hw1 with rfl | rfl <;> rfl
      · have : r ≠ k := fun e => hkr (by rw [e])
        simp [ChangeMaps.setBlock, hw, this]
    · exact run_entry_at _ r b es.length seen ⟨es.map ent⟩ es.length (ent y) hr2 hb2 hmem (by rw [show (⟨es.map ent⟩ : Array MapEntry).toList = es.map ent from rfl, List.map_map]; exact hn)
    · simp only [World.rangeLeft, hr, hb, hr2, hb2]
      exact left_shrinks ⟨es.map ent⟩ seen (ent y) he
end Go.Proofs

namespace Go.Proofs
open Go Go.Ev Go.RowKit Go.Maps Go.Sort
open Go Go.Ev Go.RowKit Go.Maps Go.Sort
set_option linter.unusedVariables false
end Go.Proofs
namespace Go.Ev
open Go
theorem MapsAt.kept {w w' : World} {row : Option Nat} (hg : w.grownBy w' row) (hr : ∀ j es c, row = some j → w.heap[j]? ≠ some (.map es c)) : ∀ {bs : List Nat} {L : List (List (List Nat × List Nat × Nat))}, MapsAt w bs L → MapsAt w' bs L
  | [], [], _ => trivial
  | [], _ :: _, h => h
  | _ :: _, [], h => h
  | b :: bs, es :: L, ⟨h1, h2⟩ => ⟨(hg.block b (Array.getElem?_eq_some_iff.1 h1).1 (fun e => hr b _ _ e.symm h1)).trans h1, MapsAt.kept hg hr h2⟩

end Go.Ev

namespace Go.Proofs
open Go Go.Ev Go.RowKit Go.Maps Go.Sort
/-- What holds all along: 'out' owns ss; the maps lie; below nothing has turned. -/
structure St (w : World) (bs : List Nat) (v : Value) (ss : List (List UInt8)) (wi : World) : Prop where
  row : wi.ownsRow w.heap.size 9 1 v ss.length (ss.map encStr)
  maps : MapsAt wi bs lvE
  below : Below w.heap.size w wi

theorem St.kept {w wi w' : World} {bs : List Nat} {v : Value} {ss : List (List UInt8)} {row : Option Nat} (h : St w bs v ss wi) (hg : wi.grownBy w' row) (hr : ∀ j, row = some j → w.heap.size ≤ j ∧ ∃ m a s c, wi.heap[j]? = some (.mapIter m a s c)) : St w bs v ss w' := by
  refine ⟨h.row.kept hg ?_, h.maps.kept hg ?_, h.below.grown hg h.below.size (fun j hj => (hr j hj).1)⟩
  · cases hv : v.ownBlock with
    | none => exact .inl rfl
    | some g =>
      refine .inr fun e => ?_
      obtain ⟨_, m, a, s, c, hm⟩ := hr g e.symm
      rcases h.row.2 with ⟨rfl, _⟩ | ⟨g', cap, cur, rfl, _, hb, _⟩
      · simp [Value.ownBlock] at hv
      · simp only [Value.ownBlock, Option.some.injEq] at hv
        subst hv
        rw [hb] at hm; cases hm
  · intro j es c hj hm
    obtain ⟨_, m, a, s, c', hm'⟩ := hr j hj
    rw [hm] at hm'; cases hm'
theorem St.alloc {w wi : World} {bs : List Nat} {v : Value} {ss : List (List UInt8)} (h : St w bs v ss wi) (o : Obj) : St w bs v ss (wi.alloc o) := h.kept (World.grownBy_alloc wi o none) (fun j hj => by cases hj)
/-- An append. -/
theorem St.push {w wi w' : World} {bs : List Nat} {v v' : Value} {ss : List (List UInt8)} {x : List UInt8} (h : St w bs v ss wi) (hg : wi.grownBy w' v.ownBlock) (hown : w'.ownsRow w.heap.size 9 1 v' (ss.length + 1) (ss.map encStr ++ [encStr x])) : St w bs v' (ss ++ [x]) w' := by
  refine ⟨by simpa using hown, h.maps.kept hg ?_, h.below.grown hg h.below.size (fun j hj => (h.row.lt j hj).1)⟩
  intro j es c hj hm
  rcases h.row.2 with ⟨rfl, _⟩ | ⟨g', cap, cur, rfl, _, hb, _⟩
  · simp [Value.ownBlock] at hj
  · simp only [Value.ownBlock, Option.some.injEq] at hj
    subst hj
    rw [hb] at hm; cases hm
theorem St.start {w w1 : World} {bs : List Nat} (hm : MapsAt w1 bs lvE) (hb : Below w.heap.size w w1) : St w bs (.slice none 0 0) [] w1 := ⟨⟨rfl, .inl ⟨rfl, rfl⟩⟩, hm, hb⟩
theorem Tryz.info9 : (Tryz.prog.info? 9).map (fun i => (i.zero, i.size, i.bytes)) = some (some (.string ⟨#[]⟩), 1, 16) := by kernel_rfl
end Go.Proofs
namespace Go.Ev
open Go Go.Proofs
theorem ix_size : sizeA Tryz.prog 371 = some 1 := by kernel_rfl
theorem ix_agg : isAggA Tryz.prog 371 = some false := by kernel_rfl
theorem run_ix (cs : Array Value) (i : Nat) (v : Value) (hi : i < 6) (h : cs[i]? = some v) (W : World) : (Instr.index 372 (.agg cs) (.int .i64 i)).run Tryz.prog W = .ok v W := by
  simp [Instr.index, asIntOf, run_underlying_ev Tryz.underlying372, run_sizeOf_ev ix_size, part, run_isAgg_ev ix_agg, hi, h]
end Go.Ev
namespace Go.Proofs
open Go Go.Ev Go.RowKit Go.Maps Go.Sort
theorem iter_kept {w w' : World} {row : Option Nat} {r : Nat} {m : Option Nat} {a c : Nat} {s : Array Nat} (hg : w.grownBy w' row) (h : w.heap[r]? = some (.mapIter m a s c)) (hr : ∀ j, row = some j → ∃ cs e fr, w.heap[j]? = some (.cells cs e fr)) : w'.heap[r]? = some (.mapIter m a s c) :=
  (hg.block r (Array.getElem?_eq_some_iff.1 h).1 (fun e => by
    obtain ⟨cs, e, fr, h2⟩ := hr r e.symm
    rw [h] at h2; cases h2)).trans h
theorem own_cells {w : World} {base e size n : Nat} {v : Value} {xs : List Value} (h : w.ownsRow base e size v n xs) : ∀ j, v.ownBlock = some j → ∃ cs e fr, w.heap[j]? = some (.cells cs e fr) := by
  intro j hj
  rcases h.2 with ⟨rfl, _⟩ | ⟨g, cap, cur, rfl, _, hb, _⟩
  · simp [Value.ownBlock] at hj
  · simp only [Value.ownBlock, Option.some.injEq] at hj
    subst hj
    exact ⟨_, _, _, hb⟩
theorem left_same {w w' : World} {b r : Nat} (h1 : w'.heap[b]? = w.heap[b]?) (h2 : w'.heap[r]? = w.heap[r]?) : w'.rangeLeft b r = w.rangeLeft b r := by
  simp only [World.rangeLeft, h1, h2]
theorem got_len (l : List (List Nat × List Nat × Nat)) (seen : Array Nat) : (got l seen).length ≤ l.length := by
  simp only [got, List.length_map]; exact List.length_filter_le _ _
theorem heap_alloc_old (w : World) (o : Obj) {r : Nat} {x : Obj} (h : w.heap[r]? = some x) : (w.alloc o).heap[r]? = some x := by
  have hr := (Array.getElem?_eq_some_iff.1 h).1
  simp only [World.alloc, Array.getElem?_push]
  rw [if_neg (by omega)]; exact h
end Go.Proofs

namespace Go.Proofs
open Go Go.Ev Go.RowKit Go.Maps Go.Sort
set_option linter.unusedVariables false
set_option maxRecDepth 100000 in
set_option maxHeartbeats 4000000 in
theorem operators_walk (w : World) : Calls Tryz.prog 223 #[] w fun e w' => ∃ g cap, e = .returned (.slice (some ⟨g, 0, none⟩) 16 cap) ∧ w'.ownsRow w.heap.size 9 1 (.slice (some ⟨g,0,none⟩) 16 cap) 16 (endOps.map encStr) ∧ Below w.heap.size w w' := by
  obtain ⟨i0, hi, hz0, hz1, hz2⟩ := info_parts Tryz.info9
  go_enter Tryz.func223, Tryz.ntmps223
  go_wp2_with (first | (go_at_call 299; refine (levels_calls w).mono ?_; rintro e w1 ⟨b0, b1, b2, b3, b4, b5, rfl, hm, hbel⟩) | go_in)
  have hst := St.start hm hbel
  clear hm hbel
  go_loopw [1, 7] (fun v i wr => ∃ k : Nat, k ≤ 6 ∧ i = .int .i64 k ∧ ∃ ss : List (List UInt8), ss.Perm ((lvE.take k).flatMap fun es => es.map vU) ∧ St w [b0, b1, b2, b3, b4, b5] v ss wr) (fun _ i _ => 6 - (intOf i).toNat)
  case atStart => exact ⟨0, by omega, rfl, [], .refl _, hst⟩
  case round =>
    obtain ⟨k, hk, rfl, ss, hp, hS⟩ := hrel
    have hk6 : k = 0 ∨ k = 1 ∨ k = 2 ∨ k = 3 ∨ k = 4 ∨ k = 5 ∨ k = 6 := by omega
    obtain ⟨w0, rfl⟩ : ∃ w0, w0 = wr := ⟨_, rfl⟩
    rcases hk6 with rfl | rfl | rfl | rfl | rfl | rfl | rfl
    · have hb := hS.maps.1
      have hrg := run_range_map (P := Tryz.prog) w0 371 9 9 b0 ⟨(lvE.getD 0 []).map ent⟩ 1 Tryz.underlying371 hb
      have hix : ∀ W, (Instr.index 372 (Value.agg #[Value.map (some b0), Value.map (some b1), Value.map (some b2), Value.map (some b3), Value.map (some b4), Value.map (some b5)]) (Value.int IntKind.i64 0)).run Tryz.prog W = .ok (.map (some b0)) W := fun W => run_ix _ 0 _ (by omega) rfl W
      go_wp2
      have hS0 := hS.alloc (.mapIter (some b0) 1 #[] 1)
      go_loopw [1] (fun v wi => ∃ (seen : Array Nat) (s2 : List (List UInt8)), s2.Perm (ss ++ got (lvE.getD 0 []) seen) ∧ s2.length ≤ 1000000 ∧ St w [b0, b1, b2, b3, b4, b5] v s2 wi ∧ wi.heap[w0.heap.size]? = some (.mapIter (some b0) 1 seen 1)) (fun _ wi => wi.rangeLeft b0 w0.heap.size)
      case atStart => exact ⟨#[], ss, by simp [got_none], by rw [hp.length_eq]; decide, hS0, heap_alloc_new _ _⟩
      case round =>
        obtain ⟨seen, s2, hp2, hlen, hS2, hit⟩ := hrel
        have hb2 := hS2.maps.1
        rcases next_own (P := Tryz.prog) (es := lvE.getD 0 []) hit hb2 (by decide) (by decide) with ⟨hall, hnx⟩ | ⟨e, he, hns, W2, hnx, hit2, hg2, hen, hms⟩
        · go_wp2
          go_roundw
          case rel =>
            refine ⟨1, by omega, by go_num, s2, ?_, hS2⟩
            rw [hall] at hp2
            exact hp2.trans (hp.append_right _)
          case measure => simp [intOf]
        · have hS3 := hS2.kept hg2 (fun j hj => by cases hj; exact ⟨hS.below.size, _, _, _, _, hit⟩)
          have hen' : (Instr.entry (.pointer (some ⟨w0.heap.size, 0, none⟩))).run Tryz.prog W2 = .ok (.tuple #[encN e.1, encStr (vU e)]) W2 := hen
          have hnx' : ∀ ty, (Instr.next (.pointer (some ⟨w0.heap.size, 0, none⟩)) false ty).run Tryz.prog wr = .ok (.tuple #[.bool true, encN e.1, encStr (vU e)]) W2 := hnx
          have hgp := got_push seen e hns (lvE.getD 0 []) (by decide) he
          have X : Aside (s2.Perm (ss ++ got (lvE.getD 0 []) seen) ∧ (got (lvE.getD 0 []) seen ++ [vU e]).Perm (got (lvE.getD 0 []) (seen.push e.2.2)) ∧ W2.rangeLeft b0 w0.heap.size < wr.rangeLeft b0 w0.heap.size ∧ W2.heap[w0.heap.size]? = some (.mapIter (some b0) 1 (seen.push e.2.2) 1) ∧ ss.Perm ((lvE.take 0).flatMap fun es => es.map vU)) := ⟨hp2, hgp, hms, hit2, hp⟩
          clear hen hnx hgp hp2 hms hit2 hit hb2 hS2 hp hb hrg hix hS0 hst hg2
          have hrow3 := hS3.row.alloc (.cells #[encStr (vU e)] 9)
          have hsz3 := hS3.below.size
          have Y : Aside (St w [b0, b1, b2, b3, b4, b5] u1 s2 W2) := hS3
          clear hS3
          go_wp2_with (first
            | (at_builtin; refine wpList_append_own _ rfl _ _ 46 rfl w.heap.size 9 i0 (.string ⟨#[]⟩) 1 16 Tryz.underlying46 hi hz0 hz1 hz2 rfl (by decide) _ _ _ rfl hrow3 ⟨W2.heap.size, 0, none⟩ 1 1 [encStr (vU e)] rfl rfl (cell_one_new _ _ _) (by simp [Value.oneCell', encStr]) (by unfold maxLen; omega) (by omega) (by simp; omega) ?_; intro v' w3 hown' hg3 hnil3)
            | go_in)
          obtain ⟨hp2', hgp', hms', hit2', hp'⟩ := X
          have Y' : St w [b0, b1, b2, b3, b4, b5] u1 s2 W2 := Y
          have hS4 := (Y'.alloc (.cells #[encStr (vU e)] 9)).push hg3 hown'
          have hit4 := iter_kept hg3 ((heap_alloc_old W2 (.cells #[encStr (vU e)] 9) hit2')) (own_cells hrow3)
          have hlen4 : (s2 ++ [vU e]).length ≤ 1000000 := by
            have h1 := hp2'.length_eq
            have h2 := hp'.length_eq
            have h3 := got_len (lvE.getD 0 []) seen
            have h4 : (lvE.getD 0 []).length ≤ 10 := by decide
            have h5 : ((lvE.take 0).flatMap fun es => es.map vU).length ≤ 100 := by decide
            simp only [List.length_append, List.length_singleton] at h1 ⊢
            omega
          go_roundw
          case rel =>
            refine ⟨_, _, _, _, _, _, _, _, _, _, ⟨seen.push e.2.2, s2 ++ [vU e], ?_, hlen4, hS4, hit4⟩, rfl⟩
            have q := hp2'.append_right [vU e]
            rw [List.append_assoc] at q
            exact q.trans (hgp'.append_left ss)
          case measure =>
            have e1 : w3.rangeLeft b0 w0.heap.size = W2.rangeLeft b0 w0.heap.size := left_same (hS4.maps.1.trans Y'.maps.1.symm) (hit4.trans hit2'.symm)
            rw [e1]; exact hms'
    · have hb := hS.maps.2.1
      have hrg := run_range_map (P := Tryz.prog) w0 371 9 9 b1 ⟨(lvE.getD 1 []).map ent⟩ 1 Tryz.underlying371 hb
      have hix : ∀ W, (Instr.index 372 (Value.agg #[Value.map (some b0), Value.map (some b1), Value.map (some b2), Value.map (some b3), Value.map (some b4), Value.map (some b5)]) (Value.int IntKind.i64 1)).run Tryz.prog W = .ok (.map (some b1)) W := fun W => run_ix _ 1 _ (by omega) rfl W
      go_wp2
      have hS0 := hS.alloc (.mapIter (some b1) 1 #[] 1)
      go_loopw [1] (fun v wi => ∃ (seen : Array Nat) (s2 : List (List UInt8)), s2.Perm (ss ++ got (lvE.getD 1 []) seen) ∧ s2.length ≤ 1000000 ∧ St w [b0, b1, b2, b3, b4, b5] v s2 wi ∧ wi.heap[w0.heap.size]? = some (.mapIter (some b1) 1 seen 1)) (fun _ wi => wi.rangeLeft b1 w0.heap.size)
      case atStart => exact ⟨#[], ss, by simp [got_none], by rw [hp.length_eq]; decide, hS0, heap_alloc_new _ _⟩
      case round =>
        obtain ⟨seen, s2, hp2, hlen, hS2, hit⟩ := hrel
        have hb2 := hS2.maps.2.1
        rcases next_own (P := Tryz.prog) (es := lvE.getD 1 []) hit hb2 (by decide) (by decide) with ⟨hall, hnx⟩ | ⟨e, he, hns, W2, hnx, hit2, hg2, hen, hms⟩
        · go_wp2
          go_roundw
          case rel =>
            refine ⟨2, by omega, by go_num, s2, ?_, hS2⟩
            rw [hall] at hp2
            exact hp2.trans (hp.append_right _)
          case measure => simp [intOf]
        · have hS3 := hS2.kept hg2 (fun j hj => by cases hj; exact ⟨hS.below.size, _, _, _, _, hit⟩)
          have hen' : (Instr.entry (.pointer (some ⟨w0.heap.size, 0, none⟩))).run Tryz.prog W2 = .ok (.tuple #[encN e.1, encStr (vU e)]) W2 := hen
          have hnx' : ∀ ty, (Instr.next (.pointer (some ⟨w0.heap.size, 0, none⟩)) false ty).run Tryz.prog wr = .ok (.tuple #[.bool true, encN e.1, encStr (vU e)]) W2 := hnx
          have hgp := got_push seen e hns (lvE.getD 1 []) (by decide) he
          have X : Aside (s2.Perm (ss ++ got (lvE.getD 1 []) seen) ∧ (got (lvE.getD 1 []) seen ++ [vU e]).Perm (got (lvE.getD 1 []) (seen.push e.2.2)) ∧ W2.rangeLeft b1 w0.heap.size < wr.rangeLeft b1 w0.heap.size ∧ W2.heap[w0.heap.size]? = some (.mapIter (some b1) 1 (seen.push e.2.2) 1) ∧ ss.Perm ((lvE.take 1).flatMap fun es => es.map vU)) := ⟨hp2, hgp, hms, hit2, hp⟩
          clear hen hnx hgp hp2 hms hit2 hit hb2 hS2 hp hb hrg hix hS0 hst hg2
          have hrow3 := hS3.row.alloc (.cells #[encStr (vU e)] 9)
          have hsz3 := hS3.below.size
          have Y : Aside (St w [b0, b1, b2, b3, b4, b5] u1 s2 W2) := hS3
          clear hS3
          go_wp2_with (first
            | (at_builtin; refine wpList_append_own _ rfl _ _ 46 rfl w.heap.size 9 i0 (.string ⟨#[]⟩) 1 16 Tryz.underlying46 hi hz0 hz1 hz2 rfl (by decide) _ _ _ rfl hrow3 ⟨W2.heap.size, 0, none⟩ 1 1 [encStr (vU e)] rfl rfl (cell_one_new _ _ _) (by simp [Value.oneCell', encStr]) (by unfold maxLen; omega) (by omega) (by simp; omega) ?_; intro v' w3 hown' hg3 hnil3)
            | go_in)
          obtain ⟨hp2', hgp', hms', hit2', hp'⟩ := X
          have Y' : St w [b0, b1, b2, b3, b4, b5] u1 s2 W2 := Y
          have hS4 := (Y'.alloc (.cells #[encStr (vU e)] 9)).push hg3 hown'
          have hit4 := iter_kept hg3 ((heap_alloc_old W2 (.cells #[encStr (vU e)] 9) hit2')) (own_cells hrow3)
          have hlen4 : (s2 ++ [vU e]).length ≤ 1000000 := by
            have h1 := hp2'.length_eq
            have h2 := hp'.length_eq
            have h3 := got_len (lvE.getD 1 []) seen
            have h4 : (lvE.getD 1 []).length ≤ 10 := by decide
            have h5 : ((lvE.take 1).flatMap fun es => es.map vU).length ≤ 100 := by decide
            simp only [List.length_append, List.length_singleton] at h1 ⊢
            omega
          go_roundw
          case rel =>
            refine ⟨_, _, _, _, _, _, _, _, _, _, ⟨seen.push e.2.2, s2 ++ [vU e], ?_, hlen4, hS4, hit4⟩, rfl⟩
            have q := hp2'.append_right [vU e]
            rw [List.append_assoc] at q
            exact q.trans (hgp'.append_left ss)
          case measure =>
            have e1 : w3.rangeLeft b1 w0.heap.size = W2.rangeLeft b1 w0.heap.size := left_same (hS4.maps.2.1.trans Y'.maps.2.1.symm) (hit4.trans hit2'.symm)
            rw [e1]; exact hms'
    · have hb := hS.maps.2.2.1
      have hrg := run_range_map (P := Tryz.prog) w0 371 9 9 b2 ⟨(lvE.getD 2 []).map ent⟩ 10 Tryz.underlying371 hb
      have hix : ∀ W, (Instr.index 372 (Value.agg #[Value.map (some b0), Value.map (some b1), Value.map (some b2), Value.map (some b3), Value.map (some b4), Value.map (some b5)]) (Value.int IntKind.i64 2)).run Tryz.prog W = .ok (.map (some b2)) W := fun W => run_ix _ 2 _ (by omega) rfl W
      go_wp2
      have hS0 := hS.alloc (.mapIter (some b2) 10 #[] 10)
      go_loopw [1] (fun v wi => ∃ (seen : Array Nat) (s2 : List (List UInt8)), s2.Perm (ss ++ got (lvE.getD 2 []) seen) ∧ s2.length ≤ 1000000 ∧ St w [b0, b1, b2, b3, b4, b5] v s2 wi ∧ wi.heap[w0.heap.size]? = some (.mapIter (some b2) 10 seen 10)) (fun _ wi => wi.rangeLeft b2 w0.heap.size)
      case atStart => exact ⟨#[], ss, by simp [got_none], by rw [hp.length_eq]; decide, hS0, heap_alloc_new _ _⟩
      case round =>
        obtain ⟨seen, s2, hp2, hlen, hS2, hit⟩ := hrel
        have hb2 := hS2.maps.2.2.1
        rcases next_own (P := Tryz.prog) (es := lvE.getD 2 []) hit hb2 (by decide) (by decide) with ⟨hall, hnx⟩ | ⟨e, he, hns, W2, hnx, hit2, hg2, hen, hms⟩
        · go_wp2
          go_roundw
          case rel =>
            refine ⟨3, by omega, by go_num, s2, ?_, hS2⟩
            rw [hall] at hp2
            exact hp2.trans (hp.append_right _)
          case measure => simp [intOf]
        · have hS3 := hS2.kept hg2 (fun j hj => by cases hj; exact ⟨hS.below.size, _, _, _, _, hit⟩)
          have hen' : (Instr.entry (.pointer (some ⟨w0.heap.size, 0, none⟩))).run Tryz.prog W2 = .ok (.tuple #[encN e.1, encStr (vU e)]) W2 := hen
          have hnx' : ∀ ty, (Instr.next (.pointer (some ⟨w0.heap.size, 0, none⟩)) false ty).run Tryz.prog wr = .ok (.tuple #[.bool true, encN e.1, encStr (vU e)]) W2 := hnx
          have hgp := got_push seen e hns (lvE.getD 2 []) (by decide) he
          have X : Aside (s2.Perm (ss ++ got (lvE.getD 2 []) seen) ∧ (got (lvE.getD 2 []) seen ++ [vU e]).Perm (got (lvE.getD 2 []) (seen.push e.2.2)) ∧ W2.rangeLeft b2 w0.heap.size < wr.rangeLeft b2 w0.heap.size ∧ W2.heap[w0.heap.size]? = some (.mapIter (some b2) 10 (seen.push e.2.2) 10) ∧ ss.Perm ((lvE.take 2).flatMap fun es => es.map vU)) := ⟨hp2, hgp, hms, hit2, hp⟩
          clear hen hnx hgp hp2 hms hit2 hit hb2 hS2 hp hb hrg hix hS0 hst hg2
          have hrow3 := hS3.row.alloc (.cells #[encStr (vU e)] 9)
          have hsz3 := hS3.below.size
          have Y : Aside (St w [b0, b1, b2, b3, b4, b5] u1 s2 W2) := hS3
          clear hS3
          go_wp2_with (first
            | (at_builtin; refine wpList_append_own _ rfl _ _ 46 rfl w.heap.size 9 i0 (.string ⟨#[]⟩) 1 16 Tryz.underlying46 hi hz0 hz1 hz2 rfl (by decide) _ _ _ rfl hrow3 ⟨W2.heap.size, 0, none⟩ 1 1 [encStr (vU e)] rfl rfl (cell_one_new _ _ _) (by simp [Value.oneCell', encStr]) (by unfold maxLen; omega) (by omega) (by simp; omega) ?_; intro v' w3 hown' hg3 hnil3)
            | go_in)
          obtain ⟨hp2', hgp', hms', hit2', hp'⟩ := X
          have Y' : St w [b0, b1, b2, b3, b4, b5] u1 s2 W2 := Y
          have hS4 := (Y'.alloc (.cells #[encStr (vU e)] 9)).push hg3 hown'
          have hit4 := iter_kept hg3 ((heap_alloc_old W2 (.cells #[encStr (vU e)] 9) hit2')) (own_cells hrow3)
          have hlen4 : (s2 ++ [vU e]).length ≤ 1000000 := by
            have h1 := hp2'.length_eq
            have h2 := hp'.length_eq
            have h3 := got_len (lvE.getD 2 []) seen
            have h4 : (lvE.getD 2 []).length ≤ 10 := by decide
            have h5 : ((lvE.take 2).flatMap fun es => es.map vU).length ≤ 100 := by decide
            simp only [List.length_append, List.length_singleton] at h1 ⊢
            omega
          go_roundw
          case rel =>
            refine ⟨_, _, _, _, _, _, _, _, _, _, ⟨seen.push e.2.2, s2 ++ [vU e], ?_, hlen4, hS4, hit4⟩, rfl⟩
            have q := hp2'.append_right [vU e]
            rw [List.append_assoc] at q
            exact q.trans (hgp'.append_left ss)
          case measure =>
            have e1 : w3.rangeLeft b2 w0.heap.size = W2.rangeLeft b2 w0.heap.size := left_same (hS4.maps.2.2.1.trans Y'.maps.2.2.1.symm) (hit4.trans hit2'.symm)
            rw [e1]; exact hms'
    · have hb := hS.maps.2.2.2.1
      have hrg := run_range_map (P := Tryz.prog) w0 371 9 9 b3 ⟨(lvE.getD 3 []).map ent⟩ 2 Tryz.underlying371 hb
      have hix : ∀ W, (Instr.index 372 (Value.agg #[Value.map (some b0), Value.map (some b1), Value.map (some b2), Value.map (some b3), Value.map (some b4), Value.map (some b5)]) (Value.int IntKind.i64 3)).run Tryz.prog W = .ok (.map (some b3)) W := fun W => run_ix _ 3 _ (by omega) rfl W
      go_wp2
      have hS0 := hS.alloc (.mapIter (some b3) 2 #[] 2)
      go_loopw [1] (fun v wi => ∃ (seen : Array Nat) (s2 : List (List UInt8)), s2.Perm (ss ++ got (lvE.getD 3 []) seen) ∧ s2.length ≤ 1000000 ∧ St w [b0, b1, b2, b3, b4, b5] v s2 wi ∧ wi.heap[w0.heap.size]? = some (.mapIter (some b3) 2 seen 2)) (fun _ wi => wi.rangeLeft b3 w0.heap.size)
      case atStart => exact ⟨#[], ss, by simp [got_none], by rw [hp.length_eq]; decide, hS0, heap_alloc_new _ _⟩
      case round =>
        obtain ⟨seen, s2, hp2, hlen, hS2, hit⟩ := hrel
        have hb2 := hS2.maps.2.2.2.1
        rcases next_own (P := Tryz.prog) (es := lvE.getD 3 []) hit hb2 (by decide) (by decide) with ⟨hall, hnx⟩ | ⟨e, he, hns, W2, hnx, hit2, hg2, hen, hms⟩
        · go_wp2
          go_roundw
          case rel =>
            refine ⟨4, by omega, by go_num, s2, ?_, hS2⟩
            rw [hall] at hp2
            exact hp2.trans (hp.append_right _)
          case measure => simp [intOf]
        · have hS3 := hS2.kept hg2 (fun j hj => by cases hj; exact ⟨hS.below.size, _, _, _, _, hit⟩)
          have hen' : (Instr.entry (.pointer (some ⟨w0.heap.size, 0, none⟩))).run Tryz.prog W2 = .ok (.tuple #[encN e.1, encStr (vU e)]) W2 := hen
          have hnx' : ∀ ty, (Instr.next (.pointer (some ⟨w0.heap.size, 0, none⟩)) false ty).run Tryz.prog wr = .ok (.tuple #[.bool true, encN e.1, encStr (vU e)]) W2 := hnx
          have hgp := got_push seen e hns (lvE.getD 3 []) (by decide) he
          have X : Aside (s2.Perm (ss ++ got (lvE.getD 3 []) seen) ∧ (got (lvE.getD 3 []) seen ++ [vU e]).Perm (got (lvE.getD 3 []) (seen.push e.2.2)) ∧ W2.rangeLeft b3 w0.heap.size < wr.rangeLeft b3 w0.heap.size ∧ W2.heap[w0.heap.size]? = some (.mapIter (some b3) 2 (seen.push e.2.2) 2) ∧ ss.Perm ((lvE.take 3).flatMap fun es => es.map vU)) := ⟨hp2, hgp, hms, hit2, hp⟩
          clear hen hnx hgp hp2 hms hit2 hit hb2 hS2 hp hb hrg hix hS0 hst hg2
          have hrow3 := hS3.row.alloc (.cells #[encStr (vU e)] 9)
          have hsz3 := hS3.below.size
          have Y : Aside (St w [b0, b1, b2, b3, b4, b5] u1 s2 W2) := hS3
          clear hS3
          go_wp2_with (first
            | (at_builtin; refine wpList_append_own _ rfl _ _ 46 rfl w.heap.size 9 i0 (.string ⟨#[]⟩) 1 16 Tryz.underlying46 hi hz0 hz1 hz2 rfl (by decide) _ _ _ rfl hrow3 ⟨W2.heap.size, 0, none⟩ 1 1 [encStr (vU e)] rfl rfl (cell_one_new _ _ _) (by simp [Value.oneCell', encStr]) (by unfold maxLen; omega) (by omega) (by simp; omega) ?_; intro v' w3 hown' hg3 hnil3)
            | go_in)
          obtain ⟨hp2', hgp', hms', hit2', hp'⟩ := X
          have Y' : St w [b0, b1, b2, b3, b4, b5] u1 s2 W2 := Y
          have hS4 := (Y'.alloc (.cells #[encStr (vU e)] 9)).push hg3 hown'
          have hit4 := iter_kept hg3 ((heap_alloc_old W2 (.cells #[encStr (vU e)] 9) hit2')) (own_cells hrow3)
          have hlen4 : (s2 ++ [vU e]).length ≤ 1000000 := by
            have h1 := hp2'.length_eq
            have h2 := hp'.length_eq
            have h3 := got_len (lvE.getD 3 []) seen
            have h4 : (lvE.getD 3 []).length ≤ 10 := by decide
            have h5 : ((lvE.take 3).flatMap fun es => es.map vU).length ≤ 100 := by decide
            simp only [List.length_append, List.length_singleton] at h1 ⊢
            omega
          go_roundw
          case rel =>
            refine ⟨_, _, _, _, _, _, _, _, _, _, ⟨seen.push e.2.2, s2 ++ [vU e], ?_, hlen4, hS4, hit4⟩, rfl⟩
            have q := hp2'.append_right [vU e]
            rw [List.append_assoc] at q
            exact q.trans (hgp'.append_left ss)
          case measure =>
            have e1 : w3.rangeLeft b3 w0.heap.size = W2.rangeLeft b3 w0.heap.size := left_same (hS4.maps.2.2.2.1.trans Y'.maps.2.2.2.1.symm) (hit4.trans hit2'.symm)
            rw [e1]; exact hms'
    · have hb := hS.maps.2.2.2.2.1
      have hrg := run_range_map (P := Tryz.prog) w0 371 9 9 b4 ⟨(lvE.getD 4 []).map ent⟩ 3 Tryz.underlying371 hb
      have hix : ∀ W, (Instr.index 372 (Value.agg #[Value.map (some b0), Value.map (some b1), Value.map (some b2), Value.map (some b3), Value.map (some b4), Value.map (some b5)]) (Value.int IntKind.i64 4)).run Tryz.prog W = .ok (.map (some b4)) W := fun W => run_ix _ 4 _ (by omega) rfl W
      go_wp2
      have hS0 := hS.alloc (.mapIter (some b4) 3 #[] 3)
      go_loopw [1] (fun v wi => ∃ (seen : Array Nat) (s2 : List (List UInt8)), s2.Perm (ss ++ got (lvE.getD 4 []) seen) ∧ s2.length ≤ 1000000 ∧ St w [b0, b1, b2, b3, b4, b5] v s2 wi ∧ wi.heap[w0.heap.size]? = some (.mapIter (some b4) 3 seen 3)) (fun _ wi => wi.rangeLeft b4 w0.heap.size)
      case atStart => exact ⟨#[], ss, by simp [got_none], by rw [hp.length_eq]; decide, hS0, heap_alloc_new _ _⟩
      case round =>
        obtain ⟨seen, s2, hp2, hlen, hS2, hit⟩ := hrel
        have hb2 := hS2.maps.2.2.2.2.1
        rcases next_own (P := Tryz.prog) (es := lvE.getD 4 []) hit hb2 (by decide) (by decide) with ⟨hall, hnx⟩ | ⟨e, he, hns, W2, hnx, hit2, hg2, hen, hms⟩
        · go_wp2
          go_roundw
          case rel =>
            refine ⟨5, by omega, by go_num, s2, ?_, hS2⟩
            rw [hall] at hp2
            exact hp2.trans (hp.append_right _)
          case measure => simp [intOf]
        · have hS3 := hS2.kept hg2 (fun j hj => by cases hj; exact ⟨hS.below.size, _, _, _, _, hit⟩)
          have hen' : (Instr.entry (.pointer (some ⟨w0.heap.size, 0, none⟩))).run Tryz.prog W2 = .ok (.tuple #[encN e.1, encStr (vU e)]) W2 := hen
          have hnx' : ∀ ty, (Instr.next (.pointer (some ⟨w0.heap.size, 0, none⟩)) false ty).run Tryz.prog wr = .ok (.tuple #[.bool true, encN e.1, encStr (vU e)]) W2 := hnx
          have hgp := got_push seen e hns (lvE.getD 4 []) (by decide) he
          have X : Aside (s2.Perm (ss ++ got (lvE.getD 4 []) seen) ∧ (got (lvE.getD 4 []) seen ++ [vU e]).Perm (got (lvE.getD 4 []) (seen.push e.2.2)) ∧ W2.rangeLeft b4 w0.heap.size < wr.rangeLeft b4 w0.heap.size ∧ W2.heap[w0.heap.size]? = some (.mapIter (some b4) 3 (seen.push e.2.2) 3) ∧ ss.Perm ((lvE.take 4).flatMap fun es => es.map vU)) := ⟨hp2, hgp, hms, hit2, hp⟩
          clear hen hnx hgp hp2 hms hit2 hit hb2 hS2 hp hb hrg hix hS0 hst hg2
          have hrow3 := hS3.row.alloc (.cells #[encStr (vU e)] 9)
          have hsz3 := hS3.below.size
          have Y : Aside (St w [b0, b1, b2, b3, b4, b5] u1 s2 W2) := hS3
          clear hS3
          go_wp2_with (first
            | (at_builtin; refine wpList_append_own _ rfl _ _ 46 rfl w.heap.size 9 i0 (.string ⟨#[]⟩) 1 16 Tryz.underlying46 hi hz0 hz1 hz2 rfl (by decide) _ _ _ rfl hrow3 ⟨W2.heap.size, 0, none⟩ 1 1 [encStr (vU e)] rfl rfl (cell_one_new _ _ _) (by simp [Value.oneCell', encStr]) (by unfold maxLen; omega) (by omega) (by simp; omega) ?_; intro v' w3 hown' hg3 hnil3)
            | go_in)
          obtain ⟨hp2', hgp', hms', hit2', hp'⟩ := X
          have Y' : St w [b0, b1, b2, b3, b4, b5] u1 s2 W2 := Y
          have hS4 := (Y'.alloc (.cells #[encStr (vU e)] 9)).push hg3 hown'
          have hit4 := iter_kept hg3 ((heap_alloc_old W2 (.cells #[encStr (vU e)] 9) hit2')) (own_cells hrow3)
          have hlen4 : (s2 ++ [vU e]).length ≤ 1000000 := by
            have h1 := hp2'.length_eq
            have h2 := hp'.length_eq
            have h3 := got_len (lvE.getD 4 []) seen
            have h4 : (lvE.getD 4 []).length ≤ 10 := by decide
            have h5 : ((lvE.take 4).flatMap fun es => es.map vU).length ≤ 100 := by decide
            simp only [List.length_append, List.length_singleton] at h1 ⊢
            omega
          go_roundw
          case rel =>
            refine ⟨_, _, _, _, _, _, _, _, _, _, ⟨seen.push e.2.2, s2 ++ [vU e], ?_, hlen4, hS4, hit4⟩, rfl⟩
            have q := hp2'.append_right [vU e]
            rw [List.append_assoc] at q
            exact q.trans (hgp'.append_left ss)
          case measure =>
            have e1 : w3.rangeLeft b4 w0.heap.size = W2.rangeLeft b4 w0.heap.size := left_same (hS4.maps.2.2.2.2.1.trans Y'.maps.2.2.2.2.1.symm) (hit4.trans hit2'.symm)
            rw [e1]; exact hms'
    · have hb := hS.maps.2.2.2.2.2.1
      have hrg := run_range_map (P := Tryz.prog) w0 371 9 9 b5 ⟨(lvE.getD 5 []).map ent⟩ 1 Tryz.underlying371 hb
      have hix : ∀ W, (Instr.index 372 (Value.agg #[Value.map (some b0), Value.map (some b1), Value.map (some b2), Value.map (some b3), Value.map (some b4), Value.map (some b5)]) (Value.int IntKind.i64 5)).run Tryz.prog W = .ok (.map (some b5)) W := fun W => run_ix _ 5 _ (by omega) rfl W
      go_wp2
      have hS0 := hS.alloc (.mapIter (some b5) 1 #[] 1)
      go_loopw [1] (fun v wi => ∃ (seen : Array Nat) (s2 : List (List UInt8)), s2.Perm (ss ++ got (lvE.getD 5 []) seen) ∧ s2.length ≤ 1000000 ∧ St w [b0, b1, b2, b3, b4, b5] v s2 wi ∧ wi.heap[w0.heap.size]? = some (.mapIter (some b5) 1 seen 1)) (fun _ wi => wi.rangeLeft b5 w0.heap.size)
      case atStart => exact ⟨#[], ss, by simp [got_none], by rw [hp.length_eq]; decide, hS0, heap_alloc_new _ _⟩
      case round =>
        obtain ⟨seen, s2, hp2, hlen, hS2, hit⟩ := hrel
        have hb2 := hS2.maps.2.2.2.2.2.1
        rcases next_own (P := Tryz.prog) (es := lvE.getD 5 []) hit hb2 (by decide) (by decide) with ⟨hall, hnx⟩ | ⟨e, he, hns, W2, hnx, hit2, hg2, hen, hms⟩
        · go_wp2
          go_roundw
          case rel =>
            refine ⟨6, by omega, by go_num, s2, ?_, hS2⟩
            rw [hall] at hp2
            exact hp2.trans (hp.append_right _)
          case measure => simp [intOf]
        · have hS3 := hS2.kept hg2 (fun j hj => by cases hj; exact ⟨hS.below.size, _, _, _, _, hit⟩)
          have hen' : (Instr.entry (.pointer (some ⟨w0.heap.size, 0, none⟩))).run Tryz.prog W2 = .ok (.tuple #[encN e.1, encStr (vU e)]) W2 := hen
          have hnx' : ∀ ty, (Instr.next (.pointer (some ⟨w0.heap.size, 0, none⟩)) false ty).run Tryz.prog wr = .ok (.tuple #[.bool true, encN e.1, encStr (vU e)]) W2 := hnx
          have hgp := got_push seen e hns (lvE.getD 5 []) (by decide) he
          have X : Aside (s2.Perm (ss ++ got (lvE.getD 5 []) seen) ∧ (got (lvE.getD 5 []) seen ++ [vU e]).Perm (got (lvE.getD 5 []) (seen.push e.2.2)) ∧ W2.rangeLeft b5 w0.heap.size < wr.rangeLeft b5 w0.heap.size ∧ W2.heap[w0.heap.size]? = some (.mapIter (some b5) 1 (seen.push e.2.2) 1) ∧ ss.Perm ((lvE.take 5).flatMap fun es => es.map vU)) := ⟨hp2, hgp, hms, hit2, hp⟩
          clear hen hnx hgp hp2 hms hit2 hit hb2 hS2 hp hb hrg hix hS0 hst hg2
          have hrow3 := hS3.row.alloc (.cells #[encStr (vU e)] 9)
          have hsz3 := hS3.below.size
          have Y : Aside (St w [b0, b1, b2, b3, b4, b5] u1 s2 W2) := hS3
          clear hS3
          go_wp2_with (first
            | (at_builtin; refine wpList_append_own _ rfl _ _ 46 rfl w.heap.size 9 i0 (.string ⟨#[]⟩) 1 16 Tryz.underlying46 hi hz0 hz1 hz2 rfl (by decide) _ _ _ rfl hrow3 ⟨W2.heap.size, 0, none⟩ 1 1 [encStr (vU e)] rfl rfl (cell_one_new _ _ _) (by simp [Value.oneCell', encStr]) (by unfold maxLen; omega) (by omega) (by simp; omega) ?_; intro v' w3 hown' hg3 hnil3)
            | go_in)
          obtain ⟨hp2', hgp', hms', hit2', hp'⟩ := X
          have Y' : St w [b0, b1, b2, b3, b4, b5] u1 s2 W2 := Y
          have hS4 := (Y'.alloc (.cells #[encStr (vU e)] 9)).push hg3 hown'
          have hit4 := iter_kept hg3 ((heap_alloc_old W2 (.cells #[encStr (vU e)] 9) hit2')) (own_cells hrow3)
          have hlen4 : (s2 ++ [vU e]).length ≤ 1000000 := by
            have h1 := hp2'.length_eq
            have h2 := hp'.length_eq
            have h3 := got_len (lvE.getD 5 []) seen
            have h4 : (lvE.getD 5 []).length ≤ 10 := by decide
            have h5 : ((lvE.take 5).flatMap fun es => es.map vU).length ≤ 100 := by decide
            simp only [List.length_append, List.length_singleton] at h1 ⊢
            omega
          go_roundw
          case rel =>
            refine ⟨_, _, _, _, _, _, _, _, _, _, ⟨seen.push e.2.2, s2 ++ [vU e], ?_, hlen4, hS4, hit4⟩, rfl⟩
            have q := hp2'.append_right [vU e]
            rw [List.append_assoc] at q
            exact q.trans (hgp'.append_left ss)
          case measure =>
            have e1 : w3.rangeLeft b5 w0.heap.size = W2.rangeLeft b5 w0.heap.size := left_same (hS4.maps.2.2.2.2.2.1.trans Y'.maps.2.2.2.2.2.1.symm) (hit4.trans hit2'.symm)
            rw [e1]; exact hms'
    · have hp6 : ss.Perm allOps := hp
      have hrow6 := hS.row
      have hbl6 := hS.below
      go_wp2_with (first
        | (go_at_call 46; refine (sort_own w.heap.size _ ss _ hp6 hrow6).mono ?_; rintro e w2 ⟨rfl, hr2, hb2⟩)
        | (go_at_call 23; refine (compact_own w.heap.size _ _ hr2).mono ?_; rintro e w3 ⟨g, cap, rfl, hr3, hb3⟩)
        | go_in)
      go_ret
      exact ⟨g, cap, rfl, hr3, (hbl6.trans hb2).trans hb3⟩
end Go.Proofs

namespace Go.Proofs
open Go Go.Ev Go.RowKit
noncomputable section
def opsAV : List AV := endOps.map fun s => .str (s.map UInt8.toNat)
theorem ops_VRs (μ : Mp) : VRs μ opsAV (endOps.map encStr) := by
  simp only [opsAV]
  generalize endOps = l
  induction l with
  | nil => exact .nil
  | cons x l ih => exact .cons _ _ _ _ (.str _ _ (by simp)) ih
theorem ops_ok (G : Nat) : TEOk Tryz.prog G (ownTE 223 G 16 opsAV 9) := ownTE_ok ops_VRs (by decide +kernel) operators_walk
end
end Go.Proofs
