/- PROVED: what syntax.Operators returns (part OpB). CONDITIONS: none. -/
import Derived.Test.YtblbcopalfngcaaGreatDoorOpA
import Derived.Test.YtblbcopalfngcaaGreatDoorShelf
import Derived.Sort.KeysCollected
import Derived.Lib.SlicesCompact
import Derived.Maps.RangeRun
import Derived.Sort.OwnSorted
import Derived.Sort.Grow
import Derived.Lib.OwnBridge
import Derived.Maps.Range
import Derived.Laws.AppendOwn
import Derived.WalkKit
set_option linter.unusedVariables false
namespace Go.Ev
open Go Go.Proofs

def vU (x : List Nat × List Nat × Nat) : List UInt8 := x.2.1.map Nat.toUInt8
/-- The values of the entries that have been handed out. -/
def got (l : List (List Nat × List Nat × Nat)) (seen : Array Nat) : List (List UInt8) := (l.filter fun x => seen.contains x.2.2).map vU
theorem got_none (l : List (List Nat × List Nat × Nat)) : got l #[] = [] := by simp [got]
theorem got_other (seen : Array Nat) (b : Nat) : ∀ (l : List (List Nat × List Nat × Nat)), b ∉ l.map (·.2.2) → got l (seen.push b) = got l seen
  | [], _ => rfl
  | x :: l, h => by
    have hx : (x.2.2 == b) = false := by
      cases hc : x.2.2 == b with
      | false => rfl
      | true => exact absurd (List.mem_cons.2 (Or.inl (beq_iff_eq.1 hc).symm)) h
    have ih := got_other seen b l (fun e => h (List.mem_cons.2 (Or.inr e)))
    cases hc : seen.contains x.2.2 with
    | true =>
      have e1 : got (x :: l) seen = vU x :: got l seen := by simp only [got, List.filter_cons, hc, if_true, List.map_cons]
      have e2 : got (x :: l) (seen.push b) = vU x :: got l (seen.push b) := by simp only [got, List.filter_cons, contains_push, hc, Bool.true_or, if_true, List.map_cons]
      rw [e1, e2, ih]
    | false =>
      have e1 : got (x :: l) seen = got l seen := by simp only [got, List.filter_cons, hc]; rfl
      have e2 : got (x :: l) (seen.push b) = got l (seen.push b) := by simp only [got, List.filter_cons, contains_push, hc, hx, Bool.or_false]; rfl
      rw [e1, e2, ih]
theorem got_push (seen : Array Nat) (e : List Nat × List Nat × Nat) (hs : seen.contains e.2.2 = false) : ∀ (l : List (List Nat × List Nat × Nat)), (l.map (·.2.2)).Nodup → e ∈ l → (got l seen ++ [vU e]).Perm (got l (seen.push e.2.2))
  | x :: l, hn, he => by
    have hn' : x.2.2 ∉ l.map (·.2.2) ∧ (l.map (·.2.2)).Nodup := List.nodup_cons.1 hn
    rcases List.mem_cons.1 he with rfl | h
    · have h1 := got_other seen e.2.2 l hn'.1
      have e1 : got (e :: l) seen = got l seen := by simp only [got, List.filter_cons, hs]; rfl
      have e2 : got (e :: l) (seen.push e.2.2) = vU e :: got l (seen.push e.2.2) := by
        simp only [got, List.filter_cons, contains_push, beq_self_eq_true, Bool.or_true, if_true, List.map_cons]
      rw [e1, e2, h1]
      exact List.perm_append_comm
    · have hx : (x.2.2 == e.2.2) = false := by
        cases hc : x.2.2 == e.2.2 with
        | false => rfl
        | true => exact absurd (by rw [beq_iff_eq.1 hc]; exact List.mem_map.2 ⟨e, h, rfl⟩) hn'.1
      have ih := got_push seen e hs l hn'.2 h
      cases hc : seen.contains x.2.2 with
      | true =>
        have e1 : got (x :: l) seen = vU x :: got l seen := by simp only [got, List.filter_cons, hc, if_true, List.map_cons]
        have e2 : got (x :: l) (seen.push e.2.2) = vU x :: got l (seen.push e.2.2) := by simp only [got, List.filter_cons, contains_push, hc, Bool.true_or, if_true, List.map_cons]
        rw [e1, e2]
        exact ih.cons _
      | false =>
        have e1 : got (x :: l) seen = got l seen := by simp only [got, List.filter_cons, hc]; rfl
        have e2 : got (x :: l) (seen.push e.2.2) = got l (seen.push e.2.2) := by simp only [got, List.filter_cons, contains_push, hc, hx, Bool.or_false]; rfl
        rw [e1, e2]
        exact ih
theorem got_all {l : List (List Nat × List Nat × Nat)} {seen : Array Nat} (h : (leftOf ⟨l.map ent⟩ seen).size = 0) : got l seen = l.map vU := by
  have ha := all_seen ⟨l.map ent⟩ seen h
  have : l.filter (fun x => seen.contains x.2.2) = l := List.filter_eq_self.2 fun x hx => ha (ent x) (by simpa using ⟨x.1, x.2.1, x.2.2, hx, rfl⟩)
  simp only [got, this]

/-- The operators, as the maps give them; as they stand in the end. -/
def allOps : List (List UInt8) := lvE.flatMap fun es => es.map vU
def sortedOps : List (List UInt8) := [[36], [37], [42], [43], [45], [46, 65, 78, 68, 46], [46, 79, 82, 46], [47], [60], [60, 61], [60, 62], [60, 62], [60, 62], [61], [61, 61], [62], [62, 61], [94]]
def endOps : List (List UInt8) := [[36], [37], [42], [43], [45], [46, 65, 78, 68, 46], [46, 79, 82, 46], [47], [60], [60, 61], [60, 62], [61], [61, 61], [62], [62, 61], [94]]
theorem sorted_perm : sortedOps.isPerm allOps = true := by decide +kernel
theorem sorted_pw : sortedOps.Pairwise (fun a b => leB a b = true) := by decide +kernel
theorem compact_ops : Lib.compact sortedOps = endOps := by decide +kernel
theorem sort_ops {ss : List (List UInt8)} (h : ss.Perm allOps) : ss.mergeSort leB = sortedOps := by
  have tr : ∀ a b c : List UInt8, leB a b = true → leB b c = true → leB a c = true := fun a b c h1 h2 => by simp only [leB, decide_eq_true_eq] at *; exact List.le_trans h1 h2
  have to : ∀ a b : List UInt8, (leB a b || leB b a) = true := fun a b => by simp only [leB, Bool.or_eq_true, decide_eq_true_eq]; exact List.le_total a b
  refine List.Perm.eq_of_pairwise (le := fun a b => leB a b = true) (fun a b _ _ h1 h2 => ?_) (List.pairwise_mergeSort tr to ss) sorted_pw (((List.mergeSort_perm ss leB).trans h).trans (List.isPerm_iff.1 sorted_perm).symm)
  simp only [leB, decide_eq_true_eq] at h1 h2
  exact List.le_antisymm h1 h2
end Go.Ev

namespace Go.Proofs
open Go Go.Ev Go.RowKit Go.Maps Go.Sort
set_option linter.unusedVariables false

theorem sort_own (base : Nat) (v : Value) (ss : List (List UInt8)) (W : World) (hp : ss.Perm allOps) (hown : W.ownsRow base 9 1 v ss.length (ss.map encStr)) :
    Calls Tryz.prog 112 #[v] W fun e w' => e = .returned (.tuple #[]) ∧ w'.ownsRow base 9 1 v 18 (sortedOps.map encStr) ∧ Below base W w' := by
  have hl : ss.length = 18 := by rw [hp.length_eq]; rfl
  rcases hown.2 with ⟨_, h0⟩ | ⟨g, cap, cur, rfl, hbase, hb, h1, h2, h3, h4⟩
  · omega
  have hH : Holds encStr W g 0 ss.toArray := holds_of_block hb (by simpa using h4)
  have hgl : g < W.heap.size := (Array.getElem?_eq_some_iff.1 hb).1
  refine (Tryz.slices_Sort_string g 0 cap ss W hH hgl (by omega)).mono ?_
  rintro e w' ⟨rfl, nn, os, rfl⟩
  have hs : (ss.mergeSort fun x y => decide (x ≤ y)) = sortedOps := sort_ops hp
  rw [hs, hl]
  have := ownsRow_sorted (n := nn) (os := os) (ts := sortedOps) (ss := ss) (by rw [hl]; rfl) hbase hb h1 h2 h3
  rw [hl] at this
  exact ⟨rfl, this, (Below.refl _ _).grown (grownBy_sorted _) (Nat.le_of_lt (Nat.lt_of_le_of_lt hbase hgl)) (fun j hj => by cases hj; exact hbase)⟩

theorem compact_own (base : Nat) (v : Value) (W : World) (hown : W.ownsRow base 9 1 v 18 (sortedOps.map encStr)) :
    Calls Tryz.prog 60 #[v] W fun e w' => ∃ g cap, e = .returned (.slice (some ⟨g, 0, none⟩) 16 cap) ∧ w'.ownsRow base 9 1 (.slice (some ⟨g, 0, none⟩) 16 cap) 16 (endOps.map encStr) ∧ Below base W w' := by
  rcases hown.2 with ⟨_, h0⟩ | ⟨g, cap, cur, rfl, hbase, hb, h1, h2, h3, h4⟩
  · omega
  have hH : Holds encStr W g 0 sortedOps.toArray := holds_of_block hb (by rw [show sortedOps.length = 18 from rfl]; simpa using h4)
  refine (Tryz.slices_Compact_string g 0 cap sortedOps W hH (by decide) h1).mono ?_
  rintro e w' ⟨rfl, q, rfl⟩
  rw [compact_ops]
  have hc := Lib.ownsRow_putRow (q := q) (k := 16) (ys := endOps ++ List.replicate 2 []) hown (by rfl) (by decide)
  exact ⟨g, cap, rfl, hc, Lib.below_putRow (Below.refl _ _) hbase⟩

theorem next_own {P : Program} {W : World} {r b : Nat} {es : List (List Nat × List Nat × Nat)} {seen : Array Nat} (hr : W.heap[r]? = some (.mapIter (some b) es.length seen es.length)) (hb : W.heap[b]? = some (.map ⟨es.map ent⟩ es.length))
    (hlt : ∀ x ∈ es, x.2.2 < es.length) (hn : (es.map (·.2.2)).Nodup) :
    (got es seen = es.map vU ∧ ∀ ty, (Instr.next (.pointer (some ⟨r, 0, none⟩)) false ty).run P W = .ok (.tuple #[.bool false]) W) ∨
    ∃ e ∈ es, seen.contains e.2.2 = false ∧ ∃ W2, (∀ ty, (Instr.next (.pointer (some ⟨r, 0, none⟩)) false ty).run P W = .ok (.tuple #[.bool true, encN e.1, encN e.2.1]) W2) ∧ W2.heap[r]? = some (.mapIter (some b) es.length (seen.push e.2.2) es.length) ∧
      W.grownBy W2 (some r) ∧ (Instr.entry (.pointer (some ⟨r, 0, none⟩))).run P W2 = .ok (.tuple #[encN e.1, encN e.2.1]) W2 ∧ W2.rangeLeft b r < W.rangeLeft b r := by
  have hne : r ≠ b := fun e => by rw [e, hb] at hr; cases hr
  have law := fun ty => run_next_at (P := P) W ty r b es.length es.length seen ⟨es.map ent⟩ es.length hr hb (fun x hx => by
    obtain ⟨y, hy, rfl⟩ := List.mem_map.1 hx; exact hlt y hy) (Nat.le_refl _)
  rcases law 0 with ⟨h0, hrun⟩ | ⟨e, he, w1, hw1, hrun⟩
  · exact .inl ⟨got_all h0, fun ty => hrun⟩
  · refine .inr ?_
    obtain ⟨hmem, hns⟩ := mem_left he
    obtain ⟨y, hy, rfl⟩ := List.mem_map.1 hmem
    have hsz : r < W.heap.size := (Array.getElem?_eq_some_iff.1 hr).1
    have hw : w1.heap = W.heap := by rcases hw1 with rfl | rfl <;> rfl
    have hr2 : (ChangeMaps.setBlock w1 r (.mapIter (some b) es.length (seen.push y.2.2) es.length)).heap[r]? = some (.mapIter (some b) es.length (seen.push y.2.2) es.length) := by
      simp [ChangeMaps.setBlock, hw, hsz]
    have hb2 : (ChangeMaps.setBlock w1 r (.mapIter (some b) es.length (seen.push y.2.2) es.length)).heap[b]? = some (.map ⟨es.map ent⟩ es.length) := by
      simp [ChangeMaps.setBlock, hw, hne, hb]
    refine ⟨y, hy, hns, ChangeMaps.setBlock w1 r (.mapIter (some b) es.length (seen.push y.2.2) es.length), fun ty => hrun, hr2, ?_, ?_, ?_⟩
    · refine ⟨?_, ?_, ?_, by simp [ChangeMaps.setBlock, hw], fun k hk hkr => ?_⟩
      · rcases hw1 with rfl | rfl <;> rfl
      · rcases hw1 with rfl | rfl <;> rfl
      · rcases hw1 with rfl | rfl <;> rfl
      · have : r ≠ k := fun e => hkr (by rw [e])
        simp [ChangeMaps.setBlock, hw, this]
    · exact run_entry_at _ r b es.length seen ⟨es.map ent⟩ es.length (ent y) hr2 hb2 hmem (by rw [show (⟨es.map ent⟩ : Array MapEntry).toList = es.map ent from rfl, List.map_map]; exact hn)
    · simp only [World.rangeLeft, hr, hb, hr2, hb2]
      exact left_shrinks ⟨es.map ent⟩ seen (ent y) he
end Go.Proofs

namespace Go.Proofs
open Go Go.Ev Go.RowKit Go.Maps Go.Sort
open Go Go.Ev Go.RowKit Go.Maps Go.Sort
set_option linter.unusedVariables false
end Go.Proofs
namespace Go.Ev
open Go
theorem MapsAt.kept {w w' : World} {row : Option Nat} (hg : w.grownBy w' row) (hr : ∀ j es c, row = some j → w.heap[j]? ≠ some (.map es c)) : ∀ {bs : List Nat} {L : List (List (List Nat × List Nat × Nat))}, MapsAt w bs L → MapsAt w' bs L
  | [], [], _ => trivial
  | [], _ :: _, h => h
  | _ :: _, [], h => h
  | b :: bs, es :: L, ⟨h1, h2⟩ => ⟨(hg.block b (Array.getElem?_eq_some_iff.1 h1).1 (fun e => hr b _ _ e.symm h1)).trans h1, MapsAt.kept hg hr h2⟩

end Go.Ev

namespace Go.Proofs
open Go Go.Ev Go.RowKit Go.Maps Go.Sort
/-- What holds all along: 'out' owns ss; the maps lie; below nothing has turned. -/
structure St (w : World) (bs : List Nat) (v : Value) (ss : List (List UInt8)) (wi : World) : Prop where
  row : wi.ownsRow w.heap.size 9 1 v ss.length (ss.map encStr)
  maps : MapsAt wi bs lvE
  below : Below w.heap.size w wi

theorem St.kept {w wi w' : World} {bs : List Nat} {v : Value} {ss : List (List UInt8)} {row : Option Nat} (h : St w bs v ss wi) (hg : wi.grownBy w' row) (hr : ∀ j, row = some j → w.heap.size ≤ j ∧ ∃ m a s c, wi.heap[j]? = some (.mapIter m a s c)) : St w bs v ss w' := by
  refine ⟨h.row.kept hg ?_, h.maps.kept hg ?_, h.below.grown hg h.below.size (fun j hj => (hr j hj).1)⟩
  · cases hv : v.ownBlock with
    | none => exact .inl rfl
    | some g =>
      refine .inr fun e => ?_
      obtain ⟨_, m, a, s, c, hm⟩ := hr g e.symm
      rcases h.row.2 with ⟨rfl, _⟩ | ⟨g', cap, cur, rfl, _, hb, _⟩
      · simp [Value.ownBlock] at hv
      · simp only [Value.ownBlock, Option.some.injEq] at hv
        subst hv
        rw [hb] at hm; cases hm
  · intro j es c hj hm
    obtain ⟨_, m, a, s, c', hm'⟩ := hr j hj
    rw [hm] at hm'; cases hm'
theorem St.alloc {w wi : World} {bs : List Nat} {v : Value} {ss : List (List UInt8)} (h : St w bs v ss wi) (o : Obj) : St w bs v ss (wi.alloc o) := h.kept (World.grownBy_alloc wi o none) (fun j hj => by cases hj)
/-- An append. -/
theorem St.push {w wi w' : World} {bs : List Nat} {v v' : Value} {ss : List (List UInt8)} {x : List UInt8} (h : St w bs v ss wi) (hg : wi.grownBy w' v.ownBlock) (hown : w'.ownsRow w.heap.size 9 1 v' (ss.length + 1) (ss.map encStr ++ [encStr x])) : St w bs v' (ss ++ [x]) w' := by
  refine ⟨by simpa using hown, h.maps.kept hg ?_, h.below.grown hg h.below.size (fun j hj => (h.row.lt j hj).1)⟩
  intro j es c hj hm
  rcases h.row.2 with ⟨rfl, _⟩ | ⟨g', cap, cur, rfl, _, hb, _⟩
  · simp [Value.ownBlock] at hj
  · simp only [Value.ownBlock, Option.some.injEq] at hj
    subst hj
    rw [hb] at hm; cases hm
theorem St.start {w w1 : World} {bs : List Nat} (hm : MapsAt w1 bs lvE) (hb : Below w.heap.size w w1) : St w bs (.slice none 0 0) [] w1 := ⟨⟨rfl, .inl ⟨rfl, rfl⟩⟩, hm, hb⟩
theorem Tryz.info9 : (Tryz.prog.info? 9).map (fun i => (i.zero, i.size, i.bytes)) = some (some (.string ⟨#[]⟩), 1, 16) := by kernel_rfl
end Go.Proofs
namespace Go.Ev
open Go Go.Proofs
theorem ix_size : sizeA Tryz.prog 420 = some 1 := by kernel_rfl
theorem ix_agg : isAggA Tryz.prog 420 = some false := by kernel_rfl
theorem run_ix (cs : Array Value) (i : Nat) (v : Value) (hi : i < 6) (h : cs[i]? = some v) (W : World) : (Instr.index 421 (.agg cs) (.int .i64 i)).run Tryz.prog W = .ok v W := by
  simp [Instr.index, asIntOf, run_underlying_ev Tryz.underlying421, run_sizeOf_ev ix_size, part, run_isAgg_ev ix_agg, hi, h]
end Go.Ev
namespace Go.Proofs
open Go Go.Ev Go.RowKit Go.Maps Go.Sort
theorem iter_kept {w w' : World} {row : Option Nat} {r : Nat} {m : Option Nat} {a c : Nat} {s : Array Nat} (hg : w.grownBy w' row) (h : w.heap[r]? = some (.mapIter m a s c)) (hr : ∀ j, row = some j → ∃ cs e fr, w.heap[j]? = some (.cells cs e fr)) : w'.heap[r]? = some (.mapIter m a s c) :=
  (hg.block r (Array.getElem?_eq_some_iff.1 h).1 (fun e => by
    obtain ⟨cs, e, fr, h2⟩ := hr r e.symm
    rw [h] at h2; cases h2)).trans h
theorem own_cells {w : World} {base e size n : Nat} {v : Value} {xs : List Value} (h : w.ownsRow base e size v n xs) : ∀ j, v.ownBlock = some j → ∃ cs e fr, w.heap[j]? = some (.cells cs e fr) := by
  intro j hj
  rcases h.2 with ⟨rfl, _⟩ | ⟨g, cap, cur, rfl, _, hb, _⟩
  · simp [Value.ownBlock] at hj
  · simp only [Value.ownBlock, Option.some.injEq] at hj
    subst hj
    exact ⟨_, _, _, hb⟩
theorem left_same {w w' : World} {b r : Nat} (h1 : w'.heap[b]? = w.heap[b]?) (h2 : w'.heap[r]? = w.heap[r]?) : w'.rangeLeft b r = w.rangeLeft b r := by
  simp only [World.rangeLeft, h1, h2]
theorem got_len (l : List (List Nat × List Nat × Nat)) (seen : Array Nat) : (got l seen).length ≤ l.length := by
  simp only [got, List.length_map]; exact List.length_filter_le _ _
theorem heap_alloc_old (w : World) (o : Obj) {r : Nat} {x : Obj} (h : w.heap[r]? = some x) : (w.alloc o).heap[r]? = some x := by
  have hr := (Array.getElem?_eq_some_iff.1 h).1
  simp only [World.alloc, Array.getElem?_push]
  rw [if_neg (by omega)]; exact h
end Go.Proofs
