/- PROVED: contracts of the functions that SqlDistincts reaches (part DvE). CONDITIONS: none. -/
import Derived.Test.YtmomolpgjkejgaaGreatDoorDvD
import Derived.Test.YtmomolpgjkejgaaGreatDoorEvC
import Derived.Lib.SliceRun
import Derived.ChangeArms
import Derived.Deep.Strs
import Derived.SliceStrings
set_option linter.unusedSimpArgs false
set_option linter.unusedVariables false
set_option linter.unusedVariables false
namespace Go.Proofs.YtmomolpgjkejgaaGreatDoor
open Go Go.RowKit Go.Lib
theorem info43 : (Tryz.prog.info? 43).map (fun i => (i.zero, i.size, i.bytes)) = some (some (.agg #[.int .i64 0, .int .i64 0, .string ⟨#[]⟩]), 3, 32) := by kernel_rfl
def cells3 (x : Vl) : List Value := [.int .i64 x.k, .int .i64 x.n, .string x.s]
def flat (r : List Vl) : List Value := r.flatMap cells3
theorem flat_len (r : List Vl) : (flat r).length = r.length * 3 := by
  induction r with
  | nil => rfl
  | cons x r ih => simp only [flat, List.flatMap_cons, List.length_append, List.length_cons] at *; rw [ih]; simp [cells3]; omega
theorem flat_get : ∀ (r : List Vl) (q m : Nat), q < r.length → m < 3 → (flat r)[q * 3 + m]? = (cells3 (r.getD q d0))[m]?
  | [], q, m, h, _ => by simp at h
  | x :: r, 0, m, _, hm => by
    simp only [flat, List.flatMap_cons, Nat.zero_mul, Nat.zero_add]
    rw [List.getElem?_append_left (by simp [cells3]; omega)]
    rfl
  | x :: r, q + 1, m, h, hm => by
    have ih := flat_get r q m (by simpa using h) hm
    simp only [flat, List.flatMap_cons] at *
    rw [List.getElem?_append_right (by simp [cells3]; omega)]
    have e : (q + 1) * 3 + m - (cells3 x).length = q * 3 + m := by simp [cells3]; omega
    rw [e, ih]
    simp [List.getD]
theorem flat_cells {w : World} {b o : Nat} {r : List Vl} (hc : ∀ j, j < r.length → w.cell? ⟨b, o + j * 3, none⟩ = some (.int .i64 (r.getD j d0).k) ∧ w.cell? ⟨b, o + j * 3 + 1, none⟩ = some (.int .i64 (r.getD j d0).n) ∧ w.cell? ⟨b, o + j * 3 + 2, none⟩ = some (.string (r.getD j d0).s)) :
    ∀ j u, (flat r)[j]? = some u → w.cell? ((⟨b, o, none⟩ : Addr).add j) = some u := by
  intro j u hu
  have hj : j < r.length * 3 := by rw [← flat_len]; exact (List.getElem?_eq_some_iff.1 hu).1
  obtain ⟨h1, h2, h3⟩ := hc (j / 3) (by omega)
  have e : j = j / 3 * 3 + j % 3 := by omega
  have hm : j % 3 < 3 := Nat.mod_lt _ (by decide)
  rw [e, flat_get r (j / 3) (j % 3) (by omega) hm] at hu
  have ea : (⟨b, o, none⟩ : Addr).add j = ⟨b, o + j, none⟩ := by
    unfold Addr.add; split
    · rename_i h; simp [h]
    · rfl
  rw [ea, e]
  have hm3 : j % 3 = 0 ∨ j % 3 = 1 ∨ j % 3 = 2 := by omega
  rcases hm3 with hm3 | hm3 | hm3 <;> rw [hm3] at hu ⊢ <;> simp only [cells3] at hu <;> simp at hu <;> subst hu
  · simpa using h1
  · rw [← Nat.add_assoc]; exact h2
  · rw [← Nat.add_assoc]; exact h3
theorem rowIn_of_own {w : World} {base base' : Nat} {v : Value} {r : List Vl} (hs : ∀ x ∈ r, x.s.size ≤ 9223372036854775807) (h : w.ownsRow base 43 3 v r.length (flat r)) : RowIn w base' v r := by
  rcases h.2 with ⟨rfl, h0⟩ | ⟨g, cap, cur, rfl, hb, hg, h1, h2, h3, h4⟩
  · have : r = [] := List.eq_nil_of_length_eq_zero h0
    subst this
    exact ⟨⟨by simp, by simp, none, 0, rfl, .inl rfl⟩, .inl rfl⟩
  · have hcell : ∀ q m, q < r.length → m < 3 → w.cell? ⟨g, q * 3 + m, none⟩ = (cells3 (r.getD q d0))[m]? := fun q m hq hm => by
      rw [← flat_get r q m hq hm, ← h4, List.getElem?_take, if_pos (by omega)]
      simp [World.cell?, hg]
    refine ⟨⟨by simp only [maxLen] at h2; omega, hs, _, cap, rfl, .inr ⟨g, 0, rfl, fun j hj => ?_⟩⟩, .inr ⟨g, 0, cap, rfl, .inr ⟨cur, _, hg⟩⟩⟩
    rw [Nat.zero_add]
    exact ⟨hcell j 0 hj (by decide), hcell j 1 hj (by decide), hcell j 2 hj (by decide)⟩
set_option maxHeartbeats 4000000 in
set_option maxRecDepth 100000 in
theorem clone25 (v : Value) (r : List Vl) (w : World) (h : RowAt w v r) (hn : r.length ≤ 1048576) :
    Calls Tryz.prog 25 #[v] w fun e w' => ∃ v', e = .returned v' ∧ RowIn w' 0 v' r ∧ Below w.heap.size w w' := by
  obtain ⟨i0, hi, hz0, hz1, hz2⟩ := info_parts info43
  have q31 : ∀ (w : World) (a : Option Addr) (n c n' c' : Nat), (binOp .eql 31 (.slice a n c) (.slice none n' c')).run Tryz.prog w = .ok (.bool a.isNone) w := fun w a n c n' c' => Lib.run_eql_slice_nil w _ _ a n c n' c' Tryz.underlying31
  obtain ⟨h0, hs, a, c, rfl, h1⟩ := h
  have HS := Lib.hid hs
  cases a with
  | none =>
    have hr : r = [] := by
      rcases h1 with h1 | ⟨b, o, e, _⟩
      · exact h1
      · cases e
    subst hr
    clear h1 hs hn
    go_enter Tryz.func25, Tryz.ntmps25
    go_wp2
    go_ret
    exact ⟨_, rfl, ⟨⟨by simp, by simp, none, 0, rfl, .inl rfl⟩, .inl rfl⟩, Below.refl _ _⟩
  | some ad =>
    have hcells : ∀ j u, (flat r)[j]? = some u → w.cell? (ad.add j) = some u := by
      rcases h1 with rfl | ⟨b, o, e, hc⟩
      · intro j u hu; simp [flat] at hu
      · cases e; exact flat_cells hc
    have HC := Lib.hid hcells
    clear h1 hs hcells
    go_enter Tryz.func25, Tryz.ntmps25
    go_wp2_with (at_builtin; refine wpList_append_own _ rfl _ _ 31 rfl w.heap.size 43 i0 (.agg #[.int .i64 0, .int .i64 0, .string ⟨#[]⟩]) 3 32 Tryz.underlying31 hi hz0 hz1 hz2 rfl (by decide) _ _ _ rfl (World.ownsRow_made w #[] 0 (Nat.le_refl _) (Nat.zero_le _) (by simp)) ad r.length c (flat r) rfl ?c1 ?c2 ?c3 ?c4 ?c5 ?c6 ?_)
    case c1 => exact flat_len r
    case c2 =>
      intro j u hj
      exact Lib.cell?_alloc_some _ (HC.out j u hj)
    case c3 =>
      intro u hu
      simp only [flat, List.mem_flatMap, cells3] at hu
      obtain ⟨x, _, hu⟩ := hu
      simp only [List.mem_cons, List.not_mem_nil, or_false] at hu
      rcases hu with rfl | rfl | rfl <;> rfl
    case c4 => unfold maxLen; omega
    case c5 => omega
    case c6 => simp
    intro v' w1 hown hgrow hnil
    go_wp2
    go_ret
    have ho : w1.ownsRow w.heap.size 43 3 v' r.length (flat r) := by simpa using hown
    exact ⟨v', rfl, rowIn_of_own HS.out ho, ((Below.refl _ w).alloc (Nat.le_refl _) _).grown hgrow (by simp) (by intro k hk; simp [Value.ownBlock] at hk; omega)⟩
end Go.Proofs.YtmomolpgjkejgaaGreatDoor

set_option linter.unusedVariables false
namespace Go.Proofs.YtmomolpgjkejgaaGreatDoor
open Go Go.RowKit Go.Lib Go.Ev
def entS (p : ByteArray × Nat) : MapEntry := { key := .string p.1, val := .bool true, born := p.2 }
/-- A set of strings: a map to true. -/
def MapIs (w : World) (g : Nat) (S : List ByteArray) : Prop :=
  ∃ (l : List (ByteArray × Nat)) (clock : Nat), w.heap[g]? = some (.map ⟨l.map entS⟩ clock) ∧ ∀ s, s ∈ l.map (·.1) ↔ s ∈ S
theorem bb_eq (a b : ByteArray) : (a == b) = decide (a = b) := by
  have h : (a == b) = (a.data == b.data) := rfl
  rw [h, Bool.eq_iff_iff, beq_iff_eq, decide_eq_true_iff]
  constructor
  · intro e; cases a; cases b; simp only at e; rw [e]
  · intro e; rw [e]
theorem findNow_no (s : ByteArray) : ∀ (l : List (ByteArray × Nat)) (i : Nat), s ∉ l.map (·.1) → Instr.findNow .string (.string s) (l.map entS) i = some none
  | [], _, _ => rfl
  | p :: l, i, h => by
    have h1 : (s == p.1) = false := by
      simp only [List.map_cons, List.mem_cons, not_or] at h
      rw [bb_eq]; exact decide_eq_false h.1
    simp only [List.map_cons, Instr.findNow, Instr.sameNow, entS, h1]
    exact findNow_no s l (i + 1) fun hm => h (by simp only [List.map_cons, List.mem_cons]; exact .inr hm)
theorem findNow_yes (s : ByteArray) : ∀ (l : List (ByteArray × Nat)) (i : Nat), s ∈ l.map (·.1) → ∃ j e, Instr.findNow .string (.string s) (l.map entS) i = some (some (j, .bool true)) ∧ i ≤ j ∧ (l.map entS)[j - i]? = some e ∧ e.key = .string s
  | [], _, h => by simp at h
  | p :: l, i, h => by
    by_cases h1 : s = p.1
    · subst h1
      have h2 : (p.1 == p.1) = true := by rw [bb_eq]; exact decide_eq_true rfl
      exact ⟨i, entS p, by simp only [List.map_cons, Instr.findNow, Instr.sameNow, entS, h2], Nat.le_refl _, by simp, rfl⟩
    · have h2 : (s == p.1) = false := by rw [bb_eq]; exact decide_eq_false h1
      obtain ⟨j, e, k1, k2, k3, k4⟩ := findNow_yes s l (i + 1) (by simpa [h1] using h)
      refine ⟨j, e, by simp only [List.map_cons, Instr.findNow, Instr.sameNow, entS, h2]; exact k1, by omega, ?_, k4⟩
      rw [show j - i = (j - (i + 1)) + 1 by omega]
      simpa using k3
theorem map_ty : Tryz.prog.underlying 60 = some (.map 9 4) := by kernel_rfl
theorem map_lookup_no {w : World} {g : Nat} {S : List ByteArray} (h : MapIs w g S) {s : ByteArray} (hs : s ∉ S) : (Instr.lookup 60 (.map (some g)) (.string s) false).run Tryz.prog w = .ok (.bool false) w := by
  obtain ⟨l, clock, h1, h2⟩ := h
  have hz : (zeroValue 4).run Tryz.prog w = .ok (.bool false) w := Tryz.zeroValue4 w
  rw [lookup_core map_ty Tryz.underlying9 (fun e => run_checkKey Tryz.underlying9 rfl) (.inr ⟨g, clock, rfl, h1⟩) (run_findKey Tryz.underlying9 (findNow_no s l 0 fun hm => hs ((h2 s).1 hm)))]
  simp [hz]
theorem map_lookup_yes {w : World} {g : Nat} {S : List ByteArray} (h : MapIs w g S) {s : ByteArray} (hs : s ∈ S) : (Instr.lookup 60 (.map (some g)) (.string s) false).run Tryz.prog w = .ok (.bool true) w := by
  obtain ⟨l, clock, h1, h2⟩ := h
  obtain ⟨j, e, k1, _⟩ := findNow_yes s l 0 ((h2 s).2 hs)
  rw [lookup_core map_ty Tryz.underlying9 (fun e => run_checkKey Tryz.underlying9 rfl) (.inr ⟨g, clock, rfl, h1⟩) (run_findKey Tryz.underlying9 k1)]
  rfl
theorem upd_found {w : World} {g : Nat} {L : List MapEntry} {clock j : Nat} {s : ByteArray} {e : MapEntry} (h1 : w.heap[g]? = some (.map ⟨L⟩ clock)) (f1 : (Instr.findKey 9 (.string s) L).run Tryz.prog w = .ok (some (j, .bool true)) w) (k3 : L[j]? = some e)
    (hkt : (Instr.keyThatStays e.key (.string s)).run Tryz.prog w = .ok (.string s) w) (hm : L.modify j (fun e => { e with key := .string s, val := .bool true }) = L) :
    (Instr.mapUpdate 60 (.map (some g)) (.string s) (.bool true)).run Tryz.prog w = .ok () { w with heap := w.heap.setIfInBounds g (.map ⟨L⟩ clock) } := by
  have hset : ∀ o : Obj, (setObj g o).run Tryz.prog w = .ok () { w with heap := w.heap.setIfInBounds g o } := fun o => by
    simp [setObj, Sem.run, h1]
  have hck : ∀ e, (Instr.checkKey e 10000 9 (.string s)).run Tryz.prog w = .ok () w := fun e => run_checkKey Tryz.underlying9 rfl
  simp [Instr.mapUpdate, run_underlying_ev map_ty, Ev.run_getObj_map h1, hck, f1, hset, k3, hkt, hm]
theorem upd_new {w : World} {g : Nat} {L : List MapEntry} {clock : Nat} {s : ByteArray} (h1 : w.heap[g]? = some (.map ⟨L⟩ clock)) (f1 : (Instr.findKey 9 (.string s) L).run Tryz.prog w = .ok none w) :
    (Instr.mapUpdate 60 (.map (some g)) (.string s) (.bool true)).run Tryz.prog w = .ok () { w with heap := w.heap.setIfInBounds g (.map ((⟨L⟩ : Array MapEntry).push { key := .string s, val := .bool true, born := clock }) (clock + 1)) } := by
  have hset : ∀ o : Obj, (setObj g o).run Tryz.prog w = .ok () { w with heap := w.heap.setIfInBounds g o } := fun o => by
    simp [setObj, Sem.run, h1]
  have hck : ∀ e, (Instr.checkKey e 10000 9 (.string s)).run Tryz.prog w = .ok () w := fun e => run_checkKey Tryz.underlying9 rfl
  simp [Instr.mapUpdate, run_underlying_ev map_ty, Ev.run_getObj_map h1, hck, f1, hset]
theorem map_update {w : World} {g : Nat} {S : List ByteArray} (h : MapIs w g S) (s : ByteArray) : ∃ w', (Instr.mapUpdate 60 (.map (some g)) (.string s) (.bool true)).run Tryz.prog w = .ok () w' ∧ MapIs w' g (s :: S) ∧ w.grownBy w' (some g) := by
  obtain ⟨l, clock, h1, h2⟩ := h
  have hlt : g < w.heap.size := (Array.getElem?_eq_some_iff.1 h1).1
  have hset : ∀ o : Obj, (setObj g o).run Tryz.prog w = .ok () { w with heap := w.heap.setIfInBounds g o } := fun o => by
    simp [setObj, Sem.run, h1]
  have hgr : ∀ o : Obj, w.grownBy { w with heap := w.heap.setIfInBounds g o } (some g) := fun o =>
    ⟨rfl, rfl, rfl, by simp, fun k _ hk => by
      have : k ≠ g := fun e => hk (by rw [e])
      simp [Ne.symm this]⟩
  have hck : ∀ e, (Instr.checkKey e 10000 9 (.string s)).run Tryz.prog w = .ok () w := fun e => run_checkKey Tryz.underlying9 rfl
  by_cases hs : s ∈ l.map (·.1)
  · obtain ⟨j, e, k1, _, k3, k4⟩ := findNow_yes s l 0 hs
    rw [Nat.sub_zero] at k3
    have f1 : (Instr.findKey 9 (.string s) (l.map entS)).run Tryz.prog w = .ok (some (j, .bool true)) w := run_findKey Tryz.underlying9 k1
    have hsb : Instr.sameBits 10000 e.key (.string s) = true := by rw [k4]; simp only [Instr.sameBits]; rw [bb_eq]; exact decide_eq_true rfl
    have hkt : (Instr.keyThatStays e.key (.string s)).run Tryz.prog w = .ok (.string s) w := by
      unfold Instr.keyThatStays
      rw [if_pos hsb]; rfl
    have hm : (l.map entS).modify j (fun e => { e with key := .string s, val := .bool true }) = l.map entS := by
      apply List.ext_getElem?
      intro i
      rw [List.getElem?_modify]
      by_cases hij : j = i
      · subst hij
        rw [k3]
        simp only [if_true]
        obtain ⟨p, hp, rfl⟩ : ∃ p, l[j]? = some p ∧ entS p = e := by simpa using k3
        simp only [entS] at k4 ⊢
        rw [k4]
        rfl
      · simp [hij]
    refine ⟨_, upd_found h1 f1 k3 hkt hm, ⟨l, clock, by simp [hlt], fun x => ?_⟩, hgr _⟩
    rw [h2 x, List.mem_cons]
    constructor
    · exact .inr
    · rintro (rfl | h)
      · exact (h2 x).1 hs
      · exact h
  · have f1 : (Instr.findKey 9 (.string s) (l.map entS)).run Tryz.prog w = .ok none w := run_findKey Tryz.underlying9 (findNow_no s l 0 hs)
    have hp : (⟨l.map entS⟩ : Array MapEntry).push { key := .string s, val := .bool true, born := clock } = ⟨(l ++ [(s, clock)]).map entS⟩ := by
      apply Array.ext'; simp [entS]
    refine ⟨_, upd_new h1 f1, ⟨l ++ [(s, clock)], clock + 1, by rw [hp]; simp [hlt], fun x => ?_⟩, hgr _⟩
    rw [List.map_append, List.mem_append, h2 x, List.mem_cons]
    simp [or_comm]
theorem MapIs.keep {w w' : World} {g : Nat} {S : List ByteArray} (h : MapIs w g S) (hk : w'.heap[g]? = w.heap[g]?) : MapIs w' g S := by
  obtain ⟨l, c, h1, h2⟩ := h
  exact ⟨l, c, hk.trans h1, h2⟩
theorem MapIs.lt {w : World} {g : Nat} {S : List ByteArray} (h : MapIs w g S) : g < w.heap.size := by
  obtain ⟨l, c, h1, h2⟩ := h
  exact (Array.getElem?_eq_some_iff.1 h1).1
end Go.Proofs.YtmomolpgjkejgaaGreatDoor

set_option linter.unusedVariables false
namespace Go.Proofs.YtmomolpgjkejgaaGreatDoor
open Go Go.RowKit Go.Lib
theorem split32 : ∀ (l m x y : List UInt8), (32 : UInt8) ∉ l → (32 : UInt8) ∉ m → l ++ 32 :: x = m ++ 32 :: y → l = m ∧ x = y
  | [], [], x, y, _, _, h => by simpa using h
  | [], b :: m, x, y, _, hm, h => by
    simp only [List.nil_append, List.cons_append, List.cons.injEq] at h
    exact absurd (by rw [h.1]; simp) hm
  | a :: l, [], x, y, hl, _, h => by
    simp only [List.nil_append, List.cons_append, List.cons.injEq] at h
    exact absurd (by rw [← h.1]; simp) hl
  | a :: l, b :: m, x, y, hl, hm, h => by
    simp only [List.cons_append, List.cons.injEq] at h
    obtain ⟨e1, e2⟩ := split32 l m x y (fun hh => hl (by simp [hh])) (fun hh => hm (by simp [hh])) h.2
    exact ⟨by rw [h.1, e1], e2⟩
def valL (l : List UInt8) : Nat := l.foldl (fun a c => a * 10 + (c.toNat - 48)) 0
theorem dd_val (u : Nat) : valL (decDigits u) = u ∧ (∀ c ∈ decDigits u, 48 ≤ c.toNat) ∧ decDigits u ≠ [] := by
  induction u using Nat.strongRecOn with
  | _ u ih =>
    rw [decDigits]
    split
    · rename_i h
      have e : (UInt8.ofNat (48 + u)).toNat = 48 + u := by simp; omega
      refine ⟨?_, fun c hc => ?_, by simp⟩
      · simp only [valL, List.foldl_cons, List.foldl_nil, e]; omega
      · simp only [List.mem_singleton] at hc; subst hc; omega
    · rename_i h
      obtain ⟨h1, h2, h3⟩ := ih (u / 10) (by omega)
      have e : (UInt8.ofNat (48 + u % 10)).toNat = 48 + u % 10 := by simp; omega
      refine ⟨?_, fun c hc => ?_, by simp⟩
      · simp only [valL, List.foldl_append, List.foldl_cons, List.foldl_nil, e] at h1 ⊢
        rw [h1]; omega
      · simp only [List.mem_append, List.mem_singleton] at hc
        rcases hc with hc | rfl
        · exact h2 c hc
        · omega
theorem itoa_no32 (n : Int) : (32 : UInt8) ∉ itoa n := by
  unfold itoa
  split
  · intro h
    simp only [List.mem_cons] at h
    rcases h with h | h
    · exact absurd h (by decide)
    · exact absurd ((dd_val _).2.1 _ h) (by decide)
  · intro h
    exact absurd ((dd_val _).2.1 _ h) (by decide)
theorem dd_inj {a b : Nat} (h : decDigits a = decDigits b) : a = b := by
  have h1 := (dd_val a).1
  rw [h, (dd_val b).1] at h1
  exact h1.symm
theorem itoa_inj {a b : Int} (h : itoa a = itoa b) : a = b := by
  unfold itoa at h
  have neg : ∀ (x : Nat) (y : Nat), (45 : UInt8) :: decDigits x ≠ decDigits y := by
    intro x y e
    have := (dd_val y).2.1 45 (by rw [← e]; simp)
    exact absurd this (by decide)
  split at h <;> split at h
  · simp only [List.cons.injEq, true_and] at h
    have := dd_inj h
    omega
  · exact absurd h (neg _ _)
  · exact absurd h.symm (neg _ _)
  · have := dd_inj h
    omega
theorem keyV_inj {x y : Vl} {a b : List UInt8} (h : keyV x ++ a = keyV y ++ b) : x = y ∧ a = b := by
  obtain ⟨xk, xn, xs⟩ := x
  obtain ⟨yk, yn, ys⟩ := y
  simp only [keyV, List.append_assoc, List.cons_append] at h
  obtain ⟨h1, h⟩ := split32 _ _ _ _ (itoa_no32 _) (itoa_no32 _) h
  obtain ⟨h2, h⟩ := split32 _ _ _ _ (itoa_no32 _) (itoa_no32 _) h
  obtain ⟨h3, h⟩ := split32 _ _ _ _ (itoa_no32 _) (itoa_no32 _) h
  have e3 : xs.size = ys.size := by have := itoa_inj h3; omega
  have hl : xs.data.toList.length = ys.data.toList.length := by
    have a1 : xs.data.toList.length = xs.size := by simp
    have a2 : ys.data.toList.length = ys.size := by simp
    omega
  obtain ⟨h4, h5⟩ := List.append_inj h hl
  refine ⟨?_, h5⟩
  have : xs = ys := by
    obtain ⟨⟨p⟩⟩ := xs
    obtain ⟨⟨q⟩⟩ := ys
    simp only at h4
    rw [h4]
  rw [itoa_inj h1, itoa_inj h2, this]
theorem keyL_inj : ∀ {r s : List Vl}, keyL r = keyL s → r = s
  | [], [], _ => rfl
  | [], y :: s, h => by simp [keyL, keyV] at h
  | x :: r, [], h => by simp [keyL, keyV] at h
  | x :: r, y :: s, h => by
    simp only [keyL, List.flatMap_cons] at h
    obtain ⟨h1, h2⟩ := keyV_inj h
    rw [h1, keyL_inj h2]
def keyS (r : List Vl) : ByteArray := ⟨(keyL r).toArray⟩
theorem keyS_mem {r : List Vl} {L : List (List Vl)} : keyS r ∈ L.map keyS ↔ r ∈ L := by
  rw [List.mem_map]
  constructor
  · rintro ⟨s, hs, e⟩
    have : keyL s = keyL r := by
      simp only [keyS, ByteArray.mk.injEq] at e
      have := congrArg Array.toList e
      simpa using this
    rw [← keyL_inj this]; exact hs
  · intro h; exact ⟨r, h, rfl⟩
end Go.Proofs.YtmomolpgjkejgaaGreatDoor

set_option linter.unusedVariables false
namespace Go.Proofs.YtmomolpgjkejgaaGreatDoor
open Go Go.RowKit Go.Lib
theorem RowIn.up {w : World} {base base' : Nat} {v : Value} {r : List Vl} (h : RowIn w base v r) (hb : base ≤ base') : RowIn w base' v r := by
  refine ⟨h.1, h.2.imp id ?_⟩
  rintro ⟨b, o, c, rfl, h2⟩
  exact ⟨b, o, c, rfl, h2.imp (fun x => Nat.lt_of_lt_of_le x hb) id⟩
theorem RowAt.lt_of {w : World} {r : List Vl} {b o c : Nat} (h : RowAt w (.slice (some ⟨b, o, none⟩) r.length c) r) (he : r ≠ []) : ∃ v, w.cell? ⟨b, o + 0 * 3, none⟩ = some v := by
  obtain ⟨h0, hs, a, c', e, h1⟩ := h
  rcases h1 with h1 | ⟨b1, o1, rfl, h1⟩
  · exact absurd h1 he
  · simp only [Value.slice.injEq, Option.some.injEq, Addr.mk.injEq] at e
    obtain ⟨⟨rfl, rfl, _⟩, _⟩ := e
    exact ⟨_, (h1 0 (List.length_pos_iff.2 he)).1⟩
theorem RowIn.mapped {w w' : World} {base g : Nat} {v : Value} {r : List Vl} {S : List ByteArray} (h : RowIn w base v r) (hm : MapIs w g S) (hg : w.grownBy w' (some g)) : RowIn w' base v r := by
  obtain ⟨l, cl, hm1, _⟩ := hm
  by_cases he : r = []
  · subst he
    obtain ⟨⟨h0, hs, a, c', e, h1⟩, _⟩ := h
    exact ⟨⟨h0, hs, a, c', e, .inl rfl⟩, .inl rfl⟩
  · obtain ⟨hr, h2⟩ := h
    rcases h2 with h2 | ⟨b, o, c, rfl, h2⟩
    · exact absurd h2 he
    · obtain ⟨x, hx⟩ := hr.lt_of he
      have hlt : b < w.heap.size := World.block_lt_of_cell? w _ hx
      have hne : b ≠ g := by
        rintro rfl
        simp [World.cell?, hm1] at hx
      have hh := hg.block b hlt (fun e => hne (by simpa using e))
      refine ⟨hr.heap fun b1 o1 c1 e => ?_, .inr ⟨b, o, c, rfl, h2.imp id ?_⟩⟩
      · simp only [Value.slice.injEq, Option.some.injEq, Addr.mk.injEq] at e
        obtain ⟨⟨rfl, _⟩, _⟩ := e
        exact hh
      · rintro ⟨cs, fr, h3⟩
        exact ⟨cs, fr, by rw [hh]; exact h3⟩
theorem Outs.mapped {w w' : World} {base g : Nat} {v : Value} {L : List (List Vl)} {S : List ByteArray} (h : Outs w base v L) (hm : MapIs w g S) (hg : w.grownBy w' (some g)) : Outs w' base v L := by
  obtain ⟨xs, hown, hr⟩ := h
  refine ⟨xs, ⟨hown.1, ?_⟩, fun j hj => ?_⟩
  · rcases hown.2 with h0 | ⟨p, cap, cur, rfl, hb0, hc, hrest⟩
    · exact .inl h0
    · obtain ⟨l, cl, hm1, _⟩ := hm
      have hne : p ≠ g := by rintro rfl; rw [hm1] at hc; cases hc
      refine .inr ⟨p, cap, cur, rfl, hb0, ?_, hrest⟩
      rw [hg.block p (Array.getElem?_eq_some_iff.1 hc).1 (fun e => hne (by simpa using e))]; exact hc
  · obtain ⟨u, hu, hra⟩ := hr j hj
    exact ⟨u, hu, hra.mapped hm hg⟩
theorem mapIs_app {wr w1 w2 w3 : World} {g n : Nat} {v : Value} {xs : List Value} {S : List ByteArray} {o : Obj} (h : MapIs wr g S) (hb1 : Below wr.heap.size wr w1) (hb2 : Below w1.heap.size w1 w2)
    (hown : (w2.alloc o).ownsRow (g + 1) 31 1 v n xs) (hg : (w2.alloc o).grownBy w3 v.ownBlock) : MapIs w3 g S := by
  have h0 := h.lt
  have h1 := h.keep (hb1.block g h0)
  have h2 := h1.keep (hb2.block g h1.lt)
  have h3 : MapIs (w2.alloc o) g S := h2.keep (by
    simp only [World.alloc]
    rw [Array.getElem?_push_lt h2.lt, Array.getElem?_eq_getElem h2.lt])
  refine h3.keep (hg.block g h3.lt fun e => ?_)
  rcases hown.2 with ⟨rfl, _⟩ | ⟨p, cap, cur, rfl, hge, _⟩
  · cases e
  · simp only [Value.ownBlock, Option.some.injEq] at e
    omega
set_option maxHeartbeats 8000000 in
set_option maxRecDepth 100000 in
theorem distinct12 (v : Value) (R : List (List Vl)) (w : World) (h : RowsAt w v R) (hbig : R.length ≤ 40000) (hok : ∀ r ∈ R, okRow r) (HT0 : ∀ w1, Below w.heap.size w w1 → Tab w1) :
    Calls Tryz.prog 12 #[v] w fun e w' => ∃ ov, e = .returned ov ∧ RowsAt w' ov (dst R) ∧ Below w.heap.size w w' := by
  have hmm := @run_makeMap Tryz.prog
  obtain ⟨i0, hi, hz0, hz1, hz2⟩ := info_parts info31
  have HT := Lib.hid HT0
  have HOK := Lib.hid hok
  obtain ⟨h0, a, c, rfl, h1⟩ := h
  have H1 := Lib.hid h1
  have HB := Lib.hid hbig
  clear h1 hbig HT0 hok
  go_enter Tryz.func12, Tryz.ntmps12
  go_wp2
  go_loopg [4, 11] R.length (fun g s4 s11 wr => ∃ k : Nat, k ≤ R.length ∧ R.length - k ≤ g ∧ s11 = .int .i64 k ∧ Outs wr (w.heap.size + 1) s4 (dst (R.take k)) ∧ (∃ S, MapIs wr w.heap.size S ∧ ∀ s, s ∈ S ↔ s ∈ (dst (R.take k)).map keyS) ∧ Below w.heap.size w wr)
  case atStart => exact ⟨0, Nat.zero_le _, by omega, rfl, Outs.nil _ _, ⟨[], ⟨[], 0, heap_alloc_new _ _, by simp⟩, by simp [dst]⟩, (Below.refl _ _).alloc (Nat.le_refl _) _⟩
  case round =>
    obtain ⟨k, hk, hg, rfl, hout, ⟨S, hS, hSm⟩, hbel⟩ := hrel
    by_cases hlt : k < R.length
    · rcases H1.out with hn | ⟨b, o, rfl, hc⟩
      · rw [hn] at hlt; simp at hlt
      · obtain ⟨u, e1, r1⟩ := hc k hlt
        have q1 := World.block_lt_of_cell? w _ e1
        rw [← (bcell hbel).1 _ _ q1] at e1
        have hokr := HOK.out _ (getD_memR hlt)
        have HD := Lib.hid (dst_take_succ hlt)
        have HL := Lib.hid (dst_len_take R k)
        clear hc
        generalize hL : dst (R.take k) = L at hout hSm
        have HLE := Lib.hid hL
        clear hL
        generalize hr : R.getD k [] = r at *
        obtain ⟨ra, rc, rfl⟩ : ∃ ra rc, u = .slice ra r.length rc := by
          obtain ⟨_, _, ra, rc, e, _⟩ := r1
          exact ⟨ra, rc, e⟩
        have RA := Lib.hid (fun w1 (hb : Below w.heap.size w w1) => r1.below hb)
        have HO := Lib.hid hout
        have HS := Lib.hid hS
        have HSM := Lib.hid hSm
        have HBW := Lib.hid hbel
        have hsz0 := hbel.size
        have hglt := hS.lt
        have hrl := hokr.1
        have C24 := keyOf24 (.slice ra r.length rc) r wr (RA.out _ hbel) hokr (fun w1 hb => HT.out w1 (hbel.trans (hb.mono hsz0)))
        have hlenL : L.length ≤ 40000 := by have := HL.out; have := HB.out; have := HLE.out; subst this; omega
        have hl63 : L.length ≤ 9223372036854775807 := by omega
        clear r1 hr hout hS hSm hbel hokr
        by_cases hin : r ∈ L
        · have HD2 := Lib.hid (show dst (R.take (k + 1)) = L by rw [HD.out, HLE.out]; unfold stepD; rw [if_pos hin])
          have KI := Lib.hid ((HSM.out (keyS r)).2 (keyS_mem.2 hin))
          clear hin
          go_wp2_with (first
            | (go_at_call 24; refine C24.mono ?_; rintro e w1 ⟨rfl, hb1⟩; have hl1 := map_lookup_yes (HS.out.keep (hb1.block w.heap.size hglt)) KI.out; simp only [keyS] at hl1; obtain ⟨w4, hu, hm4, hg4⟩ := map_update (HS.out.keep (hb1.block w.heap.size hglt)) (keyS r); have HM4 := Lib.hid hm4; have HG4 := Lib.hid hg4; clear hm4 hg4; simp only [keyS] at hu))
          go_roundg (R.length - (k + 1))
          case measure => omega
          case rel =>
            have hm1 := HS.out.keep (hb1.block w.heap.size hglt)
            refine ⟨k + 1, by omega, by omega, by go_num, ?_, ⟨_, HM4.out, fun s => ?_⟩, (HBW.out.trans (hb1.mono hsz0)).grown HG4.out (by have := hb1.size; omega) (fun j hj => by cases hj; exact Nat.le_refl _)⟩
            · rw [HD2.out]; exact (HO.out.keep hb1).mapped hm1 HG4.out
            · rw [HD2.out, List.mem_cons, HSM.out]
              constructor
              · rintro (rfl | h)
                · exact (HSM.out _).1 KI.out
                · exact h
              · exact .inr
        · have HD2 := Lib.hid (show dst (R.take (k + 1)) = L ++ [r] by rw [HD.out, HLE.out]; unfold stepD; rw [if_neg hin])
          have KI := Lib.hid (show keyS r ∉ S from fun hm => hin (keyS_mem.1 ((HSM.out (keyS r)).1 hm)))
          clear hin
          obtain ⟨xs, hown, hrows⟩ := HO.out
          have HR := Lib.hid hrows
          have HOW := Lib.hid hown
          clear hrows hown
          obtain ⟨oa, oc, hs4, _⟩ := outs_shape HO.out
          subst hs4
          go_wp2_with (first
            | (go_at_call 24; refine C24.mono ?_; rintro e w1 ⟨rfl, hb1⟩; have hl1 := map_lookup_no (HS.out.keep (hb1.block w.heap.size hglt)) KI.out; simp only [keyS] at hl1; have C25 := clone25 _ r w1 (RA.out _ (HBW.out.trans (hb1.mono hsz0))) hrl)
            | (go_at_call 25; refine C25.mono ?_; rintro e w2 ⟨cv, rfl, hri, hb2⟩; obtain ⟨ca, cc, rfl⟩ : ∃ ca cc, cv = .slice ca r.length cc := (by obtain ⟨⟨_, _, ra, rc, e, _⟩, _⟩ := hri; exact ⟨ra, rc, e⟩); have HRI := Lib.hid hri; clear hri; have hown3 := (own_keep (own_keep HOW.out hb1) hb2).alloc (.cells #[(.slice ca r.length cc)] 31))
            | (at_builtin; refine wpList_append_own _ rfl _ _ 22 rfl (w.heap.size + 1) 31 i0 (.slice none 0 0) 1 24 Tryz.underlying22 hi hz0 hz1 hz2 rfl (by decide) _ _ _ rfl hown3 ⟨w2.heap.size, 0, none⟩ 1 1 [(.slice ca r.length cc)] rfl rfl (cell_one_new _ _ _) (by simp [Value.oneCell']) (by unfold maxLen; omega) (by omega) ?cb ?_; (case cb => have := hb1.size; have := hb2.size; simp; omega); intro v' w3 hown' hg3 hnil3; have hmp3 : MapIs w3 w.heap.size S := mapIs_app HS.out hb1 hb2 hown3 hg3; obtain ⟨w4, hu, hm4, hg4⟩ := map_update hmp3 (keyS r); have HM4 := Lib.hid hm4; have HG4 := Lib.hid hg4; have HMP3 := Lib.hid hmp3; clear hm4 hg4 hmp3; simp only [keyS] at hu))
          go_roundg (R.length - (k + 1))
          case measure => omega
          case rel =>
            have s1 := hb1.size
            have s2 := hb2.size
            have s3 := hg3.size
            have hal : Below w2.heap.size w2 (w2.alloc (.cells #[(.slice ca r.length cc)] 31)) := (Below.refl _ _).alloc (Nat.le_refl _) _
            have s4 : (w2.alloc (.cells #[(.slice ca r.length cc)] 31)).heap.size = w2.heap.size + 1 := by simp
            rw [s4] at s3
            have ho3 := outs_push (w := w2.alloc (.cells #[(.slice ca r.length cc)] 31)) (by simp; omega) hown3 (fun j hj => by
              obtain ⟨y, h1, h2⟩ := HR.out j hj
              exact ⟨y, h1, ((h2.keep hb1).keep hb2).keep hal⟩) ((HRI.out.up (Nat.zero_le _)).keep hal) hown' hg3
            refine ⟨k + 1, by omega, by omega, by go_num, ?_, ⟨_, HM4.out, fun s => ?_⟩, ?_⟩
            · rw [HD2.out]; exact ho3.mapped HMP3.out HG4.out
            · rw [HD2.out, List.mem_cons, HSM.out, List.map_append, List.mem_append]
              simp [or_comm]
            · have b2 := ((HBW.out.trans (hb1.mono hsz0)).trans (hb2.mono (by omega))).alloc (o := .cells #[(.slice ca r.length cc)] 31) (by omega)
              refine (b2.grown hg3 (by simp; omega) (fun j hj => ?_)).grown HG4.out (by omega) (fun j hj => by cases hj; exact Nat.le_refl _)
              rcases hown3.2 with ⟨e, _⟩ | ⟨p, cap, cur, e, hge, _⟩
              · rw [e] at hj; cases hj
              · rw [e] at hj; cases hj; exact Nat.le_of_succ_le hge
    · have hkn : k = R.length := by omega
      have E := Lib.hid (show dst (R.take k) = dst R by rw [hkn, List.take_length])
      have HO := Lib.hid hout
      have HBW := Lib.hid hbel
      clear hkn hout hS hSm hbel
      go_wp2
      go_ret
      exact ⟨_, rfl, by rw [← E.out]; exact HO.out.rows, HBW.out⟩
end Go.Proofs.YtmomolpgjkejgaaGreatDoor

set_option linter.unusedVariables false
namespace Go.Proofs.YtmomolpgjkejgaaGreatDoor
open Go Go.RowKit Go.Lib
def IsInt (w : World) (e : Ending) (w' : World) : Prop := ∃ z : Int, e = .returned (.int .i64 z) ∧ w = w'
set_option maxHeartbeats 2000000 in
set_option maxRecDepth 100000 in
theorem weightOf9 (v : Value) (r : List Vl) (w : World) (h : RowAt w v r) : Calls Tryz.prog 9 #[v] w (IsInt w) := by
  obtain ⟨h0, hs, a, c, rfl, h1⟩ := h
  have H1 := Lib.hid h1
  clear h1 hs
  go_enter Tryz.func9, Tryz.ntmps9
  go_wp2
  go_loop [3, 4] (fun n i => ∃ (z : Int) (j : Nat), j ≤ r.length ∧ n = .int .i64 z ∧ i = .int .i64 j) (fun _ i => r.length - (RowKit.intOf i).toNat)
  case atStart => exact ⟨_, 0, Nat.zero_le _, rfl, rfl⟩
  case round =>
    obtain ⟨z, j, hj, rfl, rfl⟩ := hrel
    by_cases hlt : j < r.length
    · rcases H1.out with hn | ⟨b, o, rfl, hc⟩
      · rw [hn] at hlt; simp at hlt
      · have e3 := (hc j hlt).2.2
        clear hc
        go_wp2
        go_round
        case rel => exact ⟨_, j + 1, by omega, rfl, by go_num⟩
        case measure => simp [RowKit.intOf]; omega
    · go_wp2
      go_ret
      exact ⟨z, rfl, rfl⟩
set_option maxHeartbeats 2000000 in
set_option maxRecDepth 100000 in
theorem weight4 (v : Value) (R : List (List Vl)) (w : World) (h : RowsAt w v R) : Calls Tryz.prog 4 #[v] w (IsInt w) := by
  obtain ⟨h0, a, c, rfl, h1⟩ := h
  have H1 := Lib.hid h1
  clear h1
  go_enter Tryz.func4, Tryz.ntmps4
  go_wp2
  go_loop [3, 4] (fun n i => ∃ (z : Int) (j : Nat), j ≤ R.length ∧ n = .int .i64 z ∧ i = .int .i64 j) (fun _ i => R.length - (RowKit.intOf i).toNat)
  case atStart => exact ⟨_, 0, Nat.zero_le _, rfl, rfl⟩
  case round =>
    obtain ⟨z, j, hj, rfl, rfl⟩ := hrel
    by_cases hlt : j < R.length
    · rcases H1.out with hn | ⟨b, o, rfl, hc⟩
      · rw [hn] at hlt; simp at hlt
      · obtain ⟨u, e1, hr⟩ := hc j hlt
        have C := weightOf9 u _ w hr
        clear hc hr
        go_wp2_with (go_at_call 9; refine C.mono ?_; rintro e w' ⟨z1, rfl, rfl⟩)
        go_round
        case rel => exact ⟨_, j + 1, by omega, rfl, by go_num⟩
        case measure => simp [RowKit.intOf]; omega
    · go_wp2
      go_ret
      exact ⟨z, rfl, rfl⟩
def resD (R : List (List Vl)) : List (List Vl) := if errR R = 0 then dst R else []
theorem ok_of_err {R : List (List Vl)} (h : errR R = 0) (hl : ∀ r ∈ R, r.length ≤ 1048576) : R.length ≤ 40000 ∧ ∀ r ∈ R, okRow r := by
  unfold errR at h
  split at h
  · cases h
  · rename_i hb
    split at h
    · cases h
    · rename_i hbad
      refine ⟨by omega, fun r hr => ⟨hl r hr, fun x hx => ?_⟩⟩
      have hx0 : badV x = false := by
        cases hbx : badV x
        · rfl
        · exact absurd (List.any_eq_true.2 ⟨r, hr, List.any_eq_true.2 ⟨x, hx, hbx⟩⟩) hbad
      have he : errV x = 0 := by simpa [badV] using hx0
      unfold errV at he
      split at he
      · cases he
      · rename_i hs
        split at he
        · rename_i hok
          unfold okV at hok
          refine ⟨?_, ?_, ?_, ?_, by omega⟩ <;>
          · split at hok
            · simp at hok; omega
            · split at hok
              · simp at hok; omega
              · split at hok
                · simp at hok; omega
                · split at hok
                  · simp at hok; omega
                  · simp at hok; omega
        · cases he
def ResIs (w : World) (R : List (List Vl)) (e : Ending) (w' : World) : Prop := ∃ ov, e = .returned (.tuple #[ov, .int .i64 (errR R)]) ∧ RowsAt w' ov (resD R) ∧ Below w.heap.size w w'
theorem rows_nil (w : World) : RowsAt w (.slice none 0 0) [] := ⟨by simp, none, 0, rfl, .inl rfl⟩
set_option maxHeartbeats 2000000 in
set_option maxRecDepth 100000 in
theorem distinct6 (v : Value) (R : List (List Vl)) (w : World) (h : RowsAt w v R) (hl : ∀ r ∈ R, r.length ≤ 1048576) (HT0 : ∀ w1, Below w.heap.size w w1 → Tab w1) : Calls Tryz.prog 6 #[v] w (ResIs w R) := by
  have C1 := areValues11 v R w h
  have HT := Lib.hid HT0
  have H := Lib.hid h
  have HL := Lib.hid hl
  clear HT0 h hl
  by_cases he : errR R = 0
  · have HE := Lib.hid he
    have hk := ok_of_err he HL.out
    have C2 := Lib.hid (fun w1 (hb : Below w.heap.size w w1) => distinct12 v R w1 (H.out.below hb) hk.1 hk.2 (fun w2 hb2 => HT.out w2 (hb.trans (hb2.mono hb.size))))
    rw [he] at C1
    clear he hk
    go_enter Tryz.func6, Tryz.ntmps6
    go_wp2_with (first
      | (go_at_call 11; refine C1.mono ?_; rintro e w1 ⟨rfl, hb1⟩)
      | (go_at_call 12; refine (C2.out _ hb1).mono ?_; rintro e w2 ⟨ov, rfl, hr, hb2⟩))
    go_ret2
    exact ⟨ov, by rw [HE.out]; rfl, by unfold resD; rw [if_pos HE.out]; exact hr, hb1.trans (hb2.mono hb1.size)⟩
  · have HE := Lib.hid he
    generalize hz : errR R = z at C1
    have HZ := Lib.hid hz
    have hz0 : (z != 0) = true := by rw [← hz]; simpa using he
    clear he hz
    go_enter Tryz.func6, Tryz.ntmps6
    go_wp2_with (first
      | (go_at_call 11; refine C1.mono ?_; rintro e w1 ⟨rfl, hb1⟩))
    go_ret2
    exact ⟨_, by rw [HZ.out]; rfl, by unfold resD; rw [if_neg HE.out]; exact rows_nil _, hb1⟩
set_option maxHeartbeats 2000000 in
set_option maxRecDepth 100000 in
theorem distinct7 (v : Value) (R : List (List Vl)) (w : World) (h : RowsAt w v R) (hl : ∀ r ∈ R, r.length ≤ 1048576) : Calls Tryz.prog 7 #[v] w (ResIs w R) := by
  have C1 := rowsAsked13 v R w h
  have H := Lib.hid h
  have HL := Lib.hid hl
  clear h hl
  by_cases he : errR R = 0
  · have HE := Lib.hid he
    have hk := ok_of_err he HL.out
    have C2 := Lib.hid (fun w1 (hb : Below w.heap.size w w1) => distinct14 v R w1 (H.out.below hb) hk.1)
    rw [he] at C1
    clear he hk
    go_enter Tryz.func7, Tryz.ntmps7
    go_wp2_with (first
      | (go_at_call 13; refine C1.mono ?_; rintro e w1 ⟨rfl, hb1⟩)
      | (go_at_call 14; refine (C2.out _ hb1).mono ?_; rintro e w2 ⟨ov, rfl, hr, hb2⟩))
    go_ret2
    exact ⟨ov, by rw [HE.out]; rfl, by unfold resD; rw [if_pos HE.out]; exact hr.rows, hb1.trans (hb2.mono hb1.size)⟩
  · have HE := Lib.hid he
    generalize hz : errR R = z at C1
    have HZ := Lib.hid hz
    have hz0 : (z != 0) = true := by rw [← hz]; simpa using he
    clear he hz
    go_enter Tryz.func7, Tryz.ntmps7
    go_wp2_with (first
      | (go_at_call 13; refine C1.mono ?_; rintro e w1 ⟨rfl, hb1⟩))
    go_ret2
    exact ⟨_, by rw [HZ.out]; rfl, by unfold resD; rw [if_neg HE.out]; exact rows_nil _, hb1⟩
end Go.Proofs.YtmomolpgjkejgaaGreatDoor

set_option linter.unusedVariables false
namespace Go.Proofs.YtmomolpgjkejgaaGreatDoor
open Go Go.RowKit Go.Lib
set_option maxHeartbeats 4000000 in
set_option maxRecDepth 100000 in
theorem law3 (v : Value) (R : List (List Vl)) (W : World) (h : RowsAt W v R) (hl : ∀ r ∈ R, r.length ≤ 1048576) (HT0 : ∀ w1, Below W.heap.size W w1 → Tab w1)
    (KN0 : ∀ w, Below W.heap.size W w → Calls Tryz.prog 5 #[] w fun e w' => e = .returned (.bool true) ∧ Below w.heap.size w w') :
    Calls Tryz.prog 3 #[v] W fun e w' => e = .returned (.bool true) ∧ Below W.heap.size W w' := by
  have CW := weight4 v R W h
  have C6 := distinct6 v R W h hl HT0
  have C7 := Lib.hid (fun w1 (hb : Below W.heap.size W w1) => distinct7 v R w1 (h.below hb) hl)
  have KN := Lib.hid KN0
  clear KN0 HT0 hl h
  go_enter Tryz.func3, Tryz.ntmps3
  go_wp2_with (first
    | (go_at_call 4; refine CW.mono ?_; rintro e w1 ⟨z, rfl, rfl⟩)
    | (go_at_call 5; refine (KN.out _ (by first | exact Below.refl _ _ | assumption)).mono ?_; rintro e w5 ⟨rfl, hb5⟩)
    | (go_at_call 6; refine C6.mono ?_; rintro e w1 ⟨o1, rfl, hr1, hb1⟩)
    | (go_at_call 7; refine (C7.out _ hb1).mono ?_; rintro e w2 ⟨o2, rfl, hr2, hb2⟩; have C8 := same8 o1 o2 _ _ w2 (hr1.below hb2) hr2; rw [decide_eq_true rfl] at C8)
    | (go_at_call 8; refine C8.mono ?_; rintro e w3 ⟨rfl, hb3⟩; have hb13 : Below W.heap.size W w3 := (hb1.trans (hb2.mono hb1.size)).trans (hb3.mono (by have := hb1.size; have := hb2.size; omega))))
  · go_ret
    exact ⟨rfl, hb5⟩
  · go_ret
    exact ⟨rfl, hb13.trans (hb5.mono hb13.size)⟩
end Go.Proofs.YtmomolpgjkejgaaGreatDoor

set_option linter.unusedVariables false
namespace Go.Proofs.YtmomolpgjkejgaaGreatDoor
open Go Go.RowKit Go.Lib Go.ChangeShapes Go.WideShapes Go.Deep
section
variable {H : Type} {enc : TypeId × Value → H} {W : World} {sp : Nat → Bool} {hd : Bool}
theorem under43 : ∃ f0 f1 f2, Tryz.prog.underlying 43 = some (.struct #[f0, f1, f2]) ∧ f0.type = 3 ∧ f1.type = 3 ∧ f2.type = 9 ∧ f0.offset = 0 ∧ f1.offset = 1 ∧ f2.offset = 2 := ⟨_, _, _, Tryz.underlying43, rfl, rfl, rfl, rfl, rfl, rfl⟩
theorem cellsOf43 : Tryz.prog.cellsOf 43 = 3 := by kernel_rfl
theorem cellsOf31 : Tryz.prog.cellsOf 31 = 1 := by kernel_rfl
theorem cellsOf3 : Tryz.prog.cellsOf 3 = 1 := by kernel_rfl
theorem cellsOf9 : Tryz.prog.cellsOf 9 = 1 := by kernel_rfl
theorem cells3_of {a : Addr} {cs : List Value} (h : W.cells? 0 a 3 = some cs) : ∃ v0 v1 v2, cs = [v0, v1, v2] ∧ W.cell? (a.add 0) = some v0 ∧ W.cell? (a.add 1) = some v1 ∧ W.cell? (a.add 2) = some v2 := by
  simp only [World.cells?, Nat.zero_le, if_true, show List.range 3 = [0, 1, 2] from rfl, List.mapM_cons, List.mapM_nil, Option.bind_eq_bind, Option.bind_eq_some_iff, Option.pure_def, Option.some.injEq] at h
  obtain ⟨v0, h0, l1, ⟨v1, h1, l2, ⟨v2, h2, l3, rfl, rfl⟩, rfl⟩, rfl⟩ := h
  exact ⟨v0, v1, v2, rfl, h0, h1, h2⟩
/-- What reads as a value is one. -/
theorem vl_of_trod {fuel : Nat} {a : Addr} {y : DataW H × List MemPlace} (h : (W.cells? 0 a 3).bind (DataW.trod enc Tryz.prog W 0 sp hd fuel 43) = some y) :
    ∃ x : Vl, x.s.size ≤ maxLen ∧ W.cell? (a.add 0) = some (.int .i64 x.k) ∧ W.cell? (a.add 1) = some (.int .i64 x.n) ∧ W.cell? (a.add 2) = some (.string x.s) := by
  rw [Option.bind_eq_some_iff] at h
  obtain ⟨cs, h1, h2⟩ := h
  obtain ⟨v0, v1, v2, rfl, c0, c1, c2⟩ := cells3_of h1
  obtain ⟨f0, f1, f2, hu, t0, t1, t2, o0, o1, o2⟩ := under43
  obtain ⟨y0, y1, y2, n, _, _, k0, k1, k2⟩ := trod_struct3 hu h2
  rw [t0, o0, cellsOf3] at k0
  rw [t1, o1, cellsOf3] at k1
  rw [t2, o2, cellsOf9] at k2
  obtain ⟨z0, e0, _⟩ := DataW.trod_int Tryz.underlying3 k0
  obtain ⟨z1, e1, _⟩ := DataW.trod_int Tryz.underlying3 k1
  obtain ⟨s, e2, _, hs⟩ := DataW.trod_string Tryz.underlying9 k2
  simp at e0 e1 e2
  subst e0; subst e1; subst e2
  exact ⟨⟨z0, z1, s⟩, hs, c0, c1, c2⟩
theorem pick_list {α : Type} {p : Nat → α → Prop} : ∀ (n : Nat), (∀ i, i < n → ∃ x, p i x) → ∃ l : List α, l.length = n ∧ ∀ i x, l[i]? = some x → p i x
  | 0, _ => ⟨[], rfl, fun i x h => by simp at h⟩
  | n + 1, h => by
    obtain ⟨l, hl, hp⟩ := pick_list n fun i hi => h i (by omega)
    obtain ⟨x, hx⟩ := h n (by omega)
    refine ⟨l ++ [x], by simp [hl], fun i y hy => ?_⟩
    by_cases hi : i < n
    · rw [List.getElem?_append_left (by omega)] at hy; exact hp i y hy
    · have : i = n := by
        have := (List.getElem?_eq_some_iff.1 hy).1; simp at this; omega
      subst this
      rw [List.getElem?_append_right (by omega)] at hy
      simp [hl] at hy; subst hy; exact hx
theorem addr_none {a : Addr} {v : Value} (h : W.cell? (a.add 0) = some v) : a = ⟨a.block, a.off, none⟩ := by
  have := World.cell?_spot h
  obtain ⟨b, o, s⟩ := a
  simp [Addr.add] at this
  rw [this]
theorem add_lit (b o i : Nat) : (⟨b, o, none⟩ : Addr).add i = ⟨b, o + i, none⟩ := by
  unfold Addr.add; split
  · rename_i h; simp [h]
  · rfl
/-- What reads as a row is one; its length is that of the reading. -/
theorem row_of_trod {fuel : Nat} {cs : List Value} {y : DataW H × List MemPlace} (h : DataW.trod enc Tryz.prog W 0 sp hd fuel 31 cs = some y) :
    ∃ u r, cs = [u] ∧ RowAt W u r ∧ ((r = [] ) ∨ ∃ elems rest, y.1 = .slice elems rest ∧ r.length = elems.length) := by
  rcases DataW.trod_slice Tryz.underlying31 h with ⟨rfl, rfl⟩ | ⟨a, len, cap, elems, rest, n, rfl, rfl, rfl, hb, hl, hm, hlen, hel, _, _⟩
  · exact ⟨_, [], rfl, ⟨by simp, by simp, none, 0, rfl, .inl rfl⟩, .inl rfl⟩
  · rw [cellsOf43] at hel
    obtain ⟨r, hr, hp⟩ := pick_list (p := fun i (x : Vl) => x.s.size ≤ maxLen ∧ W.cell? ((a.add (i * 3)).add 0) = some (.int .i64 x.k) ∧ W.cell? ((a.add (i * 3)).add 1) = some (.int .i64 x.n) ∧ W.cell? ((a.add (i * 3)).add 2) = some (.string x.s)) len (fun i hi => by
      have he := hel i hi
      obtain ⟨y, hy⟩ : ∃ y, elems[i]? = some y := ⟨elems[i], by simp [hlen, hi]⟩
      rw [hy] at he
      exact vl_of_trod he)
    have hmx : len ≤ 9223372036854775807 := by simp only [maxLen] at hm; omega
    refine ⟨_, r, rfl, ⟨by omega, fun x hx => ?_, some a, cap, by rw [hr], ?_⟩, .inr ⟨_, _, rfl, by simp [hr, hlen]⟩⟩
    · obtain ⟨i, hi, rfl⟩ := List.getElem_of_mem hx
      have := (hp i _ (List.getElem?_eq_getElem hi)).1
      simpa [maxLen] using this
    · cases hlr : r with
      | nil => exact .inl rfl
      | cons x0 r0 =>
        right
        rw [← hlr]
        have hx0 : r[0]? = some x0 := by rw [hlr]; rfl
        have h0 := (hp 0 x0 hx0).2.1
        have e00 : (a.add (0 * 3)).add 0 = a.add 0 := by simp [Addr.add]
        rw [e00] at h0
        have ha := addr_none h0
        refine ⟨a.block, a.off, by rw [← ha], fun j hj => ?_⟩
        obtain ⟨_, k0, k1, k2⟩ := hp j _ (List.getElem?_eq_getElem hj)
        have e : r.getD j d0 = r[j] := by simp [List.getD, hj]
        rw [e]
        rw [ha, add_lit, add_lit] at k0 k1 k2
        exact ⟨k0, k1, k2⟩
/-- What reads as rows are rows, each no longer than the reading. -/
theorem rows_of_trod {fuel : Nat} {cs : List Value} {y : DataW H × List MemPlace} {B : Nat} (h : DataW.trod enc Tryz.prog W 0 sp hd fuel 22 cs = some y)
    (hB : ∀ elems rest, y.1 = .slice elems rest → ∀ el rs, DataW.slice el rs ∈ elems → el.length ≤ B) :
    ∃ u R, cs = [u] ∧ RowsAt W u R ∧ ∀ r ∈ R, r.length ≤ B := by
  rcases DataW.trod_slice Tryz.underlying22 h with ⟨rfl, rfl⟩ | ⟨a, len, cap, elems, rest, n, rfl, rfl, rfl, hb, hl, hm, hlen, hel, _, _⟩
  · exact ⟨_, [], rfl, rows_nil W, by simp⟩
  · rw [cellsOf31] at hel
    have hB' := hB _ _ rfl
    obtain ⟨R, hr, hp⟩ := pick_list (p := fun i (r : List Vl) => ∃ u, W.cell? (a.add (i * 1)) = some u ∧ RowAt W u r ∧ r.length ≤ B) len (fun i hi => by
      have he := hel i hi
      obtain ⟨y, hy⟩ : ∃ y, elems[i]? = some y := ⟨elems[i], by simp [hlen, hi]⟩
      rw [hy, Option.bind_eq_some_iff] at he
      obtain ⟨cs', h1, h2⟩ := he
      obtain ⟨u, r, rfl, hra, hlen2⟩ := row_of_trod h2
      refine ⟨r, u, cell_of_cells?_one h1, hra, ?_⟩
      rcases hlen2 with rfl | ⟨el, rs, e, hl2⟩
      · simp
      · rw [hl2]
        exact hB' el rs (by rw [← e]; exact List.mem_map_of_mem (List.mem_of_getElem? hy)))
    have hmx : len ≤ 9223372036854775807 := by simp only [maxLen] at hm; omega
    refine ⟨_, R, rfl, ⟨by omega, some a, cap, by rw [hr], ?_⟩, fun r hr2 => ?_⟩
    · cases hlr : R with
      | nil => exact .inl rfl
      | cons x0 r0 =>
        right
        rw [← hlr]
        have hx0 : R[0]? = some x0 := by rw [hlr]; rfl
        obtain ⟨u0, h0, _⟩ := hp 0 x0 hx0
        rw [Nat.zero_mul] at h0
        have ha := addr_none h0
        refine ⟨a.block, a.off, by rw [← ha], fun j hj => ?_⟩
        obtain ⟨u, k0, k1, _⟩ := hp j _ (List.getElem?_eq_getElem hj)
        have e : R.getD j [] = R[j] := by simp [List.getD, hj]
        rw [e]
        rw [ha, add_lit, Nat.mul_one] at k0
        exact ⟨u, k0, k1⟩
    · obtain ⟨i, hi, rfl⟩ := List.getElem_of_mem hr2
      obtain ⟨u, _, _, h3⟩ := hp i _ (List.getElem?_eq_getElem hi)
      exact h3
end
end Go.Proofs.YtmomolpgjkejgaaGreatDoor
