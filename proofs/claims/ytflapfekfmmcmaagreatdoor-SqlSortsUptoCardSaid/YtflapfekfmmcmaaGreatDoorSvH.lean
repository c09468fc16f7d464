/- PROVED: contracts of the functions that SqlSorts reaches, and what a stable sort is (part SvH). CONDITIONS: none. -/
import Derived.Test.YtflapfekfmmcmaaGreatDoorSvG
import Derived.ChangeArms
import Derived.Deep.Strs
import Derived.SliceStrings
set_option linter.unusedSimpArgs false
set_option linter.unusedVariables false
set_option linter.unnecessarySimpa false
set_option linter.unusedVariables false
namespace Go.Proofs.YtflapfekfmmcmaaGreatDoor
open Go Go.RowKit Go.Lib
def IsInt (w : World) (e : Ending) (w' : World) : Prop := ∃ z : Int, e = .returned (.int .i64 z) ∧ w = w'
set_option maxHeartbeats 2000000 in
set_option maxRecDepth 100000 in
theorem weightOf9 (v : Value) (r : List Vl) (w : World) (h : RowAt w v r) : Calls Tryz.prog 9 #[v] w (IsInt w) := by
  obtain ⟨h0, hs, a, c, rfl, h1⟩ := h
  have H1 := Lib.hid h1
  clear h1 hs
  go_enter Tryz.func9, Tryz.ntmps9
  go_wp2
  go_loop [3, 4] (fun n i => ∃ (z : Int) (j : Nat), j ≤ r.length ∧ n = .int .i64 z ∧ i = .int .i64 j) (fun _ i => r.length - (RowKit.intOf i).toNat)
  case atStart => exact ⟨_, 0, Nat.zero_le _, rfl, rfl⟩
  case round =>
    obtain ⟨z, j, hj, rfl, rfl⟩ := hrel
    by_cases hlt : j < r.length
    · rcases H1.out with hn | ⟨b, o, rfl, hc⟩
      · rw [hn] at hlt; simp at hlt
      · have e3 := (hc j hlt).2.2
        clear hc
        go_wp2
        go_round
        case rel => exact ⟨_, j + 1, by omega, rfl, by go_num⟩
        case measure => simp [RowKit.intOf]; omega
    · go_wp2
      go_ret
      exact ⟨z, rfl, rfl⟩
set_option maxHeartbeats 2000000 in
set_option maxRecDepth 100000 in
theorem weight4 (v : Value) (R : List (List Vl)) (w : World) (h : RowsAt w v R) : Calls Tryz.prog 4 #[v] w (IsInt w) := by
  obtain ⟨h0, a, c, rfl, h1⟩ := h
  have H1 := Lib.hid h1
  clear h1
  go_enter Tryz.func4, Tryz.ntmps4
  go_wp2
  go_loop [3, 4] (fun n i => ∃ (z : Int) (j : Nat), j ≤ R.length ∧ n = .int .i64 z ∧ i = .int .i64 j) (fun _ i => R.length - (RowKit.intOf i).toNat)
  case atStart => exact ⟨_, 0, Nat.zero_le _, rfl, rfl⟩
  case round =>
    obtain ⟨z, j, hj, rfl, rfl⟩ := hrel
    by_cases hlt : j < R.length
    · rcases H1.out with hn | ⟨b, o, rfl, hc⟩
      · rw [hn] at hlt; simp at hlt
      · obtain ⟨u, e1, hr⟩ := hc j hlt
        have C := weightOf9 u _ w hr
        clear hc hr
        go_wp2_with (go_at_call 9; refine C.mono ?_; rintro e w' ⟨z1, rfl, rfl⟩)
        go_round
        case rel => exact ⟨_, j + 1, by omega, rfl, by go_num⟩
        case measure => simp [RowKit.intOf]; omega
    · go_wp2
      go_ret
      exact ⟨z, rfl, rfl⟩
set_option maxHeartbeats 4000000 in
set_option maxRecDepth 100000 in
theorem law3 (v bv dv : Value) (R : List (List Vl)) (B : List Int) (D : List Bool) (W : World) (h : RowsAt W v R) (hrc : R = [] ∨ RowsC W v R) (hB : IntsAt W bv B) (hD : BoolsAt W dv D) (hl : ∀ r ∈ R, r.length ≤ 1048576)
    (KN0 : ∀ w, Below W.heap.size W w → Calls Tryz.prog 5 #[] w fun e w' => e = .returned (.bool true) ∧ Below w.heap.size w w') :
    Calls Tryz.prog 3 #[v, bv, dv] W fun e w' => e = .returned (.bool true) ∧ Below W.heap.size W w' := by
  have CW := weight4 v R W h
  have C6 := sorted6 v bv dv R B D W h hB hD hl
  have C7 := Lib.hid (fun w1 (hb : Below W.heap.size W w1) => sortedR7 v bv dv R B D w1 (h.below hb) (hrc.imp id fun x => x.below hb) (hB.below hb) (hD.below hb))
  have KN := Lib.hid KN0
  obtain ⟨l3, a3, c3, rfl, k3⟩ := hB
  obtain ⟨l4, a4, c4, rfl, k4⟩ := hD
  clear KN0 hl h hrc k3 k4
  go_enter Tryz.func3, Tryz.ntmps3
  go_wp2_with (first
    | (go_at_call 4; refine CW.mono ?_; rintro e w1 ⟨z, rfl, rfl⟩)
    | (go_at_call 5; refine (KN.out _ (by first | exact Below.refl _ _ | assumption)).mono ?_; rintro e w5 ⟨rfl, hb5⟩)
    | (go_at_call 6; refine C6.mono ?_; rintro e w1 ⟨o1, rfl, hr1, hb1⟩)
    | (go_at_call 7; refine (C7.out _ hb1).mono ?_; rintro e w2 ⟨o2, rfl, hr2, hb2⟩; have C8 := same8 o1 o2 _ _ w2 (hr1.below hb2) hr2; rw [decide_eq_true rfl] at C8)
    | (go_at_call 8; refine C8.mono ?_; rintro e w3 ⟨rfl, hb3⟩; have hb13 : Below W.heap.size W w3 := (hb1.trans (hb2.mono hb1.size)).trans (hb3.mono (by have := hb1.size; have := hb2.size; omega))))
  all_goals go_ret
  all_goals first | exact ⟨rfl, hb5⟩ | exact ⟨rfl, hb13.trans (hb5.mono hb13.size)⟩
end Go.Proofs.YtflapfekfmmcmaaGreatDoor

set_option linter.unusedVariables false
namespace Go.Proofs.YtflapfekfmmcmaaGreatDoor
open Go Go.RowKit Go.Lib Go.ChangeShapes Go.WideShapes Go.Deep
section
variable {H : Type} {enc : TypeId × Value → H} {W : World} {sp : Nat → Bool} {hd : Bool}
theorem under45 : ∃ f0 f1 f2, Tryz.prog.underlying 45 = some (.struct #[f0, f1, f2]) ∧ f0.type = 3 ∧ f1.type = 3 ∧ f2.type = 9 ∧ f0.offset = 0 ∧ f1.offset = 1 ∧ f2.offset = 2 := ⟨_, _, _, Tryz.underlying45, rfl, rfl, rfl, rfl, rfl, rfl⟩
theorem cellsOf45 : Tryz.prog.cellsOf 45 = 3 := by kernel_rfl
theorem cellsOf33 : Tryz.prog.cellsOf 33 = 1 := by kernel_rfl
theorem cellsOf3 : Tryz.prog.cellsOf 3 = 1 := by kernel_rfl
theorem cellsOf9 : Tryz.prog.cellsOf 9 = 1 := by kernel_rfl
theorem cells3_of {a : Addr} {cs : List Value} (h : W.cells? 0 a 3 = some cs) : ∃ v0 v1 v2, cs = [v0, v1, v2] ∧ W.cell? (a.add 0) = some v0 ∧ W.cell? (a.add 1) = some v1 ∧ W.cell? (a.add 2) = some v2 := by
  simp only [World.cells?, Nat.zero_le, if_true, show List.range 3 = [0, 1, 2] from rfl, List.mapM_cons, List.mapM_nil, Option.bind_eq_bind, Option.bind_eq_some_iff, Option.pure_def, Option.some.injEq] at h
  obtain ⟨v0, h0, l1, ⟨v1, h1, l2, ⟨v2, h2, l3, rfl, rfl⟩, rfl⟩, rfl⟩ := h
  exact ⟨v0, v1, v2, rfl, h0, h1, h2⟩
/-- What reads as a value is one. -/
theorem vl_of_trod {fuel : Nat} {a : Addr} {y : DataW H × List MemPlace} (h : (W.cells? 0 a 3).bind (DataW.trod enc Tryz.prog W 0 sp hd fuel 45) = some y) :
    ∃ x : Vl, x.s.size ≤ maxLen ∧ W.cell? (a.add 0) = some (.int .i64 x.k) ∧ W.cell? (a.add 1) = some (.int .i64 x.n) ∧ W.cell? (a.add 2) = some (.string x.s) := by
  rw [Option.bind_eq_some_iff] at h
  obtain ⟨cs, h1, h2⟩ := h
  obtain ⟨v0, v1, v2, rfl, c0, c1, c2⟩ := cells3_of h1
  obtain ⟨f0, f1, f2, hu, t0, t1, t2, o0, o1, o2⟩ := under45
  obtain ⟨y0, y1, y2, n, _, _, k0, k1, k2⟩ := trod_struct3 hu h2
  rw [t0, o0, cellsOf3] at k0
  rw [t1, o1, cellsOf3] at k1
  rw [t2, o2, cellsOf9] at k2
  obtain ⟨z0, e0, _⟩ := DataW.trod_int Tryz.underlying3 k0
  obtain ⟨z1, e1, _⟩ := DataW.trod_int Tryz.underlying3 k1
  obtain ⟨s, e2, _, hs⟩ := DataW.trod_string Tryz.underlying9 k2
  simp at e0 e1 e2
  subst e0; subst e1; subst e2
  exact ⟨⟨z0, z1, s⟩, hs, c0, c1, c2⟩
theorem pick_list {α : Type} {p : Nat → α → Prop} : ∀ (n : Nat), (∀ i, i < n → ∃ x, p i x) → ∃ l : List α, l.length = n ∧ ∀ i x, l[i]? = some x → p i x
  | 0, _ => ⟨[], rfl, fun i x h => by simp at h⟩
  | n + 1, h => by
    obtain ⟨l, hl, hp⟩ := pick_list n fun i hi => h i (by omega)
    obtain ⟨x, hx⟩ := h n (by omega)
    refine ⟨l ++ [x], by simp [hl], fun i y hy => ?_⟩
    by_cases hi : i < n
    · rw [List.getElem?_append_left (by omega)] at hy; exact hp i y hy
    · have : i = n := by
        have := (List.getElem?_eq_some_iff.1 hy).1; simp at this; omega
      subst this
      rw [List.getElem?_append_right (by omega)] at hy
      simp [hl] at hy; subst hy; exact hx
theorem addr_none {a : Addr} {v : Value} (h : W.cell? (a.add 0) = some v) : a = ⟨a.block, a.off, none⟩ := by
  have := World.cell?_spot h
  obtain ⟨b, o, s⟩ := a
  simp [Addr.add] at this
  rw [this]
theorem add_lit (b o i : Nat) : (⟨b, o, none⟩ : Addr).add i = ⟨b, o + i, none⟩ := by
  unfold Addr.add; split
  · rename_i h; simp [h]
  · rfl
/-- What reads as a row is one; its length is that of the reading. -/
theorem row_of_trod {fuel : Nat} {cs : List Value} {y : DataW H × List MemPlace} (h : DataW.trod enc Tryz.prog W 0 sp hd fuel 33 cs = some y) :
    ∃ u r, cs = [u] ∧ RowAt W u r ∧ ((r = [] ) ∨ ∃ elems rest, y.1 = .slice elems rest ∧ r.length = elems.length) := by
  rcases DataW.trod_slice Tryz.underlying33 h with ⟨rfl, rfl⟩ | ⟨a, len, cap, elems, rest, n, rfl, rfl, rfl, hb, hl, hm, hlen, hel, _, _⟩
  · exact ⟨_, [], rfl, ⟨by simp, by simp, none, 0, rfl, .inl rfl⟩, .inl rfl⟩
  · rw [cellsOf45] at hel
    obtain ⟨r, hr, hp⟩ := pick_list (p := fun i (x : Vl) => x.s.size ≤ maxLen ∧ W.cell? ((a.add (i * 3)).add 0) = some (.int .i64 x.k) ∧ W.cell? ((a.add (i * 3)).add 1) = some (.int .i64 x.n) ∧ W.cell? ((a.add (i * 3)).add 2) = some (.string x.s)) len (fun i hi => by
      have he := hel i hi
      obtain ⟨y, hy⟩ : ∃ y, elems[i]? = some y := ⟨elems[i], by simp [hlen, hi]⟩
      rw [hy] at he
      exact vl_of_trod he)
    have hmx : len ≤ 9223372036854775807 := by simp only [maxLen] at hm; omega
    refine ⟨_, r, rfl, ⟨by omega, fun x hx => ?_, some a, cap, by rw [hr], ?_⟩, .inr ⟨_, _, rfl, by simp [hr, hlen]⟩⟩
    · obtain ⟨i, hi, rfl⟩ := List.getElem_of_mem hx
      have := (hp i _ (List.getElem?_eq_getElem hi)).1
      simpa [maxLen] using this
    · cases hlr : r with
      | nil => exact .inl rfl
      | cons x0 r0 =>
        right
        rw [← hlr]
        have hx0 : r[0]? = some x0 := by rw [hlr]; rfl
        have h0 := (hp 0 x0 hx0).2.1
        have e00 : (a.add (0 * 3)).add 0 = a.add 0 := by simp [Addr.add]
        rw [e00] at h0
        have ha := addr_none h0
        refine ⟨a.block, a.off, by rw [← ha], fun j hj => ?_⟩
        obtain ⟨_, k0, k1, k2⟩ := hp j _ (List.getElem?_eq_getElem hj)
        have e : r.getD j d0 = r[j] := by simp [List.getD, hj]
        rw [e]
        rw [ha, add_lit, add_lit] at k0 k1 k2
        exact ⟨k0, k1, k2⟩
/-- What reads as rows are rows, each no longer than the reading. -/
theorem rows_of_trod {fuel : Nat} {cs : List Value} {y : DataW H × List MemPlace} {B : Nat} (h : DataW.trod enc Tryz.prog W 0 sp hd fuel 22 cs = some y)
    (hB : ∀ elems rest, y.1 = .slice elems rest → ∀ el rs, DataW.slice el rs ∈ elems → el.length ≤ B) :
    ∃ u R, cs = [u] ∧ RowsAt W u R ∧ (R = [] ∨ RowsC W u R) ∧ ∀ r ∈ R, r.length ≤ B := by
  rcases DataW.trod_slice Tryz.underlying22 h with ⟨rfl, rfl⟩ | ⟨a, len, cap, elems, rest, n, rfl, rfl, rfl, hb, hl, hm, hlen, hel, _, _⟩
  · exact ⟨_, [], rfl, rows_nil W, .inl rfl, by simp⟩
  · rw [cellsOf33] at hel
    have hB' := hB _ _ rfl
    obtain ⟨R, hr, hp⟩ := pick_list (p := fun i (r : List Vl) => ∃ u, W.cell? (a.add (i * 1)) = some u ∧ RowAt W u r ∧ r.length ≤ B) len (fun i hi => by
      have he := hel i hi
      obtain ⟨y, hy⟩ : ∃ y, elems[i]? = some y := ⟨elems[i], by simp [hlen, hi]⟩
      rw [hy, Option.bind_eq_some_iff] at he
      obtain ⟨cs', h1, h2⟩ := he
      obtain ⟨u, r, rfl, hra, hlen2⟩ := row_of_trod h2
      refine ⟨r, u, cell_of_cells?_one h1, hra, ?_⟩
      rcases hlen2 with rfl | ⟨el, rs, e, hl2⟩
      · simp
      · rw [hl2]
        exact hB' el rs (by rw [← e]; exact List.mem_map_of_mem (List.mem_of_getElem? hy)))
    have hmx : len ≤ 9223372036854775807 := by simp only [maxLen] at hm; omega
    have hle : ∀ r ∈ R, r.length ≤ B := fun r hr2 => by
      obtain ⟨i, hi, rfl⟩ := List.getElem_of_mem hr2
      obtain ⟨u, _, _, h3⟩ := hp i _ (List.getElem?_eq_getElem hi)
      exact h3
    cases hlr : R with
    | nil => exact ⟨_, [], rfl, ⟨by simp, some a, cap, by rw [← hr, hlr], .inl rfl⟩, .inl rfl, by simp⟩
    | cons x0 r0 =>
      have hx0 : R[0]? = some x0 := by rw [hlr]; rfl
      obtain ⟨u0, h0, _⟩ := hp 0 x0 hx0
      rw [Nat.zero_mul] at h0
      have ha := addr_none h0
      have C : RowsC W (.slice (some a) len cap) R := ⟨by omega, a.block, a.off, cap, by rw [← ha, hr], by omega, fun j hj => by
        obtain ⟨u, k0, k1, _⟩ := hp j _ (List.getElem?_eq_getElem hj)
        have e : R.getD j [] = R[j] := by simp [List.getD, hj]
        rw [e]
        rw [ha, add_lit, Nat.mul_one] at k0
        exact ⟨u, k0, k1⟩⟩
      exact ⟨_, R, rfl, C.rows, .inr C, hle⟩
theorem cellsOf3' : Tryz.prog.cellsOf 3 = 1 := cellsOf3
theorem cellsOf4 : Tryz.prog.cellsOf 4 = 1 := by kernel_rfl
/-- What reads as numbers is numbers. -/
theorem ints_of_trod {fuel : Nat} {cs : List Value} {y : DataW H × List MemPlace} (h : DataW.trod enc Tryz.prog W 0 sp hd fuel 23 cs = some y) : ∃ u B, cs = [u] ∧ IntsAt W u B := by
  rcases DataW.trod_slice Tryz.underlying23 h with ⟨rfl, rfl⟩ | ⟨a, len, cap, elems, rest, n, rfl, rfl, rfl, hb, hl, hm, hlen, hel, _, _⟩
  · exact ⟨_, [], rfl, by simp, none, 0, rfl, .inl rfl⟩
  · rw [cellsOf3] at hel
    obtain ⟨R, hr, hp⟩ := pick_list (p := fun i (z : Int) => W.cell? (a.add (i * 1)) = some (.int .i64 z)) len (fun i hi => by
      have he := hel i hi
      obtain ⟨y, hy⟩ : ∃ y, elems[i]? = some y := ⟨elems[i], by simp [hlen, hi]⟩
      rw [hy, Option.bind_eq_some_iff] at he
      obtain ⟨cs', h1, h2⟩ := he
      obtain ⟨z, e, _⟩ := DataW.trod_int Tryz.underlying3 h2
      subst e
      exact ⟨z, cell_of_cells?_one h1⟩)
    have hmx : len ≤ 9223372036854775807 := by simp only [maxLen] at hm; omega
    refine ⟨_, R, rfl, by omega, some a, cap, by rw [hr], ?_⟩
    cases hlr : R with
    | nil => exact .inl rfl
    | cons x0 r0 =>
      right
      rw [← hlr]
      have h0 := hp 0 x0 (by rw [hlr]; rfl)
      rw [Nat.zero_mul] at h0
      have ha := addr_none h0
      refine ⟨a.block, a.off, by rw [← ha], fun j hj => ?_⟩
      have k0 := hp j _ (List.getElem?_eq_getElem hj)
      have e : R.getD j 0 = R[j] := by simp [List.getD, hj]
      rw [e]
      rw [ha, add_lit, Nat.mul_one] at k0
      exact k0
/-- What reads as truths is truths. -/
theorem bools_of_trod {fuel : Nat} {cs : List Value} {y : DataW H × List MemPlace} (h : DataW.trod enc Tryz.prog W 0 sp hd fuel 24 cs = some y) : ∃ u B, cs = [u] ∧ BoolsAt W u B := by
  rcases DataW.trod_slice Tryz.underlying24 h with ⟨rfl, rfl⟩ | ⟨a, len, cap, elems, rest, n, rfl, rfl, rfl, hb, hl, hm, hlen, hel, _, _⟩
  · exact ⟨_, [], rfl, by simp, none, 0, rfl, .inl rfl⟩
  · rw [cellsOf4] at hel
    obtain ⟨R, hr, hp⟩ := pick_list (p := fun i (z : Bool) => W.cell? (a.add (i * 1)) = some (.bool z)) len (fun i hi => by
      have he := hel i hi
      obtain ⟨y, hy⟩ : ∃ y, elems[i]? = some y := ⟨elems[i], by simp [hlen, hi]⟩
      rw [hy, Option.bind_eq_some_iff] at he
      obtain ⟨cs', h1, h2⟩ := he
      obtain ⟨z, e, _⟩ := DataW.trod_bool Tryz.underlying4 h2
      subst e
      exact ⟨z, cell_of_cells?_one h1⟩)
    have hmx : len ≤ 9223372036854775807 := by simp only [maxLen] at hm; omega
    refine ⟨_, R, rfl, by omega, some a, cap, by rw [hr], ?_⟩
    cases hlr : R with
    | nil => exact .inl rfl
    | cons x0 r0 =>
      right
      rw [← hlr]
      have h0 := hp 0 x0 (by rw [hlr]; rfl)
      rw [Nat.zero_mul] at h0
      have ha := addr_none h0
      refine ⟨a.block, a.off, by rw [← ha], fun j hj => ?_⟩
      have k0 := hp j _ (List.getElem?_eq_getElem hj)
      have e : R.getD j false = R[j] := by simp [List.getD, hj]
      rw [e]
      rw [ha, add_lit, Nat.mul_one] at k0
      exact k0
end
end Go.Proofs.YtflapfekfmmcmaaGreatDoor
