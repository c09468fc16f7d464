/- PROVED: contracts of the functions that SqlDistincts reaches (part DvC). CONDITIONS: none. -/
import Derived.Test.YtmomolpgjkejgaaGreatDoorDvB
import Derived.Deep.RegionHeld3
import Derived.OwnWalk
import Derived.Laws.AppendOwn
import Derived.Sort.Grow
import Derived.Maps.AppendAt
import Derived.LoopTactic
set_option linter.unusedSimpArgs false
set_option linter.unusedVariables false
set_option linter.unusedVariables false
namespace Go.Proofs.YtmomolpgjkejgaaGreatDoor
open Go Go.RowKit Go.Lib
theorem vl_eq (x y : Vl) : decide (x = y) = (decide (x.k = y.k) && (decide (x.n = y.n) && decide (x.s = y.s))) := by
  obtain ⟨a, b, c⟩ := x
  obtain ⟨d, e, f⟩ := y
  rw [Bool.eq_iff_iff]; simp
set_option maxHeartbeats 2000000 in
set_option maxRecDepth 100000 in
theorem sameValue27 (x y : Vl) (w : World) : Calls Tryz.prog 27 #[x.v, y.v] w fun e w' => e = .returned (.bool (decide (x = y))) ∧ Below w.heap.size w w' := by
  rw [vl_eq]
  obtain ⟨k, n, s⟩ := x
  obtain ⟨k', n', s'⟩ := y
  simp only [Vl.v]
  by_cases hk : k = k'
  · subst hk
    by_cases hn : n = n'
    · subst hn
      by_cases hs : s = s'
      · subst hs
        go_enter Tryz.func27, Tryz.ntmps27
        go_wp2
        go_ret
        exact ⟨ret_bool (by simp), ((Below.refl _ _).alloc (Nat.le_refl _) _).alloc (by simp) _⟩
      · have hs' : (s.toList == s'.toList) = false := (Lib.bytes_beq_false_iff _ _).2 hs
        have H := Lib.hid hs
        clear hs
        go_enter Tryz.func27, Tryz.ntmps27
        go_wp2
        go_ret
        exact ⟨ret_bool (by simp [H.out]), ((Below.refl _ _).alloc (Nat.le_refl _) _).alloc (by simp) _⟩
    · go_enter Tryz.func27, Tryz.ntmps27
      go_wp2
      go_ret
      exact ⟨ret_bool (by simp [hn]), ((Below.refl _ _).alloc (Nat.le_refl _) _).alloc (by simp) _⟩
  · go_enter Tryz.func27, Tryz.ntmps27
    go_wp2
    go_ret
    exact ⟨ret_bool (by simp [hk]), ((Below.refl _ _).alloc (Nat.le_refl _) _).alloc (by simp) _⟩
theorem list_eq_at {α : Type} {d : α} {xs ys : List α} (hl : xs.length = ys.length) (h : ∀ j, j < xs.length → xs.getD j d = ys.getD j d) : xs = ys := by
  apply List.ext_getElem hl
  intro i h1 h2
  have := h i h1
  simpa [List.getD, h1, h2] using this
theorem list_ne_at {α : Type} {d : α} {xs ys : List α} {k : Nat} (h : xs.getD k d ≠ ys.getD k d) : xs ≠ ys := by rintro rfl; exact h rfl
theorem keep6 {w0 w w1 : World} {n b p1 p2 p3 b' q1 q2 q3 : Nat} {v1 v2 v3 u1 u2 u3 : Value} (h : w.cell? ⟨b, p1, none⟩ = some v1 ∧ w.cell? ⟨b, p2, none⟩ = some v2 ∧ w.cell? ⟨b, p3, none⟩ = some v3 ∧ w.cell? ⟨b', q1, none⟩ = some u1 ∧ w.cell? ⟨b', q2, none⟩ = some u2 ∧ w.cell? ⟨b', q3, none⟩ = some u3 ∧ n ≤ w.heap.size ∧ Below n w0 w) (hb : Below w.heap.size w w1) :
    w1.cell? ⟨b, p1, none⟩ = some v1 ∧ w1.cell? ⟨b, p2, none⟩ = some v2 ∧ w1.cell? ⟨b, p3, none⟩ = some v3 ∧ w1.cell? ⟨b', q1, none⟩ = some u1 ∧ w1.cell? ⟨b', q2, none⟩ = some u2 ∧ w1.cell? ⟨b', q3, none⟩ = some u3 ∧ n ≤ w1.heap.size ∧ Below n w0 w1 := by
  obtain ⟨h1, h2, h3, h4, h5, h6, h7, h8⟩ := h
  have hc := (bcell hb).1
  have l1 : b < w.heap.size := World.block_lt_of_cell? w _ h1
  have l2 : b' < w.heap.size := World.block_lt_of_cell? w _ h4
  rw [hc _ _ l1, hc _ _ l1, hc _ _ l1, hc _ _ l2, hc _ _ l2, hc _ _ l2]
  exact ⟨h1, h2, h3, h4, h5, h6, by have := hb.size; omega, h8.trans (hb.mono h7)⟩
theorem below_drew {n : Nat} {w0 w : World} (h : Below n w0 w) : Below n w0 w.drew := h.trans ⟨rfl, rfl, rfl, Nat.le_refl _, fun _ _ => rfl⟩
set_option maxHeartbeats 4000000 in
set_option maxRecDepth 100000 in
theorem sameValues15 (u v : Value) (xs ys : List Vl) (w : World) (h1 : RowAt w u xs) (h2 : RowAt w v ys) :
    Calls Tryz.prog 15 #[u, v] w fun e w' => e = .returned (.bool (decide (xs = ys))) ∧ Below w.heap.size w w' := by
  obtain ⟨l1, s1, a1, c1, rfl, k1⟩ := h1
  obtain ⟨l2, s2, a2, c2, rfl, k2⟩ := h2
  clear s1 s2
  have K1 := Lib.hid k1
  have K2 := Lib.hid k2
  clear k1 k2
  by_cases hl : xs.length = ys.length
  · have HL := Lib.hid hl
    rw [← hl] at l2 ⊢
    generalize hN : xs.length = N at l1 l2 ⊢
    have HN := Lib.hid hN
    clear hl hN
    go_enter Tryz.func15, Tryz.ntmps15
    go_wp2
    go_loopg [5] N (fun g s8 wr => ∃ k : Nat, k ≤ N ∧ N - k ≤ g ∧ s8 = .int .i64 k ∧ Below w.heap.size w wr ∧ ∀ j, j < k → xs.getD j d0 = ys.getD j d0)
    case atStart => exact ⟨0, Nat.zero_le _, by omega, rfl, Below.refl _ _, fun j hj => absurd hj (Nat.not_lt_zero _)⟩
    case round =>
      obtain ⟨k, hk, hg, rfl, hbel, hall⟩ := hrel
      have A := Lib.hid hall
      clear hall
      by_cases hlt : k < N
      · rcases K1.out with hn | ⟨b, o, rfl, hc⟩
        · exfalso; have := HN.out; rw [hn] at this; simp at this; omega
        · rcases K2.out with hn' | ⟨b', o', rfl, hc'⟩
          · exfalso; have := HN.out; rw [HL.out, hn'] at this; simp at this; omega
          · obtain ⟨e1, e2, e3⟩ := hc k (by rw [HN.out]; exact hlt)
            obtain ⟨f1, f2, f3⟩ := hc' k (by rw [← HL.out, HN.out]; exact hlt)
            have q1 := World.block_lt_of_cell? w _ e1
            have q2 := World.block_lt_of_cell? w _ f1
            rw [← (bcell hbel).1 _ _ q1] at e1 e2 e3
            rw [← (bcell hbel).1 _ _ q2] at f1 f2 f3
            clear hc hc' q1 q2
            generalize hx : xs.getD k d0 = x at e1 e2 e3
            generalize hy : ys.getD k d0 = y at f1 f2 f3
            have HX := Lib.hid hx
            have HY := Lib.hid hy
            clear hx hy
            have C := sameValue27 x y
            have hsz := hbel.size
            by_cases hxy : x = y
            · subst hxy
              have C := fun w => by have := C w; rw [decide_eq_true rfl] at this; exact this
              obtain ⟨xk, xn, xs0⟩ := x
              simp only [Vl.v] at *
              go_wp2_with fail
              go_region_held3 (fun w' => w'.cell? ⟨b, o + k * 3, none⟩ = some (.int .i64 xk) ∧ w'.cell? ⟨b, o + k * 3 + 1, none⟩ = some (.int .i64 xn) ∧ w'.cell? ⟨b, o + k * 3 + 2, none⟩ = some (.string xs0) ∧ w'.cell? ⟨b', o' + k * 3, none⟩ = some (.int .i64 xk) ∧ w'.cell? ⟨b', o' + k * 3 + 1, none⟩ = some (.int .i64 xn) ∧ w'.cell? ⟨b', o' + k * 3 + 2, none⟩ = some (.string xs0) ∧ w.heap.size ≤ w'.heap.size ∧ Below w.heap.size w w')
                (first | exact keep6 (by assumption) hb | (go_keep; done) | (go_split_ands; (repeat' apply And.intro) <;> first | (go_keep; done) | exact below_drew hbel))
                (first
                  | (go_at_call 27; refine (C _).mono ?_; rintro e w' ⟨rfl, hb⟩))
              go_wp2
              go_roundg (N - (k + 1))
              case measure => omega
              case rel =>
                refine ⟨k + 1, by omega, by omega, by go_num, (below_drew hbel).trans (hb.mono hbel.size), fun j hj => ?_⟩
                by_cases e : j = k
                · subst e; rw [HX.out, HY.out]
                · exact A.out j (by omega)
            · have C := fun w => by have := C w; rw [decide_eq_false hxy] at this; exact this
              have NE : Hid (xs ≠ ys) := Lib.hid (list_ne_at (d := d0) (k := k) (by rw [HX.out, HY.out]; exact hxy))
              clear hxy
              obtain ⟨xk, xn, xs0⟩ := x
              obtain ⟨yk, yn, ys0⟩ := y
              simp only [Vl.v] at *
              go_wp2_with fail
              go_region_held3 (fun w' => w'.cell? ⟨b, o + k * 3, none⟩ = some (.int .i64 xk) ∧ w'.cell? ⟨b, o + k * 3 + 1, none⟩ = some (.int .i64 xn) ∧ w'.cell? ⟨b, o + k * 3 + 2, none⟩ = some (.string xs0) ∧ w'.cell? ⟨b', o' + k * 3, none⟩ = some (.int .i64 yk) ∧ w'.cell? ⟨b', o' + k * 3 + 1, none⟩ = some (.int .i64 yn) ∧ w'.cell? ⟨b', o' + k * 3 + 2, none⟩ = some (.string ys0) ∧ w.heap.size ≤ w'.heap.size ∧ Below w.heap.size w w')
                (first | exact keep6 (by assumption) hb | (go_keep; done) | (go_split_ands; (repeat' apply And.intro) <;> first | (go_keep; done) | exact below_drew hbel))
                (first
                  | (go_at_call 27; refine (C _).mono ?_; rintro e w' ⟨rfl, hb⟩))
              go_wp2
              go_ret
              exact ⟨ret_bool (decide_eq_false NE.out).symm, (below_drew hbel).trans (hb.mono hbel.size)⟩
      · have hkn : k = N := by omega
        have E2 := Lib.hid (list_eq_at (d := d0) (xs := xs) (ys := ys) HL.out fun j hj => A.out j (by rw [hkn, ← HN.out]; exact hj))
        clear hkn
        go_wp2
        go_ret
        exact ⟨ret_bool (decide_eq_true E2.out).symm, hbel⟩
  · have hne : decide (xs = ys) = false := decide_eq_false fun e => hl (by rw [e])
    rw [hne]
    have hnm' : ¬ (xs.length : Int) = (ys.length : Int) := by omega
    clear hne hl
    go_enter Tryz.func15, Tryz.ntmps15
    go_wp2
    go_ret
    exact ⟨rfl, Below.refl _ _⟩
end Go.Proofs.YtmomolpgjkejgaaGreatDoor

set_option linter.unusedVariables false
namespace Go.Proofs.YtmomolpgjkejgaaGreatDoor
open Go Go.RowKit Go.Lib
theorem keep2 {w0 w w1 : World} {n b p1 b' q1 : Nat} {v1 u1 : Value} (h : w.cell? ⟨b, p1, none⟩ = some v1 ∧ w.cell? ⟨b', q1, none⟩ = some u1 ∧ n ≤ w.heap.size ∧ Below n w0 w) (hb : Below w.heap.size w w1) :
    w1.cell? ⟨b, p1, none⟩ = some v1 ∧ w1.cell? ⟨b', q1, none⟩ = some u1 ∧ n ≤ w1.heap.size ∧ Below n w0 w1 := by
  obtain ⟨h1, h4, h7, h8⟩ := h
  have hc := (bcell hb).1
  rw [hc _ _ (World.block_lt_of_cell? w _ h1), hc _ _ (World.block_lt_of_cell? w _ h4)]
  exact ⟨h1, h4, by have := hb.size; omega, h8.trans (hb.mono h7)⟩
set_option maxHeartbeats 4000000 in
set_option maxRecDepth 100000 in
theorem same8 (u v : Value) (xs ys : List (List Vl)) (w : World) (h1 : RowsAt w u xs) (h2 : RowsAt w v ys) :
    Calls Tryz.prog 8 #[u, v] w fun e w' => e = .returned (.bool (decide (xs = ys))) ∧ Below w.heap.size w w' := by
  obtain ⟨l1, a1, c1, rfl, k1⟩ := h1
  obtain ⟨l2, a2, c2, rfl, k2⟩ := h2
  have K1 := Lib.hid k1
  have K2 := Lib.hid k2
  clear k1 k2
  by_cases hl : xs.length = ys.length
  · have HL := Lib.hid hl
    rw [← hl] at l2 ⊢
    generalize hN : xs.length = N at l1 l2 ⊢
    have HN := Lib.hid hN
    clear hl hN
    go_enter Tryz.func8, Tryz.ntmps8
    go_wp2
    go_loopg [5] N (fun g s8 wr => ∃ k : Nat, k ≤ N ∧ N - k ≤ g ∧ s8 = .int .i64 k ∧ Below w.heap.size w wr ∧ ∀ j, j < k → xs.getD j [] = ys.getD j [])
    case atStart => exact ⟨0, Nat.zero_le _, by omega, rfl, Below.refl _ _, fun j hj => absurd hj (Nat.not_lt_zero _)⟩
    case round =>
      obtain ⟨k, hk, hg, rfl, hbel, hall⟩ := hrel
      have A := Lib.hid hall
      clear hall
      by_cases hlt : k < N
      · rcases K1.out with hn | ⟨b, o, rfl, hc⟩
        · exfalso; have := HN.out; rw [hn] at this; simp at this; omega
        · rcases K2.out with hn' | ⟨b', o', rfl, hc'⟩
          · exfalso; have := HN.out; rw [HL.out, hn'] at this; simp at this; omega
          · obtain ⟨u1, e1, r1⟩ := hc k (by rw [HN.out]; exact hlt)
            obtain ⟨u2, f1, r2⟩ := hc' k (by rw [← HL.out, HN.out]; exact hlt)
            have q1 := World.block_lt_of_cell? w _ e1
            have q2 := World.block_lt_of_cell? w _ f1
            rw [← (bcell hbel).1 _ _ q1] at e1
            rw [← (bcell hbel).1 _ _ q2] at f1
            clear hc hc' q1 q2
            generalize hx : xs.getD k [] = x at r1
            generalize hy : ys.getD k [] = y at r2
            have HX := Lib.hid hx
            have HY := Lib.hid hy
            clear hx hy
            have C0 := Lib.hid (fun w1 (hb : Below w.heap.size w w1) => sameValues15 u1 u2 x y w1 (r1.below hb) (r2.below hb))
            have hsz := hbel.size
            clear r1 r2
            by_cases hxy : x = y
            · subst hxy
              have C := Lib.hid (fun w1 (hb : Below w.heap.size w w1) => by have := C0.out w1 hb; rw [decide_eq_true rfl] at this; exact this)
              clear C0
              go_wp2_with fail
              go_region_held3 (fun w' => w'.cell? ⟨b, o + k, none⟩ = some u1 ∧ w'.cell? ⟨b', o' + k, none⟩ = some u2 ∧ w.heap.size ≤ w'.heap.size ∧ Below w.heap.size w w')
                (first | exact keep2 (by assumption) hb | (go_keep; done) | (go_split_ands; (repeat' apply And.intro) <;> first | (go_keep; done) | exact below_drew hbel))
                (first
                  | (go_at_call 15; refine (C.out _ ?_).mono ?_; (go_split_ands; assumption); rintro e w' ⟨rfl, hb⟩))
              go_wp2
              go_roundg (N - (k + 1))
              case measure => omega
              case rel =>
                refine ⟨k + 1, by omega, by omega, by go_num, (below_drew hbel).trans (hb.mono hbel.size), fun j hj => ?_⟩
                by_cases e : j = k
                · subst e; rw [HX.out, HY.out]
                · exact A.out j (by omega)
            · have C := Lib.hid (fun w1 (hb : Below w.heap.size w w1) => by have := C0.out w1 hb; rw [decide_eq_false hxy] at this; exact this)
              have NE : Hid (xs ≠ ys) := Lib.hid (list_ne_at (d := []) (k := k) (by rw [HX.out, HY.out]; exact hxy))
              clear hxy C0
              go_wp2_with fail
              go_region_held3 (fun w' => w'.cell? ⟨b, o + k, none⟩ = some u1 ∧ w'.cell? ⟨b', o' + k, none⟩ = some u2 ∧ w.heap.size ≤ w'.heap.size ∧ Below w.heap.size w w')
                (first | exact keep2 (by assumption) hb | (go_keep; done) | (go_split_ands; (repeat' apply And.intro) <;> first | (go_keep; done) | exact below_drew hbel))
                (first
                  | (go_at_call 15; refine (C.out _ ?_).mono ?_; (go_split_ands; assumption); rintro e w' ⟨rfl, hb⟩))
              go_wp2
              go_ret
              exact ⟨ret_bool (decide_eq_false NE.out).symm, (below_drew hbel).trans (hb.mono hbel.size)⟩
      · have hkn : k = N := by omega
        have E2 := Lib.hid (list_eq_at (d := []) (xs := xs) (ys := ys) HL.out fun j hj => A.out j (by rw [hkn, ← HN.out]; exact hj))
        clear hkn
        go_wp2
        go_ret
        exact ⟨ret_bool (decide_eq_true E2.out).symm, hbel⟩
  · have hne : decide (xs = ys) = false := decide_eq_false fun e => hl (by rw [e])
    rw [hne]
    have hnm' : ¬ (xs.length : Int) = (ys.length : Int) := by omega
    clear hne hl
    go_enter Tryz.func8, Tryz.ntmps8
    go_wp2
    go_ret
    exact ⟨rfl, Below.refl _ _⟩
end Go.Proofs.YtmomolpgjkejgaaGreatDoor

set_option linter.unusedVariables false
namespace Go.Proofs.YtmomolpgjkejgaaGreatDoor
open Go Go.RowKit Go.Lib
/-- Rows without those that were before. -/
def stepD (out : List (List Vl)) (r : List Vl) : List (List Vl) := if r ∈ out then out else out ++ [r]
def dst (R : List (List Vl)) : List (List Vl) := R.foldl stepD []
theorem dst_take_succ {R : List (List Vl)} {k : Nat} (h : k < R.length) : dst (R.take (k + 1)) = stepD (dst (R.take k)) (R.getD k []) := by
  unfold dst
  rw [List.take_succ_eq_append_getElem h, List.foldl_append]
  simp [List.getD, h]
theorem dst_len (R : List (List Vl)) : (dst R).length ≤ R.length := by
  unfold dst
  have : ∀ (R : List (List Vl)) (o : List (List Vl)), (R.foldl stepD o).length ≤ o.length + R.length := by
    intro R
    induction R with
    | nil => intro o; simp
    | cons r R ih =>
      intro o
      have := ih (stepD o r)
      have h2 : (stepD o r).length ≤ o.length + 1 := by
        unfold stepD; split <;> simp
      simp only [List.foldl_cons, List.length_cons]
      omega
  simpa using this R []
theorem dst_len_take (R : List (List Vl)) (k : Nat) : (dst (R.take k)).length ≤ k := Nat.le_trans (dst_len _) (List.length_take_le _ _)
/-- A row that lies below a base, or in a block of values. -/
def RowIn (w : World) (base : Nat) (v : Value) (r : List Vl) : Prop :=
  RowAt w v r ∧ (r = [] ∨ ∃ b o c, v = .slice (some ⟨b, o, none⟩) r.length c ∧ (b < base ∨ ∃ cs fr, w.heap[b]? = some (.cells cs 43 fr)))
theorem RowAt.heap {w w' : World} {v : Value} {r : List Vl} (h : RowAt w v r) (hk : ∀ b o c, v = .slice (some ⟨b, o, none⟩) r.length c → w'.heap[b]? = w.heap[b]?) : RowAt w' v r := by
  obtain ⟨h0, hs, a, c, rfl, h1⟩ := h
  refine ⟨h0, hs, a, c, rfl, h1.imp id ?_⟩
  rintro ⟨b, o, rfl, h⟩
  have e := hk b o c rfl
  refine ⟨b, o, rfl, fun j hj => ?_⟩
  have hc : ∀ o, w'.cell? ⟨b, o, none⟩ = w.cell? ⟨b, o, none⟩ := fun o => by simp only [World.cell?, e]
  rw [hc, hc, hc]
  exact h j hj
theorem RowIn.keep {w w' : World} {base : Nat} {v : Value} {r : List Vl} (h : RowIn w base v r) (hb : Below w.heap.size w w') : RowIn w' base v r := by
  refine ⟨h.1.below hb, h.2.imp id ?_⟩
  rintro ⟨b, o, c, rfl, h2⟩
  refine ⟨b, o, c, rfl, h2.imp id ?_⟩
  rintro ⟨cs, fr, h3⟩
  exact ⟨cs, fr, by rw [hb.block _ (Array.getElem?_eq_some_iff.1 h3).1]; exact h3⟩
/-- .. behind an append to a row of headers. -/
theorem RowIn.grow {w w' : World} {base : Nat} {v ov : Value} {r : List Vl} {n : Nat} {xs : List Value} (h : RowIn w base v r) (ho : w.ownsRow base 31 1 ov n xs) (hg : w.grownBy w' ov.ownBlock) (hbs : base ≤ w.heap.size) : RowIn w' base v r := by
  obtain ⟨hr, h2⟩ := h
  rcases h2 with rfl | ⟨b, o, c, rfl, h2⟩
  · obtain ⟨h0, hs, a, c, rfl, h1⟩ := hr
    exact ⟨⟨h0, hs, a, c, rfl, .inl rfl⟩, .inl rfl⟩
  · by_cases he : r = []
    · subst he
      obtain ⟨h0, hs, a, c', e, h1⟩ := hr
      exact ⟨⟨h0, hs, a, c', e, .inl rfl⟩, .inl rfl⟩
    · have hlt : b < w.heap.size := by
        obtain ⟨h0, hs, a, c', e, h1⟩ := hr
        rcases h1 with h1 | ⟨b1, o1, rfl, h1⟩
        · exact absurd h1 he
        · simp only [Value.slice.injEq, Option.some.injEq, Addr.mk.injEq] at e
          obtain ⟨⟨rfl, rfl, _⟩, _⟩ := e
          have := (h1 0 (List.length_pos_iff.2 he)).1
          exact World.block_lt_of_cell? w _ this
      have hne : some b ≠ ov.ownBlock := by
        rcases ho.2 with ⟨rfl, _⟩ | ⟨g, cap, cur, rfl, hb0, hc, _⟩
        · simp [Value.ownBlock]
        · simp only [Value.ownBlock, ne_eq, Option.some.injEq]
          rintro rfl
          rcases h2 with h2 | ⟨cs, fr, h2⟩
          · omega
          · rw [hc] at h2; cases h2
      have hh := hg.block b hlt hne
      refine ⟨hr.heap fun b1 o1 c1 e => ?_, .inr ⟨b, o, c, rfl, h2.imp id ?_⟩⟩
      · simp only [Value.slice.injEq, Option.some.injEq, Addr.mk.injEq] at e
        obtain ⟨⟨rfl, _⟩, _⟩ := e
        exact hh
      · rintro ⟨cs, fr, h3⟩
        exact ⟨cs, fr, by rw [hh]; exact h3⟩
/-- A list of rows that the function owns: headers that read as rows. -/
def Outs (w : World) (base : Nat) (v : Value) (L : List (List Vl)) : Prop :=
  ∃ xs : List Value, w.ownsRow base 31 1 v L.length xs ∧ ∀ j, j < L.length → ∃ u, xs[j]? = some u ∧ RowIn w base u (L.getD j [])
theorem Outs.rows {w : World} {base : Nat} {v : Value} {L : List (List Vl)} (h : Outs w base v L) : RowsAt w v L := by
  obtain ⟨xs, ⟨hl, h⟩, hr⟩ := h
  rcases h with ⟨rfl, h0⟩ | ⟨g, cap, cur, rfl, hb, hc, h1, h2, h3, h4⟩
  · have : L = [] := List.eq_nil_of_length_eq_zero h0
    subst this
    exact ⟨by simp, none, 0, rfl, .inl rfl⟩
  · refine ⟨by simp only [maxLen] at h2; omega, _, cap, rfl, .inr ⟨g, 0, rfl, fun j hj => ?_⟩⟩
    obtain ⟨u, hu, hra⟩ := hr j hj
    refine ⟨u, ?_, hra.1⟩
    rw [← h4] at hu
    rw [List.getElem?_take] at hu
    split at hu
    · simp only [World.cell?, hc, Nat.zero_add]
      simpa using hu
    · cases hu
theorem own_keep {w w' : World} {base e n : Nat} {v : Value} {xs : List Value} (h : w.ownsRow base e 1 v n xs) (hb : Below w.heap.size w w') : w'.ownsRow base e 1 v n xs := by
  refine ⟨h.1, ?_⟩
  rcases h.2 with h0 | ⟨g, cap, cur, rfl, hb0, hc, hrest⟩
  · exact .inl h0
  · refine .inr ⟨g, cap, cur, rfl, hb0, ?_, hrest⟩
    rw [hb.block _ (Array.getElem?_eq_some_iff.1 hc).1]; exact hc
theorem Outs.keep {w w' : World} {base : Nat} {v : Value} {L : List (List Vl)} (h : Outs w base v L) (hb : Below w.heap.size w w') : Outs w' base v L := by
  obtain ⟨xs, hown, hr⟩ := h
  refine ⟨xs, own_keep hown hb, fun j hj => ?_⟩
  obtain ⟨u, hu, hra⟩ := hr j hj
  exact ⟨u, hu, hra.keep hb⟩
theorem Outs.nil (w : World) (base : Nat) : Outs w base (.slice none 0 0) [] := ⟨[], ⟨rfl, .inl ⟨rfl, rfl⟩⟩, fun j hj => absurd hj (Nat.not_lt_zero _)⟩
/-- .. behind an append of one row's header. -/
theorem outs_push {w w' : World} {base : Nat} {v v' u : Value} {L : List (List Vl)} {r : List Vl} {xs : List Value} (hbs : base ≤ w.heap.size)
    (hown : w.ownsRow base 31 1 v L.length xs) (hr : ∀ j, j < L.length → ∃ u, xs[j]? = some u ∧ RowIn w base u (L.getD j [])) (hu : RowIn w base u r)
    (ho : w'.ownsRow base 31 1 v' (L.length + 1) (xs ++ [u])) (hg : w.grownBy w' v.ownBlock) : Outs w' base v' (L ++ [r]) := by
  have hl : xs.length = L.length := by have := hown.1; omega
  refine ⟨xs ++ [u], by simpa using ho, fun j hj => ?_⟩
  by_cases h : j < L.length
  · obtain ⟨y, h1, h2⟩ := hr j h
    refine ⟨y, by rw [List.getElem?_append_left (by omega)]; exact h1, ?_⟩
    have e : (L ++ [r]).getD j [] = L.getD j [] := by simp [List.getD, List.getElem?_append_left h]
    rw [e]
    exact h2.grow hown hg hbs
  · have : j = L.length := by simp at hj; omega
    subst this
    refine ⟨u, by rw [List.getElem?_append_right (by omega)]; simp [hl], ?_⟩
    have e : (L ++ [r]).getD L.length [] = r := by simp [List.getD]
    rw [e]
    exact hu.grow hown hg hbs
theorem info31 : (Tryz.prog.info? 31).map (fun i => (i.zero, i.size, i.bytes)) = some (some (.slice none 0 0), 1, 24) := by kernel_rfl
end Go.Proofs.YtmomolpgjkejgaaGreatDoor

set_option linter.unusedVariables false
namespace Go.Proofs.YtmomolpgjkejgaaGreatDoor
open Go Go.RowKit Go.Lib
theorem RowAt.one {w : World} {v : Value} {r : List Vl} (h : RowAt w v r) : v.oneCell' = true := by
  obtain ⟨_, _, a, c, rfl, _⟩ := h; rfl
theorem outs_cell {w : World} {base : Nat} {v : Value} {L : List (List Vl)} (h : Outs w base v L) {j : Nat} (hj : j < L.length) : ∃ g cap u, v = .slice (some ⟨g, 0, none⟩) L.length cap ∧ w.cell? ⟨g, j, none⟩ = some u ∧ RowAt w u (L.getD j []) := by
  obtain ⟨_, a, c, rfl, h1⟩ := h.rows
  obtain ⟨xs, ⟨_, h2⟩, _⟩ := h
  rcases h2 with ⟨_, h0⟩ | ⟨g, cap, cur, e, _⟩
  · omega
  · rcases h1 with h1 | ⟨b, o, rfl, h1⟩
    · rw [h1] at hj; simp at hj
    · simp only [Value.slice.injEq, Option.some.injEq, Addr.mk.injEq] at e
      obtain ⟨⟨rfl, rfl, _⟩, _, rfl⟩ := e
      obtain ⟨u, hu, hr⟩ := h1 j hj
      exact ⟨b, c, u, rfl, by simpa using hu, hr⟩
theorem outs_shape {w : World} {base : Nat} {v : Value} {L : List (List Vl)} (h : Outs w base v L) : ∃ a c, v = .slice a L.length c ∧ L.length ≤ 9223372036854775807 := by
  obtain ⟨h0, a, c, e, _⟩ := h.rows
  exact ⟨a, c, e, h0⟩
theorem RowAt.inn {w : World} {v : Value} {r : List Vl} (h : RowAt w v r) : ∀ {w' : World}, Below w.heap.size w w' → RowIn w' w.heap.size v r := by
  intro w' hb
  refine ⟨h.below hb, ?_⟩
  obtain ⟨h0, hs, a, c, rfl, h1⟩ := h
  rcases h1 with h1 | ⟨b, o, rfl, h1⟩
  · exact .inl h1
  · by_cases he : r = []
    · exact .inl he
    · exact .inr ⟨b, o, c, rfl, .inl (World.block_lt_of_cell? w _ (h1 0 (List.length_pos_iff.2 he)).1)⟩
set_option maxHeartbeats 8000000 in
set_option maxRecDepth 100000 in
theorem distinct14 (v : Value) (R : List (List Vl)) (w : World) (h : RowsAt w v R) (hbig : R.length ≤ 40000) :
    Calls Tryz.prog 14 #[v] w fun e w' => ∃ ov, e = .returned ov ∧ Outs w' w.heap.size ov (dst R) ∧ Below w.heap.size w w' := by
  obtain ⟨i0, hi, hz0, hz1, hz2⟩ := info_parts info31
  obtain ⟨h0, a, c, rfl, h1⟩ := h
  have H1 := Lib.hid h1
  have HB := Lib.hid hbig
  clear h1 hbig
  go_enter Tryz.func14, Tryz.ntmps14
  go_wp2
  go_loopg [3, 4] R.length (fun g s3 s4 wr => ∃ k : Nat, k ≤ R.length ∧ R.length - k ≤ g ∧ s4 = .int .i64 k ∧ Outs wr w.heap.size s3 (dst (R.take k)) ∧ Below w.heap.size w wr)
  case atStart => exact ⟨0, Nat.zero_le _, by omega, rfl, Outs.nil _ _, Below.refl _ _⟩
  case round =>
    obtain ⟨k, hk, hg, rfl, hout, hbel⟩ := hrel
    by_cases hlt : k < R.length
    · rcases H1.out with hn | ⟨b, o, rfl, hc⟩
      · rw [hn] at hlt; simp at hlt
      · obtain ⟨u, e1, r1⟩ := hc k hlt
        have q1 := World.block_lt_of_cell? w _ e1
        have E0 := Lib.hid e1
        have RI := Lib.hid (fun w1 hb => r1.inn (w' := w1) hb)
        have RA := Lib.hid r1
        have HD := Lib.hid (dst_take_succ hlt)
        have HL := Lib.hid (dst_len_take R k)
        clear hc e1 r1
        generalize hL : dst (R.take k) = L at hout
        have HLE := Lib.hid hL
        clear hL
        generalize hr : R.getD k [] = r at *
        obtain ⟨ra, rc, rfl⟩ : ∃ ra rc, u = .slice ra r.length rc := by
          obtain ⟨_, _, ra, rc, e, _⟩ := RA.out
          exact ⟨ra, rc, e⟩
        obtain ⟨oa, oc, hs3, hl63⟩ := outs_shape hout
        have HO := Lib.hid hout
        clear hout
        subst hs3
        obtain ⟨w0, rfl⟩ : ∃ w0, w0 = wr := ⟨_, rfl⟩
        have HBW := Lib.hid hbel
        have hsz0 := hbel.size
        clear hbel hr
        go_wp2
        go_loopg [5, 6] (L.length + 1) (fun g' s5 s6 wi => ∃ (bb : Bool) (m : Nat), m ≤ L.length ∧ L.length - m < g' ∧ s5 = .bool bb ∧ s6 = .int .i64 m ∧ Below w0.heap.size w0 wi ∧ (bb = true → r ∈ L) ∧ (bb = false → ∀ j, j < m → L.getD j [] ≠ r))
        case atStart => exact ⟨false, 0, Nat.zero_le _, by omega, rfl, rfl, Below.refl _ _, fun h => (by cases h), fun _ j hj => absurd hj (Nat.not_lt_zero _)⟩
        case round =>
          obtain ⟨bb, m, hm, hg', rfl, rfl, hbi, hyes, hno⟩ := hrel
          have YES := Lib.hid hyes
          have NO := Lib.hid hno
          clear hyes hno
          cases bb
          · by_cases hlt2 : m < L.length
            · obtain ⟨og, ocap, u2, heq, f1, r2⟩ := outs_cell HO.out hlt2
              simp only [Value.slice.injEq] at heq
              obtain ⟨rfl, _, rfl⟩ := heq
              have C0 := Lib.hid (fun w1 (hb : Below w0.heap.size w0 w1) => sameValues15 u2 (.slice ra r.length rc) (L.getD m []) r w1 (r2.below hb) ((RI.out _ (HBW.out.trans (hb.mono hsz0))).1))
              have e1' : wr.cell? ⟨b, o + k, none⟩ = some (.slice ra r.length rc) := by rw [(bcell hbi).1 _ _ (by omega), (bcell HBW.out).1 _ _ q1]; exact E0.out
              have f1' : wr.cell? ⟨og, m, none⟩ = some u2 := by rw [(bcell hbi).1 _ _ (World.block_lt_of_cell? w0 _ f1)]; exact f1
              have hszi := hbi.size
              clear f1 r2
              generalize hx : L.getD m [] = x at C0
              have HX := Lib.hid hx
              clear hx
              by_cases hxy : x = r
              · have C := Lib.hid (fun w1 (hb : Below w0.heap.size w0 w1) => by have := C0.out w1 hb; rw [decide_eq_true hxy] at this; exact this)
                have HM := Lib.hid (show r ∈ L by rw [← hxy, ← HX.out]; exact getD_memR hlt2)
                clear C0 hxy
                go_wp2_with fail
                go_region_held3 (fun w' => w'.cell? ⟨og, m, none⟩ = some u2 ∧ w'.cell? ⟨b, o + k, none⟩ = some (.slice ra r.length rc) ∧ w0.heap.size ≤ w'.heap.size ∧ Below w0.heap.size w0 w')
                  (first | exact keep2 (by assumption) hb | (go_keep; done) | (go_split_ands; (repeat' apply And.intro) <;> first | (go_keep; done) | exact below_drew hbi))
                  (first
                    | (go_at_call 15; refine (C.out _ ?_).mono ?_; (go_split_ands; assumption); rintro e w' ⟨rfl, hb⟩))
                go_wp2
                go_roundg (L.length - m)
                case measure => omega
                case rel => exact ⟨true, m + 1, by omega, by omega, rfl, by go_num, (below_drew hbi).trans (hb.mono hszi), fun _ => HM.out, fun h => by cases h⟩
              · have C := Lib.hid (fun w1 (hb : Below w0.heap.size w0 w1) => by have := C0.out w1 hb; rw [decide_eq_false hxy] at this; exact this)
                have HN := Lib.hid (show ∀ j, j < m + 1 → L.getD j [] ≠ r from fun j hj => by
                  by_cases e : j = m
                  · subst e; rw [HX.out]; exact hxy
                  · exact NO.out rfl j (by omega))
                clear C0 hxy
                go_wp2_with fail
                go_region_held3 (fun w' => w'.cell? ⟨og, m, none⟩ = some u2 ∧ w'.cell? ⟨b, o + k, none⟩ = some (.slice ra r.length rc) ∧ w0.heap.size ≤ w'.heap.size ∧ Below w0.heap.size w0 w')
                  (first | exact keep2 (by assumption) hb | (go_keep; done) | (go_split_ands; (repeat' apply And.intro) <;> first | (go_keep; done) | exact below_drew hbi))
                  (first
                    | (go_at_call 15; refine (C.out _ ?_).mono ?_; (go_split_ands; assumption); rintro e w' ⟨rfl, hb⟩))
                go_wp2
                go_roundg (L.length - m)
                case measure => omega
                case rel => exact ⟨false, m + 1, by omega, by omega, rfl, by go_num, (below_drew hbi).trans (hb.mono hszi), fun h => (by cases h), fun _ => HN.out⟩
            · have hmn : m = L.length := by omega
              have NIN := Lib.hid (show r ∉ L from fun hm2 => by
                obtain ⟨j, hj, hjr⟩ := List.getElem_of_mem hm2
                exact NO.out rfl j (by omega) (by simp [List.getD, hj, hjr]))
              have HD2 := Lib.hid (show dst (R.take (k + 1)) = L ++ [r] by rw [HD.out, HLE.out]; unfold stepD; rw [if_neg NIN.out])
              have HB3 := Lib.hid hbi
              have hszi := hbi.size
              clear hmn hbi
              obtain ⟨xs, hown, hrows⟩ := HO.out
              have HR := Lib.hid hrows
              clear hrows
              have hown1 := (own_keep hown HB3.out)
              have e1' : wr.cell? ⟨b, o + k, none⟩ = some (.slice ra r.length rc) := by rw [(bcell HB3.out).1 _ _ (by omega), (bcell HBW.out).1 _ _ q1]; exact E0.out
              have hown3 := hown1.alloc (.cells #[(.slice ra r.length rc)] 31)
              have hone := RA.out.one
              have hl40 := HL.out
              have hb40 := HB.out
              have hlen40 : L.length ≤ 40000 := by rw [HLE.out] at hl40; omega
              clear hl40 hb40 hown
              have HOW := Lib.hid hown1
              clear hown1
              go_wp2_with (first
                | (at_builtin; refine wpList_append_own _ rfl _ _ 22 rfl w.heap.size 31 i0 (.slice none 0 0) 1 24 Tryz.underlying22 hi hz0 hz1 hz2 rfl (by decide) _ _ _ rfl hown3 ⟨wr.heap.size, 0, none⟩ 1 1 [(.slice ra r.length rc)] rfl rfl (cell_one_new _ _ _) (by simp [hone]) (by unfold maxLen; omega) (by omega) (by simp; omega) ?_; intro v' w3 hown' hg3 hnil3))
              go_roundg (R.length - (k + 1))
              case measure => omega
              case rel =>
                refine ⟨k + 1, by omega, by omega, by go_num, ?_, ?_⟩
                · rw [HD2.out]
                  have hal : Below wr.heap.size wr (wr.alloc (.cells #[(.slice ra r.length rc)] 31)) := (Below.refl _ _).alloc (Nat.le_refl _) _
                  exact outs_push (w := wr.alloc (.cells #[(.slice ra r.length rc)] 31)) (by simp; omega) hown3 (fun j hj => by
                    obtain ⟨y, h1, h2⟩ := HR.out j hj
                    exact ⟨y, h1, (h2.keep HB3.out).keep hal⟩) (RI.out _ ((HBW.out.trans (HB3.out.mono hsz0)).trans (hal.mono (by omega)))) hown' hg3
                · have hb1 := (HBW.out.trans (HB3.out.mono hsz0)).alloc (o := .cells #[(.slice ra r.length rc)] 31) (by omega)
                  exact hb1.grown hg3 (by simp; omega) (fun j hj => by
                    rcases HOW.out.2 with ⟨e, _⟩ | ⟨g, cap, cur, e, hge, _⟩
                    · rw [e] at hj; cases hj
                    · rw [e] at hj; cases hj; exact hge)
          · have HD2 := Lib.hid (show dst (R.take (k + 1)) = L by rw [HD.out, HLE.out]; unfold stepD; rw [if_pos (YES.out rfl)])
            have HB3 := Lib.hid hbi
            clear hbi
            by_cases hlt2 : m < L.length
            all_goals
              go_wp2
              go_roundg (R.length - (k + 1))
              case measure => omega
              case rel =>
                refine ⟨k + 1, by omega, by omega, by go_num, ?_, HBW.out.trans (HB3.out.mono hsz0)⟩
                rw [HD2.out]
                exact HO.out.keep HB3.out
    · have hkn : k = R.length := by omega
      have E := Lib.hid (show dst (R.take k) = dst R by rw [hkn, List.take_length])
      have HO := Lib.hid hout
      clear hkn hout
      go_wp2
      go_ret
      exact ⟨_, rfl, by rw [← E.out]; exact HO.out, hbel⟩
end Go.Proofs.YtmomolpgjkejgaaGreatDoor
