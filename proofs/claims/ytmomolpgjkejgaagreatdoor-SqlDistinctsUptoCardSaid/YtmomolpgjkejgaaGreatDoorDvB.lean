/- PROVED: contracts of the functions that SqlDistincts reaches (part DvB). CONDITIONS: none. -/
import Derived.Test.YtmomolpgjkejgaaGreatDoorDvA
set_option linter.unusedSimpArgs false
set_option linter.unusedVariables false
set_option linter.unusedVariables false
namespace Go.Proofs.YtmomolpgjkejgaaGreatDoor
open Go Go.RowKit Go.Lib
def d0 : Vl := ⟨0, 0, ByteArray.empty⟩
def badV (x : Vl) : Bool := decide (errV x ≠ 0)
def big : Nat := 9223372036854775807
theorem closure22 (x : Vl) (w : World) (hm : x.s.size ≤ 9223372036854775807) : Calls Tryz.prog 22 #[x.v] w fun e w' => e = .returned (.bool (badV x)) ∧ Below w.heap.size w w' := by
  have C := validate23 x (w.alloc (Obj.cells #[Value.int IntKind.i64 x.k, Value.int IntKind.i64 x.n, Value.string x.s] 43)) hm
  have e : badV x = decide (errV x ≠ 0) := rfl
  rw [e]; clear e
  generalize errV x = z at C ⊢
  obtain ⟨k, n, s⟩ := x
  simp only [Vl.v] at *
  go_enter Tryz.func22, Tryz.ntmps22
  go_wp2_with (go_at_call 23; refine C.mono ?_; rintro e w' ⟨rfl, hb⟩)
  go_ret
  exact ⟨ret_bool (by rw [Bool.eq_iff_iff]; simp), ((Below.refl _ _).alloc (Nat.le_refl _) _).trans (hb.mono (by simp))⟩

/-- A row of values lies there. -/
def RowAt (w : World) (v : Value) (r : List Vl) : Prop :=
  r.length ≤ 9223372036854775807 ∧ (∀ x ∈ r, x.s.size ≤ 9223372036854775807) ∧ ∃ a c, v = .slice a r.length c ∧ (r = [] ∨ ∃ b o, a = some ⟨b, o, none⟩ ∧
    ∀ j, j < r.length → w.cell? ⟨b, o + j * 3, none⟩ = some (.int .i64 (r.getD j d0).k) ∧ w.cell? ⟨b, o + j * 3 + 1, none⟩ = some (.int .i64 (r.getD j d0).n) ∧ w.cell? ⟨b, o + j * 3 + 2, none⟩ = some (.string (r.getD j d0).s))
theorem RowAt.keep {w w' : World} {v : Value} {r : List Vl} (h : RowAt w v r) (hc : ∀ b o, b < w.heap.size → w'.cell? ⟨b, o, none⟩ = w.cell? ⟨b, o, none⟩) : RowAt w' v r := by
  obtain ⟨h0, hs, a, c, rfl, h1⟩ := h
  refine ⟨h0, hs, a, c, rfl, h1.imp id ?_⟩
  rintro ⟨b, o, rfl, h⟩
  refine ⟨b, o, rfl, fun j hj => ?_⟩
  obtain ⟨k1, k2, k3⟩ := h j hj
  rw [hc _ _ (World.block_lt_of_cell? w _ k1), hc _ _ (World.block_lt_of_cell? w _ k1), hc _ _ (World.block_lt_of_cell? w _ k1)]
  exact ⟨k1, k2, k3⟩
theorem RowAt.below {w w' : World} {v : Value} {r : List Vl} (h : RowAt w v r) (hb : Below w.heap.size w w') : RowAt w' v r := h.keep (bcell hb).1
def ixB (r : List Vl) : Int := if r.any badV then (r.findIdx badV : Nat) else -1
theorem getD_mem {r : List Vl} {k : Nat} (h : k < r.length) : r.getD k d0 ∈ r := by
  have : r.getD k d0 = r[k] := by simp [List.getD, h]
  rw [this]; exact List.getElem_mem h
theorem ixB_at {r : List Vl} {k : Nat} (h : k < r.length) (hb : badV (r.getD k d0) = true) (hg : ∀ j, j < k → badV (r.getD j d0) = false) : ixB r = (k : Int) := by
  have e : ∀ j (hj : j < r.length), r.getD j d0 = r[j] := fun j hj => by simp [List.getD, hj]
  have h1 : r.any badV = true := List.any_eq_true.2 ⟨_, getD_mem h, hb⟩
  have h2 : r.findIdx badV = k := by
    rw [List.findIdx_eq h]
    refine ⟨by rw [← e k h]; exact hb, fun j hj => ?_⟩
    rw [← e j (by omega)]
    exact hg j hj
  simp [ixB, h1, h2]
theorem ixB_none {r : List Vl} (hg : ∀ j, j < r.length → badV (r.getD j d0) = false) : ixB r = -1 := by
  have h1 : r.any badV = false := by
    rw [List.any_eq_false]
    intro x hx
    obtain ⟨j, hj, rfl⟩ := List.getElem_of_mem hx
    have := hg j hj
    simpa [List.getD, hj] using this
  simp [ixB, h1]
set_option maxHeartbeats 2000000 in
set_option maxRecDepth 100000 in
theorem indexFunc39 (v : Value) (r : List Vl) (w : World) (h : RowAt w v r) :
    Calls Tryz.prog 39 #[v, .func (.func 22) #[] #[]] w fun e w' => e = .returned (.int .i64 (ixB r)) ∧ Below w.heap.size w w' := by
  have H := Lib.hid h
  obtain ⟨h0, hs, a, c, rfl, h1⟩ := h
  have HS := Lib.hid hs
  have H1 := Lib.hid h1
  clear hs h1
  go_enter Tryz.func39, Tryz.ntmps39
  go_wp2
  go_loopg [8] r.length (fun g s8 wr => ∃ k : Nat, k ≤ r.length ∧ r.length - k ≤ g ∧ s8 = .int .i64 k ∧ Below w.heap.size w wr ∧ ∀ j, j < k → badV (r.getD j d0) = false)
  case atStart => exact ⟨0, Nat.zero_le _, by omega, rfl, Below.refl _ _, fun j hj => absurd hj (Nat.not_lt_zero _)⟩
  case round =>
    obtain ⟨k, hk, hg, rfl, hbel, hall⟩ := hrel
    have A := Lib.hid hall
    clear hall
    by_cases hlt : k < r.length
    · rcases H1.out with hn | ⟨b, o, rfl, hc⟩
      · rw [hn] at hlt; simp at hlt
      · have c1 := (hc k hlt).1
        have c2 := (hc k hlt).2.1
        have c3 := (hc k hlt).2.2
        have hlt' := World.block_lt_of_cell? w _ c1
        rw [← (bcell hbel).1 _ _ hlt'] at c1 c2 c3
        have hsz := HS.out _ (getD_mem hlt)
        have AX := A.out
        have IX := fun hb => ixB_at (r := r) (k := k) hlt hb AX
        have HG := Lib.hid hc
        clear hc AX
        generalize hx : r.getD k d0 = x at c1 c2 c3 hsz IX
        have HX := Lib.hid hx
        have C := closure22 x wr hsz
        have CB := Lib.hid IX
        clear hx IX hsz
        obtain ⟨xk, xn, xs⟩ := x
        simp only [Vl.v] at *
        generalize hB : badV ⟨xk, xn, xs⟩ = B at C
        have HB := Lib.hid hB
        clear hB
        cases B
        · go_wp2_with (first | (go_at_call 22; refine C.mono ?_; rintro e w' ⟨rfl, hb⟩))
          go_roundg (r.length - (k + 1))
          case measure => omega
          case rel =>
            refine ⟨k + 1, by omega, by omega, by go_num, hbel.trans (hb.mono hbel.size), fun j hj => ?_⟩
            by_cases e : j = k
            · subst e; rw [HX.out]; exact HB.out
            · exact A.out j (by omega)
        · go_wp2_with (first | (go_at_call 22; refine C.mono ?_; rintro e w' ⟨rfl, hb⟩))
          go_ret
          exact ⟨ret_int (CB.out HB.out).symm, hbel.trans (hb.mono hbel.size)⟩
    · have hkn : k = r.length := by omega
      have E := Lib.hid (ixB_none (r := r) fun j hj => A.out j (by omega))
      clear hkn
      go_wp2
      go_ret
      exact ⟨ret_int E.out.symm, hbel⟩
end Go.Proofs.YtmomolpgjkejgaaGreatDoor

set_option linter.unusedVariables false
namespace Go.Proofs.YtmomolpgjkejgaaGreatDoor
open Go Go.RowKit Go.Lib
theorem containsFunc21 (v : Value) (r : List Vl) (w : World) (h : RowAt w v r) :
    Calls Tryz.prog 21 #[v, .func (.func 22) #[] #[]] w fun e w' => e = .returned (.bool (r.any badV)) ∧ Below w.heap.size w w' := by
  have C := indexFunc39 v r w h
  clear h
  have e : r.any badV = decide (0 ≤ ixB r) := by
    unfold ixB
    cases h : r.any badV
    · simp
    · simp only [if_true]
      exact (decide_eq_true (by omega)).symm
  rw [e]; clear e
  generalize ixB r = z at C ⊢
  go_enter Tryz.func21, Tryz.ntmps21
  go_wp2_with (go_at_call 39; refine C.mono ?_; rintro e w' ⟨rfl, hb⟩)
  go_ret
  exact ⟨rfl, hb⟩
/-- Rows lie there. -/
def RowsAt (w : World) (v : Value) (R : List (List Vl)) : Prop :=
  R.length ≤ 9223372036854775807 ∧ ∃ a c, v = .slice a R.length c ∧ (R = [] ∨ ∃ b o, a = some ⟨b, o, none⟩ ∧ ∀ j, j < R.length → ∃ u, w.cell? ⟨b, o + j, none⟩ = some u ∧ RowAt w u (R.getD j []))
theorem RowsAt.keep {w w' : World} {v : Value} {R : List (List Vl)} (h : RowsAt w v R) (hc : ∀ b o, b < w.heap.size → w'.cell? ⟨b, o, none⟩ = w.cell? ⟨b, o, none⟩) : RowsAt w' v R := by
  obtain ⟨h0, a, c, rfl, h1⟩ := h
  refine ⟨h0, a, c, rfl, h1.imp id ?_⟩
  rintro ⟨b, o, rfl, h⟩
  refine ⟨b, o, rfl, fun j hj => ?_⟩
  obtain ⟨u, k1, k2⟩ := h j hj
  exact ⟨u, by rw [hc _ _ (World.block_lt_of_cell? w _ k1)]; exact k1, k2.keep hc⟩
theorem RowsAt.below {w w' : World} {v : Value} {R : List (List Vl)} (h : RowsAt w v R) (hb : Below w.heap.size w w') : RowsAt w' v R := h.keep (bcell hb).1
def badR (R : List (List Vl)) : Bool := R.any (·.any badV)
def errR (R : List (List Vl)) : Int := if 40000 < R.length then 3 else if badR R then 1 else 0
theorem getD_memR {R : List (List Vl)} {k : Nat} (h : k < R.length) : R.getD k [] ∈ R := by
  have : R.getD k [] = R[k] := by simp [List.getD, h]
  rw [this]; exact List.getElem_mem h
theorem badR_at {R : List (List Vl)} {k : Nat} (h : k < R.length) (hb : (R.getD k []).any badV = true) : badR R = true := List.any_eq_true.2 ⟨_, getD_memR h, hb⟩
theorem badR_none {R : List (List Vl)} (hg : ∀ j, j < R.length → (R.getD j []).any badV = false) : badR R = false := by
  unfold badR
  rw [List.any_eq_false]
  intro x hx
  obtain ⟨j, hj, rfl⟩ := List.getElem_of_mem hx
  have := hg j hj
  simp only [List.getD, hj, List.getElem?_eq_getElem, Option.getD_some] at this
  rw [this]; simp
set_option maxHeartbeats 2000000 in
set_option maxRecDepth 100000 in
theorem areValues11 (v : Value) (R : List (List Vl)) (w : World) (h : RowsAt w v R) :
    Calls Tryz.prog 11 #[v] w fun e w' => e = .returned (.int .i64 (errR R)) ∧ Below w.heap.size w w' := by
  obtain ⟨h0, a, c, rfl, h1⟩ := h
  have H1 := Lib.hid h1
  clear h1
  by_cases hbig : 40000 < R.length
  · have hbig' : 40000 < (R.length : Int) := by omega
    have E : Hid (errR R = 3) := Lib.hid (by simp [errR, hbig])
    clear hbig
    go_enter Tryz.func11, Tryz.ntmps11
    go_wp2
    go_ret
    exact ⟨ret_int E.out.symm, Below.refl _ _⟩
  · have hbig' : ¬ 40000 < (R.length : Int) := by omega
    have E : Hid (errR R = if badR R then 1 else 0) := Lib.hid (by simp [errR, hbig])
    clear hbig
    go_enter Tryz.func11, Tryz.ntmps11
    go_wp2
    go_loopg [10] R.length (fun g s8 wr => ∃ k : Nat, k ≤ R.length ∧ R.length - k ≤ g ∧ s8 = .int .i64 k ∧ Below w.heap.size w wr ∧ ∀ j, j < k → (R.getD j []).any badV = false)
    case atStart => exact ⟨0, Nat.zero_le _, by omega, rfl, Below.refl _ _, fun j hj => absurd hj (Nat.not_lt_zero _)⟩
    case round =>
      obtain ⟨k, hk, hg, rfl, hbel, hall⟩ := hrel
      have A := Lib.hid hall
      clear hall
      by_cases hlt : k < R.length
      · rcases H1.out with hn | ⟨b, o, rfl, hc⟩
        · rw [hn] at hlt; simp at hlt
        · obtain ⟨u, c1, hr⟩ := hc k hlt
          have hlt' := World.block_lt_of_cell? w _ c1
          rw [← (bcell hbel).1 _ _ hlt'] at c1
          have C := containsFunc21 u (R.getD k []) wr (hr.below hbel)
          have IX := Lib.hid (badR_at (R := R) (k := k) hlt)
          clear hc hr
          generalize hB : (R.getD k []).any badV = B at C
          have HB := Lib.hid hB
          clear hB
          cases B
          · go_wp2_with (first | (go_at_call 21; refine C.mono ?_; rintro e w' ⟨rfl, hb⟩))
            go_roundg (R.length - (k + 1))
            case measure => omega
            case rel =>
              refine ⟨k + 1, by omega, by omega, by go_num, hbel.trans (hb.mono hbel.size), fun j hj => ?_⟩
              by_cases e : j = k
              · subst e; exact HB.out
              · exact A.out j (by omega)
          · go_wp2_with (first | (go_at_call 21; refine C.mono ?_; rintro e w' ⟨rfl, hb⟩))
            go_ret
            exact ⟨ret_int (by rw [E.out, IX.out HB.out]; rfl), hbel.trans (hb.mono hbel.size)⟩
      · have hkn : k = R.length := by omega
        have E2 := Lib.hid (badR_none (R := R) fun j hj => A.out j (by omega))
        clear hkn
        go_wp2
        go_ret
        exact ⟨ret_int (by rw [E.out, E2.out]; rfl), hbel⟩
end Go.Proofs.YtmomolpgjkejgaaGreatDoor

set_option linter.unusedVariables false
namespace Go.Proofs.YtmomolpgjkejgaaGreatDoor
open Go Go.RowKit Go.Lib
set_option maxHeartbeats 4000000 in
set_option maxRecDepth 100000 in
theorem rowsAsked13 (v : Value) (R : List (List Vl)) (w : World) (h : RowsAt w v R) :
    Calls Tryz.prog 13 #[v] w fun e w' => e = .returned (.int .i64 (errR R)) ∧ Below w.heap.size w w' := by
  obtain ⟨h0, a, c, rfl, h1⟩ := h
  have H1 := Lib.hid h1
  clear h1
  by_cases hbig : 40000 < R.length
  · have hbig' : 40000 < (R.length : Int) := by omega
    have E : Hid (errR R = 3) := Lib.hid (by simp [errR, hbig])
    clear hbig
    go_enter Tryz.func13, Tryz.ntmps13
    go_wp2
    go_ret
    exact ⟨ret_int E.out.symm, Below.refl _ _⟩
  · have hbig' : ¬ 40000 < (R.length : Int) := by omega
    have E : Hid (errR R = if badR R then 1 else 0) := Lib.hid (by simp [errR, hbig])
    clear hbig
    go_enter Tryz.func13, Tryz.ntmps13
    go_wp2
    go_loopg [3] R.length (fun g s8 wr => ∃ k : Nat, k ≤ R.length ∧ R.length - k ≤ g ∧ s8 = .int .i64 k ∧ Below w.heap.size w wr ∧ ∀ j, j < k → (R.getD j []).any badV = false)
    case atStart => exact ⟨0, Nat.zero_le _, by omega, rfl, Below.refl _ _, fun j hj => absurd hj (Nat.not_lt_zero _)⟩
    case round =>
      obtain ⟨k, hk, hg, rfl, hbel, hall⟩ := hrel
      have A := Lib.hid hall
      clear hall
      by_cases hlt : k < R.length
      · rcases H1.out with hn | ⟨b, o, rfl, hc⟩
        · rw [hn] at hlt; simp at hlt
        · obtain ⟨u, c1, hr⟩ := hc k hlt
          have hlt' := World.block_lt_of_cell? w _ c1
          have c1' := c1
          rw [← (bcell hbel).1 _ _ hlt'] at c1'
          have IX := Lib.hid (badR_at (R := R) (k := k) hlt)
          clear hc
          generalize hr0 : R.getD k [] = r at hr IX
          have HR0 := Lib.hid hr0
          clear hr0
          obtain ⟨hl, hs, ra, rc, rfl, hrc⟩ := hr
          have HS := Lib.hid hs
          have HC := Lib.hid hrc
          clear hs hrc
          have C1 := Lib.hid c1
          clear c1
          go_wp2
          go_loopg [4] r.length (fun g' s4 wr' => ∃ m : Nat, m ≤ r.length ∧ r.length - m ≤ g' ∧ s4 = .int .i64 m ∧ Below w.heap.size w wr' ∧ ∀ j, j < m → badV (r.getD j d0) = false)
          case atStart => exact ⟨0, Nat.zero_le _, by omega, rfl, hbel, fun j hj => absurd hj (Nat.not_lt_zero _)⟩
          case round =>
            obtain ⟨m, hm, hg', rfl, hbel', hall'⟩ := hrel
            have A' := Lib.hid hall'
            clear hall'
            have c2' := C1.out
            rw [← (bcell hbel').1 _ _ hlt'] at c2'
            clear c1'
            by_cases hlt2 : m < r.length
            · rcases HC.out with hn | ⟨b2, o2, rfl, hc2⟩
              · rw [hn] at hlt2; simp at hlt2
              · obtain ⟨e1, e2, e3⟩ := hc2 m hlt2
                have hlt3 := World.block_lt_of_cell? w _ e1
                rw [← (bcell hbel').1 _ _ hlt3] at e1 e2 e3
                have hsz := HS.out _ (getD_mem hlt2)
                clear hc2
                generalize hx : r.getD m d0 = x at e1 e2 e3 hsz
                have HX := Lib.hid hx
                have C := validate26 x wr hsz
                have hB : badV x = decide (errV x ≠ 0) := rfl
                have HB := Lib.hid hB
                clear hx hsz hB
                generalize hz : errV x = z at C
                have HZ := Lib.hid hz
                clear hz
                obtain ⟨xk, xn, xs⟩ := x
                simp only [Vl.v] at *
                by_cases hz0 : z = 0
                · subst hz0
                  go_wp2_with (first | (go_at_call 26; refine C.mono ?_; rintro e w' ⟨rfl, hb⟩))
                  go_roundg (r.length - (m + 1))
                  case measure => omega
                  case rel =>
                    refine ⟨m + 1, by omega, by omega, by go_num, hbel'.trans (hb.mono hbel'.size), fun j hj => ?_⟩
                    by_cases e : j = m
                    · subst e; rw [HX.out, HB.out, HZ.out]; rfl
                    · exact A'.out j (by omega)
                · have hbad := Lib.hid (show badV ⟨xk, xn, xs⟩ = true by rw [HB.out, HZ.out]; exact decide_eq_true hz0)
                  have hz1 : (z != 0) = true := by simpa using hz0
                  go_wp2_with (first | (go_at_call 26; refine C.mono ?_; rintro e w' ⟨rfl, hb⟩))
                  go_ret
                  refine ⟨ret_int ?_, hbel'.trans (hb.mono hbel'.size)⟩
                  rw [E.out, IX.out (List.any_eq_true.2 ⟨_, getD_mem hlt2, by rw [HX.out]; exact hbad.out⟩)]
                  rfl
            · have hmn : m = r.length := by omega
              have G := Lib.hid (show r.any badV = false by
                rw [List.any_eq_false]
                intro x hx
                obtain ⟨j, hj, rfl⟩ := List.getElem_of_mem hx
                have := A'.out j (by omega)
                simp only [List.getD, hj, List.getElem?_eq_getElem, Option.getD_some] at this
                rw [this]; simp)
              clear hmn
              go_wp2
              go_roundg (R.length - (k + 1))
              case measure => omega
              case rel =>
                refine ⟨k + 1, by omega, by omega, by go_num, hbel', fun j hj => ?_⟩
                by_cases e : j = k
                · subst e; rw [HR0.out]; exact G.out
                · exact A.out j (by omega)
      · have hkn : k = R.length := by omega
        have E2 := Lib.hid (badR_none (R := R) fun j hj => A.out j (by omega))
        clear hkn
        go_wp2
        go_ret
        exact ⟨ret_int (by rw [E.out, E2.out]; rfl), hbel⟩
end Go.Proofs.YtmomolpgjkejgaaGreatDoor
