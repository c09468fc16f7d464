/- PROVED: contracts of the functions that SqlSorts reaches, and what a stable sort is (part SvA). CONDITIONS: none. -/
import Derived.Test.YtflapfekfmmcmaaGreatDoorProg
import Derived.Tactics
import Derived.Tactics2
import Derived.WalkKit
import Derived.WalkSpells
import Derived.WalkSmall
import Derived.StillTactics
import Derived.Deep.LoopGhost
import Derived.Deep.QuietTactic
import Derived.BigQuiet
import Derived.KernelRfl
import Derived.Lib.Hide
import Derived.Lib.Slices
import Derived.Lib.SlicesS
import Derived.Lib.SlicesMore
import Derived.Below
import Derived.Deep.RegionHeld3
set_option linter.unusedSimpArgs false
set_option linter.unusedVariables false
set_option linter.unusedVariables false
namespace Go.Proofs.YtflapfekfmmcmaaGreatDoor
open Go Go.RowKit Go.Lib
/-- A value of the database. -/
structure Vl where
  k : Int
  n : Int
  s : ByteArray
deriving DecidableEq
def Vl.v (x : Vl) : Value := .agg #[.int .i64 x.k, .int .i64 x.n, .string x.s]
def okV (x : Vl) : Bool :=
  if x.k = 0 then x.n = 0 && x.s = ByteArray.empty
  else if x.k = 1 then (x.n = 0 || x.n = 1) && x.s = ByteArray.empty
  else if x.k = 2 then decide (-1000000000000000 ≤ x.n) && decide (x.n ≤ 1000000000000000) && x.s = ByteArray.empty
  else if x.k = 3 then decide (0 ≤ x.n) && decide (x.n ≤ 3652059) && x.s = ByteArray.empty
  else x.k = 4 && x.n = 0
def errV (x : Vl) : Int := if 2048 < x.s.size then 3 else if okV x then 0 else 1
theorem bcell {W w1 : World} (hb : Below W.heap.size W w1) : (∀ b o, b < W.heap.size → w1.cell? ⟨b, o, none⟩ = W.cell? ⟨b, o, none⟩) ∧ (∀ b o, b < W.heap.size → w1.frozen? ⟨b, o, none⟩ = W.frozen? ⟨b, o, none⟩) :=
  ⟨fun b o h => hb.cell (p := ⟨b, o, none⟩) h, fun b o h => hb.frozen (p := ⟨b, o, none⟩) h⟩
theorem ret_bool {a b : Bool} (h : a = b) : Ending.returned (.bool a) = .returned (.bool b) := by rw [h]
theorem ret_int {k : IntKind} {a b : Int} (h : a = b) : Ending.returned (.int k a) = .returned (.int k b) := by rw [h]

theorem isNum71 (n : Int) (w : World) : Calls Tryz.prog 80 #[.int .i64 n] w fun e w' => e = .returned (.bool (decide (-1000000000000000 ≤ n) && decide (n ≤ 1000000000000000))) ∧ w = w' := by
  go_enter Tryz.func80, Tryz.ntmps80
  go_wp2
  all_goals
    go_ret
    exact ⟨by simp [*]; try omega, rfl⟩
theorem inNum44 (n : Int) (w : World) : Calls Tryz.prog 54 #[.int .i64 n] w fun e w' => e = .returned (.bool (decide (-1000000000000000 ≤ n) && decide (n ≤ 1000000000000000))) ∧ w = w' := by
  go_enter Tryz.func54, Tryz.ntmps54
  go_wp2
  all_goals
    go_ret
    exact ⟨by simp [*]; try omega, rfl⟩
theorem isDay72 (n : Int) (w : World) : Calls Tryz.prog 81 #[.int .i64 n] w fun e w' => e = .returned (.bool (decide (0 ≤ n) && decide (n ≤ 3652059))) ∧ w = w' := by
  go_enter Tryz.func81, Tryz.ntmps81
  go_wp2
  all_goals
    go_ret
    exact ⟨by simp [*]; try omega, rfl⟩

set_option maxHeartbeats 2000000 in
set_option maxRecDepth 100000 in
theorem isValue40 (x : Vl) (w : World) : Calls Tryz.prog 50 #[x.v] w fun e w' => e = .returned (.bool (okV x)) ∧ Below w.heap.size w w' := by
  obtain ⟨k, n, s⟩ := x
  simp only [Vl.v]
  by_cases hs : s = ByteArray.empty
  · subst hs
    by_cases h0 : k = 0
    · subst h0
      go_enter Tryz.func50, Tryz.ntmps50
      go_wp2_with (first | (go_at_call 80; refine (isNum71 _ _).mono ?_; rintro e w' ⟨rfl, rfl⟩) | (go_at_call 81; refine (isDay72 _ _).mono ?_; rintro e w' ⟨rfl, rfl⟩))
      all_goals
        go_ret
        refine ⟨ret_bool ?_, ?_⟩
        · rw [Bool.eq_iff_iff]
          simp [okV]
          all_goals (first | omega | simp_all)
        · exact (Below.refl _ _).alloc (Nat.le_refl _) _
    by_cases h1 : k = 1
    · subst h1
      go_enter Tryz.func50, Tryz.ntmps50
      go_wp2_with (first | (go_at_call 80; refine (isNum71 _ _).mono ?_; rintro e w' ⟨rfl, rfl⟩) | (go_at_call 81; refine (isDay72 _ _).mono ?_; rintro e w' ⟨rfl, rfl⟩))
      all_goals
        go_ret
        refine ⟨ret_bool ?_, ?_⟩
        · rw [Bool.eq_iff_iff]
          simp [okV]
          all_goals (first | omega | simp_all)
        · exact (Below.refl _ _).alloc (Nat.le_refl _) _
    by_cases h2 : k = 2
    · subst h2
      go_enter Tryz.func50, Tryz.ntmps50
      go_wp2_with (first | (go_at_call 80; refine (isNum71 _ _).mono ?_; rintro e w' ⟨rfl, rfl⟩) | (go_at_call 81; refine (isDay72 _ _).mono ?_; rintro e w' ⟨rfl, rfl⟩))
      all_goals
        go_ret
        refine ⟨ret_bool ?_, ?_⟩
        · rw [Bool.eq_iff_iff]
          simp [okV]
          all_goals (first | omega | simp_all)
        · exact (Below.refl _ _).alloc (Nat.le_refl _) _
    by_cases h3 : k = 3
    · subst h3
      go_enter Tryz.func50, Tryz.ntmps50
      go_wp2_with (first | (go_at_call 80; refine (isNum71 _ _).mono ?_; rintro e w' ⟨rfl, rfl⟩) | (go_at_call 81; refine (isDay72 _ _).mono ?_; rintro e w' ⟨rfl, rfl⟩))
      all_goals
        go_ret
        refine ⟨ret_bool ?_, ?_⟩
        · rw [Bool.eq_iff_iff]
          simp [okV]
          all_goals (first | omega | simp_all)
        · exact (Below.refl _ _).alloc (Nat.le_refl _) _
    by_cases h4 : k = 4
    · subst h4
      go_enter Tryz.func50, Tryz.ntmps50
      go_wp2_with (first | (go_at_call 80; refine (isNum71 _ _).mono ?_; rintro e w' ⟨rfl, rfl⟩) | (go_at_call 81; refine (isDay72 _ _).mono ?_; rintro e w' ⟨rfl, rfl⟩))
      all_goals
        go_ret
        refine ⟨ret_bool ?_, ?_⟩
        · rw [Bool.eq_iff_iff]
          simp [okV]
          all_goals (first | omega | simp_all)
        · exact (Below.refl _ _).alloc (Nat.le_refl _) _
    · go_enter Tryz.func50, Tryz.ntmps50
      go_wp2_with (first | (go_at_call 80; refine (isNum71 _ _).mono ?_; rintro e w' ⟨rfl, rfl⟩) | (go_at_call 81; refine (isDay72 _ _).mono ?_; rintro e w' ⟨rfl, rfl⟩))
      all_goals
        go_ret
        refine ⟨ret_bool ?_, ?_⟩
        · rw [Bool.eq_iff_iff]
          simp [okV, h0, h1, h2, h3, h4]
          all_goals (first | omega | simp_all)
        · exact (Below.refl _ _).alloc (Nat.le_refl _) _
  · have e1 : (s.toList == []) = false := by
      have := (Lib.bytes_beq_false_iff s ByteArray.empty).2 hs
      simpa using this
    have e2 : s.toList.isEmpty = false := by
      cases h : s.toList with
      | nil => rw [h] at e1; simp at e1
      | cons a l => rfl
    have hS := Lib.hid hs
    by_cases h4 : k = 4
    · subst h4
      go_enter Tryz.func50, Tryz.ntmps50
      go_wp2
      all_goals
        go_ret
        refine ⟨ret_bool ?_, ?_⟩
        · rw [Bool.eq_iff_iff]
          simp [okV]
          all_goals (first | omega | simp_all)
        · exact (Below.refl _ _).alloc (Nat.le_refl _) _
    · go_enter Tryz.func50, Tryz.ntmps50
      go_wp2
      all_goals
        go_ret
        refine ⟨ret_bool ?_, ?_⟩
        · rw [Bool.eq_iff_iff]
          simp [okV, h4, hS.out]
          all_goals (first | omega | simp_all)
        · exact (Below.refl _ _).alloc (Nat.le_refl _) _
end Go.Proofs.YtflapfekfmmcmaaGreatDoor

set_option linter.unusedVariables false
namespace Go.Proofs.YtflapfekfmmcmaaGreatDoor
open Go Go.RowKit Go.Lib
set_option maxHeartbeats 2000000 in
set_option maxRecDepth 100000 in
theorem validate23 (x : Vl) (w : World) (hm : x.s.size ≤ 9223372036854775807) : Calls Tryz.prog 29 #[x.v] w fun e w' => e = .returned (.int .i64 (errV x)) ∧ Below w.heap.size w w' := by
  have C := isValue40 x (w.alloc (Obj.cells #[Value.int IntKind.i64 x.k, Value.int IntKind.i64 x.n, Value.string x.s] 45))
  have e : errV x = if 2048 < x.s.size then 3 else if okV x then 0 else 1 := rfl
  rw [e]; clear e
  generalize okV x = B at C ⊢
  obtain ⟨k, n, s⟩ := x
  simp only [Vl.v] at *
  by_cases hs : 2048 < s.size
  · have hs' : 2048 < (s.size : Int) := by omega
    clear C
    go_enter Tryz.func29, Tryz.ntmps29
    go_wp2
    go_ret
    exact ⟨ret_int (by simp [hs]), (Below.refl _ _).alloc (Nat.le_refl _) _⟩
  · have hs' : ¬ 2048 < (s.size : Int) := by omega
    have H := Lib.hid hs
    clear hs
    cases B
    all_goals
      go_enter Tryz.func29, Tryz.ntmps29
      go_wp2_with (go_at_call 50; refine C.mono ?_; rintro e w' ⟨rfl, hb⟩)
      go_ret
      exact ⟨ret_int (by simp [H.out]), ((Below.refl _ _).alloc (Nat.le_refl _) _).trans (hb.mono (by simp))⟩
set_option maxHeartbeats 4000000 in
set_option maxRecDepth 100000 in
theorem validate26 (x : Vl) (w : World) (hm : x.s.size ≤ 9223372036854775807) : Calls Tryz.prog 36 #[x.v] w fun e w' => e = .returned (.int .i64 (errV x)) ∧ Below w.heap.size w w' := by
  obtain ⟨k, n, s⟩ := x
  simp only [Vl.v]
  by_cases hs : 2048 < s.size
  · have hs' : 2048 < (s.size : Int) := by omega
    go_enter Tryz.func36, Tryz.ntmps36
    go_wp2
    go_ret
    exact ⟨ret_int (by simp [errV, hs]), (Below.refl _ _).alloc (Nat.le_refl _) _⟩
  · have hs' : ¬ 2048 < (s.size : Int) := by omega
    have H := Lib.hid hs
    clear hs
    by_cases he : s = ByteArray.empty
    · subst he
      by_cases h0 : k = 0
      · subst h0
        go_enter Tryz.func36, Tryz.ntmps36
        go_wp2_with (first | (go_at_call 54; refine (inNum44 _ _).mono ?_; rintro e w' ⟨rfl, rfl⟩))
        all_goals
          go_ret
          refine ⟨ret_int ?_, ?_⟩
          · simp [errV, okV, H.out]
            all_goals (first | omega | simp_all | (split <;> first | omega | simp_all))
          · exact (Below.refl _ _).alloc (Nat.le_refl _) _
      by_cases h1 : k = 1
      · subst h1
        go_enter Tryz.func36, Tryz.ntmps36
        go_wp2_with (first | (go_at_call 54; refine (inNum44 _ _).mono ?_; rintro e w' ⟨rfl, rfl⟩))
        all_goals
          go_ret
          refine ⟨ret_int ?_, ?_⟩
          · simp [errV, okV, H.out]
            all_goals (first | omega | simp_all | (split <;> first | omega | simp_all))
          · exact (Below.refl _ _).alloc (Nat.le_refl _) _
      by_cases h2 : k = 2
      · subst h2
        go_enter Tryz.func36, Tryz.ntmps36
        go_wp2_with (first | (go_at_call 54; refine (inNum44 _ _).mono ?_; rintro e w' ⟨rfl, rfl⟩))
        all_goals
          go_ret
          refine ⟨ret_int ?_, ?_⟩
          · simp [errV, okV, H.out]
            all_goals (first | omega | simp_all | (split <;> first | omega | simp_all))
          · exact (Below.refl _ _).alloc (Nat.le_refl _) _
      by_cases h3 : k = 3
      · subst h3
        go_enter Tryz.func36, Tryz.ntmps36
        go_wp2_with (first | (go_at_call 54; refine (inNum44 _ _).mono ?_; rintro e w' ⟨rfl, rfl⟩))
        all_goals
          go_ret
          refine ⟨ret_int ?_, ?_⟩
          · simp [errV, okV, H.out]
            all_goals (first | omega | simp_all | (split <;> first | omega | simp_all))
          · exact (Below.refl _ _).alloc (Nat.le_refl _) _
      by_cases h4 : k = 4
      · subst h4
        go_enter Tryz.func36, Tryz.ntmps36
        go_wp2_with (first | (go_at_call 54; refine (inNum44 _ _).mono ?_; rintro e w' ⟨rfl, rfl⟩))
        all_goals
          go_ret
          refine ⟨ret_int ?_, ?_⟩
          · simp [errV, okV, H.out]
            all_goals (first | omega | simp_all | (split <;> first | omega | simp_all))
          · exact (Below.refl _ _).alloc (Nat.le_refl _) _
      · go_enter Tryz.func36, Tryz.ntmps36
        go_wp2_with (first | (go_at_call 54; refine (inNum44 _ _).mono ?_; rintro e w' ⟨rfl, rfl⟩))
        all_goals
          go_ret
          refine ⟨ret_int ?_, ?_⟩
          · simp [errV, okV, H.out, h0, h1, h2, h3, h4]
            all_goals (first | omega | simp_all | (split <;> first | omega | simp_all))
          · exact (Below.refl _ _).alloc (Nat.le_refl _) _
    · have e1 : (s.toList == []) = false := by
        have := (Lib.bytes_beq_false_iff s ByteArray.empty).2 he
        simpa using this
      have e2 : s.toList.isEmpty = false := by
        cases h : s.toList with
        | nil => rw [h] at e1; simp at e1
        | cons a l => rfl
      have hS := Lib.hid he
      by_cases h0 : k = 0
      · subst h0
        go_enter Tryz.func36, Tryz.ntmps36
        go_wp2_with (first | (go_at_call 54; refine (inNum44 _ _).mono ?_; rintro e w' ⟨rfl, rfl⟩))
        all_goals
          go_ret
          refine ⟨ret_int ?_, ?_⟩
          · simp [errV, okV, H.out, hS.out]
            all_goals (first | omega | simp_all | (split <;> first | omega | simp_all))
          · exact (Below.refl _ _).alloc (Nat.le_refl _) _
      by_cases h1 : k = 1
      · subst h1
        go_enter Tryz.func36, Tryz.ntmps36
        go_wp2_with (first | (go_at_call 54; refine (inNum44 _ _).mono ?_; rintro e w' ⟨rfl, rfl⟩))
        all_goals
          go_ret
          refine ⟨ret_int ?_, ?_⟩
          · simp [errV, okV, H.out, hS.out]
            all_goals (first | omega | simp_all | (split <;> first | omega | simp_all))
          · exact (Below.refl _ _).alloc (Nat.le_refl _) _
      by_cases h2 : k = 2
      · subst h2
        go_enter Tryz.func36, Tryz.ntmps36
        go_wp2_with (first | (go_at_call 54; refine (inNum44 _ _).mono ?_; rintro e w' ⟨rfl, rfl⟩))
        all_goals
          go_ret
          refine ⟨ret_int ?_, ?_⟩
          · simp [errV, okV, H.out, hS.out]
            all_goals (first | omega | simp_all | (split <;> first | omega | simp_all))
          · exact (Below.refl _ _).alloc (Nat.le_refl _) _
      by_cases h3 : k = 3
      · subst h3
        go_enter Tryz.func36, Tryz.ntmps36
        go_wp2_with (first | (go_at_call 54; refine (inNum44 _ _).mono ?_; rintro e w' ⟨rfl, rfl⟩))
        all_goals
          go_ret
          refine ⟨ret_int ?_, ?_⟩
          · simp [errV, okV, H.out, hS.out]
            all_goals (first | omega | simp_all | (split <;> first | omega | simp_all))
          · exact (Below.refl _ _).alloc (Nat.le_refl _) _
      by_cases h4 : k = 4
      · subst h4
        go_enter Tryz.func36, Tryz.ntmps36
        go_wp2_with (first | (go_at_call 54; refine (inNum44 _ _).mono ?_; rintro e w' ⟨rfl, rfl⟩))
        all_goals
          go_ret
          refine ⟨ret_int ?_, ?_⟩
          · simp [errV, okV, H.out, hS.out]
            all_goals (first | omega | simp_all | (split <;> first | omega | simp_all))
          · exact (Below.refl _ _).alloc (Nat.le_refl _) _
      · go_enter Tryz.func36, Tryz.ntmps36
        go_wp2_with (first | (go_at_call 54; refine (inNum44 _ _).mono ?_; rintro e w' ⟨rfl, rfl⟩))
        all_goals
          go_ret
          refine ⟨ret_int ?_, ?_⟩
          · simp [errV, okV, H.out, hS.out, h0, h1, h2, h3, h4]
            all_goals (first | omega | simp_all | (split <;> first | omega | simp_all))
          · exact (Below.refl _ _).alloc (Nat.le_refl _) _
end Go.Proofs.YtflapfekfmmcmaaGreatDoor

set_option linter.unusedVariables false
namespace Go.Proofs.YtflapfekfmmcmaaGreatDoor
open Go Go.RowKit Go.Lib
def d0 : Vl := ⟨0, 0, ByteArray.empty⟩
def badV (x : Vl) : Bool := decide (errV x ≠ 0)
def big : Nat := 9223372036854775807
theorem closure22 (x : Vl) (w : World) (hm : x.s.size ≤ 9223372036854775807) : Calls Tryz.prog 28 #[x.v] w fun e w' => e = .returned (.bool (badV x)) ∧ Below w.heap.size w w' := by
  have C := validate23 x (w.alloc (Obj.cells #[Value.int IntKind.i64 x.k, Value.int IntKind.i64 x.n, Value.string x.s] 45)) hm
  have e : badV x = decide (errV x ≠ 0) := rfl
  rw [e]; clear e
  generalize errV x = z at C ⊢
  obtain ⟨k, n, s⟩ := x
  simp only [Vl.v] at *
  go_enter Tryz.func28, Tryz.ntmps28
  go_wp2_with (go_at_call 29; refine C.mono ?_; rintro e w' ⟨rfl, hb⟩)
  go_ret
  exact ⟨ret_bool (by rw [Bool.eq_iff_iff]; simp), ((Below.refl _ _).alloc (Nat.le_refl _) _).trans (hb.mono (by simp))⟩

/-- A row of values lies there. -/
def RowAt (w : World) (v : Value) (r : List Vl) : Prop :=
  r.length ≤ 9223372036854775807 ∧ (∀ x ∈ r, x.s.size ≤ 9223372036854775807) ∧ ∃ a c, v = .slice a r.length c ∧ (r = [] ∨ ∃ b o, a = some ⟨b, o, none⟩ ∧
    ∀ j, j < r.length → w.cell? ⟨b, o + j * 3, none⟩ = some (.int .i64 (r.getD j d0).k) ∧ w.cell? ⟨b, o + j * 3 + 1, none⟩ = some (.int .i64 (r.getD j d0).n) ∧ w.cell? ⟨b, o + j * 3 + 2, none⟩ = some (.string (r.getD j d0).s))
theorem RowAt.keep {w w' : World} {v : Value} {r : List Vl} (h : RowAt w v r) (hc : ∀ b o, b < w.heap.size → w'.cell? ⟨b, o, none⟩ = w.cell? ⟨b, o, none⟩) : RowAt w' v r := by
  obtain ⟨h0, hs, a, c, rfl, h1⟩ := h
  refine ⟨h0, hs, a, c, rfl, h1.imp id ?_⟩
  rintro ⟨b, o, rfl, h⟩
  refine ⟨b, o, rfl, fun j hj => ?_⟩
  obtain ⟨k1, k2, k3⟩ := h j hj
  rw [hc _ _ (World.block_lt_of_cell? w _ k1), hc _ _ (World.block_lt_of_cell? w _ k1), hc _ _ (World.block_lt_of_cell? w _ k1)]
  exact ⟨k1, k2, k3⟩
theorem RowAt.below {w w' : World} {v : Value} {r : List Vl} (h : RowAt w v r) (hb : Below w.heap.size w w') : RowAt w' v r := h.keep (bcell hb).1
def ixB (r : List Vl) : Int := if r.any badV then (r.findIdx badV : Nat) else -1
theorem getD_mem {r : List Vl} {k : Nat} (h : k < r.length) : r.getD k d0 ∈ r := by
  have : r.getD k d0 = r[k] := by simp [List.getD, h]
  rw [this]; exact List.getElem_mem h
theorem ixB_at {r : List Vl} {k : Nat} (h : k < r.length) (hb : badV (r.getD k d0) = true) (hg : ∀ j, j < k → badV (r.getD j d0) = false) : ixB r = (k : Int) := by
  have e : ∀ j (hj : j < r.length), r.getD j d0 = r[j] := fun j hj => by simp [List.getD, hj]
  have h1 : r.any badV = true := List.any_eq_true.2 ⟨_, getD_mem h, hb⟩
  have h2 : r.findIdx badV = k := by
    rw [List.findIdx_eq h]
    refine ⟨by rw [← e k h]; exact hb, fun j hj => ?_⟩
    rw [← e j (by omega)]
    exact hg j hj
  simp [ixB, h1, h2]
theorem ixB_none {r : List Vl} (hg : ∀ j, j < r.length → badV (r.getD j d0) = false) : ixB r = -1 := by
  have h1 : r.any badV = false := by
    rw [List.any_eq_false]
    intro x hx
    obtain ⟨j, hj, rfl⟩ := List.getElem_of_mem hx
    have := hg j hj
    simpa [List.getD, hj] using this
  simp [ixB, h1]
set_option maxHeartbeats 2000000 in
set_option maxRecDepth 100000 in
theorem indexFunc39 (v : Value) (r : List Vl) (w : World) (h : RowAt w v r) :
    Calls Tryz.prog 49 #[v, .func (.func 28) #[] #[]] w fun e w' => e = .returned (.int .i64 (ixB r)) ∧ Below w.heap.size w w' := by
  have H := Lib.hid h
  obtain ⟨h0, hs, a, c, rfl, h1⟩ := h
  have HS := Lib.hid hs
  have H1 := Lib.hid h1
  clear hs h1
  go_enter Tryz.func49, Tryz.ntmps49
  go_wp2
  go_loopg [8] r.length (fun g s8 wr => ∃ k : Nat, k ≤ r.length ∧ r.length - k ≤ g ∧ s8 = .int .i64 k ∧ Below w.heap.size w wr ∧ ∀ j, j < k → badV (r.getD j d0) = false)
  case atStart => exact ⟨0, Nat.zero_le _, by omega, rfl, Below.refl _ _, fun j hj => absurd hj (Nat.not_lt_zero _)⟩
  case round =>
    obtain ⟨k, hk, hg, rfl, hbel, hall⟩ := hrel
    have A := Lib.hid hall
    clear hall
    by_cases hlt : k < r.length
    · rcases H1.out with hn | ⟨b, o, rfl, hc⟩
      · rw [hn] at hlt; simp at hlt
      · have c1 := (hc k hlt).1
        have c2 := (hc k hlt).2.1
        have c3 := (hc k hlt).2.2
        have hlt' := World.block_lt_of_cell? w _ c1
        rw [← (bcell hbel).1 _ _ hlt'] at c1 c2 c3
        have hsz := HS.out _ (getD_mem hlt)
        have AX := A.out
        have IX := fun hb => ixB_at (r := r) (k := k) hlt hb AX
        have HG := Lib.hid hc
        clear hc AX
        generalize hx : r.getD k d0 = x at c1 c2 c3 hsz IX
        have HX := Lib.hid hx
        have C := closure22 x wr hsz
        have CB := Lib.hid IX
        clear hx IX hsz
        obtain ⟨xk, xn, xs⟩ := x
        simp only [Vl.v] at *
        generalize hB : badV ⟨xk, xn, xs⟩ = B at C
        have HB := Lib.hid hB
        clear hB
        cases B
        · go_wp2_with (first | (go_at_call 28; refine C.mono ?_; rintro e w' ⟨rfl, hb⟩))
          go_roundg (r.length - (k + 1))
          case measure => omega
          case rel =>
            refine ⟨k + 1, by omega, by omega, by go_num, hbel.trans (hb.mono hbel.size), fun j hj => ?_⟩
            by_cases e : j = k
            · subst e; rw [HX.out]; exact HB.out
            · exact A.out j (by omega)
        · go_wp2_with (first | (go_at_call 28; refine C.mono ?_; rintro e w' ⟨rfl, hb⟩))
          go_ret
          exact ⟨ret_int (CB.out HB.out).symm, hbel.trans (hb.mono hbel.size)⟩
    · have hkn : k = r.length := by omega
      have E := Lib.hid (ixB_none (r := r) fun j hj => A.out j (by omega))
      clear hkn
      go_wp2
      go_ret
      exact ⟨ret_int E.out.symm, hbel⟩
end Go.Proofs.YtflapfekfmmcmaaGreatDoor

set_option linter.unusedVariables false
namespace Go.Proofs.YtflapfekfmmcmaaGreatDoor
open Go Go.RowKit Go.Lib
theorem containsFunc21 (v : Value) (r : List Vl) (w : World) (h : RowAt w v r) :
    Calls Tryz.prog 27 #[v, .func (.func 28) #[] #[]] w fun e w' => e = .returned (.bool (r.any badV)) ∧ Below w.heap.size w w' := by
  have C := indexFunc39 v r w h
  clear h
  have e : r.any badV = decide (0 ≤ ixB r) := by
    unfold ixB
    cases h : r.any badV
    · simp
    · simp only [if_true]
      exact (decide_eq_true (by omega)).symm
  rw [e]; clear e
  generalize ixB r = z at C ⊢
  go_enter Tryz.func27, Tryz.ntmps27
  go_wp2_with (go_at_call 49; refine C.mono ?_; rintro e w' ⟨rfl, hb⟩)
  go_ret
  exact ⟨rfl, hb⟩
/-- Rows lie there. -/
def RowsAt (w : World) (v : Value) (R : List (List Vl)) : Prop :=
  R.length ≤ 9223372036854775807 ∧ ∃ a c, v = .slice a R.length c ∧ (R = [] ∨ ∃ b o, a = some ⟨b, o, none⟩ ∧ ∀ j, j < R.length → ∃ u, w.cell? ⟨b, o + j, none⟩ = some u ∧ RowAt w u (R.getD j []))
theorem RowsAt.keep {w w' : World} {v : Value} {R : List (List Vl)} (h : RowsAt w v R) (hc : ∀ b o, b < w.heap.size → w'.cell? ⟨b, o, none⟩ = w.cell? ⟨b, o, none⟩) : RowsAt w' v R := by
  obtain ⟨h0, a, c, rfl, h1⟩ := h
  refine ⟨h0, a, c, rfl, h1.imp id ?_⟩
  rintro ⟨b, o, rfl, h⟩
  refine ⟨b, o, rfl, fun j hj => ?_⟩
  obtain ⟨u, k1, k2⟩ := h j hj
  exact ⟨u, by rw [hc _ _ (World.block_lt_of_cell? w _ k1)]; exact k1, k2.keep hc⟩
theorem RowsAt.below {w w' : World} {v : Value} {R : List (List Vl)} (h : RowsAt w v R) (hb : Below w.heap.size w w') : RowsAt w' v R := h.keep (bcell hb).1
def badR (R : List (List Vl)) : Bool := R.any (·.any badV)
def errR (R : List (List Vl)) : Int := if 40000 < R.length then 3 else if badR R then 1 else 0
theorem getD_memR {R : List (List Vl)} {k : Nat} (h : k < R.length) : R.getD k [] ∈ R := by
  have : R.getD k [] = R[k] := by simp [List.getD, h]
  rw [this]; exact List.getElem_mem h
theorem badR_at {R : List (List Vl)} {k : Nat} (h : k < R.length) (hb : (R.getD k []).any badV = true) : badR R = true := List.any_eq_true.2 ⟨_, getD_memR h, hb⟩
theorem badR_none {R : List (List Vl)} (hg : ∀ j, j < R.length → (R.getD j []).any badV = false) : badR R = false := by
  unfold badR
  rw [List.any_eq_false]
  intro x hx
  obtain ⟨j, hj, rfl⟩ := List.getElem_of_mem hx
  have := hg j hj
  simp only [List.getD, hj, List.getElem?_eq_getElem, Option.getD_some] at this
  rw [this]; simp
set_option maxHeartbeats 2000000 in
set_option maxRecDepth 100000 in
theorem areValues11 (v : Value) (R : List (List Vl)) (w : World) (h : RowsAt w v R) :
    Calls Tryz.prog 11 #[v] w fun e w' => e = .returned (.int .i64 (errR R)) ∧ Below w.heap.size w w' := by
  obtain ⟨h0, a, c, rfl, h1⟩ := h
  have H1 := Lib.hid h1
  clear h1
  by_cases hbig : 40000 < R.length
  · have hbig' : 40000 < (R.length : Int) := by omega
    have E : Hid (errR R = 3) := Lib.hid (by simp [errR, hbig])
    clear hbig
    go_enter Tryz.func11, Tryz.ntmps11
    go_wp2
    go_ret
    exact ⟨ret_int E.out.symm, Below.refl _ _⟩
  · have hbig' : ¬ 40000 < (R.length : Int) := by omega
    have E : Hid (errR R = if badR R then 1 else 0) := Lib.hid (by simp [errR, hbig])
    clear hbig
    go_enter Tryz.func11, Tryz.ntmps11
    go_wp2
    go_loopg [10] R.length (fun g s8 wr => ∃ k : Nat, k ≤ R.length ∧ R.length - k ≤ g ∧ s8 = .int .i64 k ∧ Below w.heap.size w wr ∧ ∀ j, j < k → (R.getD j []).any badV = false)
    case atStart => exact ⟨0, Nat.zero_le _, by omega, rfl, Below.refl _ _, fun j hj => absurd hj (Nat.not_lt_zero _)⟩
    case round =>
      obtain ⟨k, hk, hg, rfl, hbel, hall⟩ := hrel
      have A := Lib.hid hall
      clear hall
      by_cases hlt : k < R.length
      · rcases H1.out with hn | ⟨b, o, rfl, hc⟩
        · rw [hn] at hlt; simp at hlt
        · obtain ⟨u, c1, hr⟩ := hc k hlt
          have hlt' := World.block_lt_of_cell? w _ c1
          rw [← (bcell hbel).1 _ _ hlt'] at c1
          have C := containsFunc21 u (R.getD k []) wr (hr.below hbel)
          have IX := Lib.hid (badR_at (R := R) (k := k) hlt)
          clear hc hr
          generalize hB : (R.getD k []).any badV = B at C
          have HB := Lib.hid hB
          clear hB
          cases B
          · go_wp2_with (first | (go_at_call 27; refine C.mono ?_; rintro e w' ⟨rfl, hb⟩))
            go_roundg (R.length - (k + 1))
            case measure => omega
            case rel =>
              refine ⟨k + 1, by omega, by omega, by go_num, hbel.trans (hb.mono hbel.size), fun j hj => ?_⟩
              by_cases e : j = k
              · subst e; exact HB.out
              · exact A.out j (by omega)
          · go_wp2_with (first | (go_at_call 27; refine C.mono ?_; rintro e w' ⟨rfl, hb⟩))
            go_ret
            exact ⟨ret_int (by rw [E.out, IX.out HB.out]; rfl), hbel.trans (hb.mono hbel.size)⟩
      · have hkn : k = R.length := by omega
        have E2 := Lib.hid (badR_none (R := R) fun j hj => A.out j (by omega))
        clear hkn
        go_wp2
        go_ret
        exact ⟨ret_int (by rw [E.out, E2.out]; rfl), hbel⟩
end Go.Proofs.YtflapfekfmmcmaaGreatDoor

set_option linter.unusedVariables false
namespace Go.Proofs.YtflapfekfmmcmaaGreatDoor
open Go Go.RowKit Go.Lib
set_option maxHeartbeats 4000000 in
set_option maxRecDepth 100000 in
theorem rowsAsked13 (v : Value) (R : List (List Vl)) (w : World) (h : RowsAt w v R) :
    Calls Tryz.prog 19 #[v] w fun e w' => e = .returned (.int .i64 (errR R)) ∧ Below w.heap.size w w' := by
  obtain ⟨h0, a, c, rfl, h1⟩ := h
  have H1 := Lib.hid h1
  clear h1
  by_cases hbig : 40000 < R.length
  · have hbig' : 40000 < (R.length : Int) := by omega
    have E : Hid (errR R = 3) := Lib.hid (by simp [errR, hbig])
    clear hbig
    go_enter Tryz.func19, Tryz.ntmps19
    go_wp2
    go_ret
    exact ⟨ret_int E.out.symm, Below.refl _ _⟩
  · have hbig' : ¬ 40000 < (R.length : Int) := by omega
    have E : Hid (errR R = if badR R then 1 else 0) := Lib.hid (by simp [errR, hbig])
    clear hbig
    go_enter Tryz.func19, Tryz.ntmps19
    go_wp2
    go_loopg [3] R.length (fun g s8 wr => ∃ k : Nat, k ≤ R.length ∧ R.length - k ≤ g ∧ s8 = .int .i64 k ∧ Below w.heap.size w wr ∧ ∀ j, j < k → (R.getD j []).any badV = false)
    case atStart => exact ⟨0, Nat.zero_le _, by omega, rfl, Below.refl _ _, fun j hj => absurd hj (Nat.not_lt_zero _)⟩
    case round =>
      obtain ⟨k, hk, hg, rfl, hbel, hall⟩ := hrel
      have A := Lib.hid hall
      clear hall
      by_cases hlt : k < R.length
      · rcases H1.out with hn | ⟨b, o, rfl, hc⟩
        · rw [hn] at hlt; simp at hlt
        · obtain ⟨u, c1, hr⟩ := hc k hlt
          have hlt' := World.block_lt_of_cell? w _ c1
          have c1' := c1
          rw [← (bcell hbel).1 _ _ hlt'] at c1'
          have IX := Lib.hid (badR_at (R := R) (k := k) hlt)
          clear hc
          generalize hr0 : R.getD k [] = r at hr IX
          have HR0 := Lib.hid hr0
          clear hr0
          obtain ⟨hl, hs, ra, rc, rfl, hrc⟩ := hr
          have HS := Lib.hid hs
          have HC := Lib.hid hrc
          clear hs hrc
          have C1 := Lib.hid c1
          clear c1
          go_wp2
          go_loopg [4] r.length (fun g' s4 wr' => ∃ m : Nat, m ≤ r.length ∧ r.length - m ≤ g' ∧ s4 = .int .i64 m ∧ Below w.heap.size w wr' ∧ ∀ j, j < m → badV (r.getD j d0) = false)
          case atStart => exact ⟨0, Nat.zero_le _, by omega, rfl, hbel, fun j hj => absurd hj (Nat.not_lt_zero _)⟩
          case round =>
            obtain ⟨m, hm, hg', rfl, hbel', hall'⟩ := hrel
            have A' := Lib.hid hall'
            clear hall'
            have c2' := C1.out
            rw [← (bcell hbel').1 _ _ hlt'] at c2'
            clear c1'
            by_cases hlt2 : m < r.length
            · rcases HC.out with hn | ⟨b2, o2, rfl, hc2⟩
              · rw [hn] at hlt2; simp at hlt2
              · obtain ⟨e1, e2, e3⟩ := hc2 m hlt2
                have hlt3 := World.block_lt_of_cell? w _ e1
                rw [← (bcell hbel').1 _ _ hlt3] at e1 e2 e3
                have hsz := HS.out _ (getD_mem hlt2)
                clear hc2
                generalize hx : r.getD m d0 = x at e1 e2 e3 hsz
                have HX := Lib.hid hx
                have C := validate26 x wr hsz
                have hB : badV x = decide (errV x ≠ 0) := rfl
                have HB := Lib.hid hB
                clear hx hsz hB
                generalize hz : errV x = z at C
                have HZ := Lib.hid hz
                clear hz
                obtain ⟨xk, xn, xs⟩ := x
                simp only [Vl.v] at *
                by_cases hz0 : z = 0
                · subst hz0
                  go_wp2_with (first | (go_at_call 36; refine C.mono ?_; rintro e w' ⟨rfl, hb⟩))
                  go_roundg (r.length - (m + 1))
                  case measure => omega
                  case rel =>
                    refine ⟨m + 1, by omega, by omega, by go_num, hbel'.trans (hb.mono hbel'.size), fun j hj => ?_⟩
                    by_cases e : j = m
                    · subst e; rw [HX.out, HB.out, HZ.out]; rfl
                    · exact A'.out j (by omega)
                · have hbad := Lib.hid (show badV ⟨xk, xn, xs⟩ = true by rw [HB.out, HZ.out]; exact decide_eq_true hz0)
                  have hz1 : (z != 0) = true := by simpa using hz0
                  go_wp2_with (first | (go_at_call 36; refine C.mono ?_; rintro e w' ⟨rfl, hb⟩))
                  go_ret
                  refine ⟨ret_int ?_, hbel'.trans (hb.mono hbel'.size)⟩
                  rw [E.out, IX.out (List.any_eq_true.2 ⟨_, getD_mem hlt2, by rw [HX.out]; exact hbad.out⟩)]
                  rfl
            · have hmn : m = r.length := by omega
              have G := Lib.hid (show r.any badV = false by
                rw [List.any_eq_false]
                intro x hx
                obtain ⟨j, hj, rfl⟩ := List.getElem_of_mem hx
                have := A'.out j (by omega)
                simp only [List.getD, hj, List.getElem?_eq_getElem, Option.getD_some] at this
                rw [this]; simp)
              clear hmn
              go_wp2
              go_roundg (R.length - (k + 1))
              case measure => omega
              case rel =>
                refine ⟨k + 1, by omega, by omega, by go_num, hbel', fun j hj => ?_⟩
                by_cases e : j = k
                · subst e; rw [HR0.out]; exact G.out
                · exact A.out j (by omega)
      · have hkn : k = R.length := by omega
        have E2 := Lib.hid (badR_none (R := R) fun j hj => A.out j (by omega))
        clear hkn
        go_wp2
        go_ret
        exact ⟨ret_int (by rw [E.out, E2.out]; rfl), hbel⟩
end Go.Proofs.YtflapfekfmmcmaaGreatDoor

set_option linter.unusedVariables false
namespace Go.Proofs.YtflapfekfmmcmaaGreatDoor
open Go Go.RowKit Go.Lib
theorem vl_eq (x y : Vl) : decide (x = y) = (decide (x.k = y.k) && (decide (x.n = y.n) && decide (x.s = y.s))) := by
  obtain ⟨a, b, c⟩ := x
  obtain ⟨d, e, f⟩ := y
  rw [Bool.eq_iff_iff]; simp
set_option maxHeartbeats 2000000 in
set_option maxRecDepth 100000 in
theorem sameValue27 (x y : Vl) (w : World) : Calls Tryz.prog 38 #[x.v, y.v] w fun e w' => e = .returned (.bool (decide (x = y))) ∧ Below w.heap.size w w' := by
  rw [vl_eq]
  obtain ⟨k, n, s⟩ := x
  obtain ⟨k', n', s'⟩ := y
  simp only [Vl.v]
  by_cases hk : k = k'
  · subst hk
    by_cases hn : n = n'
    · subst hn
      by_cases hs : s = s'
      · subst hs
        go_enter Tryz.func38, Tryz.ntmps38
        go_wp2
        go_ret
        exact ⟨ret_bool (by simp), ((Below.refl _ _).alloc (Nat.le_refl _) _).alloc (by simp) _⟩
      · have hs' : (s.toList == s'.toList) = false := (Lib.bytes_beq_false_iff _ _).2 hs
        have H := Lib.hid hs
        clear hs
        go_enter Tryz.func38, Tryz.ntmps38
        go_wp2
        go_ret
        exact ⟨ret_bool (by simp [H.out]), ((Below.refl _ _).alloc (Nat.le_refl _) _).alloc (by simp) _⟩
    · go_enter Tryz.func38, Tryz.ntmps38
      go_wp2
      go_ret
      exact ⟨ret_bool (by simp [hn]), ((Below.refl _ _).alloc (Nat.le_refl _) _).alloc (by simp) _⟩
  · go_enter Tryz.func38, Tryz.ntmps38
    go_wp2
    go_ret
    exact ⟨ret_bool (by simp [hk]), ((Below.refl _ _).alloc (Nat.le_refl _) _).alloc (by simp) _⟩
theorem list_eq_at {α : Type} {d : α} {xs ys : List α} (hl : xs.length = ys.length) (h : ∀ j, j < xs.length → xs.getD j d = ys.getD j d) : xs = ys := by
  apply List.ext_getElem hl
  intro i h1 h2
  have := h i h1
  simpa [List.getD, h1, h2] using this
theorem list_ne_at {α : Type} {d : α} {xs ys : List α} {k : Nat} (h : xs.getD k d ≠ ys.getD k d) : xs ≠ ys := by rintro rfl; exact h rfl
theorem keep6 {w0 w w1 : World} {n b p1 p2 p3 b' q1 q2 q3 : Nat} {v1 v2 v3 u1 u2 u3 : Value} (h : w.cell? ⟨b, p1, none⟩ = some v1 ∧ w.cell? ⟨b, p2, none⟩ = some v2 ∧ w.cell? ⟨b, p3, none⟩ = some v3 ∧ w.cell? ⟨b', q1, none⟩ = some u1 ∧ w.cell? ⟨b', q2, none⟩ = some u2 ∧ w.cell? ⟨b', q3, none⟩ = some u3 ∧ n ≤ w.heap.size ∧ Below n w0 w) (hb : Below w.heap.size w w1) :
    w1.cell? ⟨b, p1, none⟩ = some v1 ∧ w1.cell? ⟨b, p2, none⟩ = some v2 ∧ w1.cell? ⟨b, p3, none⟩ = some v3 ∧ w1.cell? ⟨b', q1, none⟩ = some u1 ∧ w1.cell? ⟨b', q2, none⟩ = some u2 ∧ w1.cell? ⟨b', q3, none⟩ = some u3 ∧ n ≤ w1.heap.size ∧ Below n w0 w1 := by
  obtain ⟨h1, h2, h3, h4, h5, h6, h7, h8⟩ := h
  have hc := (bcell hb).1
  have l1 : b < w.heap.size := World.block_lt_of_cell? w _ h1
  have l2 : b' < w.heap.size := World.block_lt_of_cell? w _ h4
  rw [hc _ _ l1, hc _ _ l1, hc _ _ l1, hc _ _ l2, hc _ _ l2, hc _ _ l2]
  exact ⟨h1, h2, h3, h4, h5, h6, by have := hb.size; omega, h8.trans (hb.mono h7)⟩
theorem below_drew {n : Nat} {w0 w : World} (h : Below n w0 w) : Below n w0 w.drew := h.trans ⟨rfl, rfl, rfl, Nat.le_refl _, fun _ _ => rfl⟩
set_option maxHeartbeats 4000000 in
set_option maxRecDepth 100000 in
theorem sameValues15 (u v : Value) (xs ys : List Vl) (w : World) (h1 : RowAt w u xs) (h2 : RowAt w v ys) :
    Calls Tryz.prog 21 #[u, v] w fun e w' => e = .returned (.bool (decide (xs = ys))) ∧ Below w.heap.size w w' := by
  obtain ⟨l1, s1, a1, c1, rfl, k1⟩ := h1
  obtain ⟨l2, s2, a2, c2, rfl, k2⟩ := h2
  clear s1 s2
  have K1 := Lib.hid k1
  have K2 := Lib.hid k2
  clear k1 k2
  by_cases hl : xs.length = ys.length
  · have HL := Lib.hid hl
    rw [← hl] at l2 ⊢
    generalize hN : xs.length = N at l1 l2 ⊢
    have HN := Lib.hid hN
    clear hl hN
    go_enter Tryz.func21, Tryz.ntmps21
    go_wp2
    go_loopg [5] N (fun g s8 wr => ∃ k : Nat, k ≤ N ∧ N - k ≤ g ∧ s8 = .int .i64 k ∧ Below w.heap.size w wr ∧ ∀ j, j < k → xs.getD j d0 = ys.getD j d0)
    case atStart => exact ⟨0, Nat.zero_le _, by omega, rfl, Below.refl _ _, fun j hj => absurd hj (Nat.not_lt_zero _)⟩
    case round =>
      obtain ⟨k, hk, hg, rfl, hbel, hall⟩ := hrel
      have A := Lib.hid hall
      clear hall
      by_cases hlt : k < N
      · rcases K1.out with hn | ⟨b, o, rfl, hc⟩
        · exfalso; have := HN.out; rw [hn] at this; simp at this; omega
        · rcases K2.out with hn' | ⟨b', o', rfl, hc'⟩
          · exfalso; have := HN.out; rw [HL.out, hn'] at this; simp at this; omega
          · obtain ⟨e1, e2, e3⟩ := hc k (by rw [HN.out]; exact hlt)
            obtain ⟨f1, f2, f3⟩ := hc' k (by rw [← HL.out, HN.out]; exact hlt)
            have q1 := World.block_lt_of_cell? w _ e1
            have q2 := World.block_lt_of_cell? w _ f1
            rw [← (bcell hbel).1 _ _ q1] at e1 e2 e3
            rw [← (bcell hbel).1 _ _ q2] at f1 f2 f3
            clear hc hc' q1 q2
            generalize hx : xs.getD k d0 = x at e1 e2 e3
            generalize hy : ys.getD k d0 = y at f1 f2 f3
            have HX := Lib.hid hx
            have HY := Lib.hid hy
            clear hx hy
            have C := sameValue27 x y
            have hsz := hbel.size
            by_cases hxy : x = y
            · subst hxy
              have C := fun w => by have := C w; rw [decide_eq_true rfl] at this; exact this
              obtain ⟨xk, xn, xs0⟩ := x
              simp only [Vl.v] at *
              go_wp2_with fail
              go_region_held3 (fun w' => w'.cell? ⟨b, o + k * 3, none⟩ = some (.int .i64 xk) ∧ w'.cell? ⟨b, o + k * 3 + 1, none⟩ = some (.int .i64 xn) ∧ w'.cell? ⟨b, o + k * 3 + 2, none⟩ = some (.string xs0) ∧ w'.cell? ⟨b', o' + k * 3, none⟩ = some (.int .i64 xk) ∧ w'.cell? ⟨b', o' + k * 3 + 1, none⟩ = some (.int .i64 xn) ∧ w'.cell? ⟨b', o' + k * 3 + 2, none⟩ = some (.string xs0) ∧ w.heap.size ≤ w'.heap.size ∧ Below w.heap.size w w')
                (first | exact keep6 (by assumption) hb | (go_keep; done) | (go_split_ands; (repeat' apply And.intro) <;> first | (go_keep; done) | exact below_drew hbel))
                (first
                  | (go_at_call 38; refine (C _).mono ?_; rintro e w' ⟨rfl, hb⟩))
              go_wp2
              go_roundg (N - (k + 1))
              case measure => omega
              case rel =>
                refine ⟨k + 1, by omega, by omega, by go_num, (below_drew hbel).trans (hb.mono hbel.size), fun j hj => ?_⟩
                by_cases e : j = k
                · subst e; rw [HX.out, HY.out]
                · exact A.out j (by omega)
            · have C := fun w => by have := C w; rw [decide_eq_false hxy] at this; exact this
              have NE : Hid (xs ≠ ys) := Lib.hid (list_ne_at (d := d0) (k := k) (by rw [HX.out, HY.out]; exact hxy))
              clear hxy
              obtain ⟨xk, xn, xs0⟩ := x
              obtain ⟨yk, yn, ys0⟩ := y
              simp only [Vl.v] at *
              go_wp2_with fail
              go_region_held3 (fun w' => w'.cell? ⟨b, o + k * 3, none⟩ = some (.int .i64 xk) ∧ w'.cell? ⟨b, o + k * 3 + 1, none⟩ = some (.int .i64 xn) ∧ w'.cell? ⟨b, o + k * 3 + 2, none⟩ = some (.string xs0) ∧ w'.cell? ⟨b', o' + k * 3, none⟩ = some (.int .i64 yk) ∧ w'.cell? ⟨b', o' + k * 3 + 1, none⟩ = some (.int .i64 yn) ∧ w'.cell? ⟨b', o' + k * 3 + 2, none⟩ = some (.string ys0) ∧ w.heap.size ≤ w'.heap.size ∧ Below w.heap.size w w')
                (first | exact keep6 (by assumption) hb | (go_keep; done) | (go_split_ands; (repeat' apply And.intro) <;> first | (go_keep; done) | exact below_drew hbel))
                (first
                  | (go_at_call 38; refine (C _).mono ?_; rintro e w' ⟨rfl, hb⟩))
              go_wp2
              go_ret
              exact ⟨ret_bool (decide_eq_false NE.out).symm, (below_drew hbel).trans (hb.mono hbel.size)⟩
      · have hkn : k = N := by omega
        have E2 := Lib.hid (list_eq_at (d := d0) (xs := xs) (ys := ys) HL.out fun j hj => A.out j (by rw [hkn, ← HN.out]; exact hj))
        clear hkn
        go_wp2
        go_ret
        exact ⟨ret_bool (decide_eq_true E2.out).symm, hbel⟩
  · have hne : decide (xs = ys) = false := decide_eq_false fun e => hl (by rw [e])
    rw [hne]
    have hnm' : ¬ (xs.length : Int) = (ys.length : Int) := by omega
    clear hne hl
    go_enter Tryz.func21, Tryz.ntmps21
    go_wp2
    go_ret
    exact ⟨rfl, Below.refl _ _⟩
end Go.Proofs.YtflapfekfmmcmaaGreatDoor

set_option linter.unusedVariables false
namespace Go.Proofs.YtflapfekfmmcmaaGreatDoor
open Go Go.RowKit Go.Lib
theorem keep2 {w0 w w1 : World} {n b p1 b' q1 : Nat} {v1 u1 : Value} (h : w.cell? ⟨b, p1, none⟩ = some v1 ∧ w.cell? ⟨b', q1, none⟩ = some u1 ∧ n ≤ w.heap.size ∧ Below n w0 w) (hb : Below w.heap.size w w1) :
    w1.cell? ⟨b, p1, none⟩ = some v1 ∧ w1.cell? ⟨b', q1, none⟩ = some u1 ∧ n ≤ w1.heap.size ∧ Below n w0 w1 := by
  obtain ⟨h1, h4, h7, h8⟩ := h
  have hc := (bcell hb).1
  rw [hc _ _ (World.block_lt_of_cell? w _ h1), hc _ _ (World.block_lt_of_cell? w _ h4)]
  exact ⟨h1, h4, by have := hb.size; omega, h8.trans (hb.mono h7)⟩
set_option maxHeartbeats 4000000 in
set_option maxRecDepth 100000 in
theorem same8 (u v : Value) (xs ys : List (List Vl)) (w : World) (h1 : RowsAt w u xs) (h2 : RowsAt w v ys) :
    Calls Tryz.prog 8 #[u, v] w fun e w' => e = .returned (.bool (decide (xs = ys))) ∧ Below w.heap.size w w' := by
  obtain ⟨l1, a1, c1, rfl, k1⟩ := h1
  obtain ⟨l2, a2, c2, rfl, k2⟩ := h2
  have K1 := Lib.hid k1
  have K2 := Lib.hid k2
  clear k1 k2
  by_cases hl : xs.length = ys.length
  · have HL := Lib.hid hl
    rw [← hl] at l2 ⊢
    generalize hN : xs.length = N at l1 l2 ⊢
    have HN := Lib.hid hN
    clear hl hN
    go_enter Tryz.func8, Tryz.ntmps8
    go_wp2
    go_loopg [5] N (fun g s8 wr => ∃ k : Nat, k ≤ N ∧ N - k ≤ g ∧ s8 = .int .i64 k ∧ Below w.heap.size w wr ∧ ∀ j, j < k → xs.getD j [] = ys.getD j [])
    case atStart => exact ⟨0, Nat.zero_le _, by omega, rfl, Below.refl _ _, fun j hj => absurd hj (Nat.not_lt_zero _)⟩
    case round =>
      obtain ⟨k, hk, hg, rfl, hbel, hall⟩ := hrel
      have A := Lib.hid hall
      clear hall
      by_cases hlt : k < N
      · rcases K1.out with hn | ⟨b, o, rfl, hc⟩
        · exfalso; have := HN.out; rw [hn] at this; simp at this; omega
        · rcases K2.out with hn' | ⟨b', o', rfl, hc'⟩
          · exfalso; have := HN.out; rw [HL.out, hn'] at this; simp at this; omega
          · obtain ⟨u1, e1, r1⟩ := hc k (by rw [HN.out]; exact hlt)
            obtain ⟨u2, f1, r2⟩ := hc' k (by rw [← HL.out, HN.out]; exact hlt)
            have q1 := World.block_lt_of_cell? w _ e1
            have q2 := World.block_lt_of_cell? w _ f1
            rw [← (bcell hbel).1 _ _ q1] at e1
            rw [← (bcell hbel).1 _ _ q2] at f1
            clear hc hc' q1 q2
            generalize hx : xs.getD k [] = x at r1
            generalize hy : ys.getD k [] = y at r2
            have HX := Lib.hid hx
            have HY := Lib.hid hy
            clear hx hy
            have C0 := Lib.hid (fun w1 (hb : Below w.heap.size w w1) => sameValues15 u1 u2 x y w1 (r1.below hb) (r2.below hb))
            have hsz := hbel.size
            clear r1 r2
            by_cases hxy : x = y
            · subst hxy
              have C := Lib.hid (fun w1 (hb : Below w.heap.size w w1) => by have := C0.out w1 hb; rw [decide_eq_true rfl] at this; exact this)
              clear C0
              go_wp2_with fail
              go_region_held3 (fun w' => w'.cell? ⟨b, o + k, none⟩ = some u1 ∧ w'.cell? ⟨b', o' + k, none⟩ = some u2 ∧ w.heap.size ≤ w'.heap.size ∧ Below w.heap.size w w')
                (first | exact keep2 (by assumption) hb | (go_keep; done) | (go_split_ands; (repeat' apply And.intro) <;> first | (go_keep; done) | exact below_drew hbel))
                (first
                  | (go_at_call 21; refine (C.out _ ?_).mono ?_; (go_split_ands; assumption); rintro e w' ⟨rfl, hb⟩))
              go_wp2
              go_roundg (N - (k + 1))
              case measure => omega
              case rel =>
                refine ⟨k + 1, by omega, by omega, by go_num, (below_drew hbel).trans (hb.mono hbel.size), fun j hj => ?_⟩
                by_cases e : j = k
                · subst e; rw [HX.out, HY.out]
                · exact A.out j (by omega)
            · have C := Lib.hid (fun w1 (hb : Below w.heap.size w w1) => by have := C0.out w1 hb; rw [decide_eq_false hxy] at this; exact this)
              have NE : Hid (xs ≠ ys) := Lib.hid (list_ne_at (d := []) (k := k) (by rw [HX.out, HY.out]; exact hxy))
              clear hxy C0
              go_wp2_with fail
              go_region_held3 (fun w' => w'.cell? ⟨b, o + k, none⟩ = some u1 ∧ w'.cell? ⟨b', o' + k, none⟩ = some u2 ∧ w.heap.size ≤ w'.heap.size ∧ Below w.heap.size w w')
                (first | exact keep2 (by assumption) hb | (go_keep; done) | (go_split_ands; (repeat' apply And.intro) <;> first | (go_keep; done) | exact below_drew hbel))
                (first
                  | (go_at_call 21; refine (C.out _ ?_).mono ?_; (go_split_ands; assumption); rintro e w' ⟨rfl, hb⟩))
              go_wp2
              go_ret
              exact ⟨ret_bool (decide_eq_false NE.out).symm, (below_drew hbel).trans (hb.mono hbel.size)⟩
      · have hkn : k = N := by omega
        have E2 := Lib.hid (list_eq_at (d := []) (xs := xs) (ys := ys) HL.out fun j hj => A.out j (by rw [hkn, ← HN.out]; exact hj))
        clear hkn
        go_wp2
        go_ret
        exact ⟨ret_bool (decide_eq_true E2.out).symm, hbel⟩
  · have hne : decide (xs = ys) = false := decide_eq_false fun e => hl (by rw [e])
    rw [hne]
    have hnm' : ¬ (xs.length : Int) = (ys.length : Int) := by omega
    clear hne hl
    go_enter Tryz.func8, Tryz.ntmps8
    go_wp2
    go_ret
    exact ⟨rfl, Below.refl _ _⟩
end Go.Proofs.YtflapfekfmmcmaaGreatDoor
