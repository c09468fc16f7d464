/- PROVED: contracts of the functions that SqlDistincts reaches (part DvA). CONDITIONS: none. -/
import Derived.Test.YtmomolpgjkejgaaGreatDoorProg
import Derived.Tactics
import Derived.Tactics2
import Derived.WalkKit
import Derived.WalkSpells
import Derived.WalkSmall
import Derived.StillTactics
import Derived.Deep.LoopGhost
import Derived.Deep.QuietTactic
import Derived.BigQuiet
import Derived.KernelRfl
import Derived.Lib.Hide
import Derived.Lib.Slices
import Derived.Lib.SlicesS
import Derived.Lib.SlicesMore
import Derived.Below
set_option linter.unusedSimpArgs false
set_option linter.unusedVariables false
set_option linter.unusedVariables false
namespace Go.Proofs.YtmomolpgjkejgaaGreatDoor
open Go Go.RowKit Go.Lib
/-- A value of the database. -/
structure Vl where
  k : Int
  n : Int
  s : ByteArray
deriving DecidableEq
def Vl.v (x : Vl) : Value := .agg #[.int .i64 x.k, .int .i64 x.n, .string x.s]
def okV (x : Vl) : Bool :=
  if x.k = 0 then x.n = 0 && x.s = ByteArray.empty
  else if x.k = 1 then (x.n = 0 || x.n = 1) && x.s = ByteArray.empty
  else if x.k = 2 then decide (-1000000000000000 ≤ x.n) && decide (x.n ≤ 1000000000000000) && x.s = ByteArray.empty
  else if x.k = 3 then decide (0 ≤ x.n) && decide (x.n ≤ 3652059) && x.s = ByteArray.empty
  else x.k = 4 && x.n = 0
def errV (x : Vl) : Int := if 2048 < x.s.size then 3 else if okV x then 0 else 1
theorem bcell {W w1 : World} (hb : Below W.heap.size W w1) : (∀ b o, b < W.heap.size → w1.cell? ⟨b, o, none⟩ = W.cell? ⟨b, o, none⟩) ∧ (∀ b o, b < W.heap.size → w1.frozen? ⟨b, o, none⟩ = W.frozen? ⟨b, o, none⟩) :=
  ⟨fun b o h => hb.cell (p := ⟨b, o, none⟩) h, fun b o h => hb.frozen (p := ⟨b, o, none⟩) h⟩
theorem ret_bool {a b : Bool} (h : a = b) : Ending.returned (.bool a) = .returned (.bool b) := by rw [h]
theorem ret_int {k : IntKind} {a b : Int} (h : a = b) : Ending.returned (.int k a) = .returned (.int k b) := by rw [h]

theorem isNum71 (n : Int) (w : World) : Calls Tryz.prog 71 #[.int .i64 n] w fun e w' => e = .returned (.bool (decide (-1000000000000000 ≤ n) && decide (n ≤ 1000000000000000))) ∧ w = w' := by
  go_enter Tryz.func71, Tryz.ntmps71
  go_wp2
  all_goals
    go_ret
    exact ⟨by simp [*]; try omega, rfl⟩
theorem inNum44 (n : Int) (w : World) : Calls Tryz.prog 44 #[.int .i64 n] w fun e w' => e = .returned (.bool (decide (-1000000000000000 ≤ n) && decide (n ≤ 1000000000000000))) ∧ w = w' := by
  go_enter Tryz.func44, Tryz.ntmps44
  go_wp2
  all_goals
    go_ret
    exact ⟨by simp [*]; try omega, rfl⟩
theorem isDay72 (n : Int) (w : World) : Calls Tryz.prog 72 #[.int .i64 n] w fun e w' => e = .returned (.bool (decide (0 ≤ n) && decide (n ≤ 3652059))) ∧ w = w' := by
  go_enter Tryz.func72, Tryz.ntmps72
  go_wp2
  all_goals
    go_ret
    exact ⟨by simp [*]; try omega, rfl⟩

set_option maxHeartbeats 2000000 in
set_option maxRecDepth 100000 in
theorem isValue40 (x : Vl) (w : World) : Calls Tryz.prog 40 #[x.v] w fun e w' => e = .returned (.bool (okV x)) ∧ Below w.heap.size w w' := by
  obtain ⟨k, n, s⟩ := x
  simp only [Vl.v]
  by_cases hs : s = ByteArray.empty
  · subst hs
    by_cases h0 : k = 0
    · subst h0
      go_enter Tryz.func40, Tryz.ntmps40
      go_wp2_with (first | (go_at_call 71; refine (isNum71 _ _).mono ?_; rintro e w' ⟨rfl, rfl⟩) | (go_at_call 72; refine (isDay72 _ _).mono ?_; rintro e w' ⟨rfl, rfl⟩))
      all_goals
        go_ret
        refine ⟨ret_bool ?_, ?_⟩
        · rw [Bool.eq_iff_iff]
          simp [okV]
          all_goals (first | omega | simp_all)
        · exact (Below.refl _ _).alloc (Nat.le_refl _) _
    by_cases h1 : k = 1
    · subst h1
      go_enter Tryz.func40, Tryz.ntmps40
      go_wp2_with (first | (go_at_call 71; refine (isNum71 _ _).mono ?_; rintro e w' ⟨rfl, rfl⟩) | (go_at_call 72; refine (isDay72 _ _).mono ?_; rintro e w' ⟨rfl, rfl⟩))
      all_goals
        go_ret
        refine ⟨ret_bool ?_, ?_⟩
        · rw [Bool.eq_iff_iff]
          simp [okV]
          all_goals (first | omega | simp_all)
        · exact (Below.refl _ _).alloc (Nat.le_refl _) _
    by_cases h2 : k = 2
    · subst h2
      go_enter Tryz.func40, Tryz.ntmps40
      go_wp2_with (first | (go_at_call 71; refine (isNum71 _ _).mono ?_; rintro e w' ⟨rfl, rfl⟩) | (go_at_call 72; refine (isDay72 _ _).mono ?_; rintro e w' ⟨rfl, rfl⟩))
      all_goals
        go_ret
        refine ⟨ret_bool ?_, ?_⟩
        · rw [Bool.eq_iff_iff]
          simp [okV]
          all_goals (first | omega | simp_all)
        · exact (Below.refl _ _).alloc (Nat.le_refl _) _
    by_cases h3 : k = 3
    · subst h3
      go_enter Tryz.func40, Tryz.ntmps40
      go_wp2_with (first | (go_at_call 71; refine (isNum71 _ _).mono ?_; rintro e w' ⟨rfl, rfl⟩) | (go_at_call 72; refine (isDay72 _ _).mono ?_; rintro e w' ⟨rfl, rfl⟩))
      all_goals
        go_ret
        refine ⟨ret_bool ?_, ?_⟩
        · rw [Bool.eq_iff_iff]
          simp [okV]
          all_goals (first | omega | simp_all)
        · exact (Below.refl _ _).alloc (Nat.le_refl _) _
    by_cases h4 : k = 4
    · subst h4
      go_enter Tryz.func40, Tryz.ntmps40
      go_wp2_with (first | (go_at_call 71; refine (isNum71 _ _).mono ?_; rintro e w' ⟨rfl, rfl⟩) | (go_at_call 72; refine (isDay72 _ _).mono ?_; rintro e w' ⟨rfl, rfl⟩))
      all_goals
        go_ret
        refine ⟨ret_bool ?_, ?_⟩
        · rw [Bool.eq_iff_iff]
          simp [okV]
          all_goals (first | omega | simp_all)
        · exact (Below.refl _ _).alloc (Nat.le_refl _) _
    · go_enter Tryz.func40, Tryz.ntmps40
      go_wp2_with (first | (go_at_call 71; refine (isNum71 _ _).mono ?_; rintro e w' ⟨rfl, rfl⟩) | (go_at_call 72; refine (isDay72 _ _).mono ?_; rintro e w' ⟨rfl, rfl⟩))
      all_goals
        go_ret
        refine ⟨ret_bool ?_, ?_⟩
        · rw [Bool.eq_iff_iff]
          simp [okV, h0, h1, h2, h3, h4]
          all_goals (first | omega | simp_all)
        · exact (Below.refl _ _).alloc (Nat.le_refl _) _
  · have e1 : (s.toList == []) = false := by
      have := (Lib.bytes_beq_false_iff s ByteArray.empty).2 hs
      simpa using this
    have e2 : s.toList.isEmpty = false := by
      cases h : s.toList with
      | nil => rw [h] at e1; simp at e1
      | cons a l => rfl
    have hS := Lib.hid hs
    by_cases h4 : k = 4
    · subst h4
      go_enter Tryz.func40, Tryz.ntmps40
      go_wp2
      all_goals
        go_ret
        refine ⟨ret_bool ?_, ?_⟩
        · rw [Bool.eq_iff_iff]
          simp [okV]
          all_goals (first | omega | simp_all)
        · exact (Below.refl _ _).alloc (Nat.le_refl _) _
    · go_enter Tryz.func40, Tryz.ntmps40
      go_wp2
      all_goals
        go_ret
        refine ⟨ret_bool ?_, ?_⟩
        · rw [Bool.eq_iff_iff]
          simp [okV, h4, hS.out]
          all_goals (first | omega | simp_all)
        · exact (Below.refl _ _).alloc (Nat.le_refl _) _
end Go.Proofs.YtmomolpgjkejgaaGreatDoor

set_option linter.unusedVariables false
namespace Go.Proofs.YtmomolpgjkejgaaGreatDoor
open Go Go.RowKit Go.Lib
set_option maxHeartbeats 2000000 in
set_option maxRecDepth 100000 in
theorem validate23 (x : Vl) (w : World) (hm : x.s.size ≤ 9223372036854775807) : Calls Tryz.prog 23 #[x.v] w fun e w' => e = .returned (.int .i64 (errV x)) ∧ Below w.heap.size w w' := by
  have C := isValue40 x (w.alloc (Obj.cells #[Value.int IntKind.i64 x.k, Value.int IntKind.i64 x.n, Value.string x.s] 43))
  have e : errV x = if 2048 < x.s.size then 3 else if okV x then 0 else 1 := rfl
  rw [e]; clear e
  generalize okV x = B at C ⊢
  obtain ⟨k, n, s⟩ := x
  simp only [Vl.v] at *
  by_cases hs : 2048 < s.size
  · have hs' : 2048 < (s.size : Int) := by omega
    clear C
    go_enter Tryz.func23, Tryz.ntmps23
    go_wp2
    go_ret
    exact ⟨ret_int (by simp [hs]), (Below.refl _ _).alloc (Nat.le_refl _) _⟩
  · have hs' : ¬ 2048 < (s.size : Int) := by omega
    have H := Lib.hid hs
    clear hs
    cases B
    all_goals
      go_enter Tryz.func23, Tryz.ntmps23
      go_wp2_with (go_at_call 40; refine C.mono ?_; rintro e w' ⟨rfl, hb⟩)
      go_ret
      exact ⟨ret_int (by simp [H.out]), ((Below.refl _ _).alloc (Nat.le_refl _) _).trans (hb.mono (by simp))⟩
set_option maxHeartbeats 4000000 in
set_option maxRecDepth 100000 in
theorem validate26 (x : Vl) (w : World) (hm : x.s.size ≤ 9223372036854775807) : Calls Tryz.prog 26 #[x.v] w fun e w' => e = .returned (.int .i64 (errV x)) ∧ Below w.heap.size w w' := by
  obtain ⟨k, n, s⟩ := x
  simp only [Vl.v]
  by_cases hs : 2048 < s.size
  · have hs' : 2048 < (s.size : Int) := by omega
    go_enter Tryz.func26, Tryz.ntmps26
    go_wp2
    go_ret
    exact ⟨ret_int (by simp [errV, hs]), (Below.refl _ _).alloc (Nat.le_refl _) _⟩
  · have hs' : ¬ 2048 < (s.size : Int) := by omega
    have H := Lib.hid hs
    clear hs
    by_cases he : s = ByteArray.empty
    · subst he
      by_cases h0 : k = 0
      · subst h0
        go_enter Tryz.func26, Tryz.ntmps26
        go_wp2_with (first | (go_at_call 44; refine (inNum44 _ _).mono ?_; rintro e w' ⟨rfl, rfl⟩))
        all_goals
          go_ret
          refine ⟨ret_int ?_, ?_⟩
          · simp [errV, okV, H.out]
            all_goals (first | omega | simp_all | (split <;> first | omega | simp_all))
          · exact (Below.refl _ _).alloc (Nat.le_refl _) _
      by_cases h1 : k = 1
      · subst h1
        go_enter Tryz.func26, Tryz.ntmps26
        go_wp2_with (first | (go_at_call 44; refine (inNum44 _ _).mono ?_; rintro e w' ⟨rfl, rfl⟩))
        all_goals
          go_ret
          refine ⟨ret_int ?_, ?_⟩
          · simp [errV, okV, H.out]
            all_goals (first | omega | simp_all | (split <;> first | omega | simp_all))
          · exact (Below.refl _ _).alloc (Nat.le_refl _) _
      by_cases h2 : k = 2
      · subst h2
        go_enter Tryz.func26, Tryz.ntmps26
        go_wp2_with (first | (go_at_call 44; refine (inNum44 _ _).mono ?_; rintro e w' ⟨rfl, rfl⟩))
        all_goals
          go_ret
          refine ⟨ret_int ?_, ?_⟩
          · simp [errV, okV, H.out]
            all_goals (first | omega | simp_all | (split <;> first | omega | simp_all))
          · exact (Below.refl _ _).alloc (Nat.le_refl _) _
      by_cases h3 : k = 3
      · subst h3
        go_enter Tryz.func26, Tryz.ntmps26
        go_wp2_with (first | (go_at_call 44; refine (inNum44 _ _).mono ?_; rintro e w' ⟨rfl, rfl⟩))
        all_goals
          go_ret
          refine ⟨ret_int ?_, ?_⟩
          · simp [errV, okV, H.out]
            all_goals (first | omega | simp_all | (split <;> first | omega | simp_all))
          · exact (Below.refl _ _).alloc (Nat.le_refl _) _
      by_cases h4 : k = 4
      · subst h4
        go_enter Tryz.func26, Tryz.ntmps26
        go_wp2_with (first | (go_at_call 44; refine (inNum44 _ _).mono ?_; rintro e w' ⟨rfl, rfl⟩))
        all_goals
          go_ret
          refine ⟨ret_int ?_, ?_⟩
          · simp [errV, okV, H.out]
            all_goals (first | omega | simp_all | (split <;> first | omega | simp_all))
          · exact (Below.refl _ _).alloc (Nat.le_refl _) _
      · go_enter Tryz.func26, Tryz.ntmps26
        go_wp2_with (first | (go_at_call 44; refine (inNum44 _ _).mono ?_; rintro e w' ⟨rfl, rfl⟩))
        all_goals
          go_ret
          refine ⟨ret_int ?_, ?_⟩
          · simp [errV, okV, H.out, h0, h1, h2, h3, h4]
            all_goals (first | omega | simp_all | (split <;> first | omega | simp_all))
          · exact (Below.refl _ _).alloc (Nat.le_refl _) _
    · have e1 : (s.toList == []) = false := by
        have := (Lib.bytes_beq_false_iff s ByteArray.empty).2 he
        simpa using this
      have e2 : s.toList.isEmpty = false := by
        cases h : s.toList with
        | nil => rw [h] at e1; simp at e1
        | cons a l => rfl
      have hS := Lib.hid he
      by_cases h0 : k = 0
      · subst h0
        go_enter Tryz.func26, Tryz.ntmps26
        go_wp2_with (first | (go_at_call 44; refine (inNum44 _ _).mono ?_; rintro e w' ⟨rfl, rfl⟩))
        all_goals
          go_ret
          refine ⟨ret_int ?_, ?_⟩
          · simp [errV, okV, H.out, hS.out]
            all_goals (first | omega | simp_all | (split <;> first | omega | simp_all))
          · exact (Below.refl _ _).alloc (Nat.le_refl _) _
      by_cases h1 : k = 1
      · subst h1
        go_enter Tryz.func26, Tryz.ntmps26
        go_wp2_with (first | (go_at_call 44; refine (inNum44 _ _).mono ?_; rintro e w' ⟨rfl, rfl⟩))
        all_goals
          go_ret
          refine ⟨ret_int ?_, ?_⟩
          · simp [errV, okV, H.out, hS.out]
            all_goals (first | omega | simp_all | (split <;> first | omega | simp_all))
          · exact (Below.refl _ _).alloc (Nat.le_refl _) _
      by_cases h2 : k = 2
      · subst h2
        go_enter Tryz.func26, Tryz.ntmps26
        go_wp2_with (first | (go_at_call 44; refine (inNum44 _ _).mono ?_; rintro e w' ⟨rfl, rfl⟩))
        all_goals
          go_ret
          refine ⟨ret_int ?_, ?_⟩
          · simp [errV, okV, H.out, hS.out]
            all_goals (first | omega | simp_all | (split <;> first | omega | simp_all))
          · exact (Below.refl _ _).alloc (Nat.le_refl _) _
      by_cases h3 : k = 3
      · subst h3
        go_enter Tryz.func26, Tryz.ntmps26
        go_wp2_with (first | (go_at_call 44; refine (inNum44 _ _).mono ?_; rintro e w' ⟨rfl, rfl⟩))
        all_goals
          go_ret
          refine ⟨ret_int ?_, ?_⟩
          · simp [errV, okV, H.out, hS.out]
            all_goals (first | omega | simp_all | (split <;> first | omega | simp_all))
          · exact (Below.refl _ _).alloc (Nat.le_refl _) _
      by_cases h4 : k = 4
      · subst h4
        go_enter Tryz.func26, Tryz.ntmps26
        go_wp2_with (first | (go_at_call 44; refine (inNum44 _ _).mono ?_; rintro e w' ⟨rfl, rfl⟩))
        all_goals
          go_ret
          refine ⟨ret_int ?_, ?_⟩
          · simp [errV, okV, H.out, hS.out]
            all_goals (first | omega | simp_all | (split <;> first | omega | simp_all))
          · exact (Below.refl _ _).alloc (Nat.le_refl _) _
      · go_enter Tryz.func26, Tryz.ntmps26
        go_wp2_with (first | (go_at_call 44; refine (inNum44 _ _).mono ?_; rintro e w' ⟨rfl, rfl⟩))
        all_goals
          go_ret
          refine ⟨ret_int ?_, ?_⟩
          · simp [errV, okV, H.out, hS.out, h0, h1, h2, h3, h4]
            all_goals (first | omega | simp_all | (split <;> first | omega | simp_all))
          · exact (Below.refl _ _).alloc (Nat.le_refl _) _
end Go.Proofs.YtmomolpgjkejgaaGreatDoor
