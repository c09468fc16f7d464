/- PROVED: contracts of the functions that SqlSorts reaches, and what a stable sort is (part SvB). CONDITIONS: none. -/
import Derived.Test.YtflapfekfmmcmaaGreatDoorSvA
import Derived.Lib.Bytealg
import Derived.Shelf.RegionOpenPlain
set_option linter.unusedSimpArgs false
set_option linter.unusedVariables false
set_option linter.unusedVariables false
namespace Go.Proofs.YtflapfekfmmcmaaGreatDoor
open Go Go.RowKit Go.Lib
def cmpI (a b : Int) : Int := if a < b then -1 else if a > b then 1 else 0
def cmpS (a b : ByteArray) : Int := compareBytes a.data.toList b.data.toList
def ordV (x y : Vl) : Int :=
  if x.k = 0 ∨ y.k = 0 then cmpI (min x.k 1) (min y.k 1) else if x.k ≠ y.k then 0 else if x.k = 4 then cmpS x.s y.s else cmpI x.n y.n
theorem isNaN86 (a : Int) (w : World) : Calls Tryz.prog 86 #[.int .i64 a] w fun e w' => e = .returned (.bool false) ∧ w = w' := by
  go_enter Tryz.func86, Tryz.ntmps86
  go_wp2
  go_ret
  exact ⟨rfl, rfl⟩
theorem cmpInt53 (a b : Int) (w : World) : Calls Tryz.prog 53 #[.int .i64 a, .int .i64 b] w fun e w' => e = .returned (.int .i64 (cmpI a b)) ∧ w = w' := by
  unfold cmpI
  go_enter Tryz.func53, Tryz.ntmps53
  go_wp2_with (go_at_call 86; refine (isNaN86 _ _).mono ?_; rintro e w' ⟨rfl, rfl⟩)
  all_goals
    go_ret
    exact ⟨ret_int (by simp [*]), rfl⟩
theorem compareInts122 (a b : Int) (w : World) : Calls Tryz.prog 122 #[.int .i64 a, .int .i64 b] w fun e w' => e = .returned (.int .i64 (cmpI a b)) ∧ w = w' := by
  unfold cmpI
  go_enter Tryz.func122, Tryz.ntmps122
  go_wp2
  all_goals
    go_ret
    exact ⟨ret_int (by simp [*]), rfl⟩
theorem isString_like : True := trivial
end Go.Proofs.YtflapfekfmmcmaaGreatDoor

set_option linter.unusedVariables false
namespace Go.Proofs.YtflapfekfmmcmaaGreatDoor
open Go Go.RowKit Go.Lib
set_option maxHeartbeats 1000000 in
set_option maxRecDepth 100000 in
theorem compareString121 (a b : ByteArray) (w : World) : Calls Tryz.prog 121 #[.string a, .string b] w fun e w' => e = .returned (.int .i64 (cmpS a b)) ∧ w = w' := by
  unfold cmpS
  go_enter Tryz.func121, Tryz.ntmps121
  go_wp2
  rw [run_callFunc_extern Tryz.func161 (by kernel_rfl) (by kernel_rfl) (by kernel_rfl) (e := Extern.BytealgCompare.compare) (by kernel_rfl), Lib.run_compareString]
  simp only [Result.andThen]
  rw [Oper.upon_value]
  go_wp2
  go_ret
  exact ⟨rfl, rfl⟩
theorem compare85 (a b : ByteArray) (w : World) : Calls Tryz.prog 85 #[.string a, .string b] w fun e w' => e = .returned (.int .i64 (cmpS a b)) ∧ w = w' := by
  have C := compareString121 a b
  generalize cmpS a b = z at C ⊢
  go_enter Tryz.func85, Tryz.ntmps85
  go_wp2_with (go_at_call 121; refine (C _).mono ?_; rintro e w' ⟨rfl, rfl⟩)
  go_ret
  exact ⟨rfl, rfl⟩
def pair0 (w : World) (x y : Vl) : World := (w.alloc (Obj.cells #[Value.int IntKind.i64 x.k, Value.int IntKind.i64 x.n, Value.string x.s] 45)).alloc (Obj.cells #[Value.int IntKind.i64 y.k, Value.int IntKind.i64 y.n, Value.string y.s] 45)
theorem pair_facts {w w' : World} {x y : Vl} (hb : Below (pair0 w x y).heap.size (pair0 w x y) w') :
    w'.cell? ⟨w.heap.size, 0, none⟩ = some (.int .i64 x.k) ∧ w'.cell? ⟨w.heap.size, 1, none⟩ = some (.int .i64 x.n) ∧ w'.cell? ⟨w.heap.size, 2, none⟩ = some (.string x.s) ∧
    w'.cell? ⟨w.heap.size + 1, 0, none⟩ = some (.int .i64 y.k) ∧ w'.cell? ⟨w.heap.size + 1, 1, none⟩ = some (.int .i64 y.n) ∧ w'.cell? ⟨w.heap.size + 1, 2, none⟩ = some (.string y.s) := by
  have h := (bcell hb).1
  have e : (pair0 w x y).heap = (w.heap.push (Obj.cells #[Value.int IntKind.i64 x.k, Value.int IntKind.i64 x.n, Value.string x.s] 45)).push (Obj.cells #[Value.int IntKind.i64 y.k, Value.int IntKind.i64 y.n, Value.string y.s] 45) := by
    rfl
  have e1 : (pair0 w x y).heap[w.heap.size]? = some (Obj.cells #[Value.int IntKind.i64 x.k, Value.int IntKind.i64 x.n, Value.string x.s] 45) := by
    rw [e, Array.getElem?_push_lt (by simp)]; simp
  have e2 : (pair0 w x y).heap[w.heap.size + 1]? = some (Obj.cells #[Value.int IntKind.i64 y.k, Value.int IntKind.i64 y.n, Value.string y.s] 45) := by
    rw [e, Array.getElem?_push, if_pos (by simp)]
  have l2 : (pair0 w x y).heap.size = w.heap.size + 2 := by rw [e]; simp
  refine ⟨?_, ?_, ?_, ?_, ?_, ?_⟩ <;> rw [h _ _ (by omega)] <;> simp only [World.cell?, e1, e2] <;> rfl
theorem pair_below {w w' : World} {x y : Vl} (hb : Below (pair0 w x y).heap.size (pair0 w x y) w') : Below w.heap.size w w' :=
  (((Below.refl _ w).alloc (Nat.le_refl _) _).alloc (by simp) _).trans (hb.mono (by simp [pair0]; omega))
end Go.Proofs.YtflapfekfmmcmaaGreatDoor

set_option linter.unusedVariables false
namespace Go.Proofs.YtflapfekfmmcmaaGreatDoor
open Go Go.RowKit Go.Lib
set_option maxHeartbeats 2000000 in
set_option maxRecDepth 100000 in
theorem both162 (x y : Vl) (w : World) (h1 : errV x = 0) (h2 : errV y = 0) (s1 : x.s.size ≤ 9223372036854775807) (s2 : y.s.size ≤ 9223372036854775807) :
    Calls Tryz.prog 162 #[x.v, y.v] w fun e w' => e = .returned (.int .i64 0) ∧ Below w.heap.size w w' := by
  have C1 := validate26 x (pair0 w x y) s1
  have C2 := fun w1 => validate26 y w1 s2
  have F := fun w1 => pair_facts (w := w) (w' := w1) (x := x) (y := y)
  have G := fun w1 => pair_below (w := w) (w' := w1) (x := x) (y := y)
  rw [h1] at C1
  rw [h2] at C2
  clear h1 h2
  obtain ⟨k, n, s⟩ := x
  obtain ⟨k', n', s'⟩ := y
  unfold pair0 at *
  simp only [Vl.v] at *
  have C1 := Lib.hid C1
  have C2 := Lib.hid C2
  have F := Lib.hid F
  have G := Lib.hid G
  go_enter Tryz.func162, Tryz.ntmps162
  go_wp2_with (first
    | (have _q := a1; clear _q; go_at_call 36; refine (C2.out _).mono ?_; rintro e w2 ⟨rfl, hb2⟩)
    | (go_at_call 36; refine C1.out.mono ?_; rintro e w1 ⟨rfl, hb⟩; obtain ⟨a1, a2, a3, b1, b2, b3⟩ := F.out w1 hb))
  go_ret
  exact ⟨rfl, (G.out _ hb).trans (hb2.mono (G.out _ hb).size)⟩
set_option maxHeartbeats 2000000 in
set_option maxRecDepth 100000 in
theorem both84 (x y : Vl) (w : World) (h1 : errV x = 0) (h2 : errV y = 0) (s1 : x.s.size ≤ 9223372036854775807) (s2 : y.s.size ≤ 9223372036854775807) :
    Calls Tryz.prog 84 #[x.v, y.v] w fun e w' => e = .returned (.int .i64 0) ∧ Below w.heap.size w w' := by
  have C1 := validate23 x (pair0 w x y) s1
  have C2 := fun w1 => validate23 y w1 s2
  have F := fun w1 => pair_facts (w := w) (w' := w1) (x := x) (y := y)
  have G := fun w1 => pair_below (w := w) (w' := w1) (x := x) (y := y)
  rw [h1] at C1
  rw [h2] at C2
  clear h1 h2
  obtain ⟨k, n, s⟩ := x
  obtain ⟨k', n', s'⟩ := y
  unfold pair0 at *
  simp only [Vl.v] at *
  have C1 := Lib.hid C1
  have C2 := Lib.hid C2
  have F := Lib.hid F
  have G := Lib.hid G
  go_enter Tryz.func84, Tryz.ntmps84
  go_wp2_with (first
    | (have _q := a1; clear _q; go_at_call 29; refine (C2.out _).mono ?_; rintro e w2 ⟨rfl, hb2⟩)
    | (go_at_call 29; refine C1.out.mono ?_; rintro e w1 ⟨rfl, hb⟩; obtain ⟨a1, a2, a3, b1, b2, b3⟩ := F.out w1 hb))
  go_ret
  exact ⟨rfl, (G.out _ hb).trans (hb2.mono (G.out _ hb).size)⟩
end Go.Proofs.YtflapfekfmmcmaaGreatDoor

set_option linter.unusedVariables false
namespace Go.Proofs.YtflapfekfmmcmaaGreatDoor
open Go Go.RowKit Go.Lib
set_option maxHeartbeats 4000000 in
set_option maxRecDepth 100000 in
theorem compare52 (x y : Vl) (w : World) (h1 : errV x = 0) (h2 : errV y = 0) (s1 : x.s.size ≤ 9223372036854775807) (s2 : y.s.size ≤ 9223372036854775807) :
    Calls Tryz.prog 52 #[x.v, y.v] w fun e w' => e = .returned (.tuple #[.int .i64 (if x.k ≠ y.k ∨ x.k = 0 then 0 else if x.k = 4 then cmpS x.s y.s else cmpI x.n y.n), .int .i64 (if x.k ≠ y.k ∨ x.k = 0 then 6 else 0)]) ∧ Below w.heap.size w w' := by
  have CB := both84 x y (pair0 w x y) h1 h2 s1 s2
  have CS := fun w1 => compare85 x.s y.s w1
  have CI := fun w1 => cmpInt53 x.n y.n w1
  have F := fun w1 => pair_facts (w := w) (w' := w1) (x := x) (y := y)
  have G := fun w1 => pair_below (w := w) (w' := w1) (x := x) (y := y)
  clear h1 h2 s1 s2
  generalize cmpS x.s y.s = zs at CS ⊢
  generalize cmpI x.n y.n = zi at CI ⊢
  obtain ⟨k, n, s⟩ := x
  obtain ⟨k', n', s'⟩ := y
  unfold pair0 at *
  simp only [Vl.v] at *
  have CB := Lib.hid CB
  have CS := Lib.hid CS
  have CI := Lib.hid CI
  have F := Lib.hid F
  have G := Lib.hid G
  by_cases hk : k = k'
  · subst hk
    by_cases h0 : k = 0
    · subst h0
      go_enter Tryz.func52, Tryz.ntmps52
      go_wp2_with (go_at_call 84; refine CB.out.mono ?_; rintro e w1 ⟨rfl, hb⟩; obtain ⟨a1, a2, a3, b1, b2, b3⟩ := F.out w1 hb)
      go_ret2
      exact ⟨by simp, G.out _ hb⟩
    · by_cases h4 : k = 4
      · subst h4
        go_enter Tryz.func52, Tryz.ntmps52
        go_wp2_with (first
          | (go_at_call 84; refine CB.out.mono ?_; rintro e w1 ⟨rfl, hb⟩; obtain ⟨a1, a2, a3, b1, b2, b3⟩ := F.out w1 hb)
          | (go_at_call 85; refine (CS.out _).mono ?_; rintro e w2 ⟨rfl, rfl⟩))
        go_ret2
        exact ⟨by simp, G.out _ hb⟩
      · go_enter Tryz.func52, Tryz.ntmps52
        go_wp2_with (first
          | (go_at_call 84; refine CB.out.mono ?_; rintro e w1 ⟨rfl, hb⟩; obtain ⟨a1, a2, a3, b1, b2, b3⟩ := F.out w1 hb)
          | (go_at_call 53; refine (CI.out _).mono ?_; rintro e w2 ⟨rfl, rfl⟩))
        go_ret2
        exact ⟨by simp [h0, h4], G.out _ hb⟩
  · go_enter Tryz.func52, Tryz.ntmps52
    go_wp2_with (go_at_call 84; refine CB.out.mono ?_; rintro e w1 ⟨rfl, hb⟩; obtain ⟨a1, a2, a3, b1, b2, b3⟩ := F.out w1 hb)
    go_ret2
    exact ⟨by simp [hk], G.out _ hb⟩
end Go.Proofs.YtflapfekfmmcmaaGreatDoor

set_option linter.unusedVariables false
namespace Go.Proofs.YtflapfekfmmcmaaGreatDoor
open Go Go.RowKit Go.Lib
theorem cmpB_drop : ∀ (k : Nat) (a b : List UInt8), k ≤ a.length → k ≤ b.length → a.take k = b.take k → compareBytes a b = compareBytes (a.drop k) (b.drop k)
  | 0, a, b, _, _, _ => by simp
  | k + 1, [], b, h, _, _ => by simp at h
  | k + 1, a :: l, [], _, h, _ => by simp at h
  | k + 1, a :: l, b :: k', h1, h2, h => by
    simp only [List.take_succ_cons, List.cons.injEq] at h
    obtain ⟨rfl, h⟩ := h
    rw [List.drop_succ_cons, List.drop_succ_cons, ← cmpB_drop k l k' (by simpa using h1) (by simpa using h2) h]
    simp [compareBytes, UInt8.lt_irrefl]
set_option maxHeartbeats 2000000 in
set_option maxRecDepth 100000 in
theorem compareTexts163 (a b : ByteArray) (w : World) (h1 : a.size ≤ 9223372036854775807) (h2 : b.size ≤ 9223372036854775807) : Calls Tryz.prog 163 #[.string a, .string b] w fun e w' => e = .returned (.int .i64 (cmpS a b)) ∧ Below w.heap.size w w' := by
  have mixed : Tryz.prog.follows .mixedOrders = true := by kernel_rfl
  go_enter Tryz.func163, Tryz.ntmps163
  go_wp2
  go_loopg [5] a.size (fun g s5 wr => ∃ i : Nat, i ≤ a.size ∧ i ≤ b.size ∧ a.size - i ≤ g ∧ s5 = .int .i64 i ∧ Below w.heap.size w wr ∧ a.data.toList.take i = b.data.toList.take i)
  case atStart => exact ⟨0, Nat.zero_le _, Nat.zero_le _, by omega, rfl, Below.refl _ _, rfl⟩
  case round =>
    obtain ⟨i, hi, hi2, hg, rfl, hbel, hall⟩ := hrel
    have A := Lib.hid hall
    clear hall
    have hsz := hbel.size
    by_cases ha : i < a.size
    · by_cases hb : i < b.size
      · have ha' : (i : Int) < a.size := by omega
        have hb' : (i : Int) < b.size := by omega
        have la : a.data.toList.drop i = a[i] :: a.data.toList.drop (i + 1) := List.drop_eq_getElem_cons (by simpa using ha)
        have lb : b.data.toList.drop i = b[i] :: b.data.toList.drop (i + 1) := List.drop_eq_getElem_cons (by simpa using hb)
        have E : cmpS a b = compareBytes (a.data.toList.drop i) (b.data.toList.drop i) := cmpB_drop i _ _ (by simpa using hi) (by simpa using hi2) A.out
        rw [la, lb] at E
        have T : a[i] = b[i] → a.data.toList.take (i + 1) = b.data.toList.take (i + 1) := fun e => by
          rw [List.take_succ_eq_append_getElem (by simpa using ha), List.take_succ_eq_append_getElem (by simpa using hb), A.out]
          exact congrArg (fun z => _ ++ [z]) e
        clear A la lb
        have E := Lib.hid E
        have T := Lib.hid T
        by_cases hxy : a[i] = b[i]
        · have hz : (a[i].toNat : Int) = b[i].toNat := by rw [hxy]
          go_wp2_with fail
          go_region_o
          go_wp2
          go_roundg (a.size - (i + 1))
          case measure => omega
          case rel => exact ⟨i + 1, by omega, by omega, by omega, by go_num, below_drew hbel, T.out hxy⟩
        · have hz : ¬ (a[i].toNat : Int) = b[i].toNat := fun e => hxy (UInt8.toNat_inj.1 (by omega))
          have E3 : cmpS a b = cmpI a[i].toNat b[i].toNat := by
            rw [E.out]
            unfold cmpI compareBytes
            by_cases c : a[i] < b[i]
            · have := UInt8.lt_iff_toNat_lt.1 c
              rw [if_pos c, if_pos (by omega)]
            · have c' : ¬ a[i].toNat < b[i].toNat := fun h => c (UInt8.lt_iff_toNat_lt.2 h)
              rw [if_neg c, if_pos (UInt8.lt_iff_toNat_lt.2 (by omega)), if_neg (by omega), if_pos (by omega)]
          have E3 := Lib.hid E3
          clear E T
          have wa : IntKind.i64.wrap (a[i].toNat : Int) = a[i].toNat := by have := a[i].toNat_lt; rw [IntKind.wrap_i64]; omega
          have wb : IntKind.i64.wrap (b[i].toNat : Int) = b[i].toNat := by have := b[i].toNat_lt; rw [IntKind.wrap_i64]; omega
          go_wp2_with fail
          go_region_o
          go_wp2_with fail
          go_region_held3 (fun w' => w.heap.size ≤ w'.heap.size ∧ Below w.heap.size w w')
            (first | (go_keep; done) | exact below_drew (below_drew hbel) | exact ⟨by assumption, below_drew (below_drew hbel)⟩)
            (first | (go_at_call 122; refine (compareInts122 _ _ _).mono ?_; rintro e w2 ⟨rfl, rfl⟩))
          all_goals first | (go_wp2; go_ret; exact ⟨ret_int E3.out.symm, below_drew (below_drew hbel)⟩) | (go_ret; exact ⟨ret_int E3.out.symm, below_drew (below_drew hbel)⟩)
      · have E : cmpS a b = compareBytes (a.data.toList.drop i) (b.data.toList.drop i) := cmpB_drop i _ _ (by simpa using hi) (by simpa using hi2) A.out
        rw [List.drop_eq_getElem_cons (show i < a.data.toList.length by simpa using ha), List.drop_eq_nil_of_le (show b.data.toList.length ≤ i by simp; omega)] at E
        have hib : i = b.size := by omega
        have E2 : cmpS a b = cmpI a.size b.size := by rw [E]; unfold cmpI compareBytes; rw [if_neg (by omega), if_pos (by omega)]
        have E2 := Lib.hid E2
        clear E A
        go_wp2_with (go_at_call 122; refine (compareInts122 _ _ _).mono ?_; rintro e w2 ⟨rfl, rfl⟩)
        go_ret
        exact ⟨ret_int E2.out.symm, hbel⟩
    · have E : cmpS a b = compareBytes (a.data.toList.drop i) (b.data.toList.drop i) := cmpB_drop i _ _ (by simpa using hi) (by simpa using hi2) A.out
      rw [List.drop_eq_nil_of_le (show a.data.toList.length ≤ i by simp; omega)] at E
      have hia : i = a.size := by omega
      have E2 : cmpS a b = cmpI a.size b.size := by
        rw [E]
        by_cases hb : i < b.size
        · rw [List.drop_eq_getElem_cons (show i < b.data.toList.length by simpa using hb)]
          unfold cmpI compareBytes; rw [if_pos (by omega)]
        · rw [List.drop_eq_nil_of_le (show b.data.toList.length ≤ i by simp; omega)]
          unfold cmpI compareBytes; rw [if_neg (by omega), if_neg (by omega)]
      have E2 := Lib.hid E2
      clear E A
      go_wp2_with (go_at_call 122; refine (compareInts122 _ _ _).mono ?_; rintro e w2 ⟨rfl, rfl⟩)
      go_ret
      exact ⟨ret_int E2.out.symm, hbel⟩
end Go.Proofs.YtflapfekfmmcmaaGreatDoor

set_option linter.unusedVariables false
namespace Go.Proofs.YtflapfekfmmcmaaGreatDoor
open Go Go.RowKit Go.Lib
set_option maxHeartbeats 4000000 in
set_option maxRecDepth 100000 in
theorem compare123 (x y : Vl) (w : World) (h1 : errV x = 0) (h2 : errV y = 0) (s1 : x.s.size ≤ 9223372036854775807) (s2 : y.s.size ≤ 9223372036854775807) :
    Calls Tryz.prog 123 #[x.v, y.v] w fun e w' => e = .returned (.tuple #[.int .i64 (if x.k ≠ y.k ∨ x.k = 0 then 0 else if x.k = 4 then cmpS x.s y.s else cmpI x.n y.n), .int .i64 (if x.k ≠ y.k ∨ x.k = 0 then 6 else 0)]) ∧ Below w.heap.size w w' := by
  have CB := both162 x y (pair0 w x y) h1 h2 s1 s2
  have CS := fun w1 => compareTexts163 x.s y.s w1 s1 s2
  have CI := fun w1 => compareInts122 x.n y.n w1
  have F := fun w1 => pair_facts (w := w) (w' := w1) (x := x) (y := y)
  have G := fun w1 => pair_below (w := w) (w' := w1) (x := x) (y := y)
  clear h1 h2 s1 s2
  generalize cmpS x.s y.s = zs at CS ⊢
  generalize cmpI x.n y.n = zi at CI ⊢
  obtain ⟨k, n, s⟩ := x
  obtain ⟨k', n', s'⟩ := y
  unfold pair0 at *
  simp only [Vl.v] at *
  have CB := Lib.hid CB
  have CS := Lib.hid CS
  have CI := Lib.hid CI
  have F := Lib.hid F
  have G := Lib.hid G
  by_cases hk : k = k'
  · subst hk
    by_cases h0 : k = 0
    · subst h0
      go_enter Tryz.func123, Tryz.ntmps123
      go_wp2_with (go_at_call 162; refine CB.out.mono ?_; rintro e w1 ⟨rfl, hb⟩; obtain ⟨a1, a2, a3, b1, b2, b3⟩ := F.out w1 hb)
      go_ret2
      exact ⟨by simp, G.out _ hb⟩
    · by_cases h4 : k = 4
      · subst h4
        go_enter Tryz.func123, Tryz.ntmps123
        go_wp2_with (first
          | (go_at_call 162; refine CB.out.mono ?_; rintro e w1 ⟨rfl, hb⟩; obtain ⟨a1, a2, a3, b1, b2, b3⟩ := F.out w1 hb)
          | (go_at_call 163; refine (CS.out _).mono ?_; rintro e w2 ⟨rfl, hb2⟩))
        go_ret2
        exact ⟨by simp, (G.out _ hb).trans (hb2.mono (G.out _ hb).size)⟩
      · go_enter Tryz.func123, Tryz.ntmps123
        go_wp2_with (first
          | (go_at_call 162; refine CB.out.mono ?_; rintro e w1 ⟨rfl, hb⟩; obtain ⟨a1, a2, a3, b1, b2, b3⟩ := F.out w1 hb)
          | (go_at_call 122; refine (CI.out _).mono ?_; rintro e w2 ⟨rfl, rfl⟩))
        go_ret2
        exact ⟨by simp [h0, h4], G.out _ hb⟩
  · go_enter Tryz.func123, Tryz.ntmps123
    go_wp2_with (go_at_call 162; refine CB.out.mono ?_; rintro e w1 ⟨rfl, hb⟩; obtain ⟨a1, a2, a3, b1, b2, b3⟩ := F.out w1 hb)
    go_ret2
    exact ⟨by simp [hk], G.out _ hb⟩
end Go.Proofs.YtflapfekfmmcmaaGreatDoor

set_option linter.unusedVariables false
namespace Go.Proofs.YtflapfekfmmcmaaGreatDoor
open Go Go.RowKit Go.Lib
theorem cmpI_congr {a b c d : Int} (h1 : a = c) (h2 : b = d) : cmpI a b = cmpI c d := by rw [h1, h2]
theorem kind_ok {x : Vl} (h : errV x = 0) : 0 ≤ x.k ∧ x.k ≤ 4 := by
  unfold errV at h
  split at h
  · cases h
  · split at h
    · rename_i h1
      unfold okV at h1
      by_cases k0 : x.k = 0
      · omega
      by_cases k1 : x.k = 1
      · omega
      by_cases k2 : x.k = 2
      · omega
      by_cases k3 : x.k = 3
      · omega
      simp [k0, k1, k2, k3] at h1
      omega
    · cases h
set_option maxHeartbeats 4000000 in
set_option maxRecDepth 100000 in
theorem compare35 (x y : Vl) (w : World) (h1 : errV x = 0) (h2 : errV y = 0) (s1 : x.s.size ≤ 9223372036854775807) (s2 : y.s.size ≤ 9223372036854775807) :
    Calls Tryz.prog 35 #[x.v, y.v] w fun e w' => e = .returned (.int .i64 (ordV x y)) ∧ Below w.heap.size w w' := by
  have CB := compare52 x y (pair0 w x y) h1 h2 s1 s2
  have CI := fun w1 => cmpInt53 (min x.k 1) (min y.k 1) w1
  have F := fun w1 => pair_facts (w := w) (w' := w1) (x := x) (y := y)
  have G := fun w1 => pair_below (w := w) (w' := w1) (x := x) (y := y)
  have hk0 : 0 ≤ x.k ∧ x.k ≤ 4 := kind_ok h1
  have hk1 : 0 ≤ y.k ∧ y.k ≤ 4 := kind_ok h2
  clear h1 h2 s1 s2
  unfold ordV
  generalize cmpS x.s y.s = zs at CB ⊢
  generalize cmpI x.n y.n = zi at CB ⊢
  obtain ⟨k, n, s⟩ := x
  obtain ⟨k', n', s'⟩ := y
  unfold pair0 at *
  simp only [Vl.v] at *
  have CI := Lib.hid CI
  have F := Lib.hid F
  have G := Lib.hid G
  by_cases hc : k ≠ k' ∨ k = 0
  · rw [if_pos hc, if_pos hc] at CB
    have CB := Lib.hid CB
    have E : Hid ((if k = 0 ∨ k' = 0 then cmpI (min k 1) (min k' 1) else if k ≠ k' then (0 : Int) else if k = 4 then zs else zi) = cmpI (min k 1) (min k' 1)) := Lib.hid (by
      by_cases h0 : k = 0 ∨ k' = 0
      · rw [if_pos h0]
      · rw [if_neg h0, if_pos (by omega)]
        unfold cmpI
        rw [if_neg (by omega), if_neg (by omega)])
    clear hc CI
    rw [E.out]
    obtain ⟨z, hz⟩ : ∃ z, z = cmpI (min k 1) (min k' 1) := ⟨_, rfl⟩
    rw [← hz]
    have HZ := Lib.hid hz
    clear hz
    go_enter Tryz.func35, Tryz.ntmps35
    go_wp2_with (first
      | (go_at_call 52; refine CB.out.mono ?_; rintro e w1 ⟨rfl, hb⟩; obtain ⟨a1, a2, a3, b1, b2, b3⟩ := F.out w1 hb)
      | (go_at_call 53; refine (cmpInt53 _ _ _).mono ?_; rintro e w2 ⟨rfl, rfl⟩))
    all_goals
      go_ret
      refine ⟨ret_int ?_, G.out _ hb⟩
      rw [HZ.out]
      exact cmpI_congr (by omega) (by omega)
  · have hkk : k = k' := by omega
    have hk0' : ¬ k = 0 := fun h => hc (.inr h)
    subst hkk
    rw [if_neg hc, if_neg hc] at CB
    have CB := Lib.hid CB
    have E : Hid ((if k = 0 ∨ k = 0 then cmpI (min k 1) (min k 1) else if k ≠ k then (0 : Int) else if k = 4 then zs else zi) = if k = 4 then zs else zi) := Lib.hid (by
      rw [if_neg (by omega), if_neg (by simp)])
    rw [E.out]
    clear hc
    generalize (if k = 4 then zs else zi) = z at CB ⊢
    go_enter Tryz.func35, Tryz.ntmps35
    go_wp2_with (go_at_call 52; refine CB.out.mono ?_; rintro e w1 ⟨rfl, hb⟩; obtain ⟨a1, a2, a3, b1, b2, b3⟩ := F.out w1 hb)
    go_ret
    exact ⟨rfl, G.out _ hb⟩
end Go.Proofs.YtflapfekfmmcmaaGreatDoor

set_option linter.unusedVariables false
namespace Go.Proofs.YtflapfekfmmcmaaGreatDoor
open Go Go.RowKit Go.Lib
set_option maxHeartbeats 4000000 in
set_option maxRecDepth 100000 in
theorem compare87 (x y : Vl) (w : World) (h1 : errV x = 0) (h2 : errV y = 0) (s1 : x.s.size ≤ 9223372036854775807) (s2 : y.s.size ≤ 9223372036854775807) :
    Calls Tryz.prog 87 #[x.v, y.v] w fun e w' => e = .returned (.int .i64 (ordV x y)) ∧ Below w.heap.size w w' := by
  have CB := compare123 x y (pair0 w x y) h1 h2 s1 s2
  have CI := fun w1 => compareInts122 (min x.k 1) (min y.k 1) w1
  have F := fun w1 => pair_facts (w := w) (w' := w1) (x := x) (y := y)
  have G := fun w1 => pair_below (w := w) (w' := w1) (x := x) (y := y)
  have hk0 : 0 ≤ x.k ∧ x.k ≤ 4 := kind_ok h1
  have hk1 : 0 ≤ y.k ∧ y.k ≤ 4 := kind_ok h2
  clear h1 h2 s1 s2
  unfold ordV
  generalize cmpS x.s y.s = zs at CB ⊢
  generalize cmpI x.n y.n = zi at CB ⊢
  obtain ⟨k, n, s⟩ := x
  obtain ⟨k', n', s'⟩ := y
  unfold pair0 at *
  simp only [Vl.v] at *
  have CI := Lib.hid CI
  have F := Lib.hid F
  have G := Lib.hid G
  by_cases hc : k = 0 ∨ k' = 0
  · rw [if_pos hc]
    obtain ⟨z, hz⟩ : ∃ z, z = cmpI (min k 1) (min k' 1) := ⟨_, rfl⟩
    rw [← hz]
    have HZ := Lib.hid hz
    clear CB CI hz
    by_cases h0 : k = 0
    · subst h0
      go_enter Tryz.func87, Tryz.ntmps87
      go_wp2_with (go_at_call 122; refine (compareInts122 _ _ _).mono ?_; rintro e w2 ⟨rfl, rfl⟩)
      all_goals
        go_ret
        refine ⟨ret_int ?_, ((Below.refl _ w).alloc (Nat.le_refl _) _).alloc (by simp) _⟩
        rw [HZ.out]
        exact cmpI_congr (by omega) (by omega)
    · have h0' : k' = 0 := by omega
      subst h0'
      go_enter Tryz.func87, Tryz.ntmps87
      go_wp2_with (go_at_call 122; refine (compareInts122 _ _ _).mono ?_; rintro e w2 ⟨rfl, rfl⟩)
      all_goals
        go_ret
        refine ⟨ret_int ?_, ((Below.refl _ w).alloc (Nat.le_refl _) _).alloc (by simp) _⟩
        rw [HZ.out]
        exact cmpI_congr (by omega) (by omega)
  · have h0 : ¬ k = 0 := fun h => hc (.inl h)
    have h0' : ¬ k' = 0 := fun h => hc (.inr h)
    rw [if_neg hc]
    have E : (if k ≠ k' ∨ k = 0 then (0 : Int) else if k = 4 then zs else zi) = if k ≠ k' then (0 : Int) else if k = 4 then zs else zi := by
      by_cases hk : k = k'
      · rw [if_neg (c := k ≠ k' ∨ k = 0) (by omega), if_neg (c := k ≠ k') (by omega)]
      · rw [if_pos (c := k ≠ k' ∨ k = 0) (.inl hk), if_pos (c := k ≠ k') hk]
    rw [E] at CB
    clear hc E
    generalize (if k ≠ k' then (0 : Int) else if k = 4 then zs else zi) = z at CB ⊢
    have CB := Lib.hid CB
    have q1 : (k == 0) = false := by simpa using h0
    have q2 : (k' == 0) = false := by simpa using h0'
    go_enter Tryz.func87, Tryz.ntmps87
    go_wp2_with (go_at_call 123; refine CB.out.mono ?_; rintro e w1 ⟨rfl, hb⟩; obtain ⟨a1, a2, a3, b1, b2, b3⟩ := F.out w1 hb)
    all_goals first | (exfalso; omega) | (exfalso; simp_all; done) | (go_ret; exact ⟨rfl, G.out _ hb⟩)
end Go.Proofs.YtflapfekfmmcmaaGreatDoor
