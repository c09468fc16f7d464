/- PROVED: contracts of the functions that SqlSorts reaches, and what a stable sort is (part SvF). CONDITIONS: none. -/
import Derived.Test.YtflapfekfmmcmaaGreatDoorSvE
import Derived.OwnWalk
import Derived.Laws.AppendOwn
import Derived.Sort.Grow
import Derived.Maps.AppendAt
import Derived.LoopTactic
import Derived.Lib.SliceRun
set_option linter.unusedSimpArgs false
set_option linter.unusedVariables false
set_option linter.unnecessarySimpa false
set_option linter.unusedVariables false
namespace Go.Proofs.YtflapfekfmmcmaaGreatDoor
open Go Go.RowKit Go.Lib
/-- Numbers lie there. -/
def IntsAt (w : World) (v : Value) (B : List Int) : Prop :=
  B.length ≤ 9223372036854775807 ∧ ∃ a c, v = .slice a B.length c ∧ (B = [] ∨ ∃ b o, a = some ⟨b, o, none⟩ ∧ ∀ j, j < B.length → w.cell? ⟨b, o + j, none⟩ = some (.int .i64 (B.getD j 0)))
/-- Truths lie there. -/
def BoolsAt (w : World) (v : Value) (D : List Bool) : Prop :=
  D.length ≤ 9223372036854775807 ∧ ∃ a c, v = .slice a D.length c ∧ (D = [] ∨ ∃ b o, a = some ⟨b, o, none⟩ ∧ ∀ j, j < D.length → w.cell? ⟨b, o + j, none⟩ = some (.bool (D.getD j false)))
theorem IntsAt.below {w w' : World} {v : Value} {B : List Int} (h : IntsAt w v B) (hb : Below w.heap.size w w') : IntsAt w' v B := by
  obtain ⟨h0, a, c, rfl, h1⟩ := h
  refine ⟨h0, a, c, rfl, h1.imp id ?_⟩
  rintro ⟨b, o, rfl, h⟩
  refine ⟨b, o, rfl, fun j hj => ?_⟩
  have k := h j hj
  rw [(bcell hb).1 _ _ (World.block_lt_of_cell? w _ k)]; exact k
theorem BoolsAt.below {w w' : World} {v : Value} {D : List Bool} (h : BoolsAt w v D) (hb : Below w.heap.size w w') : BoolsAt w' v D := by
  obtain ⟨h0, a, c, rfl, h1⟩ := h
  refine ⟨h0, a, c, rfl, h1.imp id ?_⟩
  rintro ⟨b, o, rfl, h⟩
  refine ⟨b, o, rfl, fun j hj => ?_⟩
  have k := h j hj
  rw [(bcell hb).1 _ _ (World.block_lt_of_cell? w _ k)]; exact k
def sgn (d : Bool) (z : Int) : Int := if d then -z else z
/-- The order of rows by columns. -/
def cmpR : List Int → List Bool → List Vl → List Vl → Int
  | [], _, _, _ => 0
  | _ :: _, [], _, _ => 0
  | k :: B, d :: D, r, s => if sgn d (ordV (r.getD k.toNat d0) (s.getD k.toNat d0)) ≠ 0 then sgn d (ordV (r.getD k.toNat d0) (s.getD k.toNat d0)) else cmpR B D r s
theorem cmpR_nil (D : List Bool) (r s : List Vl) : cmpR [] D r s = 0 := rfl
theorem cmpR_at {B : List Int} {D : List Bool} {k : Nat} (r s : List Vl) (h1 : k < B.length) (h2 : k < D.length) :
    cmpR (B.drop k) (D.drop k) r s = if sgn (D.getD k false) (ordV (r.getD (B.getD k 0).toNat d0) (s.getD (B.getD k 0).toNat d0)) ≠ 0 then sgn (D.getD k false) (ordV (r.getD (B.getD k 0).toNat d0) (s.getD (B.getD k 0).toNat d0)) else cmpR (B.drop (k + 1)) (D.drop (k + 1)) r s := by
  rw [List.drop_eq_getElem_cons h1, List.drop_eq_getElem_cons h2]
  have e1 : B.getD k 0 = B[k] := by simp [List.getD, h1]
  have e2 : D.getD k false = D[k] := by simp [List.getD, h2]
  rw [e1, e2]; rfl
theorem ordV_bound (x y : Vl) : -1 ≤ ordV x y ∧ ordV x y ≤ 1 := by
  have hI : ∀ a b : Int, -1 ≤ cmpI a b ∧ cmpI a b ≤ 1 := fun a b => by unfold cmpI; (repeat' split) <;> omega
  have hB : ∀ a b : List UInt8, -1 ≤ compareBytes a b ∧ compareBytes a b ≤ 1 := by
    intro a
    induction a with
    | nil => intro b; cases b <;> simp [compareBytes]
    | cons x l ih =>
      intro b
      cases b with
      | nil => simp [compareBytes]
      | cons y k =>
        simp only [compareBytes]
        split
        · omega
        · split
          · omega
          · exact ih k
  unfold ordV
  split
  · exact hI _ _
  · split
    · omega
    · split
      · exact hB _ _
      · exact hI _ _
theorem getD_memB {B : List Int} {k : Nat} (h : k < B.length) : B.getD k 0 ∈ B := by
  have : B.getD k 0 = B[k] := by simp [List.getD, h]
  rw [this]; exact List.getElem_mem h
theorem size_ok {x : Vl} (h : errV x = 0) : x.s.size ≤ 9223372036854775807 := by
  unfold errV at h
  split at h
  · cases h
  · omega
end Go.Proofs.YtflapfekfmmcmaaGreatDoor

set_option linter.unusedVariables false
namespace Go.Proofs.YtflapfekfmmcmaaGreatDoor
open Go Go.RowKit Go.Lib
set_option maxHeartbeats 4000000 in
set_option maxRecDepth 100000 in
theorem closure34 (u v : Value) (r s : List Vl) (B : List Int) (D : List Bool) (bv dv : Value) (pb pd : Nat) (w : World) (hr : RowAt w u r) (hs : RowAt w v s) (hB : IntsAt w bv B) (hD : BoolsAt w dv D) (hl : B.length = D.length)
    (hp : w.cell? ⟨pb, 0, none⟩ = some bv) (hq : w.cell? ⟨pd, 0, none⟩ = some dv) (hin : ∀ k ∈ B, 0 ≤ k ∧ k < r.length ∧ k < s.length) (ok1 : ∀ x ∈ r, errV x = 0) (ok2 : ∀ x ∈ s, errV x = 0) :
    Calls Tryz.prog 34 #[u, v, .pointer (some ⟨pb, 0, none⟩), .pointer (some ⟨pd, 0, none⟩)] w fun e w' => e = .returned (.int .i64 (cmpR B D r s)) ∧ Below w.heap.size w w' := by
  obtain ⟨l1, s1, a1, c1, rfl, k1⟩ := hr
  obtain ⟨l2, s2, a2, c2, rfl, k2⟩ := hs
  obtain ⟨l3, a3, c3, rfl, k3⟩ := hB
  obtain ⟨l4, a4, c4, rfl, k4⟩ := hD
  rw [← hl] at l4 hq
  have K1 := Lib.hid k1
  have K2 := Lib.hid k2
  have K3 := Lib.hid k3
  have K4 := Lib.hid k4
  have HIN := Lib.hid hin
  have OK1 := Lib.hid ok1
  have OK2 := Lib.hid ok2
  have HL := Lib.hid hl
  have HP := Lib.hid hp
  have HQ := Lib.hid hq
  generalize hR : cmpR B D r s = res
  have HR := Lib.hid hR
  generalize hN : B.length = N at *
  have HN := Lib.hid hN
  generalize hM1 : r.length = M1 at *
  generalize hM2 : s.length = M2 at *
  have HM1 := Lib.hid hM1
  have HM2 := Lib.hid hM2
  clear k1 k2 k3 k4 s1 s2 hin ok1 ok2 hl hR hN hM1 hM2 hq
  go_enter Tryz.func34, Tryz.ntmps34
  go_wp2
  go_loopg [12] N (fun g t wr => ∃ k : Nat, k ≤ N ∧ N - k ≤ g ∧ t = .int .i64 k ∧ Below w.heap.size w wr ∧ Hid (res = cmpR (B.drop k) (D.drop k) r s))
  case atStart => exact ⟨0, Nat.zero_le _, by omega, by go_num, Below.refl _ _, Lib.hid (by rw [← HR.out]; rfl)⟩
  case round =>
    obtain ⟨k, hk, hg, rfl, hbel, EQ⟩ := hrel
    by_cases hlt : k < N
    · rcases K3.out with hn | ⟨b3, o3, rfl, hc3⟩
      · exfalso; have := HN.out; rw [hn] at this; simp at this; omega
      rcases K4.out with hn | ⟨b4, o4, rfl, hc4⟩
      · exfalso; have := HN.out; have h2 := HL.out; rw [hn] at h2; simp at h2; omega
      have e3 := hc3 k (by have := HN.out; have := HL.out; omega)
      have e4 := hc4 k (by have := HN.out; have := HL.out; omega)
      have IN := HIN.out _ (getD_memB (k := k) (by have := HN.out; have := HL.out; omega))
      have AT := cmpR_at r s (k := k) (B := B) (D := D) (by have := HN.out; have := HL.out; omega) (by have := HN.out; have := HL.out; omega)
      clear hc3 hc4
      generalize hbk : B.getD k 0 = bk at e3 IN AT
      generalize hdk : D.getD k false = d at e4 AT
      obtain ⟨c, rfl⟩ : ∃ c : Nat, bk = (c : Int) := ⟨bk.toNat, by omega⟩
      rw [Int.toNat_natCast] at AT
      have in1 : c < M1 := by omega
      have in2 : c < M2 := by omega
      rcases K1.out with hn | ⟨b, o, rfl, hc⟩
      · exfalso; have := HM1.out; rw [hn] at this; simp at this; omega
      rcases K2.out with hn | ⟨b', o', rfl, hc'⟩
      · exfalso; have := HM2.out; rw [hn] at this; simp at this; omega
      obtain ⟨x1, x2, x3⟩ := hc c in1
      obtain ⟨y1, y2, y3⟩ := hc' c in2
      have ok1 := OK1.out _ (getD_mem (r := r) (k := c) (by have := HM1.out; omega))
      have ok2 := OK2.out _ (getD_mem (r := s) (k := c) (by have := HM2.out; omega))
      have p1 := HP.out
      have p2 := HQ.out
      clear hc hc' hp
      rw [← (bcell hbel).1 _ _ (World.block_lt_of_cell? w _ e3)] at e3
      rw [← (bcell hbel).1 _ _ (World.block_lt_of_cell? w _ e4)] at e4
      have qx := World.block_lt_of_cell? w _ x1
      have qy := World.block_lt_of_cell? w _ y1
      have e4' := e4
      rw [← (bcell hbel).1 _ _ qx] at x1 x2 x3
      rw [← (bcell hbel).1 _ _ qy] at y1 y2 y3
      rw [← (bcell hbel).1 _ _ (World.block_lt_of_cell? w _ p2)] at p2
      have E4 := Lib.hid e4
      have P2 := Lib.hid p2
      clear e4 e4' p2 qx qy p1
      generalize hx : r.getD c d0 = x at x1 x2 x3 ok1 AT
      generalize hy : s.getD c d0 = y at y1 y2 y3 ok2 AT
      have C := fun w1 => compare35 x y w1 ok1 ok2 (size_ok ok1) (size_ok ok2)
      have BD := ordV_bound x y
      generalize hz : ordV x y = z at C AT BD
      have AT := Lib.hid AT
      have wz : IntKind.i64.wrap (-z) = -z := by rw [IntKind.wrap_i64]; omega
      have in1z : (c : Int) < (M1 : Int) := by omega
      have in2z : (c : Int) < (M2 : Int) := by omega
      have hkz : (k : Int) < (N : Int) := by omega
      have hszb := hbel.size
      clear hx hy hz ok1 ok2 hbk hdk IN BD
      obtain ⟨xk, xn, xs⟩ := x
      obtain ⟨yk, yn, ys⟩ := y
      simp only [Vl.v] at *
      by_cases hz0 : z = 0
      · subst hz0
        have EQ2 : Hid (res = cmpR (B.drop (k + 1)) (D.drop (k + 1)) r s) := Lib.hid (by rw [EQ.out, AT.out, if_neg]; cases d <;> simp [sgn])
        clear AT EQ
        cases d
        all_goals
          go_wp2_with fail
          go_region_held3 (fun w' => w'.cell? ⟨b, o + c * 3, none⟩ = some (.int .i64 xk) ∧ w'.cell? ⟨b, o + c * 3 + 1, none⟩ = some (.int .i64 xn) ∧ w'.cell? ⟨b, o + c * 3 + 2, none⟩ = some (.string xs) ∧ w'.cell? ⟨b', o' + c * 3, none⟩ = some (.int .i64 yk) ∧ w'.cell? ⟨b', o' + c * 3 + 1, none⟩ = some (.int .i64 yn) ∧ w'.cell? ⟨b', o' + c * 3 + 2, none⟩ = some (.string ys) ∧ wr.heap.size ≤ w'.heap.size ∧ Below wr.heap.size wr w')
            (first | exact keep6 (by assumption) hb | (go_keep; done) | (go_split_ands; (repeat' apply And.intro) <;> first | (go_keep; done) | exact below_drew (Below.refl _ _)))
            (first | (go_at_call 35; refine (C _).mono ?_; rintro e w' ⟨rfl, hb⟩))
          have hbr : Below wr.heap.size wr w' := (below_drew (Below.refl _ wr)).trans (hb.mono (Nat.le_refl _))
          have e4 := E4.out
          rw [← (bcell hbr).1 _ _ (World.block_lt_of_cell? wr _ e4)] at e4
          have p2 := P2.out
          rw [← (bcell hbr).1 _ _ (World.block_lt_of_cell? wr _ p2)] at p2
          go_wp2
          go_roundg (N - (k + 1))
          case measure => omega
          case rel => exact ⟨k + 1, by omega, by omega, by go_num, hbel.trans (hbr.mono hszb), EQ2⟩
      · have hzn : ¬ -z = 0 := by omega
        have hzb : (z == 0) = false := by simpa using hz0
        have hznb : (-z == 0) = false := by simp only [beq_eq_false_iff_ne, ne_eq]; exact hzn
        have EQ2 : Hid (res = sgn d z) := Lib.hid (by rw [EQ.out, AT.out, if_pos]; cases d <;> simp [sgn, hz0])
        clear AT EQ
        cases d
        all_goals
          go_wp2_with fail
          go_region_held3 (fun w' => w'.cell? ⟨b, o + c * 3, none⟩ = some (.int .i64 xk) ∧ w'.cell? ⟨b, o + c * 3 + 1, none⟩ = some (.int .i64 xn) ∧ w'.cell? ⟨b, o + c * 3 + 2, none⟩ = some (.string xs) ∧ w'.cell? ⟨b', o' + c * 3, none⟩ = some (.int .i64 yk) ∧ w'.cell? ⟨b', o' + c * 3 + 1, none⟩ = some (.int .i64 yn) ∧ w'.cell? ⟨b', o' + c * 3 + 2, none⟩ = some (.string ys) ∧ wr.heap.size ≤ w'.heap.size ∧ Below wr.heap.size wr w')
            (first | exact keep6 (by assumption) hb | (go_keep; done) | (go_split_ands; (repeat' apply And.intro) <;> first | (go_keep; done) | exact below_drew (Below.refl _ _)))
            (first | (go_at_call 35; refine (C _).mono ?_; rintro e w' ⟨rfl, hb⟩))
          have hbr : Below wr.heap.size wr w' := (below_drew (Below.refl _ wr)).trans (hb.mono (Nat.le_refl _))
          have e4 := E4.out
          rw [← (bcell hbr).1 _ _ (World.block_lt_of_cell? wr _ e4)] at e4
          have p2 := P2.out
          rw [← (bcell hbr).1 _ _ (World.block_lt_of_cell? wr _ p2)] at p2
          go_wp2
          go_ret
          exact ⟨ret_int EQ2.out.symm, hbel.trans (hbr.mono hszb)⟩
    · have hkN : k = N := by omega
      subst hkN
      have EQ2 : Hid (res = 0) := Lib.hid (by
        rw [EQ.out, List.drop_eq_nil_of_le (by have := HN.out; omega)]; rfl)
      go_wp2
      go_ret
      exact ⟨ret_int EQ2.out.symm, hbel⟩
end Go.Proofs.YtflapfekfmmcmaaGreatDoor

set_option linter.unusedVariables false
namespace Go.Proofs.YtflapfekfmmcmaaGreatDoor
open Go Go.RowKit Go.Lib
theorem keep7 {w0 w w1 : World} {n b p1 p2 p3 b' q1 q2 q3 b3 p0 : Nat} {v0 v1 v2 v3 u1 u2 u3 : Value} (h : w.cell? ⟨b3, p0, none⟩ = some v0 ∧ w.cell? ⟨b, p1, none⟩ = some v1 ∧ w.cell? ⟨b, p2, none⟩ = some v2 ∧ w.cell? ⟨b, p3, none⟩ = some v3 ∧ w.cell? ⟨b', q1, none⟩ = some u1 ∧ w.cell? ⟨b', q2, none⟩ = some u2 ∧ w.cell? ⟨b', q3, none⟩ = some u3 ∧ n ≤ w.heap.size ∧ Below n w0 w) (hb : Below w.heap.size w w1) :
    w1.cell? ⟨b3, p0, none⟩ = some v0 ∧ w1.cell? ⟨b, p1, none⟩ = some v1 ∧ w1.cell? ⟨b, p2, none⟩ = some v2 ∧ w1.cell? ⟨b, p3, none⟩ = some v3 ∧ w1.cell? ⟨b', q1, none⟩ = some u1 ∧ w1.cell? ⟨b', q2, none⟩ = some u2 ∧ w1.cell? ⟨b', q3, none⟩ = some u3 ∧ n ≤ w1.heap.size ∧ Below n w0 w1 := by
  obtain ⟨h0, h⟩ := h
  refine ⟨?_, keep6 h hb⟩
  rw [(bcell hb).1 _ _ (World.block_lt_of_cell? w _ h0)]; exact h0
set_option maxHeartbeats 4000000 in
set_option maxRecDepth 100000 in
theorem before55 (u v : Value) (r s : List Vl) (B : List Int) (D : List Bool) (bv dv : Value) (w : World) (hr : RowAt w u r) (hs : RowAt w v s) (hB : IntsAt w bv B) (hD : BoolsAt w dv D) (hl : B.length = D.length) (hin : ∀ k ∈ B, 0 ≤ k ∧ k < r.length ∧ k < s.length) (ok1 : ∀ x ∈ r, errV x = 0) (ok2 : ∀ x ∈ s, errV x = 0) :
    Calls Tryz.prog 55 #[u, v, bv, dv] w fun e w' => e = .returned (.bool (decide (cmpR B D r s < 0))) ∧ Below w.heap.size w w' := by
  obtain ⟨l1, s1, a1, c1, rfl, k1⟩ := hr
  obtain ⟨l2, s2, a2, c2, rfl, k2⟩ := hs
  obtain ⟨l3, a3, c3, rfl, k3⟩ := hB
  obtain ⟨l4, a4, c4, rfl, k4⟩ := hD
  rw [← hl] at l4 ⊢
  have K1 := Lib.hid k1
  have K2 := Lib.hid k2
  have K3 := Lib.hid k3
  have K4 := Lib.hid k4
  have HIN := Lib.hid hin
  have OK1 := Lib.hid ok1
  have OK2 := Lib.hid ok2
  have HL := Lib.hid hl
  generalize hR : cmpR B D r s = res
  have HR := Lib.hid hR
  generalize hN : B.length = N at *
  have HN := Lib.hid hN
  generalize hM1 : r.length = M1 at *
  generalize hM2 : s.length = M2 at *
  have HM1 := Lib.hid hM1
  have HM2 := Lib.hid hM2
  clear k1 k2 k3 k4 s1 s2 hin ok1 ok2 hl hR hN hM1 hM2
  go_enter Tryz.func55, Tryz.ntmps55
  go_wp2
  go_loopg [9] N (fun g t wr => ∃ k : Nat, k ≤ N ∧ N - k ≤ g ∧ t = .int .i64 k ∧ Below w.heap.size w wr ∧ Hid (res = cmpR (B.drop k) (D.drop k) r s))
  case atStart => exact ⟨0, Nat.zero_le _, by omega, by go_num, Below.refl _ _, Lib.hid (by rw [← HR.out]; rfl)⟩
  case round =>
    obtain ⟨k, hk, hg, rfl, hbel, EQ⟩ := hrel
    by_cases hlt : k < N
    · rcases K3.out with hn | ⟨b3, o3, rfl, hc3⟩
      · exfalso; have := HN.out; rw [hn] at this; simp at this; omega
      rcases K4.out with hn | ⟨b4, o4, rfl, hc4⟩
      · exfalso; have := HN.out; have h2 := HL.out; rw [hn] at h2; simp at h2; omega
      have e3 := hc3 k (by have := HN.out; have := HL.out; omega)
      have e4 := hc4 k (by have := HN.out; have := HL.out; omega)
      have IN := HIN.out _ (getD_memB (k := k) (by have := HN.out; have := HL.out; omega))
      have AT := cmpR_at r s (k := k) (B := B) (D := D) (by have := HN.out; have := HL.out; omega) (by have := HN.out; have := HL.out; omega)
      clear hc3 hc4
      generalize hbk : B.getD k 0 = bk at e3 IN AT
      generalize hdk : D.getD k false = d at e4 AT
      obtain ⟨c, rfl⟩ : ∃ c : Nat, bk = (c : Int) := ⟨bk.toNat, by omega⟩
      rw [Int.toNat_natCast] at AT
      have in1 : c < M1 := by omega
      have in2 : c < M2 := by omega
      rcases K1.out with hn | ⟨b, o, rfl, hc⟩
      · exfalso; have := HM1.out; rw [hn] at this; simp at this; omega
      rcases K2.out with hn | ⟨b', o', rfl, hc'⟩
      · exfalso; have := HM2.out; rw [hn] at this; simp at this; omega
      obtain ⟨x1, x2, x3⟩ := hc c in1
      obtain ⟨y1, y2, y3⟩ := hc' c in2
      have ok1 := OK1.out _ (getD_mem (r := r) (k := c) (by have := HM1.out; omega))
      have ok2 := OK2.out _ (getD_mem (r := s) (k := c) (by have := HM2.out; omega))
      clear hc hc'
      rw [← (bcell hbel).1 _ _ (World.block_lt_of_cell? w _ e3)] at e3
      rw [← (bcell hbel).1 _ _ (World.block_lt_of_cell? w _ e4)] at e4
      have q3 := World.block_lt_of_cell? wr _ e3
      have qx := World.block_lt_of_cell? w _ x1
      have qy := World.block_lt_of_cell? w _ y1
      rw [← (bcell hbel).1 _ _ qx] at x1 x2 x3
      rw [← (bcell hbel).1 _ _ qy] at y1 y2 y3
      have E4 := Lib.hid e4
      clear e4 qx qy q3
      generalize hx : r.getD c d0 = x at x1 x2 x3 ok1 AT
      generalize hy : s.getD c d0 = y at y1 y2 y3 ok2 AT
      have C := fun w1 => compare87 x y w1 ok1 ok2 (size_ok ok1) (size_ok ok2)
      have BD := ordV_bound x y
      generalize hz : ordV x y = z at C AT BD
      have AT := Lib.hid AT
      have wz : IntKind.i64.wrap (-z) = -z := by rw [IntKind.wrap_i64]; omega
      have in1z : (c : Int) < (M1 : Int) := by omega
      have in2z : (c : Int) < (M2 : Int) := by omega
      have hkz : (k : Int) < (N : Int) := by omega
      have hszb := hbel.size
      clear hx hy hz ok1 ok2 hbk hdk IN BD
      obtain ⟨xk, xn, xs⟩ := x
      obtain ⟨yk, yn, ys⟩ := y
      simp only [Vl.v] at *
      by_cases hz0 : z = 0
      · subst hz0
        have EQ2 : Hid (res = cmpR (B.drop (k + 1)) (D.drop (k + 1)) r s) := Lib.hid (by rw [EQ.out, AT.out, if_neg]; cases d <;> simp [sgn])
        clear AT EQ
        cases d
        all_goals
          go_wp2_with fail
          go_region_held3 (fun w' => w'.cell? ⟨b3, o3 + k, none⟩ = some (.int .i64 c) ∧ w'.cell? ⟨b, o + c * 3, none⟩ = some (.int .i64 xk) ∧ w'.cell? ⟨b, o + c * 3 + 1, none⟩ = some (.int .i64 xn) ∧ w'.cell? ⟨b, o + c * 3 + 2, none⟩ = some (.string xs) ∧ w'.cell? ⟨b', o' + c * 3, none⟩ = some (.int .i64 yk) ∧ w'.cell? ⟨b', o' + c * 3 + 1, none⟩ = some (.int .i64 yn) ∧ w'.cell? ⟨b', o' + c * 3 + 2, none⟩ = some (.string ys) ∧ wr.heap.size ≤ w'.heap.size ∧ Below wr.heap.size wr w')
            (first | exact keep7 (by assumption) hb | (go_keep; done) | (go_split_ands; (repeat' apply And.intro) <;> first | (go_keep; done) | exact below_drew (Below.refl _ _)))
            (first | (go_at_call 87; refine (C _).mono ?_; rintro e w' ⟨rfl, hb⟩))
          have hbr : Below wr.heap.size wr w' := (below_drew (Below.refl _ wr)).trans (hb.mono (Nat.le_refl _))
          have e4 := E4.out
          rw [← (bcell hbr).1 _ _ (World.block_lt_of_cell? wr _ e4)] at e4
          go_wp2
          go_roundg (N - (k + 1))
          case measure => omega
          case rel => exact ⟨k + 1, by omega, by omega, by go_num, hbel.trans (hbr.mono hszb), EQ2⟩
      · have hzn : ¬ -z = 0 := by omega
        have hzb : (z == 0) = false := by simpa using hz0
        have hznb : (-z == 0) = false := by simp only [beq_eq_false_iff_ne, ne_eq]; exact hzn
        have EQ2 : Hid (res = sgn d z) := Lib.hid (by rw [EQ.out, AT.out, if_pos]; cases d <;> simp [sgn, hz0])
        clear AT EQ
        cases d
        all_goals
          go_wp2_with fail
          go_region_held3 (fun w' => w'.cell? ⟨b3, o3 + k, none⟩ = some (.int .i64 c) ∧ w'.cell? ⟨b, o + c * 3, none⟩ = some (.int .i64 xk) ∧ w'.cell? ⟨b, o + c * 3 + 1, none⟩ = some (.int .i64 xn) ∧ w'.cell? ⟨b, o + c * 3 + 2, none⟩ = some (.string xs) ∧ w'.cell? ⟨b', o' + c * 3, none⟩ = some (.int .i64 yk) ∧ w'.cell? ⟨b', o' + c * 3 + 1, none⟩ = some (.int .i64 yn) ∧ w'.cell? ⟨b', o' + c * 3 + 2, none⟩ = some (.string ys) ∧ wr.heap.size ≤ w'.heap.size ∧ Below wr.heap.size wr w')
            (first | exact keep7 (by assumption) hb | (go_keep; done) | (go_split_ands; (repeat' apply And.intro) <;> first | (go_keep; done) | exact below_drew (Below.refl _ _)))
            (first | (go_at_call 87; refine (C _).mono ?_; rintro e w' ⟨rfl, hb⟩))
          have hbr : Below wr.heap.size wr w' := (below_drew (Below.refl _ wr)).trans (hb.mono (Nat.le_refl _))
          have e4 := E4.out
          rw [← (bcell hbr).1 _ _ (World.block_lt_of_cell? wr _ e4)] at e4
          go_wp2
          go_ret
          exact ⟨ret_bool (by rw [EQ2.out]; simp [sgn, *]), hbel.trans (hbr.mono hszb)⟩
    · have hkN : k = N := by omega
      subst hkN
      have EQ2 : Hid (res = 0) := Lib.hid (by
        rw [EQ.out, List.drop_eq_nil_of_le (by have := HN.out; omega)]; rfl)
      go_wp2
      go_ret
      exact ⟨ret_bool (by rw [EQ2.out]; rfl), hbel⟩
end Go.Proofs.YtflapfekfmmcmaaGreatDoor

set_option linter.unusedVariables false
namespace Go.Proofs.YtflapfekfmmcmaaGreatDoor
open Go Go.RowKit Go.Lib
theorem sorted13 (k : Int) (w : World) : Calls Tryz.prog 13 #[.int .i64 k] w fun e w' => e = .returned (.bool (decide (k < 0))) ∧ w = w' := by
  go_enter Tryz.func13, Tryz.ntmps13
  go_wp2
  go_ret
  exact ⟨rfl, rfl⟩
def ixN (B : List Int) : Int := if B.any (· < 0) then (B.findIdx (· < 0) : Nat) else -1
theorem ixN_at {r : List Int} {k : Nat} (h : k < r.length) (hb : r.getD k 0 < 0) (hg : ∀ j, j < k → ¬ r.getD j 0 < 0) : ixN r = (k : Int) := by
  have e : ∀ j (hj : j < r.length), r.getD j 0 = r[j] := fun j hj => by simp [List.getD, hj]
  have h1 : r.any (· < 0) = true := List.any_eq_true.2 ⟨_, getD_memB h, by simpa using hb⟩
  have h2 : r.findIdx (· < 0) = k := by
    rw [List.findIdx_eq h]
    refine ⟨by rw [← e k h]; simpa using hb, fun j hj => ?_⟩
    rw [← e j (by omega)]
    simpa using hg j hj
  simp [ixN, h1, h2]
theorem ixN_none {r : List Int} (hg : ∀ j, j < r.length → ¬ r.getD j 0 < 0) : ixN r = -1 := by
  have h1 : r.any (· < 0) = false := by
    rw [List.any_eq_false]
    intro x hx
    obtain ⟨j, hj, rfl⟩ := List.getElem_of_mem hx
    have := hg j hj
    simp only [List.getD, hj, List.getElem?_eq_getElem, Option.getD_some] at this
    simpa using this
  simp [ixN, h1]
set_option maxHeartbeats 2000000 in
set_option maxRecDepth 100000 in
theorem indexFunc30 (v : Value) (r : List Int) (w : World) (h : IntsAt w v r) :
    Calls Tryz.prog 30 #[v, .func (.func 13) #[] #[]] w fun e w' => e = .returned (.int .i64 (ixN r)) ∧ w = w' := by
  obtain ⟨h0, a, c, rfl, h1⟩ := h
  have H1 := Lib.hid h1
  clear h1
  go_enter Tryz.func30, Tryz.ntmps30
  go_wp2
  go_loopg [8] r.length (fun g s8 wr => ∃ k : Nat, k ≤ r.length ∧ r.length - k ≤ g ∧ s8 = .int .i64 k ∧ w = wr ∧ ∀ j, j < k → ¬ r.getD j 0 < 0)
  case atStart => exact ⟨0, Nat.zero_le _, by omega, rfl, rfl, fun j hj => absurd hj (Nat.not_lt_zero _)⟩
  case round =>
    obtain ⟨k, hk, hg, rfl, rfl, hall⟩ := hrel
    have A := Lib.hid hall
    clear hall
    by_cases hlt : k < r.length
    · rcases H1.out with hn | ⟨b, o, rfl, hc⟩
      · rw [hn] at hlt; simp at hlt
      · have c1 := hc k hlt
        have IX := Lib.hid (fun hb => ixN_at (r := r) (k := k) hlt hb A.out)
        have HC := Lib.hid hc
        clear hc
        generalize hx : r.getD k 0 = x at c1 IX
        have HX := Lib.hid hx
        clear hx
        by_cases hB : x < 0
        · have hBd : decide (x < 0) = true := decide_eq_true hB
          go_wp2_with (first | (go_at_call 13; refine (sorted13 _ _).mono ?_; rintro e w' ⟨rfl, rfl⟩))
          go_ret
          exact ⟨ret_int (IX.out hB).symm, rfl⟩
        · have hBd : decide (x < 0) = false := decide_eq_false hB
          go_wp2_with (first | (go_at_call 13; refine (sorted13 _ _).mono ?_; rintro e w' ⟨rfl, rfl⟩))
          go_roundg (r.length - (k + 1))
          case measure => omega
          case rel =>
            refine ⟨k + 1, by omega, by omega, by go_num, rfl, fun j hj => ?_⟩
            by_cases e : j = k
            · subst e; rw [HX.out]; exact hB
            · exact A.out j (by omega)
    · have hkn : k = r.length := by omega
      have E := Lib.hid (ixN_none (r := r) fun j hj => A.out j (by omega))
      clear hkn
      go_wp2
      go_ret
      exact ⟨ret_int E.out.symm, rfl⟩
theorem containsFunc12 (v : Value) (r : List Int) (w : World) (h : IntsAt w v r) :
    Calls Tryz.prog 12 #[v, .func (.func 13) #[] #[]] w fun e w' => e = .returned (.bool (r.any (· < 0))) ∧ w = w' := by
  have C := indexFunc30 v r w h
  clear h
  have e : r.any (· < 0) = decide (0 ≤ ixN r) := by
    unfold ixN
    cases h : r.any (· < 0)
    · simp
    · simp only [if_true]
      exact (decide_eq_true (by omega)).symm
  rw [e]; clear e
  generalize ixN r = z at C ⊢
  go_enter Tryz.func12, Tryz.ntmps12
  go_wp2_with (go_at_call 30; refine C.mono ?_; rintro e w' ⟨rfl, rfl⟩)
  go_ret
  exact ⟨rfl, rfl⟩
/-! rows that are too short -/
theorem sorted15 (v : Value) (r : List Vl) (m : Int) (p : Nat) (w : World) (h : RowAt w v r) (hp : w.cell? ⟨p, 0, none⟩ = some (.int .i64 m)) : Calls Tryz.prog 15 #[v, .pointer (some ⟨p, 0, none⟩)] w fun e w' => e = .returned (.bool (decide ((r.length : Int) ≤ m))) ∧ w = w' := by
  obtain ⟨h0, hs, a, c, rfl, h1⟩ := h
  clear h1 hs
  go_enter Tryz.func15, Tryz.ntmps15
  go_wp2
  go_ret
  exact ⟨rfl, rfl⟩
def shortB (m : Int) (r : List Vl) : Bool := decide ((r.length : Int) ≤ m)
def ixS (m : Int) (R : List (List Vl)) : Int := if R.any (shortB m) then (R.findIdx (shortB m) : Nat) else -1
theorem ixS_at {m : Int} {r : List (List Vl)} {k : Nat} (h : k < r.length) (hb : shortB m (r.getD k []) = true) (hg : ∀ j, j < k → shortB m (r.getD j []) = false) : ixS m r = (k : Int) := by
  have e : ∀ j (hj : j < r.length), r.getD j [] = r[j] := fun j hj => by simp [List.getD, hj]
  have h1 : r.any (shortB m) = true := List.any_eq_true.2 ⟨_, getD_memR h, hb⟩
  have h2 : r.findIdx (shortB m) = k := by
    rw [List.findIdx_eq h]
    refine ⟨by rw [← e k h]; exact hb, fun j hj => ?_⟩
    rw [← e j (by omega)]
    exact hg j hj
  simp [ixS, h1, h2]
theorem ixS_none {m : Int} {r : List (List Vl)} (hg : ∀ j, j < r.length → shortB m (r.getD j []) = false) : ixS m r = -1 := by
  have h1 : r.any (shortB m) = false := by
    rw [List.any_eq_false]
    intro x hx
    obtain ⟨j, hj, rfl⟩ := List.getElem_of_mem hx
    have := hg j hj
    simp only [List.getD, hj, List.getElem?_eq_getElem, Option.getD_some] at this
    simpa using this
  simp [ixS, h1]
set_option maxHeartbeats 2000000 in
set_option maxRecDepth 100000 in
theorem indexFunc31 (v : Value) (R : List (List Vl)) (m : Int) (p : Nat) (w : World) (h : RowsAt w v R) (hp : w.cell? ⟨p, 0, none⟩ = some (.int .i64 m)) :
    Calls Tryz.prog 31 #[v, .func (.func 15) #[] #[.pointer (some ⟨p, 0, none⟩)]] w fun e w' => e = .returned (.int .i64 (ixS m R)) ∧ w = w' := by
  obtain ⟨h0, a, c, rfl, h1⟩ := h
  have H1 := Lib.hid h1
  have HP := Lib.hid hp
  clear h1 hp
  go_enter Tryz.func31, Tryz.ntmps31
  go_wp2
  go_loopg [8] R.length (fun g s8 wr => ∃ k : Nat, k ≤ R.length ∧ R.length - k ≤ g ∧ s8 = .int .i64 k ∧ w = wr ∧ ∀ j, j < k → shortB m (R.getD j []) = false)
  case atStart => exact ⟨0, Nat.zero_le _, by omega, rfl, rfl, fun j hj => absurd hj (Nat.not_lt_zero _)⟩
  case round =>
    obtain ⟨k, hk, hg, rfl, rfl, hall⟩ := hrel
    have A := Lib.hid hall
    clear hall
    by_cases hlt : k < R.length
    · rcases H1.out with hn | ⟨b, o, rfl, hc⟩
      · rw [hn] at hlt; simp at hlt
      · obtain ⟨u, c1, hr⟩ := hc k hlt
        have IX := Lib.hid (fun hb => ixS_at (r := R) (m := m) (k := k) hlt hb A.out)
        have C := sorted15 u _ m p w hr HP.out
        have hsb : shortB m (R.getD k []) = decide (((R.getD k []).length : Int) ≤ m) := rfl
        rw [← hsb] at C
        clear hc hr hsb
        generalize hB : shortB m (R.getD k []) = B at C
        have HB := Lib.hid hB
        clear hB
        cases B
        · go_wp2_with (first | (go_at_call 15; refine C.mono ?_; rintro e w' ⟨rfl, rfl⟩))
          go_roundg (R.length - (k + 1))
          case measure => omega
          case rel =>
            refine ⟨k + 1, by omega, by omega, by go_num, rfl, fun j hj => ?_⟩
            by_cases e : j = k
            · subst e; exact HB.out
            · exact A.out j (by omega)
        · go_wp2_with (first | (go_at_call 15; refine C.mono ?_; rintro e w' ⟨rfl, rfl⟩))
          go_ret
          exact ⟨ret_int (IX.out HB.out).symm, rfl⟩
    · have hkn : k = R.length := by omega
      have E := Lib.hid (ixS_none (m := m) (r := R) fun j hj => A.out j (by omega))
      clear hkn
      go_wp2
      go_ret
      exact ⟨ret_int E.out.symm, rfl⟩
theorem containsFunc14 (v : Value) (R : List (List Vl)) (m : Int) (p : Nat) (w : World) (h : RowsAt w v R) (hp : w.cell? ⟨p, 0, none⟩ = some (.int .i64 m)) :
    Calls Tryz.prog 14 #[v, .func (.func 15) #[] #[.pointer (some ⟨p, 0, none⟩)]] w fun e w' => e = .returned (.bool (R.any (shortB m))) ∧ w = w' := by
  have C := indexFunc31 v R m p w h hp
  clear h hp
  have e : R.any (shortB m) = decide (0 ≤ ixS m R) := by
    unfold ixS
    cases h : R.any (shortB m)
    · simp
    · simp only [if_true]
      exact (decide_eq_true (by omega)).symm
  rw [e]; clear e
  generalize ixS m R = z at C ⊢
  go_enter Tryz.func14, Tryz.ntmps14
  go_wp2_with (go_at_call 31; refine C.mono ?_; rintro e w' ⟨rfl, rfl⟩)
  go_ret
  exact ⟨rfl, rfl⟩
end Go.Proofs.YtflapfekfmmcmaaGreatDoor

set_option linter.unusedVariables false
namespace Go.Proofs.YtflapfekfmmcmaaGreatDoor
open Go Go.RowKit Go.Lib
/-- a column has one kind, Nil beside it -/
def colF : Int → Nat → List (List Vl) → Bool
  | _, _, [] => true
  | kd, k, r :: R => if (r.getD k d0).k = 0 then colF kd k R else if kd ≠ 0 ∧ (r.getD k d0).k ≠ kd then false else colF (r.getD k d0).k k R
def okS (R : List (List Vl)) (B : List Int) : Bool := B.all fun k => colF 0 k.toNat R
theorem colF_at {R : List (List Vl)} {m : Nat} (kd : Int) (k : Nat) (h : m < R.length) : colF kd k (R.drop m) = if ((R.getD m []).getD k d0).k = 0 then colF kd k (R.drop (m + 1)) else if kd ≠ 0 ∧ ((R.getD m []).getD k d0).k ≠ kd then false else colF ((R.getD m []).getD k d0).k k (R.drop (m + 1)) := by
  rw [List.drop_eq_getElem_cons h]
  have e1 : R.getD m [] = R[m] := by simp [List.getD, h]
  rw [e1]; rfl
theorem okS_false {R : List (List Vl)} {B : List Int} {k : Nat} (h : k < B.length) (hf : colF 0 (B.getD k 0).toNat R = false) : okS R B = false := by
  cases hh : okS R B with
  | false => rfl
  | true =>
    have := List.all_eq_true.1 hh _ (getD_memB h)
    rw [hf] at this; cases this
theorem okS_true {R : List (List Vl)} {B : List Int} (h : ∀ k, k < B.length → colF 0 (B.getD k 0).toNat R = true) : okS R B = true := by
  refine List.all_eq_true.2 fun x hx => ?_
  obtain ⟨j, hj, rfl⟩ := List.getElem_of_mem hx
  have := h j hj
  simpa [List.getD, hj] using this
set_option maxHeartbeats 4000000 in
set_option maxRecDepth 100000 in
theorem isSorted16 (rv bv : Value) (R : List (List Vl)) (B : List Int) (w : World) (hr : RowsAt w rv R) (hB : IntsAt w bv B) (hin : ∀ k ∈ B, 0 ≤ k ∧ ∀ r ∈ R, k < (r.length : Int)) :
    Calls Tryz.prog 16 #[rv, bv] w fun e w' => e = .returned (.bool (okS R B)) ∧ Below w.heap.size w w' := by
  obtain ⟨l1, a1, c1, rfl, k1⟩ := hr
  obtain ⟨l3, a3, c3, rfl, k3⟩ := hB
  have K1 := Lib.hid k1
  have K3 := Lib.hid k3
  have HIN := Lib.hid hin
  generalize hR : okS R B = res
  have HR := Lib.hid hR
  clear k1 k3 hin hR
  go_enter Tryz.func16, Tryz.ntmps16
  go_wp2
  go_loopg [13] B.length (fun g t wr => ∃ k : Nat, k ≤ B.length ∧ B.length - k ≤ g ∧ t = .int .i64 k ∧ Below w.heap.size w wr ∧ Hid (∀ j, j < k → colF 0 (B.getD j 0).toNat R = true))
  case atStart => exact ⟨0, Nat.zero_le _, by omega, by go_num, Below.refl _ _, Lib.hid fun j hj => absurd hj (Nat.not_lt_zero _)⟩
  case round =>
    obtain ⟨k, hk, hg, rfl, hbel, A⟩ := hrel
    by_cases hlt : k < B.length
    · rcases K3.out with hn | ⟨b3, o3, rfl, hc3⟩
      · exfalso; rw [hn] at hlt; simp at hlt
      have e3 := hc3 k hlt
      have IN := HIN.out _ (getD_memB (k := k) hlt)
      have OF := Lib.hid (okS_false (R := R) (B := B) (k := k) hlt)
      clear hc3
      generalize hbk : B.getD k 0 = bk at e3 IN OF
      obtain ⟨c, rfl⟩ : ∃ c : Nat, bk = (c : Int) := ⟨bk.toNat, by omega⟩
      have hbkH := Lib.hid hbk
      have INH := Lib.hid IN.2
      rw [← (bcell hbel).1 _ _ (World.block_lt_of_cell? w _ e3)] at e3
      clear hbk IN
      go_wp2
      go_loopg [7, 19] R.length (fun g7 s7 s19 wi => ∃ (m : Nat) (kd : Int), m ≤ R.length ∧ R.length - m ≤ g7 ∧ s7 = .int .i64 kd ∧ s19 = .int .i64 m ∧ Below w.heap.size w wi ∧ Hid (colF 0 c R = colF kd c (R.drop m)))
      case atStart => exact ⟨0, 0, Nat.zero_le _, by omega, by go_num, by go_num, hbel, Lib.hid rfl⟩
      case round =>
        obtain ⟨m, kd, hm, hg7, rfl, rfl, hbi, EQ⟩ := hrel
        clear e3
        by_cases hlt2 : m < R.length
        · rcases K1.out with hn | ⟨b, o, rfl, hc⟩
          · exfalso; rw [hn] at hlt2; simp at hlt2
          obtain ⟨u, e1, r1⟩ := hc m hlt2
          have AT := colF_at kd c hlt2
          have rl := INH.out _ (getD_memR hlt2)
          clear hc
          generalize hrr : R.getD m [] = r at r1 AT rl
          obtain ⟨lr, sr, ar, cr, rfl, kr⟩ := r1
          rcases kr with hn | ⟨b', o', rfl, hc'⟩
          · exfalso; rw [hn] at rl; simp at rl; omega
          obtain ⟨x1, x2, x3⟩ := hc' c (by omega)
          clear hc' sr
          generalize hx : r.getD c d0 = x at x1 x2 x3 AT
          obtain ⟨xk, xn, xs⟩ := x
          simp only at *
          rw [← (bcell hbi).1 _ _ (World.block_lt_of_cell? w _ e1)] at e1
          have q1 := World.block_lt_of_cell? w _ x1
          rw [← (bcell hbi).1 _ _ q1] at x1 x2 x3
          have rlz : (c : Int) < (r.length : Int) := rl
          have hszi := hbi.size
          have AT := Lib.hid AT
          clear q1 hx hrr rl
          by_cases h0 : xk = 0
          · subst h0
            have EQ2 : Hid (colF 0 c R = colF kd c (R.drop (m + 1))) := Lib.hid (by rw [EQ.out, AT.out]; simp)
            clear AT EQ
            go_wp2
            go_roundg (R.length - (m + 1))
            case measure => omega
            case rel => exact ⟨m + 1, kd, by omega, by omega, rfl, by go_num, by first | exact (hbi.alloc hszi _) | (repeat' (first | exact hbi | refine Below.setCell ?_ (by first | exact hszi | (simp; omega)) _ | refine Below.alloc ?_ (by first | exact hszi | (simp; omega)) _)), EQ2⟩
          · have h0b : (xk == 0) = false := by simpa using h0
            by_cases hk0 : kd = 0
            · subst hk0
              have EQ2 : Hid (colF 0 c R = colF xk c (R.drop (m + 1))) := Lib.hid (by rw [EQ.out, AT.out]; simp [h0])
              clear AT EQ
              go_wp2
              go_roundg (R.length - (m + 1))
              case measure => omega
              case rel => exact ⟨m + 1, xk, by omega, by omega, rfl, by go_num, by first | exact (hbi.alloc hszi _) | (repeat' (first | exact hbi | refine Below.setCell ?_ (by first | exact hszi | (simp; omega)) _ | refine Below.alloc ?_ (by first | exact hszi | (simp; omega)) _)), EQ2⟩
            · have hk0b : (kd == 0) = false := by simpa using hk0
              by_cases hke : xk = kd
              · subst hke
                have EQ2 : Hid (colF 0 c R = colF xk c (R.drop (m + 1))) := Lib.hid (by rw [EQ.out, AT.out]; simp [h0])
                clear AT EQ
                go_wp2
                go_roundg (R.length - (m + 1))
                case measure => omega
                case rel => exact ⟨m + 1, xk, by omega, by omega, rfl, by go_num, by first | exact (hbi.alloc hszi _) | (repeat' (first | exact hbi | refine Below.setCell ?_ (by first | exact hszi | (simp; omega)) _ | refine Below.alloc ?_ (by first | exact hszi | (simp; omega)) _)), EQ2⟩
              · have hkeb : (xk != kd) = true := by simpa using hke
                have hk0c : (kd != 0) = true := by simpa using hk0
                clear hk0b h0b
                have EQ2 : Hid (colF 0 c R = false) := Lib.hid (by rw [EQ.out, AT.out]; simp [h0, hk0, hke])
                clear AT EQ
                go_wp2
                go_ret
                exact ⟨ret_bool (by rw [← HR.out]; exact (OF.out (by rw [Int.toNat_natCast]; exact EQ2.out)).symm), by first | exact (hbi.alloc hszi _) | (repeat' (first | exact hbi | refine Below.setCell ?_ (by first | exact hszi | (simp; omega)) _ | refine Below.alloc ?_ (by first | exact hszi | (simp; omega)) _))⟩
        · have hmR : m = R.length := by omega
          have EQ2 : Hid (colF 0 c R = true) := Lib.hid (by rw [EQ.out, List.drop_eq_nil_of_le (by omega)]; rfl)
          clear EQ
          go_wp2
          go_roundg (B.length - (k + 1))
          case measure => omega
          case rel =>
            refine ⟨k + 1, by omega, by omega, by go_num, hbi, Lib.hid fun j hj => ?_⟩
            by_cases e : j = k
            · subst e; rw [hbkH.out, Int.toNat_natCast]; exact EQ2.out
            · exact A.out j (by omega)
    · have hkB : k = B.length := by omega
      subst hkB
      have E := Lib.hid (okS_true (R := R) A.out)
      go_wp2
      go_ret
      exact ⟨ret_bool (by rw [← HR.out]; exact E.out.symm), hbel⟩
end Go.Proofs.YtflapfekfmmcmaaGreatDoor

set_option linter.unusedVariables false
namespace Go.Proofs.YtflapfekfmmcmaaGreatDoor
open Go Go.RowKit Go.Lib
/-- A row that lies below a base, or in a block of values. -/
def RowIn (w : World) (base : Nat) (v : Value) (r : List Vl) : Prop :=
  RowAt w v r ∧ (r = [] ∨ ∃ b o c, v = .slice (some ⟨b, o, none⟩) r.length c ∧ (b < base ∨ ∃ cs fr, w.heap[b]? = some (.cells cs 45 fr)))
theorem RowAt.heap {w w' : World} {v : Value} {r : List Vl} (h : RowAt w v r) (hk : ∀ b o c, v = .slice (some ⟨b, o, none⟩) r.length c → w'.heap[b]? = w.heap[b]?) : RowAt w' v r := by
  obtain ⟨h0, hs, a, c, rfl, h1⟩ := h
  refine ⟨h0, hs, a, c, rfl, h1.imp id ?_⟩
  rintro ⟨b, o, rfl, h⟩
  have e := hk b o c rfl
  refine ⟨b, o, rfl, fun j hj => ?_⟩
  have hc : ∀ o, w'.cell? ⟨b, o, none⟩ = w.cell? ⟨b, o, none⟩ := fun o => by simp only [World.cell?, e]
  rw [hc, hc, hc]
  exact h j hj
theorem RowIn.keep {w w' : World} {base : Nat} {v : Value} {r : List Vl} (h : RowIn w base v r) (hb : Below w.heap.size w w') : RowIn w' base v r := by
  refine ⟨h.1.below hb, h.2.imp id ?_⟩
  rintro ⟨b, o, c, rfl, h2⟩
  refine ⟨b, o, c, rfl, h2.imp id ?_⟩
  rintro ⟨cs, fr, h3⟩
  exact ⟨cs, fr, by rw [hb.block _ (Array.getElem?_eq_some_iff.1 h3).1]; exact h3⟩
/-- .. behind an append to a row of headers. -/
theorem RowIn.grow {w w' : World} {base : Nat} {v ov : Value} {r : List Vl} {n : Nat} {xs : List Value} (h : RowIn w base v r) (ho : w.ownsRow base 33 1 ov n xs) (hg : w.grownBy w' ov.ownBlock) (hbs : base ≤ w.heap.size) : RowIn w' base v r := by
  obtain ⟨hr, h2⟩ := h
  rcases h2 with rfl | ⟨b, o, c, rfl, h2⟩
  · obtain ⟨h0, hs, a, c, rfl, h1⟩ := hr
    exact ⟨⟨h0, hs, a, c, rfl, .inl rfl⟩, .inl rfl⟩
  · by_cases he : r = []
    · subst he
      obtain ⟨h0, hs, a, c', e, h1⟩ := hr
      exact ⟨⟨h0, hs, a, c', e, .inl rfl⟩, .inl rfl⟩
    · have hlt : b < w.heap.size := by
        obtain ⟨h0, hs, a, c', e, h1⟩ := hr
        rcases h1 with h1 | ⟨b1, o1, rfl, h1⟩
        · exact absurd h1 he
        · simp only [Value.slice.injEq, Option.some.injEq, Addr.mk.injEq] at e
          obtain ⟨⟨rfl, rfl, _⟩, _⟩ := e
          have := (h1 0 (List.length_pos_iff.2 he)).1
          exact World.block_lt_of_cell? w _ this
      have hne : some b ≠ ov.ownBlock := by
        rcases ho.2 with ⟨rfl, _⟩ | ⟨g, cap, cur, rfl, hb0, hc, _⟩
        · simp [Value.ownBlock]
        · simp only [Value.ownBlock, ne_eq, Option.some.injEq]
          rintro rfl
          rcases h2 with h2 | ⟨cs, fr, h2⟩
          · omega
          · rw [hc] at h2; cases h2
      have hh := hg.block b hlt hne
      refine ⟨hr.heap fun b1 o1 c1 e => ?_, .inr ⟨b, o, c, rfl, h2.imp id ?_⟩⟩
      · simp only [Value.slice.injEq, Option.some.injEq, Addr.mk.injEq] at e
        obtain ⟨⟨rfl, _⟩, _⟩ := e
        exact hh
      · rintro ⟨cs, fr, h3⟩
        exact ⟨cs, fr, by rw [hh]; exact h3⟩
/-- A list of rows that the function owns: headers that read as rows. -/
def Outs (w : World) (base : Nat) (v : Value) (L : List (List Vl)) : Prop :=
  ∃ xs : List Value, w.ownsRow base 33 1 v L.length xs ∧ ∀ j, j < L.length → ∃ u, xs[j]? = some u ∧ RowIn w base u (L.getD j [])
theorem Outs.rows {w : World} {base : Nat} {v : Value} {L : List (List Vl)} (h : Outs w base v L) : RowsAt w v L := by
  obtain ⟨xs, ⟨hl, h⟩, hr⟩ := h
  rcases h with ⟨rfl, h0⟩ | ⟨g, cap, cur, rfl, hb, hc, h1, h2, h3, h4⟩
  · have : L = [] := List.eq_nil_of_length_eq_zero h0
    subst this
    exact ⟨by simp, none, 0, rfl, .inl rfl⟩
  · refine ⟨by simp only [maxLen] at h2; omega, _, cap, rfl, .inr ⟨g, 0, rfl, fun j hj => ?_⟩⟩
    obtain ⟨u, hu, hra⟩ := hr j hj
    refine ⟨u, ?_, hra.1⟩
    rw [← h4] at hu
    rw [List.getElem?_take] at hu
    split at hu
    · simp only [World.cell?, hc, Nat.zero_add]
      simpa using hu
    · cases hu
theorem own_keep {w w' : World} {base e n : Nat} {v : Value} {xs : List Value} (h : w.ownsRow base e 1 v n xs) (hb : Below w.heap.size w w') : w'.ownsRow base e 1 v n xs := by
  refine ⟨h.1, ?_⟩
  rcases h.2 with h0 | ⟨g, cap, cur, rfl, hb0, hc, hrest⟩
  · exact .inl h0
  · refine .inr ⟨g, cap, cur, rfl, hb0, ?_, hrest⟩
    rw [hb.block _ (Array.getElem?_eq_some_iff.1 hc).1]; exact hc
theorem Outs.keep {w w' : World} {base : Nat} {v : Value} {L : List (List Vl)} (h : Outs w base v L) (hb : Below w.heap.size w w') : Outs w' base v L := by
  obtain ⟨xs, hown, hr⟩ := h
  refine ⟨xs, own_keep hown hb, fun j hj => ?_⟩
  obtain ⟨u, hu, hra⟩ := hr j hj
  exact ⟨u, hu, hra.keep hb⟩
theorem Outs.nil (w : World) (base : Nat) : Outs w base (.slice none 0 0) [] := ⟨[], ⟨rfl, .inl ⟨rfl, rfl⟩⟩, fun j hj => absurd hj (Nat.not_lt_zero _)⟩
/-- .. behind an append of one row's header. -/
theorem outs_push {w w' : World} {base : Nat} {v v' u : Value} {L : List (List Vl)} {r : List Vl} {xs : List Value} (hbs : base ≤ w.heap.size)
    (hown : w.ownsRow base 33 1 v L.length xs) (hr : ∀ j, j < L.length → ∃ u, xs[j]? = some u ∧ RowIn w base u (L.getD j [])) (hu : RowIn w base u r)
    (ho : w'.ownsRow base 33 1 v' (L.length + 1) (xs ++ [u])) (hg : w.grownBy w' v.ownBlock) : Outs w' base v' (L ++ [r]) := by
  have hl : xs.length = L.length := by have := hown.1; omega
  refine ⟨xs ++ [u], by simpa using ho, fun j hj => ?_⟩
  by_cases h : j < L.length
  · obtain ⟨y, h1, h2⟩ := hr j h
    refine ⟨y, by rw [List.getElem?_append_left (by omega)]; exact h1, ?_⟩
    have e : (L ++ [r]).getD j [] = L.getD j [] := by simp [List.getD, List.getElem?_append_left h]
    rw [e]
    exact h2.grow hown hg hbs
  · have : j = L.length := by simp at hj; omega
    subst this
    refine ⟨u, by rw [List.getElem?_append_right (by omega)]; simp [hl], ?_⟩
    have e : (L ++ [r]).getD L.length [] = r := by simp [List.getD]
    rw [e]
    exact hu.grow hown hg hbs
theorem info31 : (Tryz.prog.info? 33).map (fun i => (i.zero, i.size, i.bytes)) = some (some (.slice none 0 0), 1, 24) := by kernel_rfl
theorem RowAt.one {w : World} {v : Value} {r : List Vl} (h : RowAt w v r) : v.oneCell' = true := by
  obtain ⟨_, _, a, c, rfl, _⟩ := h; rfl
theorem outs_cell {w : World} {base : Nat} {v : Value} {L : List (List Vl)} (h : Outs w base v L) {j : Nat} (hj : j < L.length) : ∃ g cap u, v = .slice (some ⟨g, 0, none⟩) L.length cap ∧ w.cell? ⟨g, j, none⟩ = some u ∧ RowAt w u (L.getD j []) := by
  obtain ⟨_, a, c, rfl, h1⟩ := h.rows
  obtain ⟨xs, ⟨_, h2⟩, _⟩ := h
  rcases h2 with ⟨_, h0⟩ | ⟨g, cap, cur, e, _⟩
  · omega
  · rcases h1 with h1 | ⟨b, o, rfl, h1⟩
    · rw [h1] at hj; simp at hj
    · simp only [Value.slice.injEq, Option.some.injEq, Addr.mk.injEq] at e
      obtain ⟨⟨rfl, rfl, _⟩, _, rfl⟩ := e
      obtain ⟨u, hu, hr⟩ := h1 j hj
      exact ⟨b, c, u, rfl, by simpa using hu, hr⟩
theorem outs_shape {w : World} {base : Nat} {v : Value} {L : List (List Vl)} (h : Outs w base v L) : ∃ a c, v = .slice a L.length c ∧ L.length ≤ 9223372036854775807 := by
  obtain ⟨h0, a, c, e, _⟩ := h.rows
  exact ⟨a, c, e, h0⟩
theorem RowAt.inn {w : World} {v : Value} {r : List Vl} (h : RowAt w v r) : ∀ {w' : World}, Below w.heap.size w w' → RowIn w' w.heap.size v r := by
  intro w' hb
  refine ⟨h.below hb, ?_⟩
  obtain ⟨h0, hs, a, c, rfl, h1⟩ := h
  rcases h1 with h1 | ⟨b, o, rfl, h1⟩
  · exact .inl h1
  · by_cases he : r = []
    · exact .inl he
    · exact .inr ⟨b, o, c, rfl, .inl (World.block_lt_of_cell? w _ (h1 0 (List.length_pos_iff.2 he)).1)⟩
theorem RowIn.up {w : World} {base base' : Nat} {v : Value} {r : List Vl} (h : RowIn w base v r) (hb : base ≤ base') : RowIn w base' v r := by
  refine ⟨h.1, h.2.imp id ?_⟩
  rintro ⟨b, o, c, rfl, h2⟩
  exact ⟨b, o, c, rfl, h2.imp (fun x => Nat.lt_of_lt_of_le x hb) id⟩
end Go.Proofs.YtflapfekfmmcmaaGreatDoor

set_option linter.unusedVariables false
namespace Go.Proofs.YtflapfekfmmcmaaGreatDoor
open Go Go.RowKit Go.Lib
theorem info43 : (Tryz.prog.info? 45).map (fun i => (i.zero, i.size, i.bytes)) = some (some (.agg #[.int .i64 0, .int .i64 0, .string ⟨#[]⟩]), 3, 32) := by kernel_rfl
def cells3 (x : Vl) : List Value := [.int .i64 x.k, .int .i64 x.n, .string x.s]
def flat (r : List Vl) : List Value := r.flatMap cells3
theorem flat_len (r : List Vl) : (flat r).length = r.length * 3 := by
  induction r with
  | nil => rfl
  | cons x r ih => simp only [flat, List.flatMap_cons, List.length_append, List.length_cons] at *; rw [ih]; simp [cells3]; omega
theorem flat_get : ∀ (r : List Vl) (q m : Nat), q < r.length → m < 3 → (flat r)[q * 3 + m]? = (cells3 (r.getD q d0))[m]?
  | [], q, m, h, _ => by simp at h
  | x :: r, 0, m, _, hm => by
    simp only [flat, List.flatMap_cons, Nat.zero_mul, Nat.zero_add]
    rw [List.getElem?_append_left (by simp [cells3]; omega)]
    rfl
  | x :: r, q + 1, m, h, hm => by
    have ih := flat_get r q m (by simpa using h) hm
    simp only [flat, List.flatMap_cons] at *
    rw [List.getElem?_append_right (by simp [cells3]; omega)]
    have e : (q + 1) * 3 + m - (cells3 x).length = q * 3 + m := by simp [cells3]; omega
    rw [e, ih]
    simp [List.getD]
theorem flat_cells {w : World} {b o : Nat} {r : List Vl} (hc : ∀ j, j < r.length → w.cell? ⟨b, o + j * 3, none⟩ = some (.int .i64 (r.getD j d0).k) ∧ w.cell? ⟨b, o + j * 3 + 1, none⟩ = some (.int .i64 (r.getD j d0).n) ∧ w.cell? ⟨b, o + j * 3 + 2, none⟩ = some (.string (r.getD j d0).s)) :
    ∀ j u, (flat r)[j]? = some u → w.cell? ((⟨b, o, none⟩ : Addr).add j) = some u := by
  intro j u hu
  have hj : j < r.length * 3 := by rw [← flat_len]; exact (List.getElem?_eq_some_iff.1 hu).1
  obtain ⟨h1, h2, h3⟩ := hc (j / 3) (by omega)
  have e : j = j / 3 * 3 + j % 3 := by omega
  have hm : j % 3 < 3 := Nat.mod_lt _ (by decide)
  rw [e, flat_get r (j / 3) (j % 3) (by omega) hm] at hu
  have ea : (⟨b, o, none⟩ : Addr).add j = ⟨b, o + j, none⟩ := by
    unfold Addr.add; split
    · rename_i h; simp [h]
    · rfl
  rw [ea, e]
  have hm3 : j % 3 = 0 ∨ j % 3 = 1 ∨ j % 3 = 2 := by omega
  rcases hm3 with hm3 | hm3 | hm3 <;> rw [hm3] at hu ⊢ <;> simp only [cells3] at hu <;> simp at hu <;> subst hu
  · simpa using h1
  · rw [← Nat.add_assoc]; exact h2
  · rw [← Nat.add_assoc]; exact h3
theorem rowIn_of_own {w : World} {base base' : Nat} {v : Value} {r : List Vl} (hs : ∀ x ∈ r, x.s.size ≤ 9223372036854775807) (h : w.ownsRow base 45 3 v r.length (flat r)) : RowIn w base' v r := by
  rcases h.2 with ⟨rfl, h0⟩ | ⟨g, cap, cur, rfl, hb, hg, h1, h2, h3, h4⟩
  · have : r = [] := List.eq_nil_of_length_eq_zero h0
    subst this
    exact ⟨⟨by simp, by simp, none, 0, rfl, .inl rfl⟩, .inl rfl⟩
  · have hcell : ∀ q m, q < r.length → m < 3 → w.cell? ⟨g, q * 3 + m, none⟩ = (cells3 (r.getD q d0))[m]? := fun q m hq hm => by
      rw [← flat_get r q m hq hm, ← h4, List.getElem?_take, if_pos (by omega)]
      simp [World.cell?, hg]
    refine ⟨⟨by simp only [maxLen] at h2; omega, hs, _, cap, rfl, .inr ⟨g, 0, rfl, fun j hj => ?_⟩⟩, .inr ⟨g, 0, cap, rfl, .inr ⟨cur, _, hg⟩⟩⟩
    rw [Nat.zero_add]
    exact ⟨hcell j 0 hj (by decide), hcell j 1 hj (by decide), hcell j 2 hj (by decide)⟩
set_option maxHeartbeats 4000000 in
set_option maxRecDepth 100000 in
theorem clone25 (v : Value) (r : List Vl) (w : World) (h : RowAt w v r) (hn : r.length ≤ 1048576) :
    Calls Tryz.prog 32 #[v] w fun e w' => ∃ v', e = .returned v' ∧ RowIn w' 0 v' r ∧ Below w.heap.size w w' := by
  obtain ⟨i0, hi, hz0, hz1, hz2⟩ := info_parts info43
  have q31 : ∀ (w : World) (a : Option Addr) (n c n' c' : Nat), (binOp .eql 33 (.slice a n c) (.slice none n' c')).run Tryz.prog w = .ok (.bool a.isNone) w := fun w a n c n' c' => Lib.run_eql_slice_nil w _ _ a n c n' c' Tryz.underlying33
  obtain ⟨h0, hs, a, c, rfl, h1⟩ := h
  have HS := Lib.hid hs
  cases a with
  | none =>
    have hr : r = [] := by
      rcases h1 with h1 | ⟨b, o, e, _⟩
      · exact h1
      · cases e
    subst hr
    clear h1 hs hn
    go_enter Tryz.func32, Tryz.ntmps32
    go_wp2
    go_ret
    exact ⟨_, rfl, ⟨⟨by simp, by simp, none, 0, rfl, .inl rfl⟩, .inl rfl⟩, Below.refl _ _⟩
  | some ad =>
    have hcells : ∀ j u, (flat r)[j]? = some u → w.cell? (ad.add j) = some u := by
      rcases h1 with rfl | ⟨b, o, e, hc⟩
      · intro j u hu; simp [flat] at hu
      · cases e; exact flat_cells hc
    have HC := Lib.hid hcells
    clear h1 hs hcells
    go_enter Tryz.func32, Tryz.ntmps32
    go_wp2_with (at_builtin; refine wpList_append_own _ rfl _ _ 33 rfl w.heap.size 45 i0 (.agg #[.int .i64 0, .int .i64 0, .string ⟨#[]⟩]) 3 32 Tryz.underlying33 hi hz0 hz1 hz2 rfl (by decide) _ _ _ rfl (World.ownsRow_made w #[] 0 (Nat.le_refl _) (Nat.zero_le _) (by simp)) ad r.length c (flat r) rfl ?c1 ?c2 ?c3 ?c4 ?c5 ?c6 ?_)
    case c1 => exact flat_len r
    case c2 =>
      intro j u hj
      exact Lib.cell?_alloc_some _ (HC.out j u hj)
    case c3 =>
      intro u hu
      simp only [flat, List.mem_flatMap, cells3] at hu
      obtain ⟨x, _, hu⟩ := hu
      simp only [List.mem_cons, List.not_mem_nil, or_false] at hu
      rcases hu with rfl | rfl | rfl <;> rfl
    case c4 => unfold maxLen; omega
    case c5 => omega
    case c6 => simp
    intro v' w1 hown hgrow hnil
    go_wp2
    go_ret
    have ho : w1.ownsRow w.heap.size 45 3 v' r.length (flat r) := by simpa using hown
    exact ⟨v', rfl, rowIn_of_own HS.out ho, ((Below.refl _ w).alloc (Nat.le_refl _) _).grown hgrow (by simp) (by intro k hk; simp [Value.ownBlock] at hk; omega)⟩
end Go.Proofs.YtflapfekfmmcmaaGreatDoor

set_option linter.unusedVariables false
namespace Go.Proofs.YtflapfekfmmcmaaGreatDoor
open Go Go.RowKit Go.Lib
theorem take_succR {R : List (List Vl)} {k : Nat} (h : k < R.length) : R.take (k + 1) = R.take k ++ [R.getD k []] := by
  rw [List.take_succ_eq_append_getElem h]
  simp [List.getD, h]
set_option maxHeartbeats 8000000 in
set_option maxRecDepth 100000 in
theorem copied17 (v : Value) (R : List (List Vl)) (w : World) (h : RowsAt w v R) (hbig : R.length ≤ 40000) (hl : ∀ r ∈ R, r.length ≤ 1048576) :
    Calls Tryz.prog 17 #[v] w fun e w' => ∃ ov, e = .returned ov ∧ Outs w' w.heap.size ov R ∧ (R = [] → ov = .slice none 0 0) ∧ Below w.heap.size w w' := by
  obtain ⟨i0, hi, hz0, hz1, hz2⟩ := info_parts info31
  have HLN := Lib.hid hl
  obtain ⟨h0, a, c, rfl, h1⟩ := h
  have H1 := Lib.hid h1
  have HB := Lib.hid hbig
  clear h1 hbig hl
  go_enter Tryz.func17, Tryz.ntmps17
  go_wp2
  go_loopg [3, 8] R.length (fun g s3 s8 wr => ∃ k : Nat, k ≤ R.length ∧ R.length - k ≤ g ∧ s8 = .int .i64 k ∧ Outs wr w.heap.size s3 (R.take k) ∧ Hid (k = 0 → s3 = .slice none 0 0) ∧ Below w.heap.size w wr)
  case atStart => exact ⟨0, Nat.zero_le _, by omega, by go_num, Outs.nil _ _, Lib.hid (fun _ => rfl), Below.refl _ _⟩
  case round =>
    obtain ⟨k, hk, hg, rfl, hout, hnl, hbel⟩ := hrel
    by_cases hlt : k < R.length
    · rcases H1.out with hn | ⟨b, o, rfl, hc⟩
      · rw [hn] at hlt; simp at hlt
      · obtain ⟨u, e1, r1⟩ := hc k hlt
        have q1 := World.block_lt_of_cell? w _ e1
        rw [← (bcell hbel).1 _ _ q1] at e1
        have hrl := HLN.out _ (getD_memR hlt)
        have HD := Lib.hid (take_succR hlt)
        have HL := Lib.hid (show (R.take k).length = k from by rw [List.length_take]; omega)
        clear hc
        generalize hL : R.take k = L at hout
        have HLE := Lib.hid hL
        clear hL
        generalize hr : R.getD k [] = r at *
        obtain ⟨ra, rc, rfl⟩ : ∃ ra rc, u = .slice ra r.length rc := by
          obtain ⟨_, _, ra, rc, e, _⟩ := r1
          exact ⟨ra, rc, e⟩
        have RA := r1.below hbel
        obtain ⟨oa, oc, hs3, hl63⟩ := outs_shape hout
        have HO := Lib.hid hout
        subst hs3
        have HBW := Lib.hid hbel
        have hsz0 := hbel.size
        have C25 := clone25 (.slice ra r.length rc) r wr RA hrl
        have hlenL : L.length ≤ 40000 := by have := HL.out; have := HB.out; have := HLE.out; subst this; omega
        obtain ⟨xs, hown, hrows⟩ := hout
        have HR := Lib.hid hrows
        have HOW := Lib.hid hown
        clear r1 RA hrows hown hr hbel hrl
        go_wp2_with (first
          | (go_at_call 32; refine C25.mono ?_; rintro e w2 ⟨cv, rfl, hri, hb2⟩; obtain ⟨ca, cc, rfl⟩ : ∃ ca cc, cv = .slice ca r.length cc := (by obtain ⟨⟨_, _, ra, rc, e, _⟩, _⟩ := hri; exact ⟨ra, rc, e⟩); have HRI := Lib.hid hri; clear hri; have hown3 := (own_keep HOW.out hb2).alloc (.cells #[(.slice ca r.length cc)] 33))
          | (at_builtin; refine wpList_append_own _ rfl _ _ 22 rfl w.heap.size 33 i0 (.slice none 0 0) 1 24 Tryz.underlying22 hi hz0 hz1 hz2 rfl (by decide) _ _ _ rfl hown3 ⟨w2.heap.size, 0, none⟩ 1 1 [(.slice ca r.length cc)] rfl rfl (cell_one_new _ _ _) (by simp [Value.oneCell']) (by unfold maxLen; omega) (by omega) (by have := hb2.size; simp; omega) ?_; intro v' w3 hown' hg3 hnil3))
        go_roundg (R.length - (k + 1))
        case measure => omega
        case rel =>
          have s2 := hb2.size
          have hal : Below w2.heap.size w2 (w2.alloc (.cells #[(.slice ca r.length cc)] 33)) := (Below.refl _ _).alloc (Nat.le_refl _) _
          refine ⟨k + 1, by omega, by omega, by go_num, ?_, Lib.hid (fun h => absurd h (Nat.succ_ne_zero k)), ?_⟩
          · rw [HD.out, HLE.out]
            exact outs_push (w := w2.alloc (.cells #[(.slice ca r.length cc)] 33)) (by simp; omega) hown3 (fun j hj => by
              obtain ⟨y, h1, h2⟩ := HR.out j hj
              exact ⟨y, h1, (h2.keep hb2).keep hal⟩) ((HRI.out.up (Nat.zero_le _)).keep hal) hown' hg3
          · have b2 := (HBW.out.trans (hb2.mono hsz0)).alloc (o := .cells #[(.slice ca r.length cc)] 33) (by omega)
            exact b2.grown hg3 (by simp; omega) (fun j hj => by
              rcases hown3.2 with ⟨e, _⟩ | ⟨p, cap, cur, e, hge, _⟩
              · rw [e] at hj; cases hj
              · rw [e] at hj; cases hj; exact hge)
    · have hkn : k = R.length := by omega
      have E := Lib.hid (show R.take k = R by rw [hkn, List.take_length])
      have HO := Lib.hid hout
      clear hkn hout
      go_wp2
      go_ret
      exact ⟨_, rfl, by rw [← E.out]; exact HO.out, fun h => hnl.out (by rw [h] at hk; simpa using hk), hbel⟩
end Go.Proofs.YtflapfekfmmcmaaGreatDoor

set_option linter.unusedVariables false
namespace Go.Proofs.YtflapfekfmmcmaaGreatDoor
open Go Go.RowKit Go.Lib
def nilK (x : Vl) : Int := if x.k ≤ 0 then 0 else 1
def ordD (t : Bool) (x y : Vl) : Int := if t then cmpS (if x.k ≤ 0 then ByteArray.empty else x.s) (if y.k ≤ 0 then ByteArray.empty else y.s) else cmpI (if x.k ≤ 0 then 0 else x.n) (if y.k ≤ 0 then 0 else y.n)
theorem cmpI_self (a : Int) : cmpI a a = 0 := by unfold cmpI; rw [if_neg (by omega), if_neg (by omega)]
theorem cmpS_self (a : ByteArray) : cmpS a a = 0 := by have := tp_cmpS.anti a a; omega
theorem ordC_eq (t : Bool) (x y : Vl) : ordC t x y = if cmpI (nilK x) (nilK y) ≠ 0 then cmpI (nilK x) (nilK y) else ordD t x y := by
  unfold ordC ordD nilK
  by_cases h1 : x.k ≤ 0 <;> by_cases h2 : y.k ≤ 0 <;> simp [h1, h2, cmpI_self, cmpS_self]
  all_goals first | (cases t <;> simp [cmpI_self, cmpS_self]; done) | (cases t <;> simp [cmpI_self]; done) | simp [cmpI]
theorem tp_ordC (t : Bool) : TP (ordC t) := by
  have e : ordC t = fun x y => if cmpI (nilK x) (nilK y) ≠ 0 then cmpI (nilK x) (nilK y) else ordD t x y := by funext x y; exact ordC_eq t x y
  rw [e]
  refine TP.lex (tp_cmpI.comp nilK) ?_
  cases t
  · exact (tp_cmpI.comp fun x : Vl => if x.k ≤ 0 then 0 else x.n)
  · exact (tp_cmpS.comp fun x : Vl => if x.k ≤ 0 then ByteArray.empty else x.s)
def is4 (R : List (List Vl)) (k : Nat) : Bool := R.any fun r => decide ((r.getD k d0).k = 4)
def cmpC (R : List (List Vl)) : List Int → List Bool → List Vl → List Vl → Int
  | [], _, _, _ => 0
  | _ :: _, [], _, _ => 0
  | k :: B, d :: D, r, s => if sgn d (ordC (is4 R k.toNat) (r.getD k.toNat d0) (s.getD k.toNat d0)) ≠ 0 then sgn d (ordC (is4 R k.toNat) (r.getD k.toNat d0) (s.getD k.toNat d0)) else cmpC R B D r s
theorem tp_sgn {α : Type} {f : α → α → Int} (h : TP f) (d : Bool) : TP (fun x y => sgn d (f x y)) := by
  cases d
  · exact h
  · exact h.neg
theorem tp_cmpC (R : List (List Vl)) : ∀ (B : List Int) (D : List Bool), TP (cmpC R B D)
  | [], _ => by have e : cmpC R [] = fun _ _ _ => 0 := by funext D r s; rfl
                rw [e]; exact TP.zero
  | _ :: _, [] => TP.zero
  | k :: B, d :: D => TP.lex (tp_sgn ((tp_ordC (is4 R k.toNat)).comp fun r : List Vl => r.getD k.toNat d0) d) (tp_cmpC R B D)
theorem colF_spec (k : Nat) : ∀ (R : List (List Vl)) (kd : Int), colF kd k R = true → (∀ r ∈ R, (r.getD k d0).k = 0 ∨ kd = 0 ∨ (r.getD k d0).k = kd) ∧ ∀ r ∈ R, ∀ s ∈ R, (r.getD k d0).k = 0 ∨ (s.getD k d0).k = 0 ∨ (r.getD k d0).k = (s.getD k d0).k
  | [], _, _ => ⟨fun r hr => (nomatch hr), fun r hr => (nomatch hr)⟩
  | x :: R, kd, h => by
    unfold colF at h
    by_cases h0 : (x.getD k d0).k = 0
    · rw [if_pos h0] at h
      obtain ⟨h1, h2⟩ := colF_spec k R kd h
      refine ⟨fun r hr => ?_, fun r hr s hs => ?_⟩
      · rcases List.mem_cons.1 hr with rfl | hr
        · exact .inl h0
        · exact h1 r hr
      · rcases List.mem_cons.1 hr with rfl | hr
        · exact .inl h0
        · rcases List.mem_cons.1 hs with rfl | hs
          · exact .inr (.inl h0)
          · exact h2 r hr s hs
    · rw [if_neg h0] at h
      by_cases h3 : kd ≠ 0 ∧ (x.getD k d0).k ≠ kd
      · rw [if_pos h3] at h; cases h
      · rw [if_neg h3] at h
        obtain ⟨h1, h2⟩ := colF_spec k R _ h
        refine ⟨fun r hr => ?_, fun r hr s hs => ?_⟩
        · rcases List.mem_cons.1 hr with rfl | hr
          · right; omega
          · rcases h1 r hr with h | h | h <;> omega
        · rcases List.mem_cons.1 hr with e1 | hr'
          · rcases List.mem_cons.1 hs with e2 | hs'
            · subst e1; subst e2; exact .inr (.inr rfl)
            · have := h1 s hs'; subst e1; rcases this with h | h | h <;> omega
          · rcases List.mem_cons.1 hs with e2 | hs'
            · have := h1 r hr'; subst e2; rcases this with h | h | h <;> omega
            · exact h2 r hr' s hs'
theorem is4_eq {R : List (List Vl)} {k : Nat} (h : colF 0 k R = true) {r : List Vl} (hr : r ∈ R) (h0 : (r.getD k d0).k ≠ 0) : is4 R k = decide ((r.getD k d0).k = 4) := by
  obtain ⟨_, h2⟩ := colF_spec k R 0 h
  unfold is4
  by_cases h4 : (r.getD k d0).k = 4
  · rw [decide_eq_true h4]; exact List.any_eq_true.2 ⟨r, hr, decide_eq_true h4⟩
  · rw [decide_eq_false h4, List.any_eq_false]
    intro s hs
    rcases h2 r hr s hs with h | h | h
    · exact absurd h h0
    · simp only [decide_eq_true_eq]; omega
    · simp only [decide_eq_true_eq]; omega
theorem cmpR_eq {R : List (List Vl)} (ok : ∀ r ∈ R, ∀ x ∈ r, errV x = 0) : ∀ (B : List Int) (D : List Bool), okS R B = true → (∀ k ∈ B, 0 ≤ k ∧ ∀ r ∈ R, k < (r.length : Int)) → ∀ r ∈ R, ∀ s ∈ R, cmpR B D r s = cmpC R B D r s
  | [], _, _, _, r, _, s, _ => rfl
  | _ :: _, [], _, _, r, _, s, _ => rfl
  | k :: B, d :: D, h, hin, r, hr, s, hs => by
    have h' : colF 0 k.toNat R = true ∧ okS R B = true := by unfold okS at h ⊢; simpa using h
    have ih := cmpR_eq ok B D h'.2 (fun j hj => hin j (List.mem_cons_of_mem _ hj)) r hr s hs
    obtain ⟨i1, i2⟩ := hin k (by simp)
    have m1 := getD_mem (r := r) (k := k.toNat) (by have := i2 r hr; omega)
    have m2 := getD_mem (r := s) (k := k.toNat) (by have := i2 s hs; omega)
    have e := ordV_col (t := is4 R k.toNat) (kind_ok (ok r hr _ m1)) (kind_ok (ok s hs _ m2)) ((colF_spec _ R 0 h'.1).2 r hr s hs) (fun h0 => is4_eq h'.1 hr h0)
    show (if sgn d (ordV (r.getD k.toNat d0) (s.getD k.toNat d0)) ≠ 0 then sgn d (ordV (r.getD k.toNat d0) (s.getD k.toNat d0)) else cmpR B D r s) = _
    rw [e, ih]; rfl
/-- which row a tag is -/
def rowT (R : List (List Vl)) (t : Nat) : List Vl := if t < R.length then R.getD t [] else R.getD 0 []
theorem rowT_mem {R : List (List Vl)} (h : 0 < R.length) (t : Nat) : rowT R t ∈ R := by
  unfold rowT; split
  · exact getD_memR (by assumption)
  · exact getD_memR h
def cfR (R : List (List Vl)) (B : List Int) (D : List Bool) (x y : Nat) : Int := cmpR B D (rowT R x) (rowT R y)
theorem swo_cfR {R : List (List Vl)} {B : List Int} (D : List Bool) (h : 0 < R.length) (ok : ∀ r ∈ R, ∀ x ∈ r, errV x = 0) (hs : okS R B = true) (hin : ∀ k ∈ B, 0 ≤ k ∧ ∀ r ∈ R, k < (r.length : Int)) :
    Srt.Swo (fun x y => decide (cfR R B D x y < 0)) := by
  have e : cfR R B D = fun x y => cmpC R B D (rowT R x) (rowT R y) := by
    funext x y
    exact cmpR_eq ok B D hs hin _ (rowT_mem h x) _ (rowT_mem h y)
  rw [e]
  exact ((tp_cmpC R B D).comp (rowT R)).swo
end Go.Proofs.YtflapfekfmmcmaaGreatDoor

set_option linter.unusedVariables false
namespace Go.Proofs.YtflapfekfmmcmaaGreatDoor
open Go Go.RowKit Go.Lib
/-! no rows -/
theorem insertion82_nil (f : Value) (w : World) : Calls Tryz.prog 82 #[.slice none 0 0, .int .i64 0, .int .i64 0, f] w fun e w' => e = .returned (.tuple #[]) ∧ w = w' := by
  go_enter Tryz.func82, Tryz.ntmps82
  go_wp2
  go_loopg [8] 1 (fun g1 vi wr => vi = .int .i64 1 ∧ w = wr)
  case atStart => exact ⟨by go_num, rfl⟩
  case round =>
    obtain ⟨rfl, rfl⟩ := hrel
    go_wp2
    go_end0
    exact ⟨rfl, rfl⟩
theorem stable51_nil (f : Value) (w : World) : Calls Tryz.prog 51 #[.slice none 0 0, .int .i64 0, f] w fun e w' => e = .returned (.tuple #[]) ∧ w = w' := by
  go_enter Tryz.func51, Tryz.ntmps51
  go_wp2
  go_loopg [7, 8] 1 (fun g1 s t wr => s = .int .i64 0 ∧ t = .int .i64 20 ∧ w = wr)
  case atStart => exact ⟨by go_num, by go_num, rfl⟩
  case round =>
    obtain ⟨rfl, rfl, rfl⟩ := hrel
    go_wp2_with (go_at_call 82; refine (insertion82_nil _ _).mono ?_; rintro _ w1 ⟨rfl, rfl⟩)
    go_loopg [6] 1 (fun g1 s wr => s = .int .i64 20 ∧ w = wr)
    case atStart => exact ⟨by go_num, rfl⟩
    case round =>
      obtain ⟨rfl, rfl⟩ := hrel
      go_wp2
      go_end0
      exact ⟨rfl, rfl⟩
theorem sortStable33_nil (f : Value) (w : World) : Calls Tryz.prog 33 #[.slice none 0 0, f] w fun e w' => e = .returned (.tuple #[]) ∧ w = w' := by
  go_enter Tryz.func33, Tryz.ntmps33
  go_wp2_with (go_at_call 51; refine (stable51_nil _ _).mono ?_; rintro _ w1 ⟨rfl, rfl⟩)
  go_end0
  exact ⟨rfl, rfl⟩
theorem sortStable33 {b n : Nat} {Q : World → Prop} {hd : Nat → Value} (E : Env b n Q) (hh : ∀ t, (hd t).oneCell' = true) (hn : n < 1152921504606846976) (cap : Nat) (cf : Nat → Nat → Int) (p q : Value)
    (hO : Srt.Swo (fun x y => decide (cf x y < 0))) (hcmp : ∀ w, Q w → ∀ x y, Calls Tryz.prog 34 #[hd x, hd y, p, q] w fun e w' => e = .returned (.int .i64 (cf x y)) ∧ Below w.heap.size w w')
    (w : World) (S : St b n Q hd id w) :
    Calls Tryz.prog 33 #[.slice (some ⟨b, 0, none⟩) n cap, .func (.func 34) #[] #[p, q]] w fun e w' => e = .returned (.tuple #[]) ∧ ∃ g', Srt.Same 0 n id g' ∧ Srt.Srtd (fun x y => decide (cf x y < 0)) 0 n g' ∧ St b n Q hd g' w' := by
  have C := Lib.hid (stable51 E hh hn cap cf p q hO hcmp w S)
  clear E hh hO hcmp S
  go_enter Tryz.func33, Tryz.ntmps33
  go_wp2_with (go_at_call 51; refine C.out.mono ?_; rintro _ w1 ⟨rfl, g, G1, G2, G3⟩)
  go_end0
  exact ⟨rfl, g, G1, G2, G3⟩
/-! the rows that are sorted -/
structure QS (w0 : World) (g pb pd : Nat) (bv dv : Value) (hd : Nat → Value) (R : List (List Vl)) (w : World) : Prop where
  below : Below w0.heap.size w0 w
  lt : g < w.heap.size
  cb : w.cell? ⟨pb, 0, none⟩ = some bv
  cd : w.cell? ⟨pd, 0, none⟩ = some dv
  rows : ∀ t, RowAt w (hd t) (rowT R t)
theorem env_QS {w0 : World} {g pb pd : Nat} {bv dv : Value} {hd : Nat → Value} {R : List (List Vl)} (n : Nat) (hg : w0.heap.size ≤ g) (h1 : pb ≠ g) (h2 : pd ≠ g)
    (off : ∀ t, rowT R t = [] ∨ ∃ b o c, hd t = .slice (some ⟨b, o, none⟩) (rowT R t).length c ∧ b ≠ g) : Env g n (QS w0 g pb pd bv dv hd R) := by
  refine ⟨fun w h => h.lt, fun w w' h hb => ⟨h.below.trans (hb.mono h.below.size), ?_, ?_, ?_, fun t => (h.rows t).below hb⟩, fun w k v h => ⟨h.below.setCell hg v, ?_, ?_, ?_, fun t => ?_⟩⟩
  · have := hb.size; have := h.lt; omega
  · rw [(bcell hb).1 _ _ (World.block_lt_of_cell? w _ h.cb)]; exact h.cb
  · rw [(bcell hb).1 _ _ (World.block_lt_of_cell? w _ h.cd)]; exact h.cd
  · have := h.lt; simpa [World.setCell] using this
  · rw [World.cell?_setCell_other _ _ _ _ (by intro e; simp only [Addr.mk.injEq] at e; omega)]; exact h.cb
  · rw [World.cell?_setCell_other _ _ _ _ (by intro e; simp only [Addr.mk.injEq] at e; omega)]; exact h.cd
  · rcases off t with h0 | ⟨b, o, c, h0, hne⟩
    · obtain ⟨l0, s0, a, c, e, _⟩ := h.rows t
      exact ⟨l0, s0, a, c, e, .inl h0⟩
    · refine (h.rows t).heap fun b1 o1 c1 e => ?_
      rw [h0] at e
      simp only [Value.slice.injEq, Option.some.injEq, Addr.mk.injEq] at e
      obtain ⟨⟨rfl, _⟩, _⟩ := e
      exact Below.heap_setCell _ _ _ _ hne
def okAll (R : List (List Vl)) : Prop := ∀ r ∈ R, ∀ x ∈ r, errV x = 0
def inAll (R : List (List Vl)) (B : List Int) : Prop := ∀ k ∈ B, 0 ≤ k ∧ ∀ r ∈ R, k < (r.length : Int)
theorem cmp_QS {w0 : World} {g pb pd : Nat} {bv dv : Value} {hd : Nat → Value} {R : List (List Vl)} {B : List Int} {D : List Bool} (hn : 0 < R.length) (hB : IntsAt w0 bv B) (hD : BoolsAt w0 dv D) (hl : B.length = D.length) (ok : okAll R) (hin : inAll R B)
    (w : World) (h : QS w0 g pb pd bv dv hd R w) (x y : Nat) : Calls Tryz.prog 34 #[hd x, hd y, .pointer (some ⟨pb, 0, none⟩), .pointer (some ⟨pd, 0, none⟩)] w fun e w' => e = .returned (.int .i64 (cfR R B D x y)) ∧ Below w.heap.size w w' :=
  closure34 (hd x) (hd y) (rowT R x) (rowT R y) B D bv dv pb pd w (h.rows x) (h.rows y) (hB.below h.below) (hD.below h.below) hl h.cb h.cd
    (fun k hk => ⟨(hin k hk).1, (hin k hk).2 _ (rowT_mem hn x), (hin k hk).2 _ (rowT_mem hn y)⟩) (ok _ (rowT_mem hn x)) (ok _ (rowT_mem hn y))
def ltR (R : List (List Vl)) (B : List Int) (D : List Bool) (x y : Nat) : Bool := decide (cfR R B D x y < 0)
/-- rows sorted by columns -/
def srt (R : List (List Vl)) (B : List Int) (D : List Bool) : List (List Vl) := (Srt.ms (ltR R B D) R.length (List.range' 0 R.length)).map (rowT R)
theorem srt_nil (B : List Int) (D : List Bool) : srt [] B D = [] := rfl
end Go.Proofs.YtflapfekfmmcmaaGreatDoor

set_option linter.unusedVariables false
namespace Go.Proofs.YtflapfekfmmcmaaGreatDoor
open Go Go.RowKit Go.Lib
set_option maxHeartbeats 2000000 in
set_option maxRecDepth 100000 in
theorem sorted18_nil (bv dv : Value) (h1 : bv.oneCell' = true) (h2 : dv.oneCell' = true) (w : World) : Calls Tryz.prog 18 #[.slice none 0 0, bv, dv] w fun e w' => e = .returned (.tuple #[]) ∧ Below w.heap.size w w' := by
  have c1 := cells1 h1
  have c2 := cells1 h2
  simp only [Value.cells] at c1 c2
  go_enter Tryz.func18, Tryz.ntmps18
  go_wp2_with (go_at_call 33; refine (sortStable33_nil _ _).mono ?_; rintro _ w1 ⟨rfl, rfl⟩)
  go_end0
  exact ⟨rfl, ((Below.refl _ w).alloc (Nat.le_refl _) _).alloc (by simp) _⟩
set_option maxHeartbeats 2000000 in
set_option maxRecDepth 100000 in
theorem sorted18_own (g n cap : Nat) (bv dv : Value) (h1 : bv.oneCell' = true) (h2 : dv.oneCell' = true) (w : World) {P : World → Prop}
    (C : Calls Tryz.prog 33 #[.slice (some ⟨g, 0, none⟩) n cap, .func (.func 34) #[] #[.pointer (some ⟨w.heap.size, 0, none⟩), .pointer (some ⟨w.heap.size + 1, 0, none⟩)]] ((w.alloc (.cells #[bv] 23)).alloc (.cells #[dv] 24)) fun e w' => e = .returned (.tuple #[]) ∧ P w') :
    Calls Tryz.prog 18 #[.slice (some ⟨g, 0, none⟩) n cap, bv, dv] w fun e w' => e = .returned (.tuple #[]) ∧ P w' := by
  have c1 := cells1 h1
  have c2 := cells1 h2
  simp only [Value.cells] at c1 c2
  have C := Lib.hid C
  go_enter Tryz.func18, Tryz.ntmps18
  go_wp2_with (go_at_call 33; refine C.out.mono ?_; rintro _ w1 ⟨rfl, hp⟩)
  go_end0
  exact ⟨rfl, hp⟩
theorem IntsAt.one {w : World} {v : Value} {B : List Int} (h : IntsAt w v B) : v.oneCell' = true := by
  obtain ⟨_, a, c, rfl, _⟩ := h; rfl
theorem BoolsAt.one {w : World} {v : Value} {B : List Bool} (h : BoolsAt w v B) : v.oneCell' = true := by
  obtain ⟨_, a, c, rfl, _⟩ := h; rfl
theorem getD_rowT {R : List (List Vl)} {t : Nat} (h : t < R.length) : R.getD t [] = rowT R t := by unfold rowT; rw [if_pos h]
set_option maxHeartbeats 1000000 in
theorem sorted18 (ov bv dv : Value) (R : List (List Vl)) (B : List Int) (D : List Bool) (w0 w : World) (HO : Outs w w0.heap.size ov R) (hb : Below w0.heap.size w0 w) (hB : IntsAt w0 bv B) (hD : BoolsAt w0 dv D) (hl : B.length = D.length)
    (hnil : R = [] → ov = .slice none 0 0) (hn : R.length ≤ 40000) (ok : okAll R) (hs : okS R B = true) (hin : inAll R B) :
    Calls Tryz.prog 18 #[ov, bv, dv] w fun e w' => e = .returned (.tuple #[]) ∧ RowsAt w' ov (srt R B D) ∧ Below w0.heap.size w0 w' := by
  obtain ⟨xs, ⟨hx, hown⟩, hr⟩ := HO
  rcases hown with ⟨rfl, h0⟩ | ⟨g, cap, cur, rfl, hg0, hg, h1, h2, h3, h4⟩
  · have hR : R = [] := List.eq_nil_of_length_eq_zero h0
    subst hR
    refine (sorted18_nil bv dv hB.one hD.one w).mono ?_
    rintro e w1 ⟨rfl, hb1⟩
    exact ⟨rfl, ⟨by simp [srt_nil], none, 0, rfl, .inl rfl⟩, hb.trans (hb1.mono hb.size)⟩
  by_cases hz : R.length = 0
  · have := hnil (List.eq_nil_of_length_eq_zero hz)
    cases this
  · have hpos : 0 < R.length := by omega
    have glt := (Array.getElem?_eq_some_iff.1 hg).1
    have bn : (w.alloc (.cells #[bv] 23)).heap.size = w.heap.size + 1 := by simp
    have bn2 : ((w.alloc (.cells #[bv] 23)).alloc (.cells #[dv] 24)).heap.size = w.heap.size + 2 := by simp
    have ba : Below w.heap.size w ((w.alloc (.cells #[bv] 23)).alloc (.cells #[dv] 24)) := ((Below.refl _ w).alloc (Nat.le_refl _) _).alloc (by simp) _
    -- the headers, by tags
    have hxl : xs.length = R.length := by omega
    have hdt : ∀ t, ∃ u, RowIn w w0.heap.size u (rowT R t) ∧ (t < R.length → xs[t]? = some u) := fun t => by
      by_cases h : t < R.length
      · obtain ⟨u, h1, h2⟩ := hr t h
        exact ⟨u, by rw [← getD_rowT h]; exact h2, fun _ => h1⟩
      · obtain ⟨u, h1, h2⟩ := hr 0 hpos
        refine ⟨u, ?_, fun h' => absurd h' h⟩
        unfold rowT; rw [if_neg h]; exact h2
    obtain ⟨hd, hhd⟩ : ∃ hd : Nat → Value, ∀ t, RowIn w w0.heap.size (hd t) (rowT R t) ∧ (t < R.length → xs[t]? = some (hd t)) := ⟨fun t => (hdt t).choose, fun t => (hdt t).choose_spec⟩
    have off : ∀ t, rowT R t = [] ∨ ∃ b o c, hd t = .slice (some ⟨b, o, none⟩) (rowT R t).length c ∧ b ≠ g := fun t => by
      rcases (hhd t).1.2 with h | ⟨b, o, c, h, h'⟩
      · exact .inl h
      · refine .inr ⟨b, o, c, h, ?_⟩
        rintro rfl
        rcases h' with h' | ⟨cs, fr, h'⟩
        · omega
        · rw [hg] at h'; cases h'
    have E := env_QS (pb := w.heap.size) (pd := w.heap.size + 1) (bv := bv) (dv := dv) (hd := hd) R.length hg0 (by omega) (by omega) off
    have q1 : ((w.alloc (.cells #[bv] 23)).alloc (.cells #[dv] 24)).cell? ⟨w.heap.size, 0, none⟩ = some bv := Lib.cell?_alloc_some _ (by simpa [Addr.add] using cell_one_new w bv 23 0 bv rfl)
    have q2 : ((w.alloc (.cells #[bv] 23)).alloc (.cells #[dv] 24)).cell? ⟨w.heap.size + 1, 0, none⟩ = some dv := by
      have := cell_one_new (w.alloc (.cells #[bv] 23)) dv 24 0 dv rfl
      rw [bn] at this; simpa [Addr.add] using this
    have Q0 : QS w0 g w.heap.size (w.heap.size + 1) bv dv hd R ((w.alloc (.cells #[bv] 23)).alloc (.cells #[dv] 24)) :=
      ⟨hb.trans (ba.mono hb.size), by rw [bn2]; omega, q1, q2, fun t => (hhd t).1.1.below ba⟩
    have hgk : ((w.alloc (.cells #[bv] 23)).alloc (.cells #[dv] 24)).heap[g]? = some (.cells cur 33 (0, 0)) := by rw [ba.block g glt]; exact hg
    have S0 : St g R.length (QS w0 g w.heap.size (w.heap.size + 1) bv dv hd R) hd id ((w.alloc (.cells #[bv] 23)).alloc (.cells #[dv] 24)) := by
      refine ⟨Q0, fun k hk => ⟨?_, ?_⟩⟩
      · have := (hhd k).2 hk
        rw [← h4, List.getElem?_take, if_pos (by omega)] at this
        simp only [World.cell?, hgk]
        simpa using this
      · simp only [World.frozen?, hgk]; simp
    have C := sortStable33 E (fun t => (hhd t).1.1.one) (by omega) cap (cfR R B D) _ _ (swo_cfR D hpos ok hs hin) (fun w h x y => cmp_QS hpos hB hD hl ok hin w h x y) _ S0
    refine (sorted18_own g R.length cap bv dv hB.one hD.one w C).mono ?_
    rintro e w1 ⟨rfl, g', G1, G2, G3⟩
    have M := Srt.meet (swo_cfR D hpos ok hs hin) G1 G2
    have SL : srt R B D = (List.range' 0 R.length).map fun i => rowT R (g' i) := by
      unfold srt ltR
      rw [← M, List.map_map]; rfl
    have hlen : (srt R B D).length = R.length := by rw [SL]; simp
    refine ⟨rfl, ⟨by omega, _, cap, by rw [hlen], .inr ⟨g, 0, rfl, fun j hj => ?_⟩⟩, G3.1.below⟩
    rw [hlen] at hj
    refine ⟨hd (g' j), by rw [Nat.zero_add]; exact (G3.2 j hj).1, ?_⟩
    have e : (srt R B D).getD j [] = rowT R (g' j) := by
      rw [SL]; simp [List.getD, hj]
    rw [e]; exact G3.1.rows _
end Go.Proofs.YtflapfekfmmcmaaGreatDoor
