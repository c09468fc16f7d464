/- PROVED: contracts of the functions that SqlSorts reaches, and what a stable sort is (part SvD). CONDITIONS: none. -/
import Derived.Test.YtflapfekfmmcmaaGreatDoorSvC
import Derived.Shelf.RegionOpenPlain
import Derived.Sort.WalkB12
set_option linter.unusedSimpArgs false
set_option linter.unusedVariables false
set_option linter.unusedVariables false
namespace Go.Proofs.YtflapfekfmmcmaaGreatDoor
open Go Go.RowKit Go.Lib
/-- What the sort must leave standing. -/
structure Env (b n : Nat) (Q : World → Prop) : Prop where
  lt : ∀ w, Q w → b < w.heap.size
  call : ∀ w w', Q w → Below w.heap.size w w' → Q w'
  store : ∀ w k v, Q w → Q (w.setCell ⟨b, k, none⟩ v)
/-- The row of headers holds hd (g 0), hd (g 1) .. -/
def St (b n : Nat) (Q : World → Prop) (hd : Nat → Value) (g : Nat → Nat) (w : World) : Prop :=
  Q w ∧ ∀ k, k < n → w.cell? ⟨b, k, none⟩ = some (hd (g k)) ∧ w.frozen? ⟨b, k, none⟩ = false
variable {b n : Nat} {Q : World → Prop} {hd : Nat → Value} {g : Nat → Nat} {w w' : World}
theorem St.call (h : St b n Q hd g w) (E : Env b n Q) (hb : Below w.heap.size w w') : St b n Q hd g w' :=
  ⟨E.call _ _ h.1 hb, fun k hk => by rw [(bcell hb).1 _ _ (E.lt _ h.1), (bcell hb).2 _ _ (E.lt _ h.1)]; exact h.2 k hk⟩
theorem St.drew (h : St b n Q hd g w) (E : Env b n Q) : St b n Q hd g w.drew := h.call E (below_drew (Below.refl _ _))
theorem St.swap (h : St b n Q hd g w) (E : Env b n Q) {i j : Nat} (hi : i < n) (hj : j < n) :
    St b n Q hd (Srt.swap g i j) ((w.setCell ⟨b, i, none⟩ (hd (g j))).setCell ⟨b, j, none⟩ (hd (g i))).drew := by
  refine St.drew ⟨E.store _ _ _ (E.store _ _ _ h.1), fun k hk => ⟨?_, ?_⟩⟩ E
  · by_cases e : k = j
    · subst e
      rw [Srt.swap_r]
      by_cases e2 : i = k
      · subst e2; exact World.cell?_setCell_same _ _ _ (World.cell?_setCell_same _ _ _ (h.2 i hi).1)
      · exact World.cell?_setCell_same _ _ _ ((World.cell?_setCell_other _ _ _ _ (by intro e'; simp only [Addr.mk.injEq] at e'; omega)).trans (h.2 k hk).1)
    · rw [World.cell?_setCell_other _ _ _ _ (by intro e'; simp only [Addr.mk.injEq] at e'; omega)]
      by_cases e2 : k = i
      · subst e2; rw [Srt.swap_l]; exact World.cell?_setCell_same _ _ _ (h.2 k hk).1
      · rw [World.cell?_setCell_other _ _ _ _ (by intro e'; simp only [Addr.mk.injEq] at e'; omega), Srt.swap_o g e2 e]; exact (h.2 k hk).1
  · rw [World.frozen?_setCell, World.frozen?_setCell]; exact (h.2 k hk).2
theorem St.c2 (h : St b n Q hd g w) {i j : Nat} (hi : i < n) (hj : j < n) (v : Value) : ∃ u, (w.setCell ⟨b, i, none⟩ v).cell? ⟨b, j, none⟩ = some u := by
  by_cases e : i = j
  · subst e; exact ⟨v, World.cell?_setCell_same _ _ _ (h.2 i hi).1⟩
  · exact ⟨_, (World.cell?_setCell_other _ _ _ _ (by intro e'; simp only [Addr.mk.injEq] at e'; omega)).trans (h.2 j hj).1⟩
end Go.Proofs.YtflapfekfmmcmaaGreatDoor

set_option linter.unusedVariables false
namespace Go.Proofs.YtflapfekfmmcmaaGreatDoor
open Go Go.RowKit Go.Lib
theorem run_store1 {v : Value} (h : v.oneCell' = true) (a : Addr) (m : Mode) (w : World) : Sem.run Tryz.prog (store a v m) w = stored Tryz.prog w a v m := run_store Tryz.prog w a _ m h
theorem cells1 {v : Value} (h : v.oneCell' = true) : v.cells = #[v] := by
  cases v <;> simp_all [Value.oneCell', Value.cells]
set_option maxHeartbeats 4000000 in
set_option maxRecDepth 1000000 in
theorem swapRange160 {b n : Nat} {Q : World → Prop} {hd : Nat → Value} (E : Env b n Q) (hh : ∀ t, (hd t).oneCell' = true) (hn : n < 4611686018427387904) (cap : Nat) (f : Value) (g : Nat → Nat) (w : World) (S : St b n Q hd g w) (a c m : Nat) (h1 : a + m ≤ c) (h2 : c + m ≤ n) :
    Calls Tryz.prog 160 #[.slice (some ⟨b, 0, none⟩) n cap, .int .i64 a, .int .i64 c, .int .i64 m, f] w fun e w' => e = .returned (.tuple #[]) ∧ St b n Q hd (Srt.swp g a c m) w' := by
  have mixed : Tryz.prog.follows .mixedOrders = true := by kernel_rfl
  have S0 := Lib.hid S
  have E0 := Lib.hid E
  have hcl0 := fun t => cells1 (hh t)
  simp only [Value.cells] at hcl0
  have hst := fun t a m w => run_store1 (hh t) a m w
  clear S E hh
  go_enter Tryz.func160, Tryz.ntmps160
  go_wp2
  go_loopg [10] m (fun gk s wr => ∃ i : Nat, i ≤ m ∧ m - i ≤ gk ∧ s = .int .i64 i ∧ Hid (St b n Q hd (Srt.swp g a c i) wr))
  case atStart => exact ⟨0, Nat.zero_le _, by omega, rfl, Lib.hid (by rw [Srt.swp_zero]; exact S0.out)⟩
  case round =>
    obtain ⟨i, hi, hg, rfl, S1⟩ := hrel
    clear S0
    by_cases hlt : i < m
    · have hltz : (i : Int) < (m : Int) := by omega
      have S3 := S1.out.swap E0.out (i := a + i) (j := c + i) (by omega) (by omega)
      rw [Srt.swp_step g h1 hlt] at S3
      have S3 := Lib.hid S3
      have c1 := (S1.out.2 (a + i) (by omega)).1
      have c2 := (S1.out.2 (c + i) (by omega)).1
      have f1 := (S1.out.2 (a + i) (by omega)).2
      have f2 := (S1.out.2 (c + i) (by omega)).2
      obtain ⟨u, c3⟩ := S1.out.c2 (i := a + i) (j := c + i) (by omega) (by omega) (hd (Srt.swp g a c i (c + i)))
      obtain ⟨x, hx⟩ : ∃ x, x = Srt.swp g a c i (a + i) := ⟨_, rfl⟩
      obtain ⟨y, hy⟩ : ∃ x, x = Srt.swp g a c i (c + i) := ⟨_, rfl⟩
      rw [← hx, ← hy] at S3
      rw [← hx] at c1
      rw [← hy] at c2 c3
      clear hx hy S1
      have w1 : IntKind.i64.wrap ((a : Int) + i) = ((a + i : Nat) : Int) := by rw [IntKind.wrap_i64]; omega
      have w2 : IntKind.i64.wrap ((c : Int) + i) = ((c + i : Nat) : Int) := by rw [IntKind.wrap_i64]; omega
      have p1 : (((a + i : Nat) : Int)) < (n : Int) := by omega
      have p2 : (((c + i : Nat) : Int)) < (n : Int) := by omega
      obtain ⟨ai, hai⟩ : ∃ x, x = a + i := ⟨_, rfl⟩
      obtain ⟨ci, hci⟩ : ∃ x, x = c + i := ⟨_, rfl⟩
      rw [← hai] at w1 p1 c1 f1 c3 S3
      rw [← hci] at w2 p2 c2 f2 c3 S3
      clear hai hci
      go_wp2_with fail
      go_big_region_o
      go_wp2
      go_roundg (m - (i + 1))
      case measure => omega
      case rel => exact ⟨i + 1, by omega, by omega, by go_num, S3⟩
    · have him : i = m := by omega
      subst him
      go_wp2
      go_end0
      exact ⟨rfl, S1.out⟩
end Go.Proofs.YtflapfekfmmcmaaGreatDoor

set_option linter.unusedVariables false
namespace Go.Proofs.YtflapfekfmmcmaaGreatDoor
open Go Go.RowKit Go.Lib
set_option maxHeartbeats 600000 in
set_option maxRecDepth 1000000 in
theorem rotate120 {b n : Nat} {Q : World → Prop} {hd : Nat → Value} (E : Env b n Q) (hh : ∀ t, (hd t).oneCell' = true) (hn : n < 4611686018427387904) (cap : Nat) (f : Value) (g : Nat → Nat) (w : World) (S : St b n Q hd g w) (a m z : Nat) (h1 : a < m) (h2 : m < z) (h3 : z ≤ n) :
    Calls Tryz.prog 120 #[.slice (some ⟨b, 0, none⟩) n cap, .int .i64 a, .int .i64 m, .int .i64 z, f] w fun e w' => e = .returned (.tuple #[]) ∧ St b n Q hd (Srt.rot g a m z) w' := by
  have C := Lib.hid (fun g w (S : St b n Q hd g w) a c m h1 h2 => swapRange160 E hh hn cap f g w S a c m h1 h2)
  have S0 := Lib.hid S
  clear S E hh
  have w0 : IntKind.i64.wrap ((m : Int) - a) = ((m - a : Nat) : Int) := by rw [IntKind.wrap_i64]; omega
  have w1 : IntKind.i64.wrap ((z : Int) - m) = ((z - m : Nat) : Int) := by rw [IntKind.wrap_i64]; omega
  obtain ⟨i0, hi0⟩ : ∃ x, x = m - a := ⟨_, rfl⟩
  obtain ⟨j0, hj0⟩ : ∃ x, x = z - m := ⟨_, rfl⟩
  rw [← hi0] at w0
  rw [← hj0] at w1
  go_enter Tryz.func120, Tryz.ntmps120
  go_wp2
  go_loopg [10, 11] (i0 + j0) (fun gk s t wr => ∃ (i j : Nat) (g' : Nat → Nat), 0 < i ∧ 0 < j ∧ i ≤ m ∧ m + j ≤ n ∧ i + j ≤ gk ∧ s = .int .i64 i ∧ t = .int .i64 j ∧ Hid (St b n Q hd g' wr) ∧ Hid (Srt.rot g' (m - i) m (m + j) = Srt.rot g a m z))
  case atStart => exact ⟨i0, j0, g, by omega, by omega, by omega, by omega, Nat.le_refl _, by go_num, by go_num, S0, Lib.hid (by rw [show m - i0 = a by omega, show m + j0 = z by omega])⟩
  case round =>
    obtain ⟨i, j, g', hi, hj, him, hjn, hgk, rfl, rfl, S1, HR⟩ := hrel
    clear S0 w0 w1
    by_cases hne : i = j
    · subst hne
      have C1 := C.out g' _ S1.out (m - i) m i (by omega) (by omega)
      rw [Srt.rot_eq g' him, HR.out] at C1
      have w2 : IntKind.i64.wrap ((m : Int) - i) = ((m - i : Nat) : Int) := by rw [IntKind.wrap_i64]; omega
      obtain ⟨q, hq⟩ : ∃ x, x = m - i := ⟨_, rfl⟩
      rw [← hq] at w2 C1
      have C1 := Lib.hid C1
      clear S1 HR C hq
      go_wp2_with (go_at_call 160; refine C1.out.mono ?_; rintro e w2 ⟨rfl, S2⟩)
      go_end0
      exact ⟨rfl, S2⟩
    · have hnez : ¬ (i : Int) = (j : Int) := by omega
      by_cases hgt : j < i
      · have hgtz : (j : Int) < (i : Int) := by omega
        have C1 := C.out g' _ S1.out (m - i) m j (by omega) (by omega)
        have R := Srt.rot_gt g' him hgt
        rw [HR.out] at R
        have w2 : IntKind.i64.wrap ((m : Int) - i) = ((m - i : Nat) : Int) := by rw [IntKind.wrap_i64]; omega
        have w3 : IntKind.i64.wrap ((i : Int) - j) = ((i - j : Nat) : Int) := by rw [IntKind.wrap_i64]; omega
        obtain ⟨q, hq⟩ : ∃ x, x = m - i := ⟨_, rfl⟩
        obtain ⟨d, hd'⟩ : ∃ x, x = i - j := ⟨_, rfl⟩
        rw [← hq] at w2 C1
        rw [← hd'] at w3
        rw [← hq, ← hd'] at R
        have C1 := Lib.hid C1
        have R := Lib.hid R
        have hqH := Lib.hid hq
        clear hq
        have hd'H := Lib.hid hd'
        clear hd'
        clear S1 HR C
        go_wp2_with (go_at_call 160; refine C1.out.mono ?_; rintro e w2 ⟨rfl, S2⟩)
        go_roundg (d + j)
        case measure => have := hd'H.out; omega
        case rel => have k1 := hd'H.out; have k2 := hqH.out; exact ⟨d, j, _, by omega, hj, by omega, hjn, Nat.le_refl _, by go_num, rfl, Lib.hid S2, R⟩
      · have hgtz : ¬ (j : Int) < (i : Int) := by omega
        have hlt : i < j := by omega
        have C1 := C.out g' _ S1.out (m - i) (m + j - i) i (by omega) (by omega)
        have R := Srt.rot_lt g' him hlt
        rw [HR.out] at R
        have w2 : IntKind.i64.wrap ((m : Int) - i) = ((m - i : Nat) : Int) := by rw [IntKind.wrap_i64]; omega
        have w4 : IntKind.i64.wrap ((m : Int) + j) = ((m + j : Nat) : Int) := by rw [IntKind.wrap_i64]; omega
        have w5 : IntKind.i64.wrap (((m + j : Nat) : Int) - i) = ((m + j - i : Nat) : Int) := by rw [IntKind.wrap_i64]; omega
        have w3 : IntKind.i64.wrap ((j : Int) - i) = ((j - i : Nat) : Int) := by rw [IntKind.wrap_i64]; omega
        obtain ⟨q, hq⟩ : ∃ x, x = m - i := ⟨_, rfl⟩
        obtain ⟨d, hd'⟩ : ∃ x, x = j - i := ⟨_, rfl⟩
        obtain ⟨r, hr⟩ : ∃ x, x = m + j - i := ⟨_, rfl⟩
        obtain ⟨s, hs⟩ : ∃ x, x = m + j := ⟨_, rfl⟩
        rw [← hr] at w5 C1 R
        rw [← hs] at w4 w5
        rw [← hq] at w2 C1 R
        rw [← hd'] at w3 R
        have C1 := Lib.hid C1
        have R := Lib.hid R
        have hqH := Lib.hid hq
        clear hq
        have hd'H := Lib.hid hd'
        clear hd'
        have hsH := Lib.hid hs
        clear hs
        have hrH := Lib.hid hr
        clear hr
        clear S1 HR C
        go_wp2_with (go_at_call 160; refine C1.out.mono ?_; rintro e w2 ⟨rfl, S2⟩)
        go_roundg (i + d)
        case measure => have := hd'H.out; omega
        case rel => have k1 := hd'H.out; have k2 := hqH.out; exact ⟨i, d, _, hi, by omega, him, by omega, Nat.le_refl _, rfl, by go_num, Lib.hid S2, by rw [← k2]; exact R⟩
end Go.Proofs.YtflapfekfmmcmaaGreatDoor

set_option linter.unusedVariables false
namespace Go.Proofs.YtflapfekfmmcmaaGreatDoor
open Go Go.RowKit Go.Lib
theorem keepS {w0 w w1 : World} {b p1 p2 : Nat} {v1 v2 : Value} (h : w.cell? ⟨b, p1, none⟩ = some v1 ∧ w.cell? ⟨b, p2, none⟩ = some v2 ∧ Below w0.heap.size w0 w) (hb : Below w.heap.size w w1) :
    w1.cell? ⟨b, p1, none⟩ = some v1 ∧ w1.cell? ⟨b, p2, none⟩ = some v2 ∧ Below w0.heap.size w0 w1 := by
  obtain ⟨h1, h2, h3⟩ := h
  have hl := World.block_lt_of_cell? w _ h1
  exact ⟨by rw [(bcell hb).1 _ _ hl]; exact h1, by rw [(bcell hb).1 _ _ hl]; exact h2, h3.trans (hb.mono h3.size)⟩
set_option maxHeartbeats 1000000 in
set_option maxRecDepth 1000000 in
theorem insertion82 {b n : Nat} {Q : World → Prop} {hd : Nat → Value} (E : Env b n Q) (hh : ∀ t, (hd t).oneCell' = true) (hn : n < 4611686018427387904) (cap : Nat) (cf : Nat → Nat → Int) (p q : Value)
    (hO : Srt.Swo (fun x y => decide (cf x y < 0))) (hcmp : ∀ w, Q w → ∀ x y, Calls Tryz.prog 34 #[hd x, hd y, p, q] w fun e w' => e = .returned (.int .i64 (cf x y)) ∧ Below w.heap.size w w')
    (g : Nat → Nat) (w : World) (S : St b n Q hd g w) (a z : Nat) (h1 : a ≤ z) (h2 : z ≤ n) (T : ∀ p q, a ≤ p → p < q → q < z → g p < g q) :
    Calls Tryz.prog 82 #[.slice (some ⟨b, 0, none⟩) n cap, .int .i64 a, .int .i64 z, .func (.func 34) #[] #[p, q]] w fun e w' => e = .returned (.tuple #[]) ∧ ∃ g', Srt.Post (fun x y => decide (cf x y < 0)) a z g g' ∧ St b n Q hd g' w' := by
  have mixed : Tryz.prog.follows .mixedOrders = true := by kernel_rfl
  have S0 := Lib.hid S
  have E0 := Lib.hid E
  have O0 := Lib.hid hO
  have T0 := Lib.hid T
  have CM := Lib.hid hcmp
  have hcl0 := fun t => cells1 (hh t)
  simp only [Value.cells] at hcl0
  have hst := fun t a m w => run_store1 (hh t) a m w
  clear S E hh hO hcmp T
  go_enter Tryz.func82, Tryz.ntmps82
  go_wp2
  go_loopg [8] (z - a) (fun g1 vi wr => ∃ (i : Nat) (gi : Nat → Nat), vi = .int .i64 i ∧ a < i ∧ i ≤ z + 1 ∧ z + 1 - i ≤ g1 + 1 ∧ Hid (St b n Q hd gi wr) ∧ Hid (i ≤ z → Srt.InsOut (fun x y => decide (cf x y < 0)) a i g gi) ∧ Hid (i = z + 1 → Srt.Post (fun x y => decide (cf x y < 0)) a z g gi))
  case atStart => exact ⟨a + 1, g, by go_num, by omega, by omega, by omega, S0, Lib.hid fun _ => Srt.ins_first _ _ _ _ (Nat.le_refl _), Lib.hid fun h => ⟨Srt.Same.refl _ _ _, fun i j k1 k2 k3 => by omega⟩⟩
  case round =>
    clear S0
    obtain ⟨i, gi, rfl, hai, hib, hg1, S1, H1, H2⟩ := hrel
    by_cases hlt : i < z
    · have hltz : (i : Int) < (z : Int) := by omega
      have I0 := Lib.hid (Srt.ins_start (H1.out (by omega)) (by omega) hlt T0.out)
      clear H1 H2
      go_wp2
      go_loopg [9] i (fun g2 vj wr => ∃ (j : Nat) (gj : Nat → Nat), vj = .int .i64 j ∧ a ≤ j ∧ j ≤ i ∧ j ≤ g2 ∧ Hid (St b n Q hd gj wr) ∧ Hid (Srt.InsIn (fun x y => decide (cf x y < 0)) a i j g gj))
      case atStart => exact ⟨i, gi, rfl, by omega, Nat.le_refl _, Nat.le_refl _, S1, I0⟩
      case round =>
        clear S1 I0
        obtain ⟨j, gj, rfl, haj, hji, hg2, SJ, HI⟩ := hrel
        by_cases hja : a < j
        · have hjaz : (a : Int) < (j : Int) := by omega
          have hjd : decide ((j : Int) > (a : Int)) = true := decide_eq_true (by omega)
          have wj : IntKind.i64.wrap ((j : Int) - 1) = ((j - 1 : Nat) : Int) := by rw [IntKind.wrap_i64]; omega
          obtain ⟨jp, hjp⟩ : ∃ x, x = j - 1 := ⟨_, rfl⟩
          have pj : (j : Int) < (n : Int) := by omega
          have pp : (jp : Int) < (n : Int) := by omega
          have c1 := (SJ.out.2 j (by omega)).1
          have c2 := (SJ.out.2 jp (by omega)).1
          have C := fun w' (hb : Below wr.heap.size wr w') => CM.out w' (E0.out.call _ _ SJ.out.1 hb) (gj j) (gj jp)
          obtain ⟨x, hx⟩ : ∃ x, x = gj j := ⟨_, rfl⟩
          obtain ⟨y, hy⟩ : ∃ x, x = gj jp := ⟨_, rfl⟩
          rw [← hx] at c1 C
          rw [← hy] at c2 C
          rw [← hjp] at wj
          have C := Lib.hid C
          have hjpH := Lib.hid hjp
          have hxH := Lib.hid hx
          have hyH := Lib.hid hy
          clear hjp hx hy
          have hb0 := Below.refl wr.heap.size wr
          by_cases hlv : cf x y < 0
          · have hlt2 : decide (cf x y < 0) = true := decide_eq_true hlv
            go_wp2_with fail
            go_region_held3 (fun w' => w'.cell? ⟨b, j, none⟩ = some (hd x) ∧ w'.cell? ⟨b, jp, none⟩ = some (hd y) ∧ Below wr.heap.size wr w')
              (first | exact keepS (by assumption) hb | (go_keep; done) | (go_split_ands; (repeat' apply And.intro) <;> first | (go_keep; done) | exact below_drew hb0))
              (first | (go_at_call 34; refine (C.out _ (below_drew hb0)).mono ?_; rintro e w3 ⟨rfl, hb⟩))
            have SJ3 := Lib.hid ((SJ.out.drew E0.out).call E0.out hb)
            clear SJ C hb0
            go_wp2
            have S4 := SJ3.out.swap E0.out (i := j) (j := jp) (by omega) (by have := hjpH.out; omega)
            have k1 := (SJ3.out.2 j (by omega))
            have k2 := (SJ3.out.2 jp (by have := hjpH.out; omega))
            obtain ⟨u, k3⟩ := SJ3.out.c2 (i := j) (j := jp) (by omega) (by have := hjpH.out; omega) (hd (gj jp))
            rw [← hxH.out, ← hyH.out] at S4
            rw [← hxH.out] at k1
            rw [← hyH.out] at k2 k3
            have S4 := Lib.hid S4
            obtain ⟨k1, f1⟩ := k1
            obtain ⟨k2, f2⟩ := k2
            clear SJ3
            go_big_region_o
            go_wp2
            go_roundg (j - 1)
            case measure => omega
            case rel =>
              have e := hjpH.out
              refine ⟨j - 1, Srt.swap gj j (j - 1), by go_num, by omega, by omega, Nat.le_refl _, by rw [← e]; exact S4, Lib.hid (Srt.ins_step HI.out hja ?_)⟩
              rw [← e, ← hxH.out, ← hyH.out]; exact hlt2
          · have hlt2 : decide (cf x y < 0) = false := decide_eq_false hlv
            go_wp2_with fail
            go_region_held3 (fun w' => w'.cell? ⟨b, j, none⟩ = some (hd x) ∧ w'.cell? ⟨b, jp, none⟩ = some (hd y) ∧ Below wr.heap.size wr w')
              (first | exact keepS (by assumption) hb | (go_keep; done) | (go_split_ands; (repeat' apply And.intro) <;> first | (go_keep; done) | exact below_drew hb0))
              (first | (go_at_call 34; refine (C.out _ (below_drew hb0)).mono ?_; rintro e w3 ⟨rfl, hb⟩))
            have SJ3 := Lib.hid ((SJ.out.drew E0.out).call E0.out hb)
            clear SJ C hb0
            go_wp2
            go_roundg (z - (i + 1))
            case measure => omega
            case rel =>
              refine ⟨i + 1, gj, by go_num, by omega, by omega, by omega, SJ3, Lib.hid fun _ => Srt.ins_exit O0.out HI.out (.inr ?_), Lib.hid fun h => by omega⟩
              rw [← hjpH.out, ← hxH.out, ← hyH.out]; exact hlt2
        · have hjaz : decide ((j : Int) > (a : Int)) = false := decide_eq_false (by omega)
          have hjaz' : ¬ (a : Int) < (j : Int) := by omega
          go_wp2_with fail
          go_big_region_o
          go_wp2
          go_roundg (z - (i + 1))
          case measure => omega
          case rel => exact ⟨i + 1, gj, by go_num, by omega, by omega, by omega, Lib.hid (SJ.out.drew E0.out), Lib.hid fun _ => Srt.ins_exit O0.out HI.out (.inl (by omega)), Lib.hid fun h => by omega⟩
    · have hltz : ¬ (i : Int) < (z : Int) := by omega
      go_wp2
      go_end0
      refine ⟨rfl, gi, ?_, S1.out⟩
      by_cases e : i = z
      · have := H1.out (by omega); rw [e] at this; exact this
      · exact H2.out (by omega)
end Go.Proofs.YtflapfekfmmcmaaGreatDoor

set_option linter.unusedVariables false
namespace Go.Proofs.YtflapfekfmmcmaaGreatDoor
open Go Go.RowKit Go.Lib
set_option maxHeartbeats 1000000 in
set_option maxRecDepth 1000000 in
theorem symL {b n : Nat} {Q : World → Prop} {hd : Nat → Value} (E : Env b n Q) (hh : ∀ t, (hd t).oneCell' = true) (hn : n < 4611686018427387904) (cap : Nat) (cf : Nat → Nat → Int) (p q : Value)
    (hO : Srt.Swo (fun x y => decide (cf x y < 0))) (hcmp : ∀ w, Q w → ∀ x y, Calls Tryz.prog 34 #[hd x, hd y, p, q] w fun e w' => e = .returned (.int .i64 (cf x y)) ∧ Below w.heap.size w w')
    (g : Nat → Nat) (w : World) (S : St b n Q hd g w) (a m z : Nat) (h1 : m = a + 1) (h2 : m < z) (h3 : z ≤ n) (hP : Srt.Pre (fun x y => decide (cf x y < 0)) a m z g) :
    Calls Tryz.prog 83 #[.slice (some ⟨b, 0, none⟩) n cap, .int .i64 a, .int .i64 m, .int .i64 z, .func (.func 34) #[] #[p, q]] w fun e w' => e = .returned (.tuple #[]) ∧ ∃ g', Srt.Post (fun x y => decide (cf x y < 0)) a z g g' ∧ St b n Q hd g' w' := by
  have mixed : Tryz.prog.follows .mixedOrders = true := by kernel_rfl
  have S0 := Lib.hid S
  have E0 := Lib.hid E
  have O0 := Lib.hid hO
  have P0 := Lib.hid hP
  have CM := Lib.hid hcmp
  have hcl0 := fun t => cells1 (hh t)
  simp only [Value.cells] at hcl0
  have hst := fun t a m w => run_store1 (hh t) a m w
  have w0 : IntKind.i64.wrap ((m : Int) - a) = 1 := by rw [IntKind.wrap_i64]; omega
  have h1H := Lib.hid h1
  clear S E hh hO hcmp hP h1
  go_enter Tryz.func83, Tryz.ntmps83
  go_wp2
  go_loopg [10, 11] (z - m) (fun gk s t wr => ∃ (i j : Nat), s = .int .i64 i ∧ t = .int .i64 j ∧ j - i ≤ gk ∧ Hid (St b n Q hd g wr) ∧ Hid (Srt.Sl (fun x y => decide (cf x y < 0)) a m z g i j))
  case atStart => exact ⟨m, z, rfl, rfl, Nat.le_refl _, S0, Lib.hid (Srt.sl_start _ g (Nat.le_of_lt h2))⟩
  case round =>
    clear S0
    obtain ⟨i, j, rfl, rfl, hg, S1, L1⟩ := hrel
    have L2 := L1.out
    obtain ⟨l1, l2, l3, -, -⟩ := L2
    by_cases hij : i < j
    · have hijz : (i : Int) < (j : Int) := by omega
      obtain ⟨c, hc⟩ : ∃ c, c = (i + j) / 2 := ⟨_, rfl⟩
      have hcz : ((i : Int) + j) / 2 = (c : Int) := by omega
      have pc : (c : Int) < (n : Int) := by omega
      have pa : (a : Int) < (n : Int) := by have := h1H.out; omega
      have c1 := (S1.out.2 c (by omega)).1
      have c2 := (S1.out.2 a (by have := h1H.out; omega)).1
      have C := fun w' (hb : Below wr.heap.size wr w') => CM.out w' (E0.out.call _ _ S1.out.1 hb) (g c) (g a)
      obtain ⟨x, hx⟩ : ∃ x, x = g c := ⟨_, rfl⟩
      obtain ⟨y, hy⟩ : ∃ x, x = g a := ⟨_, rfl⟩
      rw [← hx] at c1 C
      rw [← hy] at c2 C
      have C := Lib.hid C
      have hcH := Lib.hid hc
      have hxH := Lib.hid hx
      have hyH := Lib.hid hy
      have hb0 := Below.refl wr.heap.size wr
      have wc : IntKind.i64.wrap ((c : Int) + 1) = ((c + 1 : Nat) : Int) := by rw [IntKind.wrap_i64]; omega
      clear hx hy hc
      by_cases hlv : cf x y < 0
      · have hlt2 : decide (cf x y < 0) = true := decide_eq_true hlv
        go_wp2_with fail
        (try rw [hcz])
        go_region_held3 (fun w' => w'.cell? ⟨b, c, none⟩ = some (hd x) ∧ w'.cell? ⟨b, a, none⟩ = some (hd y) ∧ Below wr.heap.size wr w')
          (first | exact keepS (by assumption) hb | (go_keep; done) | (go_split_ands; (repeat' apply And.intro) <;> first | (go_keep; done) | exact below_drew hb0))
          (first | (go_at_call 34; refine (C.out _ (below_drew hb0)).mono ?_; rintro e w3 ⟨rfl, hb⟩))
        have SJ3 := Lib.hid ((S1.out.drew E0.out).call E0.out hb)
        clear S1 C hb0
        go_wp2
        go_roundg (j - (c + 1))
        case measure => have := hcH.out; omega
        case rel =>
          have e := hcH.out
          refine ⟨c + 1, j, by go_num, rfl, Nat.le_refl _, SJ3, Lib.hid ?_⟩
          rw [e]
          refine Srt.sl_true O0.out P0.out.2.1 L1.out hij ?_
          rw [← e, ← hxH.out, ← hyH.out]; exact hlt2
      · have hlt2 : decide (cf x y < 0) = false := decide_eq_false hlv
        go_wp2_with fail
        (try rw [hcz])
        go_region_held3 (fun w' => w'.cell? ⟨b, c, none⟩ = some (hd x) ∧ w'.cell? ⟨b, a, none⟩ = some (hd y) ∧ Below wr.heap.size wr w')
          (first | exact keepS (by assumption) hb | (go_keep; done) | (go_split_ands; (repeat' apply And.intro) <;> first | (go_keep; done) | exact below_drew hb0))
          (first | (go_at_call 34; refine (C.out _ (below_drew hb0)).mono ?_; rintro e w3 ⟨rfl, hb⟩))
        have SJ3 := Lib.hid ((S1.out.drew E0.out).call E0.out hb)
        clear S1 C hb0
        go_wp2
        go_roundg (c - i)
        case measure => have := hcH.out; omega
        case rel =>
          have e := hcH.out
          refine ⟨i, c, rfl, rfl, Nat.le_refl _, SJ3, Lib.hid ?_⟩
          rw [e]
          refine Srt.sl_false O0.out P0.out.2.1 L1.out hij ?_
          rw [← e, ← hxH.out, ← hyH.out]; exact hlt2
    · have hijz : ¬ (i : Int) < (j : Int) := by omega
      have hje : j = i := by omega
      subst hje
      have wi : IntKind.i64.wrap ((j : Int) - 1) = ((j - 1 : Nat) : Int) := by have := h1H.out; rw [IntKind.wrap_i64]; omega
      obtain ⟨jp, hjp⟩ : ∃ x, x = j - 1 := ⟨_, rfl⟩
      rw [← hjp] at wi
      have hjpH := Lib.hid hjp
      clear hjp
      go_wp2
      go_loopg [13] (jp - a) (fun g2 s wr => ∃ k : Nat, a ≤ k ∧ k ≤ jp ∧ jp - k ≤ g2 ∧ s = .int .i64 k ∧ Hid (St b n Q hd (Srt.shl g a k) wr))
      case atStart => exact ⟨a, Nat.le_refl _, by have := h1H.out; have := hjpH.out; omega, Nat.le_refl _, rfl, Lib.hid (by rw [Srt.shl_zero]; exact S1.out)⟩
      case round =>
        clear S1
        obtain ⟨k, hka, hkj, hg2, rfl, S1⟩ := hrel
        by_cases hlt : k < jp
        · have hltz : (k : Int) < (jp : Int) := by omega
          have hkn : k + 1 < n := by have := hjpH.out; omega
          have S3 := S1.out.swap E0.out (i := k) (j := k + 1) (by omega) (by omega)
          rw [Srt.shl_step g hka] at S3
          have S3 := Lib.hid S3
          have c1 := (S1.out.2 k (by omega)).1
          have c2 := (S1.out.2 (k + 1) (by omega)).1
          have f1 := (S1.out.2 k (by omega)).2
          have f2 := (S1.out.2 (k + 1) (by omega)).2
          obtain ⟨u, c3⟩ := S1.out.c2 (i := k) (j := k + 1) (by omega) (by omega) (hd (Srt.shl g a k (k + 1)))
          obtain ⟨x, hx⟩ : ∃ x, x = Srt.shl g a k k := ⟨_, rfl⟩
          obtain ⟨y, hy⟩ : ∃ x, x = Srt.shl g a k (k + 1) := ⟨_, rfl⟩
          rw [← hx] at c1 S3
          rw [← hy] at c2 c3 S3
          clear hx hy S1
          have w1 : IntKind.i64.wrap ((k : Int) + 1) = ((k + 1 : Nat) : Int) := by rw [IntKind.wrap_i64]; omega
          have p1 : (k : Int) < (n : Int) := by omega
          have p2 : (((k + 1 : Nat) : Int)) < (n : Int) := by omega
          obtain ⟨ki, hki⟩ : ∃ x, x = k + 1 := ⟨_, rfl⟩
          rw [← hki] at w1 p2 c2 f2 c3 S3
          have hkiH := Lib.hid hki
          clear hki hkn
          go_wp2_with fail
          go_big_region_o
          go_wp2
          go_roundg (jp - ki)
          case measure => have := hkiH.out; omega
          case rel => have := hkiH.out; exact ⟨ki, by omega, by omega, Nat.le_refl _, by go_num, S3⟩
        · have hltz : ¬ (k : Int) < (jp : Int) := by omega
          have hke : k = jp := by omega
          subst hke
          go_wp2

          refine bodyPost_ret (v := .tuple #[]) (results_none rfl _ _ _) rfl ?_
          have hj := hjpH.out
          refine ⟨rfl, _, ?_, S1.out⟩
          rw [hj]
          exact Srt.post_left O0.out P0.out h1H.out ⟨l1, l3⟩ L1.out.2.2.2.1 L1.out.2.2.2.2
end Go.Proofs.YtflapfekfmmcmaaGreatDoor

set_option linter.unusedVariables false
namespace Go.Proofs.YtflapfekfmmcmaaGreatDoor
open Go Go.RowKit Go.Lib
set_option maxHeartbeats 1000000 in
set_option maxRecDepth 1000000 in
theorem symR {b n : Nat} {Q : World → Prop} {hd : Nat → Value} (E : Env b n Q) (hh : ∀ t, (hd t).oneCell' = true) (hn : n < 4611686018427387904) (cap : Nat) (cf : Nat → Nat → Int) (p q : Value)
    (hO : Srt.Swo (fun x y => decide (cf x y < 0))) (hcmp : ∀ w, Q w → ∀ x y, Calls Tryz.prog 34 #[hd x, hd y, p, q] w fun e w' => e = .returned (.int .i64 (cf x y)) ∧ Below w.heap.size w w')
    (g : Nat → Nat) (w : World) (S : St b n Q hd g w) (a m z : Nat) (h0 : m ≠ a + 1) (h1 : z = m + 1) (h2 : a < m) (h3 : z ≤ n) (hP : Srt.Pre (fun x y => decide (cf x y < 0)) a m z g) :
    Calls Tryz.prog 83 #[.slice (some ⟨b, 0, none⟩) n cap, .int .i64 a, .int .i64 m, .int .i64 z, .func (.func 34) #[] #[p, q]] w fun e w' => e = .returned (.tuple #[]) ∧ ∃ g', Srt.Post (fun x y => decide (cf x y < 0)) a z g g' ∧ St b n Q hd g' w' := by
  have mixed : Tryz.prog.follows .mixedOrders = true := by kernel_rfl
  have S0 := Lib.hid S
  have E0 := Lib.hid E
  have O0 := Lib.hid hO
  have P0 := Lib.hid hP
  have CM := Lib.hid hcmp
  have hcl0 := fun t => cells1 (hh t)
  simp only [Value.cells] at hcl0
  have hst := fun t a m w => run_store1 (hh t) a m w
  obtain ⟨d, hd0⟩ : ∃ d, d = m - a := ⟨_, rfl⟩
  have w0 : IntKind.i64.wrap ((m : Int) - a) = (d : Int) := by rw [IntKind.wrap_i64]; omega
  have w0' : ¬ (d : Int) = 1 := by omega
  have w0b : ((d : Int) == 1) = false := by simp only [beq_eq_false_iff_ne, ne_eq]; exact w0'
  clear hd0
  have w1 : IntKind.i64.wrap ((z : Int) - m) = 1 := by rw [IntKind.wrap_i64]; omega
  have h1H := Lib.hid h1
  have h0H := Lib.hid h0
  clear S E hh hO hcmp hP h1 h0
  go_enter Tryz.func83, Tryz.ntmps83
  go_wp2
  go_loopg [14, 15] (m - a) (fun gk s t wr => ∃ (i j : Nat), s = .int .i64 i ∧ t = .int .i64 j ∧ j - i ≤ gk ∧ Hid (St b n Q hd g wr) ∧ Hid (Srt.Sr (fun x y => decide (cf x y < 0)) a m g i j))
  case atStart => exact ⟨a, m, rfl, rfl, Nat.le_refl _, S0, Lib.hid (Srt.sr_start _ g (Nat.le_of_lt h2))⟩
  case round =>
    clear S0
    obtain ⟨i, j, rfl, rfl, hg, S1, L1⟩ := hrel
    have L2 := L1.out
    obtain ⟨l1, l2, l3, -, -⟩ := L2
    by_cases hij : i < j
    · have hijz : (i : Int) < (j : Int) := by omega
      obtain ⟨c, hc⟩ : ∃ c, c = (i + j) / 2 := ⟨_, rfl⟩
      have hcz : ((i : Int) + j) / 2 = (c : Int) := by omega
      have pc : (c : Int) < (n : Int) := by have := h1H.out; omega
      have pa : (m : Int) < (n : Int) := by have := h1H.out; omega
      have c1 := (S1.out.2 m (by have := h1H.out; omega)).1
      have c2 := (S1.out.2 c (by have := h1H.out; omega)).1
      have C := fun w' (hb : Below wr.heap.size wr w') => CM.out w' (E0.out.call _ _ S1.out.1 hb) (g m) (g c)
      obtain ⟨x, hx⟩ : ∃ x, x = g m := ⟨_, rfl⟩
      obtain ⟨y, hy⟩ : ∃ x, x = g c := ⟨_, rfl⟩
      rw [← hx] at c1 C
      rw [← hy] at c2 C
      have C := Lib.hid C
      have hcH := Lib.hid hc
      have hxH := Lib.hid hx
      have hyH := Lib.hid hy
      have hb0 := Below.refl wr.heap.size wr
      have wc : IntKind.i64.wrap ((c : Int) + 1) = ((c + 1 : Nat) : Int) := by rw [IntKind.wrap_i64]; omega
      clear hx hy hc
      by_cases hlv : cf x y < 0
      · have hlt2 : decide (cf x y < 0) = true := decide_eq_true hlv
        go_wp2_with fail
        (try rw [hcz])
        go_region_held3 (fun w' => w'.cell? ⟨b, m, none⟩ = some (hd x) ∧ w'.cell? ⟨b, c, none⟩ = some (hd y) ∧ Below wr.heap.size wr w')
          (first | exact keepS (by assumption) hb | (go_keep; done) | (go_split_ands; (repeat' apply And.intro) <;> first | (go_keep; done) | exact below_drew hb0))
          (first | (go_at_call 34; refine (C.out _ (below_drew hb0)).mono ?_; rintro e w3 ⟨rfl, hb⟩))
        have SJ3 := Lib.hid ((S1.out.drew E0.out).call E0.out hb)
        clear S1 C hb0
        go_wp2
        go_roundg (c - i)
        case measure => have := hcH.out; omega
        case rel =>
          have e := hcH.out
          refine ⟨i, c, rfl, rfl, Nat.le_refl _, SJ3, Lib.hid ?_⟩
          rw [e]
          refine Srt.sr_true O0.out P0.out.1 L1.out hij ?_
          rw [← e, ← hxH.out, ← hyH.out]; exact hlt2
      · have hlt2 : decide (cf x y < 0) = false := decide_eq_false hlv
        go_wp2_with fail
        (try rw [hcz])
        go_region_held3 (fun w' => w'.cell? ⟨b, m, none⟩ = some (hd x) ∧ w'.cell? ⟨b, c, none⟩ = some (hd y) ∧ Below wr.heap.size wr w')
          (first | exact keepS (by assumption) hb | (go_keep; done) | (go_split_ands; (repeat' apply And.intro) <;> first | (go_keep; done) | exact below_drew hb0))
          (first | (go_at_call 34; refine (C.out _ (below_drew hb0)).mono ?_; rintro e w3 ⟨rfl, hb⟩))
        have SJ3 := Lib.hid ((S1.out.drew E0.out).call E0.out hb)
        clear S1 C hb0
        go_wp2
        go_roundg (j - (c + 1))
        case measure => have := hcH.out; omega
        case rel =>
          have e := hcH.out
          refine ⟨c + 1, j, by go_num, rfl, Nat.le_refl _, SJ3, Lib.hid ?_⟩
          rw [e]
          refine Srt.sr_false O0.out P0.out.1 L1.out hij ?_
          rw [← e, ← hxH.out, ← hyH.out]; exact hlt2
    · have hijz : ¬ (i : Int) < (j : Int) := by omega
      have hje : j = i := by omega
      subst hje
      go_wp2
      go_loopg [17] (m - j) (fun g2 s wr => ∃ k : Nat, j ≤ k ∧ k ≤ m ∧ k - j ≤ g2 ∧ s = .int .i64 k ∧ Hid (St b n Q hd (Srt.shr g k m) wr))
      case atStart => exact ⟨m, by omega, Nat.le_refl _, Nat.le_refl _, rfl, Lib.hid (by rw [Srt.shr_zero]; exact S1.out)⟩
      case round =>
        clear S1
        obtain ⟨k, hka, hkj, hg2, rfl, S1⟩ := hrel
        by_cases hlt : j < k
        · have hltz : (j : Int) < (k : Int) := by omega
          have hkn : k < n := by have := h1H.out; omega
          have S3 := S1.out.swap E0.out (i := k) (j := k - 1) (by omega) (by omega)
          rw [Srt.shr_step g (by omega) hkj] at S3
          have S3 := Lib.hid S3
          have c1 := (S1.out.2 k (by omega)).1
          have c2 := (S1.out.2 (k - 1) (by omega)).1
          have f1 := (S1.out.2 k (by omega)).2
          have f2 := (S1.out.2 (k - 1) (by omega)).2
          obtain ⟨u, c3⟩ := S1.out.c2 (i := k) (j := k - 1) (by omega) (by omega) (hd (Srt.shr g k m (k - 1)))
          obtain ⟨x, hx⟩ : ∃ x, x = Srt.shr g k m k := ⟨_, rfl⟩
          obtain ⟨y, hy⟩ : ∃ x, x = Srt.shr g k m (k - 1) := ⟨_, rfl⟩
          rw [← hx] at c1 S3
          rw [← hy] at c2 c3 S3
          clear hx hy S1
          have w1 : IntKind.i64.wrap ((k : Int) - 1) = ((k - 1 : Nat) : Int) := by rw [IntKind.wrap_i64]; omega
          have p1 : (k : Int) < (n : Int) := by omega
          have p2 : (((k - 1 : Nat) : Int)) < (n : Int) := by omega
          obtain ⟨ki, hki⟩ : ∃ x, x = k - 1 := ⟨_, rfl⟩
          rw [← hki] at w1 p2 c2 f2 c3 S3
          have hkiH := Lib.hid hki
          clear hki hkn
          go_wp2_with fail
          go_big_region_o
          go_wp2
          go_roundg (ki - j)
          case measure => have := hkiH.out; omega
          case rel => have := hkiH.out; exact ⟨ki, by omega, by omega, Nat.le_refl _, by go_num, S3⟩
        · have hltz : ¬ (j : Int) < (k : Int) := by omega
          have hke : k = j := by omega
          subst hke
          go_wp2
          refine bodyPost_ret (v := .tuple #[]) (results_none rfl _ _ _) rfl ?_
          refine ⟨rfl, _, ?_, S1.out⟩
          exact Srt.post_right O0.out P0.out h1H.out ⟨l1, l3⟩ L1.out.2.2.2.1 L1.out.2.2.2.2
end Go.Proofs.YtflapfekfmmcmaaGreatDoor
