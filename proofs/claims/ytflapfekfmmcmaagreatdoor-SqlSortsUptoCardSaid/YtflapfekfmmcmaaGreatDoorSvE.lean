/- PROVED: contracts of the functions that SqlSorts reaches, and what a stable sort is (part SvE). CONDITIONS: none. -/
import Derived.Test.YtflapfekfmmcmaaGreatDoorSvD
set_option linter.unusedSimpArgs false
set_option linter.unusedVariables false
set_option linter.unusedVariables false
namespace Go.Proofs.YtflapfekfmmcmaaGreatDoor
open Go Go.RowKit Go.Lib
set_option maxHeartbeats 2000000 in
set_option maxRecDepth 1000000 in
theorem symM1 {b n : Nat} {Q : World → Prop} {hd : Nat → Value} (E : Env b n Q) (hh : ∀ t, (hd t).oneCell' = true) (hn : n < 2305843009213693952) (cap : Nat) (cf : Nat → Nat → Int) (p q : Value)
    (hO : Srt.Swo (fun x y => decide (cf x y < 0))) (hcmp : ∀ w, Q w → ∀ x y, Calls Tryz.prog 34 #[hd x, hd y, p, q] w fun e w' => e = .returned (.int .i64 (cf x y)) ∧ Below w.heap.size w w')
    (g : Nat → Nat) (w : World) (S : St b n Q hd g w) (a m z : Nat) (h0 : m ≠ a + 1) (h1 : z ≠ m + 1) (h2 : a < m) (h2' : m < z) (h3 : z ≤ n) (h4 : (a + z) / 2 < m) (hP : Srt.Pre (fun x y => decide (cf x y < 0)) a m z g)
    (IH : ∀ g w, St b n Q hd g w → ∀ a' m' z', z' - a' < z - a → a' < m' → m' < z' → z' ≤ n → Srt.Pre (fun x y => decide (cf x y < 0)) a' m' z' g → Calls Tryz.prog 83 #[.slice (some ⟨b, 0, none⟩) n cap, .int .i64 a', .int .i64 m', .int .i64 z', .func (.func 34) #[] #[p, q]] w fun e w' => e = .returned (.tuple #[]) ∧ ∃ g', Srt.Post (fun x y => decide (cf x y < 0)) a' z' g g' ∧ St b n Q hd g' w') :
    Calls Tryz.prog 83 #[.slice (some ⟨b, 0, none⟩) n cap, .int .i64 a, .int .i64 m, .int .i64 z, .func (.func 34) #[] #[p, q]] w fun e w' => e = .returned (.tuple #[]) ∧ ∃ g', Srt.Post (fun x y => decide (cf x y < 0)) a z g g' ∧ St b n Q hd g' w' := by
  have mixed : Tryz.prog.follows .mixedOrders = true := by kernel_rfl
  have RT := Lib.hid (fun g w (S : St b n Q hd g w) a m z h1 h2 h3 => rotate120 E hh (by omega) cap (.func (.func 34) #[] #[p, q]) g w S a m z h1 h2 h3)
  have S0 := Lib.hid S
  have E0 := Lib.hid E
  have O0 := Lib.hid hO
  have P0 := Lib.hid hP
  have CM := Lib.hid hcmp
  have IH0 := Lib.hid IH
  have hcl0 := fun t => cells1 (hh t)
  simp only [Value.cells] at hcl0
  have hst := fun t a m w => run_store1 (hh t) a m w
  have hlohi := Lib.hid (Srt.lo_le_hi h2 h2')
  obtain ⟨d, hd0⟩ : ∃ d, d = m - a := ⟨_, rfl⟩
  have w0 : IntKind.i64.wrap ((m : Int) - a) = (d : Int) := by rw [IntKind.wrap_i64]; omega
  have w0' : ¬ (d : Int) = 1 := by omega
  have w0b : ((d : Int) == 1) = false := by simp only [beq_eq_false_iff_ne, ne_eq]; exact w0'
  clear hd0
  obtain ⟨d2, hd2⟩ : ∃ d, d = z - m := ⟨_, rfl⟩
  have w1 : IntKind.i64.wrap ((z : Int) - m) = (d2 : Int) := by rw [IntKind.wrap_i64]; omega
  have w1' : ¬ (d2 : Int) = 1 := by omega
  have w1b : ((d2 : Int) == 1) = false := by simp only [beq_eq_false_iff_ne, ne_eq]; exact w1'
  clear hd2
  have hn2 : n < 4611686018427387904 := by omega
  obtain ⟨M, hM⟩ : ∃ M, M = (a + z) / 2 := ⟨_, rfl⟩
  have hMz : ((a : Int) + z) / 2 = (M : Int) := by omega
  obtain ⟨N, hN⟩ : ∃ N, N = M + m := ⟨_, rfl⟩
  have wN : IntKind.i64.wrap ((M : Int) + m) = (N : Int) := by rw [IntKind.wrap_i64]; omega
  obtain ⟨P, hPe⟩ : ∃ P, P = N - 1 := ⟨_, rfl⟩
  have wP : IntKind.i64.wrap ((N : Int) - 1) = (P : Int) := by rw [IntKind.wrap_i64]; omega
  have hMm : (M : Int) < (m : Int) := by omega
  obtain ⟨s0, hs0⟩ : ∃ s, s = Srt.Lo a m z := ⟨_, rfl⟩
  obtain ⟨r0, hr0⟩ : ∃ s, s = Srt.Hi a m z := ⟨_, rfl⟩
  have hsv : s0 = N - z := by rw [hs0]; unfold Srt.Lo; rw [if_pos (by omega)]; omega
  have hrv : r0 = M := by rw [hr0]; unfold Srt.Hi; rw [if_pos (by omega)]; omega
  have we0 : IntKind.i64.wrap ((N : Int) - z) = (s0 : Int) := by rw [IntKind.wrap_i64]; omega
  have hsH := Lib.hid hs0
  have hrH := Lib.hid hr0
  have hrvH := Lib.hid hrv
  clear hs0 hr0 hsv hrv h4
  have hMH := Lib.hid hM
  have hNH := Lib.hid hN
  have hPH := Lib.hid hPe
  clear S E hh hO hcmp hP h0 h1 hM hN hPe IH
  go_enter Tryz.func83, Tryz.ntmps83
  go_wp2
  go_loopg [20, 21] (r0 - s0) (fun gk s t wr => ∃ (i j : Nat), s = .int .i64 i ∧ t = .int .i64 j ∧ j - i ≤ gk ∧ Hid (St b n Q hd g wr) ∧ Hid (Srt.Srch (fun x y => decide (cf x y < 0)) a m z g i j))
  case atStart =>
    have e1 := hsH.out; have e2 := hrH.out
    exact ⟨s0, r0, rfl, by rw [hrvH.out], Nat.le_refl _, S0, Lib.hid (by rw [e1, e2]; exact Srt.srch_start _ g h2 h2')⟩
  case round =>
    clear S0
    obtain ⟨i, j, rfl, rfl, hg, S1, L1⟩ := hrel
    by_cases hij : i < j
    · have hijz : (i : Int) < (j : Int) := by omega
      obtain ⟨c, hc⟩ : ∃ c, c = (i + j) / 2 := ⟨_, rfl⟩
      have IN : a ≤ c ∧ c < m ∧ m ≤ (a + z) / 2 + m - 1 - c ∧ (a + z) / 2 + m - 1 - c < z := Srt.srch_in h2 h2' (by have := L1.out.1; omega) (by have := L1.out.2.2.1; omega)
      have ipj : i + j < 4611686018427387904 := by have := L1.out.2.2.1; have := L1.out.2.1; have hh : Srt.Hi a m z ≤ m := (by unfold Srt.Hi; split <;> omega); omega
      have hcz : ((i : Int) + j) / 2 = (c : Int) := by omega
      obtain ⟨o, ho⟩ : ∃ o, o = P - c := ⟨_, rfl⟩
      have hoe : (a + z) / 2 + m - 1 - c = o := by have := hMH.out; have := hNH.out; have := hPH.out; omega
      rw [hoe] at IN
      obtain ⟨in1, in2, in3, in4⟩ := IN
      have wo : IntKind.i64.wrap ((P : Int) - c) = (o : Int) := by have := hPH.out; have := hNH.out; rw [IntKind.wrap_i64]; omega
      have pc : (c : Int) < (n : Int) := by omega
      have pa : (o : Int) < (n : Int) := by omega
      have c1 := (S1.out.2 o (by omega)).1
      have c2 := (S1.out.2 c (by omega)).1
      have C := fun w' (hb : Below wr.heap.size wr w') => CM.out w' (E0.out.call _ _ S1.out.1 hb) (g o) (g c)
      obtain ⟨x, hx⟩ : ∃ x, x = g o := ⟨_, rfl⟩
      obtain ⟨y, hy⟩ : ∃ x, x = g c := ⟨_, rfl⟩
      rw [← hx] at c1 C
      rw [← hy] at c2 C
      have C := Lib.hid C
      have hcH := Lib.hid hc
      have hoH := Lib.hid hoe
      have hxH := Lib.hid hx
      have hyH := Lib.hid hy
      have hb0 := Below.refl wr.heap.size wr
      have wc : IntKind.i64.wrap ((c : Int) + 1) = ((c + 1 : Nat) : Int) := by rw [IntKind.wrap_i64]; omega
      clear hx hy hc ho hoe
      by_cases hlv : cf x y < 0
      · have hlt2 : decide (cf x y < 0) = true := decide_eq_true hlv
        go_wp2_with fail
        (try rw [hcz])
        go_region_held3 (fun w' => w'.cell? ⟨b, o, none⟩ = some (hd x) ∧ w'.cell? ⟨b, c, none⟩ = some (hd y) ∧ Below wr.heap.size wr w')
          (first | exact keepS (by assumption) hb | (go_keep; done) | (go_split_ands; (repeat' apply And.intro) <;> first | (go_keep; done) | exact below_drew hb0))
          (first | (go_at_call 34; refine (C.out _ (below_drew hb0)).mono ?_; rintro e w3 ⟨rfl, hb⟩))
        have SJ3 := Lib.hid ((S1.out.drew E0.out).call E0.out hb)
        clear S1 C hb0
        go_wp2
        go_roundg (c - i)
        case measure => have := hcH.out; omega
        case rel =>
          have e := hcH.out
          refine ⟨i, c, rfl, rfl, Nat.le_refl _, SJ3, Lib.hid ?_⟩
          rw [e]
          refine Srt.srch_true O0.out P0.out h2 h2' L1.out hij ?_
          rw [← e, hoH.out, ← hxH.out, ← hyH.out]; exact hlt2
      · have hlt2 : decide (cf x y < 0) = false := decide_eq_false hlv
        go_wp2_with fail
        (try rw [hcz])
        go_region_held3 (fun w' => w'.cell? ⟨b, o, none⟩ = some (hd x) ∧ w'.cell? ⟨b, c, none⟩ = some (hd y) ∧ Below wr.heap.size wr w')
          (first | exact keepS (by assumption) hb | (go_keep; done) | (go_split_ands; (repeat' apply And.intro) <;> first | (go_keep; done) | exact below_drew hb0))
          (first | (go_at_call 34; refine (C.out _ (below_drew hb0)).mono ?_; rintro e w3 ⟨rfl, hb⟩))
        have SJ3 := Lib.hid ((S1.out.drew E0.out).call E0.out hb)
        clear S1 C hb0
        go_wp2
        go_roundg (j - (c + 1))
        case measure => have := hcH.out; omega
        case rel =>
          have e := hcH.out
          refine ⟨c + 1, j, by go_num, rfl, Nat.le_refl _, SJ3, Lib.hid ?_⟩
          rw [e]
          refine Srt.srch_false O0.out P0.out h2 h2' L1.out hij ?_
          rw [← e, hoH.out, ← hxH.out, ← hyH.out]; exact hlt2
    · have hijz : ¬ (i : Int) < (j : Int) := by omega
      have hje : j = i := by have := L1.out.2.1; omega
      subst hje
      have EN := Srt.srch_end h2 h2' L1.out
      have SP := Srt.srch_split O0.out P0.out h2 h2' L1.out
      rw [← hMH.out] at EN SP
      obtain ⟨e, he⟩ : ∃ e, e = M + m - j := ⟨_, rfl⟩
      rw [← he] at EN SP
      obtain ⟨e1, e2, e3, e4, e5, e6⟩ := EN
      have we : IntKind.i64.wrap ((N : Int) - j) = (e : Int) := by have := hNH.out; rw [IntKind.wrap_i64]; omega
      have hAM : j < m ↔ M < e := by omega
      have hBM : m < e ↔ j < M := by omega
      have m1 : M - a < z - a := by have := hMH.out; omega
      have m2 : z - M < z - a := by have := hMH.out; omega
      have m3 : a ≤ M := by have := hMH.out; omega
      have m4 : M ≤ z := by have := hMH.out; omega
      clear hij hijz we0 hg L1 he
      have SP := Lib.hid SP
      by_cases hcA : j < m
      · skip
        by_cases hcB : m < e
        · skip
          by_cases hcC : a < j
          · skip
            by_cases hcD : e < z
            · skip
              have hAz : (j : Int) < (m : Int) := by omega
              have hA2z : (M : Int) < (e : Int) := by omega
              have hBz : (m : Int) < (e : Int) := by omega
              have hB2z : (j : Int) < (M : Int) := by omega
              have hCz : (a : Int) < (j : Int) := by omega
              have hDz : (e : Int) < (z : Int) := by omega
              have C0 := Lib.hid (RT.out g _ S1.out j m e (by omega) (by omega) (by omega))
              clear hAM hBM hcA hcB hcC hcD
              go_wp2_with (first | (go_at_call 120; refine C0.out.mono ?_; clear C0; rintro _ w1 ⟨rfl, S2⟩; have S2 := Lib.hid S2) | (go_at_call 83; have _k := m1; clear m1; refine (IH0.out (Srt.rot g j m e) _ S2.out a j M _k (by omega) (by omega) (by omega) SP.out.1).mono ?_; rintro _ w2 ⟨rfl, g2, PG2, S3⟩; have S3 := Lib.hid S3; have PG2 := Lib.hid PG2) | (go_at_call 83; have _k := m2; clear m2; refine (IH0.out g2 _ S3.out M e z _k (by omega) (by omega) (by omega) (SP.out.2.1.congr (fun i k1 k2 => PG2.out.1.1 i (by omega)) (by omega) (by omega))).mono ?_; rintro _ w3 ⟨rfl, g3, PG3, S4⟩; have S4 := Lib.hid S4; have PG3 := Lib.hid PG3))
              all_goals (go_end0; exact ⟨rfl, _, Srt.post_mid m3 m4 ((Srt.same_rot g (by omega) (by omega)).mono (by omega) (by omega)) SP.out.2.2 PG2.out PG3.out, S4.out⟩)
            · skip
              have hAz : (j : Int) < (m : Int) := by omega
              have hA2z : (M : Int) < (e : Int) := by omega
              have hBz : (m : Int) < (e : Int) := by omega
              have hB2z : (j : Int) < (M : Int) := by omega
              have hCz : (a : Int) < (j : Int) := by omega
              have hDz : ¬ (e : Int) < (z : Int) := by omega
              have C0 := Lib.hid (RT.out g _ S1.out j m e (by omega) (by omega) (by omega))
              clear hAM hBM hcA hcB hcC hcD
              go_wp2_with (first | (go_at_call 120; refine C0.out.mono ?_; clear C0; rintro _ w1 ⟨rfl, S2⟩; have S2 := Lib.hid S2) | (go_at_call 83; have _k := m1; clear m1; refine (IH0.out (Srt.rot g j m e) _ S2.out a j M _k (by omega) (by omega) (by omega) SP.out.1).mono ?_; rintro _ w2 ⟨rfl, g2, PG2, S3⟩; have S3 := Lib.hid S3; have PG2 := Lib.hid PG2))
              all_goals (go_end0; exact ⟨rfl, _, Srt.post_mid m3 m4 ((Srt.same_rot g (by omega) (by omega)).mono (by omega) (by omega)) SP.out.2.2 PG2.out ((SP.out.2.1.congr (fun i k1 k2 => PG2.out.1.1 i (by omega)) (by omega) (by omega)).skip (by omega) (by omega) (by omega)), S3.out⟩)
          · skip
            by_cases hcD : e < z
            · skip
              have hAz : (j : Int) < (m : Int) := by omega
              have hA2z : (M : Int) < (e : Int) := by omega
              have hBz : (m : Int) < (e : Int) := by omega
              have hB2z : (j : Int) < (M : Int) := by omega
              have hCz : ¬ (a : Int) < (j : Int) := by omega
              have hDz : (e : Int) < (z : Int) := by omega
              have C0 := Lib.hid (RT.out g _ S1.out j m e (by omega) (by omega) (by omega))
              clear hAM hBM hcA hcB hcC hcD
              go_wp2_with (first | (go_at_call 120; refine C0.out.mono ?_; clear C0; rintro _ w1 ⟨rfl, S2⟩; have S2 := Lib.hid S2) | (go_at_call 83; have _k := m2; clear m2; refine (IH0.out (Srt.rot g j m e) _ S2.out M e z _k (by omega) (by omega) (by omega) SP.out.2.1).mono ?_; rintro _ w3 ⟨rfl, g3, PG3, S4⟩; have S4 := Lib.hid S4; have PG3 := Lib.hid PG3))
              all_goals (go_end0; exact ⟨rfl, _, Srt.post_mid m3 m4 ((Srt.same_rot g (by omega) (by omega)).mono (by omega) (by omega)) SP.out.2.2 (SP.out.1.skip (by omega) (by omega) (by omega)) PG3.out, S4.out⟩)
            · skip
              have hAz : (j : Int) < (m : Int) := by omega
              have hA2z : (M : Int) < (e : Int) := by omega
              have hBz : (m : Int) < (e : Int) := by omega
              have hB2z : (j : Int) < (M : Int) := by omega
              have hCz : ¬ (a : Int) < (j : Int) := by omega
              have hDz : ¬ (e : Int) < (z : Int) := by omega
              have C0 := Lib.hid (RT.out g _ S1.out j m e (by omega) (by omega) (by omega))
              clear hAM hBM hcA hcB hcC hcD
              go_wp2_with (first | (go_at_call 120; refine C0.out.mono ?_; clear C0; rintro _ w1 ⟨rfl, S2⟩; have S2 := Lib.hid S2))
              all_goals (go_end0; exact ⟨rfl, _, Srt.post_mid m3 m4 ((Srt.same_rot g (by omega) (by omega)).mono (by omega) (by omega)) SP.out.2.2 (SP.out.1.skip (by omega) (by omega) (by omega)) (SP.out.2.1.skip (by omega) (by omega) (by omega)), S2.out⟩)
        · skip
          by_cases hcC : a < j
          · skip
            by_cases hcD : e < z
            · skip
              have hAz : (j : Int) < (m : Int) := by omega
              have hA2z : (M : Int) < (e : Int) := by omega
              have hBz : ¬ (m : Int) < (e : Int) := by omega
              have hB2z : ¬ (j : Int) < (M : Int) := by omega
              have hCz : (a : Int) < (j : Int) := by omega
              have hDz : (e : Int) < (z : Int) := by omega
              have RN : Srt.rot g j m e = g := Srt.rot_none g (.inr ⟨by omega, by omega⟩)
              have SP1 := SP.out
              rw [RN] at SP1
              have SP := Lib.hid SP1
              clear SP1 RN
              clear hAM hBM hcA hcB hcC hcD
              go_wp2_with (first | (go_at_call 83; have _k := m2; clear m2; refine (IH0.out g _ S1.out M e z _k (by omega) (by omega) (by omega) SP.out.2.1).mono ?_; rintro _ w3 ⟨rfl, g3, PG3, S4⟩; have S4 := Lib.hid S4; have PG3 := Lib.hid PG3))
              all_goals (go_end0; exact ⟨rfl, _, Srt.post_mid m3 m4 (Srt.Same.refl _ _ _) SP.out.2.2 (SP.out.1.skip (by omega) (by omega) (by omega)) PG3.out, S4.out⟩)
            · skip
              have hAz : (j : Int) < (m : Int) := by omega
              have hA2z : (M : Int) < (e : Int) := by omega
              have hBz : ¬ (m : Int) < (e : Int) := by omega
              have hB2z : ¬ (j : Int) < (M : Int) := by omega
              have hCz : (a : Int) < (j : Int) := by omega
              have hDz : ¬ (e : Int) < (z : Int) := by omega
              have RN : Srt.rot g j m e = g := Srt.rot_none g (.inr ⟨by omega, by omega⟩)
              have SP1 := SP.out
              rw [RN] at SP1
              have SP := Lib.hid SP1
              clear SP1 RN
              clear hAM hBM hcA hcB hcC hcD
              go_wp2
              all_goals (go_end0; exact ⟨rfl, _, Srt.post_mid m3 m4 (Srt.Same.refl _ _ _) SP.out.2.2 (SP.out.1.skip (by omega) (by omega) (by omega)) (SP.out.2.1.skip (by omega) (by omega) (by omega)), S1.out⟩)
          · skip
            by_cases hcD : e < z
            · skip
              have hAz : (j : Int) < (m : Int) := by omega
              have hA2z : (M : Int) < (e : Int) := by omega
              have hBz : ¬ (m : Int) < (e : Int) := by omega
              have hB2z : ¬ (j : Int) < (M : Int) := by omega
              have hCz : ¬ (a : Int) < (j : Int) := by omega
              have hDz : (e : Int) < (z : Int) := by omega
              have RN : Srt.rot g j m e = g := Srt.rot_none g (.inr ⟨by omega, by omega⟩)
              have SP1 := SP.out
              rw [RN] at SP1
              have SP := Lib.hid SP1
              clear SP1 RN
              clear hAM hBM hcA hcB hcC hcD
              go_wp2_with (first | (go_at_call 83; have _k := m2; clear m2; refine (IH0.out g _ S1.out M e z _k (by omega) (by omega) (by omega) SP.out.2.1).mono ?_; rintro _ w3 ⟨rfl, g3, PG3, S4⟩; have S4 := Lib.hid S4; have PG3 := Lib.hid PG3))
              all_goals (go_end0; exact ⟨rfl, _, Srt.post_mid m3 m4 (Srt.Same.refl _ _ _) SP.out.2.2 (SP.out.1.skip (by omega) (by omega) (by omega)) PG3.out, S4.out⟩)
            · skip
              have hAz : (j : Int) < (m : Int) := by omega
              have hA2z : (M : Int) < (e : Int) := by omega
              have hBz : ¬ (m : Int) < (e : Int) := by omega
              have hB2z : ¬ (j : Int) < (M : Int) := by omega
              have hCz : ¬ (a : Int) < (j : Int) := by omega
              have hDz : ¬ (e : Int) < (z : Int) := by omega
              have RN : Srt.rot g j m e = g := Srt.rot_none g (.inr ⟨by omega, by omega⟩)
              have SP1 := SP.out
              rw [RN] at SP1
              have SP := Lib.hid SP1
              clear SP1 RN
              clear hAM hBM hcA hcB hcC hcD
              go_wp2
              all_goals (go_end0; exact ⟨rfl, _, Srt.post_mid m3 m4 (Srt.Same.refl _ _ _) SP.out.2.2 (SP.out.1.skip (by omega) (by omega) (by omega)) (SP.out.2.1.skip (by omega) (by omega) (by omega)), S1.out⟩)
      · skip
        by_cases hcB : m < e
        · skip
          by_cases hcC : a < j
          · skip
            have hAz : ¬ (j : Int) < (m : Int) := by omega
            have hA2z : ¬ (M : Int) < (e : Int) := by omega
            have hBz : (m : Int) < (e : Int) := by omega
            have hB2z : (j : Int) < (M : Int) := by omega
            have hCz : (a : Int) < (j : Int) := by omega
            have RN : Srt.rot g j m e = g := Srt.rot_none g (.inl ⟨by omega, by omega⟩)
            have SP1 := SP.out
            rw [RN] at SP1
            have SP := Lib.hid SP1
            clear SP1 RN
            clear hAM hBM hcA hcB hcC
            go_wp2_with (first | (go_at_call 83; have _k := m1; clear m1; refine (IH0.out g _ S1.out a j M _k (by omega) (by omega) (by omega) SP.out.1).mono ?_; rintro _ w2 ⟨rfl, g2, PG2, S3⟩; have S3 := Lib.hid S3; have PG2 := Lib.hid PG2))
            all_goals (go_end0; exact ⟨rfl, _, Srt.post_mid m3 m4 (Srt.Same.refl _ _ _) SP.out.2.2 PG2.out ((SP.out.2.1.congr (fun i k1 k2 => PG2.out.1.1 i (by omega)) (by omega) (by omega)).skip (by omega) (by omega) (by omega)), S3.out⟩)
          · skip
            have hAz : ¬ (j : Int) < (m : Int) := by omega
            have hA2z : ¬ (M : Int) < (e : Int) := by omega
            have hBz : (m : Int) < (e : Int) := by omega
            have hB2z : (j : Int) < (M : Int) := by omega
            have hCz : ¬ (a : Int) < (j : Int) := by omega
            have RN : Srt.rot g j m e = g := Srt.rot_none g (.inl ⟨by omega, by omega⟩)
            have SP1 := SP.out
            rw [RN] at SP1
            have SP := Lib.hid SP1
            clear SP1 RN
            clear hAM hBM hcA hcB hcC
            go_wp2
            all_goals (go_end0; exact ⟨rfl, _, Srt.post_mid m3 m4 (Srt.Same.refl _ _ _) SP.out.2.2 (SP.out.1.skip (by omega) (by omega) (by omega)) (SP.out.2.1.skip (by omega) (by omega) (by omega)), S1.out⟩)
        · skip
          by_cases hcC : a < j
          · skip
            have hAz : ¬ (j : Int) < (m : Int) := by omega
            have hA2z : ¬ (M : Int) < (e : Int) := by omega
            have hBz : ¬ (m : Int) < (e : Int) := by omega
            have hB2z : ¬ (j : Int) < (M : Int) := by omega
            have hCz : (a : Int) < (j : Int) := by omega
            have RN : Srt.rot g j m e = g := Srt.rot_none g (.inl ⟨by omega, by omega⟩)
            have SP1 := SP.out
            rw [RN] at SP1
            have SP := Lib.hid SP1
            clear SP1 RN
            clear hAM hBM hcA hcB hcC
            go_wp2
            all_goals (go_end0; exact ⟨rfl, _, Srt.post_mid m3 m4 (Srt.Same.refl _ _ _) SP.out.2.2 (SP.out.1.skip (by omega) (by omega) (by omega)) (SP.out.2.1.skip (by omega) (by omega) (by omega)), S1.out⟩)
          · skip
            have hAz : ¬ (j : Int) < (m : Int) := by omega
            have hA2z : ¬ (M : Int) < (e : Int) := by omega
            have hBz : ¬ (m : Int) < (e : Int) := by omega
            have hB2z : ¬ (j : Int) < (M : Int) := by omega
            have hCz : ¬ (a : Int) < (j : Int) := by omega
            have RN : Srt.rot g j m e = g := Srt.rot_none g (.inl ⟨by omega, by omega⟩)
            have SP1 := SP.out
            rw [RN] at SP1
            have SP := Lib.hid SP1
            clear SP1 RN
            clear hAM hBM hcA hcB hcC
            go_wp2
            all_goals (go_end0; exact ⟨rfl, _, Srt.post_mid m3 m4 (Srt.Same.refl _ _ _) SP.out.2.2 (SP.out.1.skip (by omega) (by omega) (by omega)) (SP.out.2.1.skip (by omega) (by omega) (by omega)), S1.out⟩)
end Go.Proofs.YtflapfekfmmcmaaGreatDoor

set_option linter.unusedVariables false
namespace Go.Proofs.YtflapfekfmmcmaaGreatDoor
open Go Go.RowKit Go.Lib
set_option maxHeartbeats 2000000 in
set_option maxRecDepth 1000000 in
theorem symM2 {b n : Nat} {Q : World → Prop} {hd : Nat → Value} (E : Env b n Q) (hh : ∀ t, (hd t).oneCell' = true) (hn : n < 2305843009213693952) (cap : Nat) (cf : Nat → Nat → Int) (p q : Value)
    (hO : Srt.Swo (fun x y => decide (cf x y < 0))) (hcmp : ∀ w, Q w → ∀ x y, Calls Tryz.prog 34 #[hd x, hd y, p, q] w fun e w' => e = .returned (.int .i64 (cf x y)) ∧ Below w.heap.size w w')
    (g : Nat → Nat) (w : World) (S : St b n Q hd g w) (a m z : Nat) (h0 : m ≠ a + 1) (h1 : z ≠ m + 1) (h2 : a < m) (h2' : m < z) (h3 : z ≤ n) (h4 : ¬ (a + z) / 2 < m) (hP : Srt.Pre (fun x y => decide (cf x y < 0)) a m z g)
    (IH : ∀ g w, St b n Q hd g w → ∀ a' m' z', z' - a' < z - a → a' < m' → m' < z' → z' ≤ n → Srt.Pre (fun x y => decide (cf x y < 0)) a' m' z' g → Calls Tryz.prog 83 #[.slice (some ⟨b, 0, none⟩) n cap, .int .i64 a', .int .i64 m', .int .i64 z', .func (.func 34) #[] #[p, q]] w fun e w' => e = .returned (.tuple #[]) ∧ ∃ g', Srt.Post (fun x y => decide (cf x y < 0)) a' z' g g' ∧ St b n Q hd g' w') :
    Calls Tryz.prog 83 #[.slice (some ⟨b, 0, none⟩) n cap, .int .i64 a, .int .i64 m, .int .i64 z, .func (.func 34) #[] #[p, q]] w fun e w' => e = .returned (.tuple #[]) ∧ ∃ g', Srt.Post (fun x y => decide (cf x y < 0)) a z g g' ∧ St b n Q hd g' w' := by
  have mixed : Tryz.prog.follows .mixedOrders = true := by kernel_rfl
  have RT := Lib.hid (fun g w (S : St b n Q hd g w) a m z h1 h2 h3 => rotate120 E hh (by omega) cap (.func (.func 34) #[] #[p, q]) g w S a m z h1 h2 h3)
  have S0 := Lib.hid S
  have E0 := Lib.hid E
  have O0 := Lib.hid hO
  have P0 := Lib.hid hP
  have CM := Lib.hid hcmp
  have IH0 := Lib.hid IH
  have hcl0 := fun t => cells1 (hh t)
  simp only [Value.cells] at hcl0
  have hst := fun t a m w => run_store1 (hh t) a m w
  have hlohi := Lib.hid (Srt.lo_le_hi h2 h2')
  obtain ⟨d, hd0⟩ : ∃ d, d = m - a := ⟨_, rfl⟩
  have w0 : IntKind.i64.wrap ((m : Int) - a) = (d : Int) := by rw [IntKind.wrap_i64]; omega
  have w0' : ¬ (d : Int) = 1 := by omega
  have w0b : ((d : Int) == 1) = false := by simp only [beq_eq_false_iff_ne, ne_eq]; exact w0'
  clear hd0
  obtain ⟨d2, hd2⟩ : ∃ d, d = z - m := ⟨_, rfl⟩
  have w1 : IntKind.i64.wrap ((z : Int) - m) = (d2 : Int) := by rw [IntKind.wrap_i64]; omega
  have w1' : ¬ (d2 : Int) = 1 := by omega
  have w1b : ((d2 : Int) == 1) = false := by simp only [beq_eq_false_iff_ne, ne_eq]; exact w1'
  clear hd2
  have hn2 : n < 4611686018427387904 := by omega
  obtain ⟨M, hM⟩ : ∃ M, M = (a + z) / 2 := ⟨_, rfl⟩
  have hMz : ((a : Int) + z) / 2 = (M : Int) := by omega
  obtain ⟨N, hN⟩ : ∃ N, N = M + m := ⟨_, rfl⟩
  have wN : IntKind.i64.wrap ((M : Int) + m) = (N : Int) := by rw [IntKind.wrap_i64]; omega
  obtain ⟨P, hPe⟩ : ∃ P, P = N - 1 := ⟨_, rfl⟩
  have wP : IntKind.i64.wrap ((N : Int) - 1) = (P : Int) := by rw [IntKind.wrap_i64]; omega
  have hMm : ¬ (M : Int) < (m : Int) := by omega
  obtain ⟨s0, hs0⟩ : ∃ s, s = Srt.Lo a m z := ⟨_, rfl⟩
  obtain ⟨r0, hr0⟩ : ∃ s, s = Srt.Hi a m z := ⟨_, rfl⟩
  have hsv : s0 = a := by rw [hs0]; unfold Srt.Lo; rw [if_neg (by omega)]
  have hrv : r0 = m := by rw [hr0]; unfold Srt.Hi; rw [if_neg (by omega)]
  have we0 : True := trivial
  have hsH := Lib.hid hs0
  have hrH := Lib.hid hr0
  have hrvH := Lib.hid hrv
  have hsvH := Lib.hid hsv
  clear hs0 hr0 hsv hrv h4
  have hMH := Lib.hid hM
  have hNH := Lib.hid hN
  have hPH := Lib.hid hPe
  clear S E hh hO hcmp hP h0 h1 hM hN hPe IH
  go_enter Tryz.func83, Tryz.ntmps83
  go_wp2
  go_loopg [20, 21] (r0 - s0) (fun gk s t wr => ∃ (i j : Nat), s = .int .i64 i ∧ t = .int .i64 j ∧ j - i ≤ gk ∧ Hid (St b n Q hd g wr) ∧ Hid (Srt.Srch (fun x y => decide (cf x y < 0)) a m z g i j))
  case atStart =>
    have e1 := hsH.out; have e2 := hrH.out
    exact ⟨s0, r0, by rw [hsvH.out], by rw [hrvH.out], Nat.le_refl _, S0, Lib.hid (by rw [e1, e2]; exact Srt.srch_start _ g h2 h2')⟩
  case round =>
    clear S0
    obtain ⟨i, j, rfl, rfl, hg, S1, L1⟩ := hrel
    by_cases hij : i < j
    · have hijz : (i : Int) < (j : Int) := by omega
      obtain ⟨c, hc⟩ : ∃ c, c = (i + j) / 2 := ⟨_, rfl⟩
      have IN : a ≤ c ∧ c < m ∧ m ≤ (a + z) / 2 + m - 1 - c ∧ (a + z) / 2 + m - 1 - c < z := Srt.srch_in h2 h2' (by have := L1.out.1; omega) (by have := L1.out.2.2.1; omega)
      have ipj : i + j < 4611686018427387904 := by have := L1.out.2.2.1; have := L1.out.2.1; have hh : Srt.Hi a m z ≤ m := (by unfold Srt.Hi; split <;> omega); omega
      have hcz : ((i : Int) + j) / 2 = (c : Int) := by omega
      obtain ⟨o, ho⟩ : ∃ o, o = P - c := ⟨_, rfl⟩
      have hoe : (a + z) / 2 + m - 1 - c = o := by have := hMH.out; have := hNH.out; have := hPH.out; omega
      rw [hoe] at IN
      obtain ⟨in1, in2, in3, in4⟩ := IN
      have wo : IntKind.i64.wrap ((P : Int) - c) = (o : Int) := by have := hPH.out; have := hNH.out; rw [IntKind.wrap_i64]; omega
      have pc : (c : Int) < (n : Int) := by omega
      have pa : (o : Int) < (n : Int) := by omega
      have c1 := (S1.out.2 o (by omega)).1
      have c2 := (S1.out.2 c (by omega)).1
      have C := fun w' (hb : Below wr.heap.size wr w') => CM.out w' (E0.out.call _ _ S1.out.1 hb) (g o) (g c)
      obtain ⟨x, hx⟩ : ∃ x, x = g o := ⟨_, rfl⟩
      obtain ⟨y, hy⟩ : ∃ x, x = g c := ⟨_, rfl⟩
      rw [← hx] at c1 C
      rw [← hy] at c2 C
      have C := Lib.hid C
      have hcH := Lib.hid hc
      have hoH := Lib.hid hoe
      have hxH := Lib.hid hx
      have hyH := Lib.hid hy
      have hb0 := Below.refl wr.heap.size wr
      have wc : IntKind.i64.wrap ((c : Int) + 1) = ((c + 1 : Nat) : Int) := by rw [IntKind.wrap_i64]; omega
      clear hx hy hc ho hoe
      by_cases hlv : cf x y < 0
      · have hlt2 : decide (cf x y < 0) = true := decide_eq_true hlv
        go_wp2_with fail
        (try rw [hcz])
        go_region_held3 (fun w' => w'.cell? ⟨b, o, none⟩ = some (hd x) ∧ w'.cell? ⟨b, c, none⟩ = some (hd y) ∧ Below wr.heap.size wr w')
          (first | exact keepS (by assumption) hb | (go_keep; done) | (go_split_ands; (repeat' apply And.intro) <;> first | (go_keep; done) | exact below_drew hb0))
          (first | (go_at_call 34; refine (C.out _ (below_drew hb0)).mono ?_; rintro e w3 ⟨rfl, hb⟩))
        have SJ3 := Lib.hid ((S1.out.drew E0.out).call E0.out hb)
        clear S1 C hb0
        go_wp2
        go_roundg (c - i)
        case measure => have := hcH.out; omega
        case rel =>
          have e := hcH.out
          refine ⟨i, c, rfl, rfl, Nat.le_refl _, SJ3, Lib.hid ?_⟩
          rw [e]
          refine Srt.srch_true O0.out P0.out h2 h2' L1.out hij ?_
          rw [← e, hoH.out, ← hxH.out, ← hyH.out]; exact hlt2
      · have hlt2 : decide (cf x y < 0) = false := decide_eq_false hlv
        go_wp2_with fail
        (try rw [hcz])
        go_region_held3 (fun w' => w'.cell? ⟨b, o, none⟩ = some (hd x) ∧ w'.cell? ⟨b, c, none⟩ = some (hd y) ∧ Below wr.heap.size wr w')
          (first | exact keepS (by assumption) hb | (go_keep; done) | (go_split_ands; (repeat' apply And.intro) <;> first | (go_keep; done) | exact below_drew hb0))
          (first | (go_at_call 34; refine (C.out _ (below_drew hb0)).mono ?_; rintro e w3 ⟨rfl, hb⟩))
        have SJ3 := Lib.hid ((S1.out.drew E0.out).call E0.out hb)
        clear S1 C hb0
        go_wp2
        go_roundg (j - (c + 1))
        case measure => have := hcH.out; omega
        case rel =>
          have e := hcH.out
          refine ⟨c + 1, j, by go_num, rfl, Nat.le_refl _, SJ3, Lib.hid ?_⟩
          rw [e]
          refine Srt.srch_false O0.out P0.out h2 h2' L1.out hij ?_
          rw [← e, hoH.out, ← hxH.out, ← hyH.out]; exact hlt2
    · have hijz : ¬ (i : Int) < (j : Int) := by omega
      have hje : j = i := by have := L1.out.2.1; omega
      subst hje
      have EN := Srt.srch_end h2 h2' L1.out
      have SP := Srt.srch_split O0.out P0.out h2 h2' L1.out
      rw [← hMH.out] at EN SP
      obtain ⟨e, he⟩ : ∃ e, e = M + m - j := ⟨_, rfl⟩
      rw [← he] at EN SP
      obtain ⟨e1, e2, e3, e4, e5, e6⟩ := EN
      have we : IntKind.i64.wrap ((N : Int) - j) = (e : Int) := by have := hNH.out; rw [IntKind.wrap_i64]; omega
      have hAM : j < m ↔ M < e := by omega
      have hBM : m < e ↔ j < M := by omega
      have m1 : M - a < z - a := by have := hMH.out; omega
      have m2 : z - M < z - a := by have := hMH.out; omega
      have m3 : a ≤ M := by have := hMH.out; omega
      have m4 : M ≤ z := by have := hMH.out; omega
      clear hij hijz we0 hg L1 he
      have SP := Lib.hid SP
      by_cases hcA : j < m
      · skip
        by_cases hcB : m < e
        · skip
          by_cases hcC : a < j
          · skip
            by_cases hcD : e < z
            · skip
              have hAz : (j : Int) < (m : Int) := by omega
              have hA2z : (M : Int) < (e : Int) := by omega
              have hBz : (m : Int) < (e : Int) := by omega
              have hB2z : (j : Int) < (M : Int) := by omega
              have hCz : (a : Int) < (j : Int) := by omega
              have hDz : (e : Int) < (z : Int) := by omega
              have C0 := Lib.hid (RT.out g _ S1.out j m e (by omega) (by omega) (by omega))
              clear hAM hBM hcA hcB hcC hcD
              go_wp2_with (first | (go_at_call 120; refine C0.out.mono ?_; clear C0; rintro _ w1 ⟨rfl, S2⟩; have S2 := Lib.hid S2) | (go_at_call 83; have _k := m1; clear m1; refine (IH0.out (Srt.rot g j m e) _ S2.out a j M _k (by omega) (by omega) (by omega) SP.out.1).mono ?_; rintro _ w2 ⟨rfl, g2, PG2, S3⟩; have S3 := Lib.hid S3; have PG2 := Lib.hid PG2) | (go_at_call 83; have _k := m2; clear m2; refine (IH0.out g2 _ S3.out M e z _k (by omega) (by omega) (by omega) (SP.out.2.1.congr (fun i k1 k2 => PG2.out.1.1 i (by omega)) (by omega) (by omega))).mono ?_; rintro _ w3 ⟨rfl, g3, PG3, S4⟩; have S4 := Lib.hid S4; have PG3 := Lib.hid PG3))
              all_goals (go_end0; exact ⟨rfl, _, Srt.post_mid m3 m4 ((Srt.same_rot g (by omega) (by omega)).mono (by omega) (by omega)) SP.out.2.2 PG2.out PG3.out, S4.out⟩)
            · skip
              have hAz : (j : Int) < (m : Int) := by omega
              have hA2z : (M : Int) < (e : Int) := by omega
              have hBz : (m : Int) < (e : Int) := by omega
              have hB2z : (j : Int) < (M : Int) := by omega
              have hCz : (a : Int) < (j : Int) := by omega
              have hDz : ¬ (e : Int) < (z : Int) := by omega
              have C0 := Lib.hid (RT.out g _ S1.out j m e (by omega) (by omega) (by omega))
              clear hAM hBM hcA hcB hcC hcD
              go_wp2_with (first | (go_at_call 120; refine C0.out.mono ?_; clear C0; rintro _ w1 ⟨rfl, S2⟩; have S2 := Lib.hid S2) | (go_at_call 83; have _k := m1; clear m1; refine (IH0.out (Srt.rot g j m e) _ S2.out a j M _k (by omega) (by omega) (by omega) SP.out.1).mono ?_; rintro _ w2 ⟨rfl, g2, PG2, S3⟩; have S3 := Lib.hid S3; have PG2 := Lib.hid PG2))
              all_goals (go_end0; exact ⟨rfl, _, Srt.post_mid m3 m4 ((Srt.same_rot g (by omega) (by omega)).mono (by omega) (by omega)) SP.out.2.2 PG2.out ((SP.out.2.1.congr (fun i k1 k2 => PG2.out.1.1 i (by omega)) (by omega) (by omega)).skip (by omega) (by omega) (by omega)), S3.out⟩)
          · skip
            by_cases hcD : e < z
            · skip
              have hAz : (j : Int) < (m : Int) := by omega
              have hA2z : (M : Int) < (e : Int) := by omega
              have hBz : (m : Int) < (e : Int) := by omega
              have hB2z : (j : Int) < (M : Int) := by omega
              have hCz : ¬ (a : Int) < (j : Int) := by omega
              have hDz : (e : Int) < (z : Int) := by omega
              have C0 := Lib.hid (RT.out g _ S1.out j m e (by omega) (by omega) (by omega))
              clear hAM hBM hcA hcB hcC hcD
              go_wp2_with (first | (go_at_call 120; refine C0.out.mono ?_; clear C0; rintro _ w1 ⟨rfl, S2⟩; have S2 := Lib.hid S2) | (go_at_call 83; have _k := m2; clear m2; refine (IH0.out (Srt.rot g j m e) _ S2.out M e z _k (by omega) (by omega) (by omega) SP.out.2.1).mono ?_; rintro _ w3 ⟨rfl, g3, PG3, S4⟩; have S4 := Lib.hid S4; have PG3 := Lib.hid PG3))
              all_goals (go_end0; exact ⟨rfl, _, Srt.post_mid m3 m4 ((Srt.same_rot g (by omega) (by omega)).mono (by omega) (by omega)) SP.out.2.2 (SP.out.1.skip (by omega) (by omega) (by omega)) PG3.out, S4.out⟩)
            · skip
              have hAz : (j : Int) < (m : Int) := by omega
              have hA2z : (M : Int) < (e : Int) := by omega
              have hBz : (m : Int) < (e : Int) := by omega
              have hB2z : (j : Int) < (M : Int) := by omega
              have hCz : ¬ (a : Int) < (j : Int) := by omega
              have hDz : ¬ (e : Int) < (z : Int) := by omega
              have C0 := Lib.hid (RT.out g _ S1.out j m e (by omega) (by omega) (by omega))
              clear hAM hBM hcA hcB hcC hcD
              go_wp2_with (first | (go_at_call 120; refine C0.out.mono ?_; clear C0; rintro _ w1 ⟨rfl, S2⟩; have S2 := Lib.hid S2))
              all_goals (go_end0; exact ⟨rfl, _, Srt.post_mid m3 m4 ((Srt.same_rot g (by omega) (by omega)).mono (by omega) (by omega)) SP.out.2.2 (SP.out.1.skip (by omega) (by omega) (by omega)) (SP.out.2.1.skip (by omega) (by omega) (by omega)), S2.out⟩)
        · skip
          by_cases hcC : a < j
          · skip
            by_cases hcD : e < z
            · skip
              have hAz : (j : Int) < (m : Int) := by omega
              have hA2z : (M : Int) < (e : Int) := by omega
              have hBz : ¬ (m : Int) < (e : Int) := by omega
              have hB2z : ¬ (j : Int) < (M : Int) := by omega
              have hCz : (a : Int) < (j : Int) := by omega
              have hDz : (e : Int) < (z : Int) := by omega
              have RN : Srt.rot g j m e = g := Srt.rot_none g (.inr ⟨by omega, by omega⟩)
              have SP1 := SP.out
              rw [RN] at SP1
              have SP := Lib.hid SP1
              clear SP1 RN
              clear hAM hBM hcA hcB hcC hcD
              go_wp2_with (first | (go_at_call 83; have _k := m2; clear m2; refine (IH0.out g _ S1.out M e z _k (by omega) (by omega) (by omega) SP.out.2.1).mono ?_; rintro _ w3 ⟨rfl, g3, PG3, S4⟩; have S4 := Lib.hid S4; have PG3 := Lib.hid PG3))
              all_goals (go_end0; exact ⟨rfl, _, Srt.post_mid m3 m4 (Srt.Same.refl _ _ _) SP.out.2.2 (SP.out.1.skip (by omega) (by omega) (by omega)) PG3.out, S4.out⟩)
            · skip
              have hAz : (j : Int) < (m : Int) := by omega
              have hA2z : (M : Int) < (e : Int) := by omega
              have hBz : ¬ (m : Int) < (e : Int) := by omega
              have hB2z : ¬ (j : Int) < (M : Int) := by omega
              have hCz : (a : Int) < (j : Int) := by omega
              have hDz : ¬ (e : Int) < (z : Int) := by omega
              have RN : Srt.rot g j m e = g := Srt.rot_none g (.inr ⟨by omega, by omega⟩)
              have SP1 := SP.out
              rw [RN] at SP1
              have SP := Lib.hid SP1
              clear SP1 RN
              clear hAM hBM hcA hcB hcC hcD
              go_wp2
              all_goals (go_end0; exact ⟨rfl, _, Srt.post_mid m3 m4 (Srt.Same.refl _ _ _) SP.out.2.2 (SP.out.1.skip (by omega) (by omega) (by omega)) (SP.out.2.1.skip (by omega) (by omega) (by omega)), S1.out⟩)
          · skip
            by_cases hcD : e < z
            · skip
              have hAz : (j : Int) < (m : Int) := by omega
              have hA2z : (M : Int) < (e : Int) := by omega
              have hBz : ¬ (m : Int) < (e : Int) := by omega
              have hB2z : ¬ (j : Int) < (M : Int) := by omega
              have hCz : ¬ (a : Int) < (j : Int) := by omega
              have hDz : (e : Int) < (z : Int) := by omega
              have RN : Srt.rot g j m e = g := Srt.rot_none g (.inr ⟨by omega, by omega⟩)
              have SP1 := SP.out
              rw [RN] at SP1
              have SP := Lib.hid SP1
              clear SP1 RN
              clear hAM hBM hcA hcB hcC hcD
              go_wp2_with (first | (go_at_call 83; have _k := m2; clear m2; refine (IH0.out g _ S1.out M e z _k (by omega) (by omega) (by omega) SP.out.2.1).mono ?_; rintro _ w3 ⟨rfl, g3, PG3, S4⟩; have S4 := Lib.hid S4; have PG3 := Lib.hid PG3))
              all_goals (go_end0; exact ⟨rfl, _, Srt.post_mid m3 m4 (Srt.Same.refl _ _ _) SP.out.2.2 (SP.out.1.skip (by omega) (by omega) (by omega)) PG3.out, S4.out⟩)
            · skip
              have hAz : (j : Int) < (m : Int) := by omega
              have hA2z : (M : Int) < (e : Int) := by omega
              have hBz : ¬ (m : Int) < (e : Int) := by omega
              have hB2z : ¬ (j : Int) < (M : Int) := by omega
              have hCz : ¬ (a : Int) < (j : Int) := by omega
              have hDz : ¬ (e : Int) < (z : Int) := by omega
              have RN : Srt.rot g j m e = g := Srt.rot_none g (.inr ⟨by omega, by omega⟩)
              have SP1 := SP.out
              rw [RN] at SP1
              have SP := Lib.hid SP1
              clear SP1 RN
              clear hAM hBM hcA hcB hcC hcD
              go_wp2
              all_goals (go_end0; exact ⟨rfl, _, Srt.post_mid m3 m4 (Srt.Same.refl _ _ _) SP.out.2.2 (SP.out.1.skip (by omega) (by omega) (by omega)) (SP.out.2.1.skip (by omega) (by omega) (by omega)), S1.out⟩)
      · skip
        by_cases hcB : m < e
        · skip
          by_cases hcC : a < j
          · skip
            have hAz : ¬ (j : Int) < (m : Int) := by omega
            have hA2z : ¬ (M : Int) < (e : Int) := by omega
            have hBz : (m : Int) < (e : Int) := by omega
            have hB2z : (j : Int) < (M : Int) := by omega
            have hCz : (a : Int) < (j : Int) := by omega
            have RN : Srt.rot g j m e = g := Srt.rot_none g (.inl ⟨by omega, by omega⟩)
            have SP1 := SP.out
            rw [RN] at SP1
            have SP := Lib.hid SP1
            clear SP1 RN
            clear hAM hBM hcA hcB hcC
            go_wp2_with (first | (go_at_call 83; have _k := m1; clear m1; refine (IH0.out g _ S1.out a j M _k (by omega) (by omega) (by omega) SP.out.1).mono ?_; rintro _ w2 ⟨rfl, g2, PG2, S3⟩; have S3 := Lib.hid S3; have PG2 := Lib.hid PG2))
            all_goals (go_end0; exact ⟨rfl, _, Srt.post_mid m3 m4 (Srt.Same.refl _ _ _) SP.out.2.2 PG2.out ((SP.out.2.1.congr (fun i k1 k2 => PG2.out.1.1 i (by omega)) (by omega) (by omega)).skip (by omega) (by omega) (by omega)), S3.out⟩)
          · skip
            have hAz : ¬ (j : Int) < (m : Int) := by omega
            have hA2z : ¬ (M : Int) < (e : Int) := by omega
            have hBz : (m : Int) < (e : Int) := by omega
            have hB2z : (j : Int) < (M : Int) := by omega
            have hCz : ¬ (a : Int) < (j : Int) := by omega
            have RN : Srt.rot g j m e = g := Srt.rot_none g (.inl ⟨by omega, by omega⟩)
            have SP1 := SP.out
            rw [RN] at SP1
            have SP := Lib.hid SP1
            clear SP1 RN
            clear hAM hBM hcA hcB hcC
            go_wp2
            all_goals (go_end0; exact ⟨rfl, _, Srt.post_mid m3 m4 (Srt.Same.refl _ _ _) SP.out.2.2 (SP.out.1.skip (by omega) (by omega) (by omega)) (SP.out.2.1.skip (by omega) (by omega) (by omega)), S1.out⟩)
        · skip
          by_cases hcC : a < j
          · skip
            have hAz : ¬ (j : Int) < (m : Int) := by omega
            have hA2z : ¬ (M : Int) < (e : Int) := by omega
            have hBz : ¬ (m : Int) < (e : Int) := by omega
            have hB2z : ¬ (j : Int) < (M : Int) := by omega
            have hCz : (a : Int) < (j : Int) := by omega
            have RN : Srt.rot g j m e = g := Srt.rot_none g (.inl ⟨by omega, by omega⟩)
            have SP1 := SP.out
            rw [RN] at SP1
            have SP := Lib.hid SP1
            clear SP1 RN
            clear hAM hBM hcA hcB hcC
            go_wp2
            all_goals (go_end0; exact ⟨rfl, _, Srt.post_mid m3 m4 (Srt.Same.refl _ _ _) SP.out.2.2 (SP.out.1.skip (by omega) (by omega) (by omega)) (SP.out.2.1.skip (by omega) (by omega) (by omega)), S1.out⟩)
          · skip
            have hAz : ¬ (j : Int) < (m : Int) := by omega
            have hA2z : ¬ (M : Int) < (e : Int) := by omega
            have hBz : ¬ (m : Int) < (e : Int) := by omega
            have hB2z : ¬ (j : Int) < (M : Int) := by omega
            have hCz : ¬ (a : Int) < (j : Int) := by omega
            have RN : Srt.rot g j m e = g := Srt.rot_none g (.inl ⟨by omega, by omega⟩)
            have SP1 := SP.out
            rw [RN] at SP1
            have SP := Lib.hid SP1
            clear SP1 RN
            clear hAM hBM hcA hcB hcC
            go_wp2
            all_goals (go_end0; exact ⟨rfl, _, Srt.post_mid m3 m4 (Srt.Same.refl _ _ _) SP.out.2.2 (SP.out.1.skip (by omega) (by omega) (by omega)) (SP.out.2.1.skip (by omega) (by omega) (by omega)), S1.out⟩)
end Go.Proofs.YtflapfekfmmcmaaGreatDoor

set_option linter.unusedVariables false
namespace Go.Proofs.YtflapfekfmmcmaaGreatDoor
open Go Go.RowKit Go.Lib
theorem symMerge83 {b n : Nat} {Q : World → Prop} {hd : Nat → Value} (E : Env b n Q) (hh : ∀ t, (hd t).oneCell' = true) (hn : n < 2305843009213693952) (cap : Nat) (cf : Nat → Nat → Int) (p q : Value)
    (hO : Srt.Swo (fun x y => decide (cf x y < 0))) (hcmp : ∀ w, Q w → ∀ x y, Calls Tryz.prog 34 #[hd x, hd y, p, q] w fun e w' => e = .returned (.int .i64 (cf x y)) ∧ Below w.heap.size w w') :
    ∀ (k : Nat) (g : Nat → Nat) (w : World), St b n Q hd g w → ∀ a m z : Nat, z - a ≤ k → a < m → m < z → z ≤ n → Srt.Pre (fun x y => decide (cf x y < 0)) a m z g →
    Calls Tryz.prog 83 #[.slice (some ⟨b, 0, none⟩) n cap, .int .i64 a, .int .i64 m, .int .i64 z, .func (.func 34) #[] #[p, q]] w fun e w' => e = .returned (.tuple #[]) ∧ ∃ g', Srt.Post (fun x y => decide (cf x y < 0)) a z g g' ∧ St b n Q hd g' w'
  | 0, _, _, _, a, m, z, hk, h1, h2, _, _ => by omega
  | k + 1, g, w, S, a, m, z, hk, h1, h2, h3, hP => by
    by_cases c1 : m = a + 1
    · exact symL E hh (by omega) cap cf p q hO hcmp g w S a m z c1 h2 h3 hP
    · by_cases c2 : z = m + 1
      · exact symR E hh (by omega) cap cf p q hO hcmp g w S a m z c1 c2 h1 h3 hP
      · have IH := fun g w S a' m' z' (hl : z' - a' < z - a) h1 h2 h3 hP => symMerge83 E hh hn cap cf p q hO hcmp k g w S a' m' z' (by omega) h1 h2 h3 hP
        by_cases c3 : (a + z) / 2 < m
        · exact symM1 E hh hn cap cf p q hO hcmp g w S a m z c1 c2 h1 h2 h3 c3 hP IH
        · exact symM2 E hh hn cap cf p q hO hcmp g w S a m z c1 c2 h1 h2 h3 c3 hP IH
end Go.Proofs.YtflapfekfmmcmaaGreatDoor

set_option linter.unusedVariables false
namespace Go.Proofs.YtflapfekfmmcmaaGreatDoor
open Go Go.RowKit Go.Lib
set_option maxHeartbeats 1000000 in
set_option maxRecDepth 1000000 in
theorem stable51 {b n : Nat} {Q : World → Prop} {hd : Nat → Value} (E : Env b n Q) (hh : ∀ t, (hd t).oneCell' = true) (hn : n < 1152921504606846976) (cap : Nat) (cf : Nat → Nat → Int) (p q : Value)
    (hO : Srt.Swo (fun x y => decide (cf x y < 0))) (hcmp : ∀ w, Q w → ∀ x y, Calls Tryz.prog 34 #[hd x, hd y, p, q] w fun e w' => e = .returned (.int .i64 (cf x y)) ∧ Below w.heap.size w w')
    (w : World) (S : St b n Q hd id w) :
    Calls Tryz.prog 51 #[.slice (some ⟨b, 0, none⟩) n cap, .int .i64 n, .func (.func 34) #[] #[p, q]] w fun e w' => e = .returned (.tuple #[]) ∧ ∃ g', Srt.Same 0 n id g' ∧ Srt.Srtd (fun x y => decide (cf x y < 0)) 0 n g' ∧ St b n Q hd g' w' := by
  have IN := Lib.hid (fun g w S a z h1 h2 T => insertion82 (b := b) (n := n) E hh (by omega) cap cf p q hO hcmp g w S a z h1 h2 T)
  have SM := Lib.hid (fun g w S a m z h1 h2 h3 hP => symMerge83 (b := b) (n := n) E hh (by omega) cap cf p q hO hcmp z g w S a m z (by omega) h1 h2 h3 hP)
  have S0 := Lib.hid S
  have O0 := Lib.hid hO
  clear S E hh hO hcmp
  go_enter Tryz.func51, Tryz.ntmps51
  go_wp2
  go_loopg [7, 8] n (fun gk s t wr => ∃ (k a z : Nat) (g : Nat → Nat), s = .int .i64 a ∧ t = .int .i64 z ∧ z = a + 20 ∧ a ≤ n ∧ n - a ≤ gk ∧ Hid (a = k * 20) ∧ Hid (St b n Q hd g wr) ∧ Hid (Srt.Ph0 (fun x y => decide (cf x y < 0)) n k g))
  case atStart => exact ⟨0, 0, 20, id, by go_num, by go_num, rfl, Nat.zero_le _, Nat.sub_le _ _, Lib.hid rfl, S0, Lib.hid (Srt.ph0_start _ _)⟩
  case round =>
    clear S0
    obtain ⟨k, a, z, g, rfl, rfl, hz, han, hg, HA, S1, P1⟩ := hrel
    by_cases hzn : z ≤ n
    · have hznz : (z : Int) ≤ (n : Int) := by omega
      have C := IN.out g _ S1.out a z (by omega) hzn (fun p q h1 h2 _ => Srt.ph0_tags P1.out p q (by have := HA.out; omega) h2)
      have C := Lib.hid C
      have wz : IntKind.i64.wrap ((z : Int) + 20) = ((z + 20 : Nat) : Int) := by rw [IntKind.wrap_i64]; omega
      clear S1
      have hzH := Lib.hid hz
      clear hz
      go_wp2_with (go_at_call 82; refine C.out.mono ?_; clear C; rintro _ w1 ⟨rfl, g2, PG2, S2⟩; have S2 := Lib.hid S2; have PG2 := Lib.hid PG2)
      go_roundg (n - z)
      case measure => have := hzH.out; omega
      case rel =>
        have e1 := hzH.out; have e2 := HA.out
        refine ⟨k + 1, z, z + 20, g2, rfl, by go_num, rfl, hzn, Nat.le_refl _, Lib.hid (by omega), S2, Lib.hid ?_⟩
        have PG := PG2.out
        rw [e1, e2] at PG
        exact Srt.ph0_step P1.out (by omega) PG
    · have hznz : ¬ (z : Int) ≤ (n : Int) := by omega
      have C := IN.out g _ S1.out a n (by omega) (Nat.le_refl _) (fun p q h1 h2 _ => Srt.ph0_tags P1.out p q (by have := HA.out; omega) h2)
      have C := Lib.hid C
      clear S1
      have hzH := Lib.hid hz
      clear hz
      go_wp2_with (go_at_call 82; refine C.out.mono ?_; clear C; rintro _ w1 ⟨rfl, g2, PG2, S2⟩; have S2 := Lib.hid S2; have PG2 := Lib.hid PG2)
      have B2 : Srt.Same 0 n id g2 ∧ ∀ j, Srt.Blk (fun x y => decide (cf x y < 0)) n 20 j g2 := by
        have e1 := hzH.out; have e2 := HA.out
        have PG := PG2.out
        rw [e2] at PG
        exact Srt.ph0_end P1.out (by omega) (by omega) PG
      have B2 := Lib.hid B2
      clear P1 PG2 HA hzH hznz hzn
      go_loopg [6] n (fun gk s wr => ∃ (s0 : Nat) (g : Nat → Nat), s = .int .i64 s0 ∧ 0 < s0 ∧ s0 ≤ 20 + 2 * n ∧ n - s0 ≤ gk ∧ Hid (St b n Q hd g wr) ∧ Hid (Srt.Same 0 n id g ∧ ∀ j, Srt.Blk (fun x y => decide (cf x y < 0)) n s0 j g))
      case atStart => exact ⟨20, g2, by go_num, by omega, by omega, Nat.sub_le _ _, S2, B2⟩
      case round =>
        clear S2 B2
        obtain ⟨s0, g, rfl, hs, hs2, hg, S1, B1⟩ := hrel
        by_cases hsn : s0 < n
        · have hsnz : (s0 : Int) < (n : Int) := by omega
          have ws : IntKind.i64.wrap (2 * (s0 : Int)) = ((2 * s0 : Nat) : Int) := by rw [IntKind.wrap_i64]; omega
          have ws' : IntKind.i64.wrap ((s0 : Int) * 2) = ((2 * s0 : Nat) : Int) := by rw [IntKind.wrap_i64]; omega
          obtain ⟨d, hd0⟩ : ∃ d, d = 2 * s0 := ⟨_, rfl⟩
          rw [← hd0] at ws ws'
          have hdH := Lib.hid hd0
          have hdn : d < 2305843009213693952 + 2305843009213693952 := by omega
          have hdp : 0 < d := by omega
          have P1 := Lib.hid (Srt.ph_start B1.out.1 B1.out.2)
          clear hd0 B1
          go_wp2
          go_loopg [7, 8] n (fun gk s t wr => ∃ (k a z : Nat) (g : Nat → Nat), s = .int .i64 a ∧ t = .int .i64 z ∧ z = a + d ∧ a ≤ n ∧ n - a ≤ gk ∧ Hid (a = k * (2 * s0)) ∧ Hid (St b n Q hd g wr) ∧ Hid (Srt.Ph (fun x y => decide (cf x y < 0)) n s0 k g))
          case atStart => exact ⟨0, 0, d, g, by go_num, by go_num, by omega, Nat.zero_le _, Nat.sub_le _ _, Lib.hid (by omega), S1, P1⟩
          case round =>
            clear S1 P1
            obtain ⟨k, a, z, g, rfl, rfl, hz, han, hg3, HA, S1, P1⟩ := hrel
            have wm : IntKind.i64.wrap ((a : Int) + s0) = ((a + s0 : Nat) : Int) := by rw [IntKind.wrap_i64]; omega
            obtain ⟨m, hm⟩ : ∃ m, m = a + s0 := ⟨_, rfl⟩
            rw [← hm] at wm
            by_cases hzn : z ≤ n
            · have hznz : (z : Int) ≤ (n : Int) := by omega
              have PP : Srt.Pre (fun x y => decide (cf x y < 0)) a m z g := by
                have e1 := HA.out; have e2 := hdH.out
                rw [hm, e1]
                exact Srt.ph_pre P1.out (by omega) (by omega) hzn (.inl (by omega))
              have C := SM.out g _ S1.out a m z (by omega) (by have := hdH.out; omega) hzn PP
              have C := Lib.hid C
              have wz : IntKind.i64.wrap ((z : Int) + d) = ((z + d : Nat) : Int) := by rw [IntKind.wrap_i64]; omega
              have hzH := Lib.hid hz
              clear S1 PP hm hz
              go_wp2_with (go_at_call 83; refine C.out.mono ?_; clear C; rintro _ w1 ⟨rfl, g2, PG2, S2⟩; have S2 := Lib.hid S2; have PG2 := Lib.hid PG2)
              go_roundg (n - z)
              case measure => have := hzH.out; omega
              case rel =>
                have e1 := hzH.out; have e2 := HA.out; have e3 := hdH.out
                refine ⟨k + 1, z, z + d, g2, rfl, by go_num, rfl, hzn, Nat.le_refl _, Lib.hid (by rw [Nat.succ_mul]; omega), S2, Lib.hid ?_⟩
                have PG := PG2.out
                rw [e2] at PG
                exact Srt.ph_merge P1.out (by omega) (by omega) hzn (.inl (by omega)) PG
            · have hznz : ¬ (z : Int) ≤ (n : Int) := by omega
              by_cases hmn : m < n
              · have hmnz : (m : Int) < (n : Int) := by omega
                have PP : Srt.Pre (fun x y => decide (cf x y < 0)) a m n g := by
                  have e1 := HA.out; have e2 := hdH.out
                  rw [hm, e1]
                  exact Srt.ph_pre P1.out (by omega) (by omega) (Nat.le_refl _) (.inr rfl)
                have C := SM.out g _ S1.out a m n (by omega) hmn (Nat.le_refl _) PP
                have C := Lib.hid C
                have hzH := Lib.hid hz
                have hmH := Lib.hid hm
                clear S1 PP hm hz
                go_wp2_with (go_at_call 83; refine C.out.mono ?_; clear C; rintro _ w1 ⟨rfl, g2, PG2, S2⟩; have S2 := Lib.hid S2; have PG2 := Lib.hid PG2)
                go_roundg (n - d)
                case measure => have := hdH.out; omega
                case rel =>
                  have e1 := hzH.out; have e2 := HA.out; have e3 := hdH.out; have e4 := hmH.out
                  refine ⟨d, g2, by go_num, hdp, by omega, Nat.le_refl _, S2, Lib.hid ?_⟩
                  have PG := PG2.out
                  rw [e2] at PG
                  have P3 := Srt.ph_merge P1.out (by omega) (by omega) (Nat.le_refl _) (.inr rfl) PG
                  rw [e3]
                  exact ⟨P3.1, Srt.ph_all P3 (by rw [Nat.succ_mul]; omega)⟩
              · have hmnz : ¬ (m : Int) < (n : Int) := by omega
                have hzH := Lib.hid hz
                have hmH := Lib.hid hm
                clear hm hz
                go_wp2
                go_roundg (n - d)
                case measure => have := hdH.out; omega
                case rel =>
                  have e1 := hzH.out; have e2 := HA.out; have e3 := hdH.out; have e4 := hmH.out
                  refine ⟨d, g, by go_num, hdp, by omega, Nat.le_refl _, S1, Lib.hid ?_⟩
                  have P3 := Srt.ph_stay P1.out (by omega)
                  rw [e3]
                  exact ⟨P3.1, Srt.ph_all P3 (by rw [Nat.succ_mul]; omega)⟩
        · have hsnz : ¬ (s0 : Int) < (n : Int) := by omega
          go_wp2
          go_end0
          exact ⟨rfl, g, B1.out.1, Srt.blk_done B1.out.2 (by omega), S1.out⟩
end Go.Proofs.YtflapfekfmmcmaaGreatDoor
