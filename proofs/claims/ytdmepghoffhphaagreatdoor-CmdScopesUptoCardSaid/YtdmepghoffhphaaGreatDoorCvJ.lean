/- PROVED: contracts of the functions that CmdScopes reaches, and what an expression is that is written and read again (part CvJ). CONDITIONS: none. -/
import Derived.Test.YtdmepghoffhphaaGreatDoorCvG
import Derived.Test.YtdmepghoffhphaaGreatDoorCvI
import Derived.ChangeArms
import Derived.Deep.Strs
import Derived.SliceStrings
import Derived.Lib.SmallJoins
set_option linter.unusedSimpArgs false
set_option linter.unusedVariables false
set_option linter.unnecessarySimpa false
set_option maxHeartbeats 8000000
set_option maxRecDepth 100000
namespace Go.Proofs.YtdmepghoffhphaaGreatDoor
open Go Go.RowKit Go.Lib
theorem tkC_get : ∀ (ts : List Tk) (j : Nat) (h : j < ts.length), (ts.flatMap tkC)[j * 3]? = some (.int .i64 ts[j].k) /\ (ts.flatMap tkC)[j * 3 + 1]? = some (.int .i64 0) /\ (ts.flatMap tkC)[j * 3 + 2]? = some (.string ts[j].t)
  | t :: r, 0, h => by simp [tkC]
  | t :: r, j + 1, h => by
    have := tkC_get r j (by simpa using h)
    simp only [List.flatMap_cons, tkC, List.getElem_cons_succ]
    rw [show (j + 1) * 3 = j * 3 + 3 by omega]
    simpa using this
theorem tks_of_own {b r : Nat} {w : World} {v : Value} {ts : List Tk} (h : w.ownsRow (b + 1) 223 3 v ts.length (ts.flatMap tkC)) (hr : w.heap.size <= r) (hm : ts.length <= maxT) (hs : ∀ t ∈ ts, t.t.size <= mx) : TksAt r w v ts := by
  rcases h.2 with ⟨rfl, h0⟩ | ⟨g, cap, cur, rfl, hb, hg, hn, hc, _⟩
  · rw [List.length_eq_zero_iff] at h0; subst h0
    exact ⟨hm, hs, none, 0, rfl, .inl rfl⟩
  · refine ⟨hm, hs, _, _, rfl, .inr ⟨g, rfl, Nat.lt_of_lt_of_le (h.lt g rfl).2 hr, fun j hj => ?_⟩⟩
    obtain ⟨a, b, c⟩ := tkC_get ts j hj
    exact ⟨by rw [h.cellAt _ (by omega)]; exact a, by rw [h.cellAt _ (by omega)]; exact b, by rw [h.cellAt _ (by omega)]; exact c⟩
theorem ExsAt.single {w : World} {x : Ex} {c0 c1 c2 c3 c4 c5 c6 : Value} {g : Nat} {N : Nat -> Prop} (hx : ExAt N w x (.agg #[c0, c1, c2, c3, c4, c5, c6])) (hk : Bk w g 55 #[c0, c1, c2, c3, c4, c5, c6]) (hg : N g) : ExsAt N w [x] (.slice (some ⟨g, 0, none⟩) 1 1) := by
  obtain ⟨k0, k1, k2, k3, k4, k5, k6⟩ := Bk7 hk
  refine ⟨by show (1 : Nat) <= mx; unfold mx; omega, _, _, rfl, .inr ⟨g, 0, rfl, hg, ?_⟩⟩
  simp only [ElsAt, and_true]
  exact ⟨_, ⟨c0, c1, c2, c3, c4, c5, c6, rfl, k0, k1, k2, k3, k4, k5, k6⟩, hx⟩
theorem Bk.low {w w' : World} {g T cs n} (h : Bk w g T cs) (hb : Below n w w') (hg : g < n) : Bk w' g T cs := (hb.block _ hg).trans h
theorem WrAt.new (w : World) : WrAt w.heap.size 0 [] false (w.alloc (.cells #[.string ⟨#[]⟩, .slice none 0 0, .bool false] 159)) :=
  ⟨_, _, Bk.new _ _ _, by decide, by simp, World.ownsRow_nil _ _ _ _⟩
theorem WrAt.own {b m : Nat} {t : List Tk} {bd : Bool} {w : World} (h : WrAt b m t bd w) : ∃ v, w.cell? ⟨b, 1, none⟩ = some v /\ w.cell? ⟨b, 2, none⟩ = some (.bool bd) /\ w.ownsRow (b + 1) 223 3 v t.length (t.flatMap tkC) /\ t.length <= m /\ ∃ a c, v = .slice a t.length c := by
  obtain ⟨o, v, h1, h2, h3, h4⟩ := h
  refine ⟨v, h1.cell 1, h1.cell 2, h4, h3, ?_⟩
  rcases h4.2 with ⟨rfl, h0⟩ | ⟨g, cap, cur, rfl, _⟩
  · rw [h0]; exact ⟨none, 0, rfl⟩
  · exact ⟨_, _, rfl⟩
theorem RdAt.cells {r ts s w} (h : RdAt r ts s w) : ∃ a la lc, a <= ts.length /\ (s.1.isEmpty = decide (a = ts.length)) /\ Bk w r 146 #[.slice la ts.length lc, .int .i64 a, .bool s.2, .slice none 0 0] := by
  obtain ⟨a, lv, h1, h2, h3, h4⟩ := h
  obtain ⟨-, -, la, lc, rfl, -⟩ := h4
  refine ⟨a, la, lc, h1, ?_, h3⟩
  rw [h2, Bool.eq_iff_iff, List.isEmpty_iff, List.drop_eq_nil_iff, decide_eq_true_eq]
  omega
theorem keep17 {w0 w1 w2 : World} {r g h : Nat} {r0 r1 r2 a0 a1 a2 a3 a4 a5 a6 b0 b1 b2 b3 b4 b5 b6 : Value}
    (hh : w1.cell? ⟨r, 0, none⟩ = some r0 /\ w1.cell? ⟨r, 1, none⟩ = some r1 /\ w1.cell? ⟨r, 2, none⟩ = some r2 /\ w1.cell? ⟨g, 0, none⟩ = some a0 /\ w1.cell? ⟨g, 1, none⟩ = some a1 /\ w1.cell? ⟨g, 2, none⟩ = some a2 /\ w1.cell? ⟨g, 3, none⟩ = some a3 /\ w1.cell? ⟨g, 4, none⟩ = some a4 /\ w1.cell? ⟨g, 5, none⟩ = some a5 /\ w1.cell? ⟨g, 6, none⟩ = some a6 /\ w1.cell? ⟨h, 0, none⟩ = some b0 /\ w1.cell? ⟨h, 1, none⟩ = some b1 /\ w1.cell? ⟨h, 2, none⟩ = some b2 /\ w1.cell? ⟨h, 3, none⟩ = some b3 /\ w1.cell? ⟨h, 4, none⟩ = some b4 /\ w1.cell? ⟨h, 5, none⟩ = some b5 /\ w1.cell? ⟨h, 6, none⟩ = some b6 /\ Below w0.heap.size w0 w1) (hb : Below w1.heap.size w1 w2) :
    w2.cell? ⟨r, 0, none⟩ = some r0 /\ w2.cell? ⟨r, 1, none⟩ = some r1 /\ w2.cell? ⟨r, 2, none⟩ = some r2 /\ w2.cell? ⟨g, 0, none⟩ = some a0 /\ w2.cell? ⟨g, 1, none⟩ = some a1 /\ w2.cell? ⟨g, 2, none⟩ = some a2 /\ w2.cell? ⟨g, 3, none⟩ = some a3 /\ w2.cell? ⟨g, 4, none⟩ = some a4 /\ w2.cell? ⟨g, 5, none⟩ = some a5 /\ w2.cell? ⟨g, 6, none⟩ = some a6 /\ w2.cell? ⟨h, 0, none⟩ = some b0 /\ w2.cell? ⟨h, 1, none⟩ = some b1 /\ w2.cell? ⟨h, 2, none⟩ = some b2 /\ w2.cell? ⟨h, 3, none⟩ = some b3 /\ w2.cell? ⟨h, 4, none⟩ = some b4 /\ w2.cell? ⟨h, 5, none⟩ = some b5 /\ w2.cell? ⟨h, 6, none⟩ = some b6 /\ Below w0.heap.size w0 w2 := by
  obtain ⟨h1, h2, h3, h4, h5, h6, h7, h8, h9, h10, h11, h12, h13, h14, h15, h16, h17, h18⟩ := hh
  have L : ∀ {p : Addr} {v : Value}, w1.cell? p = some v -> w2.cell? p = some v := fun {p v} hh => by rw [hb.cell (World.block_lt_of_cell? w1 _ hh)]; exact hh
  exact ⟨L h1, L h2, L h3, L h4, L h5, L h6, L h7, L h8, L h9, L h10, L h11, L h12, L h13, L h14, L h15, L h16, L h17, h18.trans (hb.mono h18.size)⟩
theorem last17 {P1 P2 P3 P4 P5 P6 P7 P8 P9 P10 P11 P12 P13 P14 P15 P16 P17 : Prop} {w0 w1 : World} (h : P1 /\ P2 /\ P3 /\ P4 /\ P5 /\ P6 /\ P7 /\ P8 /\ P9 /\ P10 /\ P11 /\ P12 /\ P13 /\ P14 /\ P15 /\ P16 /\ P17 /\ Below w0.heap.size w0 w1) : Below w0.heap.size w0 w1 := h.2.2.2.2.2.2.2.2.2.2.2.2.2.2.2.2.2
theorem lt_of_ExAt {w : World} {x : Ex} {u : Value} (h : ExAt allN w x u) : ExAt (· < w.heap.size) w x u := ExAt.mono (fun b hb _ => hb) h
theorem valid43 (mixed : Tryz.prog.follows .mixedOrders = true) (x : Ex) (u : Value) (w : World) (hw : sz x <= 2000000) (h : ExAt allN w x u) :
    Calls Tryz.prog 43 #[u] w fun e w' => e = .returned (.int .i64 (valEx x)) /\ Below w.heap.size w w' := by
  obtain ⟨y, sy, hread, hag⟩ := law_read x
  have HREAD := Lib.hid (And.intro hread hag)
  have HTK : Hid ((∀ t ∈ tks x, t.t.size <= mx) /\ cost x <= bigM /\ cost x <= maxT) := Lib.hid ⟨fun t ht => by have := tkz x t ht; unfold mx; omega, by unfold cost bigM; omega, by unfold cost maxT; omega⟩
  clear hread hag
  obtain ⟨op, s, ⟨vk, vn, vs⟩, p, l⟩ := x
  obtain ⟨pa, pc, la, lc, rfl, h1, h2, h3, h4⟩ := h.parts
  generalize hX : Ex.mk op s ⟨vk, vn, vs⟩ p l = X at *
  have hwt := wt_le_sz X
  have hpl : p.length <= 9223372036854775807 := h3.1
  have hll : l.length <= 9223372036854775807 := h4.1
  clear h1 h2 h3 h4
  generalize hA : (#[.int .i64 op, .string s, .int .i64 vk, .int .i64 vn, .string vs, .slice pa p.length pc, .slice la l.length lc] : Array Value) = A at *
  have E1 : Hid (((w.alloc (.cells A 55)).alloc (.cells #[.int .i64 0, .int .i64 0] 150)).heap.size = w.heap.size + 2) := Lib.hid (by simp)
  have HC : Hid (CnAt (w.heap.size + 1) 0 0 (((w.alloc (.cells A 55)).alloc (.cells #[.int .i64 0, .int .i64 0] 150)).alloc (.cells A 55))) := Lib.hid (by
    have h0 := Bk.new (w.alloc (.cells A 55)) 150 #[.int .i64 0, .int .i64 0]
    rw [show (w.alloc (.cells A 55)).heap.size = w.heap.size + 1 by simp] at h0
    exact Bk.alloc h0 _)
  have HXS : Hid (ExsAt (· ≠ w.heap.size + 1) (((w.alloc (.cells A 55)).alloc (.cells #[.int .i64 0, .int .i64 0] 150)).alloc (.cells A 55)) [X] (.slice (some ⟨w.heap.size + 2, 0, none⟩) 1 1)) := Lib.hid (by
    have h0 := Bk.new ((w.alloc (.cells A 55)).alloc (.cells #[.int .i64 0, .int .i64 0] 150)) 55 A
    rw [E1.out] at h0
    subst hA
    refine ExsAt.single ?_ h0 (by omega)
    refine ExAt.mono (fun b _ (hb : b < w.heap.size) => by omega) ((lt_of_ExAt h).below ((below_aa _ _ _).trans ((below_a _).mono (by simp; omega)) : Below w.heap.size w _)))
  have C := Lib.hid (exprs74 (wtL [X]) [X] _ 1 (w.heap.size + 1) 0 0 _ (Nat.le_refl _) HXS.out HC.out (by omega) (by simp only [wtL]; omega) (by omega) (by omega) (by omega) (by simp only [wtL]; omega))
  have hk0 : Hid (Bk (((w.alloc (.cells A 55)).alloc (.cells #[.int .i64 0, .int .i64 0] 150)).alloc (.cells A 55)) w.heap.size 55 A) := Lib.hid ((Bk.new w 55 A).alloc _ |>.alloc _)
  have HB0 : Hid (Below w.heap.size w (((w.alloc (.cells A 55)).alloc (.cells #[.int .i64 0, .int .i64 0] 150)).alloc (.cells A 55))) := Lib.hid ((below_aa _ _ _).trans ((below_a _).mono (by simp; omega)))
  have HT := Lib.hid (fun (n d : Int) (h : Tells n d (0 + nodesL [X]) (ddk 0 1 [X])) => tells_large h)
  have HW := Lib.hid (fun (b m : Nat) (w' : World) (hb : ExAt (· < b) w' X (.agg A)) (hw' : WrAt b m [] false w') (hm : m + cost X <= bigM) => expr79_all mixed (wt X) X (.agg A) b m [] false w' (Nat.le_refl _) hb hw' hm)
  have HX0 := Lib.hid (lt_of_ExAt h)
  clear HC HXS h hX hwt hw
  subst hA
  cases hL : isLarge X with
  | true =>
    have HV : Hid (valEx X = 3) := Lib.hid (by unfold valEx; rw [if_pos hL])
    have HL := Lib.hid hL
    clear hL HW HX0
    go_enter Tryz.func43, Tryz.ntmps43
    go_wp2_with (first
      | (go_at_call 74; refine C.out.mono ?_; clear C; rintro e w1 ⟨rfl, n1, d1, hc1, hb1, ht1⟩; have HT1 := Lib.hid (HT.out _ _ ht1); have IL := (isLarge75 _ _ _ _ hc1); rw [HT1.out, HL.out] at IL; have IL := Lib.hid IL; have HB1 := Lib.hid hb1; clear hb1 ht1 hc1)
      | (go_at_call 75; refine IL.out.mono ?_; clear IL; rintro e w' ⟨rfl, hw⟩; obtain rfl := hw.symm))
    go_ret
    exact ⟨ret_int HV.out.symm, HB0.out.trans (HB1.out.below (by simp; omega) (by omega))⟩
  | false =>
    have HL := Lib.hid hL
    have HV : Hid (valEx X = again X y sy) := Lib.hid (by unfold valEx; rw [if_neg (by rw [hL]; decide), HREAD.out.2])
    clear hL
    have HRD := Lib.hid HREAD.out.1
    clear HREAD
    go_enter Tryz.func43, Tryz.ntmps43
    go_wp2_with (first
      | (go_at_call 74; refine C.out.mono ?_; clear C; rintro e w1 ⟨rfl, n1, d1, hc1, hb1, ht1⟩; have HT1 := Lib.hid (HT.out _ _ ht1); have IL := (isLarge75 _ _ _ _ hc1); rw [HT1.out, HL.out] at IL; have IL := Lib.hid IL; have HB1 := Lib.hid (HB0.out.trans (hb1.below (by simp; omega) (by omega))); have hk1 := Lib.hid (hk0.out.but hb1 (by omega)); clear hb1 ht1 hc1 HB0 HT HT1 hk0)
      | (go_at_call 75; refine IL.out.mono ?_; clear IL; rintro e w' ⟨rfl, hw⟩; obtain rfl := hw.symm; clear hw HL; obtain ⟨k0, k1, k2, k3, k4, k5, k6⟩ := Bk7 hk1.out; have hlt1 := hk1.out.lt; have HX1 := Lib.hid (ExAt.mono (fun b _ (hb : b < w.heap.size) => (Nat.lt_trans hb hlt1 : b < w1.heap.size)) (ExAt.keep (.of_low HB1.out) HX0.out)); have HW1 := Lib.hid (HW.out w1.heap.size 0 _ (HX1.out.below (below_a _)) (WrAt.new w1) (by have := HTK.out.2.1; omega)); clear HW HX0)
      | (go_at_call 79; refine HW1.out.mono ?_; clear HW1; rintro e w2 ⟨rfl, hw2, hb2, hf2⟩; obtain ⟨v2, c1, c2, own2, hlen2, va, vc, ev⟩ := hw2.own; subst ev; have HBW2 := Lib.hid hb2; have HX2 := Lib.hid (ExAt.keep (.of_low hb2) (HX1.out.below (below_a _))); have OWN2 := Lib.hid own2; have hk2 := Lib.hid ((hk1.out.alloc _).low hb2 hlt1); have HLEN2 := Lib.hid hlen2; clear k0 k1 k2 k3 k4 k5 k6 hk1 hb2 hf2 hw2 own2 hlen2 HX1; rw [Bool.false_or] at c2; simp only [List.nil_append] at c1 OWN2 HLEN2; have hs2 : w1.heap.size < w2.heap.size := (by have := HBW2.out.size; simp at this; omega); have TK2 := tks_of_own (r := w2.heap.size) OWN2.out (Nat.le_refl _) (by have := HTK.out.2.2; have := HLEN2.out; omega) HTK.out.1; have RD2 : Hid (RdAt w2.heap.size (tks X) (tks X, false) (w2.alloc (.cells #[.slice va (tks X).length vc, .int .i64 0, .bool false, .slice none 0 0] 146))) := Lib.hid ⟨0, _, Nat.zero_le _, rfl, Bk.new _ _ _, TK2.keepLow (.of_low (below_a _))⟩; clear TK2; obtain ⟨k0, k1, k2, k3, k4, k5, k6⟩ := Bk7 hk2.out; have hlt2 := hk2.out.lt)
      | (go_at_call 72; refine ((readA mixed _).ex _ _ _ _ _ _ HRD.out RD2.out).mono ?_; rintro e w3 ⟨u3, rfl, hy, h3, hb3⟩; obtain ⟨yo, ys, yk, yn, yt, ya, ym, yc, yb, yq, yd, rfl⟩ := hy.form; have hs3 : w2.heap.size < w3.heap.size := (by have := hb3.size; simp at this; omega); obtain ⟨a3, la3, lc3, ha3, he3, hr3⟩ := h3.cells; have HR3 := Lib.hid hr3; have hk3 := Lib.hid ((hk2.out.alloc _).but hb3 (by omega)); have HX3 := Lib.hid (ex_keep (HX2.out.below (below_a _)) hb3 (fun b (hb : b < w1.heap.size) => by omega)); have HY3 := Lib.hid hy; have HB3 := Lib.hid hb3; have HE3 := Lib.hid he3; clear k0 k1 k2 k3 k4 k5 k6 hk2 HX2 hr3 hy h3 hb3 he3 RD2))
    · have hbd : bad X = true := by assumption
      go_ret
      refine ⟨ret_int ?_, HB1.out.trans (((below_a _).trans HBW2.out).mono HB1.out.size)⟩
      rw [HV.out]; unfold again; rw [if_pos hbd]
    · have hbd : bad X = false := by assumption
      have HBD := Lib.hid hbd
      have HBF : Hid (Below w.heap.size w (w3.alloc (.cells #[.int .i64 yo, .string ys, .int .i64 yk, .int .i64 yn, .string yt, .slice ya ym yc, .slice yb yq yd] 55))) := Lib.hid ((HB1.out.trans (((below_a _).trans (HBW2.out.trans ((below_a _).mono (Nat.le_of_lt hs2) |>.trans (HB3.out.below (by simp; omega) (by omega))))).mono HB1.out.size)).trans ((below_a _).mono (by omega)))
      have HR4 := Lib.hid (HR3.out.alloc (.cells #[.int .i64 yo, .string ys, .int .i64 yk, .int .i64 yn, .string yt, .slice ya ym yc, .slice yb yq yd] 55))
      have HK4 := Lib.hid (hk3.out.alloc (.cells #[.int .i64 yo, .string ys, .int .i64 yk, .int .i64 yn, .string yt, .slice ya ym yc, .slice yb yq yd] 55))
      have HY4 := Lib.hid (Bk.new w3 55 #[.int .i64 yo, .string ys, .int .i64 yk, .int .i64 yn, .string yt, .slice ya ym yc, .slice yb yq yd])
      have HSE := Lib.hid (fun w' (hb : Below (w3.alloc (.cells #[.int .i64 yo, .string ys, .int .i64 yk, .int .i64 yn, .string yt, .slice ya ym yc, .slice yb yq yd] 55)).heap.size (w3.alloc (.cells #[.int .i64 yo, .string ys, .int .i64 yk, .int .i64 yn, .string yt, .slice ya ym yc, .slice yb yq yd] 55)) w') => sameExpr80 mixed _ X y _ _ w' (Nat.le_refl _) ((HX3.out.below (below_a (.cells #[.int .i64 yo, .string ys, .int .i64 yk, .int .i64 yn, .string yt, .slice ya ym yc, .slice yb yq yd] 55))).below hb).all ((HY3.out.below (below_a (.cells #[.int .i64 yo, .string ys, .int .i64 yk, .int .i64 yn, .string yt, .slice ya ym yc, .slice yb yq yd] 55))).below hb).all)
      have HVV : Hid (valEx X = if sy.2 || !sy.1.isEmpty || !sameEx X y then 1 else 0) := Lib.hid (by rw [HV.out]; unfold again; rw [if_neg (by rw [hbd]; decide)])
      have hlen : (tks X).length <= 9223372036854775807 := by
        have h1 := HTK.out.2.2
        have h2 := HLEN2.out
        unfold maxT at h1
        omega
      clear HV hbd HR3 hk3 HX3 HY3 HB3 HBW2 HB1 HRD OWN2 HLEN2 c1 c2 HTK
      generalize (tks X).length = n at *
      generalize sameEx X y = se at *
      generalize sy.1.isEmpty = ie at *
      generalize sy.2 = fl at *
      obtain ⟨r0, r1, r2, r3⟩ := Bk4 HR4.out
      obtain ⟨k0, k1, k2, k3, k4, k5, k6⟩ := Bk7 HK4.out
      obtain ⟨y0, y1, y2, y3, y4, y5, y6⟩ := Bk7 HY4.out
      cases fl with
      | true =>
        have HR : Hid (valEx X = 1) := Lib.hid (by rw [HVV.out]; rfl)
        clear HVV HSE HE3 HBD
        go_region_o
        go_wp2
        go_ret
        exact ⟨ret_int HR.out.symm, below_drew0 HBF.out⟩
      | false =>
        by_cases hlt : a3 < n
        · have hie : ie = false := by rw [HE3.out]; exact decide_eq_false (by omega)
          have HR : Hid (valEx X = 1) := Lib.hid (by rw [HVV.out, hie]; rfl)
          clear HVV HSE HE3 HBD hie
          go_region_o
          go_wp2
          go_ret
          exact ⟨ret_int HR.out.symm, below_drew0 HBF.out⟩
        · have hn : a3 = n := by omega
          obtain rfl := hn.symm
          have hie : ie = true := by rw [HE3.out]; exact decide_eq_true rfl
          have HR : Hid (valEx X = if !se then 1 else 0) := Lib.hid (by rw [HVV.out, hie]; simp)
          clear HVV HE3 HBD hie hlt ha3
          have hs4 : w3.heap.size < (w3.alloc (.cells #[.int .i64 yo, .string ys, .int .i64 yk, .int .i64 yn, .string yt, .slice ya ym yc, .slice yb yq yd] 55)).heap.size := by simp
          have HDR : Hid (Below (w3.alloc (.cells #[.int .i64 yo, .string ys, .int .i64 yk, .int .i64 yn, .string yt, .slice ya ym yc, .slice yb yq yd] 55)).heap.size (w3.alloc (.cells #[.int .i64 yo, .string ys, .int .i64 yk, .int .i64 yn, .string yt, .slice ya ym yc, .slice yb yq yd] 55)) (w3.alloc (.cells #[.int .i64 yo, .string ys, .int .i64 yk, .int .i64 yn, .string yt, .slice ya ym yc, .slice yb yq yd] 55)).drew) := Lib.hid (Below.refl _ _).drew
          cases se with
          | true =>
            go_region_held3 (fun w' => w'.cell? ⟨w2.heap.size, 0, none⟩ = some (.slice la3 n lc3) /\ w'.cell? ⟨w2.heap.size, 1, none⟩ = some (.int .i64 n) /\ w'.cell? ⟨w2.heap.size, 2, none⟩ = some (.bool false) /\ w'.cell? ⟨w.heap.size, 0, none⟩ = some (.int .i64 op) /\ w'.cell? ⟨w.heap.size, 1, none⟩ = some (.string s) /\ w'.cell? ⟨w.heap.size, 2, none⟩ = some (.int .i64 vk) /\ w'.cell? ⟨w.heap.size, 3, none⟩ = some (.int .i64 vn) /\ w'.cell? ⟨w.heap.size, 4, none⟩ = some (.string vs) /\ w'.cell? ⟨w.heap.size, 5, none⟩ = some (.slice pa p.length pc) /\ w'.cell? ⟨w.heap.size, 6, none⟩ = some (.slice la l.length lc) /\ w'.cell? ⟨w3.heap.size, 0, none⟩ = some (.int .i64 yo) /\ w'.cell? ⟨w3.heap.size, 1, none⟩ = some (.string ys) /\ w'.cell? ⟨w3.heap.size, 2, none⟩ = some (.int .i64 yk) /\ w'.cell? ⟨w3.heap.size, 3, none⟩ = some (.int .i64 yn) /\ w'.cell? ⟨w3.heap.size, 4, none⟩ = some (.string yt) /\ w'.cell? ⟨w3.heap.size, 5, none⟩ = some (.slice ya ym yc) /\ w'.cell? ⟨w3.heap.size, 6, none⟩ = some (.slice yb yq yd) /\ Below (w3.alloc (.cells #[.int .i64 yo, .string ys, .int .i64 yk, .int .i64 yn, .string yt, .slice ya ym yc, .slice yb yq yd] 55)).heap.size (w3.alloc (.cells #[.int .i64 yo, .string ys, .int .i64 yk, .int .i64 yn, .string yt, .slice ya ym yc, .slice yb yq yd] 55)) w')
              (first | exact keep17 (by assumption) hb | (go_keep; done) | (go_split_ands; (repeat' apply And.intro) <;> first | (go_keep; done) | exact HDR.out))
              (first | (go_at_call 80; refine (HSE.out _ (last17 (by assumption))).mono ?_; rintro e w' ⟨rfl, hb⟩))
            rename_i hHeld
            have HBW := Lib.hid (last17 hHeld)
            clear hHeld hb
            go_wp2
            go_ret
            exact ⟨ret_int HR.out.symm, HBF.out.trans (HBW.out.mono HBF.out.size)⟩
          | false =>
            go_region_held3 (fun w' => w'.cell? ⟨w2.heap.size, 0, none⟩ = some (.slice la3 n lc3) /\ w'.cell? ⟨w2.heap.size, 1, none⟩ = some (.int .i64 n) /\ w'.cell? ⟨w2.heap.size, 2, none⟩ = some (.bool false) /\ w'.cell? ⟨w.heap.size, 0, none⟩ = some (.int .i64 op) /\ w'.cell? ⟨w.heap.size, 1, none⟩ = some (.string s) /\ w'.cell? ⟨w.heap.size, 2, none⟩ = some (.int .i64 vk) /\ w'.cell? ⟨w.heap.size, 3, none⟩ = some (.int .i64 vn) /\ w'.cell? ⟨w.heap.size, 4, none⟩ = some (.string vs) /\ w'.cell? ⟨w.heap.size, 5, none⟩ = some (.slice pa p.length pc) /\ w'.cell? ⟨w.heap.size, 6, none⟩ = some (.slice la l.length lc) /\ w'.cell? ⟨w3.heap.size, 0, none⟩ = some (.int .i64 yo) /\ w'.cell? ⟨w3.heap.size, 1, none⟩ = some (.string ys) /\ w'.cell? ⟨w3.heap.size, 2, none⟩ = some (.int .i64 yk) /\ w'.cell? ⟨w3.heap.size, 3, none⟩ = some (.int .i64 yn) /\ w'.cell? ⟨w3.heap.size, 4, none⟩ = some (.string yt) /\ w'.cell? ⟨w3.heap.size, 5, none⟩ = some (.slice ya ym yc) /\ w'.cell? ⟨w3.heap.size, 6, none⟩ = some (.slice yb yq yd) /\ Below (w3.alloc (.cells #[.int .i64 yo, .string ys, .int .i64 yk, .int .i64 yn, .string yt, .slice ya ym yc, .slice yb yq yd] 55)).heap.size (w3.alloc (.cells #[.int .i64 yo, .string ys, .int .i64 yk, .int .i64 yn, .string yt, .slice ya ym yc, .slice yb yq yd] 55)) w')
              (first | exact keep17 (by assumption) hb | (go_keep; done) | (go_split_ands; (repeat' apply And.intro) <;> first | (go_keep; done) | exact HDR.out))
              (first | (go_at_call 80; refine (HSE.out _ (last17 (by assumption))).mono ?_; rintro e w' ⟨rfl, hb⟩))
            rename_i hHeld
            have HBW := Lib.hid (last17 hHeld)
            clear hHeld hb
            go_wp2
            go_ret
            exact ⟨ret_int HR.out.symm, HBF.out.trans (HBW.out.mono HBF.out.size)⟩
theorem sz_mem : ∀ {l : List Ex} {x : Ex}, x ∈ l -> sz x <= szL l
  | a :: r, x, h => by
    simp only [szL]
    rcases List.mem_cons.1 h with rfl | h
    · omega
    · have := sz_mem h; omega
theorem szL_append : ∀ l m : List Ex, szL (l ++ m) = szL l + szL m
  | [], m => by simp [szL]
  | x :: r, m => by simp only [List.cons_append, szL, szL_append r m]; omega
theorem exprs19 (mixed : Tryz.prog.follows .mixedOrders = true) (l : List Ex) (v : Value) (w : World) (hw : szL l <= 2000000) (h : ExsAt allN w l v) :
    Calls Tryz.prog 19 #[v] w fun e w' => e = .returned (.int .i64 (errL l)) /\ Below w.heap.size w w' := by
  obtain ⟨a, c, rfl⟩ := h.shape
  have hlen : l.length <= 9223372036854775807 := h.1
  have H := Lib.hid h
  clear h
  go_enter Tryz.func19, Tryz.ntmps19
  go_wp2
  go_loopg [3] l.length (fun g s8 wr => ∃ k : Nat, k <= l.length /\ l.length - k <= g /\ s8 = .int .i64 k /\ errL (l.take k) = 0 /\ Below w.heap.size w wr)
  case atStart => exact ⟨0, Nat.zero_le _, by omega, rfl, rfl, Below.refl _ _⟩
  case round =>
    obtain ⟨k, hk, hg, rfl, hall, hbel⟩ := hrel
    replace hall := Lib.hid hall
    by_cases hlt : k < l.length
    · obtain ⟨b, o, yo, ys, yk, yn, yt, yp, yl, pa', pc', la', lc', rfl, _, hblt, hy, ⟨k0, k1, k2, k3, k4, k5, k6⟩, hx⟩ := H.out.elem hlt
      rw [<- (bcell hbel).1 _ _ hblt] at k0 k1 k2 k3 k4 k5 k6
      have HP := Lib.hid (errL_take l k hlt)
      have HN := Lib.hid (errL_at l k hlt)
      have hw1 : sz l[k] <= szL l := sz_mem (List.getElem_mem hlt)
      rw [hy] at HP HN hw1
      have I := Lib.hid (valid43 mixed _ _ wr (Nat.le_trans hw1 hw) (hx.below hbel))
      clear hx hy hw1
      by_cases hv : valEx (.mk yo ys ⟨yk, yn, yt⟩ yp yl) = 0
      · rw [hv] at I
        have HV := Lib.hid hv
        clear hv
        go_wp2_with (first | (go_at_call 43; refine I.out.mono ?_; rintro e w' ⟨rfl, hb⟩))
        go_roundg (l.length - (k + 1))
        case measure => omega
        case rel => exact ⟨k + 1, by omega, by omega, by go_num, HP.out hall.out HV.out, hbel.trans (hb.mono hbel.size)⟩
      · have HV := Lib.hid hv
        generalize valEx (.mk yo ys ⟨yk, yn, yt⟩ yp yl) = vv at *
        go_wp2_with (first | (go_at_call 43; refine I.out.mono ?_; rintro e w' ⟨rfl, hb⟩))
        go_ret
        exact ⟨ret_int (HN.out hall.out HV.out).symm, hbel.trans (hb.mono hbel.size)⟩
    · have hkl : k = l.length := by omega
      subst hkl
      go_wp2
      go_ret
      exact ⟨ret_int (by have := hall.out; rw [List.take_length] at this; exact this.symm), hbel⟩
theorem step_cat {ops : Array Oper} {o : Oper} {a : Act} {w : World} {K : Act -> World -> Prop} {Q : Exit -> Act -> World -> Prop} {E : Prop} {B : Nat} {v : Value} {l l2 : List Ex} {a2 : Option Addr} {c2 : Nat}
    (hg : o.guard = none) (s x : Operand) (hop : o.op = .call { callee := .builtin .append, args := #[s, x], argTypes := #[22, 22] }) (ht : o.type = 22) (hs : a.eval s = v) (hx : a.eval x = .slice a2 l2.length c2)
    (h : CatAt B w v l) (h2 : ExsAt (· < B) w l2 (.slice a2 l2.length c2)) (h21 : l2.length <= 1) (hn : a2 = none -> c2 = 0) (hl : l.length <= 1000) (hB : B <= w.heap.size)
    (hK : ∀ a' c' w', CatAt B w' (.slice a' (l ++ l2).length c') (l ++ l2) -> Below B w w' -> K (a.put o.dst (.slice a' (l ++ l2).length c')) w') :
    if Region.wanted o (yielded ops a.tmps) = true then Oper.wp Tryz.prog o a w K Q else E := by
  have hw : Region.wanted o (yielded ops a.tmps) = true := by simp [Region.wanted, hg]
  rw [if_pos hw]
  obtain ⟨v3, w3, hr, hc3, hb3, ⟨a3, c3, e3⟩, hs3⟩ := run_cat o.type h h2 h21 hn hl hB
  subst e3
  unfold Oper.wp execOp
  simp only [hop, resolve, invoke, builtin, Sem.run_bind, Sem.run_pure, Result.andThen_ok, List.map_toArray, List.map_cons, List.map_nil, hs, hx, hr]
  exact hK _ _ _ hc3 hb3
theorem keep3 {B : Nat} {w0 w1 w2 : World} {g : Nat} {a1 a2 a3 : Value}
    (h : w1.cell? ⟨g, 1, none⟩ = some a1 /\ w1.cell? ⟨g, 2, none⟩ = some a2 /\ w1.cell? ⟨g, 3, none⟩ = some a3 /\ g < B /\ B <= w1.heap.size /\ Below B w0 w1) (hb : Below B w1 w2) :
    w2.cell? ⟨g, 1, none⟩ = some a1 /\ w2.cell? ⟨g, 2, none⟩ = some a2 /\ w2.cell? ⟨g, 3, none⟩ = some a3 /\ g < B /\ B <= w2.heap.size /\ Below B w0 w2 := by
  obtain ⟨h1, h2, h3, h4, h5, h6⟩ := h
  exact ⟨by rw [hb.cell (p := ⟨g, 1, none⟩) h4]; exact h1, by rw [hb.cell (p := ⟨g, 2, none⟩) h4]; exact h2, by rw [hb.cell (p := ⟨g, 3, none⟩) h4]; exact h3, h4, Nat.le_trans h5 hb.size, h6.trans hb⟩
theorem last3 {P1 P2 P3 P4 P5 : Prop} {B : Nat} {w0 w1 : World} (h : P1 /\ P2 /\ P3 /\ P4 /\ P5 /\ Below B w0 w1) : Below B w0 w1 := h.2.2.2.2.2
theorem size3 {P1 P2 P3 P4 P6 : Prop} {B : Nat} {w1 : World} (h : P1 /\ P2 /\ P3 /\ P4 /\ B <= w1.heap.size /\ P6) : B <= w1.heap.size := h.2.2.2.2.1
theorem validate7 (mixed : Tryz.prog.follows .mixedOrders = true) (k : Int) (n f wl : List Ex) (nv fv wv : Value) (w : World) (hw : szL n + szL f + szL wl <= 2000000) (hn : SlAt w.heap.size w nv n) (hf : SlAt w.heap.size w fv f) (hwl : SlAt w.heap.size w wv wl) :
    Calls Tryz.prog 7 #[.agg #[.int .i64 k, nv, fv, wv]] w fun e w' => e = .returned (.int .i64 (errSc k n f wl)) /\ Below w.heap.size w w' := by
  have HN := Lib.hid hn
  have HF := Lib.hid hf
  have HWL := Lib.hid hwl
  obtain ⟨na, nc, rfl, hnn, qn⟩ := hn
  obtain ⟨fa, fc, rfl, hfn, qf⟩ := hf
  obtain ⟨wa, wc, rfl, hwn, qw⟩ := hwl
  have ln : n.length <= 9223372036854775807 := qn.1
  have lf : f.length <= 9223372036854775807 := qf.1
  have lw : wl.length <= 9223372036854775807 := qw.1
  have HK := Lib.hid (Bk.new w 24 #[.int .i64 k, .slice na n.length nc, .slice fa f.length fc, .slice wa wl.length wc])
  obtain ⟨k0, k1, k2, k3⟩ := Bk4' HK.out
  have HBAD := Lib.hid (@errSc_bad k n f wl)
  have HOK := Lib.hid (@errSc_ok k n f wl)
  have HA : Hid (Below (w.heap.size + 1) (w.alloc (.cells #[.int .i64 k, .slice na n.length nc, .slice fa f.length fc, .slice wa wl.length wc] 24)) (w.alloc (.cells #[.int .i64 k, .slice na n.length nc, .slice fa f.length fc, .slice wa wl.length wc] 24)).drew) := Lib.hid ((Below.refl _ _).drew)
  have HA0 : Hid (@Below w.heap.size w (w.alloc (.cells #[.int .i64 k, .slice na n.length nc, .slice fa f.length fc, .slice wa wl.length wc] 24))) := Lib.hid (below_a _)
  have SN := Lib.hid (fun w' (hb : Below (w.heap.size + 1) (w.alloc (.cells #[.int .i64 k, .slice na n.length nc, .slice fa f.length fc, .slice wa wl.length wc] 24)) w') => (ExsAt.mono (M := (· < w.heap.size + 1)) (ExsAt.keep (ExsAt.below qn (below_a (.cells #[.int .i64 k, .slice na n.length nc, .slice fa f.length fc, .slice wa wl.length wc] 24))) (fun b (hb' : b < w.heap.size) _ o => hb.cell (p := ⟨b, o, none⟩) (Nat.lt_succ_of_lt hb'))) (fun b _ hb => Nat.lt_succ_of_lt hb)))
  have SF := Lib.hid (fun w' (hb : Below (w.heap.size + 1) (w.alloc (.cells #[.int .i64 k, .slice na n.length nc, .slice fa f.length fc, .slice wa wl.length wc] 24)) w') => (ExsAt.mono (M := (· < w.heap.size + 1)) (ExsAt.keep (ExsAt.below qf (below_a (.cells #[.int .i64 k, .slice na n.length nc, .slice fa f.length fc, .slice wa wl.length wc] 24))) (fun b (hb' : b < w.heap.size) _ o => hb.cell (p := ⟨b, o, none⟩) (Nat.lt_succ_of_lt hb'))) (fun b _ hb => Nat.lt_succ_of_lt hb)))
  have SW := Lib.hid (fun w' (hb : Below (w.heap.size + 1) (w.alloc (.cells #[.int .i64 k, .slice na n.length nc, .slice fa f.length fc, .slice wa wl.length wc] 24)) w') => (ExsAt.mono (M := (· < w.heap.size + 1)) (ExsAt.keep (ExsAt.below qw (below_a (.cells #[.int .i64 k, .slice na n.length nc, .slice fa f.length fc, .slice wa wl.length wc] 24))) (fun b (hb' : b < w.heap.size) _ o => hb.cell (p := ⟨b, o, none⟩) (Nat.lt_succ_of_lt hb'))) (fun b _ hb => Nat.lt_succ_of_lt hb)))
  have HSZ : Hid (szL (n ++ (f ++ wl)) <= 2000000) := Lib.hid (by simp only [szL_append]; omega)
  have E19 := Lib.hid (fun v w' h => exprs19 mixed (n ++ (f ++ wl)) v w' HSZ.out h)
  clear hw qn qf qw HN HF HWL HSZ
  by_cases hgood : 0 <= k /\ k <= 4 /\ (n.length : Int) = (if k = 2 \/ k = 4 then 1 else 0) /\ f.length <= 1 /\ wl.length <= 1
  · obtain ⟨g1, g2, g3, g4, g5⟩ := hgood
    have g3' : n.length <= 1 := by split at g3 <;> omega
    have HR : Hid (errL (n ++ (f ++ wl)) = errSc k n f wl) := Lib.hid (by rw [HOK.out g1 g2 g3 g4 g5, List.append_assoc])
    clear HOK HBAD
    have hf1 : ¬ (1 : Int) < f.length := by omega
    have hw1 : ¬ (1 : Int) < wl.length := by omega
    have HG := Lib.hid (And.intro g3' (And.intro g4 g5))
    have HNN := Lib.hid (And.intro hnn (And.intro hfn hwn))
    clear g4 g5 g3' hnn hfn hwn
    obtain rfl | rfl | rfl | rfl | rfl : k = 0 \/ k = 1 \/ k = 2 \/ k = 3 \/ k = 4 := by omega
    · have g6 : (n.length : Int) = 0 := by rw [if_neg (by decide)] at g3; exact g3
      clear g1 g2 g3
      have TOKA := Lib.hid True.intro
      have TOKB := Lib.hid True.intro
      go_enter Tryz.func7, Tryz.ntmps7
      go_wp2_with fail
      go_region_held3 (fun w' => w'.cell? ⟨w.heap.size, 1, none⟩ = some (.slice na n.length nc) /\ w'.cell? ⟨w.heap.size, 2, none⟩ = some (.slice fa f.length fc) /\ w'.cell? ⟨w.heap.size, 3, none⟩ = some (.slice wa wl.length wc) /\ w.heap.size < w.heap.size + 1 /\ w.heap.size + 1 <= w'.heap.size /\ Below (w.heap.size + 1) (w.alloc (.cells #[.int .i64 0, .slice na n.length nc, .slice fa f.length fc, .slice wa wl.length wc] 24)) w')
        (first | exact keep3 (by assumption) hb | (go_keep; done) | (go_split_ands; (repeat' apply And.intro) <;> first | (go_keep; done) | exact HA.out | omega | (simp; done)))
        (first
          | (clear TOKA; refine step_cat (l := []) rfl _ _ rfl rfl (by first | (simp [Act.eval, Act.put]; done) | rfl) (by first | (simp [Act.eval, Act.put]; done) | rfl) (CatAt.nil (w.heap.size + 1) _ (World.ownsRow_nil _ _ _ _)) (SN.out _ (last3 (by assumption))) HG.out.1 HNN.out.1 (by simp) (size3 (by assumption)) ?_; intro a1 c1 w1 hc1 hb; have HC1 := Lib.hid hc1; clear hc1)
          | (clear TOKB; refine step_cat rfl _ _ rfl rfl (by first | (simp [Act.eval, Act.put]; done) | rfl) (by first | (simp [Act.eval, Act.put]; done) | rfl) HC1.out (SF.out _ (last3 (by assumption))) HG.out.2.1 HNN.out.2.1 (by have := HG.out; simp; omega) (size3 (by assumption)) ?_; intro a2 c2 w2 hc2 hb; have HC2 := Lib.hid hc2; clear hc2)
          | (refine step_cat rfl _ _ rfl rfl (by first | (simp [Act.eval, Act.put]; done) | rfl) (by first | (simp [Act.eval, Act.put]; done) | rfl) HC2.out (SW.out _ (last3 (by assumption))) HG.out.2.2 HNN.out.2.2 (by have := HG.out; simp; omega) (size3 (by assumption)) ?_; intro a3 c3 w3 hc3 hb; have HC3 := Lib.hid hc3; clear hc3))
      rename_i hHeld
      have HB3 := Lib.hid (HA0.out.trans ((last3 hHeld).mono (Nat.le_succ _)))
      have HX3 : Hid (ExsAt allN w3 (n ++ (f ++ wl)) (.slice a3 (n.length + (f.length + wl.length)) c3)) := Lib.hid (by
        have h := HC3.out.exs (by have h1 := HG.out; unfold mx; simp; omega)
        rw [show ([] ++ n ++ f ++ wl) = n ++ (f ++ wl) by simp, show (n ++ (f ++ wl)).length = n.length + (f.length + wl.length) by simp] at h
        exact h)
      clear hHeld hb HC1 HC2 HC3
      go_wp2_with (first | (go_at_call 19; refine (E19.out _ _ HX3.out).mono ?_; rintro e w4 ⟨rfl, hb4⟩))
      go_ret
      exact ⟨ret_int HR.out, HB3.out.trans (hb4.mono HB3.out.size)⟩
    · have g6 : (n.length : Int) = 0 := by rw [if_neg (by decide)] at g3; exact g3
      clear g1 g2 g3
      have TOKA := Lib.hid True.intro
      have TOKB := Lib.hid True.intro
      go_enter Tryz.func7, Tryz.ntmps7
      go_wp2_with fail
      go_region_held3 (fun w' => w'.cell? ⟨w.heap.size, 1, none⟩ = some (.slice na n.length nc) /\ w'.cell? ⟨w.heap.size, 2, none⟩ = some (.slice fa f.length fc) /\ w'.cell? ⟨w.heap.size, 3, none⟩ = some (.slice wa wl.length wc) /\ w.heap.size < w.heap.size + 1 /\ w.heap.size + 1 <= w'.heap.size /\ Below (w.heap.size + 1) (w.alloc (.cells #[.int .i64 1, .slice na n.length nc, .slice fa f.length fc, .slice wa wl.length wc] 24)) w')
        (first | exact keep3 (by assumption) hb | (go_keep; done) | (go_split_ands; (repeat' apply And.intro) <;> first | (go_keep; done) | exact HA.out | omega | (simp; done)))
        (first
          | (clear TOKA; refine step_cat (l := []) rfl _ _ rfl rfl (by first | (simp [Act.eval, Act.put]; done) | rfl) (by first | (simp [Act.eval, Act.put]; done) | rfl) (CatAt.nil (w.heap.size + 1) _ (World.ownsRow_nil _ _ _ _)) (SN.out _ (last3 (by assumption))) HG.out.1 HNN.out.1 (by simp) (size3 (by assumption)) ?_; intro a1 c1 w1 hc1 hb; have HC1 := Lib.hid hc1; clear hc1)
          | (clear TOKB; refine step_cat rfl _ _ rfl rfl (by first | (simp [Act.eval, Act.put]; done) | rfl) (by first | (simp [Act.eval, Act.put]; done) | rfl) HC1.out (SF.out _ (last3 (by assumption))) HG.out.2.1 HNN.out.2.1 (by have := HG.out; simp; omega) (size3 (by assumption)) ?_; intro a2 c2 w2 hc2 hb; have HC2 := Lib.hid hc2; clear hc2)
          | (refine step_cat rfl _ _ rfl rfl (by first | (simp [Act.eval, Act.put]; done) | rfl) (by first | (simp [Act.eval, Act.put]; done) | rfl) HC2.out (SW.out _ (last3 (by assumption))) HG.out.2.2 HNN.out.2.2 (by have := HG.out; simp; omega) (size3 (by assumption)) ?_; intro a3 c3 w3 hc3 hb; have HC3 := Lib.hid hc3; clear hc3))
      rename_i hHeld
      have HB3 := Lib.hid (HA0.out.trans ((last3 hHeld).mono (Nat.le_succ _)))
      have HX3 : Hid (ExsAt allN w3 (n ++ (f ++ wl)) (.slice a3 (n.length + (f.length + wl.length)) c3)) := Lib.hid (by
        have h := HC3.out.exs (by have h1 := HG.out; unfold mx; simp; omega)
        rw [show ([] ++ n ++ f ++ wl) = n ++ (f ++ wl) by simp, show (n ++ (f ++ wl)).length = n.length + (f.length + wl.length) by simp] at h
        exact h)
      clear hHeld hb HC1 HC2 HC3
      go_wp2_with (first | (go_at_call 19; refine (E19.out _ _ HX3.out).mono ?_; rintro e w4 ⟨rfl, hb4⟩))
      go_ret
      exact ⟨ret_int HR.out, HB3.out.trans (hb4.mono HB3.out.size)⟩
    · have g6 : (n.length : Int) = 1 := by rw [if_pos (by decide)] at g3; exact g3
      clear g1 g2 g3
      have TOKA := Lib.hid True.intro
      have TOKB := Lib.hid True.intro
      go_enter Tryz.func7, Tryz.ntmps7
      go_wp2_with fail
      go_region_held3 (fun w' => w'.cell? ⟨w.heap.size, 1, none⟩ = some (.slice na n.length nc) /\ w'.cell? ⟨w.heap.size, 2, none⟩ = some (.slice fa f.length fc) /\ w'.cell? ⟨w.heap.size, 3, none⟩ = some (.slice wa wl.length wc) /\ w.heap.size < w.heap.size + 1 /\ w.heap.size + 1 <= w'.heap.size /\ Below (w.heap.size + 1) (w.alloc (.cells #[.int .i64 2, .slice na n.length nc, .slice fa f.length fc, .slice wa wl.length wc] 24)) w')
        (first | exact keep3 (by assumption) hb | (go_keep; done) | (go_split_ands; (repeat' apply And.intro) <;> first | (go_keep; done) | exact HA.out | omega | (simp; done)))
        (first
          | (clear TOKA; refine step_cat (l := []) rfl _ _ rfl rfl (by first | (simp [Act.eval, Act.put]; done) | rfl) (by first | (simp [Act.eval, Act.put]; done) | rfl) (CatAt.nil (w.heap.size + 1) _ (World.ownsRow_nil _ _ _ _)) (SN.out _ (last3 (by assumption))) HG.out.1 HNN.out.1 (by simp) (size3 (by assumption)) ?_; intro a1 c1 w1 hc1 hb; have HC1 := Lib.hid hc1; clear hc1)
          | (clear TOKB; refine step_cat rfl _ _ rfl rfl (by first | (simp [Act.eval, Act.put]; done) | rfl) (by first | (simp [Act.eval, Act.put]; done) | rfl) HC1.out (SF.out _ (last3 (by assumption))) HG.out.2.1 HNN.out.2.1 (by have := HG.out; simp; omega) (size3 (by assumption)) ?_; intro a2 c2 w2 hc2 hb; have HC2 := Lib.hid hc2; clear hc2)
          | (refine step_cat rfl _ _ rfl rfl (by first | (simp [Act.eval, Act.put]; done) | rfl) (by first | (simp [Act.eval, Act.put]; done) | rfl) HC2.out (SW.out _ (last3 (by assumption))) HG.out.2.2 HNN.out.2.2 (by have := HG.out; simp; omega) (size3 (by assumption)) ?_; intro a3 c3 w3 hc3 hb; have HC3 := Lib.hid hc3; clear hc3))
      rename_i hHeld
      have HB3 := Lib.hid (HA0.out.trans ((last3 hHeld).mono (Nat.le_succ _)))
      have HX3 : Hid (ExsAt allN w3 (n ++ (f ++ wl)) (.slice a3 (n.length + (f.length + wl.length)) c3)) := Lib.hid (by
        have h := HC3.out.exs (by have h1 := HG.out; unfold mx; simp; omega)
        rw [show ([] ++ n ++ f ++ wl) = n ++ (f ++ wl) by simp, show (n ++ (f ++ wl)).length = n.length + (f.length + wl.length) by simp] at h
        exact h)
      clear hHeld hb HC1 HC2 HC3
      go_wp2_with (first | (go_at_call 19; refine (E19.out _ _ HX3.out).mono ?_; rintro e w4 ⟨rfl, hb4⟩))
      go_ret
      exact ⟨ret_int HR.out, HB3.out.trans (hb4.mono HB3.out.size)⟩
    · have g6 : (n.length : Int) = 0 := by rw [if_neg (by decide)] at g3; exact g3
      clear g1 g2 g3
      have TOKA := Lib.hid True.intro
      have TOKB := Lib.hid True.intro
      go_enter Tryz.func7, Tryz.ntmps7
      go_wp2_with fail
      go_region_held3 (fun w' => w'.cell? ⟨w.heap.size, 1, none⟩ = some (.slice na n.length nc) /\ w'.cell? ⟨w.heap.size, 2, none⟩ = some (.slice fa f.length fc) /\ w'.cell? ⟨w.heap.size, 3, none⟩ = some (.slice wa wl.length wc) /\ w.heap.size < w.heap.size + 1 /\ w.heap.size + 1 <= w'.heap.size /\ Below (w.heap.size + 1) (w.alloc (.cells #[.int .i64 3, .slice na n.length nc, .slice fa f.length fc, .slice wa wl.length wc] 24)) w')
        (first | exact keep3 (by assumption) hb | (go_keep; done) | (go_split_ands; (repeat' apply And.intro) <;> first | (go_keep; done) | exact HA.out | omega | (simp; done)))
        (first
          | (clear TOKA; refine step_cat (l := []) rfl _ _ rfl rfl (by first | (simp [Act.eval, Act.put]; done) | rfl) (by first | (simp [Act.eval, Act.put]; done) | rfl) (CatAt.nil (w.heap.size + 1) _ (World.ownsRow_nil _ _ _ _)) (SN.out _ (last3 (by assumption))) HG.out.1 HNN.out.1 (by simp) (size3 (by assumption)) ?_; intro a1 c1 w1 hc1 hb; have HC1 := Lib.hid hc1; clear hc1)
          | (clear TOKB; refine step_cat rfl _ _ rfl rfl (by first | (simp [Act.eval, Act.put]; done) | rfl) (by first | (simp [Act.eval, Act.put]; done) | rfl) HC1.out (SF.out _ (last3 (by assumption))) HG.out.2.1 HNN.out.2.1 (by have := HG.out; simp; omega) (size3 (by assumption)) ?_; intro a2 c2 w2 hc2 hb; have HC2 := Lib.hid hc2; clear hc2)
          | (refine step_cat rfl _ _ rfl rfl (by first | (simp [Act.eval, Act.put]; done) | rfl) (by first | (simp [Act.eval, Act.put]; done) | rfl) HC2.out (SW.out _ (last3 (by assumption))) HG.out.2.2 HNN.out.2.2 (by have := HG.out; simp; omega) (size3 (by assumption)) ?_; intro a3 c3 w3 hc3 hb; have HC3 := Lib.hid hc3; clear hc3))
      rename_i hHeld
      have HB3 := Lib.hid (HA0.out.trans ((last3 hHeld).mono (Nat.le_succ _)))
      have HX3 : Hid (ExsAt allN w3 (n ++ (f ++ wl)) (.slice a3 (n.length + (f.length + wl.length)) c3)) := Lib.hid (by
        have h := HC3.out.exs (by have h1 := HG.out; unfold mx; simp; omega)
        rw [show ([] ++ n ++ f ++ wl) = n ++ (f ++ wl) by simp, show (n ++ (f ++ wl)).length = n.length + (f.length + wl.length) by simp] at h
        exact h)
      clear hHeld hb HC1 HC2 HC3
      go_wp2_with (first | (go_at_call 19; refine (E19.out _ _ HX3.out).mono ?_; rintro e w4 ⟨rfl, hb4⟩))
      go_ret
      exact ⟨ret_int HR.out, HB3.out.trans (hb4.mono HB3.out.size)⟩
    · have g6 : (n.length : Int) = 1 := by rw [if_pos (by decide)] at g3; exact g3
      clear g1 g2 g3
      have TOKA := Lib.hid True.intro
      have TOKB := Lib.hid True.intro
      go_enter Tryz.func7, Tryz.ntmps7
      go_wp2_with fail
      go_region_held3 (fun w' => w'.cell? ⟨w.heap.size, 1, none⟩ = some (.slice na n.length nc) /\ w'.cell? ⟨w.heap.size, 2, none⟩ = some (.slice fa f.length fc) /\ w'.cell? ⟨w.heap.size, 3, none⟩ = some (.slice wa wl.length wc) /\ w.heap.size < w.heap.size + 1 /\ w.heap.size + 1 <= w'.heap.size /\ Below (w.heap.size + 1) (w.alloc (.cells #[.int .i64 4, .slice na n.length nc, .slice fa f.length fc, .slice wa wl.length wc] 24)) w')
        (first | exact keep3 (by assumption) hb | (go_keep; done) | (go_split_ands; (repeat' apply And.intro) <;> first | (go_keep; done) | exact HA.out | omega | (simp; done)))
        (first
          | (clear TOKA; refine step_cat (l := []) rfl _ _ rfl rfl (by first | (simp [Act.eval, Act.put]; done) | rfl) (by first | (simp [Act.eval, Act.put]; done) | rfl) (CatAt.nil (w.heap.size + 1) _ (World.ownsRow_nil _ _ _ _)) (SN.out _ (last3 (by assumption))) HG.out.1 HNN.out.1 (by simp) (size3 (by assumption)) ?_; intro a1 c1 w1 hc1 hb; have HC1 := Lib.hid hc1; clear hc1)
          | (clear TOKB; refine step_cat rfl _ _ rfl rfl (by first | (simp [Act.eval, Act.put]; done) | rfl) (by first | (simp [Act.eval, Act.put]; done) | rfl) HC1.out (SF.out _ (last3 (by assumption))) HG.out.2.1 HNN.out.2.1 (by have := HG.out; simp; omega) (size3 (by assumption)) ?_; intro a2 c2 w2 hc2 hb; have HC2 := Lib.hid hc2; clear hc2)
          | (refine step_cat rfl _ _ rfl rfl (by first | (simp [Act.eval, Act.put]; done) | rfl) (by first | (simp [Act.eval, Act.put]; done) | rfl) HC2.out (SW.out _ (last3 (by assumption))) HG.out.2.2 HNN.out.2.2 (by have := HG.out; simp; omega) (size3 (by assumption)) ?_; intro a3 c3 w3 hc3 hb; have HC3 := Lib.hid hc3; clear hc3))
      rename_i hHeld
      have HB3 := Lib.hid (HA0.out.trans ((last3 hHeld).mono (Nat.le_succ _)))
      have HX3 : Hid (ExsAt allN w3 (n ++ (f ++ wl)) (.slice a3 (n.length + (f.length + wl.length)) c3)) := Lib.hid (by
        have h := HC3.out.exs (by have h1 := HG.out; unfold mx; simp; omega)
        rw [show ([] ++ n ++ f ++ wl) = n ++ (f ++ wl) by simp, show (n ++ (f ++ wl)).length = n.length + (f.length + wl.length) by simp] at h
        exact h)
      clear hHeld hb HC1 HC2 HC3
      go_wp2_with (first | (go_at_call 19; refine (E19.out _ _ HX3.out).mono ?_; rintro e w4 ⟨rfl, hb4⟩))
      go_ret
      exact ⟨ret_int HR.out, HB3.out.trans (hb4.mono HB3.out.size)⟩
  · have HR := Lib.hid (HBAD.out (by
      by_cases h1 : k < 0
      · exact .inl h1
      by_cases h2 : 4 < k
      · exact .inr (.inl h2)
      by_cases h3 : (n.length : Int) = (if k = 2 \/ k = 4 then 1 else 0)
      · by_cases h4 : f.length <= 1
        · by_cases h5 : wl.length <= 1
          · exact absurd ⟨by omega, by omega, h3, h4, h5⟩ hgood
          · exact .inr (.inr (.inr (.inr (by omega))))
        · exact .inr (.inr (.inr (.inl (by omega))))
      · exact .inr (.inr (.inl h3))))
    clear HOK HBAD SN SF SW HA HA0 E19 HK hnn hfn hwn
    by_cases h1 : k < 0
    · clear hgood
      go_enter Tryz.func7, Tryz.ntmps7
      go_wp2
      all_goals
        go_ret
        exact ⟨ret_int HR.out.symm, below_a _⟩
    by_cases h2 : 4 < k
    · clear hgood
      go_enter Tryz.func7, Tryz.ntmps7
      go_wp2
      all_goals
        go_ret
        exact ⟨ret_int HR.out.symm, below_a _⟩
    obtain rfl | rfl | rfl | rfl | rfl : k = 0 \/ k = 1 \/ k = 2 \/ k = 3 \/ k = 4 := by omega
    · by_cases b1 : (1 : Int) < n.length
      · clear hgood h1 h2
        go_enter Tryz.func7, Tryz.ntmps7
        go_wp2
        go_ret
        exact ⟨ret_int HR.out.symm, below_a _⟩
      by_cases b2 : (1 : Int) < f.length
      · clear hgood h1 h2
        go_enter Tryz.func7, Tryz.ntmps7
        go_wp2
        go_ret
        exact ⟨ret_int HR.out.symm, below_a _⟩
      by_cases b3 : (1 : Int) < wl.length
      · clear hgood h1 h2
        go_enter Tryz.func7, Tryz.ntmps7
        go_wp2
        go_ret
        exact ⟨ret_int HR.out.symm, below_a _⟩
      · have q : (n.length : Int) = 1 := by
          rcases Nat.lt_or_ge n.length 1 with h | h
          · exact absurd ⟨by omega, by omega, by rw [if_neg (by decide)]; omega, by omega, by omega⟩ hgood
          · omega
        clear hgood h1 h2
        go_enter Tryz.func7, Tryz.ntmps7
        go_wp2
        go_ret
        exact ⟨ret_int HR.out.symm, below_a _⟩
    · by_cases b1 : (1 : Int) < n.length
      · clear hgood h1 h2
        go_enter Tryz.func7, Tryz.ntmps7
        go_wp2
        go_ret
        exact ⟨ret_int HR.out.symm, below_a _⟩
      by_cases b2 : (1 : Int) < f.length
      · clear hgood h1 h2
        go_enter Tryz.func7, Tryz.ntmps7
        go_wp2
        go_ret
        exact ⟨ret_int HR.out.symm, below_a _⟩
      by_cases b3 : (1 : Int) < wl.length
      · clear hgood h1 h2
        go_enter Tryz.func7, Tryz.ntmps7
        go_wp2
        go_ret
        exact ⟨ret_int HR.out.symm, below_a _⟩
      · have q : (n.length : Int) = 1 := by
          rcases Nat.lt_or_ge n.length 1 with h | h
          · exact absurd ⟨by omega, by omega, by rw [if_neg (by decide)]; omega, by omega, by omega⟩ hgood
          · omega
        clear hgood h1 h2
        go_enter Tryz.func7, Tryz.ntmps7
        go_wp2
        go_ret
        exact ⟨ret_int HR.out.symm, below_a _⟩
    · by_cases b1 : (1 : Int) < n.length
      · clear hgood h1 h2
        go_enter Tryz.func7, Tryz.ntmps7
        go_wp2
        go_ret
        exact ⟨ret_int HR.out.symm, below_a _⟩
      by_cases b2 : (1 : Int) < f.length
      · clear hgood h1 h2
        go_enter Tryz.func7, Tryz.ntmps7
        go_wp2
        go_ret
        exact ⟨ret_int HR.out.symm, below_a _⟩
      by_cases b3 : (1 : Int) < wl.length
      · clear hgood h1 h2
        go_enter Tryz.func7, Tryz.ntmps7
        go_wp2
        go_ret
        exact ⟨ret_int HR.out.symm, below_a _⟩
      · have q : (n.length : Int) = 0 := by
          rcases Nat.lt_or_ge n.length 1 with h | h
          · omega
          · exact absurd ⟨by omega, by omega, by rw [if_pos (by decide)]; omega, by omega, by omega⟩ hgood
        clear hgood h1 h2
        go_enter Tryz.func7, Tryz.ntmps7
        go_wp2
        go_ret
        exact ⟨ret_int HR.out.symm, below_a _⟩
    · by_cases b1 : (1 : Int) < n.length
      · clear hgood h1 h2
        go_enter Tryz.func7, Tryz.ntmps7
        go_wp2
        go_ret
        exact ⟨ret_int HR.out.symm, below_a _⟩
      by_cases b2 : (1 : Int) < f.length
      · clear hgood h1 h2
        go_enter Tryz.func7, Tryz.ntmps7
        go_wp2
        go_ret
        exact ⟨ret_int HR.out.symm, below_a _⟩
      by_cases b3 : (1 : Int) < wl.length
      · clear hgood h1 h2
        go_enter Tryz.func7, Tryz.ntmps7
        go_wp2
        go_ret
        exact ⟨ret_int HR.out.symm, below_a _⟩
      · have q : (n.length : Int) = 1 := by
          rcases Nat.lt_or_ge n.length 1 with h | h
          · exact absurd ⟨by omega, by omega, by rw [if_neg (by decide)]; omega, by omega, by omega⟩ hgood
          · omega
        clear hgood h1 h2
        go_enter Tryz.func7, Tryz.ntmps7
        go_wp2
        go_ret
        exact ⟨ret_int HR.out.symm, below_a _⟩
    · by_cases b1 : (1 : Int) < n.length
      · clear hgood h1 h2
        go_enter Tryz.func7, Tryz.ntmps7
        go_wp2
        go_ret
        exact ⟨ret_int HR.out.symm, below_a _⟩
      by_cases b2 : (1 : Int) < f.length
      · clear hgood h1 h2
        go_enter Tryz.func7, Tryz.ntmps7
        go_wp2
        go_ret
        exact ⟨ret_int HR.out.symm, below_a _⟩
      by_cases b3 : (1 : Int) < wl.length
      · clear hgood h1 h2
        go_enter Tryz.func7, Tryz.ntmps7
        go_wp2
        go_ret
        exact ⟨ret_int HR.out.symm, below_a _⟩
      · have q : (n.length : Int) = 0 := by
          rcases Nat.lt_or_ge n.length 1 with h | h
          · omega
          · exact absurd ⟨by omega, by omega, by rw [if_pos (by decide)]; omega, by omega, by omega⟩ hgood
        clear hgood h1 h2
        go_enter Tryz.func7, Tryz.ntmps7
        go_wp2
        go_ret
        exact ⟨ret_int HR.out.symm, below_a _⟩
theorem keepS {w0 w1 w2 : World} {g : Nat} {a0 a1 a2 a3 : Value}
    (h : w1.cell? ⟨g, 0, none⟩ = some a0 /\ w1.cell? ⟨g, 1, none⟩ = some a1 /\ w1.cell? ⟨g, 2, none⟩ = some a2 /\ w1.cell? ⟨g, 3, none⟩ = some a3 /\ Below w0.heap.size w0 w1) (hb : Below w1.heap.size w1 w2) :
    w2.cell? ⟨g, 0, none⟩ = some a0 /\ w2.cell? ⟨g, 1, none⟩ = some a1 /\ w2.cell? ⟨g, 2, none⟩ = some a2 /\ w2.cell? ⟨g, 3, none⟩ = some a3 /\ Below w0.heap.size w0 w2 := by
  obtain ⟨h1, h2, h3, h4, h5⟩ := h
  have L : ∀ {p : Addr} {v : Value}, w1.cell? p = some v -> w2.cell? p = some v := fun {p v} hh => by rw [hb.cell (World.block_lt_of_cell? w1 _ hh)]; exact hh
  exact ⟨L h1, L h2, L h3, L h4, h5.trans (hb.mono h5.size)⟩
theorem lastS {P1 P2 P3 P4 : Prop} {w0 w1 : World} (h : P1 /\ P2 /\ P3 /\ P4 /\ Below w0.heap.size w0 w1) : Below w0.heap.size w0 w1 := h.2.2.2.2
theorem SlAt.exs {B : Nat} {w : World} {v : Value} {l : List Ex} (h : SlAt B w v l) : ExsAt allN w l v := by
  obtain ⟨a, c, rfl, -, h⟩ := h
  exact h.mono fun _ _ _ => trivial
theorem SlAt.at {w w' : World} {v : Value} {l : List Ex} (h : SlAt w.heap.size w v l) (hb : Below w.heap.size w w') : SlAt w'.heap.size w' v l := (h.low hb).up hb.size
theorem law3 (mixed : Tryz.prog.follows .mixedOrders = true) (O : OpsC) (k : Int) (n f wl : List Ex) (nv fv wv : Value) (w : World) (hw : szL n + szL f + szL wl <= 2000000) (hn : SlAt w.heap.size w nv n) (hf : SlAt w.heap.size w fv f) (hwl : SlAt w.heap.size w wv wl)
    (KN0 : ∀ w', Below w.heap.size w w' -> Calls Tryz.prog 5 #[] w' fun e w'' => e = .returned (.bool true) /\ Below w'.heap.size w' w'') :
    Calls Tryz.prog 3 #[.agg #[.int .i64 k, nv, fv, wv]] w fun e w' => e = .returned (.bool true) /\ Below w.heap.size w w' := by
  have KN := Lib.hid KN0
  have SN := Lib.hid (fun w' (hb : Below w.heap.size w w') => size4 mixed n nv w' (hn.at hb).exs)
  have SF := Lib.hid (fun w' (hb : Below w.heap.size w w') => size4 mixed f fv w' (hf.at hb).exs)
  have SW := Lib.hid (fun w' (hb : Below w.heap.size w w') => size4 mixed wl wv w' (hwl.at hb).exs)
  have hwt : wtL n + wtL f + wtL wl <= bigW := by
    have h1 := wtL_le_szL n; have h2 := wtL_le_szL f; have h3 := wtL_le_szL wl
    unfold bigW; omega
  have V6 := Lib.hid (fun w' (hb : Below w.heap.size w w') => validate6 O k n f wl nv fv wv w' hwt (hn.at hb) (hf.at hb) (hwl.at hb))
  have V7 := Lib.hid (fun w' (hb : Below w.heap.size w w') => validate7 mixed k n f wl nv fv wv w' hw (hn.at hb) (hf.at hb) (hwl.at hb))
  obtain ⟨na, nc, rfl, -, qn⟩ := hn
  obtain ⟨fa, fc, rfl, -, qf⟩ := hf
  obtain ⟨wa, wc, rfl, -, qw⟩ := hwl
  have ln : n.length <= 9223372036854775807 := qn.1
  have lf : f.length <= 9223372036854775807 := qf.1
  have lw : wl.length <= 9223372036854775807 := qw.1
  have HK := Lib.hid (Bk.new w 24 #[.int .i64 k, .slice na n.length nc, .slice fa f.length fc, .slice wa wl.length wc])
  obtain ⟨k0, k1, k2, k3⟩ := Bk4' HK.out
  have HA : Hid (Below w.heap.size w (w.alloc (.cells #[.int .i64 k, .slice na n.length nc, .slice fa f.length fc, .slice wa wl.length wc] 24)).drew) := Lib.hid ((below_a _).drew)
  have TOKA := Lib.hid True.intro
  have TOKB := Lib.hid True.intro
  generalize errSc k n f wl = er at *
  clear KN0 hw hwt qn qf qw
  go_enter Tryz.func3, Tryz.ntmps3
  go_wp2_with fail
  go_region_held3 (fun w' => w'.cell? ⟨w.heap.size, 0, none⟩ = some (.int .i64 k) /\ w'.cell? ⟨w.heap.size, 1, none⟩ = some (.slice na n.length nc) /\ w'.cell? ⟨w.heap.size, 2, none⟩ = some (.slice fa f.length fc) /\ w'.cell? ⟨w.heap.size, 3, none⟩ = some (.slice wa wl.length wc) /\ Below w.heap.size w w')
    (first | exact keepS (by assumption) hb | (go_keep; done) | (go_split_ands; (repeat' apply And.intro) <;> first | (go_keep; done) | exact HA.out))
    (first
      | (clear TOKA; go_at_call 4; refine (SN.out _ (lastS (by assumption))).mono ?_; rintro e w1 ⟨⟨z1, rfl⟩, hb⟩)
      | (clear TOKB; go_at_call 4; refine (SF.out _ (lastS (by assumption))).mono ?_; rintro e w2 ⟨⟨z2, rfl⟩, hb⟩)
      | (go_at_call 4; refine (SW.out _ (lastS (by assumption))).mono ?_; rintro e w3 ⟨⟨z3, rfl⟩, hb⟩))
  rename_i hHeld
  have HB3 := Lib.hid (lastS hHeld)
  generalize IntKind.i64.wrap (IntKind.i64.wrap (z1 + z2) + z3) = tot
  by_cases htot : 60000 < tot
  · clear hHeld hb
    go_wp2_with (first | (go_at_call 5; refine (KN.out _ HB3.out).mono ?_; rintro e w5 ⟨rfl, hb5⟩))
    go_ret
    exact ⟨rfl, HB3.out.trans (hb5.mono HB3.out.size)⟩
  · have HH := Lib.hid hHeld
    obtain ⟨q0, q1, q2, q3, -⟩ := hHeld
    have HD := Lib.hid (below_drew0 HB3.out)
    clear hb k0 k1 k2 k3 HK HA
    go_wp2_with fail
    go_region_held3 (fun w' => w'.cell? ⟨w.heap.size, 0, none⟩ = some (.int .i64 k) /\ w'.cell? ⟨w.heap.size, 1, none⟩ = some (.slice na n.length nc) /\ w'.cell? ⟨w.heap.size, 2, none⟩ = some (.slice fa f.length fc) /\ w'.cell? ⟨w.heap.size, 3, none⟩ = some (.slice wa wl.length wc) /\ Below w.heap.size w w')
      (first | exact keepS (by assumption) hb | (go_keep; done) | (go_split_ands; (repeat' apply And.intro) <;> first | (go_keep; done) | exact HD.out))
      (first
        | (go_at_call 6; refine (V6.out _ (lastS (by assumption))).mono ?_; rintro e w6 ⟨rfl, hb⟩)
        | (go_at_call 7; refine (V7.out _ (lastS (by assumption))).mono ?_; rintro e w7 ⟨rfl, hb⟩)
        | (go_at_call 5; refine (KN.out _ (lastS (by assumption))).mono ?_; rintro e w5 ⟨rfl, hb⟩))
    rename_i hHeld2
    have HB5 := Lib.hid (lastS hHeld2)
    clear hHeld2 hb
    go_wp2
    go_ret
    exact ⟨rfl, HB5.out⟩
open Go Go.RowKit Go.Lib Go.ChangeShapes Go.WideShapes Go.Deep Go.Joins
structure Blk {H : Type} (B : DataW H -> Nat) : Prop where
  str : ∀ b, b.length + 1 <= B (.lit (.string b))
  agg : ∀ ps, (ps.map B).sum + 1 <= B (.agg ps)
  sl : ∀ es rest, (es.map B).sum + 1 <= B (.slice es rest)
theorem cellsOf55 : Tryz.prog.cellsOf 55 = 7 := by kernel_rfl
theorem cellsOf46 : Tryz.prog.cellsOf 46 = 1 := by kernel_rfl
theorem cellsOf38 : Tryz.prog.cellsOf 38 = 3 := by kernel_rfl
theorem cellsOf22 : Tryz.prog.cellsOf 22 = 1 := by kernel_rfl
theorem cellsOf3 : Tryz.prog.cellsOf 3 = 1 := by kernel_rfl
theorem cellsOf9 : Tryz.prog.cellsOf 9 = 1 := by kernel_rfl
theorem cellsOf24 : Tryz.prog.cellsOf 24 = 4 := by kernel_rfl
theorem under55 : ∃ f0 f1 f2 f3 f4, Tryz.prog.underlying 55 = some (.struct #[f0, f1, f2, f3, f4]) /\ (f0.type = 3 /\ f1.type = 9 /\ f2.type = 38 /\ f3.type = 46 /\ f4.type = 22) /\ f0.offset = 0 /\ f1.offset = 1 /\ f2.offset = 2 /\ f3.offset = 5 /\ f4.offset = 6 := ⟨_, _, _, _, _, Tryz.underlying55, ⟨rfl, rfl, rfl, rfl, rfl⟩, rfl, rfl, rfl, rfl, rfl⟩
theorem under38 : ∃ f0 f1 f2, Tryz.prog.underlying 38 = some (.struct #[f0, f1, f2]) /\ (f0.type = 3 /\ f1.type = 3 /\ f2.type = 9) /\ f0.offset = 0 /\ f1.offset = 1 /\ f2.offset = 2 := ⟨_, _, _, Tryz.underlying38, ⟨rfl, rfl, rfl⟩, rfl, rfl, rfl⟩
theorem under24 : ∃ f0 f1 f2 f3, Tryz.prog.underlying 24 = some (.struct #[f0, f1, f2, f3]) /\ (f0.type = 3 /\ f1.type = 22 /\ f2.type = 22 /\ f3.type = 22) /\ f0.offset = 0 /\ f1.offset = 1 /\ f2.offset = 2 /\ f3.offset = 3 := ⟨_, _, _, _, Tryz.underlying24, ⟨rfl, rfl, rfl, rfl⟩, rfl, rfl, rfl, rfl⟩
section
variable {H : Type} {enc : TypeId × Value -> H} {W : World} {sp : Nat -> Bool} {hd : Bool}
theorem trod_struct5 {P : Program} {t : TypeId} {f0 f1 f2 f3 f4 : Field} {fuel : Nat} {cs : List Value} {x : DataW H × List MemPlace} (ht : P.underlying t = some (.struct #[f0, f1, f2, f3, f4])) (h : DataW.trod enc P W 0 sp hd fuel t cs = some x) :
    ∃ y0 y1 y2 y3 y4 n, fuel = n + 1 /\ x.1 = .agg [y0.1, y1.1, y2.1, y3.1, y4.1] /\ DataW.trod enc P W 0 sp hd n f0.type ((cs.drop f0.offset).take (P.cellsOf f0.type)) = some y0 /\
      DataW.trod enc P W 0 sp hd n f1.type ((cs.drop f1.offset).take (P.cellsOf f1.type)) = some y1 /\ DataW.trod enc P W 0 sp hd n f2.type ((cs.drop f2.offset).take (P.cellsOf f2.type)) = some y2 /\
      DataW.trod enc P W 0 sp hd n f3.type ((cs.drop f3.offset).take (P.cellsOf f3.type)) = some y3 /\ DataW.trod enc P W 0 sp hd n f4.type ((cs.drop f4.offset).take (P.cellsOf f4.type)) = some y4 := by
  obtain ⟨xs, n, hn, rfl, hl, hlen, hf⟩ := DataW.trod_struct ht h
  match xs, hlen with
  | [y0, y1, y2, y3, y4], _ => exact ⟨y0, y1, y2, y3, y4, n, hn, by simp, by simpa using hf 0 f0 rfl, by simpa using hf 1 f1 rfl, by simpa using hf 2 f2 rfl, by simpa using hf 3 f3 rfl, by simpa using hf 4 f4 rfl⟩
theorem pick_list {α : Type} {p : Nat -> α -> Prop} : ∀ (n : Nat), (∀ i, i < n -> ∃ x, p i x) -> ∃ l : List α, l.length = n /\ ∀ i x, l[i]? = some x -> p i x
  | 0, _ => ⟨[], rfl, fun i x h => by simp at h⟩
  | n + 1, h => by
    obtain ⟨l, hl, hp⟩ := pick_list n fun i hi => h i (by omega)
    obtain ⟨x, hx⟩ := h n (by omega)
    refine ⟨l ++ [x], by simp [hl], fun i y hy => ?_⟩
    by_cases hi : i < n
    · rw [List.getElem?_append_left (by omega)] at hy; exact hp i y hy
    · have : i = n := by
        have := (List.getElem?_eq_some_iff.1 hy).1; simp at this; omega
      subst this
      rw [List.getElem?_append_right (by omega)] at hy
      simp [hl] at hy; subst hy; exact hx
theorem addr_none {a : Addr} {v : Value} (h : W.cell? (a.add 0) = some v) : a = ⟨a.block, a.off, none⟩ := by
  have := World.cell?_spot h
  obtain ⟨b, o, s⟩ := a
  simp [Addr.add] at this
  rw [this]
theorem add_lit (b o i : Nat) : (⟨b, o, none⟩ : Addr).add i = ⟨b, o + i, none⟩ := by
  unfold Addr.add; split
  · rename_i h; simp [h]
  · rfl
def D7 (W : World) (a : Addr) (u : Value) : Prop :=
  ∃ c0 c1 c2 c3 c4 c5 c6, u = .agg #[c0, c1, c2, c3, c4, c5, c6] /\ W.cell? (a.add 0) = some c0 /\ W.cell? (a.add 1) = some c1 /\ W.cell? (a.add 2) = some c2 /\ W.cell? (a.add 3) = some c3 /\ W.cell? (a.add 4) = some c4 /\ W.cell? (a.add 5) = some c5 /\ W.cell? (a.add 6) = some c6
theorem cells7_of {a : Addr} {cs : List Value} (h : W.cells? 0 a 7 = some cs) : ∃ c0 c1 c2 c3 c4 c5 c6, cs = [c0, c1, c2, c3, c4, c5, c6] /\ W.cell? (a.add 0) = some c0 /\ W.cell? (a.add 1) = some c1 /\ W.cell? (a.add 2) = some c2 /\ W.cell? (a.add 3) = some c3 /\ W.cell? (a.add 4) = some c4 /\ W.cell? (a.add 5) = some c5 /\ W.cell? (a.add 6) = some c6 := by
  simp only [World.cells?, Nat.zero_le, if_true, show List.range 7 = [0, 1, 2, 3, 4, 5, 6] from rfl, List.mapM_cons, List.mapM_nil, Option.bind_eq_bind, Option.bind_eq_some_iff, Option.pure_def, Option.some.injEq] at h
  obtain ⟨v0, h0, l1, ⟨v1, h1, l2, ⟨v2, h2, l3, ⟨v3, h3, l4, ⟨v4, h4, l5, ⟨v5, h5, l6, ⟨v6, h6, l7, rfl, rfl⟩, rfl⟩, rfl⟩, rfl⟩, rfl⟩, rfl⟩, rfl⟩ := h
  exact ⟨v0, v1, v2, v3, v4, v5, v6, rfl, h0, h1, h2, h3, h4, h5, h6⟩
theorem toList_len (s : ByteArray) : s.data.toList.length = s.size := rfl
theorem sumP_le {B : DataW H -> Nat} : ∀ (l : List ByteArray) (ys : List (DataW H × List MemPlace)), l.length = ys.length -> (∀ (i : Nat) (x : ByteArray) (y : DataW H × List MemPlace), l[i]? = some x -> ys[i]? = some y -> 1 + x.size <= B y.1) -> szP l <= ((ys.map (·.1)).map B).sum
  | [], [], _, _ => by simp [szP]
  | x :: l, y :: ys, hl, h => by
    have h0 := h 0 x y rfl rfl
    have h1 := sumP_le l ys (by simpa using hl) (fun i x y hx hy => h (i + 1) x y (by simpa using hx) (by simpa using hy))
    simp only [szP, List.map_cons, List.sum_cons]; omega
theorem sumL_le {B : DataW H -> Nat} : ∀ (l : List Ex) (ys : List (DataW H × List MemPlace)), l.length = ys.length -> (∀ (i : Nat) (x : Ex) (y : DataW H × List MemPlace), l[i]? = some x -> ys[i]? = some y -> sz x <= B y.1) -> szL l <= ((ys.map (·.1)).map B).sum
  | [], [], _, _ => by simp [szL]
  | x :: l, y :: ys, hl, h => by
    have h0 := h 0 x y rfl rfl
    have h1 := sumL_le l ys (by simpa using hl) (fun i x y hx hy => h (i + 1) x y (by simpa using hx) (by simpa using hy))
    simp only [szL, List.map_cons, List.sum_cons]; omega
theorem strs_of_trod {B : DataW H -> Nat} (hB : Blk B) {fuel : Nat} {cs : List Value} {y : DataW H × List MemPlace} (h : DataW.trod enc Tryz.prog W 0 sp hd fuel 46 cs = some y) :
    ∃ u p, cs = [u] /\ StrsAt allN W u p /\ szP p <= B y.1 := by
  rcases DataW.trod_slice Tryz.underlying46 h with ⟨rfl, rfl⟩ | ⟨a, len, cap, elems, rest, n, rfl, rfl, rfl, hb, hl, hm, hlen, hel, _, _⟩
  · exact ⟨_, [], rfl, ⟨by simp, by simp, none, 0, rfl, .inl rfl⟩, by simp [szP]⟩
  · rw [cellsOf9] at hel
    obtain ⟨r, hr, hp⟩ := pick_list (p := fun i (x : ByteArray) => x.size <= mx /\ W.cell? (a.add (i * 1)) = some (.string x) /\ ∀ y, elems[i]? = some y -> 1 + x.size <= B y.1) len (fun i hi => by
      have he := hel i hi
      obtain ⟨y, hy⟩ : ∃ y, elems[i]? = some y := ⟨elems[i], by simp [hlen, hi]⟩
      rw [hy, Option.bind_eq_some_iff] at he
      obtain ⟨cs', h1, h2⟩ := he
      obtain ⟨s, rfl, rfl, hs⟩ := DataW.trod_string Tryz.underlying9 h2
      refine ⟨s, by simpa [maxLen, mx] using hs, cell_of_cells?_one h1, fun y hy' => ?_⟩
      rw [hy] at hy'; cases hy'
      have := hB.str s.data.toList
      rw [toList_len] at this
      show 1 + s.size <= B (.lit (.string s.data.toList)); omega)
    have hmx : len <= 9223372036854775807 := by simp only [maxLen] at hm; omega
    refine ⟨_, r, rfl, ⟨by unfold mx; omega, fun x hx => ?_, some a, cap, by rw [hr], ?_⟩, ?_⟩
    · obtain ⟨i, hi, rfl⟩ := List.getElem_of_mem hx
      exact (hp i _ (List.getElem?_eq_getElem hi)).1
    · cases hlr : r with
      | nil => exact .inl rfl
      | cons x0 r0 =>
        right
        rw [<- hlr]
        have hx0 : r[0]? = some x0 := by rw [hlr]; rfl
        have h0 := (hp 0 x0 hx0).2.1
        rw [Nat.zero_mul] at h0
        have ha := addr_none h0
        refine ⟨a.block, a.off, by rw [<- ha], trivial, fun j hj => ?_⟩
        obtain ⟨_, k0, _⟩ := hp j _ (List.getElem?_eq_getElem hj)
        have e : r.getD j ByteArray.empty = r[j] := by simp [List.getD, hj]
        rw [e]
        rw [ha, add_lit, Nat.mul_one] at k0
        exact k0
    · have h1 := sumP_le (B := B) r elems (by rw [hr, hlen]) (fun i x y hx hy => (hp i x hx).2.2 y hy)
      have h2 := hB.sl (elems.map (·.1)) (rest.map (·.1))
      show szP r <= B (.slice (elems.map (·.1)) (rest.map (·.1)))
      omega
theorem exs_of_trod {B : DataW H -> Nat} (hB : Blk B) (fuel : Nat) : ∀ {cs : List Value} {y : DataW H × List MemPlace}, DataW.trod enc Tryz.prog W 0 sp hd fuel 22 cs = some y ->
    ∃ u l a c, cs = [u] /\ u = .slice a l.length c /\ (a = none -> c = 0) /\ ExsAt allN W l u /\ szL l <= B y.1 := by
  induction fuel using Nat.strongRecOn with
  | ind fuel ih =>
  intro cs y h
  rcases DataW.trod_slice Tryz.underlying22 h with ⟨rfl, rfl⟩ | ⟨a, len, cap, elems, rest, n, rfl, rfl, rfl, hb, hl, hm, hlen, hel, _, _⟩
  · exact ⟨_, [], none, 0, rfl, rfl, fun _ => rfl, ⟨by simp, none, 0, rfl, .inl rfl⟩, by simp [szL]⟩
  · rw [cellsOf55] at hel
    obtain ⟨r, hr, hp⟩ := pick_list (p := fun i (x : Ex) => ∃ u, D7 W (a.add (i * 7)) u /\ ExAt allN W x u /\ ∀ y, elems[i]? = some y -> sz x <= B y.1) len (fun i hi => by
      have he := hel i hi
      obtain ⟨y, hy⟩ : ∃ y, elems[i]? = some y := ⟨elems[i], by simp [hlen, hi]⟩
      rw [hy, Option.bind_eq_some_iff] at he
      obtain ⟨cs', h1, h2⟩ := he
      obtain ⟨c0, c1, c2, c3, c4, c5, c6, rfl, q0, q1, q2, q3, q4, q5, q6⟩ := cells7_of h1
      obtain ⟨f0, f1, f2, f3, f4, hu, ⟨t0, t1, t2, t3, t4⟩, o0, o1, o2, o3, o4⟩ := under55
      obtain ⟨y0, y1, y2, y3, y4, m, hm', hy1, k0, k1, k2, k3, k4⟩ := trod_struct5 hu h2
      rw [t0, o0, cellsOf3] at k0
      rw [t1, o1, cellsOf9] at k1
      rw [t2, o2, cellsOf38] at k2
      rw [t3, o3, cellsOf46] at k3
      rw [t4, o4, cellsOf22] at k4
      obtain ⟨op, e0, _⟩ := DataW.trod_int Tryz.underlying3 k0
      obtain ⟨s, e1, d1, hs⟩ := DataW.trod_string Tryz.underlying9 k1
      obtain ⟨g0, g1, g2, hu2, ⟨u0, u1, u2⟩, p0, p1, p2⟩ := under38
      obtain ⟨z0, z1, z2, m2, d2, _, j0, j1, j2⟩ := trod_struct3 hu2 k2
      rw [u0, p0, cellsOf3] at j0
      rw [u1, p1, cellsOf3] at j1
      rw [u2, p2, cellsOf9] at j2
      obtain ⟨vk, e2, _⟩ := DataW.trod_int Tryz.underlying3 j0
      obtain ⟨vn, e3, _⟩ := DataW.trod_int Tryz.underlying3 j1
      obtain ⟨vs, e4, d4, hvs⟩ := DataW.trod_string Tryz.underlying9 j2
      obtain ⟨pu, p, e5, hps, hpz⟩ := strs_of_trod hB k3
      obtain ⟨lu, l, la, lc, e6, e7, _, hls, hlz⟩ := ih m (by omega) k4
      simp only [List.drop_zero, List.drop_succ_cons, List.take_succ_cons, List.take_zero, List.cons.injEq, and_true] at e0 e1 e2 e3 e4 e5 e6
      subst e0; subst e1; subst e2; subst e3; subst e4; subst e5; subst e6
      refine ⟨.mk op s ⟨vk, vn, vs⟩ p l, _, ⟨_, _, _, _, _, _, _, rfl, q0, q1, q2, q3, q4, q5, q6⟩, ExAt.iff.2 ⟨_, _, rfl, by simpa [maxLen, mx] using hs, by simpa [maxLen, mx] using hvs, hps, hls⟩, fun y hy' => ?_⟩
      rw [hy] at hy'; cases hy'
      have b1 := hB.str s.data.toList
      have b2 := hB.str vs.data.toList
      have b3 := hB.agg [z0.1, z1.1, z2.1]
      have b4 := hB.agg [y0.1, y1.1, y2.1, y3.1, y4.1]
      rw [toList_len] at b1 b2
      have x1 : y1.1 = .lit (.string s.data.toList) := by rw [d1]
      have x2 : y2.1 = .agg [z0.1, z1.1, z2.1] := by rw [d2]
      have x3 : z2.1 = .lit (.string vs.data.toList) := by rw [d4]
      rw [x1, x2] at b4
      rw [x3] at b3
      rw [x3] at b4
      simp only [List.map_cons, List.map_nil, List.sum_cons, List.sum_nil] at b3 b4
      rw [hy1, x1, x2, x3]
      simp only [sz]
      omega)
    have hmx : len <= 9223372036854775807 := by simp only [maxLen] at hm; omega
    refine ⟨_, r, some a, cap, rfl, by rw [hr], (fun e => by cases e), ⟨by unfold mx; omega, some a, cap, by rw [hr], ?_⟩, ?_⟩
    · cases hlr : r with
      | nil => exact .inl rfl
      | cons x0 r0 =>
        right
        rw [<- hlr]
        have hx0 : r[0]? = some x0 := by rw [hlr]; rfl
        obtain ⟨u0, ⟨c0, c1, c2, c3, c4, c5, c6, _, h0, _⟩, _⟩ := hp 0 x0 hx0
        have e00 : (a.add (0 * 7)).add 0 = a.add 0 := by simp [Addr.add]
        rw [e00] at h0
        have ha := addr_none h0
        refine ⟨a.block, a.off, by rw [<- ha], trivial, els_of' r a.off fun j hj => ?_⟩
        obtain ⟨u, ⟨c0, c1, c2, c3, c4, c5, c6, e, k0, k1, k2, k3, k4, k5, k6⟩, hx, _⟩ := hp j _ (List.getElem?_eq_getElem hj)
        rw [ha, add_lit, add_lit] at k0 k1 k2 k3 k4 k5 k6
        exact ⟨u, ⟨c0, c1, c2, c3, c4, c5, c6, e, k0, k1, k2, k3, k4, k5, k6⟩, hx⟩
    · have h1 := sumL_le (B := B) r elems (by rw [hr, hlen]) (fun i x y hx hy => by obtain ⟨_, _, _, h⟩ := hp i x hx; exact h y hy)
      have h2 := hB.sl (elems.map (·.1)) (rest.map (·.1))
      show szL r <= B (.slice (elems.map (·.1)) (rest.map (·.1)))
      omega
theorem scope_of_trod {B : DataW H -> Nat} (hB : Blk B) {fuel : Nat} {v0 v1 v2 v3 : Value} {y : DataW H × List MemPlace} (h : DataW.trod enc Tryz.prog W 0 sp hd fuel 24 [v0, v1, v2, v3] = some y) :
    ∃ k n f wl, v0 = .int .i64 k /\ SlAt W.heap.size W v1 n /\ SlAt W.heap.size W v2 f /\ SlAt W.heap.size W v3 wl /\ szL n + szL f + szL wl <= B y.1 := by
  obtain ⟨f0, f1, f2, f3, hu, ⟨t0, t1, t2, t3⟩, o0, o1, o2, o3⟩ := under24
  obtain ⟨y0, y1, y2, y3, n, rfl, _, k0, k1, k2, k3⟩ := trod_struct4 hu h
  rw [t0, o0, cellsOf3] at k0
  rw [t1, o1, cellsOf22] at k1
  rw [t2, o2, cellsOf22] at k2
  rw [t3, o3, cellsOf22] at k3
  obtain ⟨k, e0, _⟩ := DataW.trod_int Tryz.underlying3 k0
  obtain ⟨u1, l1, a1, c1, e1, rfl, n1, x1, z1⟩ := exs_of_trod hB n k1
  obtain ⟨u2, l2, a2, c2, e2, rfl, n2, x2, z2⟩ := exs_of_trod hB n k2
  obtain ⟨u3, l3, a3, c3, e3, rfl, n3, x3, z3⟩ := exs_of_trod hB n k3
  simp only [List.drop_zero, List.drop_succ_cons, List.take_succ_cons, List.take_zero, List.cons.injEq, and_true] at e0 e1 e2 e3
  subst e0; subst e1; subst e2; subst e3
  have b := hB.agg [y0.1, y1.1, y2.1, y3.1]
  simp only [List.map_cons, List.map_nil, List.sum_cons, List.sum_nil] at b
  exact ⟨k, l1, l2, l3, rfl, ⟨a1, c1, rfl, n1, x1.mono fun b hb _ => hb⟩, ⟨a2, c2, rfl, n2, x2.mono fun b hb _ => hb⟩, ⟨a3, c3, rfl, n3, x3.mono fun b hb _ => hb⟩, by show _ <= B (.agg [y0.1, y1.1, y2.1, y3.1]); omega⟩
end
end Go.Proofs.YtdmepghoffhphaaGreatDoor
