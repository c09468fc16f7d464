/- PROVED: contracts of the functions that CmdScopes reaches, and what an expression is that is written and read again (part CvG). CONDITIONS: none. -/
import Derived.Test.YtdmepghoffhphaaGreatDoorCvF
set_option linter.unusedSimpArgs false
set_option linter.unusedVariables false
set_option linter.unnecessarySimpa false
set_option maxHeartbeats 8000000
set_option maxRecDepth 100000
namespace Go.Proofs.YtdmepghoffhphaaGreatDoor
open Go Go.RowKit Go.Lib
theorem prim572_1 (mixed : Tryz.prog.follows .mixedOrders = true) (r : Nat) (ts : List Tk) (s : St) (w : World) (h : RdAt r ts s w) (hf : s.2 = true) :
    Calls Tryz.prog 572 #[rp r] w fun e w' => ∃ u, e = .returned u /\ ExAt (w.heap.size <= ·) w' (.zero) u /\ RdAt r ts (s) w' /\ But r w w' := by
  have hrl := h.lt
  have H := Lib.hid h
  have H0 := Lib.hid (H.out.alloc (.cells #[.int .i64 0, .string ⟨#[]⟩, .int .i64 0, .int .i64 0, .string ⟨#[]⟩, .slice none 0 0, .slice none 0 0] 55))
  have HR0 := Lib.hid (Bk.new w 55 #[.int .i64 0, .string ⟨#[]⟩, .int .i64 0, .int .i64 0, .string ⟨#[]⟩, .slice none 0 0, .slice none 0 0])
  obtain ⟨a, ha, hm, hs, c1, f1, c2, f2, -, -, -⟩ := H0.out.parts
  rw [hf] at c2
  clear c1 f1 hs ha hm
  clear h
  have HRX := Lib.hid HR0.out
  obtain ⟨r0, r1, r2, r3, r4, r5, r6⟩ := Bk7 HRX.out
  have f0 := HRX.out.frozen 0; have f1 := HRX.out.frozen 1; have f2 := HRX.out.frozen 2; have f3 := HRX.out.frozen 3; have f4 := HRX.out.frozen 4; have f5 := HRX.out.frozen 5; have f6 := HRX.out.frozen 6
  go_enter Tryz.func572, Tryz.ntmps572
  go_wp2
  go_returns
  exact ⟨_, rfl, ExAt.zero _ _, H0.out, (But.refl _ _).alloc _⟩
theorem prim572_2 (mixed : Tryz.prog.follows .mixedOrders = true) (r : Nat) (ts : List Tk) (s : St) (w : World) (h : RdAt r ts s w) (tt : ByteArray) (hf : s.2 = false) (htk : tok s 0 = ⟨1, tt⟩) (hsz : tt.size <= mx) :
    Calls Tryz.prog 572 #[rp r] w fun e w' => ∃ u, e = .returned u /\ ExAt (w.heap.size <= ·) w' (.cst ⟨2, valOf tt, ByteArray.empty⟩) u /\ RdAt r ts (next s) w' /\ But r w w' := by
  have hrl := h.lt
  have H := Lib.hid h
  have H0 := Lib.hid (H.out.alloc (.cells #[.int .i64 0, .string ⟨#[]⟩, .int .i64 0, .int .i64 0, .string ⟨#[]⟩, .slice none 0 0, .slice none 0 0] 55))
  have HR0 := Lib.hid (Bk.new w 55 #[.int .i64 0, .string ⟨#[]⟩, .int .i64 0, .int .i64 0, .string ⟨#[]⟩, .slice none 0 0, .slice none 0 0])
  obtain ⟨a, ha, hm, hs, c1, f1, c2, f2, -, -, -⟩ := H0.out.parts
  rw [hf] at c2
  clear c1 f1 hs ha hm
  have T := Lib.hid (token134 mixed r ts s 0 _ (by decide) H0.out)
  unfold tkV at T
  rw [htk] at T
  have hne : (tok s 0).k ≠ -1 := by rw [htk]; show (1 : Int) ≠ -1; decide
  have hsz : tt.size <= 9223372036854775807 := hsz
  clear h
  go_enter Tryz.func572, Tryz.ntmps572
  go_wp2_with (first
    | (go_at_call 134; refine T.out.mono ?_; clear T; rintro e w1 ⟨rfl, hb1⟩; have H1 := Lib.hid ((H0.out.keep hb1).alloc (.cells #[.int .i64 1, .int .i64 0, .string tt] 223)); have HB1 := Lib.hid ((But.of_below (b := r) hb1).alloc (.cells #[.int .i64 1, .int .i64 0, .string tt] 223)); have HR1 := Lib.hid ((HR0.out.keep hb1).alloc (.cells #[.int .i64 1, .int .i64 0, .string tt] 223)); have HT1 := Lib.hid (Bk.new w1 223 #[.int .i64 1, .int .i64 0, .string tt]); obtain ⟨y0, y1, y2⟩ := Bk3 HT1.out; have hwr : w1.heap.size ≠ r := (by have := (H0.out.keep hb1).lt; omega); clear hb1)
    | (go_at_call 608; refine (next608 r ts s _ H1.out hne).mono ?_; rintro e w2 ⟨rfl, h2, hb2⟩; have H2 := Lib.hid h2; have HB2 := Lib.hid hb2; have HR2 := Lib.hid (HR1.out.but hb2 (Nat.ne_of_gt hrl)); have HT2 := Lib.hid (HT1.out.but hb2 hwr); clear h2 hb2 y0 y1 y2; obtain ⟨y0, y1, y2⟩ := Bk3 HT2.out)
    | (go_at_call 517; refine (val517 tt _ hsz).mono ?_; rintro e w' ⟨rfl, hw⟩; obtain rfl := hw.symm)
    | (go_at_call 9; refine (num9 (valOf tt) _).mono ?_; rintro e w3 ⟨rfl, hb3⟩; have H3 := Lib.hid (H2.out.keep hb3); have HB3 := Lib.hid (But.of_below (b := r) hb3); have HR3 := Lib.hid (HR2.out.keep hb3); clear hb3; have HRX := Lib.hid (HR3.out); obtain ⟨r0, r1, r2, r3, r4, r5, r6⟩ := Bk7 HRX.out; have f0 := HRX.out.frozen 0; have f1 := HRX.out.frozen 1; have f2 := HRX.out.frozen 2; have f3 := HRX.out.frozen 3; have f4 := HRX.out.frozen 4; have f5 := HRX.out.frozen 5; have f6 := HRX.out.frozen 6))
  clear y0 y1 y2
  have HR7 := HRX.out.set7 (.int .i64 0) (.string ⟨#[]⟩) (.int .i64 2) (.int .i64 (valOf tt)) (.string ⟨#[]⟩) (.slice none 0 0) (.slice none 0 0)
  obtain ⟨q0, q1, q2, q3, q4, q5, q6⟩ := Bk7 HR7
  clear r0 r1 r2 r3 r4 r5 r6 HR7
  unfold wset7 at q0 q1 q2 q3 q4 q5 q6
  refine bodyPost_ret (by simp [results, Tryz.results572, go_sem, q0, q1, q2, q3, q4, q5, q6]; try rfl) rfl ?_
  exact ⟨_, rfl, ex_mk (v := ⟨2, (valOf tt), ⟨#[]⟩⟩) (by decide) (by show ByteArray.empty.size <= mx; decide) (strs_nil _ _) (exs_nil _ _), H3.out.set7 hrl _ _ _ _ _ _ _, (((((But.refl r w).alloc _).trans HB1.out).trans HB2.out).trans HB3.out).set7 (Nat.le_refl _) _ _ _ _ _ _ _⟩
theorem prim572_3 (mixed : Tryz.prog.follows .mixedOrders = true) (r : Nat) (ts : List Tk) (s : St) (w : World) (h : RdAt r ts s w) (tt : ByteArray) (hf : s.2 = false) (htk : tok s 0 = ⟨2, tt⟩) (hsz : tt.size <= mx) (hs2 : tt.size <= 2048) :
    Calls Tryz.prog 572 #[rp r] w fun e w' => ∃ u, e = .returned u /\ ExAt (w.heap.size <= ·) w' (.cst ⟨4, 0, tt⟩) u /\ RdAt r ts (next s) w' /\ But r w w' := by
  have hrl := h.lt
  have H := Lib.hid h
  have H0 := Lib.hid (H.out.alloc (.cells #[.int .i64 0, .string ⟨#[]⟩, .int .i64 0, .int .i64 0, .string ⟨#[]⟩, .slice none 0 0, .slice none 0 0] 55))
  have HR0 := Lib.hid (Bk.new w 55 #[.int .i64 0, .string ⟨#[]⟩, .int .i64 0, .int .i64 0, .string ⟨#[]⟩, .slice none 0 0, .slice none 0 0])
  obtain ⟨a, ha, hm, hs, c1, f1, c2, f2, -, -, -⟩ := H0.out.parts
  rw [hf] at c2
  clear c1 f1 hs ha hm
  have T := Lib.hid (token134 mixed r ts s 0 _ (by decide) H0.out)
  unfold tkV at T
  rw [htk] at T
  have hne : (tok s 0).k ≠ -1 := by rw [htk]; show (2 : Int) ≠ -1; decide
  have hsz : tt.size <= 9223372036854775807 := hsz
  clear h
  go_enter Tryz.func572, Tryz.ntmps572
  go_wp2_with (first
    | (go_at_call 134; refine T.out.mono ?_; clear T; rintro e w1 ⟨rfl, hb1⟩; have H1 := Lib.hid ((H0.out.keep hb1).alloc (.cells #[.int .i64 2, .int .i64 0, .string tt] 223)); have HB1 := Lib.hid ((But.of_below (b := r) hb1).alloc (.cells #[.int .i64 2, .int .i64 0, .string tt] 223)); have HR1 := Lib.hid ((HR0.out.keep hb1).alloc (.cells #[.int .i64 2, .int .i64 0, .string tt] 223)); have HT1 := Lib.hid (Bk.new w1 223 #[.int .i64 2, .int .i64 0, .string tt]); obtain ⟨y0, y1, y2⟩ := Bk3 HT1.out; have hwr : w1.heap.size ≠ r := (by have := (H0.out.keep hb1).lt; omega); clear hb1)
    | (go_at_call 608; refine (next608 r ts s _ H1.out hne).mono ?_; rintro e w2 ⟨rfl, h2, hb2⟩; have H2 := Lib.hid h2; have HB2 := Lib.hid hb2; have HR2 := Lib.hid (HR1.out.but hb2 (Nat.ne_of_gt hrl)); have HT2 := Lib.hid (HT1.out.but hb2 hwr); clear h2 hb2 y0 y1 y2; obtain ⟨y0, y1, y2⟩ := Bk3 HT2.out)
    | (go_at_call 609; refine (text609 tt _).mono ?_; rintro e w3 ⟨rfl, hb3⟩; have H3 := Lib.hid (H2.out.keep hb3); have HB3 := Lib.hid (But.of_below (b := r) hb3); have HR3 := Lib.hid (HR2.out.keep hb3); clear hb3; have HRX := Lib.hid (HR3.out); obtain ⟨r0, r1, r2, r3, r4, r5, r6⟩ := Bk7 HRX.out; have f0 := HRX.out.frozen 0; have f1 := HRX.out.frozen 1; have f2 := HRX.out.frozen 2; have f3 := HRX.out.frozen 3; have f4 := HRX.out.frozen 4; have f5 := HRX.out.frozen 5; have f6 := HRX.out.frozen 6))
  clear y0 y1 y2
  have HR7 := HRX.out.set7 (.int .i64 0) (.string ⟨#[]⟩) (.int .i64 4) (.int .i64 0) (.string tt) (.slice none 0 0) (.slice none 0 0)
  obtain ⟨q0, q1, q2, q3, q4, q5, q6⟩ := Bk7 HR7
  clear r0 r1 r2 r3 r4 r5 r6 HR7
  unfold wset7 at q0 q1 q2 q3 q4 q5 q6
  refine bodyPost_ret (by simp [results, Tryz.results572, go_sem, q0, q1, q2, q3, q4, q5, q6]; try rfl) rfl ?_
  exact ⟨_, rfl, ex_mk (v := ⟨4, 0, tt⟩) (by decide) hsz (strs_nil _ _) (exs_nil _ _), H3.out.set7 hrl _ _ _ _ _ _ _, (((((But.refl r w).alloc _).trans HB1.out).trans HB2.out).trans HB3.out).set7 (Nat.le_refl _) _ _ _ _ _ _ _⟩
theorem prim572_4 (mixed : Tryz.prog.follows .mixedOrders = true) (r : Nat) (ts : List Tk) (s : St) (w : World) (h : RdAt r ts s w) (tt : ByteArray) (hf : s.2 = false) (htk : tok s 0 = ⟨3, tt⟩) (hsz : tt.size <= mx) :
    Calls Tryz.prog 572 #[rp r] w fun e w' => ∃ u, e = .returned u /\ ExAt (w.heap.size <= ·) w' (.cst ⟨3, unstamp tt, ByteArray.empty⟩) u /\ RdAt r ts (next s) w' /\ But r w w' := by
  have hrl := h.lt
  have H := Lib.hid h
  have H0 := Lib.hid (H.out.alloc (.cells #[.int .i64 0, .string ⟨#[]⟩, .int .i64 0, .int .i64 0, .string ⟨#[]⟩, .slice none 0 0, .slice none 0 0] 55))
  have HR0 := Lib.hid (Bk.new w 55 #[.int .i64 0, .string ⟨#[]⟩, .int .i64 0, .int .i64 0, .string ⟨#[]⟩, .slice none 0 0, .slice none 0 0])
  obtain ⟨a, ha, hm, hs, c1, f1, c2, f2, -, -, -⟩ := H0.out.parts
  rw [hf] at c2
  clear c1 f1 hs ha hm
  have T := Lib.hid (token134 mixed r ts s 0 _ (by decide) H0.out)
  unfold tkV at T
  rw [htk] at T
  have hne : (tok s 0).k ≠ -1 := by rw [htk]; show (3 : Int) ≠ -1; decide
  have hsz : tt.size <= 9223372036854775807 := hsz
  clear h
  go_enter Tryz.func572, Tryz.ntmps572
  go_wp2_with (first
    | (go_at_call 134; refine T.out.mono ?_; clear T; rintro e w1 ⟨rfl, hb1⟩; have H1 := Lib.hid ((H0.out.keep hb1).alloc (.cells #[.int .i64 3, .int .i64 0, .string tt] 223)); have HB1 := Lib.hid ((But.of_below (b := r) hb1).alloc (.cells #[.int .i64 3, .int .i64 0, .string tt] 223)); have HR1 := Lib.hid ((HR0.out.keep hb1).alloc (.cells #[.int .i64 3, .int .i64 0, .string tt] 223)); have HT1 := Lib.hid (Bk.new w1 223 #[.int .i64 3, .int .i64 0, .string tt]); obtain ⟨y0, y1, y2⟩ := Bk3 HT1.out; have hwr : w1.heap.size ≠ r := (by have := (H0.out.keep hb1).lt; omega); clear hb1)
    | (go_at_call 608; refine (next608 r ts s _ H1.out hne).mono ?_; rintro e w2 ⟨rfl, h2, hb2⟩; have H2 := Lib.hid h2; have HB2 := Lib.hid hb2; have HR2 := Lib.hid (HR1.out.but hb2 (Nat.ne_of_gt hrl)); have HT2 := Lib.hid (HT1.out.but hb2 hwr); clear h2 hb2 y0 y1 y2; obtain ⟨y0, y1, y2⟩ := Bk3 HT2.out)
    | (go_at_call 430; refine (unstamp430 mixed tt _ hsz).mono ?_; rintro e wq ⟨⟨bq, rfl⟩, hbq⟩; have H2q := Lib.hid (H2.out.keep hbq); have HB2q := Lib.hid (But.of_below (b := r) hbq); have HR2q := Lib.hid (HR2.out.keep hbq); have HT2q := Lib.hid (HT2.out.keep hbq); clear hbq y0 y1 y2; obtain ⟨y0, y1, y2⟩ := Bk3 HT2q.out)
    | (go_at_call 610; refine (date610 (unstamp tt) _).mono ?_; rintro e w3 ⟨rfl, hb3⟩; have H3 := Lib.hid (H2q.out.keep hb3); have HB3 := Lib.hid (But.of_below (b := r) hb3); have HR3 := Lib.hid (HR2q.out.keep hb3); clear hb3; have HRX := Lib.hid (HR3.out); obtain ⟨r0, r1, r2, r3, r4, r5, r6⟩ := Bk7 HRX.out; have f0 := HRX.out.frozen 0; have f1 := HRX.out.frozen 1; have f2 := HRX.out.frozen 2; have f3 := HRX.out.frozen 3; have f4 := HRX.out.frozen 4; have f5 := HRX.out.frozen 5; have f6 := HRX.out.frozen 6))
  clear y0 y1 y2
  have HR7 := HRX.out.set7 (.int .i64 0) (.string ⟨#[]⟩) (.int .i64 3) (.int .i64 (unstamp tt)) (.string ⟨#[]⟩) (.slice none 0 0) (.slice none 0 0)
  obtain ⟨q0, q1, q2, q3, q4, q5, q6⟩ := Bk7 HR7
  clear r0 r1 r2 r3 r4 r5 r6 HR7
  unfold wset7 at q0 q1 q2 q3 q4 q5 q6
  refine bodyPost_ret (by simp [results, Tryz.results572, go_sem, q0, q1, q2, q3, q4, q5, q6]; try rfl) rfl ?_
  exact ⟨_, rfl, ex_mk (v := ⟨3, (unstamp tt), ⟨#[]⟩⟩) (by decide) (by show ByteArray.empty.size <= mx; decide) (strs_nil _ _) (exs_nil _ _), H3.out.set7 hrl _ _ _ _ _ _ _, ((((((But.refl r w).alloc _).trans HB1.out).trans HB2.out).trans HB2q.out).trans HB3.out).set7 (Nat.le_refl _) _ _ _ _ _ _ _⟩
theorem prim572_5 (mixed : Tryz.prog.follows .mixedOrders = true) (r : Nat) (ts : List Tk) (s : St) (w : World) (h : RdAt r ts s w) (tt : ByteArray) (hf : s.2 = false) (htk : tok s 0 = ⟨0, tt⟩) (hsz : tt.size <= mx) (x : Ex) (s2 : St) (hA : ∀ w, RdAt r ts s w -> Calls Tryz.prog 611 #[rp r] w fun e w' => ∃ u, e = .returned u /\ ExAt (w.heap.size <= ·) w' x u /\ RdAt r ts s2 w' /\ But r w w') :
    Calls Tryz.prog 572 #[rp r] w fun e w' => ∃ u, e = .returned u /\ ExAt (w.heap.size <= ·) w' (x) u /\ RdAt r ts (s2) w' /\ But r w w' := by
  have hrl := h.lt
  have H := Lib.hid h
  have H0 := Lib.hid (H.out.alloc (.cells #[.int .i64 0, .string ⟨#[]⟩, .int .i64 0, .int .i64 0, .string ⟨#[]⟩, .slice none 0 0, .slice none 0 0] 55))
  have HR0 := Lib.hid (Bk.new w 55 #[.int .i64 0, .string ⟨#[]⟩, .int .i64 0, .int .i64 0, .string ⟨#[]⟩, .slice none 0 0, .slice none 0 0])
  obtain ⟨a, ha, hm, hs, c1, f1, c2, f2, -, -, -⟩ := H0.out.parts
  rw [hf] at c2
  clear c1 f1 hs ha hm
  have T := Lib.hid (token134 mixed r ts s 0 _ (by decide) H0.out)
  unfold tkV at T
  rw [htk] at T
  have hsz : tt.size <= 9223372036854775807 := hsz
  have A := Lib.hid hA
  clear h hA
  go_enter Tryz.func572, Tryz.ntmps572
  go_wp2_with (first
    | (go_at_call 134; refine T.out.mono ?_; clear T; rintro e w1 ⟨rfl, hb1⟩; have H1 := Lib.hid ((H0.out.keep hb1).alloc (.cells #[.int .i64 0, .int .i64 0, .string tt] 223)); have HB1 := Lib.hid ((But.of_below (b := r) hb1).alloc (.cells #[.int .i64 0, .int .i64 0, .string tt] 223)); have HR1 := Lib.hid ((HR0.out.keep hb1).alloc (.cells #[.int .i64 0, .int .i64 0, .string tt] 223)); have HT1 := Lib.hid (Bk.new w1 223 #[.int .i64 0, .int .i64 0, .string tt]); obtain ⟨y0, y1, y2⟩ := Bk3 HT1.out; have hwr : w1.heap.size ≠ r := (by have := (H0.out.keep hb1).lt; omega); clear hb1)
    | (go_at_call 611; refine (A.out _ H1.out).mono ?_; clear A; rintro e w2 ⟨u, rfl, hx, h2, hb2⟩; obtain ⟨xo, xs, xk, xn, xt, xa, xm, xc, xb, xq, xd, rfl⟩ := hx.form; have HXX := Lib.hid hx; clear hx; have H2 := Lib.hid h2; have HB2 := Lib.hid hb2; have HR2 := Lib.hid (HR1.out.but hb2 (Nat.ne_of_gt hrl)); clear h2 hb2; have HRX := Lib.hid (HR2.out); obtain ⟨r0, r1, r2, r3, r4, r5, r6⟩ := Bk7 HRX.out; have f0 := HRX.out.frozen 0; have f1 := HRX.out.frozen 1; have f2 := HRX.out.frozen 2; have f3 := HRX.out.frozen 3; have f4 := HRX.out.frozen 4; have f5 := HRX.out.frozen 5; have f6 := HRX.out.frozen 6))
  have sz1 := HB1.out.size
  simp at sz1
  clear y0 y1 y2
  have HR7 := HRX.out.set7 (.int .i64 xo) (.string xs) (.int .i64 xk) (.int .i64 xn) (.string xt) (.slice xa xm xc) (.slice xb xq xd)
  obtain ⟨q0, q1, q2, q3, q4, q5, q6⟩ := Bk7 HR7
  clear r0 r1 r2 r3 r4 r5 r6 HR7
  unfold wset7 at q0 q1 q2 q3 q4 q5 q6
  refine bodyPost_ret (by simp [results, Tryz.results572, go_sem, q0, q1, q2, q3, q4, q5, q6]; try rfl) rfl ?_
  refine ⟨_, rfl, ?_, H2.out.set7 hrl _ _ _ _ _ _ _, (((((But.refl r w).alloc _).trans HB1.out).trans HB2.out)).set7 (Nat.le_refl _) _ _ _ _ _ _ _⟩
  exact ExAt.mono (fun b _ hn => by omega) (ex_set7 (g := w.heap.size) (ExAt.mono (M := fun b => w.heap.size + 1 <= b) (fun b _ hn => by have h1 : w1.heap.size + 1 <= b := (by simpa using hn); omega) HXX.out) (fun b hn => by omega) _ _ _ _ _ _ _)
theorem prim572_6 (mixed : Tryz.prog.follows .mixedOrders = true) (r : Nat) (ts : List Tk) (s : St) (w : World) (h : RdAt r ts s w) (tk : Int) (tt : ByteArray) (hf : s.2 = false) (htk : tok s 0 = ⟨tk, tt⟩) (hsz : tt.size <= mx) (hg : isSg s 0 sAmp = true) (x : Ex) (s2 : St) (hA : ∀ w, RdAt r ts s w -> Calls Tryz.prog 612 #[rp r] w fun e w' => ∃ u, e = .returned u /\ ExAt (w.heap.size <= ·) w' x u /\ RdAt r ts s2 w' /\ But r w w') :
    Calls Tryz.prog 572 #[rp r] w fun e w' => ∃ u, e = .returned u /\ ExAt (w.heap.size <= ·) w' (x) u /\ RdAt r ts (s2) w' /\ But r w w' := by
  have hrl := h.lt
  have H := Lib.hid h
  have H0 := Lib.hid (H.out.alloc (.cells #[.int .i64 0, .string ⟨#[]⟩, .int .i64 0, .int .i64 0, .string ⟨#[]⟩, .slice none 0 0, .slice none 0 0] 55))
  have HR0 := Lib.hid (Bk.new w 55 #[.int .i64 0, .string ⟨#[]⟩, .int .i64 0, .int .i64 0, .string ⟨#[]⟩, .slice none 0 0, .slice none 0 0])
  obtain ⟨a, ha, hm, hs, c1, f1, c2, f2, -, -, -⟩ := H0.out.parts
  rw [hf] at c2
  clear c1 f1 hs ha hm
  have T := Lib.hid (token134 mixed r ts s 0 _ (by decide) H0.out)
  unfold tkV at T
  rw [htk] at T
  have hsz : tt.size <= 9223372036854775807 := hsz
  have hk4 : tk = 4 := by unfold isSg at hg; rw [htk] at hg; simp at hg; exact hg.1
  subst hk4
  have A := Lib.hid hA
  have G := Lib.hid (fun w h => isSign218 mixed r ts s 0 sAmp w (by decide) h)
  rw [hg] at G
  clear h hA hg
  go_enter Tryz.func572, Tryz.ntmps572
  go_wp2_with (first
    | (go_at_call 134; refine T.out.mono ?_; clear T; rintro e w1 ⟨rfl, hb1⟩; have H1 := Lib.hid ((H0.out.keep hb1).alloc (.cells #[.int .i64 4, .int .i64 0, .string tt] 223)); have HB1 := Lib.hid ((But.of_below (b := r) hb1).alloc (.cells #[.int .i64 4, .int .i64 0, .string tt] 223)); have HR1 := Lib.hid ((HR0.out.keep hb1).alloc (.cells #[.int .i64 4, .int .i64 0, .string tt] 223)); have HT1 := Lib.hid (Bk.new w1 223 #[.int .i64 4, .int .i64 0, .string tt]); obtain ⟨y0, y1, y2⟩ := Bk3 HT1.out; have hwr : w1.heap.size ≠ r := (by have := (H0.out.keep hb1).lt; omega); clear hb1)
    | (go_at_call 218; refine (G.out _ H1.out).mono ?_; clear G; rintro e wq ⟨rfl, hbq⟩; have H1q := Lib.hid (H1.out.keep hbq); have HBq := Lib.hid (But.of_below (b := r) hbq); have HRq := Lib.hid (HR1.out.keep hbq); clear hbq)
    | (go_at_call 612; refine (A.out _ H1q.out).mono ?_; clear A; rintro e w2 ⟨u, rfl, hx, h2, hb2⟩; obtain ⟨xo, xs, xk, xn, xt, xa, xm, xc, xb, xq, xd, rfl⟩ := hx.form; have HXX := Lib.hid hx; clear hx; have H2 := Lib.hid h2; have HB2 := Lib.hid hb2; have HR2 := Lib.hid (HRq.out.but hb2 (Nat.ne_of_gt hrl)); clear h2 hb2; have HRX := Lib.hid (HR2.out); obtain ⟨r0, r1, r2, r3, r4, r5, r6⟩ := Bk7 HRX.out; have f0 := HRX.out.frozen 0; have f1 := HRX.out.frozen 1; have f2 := HRX.out.frozen 2; have f3 := HRX.out.frozen 3; have f4 := HRX.out.frozen 4; have f5 := HRX.out.frozen 5; have f6 := HRX.out.frozen 6))
  have sz1 := HB1.out.size
  have szq := HBq.out.size
  simp at sz1 szq
  clear y0 y1 y2
  have HR7 := HRX.out.set7 (.int .i64 xo) (.string xs) (.int .i64 xk) (.int .i64 xn) (.string xt) (.slice xa xm xc) (.slice xb xq xd)
  obtain ⟨q0, q1, q2, q3, q4, q5, q6⟩ := Bk7 HR7
  clear r0 r1 r2 r3 r4 r5 r6 HR7
  unfold wset7 at q0 q1 q2 q3 q4 q5 q6
  refine bodyPost_ret (by simp [results, Tryz.results572, go_sem, q0, q1, q2, q3, q4, q5, q6]; try rfl) rfl ?_
  refine ⟨_, rfl, ?_, H2.out.set7 hrl _ _ _ _ _ _ _, ((((((But.refl r w).alloc _).trans HB1.out).trans HBq.out).trans HB2.out)).set7 (Nat.le_refl _) _ _ _ _ _ _ _⟩
  exact ExAt.mono (fun b _ hn => by omega) (ex_set7 (g := w.heap.size) (ExAt.mono (M := fun b => w.heap.size + 1 <= b) (fun b _ hn => by omega) HXX.out) (fun b hn => by omega) _ _ _ _ _ _ _)
theorem prim572_7t (mixed : Tryz.prog.follows .mixedOrders = true) (r : Nat) (ts : List Tk) (s : St) (w : World) (h : RdAt r ts s w) (tk : Int) (tt : ByteArray) (hf : s.2 = false) (htk : tok s 0 = ⟨tk, tt⟩) (hsz : tt.size <= mx) (hk0 : ¬ tk = 0) (hk1 : ¬ tk = 1) (hk2 : ¬ tk = 2) (hk3 : ¬ tk = 3) (hg : isSg s 0 sAmp = false) (s1 : St) (hq : sgn prims s = (some (⟨#[46, 84, 46]⟩ : ByteArray), s1))  :
    Calls Tryz.prog 572 #[rp r] w fun e w' => ∃ u, e = .returned u /\ ExAt (w.heap.size <= ·) w' (.cst ⟨1, 1, ByteArray.empty⟩) u /\ RdAt r ts (s1) w' /\ But r w w' := by
  have hrl := h.lt
  have H := Lib.hid h
  have H0 := Lib.hid (H.out.alloc (.cells #[.int .i64 0, .string ⟨#[]⟩, .int .i64 0, .int .i64 0, .string ⟨#[]⟩, .slice none 0 0, .slice none 0 0] 55))
  have HR0 := Lib.hid (Bk.new w 55 #[.int .i64 0, .string ⟨#[]⟩, .int .i64 0, .int .i64 0, .string ⟨#[]⟩, .slice none 0 0, .slice none 0 0])
  obtain ⟨a, ha, hm, hs, c1, f1, c2, f2, -, -, -⟩ := H0.out.parts
  rw [hf] at c2
  clear c1 f1 hs ha hm
  have T := Lib.hid (token134 mixed r ts s 0 _ (by decide) H0.out)
  unfold tkV at T
  rw [htk] at T
  have hsz : tt.size <= 9223372036854775807 := hsz
  have G := Lib.hid (fun w h => isSign218 mixed r ts s 0 sAmp w (by decide) h)
  rw [hg] at G
  have e0 : ((⟨#[46, 84, 46]⟩ : ByteArray).toList == [46, 84, 46]) = true := by decide +kernel
  have e1 : ((⟨#[46, 84, 46]⟩ : ByteArray).toList == [46, 70, 46]) = false := by decide +kernel
  have e2 : ((⟨#[46, 84, 46]⟩ : ByteArray).toList == [46, 78, 85, 76, 76, 46]) = false := by decide +kernel
  have e3 : ((⟨#[46, 84, 46]⟩ : ByteArray).toList == [40]) = false := by decide +kernel
  have e4 : ((⟨#[46, 84, 46]⟩ : ByteArray).toList == [123]) = false := by decide +kernel
  have e5 : ((⟨#[46, 84, 46]⟩ : ByteArray).toList == [64]) = false := by decide +kernel
  clear h hg
  go_enter Tryz.func572, Tryz.ntmps572
  go_wp2_with (first
    | (go_at_call 134; refine T.out.mono ?_; clear T; rintro e w1 ⟨rfl, hb1⟩; have H1 := Lib.hid ((H0.out.keep hb1).alloc (.cells #[.int .i64 tk, .int .i64 0, .string tt] 223)); have HB1 := Lib.hid ((But.of_below (b := r) hb1).alloc (.cells #[.int .i64 tk, .int .i64 0, .string tt] 223)); have HR1 := Lib.hid ((HR0.out.keep hb1).alloc (.cells #[.int .i64 tk, .int .i64 0, .string tt] 223)); have HT1 := Lib.hid (Bk.new w1 223 #[.int .i64 tk, .int .i64 0, .string tt]); obtain ⟨y0, y1, y2⟩ := Bk3 HT1.out; have hwr : w1.heap.size ≠ r := (by have := (H0.out.keep hb1).lt; omega); clear hb1)
    | (go_at_call 218; refine (G.out _ H1.out).mono ?_; clear G; rintro e wq ⟨rfl, hbq⟩; have H1q := Lib.hid (H1.out.keep hbq); have HBq := Lib.hid (But.of_below (b := r) hbq); have HRq := Lib.hid (HR1.out.keep hbq); clear hbq)
    | (go_at_call 294; have STR : StrsAt (· ≠ r) (wq.alloc (.cells #[.string ⟨#[46, 84, 46]⟩, .string ⟨#[46, 70, 46]⟩, .string ⟨#[46, 78, 85, 76, 76, 46]⟩, .string ⟨#[40]⟩, .string ⟨#[123]⟩, .string ⟨#[64]⟩] 9)) (.slice (some ⟨wq.heap.size, 0, none⟩) 6 6) prims := (by have h0 := strs_lit (r := r) (w := wq) prims (by decide) (by decide) H1q.out.lt 6; exact h0); have SG := sign294 mixed r ts s prims _ _ (H1q.out.alloc (.cells #[.string ⟨#[46, 84, 46]⟩, .string ⟨#[46, 70, 46]⟩, .string ⟨#[46, 78, 85, 76, 76, 46]⟩, .string ⟨#[40]⟩, .string ⟨#[123]⟩, .string ⟨#[64]⟩] 9)) STR; rw [hq] at SG; refine SG.mono ?_; clear SG STR; rintro e w2 ⟨rfl, h2, hb2⟩; have H2 := Lib.hid h2; have HB2 := Lib.hid hb2; have HR2 := Lib.hid ((HRq.out.alloc (.cells #[.string ⟨#[46, 84, 46]⟩, .string ⟨#[46, 70, 46]⟩, .string ⟨#[46, 78, 85, 76, 76, 46]⟩, .string ⟨#[40]⟩, .string ⟨#[123]⟩, .string ⟨#[64]⟩] 9)).but hb2 (Nat.ne_of_gt hrl)); clear h2 hb2; skip)
    | (go_at_call 613; refine (truth613 true _).mono ?_; rintro e w3 ⟨rfl, hb3⟩; have H3 := Lib.hid (H2.out.keep hb3); have HB3 := Lib.hid (But.of_below (b := r) hb3); have HR3 := Lib.hid (HR2.out.keep hb3); clear hb3; have HRX := Lib.hid (HR3.out); obtain ⟨r0, r1, r2, r3, r4, r5, r6⟩ := Bk7 HRX.out; have f0 := HRX.out.frozen 0; have f1 := HRX.out.frozen 1; have f2 := HRX.out.frozen 2; have f3 := HRX.out.frozen 3; have f4 := HRX.out.frozen 4; have f5 := HRX.out.frozen 5; have f6 := HRX.out.frozen 6))
  have sz1 := HB1.out.size
  have szq := HBq.out.size
  have sz2 := HB2.out.size
  simp at sz1 szq sz2
  clear y0 y1 y2
  have HR7 := HRX.out.set7 (.int .i64 0) (.string ⟨#[]⟩) (.int .i64 1) (.int .i64 1) (.string ⟨#[]⟩) (.slice none 0 0) (.slice none 0 0)
  obtain ⟨q0, q1, q2, q3, q4, q5, q6⟩ := Bk7 HR7
  clear r0 r1 r2 r3 r4 r5 r6 HR7
  unfold wset7 at q0 q1 q2 q3 q4 q5 q6
  refine bodyPost_ret (by simp [results, Tryz.results572, go_sem, q0, q1, q2, q3, q4, q5, q6]; try rfl) rfl ?_
  exact ⟨_, rfl, ex_mk (v := ⟨1, 1, ByteArray.empty⟩) (by decide) (by show ByteArray.empty.size <= mx; decide) (strs_nil _ _) (exs_nil _ _), H3.out.set7 hrl _ _ _ _ _ _ _, (((((((But.refl r w).alloc _).trans HB1.out).trans HBq.out).alloc _).trans HB2.out).trans HB3.out).set7 (Nat.le_refl _) _ _ _ _ _ _ _⟩
theorem prim572_7f (mixed : Tryz.prog.follows .mixedOrders = true) (r : Nat) (ts : List Tk) (s : St) (w : World) (h : RdAt r ts s w) (tk : Int) (tt : ByteArray) (hf : s.2 = false) (htk : tok s 0 = ⟨tk, tt⟩) (hsz : tt.size <= mx) (hk0 : ¬ tk = 0) (hk1 : ¬ tk = 1) (hk2 : ¬ tk = 2) (hk3 : ¬ tk = 3) (hg : isSg s 0 sAmp = false) (s1 : St) (hq : sgn prims s = (some (⟨#[46, 70, 46]⟩ : ByteArray), s1))  :
    Calls Tryz.prog 572 #[rp r] w fun e w' => ∃ u, e = .returned u /\ ExAt (w.heap.size <= ·) w' (.cst ⟨1, 0, ByteArray.empty⟩) u /\ RdAt r ts (s1) w' /\ But r w w' := by
  have hrl := h.lt
  have H := Lib.hid h
  have H0 := Lib.hid (H.out.alloc (.cells #[.int .i64 0, .string ⟨#[]⟩, .int .i64 0, .int .i64 0, .string ⟨#[]⟩, .slice none 0 0, .slice none 0 0] 55))
  have HR0 := Lib.hid (Bk.new w 55 #[.int .i64 0, .string ⟨#[]⟩, .int .i64 0, .int .i64 0, .string ⟨#[]⟩, .slice none 0 0, .slice none 0 0])
  obtain ⟨a, ha, hm, hs, c1, f1, c2, f2, -, -, -⟩ := H0.out.parts
  rw [hf] at c2
  clear c1 f1 hs ha hm
  have T := Lib.hid (token134 mixed r ts s 0 _ (by decide) H0.out)
  unfold tkV at T
  rw [htk] at T
  have hsz : tt.size <= 9223372036854775807 := hsz
  have G := Lib.hid (fun w h => isSign218 mixed r ts s 0 sAmp w (by decide) h)
  rw [hg] at G
  have e0 : ((⟨#[46, 70, 46]⟩ : ByteArray).toList == [46, 84, 46]) = false := by decide +kernel
  have e1 : ((⟨#[46, 70, 46]⟩ : ByteArray).toList == [46, 70, 46]) = true := by decide +kernel
  have e2 : ((⟨#[46, 70, 46]⟩ : ByteArray).toList == [46, 78, 85, 76, 76, 46]) = false := by decide +kernel
  have e3 : ((⟨#[46, 70, 46]⟩ : ByteArray).toList == [40]) = false := by decide +kernel
  have e4 : ((⟨#[46, 70, 46]⟩ : ByteArray).toList == [123]) = false := by decide +kernel
  have e5 : ((⟨#[46, 70, 46]⟩ : ByteArray).toList == [64]) = false := by decide +kernel
  clear h hg
  go_enter Tryz.func572, Tryz.ntmps572
  go_wp2_with (first
    | (go_at_call 134; refine T.out.mono ?_; clear T; rintro e w1 ⟨rfl, hb1⟩; have H1 := Lib.hid ((H0.out.keep hb1).alloc (.cells #[.int .i64 tk, .int .i64 0, .string tt] 223)); have HB1 := Lib.hid ((But.of_below (b := r) hb1).alloc (.cells #[.int .i64 tk, .int .i64 0, .string tt] 223)); have HR1 := Lib.hid ((HR0.out.keep hb1).alloc (.cells #[.int .i64 tk, .int .i64 0, .string tt] 223)); have HT1 := Lib.hid (Bk.new w1 223 #[.int .i64 tk, .int .i64 0, .string tt]); obtain ⟨y0, y1, y2⟩ := Bk3 HT1.out; have hwr : w1.heap.size ≠ r := (by have := (H0.out.keep hb1).lt; omega); clear hb1)
    | (go_at_call 218; refine (G.out _ H1.out).mono ?_; clear G; rintro e wq ⟨rfl, hbq⟩; have H1q := Lib.hid (H1.out.keep hbq); have HBq := Lib.hid (But.of_below (b := r) hbq); have HRq := Lib.hid (HR1.out.keep hbq); clear hbq)
    | (go_at_call 294; have STR : StrsAt (· ≠ r) (wq.alloc (.cells #[.string ⟨#[46, 84, 46]⟩, .string ⟨#[46, 70, 46]⟩, .string ⟨#[46, 78, 85, 76, 76, 46]⟩, .string ⟨#[40]⟩, .string ⟨#[123]⟩, .string ⟨#[64]⟩] 9)) (.slice (some ⟨wq.heap.size, 0, none⟩) 6 6) prims := (by have h0 := strs_lit (r := r) (w := wq) prims (by decide) (by decide) H1q.out.lt 6; exact h0); have SG := sign294 mixed r ts s prims _ _ (H1q.out.alloc (.cells #[.string ⟨#[46, 84, 46]⟩, .string ⟨#[46, 70, 46]⟩, .string ⟨#[46, 78, 85, 76, 76, 46]⟩, .string ⟨#[40]⟩, .string ⟨#[123]⟩, .string ⟨#[64]⟩] 9)) STR; rw [hq] at SG; refine SG.mono ?_; clear SG STR; rintro e w2 ⟨rfl, h2, hb2⟩; have H2 := Lib.hid h2; have HB2 := Lib.hid hb2; have HR2 := Lib.hid ((HRq.out.alloc (.cells #[.string ⟨#[46, 84, 46]⟩, .string ⟨#[46, 70, 46]⟩, .string ⟨#[46, 78, 85, 76, 76, 46]⟩, .string ⟨#[40]⟩, .string ⟨#[123]⟩, .string ⟨#[64]⟩] 9)).but hb2 (Nat.ne_of_gt hrl)); clear h2 hb2; skip)
    | (go_at_call 613; refine (truth613 false _).mono ?_; rintro e w3 ⟨rfl, hb3⟩; have H3 := Lib.hid (H2.out.keep hb3); have HB3 := Lib.hid (But.of_below (b := r) hb3); have HR3 := Lib.hid (HR2.out.keep hb3); clear hb3; have HRX := Lib.hid (HR3.out); obtain ⟨r0, r1, r2, r3, r4, r5, r6⟩ := Bk7 HRX.out; have f0 := HRX.out.frozen 0; have f1 := HRX.out.frozen 1; have f2 := HRX.out.frozen 2; have f3 := HRX.out.frozen 3; have f4 := HRX.out.frozen 4; have f5 := HRX.out.frozen 5; have f6 := HRX.out.frozen 6))
  have sz1 := HB1.out.size
  have szq := HBq.out.size
  have sz2 := HB2.out.size
  simp at sz1 szq sz2
  clear y0 y1 y2
  have HR7 := HRX.out.set7 (.int .i64 0) (.string ⟨#[]⟩) (.int .i64 1) (.int .i64 0) (.string ⟨#[]⟩) (.slice none 0 0) (.slice none 0 0)
  obtain ⟨q0, q1, q2, q3, q4, q5, q6⟩ := Bk7 HR7
  clear r0 r1 r2 r3 r4 r5 r6 HR7
  unfold wset7 at q0 q1 q2 q3 q4 q5 q6
  refine bodyPost_ret (by simp [results, Tryz.results572, go_sem, q0, q1, q2, q3, q4, q5, q6]; try rfl) rfl ?_
  exact ⟨_, rfl, ex_mk (v := ⟨1, 0, ByteArray.empty⟩) (by decide) (by show ByteArray.empty.size <= mx; decide) (strs_nil _ _) (exs_nil _ _), H3.out.set7 hrl _ _ _ _ _ _ _, (((((((But.refl r w).alloc _).trans HB1.out).trans HBq.out).alloc _).trans HB2.out).trans HB3.out).set7 (Nat.le_refl _) _ _ _ _ _ _ _⟩
theorem prim572_7n (mixed : Tryz.prog.follows .mixedOrders = true) (r : Nat) (ts : List Tk) (s : St) (w : World) (h : RdAt r ts s w) (tk : Int) (tt : ByteArray) (hf : s.2 = false) (htk : tok s 0 = ⟨tk, tt⟩) (hsz : tt.size <= mx) (hk0 : ¬ tk = 0) (hk1 : ¬ tk = 1) (hk2 : ¬ tk = 2) (hk3 : ¬ tk = 3) (hg : isSg s 0 sAmp = false) (s1 : St) (hq : sgn prims s = (some (⟨#[46, 78, 85, 76, 76, 46]⟩ : ByteArray), s1))  :
    Calls Tryz.prog 572 #[rp r] w fun e w' => ∃ u, e = .returned u /\ ExAt (w.heap.size <= ·) w' (.zero) u /\ RdAt r ts (s1) w' /\ But r w w' := by
  have hrl := h.lt
  have H := Lib.hid h
  have H0 := Lib.hid (H.out.alloc (.cells #[.int .i64 0, .string ⟨#[]⟩, .int .i64 0, .int .i64 0, .string ⟨#[]⟩, .slice none 0 0, .slice none 0 0] 55))
  have HR0 := Lib.hid (Bk.new w 55 #[.int .i64 0, .string ⟨#[]⟩, .int .i64 0, .int .i64 0, .string ⟨#[]⟩, .slice none 0 0, .slice none 0 0])
  obtain ⟨a, ha, hm, hs, c1, f1, c2, f2, -, -, -⟩ := H0.out.parts
  rw [hf] at c2
  clear c1 f1 hs ha hm
  have T := Lib.hid (token134 mixed r ts s 0 _ (by decide) H0.out)
  unfold tkV at T
  rw [htk] at T
  have hsz : tt.size <= 9223372036854775807 := hsz
  have G := Lib.hid (fun w h => isSign218 mixed r ts s 0 sAmp w (by decide) h)
  rw [hg] at G
  have e0 : ((⟨#[46, 78, 85, 76, 76, 46]⟩ : ByteArray).toList == [46, 84, 46]) = false := by decide +kernel
  have e1 : ((⟨#[46, 78, 85, 76, 76, 46]⟩ : ByteArray).toList == [46, 70, 46]) = false := by decide +kernel
  have e2 : ((⟨#[46, 78, 85, 76, 76, 46]⟩ : ByteArray).toList == [46, 78, 85, 76, 76, 46]) = true := by decide +kernel
  have e3 : ((⟨#[46, 78, 85, 76, 76, 46]⟩ : ByteArray).toList == [40]) = false := by decide +kernel
  have e4 : ((⟨#[46, 78, 85, 76, 76, 46]⟩ : ByteArray).toList == [123]) = false := by decide +kernel
  have e5 : ((⟨#[46, 78, 85, 76, 76, 46]⟩ : ByteArray).toList == [64]) = false := by decide +kernel
  clear h hg
  go_enter Tryz.func572, Tryz.ntmps572
  go_wp2_with (first
    | (go_at_call 134; refine T.out.mono ?_; clear T; rintro e w1 ⟨rfl, hb1⟩; have H1 := Lib.hid ((H0.out.keep hb1).alloc (.cells #[.int .i64 tk, .int .i64 0, .string tt] 223)); have HB1 := Lib.hid ((But.of_below (b := r) hb1).alloc (.cells #[.int .i64 tk, .int .i64 0, .string tt] 223)); have HR1 := Lib.hid ((HR0.out.keep hb1).alloc (.cells #[.int .i64 tk, .int .i64 0, .string tt] 223)); have HT1 := Lib.hid (Bk.new w1 223 #[.int .i64 tk, .int .i64 0, .string tt]); obtain ⟨y0, y1, y2⟩ := Bk3 HT1.out; have hwr : w1.heap.size ≠ r := (by have := (H0.out.keep hb1).lt; omega); clear hb1)
    | (go_at_call 218; refine (G.out _ H1.out).mono ?_; clear G; rintro e wq ⟨rfl, hbq⟩; have H1q := Lib.hid (H1.out.keep hbq); have HBq := Lib.hid (But.of_below (b := r) hbq); have HRq := Lib.hid (HR1.out.keep hbq); clear hbq)
    | (go_at_call 294; have STR : StrsAt (· ≠ r) (wq.alloc (.cells #[.string ⟨#[46, 84, 46]⟩, .string ⟨#[46, 70, 46]⟩, .string ⟨#[46, 78, 85, 76, 76, 46]⟩, .string ⟨#[40]⟩, .string ⟨#[123]⟩, .string ⟨#[64]⟩] 9)) (.slice (some ⟨wq.heap.size, 0, none⟩) 6 6) prims := (by have h0 := strs_lit (r := r) (w := wq) prims (by decide) (by decide) H1q.out.lt 6; exact h0); have SG := sign294 mixed r ts s prims _ _ (H1q.out.alloc (.cells #[.string ⟨#[46, 84, 46]⟩, .string ⟨#[46, 70, 46]⟩, .string ⟨#[46, 78, 85, 76, 76, 46]⟩, .string ⟨#[40]⟩, .string ⟨#[123]⟩, .string ⟨#[64]⟩] 9)) STR; rw [hq] at SG; refine SG.mono ?_; clear SG STR; rintro e w2 ⟨rfl, h2, hb2⟩; have H2 := Lib.hid h2; have HB2 := Lib.hid hb2; have HR2 := Lib.hid ((HRq.out.alloc (.cells #[.string ⟨#[46, 84, 46]⟩, .string ⟨#[46, 70, 46]⟩, .string ⟨#[46, 78, 85, 76, 76, 46]⟩, .string ⟨#[40]⟩, .string ⟨#[123]⟩, .string ⟨#[64]⟩] 9)).but hb2 (Nat.ne_of_gt hrl)); clear h2 hb2; have HRX := Lib.hid (HR2.out); obtain ⟨r0, r1, r2, r3, r4, r5, r6⟩ := Bk7 HRX.out; have f0 := HRX.out.frozen 0; have f1 := HRX.out.frozen 1; have f2 := HRX.out.frozen 2; have f3 := HRX.out.frozen 3; have f4 := HRX.out.frozen 4; have f5 := HRX.out.frozen 5; have f6 := HRX.out.frozen 6))
  have sz1 := HB1.out.size
  have szq := HBq.out.size
  have sz2 := HB2.out.size
  simp at sz1 szq sz2
  clear y0 y1 y2
  have HR7 := HRX.out.set7 (.int .i64 0) (.string ⟨#[]⟩) (.int .i64 0) (.int .i64 0) (.string ⟨#[]⟩) (.slice none 0 0) (.slice none 0 0)
  obtain ⟨q0, q1, q2, q3, q4, q5, q6⟩ := Bk7 HR7
  clear r0 r1 r2 r3 r4 r5 r6 HR7
  unfold wset7 at q0 q1 q2 q3 q4 q5 q6
  refine bodyPost_ret (by simp [results, Tryz.results572, go_sem, q0, q1, q2, q3, q4, q5, q6]; try rfl) rfl ?_
  exact ⟨_, rfl, ex_mk (v := vd0) (by decide) (by show ByteArray.empty.size <= mx; decide) (strs_nil _ _) (exs_nil _ _), H2.out.set7 hrl _ _ _ _ _ _ _, (((((((But.refl r w).alloc _).trans HB1.out).trans HBq.out).alloc _).trans HB2.out)).set7 (Nat.le_refl _) _ _ _ _ _ _ _⟩
theorem prim572_7p (mixed : Tryz.prog.follows .mixedOrders = true) (r : Nat) (ts : List Tk) (s : St) (w : World) (h : RdAt r ts s w) (tk : Int) (tt : ByteArray) (hf : s.2 = false) (htk : tok s 0 = ⟨tk, tt⟩) (hsz : tt.size <= mx) (hk0 : ¬ tk = 0) (hk1 : ¬ tk = 1) (hk2 : ¬ tk = 2) (hk3 : ¬ tk = 3) (hg : isSg s 0 sAmp = false) (s1 : St) (hq : sgn prims s = (some (⟨#[40]⟩ : ByteArray), s1)) (x : Ex) (s2 : St) (hA : ∀ w, RdAt r ts s1 w -> Calls Tryz.prog 72 #[rp r] w fun e w' => ∃ u, e = .returned u /\ ExAt (w.heap.size <= ·) w' x u /\ RdAt r ts s2 w' /\ But r w w') :
    Calls Tryz.prog 572 #[rp r] w fun e w' => ∃ u, e = .returned u /\ ExAt (w.heap.size <= ·) w' (x) u /\ RdAt r ts (want sRp s2) w' /\ But r w w' := by
  have hrl := h.lt
  have H := Lib.hid h
  have H0 := Lib.hid (H.out.alloc (.cells #[.int .i64 0, .string ⟨#[]⟩, .int .i64 0, .int .i64 0, .string ⟨#[]⟩, .slice none 0 0, .slice none 0 0] 55))
  have HR0 := Lib.hid (Bk.new w 55 #[.int .i64 0, .string ⟨#[]⟩, .int .i64 0, .int .i64 0, .string ⟨#[]⟩, .slice none 0 0, .slice none 0 0])
  obtain ⟨a, ha, hm, hs, c1, f1, c2, f2, -, -, -⟩ := H0.out.parts
  rw [hf] at c2
  clear c1 f1 hs ha hm
  have T := Lib.hid (token134 mixed r ts s 0 _ (by decide) H0.out)
  unfold tkV at T
  rw [htk] at T
  have hsz : tt.size <= 9223372036854775807 := hsz
  have G := Lib.hid (fun w h => isSign218 mixed r ts s 0 sAmp w (by decide) h)
  rw [hg] at G
  have e0 : ((⟨#[40]⟩ : ByteArray).toList == [46, 84, 46]) = false := by decide +kernel
  have e1 : ((⟨#[40]⟩ : ByteArray).toList == [46, 70, 46]) = false := by decide +kernel
  have e2 : ((⟨#[40]⟩ : ByteArray).toList == [46, 78, 85, 76, 76, 46]) = false := by decide +kernel
  have e3 : ((⟨#[40]⟩ : ByteArray).toList == [40]) = true := by decide +kernel
  have e4 : ((⟨#[40]⟩ : ByteArray).toList == [123]) = false := by decide +kernel
  have e5 : ((⟨#[40]⟩ : ByteArray).toList == [64]) = false := by decide +kernel
  clear h hg
  go_enter Tryz.func572, Tryz.ntmps572
  go_wp2_with (first
    | (go_at_call 134; refine T.out.mono ?_; clear T; rintro e w1 ⟨rfl, hb1⟩; have H1 := Lib.hid ((H0.out.keep hb1).alloc (.cells #[.int .i64 tk, .int .i64 0, .string tt] 223)); have HB1 := Lib.hid ((But.of_below (b := r) hb1).alloc (.cells #[.int .i64 tk, .int .i64 0, .string tt] 223)); have HR1 := Lib.hid ((HR0.out.keep hb1).alloc (.cells #[.int .i64 tk, .int .i64 0, .string tt] 223)); have HT1 := Lib.hid (Bk.new w1 223 #[.int .i64 tk, .int .i64 0, .string tt]); obtain ⟨y0, y1, y2⟩ := Bk3 HT1.out; have hwr : w1.heap.size ≠ r := (by have := (H0.out.keep hb1).lt; omega); clear hb1)
    | (go_at_call 218; refine (G.out _ H1.out).mono ?_; clear G; rintro e wq ⟨rfl, hbq⟩; have H1q := Lib.hid (H1.out.keep hbq); have HBq := Lib.hid (But.of_below (b := r) hbq); have HRq := Lib.hid (HR1.out.keep hbq); clear hbq)
    | (go_at_call 294; have STR : StrsAt (· ≠ r) (wq.alloc (.cells #[.string ⟨#[46, 84, 46]⟩, .string ⟨#[46, 70, 46]⟩, .string ⟨#[46, 78, 85, 76, 76, 46]⟩, .string ⟨#[40]⟩, .string ⟨#[123]⟩, .string ⟨#[64]⟩] 9)) (.slice (some ⟨wq.heap.size, 0, none⟩) 6 6) prims := (by have h0 := strs_lit (r := r) (w := wq) prims (by decide) (by decide) H1q.out.lt 6; exact h0); have SG := sign294 mixed r ts s prims _ _ (H1q.out.alloc (.cells #[.string ⟨#[46, 84, 46]⟩, .string ⟨#[46, 70, 46]⟩, .string ⟨#[46, 78, 85, 76, 76, 46]⟩, .string ⟨#[40]⟩, .string ⟨#[123]⟩, .string ⟨#[64]⟩] 9)) STR; rw [hq] at SG; refine SG.mono ?_; clear SG STR; rintro e w2 ⟨rfl, h2, hb2⟩; have H2 := Lib.hid h2; have HB2 := Lib.hid hb2; have HR2 := Lib.hid ((HRq.out.alloc (.cells #[.string ⟨#[46, 84, 46]⟩, .string ⟨#[46, 70, 46]⟩, .string ⟨#[46, 78, 85, 76, 76, 46]⟩, .string ⟨#[40]⟩, .string ⟨#[123]⟩, .string ⟨#[64]⟩] 9)).but hb2 (Nat.ne_of_gt hrl)); clear h2 hb2; skip)
    | (go_at_call 72; refine (hA _ H2.out).mono ?_; rintro e w3 ⟨u, rfl, hx, h3, hb3⟩; obtain ⟨xo, xs, xk, xn, xt, xa, xm, xc, xb, xq, xd, rfl⟩ := hx.form; have HXX := Lib.hid hx; clear hx; have H3 := Lib.hid h3; have HB3 := Lib.hid hb3; have HR3 := Lib.hid ((HR2.out.but hb3 (Nat.ne_of_gt hrl)).alloc (.cells #[.int .i64 xo, .string xs, .int .i64 xk, .int .i64 xn, .string xt, .slice xa xm xc, .slice xb xq xd] 55)); clear h3 hb3)
    | (go_at_call 573; refine (want573 mixed r ts s2 sRp _ (H3.out.alloc (.cells #[.int .i64 xo, .string xs, .int .i64 xk, .int .i64 xn, .string xt, .slice xa xm xc, .slice xb xq xd] 55))).mono ?_; rintro e w4 ⟨rfl, h4, hb4⟩; have H4 := Lib.hid h4; have HB4 := Lib.hid hb4; have HR4 := Lib.hid (HR3.out.but hb4 (Nat.ne_of_gt hrl)); have HK4 := Lib.hid ((Bk.new w3 55 #[.int .i64 xo, .string xs, .int .i64 xk, .int .i64 xn, .string xt, .slice xa xm xc, .slice xb xq xd]).but hb4 (by have := H3.out.lt; omega)); obtain ⟨k0, k1, k2, k3, k4, k5, k6⟩ := Bk7 HK4.out; clear h4 hb4; have HRX := Lib.hid (HR4.out); obtain ⟨r0, r1, r2, r3, r4, r5, r6⟩ := Bk7 HRX.out; have f0 := HRX.out.frozen 0; have f1 := HRX.out.frozen 1; have f2 := HRX.out.frozen 2; have f3 := HRX.out.frozen 3; have f4 := HRX.out.frozen 4; have f5 := HRX.out.frozen 5; have f6 := HRX.out.frozen 6))
  have sz1 := HB1.out.size
  have szq := HBq.out.size
  have sz2 := HB2.out.size
  simp at sz1 szq sz2
  clear y0 y1 y2
  have sz3 := HB3.out.size
  clear k0 k1 k2 k3 k4 k5 k6
  have HR7 := HRX.out.set7 (.int .i64 xo) (.string xs) (.int .i64 xk) (.int .i64 xn) (.string xt) (.slice xa xm xc) (.slice xb xq xd)
  obtain ⟨q0, q1, q2, q3, q4, q5, q6⟩ := Bk7 HR7
  clear r0 r1 r2 r3 r4 r5 r6 HR7
  unfold wset7 at q0 q1 q2 q3 q4 q5 q6
  refine bodyPost_ret (by simp [results, Tryz.results572, go_sem, q0, q1, q2, q3, q4, q5, q6]; try rfl) rfl ?_
  refine ⟨_, rfl, ?_, H4.out.set7 hrl _ _ _ _ _ _ _, ((((((((((But.refl r w).alloc _).trans HB1.out).trans HBq.out).alloc _).trans HB2.out).trans HB3.out).alloc _).trans HB4.out)).set7 (Nat.le_refl _) _ _ _ _ _ _ _⟩
  exact ExAt.mono (fun b _ hn => by omega) (ex_set7 (g := w.heap.size) (ex_keep ((ExAt.mono (M := fun b => w.heap.size + 1 <= b) (fun b _ hn => by omega) HXX.out).below (below_a _)) HB4.out (fun b hn => by omega)) (fun b hn => by omega) _ _ _ _ _ _ _)
theorem prim572_7c (mixed : Tryz.prog.follows .mixedOrders = true) (r : Nat) (ts : List Tk) (s : St) (w : World) (h : RdAt r ts s w) (tk : Int) (tt : ByteArray) (hf : s.2 = false) (htk : tok s 0 = ⟨tk, tt⟩) (hsz : tt.size <= mx) (hk0 : ¬ tk = 0) (hk1 : ¬ tk = 1) (hk2 : ¬ tk = 2) (hk3 : ¬ tk = 3) (hg : isSg s 0 sAmp = false) (s1 : St) (hq : sgn prims s = (some (⟨#[123]⟩ : ByteArray), s1)) (x : Ex) (s2 : St) (hA : ∀ w, RdAt r ts s1 w -> Calls Tryz.prog 614 #[rp r] w fun e w' => ∃ u, e = .returned u /\ ExAt (w.heap.size <= ·) w' x u /\ RdAt r ts s2 w' /\ But r w w') :
    Calls Tryz.prog 572 #[rp r] w fun e w' => ∃ u, e = .returned u /\ ExAt (w.heap.size <= ·) w' (x) u /\ RdAt r ts (s2) w' /\ But r w w' := by
  have hrl := h.lt
  have H := Lib.hid h
  have H0 := Lib.hid (H.out.alloc (.cells #[.int .i64 0, .string ⟨#[]⟩, .int .i64 0, .int .i64 0, .string ⟨#[]⟩, .slice none 0 0, .slice none 0 0] 55))
  have HR0 := Lib.hid (Bk.new w 55 #[.int .i64 0, .string ⟨#[]⟩, .int .i64 0, .int .i64 0, .string ⟨#[]⟩, .slice none 0 0, .slice none 0 0])
  obtain ⟨a, ha, hm, hs, c1, f1, c2, f2, -, -, -⟩ := H0.out.parts
  rw [hf] at c2
  clear c1 f1 hs ha hm
  have T := Lib.hid (token134 mixed r ts s 0 _ (by decide) H0.out)
  unfold tkV at T
  rw [htk] at T
  have hsz : tt.size <= 9223372036854775807 := hsz
  have G := Lib.hid (fun w h => isSign218 mixed r ts s 0 sAmp w (by decide) h)
  rw [hg] at G
  have e0 : ((⟨#[123]⟩ : ByteArray).toList == [46, 84, 46]) = false := by decide +kernel
  have e1 : ((⟨#[123]⟩ : ByteArray).toList == [46, 70, 46]) = false := by decide +kernel
  have e2 : ((⟨#[123]⟩ : ByteArray).toList == [46, 78, 85, 76, 76, 46]) = false := by decide +kernel
  have e3 : ((⟨#[123]⟩ : ByteArray).toList == [40]) = false := by decide +kernel
  have e4 : ((⟨#[123]⟩ : ByteArray).toList == [123]) = true := by decide +kernel
  have e5 : ((⟨#[123]⟩ : ByteArray).toList == [64]) = false := by decide +kernel
  clear h hg
  go_enter Tryz.func572, Tryz.ntmps572
  go_wp2_with (first
    | (go_at_call 134; refine T.out.mono ?_; clear T; rintro e w1 ⟨rfl, hb1⟩; have H1 := Lib.hid ((H0.out.keep hb1).alloc (.cells #[.int .i64 tk, .int .i64 0, .string tt] 223)); have HB1 := Lib.hid ((But.of_below (b := r) hb1).alloc (.cells #[.int .i64 tk, .int .i64 0, .string tt] 223)); have HR1 := Lib.hid ((HR0.out.keep hb1).alloc (.cells #[.int .i64 tk, .int .i64 0, .string tt] 223)); have HT1 := Lib.hid (Bk.new w1 223 #[.int .i64 tk, .int .i64 0, .string tt]); obtain ⟨y0, y1, y2⟩ := Bk3 HT1.out; have hwr : w1.heap.size ≠ r := (by have := (H0.out.keep hb1).lt; omega); clear hb1)
    | (go_at_call 218; refine (G.out _ H1.out).mono ?_; clear G; rintro e wq ⟨rfl, hbq⟩; have H1q := Lib.hid (H1.out.keep hbq); have HBq := Lib.hid (But.of_below (b := r) hbq); have HRq := Lib.hid (HR1.out.keep hbq); clear hbq)
    | (go_at_call 294; have STR : StrsAt (· ≠ r) (wq.alloc (.cells #[.string ⟨#[46, 84, 46]⟩, .string ⟨#[46, 70, 46]⟩, .string ⟨#[46, 78, 85, 76, 76, 46]⟩, .string ⟨#[40]⟩, .string ⟨#[123]⟩, .string ⟨#[64]⟩] 9)) (.slice (some ⟨wq.heap.size, 0, none⟩) 6 6) prims := (by have h0 := strs_lit (r := r) (w := wq) prims (by decide) (by decide) H1q.out.lt 6; exact h0); have SG := sign294 mixed r ts s prims _ _ (H1q.out.alloc (.cells #[.string ⟨#[46, 84, 46]⟩, .string ⟨#[46, 70, 46]⟩, .string ⟨#[46, 78, 85, 76, 76, 46]⟩, .string ⟨#[40]⟩, .string ⟨#[123]⟩, .string ⟨#[64]⟩] 9)) STR; rw [hq] at SG; refine SG.mono ?_; clear SG STR; rintro e w2 ⟨rfl, h2, hb2⟩; have H2 := Lib.hid h2; have HB2 := Lib.hid hb2; have HR2 := Lib.hid ((HRq.out.alloc (.cells #[.string ⟨#[46, 84, 46]⟩, .string ⟨#[46, 70, 46]⟩, .string ⟨#[46, 78, 85, 76, 76, 46]⟩, .string ⟨#[40]⟩, .string ⟨#[123]⟩, .string ⟨#[64]⟩] 9)).but hb2 (Nat.ne_of_gt hrl)); clear h2 hb2; skip)
    | (go_at_call 614; refine (hA _ H2.out).mono ?_; rintro e w3 ⟨u, rfl, hx, h3, hb3⟩; obtain ⟨xo, xs, xk, xn, xt, xa, xm, xc, xb, xq, xd, rfl⟩ := hx.form; have HXX := Lib.hid hx; clear hx; have H3 := Lib.hid h3; have HB3 := Lib.hid hb3; have HR3 := Lib.hid (HR2.out.but hb3 (Nat.ne_of_gt hrl)); clear h3 hb3; have HRX := Lib.hid (HR3.out); obtain ⟨r0, r1, r2, r3, r4, r5, r6⟩ := Bk7 HRX.out; have f0 := HRX.out.frozen 0; have f1 := HRX.out.frozen 1; have f2 := HRX.out.frozen 2; have f3 := HRX.out.frozen 3; have f4 := HRX.out.frozen 4; have f5 := HRX.out.frozen 5; have f6 := HRX.out.frozen 6))
  have sz1 := HB1.out.size
  have szq := HBq.out.size
  have sz2 := HB2.out.size
  simp at sz1 szq sz2
  clear y0 y1 y2
  have sz3 := HB3.out.size
  have HR7 := HRX.out.set7 (.int .i64 xo) (.string xs) (.int .i64 xk) (.int .i64 xn) (.string xt) (.slice xa xm xc) (.slice xb xq xd)
  obtain ⟨q0, q1, q2, q3, q4, q5, q6⟩ := Bk7 HR7
  clear r0 r1 r2 r3 r4 r5 r6 HR7
  unfold wset7 at q0 q1 q2 q3 q4 q5 q6
  refine bodyPost_ret (by simp [results, Tryz.results572, go_sem, q0, q1, q2, q3, q4, q5, q6]; try rfl) rfl ?_
  refine ⟨_, rfl, ?_, H3.out.set7 hrl _ _ _ _ _ _ _, (((((((But.refl r w).alloc _).trans HB1.out).trans HBq.out).alloc _).trans HB2.out).trans HB3.out).set7 (Nat.le_refl _) _ _ _ _ _ _ _⟩
  exact ExAt.mono (fun b _ hn => by omega) (ex_set7 (g := w.heap.size) (ExAt.mono (M := fun b => w.heap.size + 1 <= b) (fun b _ hn => by omega) HXX.out) (fun b hn => by omega) _ _ _ _ _ _ _)
theorem prim572_7a (mixed : Tryz.prog.follows .mixedOrders = true) (r : Nat) (ts : List Tk) (s : St) (w : World) (h : RdAt r ts s w) (tk : Int) (tt : ByteArray) (hf : s.2 = false) (htk : tok s 0 = ⟨tk, tt⟩) (hsz : tt.size <= mx) (hk0 : ¬ tk = 0) (hk1 : ¬ tk = 1) (hk2 : ¬ tk = 2) (hk3 : ¬ tk = 3) (hg : isSg s 0 sAmp = false) (s1 : St) (hq : sgn prims s = (some (⟨#[64]⟩ : ByteArray), s1))  :
    Calls Tryz.prog 572 #[rp r] w fun e w' => ∃ u, e = .returned u /\ ExAt (w.heap.size <= ·) w' (.mk 10 (rname s1).1 vd0 [] []) u /\ RdAt r ts ((rname s1).2) w' /\ But r w w' := by
  have hrl := h.lt
  have H := Lib.hid h
  have H0 := Lib.hid (H.out.alloc (.cells #[.int .i64 0, .string ⟨#[]⟩, .int .i64 0, .int .i64 0, .string ⟨#[]⟩, .slice none 0 0, .slice none 0 0] 55))
  have HR0 := Lib.hid (Bk.new w 55 #[.int .i64 0, .string ⟨#[]⟩, .int .i64 0, .int .i64 0, .string ⟨#[]⟩, .slice none 0 0, .slice none 0 0])
  obtain ⟨a, ha, hm, hs, c1, f1, c2, f2, -, -, -⟩ := H0.out.parts
  rw [hf] at c2
  clear c1 f1 hs ha hm
  have T := Lib.hid (token134 mixed r ts s 0 _ (by decide) H0.out)
  unfold tkV at T
  rw [htk] at T
  have hsz : tt.size <= 9223372036854775807 := hsz
  have G := Lib.hid (fun w h => isSign218 mixed r ts s 0 sAmp w (by decide) h)
  rw [hg] at G
  have e0 : ((⟨#[64]⟩ : ByteArray).toList == [46, 84, 46]) = false := by decide +kernel
  have e1 : ((⟨#[64]⟩ : ByteArray).toList == [46, 70, 46]) = false := by decide +kernel
  have e2 : ((⟨#[64]⟩ : ByteArray).toList == [46, 78, 85, 76, 76, 46]) = false := by decide +kernel
  have e3 : ((⟨#[64]⟩ : ByteArray).toList == [40]) = false := by decide +kernel
  have e4 : ((⟨#[64]⟩ : ByteArray).toList == [123]) = false := by decide +kernel
  have e5 : ((⟨#[64]⟩ : ByteArray).toList == [64]) = true := by decide +kernel
  clear h hg
  go_enter Tryz.func572, Tryz.ntmps572
  go_wp2_with (first
    | (go_at_call 134; refine T.out.mono ?_; clear T; rintro e w1 ⟨rfl, hb1⟩; have H1 := Lib.hid ((H0.out.keep hb1).alloc (.cells #[.int .i64 tk, .int .i64 0, .string tt] 223)); have HB1 := Lib.hid ((But.of_below (b := r) hb1).alloc (.cells #[.int .i64 tk, .int .i64 0, .string tt] 223)); have HR1 := Lib.hid ((HR0.out.keep hb1).alloc (.cells #[.int .i64 tk, .int .i64 0, .string tt] 223)); have HT1 := Lib.hid (Bk.new w1 223 #[.int .i64 tk, .int .i64 0, .string tt]); obtain ⟨y0, y1, y2⟩ := Bk3 HT1.out; have hwr : w1.heap.size ≠ r := (by have := (H0.out.keep hb1).lt; omega); clear hb1)
    | (go_at_call 218; refine (G.out _ H1.out).mono ?_; clear G; rintro e wq ⟨rfl, hbq⟩; have H1q := Lib.hid (H1.out.keep hbq); have HBq := Lib.hid (But.of_below (b := r) hbq); have HRq := Lib.hid (HR1.out.keep hbq); clear hbq)
    | (go_at_call 294; have STR : StrsAt (· ≠ r) (wq.alloc (.cells #[.string ⟨#[46, 84, 46]⟩, .string ⟨#[46, 70, 46]⟩, .string ⟨#[46, 78, 85, 76, 76, 46]⟩, .string ⟨#[40]⟩, .string ⟨#[123]⟩, .string ⟨#[64]⟩] 9)) (.slice (some ⟨wq.heap.size, 0, none⟩) 6 6) prims := (by have h0 := strs_lit (r := r) (w := wq) prims (by decide) (by decide) H1q.out.lt 6; exact h0); have SG := sign294 mixed r ts s prims _ _ (H1q.out.alloc (.cells #[.string ⟨#[46, 84, 46]⟩, .string ⟨#[46, 70, 46]⟩, .string ⟨#[46, 78, 85, 76, 76, 46]⟩, .string ⟨#[40]⟩, .string ⟨#[123]⟩, .string ⟨#[64]⟩] 9)) STR; rw [hq] at SG; refine SG.mono ?_; clear SG STR; rintro e w2 ⟨rfl, h2, hb2⟩; have H2 := Lib.hid h2; have HB2 := Lib.hid hb2; have HR2 := Lib.hid ((HRq.out.alloc (.cells #[.string ⟨#[46, 84, 46]⟩, .string ⟨#[46, 70, 46]⟩, .string ⟨#[46, 78, 85, 76, 76, 46]⟩, .string ⟨#[40]⟩, .string ⟨#[123]⟩, .string ⟨#[64]⟩] 9)).but hb2 (Nat.ne_of_gt hrl)); clear h2 hb2; skip)
    | (go_at_call 615; refine (name615 mixed r ts s1 _ H2.out).mono ?_; rintro e w3 ⟨rfl, h3, hb3⟩; have H3 := Lib.hid h3; have HB3 := Lib.hid hb3; have HR3 := Lib.hid (HR2.out.but hb3 (Nat.ne_of_gt hrl)); clear h3 hb3; have HRX := Lib.hid (HR3.out); obtain ⟨r0, r1, r2, r3, r4, r5, r6⟩ := Bk7 HRX.out; have f0 := HRX.out.frozen 0; have f1 := HRX.out.frozen 1; have f2 := HRX.out.frozen 2; have f3 := HRX.out.frozen 3; have f4 := HRX.out.frozen 4; have f5 := HRX.out.frozen 5; have f6 := HRX.out.frozen 6))
  have sz1 := HB1.out.size
  have szq := HBq.out.size
  have sz2 := HB2.out.size
  simp at sz1 szq sz2
  clear y0 y1 y2
  have HR7 := HRX.out.set7 (.int .i64 10) (.string (rname s1).1) (.int .i64 0) (.int .i64 0) (.string ⟨#[]⟩) (.slice none 0 0) (.slice none 0 0)
  obtain ⟨q0, q1, q2, q3, q4, q5, q6⟩ := Bk7 HR7
  clear r0 r1 r2 r3 r4 r5 r6 HR7
  unfold wset7 at q0 q1 q2 q3 q4 q5 q6
  refine bodyPost_ret (by simp [results, Tryz.results572, go_sem, q0, q1, q2, q3, q4, q5, q6]; try rfl) rfl ?_
  exact ⟨_, rfl, ex_mk (v := vd0) (rname_sz s1) (by decide) (strs_nil _ _) (exs_nil _ _), H3.out.set7 hrl _ _ _ _ _ _ _, (((((((But.refl r w).alloc _).trans HB1.out).trans HBq.out).alloc _).trans HB2.out).trans HB3.out).set7 (Nat.le_refl _) _ _ _ _ _ _ _⟩
theorem prim572_7x (mixed : Tryz.prog.follows .mixedOrders = true) (r : Nat) (ts : List Tk) (s : St) (w : World) (h : RdAt r ts s w) (tk : Int) (tt : ByteArray) (hf : s.2 = false) (htk : tok s 0 = ⟨tk, tt⟩) (hsz : tt.size <= mx) (hk0 : ¬ tk = 0) (hk1 : ¬ tk = 1) (hk2 : ¬ tk = 2) (hk3 : ¬ tk = 3) (hg : isSg s 0 sAmp = false) (s1 : St) (hq : sgn prims s = ((none : Option ByteArray), s1))  :
    Calls Tryz.prog 572 #[rp r] w fun e w' => ∃ u, e = .returned u /\ ExAt (w.heap.size <= ·) w' (.zero) u /\ RdAt r ts ((s1.1, true)) w' /\ But r w w' := by
  have hrl := h.lt
  have H := Lib.hid h
  have H0 := Lib.hid (H.out.alloc (.cells #[.int .i64 0, .string ⟨#[]⟩, .int .i64 0, .int .i64 0, .string ⟨#[]⟩, .slice none 0 0, .slice none 0 0] 55))
  have HR0 := Lib.hid (Bk.new w 55 #[.int .i64 0, .string ⟨#[]⟩, .int .i64 0, .int .i64 0, .string ⟨#[]⟩, .slice none 0 0, .slice none 0 0])
  obtain ⟨a, ha, hm, hs, c1, f1, c2, f2, -, -, -⟩ := H0.out.parts
  rw [hf] at c2
  clear c1 f1 hs ha hm
  have T := Lib.hid (token134 mixed r ts s 0 _ (by decide) H0.out)
  unfold tkV at T
  rw [htk] at T
  have hsz : tt.size <= 9223372036854775807 := hsz
  have G := Lib.hid (fun w h => isSign218 mixed r ts s 0 sAmp w (by decide) h)
  rw [hg] at G
  have he1 : ByteArray.empty.toList = [] := by decide +kernel
  have he2 : ByteArray.empty.toList.isEmpty = true := by decide +kernel
  clear h hg
  go_enter Tryz.func572, Tryz.ntmps572
  go_wp2_with (first
    | (go_at_call 134; refine T.out.mono ?_; clear T; rintro e w1 ⟨rfl, hb1⟩; have H1 := Lib.hid ((H0.out.keep hb1).alloc (.cells #[.int .i64 tk, .int .i64 0, .string tt] 223)); have HB1 := Lib.hid ((But.of_below (b := r) hb1).alloc (.cells #[.int .i64 tk, .int .i64 0, .string tt] 223)); have HR1 := Lib.hid ((HR0.out.keep hb1).alloc (.cells #[.int .i64 tk, .int .i64 0, .string tt] 223)); have HT1 := Lib.hid (Bk.new w1 223 #[.int .i64 tk, .int .i64 0, .string tt]); obtain ⟨y0, y1, y2⟩ := Bk3 HT1.out; have hwr : w1.heap.size ≠ r := (by have := (H0.out.keep hb1).lt; omega); clear hb1)
    | (go_at_call 218; refine (G.out _ H1.out).mono ?_; clear G; rintro e wq ⟨rfl, hbq⟩; have H1q := Lib.hid (H1.out.keep hbq); have HBq := Lib.hid (But.of_below (b := r) hbq); have HRq := Lib.hid (HR1.out.keep hbq); clear hbq)
    | (go_at_call 294; have STR : StrsAt (· ≠ r) (wq.alloc (.cells #[.string ⟨#[46, 84, 46]⟩, .string ⟨#[46, 70, 46]⟩, .string ⟨#[46, 78, 85, 76, 76, 46]⟩, .string ⟨#[40]⟩, .string ⟨#[123]⟩, .string ⟨#[64]⟩] 9)) (.slice (some ⟨wq.heap.size, 0, none⟩) 6 6) prims := (by have h0 := strs_lit (r := r) (w := wq) prims (by decide) (by decide) H1q.out.lt 6; exact h0); have SG := sign294 mixed r ts s prims _ _ (H1q.out.alloc (.cells #[.string ⟨#[46, 84, 46]⟩, .string ⟨#[46, 70, 46]⟩, .string ⟨#[46, 78, 85, 76, 76, 46]⟩, .string ⟨#[40]⟩, .string ⟨#[123]⟩, .string ⟨#[64]⟩] 9)) STR; rw [hq] at SG; refine SG.mono ?_; clear SG STR; rintro e w2 ⟨rfl, h2, hb2⟩; have H2 := Lib.hid h2; have HB2 := Lib.hid hb2; have HR2 := Lib.hid ((HRq.out.alloc (.cells #[.string ⟨#[46, 84, 46]⟩, .string ⟨#[46, 70, 46]⟩, .string ⟨#[46, 78, 85, 76, 76, 46]⟩, .string ⟨#[40]⟩, .string ⟨#[123]⟩, .string ⟨#[64]⟩] 9)).but hb2 (Nat.ne_of_gt hrl)); clear h2 hb2; skip)
    | (go_at_call 135; refine (wrong135 r ts s1 _ H2.out).mono ?_; rintro e w3 ⟨rfl, h3, hb3⟩; have H3 := Lib.hid h3; have HB3 := Lib.hid hb3; have HR3 := Lib.hid (HR2.out.but hb3 (Nat.ne_of_gt hrl)); clear h3 hb3; have HRX := Lib.hid (HR3.out); obtain ⟨r0, r1, r2, r3, r4, r5, r6⟩ := Bk7 HRX.out; have f0 := HRX.out.frozen 0; have f1 := HRX.out.frozen 1; have f2 := HRX.out.frozen 2; have f3 := HRX.out.frozen 3; have f4 := HRX.out.frozen 4; have f5 := HRX.out.frozen 5; have f6 := HRX.out.frozen 6))
  have sz1 := HB1.out.size
  have szq := HBq.out.size
  have sz2 := HB2.out.size
  simp at sz1 szq sz2
  clear y0 y1 y2
  have HR7 := HRX.out.set7 (.int .i64 0) (.string ⟨#[]⟩) (.int .i64 0) (.int .i64 0) (.string ⟨#[]⟩) (.slice none 0 0) (.slice none 0 0)
  obtain ⟨q0, q1, q2, q3, q4, q5, q6⟩ := Bk7 HR7
  clear r0 r1 r2 r3 r4 r5 r6 HR7
  unfold wset7 at q0 q1 q2 q3 q4 q5 q6
  refine bodyPost_ret (by simp [results, Tryz.results572, go_sem, q0, q1, q2, q3, q4, q5, q6]; try rfl) rfl ?_
  exact ⟨_, rfl, ex_mk (v := vd0) (by decide) (by show ByteArray.empty.size <= mx; decide) (strs_nil _ _) (exs_nil _ _), H3.out.set7 hrl _ _ _ _ _ _ _, (((((((But.refl r w).alloc _).trans HB1.out).trans HBq.out).alloc _).trans HB2.out).trans HB3.out).set7 (Nat.le_refl _) _ _ _ _ _ _ _⟩
theorem prim572_7y (mixed : Tryz.prog.follows .mixedOrders = true) (r : Nat) (ts : List Tk) (s : St) (w : World) (h : RdAt r ts s w)  (tt : ByteArray) (hf : s.2 = false) (htk : tok s 0 = ⟨2, tt⟩) (hsz : tt.size <= mx) (hbig : 2048 < tt.size) (hg : isSg s 0 sAmp = false) (s1 : St) (hq : sgn prims s = ((none : Option ByteArray), s1))  :
    Calls Tryz.prog 572 #[rp r] w fun e w' => ∃ u, e = .returned u /\ ExAt (w.heap.size <= ·) w' (.zero) u /\ RdAt r ts ((s1.1, true)) w' /\ But r w w' := by
  have hrl := h.lt
  have H := Lib.hid h
  have H0 := Lib.hid (H.out.alloc (.cells #[.int .i64 0, .string ⟨#[]⟩, .int .i64 0, .int .i64 0, .string ⟨#[]⟩, .slice none 0 0, .slice none 0 0] 55))
  have HR0 := Lib.hid (Bk.new w 55 #[.int .i64 0, .string ⟨#[]⟩, .int .i64 0, .int .i64 0, .string ⟨#[]⟩, .slice none 0 0, .slice none 0 0])
  obtain ⟨a, ha, hm, hs, c1, f1, c2, f2, -, -, -⟩ := H0.out.parts
  rw [hf] at c2
  clear c1 f1 hs ha hm
  have T := Lib.hid (token134 mixed r ts s 0 _ (by decide) H0.out)
  unfold tkV at T
  rw [htk] at T
  have hsz : tt.size <= 9223372036854775807 := hsz
  have G := Lib.hid (fun w h => isSign218 mixed r ts s 0 sAmp w (by decide) h)
  rw [hg] at G
  have he1 : ByteArray.empty.toList = [] := by decide +kernel
  have he2 : ByteArray.empty.toList.isEmpty = true := by decide +kernel
  clear h hg
  go_enter Tryz.func572, Tryz.ntmps572
  go_wp2_with (first
    | (go_at_call 134; refine T.out.mono ?_; clear T; rintro e w1 ⟨rfl, hb1⟩; have H1 := Lib.hid ((H0.out.keep hb1).alloc (.cells #[.int .i64 2, .int .i64 0, .string tt] 223)); have HB1 := Lib.hid ((But.of_below (b := r) hb1).alloc (.cells #[.int .i64 2, .int .i64 0, .string tt] 223)); have HR1 := Lib.hid ((HR0.out.keep hb1).alloc (.cells #[.int .i64 2, .int .i64 0, .string tt] 223)); have HT1 := Lib.hid (Bk.new w1 223 #[.int .i64 2, .int .i64 0, .string tt]); obtain ⟨y0, y1, y2⟩ := Bk3 HT1.out; have hwr : w1.heap.size ≠ r := (by have := (H0.out.keep hb1).lt; omega); clear hb1)
    | (go_at_call 218; refine (G.out _ H1.out).mono ?_; clear G; rintro e wq ⟨rfl, hbq⟩; have H1q := Lib.hid (H1.out.keep hbq); have HBq := Lib.hid (But.of_below (b := r) hbq); have HRq := Lib.hid (HR1.out.keep hbq); clear hbq)
    | (go_at_call 294; have STR : StrsAt (· ≠ r) (wq.alloc (.cells #[.string ⟨#[46, 84, 46]⟩, .string ⟨#[46, 70, 46]⟩, .string ⟨#[46, 78, 85, 76, 76, 46]⟩, .string ⟨#[40]⟩, .string ⟨#[123]⟩, .string ⟨#[64]⟩] 9)) (.slice (some ⟨wq.heap.size, 0, none⟩) 6 6) prims := (by have h0 := strs_lit (r := r) (w := wq) prims (by decide) (by decide) H1q.out.lt 6; exact h0); have SG := sign294 mixed r ts s prims _ _ (H1q.out.alloc (.cells #[.string ⟨#[46, 84, 46]⟩, .string ⟨#[46, 70, 46]⟩, .string ⟨#[46, 78, 85, 76, 76, 46]⟩, .string ⟨#[40]⟩, .string ⟨#[123]⟩, .string ⟨#[64]⟩] 9)) STR; rw [hq] at SG; refine SG.mono ?_; clear SG STR; rintro e w2 ⟨rfl, h2, hb2⟩; have H2 := Lib.hid h2; have HB2 := Lib.hid hb2; have HR2 := Lib.hid ((HRq.out.alloc (.cells #[.string ⟨#[46, 84, 46]⟩, .string ⟨#[46, 70, 46]⟩, .string ⟨#[46, 78, 85, 76, 76, 46]⟩, .string ⟨#[40]⟩, .string ⟨#[123]⟩, .string ⟨#[64]⟩] 9)).but hb2 (Nat.ne_of_gt hrl)); clear h2 hb2; skip)
    | (go_at_call 135; refine (wrong135 r ts s1 _ H2.out).mono ?_; rintro e w3 ⟨rfl, h3, hb3⟩; have H3 := Lib.hid h3; have HB3 := Lib.hid hb3; have HR3 := Lib.hid (HR2.out.but hb3 (Nat.ne_of_gt hrl)); clear h3 hb3; have HRX := Lib.hid (HR3.out); obtain ⟨r0, r1, r2, r3, r4, r5, r6⟩ := Bk7 HRX.out; have f0 := HRX.out.frozen 0; have f1 := HRX.out.frozen 1; have f2 := HRX.out.frozen 2; have f3 := HRX.out.frozen 3; have f4 := HRX.out.frozen 4; have f5 := HRX.out.frozen 5; have f6 := HRX.out.frozen 6))
  have sz1 := HB1.out.size
  have szq := HBq.out.size
  have sz2 := HB2.out.size
  simp at sz1 szq sz2
  clear y0 y1 y2
  have HR7 := HRX.out.set7 (.int .i64 0) (.string ⟨#[]⟩) (.int .i64 0) (.int .i64 0) (.string ⟨#[]⟩) (.slice none 0 0) (.slice none 0 0)
  obtain ⟨q0, q1, q2, q3, q4, q5, q6⟩ := Bk7 HR7
  clear r0 r1 r2 r3 r4 r5 r6 HR7
  unfold wset7 at q0 q1 q2 q3 q4 q5 q6
  refine bodyPost_ret (by simp [results, Tryz.results572, go_sem, q0, q1, q2, q3, q4, q5, q6]; try rfl) rfl ?_
  exact ⟨_, rfl, ex_mk (v := vd0) (by decide) (by show ByteArray.empty.size <= mx; decide) (strs_nil _ _) (exs_nil _ _), H3.out.set7 hrl _ _ _ _ _ _ _, (((((((But.refl r w).alloc _).trans HB1.out).trans HBq.out).alloc _).trans HB2.out).trans HB3.out).set7 (Nat.le_refl _) _ _ _ _ _ _ _⟩
theorem tok_sz {r : Nat} {ts : List Tk} {s : St} {w : World} (h : RdAt r ts s w) (k : Nat) : (tok s k).t.size <= mx := by
  obtain ⟨a, lv, h1, h2, h3, h4⟩ := h
  by_cases hlt : a + k < ts.length
  · rw [tok_drop h2 hlt]; exact h4.2.1 _ (List.getElem_mem hlt)
  · rw [tok_none h2 hlt]; decide
theorem prim572 (mixed : Tryz.prog.follows .mixedOrders = true) (f : Nat) (hN : RE 611 pNamed f) (hM : RE 612 pMacro f) (hE : RE 72 pExpr f) (hB : RE 614 pBraces f) : RE 572 pPrim (f + 1) := by
  intro r ts s y s' w hp h
  unfold pPrim at hp
  have hsz := tok_sz h 0
  rcases htk : tok s 0 with ⟨tk, tt⟩
  rw [htk] at hp hsz
  have hsz : tt.size <= mx := hsz
  simp only at hp
  by_cases hf : s.2 = true
  · rw [if_pos hf] at hp; cases hp
    exact prim572_1 mixed r ts _ w h hf
  rw [if_neg hf] at hp
  have hf : s.2 = false := by simpa using hf
  by_cases h1 : tk = 1
  · rw [if_pos h1] at hp; cases hp; subst h1
    exact prim572_2 mixed r ts s w h tt hf htk hsz
  rw [if_neg h1] at hp
  by_cases h2 : tk = 2 /\ tt.size <= 2048
  · rw [if_pos (by simp [h2.1, h2.2])] at hp; cases hp
    obtain ⟨h2a, h2b⟩ := h2
    subst h2a
    exact prim572_3 mixed r ts s w h tt hf htk hsz h2b
  rw [if_neg (by simpa using h2)] at hp
  by_cases h3 : tk = 3
  · rw [if_pos h3] at hp; cases hp; subst h3
    exact prim572_4 mixed r ts s w h tt hf htk hsz
  rw [if_neg h3] at hp
  by_cases h0 : tk = 0
  · rw [if_pos h0] at hp; subst h0
    exact prim572_5 mixed r ts s w h tt hf htk hsz y s' (fun w h => hN r ts s y s' w hp h)
  rw [if_neg h0] at hp
  cases hg : isSg s 0 sAmp with
  | true =>
    rw [hg, if_pos rfl] at hp
    exact prim572_6 mixed r ts s w h tk tt hf htk hsz hg y s' (fun w h => hM r ts s y s' w hp h)
  | false =>
    rw [hg, if_neg (by decide)] at hp
    rcases hq : sgn prims s with ⟨so, s1⟩
    rw [hq] at hp
    by_cases h22 : tk = 2
    · have hbig : 2048 < tt.size := by
        rcases Nat.lt_or_ge 2048 tt.size with h | h
        · exact h
        · exact absurd ⟨h22, h⟩ h2
      subst h22
      cases so with
      | none => cases hp; exact prim572_7y mixed r ts s w h tt hf htk hsz hbig hg s1 hq
      | some c =>
        exfalso
        have : ∀ (l : List ByteArray), (sgn l s).1 = none := by
          intro l
          induction l with
          | nil => rfl
          | cons a l ih =>
            unfold sgn
            rw [if_neg]
            · exact ih
            · unfold take isSg; rw [htk]; simp
        have h5 := this prims
        rw [hq] at h5; cases h5
    · cases so with
      | none => cases hp; exact prim572_7x mixed r ts s w h tk tt hf htk hsz h0 h1 h22 h3 hg s1 hq
      | some c =>
        have hc := sgn_memR _ _ _ _ hq
        simp only [prims, List.mem_cons, List.not_mem_nil, or_false] at hc
        rcases hc with rfl | rfl | rfl | rfl | rfl | rfl
        · have hp : some (Ex.cst ⟨1, 1, ByteArray.empty⟩, s1) = some (y, s') := by simpa using hp
          cases hp; exact prim572_7t mixed r ts s w h tk tt hf htk hsz h0 h1 h22 h3 hg _ hq
        · have hp : some (Ex.cst ⟨1, 0, ByteArray.empty⟩, s1) = some (y, s') := by simpa [sTrue, sFalse] using hp
          cases hp; exact prim572_7f mixed r ts s w h tk tt hf htk hsz h0 h1 h22 h3 hg _ hq
        · have hp : some (Ex.zero, s1) = some (y, s') := by simpa [sTrue, sFalse, sNull] using hp
          cases hp; exact prim572_7n mixed r ts s w h tk tt hf htk hsz h0 h1 h22 h3 hg _ hq
        · have hp : ((pExpr f s1).bind fun r => some (r.1, want sRp r.2)) = some (y, s') := by simpa [sTrue, sFalse, sNull, sLp] using hp
          obtain ⟨⟨x, s2⟩, h5, h6⟩ := Option.bind_eq_some_iff.1 hp
          cases h6
          exact prim572_7p mixed r ts s w h tk tt hf htk hsz h0 h1 h22 h3 hg _ hq x s2 (fun w h => hE r ts _ x s2 w h5 h)
        · have hp : pBraces f s1 = some (y, s') := by simpa [sTrue, sFalse, sNull, sLp, sLc] using hp
          exact prim572_7c mixed r ts s w h tk tt hf htk hsz h0 h1 h22 h3 hg _ hq y s' (fun w h => hB r ts _ y s' w hp h)
        · have hp : some (Ex.mk 10 (rname s1).1 vd0 [] [], (rname s1).2) = some (y, s') := by simpa [sTrue, sFalse, sNull, sLp, sLc, sAt] using hp
          cases hp; exact prim572_7a mixed r ts s w h tk tt hf htk hsz h0 h1 h22 h3 hg _ hq
structure RA (f : Nat) : Prop where
  ex : RE 72 pExpr f
  an : RE 131 pAnd f
  no : RE 217 pNot f
  su : RE 295 pSum f
  pr : RE 371 pProd f
  po : RE 432 pPow f
  un : RE 518 pUn f
  pm : RE 572 pPrim f
  ma : RE 612 pMacro f
  na : RE 611 pNamed f
  cl : RC f
  li : RLs 630 pList f
  br : RE 614 pBraces f
theorem readA (mixed : Tryz.prog.follows .mixedOrders = true) : ∀ f, RA f := by
  intro f
  induction f using Nat.strongRecOn with
  | ind f ih =>
    cases f with
    | zero =>
      constructor <;> intro r ts <;> intros <;> rename_i h _ <;> first
        | (simp [pExpr] at h; done) | (simp [pAnd] at h; done) | (simp [pNot] at h; done) | (simp [pSum] at h; done) | (simp [pProd] at h; done) | (simp [pPow] at h; done) | (simp [pUn] at h; done) | (simp [pPrim] at h; done) | (simp [pMacro] at h; done) | (simp [pNamed] at h; done) | (simp [pClosed] at h; done) | (simp [pList] at h; done) | (simp [pBraces] at h; done)
    | succ f =>
      have I := ih f (Nat.lt_succ_self f)
      have J : ∀ g, g <= f -> RA g := fun g hg => ih g (Nat.lt_succ_of_le hg)
      exact ⟨expr72 mixed f (fun g hg => (J g hg).an), and131 mixed f (fun g hg => (J g hg).no), not217 mixed f I.no I.su, sum295 mixed f (fun g hg => (J g hg).pr), prod371 mixed f (fun g hg => (J g hg).po), pow432 mixed f I.un I.po,
        unary518 mixed f I.un I.pm (fun g hg => (J g hg).ex), prim572 mixed f I.na I.ma I.ex I.br, macro612 mixed f I.ex, named611 mixed f I.ex I.cl, closed628 mixed f I.li, list630 mixed f (fun g hg => (J g hg).ex), braces614 mixed f I.ex I.li⟩
theorem list_eq_take {p q : List ByteArray} (hl : p.length = q.length) (k : Nat) (h : k < p.length) (ht : p.take k = q.take k) (hk : p[k] = q[k]'(by omega)) : p.take (k + 1) = q.take (k + 1) := by
  rw [List.take_add_one, List.take_add_one, ht, List.getElem?_eq_getElem h, List.getElem?_eq_getElem (show k < q.length by omega), hk]
theorem sameTexts152 (mixed : Tryz.prog.follows .mixedOrders = true) (p q : List ByteArray) (u v : Value) (w : World) (hp : StrsAt allN w u p) (hq : StrsAt allN w v q) :
    Calls Tryz.prog 152 #[u, v] w fun e w' => e = .returned (.bool (decide (p = q))) /\ Below w.heap.size w w' := by
  obtain ⟨a, c, rfl⟩ := hp.shape
  obtain ⟨a', c', rfl⟩ := hq.shape
  have hl1 : p.length <= 9223372036854775807 := hp.1
  have hl2 : q.length <= 9223372036854775807 := hq.1
  have HP := Lib.hid hp
  have HQ := Lib.hid hq
  clear hp hq
  by_cases hl : p.length = q.length
  · have HL := Lib.hid hl
    have hli : (p.length : Int) = (q.length : Int) := by omega
    generalize hpl : p.length = n at *
    have hpl2 := Lib.hid hpl
    have HQL := Lib.hid hl.symm
    obtain rfl : q.length = n := hl.symm
    go_enter Tryz.func152, Tryz.ntmps152
    go_wp2
    go_loopg [5] q.length (fun g s5 wr => ∃ k : Nat, k <= q.length /\ q.length - k <= g /\ s5 = .int .i64 k /\ p.take k = q.take k /\ Below w.heap.size w wr)
    case atStart => exact ⟨0, Nat.zero_le _, by omega, rfl, rfl, Below.refl _ _⟩
    case round =>
      obtain ⟨k, hk, hg, rfl, hall, hbel⟩ := hrel
      have HB := Lib.hid hbel
      replace hall := Lib.hid hall
      by_cases hlt : k < q.length
      · have hlp : k < p.length := by omega
        obtain ⟨b, o, rfl, -, hbl, hc, hz⟩ := StrsAt.elem (by rw [hpl2.out]; exact HP.out) hlp
        obtain ⟨b', o', rfl, -, hbl', hc', hz'⟩ := HQ.out.elem hlt
        rw [<- (bcell hbel).1 _ _ hbl] at hc
        rw [<- (bcell hbel).1 _ _ hbl'] at hc'
        clear hbel
        have HS := Lib.hid (list_eq_take hpl2.out k hlp hall.out)
        have HNE : Hid (p[k] ≠ q[k] -> decide (p = q) = false) := Lib.hid (fun h => decide_eq_false (fun e => h (by subst e; rfl)))
        clear hz hz'
        generalize p[k] = s1 at *
        generalize q[k] = s2 at *
        by_cases he : s1 = s2
        · have hE : (s1.toList == s2.toList) = true := by rw [bytes_beq]; simp [he]
          have hN : (s1.toList != s2.toList) = false := by simp [bne, hE]
          have HE := Lib.hid he
          clear he
          go_wp2_with fail
          go_region_o
          go_wp2
          go_roundg (q.length - (k + 1))
          case measure => omega
          case rel => exact ⟨k + 1, by omega, by omega, by go_num, HS.out HE.out, HB.out.drew⟩
        · have hE : (s1.toList == s2.toList) = false := by rw [bytes_beq]; simp [he]
          have hN : (s1.toList != s2.toList) = true := by simp [bne, hE]
          have HE := Lib.hid he
          clear he
          go_wp2_with fail
          go_region_o
          go_wp2
          go_ret
          exact ⟨ret_bool (HNE.out HE.out).symm, HB.out.drew⟩
      · have hkl : k = q.length := by omega
        subst hkl
        have HF : Hid (decide (p = q) = true) := Lib.hid (decide_eq_true (by have := hall.out; rw [List.take_length] at this; rw [<- this, <- hpl2.out, List.take_length]))
        go_wp2
        go_ret
        exact ⟨ret_bool HF.out.symm, HB.out⟩
  · have hli : ¬ ((p.length : Int) = (q.length : Int)) := by omega
    have HF : Hid (decide (p = q) = false) := Lib.hid (decide_eq_false (fun e => hl (by rw [e])))
    go_enter Tryz.func152, Tryz.ntmps152
    go_wp2
    go_ret
    exact ⟨ret_bool HF.out.symm, Below.refl _ _⟩
theorem sameExs_take : ∀ (l m : List Ex) (hl : l.length = m.length) (k : Nat) (h : k < l.length), sameExs (l.take k) (m.take k) = true -> sameEx l[k] (m[k]'(by omega)) = true -> sameExs (l.take (k + 1)) (m.take (k + 1)) = true
  | x :: r, y :: q, hl, 0, h, _, hk => by simpa [sameExs] using hk
  | x :: r, y :: q, hl, k + 1, h, ht, hk => by
    simp only [List.take_succ_cons, sameExs, Bool.and_eq_true] at ht ⊢
    exact ⟨ht.1, sameExs_take r q (by simpa using hl) k (by simpa using h) ht.2 (by simpa using hk)⟩
theorem sameExs_not : ∀ (l m : List Ex) (hl : l.length = m.length) (k : Nat) (h : k < l.length), sameEx l[k] (m[k]'(by omega)) = false -> sameExs l m = false
  | x :: r, y :: q, hl, 0, h, hk => by simp only [sameExs]; rw [show sameEx x y = false from hk]; rfl
  | x :: r, y :: q, hl, k + 1, h, hk => by
    simp only [sameExs]
    rw [sameExs_not r q (by simpa using hl) k (by simpa using h) (by simpa using hk), Bool.and_false]
theorem sameExs_len : ∀ (l m : List Ex), l.length ≠ m.length -> sameExs l m = false
  | [], [], h => absurd rfl h
  | [], y :: q, h => by simp [sameExs]
  | x :: r, [], h => by simp [sameExs]
  | x :: r, y :: q, h => by
    simp only [sameExs]
    rw [sameExs_len r q (by simpa using h), Bool.and_false]
def SameW (n : Nat) : Prop := ∀ (x y : Ex) (u v : Value) (w : World), wt x <= n -> ExAt allN w x u -> ExAt allN w y v -> Calls Tryz.prog 80 #[u, v] w fun e w' => e = .returned (.bool (sameEx x y)) /\ Below w.heap.size w w'
theorem sameExprs153 (mixed : Tryz.prog.follows .mixedOrders = true) (n : Nat) (ih : SameW n) (l m : List Ex) (u v : Value) (w : World) (hn : wtL l <= n) (hp : ExsAt allN w l u) (hq : ExsAt allN w m v) :
    Calls Tryz.prog 153 #[u, v] w fun e w' => e = .returned (.bool (sameExs l m)) /\ Below w.heap.size w w' := by
  obtain ⟨a, c, rfl⟩ := hp.shape
  obtain ⟨a', c', rfl⟩ := hq.shape
  have hl1 : l.length <= 9223372036854775807 := hp.1
  have hl2 : m.length <= 9223372036854775807 := hq.1
  have HP := Lib.hid hp
  have HQ := Lib.hid hq
  clear hp hq
  by_cases hl : l.length = m.length
  · have HTK := Lib.hid (sameExs_take l m)
    have HNT := Lib.hid (sameExs_not l m)
    rw [hl] at HP ⊢
    have hpl2 := Lib.hid hl
    clear hl hl1
    go_enter Tryz.func153, Tryz.ntmps153
    go_wp2
    go_loopg [5] m.length (fun g s5 wr => ∃ k : Nat, k <= m.length /\ m.length - k <= g /\ s5 = .int .i64 k /\ sameExs (l.take k) (m.take k) = true /\ Below w.heap.size w wr)
    case atStart => exact ⟨0, Nat.zero_le _, by omega, rfl, by simp [sameExs], Below.refl _ _⟩
    case round =>
      obtain ⟨k, hk, hg, rfl, hall, hbel⟩ := hrel
      have HB := Lib.hid hbel
      replace hall := Lib.hid hall
      by_cases hlt : k < m.length
      · have hlp : k < l.length := by rw [hpl2.out]; exact hlt
        obtain ⟨b, o, yo, ys, yk, yn, yt, yp, yl, pa', pc', la', lc', rfl, _, hblt, hy, ⟨k0, k1, k2, k3, k4, k5, k6⟩, hx⟩ := ExsAt.elem (show ExsAt allN w l (.slice a l.length c) by rw [hpl2.out]; exact HP.out) hlp
        obtain ⟨b', o', zo, zs, zk, zn, zt, zp, zl, pa2, pc2, la2, lc2, rfl, _, hblt2, hz, ⟨j0, j1, j2, j3, j4, j5, j6⟩, hx2⟩ := HQ.out.elem hlt
        rw [<- (bcell hbel).1 _ _ hblt] at k0 k1 k2 k3 k4 k5 k6
        rw [<- (bcell hbel).1 _ _ hblt2] at j0 j1 j2 j3 j4 j5 j6
        have HX := Lib.hid (hx.below hbel)
        have HX2 := Lib.hid (hx2.below hbel)
        have hT := HTK.out hpl2.out k hlp hall.out
        have hN := HNT.out hpl2.out k hlp
        have hw1 : wt l[k] <= wtL l := wt_mem (List.getElem_mem hlp)
        rw [hy, hz] at hT hN
        rw [hy] at hw1
        have HT := Lib.hid hT
        have HN := Lib.hid hN
        have I := Lib.hid (fun u v w (h : ExAt allN w (.mk yo ys ⟨yk, yn, yt⟩ yp yl) u) (h2 : ExAt allN w (.mk zo zs ⟨zk, zn, zt⟩ zp zl) v) => ih _ _ u v w (by omega) h h2)
        clear hx hy hx2 hz hT hN hw1 hbel hlp
        generalize sameEx (.mk yo ys ⟨yk, yn, yt⟩ yp yl) (.mk zo zs ⟨zk, zn, zt⟩ zp zl) = bx at *
        cases bx with
        | true =>
          go_wp2_with fail
          go_region_with (first | (go_at_call 80; refine (I.out _ _ _ (ex_drew HX.out) (ex_drew HX2.out)).mono ?_; rintro e w' ⟨rfl, hb⟩))
          all_goals
            go_wp2
            go_roundg (m.length - (k + 1))
            case measure => omega
            case rel => exact ⟨k + 1, by omega, by omega, by go_num, HT.out (by first | rfl | trivial), HB.out.trans ((Below.refl _ _).drew.trans hb |>.mono HB.out.size)⟩
        | false =>
          go_wp2_with fail
          go_region_with (first | (go_at_call 80; refine (I.out _ _ _ (ex_drew HX.out) (ex_drew HX2.out)).mono ?_; rintro e w' ⟨rfl, hb⟩))
          all_goals
            go_wp2
            go_ret
            exact ⟨ret_bool (HN.out (by first | rfl | trivial)).symm, HB.out.trans ((Below.refl _ _).drew.trans hb |>.mono HB.out.size)⟩
      · have hkl : k = m.length := by omega
        subst hkl
        have HF : Hid (sameExs l m = true) := Lib.hid (by have := hall.out; rwa [List.take_length, <- hpl2.out, List.take_length] at this)
        go_wp2
        go_ret
        exact ⟨ret_bool HF.out.symm, HB.out⟩
  · have hli : ¬ ((l.length : Int) = (m.length : Int)) := by omega
    have HF := Lib.hid (sameExs_len l m hl)
    go_enter Tryz.func153, Tryz.ntmps153
    go_wp2
    go_ret
    exact ⟨ret_bool HF.out.symm, Below.refl _ _⟩
theorem str_eq {a b : ByteArray} : a.toList = b.toList ↔ a = b := by
  rw [Lib.toList_data, Lib.toList_data]
  constructor
  · intro h; obtain ⟨⟨l⟩⟩ := a; obtain ⟨⟨m⟩⟩ := b; have : l = m := h; rw [this]
  · intro h; rw [h]
theorem sameExpr80 (mixed : Tryz.prog.follows .mixedOrders = true) (n : Nat) : SameW n := by
  induction n with
  | zero => intro x y u v w h; have := wt_pos x; omega
  | succ n ih =>
    intro x y u v w hn hx hy
    obtain ⟨op, s, ⟨vk, vn, vs⟩, p, l⟩ := x
    obtain ⟨op', s', ⟨vk', vn', vs'⟩, p', l'⟩ := y
    obtain ⟨pa, pc, la, lc, rfl, -, -, h3, h4⟩ := hx.parts
    obtain ⟨pa', pc', la', lc', rfl, -, -, h3', h4'⟩ := hy.parts
    by_cases ho : op = op'
    · subst ho
      by_cases hk' : vk = vk'
      · subst hk'
        by_cases hn' : vn = vn'
        · subst hn'
          have hpl : p.length <= 9223372036854775807 := h3.1
          have hll : l.length <= 9223372036854775807 := h4.1
          have hpl' : p'.length <= 9223372036854775807 := h3'.1
          have hll' : l'.length <= 9223372036854775807 := h4'.1
          have hwl : wtL l <= n := by simp only [wt] at hn; omega
          have TX := Lib.hid (fun w' (hb : Below w.heap.size w w') => sameTexts152 mixed p p' _ _ w' (h3.below hb) (h3'.below hb))
          have TE := Lib.hid (fun w' (hb : Below w.heap.size w w') => sameExprs153 mixed n ih l l' _ _ w' hwl (h4.below hb) (h4'.below hb))
          have HE : Hid (sameEx (.mk op s ⟨vk, vn, vs⟩ p l) (.mk op s' ⟨vk, vn, vs'⟩ p' l') = (decide (op = op) && decide (s = s') && decide ((⟨vk, vn, vs⟩ : Vl) = ⟨vk, vn, vs'⟩) && decide (p = p') && sameExs l l')) := Lib.hid (by simp only [sameEx])
          clear ih h3 h4 h3' h4' hx hy hn hwl
          have HJ : Hid (Bk ((w.alloc (.cells #[.int .i64 op, .string s, .int .i64 vk, .int .i64 vn, .string vs, .slice pa p.length pc, .slice la l.length lc] 55)).alloc (.cells #[.int .i64 op, .string s', .int .i64 vk, .int .i64 vn, .string vs', .slice pa' p'.length pc', .slice la' l'.length lc'] 55)) (w.heap.size + 1) 55 #[.int .i64 op, .string s', .int .i64 vk, .int .i64 vn, .string vs', .slice pa' p'.length pc', .slice la' l'.length lc']) := Lib.hid (by
            have h0 := Bk.new (w.alloc (.cells #[.int .i64 op, .string s, .int .i64 vk, .int .i64 vn, .string vs, .slice pa p.length pc, .slice la l.length lc] 55)) 55 #[.int .i64 op, .string s', .int .i64 vk, .int .i64 vn, .string vs', .slice pa' p'.length pc', .slice la' l'.length lc']
            rw [show (w.alloc (.cells #[.int .i64 op, .string s, .int .i64 vk, .int .i64 vn, .string vs, .slice pa p.length pc, .slice la l.length lc] 55)).heap.size = w.heap.size + 1 by simp] at h0
            exact h0)
          generalize sameExs l l' = bl at *
          generalize decide (p = p') = bp at *
          go_enter Tryz.func80, Tryz.ntmps80
          go_wp2_with (first
            | (go_at_call 152; refine (TX.out _ (below_aa _ _ _)).mono ?_; rintro e w1 ⟨rfl, hb1⟩; have hk := Lib.hid (Bk.keep (Bk.alloc (Bk.new _ _ _) _) hb1); have hj := Lib.hid (HJ.out.keep hb1); obtain ⟨j0, j1, j2, j3, j4, j5, j6⟩ := Bk7 hj.out; obtain ⟨k0, k1, k2, k3, k4, k5, k6⟩ := Bk7 hk.out; replace hb1 := (below_aa _ _ _).trans (hb1.mono (by simp; omega)))
            | (go_at_call 153; refine (TE.out _ hb1).mono ?_; rintro e w2 ⟨rfl, hb2⟩))
          all_goals clear TX TE HJ
          all_goals first
            | (go_ret
               refine ⟨ret_bool ?_, by first | exact hb1.trans (hb2.mono hb1.size) | exact hb1 | exact below_aa _ _ _⟩
               rw [HE.out]
               try clear hb2
               try clear hb1 hk hj k0 k1 k2 k3 k4 k5 k6 j0 j1 j2 j3 j4 j5 j6
               clear HE hpl hll hpl' hll'
               first
                 | (simp_all [str_eq]; done)
                 | trace_state)
            | trace_state
        ·
          have hpl : p.length <= 9223372036854775807 := h3.1
          have hll : l.length <= 9223372036854775807 := h4.1
          have hpl' : p'.length <= 9223372036854775807 := h3'.1
          have hll' : l'.length <= 9223372036854775807 := h4'.1
          have hwl : wtL l <= n := by simp only [wt] at hn; omega
          have TX := Lib.hid (fun w' (hb : Below w.heap.size w w') => sameTexts152 mixed p p' _ _ w' (h3.below hb) (h3'.below hb))
          have TE := Lib.hid (fun w' (hb : Below w.heap.size w w') => sameExprs153 mixed n ih l l' _ _ w' hwl (h4.below hb) (h4'.below hb))
          have HE : Hid (sameEx (.mk op s ⟨vk, vn, vs⟩ p l) (.mk op s' ⟨vk, vn', vs'⟩ p' l') = (decide (op = op) && decide (s = s') && decide ((⟨vk, vn, vs⟩ : Vl) = ⟨vk, vn', vs'⟩) && decide (p = p') && sameExs l l')) := Lib.hid (by simp only [sameEx])
          clear ih h3 h4 h3' h4' hx hy hn hwl
          have HJ : Hid (Bk ((w.alloc (.cells #[.int .i64 op, .string s, .int .i64 vk, .int .i64 vn, .string vs, .slice pa p.length pc, .slice la l.length lc] 55)).alloc (.cells #[.int .i64 op, .string s', .int .i64 vk, .int .i64 vn', .string vs', .slice pa' p'.length pc', .slice la' l'.length lc'] 55)) (w.heap.size + 1) 55 #[.int .i64 op, .string s', .int .i64 vk, .int .i64 vn', .string vs', .slice pa' p'.length pc', .slice la' l'.length lc']) := Lib.hid (by
            have h0 := Bk.new (w.alloc (.cells #[.int .i64 op, .string s, .int .i64 vk, .int .i64 vn, .string vs, .slice pa p.length pc, .slice la l.length lc] 55)) 55 #[.int .i64 op, .string s', .int .i64 vk, .int .i64 vn', .string vs', .slice pa' p'.length pc', .slice la' l'.length lc']
            rw [show (w.alloc (.cells #[.int .i64 op, .string s, .int .i64 vk, .int .i64 vn, .string vs, .slice pa p.length pc, .slice la l.length lc] 55)).heap.size = w.heap.size + 1 by simp] at h0
            exact h0)
          clear TX TE HJ
          generalize sameExs l l' = bl at *
          generalize decide (p = p') = bp at *
          go_enter Tryz.func80, Tryz.ntmps80
          go_wp2
          all_goals first
            | (go_ret
               refine ⟨ret_bool ?_, by first | exact hb1.trans (hb2.mono hb1.size) | exact hb1 | exact below_aa _ _ _⟩
               rw [HE.out]
               try clear hb2
               try clear hb1 hk hj k0 k1 k2 k3 k4 k5 k6 j0 j1 j2 j3 j4 j5 j6
               clear HE hpl hll hpl' hll'
               first
                 | (simp_all [str_eq]; done)
                 | trace_state)
            | trace_state
      ·
        have hpl : p.length <= 9223372036854775807 := h3.1
        have hll : l.length <= 9223372036854775807 := h4.1
        have hpl' : p'.length <= 9223372036854775807 := h3'.1
        have hll' : l'.length <= 9223372036854775807 := h4'.1
        have hwl : wtL l <= n := by simp only [wt] at hn; omega
        have TX := Lib.hid (fun w' (hb : Below w.heap.size w w') => sameTexts152 mixed p p' _ _ w' (h3.below hb) (h3'.below hb))
        have TE := Lib.hid (fun w' (hb : Below w.heap.size w w') => sameExprs153 mixed n ih l l' _ _ w' hwl (h4.below hb) (h4'.below hb))
        have HE : Hid (sameEx (.mk op s ⟨vk, vn, vs⟩ p l) (.mk op s' ⟨vk', vn', vs'⟩ p' l') = (decide (op = op) && decide (s = s') && decide ((⟨vk, vn, vs⟩ : Vl) = ⟨vk', vn', vs'⟩) && decide (p = p') && sameExs l l')) := Lib.hid (by simp only [sameEx])
        clear ih h3 h4 h3' h4' hx hy hn hwl
        have HJ : Hid (Bk ((w.alloc (.cells #[.int .i64 op, .string s, .int .i64 vk, .int .i64 vn, .string vs, .slice pa p.length pc, .slice la l.length lc] 55)).alloc (.cells #[.int .i64 op, .string s', .int .i64 vk', .int .i64 vn', .string vs', .slice pa' p'.length pc', .slice la' l'.length lc'] 55)) (w.heap.size + 1) 55 #[.int .i64 op, .string s', .int .i64 vk', .int .i64 vn', .string vs', .slice pa' p'.length pc', .slice la' l'.length lc']) := Lib.hid (by
          have h0 := Bk.new (w.alloc (.cells #[.int .i64 op, .string s, .int .i64 vk, .int .i64 vn, .string vs, .slice pa p.length pc, .slice la l.length lc] 55)) 55 #[.int .i64 op, .string s', .int .i64 vk', .int .i64 vn', .string vs', .slice pa' p'.length pc', .slice la' l'.length lc']
          rw [show (w.alloc (.cells #[.int .i64 op, .string s, .int .i64 vk, .int .i64 vn, .string vs, .slice pa p.length pc, .slice la l.length lc] 55)).heap.size = w.heap.size + 1 by simp] at h0
          exact h0)
        clear TX TE HJ
        generalize sameExs l l' = bl at *
        generalize decide (p = p') = bp at *
        go_enter Tryz.func80, Tryz.ntmps80
        go_wp2
        all_goals first
          | (go_ret
             refine ⟨ret_bool ?_, by first | exact hb1.trans (hb2.mono hb1.size) | exact hb1 | exact below_aa _ _ _⟩
             rw [HE.out]
             try clear hb2
             try clear hb1 hk hj k0 k1 k2 k3 k4 k5 k6 j0 j1 j2 j3 j4 j5 j6
             clear HE hpl hll hpl' hll'
             first
               | (simp_all [str_eq]; done)
               | trace_state)
          | trace_state
    ·
      have hpl : p.length <= 9223372036854775807 := h3.1
      have hll : l.length <= 9223372036854775807 := h4.1
      have hpl' : p'.length <= 9223372036854775807 := h3'.1
      have hll' : l'.length <= 9223372036854775807 := h4'.1
      have hwl : wtL l <= n := by simp only [wt] at hn; omega
      have TX := Lib.hid (fun w' (hb : Below w.heap.size w w') => sameTexts152 mixed p p' _ _ w' (h3.below hb) (h3'.below hb))
      have TE := Lib.hid (fun w' (hb : Below w.heap.size w w') => sameExprs153 mixed n ih l l' _ _ w' hwl (h4.below hb) (h4'.below hb))
      have HE : Hid (sameEx (.mk op s ⟨vk, vn, vs⟩ p l) (.mk op' s' ⟨vk', vn', vs'⟩ p' l') = (decide (op = op') && decide (s = s') && decide ((⟨vk, vn, vs⟩ : Vl) = ⟨vk', vn', vs'⟩) && decide (p = p') && sameExs l l')) := Lib.hid (by simp only [sameEx])
      clear ih h3 h4 h3' h4' hx hy hn hwl
      have HJ : Hid (Bk ((w.alloc (.cells #[.int .i64 op, .string s, .int .i64 vk, .int .i64 vn, .string vs, .slice pa p.length pc, .slice la l.length lc] 55)).alloc (.cells #[.int .i64 op', .string s', .int .i64 vk', .int .i64 vn', .string vs', .slice pa' p'.length pc', .slice la' l'.length lc'] 55)) (w.heap.size + 1) 55 #[.int .i64 op', .string s', .int .i64 vk', .int .i64 vn', .string vs', .slice pa' p'.length pc', .slice la' l'.length lc']) := Lib.hid (by
        have h0 := Bk.new (w.alloc (.cells #[.int .i64 op, .string s, .int .i64 vk, .int .i64 vn, .string vs, .slice pa p.length pc, .slice la l.length lc] 55)) 55 #[.int .i64 op', .string s', .int .i64 vk', .int .i64 vn', .string vs', .slice pa' p'.length pc', .slice la' l'.length lc']
        rw [show (w.alloc (.cells #[.int .i64 op, .string s, .int .i64 vk, .int .i64 vn, .string vs, .slice pa p.length pc, .slice la l.length lc] 55)).heap.size = w.heap.size + 1 by simp] at h0
        exact h0)
      clear TX TE HJ
      generalize sameExs l l' = bl at *
      generalize decide (p = p') = bp at *
      go_enter Tryz.func80, Tryz.ntmps80
      go_wp2
      all_goals first
        | (go_ret
           refine ⟨ret_bool ?_, by first | exact hb1.trans (hb2.mono hb1.size) | exact hb1 | exact below_aa _ _ _⟩
           rw [HE.out]
           try clear hb2
           try clear hb1 hk hj k0 k1 k2 k3 k4 k5 k6 j0 j1 j2 j3 j4 j5 j6
           clear HE hpl hll hpl' hll'
           first
             | (simp_all [str_eq]; done)
             | trace_state)
        | trace_state
def CnAt (b : Nat) (n d : Int) (w : World) : Prop := Bk w b 150 #[.int .i64 n, .int .i64 d]
def lrg (n d : Int) : Bool := decide (400 < n) || decide (14 < d)
theorem Bk2 {w : World} {g T} {o0 o1 : Value} (h : Bk w g T #[o0, o1]) : w.cell? ⟨g, 0, none⟩ = some o0 /\ w.cell? ⟨g, 1, none⟩ = some o1 := by
  simp only [h.cell]; exact ⟨rfl, rfl⟩
theorem isLarge75 (b : Nat) (n d : Int) (w : World) (h : CnAt b n d w) :
    Calls Tryz.prog 75 #[.pointer (some ⟨b, 0, none⟩)] w fun e w' => e = .returned (.bool (lrg n d)) /\ w' = w := by
  obtain ⟨c0, c1⟩ := Bk2 h
  clear h
  go_enter Tryz.func75, Tryz.ntmps75
  go_wp2
  all_goals
    go_ret
    exact ⟨ret_bool (by unfold lrg; first | rfl | (rw [Bool.eq_iff_iff]; simp only [Bool.or_eq_true, decide_eq_true_eq, Bool.true_eq_false, Bool.false_eq_true, true_iff, false_iff, iff_true, iff_false]; omega)), rfl⟩
theorem at136 (b : Nat) (n d lv : Int) (w : World) (h : CnAt b n d w) (hn : 0 <= n /\ n <= 1000000000) (hd : 0 <= d /\ d <= 1000000000) (hl : 0 <= lv /\ lv <= 1000000000) :
    Calls Tryz.prog 136 #[.pointer (some ⟨b, 0, none⟩), .int .i64 lv] w fun e w' => e = .returned (.bool (!lrg (n + 1) (max d lv))) /\ CnAt b (n + 1) (max d lv) w' /\ But b w w' := by
  obtain ⟨c0, c1⟩ := Bk2 h
  have f0 := Bk.frozen h 0
  have f1 := Bk.frozen h 1
  have HK := Lib.hid h
  have h1 : Hid (CnAt b (n + 1) (max d lv) ((w.setCell ⟨b, 0, none⟩ (.int .i64 (n + 1))).setCell ⟨b, 1, none⟩ (.int .i64 (max d lv)))) := Lib.hid (by
    have := (Bk.set1 (Bk.set1 h 0 (.int .i64 (n + 1))) 1 (.int .i64 (max d lv)))
    simpa [CnAt] using this)
  have g1 : (w.setCell ⟨b, 0, none⟩ (.int .i64 (n + 1))).cell? ⟨b, 1, none⟩ = some (.int .i64 d) := by
    have := (Bk.set1 h 0 (.int .i64 (n + 1))).cell 1; simpa using this
  have IL := Lib.hid (isLarge75 b (n + 1) (max d lv) _ h1.out)
  clear h
  go_enter Tryz.func136, Tryz.ntmps136
  go_wp2_with (first | (go_at_call 75; refine IL.out.mono ?_; clear IL; rintro e w' ⟨rfl, hw⟩; obtain rfl := hw.symm))
  go_ret
  exact ⟨rfl, h1.out, (but_set b w 0 _).trans (but_set b _ 1 _)⟩
def ddk (d lv : Int) (l : List Ex) : Int := if l = [] then d else max d (lv - 1 + levelsL l)
theorem lrg_mono {n d n' d' : Int} (h : lrg n d = true) (h1 : n <= n') (h2 : d <= d') : lrg n' d' = true := by
  unfold lrg at *
  simp only [Bool.or_eq_true, decide_eq_true_eq] at *
  omega
def Tells (n d N D : Int) : Prop := lrg n d = lrg N D /\ (lrg n d = false -> n = N /\ d = D) /\ 0 <= n /\ n <= N /\ 0 <= d /\ d <= D
def CntW (m : Nat) : Prop := ∀ (l : List Ex) (v : Value) (lv : Int) (b : Nat) (n d : Int) (w : World), wtL l <= m -> ExsAt (· ≠ b) w l v -> CnAt b n d w -> 0 <= n -> n + wtL l <= 500000000 -> 0 <= d -> d <= 500000000 -> 1 <= lv -> lv + wtL l <= 500000000 ->
  Calls Tryz.prog 74 #[.pointer (some ⟨b, 0, none⟩), v, .int .i64 lv] w fun e w' => e = .returned (.tuple #[]) /\ ∃ n' d', CnAt b n' d' w' /\ But b w w' /\ Tells n' d' (n + nodesL l) (ddk d lv l)
theorem ddk_take (d lv : Int) (l : List Ex) (k : Nat) (h : k < l.length) (hlv : 1 <= lv) (hd : 0 <= d) : ddk d lv (l.take (k + 1)) = max (ddk d lv (l.take k)) (lv - 1 + levels l[k]) := by
  unfold ddk
  have h1 : l.take (k + 1) ≠ [] := by
    intro e
    have h2 : (l.take (k + 1)).length = 0 := by rw [e]; rfl
    rw [List.length_take] at h2
    omega
  rw [if_neg h1, levelsL_take l k h]
  by_cases hk : l.take k = []
  · rw [if_pos hk, hk]; simp [levelsL]
  · rw [if_neg hk]; omega
theorem levels_eq (op : Int) (s : ByteArray) (v : Vl) (p : List ByteArray) (l : List Ex) : levels (.mk op s v p l) = 1 + levelsL l := by simp only [levels]
theorem nodes_eq (op : Int) (s : ByteArray) (v : Vl) (p : List ByteArray) (l : List Ex) : nodes (.mk op s v p l) = 1 + nodesL l := by simp only [nodes]
theorem ddk_in (d lv : Int) (l : List Ex) : ddk (max d lv) (lv + 1) l = max d (lv - 1 + ((1 + levelsL l : Nat) : Int)) := by
  unfold ddk
  split
  · rename_i h; subst h; simp [levelsL]
  · omega
theorem wtL_takeS : ∀ (l : List Ex) (k : Nat) (h : k < l.length), wtL (l.take k) + wt l[k] <= wtL l
  | x :: r, 0, h => by simp [wtL]
  | x :: r, k + 1, h => by
    have := wtL_takeS r k (by simpa using h)
    simp only [List.take_succ_cons, wtL, List.getElem_cons_succ]; omega
theorem nodesL_take_le : ∀ (l : List Ex) (k : Nat), nodesL (l.take k) <= nodesL l
  | [], k => by simp
  | x :: r, 0 => by simp [nodesL]
  | x :: r, k + 1 => by simp only [List.take_succ_cons, nodesL]; have := nodesL_take_le r k; omega
theorem levelsL_take_le : ∀ (l : List Ex) (k : Nat), levelsL (l.take k) <= levelsL l
  | [], k => by simp
  | x :: r, 0 => by simp [levelsL]
  | x :: r, k + 1 => by simp only [List.take_succ_cons, levelsL]; have := levelsL_take_le r k; omega
theorem ddk_take_le (d lv : Int) (l : List Ex) (k : Nat) (h : k < l.length) : ddk d lv (l.take (k + 1)) <= ddk d lv l := by
  unfold ddk
  have h1 : l.take (k + 1) ≠ [] := by
    intro e
    have h2 : (l.take (k + 1)).length = 0 := by rw [e]; rfl
    rw [List.length_take] at h2
    omega
  have h2 : l ≠ [] := by intro e; rw [e] at h; simp at h
  rw [if_neg h1, if_neg h2]
  have := levelsL_take_le l (k + 1)
  omega
theorem exprs74 (m : Nat) : CntW m := by
  induction m with
  | zero =>
    intro l v lv b n d w hm hl hc h1 h2 h3 h4 h5 h6
    cases l with
    | cons x r => have := wt_pos x; simp only [wtL] at hm; omega
    | nil =>
      obtain ⟨a, c, rfl⟩ := hl.shape
      have HC := Lib.hid hc
      clear hl
      go_enter Tryz.func74, Tryz.ntmps74
      go_wp2
      go_loopg [6] 0 (fun g s6 wr => s6 = .int .i64 0 /\ wr = w)
      case atStart => exact ⟨rfl, rfl⟩
      case round =>
        obtain ⟨rfl, rfl⟩ := hrel
        go_wp2
        go_end0
        exact ⟨rfl, n, d, HC.out, But.refl _ _, by simp [nodesL, ddk, Tells]; omega⟩
  | succ m ih =>
    intro l v lv b n d w hm hl hc h1 h2 h3 h4 h5 h6
    obtain ⟨a, c, rfl⟩ := hl.shape
    have hlen : l.length <= 9223372036854775807 := hl.1
    have HL := Lib.hid hl
    have HC := Lib.hid hc
    have HI := Lib.hid ih
    clear hl hc ih
    go_enter Tryz.func74, Tryz.ntmps74
    go_wp2
    go_loopg [6] l.length (fun g s6 wr => ∃ (k : Nat) (n' d' : Int), k <= l.length /\ l.length - k <= g /\ s6 = .int .i64 k /\ CnAt b n' d' wr /\ But b w wr /\ Tells n' d' (n + nodesL (l.take k)) (ddk d lv (l.take k)))
    case atStart => exact ⟨0, n, d, Nat.zero_le _, by omega, rfl, HC.out, But.refl _ _, by simp [nodesL, ddk, Tells]; omega⟩
    case round =>
      obtain ⟨k, n', d', hk, hg, rfl, hcn, hb, ht⟩ := hrel
      have HB := Lib.hid hb
      have HT := Lib.hid ht
      by_cases hlt : k < l.length
      · obtain ⟨b', o, yo, ys, yk, yn, yt, yp, yl, pa', pc', la', lc', rfl, hN, hbl, hy, ⟨k0, k1, k2, k3, k4, k5, k6⟩, hx⟩ := HL.out.elem hlt
        have hx4 := hx.parts
        obtain ⟨_, _, la2, lc2, e, _, _, _, hyl⟩ := hx4
        simp only [Value.agg.injEq, Array.mk.injEq, List.cons.injEq, and_true] at e
        obtain ⟨-, -, -, -, -, -, e⟩ := e
        rw [<- e] at hyl
        have HYL := Lib.hid hyl
        have E1 := nodesL_take l k hlt
        have E2 := ddk_take d lv l k hlt h5 h3
        have E3 := nodesL_take_le l (k + 1)
        have E4 := ddk_take_le d lv l k hlt
        have E5 := nodesL_le l
        have E6 := levelsL_take_le l (k + 1)
        have E7 := levelsL_le l
        have E8 : ddk d lv l <= max d (lv - 1 + levelsL l) := by unfold ddk; split <;> omega
        have E9 := wtL_takeS l k hlt
        have E11 := nodesL_le (l.take k)
        rw [hy, nodes_eq] at E1
        rw [hy, levels_eq] at E2
        rw [hy] at E9
        have E10 : wtL yl + 1 <= wt (.mk yo ys ⟨yk, yn, yt⟩ yp yl) := by simp only [wt]; omega
        obtain ⟨t1, t2, t3, t4, t5, t6⟩ := ht
        have hl6 := levelsL_le yl
        have A := Lib.hid (at136 b n' d' lv wr hcn ⟨t3, by omega⟩ ⟨t5, by omega⟩ ⟨by omega, by omega⟩)
        have HMN := Lib.hid (fun h => lrg_mono (n := n') (d := d') (n' := n' + 1) (d' := max d' lv) h (by omega) (by omega))
        have HKK := Lib.hid (ddk_in d' lv yl)
        clear hx hy e hyl hcn
        cases hL : lrg (n' + 1) (max d' lv) with
        | true =>
          rw [hL] at A
          have HF : Hid (Tells (n' + 1) (max d' lv) (n + nodesL l) (ddk d lv l)) := Lib.hid (by
            refine ⟨?_, ?_, by omega, by omega, by omega, by omega⟩
            · rw [hL]; exact (lrg_mono hL (by omega) (by omega)).symm
            · intro h; rw [hL] at h; cases h)
          clear E1 E2 E3 E4 E5 E6 E7 E8 E9 E10
          go_wp2_with (first | (go_at_call 136; refine A.out.mono ?_; clear A; rintro e w1 ⟨rfl, hc1, hb1⟩))
          first
            | go_returns
            | go_ret2
            | refine bodyPost_ret (by simp [results, Tryz.results74]; try rfl) rfl ?_
          exact ⟨rfl, _, _, hc1, HB.out.trans hb1, HF.out⟩
        | false =>
          have hs : lrg n' d' = false := by
            cases h : lrg n' d' with
            | false => rfl
            | true => have := HMN.out h; rw [hL] at this; cases this
          obtain ⟨x1, x2⟩ := t2 hs
          rw [hL] at A
          have R := Lib.hid (fun w1 (h : ExsAt (· ≠ b) w1 yl (.slice la' yl.length lc')) hc => HI.out yl _ (lv + 1) b (n' + 1) (max d' lv) w1 (by omega) h hc (by omega) (by omega) (by omega) (by omega) (by omega) (by omega))
          have HQ1 : Hid (n' + 1 + nodesL yl = n + nodesL (l.take (k + 1))) := Lib.hid (by omega)
          have HQ2 : Hid (ddk (max d' lv) (lv + 1) yl = ddk d lv (l.take (k + 1))) := Lib.hid (by rw [HKK.out, E2, <- x2])
          have hll : yl.length <= 9223372036854775807 := HYL.out.1
          have c6 : wr.cell? ⟨b', o + k * 7 + 6, none⟩ = some (.slice la' yl.length lc') := by rw [HB.out.cell (p := ⟨b', o + k * 7 + 6, none⟩) hbl hN]; exact k6
          clear E1 E2 E3 E4 E5 E6 E7 E8 E9 E10 t1 t2 t3 t4 t5 t6 hs x1 x2 HMN k0 k1 k2 k3 k4 k5
          go_wp2_with (first
            | (go_at_call 136; refine A.out.mono ?_; clear A; rintro e w1 ⟨rfl, hc1, hb1⟩; have c61 : w1.cell? ⟨b', o + k * 7 + 6, none⟩ = some (.slice la' yl.length lc') := (by rw [(HB.out.trans hb1).cell (p := ⟨b', o + k * 7 + 6, none⟩) hbl hN]; exact k6); have HL1 := Lib.hid (exs_keep HYL.out (HB.out.trans hb1) (fun b hn => hn)))
            | (go_at_call 74; refine (R.out _ HL1.out hc1).mono ?_; rintro e w2 ⟨rfl, n2, d2, hc2, hb2, ht2⟩))
          go_roundg (l.length - (k + 1))
          case measure => omega
          case rel =>
            rw [HQ1.out, HQ2.out] at ht2
            exact ⟨k + 1, n2, d2, by omega, by omega, by go_num, hc2, (HB.out.trans hb1).trans hb2, ht2⟩
      · have hkl : k = l.length := by omega
        subst hkl
        rw [List.take_length] at HT
        have HCN := Lib.hid hcn
        clear ht hcn
        go_wp2
        go_end0
        exact ⟨rfl, n', d', HCN.out, HB.out, HT.out⟩
theorem tells_large {x : Ex} {n d : Int} (h : Tells n d (0 + nodesL [x]) (ddk 0 1 [x])) : lrg n d = isLarge x := by
  rw [h.1]
  have e1 : nodesL [x] = nodes x := by simp [nodesL]
  have e2 : levelsL [x] = levels x := by simp [levelsL]
  unfold lrg isLarge ddk
  rw [if_neg (by simp), e1, e2, Bool.eq_iff_iff]
  simp only [Bool.or_eq_true, decide_eq_true_eq]
  omega
theorem tkz_cst {v : Vl} : ∀ t ∈ cstTk v, t.t.size <= 3000 := by
  obtain ⟨k, n, s⟩ := v
  unfold cstTk
  by_cases he : errV ⟨k, n, s⟩ ≠ 0
  · rw [if_pos he]; intro t ht; simp at ht
  rw [if_neg he]
  have he : errV ⟨k, n, s⟩ = 0 := by simpa using he
  unfold errV at he
  split at he
  · cases he
  rename_i hs
  split at he
  case isFalse => cases he
  rename_i ho
  unfold okV at ho
  simp only at *
  by_cases k0 : k = 0
  · rw [if_pos k0]; intro t ht; simp at ht; subst ht; decide
  rw [if_neg k0] at *
  by_cases k1 : k = 1
  · rw [if_pos k1]; intro t ht; simp only [List.mem_singleton] at ht; subst ht; split <;> decide
  rw [if_neg k1] at *
  by_cases k2 : k = 2
  · rw [if_pos k2] at *
    intro t ht; simp only [List.mem_singleton] at ht; subst ht
    simp only [Bool.and_eq_true, decide_eq_true_eq] at ho
    show (wrI n).toArray.size <= 3000
    rw [List.size_toArray]
    unfold wrI
    split
    · have := wrN_len 16 n.natAbs (by omega)
      simp; omega
    · have := wrN_len 16 n.toNat (by omega)
      omega
  rw [if_neg k2] at *
  by_cases k3 : k = 3
  · rw [if_pos k3] at *
    intro t ht; simp only [List.mem_singleton] at ht; subst ht
    simp only [Bool.and_eq_true, decide_eq_true_eq] at ho
    by_cases hn : n = 0
    · simp only [hn, if_true]; decide
    · simp only [hn, if_false]
      show (stampL n).toArray.size <= 3000
      rw [List.size_toArray]
      obtain ⟨h1, h2, h3⟩ := stampL_len (day := n) (by omega) (by omega)
      unfold stampL
      simp [h1, h2, h3]
  rw [if_neg k3] at *
  intro t ht; simp only [List.mem_singleton] at ht; subst ht
  show s.size <= 3000
  omega
theorem tkz_nm : ∀ {p : List ByteArray}, ∀ t ∈ nmTks p, t.t.size <= 3000 + szP p
  | [], t, ht => by simp [nmTks] at ht
  | [a], t, ht => by simp [nmTks] at ht; subst ht; show a.size <= _; simp only [szP]; omega
  | a :: b :: r, t, ht => by
    simp only [nmTks, List.mem_cons] at ht
    rcases ht with rfl | rfl | ht
    · show a.size <= _; simp only [szP]; omega
    · show (1 : Nat) <= _; omega
    · have := tkz_nm (p := b :: r) t ht
      simp only [szP] at *; omega
theorem tkz_opd {x : Ex} {l : List Tk} {n : Nat} (h : ∀ t ∈ l, t.t.size <= 3000 + n) : ∀ t ∈ opd x l, t.t.size <= 3000 + n := by
  unfold opd
  split
  · intro t ht
    simp only [List.mem_cons, List.mem_append, List.mem_nil_iff, or_false] at ht
    rcases ht with rfl | ht | rfl
    · show (1 : Nat) <= _; omega
    · exact h t ht
    · show (1 : Nat) <= _; omega
  · exact h
theorem tkz_S {c : ByteArray} {n : Nat} (h : c.size <= 3000) : (S c).t.size <= 3000 + n := by show c.size <= _; omega
mutual
theorem tkz : ∀ x : Ex, ∀ t ∈ tks x, t.t.size <= 3000 + sz x
  | .mk op s v p l, t, ht => by
    unfold tks at ht
    by_cases e0 : op = 0
    · rw [if_pos e0] at ht; have := tkz_cst t ht; omega
    rw [if_neg e0] at ht
    by_cases e1 : op = 1
    · rw [if_pos e1] at ht
      simp at ht; subst ht; show s.size <= _; simp only [sz]; omega
    rw [if_neg e1] at ht
    by_cases e2 : op = 2
    · rw [if_pos e2] at ht
      match l, ht with
      | [], ht => simp at ht
      | [a], ht =>
        have A := tkz a
        simp only [List.mem_cons] at ht
        rcases ht with rfl | rfl | ht
        · show s.size <= _; simp only [sz]; omega
        · exact tkz_S (by decide)
        · by_cases ho : a.op = 1
          · rw [if_pos ho] at ht
            simp at ht; subst ht
            obtain ⟨ao, as', av, ap, al⟩ := a
            show as'.size <= _; simp only [sz, szL]; omega
          · rw [if_neg ho] at ht
            simp only [List.mem_cons, List.mem_append, List.mem_nil_iff, or_false] at ht
            rcases ht with rfl | ht | rfl
            · exact tkz_S (by decide)
            · have := A t ht; simp only [sz, szL]; omega
            · exact tkz_S (by decide)
      | a :: b :: r, ht => simp at ht
    rw [if_neg e2] at ht
    by_cases e3 : op = 3
    · rw [if_pos e3] at ht
      simp only [List.mem_cons, List.mem_append, List.mem_nil_iff, or_false] at ht
      rcases ht with rfl | rfl | ht | rfl
      · show s.size <= _; simp only [sz]; omega
      · exact tkz_S (by decide)
      · have := tkzL l t ht; simp only [sz]; omega
      · exact tkz_S (by decide)
    rw [if_neg e3] at ht
    by_cases e4 : op = 4
    · rw [if_pos e4] at ht
      match l, ht with
      | [], ht => simp at ht
      | [a], ht =>
        have A := tkz a
        simp only [List.mem_cons] at ht
        rcases ht with rfl | ht
        · show s.size <= _; simp only [sz]; omega
        · have := tkz_opd A t ht; simp only [sz, szL]; omega
      | a :: b :: r, ht => simp at ht
    rw [if_neg e4] at ht
    by_cases e5 : op = 5
    · rw [if_pos e5] at ht
      match l, ht with
      | [], ht => simp at ht
      | [a], ht => simp at ht
      | [a, b], ht =>
        have A := tkz a
        have B := tkz b
        simp only [List.mem_append, List.mem_cons] at ht
        rcases ht with ht | rfl | ht
        · have := tkz_opd A t ht; simp only [sz, szL]; omega
        · show s.size <= _; simp only [sz]; omega
        · have := tkz_opd B t ht; simp only [sz, szL]; omega
      | a :: b :: c :: r, ht => simp at ht
    rw [if_neg e5] at ht
    by_cases e6 : op = 6
    · rw [if_pos e6] at ht
      match l, ht with
      | [], ht => simp at ht
      | [a], ht => simp at ht
      | [a, b], ht =>
        have A := tkz a
        have B := tkz b
        simp only [List.mem_append, List.mem_cons, List.mem_nil_iff, or_false] at ht
        rcases ht with ht | rfl | ht | rfl
        · have := tkz_opd A t ht; simp only [sz, szL]; omega
        · exact tkz_S (by decide)
        · have := B t ht; simp only [sz, szL]; omega
        · exact tkz_S (by decide)
      | a :: b :: c :: r, ht => simp at ht
    rw [if_neg e6] at ht
    by_cases e7 : op = 7
    · rw [if_pos e7] at ht
      simp only [List.mem_cons, List.mem_append, List.mem_nil_iff, or_false] at ht
      rcases ht with rfl | ht | rfl
      · exact tkz_S (by decide)
      · have := tkzL l t ht; simp only [sz]; omega
      · exact tkz_S (by decide)
    rw [if_neg e7] at ht
    by_cases e8 : op = 8
    · rw [if_pos e8] at ht
      match l, ht with
      | [], ht => simp at ht
      | [a], ht =>
        have A := tkz a
        simp only [List.mem_cons, List.mem_append, List.mem_nil_iff, or_false] at ht
        rcases ht with rfl | rfl | ht | rfl | ht | rfl
        · exact tkz_S (by decide)
        · exact tkz_S (by decide)
        · have := tkz_nm t ht; simp only [sz]; omega
        · exact tkz_S (by decide)
        · have := A t ht; simp only [sz, szL]; omega
        · exact tkz_S (by decide)
      | a :: b :: r, ht => simp at ht
    rw [if_neg e8] at ht
    by_cases e9 : op = 9
    · rw [if_pos e9] at ht
      have K : ∀ t ∈ [S sAmp, W s, S sDot], t.t.size <= 3000 + (1 + s.size) := by
        intro t ht
        simp only [List.mem_cons, List.mem_nil_iff, or_false] at ht
        rcases ht with rfl | rfl | rfl
        · exact tkz_S (by decide)
        · show s.size <= _; omega
        · exact tkz_S (by decide)
      match l, ht with
      | [], ht => have := K t ht; simp only [sz]; omega
      | [a], ht =>
        have A := tkz a
        simp only [List.mem_cons, List.mem_append, List.mem_nil_iff, or_false] at ht
        rcases ht with rfl | rfl | ht | rfl
        · exact tkz_S (by decide)
        · exact tkz_S (by decide)
        · have := A t ht; simp only [sz, szL]; omega
        · exact tkz_S (by decide)
      | a :: b :: r, ht => have := K t ht; simp only [sz]; omega
    rw [if_neg e9] at ht
    by_cases e10 : op = 10
    · rw [if_pos e10] at ht
      simp at ht
      rcases ht with rfl | rfl
      · exact tkz_S (by decide)
      · show s.size <= _; simp only [sz]; omega
    · rw [if_neg e10] at ht; simp at ht
theorem tkzL : ∀ l : List Ex, ∀ t ∈ tksL l, t.t.size <= 3000 + szL l
  | [], t, ht => by simp [tksL] at ht
  | x :: r, t, ht => by
    have A := tkz x
    have B := tkzL r
    rw [tksL_cons] at ht
    simp only [List.mem_append] at ht
    simp only [szL]
    rcases ht with ht | ht
    · have := A t ht; omega
    · cases r with
      | nil => simp [moreL] at ht
      | cons y m =>
        simp only [moreL, List.mem_cons] at ht
        rcases ht with rfl | ht
        · exact tkz_S (by decide)
        · have := B t ht; omega
end
end Go.Proofs.YtdmepghoffhphaaGreatDoor
