/- PROVED: contracts of the functions that CmdScopes reaches, and what an expression is that is written and read again (part CvF). CONDITIONS: none. -/
import Derived.Test.YtdmepghoffhphaaGreatDoorCvE
import Derived.Deep.AppendLies
set_option linter.unusedSimpArgs false
set_option linter.unusedVariables false
set_option linter.unnecessarySimpa false
set_option maxHeartbeats 8000000
set_option maxRecDepth 100000
namespace Go.Proofs.YtdmepghoffhphaaGreatDoor
open Go Go.RowKit Go.Lib
theorem not217_a (mixed : Tryz.prog.follows .mixedOrders = true) (r : Nat) (ts : List Tk) (s : St) (w : World) (h : RdAt r ts s w) (c : ByteArray) (s1 s2 : St) (x : Ex) (hq1 : sgn [sNot, sBang] s = (some c, s1)) (hc : c = sNot \/ c = sBang) (hA : ∀ w, RdAt r ts s1 w -> Calls Tryz.prog 217 #[rp r] w fun e w' => ∃ u, e = .returned u /\ ExAt (w.heap.size <= ·) w' x u /\ RdAt r ts s2 w' /\ But r w w') :
    Calls Tryz.prog 217 #[rp r] w fun e w' => ∃ u, e = .returned u /\ ExAt (w.heap.size <= ·) w' (.un sNot x) u /\ RdAt r ts s2 w' /\ But r w w' := by
  have hrl := h.lt
  have H := Lib.hid h
  have TOK1 := Lib.hid True.intro
  have TOK2 := Lib.hid True.intro
  clear h
  have he2 : sNot.toList.isEmpty = false := by decide +kernel
  have hce : c.toList.isEmpty = false /\ ¬ c.toList = [] := by
    rcases hc with rfl | rfl <;> exact ⟨by decide +kernel, by decide +kernel⟩
  obtain ⟨hc1, hc2⟩ := hce
  have A := Lib.hid hA
  clear hA hc he2
  go_enter Tryz.func217, Tryz.ntmps217
  go_wp2_with (first
    | (go_at_call 294; clear TOK1; have STR : StrsAt (· ≠ r) ((w.alloc (.cells #[.int .i64 0, .string ⟨#[]⟩, .int .i64 0, .int .i64 0, .string ⟨#[]⟩, .slice none 0 0, .slice none 0 0] 55)).alloc (.cells #[.string ⟨#[46, 78, 79, 84, 46]⟩, .string ⟨#[33]⟩] 9)) (.slice (some ⟨w.heap.size + 1, 0, none⟩) 2 2) [sNot, sBang] := (by have h0 := strs_lit (r := r) (w := w.alloc (.cells #[.int .i64 0, .string ⟨#[]⟩, .int .i64 0, .int .i64 0, .string ⟨#[]⟩, .slice none 0 0, .slice none 0 0] 55)) [sNot, sBang] (by decide) (by decide) (H.out.alloc _).lt 2; rw [show (w.alloc (.cells #[.int .i64 0, .string ⟨#[]⟩, .int .i64 0, .int .i64 0, .string ⟨#[]⟩, .slice none 0 0, .slice none 0 0] 55)).heap.size = w.heap.size + 1 by simp] at h0; exact h0); have SG := sign294 mixed r ts s [sNot, sBang] _ _ ((H.out.alloc (.cells #[.int .i64 0, .string ⟨#[]⟩, .int .i64 0, .int .i64 0, .string ⟨#[]⟩, .slice none 0 0, .slice none 0 0] 55)).alloc (.cells #[.string ⟨#[46, 78, 79, 84, 46]⟩, .string ⟨#[33]⟩] 9)) STR; rw [hq1] at SG; refine SG.mono ?_; clear SG STR; rintro e w2 ⟨rfl, h2, hb2⟩; have H2 := Lib.hid h2; have HB2 := Lib.hid hb2; have HR2 := Lib.hid ((((Bk.new w 55 #[.int .i64 0, .string ⟨#[]⟩, .int .i64 0, .int .i64 0, .string ⟨#[]⟩, .slice none 0 0, .slice none 0 0]).alloc (.cells #[.string ⟨#[46, 78, 79, 84, 46]⟩, .string ⟨#[33]⟩] 9)).but hb2 (Nat.ne_of_gt hrl))); clear h2 hb2)
    | (go_at_call 217; refine (A.out _ H2.out).mono ?_; clear A; rintro e w3 ⟨u, rfl, hx, h3, hb3⟩; obtain ⟨xo, xs, xk, xn, xt, xa, xm, xc, xb, xq, xd, rfl⟩ := hx.form; have HX := Lib.hid hx; have H3 := Lib.hid h3; have HB3 := Lib.hid hb3; have HR3 := Lib.hid ((HR2.out.but hb3 (Nat.ne_of_gt hrl)).alloc (.cells #[.int .i64 xo, .string xs, .int .i64 xk, .int .i64 xn, .string xt, .slice xa xm xc, .slice xb xq xd] 55)); obtain ⟨r0, r1, r2, r3, r4, r5, r6⟩ := Bk7 HR3.out; have f0 := HR3.out.frozen 0; have f1 := HR3.out.frozen 1; have f2 := HR3.out.frozen 2; have f3 := HR3.out.frozen 3; have f4 := HR3.out.frozen 4; have f5 := HR3.out.frozen 5; have f6 := HR3.out.frozen 6; clear hx h3 hb3))
  have s2 := HB2.out.size
  have s3 := HB3.out.size
  simp at s2
  have HR7 := HR3.out.set7 (.int .i64 4) (.string sNot) (.int .i64 0) (.int .i64 0) (.string ⟨#[]⟩) (.slice none 0 0) (.slice (some ⟨w3.heap.size, 0, none⟩) 1 1)
  obtain ⟨q0, q1, q2, q3, q4, q5, q6⟩ := Bk7 HR7
  clear r0 r1 r2 r3 r4 r5 r6 HR7
  unfold wset7 sNot at q0 q1 q2 q3 q4 q5 q6
  refine bodyPost_ret (by simp [results, Tryz.results217, go_sem, q0, q1, q2, q3, q4, q5, q6]; try rfl) rfl ?_
  refine ⟨_, rfl, ?_, (H3.out.alloc _).set7 hrl _ _ _ _ _ _ _, ((((((((But.refl r w).alloc _).alloc _).trans HB2.out).trans HB3.out).alloc _).set7 (Nat.le_refl _) _ _ _ _ _ _ _))⟩
  have hx1 := ExAt.mono (M := fun b => w.heap.size + 1 <= b) (fun b _ hn => by omega) (HX.out.below (below_a (.cells #[.int .i64 xo, .string xs, .int .i64 xk, .int .i64 xn, .string xt, .slice xa xm xc, .slice xb xq xd] 55)))
  have hx2 := ex_set7 (g := w.heap.size) hx1 (fun b hn => by omega) (.int .i64 4) (.string sNot) (.int .i64 0) (.int .i64 0) (.string ⟨#[]⟩) (.slice none 0 0) (.slice (some ⟨w3.heap.size, 0, none⟩) 1 1)
  exact ExAt.mono (fun b _ hn => by omega) (ex_mk (v := vd0) (by decide) (by decide) (strs_nil _ _) (exs_one hx2 (Bk.set7o (Bk.new _ _ _) (by omega) _ _ _ _ _ _ _) (by omega)))
theorem not217_b (mixed : Tryz.prog.follows .mixedOrders = true) (r : Nat) (ts : List Tk) (s : St) (w : World) (h : RdAt r ts s w) (s1 s2 s3 : St) (x : Ex) (hq1 : sgn [sNot, sBang] s = (none, s1)) (hq2 : sgn cmps s2 = (none, s3)) (hA : ∀ w, RdAt r ts s1 w -> Calls Tryz.prog 295 #[rp r] w fun e w' => ∃ u, e = .returned u /\ ExAt (w.heap.size <= ·) w' x u /\ RdAt r ts s2 w' /\ But r w w') :
    Calls Tryz.prog 217 #[rp r] w fun e w' => ∃ u, e = .returned u /\ ExAt (w.heap.size <= ·) w' (x) u /\ RdAt r ts s3 w' /\ But r w w' := by
  have hrl := h.lt
  have H := Lib.hid h
  have TOK1 := Lib.hid True.intro
  have TOK2 := Lib.hid True.intro
  clear h
  have he1 : ByteArray.empty.toList.isEmpty = true := by decide +kernel
  have he2 : ByteArray.empty.toList = [] := by decide +kernel
  have A := Lib.hid hA
  clear hA
  go_enter Tryz.func217, Tryz.ntmps217
  go_wp2_with (first
    | (go_at_call 294; clear TOK1; have STR : StrsAt (· ≠ r) ((w.alloc (.cells #[.int .i64 0, .string ⟨#[]⟩, .int .i64 0, .int .i64 0, .string ⟨#[]⟩, .slice none 0 0, .slice none 0 0] 55)).alloc (.cells #[.string ⟨#[46, 78, 79, 84, 46]⟩, .string ⟨#[33]⟩] 9)) (.slice (some ⟨w.heap.size + 1, 0, none⟩) 2 2) [sNot, sBang] := (by have h0 := strs_lit (r := r) (w := w.alloc (.cells #[.int .i64 0, .string ⟨#[]⟩, .int .i64 0, .int .i64 0, .string ⟨#[]⟩, .slice none 0 0, .slice none 0 0] 55)) [sNot, sBang] (by decide) (by decide) (H.out.alloc _).lt 2; rw [show (w.alloc (.cells #[.int .i64 0, .string ⟨#[]⟩, .int .i64 0, .int .i64 0, .string ⟨#[]⟩, .slice none 0 0, .slice none 0 0] 55)).heap.size = w.heap.size + 1 by simp] at h0; exact h0); have SG := sign294 mixed r ts s [sNot, sBang] _ _ ((H.out.alloc (.cells #[.int .i64 0, .string ⟨#[]⟩, .int .i64 0, .int .i64 0, .string ⟨#[]⟩, .slice none 0 0, .slice none 0 0] 55)).alloc (.cells #[.string ⟨#[46, 78, 79, 84, 46]⟩, .string ⟨#[33]⟩] 9)) STR; rw [hq1] at SG; refine SG.mono ?_; clear SG STR; rintro e w2 ⟨rfl, h2, hb2⟩; have H2 := Lib.hid h2; have HB2 := Lib.hid hb2; have HR2 := Lib.hid ((((Bk.new w 55 #[.int .i64 0, .string ⟨#[]⟩, .int .i64 0, .int .i64 0, .string ⟨#[]⟩, .slice none 0 0, .slice none 0 0]).alloc (.cells #[.string ⟨#[46, 78, 79, 84, 46]⟩, .string ⟨#[33]⟩] 9)).but hb2 (Nat.ne_of_gt hrl))); clear h2 hb2)
    | (go_at_call 295; clear TOK2; refine (A.out _ H2.out).mono ?_; clear A; rintro e w3 ⟨u, rfl, hx, h3, hb3⟩; obtain ⟨xo, xs, xk, xn, xt, xa, xm, xc, xb, xq, xd, rfl⟩ := hx.form; have HX := Lib.hid hx; have H3 := Lib.hid h3; have HB3 := Lib.hid hb3; have HR3 := Lib.hid (HR2.out.but hb3 (Nat.ne_of_gt hrl)); clear hx h3 hb3)
    | (go_at_call 294; have STR : StrsAt (· ≠ r) ((w3.alloc (.cells #[.int .i64 xo, .string xs, .int .i64 xk, .int .i64 xn, .string xt, .slice xa xm xc, .slice xb xq xd] 55)).alloc (.cells #[.string ⟨#[61]⟩, .string ⟨#[61, 61]⟩, .string ⟨#[60, 62]⟩, .string ⟨#[35]⟩, .string ⟨#[33, 61]⟩, .string ⟨#[60]⟩, .string ⟨#[62]⟩, .string ⟨#[60, 61]⟩, .string ⟨#[62, 61]⟩, .string ⟨#[36]⟩] 9)) (.slice (some ⟨w3.heap.size + 1, 0, none⟩) 10 10) cmps := (by have h0 := strs_lit (r := r) (w := w3.alloc (.cells #[.int .i64 xo, .string xs, .int .i64 xk, .int .i64 xn, .string xt, .slice xa xm xc, .slice xb xq xd] 55)) cmps (by decide) (by decide) (H3.out.alloc _).lt 10; rw [show (w3.alloc (.cells #[.int .i64 xo, .string xs, .int .i64 xk, .int .i64 xn, .string xt, .slice xa xm xc, .slice xb xq xd] 55)).heap.size = w3.heap.size + 1 by simp] at h0; exact h0); have SG := sign294 mixed r ts s2 cmps _ _ ((H3.out.alloc (.cells #[.int .i64 xo, .string xs, .int .i64 xk, .int .i64 xn, .string xt, .slice xa xm xc, .slice xb xq xd] 55)).alloc (.cells #[.string ⟨#[61]⟩, .string ⟨#[61, 61]⟩, .string ⟨#[60, 62]⟩, .string ⟨#[35]⟩, .string ⟨#[33, 61]⟩, .string ⟨#[60]⟩, .string ⟨#[62]⟩, .string ⟨#[60, 61]⟩, .string ⟨#[62, 61]⟩, .string ⟨#[36]⟩] 9)) STR; rw [hq2] at SG; refine SG.mono ?_; clear SG STR; rintro e w4 ⟨rfl, h4, hb4⟩; have hX : w3.heap.size ≠ r := (by have := HB3.out.size; have := HB2.out.size; simp at this; omega); have H4 := Lib.hid h4; have HB4 := Lib.hid hb4; have HK4 := Lib.hid (((Bk.new w3 55 #[.int .i64 xo, .string xs, .int .i64 xk, .int .i64 xn, .string xt, .slice xa xm xc, .slice xb xq xd]).alloc (.cells #[.string ⟨#[61]⟩, .string ⟨#[61, 61]⟩, .string ⟨#[60, 62]⟩, .string ⟨#[35]⟩, .string ⟨#[33, 61]⟩, .string ⟨#[60]⟩, .string ⟨#[62]⟩, .string ⟨#[60, 61]⟩, .string ⟨#[62, 61]⟩, .string ⟨#[36]⟩] 9)).but hb4 hX); have HR4 := Lib.hid (((HR3.out.alloc (.cells #[.int .i64 xo, .string xs, .int .i64 xk, .int .i64 xn, .string xt, .slice xa xm xc, .slice xb xq xd] 55)).alloc (.cells #[.string ⟨#[61]⟩, .string ⟨#[61, 61]⟩, .string ⟨#[60, 62]⟩, .string ⟨#[35]⟩, .string ⟨#[33, 61]⟩, .string ⟨#[60]⟩, .string ⟨#[62]⟩, .string ⟨#[60, 61]⟩, .string ⟨#[62, 61]⟩, .string ⟨#[36]⟩] 9)).but hb4 (Nat.ne_of_gt hrl)); obtain ⟨k0, k1, k2, k3, k4, k5, k6⟩ := Bk7 HK4.out; obtain ⟨r0, r1, r2, r3, r4, r5, r6⟩ := Bk7 HR4.out; have f0 := HR4.out.frozen 0; have f1 := HR4.out.frozen 1; have f2 := HR4.out.frozen 2; have f3 := HR4.out.frozen 3; have f4 := HR4.out.frozen 4; have f5 := HR4.out.frozen 5; have f6 := HR4.out.frozen 6; clear h4 hb4))
  have s2 := HB2.out.size
  have s3 := HB3.out.size
  have s4 := HB4.out.size
  simp at s2 s4
  have HR7 := HR4.out.set7 (.int .i64 xo) (.string xs) (.int .i64 xk) (.int .i64 xn) (.string xt) (.slice xa xm xc) (.slice xb xq xd)
  obtain ⟨q0, q1, q2, q3, q4, q5, q6⟩ := Bk7 HR7
  clear k0 k1 k2 k3 k4 k5 k6 r0 r1 r2 r3 r4 r5 r6 HR7
  unfold wset7 at q0 q1 q2 q3 q4 q5 q6
  refine bodyPost_ret (by simp [results, Tryz.results217, go_sem, q0, q1, q2, q3, q4, q5, q6]; try rfl) rfl ?_
  refine ⟨_, rfl, ?_, H4.out.set7 hrl _ _ _ _ _ _ _, (((((((((But.refl r w).alloc _).alloc _).trans HB2.out).trans HB3.out).alloc _).alloc _).trans HB4.out).set7 (Nat.le_refl _) _ _ _ _ _ _ _)⟩
  exact ExAt.mono (fun b _ hn => by omega) (ex_set7 (N := fun b => w.heap.size + 1 <= b) (ex_keep (((ExAt.mono (fun b hb hn => by omega) HX.out).below (below_a _)).below (below_a _)) HB4.out (fun b hn => by omega)) (fun b hn => by omega) _ _ _ _ _ _ _)
theorem not217_c (mixed : Tryz.prog.follows .mixedOrders = true) (r : Nat) (ts : List Tk) (s : St) (w : World) (h : RdAt r ts s w) (c : ByteArray) (s1 s2 s3 s4 : St) (x y2 : Ex) (hq1 : sgn [sNot, sBang] s = (none, s1)) (hq2 : sgn cmps s2 = (some c, s3)) (hcs : c.size <= mx) (hce : c.toList.isEmpty = false /\ ¬ c.toList = []) (hc3 : ¬ c.toList = [35] /\ ¬ c.toList = [33, 61]) (hA : ∀ w, RdAt r ts s1 w -> Calls Tryz.prog 295 #[rp r] w fun e w' => ∃ u, e = .returned u /\ ExAt (w.heap.size <= ·) w' x u /\ RdAt r ts s2 w' /\ But r w w') (hB : ∀ w, RdAt r ts s3 w -> Calls Tryz.prog 295 #[rp r] w fun e w' => ∃ u, e = .returned u /\ ExAt (w.heap.size <= ·) w' y2 u /\ RdAt r ts s4 w' /\ But r w w') :
    Calls Tryz.prog 217 #[rp r] w fun e w' => ∃ u, e = .returned u /\ ExAt (w.heap.size <= ·) w' (.bin c x y2) u /\ RdAt r ts s4 w' /\ But r w w' := by
  have hrl := h.lt
  have H := Lib.hid h
  have TOK1 := Lib.hid True.intro
  have TOK2 := Lib.hid True.intro
  clear h
  have he1 : ByteArray.empty.toList.isEmpty = true := by decide +kernel
  have he2 : ByteArray.empty.toList = [] := by decide +kernel
  have A := Lib.hid hA
  have AB := Lib.hid hB
  have HCS := Lib.hid hcs
  obtain ⟨hc1, hc2⟩ := hce
  obtain ⟨hc3, hc4⟩ := hc3
  clear hA hB hcs
  go_enter Tryz.func217, Tryz.ntmps217
  go_wp2_with (first
    | (go_at_call 294; clear TOK1; have STR : StrsAt (· ≠ r) ((w.alloc (.cells #[.int .i64 0, .string ⟨#[]⟩, .int .i64 0, .int .i64 0, .string ⟨#[]⟩, .slice none 0 0, .slice none 0 0] 55)).alloc (.cells #[.string ⟨#[46, 78, 79, 84, 46]⟩, .string ⟨#[33]⟩] 9)) (.slice (some ⟨w.heap.size + 1, 0, none⟩) 2 2) [sNot, sBang] := (by have h0 := strs_lit (r := r) (w := w.alloc (.cells #[.int .i64 0, .string ⟨#[]⟩, .int .i64 0, .int .i64 0, .string ⟨#[]⟩, .slice none 0 0, .slice none 0 0] 55)) [sNot, sBang] (by decide) (by decide) (H.out.alloc _).lt 2; rw [show (w.alloc (.cells #[.int .i64 0, .string ⟨#[]⟩, .int .i64 0, .int .i64 0, .string ⟨#[]⟩, .slice none 0 0, .slice none 0 0] 55)).heap.size = w.heap.size + 1 by simp] at h0; exact h0); have SG := sign294 mixed r ts s [sNot, sBang] _ _ ((H.out.alloc (.cells #[.int .i64 0, .string ⟨#[]⟩, .int .i64 0, .int .i64 0, .string ⟨#[]⟩, .slice none 0 0, .slice none 0 0] 55)).alloc (.cells #[.string ⟨#[46, 78, 79, 84, 46]⟩, .string ⟨#[33]⟩] 9)) STR; rw [hq1] at SG; refine SG.mono ?_; clear SG STR; rintro e w2 ⟨rfl, h2, hb2⟩; have H2 := Lib.hid h2; have HB2 := Lib.hid hb2; have HR2 := Lib.hid ((((Bk.new w 55 #[.int .i64 0, .string ⟨#[]⟩, .int .i64 0, .int .i64 0, .string ⟨#[]⟩, .slice none 0 0, .slice none 0 0]).alloc (.cells #[.string ⟨#[46, 78, 79, 84, 46]⟩, .string ⟨#[33]⟩] 9)).but hb2 (Nat.ne_of_gt hrl))); clear h2 hb2)
    | (go_at_call 295; clear TOK2; refine (A.out _ H2.out).mono ?_; clear A; rintro e w3 ⟨u, rfl, hx, h3, hb3⟩; obtain ⟨xo, xs, xk, xn, xt, xa, xm, xc, xb, xq, xd, rfl⟩ := hx.form; have HX := Lib.hid hx; have H3 := Lib.hid h3; have HB3 := Lib.hid hb3; have HR3 := Lib.hid (HR2.out.but hb3 (Nat.ne_of_gt hrl)); clear hx h3 hb3)
    | (go_at_call 294; have STR : StrsAt (· ≠ r) ((w3.alloc (.cells #[.int .i64 xo, .string xs, .int .i64 xk, .int .i64 xn, .string xt, .slice xa xm xc, .slice xb xq xd] 55)).alloc (.cells #[.string ⟨#[61]⟩, .string ⟨#[61, 61]⟩, .string ⟨#[60, 62]⟩, .string ⟨#[35]⟩, .string ⟨#[33, 61]⟩, .string ⟨#[60]⟩, .string ⟨#[62]⟩, .string ⟨#[60, 61]⟩, .string ⟨#[62, 61]⟩, .string ⟨#[36]⟩] 9)) (.slice (some ⟨w3.heap.size + 1, 0, none⟩) 10 10) cmps := (by have h0 := strs_lit (r := r) (w := w3.alloc (.cells #[.int .i64 xo, .string xs, .int .i64 xk, .int .i64 xn, .string xt, .slice xa xm xc, .slice xb xq xd] 55)) cmps (by decide) (by decide) (H3.out.alloc _).lt 10; rw [show (w3.alloc (.cells #[.int .i64 xo, .string xs, .int .i64 xk, .int .i64 xn, .string xt, .slice xa xm xc, .slice xb xq xd] 55)).heap.size = w3.heap.size + 1 by simp] at h0; exact h0); have SG := sign294 mixed r ts s2 cmps _ _ ((H3.out.alloc (.cells #[.int .i64 xo, .string xs, .int .i64 xk, .int .i64 xn, .string xt, .slice xa xm xc, .slice xb xq xd] 55)).alloc (.cells #[.string ⟨#[61]⟩, .string ⟨#[61, 61]⟩, .string ⟨#[60, 62]⟩, .string ⟨#[35]⟩, .string ⟨#[33, 61]⟩, .string ⟨#[60]⟩, .string ⟨#[62]⟩, .string ⟨#[60, 61]⟩, .string ⟨#[62, 61]⟩, .string ⟨#[36]⟩] 9)) STR; rw [hq2] at SG; refine SG.mono ?_; clear SG STR; rintro e w4 ⟨rfl, h4, hb4⟩; have hX : w3.heap.size ≠ r := (by have := HB3.out.size; have := HB2.out.size; simp at this; omega); have H4 := Lib.hid h4; have HB4 := Lib.hid hb4; have HK4 := Lib.hid (((Bk.new w3 55 #[.int .i64 xo, .string xs, .int .i64 xk, .int .i64 xn, .string xt, .slice xa xm xc, .slice xb xq xd]).alloc (.cells #[.string ⟨#[61]⟩, .string ⟨#[61, 61]⟩, .string ⟨#[60, 62]⟩, .string ⟨#[35]⟩, .string ⟨#[33, 61]⟩, .string ⟨#[60]⟩, .string ⟨#[62]⟩, .string ⟨#[60, 61]⟩, .string ⟨#[62, 61]⟩, .string ⟨#[36]⟩] 9)).but hb4 hX); have HR4 := Lib.hid (((HR3.out.alloc (.cells #[.int .i64 xo, .string xs, .int .i64 xk, .int .i64 xn, .string xt, .slice xa xm xc, .slice xb xq xd] 55)).alloc (.cells #[.string ⟨#[61]⟩, .string ⟨#[61, 61]⟩, .string ⟨#[60, 62]⟩, .string ⟨#[35]⟩, .string ⟨#[33, 61]⟩, .string ⟨#[60]⟩, .string ⟨#[62]⟩, .string ⟨#[60, 61]⟩, .string ⟨#[62, 61]⟩, .string ⟨#[36]⟩] 9)).but hb4 (Nat.ne_of_gt hrl)); obtain ⟨k0, k1, k2, k3, k4, k5, k6⟩ := Bk7 HK4.out; obtain ⟨r0, r1, r2, r3, r4, r5, r6⟩ := Bk7 HR4.out; have f0 := HR4.out.frozen 0; have f1 := HR4.out.frozen 1; have f2 := HR4.out.frozen 2; have f3 := HR4.out.frozen 3; have f4 := HR4.out.frozen 4; have f5 := HR4.out.frozen 5; have f6 := HR4.out.frozen 6; clear h4 hb4))
  all_goals first
    | (exfalso; have hc : (c.toList == [35]) = true \/ (c.toList == [33, 61]) = true := (by assumption); simp [hc3, hc4] at hc; done)
    | skip
  have s2 := HB2.out.size
  have s3 := HB3.out.size
  have s4 := HB4.out.size
  simp at s2 s4
  clear r0 r1 r2 r3 r4 r5 r6 f0 f1 f2 f3 f4 f5 f6
  go_region_with (first
    | (go_at_call 295; refine (AB.out _ H4.out.drew).mono ?_; rintro e w5 ⟨u2, rfl, hy, h5, hb5⟩; obtain ⟨yo, ys, yk, yn, yt, ya, ym, yc, yb, yq, yd, rfl⟩ := hy.form; have HK5 := HK4.out.drew.but hb5 hX; have HR5 := HR4.out.drew.but hb5 (Nat.ne_of_gt hrl); obtain ⟨j0, j1, j2, j3, j4, j5, j6⟩ := Bk7 HK5)
    | (go_at_call 133; refine (bin133 (fun b => w.heap.size + 1 <= b) c x y2 _ _ w5 HCS.out (ex_keep (ex_drew (ex_keep (((ExAt.mono (fun b hb hn => by omega) HX.out).below (below_a _)).below (below_a _)) HB4.out (fun b hn => by omega))) hb5 (fun b hn => by omega)) (ExAt.mono (fun b _ hn => by have h1 : w4.heap.size <= b := hn; omega) hy) (fun b hn => by have := HR5.lt; omega)).mono ?_; rintro e w6 ⟨z, rfl, hz, hb6⟩; obtain ⟨vo, vs, vk, vn, vt, va, vm, vc, vb, vq, vd, rfl⟩ := hz.form; have HR6 := Lib.hid (HR5.keep hb6); clear j0 j1 j2 j3 j4 j5 j6; obtain ⟨j0, j1, j2, j3, j4, j5, j6⟩ := Bk7 HR6.out; have f0 := HR6.out.frozen 0; have f1 := HR6.out.frozen 1; have f2 := HR6.out.frozen 2; have f3 := HR6.out.frozen 3; have f4 := HR6.out.frozen 4; have f5 := HR6.out.frozen 5; have f6 := HR6.out.frozen 6))
  all_goals
    go_wp2
    have HR7 := HR6.out.set7 (.int .i64 vo) (.string vs) (.int .i64 vk) (.int .i64 vn) (.string vt) (.slice va vm vc) (.slice vb vq vd)
    obtain ⟨q0, q1, q2, q3, q4, q5, q6⟩ := Bk7 HR7
    clear k0 k1 k2 k3 k4 k5 k6 j0 j1 j2 j3 j4 j5 j6 HR7
    unfold wset7 at q0 q1 q2 q3 q4 q5 q6
    (try simp only [Exit.inBlock, Exit.then])
    refine bodyPost_ret (by simp [results, Tryz.results217, go_sem, q0, q1, q2, q3, q4, q5, q6]; try rfl) rfl ?_
    refine ⟨_, rfl, ?_, (h5.keep hb6).set7 hrl _ _ _ _ _ _ _, ((((((((((((But.refl r w).alloc _).alloc _).trans HB2.out).trans HB3.out).alloc _).alloc _).trans HB4.out).drew).trans hb5).trans (But.of_below hb6)).set7 (Nat.le_refl _) _ _ _ _ _ _ _)⟩
    exact ExAt.mono (fun b _ hn => by omega) (ex_set7 hz (fun b hn => by omega) _ _ _ _ _ _ _)
theorem not217_d (mixed : Tryz.prog.follows .mixedOrders = true) (r : Nat) (ts : List Tk) (s : St) (w : World) (h : RdAt r ts s w) (c : ByteArray) (s1 s2 s3 s4 : St) (x y2 : Ex) (hq1 : sgn [sNot, sBang] s = (none, s1)) (hq2 : sgn cmps s2 = (some c, s3)) (hcs : sNe.size <= mx) (hce : c.toList.isEmpty = false /\ ¬ c.toList = []) (hc3 : c.toList = [35]) (hA : ∀ w, RdAt r ts s1 w -> Calls Tryz.prog 295 #[rp r] w fun e w' => ∃ u, e = .returned u /\ ExAt (w.heap.size <= ·) w' x u /\ RdAt r ts s2 w' /\ But r w w') (hB : ∀ w, RdAt r ts s3 w -> Calls Tryz.prog 295 #[rp r] w fun e w' => ∃ u, e = .returned u /\ ExAt (w.heap.size <= ·) w' y2 u /\ RdAt r ts s4 w' /\ But r w w') :
    Calls Tryz.prog 217 #[rp r] w fun e w' => ∃ u, e = .returned u /\ ExAt (w.heap.size <= ·) w' (.bin sNe x y2) u /\ RdAt r ts s4 w' /\ But r w w' := by
  have hrl := h.lt
  have H := Lib.hid h
  have TOK1 := Lib.hid True.intro
  have TOK2 := Lib.hid True.intro
  clear h
  have he1 : ByteArray.empty.toList.isEmpty = true := by decide +kernel
  have he2 : ByteArray.empty.toList = [] := by decide +kernel
  have A := Lib.hid hA
  have AB := Lib.hid hB
  have HCS := Lib.hid hcs
  obtain ⟨hc1, hc2⟩ := hce
  skip
  clear hA hB hcs
  go_enter Tryz.func217, Tryz.ntmps217
  go_wp2_with (first
    | (go_at_call 294; clear TOK1; have STR : StrsAt (· ≠ r) ((w.alloc (.cells #[.int .i64 0, .string ⟨#[]⟩, .int .i64 0, .int .i64 0, .string ⟨#[]⟩, .slice none 0 0, .slice none 0 0] 55)).alloc (.cells #[.string ⟨#[46, 78, 79, 84, 46]⟩, .string ⟨#[33]⟩] 9)) (.slice (some ⟨w.heap.size + 1, 0, none⟩) 2 2) [sNot, sBang] := (by have h0 := strs_lit (r := r) (w := w.alloc (.cells #[.int .i64 0, .string ⟨#[]⟩, .int .i64 0, .int .i64 0, .string ⟨#[]⟩, .slice none 0 0, .slice none 0 0] 55)) [sNot, sBang] (by decide) (by decide) (H.out.alloc _).lt 2; rw [show (w.alloc (.cells #[.int .i64 0, .string ⟨#[]⟩, .int .i64 0, .int .i64 0, .string ⟨#[]⟩, .slice none 0 0, .slice none 0 0] 55)).heap.size = w.heap.size + 1 by simp] at h0; exact h0); have SG := sign294 mixed r ts s [sNot, sBang] _ _ ((H.out.alloc (.cells #[.int .i64 0, .string ⟨#[]⟩, .int .i64 0, .int .i64 0, .string ⟨#[]⟩, .slice none 0 0, .slice none 0 0] 55)).alloc (.cells #[.string ⟨#[46, 78, 79, 84, 46]⟩, .string ⟨#[33]⟩] 9)) STR; rw [hq1] at SG; refine SG.mono ?_; clear SG STR; rintro e w2 ⟨rfl, h2, hb2⟩; have H2 := Lib.hid h2; have HB2 := Lib.hid hb2; have HR2 := Lib.hid ((((Bk.new w 55 #[.int .i64 0, .string ⟨#[]⟩, .int .i64 0, .int .i64 0, .string ⟨#[]⟩, .slice none 0 0, .slice none 0 0]).alloc (.cells #[.string ⟨#[46, 78, 79, 84, 46]⟩, .string ⟨#[33]⟩] 9)).but hb2 (Nat.ne_of_gt hrl))); clear h2 hb2)
    | (go_at_call 295; clear TOK2; refine (A.out _ H2.out).mono ?_; clear A; rintro e w3 ⟨u, rfl, hx, h3, hb3⟩; obtain ⟨xo, xs, xk, xn, xt, xa, xm, xc, xb, xq, xd, rfl⟩ := hx.form; have HX := Lib.hid hx; have H3 := Lib.hid h3; have HB3 := Lib.hid hb3; have HR3 := Lib.hid (HR2.out.but hb3 (Nat.ne_of_gt hrl)); clear hx h3 hb3)
    | (go_at_call 294; have STR : StrsAt (· ≠ r) ((w3.alloc (.cells #[.int .i64 xo, .string xs, .int .i64 xk, .int .i64 xn, .string xt, .slice xa xm xc, .slice xb xq xd] 55)).alloc (.cells #[.string ⟨#[61]⟩, .string ⟨#[61, 61]⟩, .string ⟨#[60, 62]⟩, .string ⟨#[35]⟩, .string ⟨#[33, 61]⟩, .string ⟨#[60]⟩, .string ⟨#[62]⟩, .string ⟨#[60, 61]⟩, .string ⟨#[62, 61]⟩, .string ⟨#[36]⟩] 9)) (.slice (some ⟨w3.heap.size + 1, 0, none⟩) 10 10) cmps := (by have h0 := strs_lit (r := r) (w := w3.alloc (.cells #[.int .i64 xo, .string xs, .int .i64 xk, .int .i64 xn, .string xt, .slice xa xm xc, .slice xb xq xd] 55)) cmps (by decide) (by decide) (H3.out.alloc _).lt 10; rw [show (w3.alloc (.cells #[.int .i64 xo, .string xs, .int .i64 xk, .int .i64 xn, .string xt, .slice xa xm xc, .slice xb xq xd] 55)).heap.size = w3.heap.size + 1 by simp] at h0; exact h0); have SG := sign294 mixed r ts s2 cmps _ _ ((H3.out.alloc (.cells #[.int .i64 xo, .string xs, .int .i64 xk, .int .i64 xn, .string xt, .slice xa xm xc, .slice xb xq xd] 55)).alloc (.cells #[.string ⟨#[61]⟩, .string ⟨#[61, 61]⟩, .string ⟨#[60, 62]⟩, .string ⟨#[35]⟩, .string ⟨#[33, 61]⟩, .string ⟨#[60]⟩, .string ⟨#[62]⟩, .string ⟨#[60, 61]⟩, .string ⟨#[62, 61]⟩, .string ⟨#[36]⟩] 9)) STR; rw [hq2] at SG; refine SG.mono ?_; clear SG STR; rintro e w4 ⟨rfl, h4, hb4⟩; have hX : w3.heap.size ≠ r := (by have := HB3.out.size; have := HB2.out.size; simp at this; omega); have H4 := Lib.hid h4; have HB4 := Lib.hid hb4; have HK4 := Lib.hid (((Bk.new w3 55 #[.int .i64 xo, .string xs, .int .i64 xk, .int .i64 xn, .string xt, .slice xa xm xc, .slice xb xq xd]).alloc (.cells #[.string ⟨#[61]⟩, .string ⟨#[61, 61]⟩, .string ⟨#[60, 62]⟩, .string ⟨#[35]⟩, .string ⟨#[33, 61]⟩, .string ⟨#[60]⟩, .string ⟨#[62]⟩, .string ⟨#[60, 61]⟩, .string ⟨#[62, 61]⟩, .string ⟨#[36]⟩] 9)).but hb4 hX); have HR4 := Lib.hid (((HR3.out.alloc (.cells #[.int .i64 xo, .string xs, .int .i64 xk, .int .i64 xn, .string xt, .slice xa xm xc, .slice xb xq xd] 55)).alloc (.cells #[.string ⟨#[61]⟩, .string ⟨#[61, 61]⟩, .string ⟨#[60, 62]⟩, .string ⟨#[35]⟩, .string ⟨#[33, 61]⟩, .string ⟨#[60]⟩, .string ⟨#[62]⟩, .string ⟨#[60, 61]⟩, .string ⟨#[62, 61]⟩, .string ⟨#[36]⟩] 9)).but hb4 (Nat.ne_of_gt hrl)); obtain ⟨k0, k1, k2, k3, k4, k5, k6⟩ := Bk7 HK4.out; obtain ⟨r0, r1, r2, r3, r4, r5, r6⟩ := Bk7 HR4.out; have f0 := HR4.out.frozen 0; have f1 := HR4.out.frozen 1; have f2 := HR4.out.frozen 2; have f3 := HR4.out.frozen 3; have f4 := HR4.out.frozen 4; have f5 := HR4.out.frozen 5; have f6 := HR4.out.frozen 6; clear h4 hb4))
  skip
  have s2 := HB2.out.size
  have s3 := HB3.out.size
  have s4 := HB4.out.size
  simp at s2 s4
  clear r0 r1 r2 r3 r4 r5 r6 f0 f1 f2 f3 f4 f5 f6
  go_region_with (first
    | (go_at_call 295; refine (AB.out _ H4.out.drew).mono ?_; rintro e w5 ⟨u2, rfl, hy, h5, hb5⟩; obtain ⟨yo, ys, yk, yn, yt, ya, ym, yc, yb, yq, yd, rfl⟩ := hy.form; have HK5 := HK4.out.drew.but hb5 hX; have HR5 := HR4.out.drew.but hb5 (Nat.ne_of_gt hrl); obtain ⟨j0, j1, j2, j3, j4, j5, j6⟩ := Bk7 HK5)
    | (go_at_call 133; refine (bin133 (fun b => w.heap.size + 1 <= b) sNe x y2 _ _ w5 HCS.out (ex_keep (ex_drew (ex_keep (((ExAt.mono (fun b hb hn => by omega) HX.out).below (below_a _)).below (below_a _)) HB4.out (fun b hn => by omega))) hb5 (fun b hn => by omega)) (ExAt.mono (fun b _ hn => by have h1 : w4.heap.size <= b := hn; omega) hy) (fun b hn => by have := HR5.lt; omega)).mono ?_; rintro e w6 ⟨z, rfl, hz, hb6⟩; obtain ⟨vo, vs, vk, vn, vt, va, vm, vc, vb, vq, vd, rfl⟩ := hz.form; have HR6 := Lib.hid (HR5.keep hb6); clear j0 j1 j2 j3 j4 j5 j6; obtain ⟨j0, j1, j2, j3, j4, j5, j6⟩ := Bk7 HR6.out; have f0 := HR6.out.frozen 0; have f1 := HR6.out.frozen 1; have f2 := HR6.out.frozen 2; have f3 := HR6.out.frozen 3; have f4 := HR6.out.frozen 4; have f5 := HR6.out.frozen 5; have f6 := HR6.out.frozen 6))
  all_goals
    go_wp2
    have HR7 := HR6.out.set7 (.int .i64 vo) (.string vs) (.int .i64 vk) (.int .i64 vn) (.string vt) (.slice va vm vc) (.slice vb vq vd)
    obtain ⟨q0, q1, q2, q3, q4, q5, q6⟩ := Bk7 HR7
    clear k0 k1 k2 k3 k4 k5 k6 j0 j1 j2 j3 j4 j5 j6 HR7
    unfold wset7 at q0 q1 q2 q3 q4 q5 q6
    (try simp only [Exit.inBlock, Exit.then])
    refine bodyPost_ret (by simp [results, Tryz.results217, go_sem, q0, q1, q2, q3, q4, q5, q6]; try rfl) rfl ?_
    refine ⟨_, rfl, ?_, (h5.keep hb6).set7 hrl _ _ _ _ _ _ _, ((((((((((((But.refl r w).alloc _).alloc _).trans HB2.out).trans HB3.out).alloc _).alloc _).trans HB4.out).drew).trans hb5).trans (But.of_below hb6)).set7 (Nat.le_refl _) _ _ _ _ _ _ _)⟩
    exact ExAt.mono (fun b _ hn => by omega) (ex_set7 hz (fun b hn => by omega) _ _ _ _ _ _ _)
theorem not217_e (mixed : Tryz.prog.follows .mixedOrders = true) (r : Nat) (ts : List Tk) (s : St) (w : World) (h : RdAt r ts s w) (c : ByteArray) (s1 s2 s3 s4 : St) (x y2 : Ex) (hq1 : sgn [sNot, sBang] s = (none, s1)) (hq2 : sgn cmps s2 = (some c, s3)) (hcs : sNe.size <= mx) (hce : c.toList.isEmpty = false /\ ¬ c.toList = []) (hc3 : c.toList = [33, 61]) (hA : ∀ w, RdAt r ts s1 w -> Calls Tryz.prog 295 #[rp r] w fun e w' => ∃ u, e = .returned u /\ ExAt (w.heap.size <= ·) w' x u /\ RdAt r ts s2 w' /\ But r w w') (hB : ∀ w, RdAt r ts s3 w -> Calls Tryz.prog 295 #[rp r] w fun e w' => ∃ u, e = .returned u /\ ExAt (w.heap.size <= ·) w' y2 u /\ RdAt r ts s4 w' /\ But r w w') :
    Calls Tryz.prog 217 #[rp r] w fun e w' => ∃ u, e = .returned u /\ ExAt (w.heap.size <= ·) w' (.bin sNe x y2) u /\ RdAt r ts s4 w' /\ But r w w' := by
  have hrl := h.lt
  have H := Lib.hid h
  have TOK1 := Lib.hid True.intro
  have TOK2 := Lib.hid True.intro
  clear h
  have he1 : ByteArray.empty.toList.isEmpty = true := by decide +kernel
  have he2 : ByteArray.empty.toList = [] := by decide +kernel
  have A := Lib.hid hA
  have AB := Lib.hid hB
  have HCS := Lib.hid hcs
  obtain ⟨hc1, hc2⟩ := hce
  skip
  clear hA hB hcs
  go_enter Tryz.func217, Tryz.ntmps217
  go_wp2_with (first
    | (go_at_call 294; clear TOK1; have STR : StrsAt (· ≠ r) ((w.alloc (.cells #[.int .i64 0, .string ⟨#[]⟩, .int .i64 0, .int .i64 0, .string ⟨#[]⟩, .slice none 0 0, .slice none 0 0] 55)).alloc (.cells #[.string ⟨#[46, 78, 79, 84, 46]⟩, .string ⟨#[33]⟩] 9)) (.slice (some ⟨w.heap.size + 1, 0, none⟩) 2 2) [sNot, sBang] := (by have h0 := strs_lit (r := r) (w := w.alloc (.cells #[.int .i64 0, .string ⟨#[]⟩, .int .i64 0, .int .i64 0, .string ⟨#[]⟩, .slice none 0 0, .slice none 0 0] 55)) [sNot, sBang] (by decide) (by decide) (H.out.alloc _).lt 2; rw [show (w.alloc (.cells #[.int .i64 0, .string ⟨#[]⟩, .int .i64 0, .int .i64 0, .string ⟨#[]⟩, .slice none 0 0, .slice none 0 0] 55)).heap.size = w.heap.size + 1 by simp] at h0; exact h0); have SG := sign294 mixed r ts s [sNot, sBang] _ _ ((H.out.alloc (.cells #[.int .i64 0, .string ⟨#[]⟩, .int .i64 0, .int .i64 0, .string ⟨#[]⟩, .slice none 0 0, .slice none 0 0] 55)).alloc (.cells #[.string ⟨#[46, 78, 79, 84, 46]⟩, .string ⟨#[33]⟩] 9)) STR; rw [hq1] at SG; refine SG.mono ?_; clear SG STR; rintro e w2 ⟨rfl, h2, hb2⟩; have H2 := Lib.hid h2; have HB2 := Lib.hid hb2; have HR2 := Lib.hid ((((Bk.new w 55 #[.int .i64 0, .string ⟨#[]⟩, .int .i64 0, .int .i64 0, .string ⟨#[]⟩, .slice none 0 0, .slice none 0 0]).alloc (.cells #[.string ⟨#[46, 78, 79, 84, 46]⟩, .string ⟨#[33]⟩] 9)).but hb2 (Nat.ne_of_gt hrl))); clear h2 hb2)
    | (go_at_call 295; clear TOK2; refine (A.out _ H2.out).mono ?_; clear A; rintro e w3 ⟨u, rfl, hx, h3, hb3⟩; obtain ⟨xo, xs, xk, xn, xt, xa, xm, xc, xb, xq, xd, rfl⟩ := hx.form; have HX := Lib.hid hx; have H3 := Lib.hid h3; have HB3 := Lib.hid hb3; have HR3 := Lib.hid (HR2.out.but hb3 (Nat.ne_of_gt hrl)); clear hx h3 hb3)
    | (go_at_call 294; have STR : StrsAt (· ≠ r) ((w3.alloc (.cells #[.int .i64 xo, .string xs, .int .i64 xk, .int .i64 xn, .string xt, .slice xa xm xc, .slice xb xq xd] 55)).alloc (.cells #[.string ⟨#[61]⟩, .string ⟨#[61, 61]⟩, .string ⟨#[60, 62]⟩, .string ⟨#[35]⟩, .string ⟨#[33, 61]⟩, .string ⟨#[60]⟩, .string ⟨#[62]⟩, .string ⟨#[60, 61]⟩, .string ⟨#[62, 61]⟩, .string ⟨#[36]⟩] 9)) (.slice (some ⟨w3.heap.size + 1, 0, none⟩) 10 10) cmps := (by have h0 := strs_lit (r := r) (w := w3.alloc (.cells #[.int .i64 xo, .string xs, .int .i64 xk, .int .i64 xn, .string xt, .slice xa xm xc, .slice xb xq xd] 55)) cmps (by decide) (by decide) (H3.out.alloc _).lt 10; rw [show (w3.alloc (.cells #[.int .i64 xo, .string xs, .int .i64 xk, .int .i64 xn, .string xt, .slice xa xm xc, .slice xb xq xd] 55)).heap.size = w3.heap.size + 1 by simp] at h0; exact h0); have SG := sign294 mixed r ts s2 cmps _ _ ((H3.out.alloc (.cells #[.int .i64 xo, .string xs, .int .i64 xk, .int .i64 xn, .string xt, .slice xa xm xc, .slice xb xq xd] 55)).alloc (.cells #[.string ⟨#[61]⟩, .string ⟨#[61, 61]⟩, .string ⟨#[60, 62]⟩, .string ⟨#[35]⟩, .string ⟨#[33, 61]⟩, .string ⟨#[60]⟩, .string ⟨#[62]⟩, .string ⟨#[60, 61]⟩, .string ⟨#[62, 61]⟩, .string ⟨#[36]⟩] 9)) STR; rw [hq2] at SG; refine SG.mono ?_; clear SG STR; rintro e w4 ⟨rfl, h4, hb4⟩; have hX : w3.heap.size ≠ r := (by have := HB3.out.size; have := HB2.out.size; simp at this; omega); have H4 := Lib.hid h4; have HB4 := Lib.hid hb4; have HK4 := Lib.hid (((Bk.new w3 55 #[.int .i64 xo, .string xs, .int .i64 xk, .int .i64 xn, .string xt, .slice xa xm xc, .slice xb xq xd]).alloc (.cells #[.string ⟨#[61]⟩, .string ⟨#[61, 61]⟩, .string ⟨#[60, 62]⟩, .string ⟨#[35]⟩, .string ⟨#[33, 61]⟩, .string ⟨#[60]⟩, .string ⟨#[62]⟩, .string ⟨#[60, 61]⟩, .string ⟨#[62, 61]⟩, .string ⟨#[36]⟩] 9)).but hb4 hX); have HR4 := Lib.hid (((HR3.out.alloc (.cells #[.int .i64 xo, .string xs, .int .i64 xk, .int .i64 xn, .string xt, .slice xa xm xc, .slice xb xq xd] 55)).alloc (.cells #[.string ⟨#[61]⟩, .string ⟨#[61, 61]⟩, .string ⟨#[60, 62]⟩, .string ⟨#[35]⟩, .string ⟨#[33, 61]⟩, .string ⟨#[60]⟩, .string ⟨#[62]⟩, .string ⟨#[60, 61]⟩, .string ⟨#[62, 61]⟩, .string ⟨#[36]⟩] 9)).but hb4 (Nat.ne_of_gt hrl)); obtain ⟨k0, k1, k2, k3, k4, k5, k6⟩ := Bk7 HK4.out; obtain ⟨r0, r1, r2, r3, r4, r5, r6⟩ := Bk7 HR4.out; have f0 := HR4.out.frozen 0; have f1 := HR4.out.frozen 1; have f2 := HR4.out.frozen 2; have f3 := HR4.out.frozen 3; have f4 := HR4.out.frozen 4; have f5 := HR4.out.frozen 5; have f6 := HR4.out.frozen 6; clear h4 hb4))
  skip
  have s2 := HB2.out.size
  have s3 := HB3.out.size
  have s4 := HB4.out.size
  simp at s2 s4
  clear r0 r1 r2 r3 r4 r5 r6 f0 f1 f2 f3 f4 f5 f6
  go_region_with (first
    | (go_at_call 295; refine (AB.out _ H4.out.drew).mono ?_; rintro e w5 ⟨u2, rfl, hy, h5, hb5⟩; obtain ⟨yo, ys, yk, yn, yt, ya, ym, yc, yb, yq, yd, rfl⟩ := hy.form; have HK5 := HK4.out.drew.but hb5 hX; have HR5 := HR4.out.drew.but hb5 (Nat.ne_of_gt hrl); obtain ⟨j0, j1, j2, j3, j4, j5, j6⟩ := Bk7 HK5)
    | (go_at_call 133; refine (bin133 (fun b => w.heap.size + 1 <= b) sNe x y2 _ _ w5 HCS.out (ex_keep (ex_drew (ex_keep (((ExAt.mono (fun b hb hn => by omega) HX.out).below (below_a _)).below (below_a _)) HB4.out (fun b hn => by omega))) hb5 (fun b hn => by omega)) (ExAt.mono (fun b _ hn => by have h1 : w4.heap.size <= b := hn; omega) hy) (fun b hn => by have := HR5.lt; omega)).mono ?_; rintro e w6 ⟨z, rfl, hz, hb6⟩; obtain ⟨vo, vs, vk, vn, vt, va, vm, vc, vb, vq, vd, rfl⟩ := hz.form; have HR6 := Lib.hid (HR5.keep hb6); clear j0 j1 j2 j3 j4 j5 j6; obtain ⟨j0, j1, j2, j3, j4, j5, j6⟩ := Bk7 HR6.out; have f0 := HR6.out.frozen 0; have f1 := HR6.out.frozen 1; have f2 := HR6.out.frozen 2; have f3 := HR6.out.frozen 3; have f4 := HR6.out.frozen 4; have f5 := HR6.out.frozen 5; have f6 := HR6.out.frozen 6))
  all_goals
    go_wp2
    have HR7 := HR6.out.set7 (.int .i64 vo) (.string vs) (.int .i64 vk) (.int .i64 vn) (.string vt) (.slice va vm vc) (.slice vb vq vd)
    obtain ⟨q0, q1, q2, q3, q4, q5, q6⟩ := Bk7 HR7
    clear k0 k1 k2 k3 k4 k5 k6 j0 j1 j2 j3 j4 j5 j6 HR7
    unfold wset7 at q0 q1 q2 q3 q4 q5 q6
    (try simp only [Exit.inBlock, Exit.then])
    refine bodyPost_ret (by simp [results, Tryz.results217, go_sem, q0, q1, q2, q3, q4, q5, q6]; try rfl) rfl ?_
    refine ⟨_, rfl, ?_, (h5.keep hb6).set7 hrl _ _ _ _ _ _ _, ((((((((((((But.refl r w).alloc _).alloc _).trans HB2.out).trans HB3.out).alloc _).alloc _).trans HB4.out).drew).trans hb5).trans (But.of_below hb6)).set7 (Nat.le_refl _) _ _ _ _ _ _ _)⟩
    exact ExAt.mono (fun b _ hn => by omega) (ex_set7 hz (fun b hn => by omega) _ _ _ _ _ _ _)
theorem unary518_a (mixed : Tryz.prog.follows .mixedOrders = true) (r : Nat) (ts : List Tk) (s : St) (w : World) (h : RdAt r ts s w) (s2 : St) (x : Ex) (ht : (take sMinus s).1 = true)
    (hA : ∀ w, RdAt r ts (take sMinus s).2 w -> Calls Tryz.prog 518 #[rp r] w fun e w' => ∃ u, e = .returned u /\ ExAt (w.heap.size <= ·) w' x u /\ RdAt r ts s2 w' /\ But r w w') :
    Calls Tryz.prog 518 #[rp r] w fun e w' => ∃ u, e = .returned u /\ ExAt (w.heap.size <= ·) w' (.un sMinus x) u /\ RdAt r ts s2 w' /\ But r w w' := by
  have hrl := h.lt
  have H := Lib.hid h
  have A := Lib.hid hA
  have T := Lib.hid (take132 mixed r ts s sMinus _ (h.alloc (.cells #[.int .i64 0, .string ⟨#[]⟩, .int .i64 0, .int .i64 0, .string ⟨#[]⟩, .slice none 0 0, .slice none 0 0] 55)))
  rw [ht] at T
  clear h hA ht
  go_enter Tryz.func518, Tryz.ntmps518
  go_wp2_with (first
    | (go_at_call 132; refine T.out.mono ?_; clear T; rintro e w2 ⟨rfl, h2, hb2⟩; have H2 := Lib.hid h2; have HB2 := Lib.hid hb2; have HR2 := Lib.hid ((Bk.new w 55 #[.int .i64 0, .string ⟨#[]⟩, .int .i64 0, .int .i64 0, .string ⟨#[]⟩, .slice none 0 0, .slice none 0 0]).but hb2 (Nat.ne_of_gt hrl)); clear h2 hb2)
    | (go_at_call 518; refine (A.out _ H2.out).mono ?_; clear A; rintro e w3 ⟨u, rfl, hx, h3, hb3⟩; obtain ⟨xo, xs, xk, xn, xt, xa, xm, xc, xb, xq, xd, rfl⟩ := hx.form; have HX := Lib.hid hx; have H3 := Lib.hid h3; have HB3 := Lib.hid hb3; have HR3 := Lib.hid ((HR2.out.but hb3 (Nat.ne_of_gt hrl)).alloc (.cells #[.int .i64 xo, .string xs, .int .i64 xk, .int .i64 xn, .string xt, .slice xa xm xc, .slice xb xq xd] 55)); obtain ⟨r0, r1, r2, r3, r4, r5, r6⟩ := Bk7 HR3.out; have f0 := HR3.out.frozen 0; have f1 := HR3.out.frozen 1; have f2 := HR3.out.frozen 2; have f3 := HR3.out.frozen 3; have f4 := HR3.out.frozen 4; have f5 := HR3.out.frozen 5; have f6 := HR3.out.frozen 6; clear hx h3 hb3))
  have s2 := HB2.out.size
  have s3 := HB3.out.size
  simp at s2
  have HR7 := HR3.out.set7 (.int .i64 4) (.string sMinus) (.int .i64 0) (.int .i64 0) (.string ⟨#[]⟩) (.slice none 0 0) (.slice (some ⟨w3.heap.size, 0, none⟩) 1 1)
  obtain ⟨q0, q1, q2, q3, q4, q5, q6⟩ := Bk7 HR7
  clear r0 r1 r2 r3 r4 r5 r6 HR7
  unfold wset7 sMinus at q0 q1 q2 q3 q4 q5 q6
  refine bodyPost_ret (by simp [results, Tryz.results518, go_sem, q0, q1, q2, q3, q4, q5, q6]; try rfl) rfl ?_
  refine ⟨_, rfl, ?_, (H3.out.alloc _).set7 hrl _ _ _ _ _ _ _, (((((((But.refl r w).alloc _).trans HB2.out).trans HB3.out).alloc _).set7 (Nat.le_refl _) _ _ _ _ _ _ _))⟩
  have hx1 := ExAt.mono (M := fun b => w.heap.size + 1 <= b) (fun b _ hn => by omega) (HX.out.below (below_a (.cells #[.int .i64 xo, .string xs, .int .i64 xk, .int .i64 xn, .string xt, .slice xa xm xc, .slice xb xq xd] 55)))
  have hx2 := ex_set7 (g := w.heap.size) hx1 (fun b hn => by omega) (.int .i64 4) (.string sMinus) (.int .i64 0) (.int .i64 0) (.string ⟨#[]⟩) (.slice none 0 0) (.slice (some ⟨w3.heap.size, 0, none⟩) 1 1)
  exact ExAt.mono (fun b _ hn => by omega) (ex_mk (v := vd0) (by decide) (by decide) (strs_nil _ _) (exs_one hx2 (Bk.set7o (Bk.new _ _ _) (by omega) _ _ _ _ _ _ _) (by omega)))
theorem unary518_b (mixed : Tryz.prog.follows .mixedOrders = true) (f : Nat) (hI : RE 572 pPrim f) (hE : ∀ g, g <= f -> RE 72 pExpr g) (r : Nat) (ts : List Tk) (s : St) (w : World) (h : RdAt r ts s w) (y : Ex) (s' : St) (ht : (take sMinus s).1 = false)
    (hp : ((pPrim f s).bind fun q => lIdx f q.1 q.2) = some (y, s')) :
    Calls Tryz.prog 518 #[rp r] w fun e w' => ∃ u, e = .returned u /\ ExAt (w.heap.size <= ·) w' y u /\ RdAt r ts s' w' /\ But r w w' := by
  obtain ⟨⟨x0, s0⟩, ha, hl⟩ := Option.bind_eq_some_iff.1 hp
  have A := Lib.hid (fun w h => hI r ts s x0 s0 w ha h)
  have HE := Lib.hid hE
  have HL := Lib.hid hl
  have hrl := h.lt
  have H := Lib.hid h
  have T0 := Lib.hid (take132 mixed r ts s sMinus _ (h.alloc (.cells #[.int .i64 0, .string ⟨#[]⟩, .int .i64 0, .int .i64 0, .string ⟨#[]⟩, .slice none 0 0, .slice none 0 0] 55)))
  have hss : (take sMinus s).2 = s := by revert ht; unfold take; split <;> simp
  rw [ht, hss] at T0
  have TOK1 := Lib.hid True.intro
  clear hI hE hl h ha hp ht hss
  go_enter Tryz.func518, Tryz.ntmps518
  go_wp2_with (first
    | (go_at_call 132; refine T0.out.mono ?_; clear T0; rintro e w0 ⟨rfl, h0, hb0⟩; have H0 := Lib.hid h0; have HB0 := Lib.hid hb0; have HR0 := Lib.hid ((Bk.new w 55 #[.int .i64 0, .string ⟨#[]⟩, .int .i64 0, .int .i64 0, .string ⟨#[]⟩, .slice none 0 0, .slice none 0 0]).but hb0 (Nat.ne_of_gt hrl)); clear h0 hb0)
    | (go_at_call 572; refine (A.out _ H0.out).mono ?_; clear A; rintro e w1 ⟨u, rfl, hx, h1, hb1⟩; obtain ⟨xo, xs, xk, xn, xt, xa, xm, xc, xb, xq, xd, rfl⟩ := hx.form; have HX := Lib.hid hx; have H1 := Lib.hid h1; have HB1 := Lib.hid hb1; clear hx h1 hb1))
  have t0 := HB0.out.size
  have t1 := HB1.out.size
  simp at t0
  go_loopg [] f (fun gk wr => ∃ (g : Nat) (x : Ex) (s1 : St) (us : Array Value), g <= gk /\ g <= f /\ lIdx g x s1 = some (y, s') /\ Bk wr w1.heap.size 55 us /\ Bk wr w.heap.size 55 #[.int .i64 0, .string ⟨#[]⟩, .int .i64 0, .int .i64 0, .string ⟨#[]⟩, .slice none 0 0, .slice none 0 0] /\ ExAt (fun b => w.heap.size + 1 <= b /\ b ≠ w1.heap.size) wr x (.agg us) /\ RdAt r ts s1 wr /\ But r w wr)
  case atStart =>
    refine ⟨f, x0, s0, _, Nat.le_refl _, Nat.le_refl _, HL.out, Bk.new _ _ _, (HR0.out.but HB1.out (Nat.ne_of_gt hrl)).alloc _, ?_, H1.out.alloc _, ((((But.refl r w).alloc _).trans HB0.out).trans HB1.out).alloc _⟩
    exact (ExAt.mono (fun b hb hn => ⟨by omega, by omega⟩) HX.out).below (below_a _)
  case round =>
    obtain ⟨g, x, s1, us, g1, g2, hl, hk1, hk2, hx, hr, hb⟩ := hrel
    obtain ⟨xo, xs, xk, xn, xt, xa, xm, xc, xb, xq, xd, e⟩ := hx.form
    cases e
    have hX : w1.heap.size ≠ r := by omega
    have hX2 : w.heap.size < w1.heap.size := by omega
    have HXX := Lib.hid hx
    have HB := Lib.hid hb
    have HK2 := Lib.hid hk2
    have HK1 := Lib.hid hk1
    have T := Lib.hid (take132 mixed r ts s1 sLb wr hr)
    have HTF : Hid ((take sLb s1).1 = false -> (take sLb s1).2 = s1) := Lib.hid (by unfold take; split <;> simp)
    obtain ⟨g, rfl⟩ : ∃ j, g = j + 1 := by
      cases g with
      | zero => unfold lIdx at hl; cases hl
      | succ j => exact ⟨j, rfl⟩
    unfold lIdx at hl
    clear hx hr hb hk1 hk2 HX H1
    cases ht : (take sLb s1).1 with
    | true =>
      rw [ht, if_pos rfl] at hl
      obtain ⟨⟨y2, s2⟩, hp2, hl2⟩ := Option.bind_eq_some_iff.1 hl
      have HL2 := Lib.hid hl2
      have A2 := Lib.hid (fun w h => HE.out g (by omega) r ts _ y2 s2 w hp2 h)
      rw [ht] at T
      clear hl hl2 hp2
      go_wp2_with (first
        | (go_at_call 132; refine T.out.mono ?_; clear T; rintro e w2 ⟨rfl, h2, hb2⟩; have HK3 := Lib.hid (HK1.out.but hb2 hX); have H2 := Lib.hid h2; have HB2 := Lib.hid hb2; clear h2 hb2)
        | (go_at_call 72; refine (A2.out _ H2.out).mono ?_; rintro e w3 ⟨u2, rfl, hy, h3, hb3⟩; obtain ⟨yo, ys, yk, yn, yt, ya, ym, yc, yb, yq, yd, rfl⟩ := hy.form; have HY := Lib.hid hy; have H3 := Lib.hid h3; have HB3 := Lib.hid hb3; have HK4 := Lib.hid (HK3.out.but hb3 hX); clear hy h3 hb3)
        | (go_at_call 573; refine (want573 mixed r ts s2 sRb _ (H3.out.alloc (.cells #[.int .i64 yo, .string ys, .int .i64 yk, .int .i64 yn, .string yt, .slice ya ym yc, .slice yb yq yd] 55))).mono ?_; rintro e w4 ⟨rfl, h4, hb4⟩; have H4 := Lib.hid h4; have HB4 := Lib.hid hb4; have HK5 := Lib.hid ((HK4.out.alloc (.cells #[.int .i64 yo, .string ys, .int .i64 yk, .int .i64 yn, .string yt, .slice ya ym yc, .slice yb yq yd] 55)).but hb4 hX); have HY5 := Lib.hid ((Bk.new w3 55 #[.int .i64 yo, .string ys, .int .i64 yk, .int .i64 yn, .string yt, .slice ya ym yc, .slice yb yq yd]).but hb4 (by have := H3.out.lt; omega)); obtain ⟨j0, j1, j2, j3, j4, j5, j6⟩ := Bk7 HK5.out; obtain ⟨i0, i1, i2, i3, i4, i5, i6⟩ := Bk7 HY5.out; have HK6 := Lib.hid (HK5.out.alloc (.cells #[.int .i64 xo, .string xs, .int .i64 xk, .int .i64 xn, .string xt, .slice xa xm xc, .slice xb xq xd, .int .i64 yo, .string ys, .int .i64 yk, .int .i64 yn, .string yt, .slice ya ym yc, .slice yb yq yd] 55)); obtain ⟨l0, l1, l2, l3, l4, l5, l6⟩ := Bk7 HK6.out; have f0 := HK6.out.frozen 0; have f1 := HK6.out.frozen 1; have f2 := HK6.out.frozen 2; have f3 := HK6.out.frozen 3; have f4 := HK6.out.frozen 4; have f5 := HK6.out.frozen 5; have f6 := HK6.out.frozen 6; clear h4 hb4))
      have u2 := HB2.out.size
      have u3 := HB3.out.size
      have u4 := HB4.out.size
      have u5 := HK1.out.lt
      simp at u4
      go_roundg g
      case measure => omega
      case rel =>
        refine ⟨g, .mk 6 ByteArray.empty vd0 [] [x, y2], want sRb s2, #[.int .i64 6, .string ⟨#[]⟩, .int .i64 0, .int .i64 0, .string ⟨#[]⟩, .slice none 0 0, .slice (some ⟨w4.heap.size, 0, none⟩) 2 2], Nat.le_refl _, by omega, HL2.out, HK6.out.set7 _ _ _ _ _ _ _, ?_, ?_, (H4.out.alloc _).set7 (by omega) _ _ _ _ _ _ _, ?_⟩
        · exact Bk.set7o (((((HK2.out.but HB2.out (Nat.ne_of_gt hrl)).but HB3.out (Nat.ne_of_gt hrl)).alloc _).but HB4.out (Nat.ne_of_gt hrl)).alloc _) (by omega) _ _ _ _ _ _ _
        · have hx2 : ExAt (fun b => w.heap.size + 1 <= b /\ b ≠ w1.heap.size) (w4.alloc (.cells #[.int .i64 xo, .string xs, .int .i64 xk, .int .i64 xn, .string xt, .slice xa xm xc, .slice xb xq xd, .int .i64 yo, .string ys, .int .i64 yk, .int .i64 yn, .string yt, .slice ya ym yc, .slice yb yq yd] 55)) x (.agg #[.int .i64 xo, .string xs, .int .i64 xk, .int .i64 xn, .string xt, .slice xa xm xc, .slice xb xq xd]) := (ex_keep ((ex_keep (ex_keep HXX.out HB2.out (fun b hn => by omega)) HB3.out (fun b hn => by omega)).below (below_a _)) HB4.out (fun b hn => by omega)).below (below_a _)
          have hy2 : ExAt (fun b => w.heap.size + 1 <= b /\ b ≠ w1.heap.size) (w4.alloc (.cells #[.int .i64 xo, .string xs, .int .i64 xk, .int .i64 xn, .string xt, .slice xa xm xc, .slice xb xq xd, .int .i64 yo, .string ys, .int .i64 yk, .int .i64 yn, .string yt, .slice ya ym yc, .slice yb yq yd] 55)) y2 (.agg #[.int .i64 yo, .string ys, .int .i64 yk, .int .i64 yn, .string yt, .slice ya ym yc, .slice yb yq yd]) := (ex_keep ((ExAt.mono (fun b _ hn => by have h1 : w2.heap.size <= b := hn; omega) HY.out).below (below_a _)) HB4.out (fun b hn => by omega)).below (below_a _)
          exact ex_mk (v := vd0) (by decide) (by decide) (strs_nil _ _) (exs_two (ex_set7 hx2 (fun b hn => hn.2) _ _ _ _ _ _ _) (ex_set7 hy2 (fun b hn => hn.2) _ _ _ _ _ _ _) (Bk.set7o (Bk.new _ _ _) (by omega) _ _ _ _ _ _ _) (by omega))
        · exact (((((HB.out.trans HB2.out).trans HB3.out).alloc _).trans HB4.out).alloc _).set7 (by omega) _ _ _ _ _ _ _
    | false =>
      have hss := HTF.out ht
      rw [ht, if_neg (by decide)] at hl
      obtain ⟨rfl, rfl⟩ : x = y /\ s1 = s' := by cases hl; exact ⟨rfl, rfl⟩
      rw [ht, hss] at T
      clear hl hss
      obtain ⟨r0, r1, r2, r3, r4, r5, r6⟩ := Bk7 HK2.out
      go_wp2_with (first | (go_at_call 132; refine T.out.mono ?_; clear T; rintro e w2 ⟨rfl, h2, hb2⟩; have HK3 := Lib.hid (HK1.out.but hb2 hX); have HK4 := Lib.hid (HK2.out.but hb2 (Nat.ne_of_gt hrl)); obtain ⟨k0, k1, k2, k3, k4, k5, k6⟩ := Bk7 HK3.out; clear r0 r1 r2 r3 r4 r5 r6; obtain ⟨r0, r1, r2, r3, r4, r5, r6⟩ := Bk7 HK4.out; have f0 := HK4.out.frozen 0; have f1 := HK4.out.frozen 1; have f2 := HK4.out.frozen 2; have f3 := HK4.out.frozen 3; have f4 := HK4.out.frozen 4; have f5 := HK4.out.frozen 5; have f6 := HK4.out.frozen 6; have H2 := Lib.hid h2; have HB2 := Lib.hid hb2; clear h2 hb2))
      have HR7 := HK4.out.set7 (.int .i64 xo) (.string xs) (.int .i64 xk) (.int .i64 xn) (.string xt) (.slice xa xm xc) (.slice xb xq xd)
      obtain ⟨q0, q1, q2, q3, q4, q5, q6⟩ := Bk7 HR7
      clear k0 k1 k2 k3 k4 k5 k6 r0 r1 r2 r3 r4 r5 r6 HR7
      unfold wset7 at q0 q1 q2 q3 q4 q5 q6
      refine bodyPost_ret (by simp [results, Tryz.results518, go_sem, q0, q1, q2, q3, q4, q5, q6]; try rfl) rfl ?_
      refine ⟨_, rfl, ?_, H2.out.set7 hrl _ _ _ _ _ _ _, (HB.out.trans HB2.out).set7 (Nat.le_refl _) _ _ _ _ _ _ _⟩
      exact ExAt.mono (fun b _ hn => by omega) (ex_set7 (ex_keep HXX.out HB2.out (fun b hn => by omega)) (fun b hn => by omega) _ _ _ _ _ _ _)
theorem unary518 (mixed : Tryz.prog.follows .mixedOrders = true) (f : Nat) (hU : RE 518 pUn f) (hI : RE 572 pPrim f) (hE : ∀ g, g <= f -> RE 72 pExpr g) : RE 518 pUn (f + 1) := by
  intro r ts s y s' w hp h
  unfold pUn at hp
  cases ht : (take sMinus s).1 with
  | true =>
    rw [ht, if_pos rfl] at hp
    obtain ⟨⟨x, s2⟩, h1, h2⟩ := Option.bind_eq_some_iff.1 hp
    obtain ⟨rfl, rfl⟩ : Ex.un sMinus x = y /\ s2 = s' := by cases h2; exact ⟨rfl, rfl⟩
    exact unary518_a mixed r ts s w h s2 x ht (fun w h => hU r ts _ x s2 w h1 h)
  | false =>
    rw [ht, if_neg (by decide)] at hp
    exact unary518_b mixed f hI hE r ts s w h y s' ht hp
theorem not217 (mixed : Tryz.prog.follows .mixedOrders = true) (f : Nat) (hN : RE 217 pNot f) (hS : RE 295 pSum f) : RE 217 pNot (f + 1) := by
  intro r ts s y s' w hp h
  unfold pNot at hp
  have hnone : ∀ (l : List ByteArray) (s : St) (s1 : St), sgn l s = (none, s1) -> s1 = s := by
    intro l
    induction l with
    | nil => intro s s1 h; simp [sgn] at h; exact h.symm
    | cons a l ih =>
      intro s s1 h
      unfold sgn at h
      split at h
      · cases h
      · exact ih _ _ h
  rcases hq : sgn [sNot, sBang] s with ⟨so, s1⟩
  rw [hq] at hp
  cases so with
  | some c =>
    simp only [Option.isSome_some, if_true] at hp
    obtain ⟨⟨x, s2⟩, h1, h2⟩ := Option.bind_eq_some_iff.1 hp
    obtain ⟨rfl, rfl⟩ : Ex.un sNot x = y /\ s2 = s' := by cases h2; exact ⟨rfl, rfl⟩
    have hc := sgn_memR _ _ _ _ hq
    simp only [List.mem_cons, List.not_mem_nil, or_false] at hc
    exact not217_a mixed r ts s w h c s1 s2 x hq hc (fun w h => hN r ts _ x s2 w h1 h)
  | none =>
    simp only [Option.isSome_none, if_false, Bool.false_eq_true] at hp
    have e1 := hnone _ _ _ hq
    subst e1
    obtain ⟨⟨x, s2⟩, h1, h2⟩ := Option.bind_eq_some_iff.1 hp
    simp only at h2
    rcases hq2 : sgn cmps s2 with ⟨so2, s3⟩
    rw [hq2] at h2
    cases so2 with
    | none =>
      obtain ⟨rfl, rfl⟩ : x = y /\ s3 = s' := by cases h2; exact ⟨rfl, rfl⟩
      exact not217_b mixed r ts _ w h _ s2 s3 x hq hq2 (fun w h => hS r ts _ x s2 w h1 h)
    | some c =>
      obtain ⟨⟨y2, s4⟩, h3, h4⟩ := Option.bind_eq_some_iff.1 h2
      obtain ⟨rfl, rfl⟩ : Ex.bin (norm c) x y2 = y /\ s4 = s' := by cases h4; exact ⟨rfl, rfl⟩
      have hc := sgn_memR _ _ _ _ hq2
      have hB : ∀ w, RdAt r ts s3 w -> Calls Tryz.prog 295 #[rp r] w fun e w' => ∃ u, e = .returned u /\ ExAt (w.heap.size <= ·) w' y2 u /\ RdAt r ts s4 w' /\ But r w w' := fun w h => hS r ts _ y2 s4 w h3 h
      have hA := fun w (h : RdAt r ts s1 w) => hS r ts _ x s2 w h1 h
      simp only [cmps, List.mem_cons, List.not_mem_nil, or_false] at hc
      have hsz : c.size <= mx /\ c.toList.isEmpty = false /\ ¬ c.toList = [] := by
        rcases hc with rfl | rfl | rfl | rfl | rfl | rfl | rfl | rfl | rfl | rfl <;> exact ⟨by decide, by decide +kernel, by decide +kernel⟩
      by_cases c1 : c = sHash
      · subst c1
        exact not217_d mixed r ts _ w h sHash _ s2 s3 s4 x y2 hq hq2 (by decide) hsz.2 (by decide +kernel) hA hB
      by_cases c2 : c = sBangEq
      · subst c2
        exact not217_e mixed r ts _ w h sBangEq _ s2 s3 s4 x y2 hq hq2 (by decide) hsz.2 (by decide +kernel) hA hB
      have hn : norm c = c := by unfold norm; rw [if_neg]; simp [c1, c2]
      rw [hn]
      refine not217_c mixed r ts _ w h c _ s2 s3 s4 x y2 hq hq2 hsz.1 hsz.2 ⟨?_, ?_⟩ hA hB
      · intro e; apply c1
        have := (Lib.bytes_beq_iff c sHash).1 (by rw [e]; decide +kernel)
        exact this
      · intro e; apply c2
        have := (Lib.bytes_beq_iff c sBangEq).1 (by rw [e]; decide +kernel)
        exact this
def RLs (fn : Nat) (p : Nat -> St -> Option (List Ex × St)) (f : Nat) : Prop := ∀ (r : Nat) (ts : List Tk) (s : St) (l : List Ex) (s' : St) (w : World), p f s = some (l, s') -> RdAt r ts s w ->
  Calls Tryz.prog fn #[rp r] w fun e w' => ∃ v, e = .returned v /\ ExsAt (w.heap.size <= ·) w' l v /\ RdAt r ts s' w' /\ But r w w'
def RC (f : Nat) : Prop := ∀ (r : Nat) (ts : List Tk) (c : ByteArray) (s : St) (l : List Ex) (s' : St) (w : World), pClosed f c s = some (l, s') -> RdAt r ts s w ->
  Calls Tryz.prog 628 #[rp r, .string c] w fun e w' => ∃ v, e = .returned v /\ ExsAt (w.heap.size <= ·) w' l v /\ RdAt r ts s' w' /\ But r w w'
theorem exs_keep {N : Nat -> Prop} {w w' : World} {l : List Ex} {v : Value} {r : Nat} (h : ExsAt N w l v) (hb : But r w w') (hr : ∀ b, N b -> b ≠ r) : ExsAt N w' l v :=
  ExsAt.keep h (fun b hn hb' o => hb.cell (p := ⟨b, o, none⟩) hb' (hr b hn))
theorem rname_sz (s : St) : (rname s).1.size <= mx := by
  unfold rname
  split
  · show ByteArray.empty.size <= mx; decide
  · rename_i h
    simp only [Bool.or_eq_true, decide_eq_true_eq, not_or] at h
    have := h.2
    show (tok s 0).t.size <= mx
    unfold mx; omega
theorem closed628 (mixed : Tryz.prog.follows .mixedOrders = true) (f : Nat) (hI : RLs 630 pList f) : RC (f + 1) := by
  intro r ts c s l s' w hp h
  unfold pClosed at hp
  have hrl := h.lt
  have H := Lib.hid h
  have T := Lib.hid (take132 mixed r ts s c w h)
  have hss : (take c s).1 = false -> (take c s).2 = s := by unfold take; split <;> simp
  cases ht : (take c s).1 with
  | true =>
    rw [ht, if_pos rfl] at hp
    rw [ht] at T
    obtain ⟨rfl, rfl⟩ : [] = l /\ (take c s).2 = s' := by cases hp; exact ⟨rfl, rfl⟩
    clear hp hss h hI
    go_enter Tryz.func628, Tryz.ntmps628
    go_wp2_with (first | (go_at_call 132; refine T.out.mono ?_; clear T; rintro e w1 ⟨rfl, h1, hb1⟩))
    go_ret
    exact ⟨_, rfl, exs_nil _ _, h1, hb1⟩
  | false =>
    rw [ht, if_neg (by decide)] at hp
    rw [ht, hss ht] at T
    obtain ⟨⟨l1, s1⟩, h1, h2⟩ := Option.bind_eq_some_iff.1 hp
    obtain ⟨rfl, rfl⟩ : l1 = l /\ want c s1 = s' := by cases h2; exact ⟨rfl, rfl⟩
    have A := Lib.hid (fun w h => hI r ts s l1 s1 w h1 h)
    clear hp hss h hI h1 h2 ht
    go_enter Tryz.func628, Tryz.ntmps628
    go_wp2_with (first
      | (go_at_call 132; refine T.out.mono ?_; clear T; rintro e w1 ⟨rfl, h1, hb1⟩)
      | (go_at_call 630; refine (A.out _ h1).mono ?_; clear A; rintro e w2 ⟨v, rfl, hv, h2, hb2⟩; obtain ⟨va, vc, rfl⟩ := hv.shape; have HV := Lib.hid hv; clear hv)
      | (go_at_call 573; refine (want573 mixed r ts s1 c _ h2).mono ?_; rintro e w3 ⟨rfl, h3, hb3⟩))
    go_ret
    have s1 := hb1.size
    exact ⟨_, rfl, ExsAt.mono (exs_keep HV.out hb3 (fun b hn => by omega)) (fun b _ hn => by omega), h3, (hb1.trans hb2).trans hb3⟩
theorem macro612_a (mixed : Tryz.prog.follows .mixedOrders = true) (r : Nat) (ts : List Tk) (s : St) (w : World) (h : RdAt r ts s w) (s2 : St) (x : Ex) (ht : (take sLp (want sAmp s)).1 = true)
    (hA : ∀ w, RdAt r ts (take sLp (want sAmp s)).2 w -> Calls Tryz.prog 72 #[rp r] w fun e w' => ∃ u, e = .returned u /\ ExAt (w.heap.size <= ·) w' x u /\ RdAt r ts s2 w' /\ But r w w') :
    Calls Tryz.prog 612 #[rp r] w fun e w' => ∃ u, e = .returned u /\ ExAt (w.heap.size <= ·) w' (.mk 9 ByteArray.empty vd0 [] [x]) u /\ RdAt r ts (want sRp s2) w' /\ But r w w' := by
  have hrl := h.lt
  have H := Lib.hid h
  have A := Lib.hid hA
  have T := Lib.hid (fun w h => take132 mixed r ts (want sAmp s) sLp w h)
  rw [ht] at T
  have TOK1 := Lib.hid True.intro
  clear h hA ht
  go_enter Tryz.func612, Tryz.ntmps612
  go_wp2_with (first
    | (go_at_call 573; clear TOK1; refine (want573 mixed r ts s sAmp _ (H.out.alloc (.cells #[.int .i64 0, .string ⟨#[]⟩, .int .i64 0, .int .i64 0, .string ⟨#[]⟩, .slice none 0 0, .slice none 0 0] 55))).mono ?_; rintro e w1 ⟨rfl, h1, hb1⟩; have H1 := Lib.hid h1; have HB1 := Lib.hid hb1; have HR1 := Lib.hid ((Bk.new w 55 #[.int .i64 0, .string ⟨#[]⟩, .int .i64 0, .int .i64 0, .string ⟨#[]⟩, .slice none 0 0, .slice none 0 0]).but hb1 (Nat.ne_of_gt hrl)); clear h1 hb1)
    | (go_at_call 132; refine (T.out _ H1.out).mono ?_; clear T; rintro e w2 ⟨rfl, h2, hb2⟩; have H2 := Lib.hid h2; have HB2 := Lib.hid hb2; have HR2 := Lib.hid (HR1.out.but hb2 (Nat.ne_of_gt hrl)); clear h2 hb2)
    | (go_at_call 72; refine (A.out _ H2.out).mono ?_; clear A; rintro e w3 ⟨u, rfl, hx, h3, hb3⟩; obtain ⟨xo, xs, xk, xn, xt, xa, xm, xc, xb, xq, xd, rfl⟩ := hx.form; have HX := Lib.hid hx; have H3 := Lib.hid h3; have HB3 := Lib.hid hb3; have HR3 := Lib.hid ((HR2.out.but hb3 (Nat.ne_of_gt hrl)).alloc (.cells #[.int .i64 xo, .string xs, .int .i64 xk, .int .i64 xn, .string xt, .slice xa xm xc, .slice xb xq xd] 55)); clear hx h3 hb3)
    | (go_at_call 573; refine (want573 mixed r ts s2 sRp _ (H3.out.alloc (.cells #[.int .i64 xo, .string xs, .int .i64 xk, .int .i64 xn, .string xt, .slice xa xm xc, .slice xb xq xd] 55))).mono ?_; rintro e w4 ⟨rfl, h4, hb4⟩; have H4 := Lib.hid h4; have HB4 := Lib.hid hb4; have HR4 := Lib.hid ((HR3.out.but hb4 (Nat.ne_of_gt hrl)).alloc (.cells #[.int .i64 xo, .string xs, .int .i64 xk, .int .i64 xn, .string xt, .slice xa xm xc, .slice xb xq xd] 55)); have HK4 := Lib.hid ((Bk.new w3 55 #[.int .i64 xo, .string xs, .int .i64 xk, .int .i64 xn, .string xt, .slice xa xm xc, .slice xb xq xd]).but hb4 (by have := H3.out.lt; omega)); obtain ⟨k0, k1, k2, k3, k4, k5, k6⟩ := Bk7 HK4.out; obtain ⟨r0, r1, r2, r3, r4, r5, r6⟩ := Bk7 HR4.out; have f0 := HR4.out.frozen 0; have f1 := HR4.out.frozen 1; have f2 := HR4.out.frozen 2; have f3 := HR4.out.frozen 3; have f4 := HR4.out.frozen 4; have f5 := HR4.out.frozen 5; have f6 := HR4.out.frozen 6; clear h4 hb4))
  have s1 := HB1.out.size
  have s2' := HB2.out.size
  have s3 := HB3.out.size
  have s4 := HB4.out.size
  simp at s1 s4
  have HR7 := HR4.out.set7 (.int .i64 9) (.string ⟨#[]⟩) (.int .i64 0) (.int .i64 0) (.string ⟨#[]⟩) (.slice none 0 0) (.slice (some ⟨w4.heap.size, 0, none⟩) 1 1)
  obtain ⟨q0, q1, q2, q3, q4, q5, q6⟩ := Bk7 HR7
  clear k0 k1 k2 k3 k4 k5 k6 r0 r1 r2 r3 r4 r5 r6 HR7
  unfold wset7 at q0 q1 q2 q3 q4 q5 q6
  refine bodyPost_ret (by simp [results, Tryz.results612, go_sem, q0, q1, q2, q3, q4, q5, q6]; try rfl) rfl ?_
  refine ⟨_, rfl, ?_, (H4.out.alloc _).set7 hrl _ _ _ _ _ _ _, (((((((((But.refl r w).alloc _).trans HB1.out).trans HB2.out).trans HB3.out).alloc _).trans HB4.out).alloc _).set7 (Nat.le_refl _) _ _ _ _ _ _ _)⟩
  have hx1 := (ex_keep ((ExAt.mono (M := fun b => w.heap.size + 1 <= b) (fun b _ hn => by omega) HX.out).below (below_a (.cells #[.int .i64 xo, .string xs, .int .i64 xk, .int .i64 xn, .string xt, .slice xa xm xc, .slice xb xq xd] 55))) HB4.out (fun b hn => by omega)).below (below_a (.cells #[.int .i64 xo, .string xs, .int .i64 xk, .int .i64 xn, .string xt, .slice xa xm xc, .slice xb xq xd] 55))
  have hx2 := ex_set7 (g := w.heap.size) hx1 (fun b hn => by omega) (.int .i64 9) (.string ⟨#[]⟩) (.int .i64 0) (.int .i64 0) (.string ⟨#[]⟩) (.slice none 0 0) (.slice (some ⟨w4.heap.size, 0, none⟩) 1 1)
  exact ExAt.mono (fun b _ hn => by omega) (ex_mk (v := vd0) (by decide) (by decide) (strs_nil _ _) (exs_one hx2 (Bk.set7o (Bk.new _ _ _) (by omega) _ _ _ _ _ _ _) (by omega)))
theorem macro612_b (mixed : Tryz.prog.follows .mixedOrders = true) (r : Nat) (ts : List Tk) (s : St) (w : World) (h : RdAt r ts s w) (ht : (take sLp (want sAmp s)).1 = false) :
    Calls Tryz.prog 612 #[rp r] w fun e w' => ∃ u, e = .returned u /\ ExAt (w.heap.size <= ·) w' (.mk 9 (rname (want sAmp s)).1 vd0 [] []) u /\ RdAt r ts (take sDot (rname (want sAmp s)).2).2 w' /\ But r w w' := by
  have hrl := h.lt
  have H := Lib.hid h
  have T := Lib.hid (fun w h => take132 mixed r ts (want sAmp s) sLp w h)
  have hss : (take sLp (want sAmp s)).2 = want sAmp s := by revert ht; unfold take; split <;> simp
  rw [ht, hss] at T
  have hsz := Lib.hid (rname_sz (want sAmp s))
  have NA := Lib.hid (fun w h => name615 mixed r ts (want sAmp s) w h)
  have TD := Lib.hid (fun w h => take132 mixed r ts (rname (want sAmp s)).2 sDot w h)
  have TOK1 := Lib.hid True.intro
  clear h ht hss
  generalize (rname (want sAmp s)).1 = nm at *
  generalize (rname (want sAmp s)).2 = sn at *
  go_enter Tryz.func612, Tryz.ntmps612
  go_wp2_with (first
    | (go_at_call 573; refine (want573 mixed r ts s sAmp _ (H.out.alloc (.cells #[.int .i64 0, .string ⟨#[]⟩, .int .i64 0, .int .i64 0, .string ⟨#[]⟩, .slice none 0 0, .slice none 0 0] 55))).mono ?_; rintro e w1 ⟨rfl, h1, hb1⟩; have H1 := Lib.hid h1; have HB1 := Lib.hid hb1; have HR1 := Lib.hid ((Bk.new w 55 #[.int .i64 0, .string ⟨#[]⟩, .int .i64 0, .int .i64 0, .string ⟨#[]⟩, .slice none 0 0, .slice none 0 0]).but hb1 (Nat.ne_of_gt hrl)); clear h1 hb1)
    | (go_at_call 132; clear TOK1; refine (T.out _ H1.out).mono ?_; clear T; rintro e w2 ⟨rfl, h2, hb2⟩; have H2 := Lib.hid h2; have HB2 := Lib.hid hb2; have HR2 := Lib.hid (HR1.out.but hb2 (Nat.ne_of_gt hrl)); clear h2 hb2)
    | (go_at_call 615; refine (NA.out _ H2.out).mono ?_; clear NA; rintro e w3 ⟨rfl, h3, hb3⟩; have H3 := Lib.hid h3; have HB3 := Lib.hid hb3; have HR3 := Lib.hid ((HR2.out.but hb3 (Nat.ne_of_gt hrl)).alloc (.cells #[.int .i64 9, .string nm, .int .i64 0, .int .i64 0, .string ⟨#[]⟩, .slice none 0 0, .slice none 0 0] 55)); clear h3 hb3)
    | (go_at_call 132; refine (TD.out _ (H3.out.alloc (.cells #[.int .i64 9, .string nm, .int .i64 0, .int .i64 0, .string ⟨#[]⟩, .slice none 0 0, .slice none 0 0] 55))).mono ?_; clear TD; rintro e w4 ⟨rfl, h4, hb4⟩; have H4 := Lib.hid h4; have HB4 := Lib.hid hb4; have HR4 := Lib.hid (HR3.out.but hb4 (Nat.ne_of_gt hrl)); have HK4 := Lib.hid ((Bk.new w3 55 #[.int .i64 9, .string nm, .int .i64 0, .int .i64 0, .string ⟨#[]⟩, .slice none 0 0, .slice none 0 0]).but hb4 (by have := H3.out.lt; omega)); obtain ⟨k0, k1, k2, k3, k4, k5, k6⟩ := Bk7 HK4.out; obtain ⟨r0, r1, r2, r3, r4, r5, r6⟩ := Bk7 HR4.out; have f0 := HR4.out.frozen 0; have f1 := HR4.out.frozen 1; have f2 := HR4.out.frozen 2; have f3 := HR4.out.frozen 3; have f4 := HR4.out.frozen 4; have f5 := HR4.out.frozen 5; have f6 := HR4.out.frozen 6; clear h4 hb4))
  have s1 := HB1.out.size
  have s2' := HB2.out.size
  have s3 := HB3.out.size
  have s4 := HB4.out.size
  simp at s1 s4
  have HR7 := HR4.out.set7 (.int .i64 9) (.string nm) (.int .i64 0) (.int .i64 0) (.string ⟨#[]⟩) (.slice none 0 0) (.slice none 0 0)
  obtain ⟨q0, q1, q2, q3, q4, q5, q6⟩ := Bk7 HR7
  clear k0 k1 k2 k3 k4 k5 k6 r0 r1 r2 r3 r4 r5 r6 HR7
  unfold wset7 at q0 q1 q2 q3 q4 q5 q6
  refine bodyPost_ret (by simp [results, Tryz.results612, go_sem, q0, q1, q2, q3, q4, q5, q6]; try rfl) rfl ?_
  exact ⟨_, rfl, ex_mk (v := vd0) hsz.out (by decide) (strs_nil _ _) (exs_nil _ _), H4.out.set7 hrl _ _ _ _ _ _ _, ((((((((But.refl r w).alloc _).trans HB1.out).trans HB2.out).trans HB3.out).alloc _).trans HB4.out).set7 (Nat.le_refl _) _ _ _ _ _ _ _)⟩
theorem macro612 (mixed : Tryz.prog.follows .mixedOrders = true) (f : Nat) (hE : RE 72 pExpr f) : RE 612 pMacro (f + 1) := by
  intro r ts s y s' w hp h
  unfold pMacro at hp
  cases ht : (take sLp (want sAmp s)).1 with
  | true =>
    rw [ht, if_pos rfl] at hp
    obtain ⟨⟨x, s2⟩, h1, h2⟩ := Option.bind_eq_some_iff.1 hp
    cases h2
    exact macro612_a mixed r ts s w h s2 x ht (fun w h => hE r ts _ x s2 w h1 h)
  | false =>
    rw [ht, if_neg (by decide)] at hp
    cases hp
    exact macro612_b mixed r ts s w h ht
theorem exs_set7 {N : Nat -> Prop} {w : World} {l : List Ex} {v : Value} {g : Nat} (h : ExsAt N w l v) (hr : ∀ b, N b -> b ≠ g) (n0 n1 n2 n3 n4 n5 n6 : Value) : ExsAt N (wset7 w g n0 n1 n2 n3 n4 n5 n6) l v :=
  exs_keep h ((((((((But.refl g w).set (p := ⟨g, 0, none⟩) (.inl rfl) n0).set (p := ⟨g, 1, none⟩) (.inl rfl) n1).set (p := ⟨g, 2, none⟩) (.inl rfl) n2).set (p := ⟨g, 3, none⟩) (.inl rfl) n3).set (p := ⟨g, 4, none⟩) (.inl rfl) n4).set (p := ⟨g, 5, none⟩) (.inl rfl) n5).set (p := ⟨g, 6, none⟩) (.inl rfl) n6) hr
theorem named611_a (mixed : Tryz.prog.follows .mixedOrders = true) (r : Nat) (ts : List Tk) (s : St) (w : World) (h : RdAt r ts s w) (l : List Ex) (s2 : St) (hg : isSg s 1 sLp = true)
    (hA : ∀ w, RdAt r ts (want sLp (rname s).2) w -> Calls Tryz.prog 628 #[rp r, .string sRp] w fun e w' => ∃ v, e = .returned v /\ ExsAt (w.heap.size <= ·) w' l v /\ RdAt r ts s2 w' /\ But r w w') :
    Calls Tryz.prog 611 #[rp r] w fun e w' => ∃ u, e = .returned u /\ ExAt (w.heap.size <= ·) w' (.mk 3 (rname s).1 vd0 [] l) u /\ RdAt r ts (s2) w' /\ But r w w' := by
  have hrl := h.lt
  have H := Lib.hid h
  have H0 := Lib.hid (H.out.alloc (.cells #[.int .i64 0, .string ⟨#[]⟩, .int .i64 0, .int .i64 0, .string ⟨#[]⟩, .slice none 0 0, .slice none 0 0] 55))
  have HR0 := Lib.hid (Bk.new w 55 #[.int .i64 0, .string ⟨#[]⟩, .int .i64 0, .int .i64 0, .string ⟨#[]⟩, .slice none 0 0, .slice none 0 0])
  have A := Lib.hid hA
  have hsz := Lib.hid (rname_sz s)
  have G := Lib.hid (isSign218 mixed r ts s 1 sLp _ (by decide) H0.out)
  rw [hg] at G
  have NA := Lib.hid (fun w h => name615 mixed r ts s w h)
  have WA := Lib.hid (fun w h => want573 mixed r ts (rname s).2 sLp w h)
  clear h hA hg
  generalize (rname s).1 = nm at *
  generalize (rname s).2 = sn at *
  go_enter Tryz.func611, Tryz.ntmps611
  go_wp2_with (first
    | (go_at_call 218; refine G.out.mono ?_; clear G; rintro e w1 ⟨rfl, hb1⟩; have H1 := Lib.hid (H0.out.keep hb1); have HB1 := Lib.hid (But.of_below (b := r) hb1); have HR1 := Lib.hid (HR0.out.keep hb1); clear hb1)
    | (go_at_call 615; refine (NA.out _ H1.out).mono ?_; rintro e w2 ⟨rfl, h2, hb2⟩; have H2 := Lib.hid h2; have HB2 := Lib.hid hb2; have HR2 := Lib.hid (HR1.out.but hb2 (Nat.ne_of_gt hrl)); clear h2 hb2; )
    | (go_at_call 573; refine (WA.out _ H2.out).mono ?_; rintro e w3 ⟨rfl, h3, hb3⟩; have H3 := Lib.hid h3; have HB3 := Lib.hid hb3; have HR3 := Lib.hid (HR2.out.but hb3 (Nat.ne_of_gt hrl)); clear h3 hb3; )
    | (go_at_call 628; refine (A.out _ H3.out).mono ?_; clear A; rintro e w4 ⟨v, rfl, hv, h4, hb4⟩; obtain ⟨va, vc, rfl⟩ := hv.shape; have HV := Lib.hid hv; have H4 := Lib.hid h4; have HB4 := Lib.hid hb4; have HR4 := Lib.hid (HR3.out.but hb4 (Nat.ne_of_gt hrl)); clear hv h4 hb4; have HRX := Lib.hid (HR4.out); obtain ⟨r0, r1, r2, r3, r4, r5, r6⟩ := Bk7 HRX.out; have f0 := HRX.out.frozen 0; have f1 := HRX.out.frozen 1; have f2 := HRX.out.frozen 2; have f3 := HRX.out.frozen 3; have f4 := HRX.out.frozen 4; have f5 := HRX.out.frozen 5; have f6 := HRX.out.frozen 6))
  have sz1 := HB1.out.size
  have sz2 := HB2.out.size
  have sz3 := HB3.out.size
  have sz4 := HB4.out.size
  simp at sz1
  have HR7 := HRX.out.set7 (.int .i64 3) (.string nm) (.int .i64 0) (.int .i64 0) (.string ⟨#[]⟩) (.slice none 0 0) (.slice va l.length vc)
  obtain ⟨q0, q1, q2, q3, q4, q5, q6⟩ := Bk7 HR7
  clear r0 r1 r2 r3 r4 r5 r6 HR7
  unfold wset7 at q0 q1 q2 q3 q4 q5 q6
  refine bodyPost_ret (by simp [results, Tryz.results611, go_sem, q0, q1, q2, q3, q4, q5, q6]; try rfl) rfl ?_
  refine ⟨_, rfl, ?_, H4.out.set7 hrl _ _ _ _ _ _ _, ((((((But.refl r w).alloc _).trans HB1.out).trans HB2.out).trans HB3.out).trans HB4.out).set7 (Nat.le_refl _) _ _ _ _ _ _ _⟩
  have hv1 := ExsAt.mono (M := fun b => w.heap.size + 1 <= b) HV.out (fun b _ hn => by omega)
  exact ExAt.mono (fun b _ hn => by omega) (ex_mk (v := vd0) hsz.out (by decide) (strs_nil _ _) (exs_set7 (g := w.heap.size) hv1 (fun b hn => by omega) _ _ _ _ _ _ _))
theorem named611_b (mixed : Tryz.prog.follows .mixedOrders = true) (r : Nat) (ts : List Tk) (s : St) (w : World) (h : RdAt r ts s w) (hg : isSg s 1 sLp = false) (ht : (take sArrow (rname s).2).1 = false) :
    Calls Tryz.prog 611 #[rp r] w fun e w' => ∃ u, e = .returned u /\ ExAt (w.heap.size <= ·) w' (.nam (rname s).1) u /\ RdAt r ts ((take sArrow (rname s).2).2) w' /\ But r w w' := by
  have hrl := h.lt
  have H := Lib.hid h
  have H0 := Lib.hid (H.out.alloc (.cells #[.int .i64 0, .string ⟨#[]⟩, .int .i64 0, .int .i64 0, .string ⟨#[]⟩, .slice none 0 0, .slice none 0 0] 55))
  have HR0 := Lib.hid (Bk.new w 55 #[.int .i64 0, .string ⟨#[]⟩, .int .i64 0, .int .i64 0, .string ⟨#[]⟩, .slice none 0 0, .slice none 0 0])
  have hsz := Lib.hid (rname_sz s)
  have G := Lib.hid (isSign218 mixed r ts s 1 sLp _ (by decide) H0.out)
  rw [hg] at G
  have NA := Lib.hid (fun w h => variable629 mixed r ts s w h)
  have TA := Lib.hid (fun w h => take132 mixed r ts (rname s).2 sArrow w h)
  rw [ht] at TA
  clear h hg ht
  generalize (rname s).1 = nm at *
  generalize (rname s).2 = sn at *
  go_enter Tryz.func611, Tryz.ntmps611
  go_wp2_with (first
    | (go_at_call 218; refine G.out.mono ?_; clear G; rintro e w1 ⟨rfl, hb1⟩; have H1 := Lib.hid (H0.out.keep hb1); have HB1 := Lib.hid (But.of_below (b := r) hb1); have HR1 := Lib.hid (HR0.out.keep hb1); clear hb1)
    | (go_at_call 629; refine (NA.out _ H1.out).mono ?_; rintro e w2 ⟨rfl, h2, hb2⟩; have H2 := Lib.hid h2; have HB2 := Lib.hid hb2; have HR2 := Lib.hid (HR1.out.but hb2 (Nat.ne_of_gt hrl)); clear h2 hb2; )
    | (go_at_call 132; refine (TA.out _ H2.out).mono ?_; rintro e w3 ⟨rfl, h3, hb3⟩; have H3 := Lib.hid h3; have HB3 := Lib.hid hb3; have HR3 := Lib.hid (HR2.out.but hb3 (Nat.ne_of_gt hrl)); clear h3 hb3; have HRX := Lib.hid (HR3.out); obtain ⟨r0, r1, r2, r3, r4, r5, r6⟩ := Bk7 HRX.out; have f0 := HRX.out.frozen 0; have f1 := HRX.out.frozen 1; have f2 := HRX.out.frozen 2; have f3 := HRX.out.frozen 3; have f4 := HRX.out.frozen 4; have f5 := HRX.out.frozen 5; have f6 := HRX.out.frozen 6))
  have sz1 := HB1.out.size
  have sz2 := HB2.out.size
  have sz3 := HB3.out.size
  simp at sz1
  have HR7 := HRX.out.set7 (.int .i64 1) (.string nm) (.int .i64 0) (.int .i64 0) (.string ⟨#[]⟩) (.slice none 0 0) (.slice none 0 0)
  obtain ⟨q0, q1, q2, q3, q4, q5, q6⟩ := Bk7 HR7
  clear r0 r1 r2 r3 r4 r5 r6 HR7
  unfold wset7 at q0 q1 q2 q3 q4 q5 q6
  refine bodyPost_ret (by simp [results, Tryz.results611, go_sem, q0, q1, q2, q3, q4, q5, q6]; try rfl) rfl ?_
  exact ⟨_, rfl, ex_mk (v := vd0) hsz.out (by decide) (strs_nil _ _) (exs_nil _ _), H3.out.set7 hrl _ _ _ _ _ _ _, (((((But.refl r w).alloc _).trans HB1.out).trans HB2.out).trans HB3.out).set7 (Nat.le_refl _) _ _ _ _ _ _ _⟩
theorem named611_c (mixed : Tryz.prog.follows .mixedOrders = true) (r : Nat) (ts : List Tk) (s : St) (w : World) (h : RdAt r ts s w) (x : Ex) (s2 : St) (hg : isSg s 1 sLp = false) (ht : (take sArrow (rname s).2).1 = true) (ht2 : (take sLp (take sArrow (rname s).2).2).1 = true)
    (hA : ∀ w, RdAt r ts (take sLp (take sArrow (rname s).2).2).2 w -> Calls Tryz.prog 72 #[rp r] w fun e w' => ∃ u, e = .returned u /\ ExAt (w.heap.size <= ·) w' x u /\ RdAt r ts s2 w' /\ But r w w') :
    Calls Tryz.prog 611 #[rp r] w fun e w' => ∃ u, e = .returned u /\ ExAt (w.heap.size <= ·) w' (.mk 2 (rname s).1 vd0 [] [x]) u /\ RdAt r ts (want sRp s2) w' /\ But r w w' := by
  have hrl := h.lt
  have H := Lib.hid h
  have H0 := Lib.hid (H.out.alloc (.cells #[.int .i64 0, .string ⟨#[]⟩, .int .i64 0, .int .i64 0, .string ⟨#[]⟩, .slice none 0 0, .slice none 0 0] 55))
  have HR0 := Lib.hid (Bk.new w 55 #[.int .i64 0, .string ⟨#[]⟩, .int .i64 0, .int .i64 0, .string ⟨#[]⟩, .slice none 0 0, .slice none 0 0])
  have hsz := Lib.hid (rname_sz s)
  have A := Lib.hid hA
  have G := Lib.hid (isSign218 mixed r ts s 1 sLp _ (by decide) H0.out)
  rw [hg] at G
  have NA := Lib.hid (fun w h => variable629 mixed r ts s w h)
  have TA := Lib.hid (fun w h => take132 mixed r ts (rname s).2 sArrow w h)
  rw [ht] at TA
  have TB := Lib.hid (fun w h => take132 mixed r ts (take sArrow (rname s).2).2 sLp w h)
  rw [ht2] at TB
  have TOK1 := Lib.hid True.intro
  clear h hg ht ht2 hA
  generalize (take sLp (take sArrow (rname s).2).2).2 = sb at *
  generalize (take sArrow (rname s).2).2 = sa at *
  generalize (rname s).1 = nm at *
  generalize (rname s).2 = sn at *
  go_enter Tryz.func611, Tryz.ntmps611
  go_wp2_with (first
    | (go_at_call 218; refine G.out.mono ?_; clear G; rintro e w1 ⟨rfl, hb1⟩; have H1 := Lib.hid (H0.out.keep hb1); have HB1 := Lib.hid (But.of_below (b := r) hb1); have HR1 := Lib.hid (HR0.out.keep hb1); clear hb1)
    | (go_at_call 629; refine (NA.out _ H1.out).mono ?_; rintro e w2 ⟨rfl, h2, hb2⟩; have H2 := Lib.hid h2; have HB2 := Lib.hid hb2; have HR2 := Lib.hid (HR1.out.but hb2 (Nat.ne_of_gt hrl)); clear h2 hb2; )
    | (go_at_call 132; clear TOK1; refine (TA.out _ H2.out).mono ?_; rintro e w3 ⟨rfl, h3, hb3⟩; have H3 := Lib.hid h3; have HB3 := Lib.hid hb3; have HR3 := Lib.hid (HR2.out.but hb3 (Nat.ne_of_gt hrl)); clear h3 hb3; )
    | (go_at_call 132; refine (TB.out _ H3.out).mono ?_; rintro e w4 ⟨rfl, h4, hb4⟩; have H4 := Lib.hid h4; have HB4 := Lib.hid hb4; have HR4 := Lib.hid (HR3.out.but hb4 (Nat.ne_of_gt hrl)); clear h4 hb4; )
    | (go_at_call 72; refine (A.out _ H4.out).mono ?_; clear A; rintro e w5 ⟨u, rfl, hx, h5, hb5⟩; obtain ⟨xo, xs, xk, xn, xt, xa, xm, xc, xb, xq, xd, rfl⟩ := hx.form; have HX := Lib.hid hx; have H5 := Lib.hid h5; have HB5 := Lib.hid hb5; have HR5 := Lib.hid ((HR4.out.but hb5 (Nat.ne_of_gt hrl)).alloc (.cells #[.int .i64 xo, .string xs, .int .i64 xk, .int .i64 xn, .string xt, .slice xa xm xc, .slice xb xq xd] 55)); clear hx h5 hb5)
    | (go_at_call 573; refine (want573 mixed r ts s2 sRp _ (H5.out.alloc (.cells #[.int .i64 xo, .string xs, .int .i64 xk, .int .i64 xn, .string xt, .slice xa xm xc, .slice xb xq xd] 55))).mono ?_; rintro e w6 ⟨rfl, h6, hb6⟩; have H6 := Lib.hid h6; have HB6 := Lib.hid hb6; have HR6 := Lib.hid (HR5.out.but hb6 (Nat.ne_of_gt hrl)); have HK6 := Lib.hid ((Bk.new w5 55 #[.int .i64 xo, .string xs, .int .i64 xk, .int .i64 xn, .string xt, .slice xa xm xc, .slice xb xq xd]).but hb6 (by have := H5.out.lt; omega)); obtain ⟨k0, k1, k2, k3, k4, k5, k6⟩ := Bk7 HK6.out; clear h6 hb6; have HRX := Lib.hid (HR6.out.alloc (.cells #[.int .i64 xo, .string xs, .int .i64 xk, .int .i64 xn, .string xt, .slice xa xm xc, .slice xb xq xd] 55)); obtain ⟨r0, r1, r2, r3, r4, r5, r6⟩ := Bk7 HRX.out; have f0 := HRX.out.frozen 0; have f1 := HRX.out.frozen 1; have f2 := HRX.out.frozen 2; have f3 := HRX.out.frozen 3; have f4 := HRX.out.frozen 4; have f5 := HRX.out.frozen 5; have f6 := HRX.out.frozen 6))
  have sz1 := HB1.out.size
  have sz2 := HB2.out.size
  have sz3 := HB3.out.size
  have sz4 := HB4.out.size
  have sz5 := HB5.out.size
  have sz6 := HB6.out.size
  simp at sz1 sz6
  clear k0 k1 k2 k3 k4 k5 k6
  have HR7 := HRX.out.set7 (.int .i64 2) (.string nm) (.int .i64 0) (.int .i64 0) (.string ⟨#[]⟩) (.slice none 0 0) (.slice (some ⟨w6.heap.size, 0, none⟩) 1 1)
  obtain ⟨q0, q1, q2, q3, q4, q5, q6⟩ := Bk7 HR7
  clear r0 r1 r2 r3 r4 r5 r6 HR7
  unfold wset7 at q0 q1 q2 q3 q4 q5 q6
  refine bodyPost_ret (by simp [results, Tryz.results611, go_sem, q0, q1, q2, q3, q4, q5, q6]; try rfl) rfl ?_
  refine ⟨_, rfl, ?_, (H6.out.alloc _).set7 hrl _ _ _ _ _ _ _, ((((((((((But.refl r w).alloc _).trans HB1.out).trans HB2.out).trans HB3.out).trans HB4.out).trans HB5.out).alloc _).trans HB6.out).alloc _).set7 (Nat.le_refl _) _ _ _ _ _ _ _⟩
  have hx1 := (ex_keep ((ExAt.mono (M := fun b => w.heap.size + 1 <= b) (fun b _ hn => by omega) HX.out).below (below_a (.cells #[.int .i64 xo, .string xs, .int .i64 xk, .int .i64 xn, .string xt, .slice xa xm xc, .slice xb xq xd] 55))) HB6.out (fun b hn => by omega)).below (below_a (.cells #[.int .i64 xo, .string xs, .int .i64 xk, .int .i64 xn, .string xt, .slice xa xm xc, .slice xb xq xd] 55))
  exact ExAt.mono (fun b _ hn => by omega) (ex_mk (v := vd0) hsz.out (by decide) (strs_nil _ _) (exs_one (ex_set7 (g := w.heap.size) hx1 (fun b hn => by omega) _ _ _ _ _ _ _) (Bk.set7o (Bk.new _ _ _) (by omega) _ _ _ _ _ _ _) (by omega)))
theorem named611_d (mixed : Tryz.prog.follows .mixedOrders = true) (r : Nat) (ts : List Tk) (s : St) (w : World) (h : RdAt r ts s w) (hg : isSg s 1 sLp = false) (ht : (take sArrow (rname s).2).1 = true) (ht2 : (take sLp (take sArrow (rname s).2).2).1 = false) :
    Calls Tryz.prog 611 #[rp r] w fun e w' => ∃ u, e = .returned u /\ ExAt (w.heap.size <= ·) w' (.mk 2 (rname s).1 vd0 [] [.nam (rname (take sLp (take sArrow (rname s).2).2).2).1]) u /\ RdAt r ts ((rname (take sLp (take sArrow (rname s).2).2).2).2) w' /\ But r w w' := by
  have hrl := h.lt
  have H := Lib.hid h
  have H0 := Lib.hid (H.out.alloc (.cells #[.int .i64 0, .string ⟨#[]⟩, .int .i64 0, .int .i64 0, .string ⟨#[]⟩, .slice none 0 0, .slice none 0 0] 55))
  have HR0 := Lib.hid (Bk.new w 55 #[.int .i64 0, .string ⟨#[]⟩, .int .i64 0, .int .i64 0, .string ⟨#[]⟩, .slice none 0 0, .slice none 0 0])
  have hsz := Lib.hid (rname_sz s)
  have hsz2 := Lib.hid (rname_sz (take sLp (take sArrow (rname s).2).2).2)
  have G := Lib.hid (isSign218 mixed r ts s 1 sLp _ (by decide) H0.out)
  rw [hg] at G
  have NA := Lib.hid (fun w h => variable629 mixed r ts s w h)
  have NB := Lib.hid (fun w h => variable629 mixed r ts (take sLp (take sArrow (rname s).2).2).2 w h)
  have TA := Lib.hid (fun w h => take132 mixed r ts (rname s).2 sArrow w h)
  rw [ht] at TA
  have TB := Lib.hid (fun w h => take132 mixed r ts (take sArrow (rname s).2).2 sLp w h)
  rw [ht2] at TB
  have TOK1 := Lib.hid True.intro
  have TOK2 := Lib.hid True.intro
  clear h hg ht ht2
  generalize (rname (take sLp (take sArrow (rname s).2).2).2).1 = nb at *
  generalize (rname (take sLp (take sArrow (rname s).2).2).2).2 = sc at *
  generalize (take sLp (take sArrow (rname s).2).2).2 = sb at *
  generalize (take sArrow (rname s).2).2 = sa at *
  generalize (rname s).1 = nm at *
  generalize (rname s).2 = sn at *
  go_enter Tryz.func611, Tryz.ntmps611
  go_wp2_with (first
    | (go_at_call 218; refine G.out.mono ?_; clear G; rintro e w1 ⟨rfl, hb1⟩; have H1 := Lib.hid (H0.out.keep hb1); have HB1 := Lib.hid (But.of_below (b := r) hb1); have HR1 := Lib.hid (HR0.out.keep hb1); clear hb1)
    | (go_at_call 629; clear TOK2; refine (NA.out _ H1.out).mono ?_; rintro e w2 ⟨rfl, h2, hb2⟩; have H2 := Lib.hid h2; have HB2 := Lib.hid hb2; have HR2 := Lib.hid (HR1.out.but hb2 (Nat.ne_of_gt hrl)); clear h2 hb2; )
    | (go_at_call 132; clear TOK1; refine (TA.out _ H2.out).mono ?_; rintro e w3 ⟨rfl, h3, hb3⟩; have H3 := Lib.hid h3; have HB3 := Lib.hid hb3; have HR3 := Lib.hid (HR2.out.but hb3 (Nat.ne_of_gt hrl)); clear h3 hb3; )
    | (go_at_call 132; refine (TB.out _ H3.out).mono ?_; rintro e w4 ⟨rfl, h4, hb4⟩; have H4 := Lib.hid h4; have HB4 := Lib.hid hb4; have HR4 := Lib.hid (HR3.out.but hb4 (Nat.ne_of_gt hrl)); clear h4 hb4; )
    | (go_at_call 629; refine (NB.out _ H4.out).mono ?_; rintro e w5 ⟨rfl, h5, hb5⟩; have H5 := Lib.hid h5; have HB5 := Lib.hid hb5; have HR5 := Lib.hid (HR4.out.but hb5 (Nat.ne_of_gt hrl)); clear h5 hb5; have HRX := Lib.hid (HR5.out.alloc (.cells #[.int .i64 1, .string nb, .int .i64 0, .int .i64 0, .string ⟨#[]⟩, .slice none 0 0, .slice none 0 0] 55)); obtain ⟨r0, r1, r2, r3, r4, r5, r6⟩ := Bk7 HRX.out; have f0 := HRX.out.frozen 0; have f1 := HRX.out.frozen 1; have f2 := HRX.out.frozen 2; have f3 := HRX.out.frozen 3; have f4 := HRX.out.frozen 4; have f5 := HRX.out.frozen 5; have f6 := HRX.out.frozen 6))
  have sz1 := HB1.out.size
  have sz2 := HB2.out.size
  have sz3 := HB3.out.size
  have sz4 := HB4.out.size
  have sz5 := HB5.out.size
  simp at sz1
  have HR7 := HRX.out.set7 (.int .i64 2) (.string nm) (.int .i64 0) (.int .i64 0) (.string ⟨#[]⟩) (.slice none 0 0) (.slice (some ⟨w5.heap.size, 0, none⟩) 1 1)
  obtain ⟨q0, q1, q2, q3, q4, q5, q6⟩ := Bk7 HR7
  clear r0 r1 r2 r3 r4 r5 r6 HR7
  unfold wset7 at q0 q1 q2 q3 q4 q5 q6
  refine bodyPost_ret (by simp [results, Tryz.results611, go_sem, q0, q1, q2, q3, q4, q5, q6]; try rfl) rfl ?_
  refine ⟨_, rfl, ?_, (H5.out.alloc _).set7 hrl _ _ _ _ _ _ _, ((((((((But.refl r w).alloc _).trans HB1.out).trans HB2.out).trans HB3.out).trans HB4.out).trans HB5.out).alloc _).set7 (Nat.le_refl _) _ _ _ _ _ _ _⟩
  have hx1 : ExAt (fun b => w.heap.size + 1 <= b) (w5.alloc (.cells #[.int .i64 1, .string nb, .int .i64 0, .int .i64 0, .string ⟨#[]⟩, .slice none 0 0, .slice none 0 0] 55)) (.nam nb) (.agg #[.int .i64 1, .string nb, .int .i64 0, .int .i64 0, .string ⟨#[]⟩, .slice none 0 0, .slice none 0 0]) := ex_mk (v := vd0) hsz2.out (by decide) (strs_nil _ _) (exs_nil _ _)
  exact ExAt.mono (fun b _ hn => by omega) (ex_mk (v := vd0) hsz.out (by decide) (strs_nil _ _) (exs_one (ex_set7 (g := w.heap.size) hx1 (fun b hn => by omega) _ _ _ _ _ _ _) (Bk.set7o (Bk.new _ _ _) (by omega) _ _ _ _ _ _ _) (by omega)))
theorem named611 (mixed : Tryz.prog.follows .mixedOrders = true) (f : Nat) (hE : RE 72 pExpr f) (hC : RC f) : RE 611 pNamed (f + 1) := by
  intro r ts s y s' w hp h
  unfold pNamed at hp
  cases hg : isSg s 1 sLp with
  | true =>
    rw [hg, if_pos rfl] at hp
    obtain ⟨⟨l, s2⟩, h1, h2⟩ := Option.bind_eq_some_iff.1 hp
    cases h2
    exact named611_a mixed r ts s w h l s2 hg (fun w h => hC r ts sRp _ l s2 w h1 h)
  | false =>
    rw [hg, if_neg (by decide)] at hp
    cases ht : (take sArrow (rname s).2).1 with
    | false =>
      rw [ht, if_neg (by decide)] at hp
      cases hp
      exact named611_b mixed r ts s w h hg ht
    | true =>
      rw [ht, if_pos rfl] at hp
      cases ht2 : (take sLp (take sArrow (rname s).2).2).1 with
      | true =>
        rw [ht2, if_pos rfl] at hp
        obtain ⟨⟨x, s2⟩, h1, h2⟩ := Option.bind_eq_some_iff.1 hp
        cases h2
        exact named611_c mixed r ts s w h x s2 hg ht ht2 (fun w h => hE r ts _ x s2 w h1 h)
      | false =>
        rw [ht2, if_neg (by decide)] at hp
        cases hp
        exact named611_d mixed r ts s w h hg ht ht2
theorem info55 : (Tryz.prog.info? 55).map (fun i => (i.zero, i.size, i.bytes)) = some (some (.agg #[.int .i64 0, .string ⟨#[]⟩, .int .i64 0, .int .i64 0, .string ⟨#[]⟩, .slice none 0 0, .slice none 0 0]), 7, 104) := by kernel_rfl
def X7 (xs : List Value) (o : Nat) (u : Value) : Prop := ∃ c0 c1 c2 c3 c4 c5 c6, u = .agg #[c0, c1, c2, c3, c4, c5, c6] /\ xs[o]? = some c0 /\ xs[o + 1]? = some c1 /\ xs[o + 2]? = some c2 /\ xs[o + 3]? = some c3 /\ xs[o + 4]? = some c4 /\ xs[o + 5]? = some c5 /\ xs[o + 6]? = some c6
def LsAt (B : Nat) (w : World) (v : Value) (l : List Ex) : Prop :=
  ∃ g c xs, v = .slice (some ⟨g, 0, none⟩) l.length c /\ w.ownsRow B 55 7 (.slice (some ⟨g, 0, none⟩) l.length c) l.length xs /\ ∀ j (h : j < l.length), ∃ u, X7 xs (j * 7) u /\ ExAt (fun b => B <= b /\ b ≠ g) w l[j] u
theorem els_of {N : Nat -> Prop} {w : World} {g : Nat} : ∀ (l : List Ex) (o : Nat) (us : Nat -> Value), (∀ j (h : j < l.length), C7 w g (o + j * 7) (us j) /\ ExAt N w l[j] (us j)) -> ElsAt N w l g o
  | [], o, us, h => by simp only [ElsAt]
  | x :: r, o, us, h => by
    simp only [ElsAt]
    have h0 := h 0 (by simp)
    rw [Nat.zero_mul, Nat.add_zero] at h0
    refine ⟨⟨us 0, h0⟩, els_of r (o + 7) (fun j => us (j + 1)) fun j hj => ?_⟩
    have := h (j + 1) (by simpa using hj)
    rw [show o + 7 + j * 7 = o + (j + 1) * 7 by omega]
    simpa using this
theorem LsAt.exs {B : Nat} {w : World} {v : Value} {l : List Ex} (h : LsAt B w v l) (hl : l.length <= mx) : ExsAt (B <= ·) w l v := by
  obtain ⟨g, c, xs, rfl, h1, h2⟩ := h
  refine ⟨hl, _, _, rfl, ?_⟩
  by_cases hn : l = []
  · exact .inl hn
  right
  have hB := (h1.lt g rfl).1
  refine ⟨g, 0, rfl, hB, ?_⟩
  have hch : ∀ j, ∃ u, ∀ (hj : j < l.length), X7 xs (j * 7) u /\ ExAt (fun b => B <= b /\ b ≠ g) w l[j] u := by
    intro j
    by_cases hj : j < l.length
    · obtain ⟨u, hu⟩ := h2 j hj; exact ⟨u, fun _ => hu⟩
    · exact ⟨.int .i64 0, fun h => absurd h hj⟩
  obtain ⟨us, hus⟩ := Classical.axiomOfChoice hch
  refine els_of l 0 us fun j hj => ?_
  obtain ⟨hx, he⟩ := hus j hj
  obtain ⟨c0, c1, c2, c3, c4, c5, c6, e, x0, x1, x2, x3, x4, x5, x6⟩ := hx
  rw [Nat.zero_add]
  refine ⟨⟨c0, c1, c2, c3, c4, c5, c6, e, ?_, ?_, ?_, ?_, ?_, ?_, ?_⟩, ExAt.mono (fun b _ hb => hb.1) he⟩
  all_goals rw [h1.cellAt _ (by omega)]; assumption
theorem LsAt.but {B : Nat} {w w' : World} {v : Value} {l : List Ex} {r : Nat} (h : LsAt B w v l) (hb : But r w w') (hr : r < B) : LsAt B w' v l := by
  obtain ⟨g, c, xs, rfl, h1, h2⟩ := h
  have hB := (h1.lt g rfl).1
  refine ⟨g, c, xs, rfl, h1.kept (row := some r) ⟨hb.os, hb.tape, hb.output, hb.size, fun k hk hne => hb.block k hk (fun e => hne (by rw [e]))⟩ (.inr (by simp [Value.ownBlock]; omega)), fun j hj => ?_⟩
  obtain ⟨u, hu, he⟩ := h2 j hj
  exact ⟨u, hu, ex_keep he hb (fun b hn => by omega)⟩
theorem LsAt.below {B : Nat} {w w' : World} {v : Value} {l : List Ex} (h : LsAt B w v l) (hb : Below w.heap.size w w') : LsAt B w' v l := by
  obtain ⟨g, c, xs, rfl, h1, h2⟩ := h
  exact ⟨g, c, xs, rfl, own_keep h1 hb, fun j hj => by obtain ⟨u, hu, he⟩ := h2 j hj; exact ⟨u, hu, he.below hb⟩⟩
theorem LsAt.one {B : Nat} {w : World} {x : Ex} {c0 c1 c2 c3 c4 c5 c6 : Value} (hx : ExAt (B <= ·) w x (.agg #[c0, c1, c2, c3, c4, c5, c6])) (hB : B <= w.heap.size) :
    LsAt B (w.alloc (.cells #[c0, c1, c2, c3, c4, c5, c6] 55)) (.slice (some ⟨w.heap.size, 0, none⟩) 1 1) [x] := by
  refine ⟨w.heap.size, 1, _, rfl, World.ownsRow_lit w #[c0, c1, c2, c3, c4, c5, c6] 1 hB (by decide) rfl, fun j hj => ?_⟩
  have : j = 0 := by simp at hj; exact hj
  subst this
  exact ⟨_, ⟨c0, c1, c2, c3, c4, c5, c6, rfl, rfl, rfl, rfl, rfl, rfl, rfl, rfl⟩, (ExAt.mono (fun b hb hn => ⟨hn, by omega⟩) hx).below (below_a _)⟩
theorem LsAt.push {B g c : Nat} {w w' : World} {l : List Ex} {xs : List Value} {y : Ex} {c0 c1 c2 c3 c4 c5 c6 : Value}
    (h2 : ∀ j (h : j < l.length), ∃ u, X7 xs (j * 7) u /\ ExAt (fun b => B <= b /\ b ≠ g) w l[j] u) (hxs : xs.length = l.length * 7)
    (hy : ExAt (fun b => B <= b /\ b ≠ g) w y (.agg #[c0, c1, c2, c3, c4, c5, c6])) {g' c' : Nat}
    (ho : w'.ownsRow B 55 7 (.slice (some ⟨g', 0, none⟩) (l.length + 1) c') (l.length + 1) (xs ++ [c0, c1, c2, c3, c4, c5, c6]))
    (hg : w.grownBy w' (Value.slice (some ⟨g, 0, none⟩) l.length c).ownBlock) (hat : (Value.slice (some ⟨g, 0, none⟩) l.length c).ownBlock = some g' \/ g' = w.heap.size) :
    LsAt B w' (.slice (some ⟨g', 0, none⟩) (l.length + 1) c') (l ++ [y]) := by
  have hgg : g = g' \/ g' = w.heap.size := by
    rcases hat with h | h
    · left; simpa [Value.ownBlock] using h
    · exact .inr h
  have hk : ∀ {x u}, ExAt (fun b => B <= b /\ b ≠ g) w x u -> ExAt (fun b => B <= b /\ b ≠ g') w' x u := by
    intro x u h
    have h3 : ExAt (fun b => B <= b /\ b ≠ g /\ b < w.heap.size) w x u := ExAt.mono (fun b hb hn => ⟨hn.1, hn.2, hb⟩) h
    have h4 : ExAt (fun b => B <= b /\ b ≠ g /\ b < w.heap.size) w' x u := ExAt.keep (fun b hn hb o => by
      exact World.cell?_of_block (a := ⟨b, o, none⟩) (hg.block b hb (by simp [Value.ownBlock]; exact hn.2.1))) h3
    exact ExAt.mono (fun b _ hn => ⟨hn.1, by omega⟩) h4
  have el : (l ++ [y]).length = l.length + 1 := by simp
  refine ⟨g', c', xs ++ [c0, c1, c2, c3, c4, c5, c6], by rw [el], by rw [el]; exact ho, fun j hj => ?_⟩
  rw [el] at hj
  by_cases hlt : j < l.length
  · obtain ⟨u, hu, he⟩ := h2 j hlt
    obtain ⟨d0, d1, d2, d3, d4, d5, d6, e, x0, x1, x2, x3, x4, x5, x6⟩ := hu
    refine ⟨u, ⟨d0, d1, d2, d3, d4, d5, d6, e, ?_, ?_, ?_, ?_, ?_, ?_, ?_⟩, ?_⟩
    all_goals first
      | (rw [List.getElem?_append_left (by omega)]; assumption)
      | (rw [List.getElem_append_left hlt]; exact hk he)
  · have hjl : j = l.length := by omega
    subst hjl
    refine ⟨_, ⟨c0, c1, c2, c3, c4, c5, c6, rfl, ?_, ?_, ?_, ?_, ?_, ?_, ?_⟩, ?_⟩
    all_goals first
      | (rw [List.getElem?_append_right (by omega), hxs]; simp; done)
      | (rw [List.getElem?_append_right (by omega), hxs, show ∀ k, l.length * 7 + k - l.length * 7 = k from fun k => by omega]; rfl)
      | (simp; exact hk hy)
theorem take_len {c : ByteArray} {s : St} (h : (take c s).1 = true) : (take c s).2.1.length + 1 <= s.1.length := by
  unfold take at h ⊢
  split at h
  · cases h
  · rename_i hc
    rw [if_neg hc]
    have hi : isSg s 0 c = true := by
      cases hh : isSg s 0 c with
      | false => exfalso; apply hc; rw [hh]; simp
      | true => rfl
    unfold isSg tok at hi
    simp only [Bool.and_eq_true, decide_eq_true_eq] at hi
    cases he : s.1 with
    | nil => rw [he] at hi; simp at hi
    | cons t r => simp
theorem but_grown {r : Nat} {x w w' : World} {row : Option Nat} (h : But r x w) (hg : w.grownBy w' row) (hr : ∀ k, row = some k -> x.heap.size <= k) : But r x w' :=
  ⟨hg.os.trans h.os, hg.tape.trans h.tape, hg.output.trans h.output, Nat.le_trans h.size hg.size, fun k hk hb => (hg.block k (Nat.lt_of_lt_of_le hk h.size) (fun e => by have := hr k e.symm; omega)).trans (h.block k hk hb)⟩
theorem rd_grown {r : Nat} {ts : List Tk} {s : St} {w w' : World} {row : Option Nat} (h : RdAt r ts s w) (hg : w.grownBy w' row) (hr : ∀ k, row = some k -> r < k) : RdAt r ts s w' := by
  obtain ⟨a, lv, h1, h2, h3, h4⟩ := h
  refine ⟨a, lv, h1, h2, h3.grown hg (fun e => by have := hr r e.symm; omega), h4.keepLow ?_⟩
  intro b hb hlt o
  exact World.cell?_of_block (a := ⟨b, o, none⟩) (hg.block b hlt (fun e => by have := hr b e.symm; have : b < r := hb; omega))
theorem list630 (mixed : Tryz.prog.follows .mixedOrders = true) (f : Nat) (hI : ∀ g, g <= f -> RE 72 pExpr g) : RLs 630 pList (f + 1) := by
  intro r ts s l s' w hp h
  unfold pList at hp
  obtain ⟨⟨x0, s0⟩, ha, hl⟩ := Option.bind_eq_some_iff.1 hp
  have hs0 : s0.1.length <= ts.length := by
    have h1 := ((frA f).ex _ _ ha).2.length_le
    obtain ⟨a, lv, _, hd, _⟩ := h
    rw [hd, List.length_drop] at h1
    have h2 : s0.1.length <= ts.length - a := h1
    omega
  have htm : ts.length <= maxT := by obtain ⟨a, lv, _, _, _, ht⟩ := h; exact ht.1
  unfold maxT at htm
  have A := Lib.hid (fun w h => hI f (Nat.le_refl _) r ts s x0 s0 w ha h)
  have HI := Lib.hid hI
  have HL := Lib.hid hl
  have hrl := h.lt
  have H := Lib.hid h
  obtain ⟨i0, hi, hz0, hz1, hz2⟩ := info_parts info55
  have TOK1 := Lib.hid True.intro
  clear hI hl h ha hp
  go_enter Tryz.func630, Tryz.ntmps630
  go_wp2_with (first
    | (go_at_call 72; clear TOK1; refine (A.out _ H.out).mono ?_; clear A; rintro e w1 ⟨u, rfl, hx, h1, hb1⟩; obtain ⟨xo, xs, xk, xn, xt, xa, xm, xc, xb, xq, xd, rfl⟩ := hx.form; have HX := Lib.hid hx; have H1 := Lib.hid h1; have HB1 := Lib.hid hb1; clear hx h1 hb1))
  have sz1 := HB1.out.size
  go_loopg [3] f (fun gk s3 wr => ∃ (g : Nat) (lc : List Ex) (s1 : St) (v : Value), g <= gk /\ g <= f /\ lList g lc s1 = some (l, s') /\ s3 = v /\ lc.length + s1.1.length <= ts.length + 1 /\ LsAt w.heap.size wr v lc /\ RdAt r ts s1 wr /\ But r w wr)
  case atStart =>
    exact ⟨f, [x0], s0, _, Nat.le_refl _, Nat.le_refl _, HL.out, rfl, by simp; omega, LsAt.one HX.out sz1, H1.out.alloc _, HB1.out.alloc _⟩
  case round =>
    obtain ⟨g, lc, s1, v, g1, g2, hl, rfl, hlen, hls, hr, hb⟩ := hrel
    have HLS := Lib.hid hls
    have HB := Lib.hid hb
    have T := Lib.hid (take132 mixed r ts s1 sComma wr hr)
    have HTF : Hid ((take sComma s1).1 = false -> (take sComma s1).2 = s1) := Lib.hid (by unfold take; split <;> simp)
    have HTL := Lib.hid (fun h => take_len (c := sComma) (s := s1) h)
    obtain ⟨vg, vc, xs, rfl, hown, hel⟩ := hls
    obtain ⟨g, rfl⟩ : ∃ j, g = j + 1 := by
      cases g with
      | zero => unfold lList at hl; cases hl
      | succ j => exact ⟨j, rfl⟩
    unfold lList at hl
    have hsb := hb.size
    clear hr hb hown hel HX H1
    cases ht : (take sComma s1).1 with
    | true =>
      rw [ht, if_pos rfl] at hl
      obtain ⟨⟨y2, s2⟩, hp2, hl2⟩ := Option.bind_eq_some_iff.1 hl
      have HL2 := Lib.hid hl2
      have hlen2 : lc.length + 1 + s2.1.length <= ts.length + 1 := by
        have e1 := HTL.out ht
        have e2 := ((frA g).ex _ _ hp2).2.length_le
        simp only at e2
        omega
      have A2 := Lib.hid (fun w h => HI.out g (by omega) r ts _ y2 s2 w hp2 h)
      rw [ht] at T
      have hl63 : lc.length <= 10000000001 := by omega
      clear hl hl2 hp2
      go_wp2_with (first
        | (go_at_call 132; refine T.out.mono ?_; clear T; rintro e w2 ⟨rfl, h2, hb2⟩; have H2 := Lib.hid h2; have HB2 := Lib.hid hb2; clear h2 hb2)
        | (go_at_call 72; refine (A2.out _ H2.out).mono ?_; rintro e w3 ⟨u2, rfl, hy, h3, hb3⟩; obtain ⟨yo, ys, yk, yn, yt, ya, ym, yc, yb, yq, yd, rfl⟩ := hy.form; have HY := Lib.hid hy; have H3 := Lib.hid h3; have HB3 := Lib.hid hb3; have hls3 := ((HLS.out.but HB2.out hrl).but hb3 hrl).below (below_a (.cells #[.int .i64 yo, .string ys, .int .i64 yk, .int .i64 yn, .string yt, .slice ya ym yc, .slice yb yq yd] 55)); have hw0 := HB2.out.size; have hw1 := hb3.size; obtain ⟨vg2, vc2, xs2, ev, hown3, hel3⟩ := hls3; cases ev; have HEL := Lib.hid hel3; have hgl := hown3.lt vg rfl; clear hy h3 hb3 hel3)
        | (at_builtin; refine wpList_append_lies _ rfl _ _ 22 rfl w.heap.size 55 i0 (.agg #[.int .i64 0, .string ⟨#[]⟩, .int .i64 0, .int .i64 0, .string ⟨#[]⟩, .slice none 0 0, .slice none 0 0]) 7 104 Tryz.underlying22 hi hz0 hz1 hz2 rfl (by decide) _ _ _ rfl hown3 ⟨w3.heap.size, 0, none⟩ 1 1 [.int .i64 yo, .string ys, .int .i64 yk, .int .i64 yn, .string yt, .slice ya ym yc, .slice yb yq yd] rfl rfl (World.news_of_block (Bk.new w3 55 #[.int .i64 yo, .string ys, .int .i64 yk, .int .i64 yn, .string yt, .slice ya ym yc, .slice yb yq yd])) (by simp [Value.oneCell']) (by decide) (by unfold maxLen; omega) (by omega) (by simp; omega) _ rfl ?_; intro g' c' w4 hown4 hgrow0 hat0 hlt4; have hgrow : World.grownBy _ w4 (Value.slice (some ⟨vg, 0, none⟩) lc.length vc).ownBlock := hgrow0; have hat : (Value.slice (some ⟨vg, 0, none⟩) lc.length vc).ownBlock = some g' \/ g' = _ := hat0; clear hgrow0 hat0))
      have hvl : vg < wr.heap.size := by
        obtain ⟨g0, c0, xs0, e0, ho0, _⟩ := HLS.out
        cases e0
        exact (ho0.lt vg rfl).2
      go_roundg g
      case measure => omega
      case rel =>
        refine ⟨g, lc ++ [y2], s2, _, Nat.le_refl _, by omega, HL2.out, rfl, by simp; omega, ?_, ?_, ?_⟩
        · exact LsAt.push HEL.out hown3.1 ((ExAt.mono (fun b _ hn => by have h1 : w2.heap.size <= b := hn; omega) HY.out).below (below_a _)) hown4 hgrow hat
        · exact rd_grown (H3.out.alloc _) hgrow (fun k hk => by cases hk; exact Nat.lt_of_lt_of_le hrl hgl.1)
        · exact but_grown (((HB.out.trans HB2.out).trans HB3.out).alloc _) hgrow (fun k hk => by cases hk; exact hgl.1)
    | false =>
      have hss := HTF.out ht
      rw [ht, if_neg (by decide)] at hl
      obtain ⟨rfl, rfl⟩ : lc = l /\ s1 = s' := by cases hl; exact ⟨rfl, rfl⟩
      rw [ht, hss] at T
      clear hl hss
      go_wp2_with (first | (go_at_call 132; refine T.out.mono ?_; clear T; rintro e w2 ⟨rfl, h2, hb2⟩; have H2 := Lib.hid h2; have HB2 := Lib.hid hb2; clear h2 hb2))
      go_ret
      exact ⟨_, rfl, (HLS.out.but HB2.out hrl).exs (by unfold mx; omega), H2.out, HB.out.trans HB2.out⟩
theorem info9 : (Tryz.prog.info? 9).map (fun i => (i.zero, i.size, i.bytes)) = some (some (.string ⟨#[]⟩), 1, 16) := by kernel_rfl
def SsAt (B : Nat) (w : World) (v : Value) (p : List ByteArray) : Prop :=
  ∃ g c, v = .slice (some ⟨g, 0, none⟩) p.length c /\ w.ownsRow B 9 1 (.slice (some ⟨g, 0, none⟩) p.length c) p.length (p.map Value.string)
theorem SsAt.strs {B : Nat} {w : World} {v : Value} {p : List ByteArray} (h : SsAt B w v p) (hl : p.length <= mx) (hs : ∀ s ∈ p, s.size <= mx) : StrsAt (B <= ·) w v p := by
  obtain ⟨g, c, rfl, h1⟩ := h
  refine ⟨hl, hs, _, _, rfl, .inr ⟨g, 0, rfl, (h1.lt g rfl).1, fun j hj => ?_⟩⟩
  rw [Nat.zero_add, h1.cellAt j (by omega)]
  simp [List.getD, hj]
theorem SsAt.but {B : Nat} {w w' : World} {v : Value} {p : List ByteArray} {r : Nat} (h : SsAt B w v p) (hb : But r w w') (hr : r < B) : SsAt B w' v p := by
  obtain ⟨g, c, rfl, h1⟩ := h
  have hB := (h1.lt g rfl).1
  exact ⟨g, c, rfl, h1.kept (row := some r) ⟨hb.os, hb.tape, hb.output, hb.size, fun k hk hne => hb.block k hk (fun e => hne (by rw [e]))⟩ (.inr (by simp [Value.ownBlock]; omega))⟩
def RNm (f : Nat) : Prop := ∀ (r : Nat) (ts : List Tk) (s : St) (p : List ByteArray) (s' : St) (w : World), pNames f s = some (p, s') -> RdAt r ts s w ->
  Calls Tryz.prog 631 #[rp r] w fun e w' => ∃ v, e = .returned v /\ StrsAt (w.heap.size <= ·) w' v p /\ RdAt r ts s' w' /\ But r w w'
theorem names631 (mixed : Tryz.prog.follows .mixedOrders = true) (f : Nat) : RNm f := by
  intro r ts s p s' w hp h
  have hp : lNames f [(rname s).1] (rname s).2 = some (p, s') := hp
  have hs0 : (rname s).2.1.length <= ts.length := by
    have h1 := (fr_rname s).2.length_le
    obtain ⟨a, lv, _, hd, _⟩ := h
    rw [hd, List.length_drop] at h1
    omega
  have htm : ts.length <= maxT := by obtain ⟨a, lv, _, _, _, ht⟩ := h; exact ht.1
  unfold maxT at htm
  have hsz := Lib.hid (rname_sz s)
  have A := Lib.hid (fun w h => name615 mixed r ts s w h)
  have HL := Lib.hid hp
  have hrl := h.lt
  have H := Lib.hid h
  obtain ⟨i0, hi, hz0, hz1, hz2⟩ := info_parts info9
  have TOK1 := Lib.hid True.intro
  clear h hp
  generalize (rname s).1 = n0 at *
  generalize (rname s).2 = s0 at *
  go_enter Tryz.func631, Tryz.ntmps631
  go_wp2_with (first
    | (go_at_call 615; clear TOK1; refine (A.out _ H.out).mono ?_; clear A; rintro e w1 ⟨rfl, h1, hb1⟩; have H1 := Lib.hid h1; have HB1 := Lib.hid hb1; clear h1 hb1))
  have sz1 := HB1.out.size
  go_loopg [3] f (fun gk s3 wr => ∃ (g : Nat) (lc : List ByteArray) (s1 : St) (v : Value), g <= gk /\ lNames g lc s1 = some (p, s') /\ s3 = v /\ lc.length + s1.1.length <= ts.length + 1 /\ (∀ x ∈ lc, x.size <= mx) /\ SsAt w.heap.size wr v lc /\ RdAt r ts s1 wr /\ But r w wr)
  case atStart =>
    exact ⟨f, [n0], s0, _, Nat.le_refl _, HL.out, rfl, by simp; omega, fun x hx => by simp at hx; rw [hx]; exact hsz.out, ⟨w1.heap.size, 1, rfl, World.ownsRow_lit w1 #[.string n0] 1 sz1 (by decide) rfl⟩, H1.out.alloc _, HB1.out.alloc _⟩
  case round =>
    obtain ⟨g, lc, s1, v, g1, hl, rfl, hlen, hall, hls, hr, hb⟩ := hrel
    have HLS := Lib.hid hls
    have HALL := Lib.hid hall
    have HB := Lib.hid hb
    have T := Lib.hid (take132 mixed r ts s1 sComma wr hr)
    have HTF : Hid ((take sComma s1).1 = false -> (take sComma s1).2 = s1) := Lib.hid (by unfold take; split <;> simp)
    have HTL := Lib.hid (fun h => take_len (c := sComma) (s := s1) h)
    obtain ⟨vg, vc, rfl, hown⟩ := hls
    have hvg := (hown.lt vg rfl)
    obtain ⟨g, rfl⟩ : ∃ j, g = j + 1 := by
      cases g with
      | zero => unfold lNames at hl; cases hl
      | succ j => exact ⟨j, rfl⟩
    unfold lNames at hl
    have hsb := hb.size
    clear hr hb hown H1 hall
    cases ht : (take sComma s1).1 with
    | true =>
      rw [ht, if_pos rfl] at hl
      have hl : lNames g (lc ++ [(rname (take sComma s1).2).1]) (rname (take sComma s1).2).2 = some (p, s') := hl
      have HL2 := Lib.hid hl
      have hlen2 : lc.length + 1 + (rname (take sComma s1).2).2.1.length <= ts.length + 1 := by
        have e1 := HTL.out ht
        have e2 := (fr_rname (take sComma s1).2).2.length_le
        omega
      have A2 := Lib.hid (fun w h => name615 mixed r ts (take sComma s1).2 w h)
      have hsz2 := Lib.hid (rname_sz (take sComma s1).2)
      rw [ht] at T
      have hl63 : lc.length <= 10000000001 := by omega
      clear hl HTL HTF
      generalize (rname (take sComma s1).2).1 = n2 at *
      generalize (rname (take sComma s1).2).2 = s2 at *
      go_wp2_with (first
        | (go_at_call 132; refine T.out.mono ?_; clear T; rintro e w2 ⟨rfl, h2, hb2⟩; have H2 := Lib.hid h2; have HB2 := Lib.hid hb2; clear h2 hb2)
        | (go_at_call 615; refine (A2.out _ H2.out).mono ?_; rintro e w3 ⟨rfl, h3, hb3⟩; have H3 := Lib.hid h3; have HB3 := Lib.hid hb3; have hls3 := ((HLS.out.but HB2.out hrl).but hb3 hrl); have hw0 := HB2.out.size; have hw1 := hb3.size; obtain ⟨vg2, vc2, ev, hown2⟩ := hls3; cases ev; have hown3 := hown2.alloc (.cells #[.string n2] 9); have hgl := hown3.lt vg rfl; clear h3 hb3 hown2)
        | (at_builtin; refine wpList_append_lies _ rfl _ _ 46 rfl w.heap.size 9 i0 (.string ⟨#[]⟩) 1 16 Tryz.underlying46 hi hz0 hz1 hz2 rfl (by decide) _ _ _ rfl hown3 ⟨w3.heap.size, 0, none⟩ 1 1 [.string n2] rfl rfl (World.news_of_block (Bk.new w3 9 #[.string n2])) (by simp [Value.oneCell']) (by decide) (by unfold maxLen; omega) (by omega) (by simp; omega) _ rfl ?_; intro g' c' w4 hown4 hgrow0 hat0 hlt4; have hgrow : World.grownBy _ w4 (Value.slice (some ⟨vg, 0, none⟩) lc.length vc).ownBlock := hgrow0; clear hgrow0 hat0))
      go_roundg g
      case measure => omega
      case rel =>
        refine ⟨g, lc ++ [n2], s2, _, Nat.le_refl _, HL2.out, rfl, by simp; omega, ?_, ?_, ?_, ?_⟩
        · intro x hx
          rcases List.mem_append.1 hx with hx | hx
          · exact HALL.out x hx
          · simp at hx; rw [hx]; exact hsz2.out
        · exact ⟨g', c', by simp, by simpa using hown4⟩
        · exact rd_grown (H3.out.alloc _) hgrow (fun k hk => by cases hk; exact Nat.lt_of_lt_of_le hrl hgl.1)
        · exact but_grown (((HB.out.trans HB2.out).trans HB3.out).alloc _) hgrow (fun k hk => by cases hk; exact hgl.1)
    | false =>
      have hss := HTF.out ht
      rw [ht, if_neg (by decide)] at hl
      obtain ⟨rfl, rfl⟩ : lc = p /\ s1 = s' := by cases hl; exact ⟨rfl, rfl⟩
      rw [ht, hss] at T
      clear hl hss
      go_wp2_with (first | (go_at_call 132; refine T.out.mono ?_; clear T; rintro e w2 ⟨rfl, h2, hb2⟩; have H2 := Lib.hid h2; have HB2 := Lib.hid hb2; clear h2 hb2))
      go_ret
      exact ⟨_, rfl, (HLS.out.but HB2.out hrl).strs (by unfold mx; omega) HALL.out, H2.out, HB.out.trans HB2.out⟩
theorem strs_keep {N : Nat -> Prop} {w w' : World} {p : List ByteArray} {v : Value} {r : Nat} (h : StrsAt N w v p) (hb : But r w w') (hr : ∀ b, N b -> b ≠ r) : StrsAt N w' v p :=
  StrsAt.keep h (fun b hn hb' o => hb.cell (p := ⟨b, o, none⟩) hb' (hr b hn))
theorem strs_set7 {N : Nat -> Prop} {w : World} {l : List ByteArray} {v : Value} {g : Nat} (h : StrsAt N w v l) (hr : ∀ b, N b -> b ≠ g) (n0 n1 n2 n3 n4 n5 n6 : Value) : StrsAt N (wset7 w g n0 n1 n2 n3 n4 n5 n6) v l :=
  strs_keep h ((((((((But.refl g w).set (p := ⟨g, 0, none⟩) (.inl rfl) n0).set (p := ⟨g, 1, none⟩) (.inl rfl) n1).set (p := ⟨g, 2, none⟩) (.inl rfl) n2).set (p := ⟨g, 3, none⟩) (.inl rfl) n3).set (p := ⟨g, 4, none⟩) (.inl rfl) n4).set (p := ⟨g, 5, none⟩) (.inl rfl) n5).set (p := ⟨g, 6, none⟩) (.inl rfl) n6) hr
theorem braces614_a (mixed : Tryz.prog.follows .mixedOrders = true) (r : Nat) (ts : List Tk) (s : St) (w : World) (h : RdAt r ts s w) (l : List Ex) (s2 : St) (ht : (take sBar s).1 = false)
    (hA : ∀ w, RdAt r ts s w -> Calls Tryz.prog 630 #[rp r] w fun e w' => ∃ v, e = .returned v /\ ExsAt (w.heap.size <= ·) w' l v /\ RdAt r ts s2 w' /\ But r w w') :
    Calls Tryz.prog 614 #[rp r] w fun e w' => ∃ u, e = .returned u /\ ExAt (w.heap.size <= ·) w' (.mk 7 ByteArray.empty vd0 [] l) u /\ RdAt r ts (want sRc s2) w' /\ But r w w' := by
  have hrl := h.lt
  have H := Lib.hid h
  have H0 := Lib.hid (H.out.alloc (.cells #[.int .i64 0, .string ⟨#[]⟩, .int .i64 0, .int .i64 0, .string ⟨#[]⟩, .slice none 0 0, .slice none 0 0] 55))
  have HR0 := Lib.hid (Bk.new w 55 #[.int .i64 0, .string ⟨#[]⟩, .int .i64 0, .int .i64 0, .string ⟨#[]⟩, .slice none 0 0, .slice none 0 0])
  have A := Lib.hid hA
  have hss : (take sBar s).2 = s := by revert ht; unfold take; split <;> simp
  have TA := Lib.hid (fun w h => take132 mixed r ts s sBar w h)
  rw [ht, hss] at TA
  clear h hA ht hss
  go_enter Tryz.func614, Tryz.ntmps614
  go_wp2_with (first
    | (go_at_call 132; refine (TA.out _ H0.out).mono ?_; rintro e w1 ⟨rfl, h1, hb1⟩; have H1 := Lib.hid h1; have HB1 := Lib.hid hb1; have HR1 := Lib.hid (HR0.out.but hb1 (Nat.ne_of_gt hrl)); clear h1 hb1; )
    | (go_at_call 630; refine (A.out _ H1.out).mono ?_; clear A; rintro e w2 ⟨v, rfl, hv, h2, hb2⟩; obtain ⟨va, vc, rfl⟩ := hv.shape; have HV := Lib.hid hv; have H2 := Lib.hid h2; have HB2 := Lib.hid hb2; have HR2 := Lib.hid (HR1.out.but hb2 (Nat.ne_of_gt hrl)); clear hv h2 hb2)
    | (go_at_call 573; refine (want573 mixed r ts s2 sRc _ H2.out).mono ?_; rintro e w3 ⟨rfl, h3, hb3⟩; have H3 := Lib.hid h3; have HB3 := Lib.hid hb3; have HR3 := Lib.hid (HR2.out.but hb3 (Nat.ne_of_gt hrl)); clear h3 hb3; have HRX := Lib.hid (HR3.out); obtain ⟨r0, r1, r2, r3, r4, r5, r6⟩ := Bk7 HRX.out; have f0 := HRX.out.frozen 0; have f1 := HRX.out.frozen 1; have f2 := HRX.out.frozen 2; have f3 := HRX.out.frozen 3; have f4 := HRX.out.frozen 4; have f5 := HRX.out.frozen 5; have f6 := HRX.out.frozen 6))
  have sz1 := HB1.out.size
  have sz2 := HB2.out.size
  have sz3 := HB3.out.size
  simp at sz1
  have HR7 := HRX.out.set7 (.int .i64 7) (.string ⟨#[]⟩) (.int .i64 0) (.int .i64 0) (.string ⟨#[]⟩) (.slice none 0 0) (.slice va l.length vc)
  obtain ⟨q0, q1, q2, q3, q4, q5, q6⟩ := Bk7 HR7
  clear r0 r1 r2 r3 r4 r5 r6 HR7
  unfold wset7 at q0 q1 q2 q3 q4 q5 q6
  refine bodyPost_ret (by simp [results, Tryz.results614, go_sem, q0, q1, q2, q3, q4, q5, q6]; try rfl) rfl ?_
  refine ⟨_, rfl, ?_, H3.out.set7 hrl _ _ _ _ _ _ _, (((((But.refl r w).alloc _).trans HB1.out).trans HB2.out).trans HB3.out).set7 (Nat.le_refl _) _ _ _ _ _ _ _⟩
  have hv1 := exs_keep (ExsAt.mono (M := fun b => w.heap.size + 1 <= b) HV.out (fun b _ hn => by omega)) HB3.out (fun b hn => by omega)
  exact ExAt.mono (fun b _ hn => by omega) (ex_mk (v := vd0) (by decide) (by decide) (strs_nil _ _) (exs_set7 (g := w.heap.size) hv1 (fun b hn => by omega) _ _ _ _ _ _ _))
theorem braces614_b (mixed : Tryz.prog.follows .mixedOrders = true) (r : Nat) (ts : List Tk) (s : St) (w : World) (h : RdAt r ts s w) (x : Ex) (s2 : St) (ht : (take sBar s).1 = true) (ht2 : (take sBar (take sBar s).2).1 = true)
    (hA : ∀ w, RdAt r ts (take sBar (take sBar s).2).2 w -> Calls Tryz.prog 72 #[rp r] w fun e w' => ∃ u, e = .returned u /\ ExAt (w.heap.size <= ·) w' x u /\ RdAt r ts s2 w' /\ But r w w') :
    Calls Tryz.prog 614 #[rp r] w fun e w' => ∃ u, e = .returned u /\ ExAt (w.heap.size <= ·) w' (.mk 8 ByteArray.empty vd0 [] [x]) u /\ RdAt r ts (want sRc s2) w' /\ But r w w' := by
  have hrl := h.lt
  have H := Lib.hid h
  have H0 := Lib.hid (H.out.alloc (.cells #[.int .i64 0, .string ⟨#[]⟩, .int .i64 0, .int .i64 0, .string ⟨#[]⟩, .slice none 0 0, .slice none 0 0] 55))
  have HR0 := Lib.hid (Bk.new w 55 #[.int .i64 0, .string ⟨#[]⟩, .int .i64 0, .int .i64 0, .string ⟨#[]⟩, .slice none 0 0, .slice none 0 0])
  have A := Lib.hid hA
  have TA := Lib.hid (fun w h => take132 mixed r ts s sBar w h)
  rw [ht] at TA
  have TB := Lib.hid (fun w h => take132 mixed r ts (take sBar s).2 sBar w h)
  rw [ht2] at TB
  have TOK1 := Lib.hid True.intro
  clear h hA ht ht2
  generalize (take sBar (take sBar s).2).2 = sb at *
  generalize (take sBar s).2 = sa at *
  go_enter Tryz.func614, Tryz.ntmps614
  go_wp2_with (first
    | (go_at_call 132; clear TOK1; refine (TA.out _ H0.out).mono ?_; rintro e w1 ⟨rfl, h1, hb1⟩; have H1 := Lib.hid h1; have HB1 := Lib.hid hb1; have HR1 := Lib.hid (HR0.out.but hb1 (Nat.ne_of_gt hrl)); clear h1 hb1; )
    | (go_at_call 132; refine (TB.out _ (H1.out.alloc (.cells #[.int .i64 8, .string ⟨#[]⟩, .int .i64 0, .int .i64 0, .string ⟨#[]⟩, .slice none 0 0, .slice none 0 0] 55))).mono ?_; rintro e w2 ⟨rfl, h2, hb2⟩; have H2 := Lib.hid h2; have HB2 := Lib.hid hb2; have HR2 := Lib.hid ((HR1.out.alloc (.cells #[.int .i64 8, .string ⟨#[]⟩, .int .i64 0, .int .i64 0, .string ⟨#[]⟩, .slice none 0 0, .slice none 0 0] 55)).but hb2 (Nat.ne_of_gt hrl)); have hX : w1.heap.size ≠ r := (by have := H1.out.lt; omega); have HX2 := Lib.hid ((Bk.new w1 55 #[.int .i64 8, .string ⟨#[]⟩, .int .i64 0, .int .i64 0, .string ⟨#[]⟩, .slice none 0 0, .slice none 0 0]).but hb2 hX); clear h2 hb2)
    | (go_at_call 72; refine (A.out _ H2.out).mono ?_; clear A; rintro e w3 ⟨u, rfl, hx, h3, hb3⟩; obtain ⟨xo, xs, xk, xn, xt, xa, xm, xc, xb, xq, xd, rfl⟩ := hx.form; have HXX := Lib.hid hx; have H3 := Lib.hid h3; have HB3 := Lib.hid hb3; have HR3 := Lib.hid (HR2.out.but hb3 (Nat.ne_of_gt hrl)); have HX3 := Lib.hid ((HX2.out.but hb3 hX).alloc (.cells #[.int .i64 xo, .string xs, .int .i64 xk, .int .i64 xn, .string xt, .slice xa xm xc, .slice xb xq xd] 55)); obtain ⟨x0, x1, x2, x3, x4, x5, x6⟩ := Bk7 HX3.out; have g5 := HX3.out.frozen 5; have g6 := HX3.out.frozen 6; clear hx h3 hb3)
    | (go_at_call 573; refine (want573 mixed r ts s2 sRc _ ((H3.out.alloc (.cells #[.int .i64 xo, .string xs, .int .i64 xk, .int .i64 xn, .string xt, .slice xa xm xc, .slice xb xq xd] 55)).setHi (g := w1.heap.size) (by have := H1.out.lt; omega) 6 (.slice (some ⟨w3.heap.size, 0, none⟩) 1 1))).mono ?_; rintro e w4 ⟨rfl, h4, hb4⟩; have H4 := Lib.hid h4; have HB4 := Lib.hid hb4; clear x0 x1 x2 x3 x4 x5 x6 g5 g6; have HX4 : Hid (Bk w4 w1.heap.size 55 #[.int .i64 8, .string ⟨#[]⟩, .int .i64 0, .int .i64 0, .string ⟨#[]⟩, .slice none 0 0, .slice (some ⟨w3.heap.size, 0, none⟩) 1 1]) := Lib.hid (by have := (HX3.out.set1 6 (.slice (some ⟨w3.heap.size, 0, none⟩) 1 1)).but hb4 hX; simpa using this); have hw1 : w.heap.size < w1.heap.size := (by have := HB1.out.size; simp at this; omega); have hw2 := HB2.out.size; have hw3 := HB3.out.size; have HR4 := Lib.hid (((HR3.out.alloc (.cells #[.int .i64 xo, .string xs, .int .i64 xk, .int .i64 xn, .string xt, .slice xa xm xc, .slice xb xq xd] 55)).set (p := ⟨w1.heap.size, 6, none⟩) (Nat.ne_of_gt hw1) _).but hb4 (Nat.ne_of_gt hrl)); have HL4 := Lib.hid (((Bk.new w3 55 #[.int .i64 xo, .string xs, .int .i64 xk, .int .i64 xn, .string xt, .slice xa xm xc, .slice xb xq xd]).set (p := ⟨w1.heap.size, 6, none⟩) (show w1.heap.size ≠ w3.heap.size from Nat.ne_of_lt (by have := HX2.out.lt; omega)) _).but hb4 (by have := H3.out.lt; omega)); obtain ⟨x0, x1, x2, x3, x4, x5, x6⟩ := Bk7 HX4.out; clear h4 hb4; have HRX := Lib.hid (HR4.out); obtain ⟨r0, r1, r2, r3, r4, r5, r6⟩ := Bk7 HRX.out; have f0 := HRX.out.frozen 0; have f1 := HRX.out.frozen 1; have f2 := HRX.out.frozen 2; have f3 := HRX.out.frozen 3; have f4 := HRX.out.frozen 4; have f5 := HRX.out.frozen 5; have f6 := HRX.out.frozen 6))
  have sz1 := HB1.out.size
  have sz2 := HB2.out.size
  have sz3 := HB3.out.size
  have sz4 := HB4.out.size
  simp at sz1 sz2 sz4
  clear x0 x1 x2 x3 x4 x5 x6
  have HR7 := HRX.out.set7 (.int .i64 8) (.string ⟨#[]⟩) (.int .i64 0) (.int .i64 0) (.string ⟨#[]⟩) (.slice none 0 0) (.slice (some ⟨w3.heap.size, 0, none⟩) 1 1)
  obtain ⟨q0, q1, q2, q3, q4, q5, q6⟩ := Bk7 HR7
  clear r0 r1 r2 r3 r4 r5 r6 HR7
  unfold wset7 at q0 q1 q2 q3 q4 q5 q6
  refine bodyPost_ret (by simp [results, Tryz.results614, go_sem, q0, q1, q2, q3, q4, q5, q6]; try rfl) rfl ?_
  refine ⟨_, rfl, ?_, H4.out.set7 hrl _ _ _ _ _ _ _, (((((((((But.refl r w).alloc _).trans HB1.out).alloc _).trans HB2.out).trans HB3.out).alloc _).set (p := ⟨w1.heap.size, 6, none⟩) (.inr (by simp; omega)) _).trans HB4.out).set7 (Nat.le_refl _) _ _ _ _ _ _ _⟩
  have hx1 := ex_keep (ex_set (g := w1.heap.size) ((ExAt.mono (M := fun b => w.heap.size + 1 <= b /\ b ≠ w1.heap.size) (fun b _ hn => by have h1 : w2.heap.size <= b := hn; have := HX2.out.lt; omega) HXX.out).below (below_a (.cells #[.int .i64 xo, .string xs, .int .i64 xk, .int .i64 xn, .string xt, .slice xa xm xc, .slice xb xq xd] 55))) 6 (.slice (some ⟨w3.heap.size, 0, none⟩) 1 1) (fun b hn => hn.2)) HB4.out (fun b hn => by omega)
  exact ExAt.mono (fun b _ hn => by omega) (ex_mk (v := vd0) (by decide) (by decide) (strs_nil _ _) (exs_one (ex_set7 (g := w.heap.size) hx1 (fun b hn => by omega) _ _ _ _ _ _ _) (Bk.set7o HL4.out (by omega) _ _ _ _ _ _ _) (by have := HX2.out.lt; omega)))
theorem braces614_c (mixed : Tryz.prog.follows .mixedOrders = true) (r : Nat) (ts : List Tk) (s : St) (w : World) (h : RdAt r ts s w) (p : List ByteArray) (x : Ex) (s2 s3 : St) (ht : (take sBar s).1 = true) (ht2 : (take sBar (take sBar s).2).1 = false)
    (hP : ∀ w, RdAt r ts (take sBar s).2 w -> Calls Tryz.prog 631 #[rp r] w fun e w' => ∃ v, e = .returned v /\ StrsAt (w.heap.size <= ·) w' v p /\ RdAt r ts s2 w' /\ But r w w')
    (hA : ∀ w, RdAt r ts (want sBar s2) w -> Calls Tryz.prog 72 #[rp r] w fun e w' => ∃ u, e = .returned u /\ ExAt (w.heap.size <= ·) w' x u /\ RdAt r ts s3 w' /\ But r w w') :
    Calls Tryz.prog 614 #[rp r] w fun e w' => ∃ u, e = .returned u /\ ExAt (w.heap.size <= ·) w' (.mk 8 ByteArray.empty vd0 p [x]) u /\ RdAt r ts (want sRc s3) w' /\ But r w w' := by
  have hrl := h.lt
  have H := Lib.hid h
  have H0 := Lib.hid (H.out.alloc (.cells #[.int .i64 0, .string ⟨#[]⟩, .int .i64 0, .int .i64 0, .string ⟨#[]⟩, .slice none 0 0, .slice none 0 0] 55))
  have HR0 := Lib.hid (Bk.new w 55 #[.int .i64 0, .string ⟨#[]⟩, .int .i64 0, .int .i64 0, .string ⟨#[]⟩, .slice none 0 0, .slice none 0 0])
  have A := Lib.hid hA
  have AP := Lib.hid hP
  have TA := Lib.hid (fun w h => take132 mixed r ts s sBar w h)
  rw [ht] at TA
  have hss : (take sBar (take sBar s).2).2 = (take sBar s).2 := by revert ht2; generalize (take sBar s).2 = q; unfold take; split <;> simp
  have TB := Lib.hid (fun w h => take132 mixed r ts (take sBar s).2 sBar w h)
  rw [ht2, hss] at TB
  have TOK1 := Lib.hid True.intro
  have TOK2 := Lib.hid True.intro
  clear h hA ht ht2 hss hP
  generalize (take sBar s).2 = sa at *
  go_enter Tryz.func614, Tryz.ntmps614
  go_wp2_with (first
    | (go_at_call 132; clear TOK1; refine (TA.out _ H0.out).mono ?_; rintro e w1 ⟨rfl, h1, hb1⟩; have H1 := Lib.hid h1; have HB1 := Lib.hid hb1; have HR1 := Lib.hid (HR0.out.but hb1 (Nat.ne_of_gt hrl)); clear h1 hb1; )
    | (go_at_call 132; refine (TB.out _ (H1.out.alloc (.cells #[.int .i64 8, .string ⟨#[]⟩, .int .i64 0, .int .i64 0, .string ⟨#[]⟩, .slice none 0 0, .slice none 0 0] 55))).mono ?_; rintro e w2 ⟨rfl, h2, hb2⟩; have H2 := Lib.hid h2; have HB2 := Lib.hid hb2; have HR2 := Lib.hid ((HR1.out.alloc (.cells #[.int .i64 8, .string ⟨#[]⟩, .int .i64 0, .int .i64 0, .string ⟨#[]⟩, .slice none 0 0, .slice none 0 0] 55)).but hb2 (Nat.ne_of_gt hrl)); have hX : w1.heap.size ≠ r := (by have := H1.out.lt; omega); have HX2 := Lib.hid ((Bk.new w1 55 #[.int .i64 8, .string ⟨#[]⟩, .int .i64 0, .int .i64 0, .string ⟨#[]⟩, .slice none 0 0, .slice none 0 0]).but hb2 hX); clear h2 hb2)
    | (go_at_call 631; refine (AP.out _ H2.out).mono ?_; clear AP; rintro e w3 ⟨v, rfl, hv, h3, hb3⟩; obtain ⟨va, vc, rfl⟩ := hv.shape; have HV := Lib.hid hv; have H3 := Lib.hid h3; have HB3 := Lib.hid hb3; have HR3 := Lib.hid (HR2.out.but hb3 (Nat.ne_of_gt hrl)); have HX3 := Lib.hid (HX2.out.but hb3 hX); obtain ⟨x0, x1, x2, x3, x4, x5, x6⟩ := Bk7 HX3.out; have g5 := HX3.out.frozen 5; have g6 := HX3.out.frozen 6; have hw1 : w.heap.size < w1.heap.size := (by have := HB1.out.size; simp at this; omega); clear hv h3 hb3)
    | (go_at_call 573; clear TOK2; refine (want573 mixed r ts s2 sBar _ (H3.out.setHi (g := w1.heap.size) (by have := H1.out.lt; omega) 5 (.slice va p.length vc))).mono ?_; rintro e w4 ⟨rfl, h4, hb4⟩; have H4 := Lib.hid h4; have HB4 := Lib.hid hb4; have HX4 : Hid (Bk w4 w1.heap.size 55 #[.int .i64 8, .string ⟨#[]⟩, .int .i64 0, .int .i64 0, .string ⟨#[]⟩, .slice va p.length vc, .slice none 0 0]) := Lib.hid (by have := (HX3.out.set1 5 (.slice va p.length vc)).but hb4 hX; simpa using this); have HR4 := Lib.hid ((HR3.out.set (p := ⟨w1.heap.size, 5, none⟩) (Nat.ne_of_gt hw1) _).but hb4 (Nat.ne_of_gt hrl)); clear h4 hb4 x0 x1 x2 x3 x4 x5 x6 g5 g6)
    | (go_at_call 72; refine (A.out _ H4.out).mono ?_; clear A; rintro e w5 ⟨u, rfl, hx, h5, hb5⟩; obtain ⟨xo, xs, xk, xn, xt, xa, xm, xc, xb, xq, xd, rfl⟩ := hx.form; have HXX := Lib.hid hx; have H5 := Lib.hid h5; have HB5 := Lib.hid hb5; have HR5 := Lib.hid (HR4.out.but hb5 (Nat.ne_of_gt hrl)); have HX5 := Lib.hid ((HX4.out.but hb5 hX).alloc (.cells #[.int .i64 xo, .string xs, .int .i64 xk, .int .i64 xn, .string xt, .slice xa xm xc, .slice xb xq xd] 55)); obtain ⟨x0, x1, x2, x3, x4, x5, x6⟩ := Bk7 HX5.out; have g5 := HX5.out.frozen 5; have g6 := HX5.out.frozen 6; clear hx h5 hb5)
    | (go_at_call 573; refine (want573 mixed r ts s3 sRc _ ((H5.out.alloc (.cells #[.int .i64 xo, .string xs, .int .i64 xk, .int .i64 xn, .string xt, .slice xa xm xc, .slice xb xq xd] 55)).setHi (g := w1.heap.size) (by have := H1.out.lt; omega) 6 (.slice (some ⟨w5.heap.size, 0, none⟩) 1 1))).mono ?_; rintro e w6 ⟨rfl, h6, hb6⟩; have H6 := Lib.hid h6; have HB6 := Lib.hid hb6; clear x0 x1 x2 x3 x4 x5 x6 g5 g6; have HX6 : Hid (Bk w6 w1.heap.size 55 #[.int .i64 8, .string ⟨#[]⟩, .int .i64 0, .int .i64 0, .string ⟨#[]⟩, .slice va p.length vc, .slice (some ⟨w5.heap.size, 0, none⟩) 1 1]) := Lib.hid (by have := (HX5.out.set1 6 (.slice (some ⟨w5.heap.size, 0, none⟩) 1 1)).but hb6 hX; simpa using this); have HR6 := Lib.hid (((HR5.out.alloc (.cells #[.int .i64 xo, .string xs, .int .i64 xk, .int .i64 xn, .string xt, .slice xa xm xc, .slice xb xq xd] 55)).set (p := ⟨w1.heap.size, 6, none⟩) (Nat.ne_of_gt hw1) _).but hb6 (Nat.ne_of_gt hrl)); have hx5 := HX4.out.lt; have hb5s := HB5.out.size; have HL6 := Lib.hid (((Bk.new w5 55 #[.int .i64 xo, .string xs, .int .i64 xk, .int .i64 xn, .string xt, .slice xa xm xc, .slice xb xq xd]).set (p := ⟨w1.heap.size, 6, none⟩) (show w1.heap.size ≠ w5.heap.size from Nat.ne_of_lt (by omega)) _).but hb6 (by have := H5.out.lt; omega)); obtain ⟨x0, x1, x2, x3, x4, x5, x6⟩ := Bk7 HX6.out; clear h6 hb6; have HRX := Lib.hid (HR6.out); obtain ⟨r0, r1, r2, r3, r4, r5, r6⟩ := Bk7 HRX.out; have f0 := HRX.out.frozen 0; have f1 := HRX.out.frozen 1; have f2 := HRX.out.frozen 2; have f3 := HRX.out.frozen 3; have f4 := HRX.out.frozen 4; have f5 := HRX.out.frozen 5; have f6 := HRX.out.frozen 6))
  have sz1 := HB1.out.size
  have sz2 := HB2.out.size
  have sz3 := HB3.out.size
  have sz4 := HB4.out.size
  have sz5 := HB5.out.size
  have sz6 := HB6.out.size
  simp at sz1 sz2 sz6
  have sz4b : w3.heap.size <= w4.heap.size := by simpa [World.setCell] using sz4
  have hx2l := HX2.out.lt
  clear x0 x1 x2 x3 x4 x5 x6
  have HR7 := HRX.out.set7 (.int .i64 8) (.string ⟨#[]⟩) (.int .i64 0) (.int .i64 0) (.string ⟨#[]⟩) (.slice va p.length vc) (.slice (some ⟨w5.heap.size, 0, none⟩) 1 1)
  obtain ⟨q0, q1, q2, q3, q4, q5, q6⟩ := Bk7 HR7
  clear r0 r1 r2 r3 r4 r5 r6 HR7
  unfold wset7 at q0 q1 q2 q3 q4 q5 q6
  refine bodyPost_ret (by simp [results, Tryz.results614, go_sem, q0, q1, q2, q3, q4, q5, q6]; try rfl) rfl ?_
  have hB5 : But r w w5 := (((((((But.refl r w).alloc _).trans HB1.out).alloc _).trans HB2.out).trans HB3.out).set (p := ⟨w1.heap.size, 5, none⟩) (.inr (Nat.le_of_lt hw1)) _).trans HB4.out |>.trans HB5.out
  refine ⟨_, rfl, ?_, H6.out.set7 hrl _ _ _ _ _ _ _, (((hB5.alloc _).set (p := ⟨w1.heap.size, 6, none⟩) (.inr (Nat.le_of_lt hw1)) _).trans HB6.out).set7 (Nat.le_refl _) _ _ _ _ _ _ _⟩
  have hx1 := ex_keep (ex_set (g := w1.heap.size) ((ExAt.mono (M := fun b => w.heap.size + 1 <= b /\ b ≠ w1.heap.size) (fun b _ hn => by have h1 : w4.heap.size <= b := hn; omega) HXX.out).below (below_a (.cells #[.int .i64 xo, .string xs, .int .i64 xk, .int .i64 xn, .string xt, .slice xa xm xc, .slice xb xq xd] 55))) 6 (.slice (some ⟨w5.heap.size, 0, none⟩) 1 1) (fun b hn => hn.2)) HB6.out (fun b hn => by omega)
  have hv0 : StrsAt (fun b => w.heap.size + 1 <= b /\ b ≠ w1.heap.size) w3 (.slice va p.length vc) p := StrsAt.mono HV.out (fun b _ hn => by have h1 : w2.heap.size <= b := hn; omega)
  have hv1 := strs_keep (strs_keep ((strs_keep (strs_keep (strs_keep hv0 (but_set w1.heap.size w3 5 (.slice va p.length vc)) (fun b hn => hn.2)) HB4.out (fun b hn => by omega)) HB5.out (fun b hn => by omega)).below (below_a (.cells #[.int .i64 xo, .string xs, .int .i64 xk, .int .i64 xn, .string xt, .slice xa xm xc, .slice xb xq xd] 55))) (but_set w1.heap.size _ 6 (.slice (some ⟨w5.heap.size, 0, none⟩) 1 1)) (fun b hn => hn.2)) HB6.out (fun b hn => by omega)
  exact ExAt.mono (fun b _ hn => by omega) (ex_mk (N := fun b => w.heap.size + 1 <= b /\ True) (v := vd0) (by decide) (by decide) (StrsAt.mono (strs_set7 (g := w.heap.size) hv1 (fun b hn => by omega) _ _ _ _ _ _ _) (fun b _ hn => ⟨hn.1, trivial⟩)) (exs_one (ExAt.mono (fun b _ hn => ⟨hn.1, trivial⟩) (ex_set7 (g := w.heap.size) hx1 (fun b hn => by omega) _ _ _ _ _ _ _)) (Bk.set7o HL6.out (by omega) _ _ _ _ _ _ _) ⟨by omega, trivial⟩))
theorem braces614 (mixed : Tryz.prog.follows .mixedOrders = true) (f : Nat) (hE : RE 72 pExpr f) (hL : RLs 630 pList f) : RE 614 pBraces (f + 1) := by
  intro r ts s y s' w hp h
  unfold pBraces at hp
  cases ht : (take sBar s).1 with
  | false =>
    rw [ht, if_neg (by decide)] at hp
    obtain ⟨⟨l, s2⟩, h1, h2⟩ := Option.bind_eq_some_iff.1 hp
    cases h2
    exact braces614_a mixed r ts s w h l s2 ht (fun w h => hL r ts s l s2 w h1 h)
  | true =>
    rw [ht, if_pos rfl] at hp
    cases ht2 : (take sBar (take sBar s).2).1 with
    | true =>
      rw [ht2, if_pos rfl] at hp
      obtain ⟨⟨x, s2⟩, h1, h2⟩ := Option.bind_eq_some_iff.1 hp
      cases h2
      exact braces614_b mixed r ts s w h x s2 ht ht2 (fun w h => hE r ts _ x s2 w h1 h)
    | false =>
      rw [ht2, if_neg (by decide)] at hp
      obtain ⟨⟨p, s2⟩, h1, h2⟩ := Option.bind_eq_some_iff.1 hp
      obtain ⟨⟨x, s3⟩, h3, h4⟩ := Option.bind_eq_some_iff.1 h2
      cases h4
      exact braces614_c mixed r ts s w h p x s2 s3 ht ht2 (fun w h => names631 mixed f r ts _ p s2 w h1 h) (fun w h => hE r ts _ x s3 w h3 h)
theorem digs_bound : ∀ (l : List UInt8) (n : Int), 0 <= n -> n <= 1000000000000000 -> 0 <= digs l n /\ digs l n <= 1000000000000000
  | [], n, h1, h2 => ⟨h1, h2⟩
  | c :: r, n, h1, h2 => by
    unfold digs
    split
    · rename_i hc
      have : 48 <= (c.toNat : Int) := by
        rw [digB_int] at hc; simp [digI] at hc; exact hc.1
      exact digs_bound r _ (by omega) (by omega)
    · exact ⟨h1, h2⟩
theorem drop_cons {s : ByteArray} {k : Nat} (h : k < s.size) : s.data.toList.drop k = s[k] :: s.data.toList.drop (k + 1) := by
  obtain ⟨⟨l⟩⟩ := s
  exact List.drop_eq_getElem_cons h
theorem drop_end {s : ByteArray} {k : Nat} (h : ¬ k < s.size) : s.data.toList.drop k = [] := List.drop_eq_nil_of_le (by have : s.data.toList.length = s.size := rfl; omega)
def valT (T : List UInt8) : Int := match T with | 45 :: r => - digs r 0 | 43 :: r => digs r 0 | r => digs r 0
theorem valOf_eq (s : ByteArray) : valOf s = valT (s.data.toList.dropWhile (· == 32)) := by
  first
    | rfl
    | (unfold valOf valT; rfl)
theorem valOf_tail {s : ByteArray} {T : List UInt8} (h : s.data.toList.dropWhile (· == 32) = T) : valOf s = valT T := by
  rw [valOf_eq, h]
theorem val_other {c : UInt8} {r : List UInt8} (h1 : c ≠ 45) (h2 : c ≠ 43) : valT (c :: r) = digs (c :: r) 0 := by
  unfold valT
  split
  · rename_i h; cases h; exact absurd rfl h1
  · rename_i h; cases h; exact absurd rfl h2
  · rfl
theorem val517 (s : ByteArray) (w : World) (hs : s.size <= 9223372036854775807) :
    Calls Tryz.prog 517 #[.string s] w fun e w' => e = .returned (.int .i64 (valOf s)) /\ w' = w := by
  go_enter Tryz.func517, Tryz.ntmps517
  go_wp2
  go_loopg [3] s.size (fun gk s3 wr => ∃ k : Nat, k <= s.size /\ s.size - k <= gk /\ s3 = .int .i64 k /\ s.data.toList.dropWhile (· == 32) = (s.data.toList.drop k).dropWhile (· == 32) /\ wr = w)
  case atStart => exact ⟨0, Nat.zero_le _, by omega, rfl, rfl, rfl⟩
  case round =>
    obtain ⟨k, hk, hg, rfl, hd, rfl⟩ := hrel
    have HD := Lib.hid hd
    clear hd
    obtain ⟨w0, hw0⟩ : ∃ w0, w0 = wr := ⟨_, rfl⟩
    subst hw0
    by_cases hlt : k < s.size
    · have hdc := drop_cons hlt
      by_cases h32 : s[k] = 32
      · have hn : ((s[k].toNat : Int) == 32) = true := by rw [h32]; rfl
        have HN : Hid ((s.data.toList.drop k).dropWhile (· == 32) = (s.data.toList.drop (k + 1)).dropWhile (· == 32)) := Lib.hid (by rw [hdc, List.dropWhile_cons]; simp [h32])
        clear hdc h32
        go_wp2
        go_roundg (s.size - (k + 1))
        case measure => omega
        case rel => exact ⟨k + 1, by omega, by omega, by go_num, by rw [HD.out, HN.out], rfl⟩
      · have hn : ((s[k].toNat : Int) == 32) = false := by
          rw [beq_eq_false_iff_ne]; intro e; apply h32
          exact UInt8.toNat_inj.1 (by show s[k].toNat = 32; omega)
        have HT : Hid (valOf s = valT (s[k] :: s.data.toList.drop (k + 1))) := Lib.hid (valOf_tail (by rw [HD.out, hdc, List.dropWhile_cons, if_neg (by simpa using h32)]))
        by_cases h45 : s[k] = 45
        · have hm : ((s[k].toNat : Int) == 45) = true := by rw [h45]; rfl
          have HV : Hid (valOf s = - digs (s.data.toList.drop (k + 1)) 0) := Lib.hid (by rw [HT.out, h45]; rfl)
          have hrest := True.intro
          clear hdc h32 HT h45
          go_wp2
          clear hrest
          go_loopg [3, 5] s.size (fun gk s3 s5 wr => ∃ (i : Nat) (n : Int), i <= s.size /\ s.size - i <= gk /\ s3 = .int .i64 i /\ s5 = .int .i64 n /\ 0 <= n /\ n <= 1000000000000000 /\ digs (s.data.toList.drop (k + 1)) 0 = digs (s.data.toList.drop i) n /\ wr = w0)
          case atStart => exact ⟨k + 1, 0, by omega, by omega, by first | rfl | (go_num), rfl, by omega, by omega, rfl, rfl⟩
          case round =>
            obtain ⟨i, n, i1, i2, rfl, rfl, n1, n2, hd, rfl⟩ := hrel
            have HD := Lib.hid hd
            clear hd
            by_cases hlt : i < s.size
            · have hdc := drop_cons hlt
              cases hdg : digB s[i] with
              | true =>
                have hdi : digI s[i].toNat = true := by rw [<- digB_int]; exact hdg
                have HC : Hid (digs (s.data.toList.drop i) n = digs (s.data.toList.drop (i + 1)) (min (10 * n + ((s[i].toNat : Int) - 48)) 1000000000000000)) := Lib.hid (by
                  rw [hdc]; simp only [digs, hdg, if_true])
                have hge : 48 <= (s[i].toNat : Int) /\ (s[i].toNat : Int) <= 57 := by simp [digI] at hdi; exact hdi
                have HDI := Lib.hid hdi
                clear hdc hdg hdi
                go_wp2_with (first | (go_at_call 367; refine (isDigit367 _ _).mono ?_; rintro e w' ⟨rfl, hw⟩; obtain rfl := hw.symm; rw [HDI.out]))
                all_goals
                  go_roundg (s.size - (i + 1))
                  case measure => omega
                  case rel =>
                    first
                      | exact ⟨i + 1, min (10 * n + ((s[i].toNat : Int) - 48)) 1000000000000000, by omega, by omega, by go_num, by go_num, by omega, by omega, by rw [HD.out, HC.out], rfl⟩
                      | trace_state
              | false =>
                have hdi : digI s[i].toNat = false := by rw [<- digB_int]; exact hdg
                have HC : Hid (digs (s.data.toList.drop i) n = n) := Lib.hid (by rw [hdc]; simp only [digs, hdg]; rfl)
                have HDI := Lib.hid hdi
                have HE := Lib.hid (HV.out.trans (show (- digs (s.data.toList.drop (k + 1)) 0) = -n from by rw [HD.out, HC.out]))
                clear hdc hdg hdi
                go_wp2_with (first | (go_at_call 367; refine (isDigit367 _ _).mono ?_; rintro e w' ⟨rfl, hw⟩; obtain rfl := hw.symm; rw [HDI.out]))
                all_goals
                  go_ret
                  exact ⟨by rw [HE.out]; rfl, rfl⟩
            · have HC : Hid (digs (s.data.toList.drop i) n = n) := Lib.hid (by rw [drop_end hlt]; rfl)
              have HE := Lib.hid (HV.out.trans (show (- digs (s.data.toList.drop (k + 1)) 0) = -n from by rw [HD.out, HC.out]))
              go_wp2
              all_goals
                go_ret
                exact ⟨by rw [HE.out]; rfl, rfl⟩
        · have hm : ((s[k].toNat : Int) == 45) = false := by
            rw [beq_eq_false_iff_ne]; intro e; apply h45
            exact UInt8.toNat_inj.1 (by show s[k].toNat = 45; omega)
          by_cases h43 : s[k] = 43
          · have hp : ((s[k].toNat : Int) == 43) = true := by rw [h43]; rfl
            have HV : Hid (valOf s = digs (s.data.toList.drop (k + 1)) 0) := Lib.hid (by rw [HT.out, h43]; rfl)
            have hrest := True.intro
            clear hdc h32 HT h45 h43
            go_wp2
            clear hrest
            go_loopg [3, 5] s.size (fun gk s3 s5 wr => ∃ (i : Nat) (n : Int), i <= s.size /\ s.size - i <= gk /\ s3 = .int .i64 i /\ s5 = .int .i64 n /\ 0 <= n /\ n <= 1000000000000000 /\ digs (s.data.toList.drop (k + 1)) 0 = digs (s.data.toList.drop i) n /\ wr = w0)
            case atStart => exact ⟨k + 1, 0, by omega, by omega, by first | rfl | (go_num), rfl, by omega, by omega, rfl, rfl⟩
            case round =>
              obtain ⟨i, n, i1, i2, rfl, rfl, n1, n2, hd, rfl⟩ := hrel
              have HD := Lib.hid hd
              clear hd
              by_cases hlt : i < s.size
              · have hdc := drop_cons hlt
                cases hdg : digB s[i] with
                | true =>
                  have hdi : digI s[i].toNat = true := by rw [<- digB_int]; exact hdg
                  have HC : Hid (digs (s.data.toList.drop i) n = digs (s.data.toList.drop (i + 1)) (min (10 * n + ((s[i].toNat : Int) - 48)) 1000000000000000)) := Lib.hid (by
                    rw [hdc]; simp only [digs, hdg, if_true])
                  have hge : 48 <= (s[i].toNat : Int) /\ (s[i].toNat : Int) <= 57 := by simp [digI] at hdi; exact hdi
                  have HDI := Lib.hid hdi
                  clear hdc hdg hdi
                  go_wp2_with (first | (go_at_call 367; refine (isDigit367 _ _).mono ?_; rintro e w' ⟨rfl, hw⟩; obtain rfl := hw.symm; rw [HDI.out]))
                  all_goals
                    go_roundg (s.size - (i + 1))
                    case measure => omega
                    case rel =>
                      first
                        | exact ⟨i + 1, min (10 * n + ((s[i].toNat : Int) - 48)) 1000000000000000, by omega, by omega, by go_num, by go_num, by omega, by omega, by rw [HD.out, HC.out], rfl⟩
                        | trace_state
                | false =>
                  have hdi : digI s[i].toNat = false := by rw [<- digB_int]; exact hdg
                  have HC : Hid (digs (s.data.toList.drop i) n = n) := Lib.hid (by rw [hdc]; simp only [digs, hdg]; rfl)
                  have HDI := Lib.hid hdi
                  have HE := Lib.hid (HV.out.trans (show (digs (s.data.toList.drop (k + 1)) 0) = n from by rw [HD.out, HC.out]))
                  clear hdc hdg hdi
                  go_wp2_with (first | (go_at_call 367; refine (isDigit367 _ _).mono ?_; rintro e w' ⟨rfl, hw⟩; obtain rfl := hw.symm; rw [HDI.out]))
                  all_goals
                    go_ret
                    exact ⟨by rw [HE.out]; rfl, rfl⟩
              · have HC : Hid (digs (s.data.toList.drop i) n = n) := Lib.hid (by rw [drop_end hlt]; rfl)
                have HE := Lib.hid (HV.out.trans (show (digs (s.data.toList.drop (k + 1)) 0) = n from by rw [HD.out, HC.out]))
                go_wp2
                all_goals
                  go_ret
                  exact ⟨by rw [HE.out]; rfl, rfl⟩
          · have hp : ((s[k].toNat : Int) == 43) = false := by
              rw [beq_eq_false_iff_ne]; intro e; apply h43
              exact UInt8.toNat_inj.1 (by show s[k].toNat = 43; omega)
            have HV : Hid (valOf s = digs (s.data.toList.drop (k)) 0) := Lib.hid (by rw [HT.out, val_other h45 h43, hdc])
            have hrest := True.intro
            clear hdc h32 HT h45 h43
            go_wp2
            clear hrest
            go_loopg [3, 5] s.size (fun gk s3 s5 wr => ∃ (i : Nat) (n : Int), i <= s.size /\ s.size - i <= gk /\ s3 = .int .i64 i /\ s5 = .int .i64 n /\ 0 <= n /\ n <= 1000000000000000 /\ digs (s.data.toList.drop (k)) 0 = digs (s.data.toList.drop i) n /\ wr = w0)
            case atStart => exact ⟨k, 0, by omega, by omega, by first | rfl | (go_num), rfl, by omega, by omega, rfl, rfl⟩
            case round =>
              obtain ⟨i, n, i1, i2, rfl, rfl, n1, n2, hd, rfl⟩ := hrel
              have HD := Lib.hid hd
              clear hd
              by_cases hlt : i < s.size
              · have hdc := drop_cons hlt
                cases hdg : digB s[i] with
                | true =>
                  have hdi : digI s[i].toNat = true := by rw [<- digB_int]; exact hdg
                  have HC : Hid (digs (s.data.toList.drop i) n = digs (s.data.toList.drop (i + 1)) (min (10 * n + ((s[i].toNat : Int) - 48)) 1000000000000000)) := Lib.hid (by
                    rw [hdc]; simp only [digs, hdg, if_true])
                  have hge : 48 <= (s[i].toNat : Int) /\ (s[i].toNat : Int) <= 57 := by simp [digI] at hdi; exact hdi
                  have HDI := Lib.hid hdi
                  clear hdc hdg hdi
                  go_wp2_with (first | (go_at_call 367; refine (isDigit367 _ _).mono ?_; rintro e w' ⟨rfl, hw⟩; obtain rfl := hw.symm; rw [HDI.out]))
                  all_goals
                    go_roundg (s.size - (i + 1))
                    case measure => omega
                    case rel =>
                      first
                        | exact ⟨i + 1, min (10 * n + ((s[i].toNat : Int) - 48)) 1000000000000000, by omega, by omega, by go_num, by go_num, by omega, by omega, by rw [HD.out, HC.out], rfl⟩
                        | trace_state
                | false =>
                  have hdi : digI s[i].toNat = false := by rw [<- digB_int]; exact hdg
                  have HC : Hid (digs (s.data.toList.drop i) n = n) := Lib.hid (by rw [hdc]; simp only [digs, hdg]; rfl)
                  have HDI := Lib.hid hdi
                  have HE := Lib.hid (HV.out.trans (show (digs (s.data.toList.drop (k)) 0) = n from by rw [HD.out, HC.out]))
                  clear hdc hdg hdi
                  go_wp2_with (first | (go_at_call 367; refine (isDigit367 _ _).mono ?_; rintro e w' ⟨rfl, hw⟩; obtain rfl := hw.symm; rw [HDI.out]))
                  all_goals
                    go_ret
                    exact ⟨by rw [HE.out]; rfl, rfl⟩
              · have HC : Hid (digs (s.data.toList.drop i) n = n) := Lib.hid (by rw [drop_end hlt]; rfl)
                have HE := Lib.hid (HV.out.trans (show (digs (s.data.toList.drop (k)) 0) = n from by rw [HD.out, HC.out]))
                go_wp2
                all_goals
                  go_ret
                  exact ⟨by rw [HE.out]; rfl, rfl⟩
    · have HV : Hid (valOf s = digs (s.data.toList.drop (k)) 0) := Lib.hid (by rw [valOf_tail (T := []) (by rw [HD.out, drop_end hlt]; rfl), drop_end hlt]; rfl)
      have hrest := True.intro
      go_wp2
      clear hrest
      go_loopg [3, 5] s.size (fun gk s3 s5 wr => ∃ (i : Nat) (n : Int), i <= s.size /\ s.size - i <= gk /\ s3 = .int .i64 i /\ s5 = .int .i64 n /\ 0 <= n /\ n <= 1000000000000000 /\ digs (s.data.toList.drop (k)) 0 = digs (s.data.toList.drop i) n /\ wr = w0)
      case atStart => exact ⟨k, 0, by omega, by omega, by first | rfl | (go_num), rfl, by omega, by omega, rfl, rfl⟩
      case round =>
        obtain ⟨i, n, i1, i2, rfl, rfl, n1, n2, hd, rfl⟩ := hrel
        have HD := Lib.hid hd
        clear hd
        by_cases hlt : i < s.size
        · have hdc := drop_cons hlt
          cases hdg : digB s[i] with
          | true =>
            have hdi : digI s[i].toNat = true := by rw [<- digB_int]; exact hdg
            have HC : Hid (digs (s.data.toList.drop i) n = digs (s.data.toList.drop (i + 1)) (min (10 * n + ((s[i].toNat : Int) - 48)) 1000000000000000)) := Lib.hid (by
              rw [hdc]; simp only [digs, hdg, if_true])
            have hge : 48 <= (s[i].toNat : Int) /\ (s[i].toNat : Int) <= 57 := by simp [digI] at hdi; exact hdi
            have HDI := Lib.hid hdi
            clear hdc hdg hdi
            go_wp2_with (first | (go_at_call 367; refine (isDigit367 _ _).mono ?_; rintro e w' ⟨rfl, hw⟩; obtain rfl := hw.symm; rw [HDI.out]))
            all_goals
              go_roundg (s.size - (i + 1))
              case measure => omega
              case rel =>
                first
                  | exact ⟨i + 1, min (10 * n + ((s[i].toNat : Int) - 48)) 1000000000000000, by omega, by omega, by go_num, by go_num, by omega, by omega, by rw [HD.out, HC.out], rfl⟩
                  | trace_state
          | false =>
            have hdi : digI s[i].toNat = false := by rw [<- digB_int]; exact hdg
            have HC : Hid (digs (s.data.toList.drop i) n = n) := Lib.hid (by rw [hdc]; simp only [digs, hdg]; rfl)
            have HDI := Lib.hid hdi
            have HE := Lib.hid (HV.out.trans (show (digs (s.data.toList.drop (k)) 0) = n from by rw [HD.out, HC.out]))
            clear hdc hdg hdi
            go_wp2_with (first | (go_at_call 367; refine (isDigit367 _ _).mono ?_; rintro e w' ⟨rfl, hw⟩; obtain rfl := hw.symm; rw [HDI.out]))
            all_goals
              go_ret
              exact ⟨by rw [HE.out]; rfl, rfl⟩
        · have HC : Hid (digs (s.data.toList.drop i) n = n) := Lib.hid (by rw [drop_end hlt]; rfl)
          have HE := Lib.hid (HV.out.trans (show (digs (s.data.toList.drop (k)) 0) = n from by rw [HD.out, HC.out]))
          go_wp2
          all_goals
            go_ret
            exact ⟨by rw [HE.out]; rfl, rfl⟩
theorem extract_sub (s : ByteArray) (a b : Nat) : s.extract a b = sub s a b := by
  unfold sub
  apply ByteArray.ext
  apply Array.toList_inj.1
  simp [ByteArray.data_extract, Array.toList_extract, List.extract]
theorem unstamp430 (mixed : Tryz.prog.follows .mixedOrders = true) (s : ByteArray) (w : World) (hs : s.size <= 9223372036854775807) :
    Calls Tryz.prog 430 #[.string s] w fun e w' => (∃ b : Bool, e = .returned (.tuple #[.int .i64 (unstamp s), .bool b])) /\ Below w.heap.size w w' := by
  have hno : s.data.toList.length ≠ 8 -> unstamp s = 0 := by intro h; unfold unstamp; rw [if_neg]; simp; intro h2; exact absurd h2 (by simpa using h)
  have hlen : s.data.toList.length = s.size := rfl
  cases hb : (s.toList == [32, 32, 32, 32, 32, 32, 32, 32]) with
  | true =>
    have hl : s.data.toList = [32, 32, 32, 32, 32, 32, 32, 32] := by rw [<- Lib.toList_data]; simpa using hb
    have HU : Hid (unstamp s = 0) := Lib.hid (by unfold unstamp; rw [if_neg]; rw [hl]; decide)
    clear hno hlen hl
    go_enter Tryz.func430, Tryz.ntmps430
    go_wp2
    go_returns
    exact ⟨⟨true, by rw [HU.out]; rfl⟩, Below.refl _ _⟩
  | false =>
  have hbn : ¬ s.toList = [32, 32, 32, 32, 32, 32, 32, 32] := by intro e; rw [e] at hb; revert hb; decide
  by_cases h8 : s.size = 8
  · have HDG : Hid (∀ i (h : i < s.size), digI s[i].toNat = false -> unstamp s = 0) := Lib.hid (fun i h hd => by
      unfold unstamp; rw [if_neg]
      simp only [Bool.and_eq_true, decide_eq_true_eq, not_and]
      intro _
      rw [List.all_eq_true]; intro hall
      have := hall _ (List.getElem_mem (show i < s.data.toList.length from h))
      rw [digB_int] at this
      have e : s[i] = s.data.toList[i]'(show i < s.data.toList.length from h) := by obtain ⟨⟨l⟩⟩ := s; rfl
      rw [e] at hd; rw [hd] at this; cases this)
    have HALL : Hid ((∀ i (h : i < s.size), digI s[i].toNat = true) -> unstamp s = (dayOf (valOf (s.extract 0 4)) (valOf (s.extract 4 6)) (valOf (s.extract 6 8))).getD 0) := Lib.hid (fun hall => by
      unfold unstamp; rw [if_pos, extract_sub, extract_sub, extract_sub]
      simp only [Bool.and_eq_true, decide_eq_true_eq]
      refine ⟨by omega, ?_⟩
      rw [List.all_eq_true]
      intro c hc
      obtain ⟨i, hi, rfl⟩ := List.getElem_of_mem hc
      rw [digB_int]
      have := hall i hi
      have e : s[i] = s.data.toList[i] := by obtain ⟨⟨l⟩⟩ := s; rfl
      rw [e] at this; exact this)
    clear hno hlen
    go_enter Tryz.func430, Tryz.ntmps430
    go_wp2
    go_loopg [4] 8 (fun gk s4 wr => ∃ k : Nat, k <= 8 /\ 8 - k <= gk /\ s4 = .int .i64 k /\ (∀ i (h : i < s.size), i < k -> digI s[i].toNat = true) /\ wr = w)
    case atStart => exact ⟨0, by omega, by omega, rfl, fun i _ h => absurd h (Nat.not_lt_zero _), rfl⟩
    case round =>
      obtain ⟨k, hk, hg, rfl, hall, rfl⟩ := hrel
      have HA := Lib.hid hall
      clear hall
      by_cases hlt : k < 8
      · have hlt2 : k < s.size := by omega
        cases hd : digI s[k].toNat with
        | true =>
          have HD := Lib.hid hd
          clear hd
          go_wp2_with (first | (go_at_call 367; refine (isDigit367 _ _).mono ?_; rintro e w' ⟨rfl, hw⟩; obtain rfl := hw.symm; rw [HD.out]))
          go_roundg (8 - (k + 1))
          case measure => omega
          case rel =>
            refine ⟨k + 1, by omega, by omega, by go_num, fun i hi hl => ?_, rfl⟩
            by_cases hik : i < k
            · exact HA.out i hi hik
            · have : i = k := by omega
              subst this; exact HD.out
        | false =>
          have HD := Lib.hid hd
          clear hd
          go_wp2_with (first | (go_at_call 367; refine (isDigit367 _ _).mono ?_; rintro e w' ⟨rfl, hw⟩; obtain rfl := hw.symm; rw [HD.out]))
          go_returns
          exact ⟨⟨false, by rw [HDG.out k hlt2 HD.out]; rfl⟩, Below.refl _ _⟩
      · have hk8 : k = 8 := by omega
        subst hk8
        have HU := Lib.hid (HALL.out (fun i hi => HA.out i hi (by omega)))
        have z1 : (s.extract 0 4).size <= 9223372036854775807 := by rw [ByteArray.size_extract]; omega
        have z2 : (s.extract 4 6).size <= 9223372036854775807 := by rw [ByteArray.size_extract]; omega
        have z3 : (s.extract 6 8).size <= 9223372036854775807 := by rw [ByteArray.size_extract]; omega
        have V1 := Lib.hid (fun w => val517 (s.extract 0 4) w z1)
        have V2 := Lib.hid (fun w => val517 (s.extract 4 6) w z2)
        have V3 := Lib.hid (fun w => val517 (s.extract 6 8) w z3)
        have D := Lib.hid (fun w => days373 (valOf (s.extract 0 4)) (valOf (s.extract 4 6)) (valOf (s.extract 6 8)) w)
        unfold dayE at D
        clear z1 z2 z3
        generalize (dayOf (valOf (s.extract 0 4)) (valOf (s.extract 4 6)) (valOf (s.extract 6 8))).getD 0 = dn at *
        generalize (if (dayOf (valOf (s.extract 0 4)) (valOf (s.extract 4 6)) (valOf (s.extract 6 8))).isSome then (0 : Int) else 1) = de at *
        generalize valOf (s.extract 0 4) = v1 at *
        generalize valOf (s.extract 4 6) = v2 at *
        generalize valOf (s.extract 6 8) = v3 at *
        have TOK1 := Lib.hid True.intro
        have TOK2 := Lib.hid True.intro
        go_wp2_with fail
        go_region_with (first
          | (go_at_call 517; clear TOK1; refine (V1.out _).mono ?_; rintro e w1 ⟨rfl, hw⟩; obtain rfl := hw.symm)
          | (go_at_call 517; clear TOK2; refine (V2.out _).mono ?_; rintro e w1 ⟨rfl, hw⟩; obtain rfl := hw.symm)
          | (go_at_call 517; refine (V3.out _).mono ?_; rintro e w1 ⟨rfl, hw⟩; obtain rfl := hw.symm)
          | (go_at_call 373; refine (D.out _).mono ?_; rintro e w1 ⟨rfl, hw⟩; obtain rfl := hw.symm))
        all_goals
          go_wp2
          go_returns
          exact ⟨⟨_, by rw [HU.out]; rfl⟩, (Below.refl _ _).drew⟩
  · have HU := Lib.hid (hno (by omega))
    go_enter Tryz.func430, Tryz.ntmps430
    go_wp2
    go_returns
    exact ⟨⟨false, by rw [HU.out]; rfl⟩, Below.refl _ _⟩
theorem num9 (n : Int) (w : World) : Calls Tryz.prog 9 #[.int .i64 n] w fun e w' => e = .returned (.agg #[.int .i64 2, .int .i64 n, .string ⟨#[]⟩]) /\ Below w.heap.size w w' := by
  go_enter Tryz.func9, Tryz.ntmps9
  go_wp2
  go_returns
  exact ⟨rfl, below_a _⟩
theorem text609 (s : ByteArray) (w : World) : Calls Tryz.prog 609 #[.string s] w fun e w' => e = .returned (.agg #[.int .i64 4, .int .i64 0, .string s]) /\ Below w.heap.size w w' := by
  go_enter Tryz.func609, Tryz.ntmps609
  go_wp2
  go_returns
  exact ⟨rfl, below_a _⟩
theorem date610 (n : Int) (w : World) : Calls Tryz.prog 610 #[.int .i64 n] w fun e w' => e = .returned (.agg #[.int .i64 3, .int .i64 n, .string ⟨#[]⟩]) /\ Below w.heap.size w w' := by
  go_enter Tryz.func610, Tryz.ntmps610
  go_wp2
  go_returns
  exact ⟨rfl, below_a _⟩
theorem truth613 (b : Bool) (w : World) : Calls Tryz.prog 613 #[.bool b] w fun e w' => e = .returned (.agg #[.int .i64 1, .int .i64 (if b then 1 else 0), .string ⟨#[]⟩]) /\ Below w.heap.size w w' := by
  cases b
  · go_enter Tryz.func613, Tryz.ntmps613
    go_wp2
    go_returns
    exact ⟨rfl, below_a _⟩
  · go_enter Tryz.func613, Tryz.ntmps613
    go_wp2
    go_returns
    exact ⟨rfl, below_a _⟩
end Go.Proofs.YtdmepghoffhphaaGreatDoor
