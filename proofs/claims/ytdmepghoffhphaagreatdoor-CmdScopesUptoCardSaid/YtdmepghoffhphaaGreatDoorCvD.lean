/- PROVED: contracts of the functions that CmdScopes reaches, and what an expression is that is written and read again (part CvD). CONDITIONS: none. -/
import Derived.Test.YtdmepghoffhphaaGreatDoorCvC
set_option linter.unusedSimpArgs false
set_option linter.unusedVariables false
set_option linter.unnecessarySimpa false
set_option maxHeartbeats 8000000
set_option maxRecDepth 100000
namespace Go.Proofs.YtdmepghoffhphaaGreatDoor
open Go Go.RowKit Go.Lib
theorem w79_4b (V : ValW) (n : Nat) (ih : ExprW n) (s : ByteArray) (v : Vl) (p : List ByteArray) (l : List Ex) (u : Value) (b m : Nat) (t : List Tk) (bd : Bool) (w : World) (hnl : wtL l <= n) (hlen : l.length ≠ 1) (hx : ExAt (· < b) w (.mk 4 s v p l) u) (h : WrAt b m t bd w) (hm : m + cost (.mk 4 s v p l) <= bigM) :
    Calls Tryz.prog 79 #[wp' b, u] w (WS b (m + cost (.mk 4 s v p l)) (t ++ tks (.mk 4 s v p l)) (bd || bad (.mk 4 s v p l)) w) := by
  have C0 := cost_eq (.mk 4 s v p l)
  obtain ⟨pa, pc, la, lc, hu, hs, hvs, hp, hl⟩ := hx.parts
  obtain ⟨vk, vn, vs⟩ := v
  have hs : s.size <= 9223372036854775807 := hs
  have hvs : vs.size <= 9223372036854775807 := hvs
  have hll : l.length <= 9223372036854775807 := hl.1
  simp only [sz] at C0
  subst hu
  have hlt := h.lt
  have HX := Lib.hid hx
  have HP := Lib.hid hp
  have HL := Lib.hid hl
  have hw := Lib.hid (h.alloc (.cells #[.int .i64 4, .string s, .int .i64 vk, .int .i64 vn, .string vs, .slice pa p.length pc, .slice la l.length lc] 55))
  have hk := Lib.hid (Bk.new w 55 #[.int .i64 4, .string s, .int .i64 vk, .int .i64 vn, .string vs, .slice pa p.length pc, .slice la l.length lc])
  have HB := Lib.hid (And.intro (below_low (w := w) (.cells #[.int .i64 4, .string s, .int .i64 vk, .int .i64 vn, .string vs, .slice pa p.length pc, .slice la l.length lc] 55) (Nat.le_of_lt hlt)) ((Fw.refl b w).alloc (.cells #[.int .i64 4, .string s, .int .i64 vk, .int .i64 vn, .string vs, .slice pa p.length pc, .slice la l.length lc] 55)))
  obtain ⟨k0, k1, k2, k3, k4, k5, k6⟩ := Bk7 hk.out
  have hlk1 : decide (l.length = 1) = false := decide_eq_false hlen
  have hlk2 : decide (l.length ≠ 1) = true := decide_eq_true hlen
  go_enter Tryz.func79, Tryz.ntmps79
  go_wp2_with (first
    | (go_at_call 145; refine (has145 b _ _ _ l.length 1 _ hw.out).mono ?_; rw [hlk1, hlk2]; rintro e w1 ⟨rfl, hw1, hb1⟩; have hk2 := Lib.hid (hk.out.fw hb1.2 (Nat.ne_of_gt hlt) (by decide)); have HB2 := Lib.hid (And.intro (HB.out.1.trans hb1.1) (HB.out.2.trans hb1.2)); clear k0 k1 k2 k3 k4 k5 k6  hk HB hw; have hk := hk2; have HB := HB2; have hw := Lib.hid hw1; clear hk2 HB2 hw1 hb1; obtain ⟨k0, k1, k2, k3, k4, k5, k6⟩ := Bk7 hk.out))
  all_goals
    go_end0
    refine ⟨rfl, ?_, HB.out⟩
    have hf := hw.out.mono (m' := m + cost (.mk 4 s ⟨vk, vn, vs⟩ p l)) (by first | omega | (simp only [sLp_sz, sRp_sz, sLc_sz, sRc_sz, sLb_sz, sRb_sz, sBar_sz, sAmp_sz, sDot_sz, sAt_sz, sArrow_sz, mxc]; omega))
    rw [(tksb_4 s ⟨vk, vn, vs⟩ p l hlen).1, (tksb_4 s ⟨vk, vn, vs⟩ p l hlen).2]
    simpa using hf
theorem w79_5b (V : ValW) (n : Nat) (ih : ExprW n) (s : ByteArray) (v : Vl) (p : List ByteArray) (l : List Ex) (u : Value) (b m : Nat) (t : List Tk) (bd : Bool) (w : World) (hnl : wtL l <= n) (hlen : l.length ≠ 2) (hx : ExAt (· < b) w (.mk 5 s v p l) u) (h : WrAt b m t bd w) (hm : m + cost (.mk 5 s v p l) <= bigM) :
    Calls Tryz.prog 79 #[wp' b, u] w (WS b (m + cost (.mk 5 s v p l)) (t ++ tks (.mk 5 s v p l)) (bd || bad (.mk 5 s v p l)) w) := by
  have C0 := cost_eq (.mk 5 s v p l)
  obtain ⟨pa, pc, la, lc, hu, hs, hvs, hp, hl⟩ := hx.parts
  obtain ⟨vk, vn, vs⟩ := v
  have hs : s.size <= 9223372036854775807 := hs
  have hvs : vs.size <= 9223372036854775807 := hvs
  have hll : l.length <= 9223372036854775807 := hl.1
  simp only [sz] at C0
  subst hu
  have hlt := h.lt
  have HX := Lib.hid hx
  have HP := Lib.hid hp
  have HL := Lib.hid hl
  have hw := Lib.hid (h.alloc (.cells #[.int .i64 5, .string s, .int .i64 vk, .int .i64 vn, .string vs, .slice pa p.length pc, .slice la l.length lc] 55))
  have hk := Lib.hid (Bk.new w 55 #[.int .i64 5, .string s, .int .i64 vk, .int .i64 vn, .string vs, .slice pa p.length pc, .slice la l.length lc])
  have HB := Lib.hid (And.intro (below_low (w := w) (.cells #[.int .i64 5, .string s, .int .i64 vk, .int .i64 vn, .string vs, .slice pa p.length pc, .slice la l.length lc] 55) (Nat.le_of_lt hlt)) ((Fw.refl b w).alloc (.cells #[.int .i64 5, .string s, .int .i64 vk, .int .i64 vn, .string vs, .slice pa p.length pc, .slice la l.length lc] 55)))
  obtain ⟨k0, k1, k2, k3, k4, k5, k6⟩ := Bk7 hk.out
  have hlk1 : decide (l.length = 2) = false := decide_eq_false hlen
  have hlk2 : decide (l.length ≠ 2) = true := decide_eq_true hlen
  go_enter Tryz.func79, Tryz.ntmps79
  go_wp2_with (first
    | (go_at_call 145; refine (has145 b _ _ _ l.length 2 _ hw.out).mono ?_; rw [hlk1, hlk2]; rintro e w1 ⟨rfl, hw1, hb1⟩; have hk2 := Lib.hid (hk.out.fw hb1.2 (Nat.ne_of_gt hlt) (by decide)); have HB2 := Lib.hid (And.intro (HB.out.1.trans hb1.1) (HB.out.2.trans hb1.2)); clear k0 k1 k2 k3 k4 k5 k6  hk HB hw; have hk := hk2; have HB := HB2; have hw := Lib.hid hw1; clear hk2 HB2 hw1 hb1; obtain ⟨k0, k1, k2, k3, k4, k5, k6⟩ := Bk7 hk.out))
  all_goals
    go_end0
    refine ⟨rfl, ?_, HB.out⟩
    have hf := hw.out.mono (m' := m + cost (.mk 5 s ⟨vk, vn, vs⟩ p l)) (by first | omega | (simp only [sLp_sz, sRp_sz, sLc_sz, sRc_sz, sLb_sz, sRb_sz, sBar_sz, sAmp_sz, sDot_sz, sAt_sz, sArrow_sz, mxc]; omega))
    rw [(tksb_5 s ⟨vk, vn, vs⟩ p l hlen).1, (tksb_5 s ⟨vk, vn, vs⟩ p l hlen).2]
    simpa using hf
theorem w79_6b (V : ValW) (n : Nat) (ih : ExprW n) (s : ByteArray) (v : Vl) (p : List ByteArray) (l : List Ex) (u : Value) (b m : Nat) (t : List Tk) (bd : Bool) (w : World) (hnl : wtL l <= n) (hlen : l.length ≠ 2) (hx : ExAt (· < b) w (.mk 6 s v p l) u) (h : WrAt b m t bd w) (hm : m + cost (.mk 6 s v p l) <= bigM) :
    Calls Tryz.prog 79 #[wp' b, u] w (WS b (m + cost (.mk 6 s v p l)) (t ++ tks (.mk 6 s v p l)) (bd || bad (.mk 6 s v p l)) w) := by
  have C0 := cost_eq (.mk 6 s v p l)
  obtain ⟨pa, pc, la, lc, hu, hs, hvs, hp, hl⟩ := hx.parts
  obtain ⟨vk, vn, vs⟩ := v
  have hs : s.size <= 9223372036854775807 := hs
  have hvs : vs.size <= 9223372036854775807 := hvs
  have hll : l.length <= 9223372036854775807 := hl.1
  simp only [sz] at C0
  subst hu
  have hlt := h.lt
  have HX := Lib.hid hx
  have HP := Lib.hid hp
  have HL := Lib.hid hl
  have hw := Lib.hid (h.alloc (.cells #[.int .i64 6, .string s, .int .i64 vk, .int .i64 vn, .string vs, .slice pa p.length pc, .slice la l.length lc] 55))
  have hk := Lib.hid (Bk.new w 55 #[.int .i64 6, .string s, .int .i64 vk, .int .i64 vn, .string vs, .slice pa p.length pc, .slice la l.length lc])
  have HB := Lib.hid (And.intro (below_low (w := w) (.cells #[.int .i64 6, .string s, .int .i64 vk, .int .i64 vn, .string vs, .slice pa p.length pc, .slice la l.length lc] 55) (Nat.le_of_lt hlt)) ((Fw.refl b w).alloc (.cells #[.int .i64 6, .string s, .int .i64 vk, .int .i64 vn, .string vs, .slice pa p.length pc, .slice la l.length lc] 55)))
  obtain ⟨k0, k1, k2, k3, k4, k5, k6⟩ := Bk7 hk.out
  have hlk1 : decide (l.length = 2) = false := decide_eq_false hlen
  have hlk2 : decide (l.length ≠ 2) = true := decide_eq_true hlen
  go_enter Tryz.func79, Tryz.ntmps79
  go_wp2_with (first
    | (go_at_call 145; refine (has145 b _ _ _ l.length 2 _ hw.out).mono ?_; rw [hlk1, hlk2]; rintro e w1 ⟨rfl, hw1, hb1⟩; have hk2 := Lib.hid (hk.out.fw hb1.2 (Nat.ne_of_gt hlt) (by decide)); have HB2 := Lib.hid (And.intro (HB.out.1.trans hb1.1) (HB.out.2.trans hb1.2)); clear k0 k1 k2 k3 k4 k5 k6  hk HB hw; have hk := hk2; have HB := HB2; have hw := Lib.hid hw1; clear hk2 HB2 hw1 hb1; obtain ⟨k0, k1, k2, k3, k4, k5, k6⟩ := Bk7 hk.out))
  all_goals
    go_end0
    refine ⟨rfl, ?_, HB.out⟩
    have hf := hw.out.mono (m' := m + cost (.mk 6 s ⟨vk, vn, vs⟩ p l)) (by first | omega | (simp only [sLp_sz, sRp_sz, sLc_sz, sRc_sz, sLb_sz, sRb_sz, sBar_sz, sAmp_sz, sDot_sz, sAt_sz, sArrow_sz, mxc]; omega))
    rw [(tksb_6 s ⟨vk, vn, vs⟩ p l hlen).1, (tksb_6 s ⟨vk, vn, vs⟩ p l hlen).2]
    simpa using hf
theorem w79_2 (V : ValW) (n : Nat) (ih : ExprW n) (s : ByteArray) (v : Vl) (p : List ByteArray) (x1 : Ex) (u : Value) (b m : Nat) (t : List Tk) (bd : Bool) (w : World) (hn1 : wt x1 <= n) (hx : ExAt (· < b) w (.mk 2 s v p [x1]) u) (h : WrAt b m t bd w) (hm : m + cost (.mk 2 s v p [x1]) <= bigM) :
    Calls Tryz.prog 79 #[wp' b, u] w (WS b (m + cost (.mk 2 s v p [x1])) (t ++ tks (.mk 2 s v p [x1])) (bd || bad (.mk 2 s v p [x1])) w) := by
  have C0 := cost_eq (.mk 2 s v p [x1])
  have C1 := cost_eq x1
  obtain ⟨pa, pc, la, lc, hu, hs, hvs, hp, hl⟩ := hx.parts
  obtain ⟨vk, vn, vs⟩ := v
  have hs : s.size <= 9223372036854775807 := hs
  have hvs : vs.size <= 9223372036854775807 := hvs
  simp only [sz, szL] at C0
  simp only [List.length_cons, List.length_nil, Nat.zero_add, Nat.reduceAdd] at hu
  obtain ⟨b1, o1, yo1, ys1, yk1, yn1, yt1, yp1, yl1, pa'1, pc'1, la'1, lc'1, rfl, hN1, hbl1, hy1, E1, HX1⟩ := hl.elem (k := 0) (by simp)
  have hy1 : x1 = .mk yo1 ys1 ⟨yk1, yn1, yt1⟩ yp1 yl1 := hy1
  rw [<- hy1] at HX1
  have hys1 : ys1.size <= 9223372036854775807 := by have h := HX1; rw [hy1] at h; obtain ⟨_, _, _, _, _, h, _⟩ := h.parts; exact h
  have hyo1 : Hid (x1.op = yo1 /\ x1.s = ys1) := Lib.hid (by rw [hy1]; exact ⟨rfl, rfl⟩)
  have hsz1 : ys1.size + 1 <= sz x1 := by rw [hy1]; simp only [sz]; omega
  clear hy1
  replace HX1 := Lib.hid HX1
  simp only [Nat.zero_mul, Nat.one_mul, Nat.add_zero] at E1
  replace E1 := Lib.hid E1
  subst hu
  have hlt := h.lt
  have HX := Lib.hid hx
  have HP := Lib.hid hp
  have HL := Lib.hid hl
  have hw := Lib.hid (h.alloc (.cells #[.int .i64 2, .string s, .int .i64 vk, .int .i64 vn, .string vs, .slice pa p.length pc, .slice (some ⟨b1, o1, none⟩) 1 lc] 55))
  have hk := Lib.hid (Bk.new w 55 #[.int .i64 2, .string s, .int .i64 vk, .int .i64 vn, .string vs, .slice pa p.length pc, .slice (some ⟨b1, o1, none⟩) 1 lc])
  have HB := Lib.hid (And.intro (below_low (w := w) (.cells #[.int .i64 2, .string s, .int .i64 vk, .int .i64 vn, .string vs, .slice pa p.length pc, .slice (some ⟨b1, o1, none⟩) 1 lc] 55) (Nat.le_of_lt hlt)) ((Fw.refl b w).alloc (.cells #[.int .i64 2, .string s, .int .i64 vk, .int .i64 vn, .string vs, .slice pa p.length pc, .slice (some ⟨b1, o1, none⟩) 1 lc] 55)))
  obtain ⟨k0, k1, k2, k3, k4, k5, k6⟩ := Bk7 hk.out
  obtain ⟨q10, q11, q12, q13, q14, q15, q16⟩ := low7 HB.out.1 hN1 E1.out
  have TOK1 := Lib.hid True.intro
  go_enter Tryz.func79, Tryz.ntmps79
  go_wp2_with (first
    | (go_at_call 145; refine (has145 b _ _ _ 1 1 _ hw.out).mono ?_; simp only [decide_true, ne_eq, not_true_eq_false, decide_false, Bool.or_false]; rintro e w1 ⟨rfl, hw1, hb1⟩; have hk2 := Lib.hid (hk.out.fw hb1.2 (Nat.ne_of_gt hlt) (by decide)); have HB2 := Lib.hid (And.intro (HB.out.1.trans hb1.1) (HB.out.2.trans hb1.2)); clear k0 k1 k2 k3 k4 k5 k6 q10 q11 q12 q13 q14 q15 q16 hk HB hw; have hk := hk2; have HB := HB2; have hw := Lib.hid hw1; clear hk2 HB2 hw1 hb1; obtain ⟨k0, k1, k2, k3, k4, k5, k6⟩ := Bk7 hk.out; obtain ⟨q10, q11, q12, q13, q14, q15, q16⟩ := low7 HB.out.1 hN1 E1.out)
    | (go_at_call 144; clear TOK1; (first | (refine (name144 b _ (s.size + 1) _ _ s _ hw.out hs (Nat.le_refl _) (by first | omega | (simp only [sLp_sz, sRp_sz, sLc_sz, sRc_sz, sLb_sz, sRb_sz, sBar_sz, sAmp_sz, sDot_sz, sAt_sz, sArrow_sz, mxc]; omega))).mono ?_)); rintro e w1 ⟨rfl, hw1, hb1⟩; have hk2 := Lib.hid (hk.out.fw hb1.2 (Nat.ne_of_gt hlt) (by decide)); have HB2 := Lib.hid (And.intro (HB.out.1.trans hb1.1) (HB.out.2.trans hb1.2)); clear k0 k1 k2 k3 k4 k5 k6 q10 q11 q12 q13 q14 q15 q16 hk HB hw; have hk := hk2; have HB := HB2; have hw := Lib.hid hw1; clear hk2 HB2 hw1 hb1; obtain ⟨k0, k1, k2, k3, k4, k5, k6⟩ := Bk7 hk.out; obtain ⟨q10, q11, q12, q13, q14, q15, q16⟩ := low7 HB.out.1 hN1 E1.out)
    | (go_at_call 144; (first | (refine (name144 b _ (ys1.size + 1) _ _ ys1 _ hw.out hys1 (Nat.le_refl _) (by first | omega | (simp only [sLp_sz, sRp_sz, sLc_sz, sRc_sz, sLb_sz, sRb_sz, sBar_sz, sAmp_sz, sDot_sz, sAt_sz, sArrow_sz, mxc]; omega))).mono ?_)); rintro e w1 ⟨rfl, hw1, hb1⟩; have hk2 := Lib.hid (hk.out.fw hb1.2 (Nat.ne_of_gt hlt) (by decide)); have HB2 := Lib.hid (And.intro (HB.out.1.trans hb1.1) (HB.out.2.trans hb1.2)); clear k0 k1 k2 k3 k4 k5 k6 q10 q11 q12 q13 q14 q15 q16 hk HB hw; have hk := hk2; have HB := HB2; have hw := Lib.hid hw1; clear hk2 HB2 hw1 hb1; obtain ⟨k0, k1, k2, k3, k4, k5, k6⟩ := Bk7 hk.out; obtain ⟨q10, q11, q12, q13, q14, q15, q16⟩ := low7 HB.out.1 hN1 E1.out)
    | (go_at_call 146; (first | (refine (sign146 b _ (sArrow.size + 1) _ _ sArrow _ hw.out (Nat.le_refl _) (by first | omega | (simp only [sLp_sz, sRp_sz, sLc_sz, sRc_sz, sLb_sz, sRb_sz, sBar_sz, sAmp_sz, sDot_sz, sAt_sz, sArrow_sz, mxc]; omega))).mono ?_)); rintro e w1 ⟨rfl, hw1, hb1⟩; have hk2 := Lib.hid (hk.out.fw hb1.2 (Nat.ne_of_gt hlt) (by decide)); have HB2 := Lib.hid (And.intro (HB.out.1.trans hb1.1) (HB.out.2.trans hb1.2)); clear k0 k1 k2 k3 k4 k5 k6 q10 q11 q12 q13 q14 q15 q16 hk HB hw; have hk := hk2; have HB := HB2; have hw := Lib.hid hw1; clear hk2 HB2 hw1 hb1; obtain ⟨k0, k1, k2, k3, k4, k5, k6⟩ := Bk7 hk.out; obtain ⟨q10, q11, q12, q13, q14, q15, q16⟩ := low7 HB.out.1 hN1 E1.out)
    | (go_at_call 147; (first | (refine (closed147 n ih x1 _ b _ _ _ _ hn1 (ExAt.keep (.of_low HB.out.1) HX1.out) hw.out (by first | omega | (simp only [sLp_sz, sRp_sz, sLc_sz, sRc_sz, sLb_sz, sRb_sz, sBar_sz, sAmp_sz, sDot_sz, sAt_sz, sArrow_sz, mxc]; omega))).mono ?_)); rintro e w1 ⟨rfl, hw1, hb1⟩; have hk2 := Lib.hid (hk.out.fw hb1.2 (Nat.ne_of_gt hlt) (by decide)); have HB2 := Lib.hid (And.intro (HB.out.1.trans hb1.1) (HB.out.2.trans hb1.2)); clear k0 k1 k2 k3 k4 k5 k6 q10 q11 q12 q13 q14 q15 q16 hk HB hw; have hk := hk2; have HB := HB2; have hw := Lib.hid hw1; clear hk2 HB2 hw1 hb1; obtain ⟨k0, k1, k2, k3, k4, k5, k6⟩ := Bk7 hk.out; obtain ⟨q10, q11, q12, q13, q14, q15, q16⟩ := low7 HB.out.1 hN1 E1.out))
  all_goals
    go_end0
    refine ⟨rfl, ?_, HB.out⟩
    have hf := hw.out.mono (m' := m + cost (.mk 2 s ⟨vk, vn, vs⟩ p [x1])) (by first | omega | (simp only [sLp_sz, sRp_sz, sLc_sz, sRc_sz, sLb_sz, sRb_sz, sBar_sz, sAmp_sz, sDot_sz, sAt_sz, sArrow_sz, mxc]; omega))
    rw [tks_2_1, bad_2_1, hyo1.out.1, hyo1.out.2]
    first
      | (have hc : yo1 = 1 := by first | assumption | (simpa using (show (yo1 == 1) = true by assumption))
         rw [if_pos hc, if_pos hc]; simpa [Bool.or_assoc] using hf)
      | (have hc : ¬ yo1 = 1 := by first | assumption | (simpa using (show (yo1 == 1) = false by assumption))
         rw [if_neg hc, if_neg hc]; simpa [Bool.or_assoc] using hf)
theorem w79_4 (V : ValW) (n : Nat) (ih : ExprW n) (s : ByteArray) (v : Vl) (p : List ByteArray) (x1 : Ex) (u : Value) (b m : Nat) (t : List Tk) (bd : Bool) (w : World) (hn1 : wt x1 <= n) (hx : ExAt (· < b) w (.mk 4 s v p [x1]) u) (h : WrAt b m t bd w) (hm : m + cost (.mk 4 s v p [x1]) <= bigM) :
    Calls Tryz.prog 79 #[wp' b, u] w (WS b (m + cost (.mk 4 s v p [x1])) (t ++ tks (.mk 4 s v p [x1])) (bd || bad (.mk 4 s v p [x1])) w) := by
  have C0 := cost_eq (.mk 4 s v p [x1])
  have C1 := cost_eq x1
  obtain ⟨pa, pc, la, lc, hu, hs, hvs, hp, hl⟩ := hx.parts
  obtain ⟨vk, vn, vs⟩ := v
  have hs : s.size <= 9223372036854775807 := hs
  have hvs : vs.size <= 9223372036854775807 := hvs
  simp only [sz, szL] at C0
  simp only [List.length_cons, List.length_nil, Nat.zero_add, Nat.reduceAdd] at hu
  obtain ⟨b1, o1, yo1, ys1, yk1, yn1, yt1, yp1, yl1, pa'1, pc'1, la'1, lc'1, rfl, hN1, hbl1, hy1, E1, HX1⟩ := hl.elem (k := 0) (by simp)
  have hy1 : x1 = .mk yo1 ys1 ⟨yk1, yn1, yt1⟩ yp1 yl1 := hy1
  rw [<- hy1] at HX1
  have hys1 : ys1.size <= 9223372036854775807 := by have h := HX1; rw [hy1] at h; obtain ⟨_, _, _, _, _, h, _⟩ := h.parts; exact h
  have hyo1 : Hid (x1.op = yo1 /\ x1.s = ys1) := Lib.hid (by rw [hy1]; exact ⟨rfl, rfl⟩)
  have hsz1 : ys1.size + 1 <= sz x1 := by rw [hy1]; simp only [sz]; omega
  clear hy1
  replace HX1 := Lib.hid HX1
  simp only [Nat.zero_mul, Nat.one_mul, Nat.add_zero] at E1
  replace E1 := Lib.hid E1
  subst hu
  have hlt := h.lt
  have HX := Lib.hid hx
  have HP := Lib.hid hp
  have HL := Lib.hid hl
  have hw := Lib.hid (h.alloc (.cells #[.int .i64 4, .string s, .int .i64 vk, .int .i64 vn, .string vs, .slice pa p.length pc, .slice (some ⟨b1, o1, none⟩) 1 lc] 55))
  have hk := Lib.hid (Bk.new w 55 #[.int .i64 4, .string s, .int .i64 vk, .int .i64 vn, .string vs, .slice pa p.length pc, .slice (some ⟨b1, o1, none⟩) 1 lc])
  have HB := Lib.hid (And.intro (below_low (w := w) (.cells #[.int .i64 4, .string s, .int .i64 vk, .int .i64 vn, .string vs, .slice pa p.length pc, .slice (some ⟨b1, o1, none⟩) 1 lc] 55) (Nat.le_of_lt hlt)) ((Fw.refl b w).alloc (.cells #[.int .i64 4, .string s, .int .i64 vk, .int .i64 vn, .string vs, .slice pa p.length pc, .slice (some ⟨b1, o1, none⟩) 1 lc] 55)))
  obtain ⟨k0, k1, k2, k3, k4, k5, k6⟩ := Bk7 hk.out
  obtain ⟨q10, q11, q12, q13, q14, q15, q16⟩ := low7 HB.out.1 hN1 E1.out
  go_enter Tryz.func79, Tryz.ntmps79
  go_wp2_with (first
    | (go_at_call 145; refine (has145 b _ _ _ 1 1 _ hw.out).mono ?_; simp only [decide_true, ne_eq, not_true_eq_false, decide_false, Bool.or_false]; rintro e w1 ⟨rfl, hw1, hb1⟩; have hk2 := Lib.hid (hk.out.fw hb1.2 (Nat.ne_of_gt hlt) (by decide)); have HB2 := Lib.hid (And.intro (HB.out.1.trans hb1.1) (HB.out.2.trans hb1.2)); clear k0 k1 k2 k3 k4 k5 k6 q10 q11 q12 q13 q14 q15 q16 hk HB hw; have hk := hk2; have HB := HB2; have hw := Lib.hid hw1; clear hk2 HB2 hw1 hb1; obtain ⟨k0, k1, k2, k3, k4, k5, k6⟩ := Bk7 hk.out; obtain ⟨q10, q11, q12, q13, q14, q15, q16⟩ := low7 HB.out.1 hN1 E1.out)
    | (go_at_call 146; (first | (refine (sign146 b _ (s.size + 1) _ _ s _ hw.out (Nat.le_refl _) (by first | omega | (simp only [sLp_sz, sRp_sz, sLc_sz, sRc_sz, sLb_sz, sRb_sz, sBar_sz, sAmp_sz, sDot_sz, sAt_sz, sArrow_sz, mxc]; omega))).mono ?_)); rintro e w1 ⟨rfl, hw1, hb1⟩; have hk2 := Lib.hid (hk.out.fw hb1.2 (Nat.ne_of_gt hlt) (by decide)); have HB2 := Lib.hid (And.intro (HB.out.1.trans hb1.1) (HB.out.2.trans hb1.2)); clear k0 k1 k2 k3 k4 k5 k6 q10 q11 q12 q13 q14 q15 q16 hk HB hw; have hk := hk2; have HB := HB2; have hw := Lib.hid hw1; clear hk2 HB2 hw1 hb1; obtain ⟨k0, k1, k2, k3, k4, k5, k6⟩ := Bk7 hk.out; obtain ⟨q10, q11, q12, q13, q14, q15, q16⟩ := low7 HB.out.1 hN1 E1.out)
    | (go_at_call 149; refine (blank149 b _ _ _ _ hw.out (by first | omega | (simp only [sLp_sz, sRp_sz, sLc_sz, sRc_sz, sLb_sz, sRb_sz, sBar_sz, sAmp_sz, sDot_sz, sAt_sz, sArrow_sz, mxc]; omega))).mono ?_; rintro e w1 ⟨rfl, hw1, hb1⟩; have hk2 := Lib.hid (hk.out.fw hb1.2 (Nat.ne_of_gt hlt) (by decide)); have HB2 := Lib.hid (And.intro (HB.out.1.trans hb1.1) (HB.out.2.trans hb1.2)); clear k0 k1 k2 k3 k4 k5 k6 q10 q11 q12 q13 q14 q15 q16 hk HB hw; have hk := hk2; have HB := HB2; have hw := Lib.hid hw1; clear hk2 HB2 hw1 hb1; obtain ⟨k0, k1, k2, k3, k4, k5, k6⟩ := Bk7 hk.out; obtain ⟨q10, q11, q12, q13, q14, q15, q16⟩ := low7 HB.out.1 hN1 E1.out)
    | (go_at_call 150; (first | (refine (operand150 n ih x1 _ b _ _ _ _ hn1 (ExAt.keep (.of_low HB.out.1) HX1.out) hw.out (by first | omega | (simp only [sLp_sz, sRp_sz, sLc_sz, sRc_sz, sLb_sz, sRb_sz, sBar_sz, sAmp_sz, sDot_sz, sAt_sz, sArrow_sz, mxc]; omega))).mono ?_)); rintro e w1 ⟨rfl, hw1, hb1⟩; have hk2 := Lib.hid (hk.out.fw hb1.2 (Nat.ne_of_gt hlt) (by decide)); have HB2 := Lib.hid (And.intro (HB.out.1.trans hb1.1) (HB.out.2.trans hb1.2)); clear k0 k1 k2 k3 k4 k5 k6 q10 q11 q12 q13 q14 q15 q16 hk HB hw; have hk := hk2; have HB := HB2; have hw := Lib.hid hw1; clear hk2 HB2 hw1 hb1; obtain ⟨k0, k1, k2, k3, k4, k5, k6⟩ := Bk7 hk.out; obtain ⟨q10, q11, q12, q13, q14, q15, q16⟩ := low7 HB.out.1 hN1 E1.out))
  all_goals
    go_end0
    refine ⟨rfl, ?_, HB.out⟩
    have hf := hw.out.mono (m' := m + cost (.mk 4 s ⟨vk, vn, vs⟩ p [x1])) (by first | omega | (simp only [sLp_sz, sRp_sz, sLc_sz, sRc_sz, sLb_sz, sRb_sz, sBar_sz, sAmp_sz, sDot_sz, sAt_sz, sArrow_sz, mxc]; omega))
    rw [tks_4_1, bad_4_1]
    simpa [Bool.or_assoc] using hf
theorem w79_5 (V : ValW) (n : Nat) (ih : ExprW n) (s : ByteArray) (v : Vl) (p : List ByteArray) (x1 x2 : Ex) (u : Value) (b m : Nat) (t : List Tk) (bd : Bool) (w : World) (hn1 : wt x1 <= n) (hn2 : wt x2 <= n) (hx : ExAt (· < b) w (.mk 5 s v p [x1, x2]) u) (h : WrAt b m t bd w) (hm : m + cost (.mk 5 s v p [x1, x2]) <= bigM) :
    Calls Tryz.prog 79 #[wp' b, u] w (WS b (m + cost (.mk 5 s v p [x1, x2])) (t ++ tks (.mk 5 s v p [x1, x2])) (bd || bad (.mk 5 s v p [x1, x2])) w) := by
  have C0 := cost_eq (.mk 5 s v p [x1, x2])
  have C1 := cost_eq x1
  have C2 := cost_eq x2
  obtain ⟨pa, pc, la, lc, hu, hs, hvs, hp, hl⟩ := hx.parts
  obtain ⟨vk, vn, vs⟩ := v
  have hs : s.size <= 9223372036854775807 := hs
  have hvs : vs.size <= 9223372036854775807 := hvs
  simp only [sz, szL] at C0
  simp only [List.length_cons, List.length_nil, Nat.zero_add, Nat.reduceAdd] at hu
  obtain ⟨b1, o1, yo1, ys1, yk1, yn1, yt1, yp1, yl1, pa'1, pc'1, la'1, lc'1, rfl, hN1, hbl1, hy1, E1, HX1⟩ := hl.elem (k := 0) (by simp)
  have hy1 : x1 = .mk yo1 ys1 ⟨yk1, yn1, yt1⟩ yp1 yl1 := hy1
  rw [<- hy1] at HX1
  have hys1 : ys1.size <= 9223372036854775807 := by have h := HX1; rw [hy1] at h; obtain ⟨_, _, _, _, _, h, _⟩ := h.parts; exact h
  have hyo1 : Hid (x1.op = yo1 /\ x1.s = ys1) := Lib.hid (by rw [hy1]; exact ⟨rfl, rfl⟩)
  have hsz1 : ys1.size + 1 <= sz x1 := by rw [hy1]; simp only [sz]; omega
  clear hy1
  replace HX1 := Lib.hid HX1
  simp only [Nat.zero_mul, Nat.one_mul, Nat.add_zero] at E1
  replace E1 := Lib.hid E1
  obtain ⟨b2, o2, yo2, ys2, yk2, yn2, yt2, yp2, yl2, pa'2, pc'2, la'2, lc'2, hab, hN2, hbl2, hy2, E2, HX2⟩ := hl.elem (k := 1) (by simp)
  cases hab
  have hy2 : x2 = .mk yo2 ys2 ⟨yk2, yn2, yt2⟩ yp2 yl2 := hy2
  rw [<- hy2] at HX2
  have hys2 : ys2.size <= 9223372036854775807 := by have h := HX2; rw [hy2] at h; obtain ⟨_, _, _, _, _, h, _⟩ := h.parts; exact h
  have hyo2 : Hid (x2.op = yo2 /\ x2.s = ys2) := Lib.hid (by rw [hy2]; exact ⟨rfl, rfl⟩)
  have hsz2 : ys2.size + 1 <= sz x2 := by rw [hy2]; simp only [sz]; omega
  clear hy2
  replace HX2 := Lib.hid HX2
  simp only [Nat.zero_mul, Nat.one_mul, Nat.add_zero] at E2
  replace E2 := Lib.hid E2
  subst hu
  have hlt := h.lt
  have HX := Lib.hid hx
  have HP := Lib.hid hp
  have HL := Lib.hid hl
  have hw := Lib.hid (h.alloc (.cells #[.int .i64 5, .string s, .int .i64 vk, .int .i64 vn, .string vs, .slice pa p.length pc, .slice (some ⟨b1, o1, none⟩) 2 lc] 55))
  have hk := Lib.hid (Bk.new w 55 #[.int .i64 5, .string s, .int .i64 vk, .int .i64 vn, .string vs, .slice pa p.length pc, .slice (some ⟨b1, o1, none⟩) 2 lc])
  have HB := Lib.hid (And.intro (below_low (w := w) (.cells #[.int .i64 5, .string s, .int .i64 vk, .int .i64 vn, .string vs, .slice pa p.length pc, .slice (some ⟨b1, o1, none⟩) 2 lc] 55) (Nat.le_of_lt hlt)) ((Fw.refl b w).alloc (.cells #[.int .i64 5, .string s, .int .i64 vk, .int .i64 vn, .string vs, .slice pa p.length pc, .slice (some ⟨b1, o1, none⟩) 2 lc] 55)))
  obtain ⟨k0, k1, k2, k3, k4, k5, k6⟩ := Bk7 hk.out
  obtain ⟨q10, q11, q12, q13, q14, q15, q16⟩ := low7 HB.out.1 hN1 E1.out
  obtain ⟨q20, q21, q22, q23, q24, q25, q26⟩ := low7 HB.out.1 hN1 E2.out
  have TOK1 := Lib.hid True.intro
  go_enter Tryz.func79, Tryz.ntmps79
  go_wp2_with (first
    | (go_at_call 145; refine (has145 b _ _ _ 2 2 _ hw.out).mono ?_; simp only [decide_true, ne_eq, not_true_eq_false, decide_false, Bool.or_false]; rintro e w1 ⟨rfl, hw1, hb1⟩; have hk2 := Lib.hid (hk.out.fw hb1.2 (Nat.ne_of_gt hlt) (by decide)); have HB2 := Lib.hid (And.intro (HB.out.1.trans hb1.1) (HB.out.2.trans hb1.2)); clear k0 k1 k2 k3 k4 k5 k6 q10 q11 q12 q13 q14 q15 q16 q20 q21 q22 q23 q24 q25 q26 hk HB hw; have hk := hk2; have HB := HB2; have hw := Lib.hid hw1; clear hk2 HB2 hw1 hb1; obtain ⟨k0, k1, k2, k3, k4, k5, k6⟩ := Bk7 hk.out; obtain ⟨q10, q11, q12, q13, q14, q15, q16⟩ := low7 HB.out.1 hN1 E1.out; obtain ⟨q20, q21, q22, q23, q24, q25, q26⟩ := low7 HB.out.1 hN1 E2.out)
    | (go_at_call 146; (first | (refine (sign146 b _ (s.size + 1) _ _ s _ hw.out (Nat.le_refl _) (by first | omega | (simp only [sLp_sz, sRp_sz, sLc_sz, sRc_sz, sLb_sz, sRb_sz, sBar_sz, sAmp_sz, sDot_sz, sAt_sz, sArrow_sz, mxc]; omega))).mono ?_)); rintro e w1 ⟨rfl, hw1, hb1⟩; have hk2 := Lib.hid (hk.out.fw hb1.2 (Nat.ne_of_gt hlt) (by decide)); have HB2 := Lib.hid (And.intro (HB.out.1.trans hb1.1) (HB.out.2.trans hb1.2)); clear k0 k1 k2 k3 k4 k5 k6 q10 q11 q12 q13 q14 q15 q16 q20 q21 q22 q23 q24 q25 q26 hk HB hw; have hk := hk2; have HB := HB2; have hw := Lib.hid hw1; clear hk2 HB2 hw1 hb1; obtain ⟨k0, k1, k2, k3, k4, k5, k6⟩ := Bk7 hk.out; obtain ⟨q10, q11, q12, q13, q14, q15, q16⟩ := low7 HB.out.1 hN1 E1.out; obtain ⟨q20, q21, q22, q23, q24, q25, q26⟩ := low7 HB.out.1 hN1 E2.out)
    | (go_at_call 149; refine (blank149 b _ _ _ _ hw.out (by first | omega | (simp only [sLp_sz, sRp_sz, sLc_sz, sRc_sz, sLb_sz, sRb_sz, sBar_sz, sAmp_sz, sDot_sz, sAt_sz, sArrow_sz, mxc]; omega))).mono ?_; rintro e w1 ⟨rfl, hw1, hb1⟩; have hk2 := Lib.hid (hk.out.fw hb1.2 (Nat.ne_of_gt hlt) (by decide)); have HB2 := Lib.hid (And.intro (HB.out.1.trans hb1.1) (HB.out.2.trans hb1.2)); clear k0 k1 k2 k3 k4 k5 k6 q10 q11 q12 q13 q14 q15 q16 q20 q21 q22 q23 q24 q25 q26 hk HB hw; have hk := hk2; have HB := HB2; have hw := Lib.hid hw1; clear hk2 HB2 hw1 hb1; obtain ⟨k0, k1, k2, k3, k4, k5, k6⟩ := Bk7 hk.out; obtain ⟨q10, q11, q12, q13, q14, q15, q16⟩ := low7 HB.out.1 hN1 E1.out; obtain ⟨q20, q21, q22, q23, q24, q25, q26⟩ := low7 HB.out.1 hN1 E2.out)
    | (go_at_call 150; clear TOK1; (refine (operand150 n ih x1 _ b _ _ _ _ hn1 (ExAt.keep (.of_low HB.out.1) HX1.out) hw.out (by first | omega | (simp only [sLp_sz, sRp_sz, sLc_sz, sRc_sz, sLb_sz, sRb_sz, sBar_sz, sAmp_sz, sDot_sz, sAt_sz, sArrow_sz, mxc]; omega))).mono ?_); rintro e w1 ⟨rfl, hw1, hb1⟩; have hk2 := Lib.hid (hk.out.fw hb1.2 (Nat.ne_of_gt hlt) (by decide)); have HB2 := Lib.hid (And.intro (HB.out.1.trans hb1.1) (HB.out.2.trans hb1.2)); clear k0 k1 k2 k3 k4 k5 k6 q10 q11 q12 q13 q14 q15 q16 q20 q21 q22 q23 q24 q25 q26 hk HB hw; have hk := hk2; have HB := HB2; have hw := Lib.hid hw1; clear hk2 HB2 hw1 hb1; obtain ⟨k0, k1, k2, k3, k4, k5, k6⟩ := Bk7 hk.out; obtain ⟨q10, q11, q12, q13, q14, q15, q16⟩ := low7 HB.out.1 hN1 E1.out; obtain ⟨q20, q21, q22, q23, q24, q25, q26⟩ := low7 HB.out.1 hN1 E2.out)
    | (go_at_call 150; (refine (operand150 n ih x2 _ b _ _ _ _ hn2 (ExAt.keep (.of_low HB.out.1) HX2.out) hw.out (by first | omega | (simp only [sLp_sz, sRp_sz, sLc_sz, sRc_sz, sLb_sz, sRb_sz, sBar_sz, sAmp_sz, sDot_sz, sAt_sz, sArrow_sz, mxc]; omega))).mono ?_); rintro e w1 ⟨rfl, hw1, hb1⟩; have hk2 := Lib.hid (hk.out.fw hb1.2 (Nat.ne_of_gt hlt) (by decide)); have HB2 := Lib.hid (And.intro (HB.out.1.trans hb1.1) (HB.out.2.trans hb1.2)); clear k0 k1 k2 k3 k4 k5 k6 q10 q11 q12 q13 q14 q15 q16 q20 q21 q22 q23 q24 q25 q26 hk HB hw; have hk := hk2; have HB := HB2; have hw := Lib.hid hw1; clear hk2 HB2 hw1 hb1; obtain ⟨k0, k1, k2, k3, k4, k5, k6⟩ := Bk7 hk.out; obtain ⟨q10, q11, q12, q13, q14, q15, q16⟩ := low7 HB.out.1 hN1 E1.out; obtain ⟨q20, q21, q22, q23, q24, q25, q26⟩ := low7 HB.out.1 hN1 E2.out))
  all_goals
    go_end0
    refine ⟨rfl, ?_, HB.out⟩
    have hf := hw.out.mono (m' := m + cost (.mk 5 s ⟨vk, vn, vs⟩ p [x1, x2])) (by first | omega | (simp only [sLp_sz, sRp_sz, sLc_sz, sRc_sz, sLb_sz, sRb_sz, sBar_sz, sAmp_sz, sDot_sz, sAt_sz, sArrow_sz, mxc]; omega))
    rw [tks_5_2, bad_5_2]
    simpa [Bool.or_assoc] using hf
theorem w79_6 (V : ValW) (n : Nat) (ih : ExprW n) (s : ByteArray) (v : Vl) (p : List ByteArray) (x1 x2 : Ex) (u : Value) (b m : Nat) (t : List Tk) (bd : Bool) (w : World) (hn1 : wt x1 <= n) (hn2 : wt x2 <= n) (hx : ExAt (· < b) w (.mk 6 s v p [x1, x2]) u) (h : WrAt b m t bd w) (hm : m + cost (.mk 6 s v p [x1, x2]) <= bigM) :
    Calls Tryz.prog 79 #[wp' b, u] w (WS b (m + cost (.mk 6 s v p [x1, x2])) (t ++ tks (.mk 6 s v p [x1, x2])) (bd || bad (.mk 6 s v p [x1, x2])) w) := by
  have C0 := cost_eq (.mk 6 s v p [x1, x2])
  have C1 := cost_eq x1
  have C2 := cost_eq x2
  obtain ⟨pa, pc, la, lc, hu, hs, hvs, hp, hl⟩ := hx.parts
  obtain ⟨vk, vn, vs⟩ := v
  have hs : s.size <= 9223372036854775807 := hs
  have hvs : vs.size <= 9223372036854775807 := hvs
  simp only [sz, szL] at C0
  simp only [List.length_cons, List.length_nil, Nat.zero_add, Nat.reduceAdd] at hu
  obtain ⟨b1, o1, yo1, ys1, yk1, yn1, yt1, yp1, yl1, pa'1, pc'1, la'1, lc'1, rfl, hN1, hbl1, hy1, E1, HX1⟩ := hl.elem (k := 0) (by simp)
  have hy1 : x1 = .mk yo1 ys1 ⟨yk1, yn1, yt1⟩ yp1 yl1 := hy1
  rw [<- hy1] at HX1
  have hys1 : ys1.size <= 9223372036854775807 := by have h := HX1; rw [hy1] at h; obtain ⟨_, _, _, _, _, h, _⟩ := h.parts; exact h
  have hyo1 : Hid (x1.op = yo1 /\ x1.s = ys1) := Lib.hid (by rw [hy1]; exact ⟨rfl, rfl⟩)
  have hsz1 : ys1.size + 1 <= sz x1 := by rw [hy1]; simp only [sz]; omega
  clear hy1
  replace HX1 := Lib.hid HX1
  simp only [Nat.zero_mul, Nat.one_mul, Nat.add_zero] at E1
  replace E1 := Lib.hid E1
  obtain ⟨b2, o2, yo2, ys2, yk2, yn2, yt2, yp2, yl2, pa'2, pc'2, la'2, lc'2, hab, hN2, hbl2, hy2, E2, HX2⟩ := hl.elem (k := 1) (by simp)
  cases hab
  have hy2 : x2 = .mk yo2 ys2 ⟨yk2, yn2, yt2⟩ yp2 yl2 := hy2
  rw [<- hy2] at HX2
  have hys2 : ys2.size <= 9223372036854775807 := by have h := HX2; rw [hy2] at h; obtain ⟨_, _, _, _, _, h, _⟩ := h.parts; exact h
  have hyo2 : Hid (x2.op = yo2 /\ x2.s = ys2) := Lib.hid (by rw [hy2]; exact ⟨rfl, rfl⟩)
  have hsz2 : ys2.size + 1 <= sz x2 := by rw [hy2]; simp only [sz]; omega
  clear hy2
  replace HX2 := Lib.hid HX2
  simp only [Nat.zero_mul, Nat.one_mul, Nat.add_zero] at E2
  replace E2 := Lib.hid E2
  subst hu
  have hlt := h.lt
  have HX := Lib.hid hx
  have HP := Lib.hid hp
  have HL := Lib.hid hl
  have hw := Lib.hid (h.alloc (.cells #[.int .i64 6, .string s, .int .i64 vk, .int .i64 vn, .string vs, .slice pa p.length pc, .slice (some ⟨b1, o1, none⟩) 2 lc] 55))
  have hk := Lib.hid (Bk.new w 55 #[.int .i64 6, .string s, .int .i64 vk, .int .i64 vn, .string vs, .slice pa p.length pc, .slice (some ⟨b1, o1, none⟩) 2 lc])
  have HB := Lib.hid (And.intro (below_low (w := w) (.cells #[.int .i64 6, .string s, .int .i64 vk, .int .i64 vn, .string vs, .slice pa p.length pc, .slice (some ⟨b1, o1, none⟩) 2 lc] 55) (Nat.le_of_lt hlt)) ((Fw.refl b w).alloc (.cells #[.int .i64 6, .string s, .int .i64 vk, .int .i64 vn, .string vs, .slice pa p.length pc, .slice (some ⟨b1, o1, none⟩) 2 lc] 55)))
  obtain ⟨k0, k1, k2, k3, k4, k5, k6⟩ := Bk7 hk.out
  obtain ⟨q10, q11, q12, q13, q14, q15, q16⟩ := low7 HB.out.1 hN1 E1.out
  obtain ⟨q20, q21, q22, q23, q24, q25, q26⟩ := low7 HB.out.1 hN1 E2.out
  go_enter Tryz.func79, Tryz.ntmps79
  go_wp2_with (first
    | (go_at_call 145; refine (has145 b _ _ _ 2 2 _ hw.out).mono ?_; simp only [decide_true, ne_eq, not_true_eq_false, decide_false, Bool.or_false]; rintro e w1 ⟨rfl, hw1, hb1⟩; have hk2 := Lib.hid (hk.out.fw hb1.2 (Nat.ne_of_gt hlt) (by decide)); have HB2 := Lib.hid (And.intro (HB.out.1.trans hb1.1) (HB.out.2.trans hb1.2)); clear k0 k1 k2 k3 k4 k5 k6 q10 q11 q12 q13 q14 q15 q16 q20 q21 q22 q23 q24 q25 q26 hk HB hw; have hk := hk2; have HB := HB2; have hw := Lib.hid hw1; clear hk2 HB2 hw1 hb1; obtain ⟨k0, k1, k2, k3, k4, k5, k6⟩ := Bk7 hk.out; obtain ⟨q10, q11, q12, q13, q14, q15, q16⟩ := low7 HB.out.1 hN1 E1.out; obtain ⟨q20, q21, q22, q23, q24, q25, q26⟩ := low7 HB.out.1 hN1 E2.out)
    | (go_at_call 146; (first | (refine (sign146 b _ (sLb.size + 1) _ _ sLb _ hw.out (Nat.le_refl _) (by first | omega | (simp only [sLp_sz, sRp_sz, sLc_sz, sRc_sz, sLb_sz, sRb_sz, sBar_sz, sAmp_sz, sDot_sz, sAt_sz, sArrow_sz, mxc]; omega))).mono ?_) | (refine (sign146 b _ (sRb.size + 1) _ _ sRb _ hw.out (Nat.le_refl _) (by first | omega | (simp only [sLp_sz, sRp_sz, sLc_sz, sRc_sz, sLb_sz, sRb_sz, sBar_sz, sAmp_sz, sDot_sz, sAt_sz, sArrow_sz, mxc]; omega))).mono ?_)); rintro e w1 ⟨rfl, hw1, hb1⟩; have hk2 := Lib.hid (hk.out.fw hb1.2 (Nat.ne_of_gt hlt) (by decide)); have HB2 := Lib.hid (And.intro (HB.out.1.trans hb1.1) (HB.out.2.trans hb1.2)); clear k0 k1 k2 k3 k4 k5 k6 q10 q11 q12 q13 q14 q15 q16 q20 q21 q22 q23 q24 q25 q26 hk HB hw; have hk := hk2; have HB := HB2; have hw := Lib.hid hw1; clear hk2 HB2 hw1 hb1; obtain ⟨k0, k1, k2, k3, k4, k5, k6⟩ := Bk7 hk.out; obtain ⟨q10, q11, q12, q13, q14, q15, q16⟩ := low7 HB.out.1 hN1 E1.out; obtain ⟨q20, q21, q22, q23, q24, q25, q26⟩ := low7 HB.out.1 hN1 E2.out)
    | (go_at_call 150; (refine (operand150 n ih x1 _ b _ _ _ _ hn1 (ExAt.keep (.of_low HB.out.1) HX1.out) hw.out (by first | omega | (simp only [sLp_sz, sRp_sz, sLc_sz, sRc_sz, sLb_sz, sRb_sz, sBar_sz, sAmp_sz, sDot_sz, sAt_sz, sArrow_sz, mxc]; omega))).mono ?_); rintro e w1 ⟨rfl, hw1, hb1⟩; have hk2 := Lib.hid (hk.out.fw hb1.2 (Nat.ne_of_gt hlt) (by decide)); have HB2 := Lib.hid (And.intro (HB.out.1.trans hb1.1) (HB.out.2.trans hb1.2)); clear k0 k1 k2 k3 k4 k5 k6 q10 q11 q12 q13 q14 q15 q16 q20 q21 q22 q23 q24 q25 q26 hk HB hw; have hk := hk2; have HB := HB2; have hw := Lib.hid hw1; clear hk2 HB2 hw1 hb1; obtain ⟨k0, k1, k2, k3, k4, k5, k6⟩ := Bk7 hk.out; obtain ⟨q10, q11, q12, q13, q14, q15, q16⟩ := low7 HB.out.1 hN1 E1.out; obtain ⟨q20, q21, q22, q23, q24, q25, q26⟩ := low7 HB.out.1 hN1 E2.out)
    | (go_at_call 79; (refine (ih x2 _ b _ _ _ _ hn2 (ExAt.keep (.of_low HB.out.1) HX2.out) hw.out (by first | omega | (simp only [sLp_sz, sRp_sz, sLc_sz, sRc_sz, sLb_sz, sRb_sz, sBar_sz, sAmp_sz, sDot_sz, sAt_sz, sArrow_sz, mxc]; omega))).mono ?_); rintro e w1 ⟨rfl, hw1, hb1⟩; have hk2 := Lib.hid (hk.out.fw hb1.2 (Nat.ne_of_gt hlt) (by decide)); have HB2 := Lib.hid (And.intro (HB.out.1.trans hb1.1) (HB.out.2.trans hb1.2)); clear k0 k1 k2 k3 k4 k5 k6 q10 q11 q12 q13 q14 q15 q16 q20 q21 q22 q23 q24 q25 q26 hk HB hw; have hk := hk2; have HB := HB2; have hw := Lib.hid hw1; clear hk2 HB2 hw1 hb1; obtain ⟨k0, k1, k2, k3, k4, k5, k6⟩ := Bk7 hk.out; obtain ⟨q10, q11, q12, q13, q14, q15, q16⟩ := low7 HB.out.1 hN1 E1.out; obtain ⟨q20, q21, q22, q23, q24, q25, q26⟩ := low7 HB.out.1 hN1 E2.out))
  all_goals
    go_end0
    refine ⟨rfl, ?_, HB.out⟩
    have hf := hw.out.mono (m' := m + cost (.mk 6 s ⟨vk, vn, vs⟩ p [x1, x2])) (by first | omega | (simp only [sLp_sz, sRp_sz, sLc_sz, sRc_sz, sLb_sz, sRb_sz, sBar_sz, sAmp_sz, sDot_sz, sAt_sz, sArrow_sz, mxc]; omega))
    rw [tks_6_2, bad_6_2]
    simpa [Bool.or_assoc] using hf
theorem w151_7 (V : ValW) (n : Nat) (ih : ExprW n) (s : ByteArray) (v : Vl) (p : List ByteArray) (l : List Ex) (u : Value) (b m : Nat) (t : List Tk) (bd : Bool) (w : World) (hnl : wtL l <= n) (hx : ExAt (· < b) w (.mk 7 s v p l) u) (h : WrAt b m t bd w) (hm : m + cost (.mk 7 s v p l) <= bigM) :
    Calls Tryz.prog 151 #[wp' b, u] w (WS b (m + cost (.mk 7 s v p l)) (t ++ tks (.mk 7 s v p l)) (bd || bad (.mk 7 s v p l)) w) := by
  have C0 := cost_eq (.mk 7 s v p l)
  obtain ⟨pa, pc, la, lc, hu, hs, hvs, hp, hl⟩ := hx.parts
  obtain ⟨vk, vn, vs⟩ := v
  have hs : s.size <= 9223372036854775807 := hs
  have hvs : vs.size <= 9223372036854775807 := hvs
  have hll : l.length <= 9223372036854775807 := hl.1
  simp only [sz] at C0
  subst hu
  have hlt := h.lt
  have HX := Lib.hid hx
  have HP := Lib.hid hp
  have HL := Lib.hid hl
  have hw := Lib.hid (h.alloc (.cells #[.int .i64 7, .string s, .int .i64 vk, .int .i64 vn, .string vs, .slice pa p.length pc, .slice la l.length lc] 55))
  have hk := Lib.hid (Bk.new w 55 #[.int .i64 7, .string s, .int .i64 vk, .int .i64 vn, .string vs, .slice pa p.length pc, .slice la l.length lc])
  have HB := Lib.hid (And.intro (below_low (w := w) (.cells #[.int .i64 7, .string s, .int .i64 vk, .int .i64 vn, .string vs, .slice pa p.length pc, .slice la l.length lc] 55) (Nat.le_of_lt hlt)) ((Fw.refl b w).alloc (.cells #[.int .i64 7, .string s, .int .i64 vk, .int .i64 vn, .string vs, .slice pa p.length pc, .slice la l.length lc] 55)))
  obtain ⟨k0, k1, k2, k3, k4, k5, k6⟩ := Bk7 hk.out
  go_enter Tryz.func151, Tryz.ntmps151
  go_wp2_with (first
    | (go_at_call 146; (first | (refine (sign146 b _ (sLc.size + 1) _ _ sLc _ hw.out (Nat.le_refl _) (by first | omega | (simp only [sLp_sz, sRp_sz, sLc_sz, sRc_sz, sLb_sz, sRb_sz, sBar_sz, sAmp_sz, sDot_sz, sAt_sz, sArrow_sz, mxc]; omega))).mono ?_) | (refine (sign146 b _ (sRc.size + 1) _ _ sRc _ hw.out (Nat.le_refl _) (by first | omega | (simp only [sLp_sz, sRp_sz, sLc_sz, sRc_sz, sLb_sz, sRb_sz, sBar_sz, sAmp_sz, sDot_sz, sAt_sz, sArrow_sz, mxc]; omega))).mono ?_)); rintro e w1 ⟨rfl, hw1, hb1⟩; have hk2 := Lib.hid (hk.out.fw hb1.2 (Nat.ne_of_gt hlt) (by decide)); have HB2 := Lib.hid (And.intro (HB.out.1.trans hb1.1) (HB.out.2.trans hb1.2)); clear k0 k1 k2 k3 k4 k5 k6  hk HB hw; have hk := hk2; have HB := HB2; have hw := Lib.hid hw1; clear hk2 HB2 hw1 hb1; obtain ⟨k0, k1, k2, k3, k4, k5, k6⟩ := Bk7 hk.out)
    | (go_at_call 148; refine (list148 n ih l _ b _ _ _ _ hnl (ExsAt.keep HL.out (.of_low HB.out.1)) hw.out (by first | omega | (simp only [sLp_sz, sRp_sz, sLc_sz, sRc_sz, sLb_sz, sRb_sz, sBar_sz, sAmp_sz, sDot_sz, sAt_sz, sArrow_sz, mxc]; omega))).mono ?_; rintro e w1 ⟨rfl, hw1, hb1⟩; have hk2 := Lib.hid (hk.out.fw hb1.2 (Nat.ne_of_gt hlt) (by decide)); have HB2 := Lib.hid (And.intro (HB.out.1.trans hb1.1) (HB.out.2.trans hb1.2)); clear k0 k1 k2 k3 k4 k5 k6  hk HB hw; have hk := hk2; have HB := HB2; have hw := Lib.hid hw1; clear hk2 HB2 hw1 hb1; obtain ⟨k0, k1, k2, k3, k4, k5, k6⟩ := Bk7 hk.out))
  all_goals
    go_end0
    refine ⟨rfl, ?_, HB.out⟩
    have hf := hw.out.mono (m' := m + cost (.mk 7 s ⟨vk, vn, vs⟩ p l)) (by first | omega | (simp only [sLp_sz, sRp_sz, sLc_sz, sRc_sz, sLb_sz, sRb_sz, sBar_sz, sAmp_sz, sDot_sz, sAt_sz, sArrow_sz, mxc]; omega))
    rw [tks_7, bad_7]
    simpa [Bool.or_assoc] using hf
theorem w151_10 (V : ValW) (n : Nat) (ih : ExprW n) (s : ByteArray) (v : Vl) (p : List ByteArray) (l : List Ex) (u : Value) (b m : Nat) (t : List Tk) (bd : Bool) (w : World) (hnl : wtL l <= n) (hx : ExAt (· < b) w (.mk 10 s v p l) u) (h : WrAt b m t bd w) (hm : m + cost (.mk 10 s v p l) <= bigM) :
    Calls Tryz.prog 151 #[wp' b, u] w (WS b (m + cost (.mk 10 s v p l)) (t ++ tks (.mk 10 s v p l)) (bd || bad (.mk 10 s v p l)) w) := by
  have C0 := cost_eq (.mk 10 s v p l)
  obtain ⟨pa, pc, la, lc, hu, hs, hvs, hp, hl⟩ := hx.parts
  obtain ⟨vk, vn, vs⟩ := v
  have hs : s.size <= 9223372036854775807 := hs
  have hvs : vs.size <= 9223372036854775807 := hvs
  have hll : l.length <= 9223372036854775807 := hl.1
  simp only [sz] at C0
  subst hu
  have hlt := h.lt
  have HX := Lib.hid hx
  have HP := Lib.hid hp
  have HL := Lib.hid hl
  have hw := Lib.hid (h.alloc (.cells #[.int .i64 10, .string s, .int .i64 vk, .int .i64 vn, .string vs, .slice pa p.length pc, .slice la l.length lc] 55))
  have hk := Lib.hid (Bk.new w 55 #[.int .i64 10, .string s, .int .i64 vk, .int .i64 vn, .string vs, .slice pa p.length pc, .slice la l.length lc])
  have HB := Lib.hid (And.intro (below_low (w := w) (.cells #[.int .i64 10, .string s, .int .i64 vk, .int .i64 vn, .string vs, .slice pa p.length pc, .slice la l.length lc] 55) (Nat.le_of_lt hlt)) ((Fw.refl b w).alloc (.cells #[.int .i64 10, .string s, .int .i64 vk, .int .i64 vn, .string vs, .slice pa p.length pc, .slice la l.length lc] 55)))
  obtain ⟨k0, k1, k2, k3, k4, k5, k6⟩ := Bk7 hk.out
  go_enter Tryz.func151, Tryz.ntmps151
  go_wp2_with (first
    | (go_at_call 146; (first | (refine (sign146 b _ (sAt.size + 1) _ _ sAt _ hw.out (Nat.le_refl _) (by first | omega | (simp only [sLp_sz, sRp_sz, sLc_sz, sRc_sz, sLb_sz, sRb_sz, sBar_sz, sAmp_sz, sDot_sz, sAt_sz, sArrow_sz, mxc]; omega))).mono ?_)); rintro e w1 ⟨rfl, hw1, hb1⟩; have hk2 := Lib.hid (hk.out.fw hb1.2 (Nat.ne_of_gt hlt) (by decide)); have HB2 := Lib.hid (And.intro (HB.out.1.trans hb1.1) (HB.out.2.trans hb1.2)); clear k0 k1 k2 k3 k4 k5 k6  hk HB hw; have hk := hk2; have HB := HB2; have hw := Lib.hid hw1; clear hk2 HB2 hw1 hb1; obtain ⟨k0, k1, k2, k3, k4, k5, k6⟩ := Bk7 hk.out)
    | (go_at_call 144; (first | (refine (name144 b _ (s.size + 1) _ _ s _ hw.out hs (Nat.le_refl _) (by first | omega | (simp only [sLp_sz, sRp_sz, sLc_sz, sRc_sz, sLb_sz, sRb_sz, sBar_sz, sAmp_sz, sDot_sz, sAt_sz, sArrow_sz, mxc]; omega))).mono ?_)); rintro e w1 ⟨rfl, hw1, hb1⟩; have hk2 := Lib.hid (hk.out.fw hb1.2 (Nat.ne_of_gt hlt) (by decide)); have HB2 := Lib.hid (And.intro (HB.out.1.trans hb1.1) (HB.out.2.trans hb1.2)); clear k0 k1 k2 k3 k4 k5 k6  hk HB hw; have hk := hk2; have HB := HB2; have hw := Lib.hid hw1; clear hk2 HB2 hw1 hb1; obtain ⟨k0, k1, k2, k3, k4, k5, k6⟩ := Bk7 hk.out))
  all_goals
    go_end0
    refine ⟨rfl, ?_, HB.out⟩
    have hf := hw.out.mono (m' := m + cost (.mk 10 s ⟨vk, vn, vs⟩ p l)) (by first | omega | (simp only [sLp_sz, sRp_sz, sLc_sz, sRc_sz, sLb_sz, sRb_sz, sBar_sz, sAmp_sz, sDot_sz, sAt_sz, sArrow_sz, mxc]; omega))
    rw [tks_10, bad_10]
    simpa [Bool.or_assoc] using hf
theorem w151_8b (V : ValW) (n : Nat) (ih : ExprW n) (s : ByteArray) (v : Vl) (p : List ByteArray) (l : List Ex) (u : Value) (b m : Nat) (t : List Tk) (bd : Bool) (w : World) (hnl : wtL l <= n) (hlen : l.length ≠ 1) (hx : ExAt (· < b) w (.mk 8 s v p l) u) (h : WrAt b m t bd w) (hm : m + cost (.mk 8 s v p l) <= bigM) :
    Calls Tryz.prog 151 #[wp' b, u] w (WS b (m + cost (.mk 8 s v p l)) (t ++ tks (.mk 8 s v p l)) (bd || bad (.mk 8 s v p l)) w) := by
  have C0 := cost_eq (.mk 8 s v p l)
  obtain ⟨pa, pc, la, lc, hu, hs, hvs, hp, hl⟩ := hx.parts
  obtain ⟨vk, vn, vs⟩ := v
  have hs : s.size <= 9223372036854775807 := hs
  have hvs : vs.size <= 9223372036854775807 := hvs
  have hll : l.length <= 9223372036854775807 := hl.1
  simp only [sz] at C0
  subst hu
  have hlt := h.lt
  have HX := Lib.hid hx
  have HP := Lib.hid hp
  have HL := Lib.hid hl
  have hw := Lib.hid (h.alloc (.cells #[.int .i64 8, .string s, .int .i64 vk, .int .i64 vn, .string vs, .slice pa p.length pc, .slice la l.length lc] 55))
  have hk := Lib.hid (Bk.new w 55 #[.int .i64 8, .string s, .int .i64 vk, .int .i64 vn, .string vs, .slice pa p.length pc, .slice la l.length lc])
  have HB := Lib.hid (And.intro (below_low (w := w) (.cells #[.int .i64 8, .string s, .int .i64 vk, .int .i64 vn, .string vs, .slice pa p.length pc, .slice la l.length lc] 55) (Nat.le_of_lt hlt)) ((Fw.refl b w).alloc (.cells #[.int .i64 8, .string s, .int .i64 vk, .int .i64 vn, .string vs, .slice pa p.length pc, .slice la l.length lc] 55)))
  obtain ⟨k0, k1, k2, k3, k4, k5, k6⟩ := Bk7 hk.out
  have hlk1 : decide (l.length = 1) = false := decide_eq_false hlen
  have hlk2 : decide (l.length ≠ 1) = true := decide_eq_true hlen
  go_enter Tryz.func151, Tryz.ntmps151
  go_wp2_with (first
    | (go_at_call 145; refine (has145 b _ _ _ l.length 1 _ hw.out).mono ?_; rw [hlk1, hlk2]; rintro e w1 ⟨rfl, hw1, hb1⟩; have hk2 := Lib.hid (hk.out.fw hb1.2 (Nat.ne_of_gt hlt) (by decide)); have HB2 := Lib.hid (And.intro (HB.out.1.trans hb1.1) (HB.out.2.trans hb1.2)); clear k0 k1 k2 k3 k4 k5 k6  hk HB hw; have hk := hk2; have HB := HB2; have hw := Lib.hid hw1; clear hk2 HB2 hw1 hb1; obtain ⟨k0, k1, k2, k3, k4, k5, k6⟩ := Bk7 hk.out))
  all_goals
    go_end0
    refine ⟨rfl, ?_, HB.out⟩
    have hf := hw.out.mono (m' := m + cost (.mk 8 s ⟨vk, vn, vs⟩ p l)) (by first | omega | (simp only [sLp_sz, sRp_sz, sLc_sz, sRc_sz, sLb_sz, sRb_sz, sBar_sz, sAmp_sz, sDot_sz, sAt_sz, sArrow_sz, mxc]; omega))
    rw [(tksb_8 s ⟨vk, vn, vs⟩ p l hlen).1, (tksb_8 s ⟨vk, vn, vs⟩ p l hlen).2]
    simpa using hf
theorem w151_8 (V : ValW) (n : Nat) (ih : ExprW n) (s : ByteArray) (v : Vl) (p : List ByteArray) (x1 : Ex) (u : Value) (b m : Nat) (t : List Tk) (bd : Bool) (w : World) (hn1 : wt x1 <= n) (hx : ExAt (· < b) w (.mk 8 s v p [x1]) u) (h : WrAt b m t bd w) (hm : m + cost (.mk 8 s v p [x1]) <= bigM) :
    Calls Tryz.prog 151 #[wp' b, u] w (WS b (m + cost (.mk 8 s v p [x1])) (t ++ tks (.mk 8 s v p [x1])) (bd || bad (.mk 8 s v p [x1])) w) := by
  have C0 := cost_eq (.mk 8 s v p [x1])
  have C1 := cost_eq x1
  obtain ⟨pa, pc, la, lc, hu, hs, hvs, hp, hl⟩ := hx.parts
  obtain ⟨vk, vn, vs⟩ := v
  have hs : s.size <= 9223372036854775807 := hs
  have hvs : vs.size <= 9223372036854775807 := hvs
  simp only [sz, szL] at C0
  simp only [List.length_cons, List.length_nil, Nat.zero_add, Nat.reduceAdd] at hu
  obtain ⟨b1, o1, yo1, ys1, yk1, yn1, yt1, yp1, yl1, pa'1, pc'1, la'1, lc'1, rfl, hN1, hbl1, hy1, E1, HX1⟩ := hl.elem (k := 0) (by simp)
  have hy1 : x1 = .mk yo1 ys1 ⟨yk1, yn1, yt1⟩ yp1 yl1 := hy1
  rw [<- hy1] at HX1
  have hys1 : ys1.size <= 9223372036854775807 := by have h := HX1; rw [hy1] at h; obtain ⟨_, _, _, _, _, h, _⟩ := h.parts; exact h
  have hyo1 : Hid (x1.op = yo1 /\ x1.s = ys1) := Lib.hid (by rw [hy1]; exact ⟨rfl, rfl⟩)
  have hsz1 : ys1.size + 1 <= sz x1 := by rw [hy1]; simp only [sz]; omega
  clear hy1
  replace HX1 := Lib.hid HX1
  simp only [Nat.zero_mul, Nat.one_mul, Nat.add_zero] at E1
  replace E1 := Lib.hid E1
  subst hu
  have hlt := h.lt
  have HX := Lib.hid hx
  have HP := Lib.hid hp
  have HL := Lib.hid hl
  have hw := Lib.hid (h.alloc (.cells #[.int .i64 8, .string s, .int .i64 vk, .int .i64 vn, .string vs, .slice pa p.length pc, .slice (some ⟨b1, o1, none⟩) 1 lc] 55))
  have hk := Lib.hid (Bk.new w 55 #[.int .i64 8, .string s, .int .i64 vk, .int .i64 vn, .string vs, .slice pa p.length pc, .slice (some ⟨b1, o1, none⟩) 1 lc])
  have HB := Lib.hid (And.intro (below_low (w := w) (.cells #[.int .i64 8, .string s, .int .i64 vk, .int .i64 vn, .string vs, .slice pa p.length pc, .slice (some ⟨b1, o1, none⟩) 1 lc] 55) (Nat.le_of_lt hlt)) ((Fw.refl b w).alloc (.cells #[.int .i64 8, .string s, .int .i64 vk, .int .i64 vn, .string vs, .slice pa p.length pc, .slice (some ⟨b1, o1, none⟩) 1 lc] 55)))
  obtain ⟨k0, k1, k2, k3, k4, k5, k6⟩ := Bk7 hk.out
  obtain ⟨q10, q11, q12, q13, q14, q15, q16⟩ := low7 HB.out.1 hN1 E1.out
  go_enter Tryz.func151, Tryz.ntmps151
  go_wp2_with (first
    | (go_at_call 145; refine (has145 b _ _ _ 1 1 _ hw.out).mono ?_; simp only [decide_true, ne_eq, not_true_eq_false, decide_false, Bool.or_false]; rintro e w1 ⟨rfl, hw1, hb1⟩; have hk2 := Lib.hid (hk.out.fw hb1.2 (Nat.ne_of_gt hlt) (by decide)); have HB2 := Lib.hid (And.intro (HB.out.1.trans hb1.1) (HB.out.2.trans hb1.2)); clear k0 k1 k2 k3 k4 k5 k6 q10 q11 q12 q13 q14 q15 q16 hk HB hw; have hk := hk2; have HB := HB2; have hw := Lib.hid hw1; clear hk2 HB2 hw1 hb1; obtain ⟨k0, k1, k2, k3, k4, k5, k6⟩ := Bk7 hk.out; obtain ⟨q10, q11, q12, q13, q14, q15, q16⟩ := low7 HB.out.1 hN1 E1.out)
    | (go_at_call 146; (first | (refine (sign146 b _ (sLc.size + 1) _ _ sLc _ hw.out (Nat.le_refl _) (by first | omega | (simp only [sLp_sz, sRp_sz, sLc_sz, sRc_sz, sLb_sz, sRb_sz, sBar_sz, sAmp_sz, sDot_sz, sAt_sz, sArrow_sz, mxc]; omega))).mono ?_) | (refine (sign146 b _ (sBar.size + 1) _ _ sBar _ hw.out (Nat.le_refl _) (by first | omega | (simp only [sLp_sz, sRp_sz, sLc_sz, sRc_sz, sLb_sz, sRb_sz, sBar_sz, sAmp_sz, sDot_sz, sAt_sz, sArrow_sz, mxc]; omega))).mono ?_) | (refine (sign146 b _ (sRc.size + 1) _ _ sRc _ hw.out (Nat.le_refl _) (by first | omega | (simp only [sLp_sz, sRp_sz, sLc_sz, sRc_sz, sLb_sz, sRb_sz, sBar_sz, sAmp_sz, sDot_sz, sAt_sz, sArrow_sz, mxc]; omega))).mono ?_)); rintro e w1 ⟨rfl, hw1, hb1⟩; have hk2 := Lib.hid (hk.out.fw hb1.2 (Nat.ne_of_gt hlt) (by decide)); have HB2 := Lib.hid (And.intro (HB.out.1.trans hb1.1) (HB.out.2.trans hb1.2)); clear k0 k1 k2 k3 k4 k5 k6 q10 q11 q12 q13 q14 q15 q16 hk HB hw; have hk := hk2; have HB := HB2; have hw := Lib.hid hw1; clear hk2 HB2 hw1 hb1; obtain ⟨k0, k1, k2, k3, k4, k5, k6⟩ := Bk7 hk.out; obtain ⟨q10, q11, q12, q13, q14, q15, q16⟩ := low7 HB.out.1 hN1 E1.out)
    | (go_at_call 232; refine (names232 b _ _ _ p _ _ hw.out (StrsAt.keep HP.out (.of_low HB.out.1)) (by first | omega | (simp only [sLp_sz, sRp_sz, sLc_sz, sRc_sz, sLb_sz, sRb_sz, sBar_sz, sAmp_sz, sDot_sz, sAt_sz, sArrow_sz, mxc]; omega))).mono ?_; rintro e w1 ⟨rfl, hw1, hb1⟩; have hk2 := Lib.hid (hk.out.fw hb1.2 (Nat.ne_of_gt hlt) (by decide)); have HB2 := Lib.hid (And.intro (HB.out.1.trans hb1.1) (HB.out.2.trans hb1.2)); clear k0 k1 k2 k3 k4 k5 k6 q10 q11 q12 q13 q14 q15 q16 hk HB hw; have hk := hk2; have HB := HB2; have hw := Lib.hid hw1; clear hk2 HB2 hw1 hb1; obtain ⟨k0, k1, k2, k3, k4, k5, k6⟩ := Bk7 hk.out; obtain ⟨q10, q11, q12, q13, q14, q15, q16⟩ := low7 HB.out.1 hN1 E1.out)
    | (go_at_call 149; refine (blank149 b _ _ _ _ hw.out (by first | omega | (simp only [sLp_sz, sRp_sz, sLc_sz, sRc_sz, sLb_sz, sRb_sz, sBar_sz, sAmp_sz, sDot_sz, sAt_sz, sArrow_sz, mxc]; omega))).mono ?_; rintro e w1 ⟨rfl, hw1, hb1⟩; have hk2 := Lib.hid (hk.out.fw hb1.2 (Nat.ne_of_gt hlt) (by decide)); have HB2 := Lib.hid (And.intro (HB.out.1.trans hb1.1) (HB.out.2.trans hb1.2)); clear k0 k1 k2 k3 k4 k5 k6 q10 q11 q12 q13 q14 q15 q16 hk HB hw; have hk := hk2; have HB := HB2; have hw := Lib.hid hw1; clear hk2 HB2 hw1 hb1; obtain ⟨k0, k1, k2, k3, k4, k5, k6⟩ := Bk7 hk.out; obtain ⟨q10, q11, q12, q13, q14, q15, q16⟩ := low7 HB.out.1 hN1 E1.out)
    | (go_at_call 79; (first | (refine (ih x1 _ b _ _ _ _ hn1 (ExAt.keep (.of_low HB.out.1) HX1.out) hw.out (by first | omega | (simp only [sLp_sz, sRp_sz, sLc_sz, sRc_sz, sLb_sz, sRb_sz, sBar_sz, sAmp_sz, sDot_sz, sAt_sz, sArrow_sz, mxc]; omega))).mono ?_)); rintro e w1 ⟨rfl, hw1, hb1⟩; have hk2 := Lib.hid (hk.out.fw hb1.2 (Nat.ne_of_gt hlt) (by decide)); have HB2 := Lib.hid (And.intro (HB.out.1.trans hb1.1) (HB.out.2.trans hb1.2)); clear k0 k1 k2 k3 k4 k5 k6 q10 q11 q12 q13 q14 q15 q16 hk HB hw; have hk := hk2; have HB := HB2; have hw := Lib.hid hw1; clear hk2 HB2 hw1 hb1; obtain ⟨k0, k1, k2, k3, k4, k5, k6⟩ := Bk7 hk.out; obtain ⟨q10, q11, q12, q13, q14, q15, q16⟩ := low7 HB.out.1 hN1 E1.out))
  all_goals
    go_end0
    refine ⟨rfl, ?_, HB.out⟩
    have hf := hw.out.mono (m' := m + cost (.mk 8 s ⟨vk, vn, vs⟩ p [x1])) (by first | omega | (simp only [sLp_sz, sRp_sz, sLc_sz, sRc_sz, sLb_sz, sRb_sz, sBar_sz, sAmp_sz, sDot_sz, sAt_sz, sArrow_sz, mxc]; omega))
    rw [tks_8_1, bad_8_1]
    simpa [Bool.or_assoc] using hf
theorem tks9b (s : ByteArray) (v : Vl) (p : List ByteArray) (l : List Ex) (h : l.length ≠ 1) : tks (.mk 9 s v p l) = [S sAmp, W s, S sDot] /\ bad (.mk 9 s v p l) = !nameB s := by
  constructor
  · conv => lhs; unfold tks
    simp only [Int.reduceEq, if_false, if_true]
    split
    · exact absurd rfl h
    · rfl
  · conv => lhs; unfold bad
    simp only [Int.reduceEq, if_false, if_true, Bool.or_self, Bool.false_eq_true, decide_false]
    split
    · exact absurd rfl h
    · rfl
theorem w151_9 (V : ValW) (n : Nat) (ih : ExprW n) (s : ByteArray) (v : Vl) (p : List ByteArray) (x1 : Ex) (u : Value) (b m : Nat) (t : List Tk) (bd : Bool) (w : World) (hn1 : wt x1 <= n) (hx : ExAt (· < b) w (.mk 9 s v p [x1]) u) (h : WrAt b m t bd w) (hm : m + cost (.mk 9 s v p [x1]) <= bigM) :
    Calls Tryz.prog 151 #[wp' b, u] w (WS b (m + cost (.mk 9 s v p [x1])) (t ++ tks (.mk 9 s v p [x1])) (bd || bad (.mk 9 s v p [x1])) w) := by
  have C0 := cost_eq (.mk 9 s v p [x1])
  have C1 := cost_eq x1
  obtain ⟨pa, pc, la, lc, hu, hs, hvs, hp, hl⟩ := hx.parts
  obtain ⟨vk, vn, vs⟩ := v
  have hs : s.size <= 9223372036854775807 := hs
  have hvs : vs.size <= 9223372036854775807 := hvs
  simp only [sz, szL] at C0
  simp only [List.length_cons, List.length_nil, Nat.zero_add, Nat.reduceAdd] at hu
  obtain ⟨b1, o1, yo1, ys1, yk1, yn1, yt1, yp1, yl1, pa'1, pc'1, la'1, lc'1, rfl, hN1, hbl1, hy1, E1, HX1⟩ := hl.elem (k := 0) (by simp)
  have hy1 : x1 = .mk yo1 ys1 ⟨yk1, yn1, yt1⟩ yp1 yl1 := hy1
  rw [<- hy1] at HX1
  have hys1 : ys1.size <= 9223372036854775807 := by have h := HX1; rw [hy1] at h; obtain ⟨_, _, _, _, _, h, _⟩ := h.parts; exact h
  have hyo1 : Hid (x1.op = yo1 /\ x1.s = ys1) := Lib.hid (by rw [hy1]; exact ⟨rfl, rfl⟩)
  have hsz1 : ys1.size + 1 <= sz x1 := by rw [hy1]; simp only [sz]; omega
  clear hy1
  replace HX1 := Lib.hid HX1
  simp only [Nat.zero_mul, Nat.one_mul, Nat.add_zero] at E1
  replace E1 := Lib.hid E1
  subst hu
  have hlt := h.lt
  have HX := Lib.hid hx
  have HP := Lib.hid hp
  have HL := Lib.hid hl
  have hw := Lib.hid (h.alloc (.cells #[.int .i64 9, .string s, .int .i64 vk, .int .i64 vn, .string vs, .slice pa p.length pc, .slice (some ⟨b1, o1, none⟩) 1 lc] 55))
  have hk := Lib.hid (Bk.new w 55 #[.int .i64 9, .string s, .int .i64 vk, .int .i64 vn, .string vs, .slice pa p.length pc, .slice (some ⟨b1, o1, none⟩) 1 lc])
  have HB := Lib.hid (And.intro (below_low (w := w) (.cells #[.int .i64 9, .string s, .int .i64 vk, .int .i64 vn, .string vs, .slice pa p.length pc, .slice (some ⟨b1, o1, none⟩) 1 lc] 55) (Nat.le_of_lt hlt)) ((Fw.refl b w).alloc (.cells #[.int .i64 9, .string s, .int .i64 vk, .int .i64 vn, .string vs, .slice pa p.length pc, .slice (some ⟨b1, o1, none⟩) 1 lc] 55)))
  obtain ⟨k0, k1, k2, k3, k4, k5, k6⟩ := Bk7 hk.out
  obtain ⟨q10, q11, q12, q13, q14, q15, q16⟩ := low7 HB.out.1 hN1 E1.out
  go_enter Tryz.func151, Tryz.ntmps151
  go_wp2_with (first
    | (go_at_call 146; (first | (refine (sign146 b _ (sAmp.size + 1) _ _ sAmp _ hw.out (Nat.le_refl _) (by first | omega | (simp only [sLp_sz, sRp_sz, sLc_sz, sRc_sz, sLb_sz, sRb_sz, sBar_sz, sAmp_sz, sDot_sz, sAt_sz, sArrow_sz, mxc]; omega))).mono ?_)); rintro e w1 ⟨rfl, hw1, hb1⟩; have hk2 := Lib.hid (hk.out.fw hb1.2 (Nat.ne_of_gt hlt) (by decide)); have HB2 := Lib.hid (And.intro (HB.out.1.trans hb1.1) (HB.out.2.trans hb1.2)); clear k0 k1 k2 k3 k4 k5 k6 q10 q11 q12 q13 q14 q15 q16 hk HB hw; have hk := hk2; have HB := HB2; have hw := Lib.hid hw1; clear hk2 HB2 hw1 hb1; obtain ⟨k0, k1, k2, k3, k4, k5, k6⟩ := Bk7 hk.out; obtain ⟨q10, q11, q12, q13, q14, q15, q16⟩ := low7 HB.out.1 hN1 E1.out)
    | (go_at_call 147; (first | (refine (closed147 n ih x1 _ b _ _ _ _ hn1 (ExAt.keep (.of_low HB.out.1) HX1.out) hw.out (by first | omega | (simp only [sLp_sz, sRp_sz, sLc_sz, sRc_sz, sLb_sz, sRb_sz, sBar_sz, sAmp_sz, sDot_sz, sAt_sz, sArrow_sz, mxc]; omega))).mono ?_)); rintro e w1 ⟨rfl, hw1, hb1⟩; have hk2 := Lib.hid (hk.out.fw hb1.2 (Nat.ne_of_gt hlt) (by decide)); have HB2 := Lib.hid (And.intro (HB.out.1.trans hb1.1) (HB.out.2.trans hb1.2)); clear k0 k1 k2 k3 k4 k5 k6 q10 q11 q12 q13 q14 q15 q16 hk HB hw; have hk := hk2; have HB := HB2; have hw := Lib.hid hw1; clear hk2 HB2 hw1 hb1; obtain ⟨k0, k1, k2, k3, k4, k5, k6⟩ := Bk7 hk.out; obtain ⟨q10, q11, q12, q13, q14, q15, q16⟩ := low7 HB.out.1 hN1 E1.out))
  all_goals
    go_end0
    refine ⟨rfl, ?_, HB.out⟩
    have hf := hw.out.mono (m' := m + cost (.mk 9 s ⟨vk, vn, vs⟩ p [x1])) (by first | omega | (simp only [sLp_sz, sRp_sz, sLc_sz, sRc_sz, sLb_sz, sRb_sz, sBar_sz, sAmp_sz, sDot_sz, sAt_sz, sArrow_sz, mxc]; omega))
    rw [tks_9_1, bad_9_1]
    simpa [Bool.or_assoc] using hf
theorem w151_9b (V : ValW) (n : Nat) (ih : ExprW n) (s : ByteArray) (v : Vl) (p : List ByteArray) (l : List Ex) (u : Value) (b m : Nat) (t : List Tk) (bd : Bool) (w : World) (hnl : wtL l <= n) (hlen : l.length ≠ 1) (hx : ExAt (· < b) w (.mk 9 s v p l) u) (h : WrAt b m t bd w) (hm : m + cost (.mk 9 s v p l) <= bigM) :
    Calls Tryz.prog 151 #[wp' b, u] w (WS b (m + cost (.mk 9 s v p l)) (t ++ tks (.mk 9 s v p l)) (bd || bad (.mk 9 s v p l)) w) := by
  have C0 := cost_eq (.mk 9 s v p l)
  obtain ⟨pa, pc, la, lc, hu, hs, hvs, hp, hl⟩ := hx.parts
  obtain ⟨vk, vn, vs⟩ := v
  have hs : s.size <= 9223372036854775807 := hs
  have hvs : vs.size <= 9223372036854775807 := hvs
  have hll : l.length <= 9223372036854775807 := hl.1
  simp only [sz] at C0
  subst hu
  have hlt := h.lt
  have HX := Lib.hid hx
  have HP := Lib.hid hp
  have HL := Lib.hid hl
  have hw := Lib.hid (h.alloc (.cells #[.int .i64 9, .string s, .int .i64 vk, .int .i64 vn, .string vs, .slice pa p.length pc, .slice la l.length lc] 55))
  have hk := Lib.hid (Bk.new w 55 #[.int .i64 9, .string s, .int .i64 vk, .int .i64 vn, .string vs, .slice pa p.length pc, .slice la l.length lc])
  have HB := Lib.hid (And.intro (below_low (w := w) (.cells #[.int .i64 9, .string s, .int .i64 vk, .int .i64 vn, .string vs, .slice pa p.length pc, .slice la l.length lc] 55) (Nat.le_of_lt hlt)) ((Fw.refl b w).alloc (.cells #[.int .i64 9, .string s, .int .i64 vk, .int .i64 vn, .string vs, .slice pa p.length pc, .slice la l.length lc] 55)))
  obtain ⟨k0, k1, k2, k3, k4, k5, k6⟩ := Bk7 hk.out
  have hlk1 : decide (l.length = 1) = false := decide_eq_false hlen
  have hlk2 : decide (l.length ≠ 1) = true := decide_eq_true hlen
  have hnl1 : ¬ ((l.length : Int) = 1) := by omega
  go_enter Tryz.func151, Tryz.ntmps151
  go_wp2_with (first
    | (go_at_call 146; (first | (refine (sign146 b _ (sAmp.size + 1) _ _ sAmp _ hw.out (Nat.le_refl _) (by first | omega | (simp only [sLp_sz, sRp_sz, sLc_sz, sRc_sz, sLb_sz, sRb_sz, sBar_sz, sAmp_sz, sDot_sz, sAt_sz, sArrow_sz, mxc]; omega))).mono ?_) | (refine (sign146 b _ (sDot.size + 1) _ _ sDot _ hw.out (Nat.le_refl _) (by first | omega | (simp only [sLp_sz, sRp_sz, sLc_sz, sRc_sz, sLb_sz, sRb_sz, sBar_sz, sAmp_sz, sDot_sz, sAt_sz, sArrow_sz, mxc]; omega))).mono ?_)); rintro e w1 ⟨rfl, hw1, hb1⟩; have hk2 := Lib.hid (hk.out.fw hb1.2 (Nat.ne_of_gt hlt) (by decide)); have HB2 := Lib.hid (And.intro (HB.out.1.trans hb1.1) (HB.out.2.trans hb1.2)); clear k0 k1 k2 k3 k4 k5 k6  hk HB hw; have hk := hk2; have HB := HB2; have hw := Lib.hid hw1; clear hk2 HB2 hw1 hb1; obtain ⟨k0, k1, k2, k3, k4, k5, k6⟩ := Bk7 hk.out)
    | (go_at_call 144; (first | (refine (name144 b _ (s.size + 1) _ _ s _ hw.out hs (Nat.le_refl _) (by first | omega | (simp only [sLp_sz, sRp_sz, sLc_sz, sRc_sz, sLb_sz, sRb_sz, sBar_sz, sAmp_sz, sDot_sz, sAt_sz, sArrow_sz, mxc]; omega))).mono ?_)); rintro e w1 ⟨rfl, hw1, hb1⟩; have hk2 := Lib.hid (hk.out.fw hb1.2 (Nat.ne_of_gt hlt) (by decide)); have HB2 := Lib.hid (And.intro (HB.out.1.trans hb1.1) (HB.out.2.trans hb1.2)); clear k0 k1 k2 k3 k4 k5 k6  hk HB hw; have hk := hk2; have HB := HB2; have hw := Lib.hid hw1; clear hk2 HB2 hw1 hb1; obtain ⟨k0, k1, k2, k3, k4, k5, k6⟩ := Bk7 hk.out))
  all_goals
    go_end0
    refine ⟨rfl, ?_, HB.out⟩
    have hf := hw.out.mono (m' := m + cost (.mk 9 s ⟨vk, vn, vs⟩ p l)) (by first | omega | (simp only [sLp_sz, sRp_sz, sLc_sz, sRc_sz, sLb_sz, sRb_sz, sBar_sz, sAmp_sz, sDot_sz, sAt_sz, sArrow_sz, mxc]; omega))
    rw [(tks9b s ⟨vk, vn, vs⟩ p l hlen).1, (tks9b s ⟨vk, vn, vs⟩ p l hlen).2]
    simpa [Bool.or_assoc] using hf
theorem tks_x (op : Int) (s : ByteArray) (v : Vl) (p : List ByteArray) (l : List Ex) (h0 : ¬ op = 0) (h1 : ¬ op = 1) (h2 : ¬ op = 2) (h3 : ¬ op = 3) (h4 : ¬ op = 4) (h5 : ¬ op = 5) (h6 : ¬ op = 6) (h7 : ¬ op = 7) (h8 : ¬ op = 8) (h9 : ¬ op = 9) (h10 : ¬ op = 10) : tks (.mk op s v p l) = [] /\ bad (.mk op s v p l) = true := by
  constructor
  · conv => lhs; unfold tks
    simp [h0, h1, h2, h3, h4, h5, h6, h7, h8, h9, h10]
  · conv => lhs; unfold bad
    simp [h0, h1, h2, h3, h4, h5, h6, h7, h8, h9, h10]
theorem w151_x (op : Int) (s : ByteArray) (v : Vl) (p : List ByteArray) (l : List Ex) (u : Value) (b m : Nat) (t : List Tk) (bd : Bool) (w : World) (h0 : ¬ op = 0) (h1 : ¬ op = 1) (h2 : ¬ op = 2) (h3 : ¬ op = 3) (h4 : ¬ op = 4) (h5 : ¬ op = 5) (h6 : ¬ op = 6) (h7 : ¬ op = 7) (h8 : ¬ op = 8) (h9 : ¬ op = 9) (h10 : ¬ op = 10) (hx : ExAt (· < b) w (.mk op s v p l) u) (h : WrAt b m t bd w) (hm : m + cost (.mk op s v p l) <= bigM) :
    Calls Tryz.prog 151 #[wp' b, u] w (WS b (m + cost (.mk op s v p l)) (t ++ tks (.mk op s v p l)) (bd || bad (.mk op s v p l)) w) := by
  have C0 := cost_eq (.mk op s v p l)
  obtain ⟨pa, pc, la, lc, hu, hs, hvs, hp, hl⟩ := hx.parts
  obtain ⟨vk, vn, vs⟩ := v
  have hll : l.length <= 9223372036854775807 := hl.1
  subst hu
  have hlt := h.lt
  have HX := Lib.hid hx
  have hw := Lib.hid (h.alloc (.cells #[.int .i64 op, .string s, .int .i64 vk, .int .i64 vn, .string vs, .slice pa p.length pc, .slice la l.length lc] 55))
  have hk := Lib.hid (Bk.new w 55 #[.int .i64 op, .string s, .int .i64 vk, .int .i64 vn, .string vs, .slice pa p.length pc, .slice la l.length lc])
  have HB := Lib.hid (And.intro (below_low (w := w) (.cells #[.int .i64 op, .string s, .int .i64 vk, .int .i64 vn, .string vs, .slice pa p.length pc, .slice la l.length lc] 55) (Nat.le_of_lt hlt)) ((Fw.refl b w).alloc (.cells #[.int .i64 op, .string s, .int .i64 vk, .int .i64 vn, .string vs, .slice pa p.length pc, .slice la l.length lc] 55)))
  obtain ⟨k0, k1, k2, k3, k4, k5, k6⟩ := Bk7 hk.out
  obtain ⟨o', v', -, -, -, c2, f2, -, -, -, -⟩ := hw.out.parts
  obtain ⟨o2, v2, -, -, -, -, -, -, H2, -, -⟩ := h.parts
  have H2 := Lib.hid (H2 true)
  go_enter Tryz.func151, Tryz.ntmps151
  go_wp2
  all_goals first
    | (exfalso; first | exact h7 (by assumption) | exact h7 (by simpa using (show (op == 7) = true by assumption)) | exact h8 (by assumption) | exact h8 (by simpa using (show (op == 8) = true by assumption)) | exact h9 (by assumption) | exact h9 (by simpa using (show (op == 9) = true by assumption)) | exact h10 (by assumption) | exact h10 (by simpa using (show (op == 10) = true by assumption)))
    | (go_end0
       refine ⟨rfl, ?_, (below_set b w 2 _).trans (below_low _ (by simp; omega)), (Fw.set b w 2 _).trans ((Fw.refl _ _).alloc _)⟩
       rw [(tks_x op s ⟨vk, vn, vs⟩ p l h0 h1 h2 h3 h4 h5 h6 h7 h8 h9 h10).1, (tks_x op s ⟨vk, vn, vs⟩ p l h0 h1 h2 h3 h4 h5 h6 h7 h8 h9 h10).2]
       have hf := (H2.out.alloc (.cells #[.int .i64 op, .string s, .int .i64 vk, .int .i64 vn, .string vs, .slice pa p.length pc, .slice la l.length lc] 55)).mono (m' := m + cost (.mk op s ⟨vk, vn, vs⟩ p l)) (by omega)
       simpa using hf)
    | trace_state
theorem len_one {l : List Ex} (h : l.length = 1) : ∃ a, l = [a] := by
  match l, h with
  | [a], _ => exact ⟨a, rfl⟩
theorem len_two {l : List Ex} (h : l.length = 2) : ∃ a c, l = [a, c] := by
  match l, h with
  | [a, c], _ => exact ⟨a, c, rfl⟩
theorem w151_all (V : ValW) (n : Nat) (ih : ExprW n) (op : Int) (s : ByteArray) (v : Vl) (p : List ByteArray) (l : List Ex) (u : Value) (b m : Nat) (t : List Tk) (bd : Bool) (w : World) (hnl : wtL l <= n) (h0 : ¬ op = 0) (h1 : ¬ op = 1) (h2 : ¬ op = 2) (h3 : ¬ op = 3) (h4 : ¬ op = 4) (h5 : ¬ op = 5) (h6 : ¬ op = 6) (hx : ExAt (· < b) w (.mk op s v p l) u) (h : WrAt b m t bd w) (hm : m + cost (.mk op s v p l) <= bigM) :
    Calls Tryz.prog 151 #[wp' b, u] w (WS b (m + cost (.mk op s v p l)) (t ++ tks (.mk op s v p l)) (bd || bad (.mk op s v p l)) w) := by
  by_cases h7 : op = 7
  · subst h7; exact w151_7 V n ih s v p l u b m t bd w hnl hx h hm
  by_cases h10 : op = 10
  · subst h10; exact w151_10 V n ih s v p l u b m t bd w hnl hx h hm
  by_cases h8 : op = 8
  · subst h8
    by_cases hl : l.length = 1
    · obtain ⟨x1, rfl⟩ := len_one hl
      exact w151_8 V n ih s v p x1 u b m t bd w (by simp only [wtL] at hnl; omega) hx h hm
    · exact w151_8b V n ih s v p l u b m t bd w hnl hl hx h hm
  by_cases h9 : op = 9
  · subst h9
    by_cases hl : l.length = 1
    · obtain ⟨x1, rfl⟩ := len_one hl
      exact w151_9 V n ih s v p x1 u b m t bd w (by simp only [wtL] at hnl; omega) hx h hm
    · exact w151_9b V n ih s v p l u b m t bd w hnl hl hx h hm
  exact w151_x op s v p l u b m t bd w h0 h1 h2 h3 h4 h5 h6 h7 h8 h9 h10 hx h hm
theorem w79_x (V : ValW) (n : Nat) (ih : ExprW n) (op : Int) (s : ByteArray) (v : Vl) (p : List ByteArray) (l : List Ex) (u : Value) (b m : Nat) (t : List Tk) (bd : Bool) (w : World) (hnl : wtL l <= n) (h0 : ¬ op = 0) (h1 : ¬ op = 1) (h2 : ¬ op = 2) (h3 : ¬ op = 3) (h4 : ¬ op = 4) (h5 : ¬ op = 5) (h6 : ¬ op = 6) (hx : ExAt (· < b) w (.mk op s v p l) u) (h : WrAt b m t bd w) (hm : m + cost (.mk op s v p l) <= bigM) :
    Calls Tryz.prog 79 #[wp' b, u] w (WS b (m + cost (.mk op s v p l)) (t ++ tks (.mk op s v p l)) (bd || bad (.mk op s v p l)) w) := by
  have C0 := cost_eq (.mk op s v p l)
  obtain ⟨pa, pc, la, lc, hu, hs, hvs, hp, hl⟩ := hx.parts
  obtain ⟨vk, vn, vs⟩ := v
  have hll : l.length <= 9223372036854775807 := hl.1
  subst hu
  have hlt := h.lt
  have HX := Lib.hid hx
  have hw := Lib.hid (h.alloc (.cells #[.int .i64 op, .string s, .int .i64 vk, .int .i64 vn, .string vs, .slice pa p.length pc, .slice la l.length lc] 55))
  have hk := Lib.hid (Bk.new w 55 #[.int .i64 op, .string s, .int .i64 vk, .int .i64 vn, .string vs, .slice pa p.length pc, .slice la l.length lc])
  have HB := Lib.hid (And.intro (below_low (w := w) (.cells #[.int .i64 op, .string s, .int .i64 vk, .int .i64 vn, .string vs, .slice pa p.length pc, .slice la l.length lc] 55) (Nat.le_of_lt hlt)) ((Fw.refl b w).alloc (.cells #[.int .i64 op, .string s, .int .i64 vk, .int .i64 vn, .string vs, .slice pa p.length pc, .slice la l.length lc] 55)))
  obtain ⟨k0, k1, k2, k3, k4, k5, k6⟩ := Bk7 hk.out
  go_enter Tryz.func79, Tryz.ntmps79
  go_wp2_with (first
    | (go_at_call 151; refine (w151_all V n ih op s ⟨vk, vn, vs⟩ p l _ b _ _ _ _ hnl h0 h1 h2 h3 h4 h5 h6 (ExAt.keep (.of_low HB.out.1) HX.out) hw.out hm).mono ?_; rintro e w1 ⟨rfl, hw1, hb1⟩; have hk2 := Lib.hid (hk.out.fw hb1.2 (Nat.ne_of_gt hlt) (by decide)); have HB2 := Lib.hid (And.intro (HB.out.1.trans hb1.1) (HB.out.2.trans hb1.2)); clear k0 k1 k2 k3 k4 k5 k6  hk HB hw; have hk := hk2; have HB := HB2; have hw := Lib.hid hw1; clear hk2 HB2 hw1 hb1; obtain ⟨k0, k1, k2, k3, k4, k5, k6⟩ := Bk7 hk.out))
  all_goals first
    | (exfalso; first | exact h0 (by assumption) | exact h0 (by simpa using (show (op == 0) = true by assumption)) | exact h1 (by assumption) | exact h1 (by simpa using (show (op == 1) = true by assumption)) | exact h2 (by assumption) | exact h2 (by simpa using (show (op == 2) = true by assumption)) | exact h3 (by assumption) | exact h3 (by simpa using (show (op == 3) = true by assumption)) | exact h4 (by assumption) | exact h4 (by simpa using (show (op == 4) = true by assumption)) | exact h5 (by assumption) | exact h5 (by simpa using (show (op == 5) = true by assumption)) | exact h6 (by assumption) | exact h6 (by simpa using (show (op == 6) = true by assumption)))
    | (go_end0
       exact ⟨rfl, hw.out, HB.out⟩)
    | trace_state
theorem expr79 (V : ValW) : ∀ n, ExprW n := by
  intro n
  induction n with
  | zero => intro x u b m t bd w hn; have := wt_pos x; omega
  | succ n ih =>
    intro x u b m t bd w hn hx h hm
    obtain ⟨op, s, v, p, l⟩ := x
    have hnl : wtL l <= n := by simp only [wt] at hn; omega
    by_cases h0 : op = 0
    · subst h0; exact w79_0 V n ih s v p l u b m t bd w hnl hx h hm
    by_cases h1 : op = 1
    · subst h1; exact w79_1 V n ih s v p l u b m t bd w hnl hx h hm
    by_cases h3 : op = 3
    · subst h3; exact w79_3 V n ih s v p l u b m t bd w hnl hx h hm
    by_cases h2 : op = 2
    · subst h2
      by_cases hl : l.length = 1
      · obtain ⟨x1, rfl⟩ := len_one hl
        exact w79_2 V n ih s v p x1 u b m t bd w (by simp only [wtL] at hnl; omega) hx h hm
      · exact w79_2b V n ih s v p l u b m t bd w hnl hl hx h hm
    by_cases h4 : op = 4
    · subst h4
      by_cases hl : l.length = 1
      · obtain ⟨x1, rfl⟩ := len_one hl
        exact w79_4 V n ih s v p x1 u b m t bd w (by simp only [wtL] at hnl; omega) hx h hm
      · exact w79_4b V n ih s v p l u b m t bd w hnl hl hx h hm
    by_cases h5 : op = 5
    · subst h5
      by_cases hl : l.length = 2
      · obtain ⟨x1, x2, rfl⟩ := len_two hl
        exact w79_5 V n ih s v p x1 x2 u b m t bd w (by simp only [wtL] at hnl; omega) (by simp only [wtL] at hnl; omega) hx h hm
      · exact w79_5b V n ih s v p l u b m t bd w hnl hl hx h hm
    by_cases h6 : op = 6
    · subst h6
      by_cases hl : l.length = 2
      · obtain ⟨x1, x2, rfl⟩ := len_two hl
        exact w79_6 V n ih s v p x1 x2 u b m t bd w (by simp only [wtL] at hnl; omega) (by simp only [wtL] at hnl; omega) hx h hm
      · exact w79_6b V n ih s v p l u b m t bd w hnl hl hx h hm
    exact w79_x V n ih op s v p l u b m t bd w hnl h0 h1 h2 h3 h4 h5 h6 hx h hm
theorem validate225 (v : Vl) (w : World) (hs : v.s.size <= 9223372036854775807) :
    Calls Tryz.prog 225 #[v.v] w fun e w' => e = .returned (.int .i64 (errV v)) /\ Below w.heap.size w w' := by
  obtain ⟨k, n, s⟩ := v
  have hs : s.size <= 9223372036854775807 := hs
  unfold Vl.v
  go_enter Tryz.func225, Tryz.ntmps225
  go_wp2_with (first | (go_at_call 300; refine (inNum300 _ _).mono ?_; rintro e w' ⟨rfl, rfl⟩))
  all_goals go_ret
  all_goals refine ⟨ret_int ?_, by first | exact below_a _ | exact Below.refl _ _⟩
  all_goals unfold errV okV
  all_goals first
    | (rw [if_pos (show 2048 < s.size by omega)]; done)
    | rw [if_neg (show ¬ 2048 < s.size by omega)]
  all_goals simp only [<- empty_eq]
  all_goals generalize s.toList.isEmpty = se at *
  all_goals first
    | (simp_all; done)
    | (simp_all; omega)
    | trace_state
theorem bytes_getElem {s : ByteArray} {k : Nat} (h : k < s.size) (h' : k < s.data.toList.length) : s[k] = s.data.toList[k] := by
  obtain ⟨⟨l⟩⟩ := s; rfl
theorem contains_take (l : List UInt8) (c : UInt8) (k : Nat) (h : k < l.length) : (l.take (k + 1)).contains c = ((l.take k).contains c || l[k] == c) := by
  rw [List.take_add_one, Bool.eq_iff_iff, List.getElem?_eq_getElem h]
  simp only [List.contains_eq_mem, Option.toList_some, List.mem_append, List.mem_singleton, decide_eq_true_eq, Bool.or_eq_true, beq_iff_eq]
  rw [eq_comm (a := c)]
theorem anyb_take (f : UInt8 -> Bool) (l : List UInt8) (k : Nat) (h : k < l.length) : (l.take (k + 1)).any f = ((l.take k).any f || f l[k]) := by
  rw [List.take_add_one, List.any_append]
  simp [List.getElem?_eq_getElem h]
def quoteS (s : ByteArray) : ByteArray := if s.data.toList.contains 34 then ⟨#[39]⟩ else ⟨#[34]⟩
def badC (q : ByteArray) (c : UInt8) : Bool := !chrB c || (if h : 0 < q.size then q[0] == c else false)
theorem badC_int (q : ByteArray) (h : 0 < q.size) (c : UInt8) : badC q c = ((decide (¬ (c.toNat : Int) = 9) && (decide ((c.toNat : Int) < 32) || decide (126 < (c.toNat : Int)))) || decide ((c.toNat : Int) = (q[0].toNat : Int))) := by
  unfold badC
  rw [dif_pos h]
  have e : (q[0] == c) = decide ((c.toNat : Int) = (q[0].toNat : Int)) := by
    rw [Bool.eq_iff_iff, beq_iff_eq, decide_eq_true_eq]
    constructor
    · intro h; rw [h]
    · intro h; exact UInt8.toNat_inj.1 (by omega)
  rw [e]
  congr 1
  rw [Bool.eq_iff_iff]
  simp only [Bool.not_eq_true', Bool.and_eq_true, Bool.or_eq_true, decide_eq_true_eq]
  constructor
  · intro h
    by_cases h9 : (c.toNat : Int) = 9
    · rw [chr_yes c (.inl h9)] at h; cases h
    · refine ⟨h9, ?_⟩
      by_cases h1 : (c.toNat : Int) < 32
      · exact .inl h1
      · by_cases h2 : 126 < (c.toNat : Int)
        · exact .inr h2
        · rw [chr_yes c (.inr ⟨by omega, by omega⟩)] at h; cases h
  · rintro ⟨h1, h2⟩
    exact chr_no c h1 h2
theorem badC_text (s q : ByteArray) (hq : q = quoteS s) : s.data.toList.any (badC q) = !textB s := by
  have e : ∀ c, badC q c = (!chrB c || (if s.data.toList.contains 34 then (39 : UInt8) else 34) == c) := by
    intro c
    subst hq
    unfold badC quoteS
    split
    · rename_i h; rw [dif_pos (show 0 < (⟨#[39]⟩ : ByteArray).size by decide)]; rfl
    · rename_i h; rw [dif_pos (show 0 < (⟨#[34]⟩ : ByteArray).size by decide)]; rfl
  have e2 : badC q = fun c => (!chrB c || (if s.data.toList.contains 34 then (39 : UInt8) else 34) == c) := funext e
  rw [e2]
  unfold textB
  rw [Bool.eq_iff_iff]
  simp only [List.any_eq_true, Bool.or_eq_true, Bool.not_eq_true', Bool.and_eq_false_iff, Bool.not_eq_eq_eq_not, Bool.not_true, Bool.not_false, Bool.and_eq_true, beq_iff_eq, List.all_eq_false]
  by_cases h34 : s.data.toList.contains 34 = true
  · rw [if_pos h34]
    constructor
    · rintro ⟨c, hc, h | h⟩
      · exact .inl ⟨c, hc, by simp [h]⟩
      · exact .inr ⟨h34, by rw [List.contains_eq_mem, decide_eq_true_eq, h]; exact hc⟩
    · rintro (⟨c, hc, h⟩ | ⟨_, h⟩)
      · exact ⟨c, hc, .inl (by simpa using h)⟩
      · rw [List.contains_eq_mem, decide_eq_true_eq] at h
        exact ⟨39, h, .inr rfl⟩
  · rw [if_neg h34]
    constructor
    · rintro ⟨c, hc, h | h⟩
      · exact .inl ⟨c, hc, by simp [h]⟩
      · exfalso; apply h34; rw [List.contains_eq_mem, decide_eq_true_eq, h]; exact hc
    · rintro (⟨c, hc, h⟩ | ⟨h, _⟩)
      · exact ⟨c, hc, .inl (by simpa using h)⟩
      · exact absurd h h34
def q2 (s : ByteArray) (k : Nat) : ByteArray := if (s.data.toList.take (k + 1)).contains 34 then ⟨#[39]⟩ else ⟨#[34]⟩
theorem text229 (mixed : Tryz.prog.follows .mixedOrders = true) (b m : Nat) (t : List Tk) (bd : Bool) (s : ByteArray) (w : World) (h : WrAt b m t bd w) (hs : s.size <= 2048) (hm : m + 2100 <= bigM) :
    Calls Tryz.prog 229 #[wp' b, .string s] w (WS b (m + 2100) (t ++ [⟨2, s⟩]) (bd || !textB s) w) := by
  have hlt := h.lt
  have H := Lib.hid h
  have HM := Lib.hid hm
  have hz : s.data.toList.length = s.size := rfl
  have hzz : s.size <= 9223372036854775807 := by omega
  clear h hm
  go_enter Tryz.func229, Tryz.ntmps229
  go_wp2
  go_loopg [4, 5] s.size (fun g s4 s5 wr => ∃ (k : Nat) (q : ByteArray), k <= s.size /\ s.size - k <= g /\ q = (if (s.data.toList.take k).contains 34 then ⟨#[39]⟩ else ⟨#[34]⟩) /\ s4 = .string q /\ s5 = .int .i64 k /\ wr = w)
  case atStart => exact ⟨0, _, Nat.zero_le _, by omega, rfl, rfl, rfl, rfl⟩
  case round =>
    obtain ⟨k, q, hk, hg, hq, rfl, rfl, rfl⟩ := hrel
    by_cases hlt : k < s.size
    · have hc := contains_take s.data.toList 34 k hlt
      rw [<- bytes_getElem hlt hlt] at hc
      have HS : Hid ((((s[k].toNat : Int) == 34) = true -> q2 s k = ⟨#[39]⟩) /\ (((s[k].toNat : Int) == 34) = false -> q2 s k = q)) := Lib.hid (by
        unfold q2; rw [hc, hq]
        constructor
        · intro h
          have : s[k] = 34 := UInt8.toNat_inj.1 (by have : (s[k].toNat : Int) = 34 := by simpa using h
                                                    show s[k].toNat = 34; omega)
          rw [this]; simp
        · intro h
          have : (s[k] == 34) = false := by
            rw [Bool.eq_false_iff]; intro e
            have : s[k] = 34 := by simpa using e
            rw [this] at h; exact absurd h (by decide)
          rw [this, Bool.or_false])
      clear hc hq
      go_wp2
      all_goals
        go_roundg (s.size - (k + 1))
        case measure => omega
        case rel =>
          first
            | exact ⟨k + 1, _, by omega, by omega, (HS.out.1 (by assumption)).symm, rfl, by go_num, rfl⟩
            | exact ⟨k + 1, _, by omega, by omega, (HS.out.2 (by assumption)).symm, rfl, by go_num, rfl⟩
            | trace_state
    · have hkl : k = s.size := by omega
      subst hkl
      have hqn : q = quoteS s := by rw [hq, <- hz, List.take_length]; rfl
      clear hq
      have hq2 : q = ⟨#[39]⟩ \/ q = ⟨#[34]⟩ := by rw [hqn]; unfold quoteS; split; exact .inl rfl; exact .inr rfl
      have hqz : q.size = 1 := by rcases hq2 with h | h <;> rw [h] <;> rfl
      have hqs : q.size <= 9223372036854775807 := by omega
      have hq := Lib.hid hqn
      clear hqn
      clear hq2
      obtain ⟨w0, hw0⟩ : ∃ w0, w0 = wr := ⟨_, rfl⟩
      subst hw0
      have HT : Hid ((bd || s.data.toList.any (badC q)) = (bd || !textB s)) := Lib.hid (by rw [badC_text s q hq.out])
      go_wp2
      go_loopg [6] s.size (fun g s6 wr => ∃ k : Nat, k <= s.size /\ s.size - k <= g /\ s6 = .int .i64 k /\ WrAt b m t (bd || (s.data.toList.take k).any (badC q)) wr /\ Below b w0 wr /\ Fw b w0 wr)
      case atStart => exact ⟨0, Nat.zero_le _, by omega, rfl, by simpa using H.out, Below.refl _ _, Fw.refl _ _⟩
      case round =>
        obtain ⟨k, hk, hg, rfl, hw, hb⟩ := hrel
        have HB := Lib.hid hb
        clear hb
        by_cases hlt : k < s.size
        · obtain ⟨o', v', -, -, -, c2, f2, -, H2, -, -⟩ := hw.parts
          have HW := Lib.hid hw
          have H2 := Lib.hid (H2 true)
          have hq0 : 0 < q.size := by omega
          have hc := anyb_take (badC q) s.data.toList k hlt
          rw [<- bytes_getElem hlt hlt] at hc
          have HC := Lib.hid hc
          have HBc := Lib.hid (badC_int q hq0 s[k])
          clear hc hw
          go_wp2_with fail
          by_cases h9 : (s[k].toNat : Int) = 9
          · have h9b : ((s[k].toNat : Int) != 9) = false := by simp [h9]
            by_cases he : (s[k].toNat : Int) = (q[0].toNat : Int)
            · have heb : ((s[k].toNat : Int) == (q[0].toNat : Int)) = true := by simp [he]
              have he2 := Lib.hid he
              clear he
              have hbt : Hid (badC q s[k] = true) := Lib.hid (by rw [HBc.out]; simp only [Bool.or_eq_true, Bool.and_eq_true, decide_eq_true_eq]; have := he2.out; omega)
              go_region_o
              go_wp2
              go_roundg (s.size - (k + 1))
              case measure => omega
              case rel =>
                refine ⟨k + 1, by omega, by omega, by go_num, ?_, (HB.out.1.trans (below_set _ _ _ _)).drew, (HB.out.2.trans (Fw.set _ _ _ _)).drew⟩
                rw [HC.out, hbt.out, Bool.or_true, Bool.or_true]; exact H2.out
            · have heb : ((s[k].toNat : Int) == (q[0].toNat : Int)) = false := by simp [he]
              have hbt : Hid (badC q s[k] = false) := Lib.hid (by rw [HBc.out]; simp only [Bool.or_eq_false_iff, Bool.and_eq_false_iff, decide_eq_false_iff_not]; omega)
              go_region_o
              go_wp2
              go_roundg (s.size - (k + 1))
              case measure => omega
              case rel =>
                refine ⟨k + 1, by omega, by omega, by go_num, ?_, HB.out.1.drew, HB.out.2.drew⟩
                rw [HC.out, hbt.out, Bool.or_false]; exact HW.out
          · have h9b : ((s[k].toNat : Int) != 9) = true := by simp [h9]
            by_cases h32 : (s[k].toNat : Int) < 32
            · have h32b : decide ((s[k].toNat : Int) < 32) = true := decide_eq_true h32
              have hbt : Hid (badC q s[k] = true) := Lib.hid (by rw [HBc.out]; simp only [Bool.or_eq_true, Bool.and_eq_true, decide_eq_true_eq]; omega)
              go_region_o
              go_wp2
              go_roundg (s.size - (k + 1))
              case measure => omega
              case rel =>
                refine ⟨k + 1, by omega, by omega, by go_num, ?_, (HB.out.1.trans (below_set _ _ _ _)).drew, (HB.out.2.trans (Fw.set _ _ _ _)).drew⟩
                rw [HC.out, hbt.out, Bool.or_true, Bool.or_true]; exact H2.out
            · have h32b : decide ((s[k].toNat : Int) < 32) = false := decide_eq_false h32
              by_cases h126 : 126 < (s[k].toNat : Int)
              · have h126b : decide (126 < (s[k].toNat : Int)) = true := decide_eq_true h126
                have hbt : Hid (badC q s[k] = true) := Lib.hid (by rw [HBc.out]; simp only [Bool.or_eq_true, Bool.and_eq_true, decide_eq_true_eq]; omega)
                go_region_o
                go_wp2
                go_roundg (s.size - (k + 1))
                case measure => omega
                case rel =>
                  refine ⟨k + 1, by omega, by omega, by go_num, ?_, (HB.out.1.trans (below_set _ _ _ _)).drew, (HB.out.2.trans (Fw.set _ _ _ _)).drew⟩
                  rw [HC.out, hbt.out, Bool.or_true, Bool.or_true]; exact H2.out
              · have h126b : decide (126 < (s[k].toNat : Int)) = false := decide_eq_false h126
                by_cases he : (s[k].toNat : Int) = (q[0].toNat : Int)
                · have heb : ((s[k].toNat : Int) == (q[0].toNat : Int)) = true := by simp [he]
                  have he2 := Lib.hid he
                  clear he
                  have hbt : Hid (badC q s[k] = true) := Lib.hid (by rw [HBc.out]; simp only [Bool.or_eq_true, Bool.and_eq_true, decide_eq_true_eq]; have := he2.out; omega)
                  go_region_o
                  go_wp2
                  go_roundg (s.size - (k + 1))
                  case measure => omega
                  case rel =>
                    refine ⟨k + 1, by omega, by omega, by go_num, ?_, (HB.out.1.trans (below_set _ _ _ _)).drew, (HB.out.2.trans (Fw.set _ _ _ _)).drew⟩
                    rw [HC.out, hbt.out, Bool.or_true, Bool.or_true]; exact H2.out
                · have heb : ((s[k].toNat : Int) == (q[0].toNat : Int)) = false := by simp [he]
                  have hbt : Hid (badC q s[k] = false) := Lib.hid (by rw [HBc.out]; simp only [Bool.or_eq_false_iff, Bool.and_eq_false_iff, decide_eq_false_iff_not]; omega)
                  go_region_o
                  go_wp2
                  go_roundg (s.size - (k + 1))
                  case measure => omega
                  case rel =>
                    refine ⟨k + 1, by omega, by omega, by go_num, ?_, HB.out.1.drew, HB.out.2.drew⟩
                    rw [HC.out, hbt.out, Bool.or_false]; exact HW.out
        · have hkl : k = s.size := by omega
          subst hkl
          rw [<- hz, List.take_length, HT.out] at hw
          have HW := Lib.hid hw
          have hadd1 := run_string_add_sum (P := Tryz.prog) wr q s (by omega)
          have hz2 : (q ++ s).size = q.size + s.size := ByteArray.size_append
          have hadd2 := run_string_add_sum (P := Tryz.prog) wr (q ++ s) q (by omega)
          have hz3 : (q ++ s ++ q).size = q.size + s.size + q.size := by rw [ByteArray.size_append, hz2]
          clear hw
          go_wp2_with (first
            | (go_at_call 227; refine (put227 b _ 2100 _ _ 2 s (q ++ s ++ q) _ HW.out (by omega) HM.out).mono ?_; rintro e w1 ⟨rfl, hw1, hb1⟩))
          go_end0
          exact ⟨rfl, hw1, HB.out.1.trans hb1.1, HB.out.2.trans hb1.2⟩
theorem err_of_const {v : Vl} (h : constB v = true) : errV v = 0 := by
  obtain ⟨k, n, s⟩ := v
  unfold constB at h
  unfold errV okV
  have h0 : ¬ 2048 < ByteArray.empty.size := by decide
  by_cases h4 : k = 4
  · subst h4
    simp at h
    rw [if_neg (by simp; omega)]
    simp [h]
  · have hs : s = ByteArray.empty := by
      split at h
      · simp at h; exact h.2
      · split at h
        · simp at h; exact h.2
        · split at h
          · simp at h; exact h.2
          · split at h
            · simp at h; exact h.2
            · simp [h4] at h
    subst hs
    rw [if_neg h0]
    simp only at h ⊢
    rw [if_pos]
    split at h
    · rename_i hk; simp [hk]; simpa using h
    · rename_i hk; rw [if_neg hk]
      split at h
      · rename_i hk; rw [if_pos hk]; exact h
      · rename_i hk; rw [if_neg hk]
        split at h
        · rename_i hk; rw [if_pos hk]; simp at h ⊢; omega
        · rename_i hk; rw [if_neg hk]
          split at h
          · rename_i hk; rw [if_pos hk]; exact h
          · simp [h4] at h
theorem Bk3 {w : World} {g T} {o0 o1 o2 : Value} (h : Bk w g T #[o0, o1, o2]) :
    w.cell? ⟨g, 0, none⟩ = some o0 /\ w.cell? ⟨g, 1, none⟩ = some o1 /\ w.cell? ⟨g, 2, none⟩ = some o2 := by
  simp only [h.cell]; exact ⟨rfl, rfl, rfl⟩
theorem written226i (n : Int) (w : World) (h1 : -1000000000000000 <= n) (h2 : n <= 1000000000000000) :
    Calls Tryz.prog 226 #[.int .i64 n] w fun e w' => e = .returned (.string (bytesOf (wrI n))) /\ Below w.heap.size w w' := by
  by_cases hn : n < 0
  · have hw : Hid (bytesOf (wrI n) = bytesOf [45] ++ bytesOf (wrN n.natAbs)) := Lib.hid (by unfold wrI; rw [if_pos hn, bytesOf_append]; rfl)
    have hz := wrN_sz n.natAbs (by omega)
    have HA : Hid (-n = (n.natAbs : Int)) := Lib.hid (by omega)
    have I := Lib.hid (written226 (n.natAbs + 1) n.natAbs w (by omega) (by omega))
    have hmin : ¬ n = -9223372036854775808 := by omega
    generalize bytesOf (wrN n.natAbs) = sx at *
    go_enter Tryz.func226, Tryz.ntmps226
    go_wp2_with (first | (go_at_call 226; rw [HA.out]; refine I.out.mono ?_; clear I; rintro e w1 ⟨rfl, hb1⟩; have hadd := run_string_add_sum (P := Tryz.prog) w1 ⟨#[45]⟩ sx (by show 1 + sx.size <= _; omega)))
    all_goals first
      | (exfalso; omega)
      | (go_ret
         exact ⟨by rw [hw.out]; rfl, hb1⟩)
      | trace_state
  · rw [wrI_nat n (by omega)]
    obtain ⟨k, rfl⟩ : ∃ k : Nat, n = k := ⟨n.toNat, by omega⟩
    exact written226 (k + 1) k w (by omega) (by omega)
theorem val143_err (v : Vl) (b m : Nat) (t : List Tk) (bd : Bool) (w : World) (hs : v.s.size <= mx) (h : WrAt b m t bd w) (hm : m + 2100 <= bigM) (he : errV v ≠ 0) :
    Calls Tryz.prog 143 #[wp' b, v.v] w (WS b (m + 2100) (t ++ cstTk v) (bd || !constB v) w) := by
  obtain ⟨k, n, s⟩ := v
  show Calls Tryz.prog 143 #[wp' b, .agg #[.int .i64 k, .int .i64 n, .string s]] w _
  have hs : s.size <= 9223372036854775807 := hs
  have hlt := h.lt
  have hw := Lib.hid (h.alloc (.cells #[.int .i64 k, .int .i64 n, .string s] 38))
  have hk := Lib.hid (Bk.new w 38 #[.int .i64 k, .int .i64 n, .string s])
  have HB := Lib.hid (And.intro (below_low (w := w) (.cells #[.int .i64 k, .int .i64 n, .string s] 38) (Nat.le_of_lt hlt)) ((Fw.refl b w).alloc (.cells #[.int .i64 k, .int .i64 n, .string s] 38)))
  obtain ⟨k0, k1, k2⟩ := Bk3 hk.out
  have hcst : cstTk ⟨k, n, s⟩ = [] := by unfold cstTk; rw [if_pos he]
  have hcb : constB ⟨k, n, s⟩ = false := by
    rw [Bool.eq_false_iff]; intro hc; apply he; exact err_of_const hc
  rw [hcst, hcb]
  obtain ⟨e0, hev⟩ : ∃ e0, errV ⟨k, n, s⟩ = e0 := ⟨_, rfl⟩
  rw [hev] at he
  have HV : Hid (∀ w, Calls Tryz.prog 225 #[.agg #[.int .i64 k, .int .i64 n, .string s]] w fun e w' => e = .returned (.int .i64 e0) /\ Below w.heap.size w w') := Lib.hid (fun w => by have V1 := validate225 ⟨k, n, s⟩ w hs; rw [hev] at V1; exact V1)
  have hcs2 := Lib.hid hcst
  clear hcst hcb
  go_enter Tryz.func143, Tryz.ntmps143
  go_wp2_with (first
    | (go_at_call 225; refine (HV.out _).mono ?_; rintro e w1 ⟨rfl, hb1⟩; have hw2 := hw.out.keep hb1; have HB2 := Lib.hid (And.intro (HB.out.1.trans (hb1.mono (Nat.le_of_lt hw.out.lt))) (HB.out.2.trans (Fw.of_below hb1))); clear hb1; obtain ⟨o', v', -, -, -, c2, f2, -, H2, -, -⟩ := hw2.parts; have H2 := Lib.hid (H2 true)))
  go_end0
  refine ⟨rfl, ?_, HB2.out.1.trans (below_set _ _ _ _), HB2.out.2.trans (Fw.set _ _ _ _)⟩
  have := H2.out.mono (m' := m + 2100) (by omega)
  simpa using this
theorem ok_of_err {v : Vl} (h : errV v = 0) : okV v = true := by
  unfold errV at h
  split at h
  · cases h
  · split at h
    · assumption
    · cases h
theorem size_of_err {v : Vl} (h : errV v = 0) : v.s.size <= 2048 := by
  unfold errV at h
  split at h
  · cases h
  · omega
theorem wrI_sz (n : Int) (h1 : -1000000000000000 <= n) (h2 : n <= 1000000000000000) : (bytesOf (wrI n)).size + 1 <= 2100 := by
  rw [bytesOf_size]
  by_cases h : n < 0
  · have := wrN_len 19 n.natAbs (by omega)
    unfold wrI; rw [if_pos h]; show (wrN n.natAbs).length + 1 + 1 <= 2100; omega
  · have := wrN_len 19 n.toNat (by omega)
    unfold wrI; rw [if_neg h]; omega
theorem const_num (n : Int) (s : ByteArray) (h1 : -1000000000000000 <= n) (h2 : n <= 1000000000000000) (hs : s = ByteArray.empty) :
    (!constB ⟨2, n, s⟩) = (decide (n < 0) || decide (15 < (bytesOf (wrI n)).size)) := by
  subst hs
  rw [bytesOf_size]
  by_cases hn : n < 0
  · have : constB ⟨2, n, ByteArray.empty⟩ = false := by simp [constB]; omega
    rw [this]; simp [hn]
  · rw [wrI_nat n (by omega)]
    by_cases hb : n <= 999999999999999
    · have := wrN_len 14 n.toNat (by omega)
      have e1 : constB ⟨2, n, ByteArray.empty⟩ = true := by simp [constB]; omega
      rw [e1]; simp [hn]; omega
    · have := wrN_len_ge 15 n.toNat (by omega)
      have e1 : constB ⟨2, n, ByteArray.empty⟩ = false := by simp [constB]; omega
      rw [e1]; simp; right; omega
theorem szz : sNull.size = 6 /\ sFalse.size = 3 /\ sTrue.size = 3 := ⟨rfl, rfl, rfl⟩
theorem val143_0 (v : Vl) (b m : Nat) (t : List Tk) (bd : Bool) (w : World) (hs : v.s.size <= mx) (h : WrAt b m t bd w) (hm : m + 2100 <= bigM) (he : errV v = 0) (hkk : v.k = 0) :
    Calls Tryz.prog 143 #[wp' b, v.v] w (WS b (m + 2100) (t ++ cstTk v) (bd || !constB v) w) := by
  obtain ⟨k, n, s⟩ := v
  show Calls Tryz.prog 143 #[wp' b, .agg #[.int .i64 k, .int .i64 n, .string s]] w _
  have hs : s.size <= 9223372036854775807 := hs
  have hlt := h.lt
  have hw := Lib.hid (h.alloc (.cells #[.int .i64 k, .int .i64 n, .string s] 38))
  have hk := Lib.hid (Bk.new w 38 #[.int .i64 k, .int .i64 n, .string s])
  have HB := Lib.hid (And.intro (below_low (w := w) (.cells #[.int .i64 k, .int .i64 n, .string s] 38) (Nat.le_of_lt hlt)) ((Fw.refl b w).alloc (.cells #[.int .i64 k, .int .i64 n, .string s] 38)))
  obtain ⟨k0, k1, k2⟩ := Bk3 hk.out
  have hk0 : k = 0 := hkk
  subst hk0
  have hev : errV ⟨0, n, s⟩ = 0 := he
  have HV : Hid (∀ w, Calls Tryz.prog 225 #[.agg #[.int .i64 0, .int .i64 n, .string s]] w fun e w' => e = .returned (.int .i64 0) /\ Below w.heap.size w w') := Lib.hid (fun w => by have V1 := validate225 ⟨0, n, s⟩ w hs; rw [hev] at V1; exact V1)
  have HC : Hid (cstTk ⟨0, n, s⟩ = [S sNull] /\ (bd || !constB ⟨0, n, s⟩) = bd) := Lib.hid (by
    constructor
    · unfold cstTk; rw [hev]; simp
    · have := ok_of_err hev; simp [okV] at this; simp [constB, this])
  go_enter Tryz.func143, Tryz.ntmps143
  go_wp2_with (first
    | (go_at_call 225; refine (HV.out _).mono ?_; rintro e w1 ⟨rfl, hb1⟩; have hk2 := Lib.hid (hk.out.keep hb1); have HB2 := Lib.hid (And.intro (HB.out.1.trans (hb1.mono (Nat.le_of_lt hw.out.lt))) (HB.out.2.trans (Fw.of_below hb1))); have hw2 := Lib.hid (hw.out.keep hb1); clear k0 k1 k2 hk HB hw hb1; have hk := hk2; have HB := HB2; have hw := hw2; clear hk2 HB2 hw2; obtain ⟨k0, k1, k2⟩ := Bk3 hk.out)
    | (go_at_call 146; (refine (sign146 b _ 7 _ _ sNull _ hw.out (by decide) (by omega)).mono ?_); rintro e w1 ⟨rfl, hw1, hb1⟩; have hk2 := Lib.hid (hk.out.fw hb1.2 (Nat.ne_of_gt hlt) (by decide)); have HB2 := Lib.hid (And.intro (HB.out.1.trans hb1.1) (HB.out.2.trans hb1.2)); clear k0 k1 k2 hk HB hw; have hk := hk2; have HB := HB2; have hw := Lib.hid hw1; clear hk2 HB2 hw1 hb1; obtain ⟨k0, k1, k2⟩ := Bk3 hk.out))
  all_goals first
    | (go_end0
       refine ⟨rfl, ?_, HB.out⟩
       rw [HC.out.1, HC.out.2]
       exact hw.out.mono (by first | omega | (simp only [szz]; omega)))
    | (go_ret
       refine ⟨rfl, ?_, HB.out⟩
       rw [HC.out.1, HC.out.2]
       exact hw.out.mono (by first | omega | (simp only [szz]; omega)))
    | trace_state
theorem val143_1a (v : Vl) (b m : Nat) (t : List Tk) (bd : Bool) (w : World) (hs : v.s.size <= mx) (h : WrAt b m t bd w) (hm : m + 2100 <= bigM) (he : errV v = 0) (hkk : v.k = 1) (hn : v.n = 0) :
    Calls Tryz.prog 143 #[wp' b, v.v] w (WS b (m + 2100) (t ++ cstTk v) (bd || !constB v) w) := by
  obtain ⟨k, n, s⟩ := v
  show Calls Tryz.prog 143 #[wp' b, .agg #[.int .i64 k, .int .i64 n, .string s]] w _
  have hs : s.size <= 9223372036854775807 := hs
  have hlt := h.lt
  have hw := Lib.hid (h.alloc (.cells #[.int .i64 k, .int .i64 n, .string s] 38))
  have hk := Lib.hid (Bk.new w 38 #[.int .i64 k, .int .i64 n, .string s])
  have HB := Lib.hid (And.intro (below_low (w := w) (.cells #[.int .i64 k, .int .i64 n, .string s] 38) (Nat.le_of_lt hlt)) ((Fw.refl b w).alloc (.cells #[.int .i64 k, .int .i64 n, .string s] 38)))
  obtain ⟨k0, k1, k2⟩ := Bk3 hk.out
  have hk0 : k = 1 := hkk
  subst hk0
  have hev : errV ⟨1, n, s⟩ = 0 := he
  have HV : Hid (∀ w, Calls Tryz.prog 225 #[.agg #[.int .i64 1, .int .i64 n, .string s]] w fun e w' => e = .returned (.int .i64 0) /\ Below w.heap.size w w') := Lib.hid (fun w => by have V1 := validate225 ⟨1, n, s⟩ w hs; rw [hev] at V1; exact V1)
  have hn0 : n = 0 := hn
  subst hn0
  have HC : Hid (cstTk ⟨1, 0, s⟩ = [S sFalse] /\ (bd || !constB ⟨1, 0, s⟩) = bd) := Lib.hid (by
    constructor
    · unfold cstTk; rw [hev]; simp
    · have := ok_of_err hev; simp [okV] at this; simp [constB, this])
  go_enter Tryz.func143, Tryz.ntmps143
  go_wp2_with (first
    | (go_at_call 225; refine (HV.out _).mono ?_; rintro e w1 ⟨rfl, hb1⟩; have hk2 := Lib.hid (hk.out.keep hb1); have HB2 := Lib.hid (And.intro (HB.out.1.trans (hb1.mono (Nat.le_of_lt hw.out.lt))) (HB.out.2.trans (Fw.of_below hb1))); have hw2 := Lib.hid (hw.out.keep hb1); clear k0 k1 k2 hk HB hw hb1; have hk := hk2; have HB := HB2; have hw := hw2; clear hk2 HB2 hw2; obtain ⟨k0, k1, k2⟩ := Bk3 hk.out; obtain ⟨j0, j1, j2⟩ := Bk3 (hk.out.alloc (.cells #[.string ⟨#[46, 70, 46]⟩, .string ⟨#[46, 84, 46]⟩] 9)))
    | (go_at_call 146; (refine (sign146 b _ 4 _ _ sFalse _ (hw.out.alloc _) (by decide) (by omega)).mono ?_); rintro e w1 ⟨rfl, hw1, hb1⟩; have hk2 := Lib.hid ((hk.out.alloc _).fw hb1.2 (Nat.ne_of_gt hlt) (by decide)); have HB2 := Lib.hid (And.intro (HB.out.1.trans ((below_low _ (Nat.le_of_lt hw.out.lt)).trans hb1.1)) ((HB.out.2.alloc _).trans hb1.2)); clear k0 k1 k2 hk HB hw; have hk := hk2; have HB := HB2; have hw := Lib.hid hw1; clear hk2 HB2 hw1 hb1; obtain ⟨k0, k1, k2⟩ := Bk3 hk.out))
  all_goals first
    | (go_end0
       refine ⟨rfl, ?_, HB.out⟩
       rw [HC.out.1, HC.out.2]
       exact hw.out.mono (by first | omega | (simp only [szz]; omega)))
    | (go_ret
       refine ⟨rfl, ?_, HB.out⟩
       rw [HC.out.1, HC.out.2]
       exact hw.out.mono (by first | omega | (simp only [szz]; omega)))
    | trace_state
theorem val143_1b (v : Vl) (b m : Nat) (t : List Tk) (bd : Bool) (w : World) (hs : v.s.size <= mx) (h : WrAt b m t bd w) (hm : m + 2100 <= bigM) (he : errV v = 0) (hkk : v.k = 1) (hn : v.n = 1) :
    Calls Tryz.prog 143 #[wp' b, v.v] w (WS b (m + 2100) (t ++ cstTk v) (bd || !constB v) w) := by
  obtain ⟨k, n, s⟩ := v
  show Calls Tryz.prog 143 #[wp' b, .agg #[.int .i64 k, .int .i64 n, .string s]] w _
  have hs : s.size <= 9223372036854775807 := hs
  have hlt := h.lt
  have hw := Lib.hid (h.alloc (.cells #[.int .i64 k, .int .i64 n, .string s] 38))
  have hk := Lib.hid (Bk.new w 38 #[.int .i64 k, .int .i64 n, .string s])
  have HB := Lib.hid (And.intro (below_low (w := w) (.cells #[.int .i64 k, .int .i64 n, .string s] 38) (Nat.le_of_lt hlt)) ((Fw.refl b w).alloc (.cells #[.int .i64 k, .int .i64 n, .string s] 38)))
  obtain ⟨k0, k1, k2⟩ := Bk3 hk.out
  have hk0 : k = 1 := hkk
  subst hk0
  have hev : errV ⟨1, n, s⟩ = 0 := he
  have HV : Hid (∀ w, Calls Tryz.prog 225 #[.agg #[.int .i64 1, .int .i64 n, .string s]] w fun e w' => e = .returned (.int .i64 0) /\ Below w.heap.size w w') := Lib.hid (fun w => by have V1 := validate225 ⟨1, n, s⟩ w hs; rw [hev] at V1; exact V1)
  have hn0 : n = 1 := hn
  subst hn0
  have HC : Hid (cstTk ⟨1, 1, s⟩ = [S sTrue] /\ (bd || !constB ⟨1, 1, s⟩) = bd) := Lib.hid (by
    constructor
    · unfold cstTk; rw [hev]; simp
    · have := ok_of_err hev; simp [okV] at this; simp [constB, this])
  go_enter Tryz.func143, Tryz.ntmps143
  go_wp2_with (first
    | (go_at_call 225; refine (HV.out _).mono ?_; rintro e w1 ⟨rfl, hb1⟩; have hk2 := Lib.hid (hk.out.keep hb1); have HB2 := Lib.hid (And.intro (HB.out.1.trans (hb1.mono (Nat.le_of_lt hw.out.lt))) (HB.out.2.trans (Fw.of_below hb1))); have hw2 := Lib.hid (hw.out.keep hb1); clear k0 k1 k2 hk HB hw hb1; have hk := hk2; have HB := HB2; have hw := hw2; clear hk2 HB2 hw2; obtain ⟨k0, k1, k2⟩ := Bk3 hk.out; obtain ⟨j0, j1, j2⟩ := Bk3 (hk.out.alloc (.cells #[.string ⟨#[46, 70, 46]⟩, .string ⟨#[46, 84, 46]⟩] 9)))
    | (go_at_call 146; (refine (sign146 b _ 4 _ _ sTrue _ (hw.out.alloc _) (by decide) (by omega)).mono ?_); rintro e w1 ⟨rfl, hw1, hb1⟩; have hk2 := Lib.hid ((hk.out.alloc _).fw hb1.2 (Nat.ne_of_gt hlt) (by decide)); have HB2 := Lib.hid (And.intro (HB.out.1.trans ((below_low _ (Nat.le_of_lt hw.out.lt)).trans hb1.1)) ((HB.out.2.alloc _).trans hb1.2)); clear k0 k1 k2 hk HB hw; have hk := hk2; have HB := HB2; have hw := Lib.hid hw1; clear hk2 HB2 hw1 hb1; obtain ⟨k0, k1, k2⟩ := Bk3 hk.out))
  all_goals first
    | (go_end0
       refine ⟨rfl, ?_, HB.out⟩
       rw [HC.out.1, HC.out.2]
       exact hw.out.mono (by first | omega | (simp only [szz]; omega)))
    | (go_ret
       refine ⟨rfl, ?_, HB.out⟩
       rw [HC.out.1, HC.out.2]
       exact hw.out.mono (by first | omega | (simp only [szz]; omega)))
    | trace_state
theorem val143_4 (v : Vl) (b m : Nat) (t : List Tk) (bd : Bool) (w : World) (hs : v.s.size <= mx) (h : WrAt b m t bd w) (hm : m + 2100 <= bigM) (he : errV v = 0) (mixed : Tryz.prog.follows .mixedOrders = true) (hkk : v.k = 4) :
    Calls Tryz.prog 143 #[wp' b, v.v] w (WS b (m + 2100) (t ++ cstTk v) (bd || !constB v) w) := by
  obtain ⟨k, n, s⟩ := v
  show Calls Tryz.prog 143 #[wp' b, .agg #[.int .i64 k, .int .i64 n, .string s]] w _
  have hs : s.size <= 9223372036854775807 := hs
  have hlt := h.lt
  have hw := Lib.hid (h.alloc (.cells #[.int .i64 k, .int .i64 n, .string s] 38))
  have hk := Lib.hid (Bk.new w 38 #[.int .i64 k, .int .i64 n, .string s])
  have HB := Lib.hid (And.intro (below_low (w := w) (.cells #[.int .i64 k, .int .i64 n, .string s] 38) (Nat.le_of_lt hlt)) ((Fw.refl b w).alloc (.cells #[.int .i64 k, .int .i64 n, .string s] 38)))
  obtain ⟨k0, k1, k2⟩ := Bk3 hk.out
  have hk0 : k = 4 := hkk
  subst hk0
  have hev : errV ⟨4, n, s⟩ = 0 := he
  have HV : Hid (∀ w, Calls Tryz.prog 225 #[.agg #[.int .i64 4, .int .i64 n, .string s]] w fun e w' => e = .returned (.int .i64 0) /\ Below w.heap.size w w') := Lib.hid (fun w => by have V1 := validate225 ⟨4, n, s⟩ w hs; rw [hev] at V1; exact V1)
  have HS := size_of_err hev
  have HC : Hid (cstTk ⟨4, n, s⟩ = [⟨2, s⟩] /\ (bd || !constB ⟨4, n, s⟩) = (bd || !textB s)) := Lib.hid (by
    constructor
    · unfold cstTk; rw [hev]; simp
    · have h1 := ok_of_err hev; simp [okV] at h1; have h2 : s.size <= 2048 := HS; simp [constB, h1, h2])
  go_enter Tryz.func143, Tryz.ntmps143
  go_wp2_with (first
    | (go_at_call 225; refine (HV.out _).mono ?_; rintro e w1 ⟨rfl, hb1⟩; have hk2 := Lib.hid (hk.out.keep hb1); have HB2 := Lib.hid (And.intro (HB.out.1.trans (hb1.mono (Nat.le_of_lt hw.out.lt))) (HB.out.2.trans (Fw.of_below hb1))); have hw2 := Lib.hid (hw.out.keep hb1); clear k0 k1 k2 hk HB hw hb1; have hk := hk2; have HB := HB2; have hw := hw2; clear hk2 HB2 hw2; obtain ⟨k0, k1, k2⟩ := Bk3 hk.out)
    | (go_at_call 229; refine (text229 mixed b _ _ _ s _ hw.out HS (by omega)).mono ?_; rintro e w1 ⟨rfl, hw1, hb1⟩; have hk2 := Lib.hid (hk.out.fw hb1.2 (Nat.ne_of_gt hlt) (by decide)); have HB2 := Lib.hid (And.intro (HB.out.1.trans hb1.1) (HB.out.2.trans hb1.2)); clear k0 k1 k2 hk HB hw; have hk := hk2; have HB := HB2; have hw := Lib.hid hw1; clear hk2 HB2 hw1 hb1; obtain ⟨k0, k1, k2⟩ := Bk3 hk.out))
  all_goals first
    | (go_end0
       refine ⟨rfl, ?_, HB.out⟩
       rw [HC.out.1, HC.out.2]
       exact hw.out.mono (by first | omega | (simp only [szz]; omega)))
    | (go_ret
       refine ⟨rfl, ?_, HB.out⟩
       rw [HC.out.1, HC.out.2]
       exact hw.out.mono (by first | omega | (simp only [szz]; omega)))
    | trace_state
theorem val143_2a (v : Vl) (b m : Nat) (t : List Tk) (bd : Bool) (w : World) (hs : v.s.size <= mx) (h : WrAt b m t bd w) (hm : m + 2100 <= bigM) (he : errV v = 0) (hkk : v.k = 2) (hneg : v.n < 0) :
    Calls Tryz.prog 143 #[wp' b, v.v] w (WS b (m + 2100) (t ++ cstTk v) (bd || !constB v) w) := by
  obtain ⟨k, n, s⟩ := v
  show Calls Tryz.prog 143 #[wp' b, .agg #[.int .i64 k, .int .i64 n, .string s]] w _
  have hs : s.size <= 9223372036854775807 := hs
  have hlt := h.lt
  have hw := Lib.hid (h.alloc (.cells #[.int .i64 k, .int .i64 n, .string s] 38))
  have hk := Lib.hid (Bk.new w 38 #[.int .i64 k, .int .i64 n, .string s])
  have HB := Lib.hid (And.intro (below_low (w := w) (.cells #[.int .i64 k, .int .i64 n, .string s] 38) (Nat.le_of_lt hlt)) ((Fw.refl b w).alloc (.cells #[.int .i64 k, .int .i64 n, .string s] 38)))
  obtain ⟨k0, k1, k2⟩ := Bk3 hk.out
  have hk0 : k = 2 := hkk
  subst hk0
  have hev : errV ⟨2, n, s⟩ = 0 := he
  have HV : Hid (∀ w, Calls Tryz.prog 225 #[.agg #[.int .i64 2, .int .i64 n, .string s]] w fun e w' => e = .returned (.int .i64 0) /\ Below w.heap.size w w') := Lib.hid (fun w => by have V1 := validate225 ⟨2, n, s⟩ w hs; rw [hev] at V1; exact V1)
  have hok := ok_of_err hev
  have hn1 : -1000000000000000 <= n := by simp [okV] at hok; omega
  have hn2 : n <= 1000000000000000 := by simp [okV] at hok; omega
  have hse : s = ByteArray.empty := by simp [okV] at hok; exact hok.2
  have hz1 : (bytesOf (wrI n)).size + 1 <= 2100 := wrI_sz n hn1 hn2
  have HC : Hid (cstTk ⟨2, n, s⟩ = [⟨1, bytesOf (wrI n)⟩] /\ (bd || !constB ⟨2, n, s⟩) = (bd || (decide (n < 0) || decide (15 < (bytesOf (wrI n)).size)))) := Lib.hid (by
    constructor
    · unfold cstTk; rw [hev]; simp
    · rw [const_num n s hn1 hn2 hse])
  have hneg : n < 0 := hneg
  rw [show decide (n < 0) = true from decide_eq_true hneg, Bool.true_or, Bool.or_true] at HC
  clear hse hok
  have HWR := Lib.hid (fun w => written226i n w hn1 hn2)
  generalize bytesOf (wrI n) = sx at *
  go_enter Tryz.func143, Tryz.ntmps143
  go_wp2_with (first
    | (go_at_call 225; refine (HV.out _).mono ?_; rintro e w1 ⟨rfl, hb1⟩; have hk2 := Lib.hid (hk.out.keep hb1); have HB2 := Lib.hid (And.intro (HB.out.1.trans (hb1.mono (Nat.le_of_lt hw.out.lt))) (HB.out.2.trans (Fw.of_below hb1))); have hw2 := Lib.hid (hw.out.keep hb1); clear k0 k1 k2 hk HB hw hb1; have hk := hk2; have HB := HB2; have hw := hw2; clear hk2 HB2 hw2; obtain ⟨k0, k1, k2⟩ := Bk3 hk.out)
    | (go_at_call 226; refine (HWR.out _).mono ?_; rintro e w1 ⟨rfl, hb1⟩; have hk2 := Lib.hid (hk.out.keep hb1); have HB2 := Lib.hid (And.intro (HB.out.1.trans (hb1.mono (Nat.le_of_lt hw.out.lt))) (HB.out.2.trans (Fw.of_below hb1))); have hw2 := Lib.hid (hw.out.keep hb1); clear k0 k1 k2 hk HB hw hb1; have hk := hk2; have HB := HB2; have hw := hw2; clear hk2 HB2 hw2; obtain ⟨k0, k1, k2⟩ := Bk3 hk.out; obtain ⟨o', v', -, -, -, c2, f2, -, H2, -, -⟩ := hw.out.parts; have H2 := Lib.hid (H2 true))
    | (go_at_call 227; (refine (put227 b _ 2100 _ _ 1 sx sx _ H2.out hz1 (by omega)).mono ?_); rintro e w1 ⟨rfl, hw1, hb1⟩; have hk2 := Lib.hid ((hk.out.fw (Fw.set _ _ _ _) (Nat.ne_of_gt hlt) (by decide)).fw hb1.2 (Nat.ne_of_gt hlt) (by decide)); have HB2 := Lib.hid (And.intro (HB.out.1.trans ((below_set _ _ _ _).trans hb1.1)) (HB.out.2.trans ((Fw.set _ _ _ _).trans hb1.2))); clear k0 k1 k2 hk HB hw; have hk := hk2; have HB := HB2; have hw := Lib.hid hw1; clear hk2 HB2 hw1 hb1; obtain ⟨k0, k1, k2⟩ := Bk3 hk.out))
  all_goals first
    | (go_end0
       refine ⟨rfl, ?_, HB.out⟩
       rw [HC.out.1, HC.out.2]
       exact hw.out.mono (by first | omega | (simp only [szz]; omega)))
    | (go_ret
       refine ⟨rfl, ?_, HB.out⟩
       rw [HC.out.1, HC.out.2]
       exact hw.out.mono (by first | omega | (simp only [szz]; omega)))
    | trace_state
theorem val143_2b (v : Vl) (b m : Nat) (t : List Tk) (bd : Bool) (w : World) (hs : v.s.size <= mx) (h : WrAt b m t bd w) (hm : m + 2100 <= bigM) (he : errV v = 0) (hkk : v.k = 2) (hneg : ¬ v.n < 0) (hbig : 15 < (bytesOf (wrI v.n)).size) :
    Calls Tryz.prog 143 #[wp' b, v.v] w (WS b (m + 2100) (t ++ cstTk v) (bd || !constB v) w) := by
  obtain ⟨k, n, s⟩ := v
  show Calls Tryz.prog 143 #[wp' b, .agg #[.int .i64 k, .int .i64 n, .string s]] w _
  have hs : s.size <= 9223372036854775807 := hs
  have hlt := h.lt
  have hw := Lib.hid (h.alloc (.cells #[.int .i64 k, .int .i64 n, .string s] 38))
  have hk := Lib.hid (Bk.new w 38 #[.int .i64 k, .int .i64 n, .string s])
  have HB := Lib.hid (And.intro (below_low (w := w) (.cells #[.int .i64 k, .int .i64 n, .string s] 38) (Nat.le_of_lt hlt)) ((Fw.refl b w).alloc (.cells #[.int .i64 k, .int .i64 n, .string s] 38)))
  obtain ⟨k0, k1, k2⟩ := Bk3 hk.out
  have hk0 : k = 2 := hkk
  subst hk0
  have hev : errV ⟨2, n, s⟩ = 0 := he
  have HV : Hid (∀ w, Calls Tryz.prog 225 #[.agg #[.int .i64 2, .int .i64 n, .string s]] w fun e w' => e = .returned (.int .i64 0) /\ Below w.heap.size w w') := Lib.hid (fun w => by have V1 := validate225 ⟨2, n, s⟩ w hs; rw [hev] at V1; exact V1)
  have hok := ok_of_err hev
  have hn1 : -1000000000000000 <= n := by simp [okV] at hok; omega
  have hn2 : n <= 1000000000000000 := by simp [okV] at hok; omega
  have hse : s = ByteArray.empty := by simp [okV] at hok; exact hok.2
  have hz1 : (bytesOf (wrI n)).size + 1 <= 2100 := wrI_sz n hn1 hn2
  have HC : Hid (cstTk ⟨2, n, s⟩ = [⟨1, bytesOf (wrI n)⟩] /\ (bd || !constB ⟨2, n, s⟩) = (bd || (decide (n < 0) || decide (15 < (bytesOf (wrI n)).size)))) := Lib.hid (by
    constructor
    · unfold cstTk; rw [hev]; simp
    · rw [const_num n s hn1 hn2 hse])
  have hneg : ¬ n < 0 := hneg
  have hbig : 15 < (bytesOf (wrI n)).size := hbig
  rw [show decide (15 < (bytesOf (wrI n)).size) = true from decide_eq_true hbig, Bool.or_true, Bool.or_true] at HC
  clear hse hok
  have HWR := Lib.hid (fun w => written226i n w hn1 hn2)
  generalize bytesOf (wrI n) = sx at *
  go_enter Tryz.func143, Tryz.ntmps143
  go_wp2_with (first
    | (go_at_call 225; refine (HV.out _).mono ?_; rintro e w1 ⟨rfl, hb1⟩; have hk2 := Lib.hid (hk.out.keep hb1); have HB2 := Lib.hid (And.intro (HB.out.1.trans (hb1.mono (Nat.le_of_lt hw.out.lt))) (HB.out.2.trans (Fw.of_below hb1))); have hw2 := Lib.hid (hw.out.keep hb1); clear k0 k1 k2 hk HB hw hb1; have hk := hk2; have HB := HB2; have hw := hw2; clear hk2 HB2 hw2; obtain ⟨k0, k1, k2⟩ := Bk3 hk.out)
    | (go_at_call 226; refine (HWR.out _).mono ?_; rintro e w1 ⟨rfl, hb1⟩; have hk2 := Lib.hid (hk.out.keep hb1); have HB2 := Lib.hid (And.intro (HB.out.1.trans (hb1.mono (Nat.le_of_lt hw.out.lt))) (HB.out.2.trans (Fw.of_below hb1))); have hw2 := Lib.hid (hw.out.keep hb1); clear k0 k1 k2 hk HB hw hb1; have hk := hk2; have HB := HB2; have hw := hw2; clear hk2 HB2 hw2; obtain ⟨k0, k1, k2⟩ := Bk3 hk.out; obtain ⟨o', v', -, -, -, c2, f2, -, H2, -, -⟩ := hw.out.parts; have H2 := Lib.hid (H2 true))
    | (go_at_call 227; (refine (put227 b _ 2100 _ _ 1 sx sx _ H2.out hz1 (by omega)).mono ?_); rintro e w1 ⟨rfl, hw1, hb1⟩; have hk2 := Lib.hid ((hk.out.fw (Fw.set _ _ _ _) (Nat.ne_of_gt hlt) (by decide)).fw hb1.2 (Nat.ne_of_gt hlt) (by decide)); have HB2 := Lib.hid (And.intro (HB.out.1.trans ((below_set _ _ _ _).trans hb1.1)) (HB.out.2.trans ((Fw.set _ _ _ _).trans hb1.2))); clear k0 k1 k2 hk HB hw; have hk := hk2; have HB := HB2; have hw := Lib.hid hw1; clear hk2 HB2 hw1 hb1; obtain ⟨k0, k1, k2⟩ := Bk3 hk.out))
  all_goals first
    | (go_end0
       refine ⟨rfl, ?_, HB.out⟩
       rw [HC.out.1, HC.out.2]
       exact hw.out.mono (by first | omega | (simp only [szz]; omega)))
    | (go_ret
       refine ⟨rfl, ?_, HB.out⟩
       rw [HC.out.1, HC.out.2]
       exact hw.out.mono (by first | omega | (simp only [szz]; omega)))
    | trace_state
theorem val143_2c (v : Vl) (b m : Nat) (t : List Tk) (bd : Bool) (w : World) (hs : v.s.size <= mx) (h : WrAt b m t bd w) (hm : m + 2100 <= bigM) (he : errV v = 0) (hkk : v.k = 2) (hneg : ¬ v.n < 0) (hbig : ¬ 15 < (bytesOf (wrI v.n)).size) :
    Calls Tryz.prog 143 #[wp' b, v.v] w (WS b (m + 2100) (t ++ cstTk v) (bd || !constB v) w) := by
  obtain ⟨k, n, s⟩ := v
  show Calls Tryz.prog 143 #[wp' b, .agg #[.int .i64 k, .int .i64 n, .string s]] w _
  have hs : s.size <= 9223372036854775807 := hs
  have hlt := h.lt
  have hw := Lib.hid (h.alloc (.cells #[.int .i64 k, .int .i64 n, .string s] 38))
  have hk := Lib.hid (Bk.new w 38 #[.int .i64 k, .int .i64 n, .string s])
  have HB := Lib.hid (And.intro (below_low (w := w) (.cells #[.int .i64 k, .int .i64 n, .string s] 38) (Nat.le_of_lt hlt)) ((Fw.refl b w).alloc (.cells #[.int .i64 k, .int .i64 n, .string s] 38)))
  obtain ⟨k0, k1, k2⟩ := Bk3 hk.out
  have hk0 : k = 2 := hkk
  subst hk0
  have hev : errV ⟨2, n, s⟩ = 0 := he
  have HV : Hid (∀ w, Calls Tryz.prog 225 #[.agg #[.int .i64 2, .int .i64 n, .string s]] w fun e w' => e = .returned (.int .i64 0) /\ Below w.heap.size w w') := Lib.hid (fun w => by have V1 := validate225 ⟨2, n, s⟩ w hs; rw [hev] at V1; exact V1)
  have hok := ok_of_err hev
  have hn1 : -1000000000000000 <= n := by simp [okV] at hok; omega
  have hn2 : n <= 1000000000000000 := by simp [okV] at hok; omega
  have hse : s = ByteArray.empty := by simp [okV] at hok; exact hok.2
  have hz1 : (bytesOf (wrI n)).size + 1 <= 2100 := wrI_sz n hn1 hn2
  have HC : Hid (cstTk ⟨2, n, s⟩ = [⟨1, bytesOf (wrI n)⟩] /\ (bd || !constB ⟨2, n, s⟩) = (bd || (decide (n < 0) || decide (15 < (bytesOf (wrI n)).size)))) := Lib.hid (by
    constructor
    · unfold cstTk; rw [hev]; simp
    · rw [const_num n s hn1 hn2 hse])
  have hneg : ¬ n < 0 := hneg
  have hbig : ¬ 15 < (bytesOf (wrI n)).size := hbig
  rw [show decide (n < 0) = false from decide_eq_false hneg, show decide (15 < (bytesOf (wrI n)).size) = false from decide_eq_false hbig, Bool.or_false, Bool.or_false] at HC
  clear hse hok
  have HWR := Lib.hid (fun w => written226i n w hn1 hn2)
  generalize bytesOf (wrI n) = sx at *
  go_enter Tryz.func143, Tryz.ntmps143
  go_wp2_with (first
    | (go_at_call 225; refine (HV.out _).mono ?_; rintro e w1 ⟨rfl, hb1⟩; have hk2 := Lib.hid (hk.out.keep hb1); have HB2 := Lib.hid (And.intro (HB.out.1.trans (hb1.mono (Nat.le_of_lt hw.out.lt))) (HB.out.2.trans (Fw.of_below hb1))); have hw2 := Lib.hid (hw.out.keep hb1); clear k0 k1 k2 hk HB hw hb1; have hk := hk2; have HB := HB2; have hw := hw2; clear hk2 HB2 hw2; obtain ⟨k0, k1, k2⟩ := Bk3 hk.out)
    | (go_at_call 226; refine (HWR.out _).mono ?_; rintro e w1 ⟨rfl, hb1⟩; have hk2 := Lib.hid (hk.out.keep hb1); have HB2 := Lib.hid (And.intro (HB.out.1.trans (hb1.mono (Nat.le_of_lt hw.out.lt))) (HB.out.2.trans (Fw.of_below hb1))); have hw2 := Lib.hid (hw.out.keep hb1); clear k0 k1 k2 hk HB hw hb1; have hk := hk2; have HB := HB2; have hw := hw2; clear hk2 HB2 hw2; obtain ⟨k0, k1, k2⟩ := Bk3 hk.out; obtain ⟨o', v', -, -, -, c2, f2, -, H2, -, -⟩ := hw.out.parts; have H2 := Lib.hid (H2 true))
    | (go_at_call 227; (refine (put227 b _ 2100 _ _ 1 sx sx _ hw.out hz1 (by omega)).mono ?_); rintro e w1 ⟨rfl, hw1, hb1⟩; have hk2 := Lib.hid (hk.out.fw hb1.2 (Nat.ne_of_gt hlt) (by decide)); have HB2 := Lib.hid (And.intro (HB.out.1.trans hb1.1) (HB.out.2.trans hb1.2)); clear k0 k1 k2 hk HB hw; have hk := hk2; have HB := HB2; have hw := Lib.hid hw1; clear hk2 HB2 hw1 hb1; obtain ⟨k0, k1, k2⟩ := Bk3 hk.out))
  all_goals first
    | (go_end0
       refine ⟨rfl, ?_, HB.out⟩
       rw [HC.out.1, HC.out.2]
       exact hw.out.mono (by first | omega | (simp only [szz]; omega)))
    | (go_ret
       refine ⟨rfl, ?_, HB.out⟩
       rw [HC.out.1, HC.out.2]
       exact hw.out.mono (by first | omega | (simp only [szz]; omega)))
    | trace_state
theorem val143_3a (v : Vl) (b m : Nat) (t : List Tk) (bd : Bool) (w : World) (hs : v.s.size <= mx) (h : WrAt b m t bd w) (hm : m + 2100 <= bigM) (he : errV v = 0) (hkk : v.k = 3) (hn : v.n = 0) :
    Calls Tryz.prog 143 #[wp' b, v.v] w (WS b (m + 2100) (t ++ cstTk v) (bd || !constB v) w) := by
  obtain ⟨k, n, s⟩ := v
  show Calls Tryz.prog 143 #[wp' b, .agg #[.int .i64 k, .int .i64 n, .string s]] w _
  have hs : s.size <= 9223372036854775807 := hs
  have hlt := h.lt
  have hw := Lib.hid (h.alloc (.cells #[.int .i64 k, .int .i64 n, .string s] 38))
  have hk := Lib.hid (Bk.new w 38 #[.int .i64 k, .int .i64 n, .string s])
  have HB := Lib.hid (And.intro (below_low (w := w) (.cells #[.int .i64 k, .int .i64 n, .string s] 38) (Nat.le_of_lt hlt)) ((Fw.refl b w).alloc (.cells #[.int .i64 k, .int .i64 n, .string s] 38)))
  obtain ⟨k0, k1, k2⟩ := Bk3 hk.out
  have hk0 : k = 3 := hkk
  subst hk0
  have hev : errV ⟨3, n, s⟩ = 0 := he
  have HV : Hid (∀ w, Calls Tryz.prog 225 #[.agg #[.int .i64 3, .int .i64 n, .string s]] w fun e w' => e = .returned (.int .i64 0) /\ Below w.heap.size w w') := Lib.hid (fun w => by have V1 := validate225 ⟨3, n, s⟩ w hs; rw [hev] at V1; exact V1)
  have hn0 : n = 0 := hn
  subst hn0
  have HC : Hid (cstTk ⟨3, 0, s⟩ = [⟨3, ByteArray.empty⟩] /\ (bd || !constB ⟨3, 0, s⟩) = bd) := Lib.hid (by
    constructor
    · unfold cstTk; rw [hev]; simp
    · have := ok_of_err hev; simp [okV] at this; simp [constB, this])
  go_enter Tryz.func143, Tryz.ntmps143
  go_wp2_with (first
    | (go_at_call 225; refine (HV.out _).mono ?_; rintro e w1 ⟨rfl, hb1⟩; have hk2 := Lib.hid (hk.out.keep hb1); have HB2 := Lib.hid (And.intro (HB.out.1.trans (hb1.mono (Nat.le_of_lt hw.out.lt))) (HB.out.2.trans (Fw.of_below hb1))); have hw2 := Lib.hid (hw.out.keep hb1); clear k0 k1 k2 hk HB hw hb1; have hk := hk2; have HB := HB2; have hw := hw2; clear hk2 HB2 hw2; obtain ⟨k0, k1, k2⟩ := Bk3 hk.out)
    | (go_at_call 227; (refine (put227 b _ 3 _ _ 3 ByteArray.empty ⟨#[123, 125]⟩ _ hw.out (by decide) (by omega)).mono ?_); rintro e w1 ⟨rfl, hw1, hb1⟩; have hk2 := Lib.hid (hk.out.fw hb1.2 (Nat.ne_of_gt hlt) (by decide)); have HB2 := Lib.hid (And.intro (HB.out.1.trans hb1.1) (HB.out.2.trans hb1.2)); clear k0 k1 k2 hk HB hw; have hk := hk2; have HB := HB2; have hw := Lib.hid hw1; clear hk2 HB2 hw1 hb1; obtain ⟨k0, k1, k2⟩ := Bk3 hk.out))
  all_goals first
    | (go_end0
       refine ⟨rfl, ?_, HB.out⟩
       rw [HC.out.1, HC.out.2]
       exact hw.out.mono (by first | omega | (simp only [szz]; omega)))
    | (go_ret
       refine ⟨rfl, ?_, HB.out⟩
       rw [HC.out.1, HC.out.2]
       exact hw.out.mono (by first | omega | (simp only [szz]; omega)))
    | trace_state
theorem val143_3b (v : Vl) (b m : Nat) (t : List Tk) (bd : Bool) (w : World) (hs : v.s.size <= mx) (h : WrAt b m t bd w) (hm : m + 2100 <= bigM) (he : errV v = 0) (mixed : Tryz.prog.follows .mixedOrders = true) (hkk : v.k = 3) (hn : v.n ≠ 0) :
    Calls Tryz.prog 143 #[wp' b, v.v] w (WS b (m + 2100) (t ++ cstTk v) (bd || !constB v) w) := by
  obtain ⟨k, n, s⟩ := v
  show Calls Tryz.prog 143 #[wp' b, .agg #[.int .i64 k, .int .i64 n, .string s]] w _
  have hs : s.size <= 9223372036854775807 := hs
  have hlt := h.lt
  have hw := Lib.hid (h.alloc (.cells #[.int .i64 k, .int .i64 n, .string s] 38))
  have hk := Lib.hid (Bk.new w 38 #[.int .i64 k, .int .i64 n, .string s])
  have HB := Lib.hid (And.intro (below_low (w := w) (.cells #[.int .i64 k, .int .i64 n, .string s] 38) (Nat.le_of_lt hlt)) ((Fw.refl b w).alloc (.cells #[.int .i64 k, .int .i64 n, .string s] 38)))
  obtain ⟨k0, k1, k2⟩ := Bk3 hk.out
  have hk0 : k = 3 := hkk
  subst hk0
  have hev : errV ⟨3, n, s⟩ = 0 := he
  have HV : Hid (∀ w, Calls Tryz.prog 225 #[.agg #[.int .i64 3, .int .i64 n, .string s]] w fun e w' => e = .returned (.int .i64 0) /\ Below w.heap.size w w') := Lib.hid (fun w => by have V1 := validate225 ⟨3, n, s⟩ w hs; rw [hev] at V1; exact V1)
  have hnz : n ≠ 0 := hn
  have hok := ok_of_err hev
  have hn1 : 1 <= n := by simp [okV] at hok; omega
  have hn2 : n <= 3652059 := by simp [okV] at hok; omega
  have HC : Hid (cstTk ⟨3, n, s⟩ = [⟨3, bytesOf (stampL n)⟩] /\ (bd || !constB ⟨3, n, s⟩) = bd) := Lib.hid (by
    constructor
    · unfold cstTk; rw [hev]; simp [hnz]
    · simp [okV] at hok; simp [constB, hok])
  have HST := Lib.hid (fun w => stamp228 n w hn1 hn2)
  have hsz : (bytesOf (stampL n)).size = 8 := by
    obtain ⟨h1, h2, h3⟩ := stampL_len hn1 hn2
    rw [bytesOf_size]; unfold stampL; rw [List.length_append, List.length_append, h1, h2, h3]
  clear hok
  generalize bytesOf (stampL n) = sx at *
  have hs8 : sx.size <= 9223372036854775807 := by omega
  have z1 : (sx.extract 0 4).size = 4 := by rw [ByteArray.size_extract]; omega
  have z2 : (sx.extract 4 6).size = 2 := by rw [ByteArray.size_extract]; omega
  have z3 : (sx.extract 6 8).size = 2 := by rw [ByteArray.size_extract]; omega
  have y0 : (⟨#[123, 94]⟩ : ByteArray).size = 2 := rfl
  have y1 : (⟨#[45]⟩ : ByteArray).size = 1 := rfl
  have y2 : (⟨#[125]⟩ : ByteArray).size = 1 := rfl
  have A1 : ∀ w : World, (Op.stringOp .add ((⟨#[123, 94]⟩ : ByteArray)) (sx.extract 0 4)).run Tryz.prog w = .ok (.string ((⟨#[123, 94]⟩ : ByteArray) ++ sx.extract 0 4)) w := fun w => run_string_add_sum w _ _ (by omega)
  have S1 : ((⟨#[123, 94]⟩ : ByteArray) ++ sx.extract 0 4).size = ((⟨#[123, 94]⟩ : ByteArray)).size + (sx.extract 0 4).size := ByteArray.size_append
  have A2 : ∀ w : World, (Op.stringOp .add ((⟨#[123, 94]⟩ : ByteArray) ++ sx.extract 0 4) ((⟨#[45]⟩ : ByteArray))).run Tryz.prog w = .ok (.string ((⟨#[123, 94]⟩ : ByteArray) ++ sx.extract 0 4 ++ (⟨#[45]⟩ : ByteArray))) w := fun w => run_string_add_sum w _ _ (by omega)
  have S2 : ((⟨#[123, 94]⟩ : ByteArray) ++ sx.extract 0 4 ++ (⟨#[45]⟩ : ByteArray)).size = ((⟨#[123, 94]⟩ : ByteArray) ++ sx.extract 0 4).size + ((⟨#[45]⟩ : ByteArray)).size := ByteArray.size_append
  have A3 : ∀ w : World, (Op.stringOp .add ((⟨#[123, 94]⟩ : ByteArray) ++ sx.extract 0 4 ++ (⟨#[45]⟩ : ByteArray)) (sx.extract 4 6)).run Tryz.prog w = .ok (.string ((⟨#[123, 94]⟩ : ByteArray) ++ sx.extract 0 4 ++ (⟨#[45]⟩ : ByteArray) ++ sx.extract 4 6)) w := fun w => run_string_add_sum w _ _ (by omega)
  have S3 : ((⟨#[123, 94]⟩ : ByteArray) ++ sx.extract 0 4 ++ (⟨#[45]⟩ : ByteArray) ++ sx.extract 4 6).size = ((⟨#[123, 94]⟩ : ByteArray) ++ sx.extract 0 4 ++ (⟨#[45]⟩ : ByteArray)).size + (sx.extract 4 6).size := ByteArray.size_append
  have A4 : ∀ w : World, (Op.stringOp .add ((⟨#[123, 94]⟩ : ByteArray) ++ sx.extract 0 4 ++ (⟨#[45]⟩ : ByteArray) ++ sx.extract 4 6) ((⟨#[45]⟩ : ByteArray))).run Tryz.prog w = .ok (.string ((⟨#[123, 94]⟩ : ByteArray) ++ sx.extract 0 4 ++ (⟨#[45]⟩ : ByteArray) ++ sx.extract 4 6 ++ (⟨#[45]⟩ : ByteArray))) w := fun w => run_string_add_sum w _ _ (by omega)
  have S4 : ((⟨#[123, 94]⟩ : ByteArray) ++ sx.extract 0 4 ++ (⟨#[45]⟩ : ByteArray) ++ sx.extract 4 6 ++ (⟨#[45]⟩ : ByteArray)).size = ((⟨#[123, 94]⟩ : ByteArray) ++ sx.extract 0 4 ++ (⟨#[45]⟩ : ByteArray) ++ sx.extract 4 6).size + ((⟨#[45]⟩ : ByteArray)).size := ByteArray.size_append
  have A5 : ∀ w : World, (Op.stringOp .add ((⟨#[123, 94]⟩ : ByteArray) ++ sx.extract 0 4 ++ (⟨#[45]⟩ : ByteArray) ++ sx.extract 4 6 ++ (⟨#[45]⟩ : ByteArray)) (sx.extract 6 8)).run Tryz.prog w = .ok (.string ((⟨#[123, 94]⟩ : ByteArray) ++ sx.extract 0 4 ++ (⟨#[45]⟩ : ByteArray) ++ sx.extract 4 6 ++ (⟨#[45]⟩ : ByteArray) ++ sx.extract 6 8)) w := fun w => run_string_add_sum w _ _ (by omega)
  have S5 : ((⟨#[123, 94]⟩ : ByteArray) ++ sx.extract 0 4 ++ (⟨#[45]⟩ : ByteArray) ++ sx.extract 4 6 ++ (⟨#[45]⟩ : ByteArray) ++ sx.extract 6 8).size = ((⟨#[123, 94]⟩ : ByteArray) ++ sx.extract 0 4 ++ (⟨#[45]⟩ : ByteArray) ++ sx.extract 4 6 ++ (⟨#[45]⟩ : ByteArray)).size + (sx.extract 6 8).size := ByteArray.size_append
  have A6 : ∀ w : World, (Op.stringOp .add ((⟨#[123, 94]⟩ : ByteArray) ++ sx.extract 0 4 ++ (⟨#[45]⟩ : ByteArray) ++ sx.extract 4 6 ++ (⟨#[45]⟩ : ByteArray) ++ sx.extract 6 8) ((⟨#[125]⟩ : ByteArray))).run Tryz.prog w = .ok (.string ((⟨#[123, 94]⟩ : ByteArray) ++ sx.extract 0 4 ++ (⟨#[45]⟩ : ByteArray) ++ sx.extract 4 6 ++ (⟨#[45]⟩ : ByteArray) ++ sx.extract 6 8 ++ (⟨#[125]⟩ : ByteArray))) w := fun w => run_string_add_sum w _ _ (by omega)
  have S6 : ((⟨#[123, 94]⟩ : ByteArray) ++ sx.extract 0 4 ++ (⟨#[45]⟩ : ByteArray) ++ sx.extract 4 6 ++ (⟨#[45]⟩ : ByteArray) ++ sx.extract 6 8 ++ (⟨#[125]⟩ : ByteArray)).size = ((⟨#[123, 94]⟩ : ByteArray) ++ sx.extract 0 4 ++ (⟨#[45]⟩ : ByteArray) ++ sx.extract 4 6 ++ (⟨#[45]⟩ : ByteArray) ++ sx.extract 6 8).size + ((⟨#[125]⟩ : ByteArray)).size := ByteArray.size_append
  have HZ : Hid (((⟨#[123, 94]⟩ : ByteArray) ++ sx.extract 0 4 ++ (⟨#[45]⟩ : ByteArray) ++ sx.extract 4 6 ++ (⟨#[45]⟩ : ByteArray) ++ sx.extract 6 8 ++ (⟨#[125]⟩ : ByteArray)).size + 1 <= 2100) := Lib.hid (by omega)
  clear S1 S2 S3 S4 S5 S6 y0 y1 y2
  go_enter Tryz.func143, Tryz.ntmps143
  go_wp2_with (first
    | (go_at_call 225; refine (HV.out _).mono ?_; rintro e w1 ⟨rfl, hb1⟩; have hk2 := Lib.hid (hk.out.keep hb1); have HB2 := Lib.hid (And.intro (HB.out.1.trans (hb1.mono (Nat.le_of_lt hw.out.lt))) (HB.out.2.trans (Fw.of_below hb1))); have hw2 := Lib.hid (hw.out.keep hb1); clear k0 k1 k2 hk HB hw hb1; have hk := hk2; have HB := HB2; have hw := hw2; clear hk2 HB2 hw2; obtain ⟨k0, k1, k2⟩ := Bk3 hk.out)
    | (go_at_call 228; refine (HST.out _).mono ?_; rintro e w1 ⟨rfl, hb1⟩; have hk2 := Lib.hid (hk.out.keep hb1); have HB2 := Lib.hid (And.intro (HB.out.1.trans (hb1.mono (Nat.le_of_lt hw.out.lt))) (HB.out.2.trans (Fw.of_below hb1))); have hw2 := Lib.hid (hw.out.keep hb1); clear k0 k1 k2 hk HB hw hb1; have hk := hk2; have HB := HB2; have hw := hw2; clear hk2 HB2 hw2; obtain ⟨k0, k1, k2⟩ := Bk3 hk.out))
  have hwd := Lib.hid hw.out.drew
  go_region_with (first
    | (go_at_call 227; (refine (put227 b _ 2100 _ _ 3 sx (((((⟨#[123, 94]⟩ : ByteArray) ++ sx.extract 0 4 ++ (⟨#[45]⟩ : ByteArray)) ++ sx.extract 4 6 ++ (⟨#[45]⟩ : ByteArray)) ++ sx.extract 6 8) ++ (⟨#[125]⟩ : ByteArray)) _ hwd.out HZ.out (by omega)).mono ?_); rintro e w2 ⟨rfl, hw2, hb2⟩))
  all_goals
    (try simp only [Exit.inBlock, Exit.then])
    go_end0
    refine ⟨rfl, ?_, HB.out.1.drew.trans hb2.1, HB.out.2.drew.trans hb2.2⟩
    rw [HC.out.1, HC.out.2]
    exact hw2
theorem val143_x (v : Vl) (b m : Nat) (t : List Tk) (bd : Bool) (w : World) (hs : v.s.size <= mx) (h : WrAt b m t bd w) (hm : m + 2100 <= bigM) (he : errV v = 0) (h0 : v.k ≠ 0) (h1 : v.k ≠ 1) (h2 : v.k ≠ 2) (h3 : v.k ≠ 3) (h4 : v.k ≠ 4) :
    Calls Tryz.prog 143 #[wp' b, v.v] w (WS b (m + 2100) (t ++ cstTk v) (bd || !constB v) w) := by
  exfalso
  have := ok_of_err he
  unfold okV at this
  rw [if_neg h0, if_neg h1, if_neg h2, if_neg h3] at this
  simp [h4] at this
theorem value143 (mixed : Tryz.prog.follows .mixedOrders = true) : ValW := by
  intro v b m t bd w hs h hm
  by_cases he : errV v = 0
  · by_cases h0 : v.k = 0
    · exact val143_0 v b m t bd w hs h hm he h0
    by_cases h1 : v.k = 1
    · have hok := ok_of_err he
      unfold okV at hok
      rw [if_neg h0, if_pos h1] at hok
      simp only [Bool.and_eq_true, Bool.or_eq_true, decide_eq_true_eq] at hok
      rcases hok.1 with hn | hn
      · exact val143_1a v b m t bd w hs h hm he h1 hn
      · exact val143_1b v b m t bd w hs h hm he h1 hn
    by_cases h2 : v.k = 2
    · by_cases hneg : v.n < 0
      · exact val143_2a v b m t bd w hs h hm he h2 hneg
      · by_cases hbig : 15 < (bytesOf (wrI v.n)).size
        · exact val143_2b v b m t bd w hs h hm he h2 hneg hbig
        · exact val143_2c v b m t bd w hs h hm he h2 hneg hbig
    by_cases h3 : v.k = 3
    · by_cases hn : v.n = 0
      · exact val143_3a v b m t bd w hs h hm he h3 hn
      · exact val143_3b v b m t bd w hs h hm he mixed h3 hn
    by_cases h4 : v.k = 4
    · exact val143_4 v b m t bd w hs h hm he mixed h4
    exact val143_x v b m t bd w hs h hm he h0 h1 h2 h3 h4
  · exact val143_err v b m t bd w hs h hm he
theorem expr79_all (mixed : Tryz.prog.follows .mixedOrders = true) (n : Nat) : ExprW n := expr79 (value143 mixed) n
end Go.Proofs.YtdmepghoffhphaaGreatDoor
