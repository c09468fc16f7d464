/- PROVED: contracts of the functions that CmdScopes reaches, and what an expression is that is written and read again (part CvE). CONDITIONS: none. -/
import Derived.Test.YtdmepghoffhphaaGreatDoorCvD
set_option linter.unusedSimpArgs false
set_option linter.unusedVariables false
set_option linter.unnecessarySimpa false
set_option maxHeartbeats 8000000
set_option maxRecDepth 100000
namespace Go.Proofs.YtdmepghoffhphaaGreatDoor
open Go Go.RowKit Go.Lib
def maxT : Nat := 10000000000
def TksAt (r : Nat) (w : World) (v : Value) (ts : List Tk) : Prop :=
  ts.length <= maxT /\ (∀ t ∈ ts, t.t.size <= mx) /\ ∃ a c, v = .slice a ts.length c /\ (ts = [] \/ ∃ g, a = some ⟨g, 0, none⟩ /\ g < r /\
    ∀ j (h : j < ts.length), w.cell? ⟨g, j * 3, none⟩ = some (.int .i64 ts[j].k) /\ w.cell? ⟨g, j * 3 + 1, none⟩ = some (.int .i64 0) /\ w.cell? ⟨g, j * 3 + 2, none⟩ = some (.string ts[j].t))
theorem TksAt.keep {r : Nat} {w w' : World} {v : Value} {ts : List Tk} (h : TksAt r w v ts) (hc : Kc (· ≠ r) w w') : TksAt r w' v ts := by
  obtain ⟨h1, h2, a, c, rfl, h3⟩ := h
  refine ⟨h1, h2, a, c, rfl, h3.imp id ?_⟩
  rintro ⟨g, rfl, hg, h4⟩
  refine ⟨g, rfl, hg, fun j hj => ?_⟩
  obtain ⟨a1, a2, a3⟩ := h4 j hj
  have hb := World.block_lt_of_cell? w _ a1
  have hg' := Nat.ne_of_lt hg
  exact ⟨by rw [hc g hg' hb]; exact a1, by rw [hc g hg' hb]; exact a2, by rw [hc g hg' hb]; exact a3⟩
theorem TksAt.get {r : Nat} {w : World} {a c} {ts : List Tk} (h : TksAt r w (.slice a ts.length c) ts) {k : Nat} (hk : k < ts.length) :
    ∃ g, a = some ⟨g, 0, none⟩ /\ g < w.heap.size /\ g ≠ r /\ w.cell? ⟨g, k * 3, none⟩ = some (.int .i64 ts[k].k) /\ w.cell? ⟨g, k * 3 + 1, none⟩ = some (.int .i64 0) /\ w.cell? ⟨g, k * 3 + 2, none⟩ = some (.string ts[k].t) := by
  obtain ⟨h1, h2, a', c', e, h3⟩ := h
  cases e
  rcases h3 with rfl | ⟨g, rfl, hg, h4⟩
  · simp at hk
  · obtain ⟨a1, a2, a3⟩ := h4 k hk
    exact ⟨g, rfl, World.block_lt_of_cell? w _ a1, Nat.ne_of_lt hg, a1, a2, a3⟩
theorem TksAt.keepLow {r : Nat} {w w' : World} {v : Value} {ts : List Tk} (h : TksAt r w v ts) (hc : Kc (· < r) w w') : TksAt r w' v ts := by
  obtain ⟨h1, h2, a, c, rfl, h3⟩ := h
  refine ⟨h1, h2, a, c, rfl, h3.imp id ?_⟩
  rintro ⟨g, rfl, hg, h4⟩
  refine ⟨g, rfl, hg, fun j hj => ?_⟩
  obtain ⟨a1, a2, a3⟩ := h4 j hj
  have hb := World.block_lt_of_cell? w _ a1
  exact ⟨by rw [hc g hg hb]; exact a1, by rw [hc g hg hb]; exact a2, by rw [hc g hg hb]; exact a3⟩
def RdAt (r : Nat) (ts : List Tk) (s : St) (w : World) : Prop :=
  ∃ a lv, a <= ts.length /\ s.1 = ts.drop a /\ Bk w r 146 #[lv, .int .i64 a, .bool s.2, .slice none 0 0] /\ TksAt r w lv ts
theorem RdAt.lt {r ts s w} (h : RdAt r ts s w) : r < w.heap.size := by obtain ⟨_, _, _, _, h, _⟩ := h; exact h.lt
theorem RdAt.keep {r ts s} {w w' : World} (h : RdAt r ts s w) (hb : Below w.heap.size w w') : RdAt r ts s w' := by
  obtain ⟨a, lv, h1, h2, h3, h4⟩ := h
  exact ⟨a, lv, h1, h2, h3.keep hb, h4.keep (.of_below hb)⟩
theorem RdAt.alloc {r ts s} {w : World} (h : RdAt r ts s w) (o : Obj) : RdAt r ts s (w.alloc o) := h.keep (below_a o)
theorem RdAt.drew {r ts s} {w : World} (h : RdAt r ts s w) : RdAt r ts s w.drew := h
abbrev rp (r : Nat) : Value := .pointer (some ⟨r, 0, none⟩)
theorem Bk4 {w : World} {g T} {o0 o1 o2 o3 : Value} (h : Bk w g T #[o0, o1, o2, o3]) :
    w.cell? ⟨g, 0, none⟩ = some o0 /\ w.cell? ⟨g, 1, none⟩ = some o1 /\ w.cell? ⟨g, 2, none⟩ = some o2 /\ w.cell? ⟨g, 3, none⟩ = some o3 := by
  simp only [h.cell]; exact ⟨rfl, rfl, rfl, rfl⟩
theorem tok_drop {ts : List Tk} {a k : Nat} {s : St} (h : s.1 = ts.drop a) (hk : a + k < ts.length) : tok s k = ts[a + k] := by
  unfold tok; rw [h]; simp [List.getD, hk]
theorem tok_none {ts : List Tk} {a k : Nat} {s : St} (h : s.1 = ts.drop a) (hk : ¬ a + k < ts.length) : tok s k = ⟨-1, ByteArray.empty⟩ := by
  unfold tok; rw [h]
  simp only [List.getD, List.getElem?_drop]
  rw [List.getElem?_eq_none (by omega)]; rfl
def tkV (t : Tk) : Value := .agg #[.int .i64 t.k, .int .i64 0, .string t.t]
theorem token134 (mixed : Tryz.prog.follows .mixedOrders = true) (r : Nat) (ts : List Tk) (s : St) (k : Nat) (w : World) (hk : k <= 1000) (h : RdAt r ts s w) :
    Calls Tryz.prog 134 #[rp r, .int .i64 k] w fun e w' => e = .returned (tkV (tok s k)) /\ Below w.heap.size w w' := by
  obtain ⟨a, lv, h1, h2, h3, h4⟩ := h
  have hmax := h4.1
  unfold maxT at hmax
  obtain ⟨la, lc, rfl⟩ : ∃ la lc, lv = .slice la ts.length lc := by obtain ⟨_, _, la, lc, e, _⟩ := h4; exact ⟨la, lc, e⟩
  have hll : ts.length <= 9223372036854775807 := by omega
  have hrl := h3.lt
  have HK := Lib.hid h3
  obtain ⟨c0, c1, c2, c3⟩ := Bk4 h3
  by_cases hlt : a + k < ts.length
  · obtain ⟨g, rfl, hg1, hg2, d0, d1, d2⟩ := h4.get hlt
    have HT := Lib.hid (tok_drop h2 hlt)
    clear h3 h4
    generalize ts[a + k] = t at *
    obtain ⟨tk, tt⟩ := t
    have hai : (a : Int) + (k : Int) < (ts.length : Int) := by omega
    have haw : IntKind.i64.wrap ((a : Int) + k) = ((a + k : Nat) : Int) := by rw [IntKind.wrap_i64]; omega
    go_enter Tryz.func134, Tryz.ntmps134
    go_wp2_with fail
    go_region_o
    go_wp2_with fail
    go_region_o
    go_wp2
    go_returns
    refine ⟨by rw [HT.out]; rfl, ?_⟩
    repeat' first | exact Below.refl _ _ | refine Below.drew ?_ | refine Below.alloc ?_ (by simp) _ | refine Below.setCell ?_ (by simp) _
  · have HT := Lib.hid (tok_none h2 hlt)
    clear h3 h4
    go_enter Tryz.func134, Tryz.ntmps134
    go_wp2_with fail
    go_region_o
    go_wp2
    go_returns
    refine ⟨by rw [HT.out]; rfl, ?_⟩
    repeat' first | exact Below.refl _ _ | refine Below.drew ?_ | refine Below.alloc ?_ (by simp) _ | refine Below.setCell ?_ (by simp) _
theorem TksAt.set {r : Nat} {w : World} {v : Value} {ts : List Tk} (h : TksAt r w v ts) (i : Nat) (u : Value) : TksAt r (w.setCell ⟨r, i, none⟩ u) v ts := by
  apply h.keep
  exact Kc.of_but ((But.refl r w).set (.inl rfl) u)
theorem RdAt.parts {r ts s} {w : World} (h : RdAt r ts s w) : ∃ a, a <= ts.length /\ ts.length <= maxT /\ s.1 = ts.drop a /\ w.cell? ⟨r, 1, none⟩ = some (.int .i64 a) /\ w.frozen? ⟨r, 1, none⟩ = false /\ w.cell? ⟨r, 2, none⟩ = some (.bool s.2) /\ w.frozen? ⟨r, 2, none⟩ = false /\
    w.cell? ⟨r, 3, none⟩ = some (.slice none 0 0) /\ RdAt r ts (s.1, true) (w.setCell ⟨r, 2, none⟩ (.bool true)) /\ (a < ts.length -> RdAt r ts (s.1.drop 1, s.2) (w.setCell ⟨r, 1, none⟩ (.int .i64 ((a : Int) + 1)))) := by
  obtain ⟨a, lv, h1, h2, h3, h4⟩ := h
  obtain ⟨c0, c1, c2, c3⟩ := Bk4 h3
  refine ⟨a, h1, h4.1, h2, c1, h3.frozen 1, c2, h3.frozen 2, c3, ?_, ?_⟩
  · exact ⟨a, lv, h1, h2, h3.set1 2 _, h4.set 2 _⟩
  · intro hlt
    refine ⟨a + 1, lv, by omega, ?_, h3.set1 1 _, h4.set 1 _⟩
    show s.1.drop 1 = _
    rw [h2, List.drop_drop]
theorem but_set (r : Nat) (w : World) (i : Nat) (u : Value) : But r w (w.setCell ⟨r, i, none⟩ u) := (But.refl r w).set (.inl rfl) u
theorem tok_lt {ts : List Tk} {s : St} {a : Nat} (h : s.1 = List.drop a ts) {k : Nat} (hk : (tok s k).k ≠ -1) : a + k < ts.length := by
  rcases Nat.lt_or_ge (a + k) ts.length with hh | hh
  · exact hh
  · exfalso; apply hk; rw [tok_none h (by omega)]
def RS (r : Nat) (ts : List Tk) (v : Value) (s' : St) (w : World) (e : Ending) (w' : World) : Prop := e = .returned v /\ RdAt r ts s' w' /\ But r w w'
def unitV : Value := .tuple #[]
theorem isSign218 (mixed : Tryz.prog.follows .mixedOrders = true) (r : Nat) (ts : List Tk) (s : St) (k : Nat) (c : ByteArray) (w : World) (hk : k <= 1000) (h : RdAt r ts s w) :
    Calls Tryz.prog 218 #[rp r, .int .i64 k, .string c] w fun e w' => e = .returned (.bool (isSg s k c)) /\ Below w.heap.size w w' := by
  have T := Lib.hid (token134 mixed r ts s k w hk h)
  have HI : Hid (isSg s k c = (decide ((tok s k).k = 4) && decide ((tok s k).t = c))) := Lib.hid rfl
  unfold tkV at T
  generalize tok s k = t at *
  obtain ⟨tk, tt⟩ := t
  have HI : Hid (isSg s k c = (decide (tk = 4) && decide (tt = c))) := HI
  clear h
  go_enter Tryz.func218, Tryz.ntmps218
  go_wp2_with (first | (go_at_call 134; refine T.out.mono ?_; clear T; rintro e w1 ⟨rfl, hb1⟩))
  all_goals
    go_ret
    refine ⟨ret_bool ?_, ?_⟩
    · rw [HI.out]
      first
        | (simp_all [bytes_beq]; done)
        | (simp_all [bytes_beq, eq_comm]; done)
        | trace_state
    · repeat' first | exact hb1 | refine Below.drew ?_ | refine Below.alloc ?_ hb1.size _
theorem wrong135 (r : Nat) (ts : List Tk) (s : St) (w : World) (h : RdAt r ts s w) :
    Calls Tryz.prog 135 #[rp r] w (RS r ts unitV (s.1, true) w) := by
  obtain ⟨a, -, -, -, -, -, c2, f2, -, H2, -⟩ := h.parts
  have H2 := Lib.hid H2
  clear h
  go_enter Tryz.func135, Tryz.ntmps135
  go_wp2
  go_end0
  exact ⟨rfl, H2.out, but_set _ _ _ _⟩
theorem next608 (r : Nat) (ts : List Tk) (s : St) (w : World) (h : RdAt r ts s w) (hk : (tok s 0).k ≠ -1) :
    Calls Tryz.prog 608 #[rp r] w (RS r ts unitV (next s) w) := by
  obtain ⟨a, ha, hm, hs, c1, f1, c2, f2, -, -, H1⟩ := h.parts
  have hlt := tok_lt hs hk
  unfold maxT at hm
  have H1 := Lib.hid (H1 (by omega))
  have H := Lib.hid h
  have HN : Hid (next s = if s.2 then s else (s.1.drop 1, s.2)) := Lib.hid rfl
  clear h hs
  cases hf : s.2 with
  | true =>
    rw [hf] at c2
    go_enter Tryz.func608, Tryz.ntmps608
    go_wp2
    go_end0
    exact ⟨rfl, by rw [HN.out, hf]; exact H.out, But.refl _ _⟩
  | false =>
    rw [hf] at c2
    go_enter Tryz.func608, Tryz.ntmps608
    go_wp2
    go_end0
    exact ⟨rfl, by rw [HN.out, hf, if_neg (by decide)]; have := H1.out; rw [hf] at this; exact this, but_set _ _ _ _⟩
theorem take132 (mixed : Tryz.prog.follows .mixedOrders = true) (r : Nat) (ts : List Tk) (s : St) (c : ByteArray) (w : World) (h : RdAt r ts s w) :
    Calls Tryz.prog 132 #[rp r, .string c] w (RS r ts (.bool (take c s).1) (take c s).2 w) := by
  have I := Lib.hid (isSign218 mixed r ts s 0 c w (by decide) h)
  obtain ⟨a, ha, hm, hs, c1, f1, c2, f2, -, -, H1⟩ := h.parts
  unfold maxT at hm
  have H := Lib.hid h
  by_cases hf : s.2 = true
  · have HN : Hid (take c s = (false, s)) := Lib.hid (by unfold take; rw [hf]; simp)
    rw [hf] at c2
    clear h hs H1
    go_enter Tryz.func132, Tryz.ntmps132
    go_wp2_with (first | (go_at_call 218; refine I.out.mono ?_; clear I; rintro e w1 ⟨rfl, hb1⟩))
    go_ret
    rw [HN.out]
    exact ⟨rfl, H.out, But.refl _ _⟩
  · have hf : s.2 = false := by simpa using hf
    rw [hf] at c2
    cases hi : isSg s 0 c with
    | false =>
      have HN : Hid (take c s = (false, s)) := Lib.hid (by unfold take; rw [hf, hi]; simp)
      rw [hi] at I
      clear h hs H1
      go_enter Tryz.func132, Tryz.ntmps132
      go_wp2_with (first | (go_at_call 218; refine I.out.mono ?_; clear I; rintro e w1 ⟨rfl, hb1⟩))
      go_ret
      rw [HN.out]
      exact ⟨rfl, H.out.keep hb1, But.of_below hb1⟩
    | true =>
      have HN : Hid (take c s = (true, (s.1.drop 1, s.2))) := Lib.hid (by unfold take; rw [hf, hi]; simp)
      have hlt := tok_lt hs (k := 0) (by
        have := hi; unfold isSg at this; simp at this; rw [this.1]; decide)
      rw [hi] at I
      clear h hs H1 c1 c2 f1 f2
      go_enter Tryz.func132, Tryz.ntmps132
      obtain ⟨a, ha, hm, hs, c1, f1, c2, f2, -, -, H1⟩ := H.out.parts
      rw [hf] at c2
      clear H1 c1 f1 hs
      go_wp2_with (first | (go_at_call 218; refine I.out.mono ?_; clear I; rintro e w1 ⟨rfl, hb1⟩; obtain ⟨a, ha, hm, hs, c1, f1, c2, f2, -, -, H1⟩ := (H.out.keep hb1).parts; have hlt := tok_lt hs (k := 0) (by have := hi; unfold isSg at this; simp at this; rw [this.1]; decide); unfold maxT at hm; have H1 := Lib.hid (H1 (by omega)); clear hs))
      go_ret
      rw [HN.out]
      exact ⟨rfl, H1.out, (But.of_below hb1).trans (but_set _ _ _ _)⟩
theorem RdAt.partsA {r ts s} {w : World} (h : RdAt r ts s w) (o : Obj) : ∃ a, a <= ts.length /\ ts.length <= maxT /\ s.1 = ts.drop a /\ (w.alloc o).cell? ⟨r, 1, none⟩ = some (.int .i64 a) /\ (w.alloc o).frozen? ⟨r, 1, none⟩ = false /\ (w.alloc o).cell? ⟨r, 2, none⟩ = some (.bool s.2) /\ (w.alloc o).frozen? ⟨r, 2, none⟩ = false /\
    (a < ts.length -> RdAt r ts (s.1.drop 1, s.2) (w.setCell ⟨r, 1, none⟩ (.int .i64 ((a : Int) + 1)))) := by
  obtain ⟨a, h1, h2, h3, c1, f1, c2, f2, -, -, H⟩ := h.parts
  have hb := below_a (w := w) o
  refine ⟨a, h1, h2, h3, ?_, ?_, ?_, ?_, H⟩
  · rw [hb.cell (p := ⟨r, 1, none⟩) h.lt]; exact c1
  · rw [hb.frozen (p := ⟨r, 1, none⟩) h.lt]; exact f1
  · rw [hb.cell (p := ⟨r, 2, none⟩) h.lt]; exact c2
  · rw [hb.frozen (p := ⟨r, 2, none⟩) h.lt]; exact f2
theorem want573 (mixed : Tryz.prog.follows .mixedOrders = true) (r : Nat) (ts : List Tk) (s : St) (c : ByteArray) (w : World) (h : RdAt r ts s w) :
    Calls Tryz.prog 573 #[rp r, .string c] w (RS r ts unitV (want c s) w) := by
  have T := Lib.hid (take132 mixed r ts s c w h)
  have HW : Hid (want c s = if (take c s).1 then (take c s).2 else (s.1, true)) := Lib.hid rfl
  have HT : Hid ((take c s).1 = false -> (take c s).2 = s) := Lib.hid (by unfold take; split <;> simp)
  clear h
  cases ht : (take c s).1 with
  | true =>
    rw [ht] at T HW
    go_enter Tryz.func573, Tryz.ntmps573
    go_wp2_with (first | (go_at_call 132; refine T.out.mono ?_; clear T; rintro e w1 ⟨rfl, h1, hb1⟩))
    go_end0
    rw [HW.out, if_pos (by decide)]
    exact ⟨rfl, h1, hb1⟩
  | false =>
    have hs := HT.out ht
    rw [ht, hs] at T
    rw [ht] at HW
    clear hs
    go_enter Tryz.func573, Tryz.ntmps573
    go_wp2_with (first
      | (go_at_call 132; refine T.out.mono ?_; clear T; rintro e w1 ⟨rfl, h1, hb1⟩)
      | (go_at_call 135; refine (wrong135 r ts s _ h1).mono ?_; rintro e w2 ⟨rfl, h2, hb2⟩))
    go_end0
    rw [HW.out, if_neg (by decide)]
    exact ⟨rfl, h2, hb1.trans hb2⟩
theorem name615 (mixed : Tryz.prog.follows .mixedOrders = true) (r : Nat) (ts : List Tk) (s : St) (w : World) (h : RdAt r ts s w) :
    Calls Tryz.prog 615 #[rp r] w (RS r ts (.string (rname s).1) (rname s).2 w) := by
  have T := Lib.hid (token134 mixed r ts s 0 w (by decide) h)
  have HRno : Hid ((s.2 = true \/ (tok s 0).k ≠ 0 \/ 10 < (tok s 0).t.size) -> rname s = (ByteArray.empty, (s.1, true))) := Lib.hid (by
    intro h; unfold rname; rw [if_pos]
    simp only [Bool.or_eq_true, bne_iff_ne, decide_eq_true_eq]
    rcases h with h | h | h
    · exact .inl (.inl h)
    · exact .inl (.inr h)
    · exact .inr h)
  have HRyes : Hid (s.2 = false -> (tok s 0).k = 0 -> ¬ 10 < (tok s 0).t.size -> rname s = ((tok s 0).t, (s.1.drop 1, s.2))) := Lib.hid (by
    intro h1 h2 h3; unfold rname; rw [if_neg]
    simp [h1, h2, h3])
  have HLT : Hid (∀ a, s.1 = ts.drop a -> (tok s 0).k = 0 -> a < ts.length) := Lib.hid (fun a hs hk => by have := tok_lt hs (k := 0) (by rw [hk]; decide); omega)
  have HSZ : Hid ((tok s 0).t.size <= 9223372036854775807) := Lib.hid (by
    obtain ⟨a, lv, h1, h2, h3, h4⟩ := h
    by_cases hlt : a + 0 < ts.length
    · rw [tok_drop h2 hlt]; exact h4.2.1 _ (List.getElem_mem hlt)
    · rw [tok_none h2 hlt]; decide)
  unfold tkV at T
  have H := Lib.hid h
  clear h
  generalize tok s 0 = t at *
  obtain ⟨tk, tt⟩ := t
  have hz := HSZ.out
  have hz : tt.size <= 9223372036854775807 := hz
  clear HSZ
  by_cases hf : s.2 = true
  · have HR := Lib.hid (HRno.out (.inl hf))
    go_enter Tryz.func615, Tryz.ntmps615
    go_wp2_with (first
      | (go_at_call 134; refine T.out.mono ?_; clear T; rintro e w1 ⟨rfl, hb1⟩; have H1 := Lib.hid (H.out.keep hb1); obtain ⟨a, ha, hm, hs, c1, f1, c2, f2, -, -, -⟩ := (H1.out.alloc (.cells #[.int .i64 tk, .int .i64 0, .string tt] 223)).parts; rw [hf] at c2; clear hs)
      | (go_at_call 135; refine (wrong135 r ts s _ (H1.out.alloc _)).mono ?_; rintro e w2 ⟨rfl, h2, hb2⟩))
    go_ret
    rw [HR.out]
    exact ⟨rfl, h2, ((But.of_below hb1).alloc _).trans hb2⟩
  have hf : s.2 = false := by simpa using hf
  by_cases hk : tk = 0
  · subst hk
    by_cases hbig : 10 < tt.size
    · have HR := Lib.hid (HRno.out (.inr (.inr hbig)))
      go_enter Tryz.func615, Tryz.ntmps615
      go_wp2_with (first
        | (go_at_call 134; refine T.out.mono ?_; clear T; rintro e w1 ⟨rfl, hb1⟩; have H1 := Lib.hid (H.out.keep hb1); obtain ⟨a, ha, hm, hs, c1, f1, c2, f2, -, -, -⟩ := (H1.out.alloc (.cells #[.int .i64 0, .int .i64 0, .string tt] 223)).parts; rw [hf] at c2; clear hs)
        | (go_at_call 135; refine (wrong135 r ts s _ (H1.out.alloc _)).mono ?_; rintro e w2 ⟨rfl, h2, hb2⟩))
      go_ret
      rw [HR.out]
      exact ⟨rfl, h2, ((But.of_below hb1).alloc _).trans hb2⟩
    · have HR : Hid (rname s = (tt, (s.1.drop 1, s.2))) := Lib.hid (HRyes.out hf rfl hbig)
      go_enter Tryz.func615, Tryz.ntmps615
      go_wp2_with (first
        | (go_at_call 134; refine T.out.mono ?_; clear T; rintro e w1 ⟨rfl, hb1⟩; have H1 := Lib.hid (H.out.keep hb1); obtain ⟨a, ha, hm, hs, c1, f1, c2, f2, -, -, H3⟩ := (H1.out.alloc (.cells #[.int .i64 0, .int .i64 0, .string tt] 223)).parts; rw [hf] at c2; have hlt := HLT.out a hs rfl; unfold maxT at hm; have H3 := Lib.hid (H3 hlt); clear hs))
      go_ret
      rw [HR.out]
      exact ⟨rfl, H3.out, ((But.of_below hb1).alloc _).trans (but_set _ _ _ _)⟩
  · have HR := Lib.hid (HRno.out (.inr (.inl hk)))
    have hkb : (tk != 0) = true := by simp [hk]
    go_enter Tryz.func615, Tryz.ntmps615
    go_wp2_with (first
      | (go_at_call 134; refine T.out.mono ?_; clear T; rintro e w1 ⟨rfl, hb1⟩; have H1 := Lib.hid (H.out.keep hb1); obtain ⟨a, ha, hm, hs, c1, f1, c2, f2, -, -, -⟩ := (H1.out.alloc (.cells #[.int .i64 tk, .int .i64 0, .string tt] 223)).parts; rw [hf] at c2; clear hs)
      | (go_at_call 135; refine (wrong135 r ts s _ (H1.out.alloc _)).mono ?_; rintro e w2 ⟨rfl, h2, hb2⟩))
    go_ret
    rw [HR.out]
    exact ⟨rfl, h2, ((But.of_below hb1).alloc _).trans hb2⟩
theorem in638 (x : ByteArray) (w : World) :
    Calls Tryz.prog 638 #[.slice none 0 0, .string x] w fun e w' => e = .returned (.bool false) /\ w' = w := by
  go_enter Tryz.func638, Tryz.ntmps638
  go_wp2
  go_loopg [5] 0 (fun g s5 wr => s5 = .int .i64 0 /\ wr = w)
  case atStart => exact ⟨rfl, rfl⟩
  case round =>
    obtain ⟨rfl, rfl⟩ := hrel
    go_wp2
    go_ret
    exact ⟨rfl, rfl⟩
theorem variable629 (mixed : Tryz.prog.follows .mixedOrders = true) (r : Nat) (ts : List Tk) (s : St) (w : World) (h : RdAt r ts s w) :
    Calls Tryz.prog 629 #[rp r] w (RS r ts (.string (rname s).1) (rname s).2 w) := by
  have hd := h.drew
  have T := Lib.hid (token134 mixed r ts s 0 w.drew (by decide) hd)
  unfold tkV at T
  generalize tok s 0 = t at *
  obtain ⟨tk, tt⟩ := t
  obtain ⟨-, -, -, -, -, -, -, -, c3, -, -⟩ := h.parts
  have H := Lib.hid h
  have hrl := h.lt
  have hfld : ∀ w : World, (Instr.field 223 (.agg #[.int .i64 tk, .int .i64 0, .string tt]) 2).run Tryz.prog w = .ok (.string tt) w := fun w => by rfl
  clear h hd
  go_enter Tryz.func629, Tryz.ntmps629
  go_wp2_with fail
  go_region_with (first
    | (go_at_call 134; refine T.out.mono ?_; rintro e w1 ⟨rfl, hb1⟩; have c31 : w1.cell? ⟨r, 3, none⟩ = some (.slice none 0 0) := (by rw [hb1.cell (p := ⟨r, 3, none⟩) hrl]; exact c3))
    | (go_at_call 638; refine (in638 _ _).mono ?_; rintro e w2 ⟨rfl, rfl⟩))
  all_goals
    have HR1 := Lib.hid (H.out.drew.keep hb1)
    go_wp2_with (first | (go_at_call 615; refine (name615 mixed r ts s _ HR1.out).mono ?_; rintro e w3 ⟨rfl, h3, hb3⟩))
    go_ret
    exact ⟨rfl, h3, ((But.refl _ _).drew.trans (But.of_below hb1)).trans hb3⟩
def lit9 (l : List ByteArray) : Array Value := (l.map Value.string).toArray
theorem sign294 (mixed : Tryz.prog.follows .mixedOrders = true) (r : Nat) (ts : List Tk) (s : St) (l : List ByteArray) (v : Value) (w : World) (h : RdAt r ts s w) (hl : StrsAt (· ≠ r) w v l) :
    Calls Tryz.prog 294 #[rp r, v] w (RS r ts (.string ((sgn l s).1.getD ByteArray.empty)) (sgn l s).2 w) := by
  obtain ⟨a, c, rfl⟩ := hl.shape
  have hlen : l.length <= 9223372036854775807 := hl.1
  have HL := Lib.hid hl
  have H := Lib.hid h
  clear hl h
  go_enter Tryz.func294, Tryz.ntmps294
  go_wp2
  go_loopg [5] l.length (fun g s5 wr => ∃ k : Nat, k <= l.length /\ l.length - k <= g /\ s5 = .int .i64 k /\ sgn l s = sgn (l.drop k) s /\ RdAt r ts s wr /\ But r w wr)
  case atStart => exact ⟨0, Nat.zero_le _, by omega, rfl, rfl, H.out, But.refl _ _⟩
  case round =>
    obtain ⟨k, hk, hg, rfl, hs, hr, hb⟩ := hrel
    have HS := Lib.hid hs
    have HR := Lib.hid hr
    have HB := Lib.hid hb
    clear hs hr hb
    by_cases hlt : k < l.length
    · obtain ⟨b, o, rfl, hN, hbl, hc, hz⟩ := HL.out.elem hlt
      have hc0 := hc
      rw [<- HB.out.cell (p := ⟨b, o + k, none⟩) hbl hN] at hc
      have HD : Hid (sgn (l.drop k) s = if (take l[k] s).1 then (some l[k], (take l[k] s).2) else sgn (l.drop (k + 1)) s) := Lib.hid (by
        rw [List.drop_eq_getElem_cons hlt]; simp only [sgn])
      have HF : Hid ((take l[k] s).1 = false -> (take l[k] s).2 = s) := Lib.hid (by unfold take; split <;> simp)
      generalize l[k] = x at *
      have T := Lib.hid (take132 mixed r ts s x wr HR.out)
      cases ht : (take x s).1 with
      | true =>
        rw [ht] at T HD
        go_wp2_with (first | (go_at_call 132; refine T.out.mono ?_; clear T; rintro e w1 ⟨rfl, h1, hb1⟩; have hc1 := hc0; rw [<- (HB.out.trans hb1).cell (p := ⟨b, o + k, none⟩) hbl hN] at hc1))
        go_ret
        rw [HS.out, HD.out, if_pos (by decide)]
        exact ⟨rfl, h1, HB.out.trans hb1⟩
      | false =>
        have hss := HF.out ht
        rw [ht, hss] at T
        rw [ht] at HD
        clear hss
        go_wp2_with (first | (go_at_call 132; refine T.out.mono ?_; clear T; rintro e w1 ⟨rfl, h1, hb1⟩))
        go_roundg (l.length - (k + 1))
        case measure => omega
        case rel => exact ⟨k + 1, by omega, by omega, by go_num, by rw [HS.out, HD.out, if_neg (by decide)], h1, HB.out.trans hb1⟩
    · have hkl : k = l.length := by omega
      subst hkl
      go_wp2
      go_ret
      rw [HS.out, List.drop_length]
      exact ⟨rfl, HR.out, HB.out⟩
theorem ExAt.seven {N : Nat -> Prop} {w : World} {x : Ex} {u : Value} (h : ExAt N w x u) : ∃ c0 c1 c2 c3 c4 c5 c6, u = .agg #[c0, c1, c2, c3, c4, c5, c6] := by
  obtain ⟨op, s, v, p, l⟩ := x
  obtain ⟨pa, pc, la, lc, rfl, _⟩ := h.parts
  exact ⟨_, _, _, _, _, _, _, rfl⟩
theorem C7.of_bk {w : World} {g T cs} (h : Bk w g T cs) (o : Nat) {c0 c1 c2 c3 c4 c5 c6 : Value} (h0 : cs[o]? = some c0) (h1 : cs[o + 1]? = some c1) (h2 : cs[o + 2]? = some c2) (h3 : cs[o + 3]? = some c3) (h4 : cs[o + 4]? = some c4) (h5 : cs[o + 5]? = some c5) (h6 : cs[o + 6]? = some c6) :
    C7 w g o (.agg #[c0, c1, c2, c3, c4, c5, c6]) :=
  ⟨c0, c1, c2, c3, c4, c5, c6, rfl, by rw [h.cell]; exact h0, by rw [h.cell]; exact h1, by rw [h.cell]; exact h2, by rw [h.cell]; exact h3, by rw [h.cell]; exact h4, by rw [h.cell]; exact h5, by rw [h.cell]; exact h6⟩
theorem exs_one {N : Nat -> Prop} {w : World} {x : Ex} {g c : Nat} {T} {c0 c1 c2 c3 c4 c5 c6 : Value} (hx : ExAt N w x (.agg #[c0, c1, c2, c3, c4, c5, c6])) (hk : Bk w g T #[c0, c1, c2, c3, c4, c5, c6]) (hN : N g) :
    ExsAt N w [x] (.slice (some ⟨g, 0, none⟩) 1 c) :=
  ⟨by simp [mx], _, _, rfl, .inr ⟨g, 0, rfl, hN, ⟨⟨_, C7.of_bk hk 0 rfl rfl rfl rfl rfl rfl rfl, hx⟩, trivial⟩⟩⟩
theorem exs_two {N : Nat -> Prop} {w : World} {x y : Ex} {g c : Nat} {T} {c0 c1 c2 c3 c4 c5 c6 d0 d1 d2 d3 d4 d5 d6 : Value} (hx : ExAt N w x (.agg #[c0, c1, c2, c3, c4, c5, c6])) (hy : ExAt N w y (.agg #[d0, d1, d2, d3, d4, d5, d6]))
    (hk : Bk w g T #[c0, c1, c2, c3, c4, c5, c6, d0, d1, d2, d3, d4, d5, d6]) (hN : N g) :
    ExsAt N w [x, y] (.slice (some ⟨g, 0, none⟩) 2 c) :=
  ⟨by simp [mx], _, _, rfl, .inr ⟨g, 0, rfl, hN, ⟨⟨_, C7.of_bk hk 0 rfl rfl rfl rfl rfl rfl rfl, hx⟩, ⟨_, C7.of_bk hk 7 rfl rfl rfl rfl rfl rfl rfl, hy⟩, trivial⟩⟩⟩
theorem exs_nil (N : Nat -> Prop) (w : World) : ExsAt N w [] (.slice none 0 0) := ⟨by simp, none, 0, rfl, .inl rfl⟩
theorem strs_nil (N : Nat -> Prop) (w : World) : StrsAt N w (.slice none 0 0) [] := ⟨by simp, by simp, none, 0, rfl, .inl rfl⟩
theorem ex_mk {N : Nat -> Prop} {w : World} {op : Int} {s : ByteArray} {v : Vl} {p : List ByteArray} {l : List Ex} {pv lv : Value} (hs : s.size <= mx) (hv : v.s.size <= mx) (hp : StrsAt N w pv p) (hl : ExsAt N w l lv) :
    ExAt N w (.mk op s v p l) (.agg #[.int .i64 op, .string s, .int .i64 v.k, .int .i64 v.n, .string v.s, pv, lv]) := ExAt.iff.2 ⟨pv, lv, rfl, hs, hv, hp, hl⟩
theorem bin133 (N : Nat -> Prop) (s : ByteArray) (x y : Ex) (u v : Value) (w : World) (hs : s.size <= mx) (hx : ExAt N w x u) (hy : ExAt N w y v) (hN : ∀ b, w.heap.size <= b -> N b) :
    Calls Tryz.prog 133 #[.string s, u, v] w fun e w' => ∃ z, e = .returned z /\ ExAt N w' (.bin s x y) z /\ Below w.heap.size w w' := by
  obtain ⟨c0, c1, c2, c3, c4, c5, c6, rfl⟩ := hx.seven
  obtain ⟨d0, d1, d2, d3, d4, d5, d6, rfl⟩ := hy.seven
  have HX := Lib.hid hx
  have HY := Lib.hid hy
  clear hx hy
  go_enter Tryz.func133, Tryz.ntmps133
  go_wp2
  go_returns
  have hb4 := ((((Below.refl w.heap.size w).alloc (Nat.le_refl _) (.cells #[c0, c1, c2, c3, c4, c5, c6] 55)).alloc (by simp) (.cells #[d0, d1, d2, d3, d4, d5, d6] 55)).alloc (by simp; omega) (.cells #[.int .i64 5, .string s, .int .i64 0, .int .i64 0, .string ⟨#[]⟩, .slice none 0 0, .slice (some ⟨w.heap.size + 1 + 1 + 1, 0, none⟩) 2 2] 55)).alloc (by simp; omega) (.cells #[c0, c1, c2, c3, c4, c5, c6, d0, d1, d2, d3, d4, d5, d6] 55)
  have hk := Bk.new (((w.alloc (.cells #[c0, c1, c2, c3, c4, c5, c6] 55)).alloc (.cells #[d0, d1, d2, d3, d4, d5, d6] 55)).alloc (.cells #[.int .i64 5, .string s, .int .i64 0, .int .i64 0, .string ⟨#[]⟩, .slice none 0 0, .slice (some ⟨w.heap.size + 1 + 1 + 1, 0, none⟩) 2 2] 55)) 55 #[c0, c1, c2, c3, c4, c5, c6, d0, d1, d2, d3, d4, d5, d6]
  have e : (((w.alloc (.cells #[c0, c1, c2, c3, c4, c5, c6] 55)).alloc (.cells #[d0, d1, d2, d3, d4, d5, d6] 55)).alloc (.cells #[.int .i64 5, .string s, .int .i64 0, .int .i64 0, .string ⟨#[]⟩, .slice none 0 0, .slice (some ⟨w.heap.size + 1 + 1 + 1, 0, none⟩) 2 2] 55)).heap.size = w.heap.size + 1 + 1 + 1 := by simp
  rw [e] at hk
  exact ⟨_, rfl, ex_mk (v := vd0) hs (by decide) (strs_nil _ _) (exs_two (HX.out.below hb4) (HY.out.below hb4) hk (hN _ (by omega))), hb4⟩
theorem ExAt.form {N : Nat -> Prop} {w : World} {x : Ex} {u : Value} (h : ExAt N w x u) : ∃ o s k n t a m c b q d, u = .agg #[.int .i64 o, .string s, .int .i64 k, .int .i64 n, .string t, .slice a m c, .slice b q d] := by
  obtain ⟨op, s, v, p, l⟩ := x
  obtain ⟨pa, pc, la, lc, rfl, _⟩ := h.parts
  exact ⟨_, _, _, _, _, _, _, _, _, _, _, rfl⟩
def RE (fn : Nat) (p : Nat -> St -> Option (Ex × St)) (f : Nat) : Prop := ∀ (r : Nat) (ts : List Tk) (s : St) (y : Ex) (s' : St) (w : World), p f s = some (y, s') -> RdAt r ts s w ->
  Calls Tryz.prog fn #[rp r] w fun e w' => ∃ u, e = .returned u /\ ExAt (w.heap.size <= ·) w' y u /\ RdAt r ts s' w' /\ But r w w'
def z7 : Array Value := #[.int .i64 0, .string ⟨#[]⟩, .int .i64 0, .int .i64 0, .string ⟨#[]⟩, .slice none 0 0, .slice none 0 0]
theorem ex_keep {N : Nat -> Prop} {w w' : World} {x : Ex} {u : Value} {r : Nat} (h : ExAt N w x u) (hb : But r w w') (hr : ∀ b, N b -> b ≠ r) : ExAt N w' x u :=
  ExAt.keep (fun b hn hb' o => hb.cell (p := ⟨b, o, none⟩) hb' (hr b hn)) h
theorem ex_set {N : Nat -> Prop} {w : World} {x : Ex} {u : Value} {g : Nat} (h : ExAt N w x u) (i : Nat) (v : Value) (hr : ∀ b, N b -> b ≠ g) : ExAt N (w.setCell ⟨g, i, none⟩ v) x u :=
  ex_keep h (but_set g w i v) hr
theorem ex_drew {N : Nat -> Prop} {w : World} {x : Ex} {u : Value} (h : ExAt N w x u) : ExAt N w.drew x u := ExAt.keep (w := w) (w' := w.drew) (fun _ _ _ _ => rfl) h
theorem RdAt.setHi {r ts s} {w : World} (h : RdAt r ts s w) {g : Nat} (hg : r < g) (i : Nat) (v : Value) : RdAt r ts s (w.setCell ⟨g, i, none⟩ v) := by
  obtain ⟨a, lv, h1, h2, h3, h4⟩ := h
  refine ⟨a, lv, h1, h2, h3.but (but_set g w i v) (Nat.ne_of_lt hg), h4.keepLow ?_⟩
  intro b hb hlt o
  exact (but_set g w i v).cell (p := ⟨b, o, none⟩) hlt (by have : b < r := hb; show b ≠ g; omega)
def wset7 (w : World) (g : Nat) (n0 n1 n2 n3 n4 n5 n6 : Value) : World := ((((((w.setCell ⟨g, 0, none⟩ n0).setCell ⟨g, 1, none⟩ n1).setCell ⟨g, 2, none⟩ n2).setCell ⟨g, 3, none⟩ n3).setCell ⟨g, 4, none⟩ n4).setCell ⟨g, 5, none⟩ n5).setCell ⟨g, 6, none⟩ n6
theorem Bk.set7 {w : World} {g T} {o0 o1 o2 o3 o4 o5 o6 : Value} (h : Bk w g T #[o0, o1, o2, o3, o4, o5, o6]) (n0 n1 n2 n3 n4 n5 n6 : Value) :
    Bk (wset7 w g n0 n1 n2 n3 n4 n5 n6) g T #[n0, n1, n2, n3, n4, n5, n6] := by
  have := ((((((h.set1 0 n0).set1 1 n1).set1 2 n2).set1 3 n3).set1 4 n4).set1 5 n5).set1 6 n6
  simpa [wset7] using this
theorem Bk.set7o {w : World} {g g' T cs} (h : Bk w g T cs) (hg : g' ≠ g) (n0 n1 n2 n3 n4 n5 n6 : Value) : Bk (wset7 w g' n0 n1 n2 n3 n4 n5 n6) g T cs :=
  ((((((h.set (p := ⟨g', 0, none⟩) hg n0).set (p := ⟨g', 1, none⟩) hg n1).set (p := ⟨g', 2, none⟩) hg n2).set (p := ⟨g', 3, none⟩) hg n3).set (p := ⟨g', 4, none⟩) hg n4).set (p := ⟨g', 5, none⟩) hg n5).set (p := ⟨g', 6, none⟩) hg n6
theorem RdAt.set7 {r ts s} {w : World} (h : RdAt r ts s w) {g : Nat} (hg : r < g) (n0 n1 n2 n3 n4 n5 n6 : Value) : RdAt r ts s (wset7 w g n0 n1 n2 n3 n4 n5 n6) :=
  ((((((h.setHi hg 0 n0).setHi hg 1 n1).setHi hg 2 n2).setHi hg 3 n3).setHi hg 4 n4).setHi hg 5 n5).setHi hg 6 n6
theorem ex_set7 {N : Nat -> Prop} {w : World} {x : Ex} {u : Value} {g : Nat} (h : ExAt N w x u) (hr : ∀ b, N b -> b ≠ g) (n0 n1 n2 n3 n4 n5 n6 : Value) : ExAt N (wset7 w g n0 n1 n2 n3 n4 n5 n6) x u :=
  ex_set (ex_set (ex_set (ex_set (ex_set (ex_set (ex_set h 0 n0 hr) 1 n1 hr) 2 n2 hr) 3 n3 hr) 4 n4 hr) 5 n5 hr) 6 n6 hr
theorem But.set7 {r : Nat} {x w : World} (h : But r x w) {g : Nat} (hg : x.heap.size <= g) (n0 n1 n2 n3 n4 n5 n6 : Value) : But r x (wset7 w g n0 n1 n2 n3 n4 n5 n6) :=
  ((((((h.set (p := ⟨g, 0, none⟩) (.inr hg) n0).set (p := ⟨g, 1, none⟩) (.inr hg) n1).set (p := ⟨g, 2, none⟩) (.inr hg) n2).set (p := ⟨g, 3, none⟩) (.inr hg) n3).set (p := ⟨g, 4, none⟩) (.inr hg) n4).set (p := ⟨g, 5, none⟩) (.inr hg) n5).set (p := ⟨g, 6, none⟩) (.inr hg) n6
theorem expr72 (mixed : Tryz.prog.follows .mixedOrders = true) (f : Nat) (hI : ∀ g, g <= f -> RE 131 pAnd g) : RE 72 pExpr (f + 1) := by
  intro r ts s y s' w hp h
  unfold pExpr at hp
  obtain ⟨⟨x0, s0⟩, ha, hl⟩ := Option.bind_eq_some_iff.1 hp
  have A := Lib.hid (fun w h => hI f (Nat.le_refl _) r ts s x0 s0 w ha h)
  have HI := Lib.hid hI
  have HL := Lib.hid hl
  have hrl := h.lt
  have H := Lib.hid h
  clear hI hl h ha hp
  go_enter Tryz.func72, Tryz.ntmps72
  go_wp2_with (first | (go_at_call 131; refine (A.out _ (H.out.alloc (.cells #[.int .i64 0, .string ⟨#[]⟩, .int .i64 0, .int .i64 0, .string ⟨#[]⟩, .slice none 0 0, .slice none 0 0] 55))).mono ?_; clear A; rintro e w1 ⟨u, rfl, hx, h1, hb1⟩; obtain ⟨xo, xs, xk, xn, xt, xa, xm, xc, xb, xq, xd, rfl⟩ := hx.form; have HX := Lib.hid hx; have H1 := Lib.hid h1; have HB1 := Lib.hid hb1; clear hx h1 hb1))
  go_loopg [] f (fun gk wr => ∃ (g : Nat) (x : Ex) (s1 : St) (us : Array Value), g <= gk /\ g <= f /\ lOr g x s1 = some (y, s') /\ Bk wr w1.heap.size 55 us /\ Bk wr w.heap.size 55 #[.int .i64 0, .string ⟨#[]⟩, .int .i64 0, .int .i64 0, .string ⟨#[]⟩, .slice none 0 0, .slice none 0 0] /\ ExAt (fun b => w.heap.size + 1 <= b /\ b ≠ w1.heap.size) wr x (.agg us) /\ RdAt r ts s1 wr /\ But r w wr)
  case atStart =>
    refine ⟨f, x0, s0, _, Nat.le_refl _, Nat.le_refl _, HL.out, Bk.new _ _ _, ((Bk.new w 55 #[.int .i64 0, .string ⟨#[]⟩, .int .i64 0, .int .i64 0, .string ⟨#[]⟩, .slice none 0 0, .slice none 0 0]).but HB1.out (Nat.ne_of_gt hrl)).alloc _, ?_, H1.out.alloc _, (((But.refl r w).alloc _).trans HB1.out).alloc _⟩
    exact (ExAt.mono (fun b hb hn => ⟨by simpa using hn, by omega⟩) HX.out).below (below_a _)
  case round =>
    obtain ⟨g, x, s1, us, g1, g2, hl, hk1, hk2, hx, hr, hb⟩ := hrel
    obtain ⟨xo, xs, xk, xn, xt, xa, xm, xc, xb, xq, xd, e⟩ := hx.form
    cases e
    have hX : w1.heap.size ≠ r := by have := HB1.out.size; simp at this; omega
    have hX2 : w.heap.size < w1.heap.size := by have := HB1.out.size; simp at this; omega
    have HXX := Lib.hid hx
    have HB := Lib.hid hb
    have HK2 := Lib.hid hk2
    have HK1 := Lib.hid hk1
    have T := Lib.hid (take132 mixed r ts s1 sOr wr hr)
    have HTF : Hid ((take sOr s1).1 = false -> (take sOr s1).2 = s1) := Lib.hid (by unfold take; split <;> simp)
    obtain ⟨g, rfl⟩ : ∃ j, g = j + 1 := by
      cases g with
      | zero => unfold lOr at hl; cases hl
      | succ j => exact ⟨j, rfl⟩
    unfold lOr at hl
    clear hx hr hb hk1 hk2 HX H1
    cases ht : (take sOr s1).1 with
    | true =>
      rw [ht, if_pos rfl] at hl
      obtain ⟨⟨y2, s2⟩, hp2, hl2⟩ := Option.bind_eq_some_iff.1 hl
      have HL2 := Lib.hid hl2
      have A2 := Lib.hid (fun w h => HI.out g (by omega) r ts _ y2 s2 w hp2 h)
      rw [ht] at T
      clear hl hl2 hp2
      go_wp2_with (first | (go_at_call 132; refine T.out.mono ?_; clear T; rintro e w2 ⟨rfl, h2, hb2⟩; have HK3 := Lib.hid (HK1.out.but hb2 hX); obtain ⟨k0, k1, k2, k3, k4, k5, k6⟩ := Bk7 HK3.out; have H2 := Lib.hid h2; have HB2 := Lib.hid hb2; clear h2 hb2))
      go_region_with (first
        | (go_at_call 131; refine (A2.out _ H2.out.drew).mono ?_; rintro e w3 ⟨u2, rfl, hy, h3, hb3⟩; obtain ⟨yo, ys, yk, yn, yt, ya, ym, yc, yb, yq, yd, rfl⟩ := hy.form; have HK4 := HK3.out.drew.but hb3 hX; obtain ⟨j0, j1, j2, j3, j4, j5, j6⟩ := Bk7 HK4)
        | (go_at_call 133; refine (bin133 (fun b => w.heap.size + 1 <= b /\ b ≠ w1.heap.size) sOr x y2 _ _ w3 (by decide) (ex_keep (ex_drew (ex_keep HXX.out HB2.out (fun b hn => by omega))) hb3 (fun b hn => by omega)) (ExAt.mono (fun b _ hn => by have h1 : w2.heap.size <= b := hn; have := HK3.out.lt; omega) hy) (fun b hn => by have := HK4.lt; omega)).mono ?_; rintro e w4 ⟨z, rfl, hz, hb4⟩; obtain ⟨vo, vs, vk, vn, vt, va, vm, vc, vb, vq, vd, rfl⟩ := hz.form; have HK5 := HK4.keep hb4; clear j0 j1 j2 j3 j4 j5 j6; obtain ⟨j0, j1, j2, j3, j4, j5, j6⟩ := Bk7 HK5; have f0 := HK5.frozen 0; have f1 := HK5.frozen 1; have f2 := HK5.frozen 2; have f3 := HK5.frozen 3; have f4 := HK5.frozen 4; have f5 := HK5.frozen 5; have f6 := HK5.frozen 6))
      all_goals
        go_wp2
        go_roundg g
        case measure => omega
        case rel =>
          refine ⟨g, _, s2, _, Nat.le_refl _, by omega, HL2.out, HK5.set7 _ _ _ _ _ _ _, ?_, ?_, (h3.keep hb4).set7 (by omega) _ _ _ _ _ _ _, ?_⟩
          · exact Bk.set7o ((((HK2.out.but HB2.out (Nat.ne_of_gt hrl)).drew).but hb3 (Nat.ne_of_gt hrl)).keep hb4) (by omega) _ _ _ _ _ _ _
          · exact ex_set7 hz (fun b hn => hn.2) _ _ _ _ _ _ _
          · exact ((((HB.out.trans HB2.out).drew).trans hb3).trans (But.of_below hb4)).set7 (by omega) _ _ _ _ _ _ _
    | false =>
      have hss := HTF.out ht
      rw [ht, if_neg (by decide)] at hl
      obtain ⟨rfl, rfl⟩ : x = y /\ s1 = s' := by cases hl; exact ⟨rfl, rfl⟩
      rw [ht, hss] at T
      clear hl hss
      obtain ⟨r0, r1, r2, r3, r4, r5, r6⟩ := Bk7 HK2.out
      go_wp2_with (first | (go_at_call 132; refine T.out.mono ?_; clear T; rintro e w2 ⟨rfl, h2, hb2⟩; have HK3 := Lib.hid (HK1.out.but hb2 hX); have HK4 := Lib.hid (HK2.out.but hb2 (Nat.ne_of_gt hrl)); obtain ⟨k0, k1, k2, k3, k4, k5, k6⟩ := Bk7 HK3.out; clear r0 r1 r2 r3 r4 r5 r6; obtain ⟨r0, r1, r2, r3, r4, r5, r6⟩ := Bk7 HK4.out; have f0 := HK4.out.frozen 0; have f1 := HK4.out.frozen 1; have f2 := HK4.out.frozen 2; have f3 := HK4.out.frozen 3; have f4 := HK4.out.frozen 4; have f5 := HK4.out.frozen 5; have f6 := HK4.out.frozen 6; have H2 := Lib.hid h2; have HB2 := Lib.hid hb2; clear h2 hb2))
      have HR7 := HK4.out.set7 (.int .i64 xo) (.string xs) (.int .i64 xk) (.int .i64 xn) (.string xt) (.slice xa xm xc) (.slice xb xq xd)
      obtain ⟨q0, q1, q2, q3, q4, q5, q6⟩ := Bk7 HR7
      clear k0 k1 k2 k3 k4 k5 k6 r0 r1 r2 r3 r4 r5 r6 HR7
      unfold wset7 at q0 q1 q2 q3 q4 q5 q6
      refine bodyPost_ret (by simp [results, Tryz.results72, go_sem, q0, q1, q2, q3, q4, q5, q6]; try rfl) rfl ?_
      refine ⟨_, rfl, ?_, H2.out.set7 hrl _ _ _ _ _ _ _, (HB.out.trans HB2.out).set7 (Nat.le_refl _) _ _ _ _ _ _ _⟩
      exact ExAt.mono (fun b _ hn => by omega) (ex_set7 (ex_keep HXX.out HB2.out (fun b hn => by omega)) (fun b hn => by omega) _ _ _ _ _ _ _)
theorem and131 (mixed : Tryz.prog.follows .mixedOrders = true) (f : Nat) (hI : ∀ g, g <= f -> RE 217 pNot g) : RE 131 pAnd (f + 1) := by
  intro r ts s y s' w hp h
  unfold pAnd at hp
  obtain ⟨⟨x0, s0⟩, ha, hl⟩ := Option.bind_eq_some_iff.1 hp
  have A := Lib.hid (fun w h => hI f (Nat.le_refl _) r ts s x0 s0 w ha h)
  have HI := Lib.hid hI
  have HL := Lib.hid hl
  have hrl := h.lt
  have H := Lib.hid h
  clear hI hl h ha hp
  go_enter Tryz.func131, Tryz.ntmps131
  go_wp2_with (first | (go_at_call 217; refine (A.out _ (H.out.alloc (.cells #[.int .i64 0, .string ⟨#[]⟩, .int .i64 0, .int .i64 0, .string ⟨#[]⟩, .slice none 0 0, .slice none 0 0] 55))).mono ?_; clear A; rintro e w1 ⟨u, rfl, hx, h1, hb1⟩; obtain ⟨xo, xs, xk, xn, xt, xa, xm, xc, xb, xq, xd, rfl⟩ := hx.form; have HX := Lib.hid hx; have H1 := Lib.hid h1; have HB1 := Lib.hid hb1; clear hx h1 hb1))
  go_loopg [] f (fun gk wr => ∃ (g : Nat) (x : Ex) (s1 : St) (us : Array Value), g <= gk /\ g <= f /\ lAnd g x s1 = some (y, s') /\ Bk wr w1.heap.size 55 us /\ Bk wr w.heap.size 55 #[.int .i64 0, .string ⟨#[]⟩, .int .i64 0, .int .i64 0, .string ⟨#[]⟩, .slice none 0 0, .slice none 0 0] /\ ExAt (fun b => w.heap.size + 1 <= b /\ b ≠ w1.heap.size) wr x (.agg us) /\ RdAt r ts s1 wr /\ But r w wr)
  case atStart =>
    refine ⟨f, x0, s0, _, Nat.le_refl _, Nat.le_refl _, HL.out, Bk.new _ _ _, ((Bk.new w 55 #[.int .i64 0, .string ⟨#[]⟩, .int .i64 0, .int .i64 0, .string ⟨#[]⟩, .slice none 0 0, .slice none 0 0]).but HB1.out (Nat.ne_of_gt hrl)).alloc _, ?_, H1.out.alloc _, (((But.refl r w).alloc _).trans HB1.out).alloc _⟩
    exact (ExAt.mono (fun b hb hn => ⟨by simpa using hn, by omega⟩) HX.out).below (below_a _)
  case round =>
    obtain ⟨g, x, s1, us, g1, g2, hl, hk1, hk2, hx, hr, hb⟩ := hrel
    obtain ⟨xo, xs, xk, xn, xt, xa, xm, xc, xb, xq, xd, e⟩ := hx.form
    cases e
    have hX : w1.heap.size ≠ r := by have := HB1.out.size; simp at this; omega
    have hX2 : w.heap.size < w1.heap.size := by have := HB1.out.size; simp at this; omega
    have HXX := Lib.hid hx
    have HB := Lib.hid hb
    have HK2 := Lib.hid hk2
    have HK1 := Lib.hid hk1
    have T := Lib.hid (take132 mixed r ts s1 sAnd wr hr)
    have HTF : Hid ((take sAnd s1).1 = false -> (take sAnd s1).2 = s1) := Lib.hid (by unfold take; split <;> simp)
    obtain ⟨g, rfl⟩ : ∃ j, g = j + 1 := by
      cases g with
      | zero => unfold lAnd at hl; cases hl
      | succ j => exact ⟨j, rfl⟩
    unfold lAnd at hl
    clear hx hr hb hk1 hk2 HX H1
    cases ht : (take sAnd s1).1 with
    | true =>
      rw [ht, if_pos rfl] at hl
      obtain ⟨⟨y2, s2⟩, hp2, hl2⟩ := Option.bind_eq_some_iff.1 hl
      have HL2 := Lib.hid hl2
      have A2 := Lib.hid (fun w h => HI.out g (by omega) r ts _ y2 s2 w hp2 h)
      rw [ht] at T
      clear hl hl2 hp2
      go_wp2_with (first | (go_at_call 132; refine T.out.mono ?_; clear T; rintro e w2 ⟨rfl, h2, hb2⟩; have HK3 := Lib.hid (HK1.out.but hb2 hX); obtain ⟨k0, k1, k2, k3, k4, k5, k6⟩ := Bk7 HK3.out; have H2 := Lib.hid h2; have HB2 := Lib.hid hb2; clear h2 hb2))
      go_region_with (first
        | (go_at_call 217; refine (A2.out _ H2.out.drew).mono ?_; rintro e w3 ⟨u2, rfl, hy, h3, hb3⟩; obtain ⟨yo, ys, yk, yn, yt, ya, ym, yc, yb, yq, yd, rfl⟩ := hy.form; have HK4 := HK3.out.drew.but hb3 hX; obtain ⟨j0, j1, j2, j3, j4, j5, j6⟩ := Bk7 HK4)
        | (go_at_call 133; refine (bin133 (fun b => w.heap.size + 1 <= b /\ b ≠ w1.heap.size) sAnd x y2 _ _ w3 (by decide) (ex_keep (ex_drew (ex_keep HXX.out HB2.out (fun b hn => by omega))) hb3 (fun b hn => by omega)) (ExAt.mono (fun b _ hn => by have h1 : w2.heap.size <= b := hn; have := HK3.out.lt; omega) hy) (fun b hn => by have := HK4.lt; omega)).mono ?_; rintro e w4 ⟨z, rfl, hz, hb4⟩; obtain ⟨vo, vs, vk, vn, vt, va, vm, vc, vb, vq, vd, rfl⟩ := hz.form; have HK5 := HK4.keep hb4; clear j0 j1 j2 j3 j4 j5 j6; obtain ⟨j0, j1, j2, j3, j4, j5, j6⟩ := Bk7 HK5; have f0 := HK5.frozen 0; have f1 := HK5.frozen 1; have f2 := HK5.frozen 2; have f3 := HK5.frozen 3; have f4 := HK5.frozen 4; have f5 := HK5.frozen 5; have f6 := HK5.frozen 6))
      all_goals
        go_wp2
        go_roundg g
        case measure => omega
        case rel =>
          refine ⟨g, _, s2, _, Nat.le_refl _, by omega, HL2.out, HK5.set7 _ _ _ _ _ _ _, ?_, ?_, (h3.keep hb4).set7 (by omega) _ _ _ _ _ _ _, ?_⟩
          · exact Bk.set7o ((((HK2.out.but HB2.out (Nat.ne_of_gt hrl)).drew).but hb3 (Nat.ne_of_gt hrl)).keep hb4) (by omega) _ _ _ _ _ _ _
          · exact ex_set7 hz (fun b hn => hn.2) _ _ _ _ _ _ _
          · exact ((((HB.out.trans HB2.out).drew).trans hb3).trans (But.of_below hb4)).set7 (by omega) _ _ _ _ _ _ _
    | false =>
      have hss := HTF.out ht
      rw [ht, if_neg (by decide)] at hl
      obtain ⟨rfl, rfl⟩ : x = y /\ s1 = s' := by cases hl; exact ⟨rfl, rfl⟩
      rw [ht, hss] at T
      clear hl hss
      obtain ⟨r0, r1, r2, r3, r4, r5, r6⟩ := Bk7 HK2.out
      go_wp2_with (first | (go_at_call 132; refine T.out.mono ?_; clear T; rintro e w2 ⟨rfl, h2, hb2⟩; have HK3 := Lib.hid (HK1.out.but hb2 hX); have HK4 := Lib.hid (HK2.out.but hb2 (Nat.ne_of_gt hrl)); obtain ⟨k0, k1, k2, k3, k4, k5, k6⟩ := Bk7 HK3.out; clear r0 r1 r2 r3 r4 r5 r6; obtain ⟨r0, r1, r2, r3, r4, r5, r6⟩ := Bk7 HK4.out; have f0 := HK4.out.frozen 0; have f1 := HK4.out.frozen 1; have f2 := HK4.out.frozen 2; have f3 := HK4.out.frozen 3; have f4 := HK4.out.frozen 4; have f5 := HK4.out.frozen 5; have f6 := HK4.out.frozen 6; have H2 := Lib.hid h2; have HB2 := Lib.hid hb2; clear h2 hb2))
      have HR7 := HK4.out.set7 (.int .i64 xo) (.string xs) (.int .i64 xk) (.int .i64 xn) (.string xt) (.slice xa xm xc) (.slice xb xq xd)
      obtain ⟨q0, q1, q2, q3, q4, q5, q6⟩ := Bk7 HR7
      clear k0 k1 k2 k3 k4 k5 k6 r0 r1 r2 r3 r4 r5 r6 HR7
      unfold wset7 at q0 q1 q2 q3 q4 q5 q6
      refine bodyPost_ret (by simp [results, Tryz.results131, go_sem, q0, q1, q2, q3, q4, q5, q6]; try rfl) rfl ?_
      refine ⟨_, rfl, ?_, H2.out.set7 hrl _ _ _ _ _ _ _, (HB.out.trans HB2.out).set7 (Nat.le_refl _) _ _ _ _ _ _ _⟩
      exact ExAt.mono (fun b _ hn => by omega) (ex_set7 (ex_keep HXX.out HB2.out (fun b hn => by omega)) (fun b hn => by omega) _ _ _ _ _ _ _)
theorem pow432 (mixed : Tryz.prog.follows .mixedOrders = true) (f : Nat) (hI : RE 518 pUn f) (hP : RE 432 pPow f) : RE 432 pPow (f + 1) := by
  intro r ts s y s' w hp h
  unfold pPow at hp
  obtain ⟨⟨x0, s0⟩, ha, hl⟩ := Option.bind_eq_some_iff.1 hp
  have A := Lib.hid (fun w h => hI r ts s x0 s0 w ha h)
  have hrl := h.lt
  have H := Lib.hid h
  have T := Lib.hid (fun w h => take132 mixed r ts s0 sHat w h)
  have hl : (if (take sHat s0).1 then (pPow f (take sHat s0).2).bind fun q => some (Ex.bin sHat x0 q.1, q.2) else some (x0, s0)) = some (y, s') := hl
  have HTF : Hid ((take sHat s0).1 = false -> (take sHat s0).2 = s0) := Lib.hid (by unfold take; split <;> simp)
  cases ht : (take sHat s0).1 with
  | true =>
    rw [ht, if_pos rfl] at hl
    obtain ⟨⟨y2, s2⟩, hp2, hl2⟩ := Option.bind_eq_some_iff.1 hl
    have A2 := Lib.hid (fun w h => hP r ts _ y2 s2 w hp2 h)
    obtain ⟨rfl, rfl⟩ : Ex.bin sHat x0 y2 = y /\ s2 = s' := by cases hl2; exact ⟨rfl, rfl⟩
    rw [ht] at T
    clear hI h ha hp hl hl2 hp2 hP
    go_enter Tryz.func432, Tryz.ntmps432
    go_wp2_with (first
      | (go_at_call 518; refine (A.out _ (H.out.alloc (.cells #[.int .i64 0, .string ⟨#[]⟩, .int .i64 0, .int .i64 0, .string ⟨#[]⟩, .slice none 0 0, .slice none 0 0] 55))).mono ?_; clear A; rintro e w1 ⟨u, rfl, hx, h1, hb1⟩; obtain ⟨xo, xs, xk, xn, xt, xa, xm, xc, xb, xq, xd, rfl⟩ := hx.form; have HX := Lib.hid hx; have H1 := Lib.hid h1; have HB1 := Lib.hid hb1; clear hx h1 hb1)
      | (go_at_call 132; refine (T.out _ (H1.out.alloc _)).mono ?_; clear T; rintro e w2 ⟨rfl, h2, hb2⟩; have hX : w1.heap.size ≠ r := by have := HB1.out.size; simp at this; omega
         have HK3 := Lib.hid ((Bk.new w1 55 #[.int .i64 xo, .string xs, .int .i64 xk, .int .i64 xn, .string xt, .slice xa xm xc, .slice xb xq xd]).but hb2 hX); obtain ⟨k0, k1, k2, k3, k4, k5, k6⟩ := Bk7 HK3.out; have HR3 := Lib.hid ((((Bk.new w 55 #[.int .i64 0, .string ⟨#[]⟩, .int .i64 0, .int .i64 0, .string ⟨#[]⟩, .slice none 0 0, .slice none 0 0]).but HB1.out (Nat.ne_of_gt hrl)).alloc (.cells #[.int .i64 xo, .string xs, .int .i64 xk, .int .i64 xn, .string xt, .slice xa xm xc, .slice xb xq xd] 55)).but hb2 (Nat.ne_of_gt hrl)); have H2 := Lib.hid h2; have HB2 := Lib.hid hb2; clear h2 hb2))
    have hXs := HB1.out.size
    have hXs2 : w.heap.size < w1.heap.size := by simp at hXs; omega
    go_region_with (first
      | (go_at_call 432; refine (A2.out _ H2.out.drew).mono ?_; rintro e w3 ⟨u2, rfl, hy, h3, hb3⟩; obtain ⟨yo, ys, yk, yn, yt, ya, ym, yc, yb, yq, yd, rfl⟩ := hy.form; have HK4 := HK3.out.drew.but hb3 hX; obtain ⟨j0, j1, j2, j3, j4, j5, j6⟩ := Bk7 HK4)
      | (go_at_call 133; refine (bin133 (fun b => w.heap.size + 1 <= b) sHat x0 y2 _ _ w3 (by decide) (ex_keep (ex_drew (ex_keep (ExAt.below (ExAt.mono (fun b hb hn => by simpa using hn) HX.out) (below_a _)) HB2.out (fun b hn => by omega))) hb3 (fun b hn => by omega)) (ExAt.mono (fun b _ hn => by have h1 : w2.heap.size <= b := hn; have := HR3.out.lt; omega) hy) (fun b hn => by have := HK4.lt; omega)).mono ?_; rintro e w4 ⟨z, rfl, hz, hb4⟩; obtain ⟨vo, vs, vk, vn, vt, va, vm, vc, vb, vq, vd, rfl⟩ := hz.form; have HK5 := ((HR3.out.drew.but hb3 (Nat.ne_of_gt hrl)).keep hb4); clear j0 j1 j2 j3 j4 j5 j6; obtain ⟨j0, j1, j2, j3, j4, j5, j6⟩ := Bk7 HK5; have f0 := HK5.frozen 0; have f1 := HK5.frozen 1; have f2 := HK5.frozen 2; have f3 := HK5.frozen 3; have f4 := HK5.frozen 4; have f5 := HK5.frozen 5; have f6 := HK5.frozen 6))
    all_goals
      go_wp2
      have HR7 := HK5.set7 (.int .i64 vo) (.string vs) (.int .i64 vk) (.int .i64 vn) (.string vt) (.slice va vm vc) (.slice vb vq vd)
      obtain ⟨q0, q1, q2, q3, q4, q5, q6⟩ := Bk7 HR7
      clear k0 k1 k2 k3 k4 k5 k6 j0 j1 j2 j3 j4 j5 j6 HR7
      unfold wset7 at q0 q1 q2 q3 q4 q5 q6
      (try simp only [Exit.inBlock, Exit.then])
      refine bodyPost_ret (by simp [results, Tryz.results432, go_sem, q0, q1, q2, q3, q4, q5, q6]; try rfl) rfl ?_
      refine ⟨_, rfl, ?_, (h3.keep hb4).set7 hrl _ _ _ _ _ _ _, ((((((((But.refl r w).alloc _).trans HB1.out).alloc _).trans HB2.out).drew).trans hb3).trans (But.of_below hb4)).set7 (Nat.le_refl _) _ _ _ _ _ _ _⟩
      exact ExAt.mono (fun b _ hn => by omega) (ex_set7 hz (fun b hn => by omega) _ _ _ _ _ _ _)
  | false =>
    have hss := HTF.out ht
    rw [ht, if_neg (by decide)] at hl
    obtain ⟨rfl, rfl⟩ : x0 = y /\ s0 = s' := by cases hl; exact ⟨rfl, rfl⟩
    rw [ht, hss] at T
    clear hI h ha hp hl hP hss
    go_enter Tryz.func432, Tryz.ntmps432
    go_wp2_with (first
      | (go_at_call 518; refine (A.out _ (H.out.alloc (.cells #[.int .i64 0, .string ⟨#[]⟩, .int .i64 0, .int .i64 0, .string ⟨#[]⟩, .slice none 0 0, .slice none 0 0] 55))).mono ?_; clear A; rintro e w1 ⟨u, rfl, hx, h1, hb1⟩; obtain ⟨xo, xs, xk, xn, xt, xa, xm, xc, xb, xq, xd, rfl⟩ := hx.form; have HX := Lib.hid hx; have H1 := Lib.hid h1; have HB1 := Lib.hid hb1; clear hx h1 hb1)
      | (go_at_call 132; refine (T.out _ (H1.out.alloc _)).mono ?_; clear T; rintro e w2 ⟨rfl, h2, hb2⟩; have hX : w1.heap.size ≠ r := by have := HB1.out.size; simp at this; omega
         have HK3 := Lib.hid ((Bk.new w1 55 #[.int .i64 xo, .string xs, .int .i64 xk, .int .i64 xn, .string xt, .slice xa xm xc, .slice xb xq xd]).but hb2 hX); obtain ⟨k0, k1, k2, k3, k4, k5, k6⟩ := Bk7 HK3.out; have HR3 := Lib.hid ((((Bk.new w 55 #[.int .i64 0, .string ⟨#[]⟩, .int .i64 0, .int .i64 0, .string ⟨#[]⟩, .slice none 0 0, .slice none 0 0]).but HB1.out (Nat.ne_of_gt hrl)).alloc (.cells #[.int .i64 xo, .string xs, .int .i64 xk, .int .i64 xn, .string xt, .slice xa xm xc, .slice xb xq xd] 55)).but hb2 (Nat.ne_of_gt hrl)); obtain ⟨r0, r1, r2, r3, r4, r5, r6⟩ := Bk7 HR3.out; have f0 := HR3.out.frozen 0; have f1 := HR3.out.frozen 1; have f2 := HR3.out.frozen 2; have f3 := HR3.out.frozen 3; have f4 := HR3.out.frozen 4; have f5 := HR3.out.frozen 5; have f6 := HR3.out.frozen 6; have H2 := Lib.hid h2; have HB2 := Lib.hid hb2; clear h2 hb2))
    have hXs := HB1.out.size
    have hXs2 : w.heap.size < w1.heap.size := by simp at hXs; omega
    have HR7 := HR3.out.set7 (.int .i64 xo) (.string xs) (.int .i64 xk) (.int .i64 xn) (.string xt) (.slice xa xm xc) (.slice xb xq xd)
    obtain ⟨q0, q1, q2, q3, q4, q5, q6⟩ := Bk7 HR7
    clear k0 k1 k2 k3 k4 k5 k6 r0 r1 r2 r3 r4 r5 r6 HR7
    unfold wset7 at q0 q1 q2 q3 q4 q5 q6
    refine bodyPost_ret (by simp [results, Tryz.results432, go_sem, q0, q1, q2, q3, q4, q5, q6]; try rfl) rfl ?_
    refine ⟨_, rfl, ?_, H2.out.set7 hrl _ _ _ _ _ _ _, (((((But.refl r w).alloc _).trans HB1.out).alloc _).trans HB2.out).set7 (Nat.le_refl _) _ _ _ _ _ _ _⟩
    exact ExAt.mono (fun b _ hn => by omega) (ex_set7 (N := fun b => w.heap.size + 1 <= b) (ex_keep (ExAt.below (ExAt.mono (fun b hb hn => by simpa using hn) HX.out) (below_a _)) HB2.out (fun b hn => by omega)) (fun b hn => by omega) _ _ _ _ _ _ _)
theorem strs_lit {r : Nat} {w : World} (l : List ByteArray) (hl : l.length <= 100) (hs : ∀ s ∈ l, s.size <= 100) (hr : r < w.heap.size) (c : Nat) :
    StrsAt (· ≠ r) (w.alloc (.cells (l.map Value.string).toArray 9)) (.slice (some ⟨w.heap.size, 0, none⟩) l.length c) l := by
  refine ⟨by unfold mx; omega, fun s h => by have := hs s h; unfold mx; omega, _, _, rfl, .inr ⟨w.heap.size, 0, rfl, by omega, fun j hj => ?_⟩⟩
  have hk : Bk (w.alloc (.cells (l.map Value.string).toArray 9)) w.heap.size 9 (l.map Value.string).toArray := Bk.new _ _ _
  rw [hk.cell]
  simp [List.getD, hj]
theorem wset7_size (w : World) (g : Nat) (n0 n1 n2 n3 n4 n5 n6 : Value) : (wset7 w g n0 n1 n2 n3 n4 n5 n6).heap.size = w.heap.size := by simp [wset7, World.setCell]
theorem sgn_memR : ∀ (l : List ByteArray) (s : St) (c : ByteArray) (s' : St), sgn l s = (some c, s') -> c ∈ l
  | [], s, c, s', h => by simp [sgn] at h
  | a :: l, s, c, s', h => by
    unfold sgn at h
    split at h
    · cases h; exact List.mem_cons_self
    · exact List.mem_cons_of_mem _ (sgn_memR l s c s' h)
theorem sum295 (mixed : Tryz.prog.follows .mixedOrders = true) (f : Nat) (hI : ∀ g, g <= f -> RE 371 pProd g) : RE 295 pSum (f + 1) := by
  intro r ts s y s' w hp h
  unfold pSum at hp
  obtain ⟨⟨x0, s0⟩, ha, hl⟩ := Option.bind_eq_some_iff.1 hp
  have A := Lib.hid (fun w h => hI f (Nat.le_refl _) r ts s x0 s0 w ha h)
  have HI := Lib.hid hI
  have HL := Lib.hid hl
  have hrl := h.lt
  have H := Lib.hid h
  have TOK1 := Lib.hid True.intro
  clear hI hl h ha hp
  go_enter Tryz.func295, Tryz.ntmps295
  go_wp2_with (first
    | (go_at_call 371; clear TOK1; refine (A.out _ (H.out.alloc (.cells #[.int .i64 0, .string ⟨#[]⟩, .int .i64 0, .int .i64 0, .string ⟨#[]⟩, .slice none 0 0, .slice none 0 0] 55))).mono ?_; clear A; rintro e w1 ⟨u, rfl, hx, h1, hb1⟩; obtain ⟨xo, xs, xk, xn, xt, xa, xm, xc, xb, xq, xd, rfl⟩ := hx.form; have HX := Lib.hid hx; have H1 := Lib.hid h1; have HB1 := Lib.hid hb1; clear hx h1 hb1)
    | (go_at_call 294; have STR : StrsAt (· ≠ r) ((w1.alloc (.cells #[.int .i64 xo, .string xs, .int .i64 xk, .int .i64 xn, .string xt, .slice xa xm xc, .slice xb xq xd] 55)).alloc (.cells #[.string ⟨#[43]⟩, .string ⟨#[45]⟩] 9)) (.slice (some ⟨w1.heap.size + 1, 0, none⟩) 2 2) [sPlus, sMinus] := (by have h0 := strs_lit (r := r) (w := w1.alloc (.cells #[.int .i64 xo, .string xs, .int .i64 xk, .int .i64 xn, .string xt, .slice xa xm xc, .slice xb xq xd] 55)) [sPlus, sMinus] (by decide) (by decide) (H1.out.alloc _).lt 2; rw [show (w1.alloc (.cells #[.int .i64 xo, .string xs, .int .i64 xk, .int .i64 xn, .string xt, .slice xa xm xc, .slice xb xq xd] 55)).heap.size = w1.heap.size + 1 by simp] at h0; exact h0); have SG := sign294 mixed r ts s0 [sPlus, sMinus] _ _ ((H1.out.alloc (.cells #[.int .i64 xo, .string xs, .int .i64 xk, .int .i64 xn, .string xt, .slice xa xm xc, .slice xb xq xd] 55)).alloc (.cells #[.string ⟨#[43]⟩, .string ⟨#[45]⟩] 9)) STR; refine SG.mono ?_; clear SG STR; rintro e w2 ⟨rfl, h2, hb2⟩))
  go_loopg [4] f (fun gk s4 wr => ∃ (g : Nat) (x : Ex) (s1 : St) (so : Option ByteArray) (s2 : St) (us : Array Value), g <= gk /\ g <= f /\ lSum g x s1 = some (y, s') /\ sgn [sPlus, sMinus] s1 = (so, s2) /\ s4 = .string (so.getD ByteArray.empty) /\ Bk wr w1.heap.size 55 us /\ Bk wr w.heap.size 55 #[.int .i64 0, .string ⟨#[]⟩, .int .i64 0, .int .i64 0, .string ⟨#[]⟩, .slice none 0 0, .slice none 0 0] /\ ExAt (fun b => w.heap.size + 1 <= b /\ b ≠ w1.heap.size) wr x (.agg us) /\ RdAt r ts s2 wr /\ But r w wr)
  case atStart =>
    have hX : w1.heap.size ≠ r := by have := HB1.out.size; simp at this; omega
    refine ⟨f, x0, s0, (sgn [sPlus, sMinus] s0).1, (sgn [sPlus, sMinus] s0).2, _, Nat.le_refl _, Nat.le_refl _, HL.out, rfl, rfl, ((Bk.new w1 55 #[.int .i64 xo, .string xs, .int .i64 xk, .int .i64 xn, .string xt, .slice xa xm xc, .slice xb xq xd]).alloc _).but hb2 hX, ((((Bk.new w 55 #[.int .i64 0, .string ⟨#[]⟩, .int .i64 0, .int .i64 0, .string ⟨#[]⟩, .slice none 0 0, .slice none 0 0]).but HB1.out (Nat.ne_of_gt hrl)).alloc _).alloc _).but hb2 (Nat.ne_of_gt hrl), ?_, h2, ((((((But.refl r w).alloc _).trans HB1.out).alloc _).alloc _).trans hb2)⟩
    exact ex_keep (((ExAt.mono (fun b hb hn => ⟨by simpa using hn, by omega⟩) HX.out).below (below_a _)).below (below_a _)) hb2 (fun b hn => by omega)
  case round =>
    obtain ⟨g, x, s1, so, s2, us, g1, g2, hl, hsg, rfl, hk1, hk2, hx, hr, hb⟩ := hrel
    obtain ⟨xo, xs, xk, xn, xt, xa, xm, xc, xb, xq, xd, e⟩ := hx.form
    cases e
    have hX : w1.heap.size ≠ r := by have := HB1.out.size; simp at this; omega
    have hX2 : w.heap.size < w1.heap.size := by have := HB1.out.size; simp at this; omega
    have HXX := Lib.hid hx
    have HB := Lib.hid hb
    have HK2 := Lib.hid hk2
    have HK1 := Lib.hid hk1
    have HRD := Lib.hid hr
    obtain ⟨g, rfl⟩ : ∃ j, g = j + 1 := by
      cases g with
      | zero => unfold lSum at hl; cases hl
      | succ j => exact ⟨j, rfl⟩
    unfold lSum at hl
    rw [hsg] at hl
    obtain ⟨k0, k1, k2, k3, k4, k5, k6⟩ := Bk7 hk1
    clear hx hr hb hk1 hk2 HX H1 h2 hb2
    cases so with
    | some c =>
      have hcm := sgn_memR _ _ _ _ hsg
      have hcs : c.size <= mx /\ c.toList.isEmpty = false := by
        simp only [List.mem_cons, List.not_mem_nil, or_false] at hcm
        rcases hcm with rfl | rfl <;> exact ⟨by decide, by decide +kernel⟩
      have hcz := Lib.hid hcs.1
      have hce := hcs.2
      have hcn : ¬ c.toList = [] := by intro h; rw [h] at hce; cases hce
      obtain ⟨⟨y2, s3⟩, hp2, hl2⟩ := Option.bind_eq_some_iff.1 hl
      have HL2 := Lib.hid hl2
      have A2 := Lib.hid (fun w h => HI.out g (by omega) r ts _ y2 s3 w hp2 h)
      clear hl hl2 hp2 hcm hcs hsg
      rw [show (some c).getD ByteArray.empty = c from rfl]
      go_wp2_with fail
      go_region_with (first
        | (go_at_call 371; refine (A2.out _ HRD.out.drew).mono ?_; rintro e w3 ⟨u2, rfl, hy, h3, hb3⟩; obtain ⟨yo, ys, yk, yn, yt, ya, ym, yc, yb, yq, yd, rfl⟩ := hy.form; have HK4 := HK1.out.drew.but hb3 hX; obtain ⟨j0, j1, j2, j3, j4, j5, j6⟩ := Bk7 HK4)
        | (go_at_call 133; refine (bin133 (fun b => w.heap.size + 1 <= b /\ b ≠ w1.heap.size) c x y2 _ _ w3 hcz.out (ex_keep (ex_drew HXX.out) hb3 (fun b hn => by omega)) (ExAt.mono (fun b _ hn => by have h1 : wr.heap.size <= b := hn; have := HK1.out.lt; omega) hy) (fun b hn => by have := HK4.lt; omega)).mono ?_; rintro e w4 ⟨z, rfl, hz, hb4⟩; obtain ⟨vo, vs, vk, vn, vt, va, vm, vc, vb, vq, vd, rfl⟩ := hz.form; have HK5 := HK4.keep hb4; clear j0 j1 j2 j3 j4 j5 j6; obtain ⟨j0, j1, j2, j3, j4, j5, j6⟩ := Bk7 HK5; have f0 := HK5.frozen 0; have f1 := HK5.frozen 1; have f2 := HK5.frozen 2; have f3 := HK5.frozen 3; have f4 := HK5.frozen 4; have f5 := HK5.frozen 5; have f6 := HK5.frozen 6))
      all_goals
        have HRN := Lib.hid (((h3.keep hb4).set7 (g := w1.heap.size) (by omega) (.int .i64 vo) (.string vs) (.int .i64 vk) (.int .i64 vn) (.string vt) (.slice va vm vc) (.slice vb vq vd)).alloc (.cells #[.string ⟨#[43]⟩, .string ⟨#[45]⟩] 9))
        have HKN := Lib.hid ((HK5.set7 (.int .i64 vo) (.string vs) (.int .i64 vk) (.int .i64 vn) (.string vt) (.slice va vm vc) (.slice vb vq vd)).alloc (.cells #[.string ⟨#[43]⟩, .string ⟨#[45]⟩] 9))
        have HZN := Lib.hid ((ex_set7 hz (fun b hn => hn.2) (.int .i64 vo) (.string vs) (.int .i64 vk) (.int .i64 vn) (.string vt) (.slice va vm vc) (.slice vb vq vd)).below (below_a (.cells #[.string ⟨#[43]⟩, .string ⟨#[45]⟩] 9)))
        have HQN := Lib.hid ((Bk.set7o ((HK2.out.drew.but hb3 (Nat.ne_of_gt hrl)).keep hb4) (g' := w1.heap.size) (by omega) (.int .i64 vo) (.string vs) (.int .i64 vk) (.int .i64 vn) (.string vt) (.slice va vm vc) (.slice vb vq vd)).alloc (.cells #[.string ⟨#[43]⟩, .string ⟨#[45]⟩] 9))
        have HBN := Lib.hid ((((HB.out.drew.trans hb3).trans (But.of_below hb4)).set7 (g := w1.heap.size) (by omega) (.int .i64 vo) (.string vs) (.int .i64 vk) (.int .i64 vn) (.string vt) (.slice va vm vc) (.slice vb vq vd)).alloc (.cells #[.string ⟨#[43]⟩, .string ⟨#[45]⟩] 9))
        have HST : Hid (StrsAt (· ≠ r) ((wset7 w4 w1.heap.size (.int .i64 vo) (.string vs) (.int .i64 vk) (.int .i64 vn) (.string vt) (.slice va vm vc) (.slice vb vq vd)).alloc (.cells #[.string ⟨#[43]⟩, .string ⟨#[45]⟩] 9)) (.slice (some ⟨w4.heap.size, 0, none⟩) 2 2) [sPlus, sMinus]) := Lib.hid (by have h0 := strs_lit (r := r) (w := wset7 w4 w1.heap.size (.int .i64 vo) (.string vs) (.int .i64 vk) (.int .i64 vn) (.string vt) (.slice va vm vc) (.slice vb vq vd)) [sPlus, sMinus] (by decide) (by decide) ((h3.keep hb4).set7 (g := w1.heap.size) (by omega) (.int .i64 vo) (.string vs) (.int .i64 vk) (.int .i64 vn) (.string vt) (.slice va vm vc) (.slice vb vq vd)).lt 2; rw [wset7_size] at h0; exact h0)
        go_wp2_with (first
          | (go_at_call 294; have SG := sign294 mixed r ts s3 [sPlus, sMinus] _ _ HRN.out HST.out; unfold wset7 at SG; refine SG.mono ?_; clear SG; rintro e w5 ⟨rfl, h5, hb5⟩))
        go_roundg g
        case measure => omega
        case rel =>
          exact ⟨g, _, s3, (sgn [sPlus, sMinus] s3).1, (sgn [sPlus, sMinus] s3).2, _, Nat.le_refl _, by omega, HL2.out, rfl, rfl, HKN.out.but hb5 hX, HQN.out.but hb5 (Nat.ne_of_gt hrl), ex_keep HZN.out hb5 (fun b hn => by omega), h5, HBN.out.trans hb5⟩
    | none =>
      obtain ⟨rfl, rfl⟩ : x = y /\ s2 = s' := by cases hl; exact ⟨rfl, rfl⟩
      clear hl hsg
      rw [show (none : Option ByteArray).getD ByteArray.empty = ByteArray.empty from rfl]
      obtain ⟨r0, r1, r2, r3, r4, r5, r6⟩ := Bk7 HK2.out
      have f0 := HK2.out.frozen 0; have f1 := HK2.out.frozen 1; have f2 := HK2.out.frozen 2; have f3 := HK2.out.frozen 3; have f4 := HK2.out.frozen 4; have f5 := HK2.out.frozen 5; have f6 := HK2.out.frozen 6
      have he1 : ByteArray.empty.toList.isEmpty = true := by decide +kernel
      have he2 : ByteArray.empty.toList = [] := by decide +kernel
      go_wp2
      have HR7 := HK2.out.set7 (.int .i64 xo) (.string xs) (.int .i64 xk) (.int .i64 xn) (.string xt) (.slice xa xm xc) (.slice xb xq xd)
      obtain ⟨q0, q1, q2, q3, q4, q5, q6⟩ := Bk7 HR7
      clear k0 k1 k2 k3 k4 k5 k6 r0 r1 r2 r3 r4 r5 r6 HR7
      unfold wset7 at q0 q1 q2 q3 q4 q5 q6
      refine bodyPost_ret (by simp [results, Tryz.results295, go_sem, q0, q1, q2, q3, q4, q5, q6]; try rfl) rfl ?_
      refine ⟨_, rfl, ?_, HRD.out.set7 hrl _ _ _ _ _ _ _, HB.out.set7 (Nat.le_refl _) _ _ _ _ _ _ _⟩
      exact ExAt.mono (fun b _ hn => by omega) (ex_set7 HXX.out (fun b hn => by omega) _ _ _ _ _ _ _)
theorem prod371 (mixed : Tryz.prog.follows .mixedOrders = true) (f : Nat) (hI : ∀ g, g <= f -> RE 432 pPow g) : RE 371 pProd (f + 1) := by
  intro r ts s y s' w hp h
  unfold pProd at hp
  obtain ⟨⟨x0, s0⟩, ha, hl⟩ := Option.bind_eq_some_iff.1 hp
  have A := Lib.hid (fun w h => hI f (Nat.le_refl _) r ts s x0 s0 w ha h)
  have HI := Lib.hid hI
  have HL := Lib.hid hl
  have hrl := h.lt
  have H := Lib.hid h
  have TOK1 := Lib.hid True.intro
  clear hI hl h ha hp
  go_enter Tryz.func371, Tryz.ntmps371
  go_wp2_with (first
    | (go_at_call 432; clear TOK1; refine (A.out _ (H.out.alloc (.cells #[.int .i64 0, .string ⟨#[]⟩, .int .i64 0, .int .i64 0, .string ⟨#[]⟩, .slice none 0 0, .slice none 0 0] 55))).mono ?_; clear A; rintro e w1 ⟨u, rfl, hx, h1, hb1⟩; obtain ⟨xo, xs, xk, xn, xt, xa, xm, xc, xb, xq, xd, rfl⟩ := hx.form; have HX := Lib.hid hx; have H1 := Lib.hid h1; have HB1 := Lib.hid hb1; clear hx h1 hb1)
    | (go_at_call 294; have STR : StrsAt (· ≠ r) ((w1.alloc (.cells #[.int .i64 xo, .string xs, .int .i64 xk, .int .i64 xn, .string xt, .slice xa xm xc, .slice xb xq xd] 55)).alloc (.cells #[.string ⟨#[42]⟩, .string ⟨#[47]⟩, .string ⟨#[37]⟩] 9)) (.slice (some ⟨w1.heap.size + 1, 0, none⟩) 3 3) [sStar, sSlash, sPct] := (by have h0 := strs_lit (r := r) (w := w1.alloc (.cells #[.int .i64 xo, .string xs, .int .i64 xk, .int .i64 xn, .string xt, .slice xa xm xc, .slice xb xq xd] 55)) [sStar, sSlash, sPct] (by decide) (by decide) (H1.out.alloc _).lt 3; rw [show (w1.alloc (.cells #[.int .i64 xo, .string xs, .int .i64 xk, .int .i64 xn, .string xt, .slice xa xm xc, .slice xb xq xd] 55)).heap.size = w1.heap.size + 1 by simp] at h0; exact h0); have SG := sign294 mixed r ts s0 [sStar, sSlash, sPct] _ _ ((H1.out.alloc (.cells #[.int .i64 xo, .string xs, .int .i64 xk, .int .i64 xn, .string xt, .slice xa xm xc, .slice xb xq xd] 55)).alloc (.cells #[.string ⟨#[42]⟩, .string ⟨#[47]⟩, .string ⟨#[37]⟩] 9)) STR; refine SG.mono ?_; clear SG STR; rintro e w2 ⟨rfl, h2, hb2⟩))
  go_loopg [4] f (fun gk s4 wr => ∃ (g : Nat) (x : Ex) (s1 : St) (so : Option ByteArray) (s2 : St) (us : Array Value), g <= gk /\ g <= f /\ lProd g x s1 = some (y, s') /\ sgn [sStar, sSlash, sPct] s1 = (so, s2) /\ s4 = .string (so.getD ByteArray.empty) /\ Bk wr w1.heap.size 55 us /\ Bk wr w.heap.size 55 #[.int .i64 0, .string ⟨#[]⟩, .int .i64 0, .int .i64 0, .string ⟨#[]⟩, .slice none 0 0, .slice none 0 0] /\ ExAt (fun b => w.heap.size + 1 <= b /\ b ≠ w1.heap.size) wr x (.agg us) /\ RdAt r ts s2 wr /\ But r w wr)
  case atStart =>
    have hX : w1.heap.size ≠ r := by have := HB1.out.size; simp at this; omega
    refine ⟨f, x0, s0, (sgn [sStar, sSlash, sPct] s0).1, (sgn [sStar, sSlash, sPct] s0).2, _, Nat.le_refl _, Nat.le_refl _, HL.out, rfl, rfl, ((Bk.new w1 55 #[.int .i64 xo, .string xs, .int .i64 xk, .int .i64 xn, .string xt, .slice xa xm xc, .slice xb xq xd]).alloc _).but hb2 hX, ((((Bk.new w 55 #[.int .i64 0, .string ⟨#[]⟩, .int .i64 0, .int .i64 0, .string ⟨#[]⟩, .slice none 0 0, .slice none 0 0]).but HB1.out (Nat.ne_of_gt hrl)).alloc _).alloc _).but hb2 (Nat.ne_of_gt hrl), ?_, h2, ((((((But.refl r w).alloc _).trans HB1.out).alloc _).alloc _).trans hb2)⟩
    exact ex_keep (((ExAt.mono (fun b hb hn => ⟨by simpa using hn, by omega⟩) HX.out).below (below_a _)).below (below_a _)) hb2 (fun b hn => by omega)
  case round =>
    obtain ⟨g, x, s1, so, s2, us, g1, g2, hl, hsg, rfl, hk1, hk2, hx, hr, hb⟩ := hrel
    obtain ⟨xo, xs, xk, xn, xt, xa, xm, xc, xb, xq, xd, e⟩ := hx.form
    cases e
    have hX : w1.heap.size ≠ r := by have := HB1.out.size; simp at this; omega
    have hX2 : w.heap.size < w1.heap.size := by have := HB1.out.size; simp at this; omega
    have HXX := Lib.hid hx
    have HB := Lib.hid hb
    have HK2 := Lib.hid hk2
    have HK1 := Lib.hid hk1
    have HRD := Lib.hid hr
    obtain ⟨g, rfl⟩ : ∃ j, g = j + 1 := by
      cases g with
      | zero => unfold lProd at hl; cases hl
      | succ j => exact ⟨j, rfl⟩
    unfold lProd at hl
    rw [hsg] at hl
    obtain ⟨k0, k1, k2, k3, k4, k5, k6⟩ := Bk7 hk1
    clear hx hr hb hk1 hk2 HX H1 h2 hb2
    cases so with
    | some c =>
      have hcm := sgn_memR _ _ _ _ hsg
      have hcs : c.size <= mx /\ c.toList.isEmpty = false := by
        simp only [List.mem_cons, List.not_mem_nil, or_false] at hcm
        rcases hcm with rfl | rfl | rfl <;> exact ⟨by decide, by decide +kernel⟩
      have hcz := Lib.hid hcs.1
      have hce := hcs.2
      have hcn : ¬ c.toList = [] := by intro h; rw [h] at hce; cases hce
      obtain ⟨⟨y2, s3⟩, hp2, hl2⟩ := Option.bind_eq_some_iff.1 hl
      have HL2 := Lib.hid hl2
      have A2 := Lib.hid (fun w h => HI.out g (by omega) r ts _ y2 s3 w hp2 h)
      clear hl hl2 hp2 hcm hcs hsg
      rw [show (some c).getD ByteArray.empty = c from rfl]
      go_wp2_with fail
      go_region_with (first
        | (go_at_call 432; refine (A2.out _ HRD.out.drew).mono ?_; rintro e w3 ⟨u2, rfl, hy, h3, hb3⟩; obtain ⟨yo, ys, yk, yn, yt, ya, ym, yc, yb, yq, yd, rfl⟩ := hy.form; have HK4 := HK1.out.drew.but hb3 hX; obtain ⟨j0, j1, j2, j3, j4, j5, j6⟩ := Bk7 HK4)
        | (go_at_call 133; refine (bin133 (fun b => w.heap.size + 1 <= b /\ b ≠ w1.heap.size) c x y2 _ _ w3 hcz.out (ex_keep (ex_drew HXX.out) hb3 (fun b hn => by omega)) (ExAt.mono (fun b _ hn => by have h1 : wr.heap.size <= b := hn; have := HK1.out.lt; omega) hy) (fun b hn => by have := HK4.lt; omega)).mono ?_; rintro e w4 ⟨z, rfl, hz, hb4⟩; obtain ⟨vo, vs, vk, vn, vt, va, vm, vc, vb, vq, vd, rfl⟩ := hz.form; have HK5 := HK4.keep hb4; clear j0 j1 j2 j3 j4 j5 j6; obtain ⟨j0, j1, j2, j3, j4, j5, j6⟩ := Bk7 HK5; have f0 := HK5.frozen 0; have f1 := HK5.frozen 1; have f2 := HK5.frozen 2; have f3 := HK5.frozen 3; have f4 := HK5.frozen 4; have f5 := HK5.frozen 5; have f6 := HK5.frozen 6))
      all_goals
        have HRN := Lib.hid (((h3.keep hb4).set7 (g := w1.heap.size) (by omega) (.int .i64 vo) (.string vs) (.int .i64 vk) (.int .i64 vn) (.string vt) (.slice va vm vc) (.slice vb vq vd)).alloc (.cells #[.string ⟨#[42]⟩, .string ⟨#[47]⟩, .string ⟨#[37]⟩] 9))
        have HKN := Lib.hid ((HK5.set7 (.int .i64 vo) (.string vs) (.int .i64 vk) (.int .i64 vn) (.string vt) (.slice va vm vc) (.slice vb vq vd)).alloc (.cells #[.string ⟨#[42]⟩, .string ⟨#[47]⟩, .string ⟨#[37]⟩] 9))
        have HZN := Lib.hid ((ex_set7 hz (fun b hn => hn.2) (.int .i64 vo) (.string vs) (.int .i64 vk) (.int .i64 vn) (.string vt) (.slice va vm vc) (.slice vb vq vd)).below (below_a (.cells #[.string ⟨#[42]⟩, .string ⟨#[47]⟩, .string ⟨#[37]⟩] 9)))
        have HQN := Lib.hid ((Bk.set7o ((HK2.out.drew.but hb3 (Nat.ne_of_gt hrl)).keep hb4) (g' := w1.heap.size) (by omega) (.int .i64 vo) (.string vs) (.int .i64 vk) (.int .i64 vn) (.string vt) (.slice va vm vc) (.slice vb vq vd)).alloc (.cells #[.string ⟨#[42]⟩, .string ⟨#[47]⟩, .string ⟨#[37]⟩] 9))
        have HBN := Lib.hid ((((HB.out.drew.trans hb3).trans (But.of_below hb4)).set7 (g := w1.heap.size) (by omega) (.int .i64 vo) (.string vs) (.int .i64 vk) (.int .i64 vn) (.string vt) (.slice va vm vc) (.slice vb vq vd)).alloc (.cells #[.string ⟨#[42]⟩, .string ⟨#[47]⟩, .string ⟨#[37]⟩] 9))
        have HST : Hid (StrsAt (· ≠ r) ((wset7 w4 w1.heap.size (.int .i64 vo) (.string vs) (.int .i64 vk) (.int .i64 vn) (.string vt) (.slice va vm vc) (.slice vb vq vd)).alloc (.cells #[.string ⟨#[42]⟩, .string ⟨#[47]⟩, .string ⟨#[37]⟩] 9)) (.slice (some ⟨w4.heap.size, 0, none⟩) 3 3) [sStar, sSlash, sPct]) := Lib.hid (by have h0 := strs_lit (r := r) (w := wset7 w4 w1.heap.size (.int .i64 vo) (.string vs) (.int .i64 vk) (.int .i64 vn) (.string vt) (.slice va vm vc) (.slice vb vq vd)) [sStar, sSlash, sPct] (by decide) (by decide) ((h3.keep hb4).set7 (g := w1.heap.size) (by omega) (.int .i64 vo) (.string vs) (.int .i64 vk) (.int .i64 vn) (.string vt) (.slice va vm vc) (.slice vb vq vd)).lt 3; rw [wset7_size] at h0; exact h0)
        go_wp2_with (first
          | (go_at_call 294; have SG := sign294 mixed r ts s3 [sStar, sSlash, sPct] _ _ HRN.out HST.out; unfold wset7 at SG; refine SG.mono ?_; clear SG; rintro e w5 ⟨rfl, h5, hb5⟩))
        go_roundg g
        case measure => omega
        case rel =>
          exact ⟨g, _, s3, (sgn [sStar, sSlash, sPct] s3).1, (sgn [sStar, sSlash, sPct] s3).2, _, Nat.le_refl _, by omega, HL2.out, rfl, rfl, HKN.out.but hb5 hX, HQN.out.but hb5 (Nat.ne_of_gt hrl), ex_keep HZN.out hb5 (fun b hn => by omega), h5, HBN.out.trans hb5⟩
    | none =>
      obtain ⟨rfl, rfl⟩ : x = y /\ s2 = s' := by cases hl; exact ⟨rfl, rfl⟩
      clear hl hsg
      rw [show (none : Option ByteArray).getD ByteArray.empty = ByteArray.empty from rfl]
      obtain ⟨r0, r1, r2, r3, r4, r5, r6⟩ := Bk7 HK2.out
      have f0 := HK2.out.frozen 0; have f1 := HK2.out.frozen 1; have f2 := HK2.out.frozen 2; have f3 := HK2.out.frozen 3; have f4 := HK2.out.frozen 4; have f5 := HK2.out.frozen 5; have f6 := HK2.out.frozen 6
      have he1 : ByteArray.empty.toList.isEmpty = true := by decide +kernel
      have he2 : ByteArray.empty.toList = [] := by decide +kernel
      go_wp2
      have HR7 := HK2.out.set7 (.int .i64 xo) (.string xs) (.int .i64 xk) (.int .i64 xn) (.string xt) (.slice xa xm xc) (.slice xb xq xd)
      obtain ⟨q0, q1, q2, q3, q4, q5, q6⟩ := Bk7 HR7
      clear k0 k1 k2 k3 k4 k5 k6 r0 r1 r2 r3 r4 r5 r6 HR7
      unfold wset7 at q0 q1 q2 q3 q4 q5 q6
      refine bodyPost_ret (by simp [results, Tryz.results371, go_sem, q0, q1, q2, q3, q4, q5, q6]; try rfl) rfl ?_
      refine ⟨_, rfl, ?_, HRD.out.set7 hrl _ _ _ _ _ _ _, HB.out.set7 (Nat.le_refl _) _ _ _ _ _ _ _⟩
      exact ExAt.mono (fun b _ hn => by omega) (ex_set7 HXX.out (fun b hn => by omega) _ _ _ _ _ _ _)
end Go.Proofs.YtdmepghoffhphaaGreatDoor
