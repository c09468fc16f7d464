/- PROVED: contracts of the functions that CmdScopes reaches, and what an expression is that is written and read again (part CvI). CONDITIONS: none. -/
import Derived.Test.YtdmepghoffhphaaGreatDoorCvB
import Derived.Lib.AppendZerosOnto
import Derived.Deep.AppendLies
set_option linter.unusedSimpArgs false
set_option linter.unusedVariables false
set_option linter.unnecessarySimpa false
set_option maxHeartbeats 8000000
set_option maxRecDepth 100000
namespace Go.Proofs.YtdmepghoffhphaaGreatDoor
open Go Go.RowKit Go.Lib
theorem keep4 {w0 w1 w2 : World} {p q r s : Addr} {a b c d : Value} (h : w1.cell? p = some a /\ w1.cell? q = some b /\ w1.cell? r = some c /\ w1.cell? s = some d /\ w0.heap.size <= w1.heap.size /\ Below w0.heap.size w0 w1) (hb : Below w1.heap.size w1 w2) :
    w2.cell? p = some a /\ w2.cell? q = some b /\ w2.cell? r = some c /\ w2.cell? s = some d /\ w0.heap.size <= w2.heap.size /\ Below w0.heap.size w0 w2 := by
  obtain ⟨h1, h2, h3, h4, h5, h6⟩ := h
  have L : ∀ {p : Addr} {v : Value}, w1.cell? p = some v -> w2.cell? p = some v := fun {p v} hh => by rw [hb.cell (World.block_lt_of_cell? w1 _ hh)]; exact hh
  exact ⟨L h1, L h2, L h3, L h4, Nat.le_trans h5 hb.size, h6.trans (hb.mono h5)⟩
theorem last4 {w0 w1 : World} {p q r s : Addr} {a b c d : Value} (h : w1.cell? p = some a /\ w1.cell? q = some b /\ w1.cell? r = some c /\ w1.cell? s = some d /\ w0.heap.size <= w1.heap.size /\ Below w0.heap.size w0 w1) : Below w0.heap.size w0 w1 := h.2.2.2.2.2
theorem deep8 (mixed : Tryz.prog.follows .mixedOrders = true) (m : Nat) : ∀ (l : List Ex) (v : Value) (lv : Int) (w : World), wtL l <= m -> ExsAt allN w l v ->
    Calls Tryz.prog 8 #[v, .int .i64 lv] w fun e w' => (∃ n : Int, e = .returned (.int .i64 n)) /\ Below w.heap.size w w' := by
  induction m using Nat.strongRecOn with
  | ind m ih =>
  intro l v lv w hm h
  obtain ⟨a, c, rfl⟩ := h.shape
  have hlen : l.length <= 9223372036854775807 := h.1
  have H := Lib.hid h
  clear h
  by_cases hlv : 60 < lv
  · clear ih hm
    go_enter Tryz.func8, Tryz.ntmps8
    go_wp2
    go_ret
    exact ⟨⟨_, rfl⟩, Below.refl _ _⟩
  · go_enter Tryz.func8, Tryz.ntmps8
    go_wp2
    go_loopg [5, 6] l.length (fun g s5 s6 wr => ∃ (k : Nat) (n : Int), k <= l.length /\ l.length - k <= g /\ s5 = .int .i64 n /\ s6 = .int .i64 k /\ Below w.heap.size w wr)
    case atStart => exact ⟨0, _, Nat.zero_le _, by omega, rfl, rfl, Below.refl _ _⟩
    case round =>
      obtain ⟨k, n, hk, hg, rfl, rfl, hbel⟩ := hrel
      by_cases hlt : k < l.length
      · by_cases hn : n <= 60000
        · obtain ⟨b, o, yo, ys, yk, yn, yt, yp, yl, pa', pc', la', lc', rfl, _, hblt, hy, ⟨k0, k1, k2, k3, k4, k5, k6⟩, hx⟩ := H.out.elem hlt
          rw [<- (bcell hbel).1 _ _ hblt] at k0 k1 k2 k3 k4 k5 k6
          obtain ⟨pa2, pc2, la2, lc2, e7, h1, h2, h3, h4⟩ := hx.parts
          simp only [Value.agg.injEq, Array.mk.injEq, List.cons.injEq, and_true, true_and, Value.slice.injEq] at e7
          obtain ⟨⟨rfl, rfl⟩, rfl, rfl⟩ := e7
          have hw1 : wt l[k] <= wtL l := wt_mem (List.getElem_mem hlt)
          rw [hy] at hw1
          have hs : ys.size <= 9223372036854775807 := h1
          have hvs : yt.size <= 9223372036854775807 := h2
          have hpl : yp.length <= 9223372036854775807 := h3.1
          have hll : yl.length <= 9223372036854775807 := h4.1
          have HP := Lib.hid h3
          have hbs := hbel.size
          have HB := Lib.hid hbel
          have hwl : wtL yl < m := by simp only [wt] at hw1; omega
          have I := Lib.hid (fun lv w' (hb : Below w.heap.size w w') => ih (wtL yl) hwl yl _ lv w' (Nat.le_refl _) (h4.below hb))
          clear ih hx hy hm hw1 h1 h2 h3 h4 hwl
          go_wp2_with fail
          go_region_held3 (fun w' => w'.cell? ⟨b, o + k * 7 + 1, none⟩ = some (.string ys) /\ w'.cell? ⟨b, o + k * 7 + 4, none⟩ = some (.string yt) /\ w'.cell? ⟨b, o + k * 7 + 5, none⟩ = some (.slice pa' yp.length pc') /\ w'.cell? ⟨b, o + k * 7 + 6, none⟩ = some (.slice la' yl.length lc') /\ w.heap.size <= w'.heap.size /\ Below w.heap.size w w')
            (first | exact keep4 (by assumption) hb | (go_keep; done) | (go_split_ands; (repeat' apply And.intro) <;> first | (go_keep; done) | exact below_drew0 HB.out))
            (first | (go_at_call 8; refine (I.out _ _ (last4 (by assumption))).mono ?_; rintro e w' ⟨⟨n2, rfl⟩, hb⟩))
          rename_i hHeld
          obtain ⟨-, -, c5, -, -, hB1⟩ := hHeld
          have HP2 := Lib.hid (HP.out.below hB1)
          have HB1 := Lib.hid hB1
          have hs1 := hB1.size
          clear I HP hB1 hb
          generalize IntKind.i64.wrap (n + IntKind.i64.wrap (IntKind.i64.wrap (↑ys.size + ↑yt.size) + n2)) = n3
          go_wp2
          go_loopg [5, 7] yp.length (fun g s5 s7 wq => ∃ (j : Nat) (n' : Int), j <= yp.length /\ yp.length - j <= g /\ s5 = .int .i64 n' /\ s7 = .int .i64 j /\ wq = w')
          case atStart => exact ⟨0, _, Nat.zero_le _, by omega, rfl, rfl, rfl⟩
          case round =>
            obtain ⟨j, n', hj, hgj, rfl, rfl, rfl⟩ := hrel
            by_cases hjt : j < yp.length
            · obtain ⟨b', o', rfl, -, hbl', hc', hz'⟩ := HP2.out.elem hjt
              have hz' : yp[j].size <= 9223372036854775807 := hz'
              generalize yp[j] = st at *
              go_wp2
              go_roundg (yp.length - (j + 1))
              case measure => omega
              case rel => exact ⟨j + 1, _, by omega, by omega, rfl, by go_num, rfl⟩
            · have hjl : j = yp.length := by omega
              subst hjl
              go_wp2
              go_roundg (l.length - (k + 1))
              case measure => omega
              case rel => exact ⟨k + 1, _, by omega, by omega, rfl, by go_num, HB1.out⟩
        · go_wp2
          go_ret
          exact ⟨⟨_, rfl⟩, hbel⟩
      · have hkl : k = l.length := by omega
        subst hkl
        go_wp2
        all_goals
          go_ret
          exact ⟨⟨_, rfl⟩, hbel⟩
theorem size4 (mixed : Tryz.prog.follows .mixedOrders = true) (l : List Ex) (v : Value) (w : World) (h : ExsAt allN w l v) :
    Calls Tryz.prog 4 #[v] w fun e w' => (∃ n : Int, e = .returned (.int .i64 n)) /\ Below w.heap.size w w' := by
  have D := Lib.hid (deep8 mixed _ l v 0 w (Nat.le_refl _) h)
  obtain ⟨a, c, rfl⟩ := h.shape
  have hlen : l.length <= 9223372036854775807 := h.1
  clear h
  go_enter Tryz.func4, Tryz.ntmps4
  go_wp2_with (first | (go_at_call 8; refine D.out.mono ?_; rintro e w' ⟨⟨n, rfl⟩, hb⟩))
  go_ret
  exact ⟨⟨_, rfl⟩, hb⟩
theorem info55g : (Tryz.prog.info? 55).map (fun i => (i.zero, i.size, i.bytes)) = some (some (.agg #[.int .i64 0, .string ⟨#[]⟩, .int .i64 0, .int .i64 0, .string ⟨#[]⟩, .slice none 0 0, .slice none 0 0]), 7, 104) := by kernel_rfl
theorem infog {i? : Option TypeInfo} {z : Option Value} {s b : Nat} (h : i?.map (fun i => (i.zero, i.size, i.bytes)) = some (z, s, b)) : ∃ i, i? = some i /\ i.zero = z /\ i.size = s /\ i.bytes = b := by
  cases i? with
  | none => cases h
  | some i => simp at h; exact ⟨i, rfl, h.1, h.2.1, h.2.2⟩
def zv55 : Value := .agg #[.int .i64 0, .string ⟨#[]⟩, .int .i64 0, .int .i64 0, .string ⟨#[]⟩, .slice none 0 0, .slice none 0 0]
theorem grow42 (n : Nat) (hn : n <= 1000) (w : World) :
    Calls Tryz.prog 42 #[.slice none 0 0, .int .i64 n] w fun e w' => ∃ a c, e = .returned (.slice a 0 c) /\ w'.ownsRow w.heap.size 55 7 (.slice a 0 c) 0 [] /\ Below w.heap.size w w' := by
  by_cases h0 : n = 0
  · subst h0
    go_enter Tryz.func42, Tryz.ntmps42
    go_wp2
    go_ret
    exact ⟨none, 0, rfl, World.ownsRow_nil w _ _ _, Below.refl _ _⟩
  · obtain ⟨i0, hi, hz0, hz1, hz2⟩ := infog info55g
    have hrz : ∀ ty, (Builtin.append_ #[22, 3] ty #[.slice none 0 0, .int .i64 n]).run Tryz.prog w =
        .ok (.slice (some ⟨w.heap.size, 0, none⟩) n (grownCap w n 0 55)) (w.drew.alloc (.cells (#[] ++ Builtin.zeroCells zv55.cells n ++ Builtin.zeroCells zv55.cells (grownCap w n 0 55 - n)) 55)) := fun ty => by
      have h := Lib.run_append_grow_zeros w 22 3 ty 55 i0 zv55 .i64 .i64 Tryz.underlying22 Tryz.underlying3 hi hz0 none 0 0 [] (run_firstCells_none w.drew i0.size 0 0 0) n (by omega) (by rw [hz1]; omega) (by omega) (by omega)
        (by rw [hz2]; omega) (growslice_fits (by omega) (by rw [hz2]; omega))
      simpa using h
    have hG := grownCap_ge w n 0 55
    have hM := grownCap_le_maxLen w n 0 55 (by unfold maxLen; omega)
    have hown : (w.drew.alloc (.cells (#[] ++ Builtin.zeroCells zv55.cells n ++ Builtin.zeroCells zv55.cells (grownCap w n 0 55 - n)) 55)).ownsRow w.heap.size 55 7 (.slice (some ⟨w.heap.size, 0, none⟩) 0 (grownCap w n 0 55)) 0 [] := by
      refine ⟨by simp, .inr ⟨w.heap.size, _, _, rfl, Nat.le_refl _, heap_alloc_new w.drew _, Nat.zero_le _, hM, ?_, by simp⟩⟩
      simp only [Array.size_append, size_zeroCells, show zv55.cells.size = 7 from rfl, Array.size_empty, Nat.zero_add, <- Nat.add_mul]
      congr 1
      omega
    have HO := Lib.hid hown
    have hM' : grownCap w n 0 55 <= 9223372036854775807 := hM
    clear hown hM
    generalize hGe : grownCap w n 0 55 = G at *
    generalize hCe : (#[] ++ Builtin.zeroCells zv55.cells n ++ Builtin.zeroCells zv55.cells (G - n)) = C at *
    clear hCe hGe
    go_enter Tryz.func42, Tryz.ntmps42
    go_wp2_with (at_builtin; refine Lib.wpList_append_run _ rfl _ _ _ _ rfl _ _ rfl rfl _ _ (hrz _) ?_)
    go_ret
    exact ⟨_, _, rfl, HO.out, ((Below.refl _ _).drew).alloc (Nat.le_refl _) _⟩
def Y7 (xs : List Value) (o : Nat) (u : Value) : Prop := ∃ c0 c1 c2 c3 c4 c5 c6, u = .agg #[c0, c1, c2, c3, c4, c5, c6] /\ xs[o]? = some c0 /\ xs[o + 1]? = some c1 /\ xs[o + 2]? = some c2 /\ xs[o + 3]? = some c3 /\ xs[o + 4]? = some c4 /\ xs[o + 5]? = some c5 /\ xs[o + 6]? = some c6
def CatAt (B : Nat) (w : World) (v : Value) (l : List Ex) : Prop :=
  ∃ xs, w.ownsRow B 55 7 v l.length xs /\ ∀ j (h : j < l.length), ∃ u, Y7 xs (j * 7) u /\ ExAt (· < B) w l[j] u
theorem els_of' {N : Nat -> Prop} {w : World} {b : Nat} : ∀ (l : List Ex) (o : Nat), (∀ j (h : j < l.length), ∃ u, C7 w b (o + j * 7) u /\ ExAt N w l[j] u) -> ElsAt N w l b o
  | [], o, _ => by simp only [ElsAt]
  | x :: r, o, h => by
    simp only [ElsAt]
    refine ⟨by have := h 0 (by simp); simpa using this, els_of' r (o + 7) fun j hj => ?_⟩
    have := h (j + 1) (by simpa using hj)
    rw [show o + 7 + j * 7 = o + (j + 1) * 7 by omega]
    simpa using this
theorem ExAt.all {N : Nat -> Prop} {w : World} {x : Ex} {u : Value} (h : ExAt N w x u) : ExAt allN w x u := ExAt.mono (fun _ _ _ => trivial) h
theorem CatAt.exs {B : Nat} {w : World} {v : Value} {l : List Ex} (h : CatAt B w v l) (hl : l.length <= mx) : ExsAt allN w l v := by
  obtain ⟨xs, h1, h2⟩ := h
  rcases h1.2 with ⟨rfl, h0⟩ | ⟨g, cap, cur, rfl, hb, hg, hn, hm, hc, ht⟩
  · rw [List.length_eq_zero_iff] at h0; subst h0
    exact ⟨hl, none, 0, rfl, .inl rfl⟩
  · refine ⟨hl, _, _, rfl, .inr ⟨g, 0, rfl, trivial, els_of' l 0 fun j hj => ?_⟩⟩
    obtain ⟨u, ⟨c0, c1, c2, c3, c4, c5, c6, e, x0, x1, x2, x3, x4, x5, x6⟩, he⟩ := h2 j hj
    refine ⟨u, ⟨c0, c1, c2, c3, c4, c5, c6, e, ?_, ?_, ?_, ?_, ?_, ?_, ?_⟩, he.all⟩
    all_goals rw [Nat.zero_add, h1.cellAt _ (by omega)]; assumption
theorem CatAt.nil (B : Nat) (w : World) {v : Value} (h : w.ownsRow B 55 7 v 0 []) : CatAt B w v [] := ⟨[], h, fun j h => by simp at h⟩
theorem CatAt.keep {B : Nat} {w w' : World} {v : Value} {l : List Ex} (h : CatAt B w v l) (hb : Below w.heap.size w w') : CatAt B w' v l := by
  obtain ⟨xs, h1, h2⟩ := h
  refine ⟨xs, h1.kept (row := none) ⟨hb.os, hb.tape, hb.output, hb.size, fun k hk _ => hb.block k hk⟩ (by cases v.ownBlock <;> simp), fun j hj => ?_⟩
  obtain ⟨u, hu, he⟩ := h2 j hj
  exact ⟨u, hu, he.below hb⟩
theorem below_own {B : Nat} {w w' : World} {v : Value} (hg : w.grownBy w' v.ownBlock) (hr : ∀ k, v.ownBlock = some k -> B <= k) (hs : B <= w.heap.size) : Below B w w' :=
  (Below.refl B w).grown hg hs hr
theorem run_cat {B : Nat} {w : World} {v : Value} {l l2 : List Ex} {a2 : Option Addr} {c2 : Nat} (ty : TypeId) (h : CatAt B w v l) (h2 : ExsAt (· < B) w l2 (.slice a2 l2.length c2)) (h21 : l2.length <= 1) (hn : a2 = none -> c2 = 0)
    (hl : l.length <= 1000) (hB : B <= w.heap.size) :
    ∃ v' w', (Builtin.append_ #[22, 22] ty #[v, .slice a2 l2.length c2]).run Tryz.prog w = .ok v' w' /\ CatAt B w' v' (l ++ l2) /\ Below B w w' /\ (∃ a' c', v' = .slice a' (l ++ l2).length c') /\ w.heap.size <= w'.heap.size := by
  obtain ⟨i0, hi, hz0, hz1, hz2⟩ := infog info55g
  obtain ⟨xs, ho, hx⟩ := h
  have F : ∀ {w' : World} {v' : Value} {n : Nat} {ys : List Value}, w'.ownsRow B 55 7 v' n ys -> ∃ a' c', v' = .slice a' n c' := by
    intro w' v' n ys h
    rcases h.2 with ⟨rfl, h0⟩ | ⟨g, cap, cur, rfl, _⟩
    · subst h0; exact ⟨none, 0, rfl⟩
    · exact ⟨_, _, rfl⟩
  match l2, h2, h21 with
  | [], h2, _ =>
    cases a2 with
    | none =>
      obtain rfl := hn rfl
      refine ⟨v, w, run_append_owned_none (P := Tryz.prog) (w := w) B 22 ty 55 i0 7 Tryz.underlying22 hi v l.length xs ho, ?_, Below.refl _ _, ?_, Nat.le_refl _⟩
      · rw [List.append_nil]; exact ⟨xs, ho, hx⟩
      · rw [List.append_nil]; exact F ho
    | some ad =>
      obtain ⟨v', w', hr, ho', hg, -⟩ := run_append_own (P := Tryz.prog) w B 22 ty 55 i0 zv55 7 104 Tryz.underlying22 hi hz0 hz1 hz2 rfl (by decide) v l.length xs ho ad 0 c2 [] rfl (fun j u h => by simp at h) (fun u h => by simp at h) (by unfold maxLen; omega) (by omega) hB
      have hbb := below_own hg (fun k hk => (ho.lt k hk).1) hB
      refine ⟨v', w', hr, ?_, hbb, ?_, hbb.size⟩
      · rw [List.append_nil]
        rw [List.append_nil] at ho'
        exact ⟨xs, ho', fun j hj => by obtain ⟨u, hu, he⟩ := hx j hj; exact ⟨u, hu, ExAt.keep (.of_low hbb) he⟩⟩
      · rw [List.append_nil]; exact F ho'
  | [x], h2, _ =>
    obtain ⟨-, a', c', e, h3⟩ := h2
    cases e
    rcases h3 with h3 | ⟨b, o, rfl, hb, h3⟩
    · cases h3
    simp only [ElsAt, and_true] at h3
    obtain ⟨u, ⟨c0, c1, c2', c3, c4, c5, c6, rfl, k0, k1, k2, k3, k4, k5, k6⟩, hex⟩ := h3
    have hone : ∀ u ∈ [c0, c1, c2', c3, c4, c5, c6], u.oneCell' = true := by
      obtain ⟨xo, xs', xv, xp, xl⟩ := x
      obtain ⟨pa, pc, la, lc, e, -⟩ := hex.parts
      simp only [Value.agg.injEq, Array.mk.injEq, List.cons.injEq, and_true] at e
      obtain ⟨rfl, rfl, rfl, rfl, rfl, rfl, rfl⟩ := e
      simp [Value.oneCell']
    have hadd : ∀ j, (⟨b, o, none⟩ : Addr).add j = ⟨b, o + j, none⟩ := fun j => by rw [Addr.add_lit]
    obtain ⟨v', w', hr, ho', hg, -⟩ := run_append_own (P := Tryz.prog) w B 22 ty 55 i0 zv55 7 104 Tryz.underlying22 hi hz0 hz1 hz2 rfl (by decide) v l.length xs ho ⟨b, o, none⟩ 1 c2 [c0, c1, c2', c3, c4, c5, c6] rfl
      (fun j u h => by
        rw [hadd]
        match j, h with
        | 0, h => simp at h; subst h; exact k0
        | 1, h => simp at h; subst h; exact k1
        | 2, h => simp at h; subst h; exact k2
        | 3, h => simp at h; subst h; exact k3
        | 4, h => simp at h; subst h; exact k4
        | 5, h => simp at h; subst h; exact k5
        | 6, h => simp at h; subst h; exact k6
        | j + 7, h => simp at h) hone (by unfold maxLen; omega) (by omega) hB
    have hbb := below_own hg (fun k hk => (ho.lt k hk).1) hB
    have hxl : xs.length = l.length * 7 := ho.1
    refine ⟨v', w', hr, ⟨_, by rw [List.length_append]; exact ho', fun j hj => ?_⟩, hbb, ?_, hbb.size⟩
    · by_cases hj' : j < l.length
      · obtain ⟨u, ⟨d0, d1, d2, d3, d4, d5, d6, e, x0, x1, x2, x3, x4, x5, x6⟩, he⟩ := hx j hj'
        refine ⟨u, ⟨d0, d1, d2, d3, d4, d5, d6, e, ?_, ?_, ?_, ?_, ?_, ?_, ?_⟩, ?_⟩
        all_goals first
          | (rw [List.getElem?_append_left (by omega)]; assumption)
          | (rw [List.getElem_append_left hj']; exact ExAt.keep (.of_low hbb) he)
      · have hjl : j = l.length := by simp at hj; omega
        subst hjl
        refine ⟨_, ⟨c0, c1, c2', c3, c4, c5, c6, rfl, ?_, ?_, ?_, ?_, ?_, ?_, ?_⟩, ?_⟩
        · rw [List.getElem?_append_right (by omega), show l.length * 7 - xs.length = 0 by omega]; rfl
        · rw [List.getElem?_append_right (by omega), show l.length * 7 + 1 - xs.length = 1 by omega]; rfl
        · rw [List.getElem?_append_right (by omega), show l.length * 7 + 2 - xs.length = 2 by omega]; rfl
        · rw [List.getElem?_append_right (by omega), show l.length * 7 + 3 - xs.length = 3 by omega]; rfl
        · rw [List.getElem?_append_right (by omega), show l.length * 7 + 4 - xs.length = 4 by omega]; rfl
        · rw [List.getElem?_append_right (by omega), show l.length * 7 + 5 - xs.length = 5 by omega]; rfl
        · rw [List.getElem?_append_right (by omega), show l.length * 7 + 6 - xs.length = 6 by omega]; rfl
        · rw [List.getElem_append_right (Nat.le_refl _)]
          simp only [Nat.sub_self, List.getElem_cons_zero]
          exact ExAt.keep (.of_low hbb) hex
    · rw [List.length_append]; exact F ho'
def PartAt (B : Nat) (w : World) (v : Value) (l : List Ex) : Prop :=
  l.length <= 1 /\ ∃ a c, v = .slice a l.length c /\ (a = none -> c = 0) /\ ExsAt (· < B) w l (.slice a l.length c)
theorem PartAt.low {B : Nat} {w w' : World} {v : Value} {l : List Ex} (h : PartAt B w v l) (hb : Below B w w') : PartAt B w' v l := by
  obtain ⟨h1, a, c, e, hn, h2⟩ := h
  exact ⟨h1, a, c, e, hn, h2.keep (.of_low hb)⟩
theorem len_take3 (L : List (List Ex)) (h3 : L.length = 3) (h1 : ∀ k (h : k < L.length), L[k].length <= 1) (k : Nat) : (L.take k).flatten.length <= 3 := by
  match L, h3 with
  | [a, b, c], _ =>
    have ha := h1 0 (by simp); have hb := h1 1 (by simp); have hc := h1 2 (by simp)
    simp only [List.getElem_cons_zero, List.getElem_cons_succ] at ha hb hc
    match k with
    | 0 => simp
    | 1 => simp; omega
    | 2 => simp; omega
    | n + 3 => simp; omega
theorem flat_succ (L : List (List Ex)) (k : Nat) (h : k < L.length) : (L.take (k + 1)).flatten = (L.take k).flatten ++ L[k] := by
  rw [List.take_add_one, List.flatten_append]
  simp [List.getElem?_eq_getElem h]
theorem concat18 (L : List (List Ex)) (vs : List Value) (g : Nat) (w : World) (h3 : L.length = 3) (hv : vs.length = 3) (hk : Bk w g 22 vs.toArray)
    (hp : ∀ k (h : k < L.length) (h' : k < vs.length), PartAt w.heap.size w vs[k] L[k]) :
    Calls Tryz.prog 18 #[.slice (some ⟨g, 0, none⟩) 3 3] w fun e w' => ∃ v, e = .returned v /\ ExsAt allN w' L.flatten v /\ Below w.heap.size w w' := by
  have HLT := Lib.hid (len_take3 L h3 (fun k h => (hp k h (by omega)).1))
  have HK := Lib.hid hk
  have HP := Lib.hid hp
  have H3 := Lib.hid (And.intro h3 hv)
  have hgl := hk.lt
  clear hk hp h3 hv
  go_enter Tryz.func18, Tryz.ntmps18
  go_wp2
  go_loopg [3, 11] 3 (fun gk s3 s11 wr => ∃ k n : Nat, k <= 3 /\ 3 - k <= gk /\ n = (L.take k).flatten.length /\ s3 = .int .i64 n /\ s11 = .int .i64 k /\ wr = w)
  case atStart => exact ⟨0, 0, by omega, by omega, rfl, rfl, rfl, rfl⟩
  case round =>
    obtain ⟨k, n, hk, hg, hn, rfl, rfl, hw⟩ := hrel
    obtain rfl := hw.symm
    by_cases hlt : k < 3
    · have hkl : k < L.length := by have := H3.out.1; omega
      have hkv : k < vs.length := by have := H3.out.2; omega
      obtain ⟨q1, a, c, e, qn, q2⟩ := HP.out k hkl hkv
      have hc : w.cell? ⟨g, k, none⟩ = some (.slice a L[k].length c) := by rw [HK.out.cell k]; simp [hkv, e]
      have hn2 : (L.take (k + 1)).flatten.length = n + L[k].length := by rw [flat_succ L k hkl, List.length_append, <- hn]
      have hn3 := HLT.out (k + 1)
      have HN := Lib.hid hn2
      rw [hn2] at hn3
      clear hn hn2 e qn q2
      generalize L[k].length = m at *
      go_wp2
      go_roundg (3 - (k + 1))
      case measure => omega
      case rel => exact ⟨k + 1, n + m, by omega, by omega, HN.out.symm, by go_num, by go_num, rfl⟩
    · have hk3 : k = 3 := by omega
      subst hk3
      have hn3 := HLT.out 3
      rw [<- hn] at hn3
      have G := Lib.hid (grow42 n (by omega) w)
      clear hn
      go_wp2_with (first | (go_at_call 42; refine G.out.mono ?_; clear G; rintro e w1 ⟨a1, c1, rfl, ho1, hb1⟩; have HO1 := Lib.hid ho1; have HB1 := Lib.hid hb1; clear ho1 hb1))
      go_loopg [6, 27] 3 (fun gk s6 s27 w2 => ∃ (k : Nat) (v : Value) (a' : Option Addr) (c' : Nat), k <= 3 /\ 3 - k <= gk /\ s27 = .int .i64 k /\ s6 = v /\ v = .slice a' (L.take k).flatten.length c' /\ CatAt w.heap.size w2 v (L.take k).flatten /\ Below w.heap.size w w2)
      case atStart => exact ⟨0, _, _, _, by omega, by omega, rfl, rfl, rfl, CatAt.nil _ _ HO1.out, HB1.out⟩
      case round =>
        obtain ⟨k, v, a', c', hk, hg, rfl, rfl, rfl, hcat, hb2⟩ := hrel
        have HC := Lib.hid hcat
        have HB2 := Lib.hid hb2
        have hs2 := hb2.size
        by_cases hlt : k < 3
        · have hkl : k < L.length := by have := H3.out.1; omega
          have hkv : k < vs.length := by have := H3.out.2; omega
          obtain ⟨q1, a, c, e, qn, q2⟩ := HP.out k hkl hkv
          have hc : wr.cell? ⟨g, k, none⟩ = some (.slice a L[k].length c) := by rw [hb2.cell (p := ⟨g, k, none⟩) hgl, HK.out.cell k]; simp [hkv, e]
          have Q2 := Lib.hid (q2.keep (.of_low hb2))
          have QN := Lib.hid qn
          have HF := Lib.hid (flat_succ L k hkl)
          have hl3 := HLT.out k
          clear hcat hb2 e qn q2
          generalize (L.take k).flatten = l1 at *
          generalize L[k] = l2 at *
          obtain ⟨v3, w3, hr, hc3, hb3, ⟨a3, c3, e3⟩, hs3⟩ := run_cat 22 HC.out Q2.out q1 QN.out (by omega) hs2
          have HC3 := Lib.hid hc3
          have HB3 := Lib.hid hb3
          have HR := Lib.hid hr
          clear hc3 hb3 hr
          subst e3
          go_wp2_with (at_builtin; refine Lib.wpList_append_run _ rfl _ _ _ _ rfl _ _ rfl rfl _ _ HR.out ?_)
          go_roundg (3 - (k + 1))
          case measure => omega
          case rel =>
            refine ⟨k + 1, _, a3, c3, by omega, by omega, by go_num, rfl, ?_, ?_, HB2.out.trans HB3.out⟩
            · rw [HF.out, List.length_append]
            · rw [HF.out]; have := HC3.out; rw [List.length_append] at this; exact this
        · have hk3 : k = 3 := by omega
          subst hk3
          have hT : L.take 3 = L := by rw [List.take_of_length_le]; have := H3.out.1; omega
          have hl3 := HLT.out 3
          go_wp2
          go_ret
          refine ⟨_, rfl, ?_, HB2.out⟩
          have := HC.out.exs (by unfold mx; omega)
          rw [hT] at this ⊢
          exact this
theorem large_eq (x : Ex) : (decide (400 < (nodes x : Int)) || decide (14 < (levels x : Int))) = isLarge x := by
  unfold isLarge
  rw [Bool.eq_iff_iff]
  simp only [Bool.or_eq_true, decide_eq_true_eq]
  omega
theorem valid41 (O : OpsC) (x : Ex) (u : Value) (w : World) (hw : wt x <= bigW) (h : ExAt allN w x u) :
    Calls Tryz.prog 41 #[u] w fun e w' => e = .returned (.int .i64 (valEx x)) /\ Below w.heap.size w w' := by
  obtain ⟨op, s, ⟨vk, vn, vs⟩, p, l⟩ := x
  obtain ⟨pa, pc, la, lc, rfl, h1, h2, h3, h4⟩ := h.parts
  generalize hX : Ex.mk op s ⟨vk, vn, vs⟩ p l = X at *
  have A := Lib.hid (fun w' (hb : Below w.heap.size w w') => ofExpr77 _ X _ w' (Nat.le_refl _) hw (h.below hb))
  have B := Lib.hid (fun w' (hb : Below w.heap.size w w') => isExpr78 O _ X _ w' (Nat.le_refl _) (h.below hb))
  have LG := Lib.hid (fun w => by have := isLarge76 (nodes X) (levels X) w; rw [large_eq] at this; exact this)
  have hk := Lib.hid (Bk.new w 55 #[.int .i64 op, .string s, .int .i64 vk, .int .i64 vn, .string vs, .slice pa p.length pc, .slice la l.length lc])
  have hpl : p.length <= 9223372036854775807 := h3.1
  have hll : l.length <= 9223372036854775807 := h4.1
  unfold valEx
  clear h h1 h2 h3 h4 hX hw
  cases hL : isLarge X with
  | true =>
    rw [hL] at LG
    rw [if_pos rfl]
    clear hL B
    obtain ⟨k0, k1, k2, k3, k4, k5, k6⟩ := Bk7 hk.out
    go_enter Tryz.func41, Tryz.ntmps41
    go_wp2_with (first
      | (go_at_call 77; refine (A.out _ (below_a _)).mono ?_; rintro e w1 ⟨rfl, hb1⟩; have HB := Lib.hid ((below_a _).trans (hb1.mono (by simp))))
      | (go_at_call 76; refine (LG.out _).mono ?_; rintro e w2 ⟨rfl, hb2⟩))
    go_ret
    exact ⟨rfl, HB.out.trans (hb2.mono HB.out.size)⟩
  | false =>
    rw [hL] at LG
    rw [if_neg (by decide)]
    clear hL
    generalize isEx X = ie at *
    obtain ⟨k0, k1, k2, k3, k4, k5, k6⟩ := Bk7 hk.out
    go_enter Tryz.func41, Tryz.ntmps41
    go_wp2_with (first
      | (go_at_call 77; refine (A.out _ (below_a _)).mono ?_; rintro e w1 ⟨rfl, hb1⟩; have HB := Lib.hid ((below_a _).trans (hb1.mono (by simp))))
      | (go_at_call 76; refine (LG.out _).mono ?_; rintro e w2 ⟨rfl, hb2⟩; have HB2 := Lib.hid (HB.out.trans (hb2.mono HB.out.size)); have hk2 := Lib.hid ((hk.out.keep hb1).keep hb2); clear k0 k1 k2 k3 k4 k5 k6 hb1 hb2 HB; obtain ⟨k0, k1, k2, k3, k4, k5, k6⟩ := Bk7 hk2.out)
      | (go_at_call 78; refine (B.out _ HB2.out).mono ?_; rintro e w3 ⟨rfl, hb3⟩))
    all_goals
      go_ret
      refine ⟨?_, HB2.out.trans (hb3.mono HB2.out.size)⟩
      first | rfl | simp_all
theorem errL_take (l : List Ex) (k : Nat) (h : k < l.length) (h0 : errL (l.take k) = 0) (h1 : valEx l[k] = 0) : errL (l.take (k + 1)) = 0 := by
  induction l generalizing k with
  | nil => simp at h
  | cons x r ih =>
    cases k with
    | zero => simp only [List.getElem_cons_zero] at h1; simp [errL, h1]
    | succ k =>
      simp only [List.take_succ_cons, errL] at h0 ⊢
      split at h0
      · rename_i hv
        rw [if_pos hv]
        exact ih k (by simpa using h) h0 (by simpa using h1)
      · rename_i hv; exact absurd h0 hv
theorem errL_at (l : List Ex) (k : Nat) (h : k < l.length) (h0 : errL (l.take k) = 0) (h1 : valEx l[k] ≠ 0) : errL l = valEx l[k] := by
  induction l generalizing k with
  | nil => simp at h
  | cons x r ih =>
    cases k with
    | zero => simp only [List.getElem_cons_zero] at h1 ⊢; simp [errL, h1]
    | succ k =>
      simp only [List.take_succ_cons, errL] at h0
      split at h0
      · rename_i hv
        simp only [errL]
        rw [if_pos hv]
        simpa using ih k (by simpa using h) h0 (by simpa using h1)
      · rename_i hv; exact absurd h0 hv
theorem exprs17 (O : OpsC) (l : List Ex) (v : Value) (w : World) (hw : wtL l <= bigW) (h : ExsAt allN w l v) :
    Calls Tryz.prog 17 #[v] w fun e w' => e = .returned (.int .i64 (errL l)) /\ Below w.heap.size w w' := by
  obtain ⟨a, c, rfl⟩ := h.shape
  have hlen : l.length <= 9223372036854775807 := h.1
  have H := Lib.hid h
  clear h
  go_enter Tryz.func17, Tryz.ntmps17
  go_wp2
  go_loopg [8] l.length (fun g s8 wr => ∃ k : Nat, k <= l.length /\ l.length - k <= g /\ s8 = .int .i64 k /\ errL (l.take k) = 0 /\ Below w.heap.size w wr)
  case atStart => exact ⟨0, Nat.zero_le _, by omega, rfl, rfl, Below.refl _ _⟩
  case round =>
    obtain ⟨k, hk, hg, rfl, hall, hbel⟩ := hrel
    replace hall := Lib.hid hall
    by_cases hlt : k < l.length
    · obtain ⟨b, o, yo, ys, yk, yn, yt, yp, yl, pa', pc', la', lc', rfl, _, hblt, hy, ⟨k0, k1, k2, k3, k4, k5, k6⟩, hx⟩ := H.out.elem hlt
      rw [<- (bcell hbel).1 _ _ hblt] at k0 k1 k2 k3 k4 k5 k6
      have HP := Lib.hid (errL_take l k hlt)
      have HN := Lib.hid (errL_at l k hlt)
      have hw1 : wt l[k] <= wtL l := wt_mem (List.getElem_mem hlt)
      rw [hy] at HP HN hw1
      have I := Lib.hid (fun w' (hb : Below wr.heap.size wr w') => valid41 O _ _ w' (Nat.le_trans hw1 hw) ((hx.below hbel).below hb))
      clear hx hy hw1
      have HB := Lib.hid hbel
      by_cases hv : valEx (.mk yo ys ⟨yk, yn, yt⟩ yp yl) = 0
      · rw [hv] at I
        have HV := Lib.hid hv
        clear hv
        go_wp2_with (first | (go_at_call 41; refine (I.out _ (below_a _)).mono ?_; rintro e w' ⟨rfl, hb⟩))
        go_roundg (l.length - (k + 1))
        case measure => omega
        case rel => exact ⟨k + 1, by omega, by omega, by go_num, HP.out hall.out HV.out, hbel.trans (((below_a _).trans (hb.mono (by simp))).mono hbel.size)⟩
      · have HV := Lib.hid hv
        generalize valEx (.mk yo ys ⟨yk, yn, yt⟩ yp yl) = vv at *
        go_wp2_with (first | (go_at_call 41; refine (I.out _ (below_a _)).mono ?_; rintro e w' ⟨rfl, hb⟩))
        go_ret
        exact ⟨ret_int (HN.out hall.out HV.out).symm, hbel.trans (((below_a _).trans (hb.mono (by simp))).mono hbel.size)⟩
    · have hkl : k = l.length := by omega
      subst hkl
      go_wp2
      go_ret
      exact ⟨ret_int (by have := hall.out; rw [List.take_length] at this; exact this.symm), hbel⟩
theorem PartAt.parts {B : Nat} {w : World} {v : Value} {l : List Ex} (h : PartAt B w v l) : ∃ a c, v = .slice a l.length c := by
  obtain ⟨_, a, c, e, _⟩ := h; exact ⟨a, c, e⟩
def SlAt (B : Nat) (w : World) (v : Value) (l : List Ex) : Prop := ∃ a c, v = .slice a l.length c /\ (a = none -> c = 0) /\ ExsAt (· < B) w l (.slice a l.length c)
theorem SlAt.low {B : Nat} {w w' : World} {v : Value} {l : List Ex} (h : SlAt B w v l) (hb : Below B w w') : SlAt B w' v l := by
  obtain ⟨a, c, e, hn, h2⟩ := h
  exact ⟨a, c, e, hn, h2.keep (.of_low hb)⟩
theorem SlAt.up {B B' : Nat} {w : World} {v : Value} {l : List Ex} (h : SlAt B w v l) (hb : B <= B') : SlAt B' w v l := by
  obtain ⟨a, c, e, hn, h2⟩ := h
  exact ⟨a, c, e, hn, h2.mono fun b _ hb' => Nat.lt_of_lt_of_le hb' hb⟩
theorem SlAt.part {B : Nat} {w : World} {v : Value} {l : List Ex} (h : SlAt B w v l) (hl : l.length <= 1) : PartAt B w v l := ⟨hl, h⟩
theorem wtL_append : ∀ l m : List Ex, wtL (l ++ m) = wtL l + wtL m
  | [], m => by simp [wtL]
  | x :: r, m => by simp only [List.cons_append, wtL, wtL_append r m]; omega
theorem Bk4' {w : World} {g T} {o0 o1 o2 o3 : Value} (h : Bk w g T #[o0, o1, o2, o3]) :
    w.cell? ⟨g, 0, none⟩ = some o0 /\ w.cell? ⟨g, 1, none⟩ = some o1 /\ w.cell? ⟨g, 2, none⟩ = some o2 /\ w.cell? ⟨g, 3, none⟩ = some o3 := by
  simp only [h.cell]; exact ⟨rfl, rfl, rfl, rfl⟩
theorem errSc_bad {k : Int} {n f w : List Ex} (h : k < 0 \/ 4 < k \/ (n.length : Int) ≠ (if k = 2 \/ k = 4 then 1 else 0) \/ 1 < f.length \/ 1 < w.length) : errSc k n f w = 1 := by
  unfold errSc
  rw [if_pos]
  simp only [Bool.or_eq_true, decide_eq_true_eq, bne_iff_ne, ne_eq]
  rcases h with h | h | h | h | h
  · simp [h]
  · simp [h]
  · simp [h]
  · simp [h]
  · simp [h]
theorem errSc_ok {k : Int} {n f w : List Ex} (h1 : 0 <= k) (h2 : k <= 4) (h3 : (n.length : Int) = (if k = 2 \/ k = 4 then 1 else 0)) (h4 : f.length <= 1) (h5 : w.length <= 1) : errSc k n f w = errL (n ++ f ++ w) := by
  unfold errSc
  rw [if_neg]
  simp only [Bool.or_eq_true, decide_eq_true_eq, bne_iff_ne, ne_eq, h3, not_true, or_false]
  omega
theorem validate6 (O : OpsC) (k : Int) (n f wl : List Ex) (nv fv wv : Value) (w : World) (hw : wtL n + wtL f + wtL wl <= bigW) (hn : SlAt w.heap.size w nv n) (hf : SlAt w.heap.size w fv f) (hwl : SlAt w.heap.size w wv wl) :
    Calls Tryz.prog 6 #[.agg #[.int .i64 k, nv, fv, wv]] w fun e w' => e = .returned (.int .i64 (errSc k n f wl)) /\ Below w.heap.size w w' := by
  have HN := Lib.hid hn
  have HF := Lib.hid hf
  have HWL := Lib.hid hwl
  obtain ⟨na, nc, rfl, -, qn⟩ := hn
  obtain ⟨fa, fc, rfl, -, qf⟩ := hf
  obtain ⟨wa, wc, rfl, -, qw⟩ := hwl
  have ln : n.length <= 9223372036854775807 := qn.1
  have lf : f.length <= 9223372036854775807 := qf.1
  have lw : wl.length <= 9223372036854775807 := qw.1
  have HK := Lib.hid (Bk.new w 24 #[.int .i64 k, .slice na n.length nc, .slice fa f.length fc, .slice wa wl.length wc])
  obtain ⟨k0, k1, k2, k3⟩ := Bk4' HK.out
  have HBAD := Lib.hid (@errSc_bad k n f wl)
  have HOK := Lib.hid (@errSc_ok k n f wl)
  have HWT : Hid (wtL ([n, f, wl].flatten) <= bigW) := Lib.hid (by simp only [List.flatten_cons, List.flatten_nil, List.append_nil, wtL_append]; omega)
  have HFL : [n, f, wl].flatten = n ++ (f ++ wl) := by simp
  have E17 := Lib.hid (fun v w' h => exprs17 O [n, f, wl].flatten v w' HWT.out h)
  have C18 := Lib.hid (fun (h1 : n.length <= 1) (h2 : f.length <= 1) (h3 : wl.length <= 1) w' (hb : Below w.heap.size w w') (g : Nat) (hk : Bk w' g 22 #[.slice na n.length nc, .slice fa f.length fc, .slice wa wl.length wc]) => concat18 [n, f, wl] [.slice na n.length nc, .slice fa f.length fc, .slice wa wl.length wc] g w' rfl rfl hk (by
    intro j hj hj'
    match j, hj, hj' with
    | 0, _, _ => exact ((HN.out.low hb).up hb.size).part h1
    | 1, _, _ => exact ((HF.out.low hb).up hb.size).part h2
    | 2, _, _ => exact ((HWL.out.low hb).up hb.size).part h3
    | j + 3, hj, _ => simp at hj; omega))
  rw [HFL] at E17 C18
  clear hw qn qf qw HFL HWT
  have HQ : Hid (@Below w.heap.size w ((w.alloc (.cells #[.int .i64 k, .slice na n.length nc, .slice fa f.length fc, .slice wa wl.length wc] 24)).alloc (.cells #[.slice na n.length nc, .slice fa f.length fc, .slice wa wl.length wc] 22))) := Lib.hid (below_aa _ _ _)
  have HG : Hid (Bk ((w.alloc (.cells #[.int .i64 k, .slice na n.length nc, .slice fa f.length fc, .slice wa wl.length wc] 24)).alloc (.cells #[.slice na n.length nc, .slice fa f.length fc, .slice wa wl.length wc] 22)) (w.heap.size + 1) 22 #[.slice na n.length nc, .slice fa f.length fc, .slice wa wl.length wc]) := Lib.hid (by
    have := Bk.new (w.alloc (.cells #[.int .i64 k, .slice na n.length nc, .slice fa f.length fc, .slice wa wl.length wc] 24)) 22 #[.slice na n.length nc, .slice fa f.length fc, .slice wa wl.length wc]
    rw [show (w.alloc (.cells #[.int .i64 k, .slice na n.length nc, .slice fa f.length fc, .slice wa wl.length wc] 24)).heap.size = w.heap.size + 1 by simp] at this
    exact this)
  have C := Lib.hid (fun h1 h2 h3 => C18.out h1 h2 h3 _ HQ.out _ HG.out)
  clear C18
  by_cases hgood : 0 <= k /\ k <= 4 /\ (n.length : Int) = (if k = 2 \/ k = 4 then 1 else 0) /\ f.length <= 1 /\ wl.length <= 1
  · obtain ⟨g1, g2, g3, g4, g5⟩ := hgood
    have g3' : n.length <= 1 := by split at g3 <;> omega
    have C' := Lib.hid (C.out g3' g4 g5)
    clear C
    have HR : Hid (errL (n ++ (f ++ wl)) = errSc k n f wl) := Lib.hid (by rw [HOK.out g1 g2 g3 g4 g5]; simp)
    clear HOK HBAD
    have hf1 : ¬ (1 : Int) < f.length := by omega
    have hw1 : ¬ (1 : Int) < wl.length := by omega
    clear g4 g5 g3' HN HF HWL HG HK
    obtain rfl | rfl | rfl | rfl | rfl : k = 0 \/ k = 1 \/ k = 2 \/ k = 3 \/ k = 4 := by omega
    · have g6 : (n.length : Int) = 0 := by rw [if_neg (by decide)] at g3; exact g3
      clear g1 g2 g3
      go_enter Tryz.func6, Tryz.ntmps6
      go_wp2_with (first
        | (go_at_call 18; refine C'.out.mono ?_; rintro e w1 ⟨v1, rfl, hx1, hb1⟩; have HB1 := Lib.hid hb1; have HX1 := Lib.hid hx1; clear hx1 hb1)
        | (go_at_call 17; refine (E17.out _ _ HX1.out).mono ?_; rintro e w2 ⟨rfl, hb2⟩))
      go_ret
      exact ⟨ret_int HR.out, HQ.out.trans ((HB1.out.trans (hb2.mono HB1.out.size)).mono HQ.out.size)⟩
    · have g6 : (n.length : Int) = 0 := by rw [if_neg (by decide)] at g3; exact g3
      clear g1 g2 g3
      go_enter Tryz.func6, Tryz.ntmps6
      go_wp2_with (first
        | (go_at_call 18; refine C'.out.mono ?_; rintro e w1 ⟨v1, rfl, hx1, hb1⟩; have HB1 := Lib.hid hb1; have HX1 := Lib.hid hx1; clear hx1 hb1)
        | (go_at_call 17; refine (E17.out _ _ HX1.out).mono ?_; rintro e w2 ⟨rfl, hb2⟩))
      go_ret
      exact ⟨ret_int HR.out, HQ.out.trans ((HB1.out.trans (hb2.mono HB1.out.size)).mono HQ.out.size)⟩
    · have g6 : (n.length : Int) = 1 := by rw [if_pos (by decide)] at g3; exact g3
      clear g1 g2 g3
      go_enter Tryz.func6, Tryz.ntmps6
      go_wp2_with (first
        | (go_at_call 18; refine C'.out.mono ?_; rintro e w1 ⟨v1, rfl, hx1, hb1⟩; have HB1 := Lib.hid hb1; have HX1 := Lib.hid hx1; clear hx1 hb1)
        | (go_at_call 17; refine (E17.out _ _ HX1.out).mono ?_; rintro e w2 ⟨rfl, hb2⟩))
      go_ret
      exact ⟨ret_int HR.out, HQ.out.trans ((HB1.out.trans (hb2.mono HB1.out.size)).mono HQ.out.size)⟩
    · have g6 : (n.length : Int) = 0 := by rw [if_neg (by decide)] at g3; exact g3
      clear g1 g2 g3
      go_enter Tryz.func6, Tryz.ntmps6
      go_wp2_with (first
        | (go_at_call 18; refine C'.out.mono ?_; rintro e w1 ⟨v1, rfl, hx1, hb1⟩; have HB1 := Lib.hid hb1; have HX1 := Lib.hid hx1; clear hx1 hb1)
        | (go_at_call 17; refine (E17.out _ _ HX1.out).mono ?_; rintro e w2 ⟨rfl, hb2⟩))
      go_ret
      exact ⟨ret_int HR.out, HQ.out.trans ((HB1.out.trans (hb2.mono HB1.out.size)).mono HQ.out.size)⟩
    · have g6 : (n.length : Int) = 1 := by rw [if_pos (by decide)] at g3; exact g3
      clear g1 g2 g3
      go_enter Tryz.func6, Tryz.ntmps6
      go_wp2_with (first
        | (go_at_call 18; refine C'.out.mono ?_; rintro e w1 ⟨v1, rfl, hx1, hb1⟩; have HB1 := Lib.hid hb1; have HX1 := Lib.hid hx1; clear hx1 hb1)
        | (go_at_call 17; refine (E17.out _ _ HX1.out).mono ?_; rintro e w2 ⟨rfl, hb2⟩))
      go_ret
      exact ⟨ret_int HR.out, HQ.out.trans ((HB1.out.trans (hb2.mono HB1.out.size)).mono HQ.out.size)⟩
  · have HR := Lib.hid (HBAD.out (by
      by_cases h1 : k < 0
      · exact .inl h1
      by_cases h2 : 4 < k
      · exact .inr (.inl h2)
      by_cases h3 : (n.length : Int) = (if k = 2 \/ k = 4 then 1 else 0)
      · by_cases h4 : f.length <= 1
        · by_cases h5 : wl.length <= 1
          · exact absurd ⟨by omega, by omega, h3, h4, h5⟩ hgood
          · exact .inr (.inr (.inr (.inr (by omega))))
        · exact .inr (.inr (.inr (.inl (by omega))))
      · exact .inr (.inr (.inl h3))))
    clear C HOK HBAD HN HF HWL HG HK HQ E17
    by_cases h1 : k < 0
    · have q2 : ¬ k = 2 := by omega
      have q4 : ¬ k = 4 := by omega
      clear hgood
      go_enter Tryz.func6, Tryz.ntmps6
      go_wp2
      all_goals
        go_ret
        exact ⟨ret_int HR.out.symm, below_a _⟩
    by_cases h2 : 4 < k
    · have q2 : ¬ k = 2 := by omega
      have q4 : ¬ k = 4 := by omega
      clear hgood
      go_enter Tryz.func6, Tryz.ntmps6
      go_wp2
      all_goals
        go_ret
        exact ⟨ret_int HR.out.symm, below_a _⟩
    obtain rfl | rfl | rfl | rfl | rfl : k = 0 \/ k = 1 \/ k = 2 \/ k = 3 \/ k = 4 := by omega
    · by_cases g6 : (n.length : Int) = 0
      · have hfw : (1 : Int) < f.length \/ (1 : Int) < wl.length := by
          rcases Nat.lt_or_ge 1 f.length with h | h
          · left; omega
          · rcases Nat.lt_or_ge 1 wl.length with h' | h'
            · right; omega
            · exact absurd ⟨by omega, by omega, by rw [g6]; rfl, by omega, by omega⟩ hgood
        clear hgood h1 h2
        by_cases hf1 : (1 : Int) < f.length
        · clear hfw
          go_enter Tryz.func6, Tryz.ntmps6
          go_wp2
          go_ret
          exact ⟨ret_int HR.out.symm, below_a _⟩
        · have hw1 : (1 : Int) < wl.length := by rcases hfw with h | h; exact absurd h hf1; exact h
          clear hfw
          go_enter Tryz.func6, Tryz.ntmps6
          go_wp2
          go_ret
          exact ⟨ret_int HR.out.symm, below_a _⟩
      · clear hgood h1 h2
        have hne2 : ¬ n = [] := fun e => g6 (by simp [e])
        go_enter Tryz.func6, Tryz.ntmps6
        go_wp2
        go_ret
        exact ⟨ret_int HR.out.symm, below_a _⟩
    · by_cases g6 : (n.length : Int) = 0
      · have hfw : (1 : Int) < f.length \/ (1 : Int) < wl.length := by
          rcases Nat.lt_or_ge 1 f.length with h | h
          · left; omega
          · rcases Nat.lt_or_ge 1 wl.length with h' | h'
            · right; omega
            · exact absurd ⟨by omega, by omega, by rw [g6]; rfl, by omega, by omega⟩ hgood
        clear hgood h1 h2
        by_cases hf1 : (1 : Int) < f.length
        · clear hfw
          go_enter Tryz.func6, Tryz.ntmps6
          go_wp2
          go_ret
          exact ⟨ret_int HR.out.symm, below_a _⟩
        · have hw1 : (1 : Int) < wl.length := by rcases hfw with h | h; exact absurd h hf1; exact h
          clear hfw
          go_enter Tryz.func6, Tryz.ntmps6
          go_wp2
          go_ret
          exact ⟨ret_int HR.out.symm, below_a _⟩
      · clear hgood h1 h2
        have hne2 : ¬ n = [] := fun e => g6 (by simp [e])
        go_enter Tryz.func6, Tryz.ntmps6
        go_wp2
        go_ret
        exact ⟨ret_int HR.out.symm, below_a _⟩
    · by_cases g6 : (n.length : Int) = 1
      · have hfw : (1 : Int) < f.length \/ (1 : Int) < wl.length := by
          rcases Nat.lt_or_ge 1 f.length with h | h
          · left; omega
          · rcases Nat.lt_or_ge 1 wl.length with h' | h'
            · right; omega
            · exact absurd ⟨by omega, by omega, by rw [g6]; rfl, by omega, by omega⟩ hgood
        clear hgood h1 h2
        by_cases hf1 : (1 : Int) < f.length
        · clear hfw
          go_enter Tryz.func6, Tryz.ntmps6
          go_wp2
          go_ret
          exact ⟨ret_int HR.out.symm, below_a _⟩
        · have hw1 : (1 : Int) < wl.length := by rcases hfw with h | h; exact absurd h hf1; exact h
          clear hfw
          go_enter Tryz.func6, Tryz.ntmps6
          go_wp2
          go_ret
          exact ⟨ret_int HR.out.symm, below_a _⟩
      · clear hgood h1 h2
        go_enter Tryz.func6, Tryz.ntmps6
        go_wp2
        go_ret
        exact ⟨ret_int HR.out.symm, below_a _⟩
    · by_cases g6 : (n.length : Int) = 0
      · have hfw : (1 : Int) < f.length \/ (1 : Int) < wl.length := by
          rcases Nat.lt_or_ge 1 f.length with h | h
          · left; omega
          · rcases Nat.lt_or_ge 1 wl.length with h' | h'
            · right; omega
            · exact absurd ⟨by omega, by omega, by rw [g6]; rfl, by omega, by omega⟩ hgood
        clear hgood h1 h2
        by_cases hf1 : (1 : Int) < f.length
        · clear hfw
          go_enter Tryz.func6, Tryz.ntmps6
          go_wp2
          go_ret
          exact ⟨ret_int HR.out.symm, below_a _⟩
        · have hw1 : (1 : Int) < wl.length := by rcases hfw with h | h; exact absurd h hf1; exact h
          clear hfw
          go_enter Tryz.func6, Tryz.ntmps6
          go_wp2
          go_ret
          exact ⟨ret_int HR.out.symm, below_a _⟩
      · clear hgood h1 h2
        have hne2 : ¬ n = [] := fun e => g6 (by simp [e])
        go_enter Tryz.func6, Tryz.ntmps6
        go_wp2
        go_ret
        exact ⟨ret_int HR.out.symm, below_a _⟩
    · by_cases g6 : (n.length : Int) = 1
      · have hfw : (1 : Int) < f.length \/ (1 : Int) < wl.length := by
          rcases Nat.lt_or_ge 1 f.length with h | h
          · left; omega
          · rcases Nat.lt_or_ge 1 wl.length with h' | h'
            · right; omega
            · exact absurd ⟨by omega, by omega, by rw [g6]; rfl, by omega, by omega⟩ hgood
        clear hgood h1 h2
        by_cases hf1 : (1 : Int) < f.length
        · clear hfw
          go_enter Tryz.func6, Tryz.ntmps6
          go_wp2
          go_ret
          exact ⟨ret_int HR.out.symm, below_a _⟩
        · have hw1 : (1 : Int) < wl.length := by rcases hfw with h | h; exact absurd h hf1; exact h
          clear hfw
          go_enter Tryz.func6, Tryz.ntmps6
          go_wp2
          go_ret
          exact ⟨ret_int HR.out.symm, below_a _⟩
      · clear hgood h1 h2
        go_enter Tryz.func6, Tryz.ntmps6
        go_wp2
        go_ret
        exact ⟨ret_int HR.out.symm, below_a _⟩
end Go.Proofs.YtdmepghoffhphaaGreatDoor
