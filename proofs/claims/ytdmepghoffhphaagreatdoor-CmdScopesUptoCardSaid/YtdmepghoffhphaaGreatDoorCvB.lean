/- PROVED: contracts of the functions that CmdScopes reaches, and what an expression is that is written and read again (part CvB). CONDITIONS: none. -/
import Derived.Test.YtdmepghoffhphaaGreatDoorCvA
import Derived.Test.YtdmepghoffhphaaGreatDoorProg
import Derived.Test.YtdmepghoffhphaaGreatDoorShelf
import Derived.Tactics
import Derived.Tactics2
import Derived.WalkKit
import Derived.WalkSpells
import Derived.WalkSmall
import Derived.StillTactics
import Derived.Deep.LoopGhost
import Derived.Deep.QuietTactic
import Derived.BigQuiet
import Derived.KernelRfl
import Derived.Lib.Hide
import Derived.Lib.Slices
import Derived.Lib.SlicesS
import Derived.Lib.SlicesMore
import Derived.Below
import Derived.Handy
import Derived.Deep.RegionHeld3
import Derived.Shelf.RegionOpenPlain
import Derived.Shelf.LaysM
import Derived.Shelf.Strings.Search3
import Derived.Shelf.Strings.SlTrimAscii
import Derived.Lib.Strings
import Derived.Lib.Walk
import Derived.Lib.IndexLaws
import Derived.Lib.ConvBytes
set_option linter.unusedSimpArgs false
set_option linter.unusedVariables false
set_option linter.unnecessarySimpa false
set_option maxHeartbeats 8000000
set_option maxRecDepth 100000
namespace Go.Proofs.YtdmepghoffhphaaGreatDoor
open Go Go.RowKit Go.Lib
def mx : Nat := 9223372036854775807
def Vl.v (x : Vl) : Value := .agg #[.int .i64 x.k, .int .i64 x.n, .string x.s]
theorem bcell {W w1 : World} (hb : Below W.heap.size W w1) : (∀ b o, b < W.heap.size -> w1.cell? ⟨b, o, none⟩ = W.cell? ⟨b, o, none⟩) /\ (∀ b o, b < W.heap.size -> w1.frozen? ⟨b, o, none⟩ = W.frozen? ⟨b, o, none⟩) :=
  ⟨fun b o h => hb.cell (p := ⟨b, o, none⟩) h, fun b o h => hb.frozen (p := ⟨b, o, none⟩) h⟩
theorem ret_bool {a b : Bool} (h : a = b) : Ending.returned (.bool a) = .returned (.bool b) := by rw [h]
theorem ret_int {k : IntKind} {a b : Int} (h : a = b) : Ending.returned (.int k a) = .returned (.int k b) := by rw [h]
structure But (b : Nat) (w w' : World) : Prop where
  os : w'.os = w.os
  tape : w'.tape = w.tape
  output : w'.output = w.output
  size : w.heap.size <= w'.heap.size
  block : ∀ k, k < w.heap.size -> k ≠ b -> w'.heap[k]? = w.heap[k]?
theorem But.refl (b : Nat) (w : World) : But b w w := ⟨rfl, rfl, rfl, Nat.le_refl _, fun _ _ _ => rfl⟩
theorem But.trans {b : Nat} {x y z : World} (h : But b x y) (k : But b y z) : But b x z :=
  ⟨k.os.trans h.os, k.tape.trans h.tape, k.output.trans h.output, Nat.le_trans h.size k.size, fun i hi hb => (k.block i (Nat.lt_of_lt_of_le hi h.size) hb).trans (h.block i hi hb)⟩
theorem But.of_below {b : Nat} {w w' : World} (h : Below w.heap.size w w') : But b w w' := ⟨h.os, h.tape, h.output, h.size, fun k hk _ => h.block k hk⟩
theorem But.below {b : Nat} {n : Nat} {w w' : World} (h : But b w w') (hn : n <= w.heap.size) (hb : n <= b) : Below n w w' := ⟨h.os, h.tape, h.output, h.size, fun k hk => h.block k (by omega) (by omega)⟩
theorem But.drew {b : Nat} {x w : World} (h : But b x w) : But b x w.drew := ⟨h.os, h.tape, h.output, h.size, h.block⟩
theorem But.alloc {b : Nat} {x w : World} (h : But b x w) (o : Obj) : But b x (w.alloc o) :=
  h.trans ⟨rfl, rfl, rfl, by simp, fun k hk _ => Below.heap_alloc _ _ _ hk⟩
theorem But.set {b : Nat} {x w : World} (h : But b x w) {p : Addr} (hp : p.block = b \/ x.heap.size <= p.block) (u : Value) : But b x (w.setCell p u) :=
  ⟨h.os, h.tape, h.output, by simpa [World.setCell] using h.size, fun k hk hb => by
    rw [Below.heap_setCell _ _ _ _ (by rcases hp with e | e <;> omega)]; exact h.block k hk hb⟩
theorem But.cell {b : Nat} {w w' : World} (h : But b w w') {p : Addr} (hp : p.block < w.heap.size) (hb : p.block ≠ b) : w'.cell? p = w.cell? p := World.cell?_of_block (w := w) (h.block p.block hp hb)
def StrsAt (N : Nat -> Prop) (w : World) (v : Value) (p : List ByteArray) : Prop :=
  p.length <= mx /\ (∀ s ∈ p, s.size <= mx) /\ ∃ a c, v = .slice a p.length c /\ (p = [] \/ ∃ b o, a = some ⟨b, o, none⟩ /\ N b /\ ∀ j, j < p.length -> w.cell? ⟨b, o + j, none⟩ = some (.string (p.getD j ByteArray.empty)))
def C7 (w : World) (b o : Nat) (u : Value) : Prop :=
  ∃ c0 c1 c2 c3 c4 c5 c6, u = .agg #[c0, c1, c2, c3, c4, c5, c6] /\ w.cell? ⟨b, o, none⟩ = some c0 /\ w.cell? ⟨b, o + 1, none⟩ = some c1 /\ w.cell? ⟨b, o + 2, none⟩ = some c2 /\ w.cell? ⟨b, o + 3, none⟩ = some c3 /\ w.cell? ⟨b, o + 4, none⟩ = some c4 /\ w.cell? ⟨b, o + 5, none⟩ = some c5 /\ w.cell? ⟨b, o + 6, none⟩ = some c6
mutual
def ExAt (N : Nat -> Prop) (w : World) : Ex -> Value -> Prop
  | .mk op s v p l, u => ∃ pv a c, u = .agg #[.int .i64 op, .string s, .int .i64 v.k, .int .i64 v.n, .string v.s, pv, .slice a l.length c] /\ s.size <= mx /\ v.s.size <= mx /\ StrsAt N w pv p /\ l.length <= mx /\
      (l = [] \/ ∃ b o, a = some ⟨b, o, none⟩ /\ N b /\ ElsAt N w l b o)
def ElsAt (N : Nat -> Prop) (w : World) : List Ex -> Nat -> Nat -> Prop
  | [], _, _ => True
  | x :: r, b, o => (∃ u, C7 w b o u /\ ExAt N w x u) /\ ElsAt N w r b (o + 7)
end
def ExsAt (N : Nat -> Prop) (w : World) (l : List Ex) (v : Value) : Prop :=
  l.length <= mx /\ ∃ a c, v = .slice a l.length c /\ (l = [] \/ ∃ b o, a = some ⟨b, o, none⟩ /\ N b /\ ElsAt N w l b o)
theorem ExAt.iff {N : Nat -> Prop} {w : World} {op s v p l u} : ExAt N w (.mk op s v p l) u ↔ ∃ pv lv, u = .agg #[.int .i64 op, .string s, .int .i64 v.k, .int .i64 v.n, .string v.s, pv, lv] /\ s.size <= mx /\ v.s.size <= mx /\ StrsAt N w pv p /\ ExsAt N w l lv := by
  simp only [ExAt, ExsAt]
  constructor
  · rintro ⟨pv, a, c, rfl, h1, h2, h3, h4, h5⟩
    exact ⟨pv, _, rfl, h1, h2, h3, h4, a, c, rfl, h5⟩
  · rintro ⟨pv, lv, rfl, h1, h2, h3, h4, a, c, rfl, h5⟩
    exact ⟨pv, a, c, rfl, h1, h2, h3, h4, h5⟩
theorem ElsAt.get {N : Nat -> Prop} {w : World} : ∀ {l : List Ex} {b o : Nat} (h : ElsAt N w l b o) {j : Nat} (hj : j < l.length), ∃ u, C7 w b (o + j * 7) u /\ ExAt N w l[j] u
  | x :: r, b, o, h, 0, hj => by simpa [ElsAt] using h.1
  | x :: r, b, o, h, j + 1, hj => by
    simp only [ElsAt] at h
    obtain ⟨u, h1, h2⟩ := h.2.get (j := j) (by simpa using hj)
    exact ⟨u, by rw [show o + (j + 1) * 7 = o + 7 + j * 7 by omega]; exact h1, by simpa using h2⟩
theorem C7.lt {w : World} {b o : Nat} {u : Value} (h : C7 w b o u) : b < w.heap.size := by
  obtain ⟨c0, c1, c2, c3, c4, c5, c6, _, h0, _⟩ := h
  exact World.block_lt_of_cell? w _ h0
theorem C7.keep {w w' : World} {b o : Nat} {u : Value} (h : C7 w b o u) (hc : ∀ o, w'.cell? ⟨b, o, none⟩ = w.cell? ⟨b, o, none⟩) : C7 w' b o u := by
  obtain ⟨c0, c1, c2, c3, c4, c5, c6, e, h0, h1, h2, h3, h4, h5, h6⟩ := h
  exact ⟨c0, c1, c2, c3, c4, c5, c6, e, by rw [hc]; exact h0, by rw [hc]; exact h1, by rw [hc]; exact h2, by rw [hc]; exact h3, by rw [hc]; exact h4, by rw [hc]; exact h5, by rw [hc]; exact h6⟩
def Kc (N : Nat -> Prop) (w w' : World) : Prop := ∀ b, N b -> b < w.heap.size -> ∀ o, w'.cell? ⟨b, o, none⟩ = w.cell? ⟨b, o, none⟩
theorem StrsAt.keep {N : Nat -> Prop} {w w' : World} {v p} (h : StrsAt N w v p) (hc : Kc N w w') : StrsAt N w' v p := by
  obtain ⟨h0, h1, a, c, rfl, h2⟩ := h
  refine ⟨h0, h1, a, c, rfl, h2.imp id ?_⟩
  rintro ⟨b, o, rfl, hn, h3⟩
  refine ⟨b, o, rfl, hn, fun j hj => ?_⟩
  rw [hc b hn (World.block_lt_of_cell? w _ (h3 j hj))]; exact h3 j hj
mutual
theorem ExAt.keep {N : Nat -> Prop} {w w' : World} (hc : Kc N w w') : ∀ {x : Ex} {u : Value}, ExAt N w x u -> ExAt N w' x u
  | .mk op s v p l, u, h => by
    simp only [ExAt] at h ⊢
    obtain ⟨pv, a, c, rfl, h1, h2, h3, h4, h5⟩ := h
    refine ⟨pv, a, c, rfl, h1, h2, h3.keep hc, h4, h5.imp id ?_⟩
    rintro ⟨b, o, rfl, hn, h⟩
    exact ⟨b, o, rfl, hn, ElsAt.keep hc hn h⟩
theorem ElsAt.keep {N : Nat -> Prop} {w w' : World} (hc : Kc N w w') : ∀ {l : List Ex} {b o : Nat}, N b -> ElsAt N w l b o -> ElsAt N w' l b o
  | [], b, o, _, _ => by simp only [ElsAt]
  | x :: r, b, o, hn, h => by
    simp only [ElsAt] at h ⊢
    obtain ⟨⟨u, h1, h2⟩, h3⟩ := h
    exact ⟨⟨u, h1.keep (hc b hn h1.lt), ExAt.keep hc h2⟩, ElsAt.keep hc hn h3⟩
end
theorem ExsAt.keep {N : Nat -> Prop} {w w' : World} {l v} (h : ExsAt N w l v) (hc : Kc N w w') : ExsAt N w' l v := by
  obtain ⟨h0, a, c, rfl, h2⟩ := h
  refine ⟨h0, a, c, rfl, h2.imp id ?_⟩
  rintro ⟨b, o, rfl, hn, h3⟩
  exact ⟨b, o, rfl, hn, ElsAt.keep hc hn h3⟩
theorem Kc.of_below {N : Nat -> Prop} {w w' : World} (h : Below w.heap.size w w') : Kc N w w' := fun b _ hb o => (bcell h).1 b o hb
theorem Kc.of_low {n : Nat} {w w' : World} (h : Below n w w') : Kc (· < n) w w' := fun b hn _ o => h.cell (p := ⟨b, o, none⟩) hn
theorem Kc.of_but {b : Nat} {w w' : World} (h : But b w w') : Kc (· ≠ b) w w' := fun k hn hk o => h.cell (p := ⟨k, o, none⟩) hk hn
theorem ExAt.below {N : Nat -> Prop} {w w' : World} {x u} (h : ExAt N w x u) (hb : Below w.heap.size w w') : ExAt N w' x u := ExAt.keep (.of_below hb) h
theorem ExsAt.below {N : Nat -> Prop} {w w' : World} {l v} (h : ExsAt N w l v) (hb : Below w.heap.size w w') : ExsAt N w' l v := h.keep (.of_below hb)
theorem StrsAt.below {N : Nat -> Prop} {w w' : World} {v p} (h : StrsAt N w v p) (hb : Below w.heap.size w w') : StrsAt N w' v p := h.keep (.of_below hb)
theorem StrsAt.mono {N M : Nat -> Prop} {w : World} {v p} (h : StrsAt N w v p) (hm : ∀ b, b < w.heap.size -> N b -> M b) : StrsAt M w v p := by
  obtain ⟨h0, h1, a, c, rfl, h2⟩ := h
  refine ⟨h0, h1, a, c, rfl, ?_⟩
  cases p with
  | nil => exact .inl rfl
  | cons s p =>
    rcases h2 with h2 | ⟨b, o, rfl, hn, h3⟩
    · cases h2
    · exact .inr ⟨b, o, rfl, hm b (World.block_lt_of_cell? w _ (h3 0 (by simp))) hn, h3⟩
mutual
theorem ExAt.mono {N M : Nat -> Prop} {w : World} (hm : ∀ b, b < w.heap.size -> N b -> M b) : ∀ {x : Ex} {u : Value}, ExAt N w x u -> ExAt M w x u
  | .mk op s v p l, u, h => by
    simp only [ExAt] at h ⊢
    obtain ⟨pv, a, c, rfl, h1, h2, h3, h4, h5⟩ := h
    refine ⟨pv, a, c, rfl, h1, h2, h3.mono hm, h4, ?_⟩
    cases l with
    | nil => exact .inl rfl
    | cons x r =>
      rcases h5 with h5 | ⟨b, o, rfl, hn, h⟩
      · cases h5
      · have hb : b < w.heap.size := by
          simp only [ElsAt] at h
          obtain ⟨⟨u, h1, _⟩, _⟩ := h
          exact h1.lt
        exact .inr ⟨b, o, rfl, hm b hb hn, ElsAt.mono hm h⟩
theorem ElsAt.mono {N M : Nat -> Prop} {w : World} (hm : ∀ b, b < w.heap.size -> N b -> M b) : ∀ {l : List Ex} {b o : Nat}, ElsAt N w l b o -> ElsAt M w l b o
  | [], b, o, _ => by simp only [ElsAt]
  | x :: r, b, o, h => by
    simp only [ElsAt] at h ⊢
    obtain ⟨⟨u, h1, h2⟩, h3⟩ := h
    exact ⟨⟨u, h1, ExAt.mono hm h2⟩, ElsAt.mono hm h3⟩
end
theorem ExsAt.mono {N M : Nat -> Prop} {w : World} {l v} (h : ExsAt N w l v) (hm : ∀ b, b < w.heap.size -> N b -> M b) : ExsAt M w l v := by
  obtain ⟨h0, a, c, rfl, h2⟩ := h
  refine ⟨h0, a, c, rfl, ?_⟩
  cases l with
  | nil => exact .inl rfl
  | cons x r =>
    rcases h2 with h2 | ⟨b, o, rfl, hn, h⟩
    · cases h2
    · have hb : b < w.heap.size := by
        simp only [ElsAt] at h
        obtain ⟨⟨u, h1, _⟩, _⟩ := h
        exact h1.lt
      exact .inr ⟨b, o, rfl, hm b hb hn, ElsAt.mono hm h⟩
theorem ExAt.zero (N : Nat -> Prop) (w : World) : ExAt N w .zero (.agg #[.int .i64 0, .string ByteArray.empty, .int .i64 0, .int .i64 0, .string ByteArray.empty, .slice none 0 0, .slice none 0 0]) := by
  unfold Ex.zero
  exact ExAt.iff.2 ⟨_, _, rfl, by simp [mx], by simp [vd0, mx], ⟨by simp, by simp, none, 0, rfl, .inl rfl⟩, by simp, none, 0, rfl, .inl rfl⟩
def allN : Nat -> Prop := fun _ => True
theorem below_a {w : World} (o : Obj) : Below w.heap.size w (w.alloc o) := (Below.refl _ _).alloc (Nat.le_refl _) _
theorem sizeIn137 (a b c d : Int) (w : World) (h1 : 0 <= a /\ a <= 1000000000000000) (h2 : 0 <= b /\ b <= 1000000000000000) (h3 : 0 <= c /\ c <= 1000000000000000) (h4 : 0 <= d /\ d <= 1000000000000000) :
    Calls Tryz.prog 137 #[.agg #[.int .i64 a, .int .i64 b], .agg #[.int .i64 c, .int .i64 d]] w fun e w' => e = .returned (.agg #[.int .i64 (a + c), .int .i64 (max b (d + 1))]) /\ Below w.heap.size w w' := by
  go_enter Tryz.func137, Tryz.ntmps137
  go_wp2
  all_goals
    go_returns
    refine ⟨?_, ?_⟩
    · have e : max b (d + 1) = (if b < d + 1 then d + 1 else b) := by omega
      rw [e]
      all_goals (split <;> first | rfl | omega)
    · exact (((Below.refl _ _).alloc (Nat.le_refl _) _).alloc (by simp) _).alloc (by simp; omega) _
theorem isLarge76 (a b : Int) (w : World) :
    Calls Tryz.prog 76 #[.agg #[.int .i64 a, .int .i64 b]] w fun e w' => e = .returned (.bool (decide (400 < a) || decide (14 < b))) /\ Below w.heap.size w w' := by
  go_enter Tryz.func76, Tryz.ntmps76
  go_wp2
  all_goals
    go_ret
    exact ⟨ret_bool (by simp [*]), below_a _⟩
theorem nodes_pos (x : Ex) : 1 <= nodes x := by cases x; simp only [nodes]; omega
mutual
theorem nodes_le : ∀ x : Ex, nodes x <= wt x
  | .mk op s v p l => by simp only [nodes, wt]; have := nodesL_le l; omega
theorem nodesL_le : ∀ l : List Ex, nodesL l <= wtL l
  | [] => by simp [nodesL]
  | x :: r => by simp only [nodesL, wtL]; have := nodes_le x; have := nodesL_le r; omega
end
mutual
theorem levels_le : ∀ x : Ex, levels x <= wt x
  | .mk op s v p l => by simp only [levels, wt]; have := levelsL_le l; omega
theorem levelsL_le : ∀ l : List Ex, levelsL l <= wtL l
  | [] => by simp [levelsL]
  | x :: r => by simp only [levelsL, wtL]; have := levels_le x; have := levelsL_le r; omega
end
theorem nodesL_take : ∀ (l : List Ex) (k : Nat) (h : k < l.length), nodesL (l.take (k + 1)) = nodesL (l.take k) + nodes l[k]
  | x :: r, 0, h => by simp [nodesL]
  | x :: r, k + 1, h => by
    have := nodesL_take r k (by simpa using h)
    simp only [List.take_succ_cons, nodesL, this, List.getElem_cons_succ]; omega
theorem levelsL_take : ∀ (l : List Ex) (k : Nat) (h : k < l.length), levelsL (l.take (k + 1)) = max (levelsL (l.take k)) (levels l[k])
  | x :: r, 0, h => by simp [levelsL]
  | x :: r, k + 1, h => by
    have := levelsL_take r k (by simpa using h)
    simp only [List.take_succ_cons, levelsL, this, List.getElem_cons_succ]; omega
theorem wtL_take : ∀ (l : List Ex) (k : Nat), wtL (l.take k) <= wtL l
  | [], k => by simp
  | x :: r, 0 => by simp [wtL]
  | x :: r, k + 1 => by simp only [List.take_succ_cons, wtL]; have := wtL_take r k; omega
theorem ExsAt.shape {N : Nat -> Prop} {w : World} {l v} (h : ExsAt N w l v) : ∃ a c, v = .slice a l.length c := by obtain ⟨_, a, c, e, _⟩ := h; exact ⟨a, c, e⟩
theorem StrsAt.shape {N : Nat -> Prop} {w : World} {p v} (h : StrsAt N w v p) : ∃ a c, v = .slice a p.length c := by obtain ⟨_, _, a, c, e, _⟩ := h; exact ⟨a, c, e⟩
theorem ExAt.parts {N : Nat -> Prop} {w : World} {op s v p l u} (h : ExAt N w (.mk op s v p l) u) :
    ∃ pa pc la lc, u = .agg #[.int .i64 op, .string s, .int .i64 v.k, .int .i64 v.n, .string v.s, .slice pa p.length pc, .slice la l.length lc] /\ s.size <= mx /\ v.s.size <= mx /\ StrsAt N w (.slice pa p.length pc) p /\ ExsAt N w l (.slice la l.length lc) := by
  obtain ⟨pv, lv, rfl, h1, h2, h3, h4⟩ := ExAt.iff.1 h
  obtain ⟨pa, pc, rfl⟩ := h3.shape
  obtain ⟨la, lc, rfl⟩ := h4.shape
  exact ⟨pa, pc, la, lc, rfl, h1, h2, h3, h4⟩
theorem ExsAt.elem {N : Nat -> Prop} {w : World} {l : List Ex} {a c} (h : ExsAt N w l (.slice a l.length c)) {k : Nat} (hk : k < l.length) :
    ∃ b o yo ys yk yn yt yp yl pa pc la lc, a = some ⟨b, o, none⟩ /\ N b /\ b < w.heap.size /\ l[k] = .mk yo ys ⟨yk, yn, yt⟩ yp yl /\
      (w.cell? ⟨b, o + k * 7, none⟩ = some (.int .i64 yo) /\ w.cell? ⟨b, o + k * 7 + 1, none⟩ = some (.string ys) /\ w.cell? ⟨b, o + k * 7 + 2, none⟩ = some (.int .i64 yk) /\ w.cell? ⟨b, o + k * 7 + 3, none⟩ = some (.int .i64 yn) /\
      w.cell? ⟨b, o + k * 7 + 4, none⟩ = some (.string yt) /\ w.cell? ⟨b, o + k * 7 + 5, none⟩ = some (.slice pa yp.length pc) /\ w.cell? ⟨b, o + k * 7 + 6, none⟩ = some (.slice la yl.length lc)) /\
      ExAt N w (.mk yo ys ⟨yk, yn, yt⟩ yp yl) (.agg #[.int .i64 yo, .string ys, .int .i64 yk, .int .i64 yn, .string yt, .slice pa yp.length pc, .slice la yl.length lc]) := by
  obtain ⟨h0, a', c', e, h2⟩ := h
  cases e
  rcases h2 with rfl | ⟨b, o, rfl, hn, h3⟩
  · simp at hk
  · obtain ⟨u, ⟨c0, c1, c2, c3, c4, c5, c6, rfl, k0, k1, k2, k3, k4, k5, k6⟩, h4⟩ := h3.get hk
    cases hy : l[k] with
    | mk yo ys yv yp yl =>
      obtain ⟨yk, yn, yt⟩ := yv
      rw [hy] at h4
      obtain ⟨pa, pc, la, lc, e, _⟩ := h4.parts
      simp only [Value.agg.injEq, Array.mk.injEq, List.cons.injEq, and_true] at e
      obtain ⟨rfl, rfl, rfl, rfl, rfl, rfl, rfl⟩ := e
      exact ⟨b, o, yo, ys, yk, yn, yt, yp, yl, pa, pc, la, lc, rfl, hn, World.block_lt_of_cell? w _ k0, rfl, ⟨k0, k1, k2, k3, k4, k5, k6⟩, h4⟩
theorem hp (w : World) (o : Obj) (i : Nat) : (w.alloc o).heap[i]? = if i = w.heap.size then some o else w.heap[i]? := by
  show (w.heap.push o)[i]? = _
  rw [Array.getElem?_push]
def Bk (w : World) (g : Nat) (T : TypeId) (cs : Array Value) : Prop := w.heap[g]? = some (.cells cs T (0, 0))
theorem Bk.lt {w : World} {g T cs} (h : Bk w g T cs) : g < w.heap.size := (Array.getElem?_eq_some_iff.1 h).1
theorem Bk.keep {w w' : World} {g T cs} (h : Bk w g T cs) (hb : Below w.heap.size w w') : Bk w' g T cs := (hb.block _ h.lt).trans h
theorem Bk.but {w w' : World} {g T cs b} (h : Bk w g T cs) (hb : But b w w') (hg : g ≠ b) : Bk w' g T cs := (hb.block _ h.lt hg).trans h
theorem Bk.drew {w : World} {g T cs} (h : Bk w g T cs) : Bk w.drew g T cs := h
theorem Bk.alloc {w : World} {g T cs} (h : Bk w g T cs) (o : Obj) : Bk (w.alloc o) g T cs := h.keep (below_a o)
theorem Bk.new (w : World) (T cs) : Bk (w.alloc (.cells cs T (0, 0))) w.heap.size T cs := heap_alloc_new _ _
theorem Bk.cell {w : World} {g T cs} (h : Bk w g T cs) (i : Nat) : w.cell? ⟨g, i, none⟩ = cs[i]? := by
  unfold Bk at h
  simp [World.cell?, h]
theorem Bk.frozen {w : World} {g T cs} (h : Bk w g T cs) (i : Nat) : w.frozen? ⟨g, i, none⟩ = false := Lib.frozen_of_heap h i
theorem Bk.set {w : World} {g T cs} (h : Bk w g T cs) {p : Addr} (hp : p.block ≠ g) (v : Value) : Bk (w.setCell p v) g T cs := by
  unfold Bk at *
  rw [Below.heap_setCell _ _ _ _ (fun e => hp e.symm)]; exact h
theorem Bk.set1 {w : World} {g T cs} (h : Bk w g T cs) (i : Nat) (v : Value) : Bk (w.setCell ⟨g, i, none⟩ v) g T (cs.setIfInBounds i v) := by
  unfold Bk at *
  simp [World.setCell, Array.getElem?_modify, h]
theorem below_drew0 {B : Nat} {x w : World} (h : Below B x w) : Below B x w.drew := h.drew
theorem keepE {w1 w2 : World} {p q : Addr} {a b : Value} {w0 : World} {g : Nat} {o0 o1 o2 o3 o4 o5 o6 : Value}
    (h : Below w0.heap.size w0 w1 /\ (w1.cell? p = some a /\ w1.cell? q = some b /\ w1.frozen? p = false /\ w1.frozen? q = false) /\ (w1.cell? ⟨g, 0, none⟩ = some o0 /\ w1.cell? ⟨g, 1, none⟩ = some o1 /\ w1.cell? ⟨g, 2, none⟩ = some o2 /\ w1.cell? ⟨g, 3, none⟩ = some o3 /\ w1.cell? ⟨g, 4, none⟩ = some o4 /\ w1.cell? ⟨g, 5, none⟩ = some o5 /\ w1.cell? ⟨g, 6, none⟩ = some o6)) (hb : Below w1.heap.size w1 w2) :
    Below w0.heap.size w0 w2 /\ (w2.cell? p = some a /\ w2.cell? q = some b /\ w2.frozen? p = false /\ w2.frozen? q = false) /\ (w2.cell? ⟨g, 0, none⟩ = some o0 /\ w2.cell? ⟨g, 1, none⟩ = some o1 /\ w2.cell? ⟨g, 2, none⟩ = some o2 /\ w2.cell? ⟨g, 3, none⟩ = some o3 /\ w2.cell? ⟨g, 4, none⟩ = some o4 /\ w2.cell? ⟨g, 5, none⟩ = some o5 /\ w2.cell? ⟨g, 6, none⟩ = some o6) := by
  obtain ⟨h0, ⟨h1, h2, h3, h4⟩, k0, k1, k2, k3, k4, k5, k6⟩ := h
  have L : ∀ {p : Addr} {v : Value}, w1.cell? p = some v -> w2.cell? p = some v := fun {p v} hh => by rw [hb.cell (World.block_lt_of_cell? w1 _ hh)]; exact hh
  exact ⟨h0.trans (hb.mono h0.size), ⟨L h1, L h2, by rw [hb.frozen (World.block_lt_of_cell? w1 _ h1)]; exact h3, by rw [hb.frozen (World.block_lt_of_cell? w1 _ h2)]; exact h4⟩, L k0, L k1, L k2, L k3, L k4, L k5, L k6⟩
theorem startE {w0 : World} {p q : Addr} {a b : Value} {o0 o1 o2 o3 o4 o5 o6 : Value} (T : TypeId)
    (h1 : w0.cell? p = some a) (h2 : w0.cell? q = some b) (h3 : w0.frozen? p = false) (h4 : w0.frozen? q = false) :
    Below w0.heap.size w0 (w0.alloc (.cells #[o0, o1, o2, o3, o4, o5, o6] T (0, 0))).drew /\ ((w0.alloc (.cells #[o0, o1, o2, o3, o4, o5, o6] T (0, 0))).drew.cell? p = some a /\ (w0.alloc (.cells #[o0, o1, o2, o3, o4, o5, o6] T (0, 0))).drew.cell? q = some b /\ (w0.alloc (.cells #[o0, o1, o2, o3, o4, o5, o6] T (0, 0))).drew.frozen? p = false /\ (w0.alloc (.cells #[o0, o1, o2, o3, o4, o5, o6] T (0, 0))).drew.frozen? q = false) /\ ((w0.alloc (.cells #[o0, o1, o2, o3, o4, o5, o6] T (0, 0))).drew.cell? ⟨w0.heap.size, 0, none⟩ = some o0 /\ (w0.alloc (.cells #[o0, o1, o2, o3, o4, o5, o6] T (0, 0))).drew.cell? ⟨w0.heap.size, 1, none⟩ = some o1 /\ (w0.alloc (.cells #[o0, o1, o2, o3, o4, o5, o6] T (0, 0))).drew.cell? ⟨w0.heap.size, 2, none⟩ = some o2 /\ (w0.alloc (.cells #[o0, o1, o2, o3, o4, o5, o6] T (0, 0))).drew.cell? ⟨w0.heap.size, 3, none⟩ = some o3 /\ (w0.alloc (.cells #[o0, o1, o2, o3, o4, o5, o6] T (0, 0))).drew.cell? ⟨w0.heap.size, 4, none⟩ = some o4 /\ (w0.alloc (.cells #[o0, o1, o2, o3, o4, o5, o6] T (0, 0))).drew.cell? ⟨w0.heap.size, 5, none⟩ = some o5 /\ (w0.alloc (.cells #[o0, o1, o2, o3, o4, o5, o6] T (0, 0))).drew.cell? ⟨w0.heap.size, 6, none⟩ = some o6) := by
  have hB := (below_a (w := w0) (.cells #[o0, o1, o2, o3, o4, o5, o6] T (0, 0))).drew
  have hk : Bk (w0.alloc (.cells #[o0, o1, o2, o3, o4, o5, o6] T (0, 0))).drew w0.heap.size T #[o0, o1, o2, o3, o4, o5, o6] := (Bk.new _ _ _).drew
  refine ⟨hB, ⟨?_, ?_, ?_, ?_⟩, ?_⟩
  · rw [hB.cell (World.block_lt_of_cell? w0 _ h1)]; exact h1
  · rw [hB.cell (World.block_lt_of_cell? w0 _ h2)]; exact h2
  · rw [hB.frozen (World.block_lt_of_cell? w0 _ h1)]; exact h3
  · rw [hB.frozen (World.block_lt_of_cell? w0 _ h2)]; exact h4
  · simp only [hk.cell]; exact ⟨rfl, rfl, rfl, rfl, rfl, rfl, rfl⟩
def bigW : Nat := 1000000000
theorem ofExpr77 (n : Nat) : ∀ (x : Ex) (u : Value) (w : World), wt x <= n -> wt x <= bigW -> ExAt allN w x u ->
    Calls Tryz.prog 77 #[u] w fun e w' => e = .returned (.agg #[.int .i64 (nodes x), .int .i64 (levels x)]) /\ Below w.heap.size w w' := by
  induction n with
  | zero => intro x u w h; have := wt_pos x; omega
  | succ n ih =>
    intro x u w hn hb h
    obtain ⟨op, s, v, p, l⟩ := x
    obtain ⟨pa, pc, la, lc, rfl, h1, h2, h3, h4⟩ := h.parts
    have hlen : l.length <= 9223372036854775807 := h4.1
    have H4 := Lib.hid h4
    have hlw : wtL l <= bigW /\ wtL l <= n := by simp only [wt] at hn hb; omega
    have EN : Hid (nodes (.mk op s v p l) = 1 + nodesL l) := Lib.hid (by simp only [nodes])
    have EL : Hid (levels (.mk op s v p l) = 1 + levelsL l) := Lib.hid (by simp only [levels])
    have HLW := Lib.hid hlw
    clear h4 h3 hn hb h hlw
    go_enter Tryz.func77, Tryz.ntmps77
    go_wp2
    go_loopg [10] l.length (fun g s10 wr => ∃ k : Nat, k <= l.length /\ l.length - k <= g /\ s10 = .int .i64 k /\ Below w.heap.size w wr /\ Bk wr (w.heap.size + 1) 154 #[.int .i64 0, .int .i64 0] /\ Bk wr (w.heap.size + 2) 154 #[.int .i64 (1 + nodesL (l.take k) : Nat), .int .i64 (1 + levelsL (l.take k) : Nat)])
    case atStart =>
      refine ⟨0, Nat.zero_le _, by omega, rfl, ?_, ?_, ?_⟩
      · exact ((((Below.refl _ _).alloc (Nat.le_refl _) _).alloc (by simp) _).alloc (by simp; omega) _)
      · unfold Bk; rw [hp, if_neg (by simp), hp, if_pos (by simp)]
      · unfold Bk; rw [hp, if_pos (by simp)]; simp [nodesL, levelsL]
    case round =>
      obtain ⟨k, hk, hg, rfl, hbel, hb1, hb2⟩ := hrel
      by_cases hlt : k < l.length
      · obtain ⟨b, o, yo, ys, yk, yn, yt, yp, yl, pa', pc', la', lc', rfl, _, hblt, hy, ⟨k0, k1, k2, k3, k4, k5, k6⟩, hx⟩ := H4.out.elem hlt
        rw [<- (bcell hbel).1 _ _ hblt] at k0 k1 k2 k3 k4 k5 k6
        have HX := Lib.hid (hx.below hbel)
        have HN := Lib.hid (nodesL_take l k hlt)
        have HLv := Lib.hid (levelsL_take l k hlt)
        have hw1 : wt l[k] <= wtL l := wt_mem (List.getElem_mem hlt)
        rw [hy] at HN HLv hw1
        have hb1l := hb1.lt
        have hb2l := hb2.lt
        have hs0 := hbel.size
        have A1 := nodesL_le (l.take k)
        have A2 := levelsL_le (l.take k)
        have A3 := wtL_take l k
        have A4 := nodes_le (.mk yo ys ⟨yk, yn, yt⟩ yp yl)
        have A5 := levels_le (.mk yo ys ⟨yk, yn, yt⟩ yp yl)
        have A6 : wtL l <= 1000000000 := HLW.out.1
        have A7 := HLW.out.2
        have I := Lib.hid (fun u w (h : ExAt allN w (.mk yo ys ⟨yk, yn, yt⟩ yp yl) u) => ih _ u w (by omega) (by unfold bigW; omega) h)
        generalize hnt : nodesL (l.take k) = nt at *
        generalize hlt2 : levelsL (l.take k) = lt at *
        generalize hnx : nodes (.mk yo ys ⟨yk, yn, yt⟩ yp yl) = ny at *
        generalize hlx : levels (.mk yo ys ⟨yk, yn, yt⟩ yp yl) = ly at *
        have HE := Lib.hid (And.intro hnt (And.intro hlt2 (And.intro hnx hlx)))
        have HB := Lib.hid (And.intro hbel (And.intro hb1 hb2))
        clear ih hx hy hnt hlt2 hnx hlx hb1 hbel
        have d0 := hb2.cell 0
        have d1 := hb2.cell 1
        have f0 := hb2.frozen 0
        have f1 := hb2.frozen 1
        simp at d0 d1
        clear hb2
        go_wp2_with fail
        have hS := startE (o0 := .int .i64 yo) (o1 := .string ys) (o2 := .int .i64 yk) (o3 := .int .i64 yn) (o4 := .string yt) (o5 := .slice pa' yp.length pc') (o6 := .slice la' yl.length lc') 55 d0 d1 f0 f1
        clear d0 d1 f0 f1
        go_region_with (first
            | (go_at_call 77; refine (I.out _ _ (HX.out.below (And.left (by assumption)))).mono ?_; rintro e w' ⟨rfl, hb⟩; have hS' := keepE (by assumption) hb; clear hb)
            | (go_at_call 137; refine (sizeIn137 _ _ _ _ _ ?_ ?_ ?_ ?_).mono ?_; omega; omega; omega; omega; rintro e w' ⟨rfl, hb⟩; have hS' := keepE (by assumption) hb; clear hb))
        all_goals
          go_wp2
          go_roundg (l.length - (k + 1))
          case measure => omega
          case rel =>
            obtain ⟨hB, -⟩ : Below wr.heap.size wr w' /\ _ := by assumption
            obtain ⟨e1, e2, e3, e4⟩ := HE.out
            refine ⟨k + 1, by omega, by omega, by go_num, ?_, ?_, ?_⟩
            · exact ((HB.out.1.trans (hB.mono hs0)).setCell (by simp; omega) _).setCell (by simp; omega) _
            · exact ((HB.out.2.1.keep hB).set (by simp) _).set (by simp) _
            · have := ((HB.out.2.2.keep hB).set1 0 (.int .i64 (1 + ↑nt + ↑ny))).set1 1 (.int .i64 (max (1 + ↑lt) (↑ly + 1)))
              rw [HN.out, HLv.out]
              rw [show ((1 + (nt + ny) : Nat) : Int) = 1 + ↑nt + ↑ny by omega, show ((1 + max lt ly : Nat) : Int) = max (1 + ↑lt) (↑ly + 1) by omega]
              exact this
      · have hkl : k = l.length := by omega
        subst hkl
        rw [List.take_length] at hb2
        have d0 := hb2.cell 0
        have d1 := hb2.cell 1
        simp at d0 d1
        have e0 := hb1.cell 0
        have e1 := hb1.cell 1
        simp at e0 e1
        have f0 := (hb1.frozen 0)
        have f1 := (hb1.frozen 1)
        have := hb1.lt
        have := hb2.lt
        have HB := Lib.hid (And.intro hbel (And.intro hb1 hb2))
        clear hb1 hb2
        go_wp2
        have g0 : (wr.setCell ⟨w.heap.size + 1, 0, none⟩ (.int .i64 (1 + ↑(nodesL l)))).cell? ⟨w.heap.size + 1, 0, none⟩ = some (.int .i64 (1 + ↑(nodesL l))) := (HB.out.2.1.set1 0 _).cell 0
        have g1 : ((wr.setCell ⟨w.heap.size + 1, 0, none⟩ (.int .i64 (1 + ↑(nodesL l)))).setCell ⟨w.heap.size + 1, 1, none⟩ (.int .i64 (1 + ↑(levelsL l)))).cell? ⟨w.heap.size + 1, 1, none⟩ = some (.int .i64 (1 + ↑(levelsL l))) := ((HB.out.2.1.set1 0 _).set1 1 _).cell 1
        (try simp only [Exit.inBlock, Exit.then])
        refine bodyPost_ret (by simp [results, Tryz.results77, go_sem, g0, g1]; try rfl) rfl ?_
        refine ⟨?_, ?_⟩
        · rw [EN.out, EL.out, Int.natCast_add, Int.natCast_add]; rfl
        · exact (hbel.setCell (by simp) _).setCell (by simp) _
open Go.Shelf
theorem Tryz.contains_one (s : ByteArray) (c : UInt8) (w : World) :
    Calls Tryz.prog 297 #[.string s, .string ⟨#[c]⟩] w fun e w' => e = .returned (.bool (decide (0 <= Lib.indexByte s.data.toList c))) /\ w' = w := Any.strings_Contains_one Tryz.lays144 s c w
theorem Tryz.trim (s cutset : ByteArray) (w : World) (hs : s.size <= 9223372036854775807) (hcs : cutset.size < 4294967281)
    (hascii : ∀ (j : Nat) b, cutset.data.toList[j]? = some b -> b.toNat < 128) :
    Calls Tryz.prog 52 #[.string s, .string cutset] w fun e w' => e = .returned (.string ⟨(Lib.trimS s.data.toList cutset.data.toList).toArray⟩) /\ Below w.heap.size w w' := Any.strings_Trim_laid Tryz.lays160 (by kernel_rfl) s cutset w hs hcs hascii
def cutS : ByteArray := ⟨#[65, 66, 67, 68, 69, 70, 71, 72, 73, 74, 75, 76, 77, 78, 79, 80, 81, 82, 83, 84, 85, 86, 87, 88, 89, 90, 48, 49, 50, 51, 52, 53, 54, 55, 56, 57, 95]⟩
theorem cut_has (c : UInt8) : cutS.data.toList.contains c = (upB c || digB c) := by
  have H : ∀ n : Fin 256, cutS.data.toList.contains (UInt8.ofNat n.val) = (upB (UInt8.ofNat n.val) || digB (UInt8.ofNat n.val)) := by decide +kernel
  have := H ⟨c.toNat, UInt8.toNat_lt c⟩
  simpa using this
theorem dropWhile_nil {p : UInt8 -> Bool} : ∀ {l : List UInt8}, l.dropWhile p = [] ↔ l.all p = true
  | [] => by simp
  | c :: l => by
    rw [List.dropWhile_cons]
    cases h : p c <;> simp [h, dropWhile_nil]
theorem trim_nil (l cs : List UInt8) : Lib.trimS l cs = [] ↔ l.all (cs.contains ·) = true := by
  unfold Lib.trimS Lib.trimLeftS Lib.trimRightS
  rw [dropWhile_nil]
  constructor
  · intro h
    by_cases hn : l.reverse.dropWhile (cs.contains ·) = []
    · have := dropWhile_nil.1 hn
      simpa using this
    · exfalso
      have h1 := List.head_dropWhile_not (p := (cs.contains ·)) (l := l.reverse) hn
      have h2 := List.all_eq_true.1 h _ (List.mem_reverse.2 (List.head_mem hn))
      rw [h2] at h1; cases h1
  · intro h
    have : l.reverse.dropWhile (cs.contains ·) = [] := dropWhile_nil.2 (by simpa using h)
    rw [this]; rfl
theorem toList_nil {s : ByteArray} : s.toList = [] ↔ s.size = 0 := by
  rw [Lib.toList_data, Lib.size_eq, List.length_eq_zero_iff]
theorem nameB_no (s : ByteArray) (h : s.toList = [] \/ (10 : Int) < s.size \/ ∃ h : 0 < s.size, 48 <= (s[0].toNat : Int) /\ (s[0].toNat : Int) <= 57) : nameB s = false := by
  unfold nameB
  rcases h with h | h | ⟨h, h1, h2⟩
  · rw [toList_nil] at h; simp [h]
  · have : decide (s.size <= 10) = false := decide_eq_false (by omega)
    simp [this]
  · obtain ⟨⟨l⟩⟩ := s
    cases l with
    | nil => cases h
    | cons c r =>
      have e : (ByteArray.mk ⟨c :: r⟩)[0] = c := rfl
      rw [e] at h1 h2
      have a1 : (48 : UInt8) <= c := by rw [UInt8.le_iff_toNat_le]; show 48 <= c.toNat; omega
      have a2 : c <= (57 : UInt8) := by rw [UInt8.le_iff_toNat_le]; show c.toNat <= 57; omega
      have : digB c = true := by simp [digB, a1, a2]
      simp [this]
theorem nameB_yes (s : ByteArray) (h : ¬ s.toList = []) (h1 : (s.size : Int) <= 10) (h0 : 0 < s.size) (h2 : (s[0].toNat : Int) < 48 \/ 57 < (s[0].toNat : Int)) : nameB s = (Lib.trimS s.data.toList cutS.data.toList).isEmpty := by
  have e : (Lib.trimS s.data.toList cutS.data.toList).isEmpty = s.data.toList.all (fun c => upB c || digB c) := by
    have := trim_nil s.data.toList cutS.data.toList
    simp only [cut_has] at this
    rw [Bool.eq_iff_iff, List.isEmpty_iff, this]
  rw [e]
  unfold nameB
  obtain ⟨⟨l⟩⟩ := s
  cases l with
  | nil => cases h0
  | cons c r =>
    have e : (ByteArray.mk ⟨c :: r⟩)[0] = c := rfl
    rw [e] at h2
    have hd : digB c = false := by
      rw [Bool.eq_false_iff]; intro hc
      simp only [digB, Bool.and_eq_true, decide_eq_true_eq, UInt8.le_iff_toNat_le] at hc
      have a : 48 <= c.toNat := hc.1
      have b : c.toNat <= 57 := hc.2
      omega
    have a1 : decide (1 <= (ByteArray.mk ⟨c :: r⟩).size) = true := decide_eq_true (by omega)
    have a2 : decide ((ByteArray.mk ⟨c :: r⟩).size <= 10) = true := decide_eq_true (by omega)
    rw [a1, a2]
    simp [hd]
theorem isName29 (s : ByteArray) (w : World) (hs : s.size <= 9223372036854775807) :
    Calls Tryz.prog 29 #[.string s] w fun e w' => e = .returned (.bool (nameB s)) /\ Below w.heap.size w w' := by
  have T := Lib.hid (fun w => Tryz.trim s cutS w hs (by decide) (ascii_of_all (by decide +kernel)))
  by_cases hz : s.size = 0
  · have hE : s.toList.isEmpty = true := by simp [toList_nil, hz]
    have hN := nameB_no s (.inl (toList_nil.2 hz))
    go_enter Tryz.func29, Tryz.ntmps29
    go_wp2
    go_ret
    exact ⟨ret_bool hN.symm, Below.refl _ _⟩
  · have hE : s.toList.isEmpty = false := by simp [toList_nil, hz]
    have hn : ¬ s.toList = [] := by rw [toList_nil]; exact hz
    have hp : 0 < s.size := by omega
    have N1 := Lib.hid (nameB_no s)
    have N2 := Lib.hid (nameB_yes s hn)
    clear hn hz
    go_enter Tryz.func29, Tryz.ntmps29
    go_wp2_with (first | (go_at_call 52; refine (T.out _).mono ?_; rintro e w' ⟨rfl, hb⟩))
    all_goals (go_ret; refine ⟨ret_bool ?_, by first | assumption | exact Below.refl _ _⟩)
    all_goals first
      | exact (N1.out (by first | (right; left; omega) | (right; right; exact ⟨hp, by omega, by omega⟩))).symm
      | exact (N2.out (by omega) hp (by omega)).symm
      | trace_state
theorem isName140 (s : ByteArray) (w : World) (hs : s.size <= 9223372036854775807) :
    Calls Tryz.prog 140 #[.string s] w fun e w' => e = .returned (.bool (nameB s)) /\ Below w.heap.size w w' := by
  go_enter Tryz.func140, Tryz.ntmps140
  go_wp2_with (first | (go_at_call 29; refine (isName29 s _ hs).mono ?_; rintro e w' ⟨rfl, hb⟩))
  go_ret
  exact ⟨rfl, hb⟩
theorem all_take {α : Type} (f : α -> Bool) (l : List α) (k : Nat) (h : k < l.length) (ha : (l.take k).all f = true) (hb : f l[k] = true) : (l.take (k + 1)).all f = true := by
  rw [List.take_add_one, List.all_append, ha]
  simp [List.getElem?_eq_getElem h, hb]
theorem all_not {α : Type} (f : α -> Bool) (l : List α) (k : Nat) (h : k < l.length) (hb : f l[k] = false) : l.all f = false := by
  rw [Bool.eq_false_iff]; intro hh
  have := List.all_eq_true.1 hh _ (List.getElem_mem h)
  rw [this] at hb; cases hb
theorem StrsAt.elem {N : Nat -> Prop} {w : World} {p : List ByteArray} {a c} (h : StrsAt N w (.slice a p.length c) p) {k : Nat} (hk : k < p.length) :
    ∃ b o, a = some ⟨b, o, none⟩ /\ N b /\ b < w.heap.size /\ w.cell? ⟨b, o + k, none⟩ = some (.string p[k]) /\ p[k].size <= mx := by
  obtain ⟨h0, h1, a', c', e, h2⟩ := h
  cases e
  rcases h2 with rfl | ⟨b, o, rfl, hn, h3⟩
  · simp at hk
  · have := h3 k hk
    rw [show p.getD k ByteArray.empty = p[k] by simp [List.getD, hk]] at this
    exact ⟨b, o, rfl, hn, World.block_lt_of_cell? w _ this, this, h1 _ (List.getElem_mem hk)⟩
theorem areNames142 (p : List ByteArray) (v : Value) (w : World) (h : StrsAt allN w v p) :
    Calls Tryz.prog 142 #[v] w fun e w' => e = .returned (.bool (p.all nameB)) /\ Below w.heap.size w w' := by
  obtain ⟨a, c, rfl⟩ := h.shape
  have hlen : p.length <= 9223372036854775807 := h.1
  have H := Lib.hid h
  clear h
  go_enter Tryz.func142, Tryz.ntmps142
  go_wp2
  go_loopg [8] p.length (fun g s8 wr => ∃ k : Nat, k <= p.length /\ p.length - k <= g /\ s8 = .int .i64 k /\ (p.take k).all nameB = true /\ Below w.heap.size w wr)
  case atStart => exact ⟨0, Nat.zero_le _, by omega, rfl, rfl, Below.refl _ _⟩
  case round =>
    obtain ⟨k, hk, hg, rfl, hall, hbel⟩ := hrel
    replace hall := Lib.hid hall
    by_cases hlt : k < p.length
    · obtain ⟨b, o, rfl, -, hbl, hc, hz⟩ := H.out.elem hlt
      rw [<- (bcell hbel).1 _ _ hbl] at hc
      have hz : p[k].size <= 9223372036854775807 := hz
      have HP := Lib.hid (all_take nameB p k hlt)
      have HN := Lib.hid (all_not nameB p k hlt)
      generalize p[k] = s at *
      by_cases hn : nameB s = true
      · go_wp2_with (first | (go_at_call 140; refine (isName140 s _ hz).mono ?_; rintro e w' ⟨rfl, hb⟩; rw [hn]) | go_in)
        go_roundg (p.length - (k + 1))
        case measure => omega
        case rel => exact ⟨k + 1, by omega, by omega, by go_num, HP.out hall.out hn, hbel.trans (hb.mono hbel.size)⟩
      · have hn : nameB s = false := by simpa using hn
        go_wp2_with (first | (go_at_call 140; refine (isName140 s _ hz).mono ?_; rintro e w' ⟨rfl, hb⟩; rw [hn]) | go_in)
        go_ret
        exact ⟨ret_bool (HN.out hn).symm, hbel.trans (hb.mono hbel.size)⟩
    · have hkl : k = p.length := by omega
      subst hkl
      go_wp2
      go_ret
      exact ⟨ret_bool (by have := hall.out; rw [List.take_length] at this; exact this.symm), hbel⟩
theorem has_index (s : ByteArray) (c : UInt8) : decide (0 <= Lib.indexByte s.data.toList c) = s.data.toList.contains c := by
  rw [Lib.contains_iff_indexByte]
theorem chr_no (c : UInt8) (h1 : ¬ (c.toNat : Int) = 9) (h2 : (c.toNat : Int) < 32 \/ 126 < (c.toNat : Int)) : chrB c = false := by
  rw [Bool.eq_false_iff]; intro h
  simp only [chrB, Bool.or_eq_true, beq_iff_eq, Bool.and_eq_true, decide_eq_true_eq, UInt8.le_iff_toNat_le] at h
  rcases h with h | ⟨h, h'⟩
  · subst h; exact h1 rfl
  · have : 32 <= c.toNat := h
    have : c.toNat <= 126 := h'
    omega
theorem chr_yes (c : UInt8) (h : (c.toNat : Int) = 9 \/ (32 <= (c.toNat : Int) /\ (c.toNat : Int) <= 126)) : chrB c = true := by
  simp only [chrB, Bool.or_eq_true, beq_iff_eq, Bool.and_eq_true, decide_eq_true_eq, UInt8.le_iff_toNat_le]
  rcases h with h | ⟨h, h'⟩
  · left; apply UInt8.toNat_inj.1; show c.toNat = 9; omega
  · right; exact ⟨by show 32 <= c.toNat; omega, by show c.toNat <= 126; omega⟩
theorem conv_bytes (s : ByteArray) (w : World) : ∃ c W, (convert 9 350 (.string s)).run Tryz.prog w = .ok (.slice (some ⟨w.heap.size, 0, none⟩) s.size c) W /\ Below w.heap.size w W /\ ∀ j, j < s.size -> W.cell? ⟨w.heap.size, j, none⟩ = some (.int .u8 (s.data.toList.getD j 0).toNat) := by
  refine ⟨_, _, Lib.run_convert_string_bytes (P := Tryz.prog) w 9 350 5 s (u := .string) Tryz.underlying9 Tryz.underlying350 Tryz.underlying5, ⟨rfl, rfl, rfl, ?_, fun k hk => Lib.bytesWorld_at_old _ _ _ _ hk⟩, fun j hj => Lib.bytesWorld_cell w 5 s j hj⟩
  rw [Lib.bytesWorld_size]; omega
theorem isText221 (s : ByteArray) (w : World) (hs : s.size <= 9223372036854775807) :
    Calls Tryz.prog 221 #[.string s] w fun e w' => e = .returned (.bool (decide (s.size <= 2048) && textB s)) /\ Below w.heap.size w w' := by
  obtain ⟨cp, W, hcv, hB, hcells⟩ := conv_bytes s w
  have HC := Lib.hid hcells
  have hW := hB.size
  clear hcells
  go_enter Tryz.func221, Tryz.ntmps221
  go_wp2
  have hl := Lib.hid (Lib.size_eq s)
  go_loopg [8] s.size (fun g s8 wr => ∃ k : Nat, k <= s.size /\ s.size - k <= g /\ s8 = .int .i64 k /\ (s.data.toList.take k).all chrB = true /\ wr = W)
  case atStart => exact ⟨0, Nat.zero_le _, by omega, rfl, rfl, rfl⟩
  case round =>
    obtain ⟨k, hk, hg, rfl, hall, rfl⟩ := hrel
    replace hall := Lib.hid hall
    by_cases hlt : k < s.size
    · have hlt' : k < s.data.toList.length := by rw [<- hl.out]; exact hlt
      have hc := HC.out k hlt
      rw [show s.data.toList.getD k 0 = s.data.toList[k] by simp only [List.getD, List.getElem?_eq_getElem hlt', Option.getD_some]] at hc
      have HP := Lib.hid (all_take chrB s.data.toList k hlt')
      have HN := Lib.hid (all_not chrB s.data.toList k hlt')
      generalize s.data.toList[k] = ch at *
      have hn0 := Lib.hid (chr_no ch)
      have hn1 := Lib.hid (chr_yes ch)
      generalize hch : ch.toNat = cn at *
      clear hlt'
      replace hch := Lib.hid hch
      by_cases h9 : (cn : Int) = 9
      · have hb9 : ((cn : Int) != 9) = false := by simp [h9]
        replace h9 := Lib.hid h9
        go_wp2
        go_roundg (s.size - (k + 1))
        case measure => omega
        case rel => exact ⟨k + 1, by omega, by omega, by go_num, HP.out hall.out (hn1.out (.inl h9.out)), rfl⟩
      · have hb9 : ((cn : Int) != 9) = true := by simp [h9]
        replace h9 := Lib.hid h9
        go_wp2
        all_goals first
          | (go_ret
             exact ⟨ret_bool (by rw [show textB s = false by unfold textB; rw [HN.out (hn0.out h9.out (by omega))]; rfl, Bool.and_false]), hB⟩)
          | (go_roundg (s.size - (k + 1))
             case measure => omega
             case rel => exact ⟨k + 1, by omega, by omega, by go_num, HP.out hall.out (hn1.out (.inr (by omega))), rfl⟩)
          | trace_state
    · have hkl : k = s.size := by omega
      subst hkl
      have hT : Hid (textB s = !(s.data.toList.contains 34 && s.data.toList.contains 39)) := Lib.hid (by
        have := hall.out; rw [hl.out, List.take_length] at this
        unfold textB; rw [this, Bool.true_and])
      have c1 := Lib.hid (Tryz.contains_one s 34)
      have c2 := Lib.hid (Tryz.contains_one s 39)
      rw [has_index] at c1 c2
      generalize s.data.toList.contains 34 = b1 at *
      generalize s.data.toList.contains 39 = b2 at *
      go_wp2_with (first | (go_at_call 297; first | (refine (c1.out _).mono ?_; rintro e w' ⟨rfl, rfl⟩) | (refine (c2.out _).mono ?_; rintro e w' ⟨rfl, rfl⟩)))
      all_goals
        go_ret
        refine ⟨ret_bool ?_, by assumption⟩
        rw [hT.out]
        clear hT hall hl HC hcv c1 c2
        first
          | (have h : decide (s.size <= 2048) = true := decide_eq_true (by omega)
             rw [h]; simp_all; done)
          | (have h : decide (s.size <= 2048) = false := decide_eq_false (by omega)
             rw [h]; rfl)
theorem empty_eq {s : ByteArray} : s.toList.isEmpty = decide (s = ByteArray.empty) := by
  rw [Lib.toList_data, Bool.eq_iff_iff, List.isEmpty_iff, decide_eq_true_eq]
  constructor
  · intro h
    obtain ⟨⟨l⟩⟩ := s
    have : l = [] := h
    subst this; rfl
  · intro h; subst h; rfl
theorem isConst139 (v : Vl) (w : World) (hs : v.s.size <= 9223372036854775807) :
    Calls Tryz.prog 139 #[v.v] w fun e w' => e = .returned (.bool (constB v)) /\ Below w.heap.size w w' := by
  obtain ⟨k, n, s⟩ := v
  unfold Vl.v
  go_enter Tryz.func139, Tryz.ntmps139
  go_wp2_with (first | (go_at_call 221; refine (isText221 s _ hs).mono ?_; rintro e w' ⟨rfl, hb⟩))
  all_goals (go_ret; refine ⟨ret_bool ?_, ?_⟩)
  all_goals first
    | exact below_a _
    | exact (below_a _).trans (hb.mono (by simp))
    | (try rw [empty_eq]
       simp only [beq_iff_eq, beq_eq_false_iff_ne, ne_eq] at *
       subst_vars
       first
         | (simp [constB, *]; done)
         | (simp [constB, *]; try (intros; omega))
         | trace_state)
theorem bytes_beq {a b : ByteArray} : (a.toList == b.toList) = decide (a = b) := by
  by_cases h : a = b
  · subst h; simp
  · have : (a.toList == b.toList) = false := by rw [Bool.eq_false_iff]; intro e; exact h ((Lib.bytes_beq_iff _ _).1 e)
    rw [this, decide_eq_false h]
theorem any_take {α : Type} (f : α -> Bool) (l : List α) (k : Nat) (h : k < l.length) (ha : (l.take k).any f = false) (hb : f l[k] = false) : (l.take (k + 1)).any f = false := by
  rw [List.take_add_one, List.any_append, ha]
  simp [List.getElem?_eq_getElem h, hb]
theorem any_yes {α : Type} (f : α -> Bool) (l : List α) (k : Nat) (h : k < l.length) (hb : f l[k] = true) : l.any f = true :=
  List.any_eq_true.2 ⟨_, List.getElem_mem h, hb⟩
theorem contains222 (p : List ByteArray) (v : Value) (x : ByteArray) (w : World) (h : StrsAt allN w v p) :
    Calls Tryz.prog 222 #[v, .string x] w fun e w' => e = .returned (.bool (p.any fun a => decide (a = x))) /\ w' = w := by
  obtain ⟨a, c, rfl⟩ := h.shape
  have hlen : p.length <= 9223372036854775807 := h.1
  have H := Lib.hid h
  clear h
  go_enter Tryz.func222, Tryz.ntmps222
  go_wp2
  go_loopg [8] p.length (fun g s8 wr => ∃ k : Nat, k <= p.length /\ p.length - k <= g /\ s8 = .int .i64 k /\ (p.take k).any (fun a => decide (a = x)) = false /\ wr = w)
  case atStart => exact ⟨0, Nat.zero_le _, by omega, rfl, rfl, rfl⟩
  case round =>
    obtain ⟨k, hk, hg, rfl, hall, rfl⟩ := hrel
    replace hall := Lib.hid hall
    by_cases hlt : k < p.length
    · obtain ⟨b, o, rfl, -, hbl, hc, hz⟩ := H.out.elem hlt
      clear hz
      have HP := Lib.hid (any_take (fun a => decide (a = x)) p k hlt)
      have HN := Lib.hid (any_yes (fun a => decide (a = x)) p k hlt)
      generalize p[k] = s at *
      by_cases hx : s = x
      · have hE : (x.toList == s.toList) = true := by rw [bytes_beq]; simp [hx]
        replace hx := Lib.hid hx
        go_wp2
        go_ret
        exact ⟨ret_bool (HN.out (by simp [hx.out])).symm, rfl⟩
      · have hE : (x.toList == s.toList) = false := by rw [bytes_beq]; simp [Ne.symm hx]
        replace hx := Lib.hid hx
        go_wp2
        go_roundg (p.length - (k + 1))
        case measure => omega
        case rel => exact ⟨k + 1, by omega, by omega, by go_num, HP.out hall.out (by simp [hx.out]), rfl⟩
    · have hkl : k = p.length := by omega
      subst hkl
      go_wp2
      go_ret
      exact ⟨ret_bool (by have := hall.out; rw [List.take_length] at this; exact this.symm), rfl⟩
def OpsC : Prop := ∀ w : World, Calls Tryz.prog 223 #[] w fun e w' => ∃ v, e = .returned v /\ StrsAt allN w' v opsL /\ Below w.heap.size w w'
theorem isOperator141 (O : OpsC) (s : ByteArray) (w : World) :
    Calls Tryz.prog 141 #[.string s] w fun e w' => e = .returned (.bool (opB s)) /\ Below w.heap.size w w' := by
  have O := Lib.hid O
  go_enter Tryz.func141, Tryz.ntmps141
  go_wp2_with (first | (go_at_call 223; refine (O.out _).mono ?_; rintro e w' ⟨v, rfl, hv, hb⟩; obtain ⟨a, c, rfl⟩ := hv.shape) | (go_at_call 222; refine (contains222 _ _ _ _ hv).mono ?_; rintro e w'' ⟨rfl, rfl⟩))
  go_ret
  exact ⟨rfl, hb⟩
theorem allEx_eq : ∀ l : List Ex, allEx l = l.all isEx
  | [] => by simp [allEx]
  | x :: r => by simp [allEx, allEx_eq r]
theorem areExprs138 (n : Nat) (ih : ∀ (x : Ex) (u : Value) (w : World), wt x <= n -> ExAt allN w x u -> Calls Tryz.prog 78 #[u] w fun e w' => e = .returned (.bool (isEx x)) /\ Below w.heap.size w w')
    (l : List Ex) (v : Value) (w : World) (hn : wtL l <= n) (h : ExsAt allN w l v) :
    Calls Tryz.prog 138 #[v] w fun e w' => e = .returned (.bool (allEx l)) /\ Below w.heap.size w w' := by
  obtain ⟨a, c, rfl⟩ := h.shape
  have hlen : l.length <= 9223372036854775807 := h.1
  have H := Lib.hid h
  rw [allEx_eq]
  clear h
  go_enter Tryz.func138, Tryz.ntmps138
  go_wp2
  go_loopg [8] l.length (fun g s8 wr => ∃ k : Nat, k <= l.length /\ l.length - k <= g /\ s8 = .int .i64 k /\ (l.take k).all isEx = true /\ Below w.heap.size w wr)
  case atStart => exact ⟨0, Nat.zero_le _, by omega, rfl, rfl, Below.refl _ _⟩
  case round =>
    obtain ⟨k, hk, hg, rfl, hall, hbel⟩ := hrel
    replace hall := Lib.hid hall
    by_cases hlt : k < l.length
    · obtain ⟨b, o, yo, ys, yk, yn, yt, yp, yl, pa', pc', la', lc', rfl, _, hblt, hy, ⟨k0, k1, k2, k3, k4, k5, k6⟩, hx⟩ := H.out.elem hlt
      rw [<- (bcell hbel).1 _ _ hblt] at k0 k1 k2 k3 k4 k5 k6
      have HX := Lib.hid (hx.below hbel)
      have HP := Lib.hid (all_take isEx l k hlt)
      have HN := Lib.hid (all_not isEx l k hlt)
      have hw1 : wt l[k] <= wtL l := wt_mem (List.getElem_mem hlt)
      rw [hy] at HP HN hw1
      have I := Lib.hid (fun u w (h : ExAt allN w (.mk yo ys ⟨yk, yn, yt⟩ yp yl) u) => ih _ u w (by omega) h)
      clear ih hx hy hn hw1
      generalize isEx (.mk yo ys ⟨yk, yn, yt⟩ yp yl) = bx at *
      cases bx with
      | true =>
        go_wp2_with (first | (go_at_call 78; refine (I.out _ _ (HX.out.below (below_a _))).mono ?_; rintro e w' ⟨rfl, hb⟩) | go_in)
        go_roundg (l.length - (k + 1))
        case measure => omega
        case rel => exact ⟨k + 1, by omega, by omega, by go_num, HP.out hall.out (by first | rfl | trivial), hbel.trans (((below_a _).trans (hb.mono (by simp))).mono hbel.size)⟩
      | false =>
        go_wp2_with (first | (go_at_call 78; refine (I.out _ _ (HX.out.below (below_a _))).mono ?_; rintro e w' ⟨rfl, hb⟩) | go_in)
        go_ret
        exact ⟨ret_bool (HN.out (by first | rfl | trivial)).symm, hbel.trans (((below_a _).trans (hb.mono (by simp))).mono hbel.size)⟩
    · have hkl : k = l.length := by omega
      subst hkl
      go_wp2
      go_ret
      exact ⟨ret_bool (by have := hall.out; rw [List.take_length] at this; exact this.symm), hbel⟩
theorem Bk7 {w : World} {g T} {o0 o1 o2 o3 o4 o5 o6 : Value} (h : Bk w g T #[o0, o1, o2, o3, o4, o5, o6]) :
    w.cell? ⟨g, 0, none⟩ = some o0 /\ w.cell? ⟨g, 1, none⟩ = some o1 /\ w.cell? ⟨g, 2, none⟩ = some o2 /\ w.cell? ⟨g, 3, none⟩ = some o3 /\ w.cell? ⟨g, 4, none⟩ = some o4 /\ w.cell? ⟨g, 5, none⟩ = some o5 /\ w.cell? ⟨g, 6, none⟩ = some o6 := by
  simp only [h.cell]; exact ⟨rfl, rfl, rfl, rfl, rfl, rfl, rfl⟩
theorem below_aa (w : World) (o o' : Obj) : Below w.heap.size w ((w.alloc o).alloc o') := (below_a _).trans ((below_a _).mono (by simp))
theorem nc0 {n : Nat} : (n : Int) = 0 ↔ n = 0 := by omega
theorem nc1 {n : Nat} : (n : Int) = 1 ↔ n = 1 := by omega
theorem nc2 {n : Nat} : (n : Int) = 2 ↔ n = 2 := by omega
theorem nc3 {n : Nat} : (1 : Int) <= (n : Int) ↔ 1 <= n := by omega
theorem nb0 {n : Nat} : ((n : Int) == 0) = decide (n = 0) := by rw [Bool.eq_iff_iff]; simp
theorem nb1 {n : Nat} : ((n : Int) == 1) = decide (n = 1) := by rw [Bool.eq_iff_iff]; simp; omega
theorem nb2 {n : Nat} : ((n : Int) == 2) = decide (n = 2) := by rw [Bool.eq_iff_iff]; simp; omega
theorem nb3 {n : Nat} : decide ((1 : Int) <= (n : Int)) = decide (1 <= n) := by rw [Bool.eq_iff_iff]; simp; omega
theorem is_minus {s : ByteArray} : s.toList = [45] ↔ s = sMinus := by
  have := Lib.bytes_beq_iff s sMinus; rw [beq_iff_eq] at this; rw [<- this, Lib.toList_data, Lib.toList_data]; exact Iff.rfl
theorem is_not {s : ByteArray} : s.toList = [46, 78, 79, 84, 46] ↔ s = sNot := by
  have := Lib.bytes_beq_iff s sNot; rw [beq_iff_eq] at this; rw [<- this, Lib.toList_data, Lib.toList_data]; exact Iff.rfl
theorem size_zero' {s : ByteArray} : s.size = 0 ↔ s = ByteArray.empty := by
  rw [<- toList_nil]; have := @empty_eq s; rw [Bool.eq_iff_iff, List.isEmpty_iff, decide_eq_true_eq] at this; exact this
theorem isExpr78 (O : OpsC) (n : Nat) : ∀ (x : Ex) (u : Value) (w : World), wt x <= n -> ExAt allN w x u -> Calls Tryz.prog 78 #[u] w fun e w' => e = .returned (.bool (isEx x)) /\ Below w.heap.size w w' := by
  induction n with
  | zero => intro x u w h; have := wt_pos x; omega
  | succ n ih =>
    intro x u w hn h
    obtain ⟨op, s, v, p, l⟩ := x
    obtain ⟨pa, pc, la, lc, rfl, h1, h2, h3, h4⟩ := h.parts
    obtain ⟨vk, vn, vs⟩ := v
    have hs : s.size <= 9223372036854775807 := h1
    have hvs : vs.size <= 9223372036854775807 := h2
    have hpl : p.length <= 9223372036854775807 := h3.1
    have hll : l.length <= 9223372036854775807 := h4.1
    have hwl : wtL l <= n := by simp only [wt] at hn; omega
    have H3 := Lib.hid h3
    have H4 := Lib.hid h4
    have A := Lib.hid (fun w' (hb : Below w.heap.size w w') => areExprs138 n ih l _ w' hwl (h4.below hb))
    have IN := Lib.hid (isName140 s · hs)
    have IC := Lib.hid (fun w => isConst139 ⟨vk, vn, vs⟩ w hvs)
    have IQ := Lib.hid (isOperator141 O s)
    have IP := Lib.hid (fun w' (hb : Below w.heap.size w w') => areNames142 p _ w' (h3.below hb))
    clear ih h3 h4 h h1 h2 hn hwl hs hvs
    simp only [isEx]
    generalize allEx l = al at *
    unfold Vl.v at IC
    go_enter Tryz.func78, Tryz.ntmps78
    go_wp2_with (first
      | (go_at_call 138; refine (A.out _ (below_aa _ _ _)).mono ?_; rintro e w' ⟨rfl, hb⟩; have hk := Lib.hid (Bk.keep (Bk.alloc (Bk.new _ _ _) _) hb); obtain ⟨k0, k1, k2, k3, k4, k5, k6⟩ := Bk7 hk.out; replace hb := (below_aa _ _ _).trans (hb.mono (by simp; omega)))
      | (go_at_call 139; refine (IC.out _).mono ?_; rintro e w' ⟨rfl, hc⟩; have hk2 := Lib.hid (Bk.keep hk.out hc); clear k0 k1 k2 k3 k4 k5 k6 hk; have hk := hk2; clear hk2; obtain ⟨k0, k1, k2, k3, k4, k5, k6⟩ := Bk7 hk.out; replace hb := hb.trans (hc.mono hb.size); clear hc)
      | (go_at_call 140; refine (IN.out _).mono ?_; rintro e w' ⟨rfl, hc⟩; have hk2 := Lib.hid (Bk.keep hk.out hc); clear k0 k1 k2 k3 k4 k5 k6 hk; have hk := hk2; clear hk2; obtain ⟨k0, k1, k2, k3, k4, k5, k6⟩ := Bk7 hk.out; replace hb := hb.trans (hc.mono hb.size); clear hc)
      | (go_at_call 141; refine (IQ.out _).mono ?_; rintro e w' ⟨rfl, hc⟩; have hk2 := Lib.hid (Bk.keep hk.out hc); clear k0 k1 k2 k3 k4 k5 k6 hk; have hk := hk2; clear hk2; obtain ⟨k0, k1, k2, k3, k4, k5, k6⟩ := Bk7 hk.out; replace hb := hb.trans (hc.mono hb.size); clear hc)
      | (go_at_call 142; refine (IP.out _ hb).mono ?_; rintro e w' ⟨rfl, hc⟩; have hk2 := Lib.hid (Bk.keep hk.out hc); clear k0 k1 k2 k3 k4 k5 k6 hk; have hk := hk2; clear hk2; obtain ⟨k0, k1, k2, k3, k4, k5, k6⟩ := Bk7 hk.out; replace hb := hb.trans (hc.mono hb.size); clear hc))
    all_goals clear IN IC IQ IP A H3 H4
    all_goals first
      | (exfalso; rename_i h1 h2; cases p <;> simp_all; done)
      | (go_ret
         refine ⟨ret_bool ?_, by first | assumption | exact below_aa _ _ _⟩
         try clear hk hb k0 k1 k2 k3 k4 k5 k6
         first
           | (simp_all [opOk, vd0, empty_eq, bytes_beq, toList_nil, size_zero', nc0, nc1, nc2, nc3, nb0, nb1, nb2, nb3, is_minus, is_not]; done)
           | (have hv : ∀ k n s, (k ≠ 0 \/ n ≠ 0 \/ s ≠ ByteArray.empty) -> ((⟨k, n, s⟩ : Vl) != vd0) = true := by
                intro k n s h; simp only [bne_iff_ne, vd0, ne_eq, Vl.mk.injEq]; rintro ⟨a, b, c⟩; rcases h with h | h | h <;> contradiction
              rw [hv _ _ _ (by simp_all [toList_nil, size_zero'])]; simp_all; done))
end Go.Proofs.YtdmepghoffhphaaGreatDoor
