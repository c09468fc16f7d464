/- PROVED: contracts of the functions that SqlDistincts reaches (part DvD). CONDITIONS: none. -/
import Derived.Test.YtmomolpgjkejgaaGreatDoorDvC
import Derived.Test.YtmomolpgjkejgaaGreatDoorShelf
import Derived.Lib.Hide
import Derived.Tactics
import Derived.Tactics2
import Derived.WalkSpells
import Derived.OwnWalk
import Derived.KernelRfl
import Derived.Lib.ItoaLen
set_option linter.unusedSimpArgs false
set_option linter.unusedVariables false
set_option linter.unusedVariables false
namespace Go.Proofs.YtmomolpgjkejgaaGreatDoor
open Go Go.RowKit
theorem Tryz.sizeBuilder : (Tryz.prog.info? 111).map (·.size) = some 2 := by kernel_rfl
theorem Tryz.liesBuilder : liesAt Tryz.prog Tryz.prog.depth 111 (2 / Tryz.prog.cellsOf 111) 0 111 1 = true := by kernel_rfl
theorem Tryz.infoByte : (Tryz.prog.info? 5).map (fun i => (i.zero, i.size, i.bytes)) = some (some (.int .u8 0), 1, 1) := by kernel_rfl
set_option maxHeartbeats 1000000 in
set_option maxRecDepth 100000 in
theorem copyCheck_used (b : Nat) (w : World) (h0 : w.cell? ⟨b, 0, none⟩ = some (.pointer (some ⟨b, 0, none⟩))) :
    Calls Tryz.prog 73 #[.pointer (some ⟨b, 0, none⟩)] w fun e w' => e = .returned (.tuple #[]) ∧ w' = w := by
  obtain ⟨j, hj, _⟩ := Option.map_eq_some_iff.1 Tryz.sizeBuilder
  go_enter Tryz.func73, Tryz.ntmps73
  go_wp2
  rw [Lib.run_neq_ptr_same w _ Tryz.underlying108 hj]
  go_wp2
  go_end0
  exact ⟨rfl, rfl⟩
set_option maxHeartbeats 1000000 in
set_option maxRecDepth 100000 in
theorem copyCheck_fresh (b : Nat) (w : World) (h0 : w.cell? ⟨b, 0, none⟩ = some (.pointer none)) (hsh : w.shape? b = some (111, 2)) (hfz : w.frozen? ⟨b, 0, none⟩ = false) :
    Calls Tryz.prog 73 #[.pointer (some ⟨b, 0, none⟩)] w fun e w' => e = .returned (.tuple #[]) ∧ w' = w.setCell ⟨b, 0, none⟩ (.pointer (some ⟨b, 0, none⟩)) := by
  obtain ⟨j, hj, hjs⟩ := Option.map_eq_some_iff.1 Tryz.sizeBuilder
  go_enter Tryz.func73, Tryz.ntmps73
  go_wp2
  rw [Lib.run_to_unsafe w ⟨b, 0, none⟩ Tryz.underlying108 Tryz.underlying212 hj (by rw [hjs]; decide) hsh (Nat.zero_lt_succ 1)]
  simp only [Result.andThen]
  rw [Oper.upon_value]
  go_wp2
  rw [run_callFunc_extern Tryz.func107 (by kernel_rfl) (by kernel_rfl) (by kernel_rfl) (e := Extern.AbiNoEscape.same) (by kernel_rfl)]
  rw [Lib.run_noEscape]
  simp only [Result.andThen]
  rw [Oper.upon_value]
  go_wp2
  rw [Lib.run_from_unsafe w ⟨b, 0, none⟩ Tryz.underlying212 Tryz.underlying108 hj hsh Tryz.liesBuilder]
  simp only [Result.andThen]
  rw [Oper.upon_value]
  go_wp2
  go_end0
  exact ⟨rfl, rfl⟩
theorem setCell_far {w : World} {a : Addr} {v : Value} {k : Nat} (h : k ≠ a.block) : (w.setCell a v).heap[k]? = w.heap[k]? := by
  simp [World.setCell, Array.getElem?_modify, Ne.symm h]
theorem copyCheck73 (B b : Nat) (bs : List Value) (w : World) (h : Lib.IsBuilder 111 5 B b bs w) :
    Calls Tryz.prog 73 #[.pointer (some ⟨b, 0, none⟩)] w fun e w' => e = .returned (.tuple #[]) ∧ (Lib.BuilderAt 111 5 B b (.pointer (some ⟨b, 0, none⟩)) bs w' ∧ Below B w w' ∧ ∀ k, k ≠ b → w'.heap[k]? = w.heap[k]?) := by
  rcases h with h | h
  · refine (copyCheck_fresh b w h.cell0 h.shape h.frozen0).mono ?_
    rintro e w' ⟨rfl, rfl⟩
    exact ⟨rfl, h.used _, (Below.refl B w).setCell (p := ⟨b, 0, none⟩) h.1 _, fun k hk => setCell_far hk⟩
  · refine (copyCheck_used b w h.cell0).mono ?_
    rintro e w' ⟨rfl, rfl⟩
    exact ⟨rfl, h, Below.refl B _, fun _ _ => rfl⟩
set_option maxHeartbeats 1000000 in
set_option maxRecDepth 100000 in
theorem writeString41 (B b : Nat) (bs : List Value) (s : ByteArray) (w : World) (h : Lib.IsBuilder 111 5 B b bs w) (hlen : bs.length + s.size ≤ 140737488355328) (hBw : B ≤ w.heap.size) :
    Calls Tryz.prog 41 #[.pointer (some ⟨b, 0, none⟩), .string s] w fun e w' => e = .returned (.tuple #[.int .i64 s.size, .nilIface]) ∧ (Lib.BuilderAt 111 5 B b (.pointer (some ⟨b, 0, none⟩)) (bs ++ Lib.strCells s) w' ∧ Below B w w' ∧ ∀ k cs t fr, w.heap[k]? = some (.cells cs t fr) → k ≠ b → t ≠ 5 → w'.heap[k]? = w.heap[k]?) := by
  obtain ⟨i0, hi, hz0, hz1, hz2⟩ := info_parts Tryz.infoByte
  go_enter Tryz.func41, Tryz.ntmps41
  go_wp2_with (go_at_call 73; refine (copyCheck73 B b bs _ h).mono ?_)
  rintro e w1 ⟨rfl, h1, hb1, hk1⟩
  have HK1 := Lib.hid hk1
  clear hk1
  obtain ⟨hB, v, hbk, hown, hne⟩ := h1
  have c0 : w1.cell? ⟨b, 0, none⟩ = some (.pointer (some ⟨b, 0, none⟩)) := by rw [Lib.cell_of_heap hbk]; rfl
  have c1 : w1.cell? ⟨b, 1, none⟩ = some v := by rw [Lib.cell_of_heap hbk]; rfl
  go_wp2_with (at_builtin; refine Lib.wpList_append_own_string _ rfl _ _ 109 9 rfl B 5 i0 Tryz.underlying109 Tryz.underlying9 hi hz0 hz1 hz2 _ _ _ rfl hown s rfl ?c3 ?c4 ?c5 ?_)
  case c3 => unfold maxLen; omega
  case c4 => omega
  case c5 => have := hb1.size; omega
  intro v' w2 hown' hgrow _
  have hlt : b < w1.heap.size := by
    rcases Nat.lt_or_ge b w1.heap.size with h' | h'
    · exact h'
    · simp [Array.getElem?_eq_none h'] at hbk
  have hb2 : w2.heap[b]? = some (.cells #[.pointer (some ⟨b, 0, none⟩), v] 111 (0, 0)) := by
    rw [hgrow.block b hlt (fun e => hne e.symm)]
    exact hbk
  have d0 : w2.cell? ⟨b, 0, none⟩ = some (.pointer (some ⟨b, 0, none⟩)) := by rw [Lib.cell_of_heap hb2]; rfl
  have d1 : w2.cell? ⟨b, 1, none⟩ = some v := by rw [Lib.cell_of_heap hb2]; rfl
  have f1 : w2.frozen? ⟨b, 1, none⟩ = false := Lib.frozen_of_heap hb2 1
  obtain ⟨ao, n', cap, rfl⟩ : ∃ ao n' cap, v' = .slice ao n' cap := by
    rcases hown'.2 with ⟨hv, _⟩ | ⟨g, cap, cur, hv, _⟩
    · exact ⟨_, _, _, hv⟩
    · exact ⟨_, _, _, hv⟩
  go_wp2
  go_ret2
  refine ⟨rfl, ?_, ?_, fun k cs t fr hk hkb ht => ?_⟩
  · exact Lib.BuilderAt.put (T := 111) (e := 5) hB hb2 (bs' := bs ++ Lib.strCells s) (by simpa [Lib.strCells_length] using hown') (by decide)
  · exact (hb1.grown hgrow (by have := hb1.size; omega) (fun k hk => (hown.lt k hk).1)).setCell (p := ⟨b, 1, none⟩) hB _
  · have h3 := HK1.out k hkb
    rw [setCell_far hkb, hgrow.block k (by
      have := (Array.getElem?_eq_some_iff.1 (h3.trans hk)).1
      exact this) (fun e => ?_), h3]
    rcases hown.2 with ⟨e0, _⟩ | ⟨g, cap1, cur, e0, _, hg, _⟩
    · rw [e0] at e; cases e
    · rw [e0] at e
      simp only [Value.ownBlock, Option.some.injEq] at e
      subst e
      rw [h3, hk] at hg
      cases hg
      exact ht rfl
end Go.Proofs.YtmomolpgjkejgaaGreatDoor

set_option linter.unusedVariables false
namespace Go.Proofs.YtmomolpgjkejgaaGreatDoor
open Go Go.RowKit Go.Lib
def keyV (x : Vl) : List UInt8 := Lib.itoa x.k ++ 32 :: (Lib.itoa x.n ++ 32 :: (Lib.itoa (x.s.size : Int) ++ 32 :: x.s.data.toList))
def keyL (r : List Vl) : List UInt8 := r.flatMap keyV
def Tab (w : World) : Prop := Lib.TabIs Tryz.prog w "internal/strconv.uint64pow10" .u64 Lib.pow10Tab
theorem builder_keep {w w' : World} {T e B b : Nat} {p : Value} {bs : List Value} (h : Lib.BuilderAt T e B b p bs w) (hb : Below w.heap.size w w') : Lib.BuilderAt T e B b p bs w' := by
  obtain ⟨h0, v, h1, h2, h3⟩ := h
  exact ⟨h0, v, by rw [hb.block _ (Array.getElem?_eq_some_iff.1 h1).1]; exact h1, own_keep h2 hb, h3⟩
theorem isBuilder_keep {w w' : World} {T e B b : Nat} {bs : List Value} (h : Lib.IsBuilder T e B b bs w) (hb : Below w.heap.size w w') : Lib.IsBuilder T e B b bs w' :=
  h.imp (fun x => builder_keep x hb) (fun x => builder_keep x hb)
/-- What holds while a key is made. -/
def KB (w0 : World) (b : Nat) (l : List UInt8) (w : World) : Prop := Lib.IsBuilder 111 5 w0.heap.size b (Lib.byteCells l) w ∧ Below w0.heap.size w0 w
theorem KB.keep {w0 w w' : World} {b : Nat} {l : List UInt8} (h : KB w0 b l w) (hb : Below w.heap.size w w') : KB w0 b l w' := ⟨isBuilder_keep h.1 hb, h.2.trans (hb.mono h.2.size)⟩
theorem below_grow {w : World} (k : Nat) (os : Array Obj) : Below w.heap.size w (Sort.grow (w.drewN k) os) := ⟨rfl, rfl, rfl, by simp [Sort.grow], fun j hj => by
  simp only [Sort.grow, World.heap_drewN]
  rw [Array.getElem?_append_left hj]⟩
theorem itoa42 (w0 : World) (b : Nat) (l : List UInt8) (HT : ∀ w1, Below w0.heap.size w0 w1 → Tab w1) (n : Int) (h0 : -9223372036854775808 ≤ n) (h1 : n ≤ 9223372036854775807) (w : World) (h : KB w0 b l w) :
    Calls Tryz.prog 42 #[.int .i64 n] w fun e w' => e = .returned (.string ⟨(Lib.itoa n).toArray⟩) ∧ Below w.heap.size w w' ∧ KB w0 b l w' :=
  (Tryz.strconv_Itoa n h0 h1 w (HT w h.2)).mono fun e w' ⟨he, k, os, hw⟩ => by
    subst hw
    exact ⟨he, below_grow k os, h.keep (below_grow k os)⟩
end Go.Proofs.YtmomolpgjkejgaaGreatDoor

set_option linter.unusedVariables false
namespace Go.Proofs.YtmomolpgjkejgaaGreatDoor
open Go Go.RowKit Go.Lib
def VBlk (w : World) (g : Nat) (x1 x2 x3 : Value) : Prop := w.heap[g]? = some (.cells #[x1, x2, x3] 43 (0, 0))
theorem VBlk.cells {w : World} {g : Nat} {x1 x2 x3 : Value} (h : VBlk w g x1 x2 x3) : VBlk w g x1 x2 x3 ∧ w.cell? ⟨g, 0, none⟩ = some x1 ∧ w.cell? ⟨g, 1, none⟩ = some x2 ∧ w.cell? ⟨g, 2, none⟩ = some x3 := by
  have h' : w.heap[g]? = some (.cells #[x1, x2, x3] 43 (0, 0)) := h
  exact ⟨h, by simp [World.cell?, h'], by simp [World.cell?, h'], by simp [World.cell?, h']⟩
theorem keep3 {w w1 : World} {g : Nat} {v1 v2 v3 : Value} (h : VBlk w g v1 v2 v3 ∧ w.cell? ⟨g, 0, none⟩ = some v1 ∧ w.cell? ⟨g, 1, none⟩ = some v2 ∧ w.cell? ⟨g, 2, none⟩ = some v3) (hb : Below w.heap.size w w1) :
    VBlk w1 g v1 v2 v3 ∧ w1.cell? ⟨g, 0, none⟩ = some v1 ∧ w1.cell? ⟨g, 1, none⟩ = some v2 ∧ w1.cell? ⟨g, 2, none⟩ = some v3 := by
  refine VBlk.cells ?_
  have h' : w.heap[g]? = some (.cells #[v1, v2, v3] 43 (0, 0)) := h.1
  exact (hb.block _ (Array.getElem?_eq_some_iff.1 h').1).trans h'
theorem keep3f {w w1 : World} {g b : Nat} {v1 v2 v3 : Value} (h : VBlk w g v1 v2 v3 ∧ w.cell? ⟨g, 0, none⟩ = some v1 ∧ w.cell? ⟨g, 1, none⟩ = some v2 ∧ w.cell? ⟨g, 2, none⟩ = some v3) (hb : ∀ k cs t fr, w.heap[k]? = some (.cells cs t fr) → k ≠ b → t ≠ 5 → w1.heap[k]? = w.heap[k]?) (hg : g ≠ b) :
    VBlk w1 g v1 v2 v3 ∧ w1.cell? ⟨g, 0, none⟩ = some v1 ∧ w1.cell? ⟨g, 1, none⟩ = some v2 ∧ w1.cell? ⟨g, 2, none⟩ = some v3 := by
  refine VBlk.cells ?_
  have h' : w.heap[g]? = some (.cells #[v1, v2, v3] 43 (0, 0)) := h.1
  exact (hb _ _ _ _ h' hg (by decide)).trans h'
def okRow (r : List Vl) : Prop := r.length ≤ 1048576 ∧ ∀ x ∈ r, -9223372036854775808 ≤ x.k ∧ x.k ≤ 9223372036854775807 ∧ -9223372036854775808 ≤ x.n ∧ x.n ≤ 9223372036854775807 ∧ x.s.size ≤ 2048
theorem keyV_len {x : Vl} (h : -9223372036854775808 ≤ x.k ∧ x.k ≤ 9223372036854775807 ∧ -9223372036854775808 ≤ x.n ∧ x.n ≤ 9223372036854775807 ∧ x.s.size ≤ 2048) : (keyV x).length ≤ 2200 := by
  obtain ⟨h1, h2, h3, h4, h5⟩ := h
  have a1 := Lib.itoa_length_le x.k h1 h2
  have a2 := Lib.itoa_length_le x.n h3 h4
  have a3 := Lib.itoa_length_le (x.s.size : Int) (by omega) (by omega)
  have a4 : x.s.data.toList.length = x.s.size := by simp
  unfold keyV
  simp only [List.length_append, List.length_cons]
  omega
theorem keyL_len {r : List Vl} (h : ∀ x ∈ r, (keyV x).length ≤ 2200) : (keyL r).length ≤ 2200 * r.length := by
  induction r with
  | nil => simp [keyL]
  | cons x r ih =>
    have := ih fun y hy => h y (by simp [hy])
    have h2 := h x (by simp)
    simp only [keyL, List.flatMap_cons, List.length_append, List.length_cons] at *
    omega
theorem keyL_succ {r : List Vl} {k : Nat} (h : k < r.length) : keyL (r.take (k + 1)) = keyL (r.take k) ++ keyV (r.getD k d0) := by
  unfold keyL
  rw [List.take_succ_eq_append_getElem h, List.flatMap_append]
  simp [List.getD, h]
theorem writeK (w0 : World) (b : Nat) (l : List UInt8) (s : ByteArray) (w : World) (h : KB w0 b l w) (hlen : l.length + s.size ≤ 140737488355328) :
    Calls Tryz.prog 41 #[.pointer (some ⟨b, 0, none⟩), .string s] w fun e w' => e = .returned (.tuple #[.int .i64 s.size, .nilIface]) ∧ KB w0 b (l ++ s.data.toList) w' ∧ ∀ k cs t fr, w.heap[k]? = some (.cells cs t fr) → k ≠ b → t ≠ 5 → w'.heap[k]? = w.heap[k]? :=
  (writeString41 w0.heap.size b (Lib.byteCells l) s w h.1 (by rw [Lib.byteCells_length]; exact hlen) h.2.size).mono fun e w' ⟨he, h1, h2, h3⟩ => by
    refine ⟨he, ⟨.inr ?_, h.2.trans h2⟩, h3⟩
    have e : Lib.byteCells (l ++ s.data.toList) = Lib.byteCells l ++ Lib.strCells s := by rw [Lib.strCells_eq]; simp [Lib.byteCells]
    rw [e]; exact h1
theorem add_run (a b : ByteArray) (h : a.size + b.size ≤ 9223372036854775807) : ∃ y : ByteArray, (∀ W, (Op.stringOp .add a b).run Tryz.prog W = .ok (.string y) W) ∧ y.data.toList = a.data.toList ++ b.data.toList ∧ y.size = a.size + b.size := by
  refine ⟨a ++ b, fun W => ?_, by simp, by simp⟩
  have : ¬ (((a.size + b.size : Nat) : Int) > IntKind.i64.max) := by
    have : IntKind.i64.max = 9223372036854775807 := by decide
    omega
  simp only [Op.stringOp, this, if_false]
  rfl
set_option maxHeartbeats 8000000 in
set_option maxRecDepth 100000 in
theorem keyOf24 (v : Value) (r : List Vl) (w : World) (h : RowAt w v r) (hok : okRow r) (HT0 : ∀ w1, Below w.heap.size w w1 → Tab w1) :
    Calls Tryz.prog 24 #[v] w fun e w' => e = .returned (.string ⟨(keyL r).toArray⟩) ∧ Below w.heap.size w w' := by
  have HT := Lib.hid HT0
  have HOK := Lib.hid hok
  clear HT0 hok
  obtain ⟨h0, hs, a, c, rfl, h1⟩ := h
  have H1 := Lib.hid h1
  clear h1 hs
  go_enter Tryz.func24, Tryz.ntmps24
  go_wp2
  go_loopg [8] r.length (fun g s8 wr => ∃ k : Nat, k ≤ r.length ∧ r.length - k ≤ g ∧ s8 = .int .i64 k ∧ KB w w.heap.size (keyL (r.take k)) wr)
  case atStart =>
    refine ⟨0, Nat.zero_le _, by omega, rfl, .inl ⟨Nat.le_refl _, _, heap_alloc_new _ _, ?_, ?_⟩, (Below.refl _ _).alloc (Nat.le_refl _) _⟩
    · exact ⟨rfl, .inl ⟨rfl, rfl⟩⟩
    · simp [Value.ownBlock]
  case round =>
    obtain ⟨k, hk, hg, rfl, hkb⟩ := hrel
    by_cases hlt : k < r.length
    · rcases H1.out with hn | ⟨b, o, rfl, hc⟩
      · rw [hn] at hlt; simp at hlt
      · obtain ⟨e1, e2, e3⟩ := hc k hlt
        have q1 := World.block_lt_of_cell? w _ e1
        rw [← (bcell hkb.2).1 _ _ q1] at e1 e2 e3
        have hx0 := HOK.out.2 _ (getD_mem hlt)
        have HS := Lib.hid (keyL_succ hlt)
        have HLen := Lib.hid (keyL_len (r := r.take k) fun x hx => keyV_len (HOK.out.2 x (List.mem_of_mem_take hx)))
        clear hc
        generalize hx : r.getD k d0 = x at e1 e2 e3 hx0 HS
        obtain ⟨xk, xn, xs⟩ := x
        simp only at e1 e2 e3 hx0
        obtain ⟨x1, x2, x3, x4, x5⟩ := hx0
        generalize hl : keyL (r.take k) = l at hkb HS HLen
        have HKB := Lib.hid hkb
        clear hx hl hkb
        have hkd : KB w w.heap.size l (wr.alloc (Obj.cells #[Value.int IntKind.i64 xk, Value.int IntKind.i64 xn, Value.string xs] 43)).drew := HKB.out.keep (below_drew ((Below.refl _ _).alloc (Nat.le_refl _) _))
        have z1 := Lib.itoa_length_le xk x1 x2
        have z2 := Lib.itoa_length_le xn x3 x4
        have z3 := Lib.itoa_length_le (xs.size : Int) (by omega) (by omega)
        have s1 : (ByteArray.mk (Lib.itoa xk).toArray).size = (Lib.itoa xk).length := rfl
        have s2 : (ByteArray.mk (Lib.itoa xn).toArray).size = (Lib.itoa xn).length := rfl
        have s3 : (ByteArray.mk (Lib.itoa (xs.size : Int)).toArray).size = (Lib.itoa (xs.size : Int)).length := rfl
        have s4 : (ByteArray.mk #[32]).size = 1 := rfl
        obtain ⟨y1, A1, B1, C1⟩ := add_run ⟨(Lib.itoa xk).toArray⟩ ⟨#[32]⟩ (by omega)
        obtain ⟨y2, A2, B2, C2⟩ := add_run y1 ⟨(Lib.itoa xn).toArray⟩ (by omega)
        obtain ⟨y3, A3, B3, C3⟩ := add_run y2 ⟨#[32]⟩ (by omega)
        obtain ⟨y4, A4, B4, C4⟩ := add_run y3 ⟨(Lib.itoa (xs.size : Int)).toArray⟩ (by omega)
        obtain ⟨y5, A5, B5, C5⟩ := add_run y4 ⟨#[32]⟩ (by omega)
        obtain ⟨y6, A6, B6, C6⟩ := add_run y5 xs (by omega)
        have Y6 : Hid (y6.data.toList = keyV ⟨xk, xn, xs⟩) := Lib.hid (by
          rw [B6, B5, B4, B3, B2, B1]
          simp [keyV])
        have hy6 : y6.size ≤ 2200 := by omega
        clear B1 B2 B3 B4 B5 B6 C1 C2 C3 C4 C5 C6 s1 s2 s3 s4 z1 z2 z3
        have hl1 := HLen.out
        have hl2 := HOK.out.1
        have hl3 := List.length_take_le k r
        have hsz := HKB.out.2.size
        have hszb : w.heap.size < wr.heap.size := by
          rcases HKB.out.1 with h | h <;> exact h.lt
        go_wp2_with fail
        go_region_held3 (fun w' => VBlk w' wr.heap.size (.int .i64 xk) (.int .i64 xn) (.string xs) ∧ w'.cell? ⟨wr.heap.size, 0, none⟩ = some (.int .i64 xk) ∧ w'.cell? ⟨wr.heap.size, 1, none⟩ = some (.int .i64 xn) ∧ w'.cell? ⟨wr.heap.size, 2, none⟩ = some (.string xs))
          (first | exact keep3 (by assumption) hb | exact keep3f (by assumption) hb (by omega) | (exact VBlk.cells (heap_alloc_new _ _)))
          (first
            | (go_at_call 42; refine (itoa42 w w.heap.size l HT.out _ ?_ ?_ _ ?_).mono ?_; omega; omega; assumption; rintro e w' ⟨rfl, hb, hkb'⟩)
            | (go_at_call 41; refine (writeK w w.heap.size l _ _ ?_ ?_).mono ?_; assumption; omega; rintro e w' ⟨rfl, hkf, hb⟩))
        go_wp2
        go_roundg (r.length - (k + 1))
        case measure => omega
        case rel =>
          refine ⟨k + 1, by omega, by omega, by go_num, ?_⟩
          rw [HS.out, ← Y6.out]
          exact hkf
    · have hkn : k = r.length := by omega
      have E : Hid (keyL (r.take k) = keyL r) := Lib.hid (by rw [hkn, List.take_length])
      have HKB := Lib.hid hkb
      clear hkn hkb
      go_wp2_with (go_at_call 43; refine (Tryz.Builder_String_any w.heap.size w.heap.size (keyL (r.take k)) _ HKB.out.1 HKB.out.2.size).mono ?_; rintro e w' ⟨rfl, hb⟩)
      go_ret
      exact ⟨by rw [← E.out]; rfl, HKB.out.2.trans hb⟩
end Go.Proofs.YtmomolpgjkejgaaGreatDoor
