/- PROVED: contracts of the functions that SqlSorts reaches, and what a stable sort is (part SvG). CONDITIONS: none. -/
import Derived.Test.YtflapfekfmmcmaaGreatDoorSvF
set_option linter.unusedSimpArgs false
set_option linter.unusedVariables false
set_option linter.unnecessarySimpa false
set_option linter.unusedVariables false
namespace Go.Proofs.YtflapfekfmmcmaaGreatDoor
open Go Go.RowKit Go.Lib
def mostOf (B : List Int) : Int := B.foldl max (-1)
theorem mostOf_take {B : List Int} {k : Nat} (h : k < B.length) : mostOf (B.take (k + 1)) = max (mostOf (B.take k)) (B.getD k 0) := by
  unfold mostOf
  rw [List.take_succ_eq_append_getElem h, List.foldl_append]
  simp [List.getD, h]
theorem foldl_max_le (B : List Int) : ∀ (a : Int), a ≤ B.foldl max a ∧ ∀ k ∈ B, k ≤ B.foldl max a := by
  induction B with
  | nil => intro a; exact ⟨Int.le_refl _, fun k hk => (nomatch hk)⟩
  | cons x B ih =>
    intro a
    obtain ⟨h1, h2⟩ := ih (max a x)
    refine ⟨Int.le_trans (Int.le_max_left _ _) h1, fun k hk => ?_⟩
    rcases List.mem_cons.1 hk with rfl | hk
    · exact Int.le_trans (Int.le_max_right _ _) h1
    · exact h2 k hk
theorem mostOf_ge {B : List Int} {k : Int} (h : k ∈ B) : k ≤ mostOf B := (foldl_max_le B (-1)).2 k h
def errS (R : List (List Vl)) (B : List Int) (D : List Bool) : Int :=
  if errR R ≠ 0 then errR R else if B.any (· < 0) then 1 else if B.length ≠ D.length then 10 else if R.any (shortB (mostOf B)) then 10 else if okS R B then 0 else 6
def resS (R : List (List Vl)) (B : List Int) (D : List Bool) : List (List Vl) := if errS R B D = 0 then srt R B D else []
theorem in_of {R : List (List Vl)} {B : List Int} (h1 : B.any (· < 0) = false) (h2 : R.any (shortB (mostOf B)) = false) : inAll R B := by
  intro k hk
  refine ⟨?_, fun r hr => ?_⟩
  · have := List.any_eq_false.1 h1 k hk
    simpa using this
  · have := List.any_eq_false.1 h2 r hr
    simp only [shortB, decide_eq_true_eq] at this
    have := mostOf_ge hk
    omega
theorem ok_of {R : List (List Vl)} (h : errR R = 0) : okAll R := by
  unfold errR at h
  split at h
  · cases h
  · split at h
    · cases h
    · rename_i hbad
      intro r hr x hx
      have hx0 : badV x = false := by
        cases hbx : badV x
        · rfl
        · exact absurd (List.any_eq_true.2 ⟨r, hr, List.any_eq_true.2 ⟨x, hx, hbx⟩⟩) hbad
      simpa [badV] using hx0
theorem len_of {R : List (List Vl)} (h : errR R = 0) : R.length ≤ 40000 := by
  unfold errR at h
  split at h
  · cases h
  · omega
def ResS (w : World) (R : List (List Vl)) (B : List Int) (D : List Bool) (e : Ending) (w' : World) : Prop := ∃ ov, e = .returned (.tuple #[ov, .int .i64 (errS R B D)]) ∧ RowsAt w' ov (resS R B D) ∧ Below w.heap.size w w'
theorem rows_nil (w : World) : RowsAt w (.slice none 0 0) [] := ⟨by simp, none, 0, rfl, .inl rfl⟩
theorem resS_nil {R : List (List Vl)} {B : List Int} {D : List Bool} (h : errS R B D ≠ 0) : resS R B D = [] := by unfold resS; rw [if_neg h]
theorem resS_of {R : List (List Vl)} {B : List Int} {D : List Bool} (h : errS R B D = 0) : resS R B D = srt R B D := by unfold resS; rw [if_pos h]
theorem ResS.mk {w w' : World} {R : List (List Vl)} {B : List Int} {D : List Bool} {z : Int} (h : errS R B D = z) (hz : z ≠ 0) (hb : Below w.heap.size w w') : ResS w R B D (.returned (.tuple #[.slice none 0 0, .int .i64 z])) w' :=
  ⟨_, by rw [h], by rw [resS_nil (by omega)]; exact rows_nil _, hb⟩
end Go.Proofs.YtflapfekfmmcmaaGreatDoor

set_option linter.unusedVariables false
namespace Go.Proofs.YtflapfekfmmcmaaGreatDoor
open Go Go.RowKit Go.Lib
theorem run_store0 (v : Value) (h : v.oneCell' = true) (a : Addr) (m : Mode) (w : World) : Sem.run Tryz.prog (store a v m) w = stored Tryz.prog w a v m := run_store1 h a m w
theorem frozen_new (w : World) (c : Array Value) (t : TypeId) (b : Nat) (hb : b = w.heap.size) : (w.alloc (.cells c t)).frozen? ⟨b, 0, none⟩ = false := by
  have h : (w.alloc (.cells c t)).heap[b]? = some (.cells c t) := by
    rw [hb]; simp only [World.alloc, Array.getElem?_push_size]
  simp only [World.frozen?, h]
  rfl
set_option maxHeartbeats 4000000 in
set_option maxRecDepth 100000 in
theorem sorted6 (v bv dv : Value) (R : List (List Vl)) (B : List Int) (D : List Bool) (w : World) (h : RowsAt w v R) (hB : IntsAt w bv B) (hD : BoolsAt w dv D) (hl : ∀ r ∈ R, r.length ≤ 1048576) : Calls Tryz.prog 6 #[v, bv, dv] w (ResS w R B D) := by
  have C1 := areValues11 v R w h
  have H := Lib.hid h
  have HB := Lib.hid hB
  have HD := Lib.hid hD
  have HL := Lib.hid hl
  obtain ⟨l3, a3, c3, rfl, k3⟩ := hB
  obtain ⟨l4, a4, c4, rfl, k4⟩ := hD
  have K3 := Lib.hid k3
  obtain ⟨l1, a1, c1, rfl, k1⟩ := h
  clear k1 k3 k4 hl
  by_cases he : errR R = 0
  · have HE := Lib.hid he
    rw [he] at C1
    have hlen := len_of he
    clear he
    have C12 := Lib.hid (fun w1 (hb : Below w.heap.size w w1) => containsFunc12 _ B w1 (HB.out.below hb))
    by_cases hneg : B.any (· < 0) = true
    · have ES : Hid (errS R B D = 1) := Lib.hid (by unfold errS; rw [if_neg (by rw [HE.out]; simp), if_pos hneg])
      rw [hneg] at C12
      clear hneg
      go_enter Tryz.func6, Tryz.ntmps6
      go_wp2_with (first
        | (go_at_call 11; refine C1.mono ?_; rintro e w1 ⟨rfl, hb1⟩)
        | (go_at_call 12; refine (C12.out _ hb1).mono ?_; rintro e w2 ⟨rfl, rfl⟩))
      go_ret2
      exact ResS.mk ES.out (by decide) hb1
    · have hneg : B.any (· < 0) = false := by simpa using hneg
      have HN := Lib.hid hneg
      rw [hneg] at C12
      clear hneg
      have C14 := Lib.hid (fun w1 p m (hb : Below w.heap.size w w1) (hp : w1.cell? ⟨p, 0, none⟩ = some (.int .i64 m)) => containsFunc14 _ R m p w1 (H.out.below hb) hp)
      go_enter Tryz.func6, Tryz.ntmps6
      go_wp2_with (first
        | (go_at_call 11; refine C1.mono ?_; rintro e w1 ⟨rfl, hb1⟩)
        | (go_at_call 12; refine (C12.out _ hb1).mono ?_; rintro e w2 ⟨rfl, rfl⟩))
      have hsz1 := hb1.size
      obtain ⟨p, hp⟩ : ∃ p, p = w1.heap.size := ⟨_, rfl⟩
      have hpH := Lib.hid hp
      have hb1H := Lib.hid hb1
      rw [← hp]
      have st0 : (w1.alloc (Obj.cells #[Value.int IntKind.i64 (-1)] 3)).cell? ⟨p, 0, none⟩ = some (.int .i64 (-1)) := by
        rw [hp]; exact cell_one_new w1 (.int .i64 (-1)) 3 0 _ rfl
      have st1 : (w1.alloc (Obj.cells #[Value.int IntKind.i64 (-1)] 3)).frozen? ⟨p, 0, none⟩ = false := by
        exact frozen_new w1 _ _ _ hp
      have st2 : Below w1.heap.size w1 (w1.alloc (Obj.cells #[Value.int IntKind.i64 (-1)] 3)) := (Below.refl _ _).alloc (Nat.le_refl _) _
      have st2 := Lib.hid st2
      clear hp hb1
      go_loopg [22] B.length (fun g t wr => ∃ (k : Nat) (mm : Int), k ≤ B.length ∧ B.length - k ≤ g ∧ t = .int .i64 k ∧ wr.cell? ⟨p, 0, none⟩ = some (.int .i64 mm) ∧ wr.frozen? ⟨p, 0, none⟩ = false ∧ Hid (mm = mostOf (B.take k)) ∧ Hid (Below w1.heap.size w1 wr))
      case atStart => exact ⟨0, -1, Nat.zero_le _, by omega, by go_num, st0, st1, Lib.hid rfl, st2⟩
      case round =>
        clear st0 st1 st2
        obtain ⟨k, mm, hk, hg, rfl, s0, s1, MM, B2⟩ := hrel
        have hbw : Below w.heap.size w wr := hb1H.out.trans (B2.out.mono hsz1)
        by_cases hlt : k < B.length
        · rcases K3.out with hn | ⟨b3, o3, rfl, hc3⟩
          · exfalso; rw [hn] at hlt; simp at hlt
          have e3 := hc3 k hlt
          rw [← (bcell hbw).1 _ _ (World.block_lt_of_cell? w _ e3)] at e3
          have MT := mostOf_take hlt
          clear hc3 hbw
          generalize B.getD k 0 = z at e3 MT
          have MT := Lib.hid MT
          go_wp2
          go_roundg (B.length - (k + 1))
          case measure => omega
          case rel =>
            refine ⟨k + 1, max mm z, by omega, by omega, by go_num, ?_, ?_, Lib.hid (by rw [MT.out, MM.out]), Lib.hid ((B2.out.setCell (by rw [hpH.out]; exact Nat.le_refl _) _))⟩
            · exact World.cell?_setCell_same _ _ _ s0
            · rw [World.frozen?_setCell]; exact s1
        · have hkB : k = B.length := by omega
          have MM2 : Hid (mm = mostOf B) := Lib.hid (by rw [MM.out, hkB, List.take_length])
          have hbwH := Lib.hid hbw
          clear MM hkB hbw
          by_cases hBD : B.length = D.length
          · have hBDz : (B.length : Int) = (D.length : Int) := by omega
            have C14' := Lib.hid (C14.out wr p mm hbwH.out s0)
            by_cases hsh : R.any (shortB mm) = true
            · have C := C14'.out
              rw [hsh] at C
              have ES : Hid (errS R B D = 10) := Lib.hid (by unfold errS; rw [if_neg (by rw [HE.out]; simp), if_neg (by rw [HN.out]; simp), if_neg (by simpa using hBD), if_pos (by rw [← MM2.out]; exact hsh)])
              have C := Lib.hid C
              clear C14' hsh
              go_wp2_with (first | (go_at_call 14; refine C.out.mono ?_; rintro e w2 ⟨rfl, rfl⟩))
              go_ret2
              exact ResS.mk ES.out (by decide) hbwH.out
            · have hsh : R.any (shortB mm) = false := by simpa using hsh
              have C := C14'.out
              rw [hsh] at C
              have C := Lib.hid C
              have IN := Lib.hid (in_of HN.out (by rw [← MM2.out]; exact hsh))
              have OK := Lib.hid (ok_of HE.out)
              have C16 := Lib.hid (isSorted16 _ _ R B wr (H.out.below hbwH.out) (HB.out.below hbwH.out) IN.out)
              have SH := Lib.hid hsh
              clear C14' hsh
              by_cases hok : okS R B = true
              · have ES : Hid (errS R B D = 0) := Lib.hid (by unfold errS; rw [if_neg (by rw [HE.out]; simp), if_neg (by rw [HN.out]; simp), if_neg (by simpa using hBD), if_neg (by rw [← MM2.out, SH.out]; simp), if_pos hok])
                have C16 := C16.out
                rw [hok, hBD] at C16
                have C16 := Lib.hid C16
                have C17 := Lib.hid (fun w1 (hb : Below w.heap.size w w1) => copied17 _ R w1 (H.out.below hb) hlen HL.out)
                have HOKS := Lib.hid hok
                have HBDH := Lib.hid hBD
                clear hok
                go_wp2_with (first
                  | (go_at_call 14; refine C.out.mono ?_; rintro e w2 ⟨rfl, rfl⟩)
                  | (go_at_call 16; refine C16.out.mono ?_; rintro e w2 ⟨rfl, hb2⟩; have hbw2 := hbwH.out.trans (hb2.mono hbwH.out.size))
                  | (go_at_call 17; refine (C17.out _ hbw2).mono ?_; rintro e w3 ⟨ov, rfl, O3, N3, hb3⟩; have C18 := sorted18 ov _ _ R B D w2 w3 O3 hb3 (HB.out.below hbw2) (HD.out.below hbw2) HBDH.out N3 hlen OK.out HOKS.out IN.out; rw [HBDH.out] at C18; have C18 := Lib.hid C18; clear O3 N3)
                  | (go_at_call 18; refine C18.out.mono ?_; rintro e w4 ⟨rfl, R4, hb4⟩))
                go_ret2
                exact ⟨ov, by rw [ES.out]; rfl, by rw [resS_of ES.out]; exact R4, hbw2.trans (hb4.mono hbw2.size)⟩
              · have hok : okS R B = false := by simpa using hok
                have ES : Hid (errS R B D = 6) := Lib.hid (by unfold errS; rw [if_neg (by rw [HE.out]; simp), if_neg (by rw [HN.out]; simp), if_neg (by simpa using hBD), if_neg (by rw [← MM2.out, SH.out]; simp), if_neg (by rw [hok]; simp)])
                have C16 := C16.out
                rw [hok, hBD] at C16
                have C16 := Lib.hid C16
                clear hok
                go_wp2_with (first
                  | (go_at_call 14; refine C.out.mono ?_; rintro e w2 ⟨rfl, rfl⟩)
                  | (go_at_call 16; refine C16.out.mono ?_; rintro e w2 ⟨rfl, hb2⟩; have hbw2 := hbwH.out.trans (hb2.mono hbwH.out.size)))
                go_ret2
                exact ResS.mk ES.out (by decide) hbw2
          · have hBDz : ¬ (B.length : Int) = (D.length : Int) := by omega
            have ES : Hid (errS R B D = 10) := Lib.hid (by unfold errS; rw [if_neg (by rw [HE.out]; simp), if_neg (by rw [HN.out]; simp), if_pos hBD])
            clear hBD
            go_wp2
            go_ret2
            exact ResS.mk ES.out (by decide) hbwH.out
  · have HE := Lib.hid he
    have ES : Hid (errS R B D = errR R) := Lib.hid (by unfold errS; rw [if_pos he])
    generalize hz : errR R = z at C1
    have HZ := Lib.hid hz
    have hz0 : (z != 0) = true := by rw [← hz]; simpa using he
    clear he hz
    go_enter Tryz.func6, Tryz.ntmps6
    go_wp2_with (first
      | (go_at_call 11; refine C1.mono ?_; rintro e w1 ⟨rfl, hb1⟩))
    go_ret2
    exact ResS.mk (by rw [ES.out, HZ.out]) (by rw [← HZ.out]; exact HE.out) hb1
end Go.Proofs.YtflapfekfmmcmaaGreatDoor

set_option linter.unusedVariables false
namespace Go.Proofs.YtflapfekfmmcmaaGreatDoor
open Go Go.RowKit Go.Lib
/-! the reference's way, on rows -/
def mrgR (lt : List Vl → List Vl → Bool) : List (List Vl) → List (List Vl) → List (List Vl)
  | [], k => k
  | l, [] => l
  | x :: l, y :: k => if lt y x then y :: mrgR lt (x :: l) k else x :: mrgR lt l (y :: k)
termination_by l k => l.length + k.length
def msR (lt : List Vl → List Vl → Bool) : Nat → List (List Vl) → List (List Vl)
  | 0, l => l
  | f + 1, l => if l.length < 2 then l else mrgR lt (msR lt f (l.take (l.length / 2))) (msR lt f (l.drop (l.length / 2)))
section
variable (lt : List Vl → List Vl → Bool)
theorem mrgR_nil (k : List (List Vl)) : mrgR lt [] k = k := by cases k <;> simp [mrgR]
theorem mrgR_nil2 (l : List (List Vl)) : mrgR lt l [] = l := by cases l <;> simp [mrgR]
theorem mrgR_cons (x y : List Vl) (l k : List (List Vl)) : mrgR lt (x :: l) (y :: k) = if lt y x then y :: mrgR lt (x :: l) k else x :: mrgR lt l (y :: k) := by rw [mrgR]
theorem mrgR_map (lt2 : Nat → Nat → Bool) (h : Nat → List Vl) (he : ∀ x y, lt2 x y = lt (h x) (h y)) : ∀ (f : Nat) (l k : List Nat), l.length + k.length ≤ f → (Srt.mrg lt2 l k).map h = mrgR lt (l.map h) (k.map h)
  | _, [], k, _ => by rw [Srt.mrg_nil]; simp [mrgR_nil]
  | _, l, [], _ => by rw [Srt.mrg_nil2]; simp [mrgR_nil2]
  | 0, x :: l, y :: k, hf => by simp at hf
  | f + 1, x :: l, y :: k, hf => by
    simp only [List.length_cons] at hf
    rw [Srt.mrg_cons, List.map_cons, List.map_cons, mrgR_cons, he]
    split
    · rw [List.map_cons, mrgR_map lt2 h he f (x :: l) k (by simp only [List.length_cons]; omega)]; rfl
    · rw [List.map_cons, mrgR_map lt2 h he f l (y :: k) (by simp only [List.length_cons]; omega)]; rfl
theorem msR_map (lt2 : Nat → Nat → Bool) (h : Nat → List Vl) (he : ∀ x y, lt2 x y = lt (h x) (h y)) : ∀ (f : Nat) (l : List Nat), (Srt.ms lt2 f l).map h = msR lt f (l.map h)
  | 0, l => rfl
  | f + 1, l => by
    unfold Srt.ms msR
    rw [List.length_map]
    split
    · rfl
    · rw [mrgR_map lt lt2 h he _ _ _ (Nat.le_refl _), msR_map lt2 h he f, msR_map lt2 h he f, List.map_take, List.map_drop]
theorem mrgR_len : ∀ (f : Nat) (l k : List (List Vl)), l.length + k.length ≤ f → (mrgR lt l k).length = l.length + k.length
  | _, [], k, _ => by rw [mrgR_nil]; simp
  | _, l, [], _ => by rw [mrgR_nil2]; simp
  | 0, x :: l, y :: k, hf => by simp at hf
  | f + 1, x :: l, y :: k, hf => by
    simp only [List.length_cons] at hf
    rw [mrgR_cons]
    split
    · rw [List.length_cons, mrgR_len f (x :: l) k (by simp only [List.length_cons]; omega)]; simp; omega
    · rw [List.length_cons, mrgR_len f l (y :: k) (by simp only [List.length_cons]; omega)]; simp; omega
theorem mrgR_mem : ∀ (f : Nat) (l k : List (List Vl)), l.length + k.length ≤ f → ∀ r ∈ mrgR lt l k, r ∈ l ∨ r ∈ k
  | _, [], k, _, r, h => by rw [mrgR_nil] at h; exact .inr h
  | _, l, [], _, r, h => by rw [mrgR_nil2] at h; exact .inl h
  | 0, x :: l, y :: k, hf, _, _ => by simp at hf
  | f + 1, x :: l, y :: k, hf, r, h => by
    simp only [List.length_cons] at hf
    rw [mrgR_cons] at h
    split at h
    · rcases List.mem_cons.1 h with rfl | h
      · exact .inr (List.mem_cons_self ..)
      · exact (mrgR_mem f (x :: l) k (by simp only [List.length_cons]; omega) r h).imp id (List.mem_cons_of_mem _)
    · rcases List.mem_cons.1 h with rfl | h
      · exact .inl (List.mem_cons_self ..)
      · exact (mrgR_mem f l (y :: k) (by simp only [List.length_cons]; omega) r h).imp (List.mem_cons_of_mem _) id
theorem msR_len : ∀ (f : Nat) (l : List (List Vl)), (msR lt f l).length = l.length
  | 0, l => rfl
  | f + 1, l => by
    unfold msR
    split
    · rfl
    · rw [mrgR_len lt _ _ _ (Nat.le_refl _), msR_len f, msR_len f, List.length_take, List.length_drop]; omega
theorem msR_mem : ∀ (f : Nat) (l : List (List Vl)), ∀ r ∈ msR lt f l, r ∈ l
  | 0, l, r, h => h
  | f + 1, l, r, h => by
    unfold msR at h
    split at h
    · exact h
    · rcases mrgR_mem lt _ _ _ (Nat.le_refl _) r h with h | h
      · exact List.mem_of_mem_take (msR_mem f _ r h)
      · exact List.mem_of_mem_drop (msR_mem f _ r h)
end
def ltV (B : List Int) (D : List Bool) (r s : List Vl) : Bool := decide (cmpR B D r s < 0)
theorem map_rowT (R : List (List Vl)) : (List.range' 0 R.length).map (rowT R) = R := by
  apply List.ext_getElem
  · simp
  · intro i h1 h2
    simp only [List.getElem_map, List.getElem_range', Nat.one_mul, Nat.zero_add]
    unfold rowT
    rw [if_pos h2]
    simp [List.getD, h2]
theorem srt_eq (R : List (List Vl)) (B : List Int) (D : List Bool) : srt R B D = msR (ltV B D) R.length R := by
  unfold srt
  rw [msR_map (ltV B D) (ltR R B D) (rowT R) (fun x y => rfl), map_rowT]
/-! rows with room -/
def RowsC (w : World) (v : Value) (R : List (List Vl)) : Prop :=
  R.length ≤ 9223372036854775807 ∧ ∃ b o c, v = .slice (some ⟨b, o, none⟩) R.length c ∧ R.length ≤ c ∧ ∀ j, j < R.length → ∃ u, w.cell? ⟨b, o + j, none⟩ = some u ∧ RowAt w u (R.getD j [])
theorem RowsC.rows {w : World} {v : Value} {R : List (List Vl)} (h : RowsC w v R) : RowsAt w v R := by
  obtain ⟨h0, b, o, c, rfl, _, h1⟩ := h
  exact ⟨h0, _, c, rfl, .inr ⟨b, o, rfl, h1⟩⟩
theorem RowsC.below {w w' : World} {v : Value} {R : List (List Vl)} (h : RowsC w v R) (hb : Below w.heap.size w w') : RowsC w' v R := by
  obtain ⟨h0, b, o, c, rfl, hc, h1⟩ := h
  refine ⟨h0, b, o, c, rfl, hc, fun j hj => ?_⟩
  obtain ⟨u, k1, k2⟩ := h1 j hj
  exact ⟨u, by rw [(bcell hb).1 _ _ (World.block_lt_of_cell? w _ k1)]; exact k1, k2.below hb⟩
theorem RowsC.part {w : World} {b o c : Nat} {R : List (List Vl)} (h : RowsC w (.slice (some ⟨b, o, none⟩) R.length c) R) (l m : Nat) (hm : l + m ≤ R.length) {o' c' : Nat} (ho : m = 0 ∨ o' = o + l) (hc : m ≤ c') :
    RowsC w (.slice (some ⟨b, o', none⟩) m c') ((R.drop l).take m) := by
  obtain ⟨h0, b1, o1, c1, e, hc1, h1⟩ := h
  simp only [Value.slice.injEq, Option.some.injEq, Addr.mk.injEq] at e
  obtain ⟨⟨rfl, rfl, _⟩, _, rfl⟩ := e
  have hl : ((R.drop l).take m).length = m := by rw [List.length_take, List.length_drop]; omega
  refine ⟨by omega, b, o', c', by rw [hl], by omega, fun j hj => ?_⟩
  rw [hl] at hj
  obtain ⟨u, k1, k2⟩ := h1 (l + j) (by omega)
  have ho : o' = o + l := by omega
  refine ⟨u, by rw [ho, Nat.add_assoc]; exact k1, ?_⟩
  have e : ((R.drop l).take m).getD j [] = R.getD (l + j) [] := by
    simp only [List.getD, List.getElem?_take, List.getElem?_drop, hj, if_true]
  rw [e]; exact k2
/-- .. behind an append of the headers of many rows. -/
theorem outs_app {w w0 w' : World} {v : Value} {L M : List (List Vl)} {xs ys : List Value} (hbs : w0.heap.size ≤ w.heap.size) (hb : Below w0.heap.size w0 w)
    (hown : w.ownsRow w0.heap.size 33 1 v L.length xs) (hr : ∀ j, j < L.length → ∃ u, xs[j]? = some u ∧ RowIn w w0.heap.size u (L.getD j [])) (hy : ys.length = M.length)
    (hu : ∀ j, j < M.length → ∃ u, ys[j]? = some u ∧ RowAt w0 u (M.getD j []))
    (hg : w.grownBy w' v.ownBlock) : ∀ j, j < (L ++ M).length → ∃ u, (xs ++ ys)[j]? = some u ∧ RowIn w' w0.heap.size u ((L ++ M).getD j []) := by
  have hl : xs.length = L.length := by have := hown.1; omega
  intro j hj
  by_cases h : j < L.length
  · obtain ⟨y, h1, h2⟩ := hr j h
    refine ⟨y, by rw [List.getElem?_append_left (by omega)]; exact h1, ?_⟩
    have e : (L ++ M).getD j [] = L.getD j [] := by simp [List.getD, List.getElem?_append_left h]
    rw [e]
    exact h2.grow hown hg hbs
  · obtain ⟨y, h1, h2⟩ := hu (j - L.length) (by simp at hj; omega)
    refine ⟨y, by rw [List.getElem?_append_right (by omega), hl]; exact h1, ?_⟩
    have e : (L ++ M).getD j [] = M.getD (j - L.length) [] := by simp [List.getD, List.getElem?_append_right (Nat.le_of_not_lt h)]
    rw [e]
    exact (h2.inn hb).grow hown hg hbs
/-- headers of rows with room, as a list -/
theorem RowsC.heads {w : World} {b o n c : Nat} {R : List (List Vl)} (h : RowsC w (.slice (some ⟨b, o, none⟩) n c) R) : ∃ ys : List Value, ys.length = R.length ∧ n = R.length ∧ (∀ wx, Below w.heap.size w wx → ∀ j u, ys[j]? = some u → wx.cell? ((⟨b, o, none⟩ : Addr).add j) = some u) ∧ (∀ u ∈ ys, u.oneCell' = true) ∧ ∀ j, j < R.length → ∃ u, ys[j]? = some u ∧ RowAt w u (R.getD j []) := by
  obtain ⟨h0, b1, o1, c1, e, hc1, h1⟩ := h
  simp only [Value.slice.injEq, Option.some.injEq, Addr.mk.injEq] at e
  obtain ⟨⟨rfl, rfl, _⟩, rfl, rfl⟩ := e
  have hpick : ∀ m, m ≤ R.length → ∃ ys : List Value, ys.length = m ∧ ∀ j, j < m → ∃ u, ys[j]? = some u ∧ w.cell? ⟨b, o + j, none⟩ = some u ∧ RowAt w u (R.getD j []) := by
    intro m
    induction m with
    | zero => exact fun _ => ⟨[], rfl, fun j hj => absurd hj (Nat.not_lt_zero _)⟩
    | succ m ih =>
      intro hm
      obtain ⟨ys, hl, hy⟩ := ih (by omega)
      obtain ⟨u, k1, k2⟩ := h1 m (by omega)
      refine ⟨ys ++ [u], by simp [hl], fun j hj => ?_⟩
      by_cases hjm : j < m
      · obtain ⟨u', q1, q2⟩ := hy j hjm
        exact ⟨u', by rw [List.getElem?_append_left (by omega)]; exact q1, q2⟩
      · have : j = m := by omega
        subst this
        exact ⟨u, by rw [List.getElem?_append_right (by omega)]; simp [hl], k1, k2⟩
  obtain ⟨ys, hl, hy⟩ := hpick R.length (Nat.le_refl _)
  have hadd : ∀ j, (⟨b, o, none⟩ : Addr).add j = ⟨b, o + j, none⟩ := fun j => by
    unfold Addr.add; split
    · rename_i h; simp [h]
    · rfl
  refine ⟨ys, hl, rfl, fun wx hx j u hju => ?_, fun u hu => ?_, fun j hj => ?_⟩
  · have hj : j < R.length := by have := (List.getElem?_eq_some_iff.1 hju).1; omega
    obtain ⟨u', q1, q2, _⟩ := hy j hj
    rw [hju] at q1; cases q1
    rw [hadd, (bcell hx).1 _ _ (World.block_lt_of_cell? w _ q2)]; exact q2
  · obtain ⟨j, hj, rfl⟩ := List.getElem_of_mem hu
    obtain ⟨u', q1, _, q3⟩ := hy j (by omega)
    rw [List.getElem?_eq_getElem hj] at q1; cases q1
    exact q3.one
  · obtain ⟨u, q1, _, q3⟩ := hy j hj
    exact ⟨u, q1, q3⟩
end Go.Proofs.YtflapfekfmmcmaaGreatDoor

set_option linter.unusedVariables false
namespace Go.Proofs.YtflapfekfmmcmaaGreatDoor
open Go Go.RowKit Go.Lib
theorem merged37_short (v bv dv : Value) (R : List (List Vl)) (w : World) (h : RowsAt w v R) (hl : R.length < 2) : Calls Tryz.prog 37 #[v, bv, dv] w fun e w' => e = .returned v ∧ w' = w := by
  obtain ⟨h0, a, c, rfl, h1⟩ := h
  have hlz : (R.length : Int) < 2 := by omega
  clear h1
  go_enter Tryz.func37, Tryz.ntmps37
  go_wp2
  go_ret
  exact ⟨rfl, rfl⟩
theorem keepB {w w1 w2 : World} (h : w.heap.size ≤ w1.heap.size ∧ Below w.heap.size w w1) (hb : Below w1.heap.size w1 w2) : w.heap.size ≤ w2.heap.size ∧ Below w.heap.size w w2 :=
  ⟨Nat.le_trans h.1 hb.size, h.2.trans (hb.mono h.1)⟩
theorem keepC {w w1 w2 : World} {b o b' o' : Nat} {u u' : Value} (h : w1.cell? ⟨b, o, none⟩ = some u ∧ w1.cell? ⟨b', o', none⟩ = some u' ∧ w.heap.size ≤ w1.heap.size ∧ Below w.heap.size w w1) (hb : Below w1.heap.size w1 w2) :
    w2.cell? ⟨b, o, none⟩ = some u ∧ w2.cell? ⟨b', o', none⟩ = some u' ∧ w.heap.size ≤ w2.heap.size ∧ Below w.heap.size w w2 :=
  ⟨by rw [(bcell hb).1 _ _ (World.block_lt_of_cell? w1 _ h.1)]; exact h.1, by rw [(bcell hb).1 _ _ (World.block_lt_of_cell? w1 _ h.2.1)]; exact h.2.1, keepB h.2.2 hb⟩
theorem Outs.rowsC {w : World} {base : Nat} {v : Value} {L : List (List Vl)} (h : Outs w base v L) (hne : L ≠ []) : RowsC w v L := by
  obtain ⟨h0, a, c, rfl, h1⟩ := h.rows
  obtain ⟨xs, ⟨_, h2⟩, _⟩ := h
  rcases h2 with ⟨_, hz⟩ | ⟨g, cap, cur, e, _, _, hcap, _⟩
  · exact absurd (List.eq_nil_of_length_eq_zero hz) hne
  · rcases h1 with h1 | ⟨b, o, rfl, h1⟩
    · exact absurd h1 hne
    · simp only [Value.slice.injEq, Option.some.injEq, Addr.mk.injEq] at e
      obtain ⟨⟨rfl, rfl, _⟩, _, rfl⟩ := e
      exact ⟨h0, _, _, _, rfl, hcap, h1⟩
theorem RowsC.tail {w : World} {b o n c : Nat} {x : List Vl} {A : List (List Vl)} (h : RowsC w (.slice (some ⟨b, o, none⟩) n c) (x :: A)) {o' c' n' : Nat} (hn : n' = A.length) (ho : c = 1 ∨ o' = o + 1) (hc : c' = c - 1) :
    RowsC w (.slice (some ⟨b, o', none⟩) n' c') A := by
  obtain ⟨h0, b1, o1, c1, e, hc1, h1⟩ := h
  simp only [Value.slice.injEq, Option.some.injEq, Addr.mk.injEq] at e
  obtain ⟨⟨rfl, rfl, _⟩, rfl, rfl⟩ := e
  simp only [List.length_cons] at h0 h1 hc1
  refine ⟨by omega, b, o', c', by rw [hn], by omega, fun j hj => ?_⟩
  obtain ⟨u, k1, k2⟩ := h1 (j + 1) (by omega)
  have ho : o' = o + 1 := by omega
  exact ⟨u, by rw [ho, show o + 1 + j = o + (j + 1) from by omega]; exact k1, k2⟩
theorem RowsC.head {w : World} {b o n c : Nat} {x : List Vl} {A : List (List Vl)} (h : RowsC w (.slice (some ⟨b, o, none⟩) n c) (x :: A)) : ∃ u, w.cell? ⟨b, o, none⟩ = some u ∧ RowAt w u x := by
  obtain ⟨h0, b1, o1, c1, e, hc1, h1⟩ := h
  simp only [Value.slice.injEq, Option.some.injEq, Addr.mk.injEq] at e
  obtain ⟨⟨rfl, rfl, _⟩, rfl, rfl⟩ := e
  obtain ⟨u, k1, k2⟩ := h1 0 (by simp)
  exact ⟨u, k1, k2⟩
theorem own_ge {w : World} {base e n : Nat} {v : Value} {xs : List Value} (h : w.ownsRow base e 1 v n xs) : ∀ j, v.ownBlock = some j → base ≤ j := by
  intro j hj
  rcases h.2 with ⟨e, _⟩ | ⟨p, cap, cur, e, hge, _⟩
  · rw [e] at hj; cases hj
  · rw [e] at hj; cases hj; exact hge
theorem RowsC.len {w : World} {b o n c : Nat} {A : List (List Vl)} (h : RowsC w (.slice (some ⟨b, o, none⟩) n c) A) : n = A.length ∧ n ≤ c := by
  obtain ⟨h0, b1, o1, c1, e, hc1, h1⟩ := h
  simp only [Value.slice.injEq, Option.some.injEq, Addr.mk.injEq] at e
  obtain ⟨_, rfl, rfl⟩ := e
  exact ⟨rfl, hc1⟩
set_option maxHeartbeats 4000000 in
set_option maxRecDepth 100000 in
theorem merged37_step (f : Nat) (B : List Int) (D : List Bool) (bv dv : Value) (hl : B.length = D.length)
    (IH : ∀ (v : Value) (R : List (List Vl)) (w : World), R.length ≤ 40000 → R.length ≤ f → RowsC w v R → IntsAt w bv B → BoolsAt w dv D → okAll R → inAll R B → Calls Tryz.prog 37 #[v, bv, dv] w fun e w' => ∃ ov, e = .returned ov ∧ RowsC w' ov (msR (ltV B D) f R) ∧ Below w.heap.size w w')
    (v : Value) (R : List (List Vl)) (w : World) (h4 : R.length ≤ 40000) (hf : R.length ≤ f + 1) (h2 : 2 ≤ R.length) (hR : RowsC w v R) (hB : IntsAt w bv B) (hD : BoolsAt w dv D) (ok : okAll R) (hin : inAll R B) :
    Calls Tryz.prog 37 #[v, bv, dv] w fun e w' => ∃ ov, e = .returned ov ∧ RowsC w' ov (mrgR (ltV B D) (msR (ltV B D) f (R.take (R.length / 2))) (msR (ltV B D) f (R.drop (R.length / 2)))) ∧ Below w.heap.size w w' := by
  obtain ⟨i0, hi, hz0, hz1, hz2⟩ := info_parts info31
  have HR := Lib.hid hR
  obtain ⟨h0, b, o, c, rfl, hc, h1⟩ := hR
  have HRN : Hid (R.length = R.length) := Lib.hid rfl
  obtain ⟨H, hH⟩ : ∃ H, H = R.length / 2 := ⟨_, rfl⟩
  rw [← hH]
  generalize hN : R.length = N at *
  have hHz : (N : Int) / 2 = (H : Int) := by omega
  have hH0 : (0 : Int) ≤ (H : Int) := by omega
  have hHc : (H : Int) ≤ (c : Int) := by omega
  have hHN : (H : Int) ≤ (N : Int) := by omega
  have hc0 : ¬ (c = 0) := by omega
  have hcH : ¬ (c = H) := by omega
  have hwH : IntKind.i64.wrap (H : Int) = (H : Int) := IntWalk.i64_in _ (by omega)
  have hHc2 : H ≤ c := by omega
  have hHN2 : H ≤ N := by omega
  have h2z : ¬ (N : Int) < 2 := by omega
  have HB := Lib.hid hB
  have HD := Lib.hid hD
  have hHH := Lib.hid hH
  have hNN := Lib.hid hN
  have H4 := Lib.hid h4
  have HF := Lib.hid hf
  have HC := Lib.hid hc
  clear h1 hB hD HRN hH hN h4 hf hc
  have A4 := Lib.hid (IH (.slice (some ⟨b, o, none⟩) H c) (R.take H))
  have B4 := Lib.hid (IH (.slice (some ⟨b, o + H, none⟩) (N - H) (c - H)) (R.drop H))
  have C1 : Hid (∀ w1, Below w.heap.size w w1 → Calls Tryz.prog 37 #[.slice (some ⟨b, o, none⟩) H c, bv, dv] w1 fun e w' => ∃ ov, e = .returned ov ∧ RowsC w' ov (msR (ltV B D) f (R.take H)) ∧ Below w1.heap.size w1 w' ∧ Hid (w1.heap.size ≤ w'.heap.size ∧ w.heap.size ≤ w'.heap.size ∧ Below w.heap.size w w')) := Lib.hid fun w1 hb1 => by
    have hN := hNN.out; have hH := hHH.out; have h4 := H4.out; have hf := HF.out; have hc := HC.out
    subst hN
    have P := (HR.out.part 0 H (by omega) (o' := o) (c' := c) (.inr rfl) (by omega)).below hb1
    rw [List.drop_zero] at P
    refine Calls.mono (A4.out w1 (by rw [List.length_take]; omega) (by rw [List.length_take]; omega) P (HB.out.below hb1) (HD.out.below hb1) (fun r hr => ok r (List.mem_of_mem_take hr)) (fun k hk => ⟨(hin k hk).1, fun r hr => (hin k hk).2 r (List.mem_of_mem_take hr)⟩)) ?_
    rintro e w' ⟨ov, rfl, h, hb⟩
    exact ⟨ov, rfl, h, hb, Lib.hid ⟨hb.size, Nat.le_trans hb1.size hb.size, hb1.trans (hb.mono hb1.size)⟩⟩
  have C2 : Hid (∀ w1, Below w.heap.size w w1 → Calls Tryz.prog 37 #[.slice (some ⟨b, o + H, none⟩) (N - H) (c - H), bv, dv] w1 fun e w' => ∃ ov, e = .returned ov ∧ RowsC w' ov (msR (ltV B D) f (R.drop H)) ∧ Below w1.heap.size w1 w' ∧ Hid (w1.heap.size ≤ w'.heap.size ∧ w.heap.size ≤ w'.heap.size ∧ Below w.heap.size w w')) := Lib.hid fun w1 hb1 => by
    have hN := hNN.out; have hH := hHH.out; have h4 := H4.out; have hf := HF.out; have hc := HC.out
    subst hN
    have P := (HR.out.part H (R.length - H) (by omega) (o' := o + H) (c' := c - H) (.inr rfl) (by omega)).below hb1
    rw [List.take_of_length_le (by rw [List.length_drop]; omega)] at P
    refine Calls.mono (B4.out w1 (by rw [List.length_drop]; omega) (by rw [List.length_drop]; omega) P (HB.out.below hb1) (HD.out.below hb1) (fun r hr => ok r (List.mem_of_mem_drop hr)) (fun k hk => ⟨(hin k hk).1, fun r hr => (hin k hk).2 r (List.mem_of_mem_drop hr)⟩)) ?_
    rintro e w' ⟨ov, rfl, h, hb⟩
    exact ⟨ov, rfl, h, hb, Lib.hid ⟨hb.size, Nat.le_trans hb1.size hb.size, hb1.trans (hb.mono hb1.size)⟩⟩
  have EA : Hid ((msR (ltV B D) f (R.take H)).length + (msR (ltV B D) f (R.drop H)).length = N ∧ (∀ r ∈ msR (ltV B D) f (R.take H), r ∈ R) ∧ ∀ r ∈ msR (ltV B D) f (R.drop H), r ∈ R) := Lib.hid (by
    refine ⟨?_, fun r hr => List.mem_of_mem_take (msR_mem _ _ _ _ hr), fun r hr => List.mem_of_mem_drop (msR_mem _ _ _ _ hr)⟩
    rw [msR_len, msR_len, List.length_take, List.length_drop]; have := hNN.out; omega)
  generalize hA : msR (ltV B D) f (R.take H) = LA at C1 EA ⊢
  generalize hB2 : msR (ltV B D) f (R.drop H) = LB at C2 EA ⊢
  have OK := Lib.hid ok
  have IN := Lib.hid hin
  have HLE := Lib.hid hl
  have TOK : Hid True := Lib.hid trivial
  clear A4 B4 IH hA hB2 ok hin hl
  go_enter Tryz.func37, Tryz.ntmps37
  go_wp2_with fail
  go_region_held3 (fun w' => w.heap.size ≤ w'.heap.size ∧ Below w.heap.size w w')
    (first | exact keepB (by assumption) hb | (go_keep; done) | (go_split_ands; (repeat' apply And.intro) <;> first | (go_keep; done) | exact below_drew (Below.refl _ _)))
    (first
      | (go_at_call 37; clear TOK; refine (C1.out _ ?_).mono ?_; (go_split_ands; assumption); rintro e w1 ⟨ov1, rfl, RA, hb, HS1⟩)
      | (go_at_call 37; refine (C2.out _ ?_).mono ?_; (go_split_ands; assumption); rintro e w2 ⟨ov2, rfl, RB, hb, HS2⟩))
  have hbw := Lib.hid HS2.out.2.2
  have hsz2 := HS2.out.2.1
  have RA2 := Lib.hid (RA.below hb)
  have RB2 := Lib.hid RB
  have BV := Lib.hid (fun wx (hx : Below w2.heap.size w2 wx) => HB.out.below (hbw.out.trans (hx.mono hsz2)))
  have DV := Lib.hid (fun wx (hx : Below w2.heap.size w2 wx) => HD.out.below (hbw.out.trans (hx.mono hsz2)))
  obtain ⟨na, nha⟩ : ∃ na, na = LA.length := ⟨_, rfl⟩
  obtain ⟨nb, nhb⟩ : ∃ nb, nb = LB.length := ⟨_, rfl⟩
  obtain ⟨_, ba, oa, ca, rfl, _, _⟩ := RA
  obtain ⟨_, bb, ob, cb, rfl, _, _⟩ := RB
  rw [← nha] at RA2 ⊢
  rw [← nhb] at RB2 ⊢
  have NA := Lib.hid nha
  have NB := Lib.hid nhb
  clear hb nha nhb
  go_wp2
  go_loopg [7, 8, 9] (na + nb) (fun g ta tb to wr => ∃ (A' B' O' : List (List Vl)) (oa' na' ca' ob' nb' cb' : Nat), na' + nb' ≤ g ∧ ta = .slice (some ⟨ba, oa', none⟩) na' ca' ∧ tb = .slice (some ⟨bb, ob', none⟩) nb' cb' ∧
    Hid (RowsC w2 (.slice (some ⟨ba, oa', none⟩) na' ca') A') ∧ Hid (RowsC w2 (.slice (some ⟨bb, ob', none⟩) nb' cb') B') ∧ Outs wr w2.heap.size to O' ∧ Below w2.heap.size w2 wr ∧ Hid (O' ++ mrgR (ltV B D) A' B' = mrgR (ltV B D) LA LB ∧ O'.length + na' + nb' = N ∧ (∀ r ∈ A', r ∈ R) ∧ (∀ r ∈ B', r ∈ R)))
  case atStart => exact ⟨LA, LB, [], oa, na, ca, ob, nb, cb, Nat.le_refl _, rfl, rfl, RA2, RB2, Outs.nil _ _, Below.refl _ _, Lib.hid ⟨rfl, by have := EA.out.1; rw [NA.out, NB.out]; simpa using this, EA.out.2.1, EA.out.2.2⟩⟩
  case round =>
    obtain ⟨A', B', O', oa', na', ca', ob', nb', cb', hg, rfl, rfl, QA, QB, hout, hbel, EQ⟩ := hrel
    have LA' := QA.out.len
    have LB' := QB.out.len
    obtain ⟨ta, tc, hto, hl63⟩ := outs_shape hout
    have HO := Lib.hid hout
    subst hto
    have hbel2 := Lib.hid hbel
    have hsr := hbel.size
    clear hout
    by_cases hne : 0 < na' ∧ 0 < nb'
    · obtain ⟨x, A1, rfl⟩ : ∃ x A1, A' = x :: A1 := by
        cases A' with
        | nil => exfalso; have := LA'.1; simp at this; omega
        | cons x A1 => exact ⟨x, A1, rfl⟩
      obtain ⟨y, B1, rfl⟩ : ∃ y B1, B' = y :: B1 := by
        cases B' with
        | nil => exfalso; have := LB'.1; simp at this; omega
        | cons y B1 => exact ⟨y, B1, rfl⟩
      obtain ⟨ux, cx, rx⟩ := QA.out.head
      obtain ⟨uy, cy, ry⟩ := QB.out.head
      have CX := Lib.hid (fun wx (hx : Below wr.heap.size wr wx) => (show wx.cell? ⟨ba, oa', none⟩ = some ux by rw [(bcell (hbel2.out.trans (hx.mono hsr))).1 _ _ (World.block_lt_of_cell? w2 _ cx)]; exact cx))
      have CY := Lib.hid (fun wx (hx : Below wr.heap.size wr wx) => (show wx.cell? ⟨bb, ob', none⟩ = some uy by rw [(bcell (hbel2.out.trans (hx.mono hsr))).1 _ _ (World.block_lt_of_cell? w2 _ cy)]; exact cy))
      have RX := Lib.hid rx
      have RY := Lib.hid ry
      have C := Lib.hid (fun wx (hx : Below wr.heap.size wr wx) => Calls.mono (before55 uy ux y x B D bv dv wx (ry.below (hbel2.out.trans (hx.mono hsr))) (rx.below (hbel2.out.trans (hx.mono hsr))) (BV.out wx (hbel2.out.trans (hx.mono hsr))) (DV.out wx (hbel2.out.trans (hx.mono hsr))) HLE.out
        (fun k hk => ⟨(IN.out k hk).1, (IN.out k hk).2 y (EQ.out.2.2.2 y (List.mem_cons_self ..)), (IN.out k hk).2 x (EQ.out.2.2.1 x (List.mem_cons_self ..))⟩)
        (OK.out y (EQ.out.2.2.2 y (List.mem_cons_self ..))) (OK.out x (EQ.out.2.2.1 x (List.mem_cons_self ..))))
        (fun e w' (h : e = .returned (.bool (ltV B D y x)) ∧ Below wx.heap.size wx w') => (⟨h.1, h.2, Lib.hid ⟨Nat.le_trans hx.size h.2.size, hx.trans (h.2.mono hx.size)⟩⟩ : e = .returned (.bool (ltV B D y x)) ∧ Below wx.heap.size wx w' ∧ Hid (wr.heap.size ≤ w'.heap.size ∧ Below wr.heap.size wr w'))))
      have LAL := Lib.hid LA'.1
      have LBL := Lib.hid LB'.1
      have hna : (0 : Int) < (na' : Int) := by omega
      have hnb : (0 : Int) < (nb' : Int) := by omega
      have hna1 : (1 : Int) ≤ (na' : Int) := by omega
      have hnb1 : (1 : Int) ≤ (nb' : Int) := by omega
      have hna2 : 0 < na' := by omega
      have hnb2 : 0 < nb' := by omega
      have hac := LA'.2
      have hbc := LB'.2
      have cx5 := CX.out wr (Below.refl _ _)
      have cy5 := CY.out wr (Below.refl _ _)
      obtain ⟨xa, nx, xc, rfl⟩ : ∃ xa nx xc, ux = .slice xa nx xc := by obtain ⟨_, _, a, c, e, _⟩ := rx; exact ⟨_, _, _, e⟩
      obtain ⟨ya, ny, yc, rfl⟩ : ∃ ya ny yc, uy = .slice ya ny yc := by obtain ⟨_, _, a, c, e, _⟩ := ry; exact ⟨_, _, _, e⟩
      clear cx cy rx ry LA' LB' hne
      by_cases hlt : ltV B D y x = true
      · have CL := C.out
        rw [hlt] at CL
        have CL := Lib.hid CL
        have LT := Lib.hid hlt
        clear C hlt
        go_wp2_with fail
        go_region_held3 (fun w' => w'.cell? ⟨bb, ob', none⟩ = some (.slice ya ny yc) ∧ w'.cell? ⟨ba, oa', none⟩ = some (.slice xa nx xc) ∧ wr.heap.size ≤ w'.heap.size ∧ Below wr.heap.size wr w')
          (first | exact keepC (by assumption) hb | (go_keep; done) | (go_split_ands; (repeat' apply And.intro) <;> first | (go_keep; done) | exact below_drew (Below.refl _ _)))
          (first | (go_at_call 55; refine (CL.out _ ?_).mono ?_; (go_split_ands; assumption); rintro e w5 ⟨rfl, hb, HS5⟩))
        have hs5 := HS5.out.1
        have b5 := Lib.hid HS5.out.2
        have cy5 := CY.out w5 b5.out
        have cx5 := CX.out w5 b5.out
        obtain ⟨xs, hown, hrows⟩ := HO.out.keep b5.out
        have HR5 := Lib.hid hrows
        have hown3 := hown.alloc (.cells #[(.slice ya ny yc)] 33)
        have OL := Lib.hid (show O'.length ≤ 40000 by have := EQ.out.2.1; have := H4.out; omega)
        clear hown hrows hb
        rcases (by omega : cb' = 1 ∨ ¬ cb' = 1) with hcap | hcap
        all_goals
          go_wp2_with (first
            | (at_builtin; refine wpList_append_own _ rfl _ _ 22 rfl w2.heap.size 33 i0 (.slice none 0 0) 1 24 Tryz.underlying22 hi hz0 hz1 hz2 rfl (by decide) _ _ _ rfl hown3 ⟨w5.heap.size, 0, none⟩ 1 1 [(.slice ya ny yc)] rfl rfl (cell_one_new _ _ _) (by simp [Value.oneCell']) (by have := OL.out; unfold maxLen; omega) (by have := OL.out; omega) (by simp; omega) ?_; intro v' w6 hown' hg6 hnil6))
          go_roundg (na' + nb' - 1)
          case measure => omega
          case rel =>
            have hal : Below w5.heap.size w5 (w5.alloc (.cells #[(.slice ya ny yc)] 33)) := (Below.refl _ _).alloc (Nat.le_refl _) _
            first
              | refine ⟨x :: A1, B1, O' ++ [y], oa', na', ca', ob', nb' - 1, cb' - 1, by omega, (by first | rfl | simp [hcap]), (by first | rfl | simp [hcap]), QA, Lib.hid (QB.out.tail (by have := LBL.out; simp at this; omega) (by omega) (by omega)), ?_, ?_, Lib.hid ⟨?_, by rw [List.length_append]; have := EQ.out.2.1; simp; omega, EQ.out.2.2.1, fun r hr => EQ.out.2.2.2 r (List.mem_cons_of_mem _ hr)⟩⟩
              | refine ⟨x :: A1, B1, O' ++ [y], oa', na', ca', ob' + 1, nb' - 1, cb' - 1, by omega, (by first | rfl | simp [hcap]), (by first | rfl | simp [hcap]), QA, Lib.hid (QB.out.tail (by have := LBL.out; simp at this; omega) (by omega) (by omega)), ?_, ?_, Lib.hid ⟨?_, by rw [List.length_append]; have := EQ.out.2.1; simp; omega, EQ.out.2.2.1, fun r hr => EQ.out.2.2.2 r (List.mem_cons_of_mem _ hr)⟩⟩
            · exact outs_push (w := w5.alloc (.cells #[(.slice ya ny yc)] 33)) (by simp; omega) hown3 (fun j hj => by
                obtain ⟨y, h1, h2⟩ := HR5.out j hj
                exact ⟨y, h1, h2.keep hal⟩) (RY.out.inn ((hbel2.out.trans (b5.out.mono hsr)).trans (hal.mono (by omega)))) hown' hg6
            · have b2 := (hbel2.out.trans (b5.out.mono hsr)).alloc (o := .cells #[(.slice ya ny yc)] 33) (by omega)
              exact b2.grown hg6 (by simp; omega) (fun j hj => by
                rcases hown3.2 with ⟨e, _⟩ | ⟨p, cap, cur, e, hge, _⟩
                · rw [e] at hj; cases hj
                · rw [e] at hj; cases hj; exact hge)
            · rw [List.append_assoc, ← EQ.out.1, mrgR_cons, if_pos LT.out]; rfl
      · have LT := Lib.hid hlt
        have hlt : ltV B D y x = false := by simpa using hlt
        have CL := C.out
        rw [hlt] at CL
        have CL := Lib.hid CL
        clear C hlt
        go_wp2_with fail
        go_region_held3 (fun w' => w'.cell? ⟨bb, ob', none⟩ = some (.slice ya ny yc) ∧ w'.cell? ⟨ba, oa', none⟩ = some (.slice xa nx xc) ∧ wr.heap.size ≤ w'.heap.size ∧ Below wr.heap.size wr w')
          (first | exact keepC (by assumption) hb | (go_keep; done) | (go_split_ands; (repeat' apply And.intro) <;> first | (go_keep; done) | exact below_drew (Below.refl _ _)))
          (first | (go_at_call 55; refine (CL.out _ ?_).mono ?_; (go_split_ands; assumption); rintro e w5 ⟨rfl, hb, HS5⟩))
        have hs5 := HS5.out.1
        have b5 := Lib.hid HS5.out.2
        have cy5 := CY.out w5 b5.out
        have cx5 := CX.out w5 b5.out
        obtain ⟨xs, hown, hrows⟩ := HO.out.keep b5.out
        have HR5 := Lib.hid hrows
        have hown3 := hown.alloc (.cells #[(.slice xa nx xc)] 33)
        have OL := Lib.hid (show O'.length ≤ 40000 by have := EQ.out.2.1; have := H4.out; omega)
        clear hown hrows hb
        rcases (by omega : ca' = 1 ∨ ¬ ca' = 1) with hcap | hcap
        all_goals
          go_wp2_with (first
            | (at_builtin; refine wpList_append_own _ rfl _ _ 22 rfl w2.heap.size 33 i0 (.slice none 0 0) 1 24 Tryz.underlying22 hi hz0 hz1 hz2 rfl (by decide) _ _ _ rfl hown3 ⟨w5.heap.size, 0, none⟩ 1 1 [(.slice xa nx xc)] rfl rfl (cell_one_new _ _ _) (by simp [Value.oneCell']) (by have := OL.out; unfold maxLen; omega) (by have := OL.out; omega) (by simp; omega) ?_; intro v' w6 hown' hg6 hnil6))
          go_roundg (na' + nb' - 1)
          case measure => omega
          case rel =>
            have hal : Below w5.heap.size w5 (w5.alloc (.cells #[(.slice xa nx xc)] 33)) := (Below.refl _ _).alloc (Nat.le_refl _) _
            first
              | refine ⟨A1, y :: B1, O' ++ [x], oa', na' - 1, ca' - 1, ob', nb', cb', by omega, (by first | rfl | simp [hcap]), (by first | rfl | simp [hcap]), Lib.hid (QA.out.tail (by have := LAL.out; simp at this; omega) (by omega) (by omega)), QB, ?_, ?_, Lib.hid ⟨?_, by rw [List.length_append]; have := EQ.out.2.1; simp; omega, fun r hr => EQ.out.2.2.1 r (List.mem_cons_of_mem _ hr), EQ.out.2.2.2⟩⟩
              | refine ⟨A1, y :: B1, O' ++ [x], oa' + 1, na' - 1, ca' - 1, ob', nb', cb', by omega, (by first | rfl | simp [hcap]), (by first | rfl | simp [hcap]), Lib.hid (QA.out.tail (by have := LAL.out; simp at this; omega) (by omega) (by omega)), QB, ?_, ?_, Lib.hid ⟨?_, by rw [List.length_append]; have := EQ.out.2.1; simp; omega, fun r hr => EQ.out.2.2.1 r (List.mem_cons_of_mem _ hr), EQ.out.2.2.2⟩⟩
            · exact outs_push (w := w5.alloc (.cells #[(.slice xa nx xc)] 33)) (by simp; omega) hown3 (fun j hj => by
                obtain ⟨y, h1, h2⟩ := HR5.out j hj
                exact ⟨y, h1, h2.keep hal⟩) (RX.out.inn ((hbel2.out.trans (b5.out.mono hsr)).trans (hal.mono (by omega)))) hown' hg6
            · have b2 := (hbel2.out.trans (b5.out.mono hsr)).alloc (o := .cells #[(.slice xa nx xc)] 33) (by omega)
              exact b2.grown hg6 (by simp; omega) (fun j hj => by
                rcases hown3.2 with ⟨e, _⟩ | ⟨p, cap, cur, e, hge, _⟩
                · rw [e] at hj; cases hj
                · rw [e] at hj; cases hj; exact hge)
            · rw [List.append_assoc, ← EQ.out.1, mrgR_cons, if_neg LT.out]; rfl
    · obtain ⟨ysA, lyA, lyA2, hyA, oneA, rwA⟩ := QA.out.heads
      obtain ⟨ysB, lyB, lyB2, hyB, oneB, rwB⟩ := QB.out.heads
      obtain ⟨xs, hown, hrows⟩ := HO.out
      have ES : Hid (O' ++ A' ++ B' = mrgR (ltV B D) LA LB) := Lib.hid (by
        rw [← EQ.out.1, List.append_assoc]
        congr 1
        rcases (by omega : na' = 0 ∨ nb' = 0) with h | h
        · have : A' = [] := List.eq_nil_of_length_eq_zero (by omega)
          rw [this, mrgR_nil]; rfl
        · have : B' = [] := List.eq_nil_of_length_eq_zero (by omega)
          rw [this, mrgR_nil2]; simp)
      have HR6 := Lib.hid hrows
      have HYA := Lib.hid (hyA wr hbel)
      have HYB := Lib.hid hyB
      have RWA := Lib.hid rwA
      have RWB := Lib.hid rwB
      have ONA := Lib.hid oneA
      have ONB := Lib.hid oneB
      have hown0 := Lib.hid hown
      have hO := EQ.out.2.1
      have h4 := H4.out
      have LYA := Lib.hid (And.intro lyA lyA2)
      have LYB := Lib.hid (And.intro lyB lyB2)
      have OL := Lib.hid (And.intro hO h4)
      have N2 := Lib.hid h2
      rcases (by omega : na' = 0 ∨ (0 < na' ∧ nb' = 0)) with hz | ⟨hpos, hz⟩
      all_goals
        have hz' := Lib.hid hz
        try have hz1z : (0 : Int) < (na' : Int) := by omega
        clear hyA hyB rwA rwB oneA oneB hrows hown hO h4 lyA lyA2 lyB lyB2 LA' LB' hne
        go_wp2_with (first
          | (at_builtin; refine wpList_append_own _ rfl _ _ 22 rfl w2.heap.size 33 i0 (.slice none 0 0) 1 24 Tryz.underlying22 hi hz0 hz1 hz2 rfl (by decide) _ _ _ rfl hown0.out ⟨ba, oa', none⟩ _ ca' ysA rfl (by have := LYA.out; omega) HYA.out ONA.out (by have := OL.out; unfold maxLen; omega) (by have := OL.out; omega) hsr ?_; intro v1 wa hownA hgA hnilA; have belA := Lib.hid (hbel2.out.grown hgA hsr (own_ge hown0.out)))
          | (at_builtin; refine wpList_append_own _ rfl _ _ 22 rfl w2.heap.size 33 i0 (.slice none 0 0) 1 24 Tryz.underlying22 hi hz0 hz1 hz2 rfl (by decide) _ _ _ rfl hownA ⟨bb, ob', none⟩ _ cb' ysB rfl (by have := LYB.out; omega) (HYB.out _ belA.out) ONB.out (by have := OL.out; unfold maxLen; omega) (by have := OL.out; omega) belA.out.size ?_; intro v2 wb hownB hgB hnilB; have belB := Lib.hid (belA.out.grown hgB belA.out.size (own_ge hownA))))
        go_ret
        have rowsA := outs_app hsr hbel2.out hown0.out HR6.out LYA.out.1 RWA.out hgA
        have hownA' : wa.ownsRow w2.heap.size 33 1 v1 (O' ++ A').length (xs ++ ysA) := by rw [List.length_append, ← LYA.out.2]; first | exact hownA | simpa [hz'.out] using hownA
        have rowsB := outs_app belA.out.size belA.out hownA' rowsA LYB.out.1 RWB.out hgB
        have OB : Outs wb w2.heap.size v2 (O' ++ A' ++ B') := ⟨xs ++ ysA ++ ysB, by rw [List.length_append, List.length_append, ← LYA.out.2, ← LYB.out.2]; first | exact hownB | simpa [hz'.out] using hownB, rowsB⟩
        have hnn : O' ++ A' ++ B' ≠ [] := fun h => by
          have h := congrArg List.length h
          simp only [List.length_append, List.length_nil] at h
          have := OL.out; have := N2.out; have := LYA.out; have := LYB.out
          omega
        exact ⟨v2, rfl, by rw [← ES.out]; exact OB.rowsC hnn, hbw.out.trans (belB.out.mono hsz2)⟩
theorem merged37 (B : List Int) (D : List Bool) (bv dv : Value) (hl : B.length = D.length) : ∀ (f : Nat) (v : Value) (R : List (List Vl)) (w : World), R.length ≤ 40000 → R.length ≤ f → RowsC w v R → IntsAt w bv B → BoolsAt w dv D → okAll R → inAll R B →
    Calls Tryz.prog 37 #[v, bv, dv] w fun e w' => ∃ ov, e = .returned ov ∧ RowsC w' ov (msR (ltV B D) f R) ∧ Below w.heap.size w w'
  | 0, v, R, w, h4, hf, hR, hB, hD, ok, hin => by
    refine (merged37_short v bv dv R w hR.rows (by omega)).mono ?_
    rintro e w' ⟨rfl, rfl⟩
    exact ⟨v, rfl, hR, Below.refl _ _⟩
  | f + 1, v, R, w, h4, hf, hR, hB, hD, ok, hin => by
    by_cases hs : R.length < 2
    · refine (merged37_short v bv dv R w hR.rows hs).mono ?_
      rintro e w' ⟨rfl, rfl⟩
      exact ⟨v, rfl, by unfold msR; rw [if_pos hs]; exact hR, Below.refl _ _⟩
    · refine (merged37_step f B D bv dv hl (merged37 B D bv dv hl f) v R w h4 hf (by omega) hR hB hD ok hin).mono ?_
      rintro e w' ⟨ov, rfl, h, hb⟩
      exact ⟨ov, rfl, by unfold msR; rw [if_neg hs]; exact h, hb⟩
end Go.Proofs.YtflapfekfmmcmaaGreatDoor

set_option linter.unusedVariables false
namespace Go.Proofs.YtflapfekfmmcmaaGreatDoor
open Go Go.RowKit Go.Lib
def Srt20 (w : World) (R : List (List Vl)) (B : List Int) (D : List Bool) (e : Ending) (w' : World) : Prop := ∃ ov, e = .returned (.tuple #[ov, .int .i64 (if okS R B then 0 else 6)]) ∧ RowsAt w' ov (if okS R B then srt R B D else []) ∧ Below w.heap.size w w'
set_option maxHeartbeats 4000000 in
set_option maxRecDepth 100000 in
theorem sorted20 (rv bv dv : Value) (R : List (List Vl)) (B : List Int) (D : List Bool) (w : World) (hr : RowsAt w rv R) (hrc : R = [] ∨ RowsC w rv R) (h4 : R.length ≤ 40000) (hB : IntsAt w bv B) (hD : BoolsAt w dv D) (hl : B.length = D.length) (ok : okAll R) (hin : ∀ k ∈ B, 0 ≤ k ∧ ∀ r ∈ R, k < (r.length : Int)) :
    Calls Tryz.prog 20 #[rv, bv, dv] w (Srt20 w R B D) := by
  have C37 : Hid (∀ w1, Below w.heap.size w w1 → Calls Tryz.prog 37 #[rv, bv, dv] w1 fun e w' => ∃ ov, e = .returned ov ∧ RowsAt w' ov (srt R B D) ∧ Below w1.heap.size w1 w') := Lib.hid fun w1 hb1 => by
    rcases hrc with rfl | hrc
    · refine (merged37_short rv bv dv [] w1 (hr.below hb1) (by simp)).mono ?_
      rintro e w' ⟨rfl, rfl⟩
      exact ⟨rv, rfl, hr.below hb1, Below.refl _ _⟩
    · refine (merged37 B D bv dv hl R.length rv R w1 h4 (Nat.le_refl _) (hrc.below hb1) (hB.below hb1) (hD.below hb1) ok hin).mono ?_
      rintro e w' ⟨ov, rfl, h, hb⟩
      exact ⟨ov, rfl, by rw [srt_eq]; exact h.rows, hb⟩
  clear hrc h4 hl ok
  have hdone : dv.oneCell' = true := hD.one
  obtain ⟨l4, a4, c4, rfl, k4⟩ := hD
  clear k4 hdone
  obtain ⟨l1, a1, c1, rfl, k1⟩ := hr
  obtain ⟨l3, a3, c3, rfl, k3⟩ := hB
  have K1 := Lib.hid k1
  have K3 := Lib.hid k3
  have HIN := Lib.hid hin
  generalize hR : okS R B = res
  have HR := Lib.hid hR
  clear k1 k3 hin hR
  go_enter Tryz.func20, Tryz.ntmps20
  go_wp2
  go_loopg [8] B.length (fun g t wr => ∃ k : Nat, k ≤ B.length ∧ B.length - k ≤ g ∧ t = .int .i64 k ∧ Below w.heap.size w wr ∧ Hid (∀ j, j < k → colF 0 (B.getD j 0).toNat R = true))
  case atStart => exact ⟨0, Nat.zero_le _, by omega, by go_num, Below.refl _ _, Lib.hid fun j hj => absurd hj (Nat.not_lt_zero _)⟩
  case round =>
    obtain ⟨k, hk, hg, rfl, hbel, A⟩ := hrel
    by_cases hlt : k < B.length
    · rcases K3.out with hn | ⟨b3, o3, rfl, hc3⟩
      · exfalso; rw [hn] at hlt; simp at hlt
      have e3 := hc3 k hlt
      have IN := HIN.out _ (getD_memB (k := k) hlt)
      have OF := Lib.hid (okS_false (R := R) (B := B) (k := k) hlt)
      clear hc3
      generalize hbk : B.getD k 0 = bk at e3 IN OF
      obtain ⟨c, rfl⟩ : ∃ c : Nat, bk = (c : Int) := ⟨bk.toNat, by omega⟩
      have hbkH := Lib.hid hbk
      have INH := Lib.hid IN.2
      have e30 := World.block_lt_of_cell? w _ e3
      have E3 := Lib.hid (fun wx (hx : Below w.heap.size w wx) => (show wx.cell? ⟨b3, o3 + k, none⟩ = some (.int .i64 c) by rw [(bcell hx).1 _ _ e30]; exact e3))
      clear hbk IN e3
      go_wp2
      go_loopg [9, 10] R.length (fun g7 s7 s19 wi => ∃ (m : Nat) (kd : Int), m ≤ R.length ∧ R.length - m ≤ g7 ∧ s7 = .int .i64 kd ∧ s19 = .int .i64 m ∧ Below w.heap.size w wi ∧ Hid (colF 0 c R = colF kd c (R.drop m)))
      case atStart => exact ⟨0, 0, Nat.zero_le _, by omega, by go_num, by go_num, hbel, Lib.hid rfl⟩
      case round =>
        obtain ⟨m, kd, hm, hg7, rfl, rfl, hbi, EQ⟩ := hrel
        have e3 := E3.out _ hbi
        by_cases hlt2 : m < R.length
        · rcases K1.out with hn | ⟨b, o, rfl, hc⟩
          · exfalso; rw [hn] at hlt2; simp at hlt2
          obtain ⟨u, e1, r1⟩ := hc m hlt2
          have AT := colF_at kd c hlt2
          have rl := INH.out _ (getD_memR hlt2)
          clear hc
          generalize hrr : R.getD m [] = r at r1 AT rl
          obtain ⟨lr, sr, ar, cr, rfl, kr⟩ := r1
          rcases kr with hn | ⟨b', o', rfl, hc'⟩
          · exfalso; rw [hn] at rl; simp at rl; omega
          obtain ⟨x1, x2, x3⟩ := hc' c (by omega)
          clear hc' sr
          generalize hx : r.getD c d0 = x at x1 x2 x3 AT
          obtain ⟨xk, xn, xs⟩ := x
          simp only at *
          rw [← (bcell hbi).1 _ _ (World.block_lt_of_cell? w _ e1)] at e1
          have q1 := World.block_lt_of_cell? w _ x1
          rw [← (bcell hbi).1 _ _ q1] at x1 x2 x3
          have rlz : (c : Int) < (r.length : Int) := rl
          have hszi := hbi.size
          have AT := Lib.hid AT
          have n1 := World.new_ne wr _ e1
          have n2 := World.new_ne wr _ x1
          have n3 := World.new_ne wr _ e3
          clear q1 hx hrr rl
          by_cases h0 : xk = 0
          · subst h0
            have EQ2 : Hid (colF 0 c R = colF kd c (R.drop (m + 1))) := Lib.hid (by rw [EQ.out, AT.out]; simp)
            clear AT EQ
            go_wp2_with fail
            go_region_held3 (fun w' => w'.cell? ⟨b, o + m, none⟩ = some (.slice (some ⟨b', o', none⟩) r.length cr) ∧ w'.cell? ⟨b3, o3 + k, none⟩ = some (.int .i64 c) ∧ w'.cell? ⟨b', o' + c * 3, none⟩ = some (.int .i64 0) ∧ w'.cell? ⟨b', o' + c * 3 + 1, none⟩ = some (.int .i64 xn) ∧ w'.cell? ⟨b', o' + c * 3 + 2, none⟩ = some (.string xs))
              (first | (go_keep; done) | (go_split_ands; (repeat' apply And.intro) <;> (go_keep; done)))
              (fail)
            go_wp2
            go_roundg (R.length - (m + 1))
            case measure => omega
            case rel => exact ⟨m + 1, kd, by omega, by omega, rfl, by go_num, by first | exact below_drew (hbi.alloc hszi _) | exact (hbi.alloc hszi _) | (repeat' (first | exact hbi | refine Below.setCell ?_ (by first | exact hszi | (simp; omega)) _ | refine Below.alloc ?_ (by first | exact hszi | (simp; omega)) _)), EQ2⟩
          · have h0b : (xk == 0) = false := by simpa using h0
            by_cases hk0 : kd = 0
            · subst hk0
              have EQ2 : Hid (colF 0 c R = colF xk c (R.drop (m + 1))) := Lib.hid (by rw [EQ.out, AT.out]; simp [h0])
              clear AT EQ
              go_wp2_with fail
              go_region_held3 (fun w' => w'.cell? ⟨b, o + m, none⟩ = some (.slice (some ⟨b', o', none⟩) r.length cr) ∧ w'.cell? ⟨b3, o3 + k, none⟩ = some (.int .i64 c) ∧ w'.cell? ⟨b', o' + c * 3, none⟩ = some (.int .i64 xk) ∧ w'.cell? ⟨b', o' + c * 3 + 1, none⟩ = some (.int .i64 xn) ∧ w'.cell? ⟨b', o' + c * 3 + 2, none⟩ = some (.string xs))
                (first | (go_keep; done) | (go_split_ands; (repeat' apply And.intro) <;> (go_keep; done)))
                (fail)
              go_wp2
              go_roundg (R.length - (m + 1))
              case measure => omega
              case rel => exact ⟨m + 1, xk, by omega, by omega, rfl, by go_num, by first | exact below_drew (hbi.alloc hszi _) | exact (hbi.alloc hszi _) | (repeat' (first | exact hbi | refine Below.setCell ?_ (by first | exact hszi | (simp; omega)) _ | refine Below.alloc ?_ (by first | exact hszi | (simp; omega)) _)), EQ2⟩
            · have hk0b : (kd == 0) = false := by simpa using hk0
              by_cases hke : xk = kd
              · subst hke
                have EQ2 : Hid (colF 0 c R = colF xk c (R.drop (m + 1))) := Lib.hid (by rw [EQ.out, AT.out]; simp [h0])
                clear AT EQ
                go_wp2_with fail
                go_region_held3 (fun w' => w'.cell? ⟨b, o + m, none⟩ = some (.slice (some ⟨b', o', none⟩) r.length cr) ∧ w'.cell? ⟨b3, o3 + k, none⟩ = some (.int .i64 c) ∧ w'.cell? ⟨b', o' + c * 3, none⟩ = some (.int .i64 xk) ∧ w'.cell? ⟨b', o' + c * 3 + 1, none⟩ = some (.int .i64 xn) ∧ w'.cell? ⟨b', o' + c * 3 + 2, none⟩ = some (.string xs))
                  (first | (go_keep; done) | (go_split_ands; (repeat' apply And.intro) <;> (go_keep; done)))
                  (fail)
                go_wp2
                go_roundg (R.length - (m + 1))
                case measure => omega
                case rel => exact ⟨m + 1, xk, by omega, by omega, rfl, by go_num, by first | exact below_drew (hbi.alloc hszi _) | exact (hbi.alloc hszi _) | (repeat' (first | exact hbi | refine Below.setCell ?_ (by first | exact hszi | (simp; omega)) _ | refine Below.alloc ?_ (by first | exact hszi | (simp; omega)) _)), EQ2⟩
              · have hkeb : (xk != kd) = true := by simpa using hke
                have hk0c : (kd != 0) = true := by simpa using hk0
                clear hk0b h0b
                have EQ2 : Hid (colF 0 c R = false) := Lib.hid (by rw [EQ.out, AT.out]; simp [h0, hk0, hke])
                clear AT EQ
                go_wp2_with fail
                go_region_held3 (fun w' => w'.cell? ⟨b, o + m, none⟩ = some (.slice (some ⟨b', o', none⟩) r.length cr) ∧ w'.cell? ⟨b3, o3 + k, none⟩ = some (.int .i64 c) ∧ w'.cell? ⟨b', o' + c * 3, none⟩ = some (.int .i64 xk) ∧ w'.cell? ⟨b', o' + c * 3 + 1, none⟩ = some (.int .i64 xn) ∧ w'.cell? ⟨b', o' + c * 3 + 2, none⟩ = some (.string xs))
                  (first | (go_keep; done) | (go_split_ands; (repeat' apply And.intro) <;> (go_keep; done)))
                  (fail)
                go_wp2
                go_ret2
                have OF2 := OF.out (by rw [Int.toNat_natCast]; exact EQ2.out)
                exact ⟨_, by rw [OF2]; rfl, by rw [OF2]; exact rows_nil _, by first | exact below_drew (hbi.alloc hszi _) | exact (hbi.alloc hszi _) | (repeat' (first | exact hbi | refine Below.setCell ?_ (by first | exact hszi | (simp; omega)) _ | refine Below.alloc ?_ (by first | exact hszi | (simp; omega)) _))⟩
        · have hmR : m = R.length := by omega
          have EQ2 : Hid (colF 0 c R = true) := Lib.hid (by rw [EQ.out, List.drop_eq_nil_of_le (by omega)]; rfl)
          clear EQ
          go_wp2
          go_roundg (B.length - (k + 1))
          case measure => omega
          case rel =>
            refine ⟨k + 1, by omega, by omega, by go_num, hbi, Lib.hid fun j hj => ?_⟩
            by_cases e : j = k
            · subst e; rw [hbkH.out, Int.toNat_natCast]; exact EQ2.out
            · exact A.out j (by omega)
    · have hkB : k = B.length := by omega
      subst hkB
      have E := Lib.hid (okS_true (R := R) A.out)
      have E2 := E
      have C := C37.out wr hbel
      have hsz := hbel.size
      clear C37
      go_wp2_with (first | (go_at_call 37; refine C.mono ?_; rintro e w2 ⟨ov, rfl, h2, hb2⟩))
      go_ret2
      exact ⟨ov, by rw [E2.out]; rfl, by rw [E2.out]; exact h2, hbel.trans (hb2.mono hsz)⟩
end Go.Proofs.YtflapfekfmmcmaaGreatDoor

set_option linter.unusedVariables false
namespace Go.Proofs.YtflapfekfmmcmaaGreatDoor
open Go Go.RowKit Go.Lib
set_option maxHeartbeats 4000000 in
set_option maxRecDepth 100000 in
theorem sortedR7 (v bv dv : Value) (R : List (List Vl)) (B : List Int) (D : List Bool) (w : World) (h : RowsAt w v R) (hrc : R = [] ∨ RowsC w v R) (hB : IntsAt w bv B) (hD : BoolsAt w dv D) : Calls Tryz.prog 7 #[v, bv, dv] w (ResS w R B D) := by
  have C1 := rowsAsked13 v R w h
  have H := Lib.hid h
  have HRC := Lib.hid hrc
  have HB := Lib.hid hB
  have HD := Lib.hid hD
  obtain ⟨l3, a3, c3, rfl, k3⟩ := hB
  obtain ⟨l4, a4, c4, rfl, k4⟩ := hD
  have K3 := Lib.hid k3
  obtain ⟨l1, a1, c1, rfl, k1⟩ := h
  have K1 := Lib.hid k1
  clear k1 k3 k4 hrc
  by_cases he : errR R = 0
  · have HE := Lib.hid he
    rw [he] at C1
    have hlen := Lib.hid (len_of he)
    have OK := Lib.hid (ok_of he)
    clear he
    go_enter Tryz.func7, Tryz.ntmps7
    go_wp2_with (first
      | (go_at_call 19; refine C1.mono ?_; rintro e w1 ⟨rfl, hb1⟩))
    go_loopg [9, 10] B.length (fun g t9 t10 wr => ∃ (k : Nat) (mm : Int), k ≤ B.length ∧ B.length - k ≤ g ∧ t9 = .int .i64 mm ∧ t10 = .int .i64 k ∧ Below w.heap.size w wr ∧ Hid (mm = mostOf (B.take k) ∧ ∀ j, j < k → 0 ≤ B.getD j 0))
    case atStart => exact ⟨0, -1, Nat.zero_le _, by omega, by go_num, by go_num, hb1, Lib.hid ⟨rfl, fun j hj => absurd hj (Nat.not_lt_zero _)⟩⟩
    case round =>
      obtain ⟨k, mm, hk, hg, rfl, rfl, hbel, MM⟩ := hrel
      clear hb1
      by_cases hlt : k < B.length
      · rcases K3.out with hn | ⟨b3, o3, rfl, hc3⟩
        · exfalso; rw [hn] at hlt; simp at hlt
        have e3 := hc3 k hlt
        rw [← (bcell hbel).1 _ _ (World.block_lt_of_cell? w _ e3)] at e3
        have MT := mostOf_take hlt
        have MB := getD_memB hlt
        clear hc3
        generalize hz : B.getD k 0 = z at e3 MT MB
        have HZ := Lib.hid hz
        have MT := Lib.hid MT
        clear hz
        by_cases hneg : z < 0
        · have ES : Hid (errS R B D = 1) := Lib.hid (by unfold errS; rw [if_neg (by rw [HE.out]; simp), if_pos (List.any_eq_true.2 ⟨z, MB, by simpa using hneg⟩)])
          clear MB
          go_wp2
          go_ret2
          exact ResS.mk ES.out (by decide) hbel
        · have hneg' : 0 ≤ z := by omega
          clear MB
          go_wp2
          go_roundg (B.length - (k + 1))
          case measure => omega
          case rel =>
            refine ⟨k + 1, max mm z, by omega, by omega, by go_num, by go_num, hbel, Lib.hid ⟨by rw [MT.out, MM.out.1], fun j hj => ?_⟩⟩
            by_cases e : j = k
            · subst e; rw [HZ.out]; exact hneg'
            · exact MM.out.2 j (by omega)
      · have hkB : k = B.length := by omega
        have MM2 : Hid (mm = mostOf B ∧ ∀ j, j < B.length → 0 ≤ B.getD j 0) := Lib.hid (by have := MM.out; rw [hkB, List.take_length] at this; exact this)
        have HN : Hid (B.any (· < 0) = false) := Lib.hid (by
          rw [List.any_eq_false]
          intro x hx
          obtain ⟨j, hj, rfl⟩ := List.getElem_of_mem hx
          have := MM2.out.2 j hj
          simp only [List.getD, hj, List.getElem?_eq_getElem, Option.getD_some] at this
          simpa using this)
        clear MM hkB
        by_cases hBD : B.length = D.length
        · have HBD := Lib.hid hBD
          rw [hBD] at hlt ⊢
          clear hBD hg hk
          go_wp2
          go_loopg [11] R.length (fun g t wr => ∃ m : Nat, m ≤ R.length ∧ R.length - m ≤ g ∧ t = .int .i64 m ∧ Below w.heap.size w wr ∧ Hid (∀ j, j < m → shortB mm (R.getD j []) = false))
          case atStart => exact ⟨0, Nat.zero_le _, by omega, by go_num, hbel, Lib.hid fun j hj => absurd hj (Nat.not_lt_zero _)⟩
          case round =>
            obtain ⟨m, hm, hg2, rfl, hbi, A⟩ := hrel
            clear hbel
            by_cases hlt2 : m < R.length
            · rcases K1.out with hn | ⟨b, o, rfl, hc⟩
              · exfalso; rw [hn] at hlt2; simp at hlt2
              obtain ⟨u, e1, r1⟩ := hc m hlt2
              have MR := getD_memR hlt2
              rw [← (bcell hbi).1 _ _ (World.block_lt_of_cell? w _ e1)] at e1
              clear hc
              generalize hrr : R.getD m [] = r at r1 MR
              have HRR := Lib.hid hrr
              obtain ⟨lr, _, ra, rc, rfl, _⟩ := r1
              clear hrr
              by_cases hsh : (r.length : Int) ≤ mm
              · have ES : Hid (errS R B D = 10) := Lib.hid (by
                  unfold errS
                  rw [if_neg (by rw [HE.out]; simp), if_neg (by rw [HN.out]; simp), if_neg (by simpa using HBD.out), if_pos (List.any_eq_true.2 ⟨r, MR, by rw [← MM2.out.1]; simpa [shortB] using hsh⟩)])
                clear MR
                go_wp2
                go_ret2
                exact ResS.mk ES.out (by decide) hbi
              · have SH : Hid (shortB mm r = false) := Lib.hid (by simpa [shortB] using hsh)
                clear MR
                go_wp2
                go_roundg (R.length - (m + 1))
                case measure => omega
                case rel =>
                  refine ⟨m + 1, by omega, by omega, by go_num, hbi, Lib.hid fun j hj => ?_⟩
                  by_cases e : j = m
                  · subst e; rw [HRR.out]; exact SH.out
                  · exact A.out j (by omega)
            · have hmR : m = R.length := by omega
              have SH : Hid (R.any (shortB mm) = false) := Lib.hid (by
                rw [List.any_eq_false]
                intro x hx
                obtain ⟨j, hj, rfl⟩ := List.getElem_of_mem hx
                have := A.out j (by omega)
                simp only [List.getD, hj, List.getElem?_eq_getElem, Option.getD_some] at this
                rw [this]; simp)
              have IN := in_of HN.out (by rw [← MM2.out.1]; exact SH.out)
              have C20 := sorted20 _ _ _ R B D _ (H.out.below hbi) (HRC.out.imp id fun x => x.below hbi) hlen.out (HB.out.below hbi) (HD.out.below hbi) HBD.out OK.out IN
              rw [HBD.out] at C20
              have E0 : errS R B D = if okS R B then 0 else 6 := by
                unfold errS
                rw [if_neg (by rw [HE.out]; simp), if_neg (by rw [HN.out]; simp), if_neg (by simpa using HBD.out), if_neg (by rw [← MM2.out.1, SH.out]; simp)]
              obtain ⟨z0, hz0⟩ : ∃ z0, z0 = errS R B D := ⟨_, rfl⟩
              have HZ0 := Lib.hid hz0
              have C20 := Lib.hid (Calls.mono C20 (fun e w' (h : Srt20 wr R B D e w') => (show ∃ ov, e = .returned (.tuple #[ov, .int .i64 z0]) ∧ Hid (RowsAt w' ov (resS R B D)) ∧ Below wr.heap.size wr w' by
                obtain ⟨ov, rfl, h2, h3⟩ := h
                refine ⟨ov, by rw [hz0, E0], Lib.hid ?_, h3⟩
                unfold resS
                rw [E0]
                cases hok : okS R B
                · rw [hok] at h2; simpa using h2
                · rw [hok] at h2; simpa using h2)))
              clear hz0 E0
              have hbiH := Lib.hid hbi
              clear hmR IN
              go_wp2_with (first | (go_at_call 20; refine C20.out.mono ?_; rintro e w2 ⟨ov, rfl, h2, hb2⟩))
              go_ret2
              exact ⟨ov, by rw [← HZ0.out]; rfl, h2.out, hbiH.out.trans (hb2.mono hbiH.out.size)⟩
        · have hBDz : ¬ (B.length : Int) = (D.length : Int) := by omega
          have ES : Hid (errS R B D = 10) := Lib.hid (by unfold errS; rw [if_neg (by rw [HE.out]; simp), if_neg (by rw [HN.out]; simp), if_pos hBD])
          clear hBD
          go_wp2
          go_ret2
          exact ResS.mk ES.out (by decide) hbel
  · have HE := Lib.hid he
    have ES : Hid (errS R B D = errR R) := Lib.hid (by unfold errS; rw [if_pos he])
    generalize hz : errR R = z at C1
    have HZ := Lib.hid hz
    have hz0 : (z != 0) = true := by rw [← hz]; simpa using he
    clear he hz
    go_enter Tryz.func7, Tryz.ntmps7
    go_wp2_with (first
      | (go_at_call 19; refine C1.mono ?_; rintro e w1 ⟨rfl, hb1⟩))
    go_ret2
    exact ResS.mk (by rw [ES.out, HZ.out]) (by rw [← HZ.out]; exact HE.out) hb1
end Go.Proofs.YtflapfekfmmcmaaGreatDoor
