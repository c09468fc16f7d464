/- PROVED: what syntax.Operators returns (part OpC). CONDITIONS: none. -/
import Derived.Test.YtblbcopalfngcaaGreatDoorOpB
import Derived.Maps.AppendAt
import Derived.LoopTactic
namespace Go.Proofs
open Go Go.Ev Go.RowKit Go.Maps Go.Sort
set_option linter.unusedVariables false
set_option maxRecDepth 100000 in
set_option maxHeartbeats 4000000 in
theorem operators_walk (w : World) : Calls Tryz.prog 282 #[] w fun e w' => ∃ g cap, e = .returned (.slice (some ⟨g, 0, none⟩) 16 cap) ∧ w'.ownsRow w.heap.size 9 1 (.slice (some ⟨g,0,none⟩) 16 cap) 16 (endOps.map encStr) ∧ Below w.heap.size w w' := by
  obtain ⟨i0, hi, hz0, hz1, hz2⟩ := info_parts Tryz.info9
  go_enter Tryz.func282, Tryz.ntmps282
  go_wp2_with (first | (go_at_call 338; refine (levels_calls w).mono ?_; rintro e w1 ⟨b0, b1, b2, b3, b4, b5, rfl, hm, hbel⟩) | go_in)
  have hst := St.start hm hbel
  clear hm hbel
  go_loopw [1, 7] (fun v i wr => ∃ k : Nat, k ≤ 6 ∧ i = .int .i64 k ∧ ∃ ss : List (List UInt8), ss.Perm ((lvE.take k).flatMap fun es => es.map vU) ∧ St w [b0, b1, b2, b3, b4, b5] v ss wr) (fun _ i _ => 6 - (intOf i).toNat)
  case atStart => exact ⟨0, by omega, rfl, [], .refl _, hst⟩
  case round =>
    obtain ⟨k, hk, rfl, ss, hp, hS⟩ := hrel
    have hk6 : k = 0 ∨ k = 1 ∨ k = 2 ∨ k = 3 ∨ k = 4 ∨ k = 5 ∨ k = 6 := by omega
    obtain ⟨w0, rfl⟩ : ∃ w0, w0 = wr := ⟨_, rfl⟩
    rcases hk6 with rfl | rfl | rfl | rfl | rfl | rfl | rfl
    · have hb := hS.maps.1
      have hrg := run_range_map (P := Tryz.prog) w0 420 9 9 b0 ⟨(lvE.getD 0 []).map ent⟩ 1 Tryz.underlying420 hb
      have hix : ∀ W, (Instr.index 421 (Value.agg #[Value.map (some b0), Value.map (some b1), Value.map (some b2), Value.map (some b3), Value.map (some b4), Value.map (some b5)]) (Value.int IntKind.i64 0)).run Tryz.prog W = .ok (.map (some b0)) W := fun W => run_ix _ 0 _ (by omega) rfl W
      go_wp2
      have hS0 := hS.alloc (.mapIter (some b0) 1 #[] 1)
      go_loopw [1] (fun v wi => ∃ (seen : Array Nat) (s2 : List (List UInt8)), s2.Perm (ss ++ got (lvE.getD 0 []) seen) ∧ s2.length ≤ 1000000 ∧ St w [b0, b1, b2, b3, b4, b5] v s2 wi ∧ wi.heap[w0.heap.size]? = some (.mapIter (some b0) 1 seen 1)) (fun _ wi => wi.rangeLeft b0 w0.heap.size)
      case atStart => exact ⟨#[], ss, by simp [got_none], by rw [hp.length_eq]; decide, hS0, heap_alloc_new _ _⟩
      case round =>
        obtain ⟨seen, s2, hp2, hlen, hS2, hit⟩ := hrel
        have hb2 := hS2.maps.1
        rcases next_own (P := Tryz.prog) (es := lvE.getD 0 []) hit hb2 (by decide) (by decide) with ⟨hall, hnx⟩ | ⟨e, he, hns, W2, hnx, hit2, hg2, hen, hms⟩
        · go_wp2
          go_roundw
          case rel =>
            refine ⟨1, by omega, by go_num, s2, ?_, hS2⟩
            rw [hall] at hp2
            exact hp2.trans (hp.append_right _)
          case measure => simp [intOf]
        · have hS3 := hS2.kept hg2 (fun j hj => by cases hj; exact ⟨hS.below.size, _, _, _, _, hit⟩)
          have hen' : (Instr.entry (.pointer (some ⟨w0.heap.size, 0, none⟩))).run Tryz.prog W2 = .ok (.tuple #[encN e.1, encStr (vU e)]) W2 := hen
          have hnx' : ∀ ty, (Instr.next (.pointer (some ⟨w0.heap.size, 0, none⟩)) false ty).run Tryz.prog wr = .ok (.tuple #[.bool true, encN e.1, encStr (vU e)]) W2 := hnx
          have hgp := got_push seen e hns (lvE.getD 0 []) (by decide) he
          have X : Aside (s2.Perm (ss ++ got (lvE.getD 0 []) seen) ∧ (got (lvE.getD 0 []) seen ++ [vU e]).Perm (got (lvE.getD 0 []) (seen.push e.2.2)) ∧ W2.rangeLeft b0 w0.heap.size < wr.rangeLeft b0 w0.heap.size ∧ W2.heap[w0.heap.size]? = some (.mapIter (some b0) 1 (seen.push e.2.2) 1) ∧ ss.Perm ((lvE.take 0).flatMap fun es => es.map vU)) := ⟨hp2, hgp, hms, hit2, hp⟩
          clear hen hnx hgp hp2 hms hit2 hit hb2 hS2 hp hb hrg hix hS0 hst hg2
          have hrow3 := hS3.row.alloc (.cells #[encStr (vU e)] 9)
          have hsz3 := hS3.below.size
          have Y : Aside (St w [b0, b1, b2, b3, b4, b5] u1 s2 W2) := hS3
          clear hS3
          go_wp2_with (first
            | (at_builtin; refine wpList_append_own _ rfl _ _ 63 rfl w.heap.size 9 i0 (.string ⟨#[]⟩) 1 16 Tryz.underlying63 hi hz0 hz1 hz2 rfl (by decide) _ _ _ rfl hrow3 ⟨W2.heap.size, 0, none⟩ 1 1 [encStr (vU e)] rfl rfl (cell_one_new _ _ _) (by simp [Value.oneCell', encStr]) (by unfold maxLen; omega) (by omega) (by simp; omega) ?_; intro v' w3 hown' hg3 hnil3)
            | go_in)
          obtain ⟨hp2', hgp', hms', hit2', hp'⟩ := X
          have Y' : St w [b0, b1, b2, b3, b4, b5] u1 s2 W2 := Y
          have hS4 := (Y'.alloc (.cells #[encStr (vU e)] 9)).push hg3 hown'
          have hit4 := iter_kept hg3 ((heap_alloc_old W2 (.cells #[encStr (vU e)] 9) hit2')) (own_cells hrow3)
          have hlen4 : (s2 ++ [vU e]).length ≤ 1000000 := by
            have h1 := hp2'.length_eq
            have h2 := hp'.length_eq
            have h3 := got_len (lvE.getD 0 []) seen
            have h4 : (lvE.getD 0 []).length ≤ 10 := by decide
            have h5 : ((lvE.take 0).flatMap fun es => es.map vU).length ≤ 100 := by decide
            simp only [List.length_append, List.length_singleton] at h1 ⊢
            omega
          go_roundw
          case rel =>
            refine ⟨_, _, _, _, _, _, _, _, _, _, ⟨seen.push e.2.2, s2 ++ [vU e], ?_, hlen4, hS4, hit4⟩, rfl⟩
            have q := hp2'.append_right [vU e]
            rw [List.append_assoc] at q
            exact q.trans (hgp'.append_left ss)
          case measure =>
            have e1 : w3.rangeLeft b0 w0.heap.size = W2.rangeLeft b0 w0.heap.size := left_same (hS4.maps.1.trans Y'.maps.1.symm) (hit4.trans hit2'.symm)
            rw [e1]; exact hms'
    · have hb := hS.maps.2.1
      have hrg := run_range_map (P := Tryz.prog) w0 420 9 9 b1 ⟨(lvE.getD 1 []).map ent⟩ 1 Tryz.underlying420 hb
      have hix : ∀ W, (Instr.index 421 (Value.agg #[Value.map (some b0), Value.map (some b1), Value.map (some b2), Value.map (some b3), Value.map (some b4), Value.map (some b5)]) (Value.int IntKind.i64 1)).run Tryz.prog W = .ok (.map (some b1)) W := fun W => run_ix _ 1 _ (by omega) rfl W
      go_wp2
      have hS0 := hS.alloc (.mapIter (some b1) 1 #[] 1)
      go_loopw [1] (fun v wi => ∃ (seen : Array Nat) (s2 : List (List UInt8)), s2.Perm (ss ++ got (lvE.getD 1 []) seen) ∧ s2.length ≤ 1000000 ∧ St w [b0, b1, b2, b3, b4, b5] v s2 wi ∧ wi.heap[w0.heap.size]? = some (.mapIter (some b1) 1 seen 1)) (fun _ wi => wi.rangeLeft b1 w0.heap.size)
      case atStart => exact ⟨#[], ss, by simp [got_none], by rw [hp.length_eq]; decide, hS0, heap_alloc_new _ _⟩
      case round =>
        obtain ⟨seen, s2, hp2, hlen, hS2, hit⟩ := hrel
        have hb2 := hS2.maps.2.1
        rcases next_own (P := Tryz.prog) (es := lvE.getD 1 []) hit hb2 (by decide) (by decide) with ⟨hall, hnx⟩ | ⟨e, he, hns, W2, hnx, hit2, hg2, hen, hms⟩
        · go_wp2
          go_roundw
          case rel =>
            refine ⟨2, by omega, by go_num, s2, ?_, hS2⟩
            rw [hall] at hp2
            exact hp2.trans (hp.append_right _)
          case measure => simp [intOf]
        · have hS3 := hS2.kept hg2 (fun j hj => by cases hj; exact ⟨hS.below.size, _, _, _, _, hit⟩)
          have hen' : (Instr.entry (.pointer (some ⟨w0.heap.size, 0, none⟩))).run Tryz.prog W2 = .ok (.tuple #[encN e.1, encStr (vU e)]) W2 := hen
          have hnx' : ∀ ty, (Instr.next (.pointer (some ⟨w0.heap.size, 0, none⟩)) false ty).run Tryz.prog wr = .ok (.tuple #[.bool true, encN e.1, encStr (vU e)]) W2 := hnx
          have hgp := got_push seen e hns (lvE.getD 1 []) (by decide) he
          have X : Aside (s2.Perm (ss ++ got (lvE.getD 1 []) seen) ∧ (got (lvE.getD 1 []) seen ++ [vU e]).Perm (got (lvE.getD 1 []) (seen.push e.2.2)) ∧ W2.rangeLeft b1 w0.heap.size < wr.rangeLeft b1 w0.heap.size ∧ W2.heap[w0.heap.size]? = some (.mapIter (some b1) 1 (seen.push e.2.2) 1) ∧ ss.Perm ((lvE.take 1).flatMap fun es => es.map vU)) := ⟨hp2, hgp, hms, hit2, hp⟩
          clear hen hnx hgp hp2 hms hit2 hit hb2 hS2 hp hb hrg hix hS0 hst hg2
          have hrow3 := hS3.row.alloc (.cells #[encStr (vU e)] 9)
          have hsz3 := hS3.below.size
          have Y : Aside (St w [b0, b1, b2, b3, b4, b5] u1 s2 W2) := hS3
          clear hS3
          go_wp2_with (first
            | (at_builtin; refine wpList_append_own _ rfl _ _ 63 rfl w.heap.size 9 i0 (.string ⟨#[]⟩) 1 16 Tryz.underlying63 hi hz0 hz1 hz2 rfl (by decide) _ _ _ rfl hrow3 ⟨W2.heap.size, 0, none⟩ 1 1 [encStr (vU e)] rfl rfl (cell_one_new _ _ _) (by simp [Value.oneCell', encStr]) (by unfold maxLen; omega) (by omega) (by simp; omega) ?_; intro v' w3 hown' hg3 hnil3)
            | go_in)
          obtain ⟨hp2', hgp', hms', hit2', hp'⟩ := X
          have Y' : St w [b0, b1, b2, b3, b4, b5] u1 s2 W2 := Y
          have hS4 := (Y'.alloc (.cells #[encStr (vU e)] 9)).push hg3 hown'
          have hit4 := iter_kept hg3 ((heap_alloc_old W2 (.cells #[encStr (vU e)] 9) hit2')) (own_cells hrow3)
          have hlen4 : (s2 ++ [vU e]).length ≤ 1000000 := by
            have h1 := hp2'.length_eq
            have h2 := hp'.length_eq
            have h3 := got_len (lvE.getD 1 []) seen
            have h4 : (lvE.getD 1 []).length ≤ 10 := by decide
            have h5 : ((lvE.take 1).flatMap fun es => es.map vU).length ≤ 100 := by decide
            simp only [List.length_append, List.length_singleton] at h1 ⊢
            omega
          go_roundw
          case rel =>
            refine ⟨_, _, _, _, _, _, _, _, _, _, ⟨seen.push e.2.2, s2 ++ [vU e], ?_, hlen4, hS4, hit4⟩, rfl⟩
            have q := hp2'.append_right [vU e]
            rw [List.append_assoc] at q
            exact q.trans (hgp'.append_left ss)
          case measure =>
            have e1 : w3.rangeLeft b1 w0.heap.size = W2.rangeLeft b1 w0.heap.size := left_same (hS4.maps.2.1.trans Y'.maps.2.1.symm) (hit4.trans hit2'.symm)
            rw [e1]; exact hms'
    · have hb := hS.maps.2.2.1
      have hrg := run_range_map (P := Tryz.prog) w0 420 9 9 b2 ⟨(lvE.getD 2 []).map ent⟩ 10 Tryz.underlying420 hb
      have hix : ∀ W, (Instr.index 421 (Value.agg #[Value.map (some b0), Value.map (some b1), Value.map (some b2), Value.map (some b3), Value.map (some b4), Value.map (some b5)]) (Value.int IntKind.i64 2)).run Tryz.prog W = .ok (.map (some b2)) W := fun W => run_ix _ 2 _ (by omega) rfl W
      go_wp2
      have hS0 := hS.alloc (.mapIter (some b2) 10 #[] 10)
      go_loopw [1] (fun v wi => ∃ (seen : Array Nat) (s2 : List (List UInt8)), s2.Perm (ss ++ got (lvE.getD 2 []) seen) ∧ s2.length ≤ 1000000 ∧ St w [b0, b1, b2, b3, b4, b5] v s2 wi ∧ wi.heap[w0.heap.size]? = some (.mapIter (some b2) 10 seen 10)) (fun _ wi => wi.rangeLeft b2 w0.heap.size)
      case atStart => exact ⟨#[], ss, by simp [got_none], by rw [hp.length_eq]; decide, hS0, heap_alloc_new _ _⟩
      case round =>
        obtain ⟨seen, s2, hp2, hlen, hS2, hit⟩ := hrel
        have hb2 := hS2.maps.2.2.1
        rcases next_own (P := Tryz.prog) (es := lvE.getD 2 []) hit hb2 (by decide) (by decide) with ⟨hall, hnx⟩ | ⟨e, he, hns, W2, hnx, hit2, hg2, hen, hms⟩
        · go_wp2
          go_roundw
          case rel =>
            refine ⟨3, by omega, by go_num, s2, ?_, hS2⟩
            rw [hall] at hp2
            exact hp2.trans (hp.append_right _)
          case measure => simp [intOf]
        · have hS3 := hS2.kept hg2 (fun j hj => by cases hj; exact ⟨hS.below.size, _, _, _, _, hit⟩)
          have hen' : (Instr.entry (.pointer (some ⟨w0.heap.size, 0, none⟩))).run Tryz.prog W2 = .ok (.tuple #[encN e.1, encStr (vU e)]) W2 := hen
          have hnx' : ∀ ty, (Instr.next (.pointer (some ⟨w0.heap.size, 0, none⟩)) false ty).run Tryz.prog wr = .ok (.tuple #[.bool true, encN e.1, encStr (vU e)]) W2 := hnx
          have hgp := got_push seen e hns (lvE.getD 2 []) (by decide) he
          have X : Aside (s2.Perm (ss ++ got (lvE.getD 2 []) seen) ∧ (got (lvE.getD 2 []) seen ++ [vU e]).Perm (got (lvE.getD 2 []) (seen.push e.2.2)) ∧ W2.rangeLeft b2 w0.heap.size < wr.rangeLeft b2 w0.heap.size ∧ W2.heap[w0.heap.size]? = some (.mapIter (some b2) 10 (seen.push e.2.2) 10) ∧ ss.Perm ((lvE.take 2).flatMap fun es => es.map vU)) := ⟨hp2, hgp, hms, hit2, hp⟩
          clear hen hnx hgp hp2 hms hit2 hit hb2 hS2 hp hb hrg hix hS0 hst hg2
          have hrow3 := hS3.row.alloc (.cells #[encStr (vU e)] 9)
          have hsz3 := hS3.below.size
          have Y : Aside (St w [b0, b1, b2, b3, b4, b5] u1 s2 W2) := hS3
          clear hS3
          go_wp2_with (first
            | (at_builtin; refine wpList_append_own _ rfl _ _ 63 rfl w.heap.size 9 i0 (.string ⟨#[]⟩) 1 16 Tryz.underlying63 hi hz0 hz1 hz2 rfl (by decide) _ _ _ rfl hrow3 ⟨W2.heap.size, 0, none⟩ 1 1 [encStr (vU e)] rfl rfl (cell_one_new _ _ _) (by simp [Value.oneCell', encStr]) (by unfold maxLen; omega) (by omega) (by simp; omega) ?_; intro v' w3 hown' hg3 hnil3)
            | go_in)
          obtain ⟨hp2', hgp', hms', hit2', hp'⟩ := X
          have Y' : St w [b0, b1, b2, b3, b4, b5] u1 s2 W2 := Y
          have hS4 := (Y'.alloc (.cells #[encStr (vU e)] 9)).push hg3 hown'
          have hit4 := iter_kept hg3 ((heap_alloc_old W2 (.cells #[encStr (vU e)] 9) hit2')) (own_cells hrow3)
          have hlen4 : (s2 ++ [vU e]).length ≤ 1000000 := by
            have h1 := hp2'.length_eq
            have h2 := hp'.length_eq
            have h3 := got_len (lvE.getD 2 []) seen
            have h4 : (lvE.getD 2 []).length ≤ 10 := by decide
            have h5 : ((lvE.take 2).flatMap fun es => es.map vU).length ≤ 100 := by decide
            simp only [List.length_append, List.length_singleton] at h1 ⊢
            omega
          go_roundw
          case rel =>
            refine ⟨_, _, _, _, _, _, _, _, _, _, ⟨seen.push e.2.2, s2 ++ [vU e], ?_, hlen4, hS4, hit4⟩, rfl⟩
            have q := hp2'.append_right [vU e]
            rw [List.append_assoc] at q
            exact q.trans (hgp'.append_left ss)
          case measure =>
            have e1 : w3.rangeLeft b2 w0.heap.size = W2.rangeLeft b2 w0.heap.size := left_same (hS4.maps.2.2.1.trans Y'.maps.2.2.1.symm) (hit4.trans hit2'.symm)
            rw [e1]; exact hms'
    · have hb := hS.maps.2.2.2.1
      have hrg := run_range_map (P := Tryz.prog) w0 420 9 9 b3 ⟨(lvE.getD 3 []).map ent⟩ 2 Tryz.underlying420 hb
      have hix : ∀ W, (Instr.index 421 (Value.agg #[Value.map (some b0), Value.map (some b1), Value.map (some b2), Value.map (some b3), Value.map (some b4), Value.map (some b5)]) (Value.int IntKind.i64 3)).run Tryz.prog W = .ok (.map (some b3)) W := fun W => run_ix _ 3 _ (by omega) rfl W
      go_wp2
      have hS0 := hS.alloc (.mapIter (some b3) 2 #[] 2)
      go_loopw [1] (fun v wi => ∃ (seen : Array Nat) (s2 : List (List UInt8)), s2.Perm (ss ++ got (lvE.getD 3 []) seen) ∧ s2.length ≤ 1000000 ∧ St w [b0, b1, b2, b3, b4, b5] v s2 wi ∧ wi.heap[w0.heap.size]? = some (.mapIter (some b3) 2 seen 2)) (fun _ wi => wi.rangeLeft b3 w0.heap.size)
      case atStart => exact ⟨#[], ss, by simp [got_none], by rw [hp.length_eq]; decide, hS0, heap_alloc_new _ _⟩
      case round =>
        obtain ⟨seen, s2, hp2, hlen, hS2, hit⟩ := hrel
        have hb2 := hS2.maps.2.2.2.1
        rcases next_own (P := Tryz.prog) (es := lvE.getD 3 []) hit hb2 (by decide) (by decide) with ⟨hall, hnx⟩ | ⟨e, he, hns, W2, hnx, hit2, hg2, hen, hms⟩
        · go_wp2
          go_roundw
          case rel =>
            refine ⟨4, by omega, by go_num, s2, ?_, hS2⟩
            rw [hall] at hp2
            exact hp2.trans (hp.append_right _)
          case measure => simp [intOf]
        · have hS3 := hS2.kept hg2 (fun j hj => by cases hj; exact ⟨hS.below.size, _, _, _, _, hit⟩)
          have hen' : (Instr.entry (.pointer (some ⟨w0.heap.size, 0, none⟩))).run Tryz.prog W2 = .ok (.tuple #[encN e.1, encStr (vU e)]) W2 := hen
          have hnx' : ∀ ty, (Instr.next (.pointer (some ⟨w0.heap.size, 0, none⟩)) false ty).run Tryz.prog wr = .ok (.tuple #[.bool true, encN e.1, encStr (vU e)]) W2 := hnx
          have hgp := got_push seen e hns (lvE.getD 3 []) (by decide) he
          have X : Aside (s2.Perm (ss ++ got (lvE.getD 3 []) seen) ∧ (got (lvE.getD 3 []) seen ++ [vU e]).Perm (got (lvE.getD 3 []) (seen.push e.2.2)) ∧ W2.rangeLeft b3 w0.heap.size < wr.rangeLeft b3 w0.heap.size ∧ W2.heap[w0.heap.size]? = some (.mapIter (some b3) 2 (seen.push e.2.2) 2) ∧ ss.Perm ((lvE.take 3).flatMap fun es => es.map vU)) := ⟨hp2, hgp, hms, hit2, hp⟩
          clear hen hnx hgp hp2 hms hit2 hit hb2 hS2 hp hb hrg hix hS0 hst hg2
          have hrow3 := hS3.row.alloc (.cells #[encStr (vU e)] 9)
          have hsz3 := hS3.below.size
          have Y : Aside (St w [b0, b1, b2, b3, b4, b5] u1 s2 W2) := hS3
          clear hS3
          go_wp2_with (first
            | (at_builtin; refine wpList_append_own _ rfl _ _ 63 rfl w.heap.size 9 i0 (.string ⟨#[]⟩) 1 16 Tryz.underlying63 hi hz0 hz1 hz2 rfl (by decide) _ _ _ rfl hrow3 ⟨W2.heap.size, 0, none⟩ 1 1 [encStr (vU e)] rfl rfl (cell_one_new _ _ _) (by simp [Value.oneCell', encStr]) (by unfold maxLen; omega) (by omega) (by simp; omega) ?_; intro v' w3 hown' hg3 hnil3)
            | go_in)
          obtain ⟨hp2', hgp', hms', hit2', hp'⟩ := X
          have Y' : St w [b0, b1, b2, b3, b4, b5] u1 s2 W2 := Y
          have hS4 := (Y'.alloc (.cells #[encStr (vU e)] 9)).push hg3 hown'
          have hit4 := iter_kept hg3 ((heap_alloc_old W2 (.cells #[encStr (vU e)] 9) hit2')) (own_cells hrow3)
          have hlen4 : (s2 ++ [vU e]).length ≤ 1000000 := by
            have h1 := hp2'.length_eq
            have h2 := hp'.length_eq
            have h3 := got_len (lvE.getD 3 []) seen
            have h4 : (lvE.getD 3 []).length ≤ 10 := by decide
            have h5 : ((lvE.take 3).flatMap fun es => es.map vU).length ≤ 100 := by decide
            simp only [List.length_append, List.length_singleton] at h1 ⊢
            omega
          go_roundw
          case rel =>
            refine ⟨_, _, _, _, _, _, _, _, _, _, ⟨seen.push e.2.2, s2 ++ [vU e], ?_, hlen4, hS4, hit4⟩, rfl⟩
            have q := hp2'.append_right [vU e]
            rw [List.append_assoc] at q
            exact q.trans (hgp'.append_left ss)
          case measure =>
            have e1 : w3.rangeLeft b3 w0.heap.size = W2.rangeLeft b3 w0.heap.size := left_same (hS4.maps.2.2.2.1.trans Y'.maps.2.2.2.1.symm) (hit4.trans hit2'.symm)
            rw [e1]; exact hms'
    · have hb := hS.maps.2.2.2.2.1
      have hrg := run_range_map (P := Tryz.prog) w0 420 9 9 b4 ⟨(lvE.getD 4 []).map ent⟩ 3 Tryz.underlying420 hb
      have hix : ∀ W, (Instr.index 421 (Value.agg #[Value.map (some b0), Value.map (some b1), Value.map (some b2), Value.map (some b3), Value.map (some b4), Value.map (some b5)]) (Value.int IntKind.i64 4)).run Tryz.prog W = .ok (.map (some b4)) W := fun W => run_ix _ 4 _ (by omega) rfl W
      go_wp2
      have hS0 := hS.alloc (.mapIter (some b4) 3 #[] 3)
      go_loopw [1] (fun v wi => ∃ (seen : Array Nat) (s2 : List (List UInt8)), s2.Perm (ss ++ got (lvE.getD 4 []) seen) ∧ s2.length ≤ 1000000 ∧ St w [b0, b1, b2, b3, b4, b5] v s2 wi ∧ wi.heap[w0.heap.size]? = some (.mapIter (some b4) 3 seen 3)) (fun _ wi => wi.rangeLeft b4 w0.heap.size)
      case atStart => exact ⟨#[], ss, by simp [got_none], by rw [hp.length_eq]; decide, hS0, heap_alloc_new _ _⟩
      case round =>
        obtain ⟨seen, s2, hp2, hlen, hS2, hit⟩ := hrel
        have hb2 := hS2.maps.2.2.2.2.1
        rcases next_own (P := Tryz.prog) (es := lvE.getD 4 []) hit hb2 (by decide) (by decide) with ⟨hall, hnx⟩ | ⟨e, he, hns, W2, hnx, hit2, hg2, hen, hms⟩
        · go_wp2
          go_roundw
          case rel =>
            refine ⟨5, by omega, by go_num, s2, ?_, hS2⟩
            rw [hall] at hp2
            exact hp2.trans (hp.append_right _)
          case measure => simp [intOf]
        · have hS3 := hS2.kept hg2 (fun j hj => by cases hj; exact ⟨hS.below.size, _, _, _, _, hit⟩)
          have hen' : (Instr.entry (.pointer (some ⟨w0.heap.size, 0, none⟩))).run Tryz.prog W2 = .ok (.tuple #[encN e.1, encStr (vU e)]) W2 := hen
          have hnx' : ∀ ty, (Instr.next (.pointer (some ⟨w0.heap.size, 0, none⟩)) false ty).run Tryz.prog wr = .ok (.tuple #[.bool true, encN e.1, encStr (vU e)]) W2 := hnx
          have hgp := got_push seen e hns (lvE.getD 4 []) (by decide) he
          have X : Aside (s2.Perm (ss ++ got (lvE.getD 4 []) seen) ∧ (got (lvE.getD 4 []) seen ++ [vU e]).Perm (got (lvE.getD 4 []) (seen.push e.2.2)) ∧ W2.rangeLeft b4 w0.heap.size < wr.rangeLeft b4 w0.heap.size ∧ W2.heap[w0.heap.size]? = some (.mapIter (some b4) 3 (seen.push e.2.2) 3) ∧ ss.Perm ((lvE.take 4).flatMap fun es => es.map vU)) := ⟨hp2, hgp, hms, hit2, hp⟩
          clear hen hnx hgp hp2 hms hit2 hit hb2 hS2 hp hb hrg hix hS0 hst hg2
          have hrow3 := hS3.row.alloc (.cells #[encStr (vU e)] 9)
          have hsz3 := hS3.below.size
          have Y : Aside (St w [b0, b1, b2, b3, b4, b5] u1 s2 W2) := hS3
          clear hS3
          go_wp2_with (first
            | (at_builtin; refine wpList_append_own _ rfl _ _ 63 rfl w.heap.size 9 i0 (.string ⟨#[]⟩) 1 16 Tryz.underlying63 hi hz0 hz1 hz2 rfl (by decide) _ _ _ rfl hrow3 ⟨W2.heap.size, 0, none⟩ 1 1 [encStr (vU e)] rfl rfl (cell_one_new _ _ _) (by simp [Value.oneCell', encStr]) (by unfold maxLen; omega) (by omega) (by simp; omega) ?_; intro v' w3 hown' hg3 hnil3)
            | go_in)
          obtain ⟨hp2', hgp', hms', hit2', hp'⟩ := X
          have Y' : St w [b0, b1, b2, b3, b4, b5] u1 s2 W2 := Y
          have hS4 := (Y'.alloc (.cells #[encStr (vU e)] 9)).push hg3 hown'
          have hit4 := iter_kept hg3 ((heap_alloc_old W2 (.cells #[encStr (vU e)] 9) hit2')) (own_cells hrow3)
          have hlen4 : (s2 ++ [vU e]).length ≤ 1000000 := by
            have h1 := hp2'.length_eq
            have h2 := hp'.length_eq
            have h3 := got_len (lvE.getD 4 []) seen
            have h4 : (lvE.getD 4 []).length ≤ 10 := by decide
            have h5 : ((lvE.take 4).flatMap fun es => es.map vU).length ≤ 100 := by decide
            simp only [List.length_append, List.length_singleton] at h1 ⊢
            omega
          go_roundw
          case rel =>
            refine ⟨_, _, _, _, _, _, _, _, _, _, ⟨seen.push e.2.2, s2 ++ [vU e], ?_, hlen4, hS4, hit4⟩, rfl⟩
            have q := hp2'.append_right [vU e]
            rw [List.append_assoc] at q
            exact q.trans (hgp'.append_left ss)
          case measure =>
            have e1 : w3.rangeLeft b4 w0.heap.size = W2.rangeLeft b4 w0.heap.size := left_same (hS4.maps.2.2.2.2.1.trans Y'.maps.2.2.2.2.1.symm) (hit4.trans hit2'.symm)
            rw [e1]; exact hms'
    · have hb := hS.maps.2.2.2.2.2.1
      have hrg := run_range_map (P := Tryz.prog) w0 420 9 9 b5 ⟨(lvE.getD 5 []).map ent⟩ 1 Tryz.underlying420 hb
      have hix : ∀ W, (Instr.index 421 (Value.agg #[Value.map (some b0), Value.map (some b1), Value.map (some b2), Value.map (some b3), Value.map (some b4), Value.map (some b5)]) (Value.int IntKind.i64 5)).run Tryz.prog W = .ok (.map (some b5)) W := fun W => run_ix _ 5 _ (by omega) rfl W
      go_wp2
      have hS0 := hS.alloc (.mapIter (some b5) 1 #[] 1)
      go_loopw [1] (fun v wi => ∃ (seen : Array Nat) (s2 : List (List UInt8)), s2.Perm (ss ++ got (lvE.getD 5 []) seen) ∧ s2.length ≤ 1000000 ∧ St w [b0, b1, b2, b3, b4, b5] v s2 wi ∧ wi.heap[w0.heap.size]? = some (.mapIter (some b5) 1 seen 1)) (fun _ wi => wi.rangeLeft b5 w0.heap.size)
      case atStart => exact ⟨#[], ss, by simp [got_none], by rw [hp.length_eq]; decide, hS0, heap_alloc_new _ _⟩
      case round =>
        obtain ⟨seen, s2, hp2, hlen, hS2, hit⟩ := hrel
        have hb2 := hS2.maps.2.2.2.2.2.1
        rcases next_own (P := Tryz.prog) (es := lvE.getD 5 []) hit hb2 (by decide) (by decide) with ⟨hall, hnx⟩ | ⟨e, he, hns, W2, hnx, hit2, hg2, hen, hms⟩
        · go_wp2
          go_roundw
          case rel =>
            refine ⟨6, by omega, by go_num, s2, ?_, hS2⟩
            rw [hall] at hp2
            exact hp2.trans (hp.append_right _)
          case measure => simp [intOf]
        · have hS3 := hS2.kept hg2 (fun j hj => by cases hj; exact ⟨hS.below.size, _, _, _, _, hit⟩)
          have hen' : (Instr.entry (.pointer (some ⟨w0.heap.size, 0, none⟩))).run Tryz.prog W2 = .ok (.tuple #[encN e.1, encStr (vU e)]) W2 := hen
          have hnx' : ∀ ty, (Instr.next (.pointer (some ⟨w0.heap.size, 0, none⟩)) false ty).run Tryz.prog wr = .ok (.tuple #[.bool true, encN e.1, encStr (vU e)]) W2 := hnx
          have hgp := got_push seen e hns (lvE.getD 5 []) (by decide) he
          have X : Aside (s2.Perm (ss ++ got (lvE.getD 5 []) seen) ∧ (got (lvE.getD 5 []) seen ++ [vU e]).Perm (got (lvE.getD 5 []) (seen.push e.2.2)) ∧ W2.rangeLeft b5 w0.heap.size < wr.rangeLeft b5 w0.heap.size ∧ W2.heap[w0.heap.size]? = some (.mapIter (some b5) 1 (seen.push e.2.2) 1) ∧ ss.Perm ((lvE.take 5).flatMap fun es => es.map vU)) := ⟨hp2, hgp, hms, hit2, hp⟩
          clear hen hnx hgp hp2 hms hit2 hit hb2 hS2 hp hb hrg hix hS0 hst hg2
          have hrow3 := hS3.row.alloc (.cells #[encStr (vU e)] 9)
          have hsz3 := hS3.below.size
          have Y : Aside (St w [b0, b1, b2, b3, b4, b5] u1 s2 W2) := hS3
          clear hS3
          go_wp2_with (first
            | (at_builtin; refine wpList_append_own _ rfl _ _ 63 rfl w.heap.size 9 i0 (.string ⟨#[]⟩) 1 16 Tryz.underlying63 hi hz0 hz1 hz2 rfl (by decide) _ _ _ rfl hrow3 ⟨W2.heap.size, 0, none⟩ 1 1 [encStr (vU e)] rfl rfl (cell_one_new _ _ _) (by simp [Value.oneCell', encStr]) (by unfold maxLen; omega) (by omega) (by simp; omega) ?_; intro v' w3 hown' hg3 hnil3)
            | go_in)
          obtain ⟨hp2', hgp', hms', hit2', hp'⟩ := X
          have Y' : St w [b0, b1, b2, b3, b4, b5] u1 s2 W2 := Y
          have hS4 := (Y'.alloc (.cells #[encStr (vU e)] 9)).push hg3 hown'
          have hit4 := iter_kept hg3 ((heap_alloc_old W2 (.cells #[encStr (vU e)] 9) hit2')) (own_cells hrow3)
          have hlen4 : (s2 ++ [vU e]).length ≤ 1000000 := by
            have h1 := hp2'.length_eq
            have h2 := hp'.length_eq
            have h3 := got_len (lvE.getD 5 []) seen
            have h4 : (lvE.getD 5 []).length ≤ 10 := by decide
            have h5 : ((lvE.take 5).flatMap fun es => es.map vU).length ≤ 100 := by decide
            simp only [List.length_append, List.length_singleton] at h1 ⊢
            omega
          go_roundw
          case rel =>
            refine ⟨_, _, _, _, _, _, _, _, _, _, ⟨seen.push e.2.2, s2 ++ [vU e], ?_, hlen4, hS4, hit4⟩, rfl⟩
            have q := hp2'.append_right [vU e]
            rw [List.append_assoc] at q
            exact q.trans (hgp'.append_left ss)
          case measure =>
            have e1 : w3.rangeLeft b5 w0.heap.size = W2.rangeLeft b5 w0.heap.size := left_same (hS4.maps.2.2.2.2.2.1.trans Y'.maps.2.2.2.2.2.1.symm) (hit4.trans hit2'.symm)
            rw [e1]; exact hms'
    · have hp6 : ss.Perm allOps := hp
      have hrow6 := hS.row
      have hbl6 := hS.below
      go_wp2_with (first
        | (go_at_call 112; refine (sort_own w.heap.size _ ss _ hp6 hrow6).mono ?_; rintro e w2 ⟨rfl, hr2, hb2⟩)
        | (go_at_call 60; refine (compact_own w.heap.size _ _ hr2).mono ?_; rintro e w3 ⟨g, cap, rfl, hr3, hb3⟩)
        | go_in)
      go_ret
      exact ⟨g, cap, rfl, hr3, (hbl6.trans hb2).trans hb3⟩
end Go.Proofs
