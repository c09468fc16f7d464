/- PROVED: contracts of the functions that CmdScopes reaches, and what an expression is that is written and read again (part CvC). CONDITIONS: none. -/
import Derived.Test.YtdmepghoffhphaaGreatDoorCvB
import Derived.Laws.Concat
set_option linter.unusedSimpArgs false
set_option linter.unusedVariables false
set_option linter.unnecessarySimpa false
set_option maxHeartbeats 8000000
set_option maxRecDepth 100000
namespace Go.Proofs.YtdmepghoffhphaaGreatDoor
open Go Go.RowKit Go.Lib
def ltrI (c : Int) : Bool := decide (c = 95) || (decide (97 <= c) && decide (c <= 122)) || (decide (65 <= c) && decide (c <= 90))
def digI (c : Int) : Bool := decide (48 <= c) && decide (c <= 57)
theorem isLetter363 (c : Int) (w : World) : Calls Tryz.prog 363 #[.int .u8 c] w fun e w' => e = .returned (.bool (ltrI c)) /\ w' = w := by
  go_enter Tryz.func363, Tryz.ntmps363
  go_wp2
  all_goals
    go_ret
    exact ⟨ret_bool (by rw [Bool.eq_iff_iff]; simp only [ltrI, digI, Bool.or_eq_true, Bool.and_eq_true, decide_eq_true_eq, beq_iff_eq, Bool.true_eq_false, Bool.false_eq_true, true_iff, false_iff, iff_true, iff_false]; omega), rfl⟩
theorem isDigit367 (c : Int) (w : World) : Calls Tryz.prog 367 #[.int .u8 c] w fun e w' => e = .returned (.bool (digI c)) /\ w' = w := by
  go_enter Tryz.func367, Tryz.ntmps367
  go_wp2
  all_goals
    go_ret
    exact ⟨ret_bool (by rw [Bool.eq_iff_iff]; simp only [ltrI, digI, Bool.or_eq_true, Bool.and_eq_true, decide_eq_true_eq, beq_iff_eq, Bool.true_eq_false, Bool.false_eq_true, true_iff, false_iff, iff_true, iff_false]; omega), rfl⟩
theorem inNum300 (n : Int) (w : World) : Calls Tryz.prog 300 #[.int .i64 n] w fun e w' => e = .returned (.bool (decide (-1000000000000000 <= n) && decide (n <= 1000000000000000))) /\ w' = w := by
  go_enter Tryz.func300, Tryz.ntmps300
  go_wp2
  all_goals
    go_ret
    exact ⟨ret_bool (by rw [Bool.eq_iff_iff]; simp only [ltrI, digI, Bool.or_eq_true, Bool.and_eq_true, decide_eq_true_eq, beq_iff_eq, Bool.true_eq_false, Bool.false_eq_true, true_iff, false_iff, iff_true, iff_false]; omega), rfl⟩
def wordC (i : Nat) (c : UInt8) : Bool := upB c || (decide (0 < i) && digB c)
theorem upB_int (c : UInt8) : upB c = (ltrI c.toNat && !(decide (97 <= (c.toNat : Int)) && decide ((c.toNat : Int) <= 122))) := by
  have H : ∀ n : Fin 256, upB (UInt8.ofNat n.val) = (ltrI (UInt8.ofNat n.val).toNat && !(decide (97 <= ((UInt8.ofNat n.val).toNat : Int)) && decide (((UInt8.ofNat n.val).toNat : Int) <= 122))) := by decide +kernel
  have := H ⟨c.toNat, UInt8.toNat_lt c⟩
  simpa using this
theorem digB_int (c : UInt8) : digB c = digI c.toNat := by
  have H : ∀ n : Fin 256, digB (UInt8.ofNat n.val) = digI (UInt8.ofNat n.val).toNat := by decide +kernel
  have := H ⟨c.toNat, UInt8.toNat_lt c⟩
  simpa using this
theorem nameB_all {s : ByteArray} (h1 : 1 <= s.size) (h2 : s.size <= 10) (h : ∀ i (hi : i < s.size), wordC i s[i] = true) : nameB s = true := by
  unfold nameB
  obtain ⟨⟨l⟩⟩ := s
  have h : ∀ i (hi : i < l.length), wordC i l[i] = true := h
  have h1 : 1 <= l.length := h1
  have h2 : l.length <= 10 := h2
  have e : (ByteArray.mk ⟨l⟩).size = l.length := rfl
  rw [e, decide_eq_true h1, decide_eq_true h2]
  have ha : l.all (fun c => upB c || digB c) = true := by
    rw [List.all_eq_true]
    intro c hc
    obtain ⟨i, hi, rfl⟩ := List.getElem_of_mem hc
    have := h i hi
    simp only [wordC, Bool.or_eq_true, Bool.and_eq_true] at this ⊢
    rcases this with h | h
    · exact .inl h
    · exact .inr h.2
  have hh : digB (l.headD 48) = false := by
    cases l with
    | nil => simp at h1
    | cons c r =>
      have := h 0 (by simp)
      simp [wordC] at this
      have H : ∀ n : Fin 256, upB (UInt8.ofNat n.val) = true -> digB (UInt8.ofNat n.val) = false := by decide +kernel
      have := H ⟨c.toNat, UInt8.toNat_lt c⟩ (by simpa using this)
      simpa using this
  show (true && true && l.all (fun c => upB c || digB c) && !(digB (l.headD 48))) = true
  rw [ha, hh]; rfl
theorem nameB_some {s : ByteArray} {i : Nat} (hi : i < s.size) (h : wordC i s[i] = false) : nameB s = false := by
  rw [Bool.eq_false_iff]; intro hn
  unfold nameB at hn
  obtain ⟨⟨l⟩⟩ := s
  have hi : i < l.length := hi
  have h : wordC i l[i] = false := h
  have hn : ((decide (1 <= l.length) && decide (l.length <= 10)) && l.all (fun c => upB c || digB c) && !(digB (l.headD 48))) = true := hn
  simp only [Bool.and_eq_true, Bool.not_eq_true'] at hn
  obtain ⟨⟨_, ha⟩, hh⟩ := hn
  have := List.all_eq_true.1 ha _ (List.getElem_mem hi)
  simp only [wordC, Bool.or_eq_false_iff, Bool.and_eq_false_iff, decide_eq_false_iff_not] at h
  rw [h.1, Bool.false_or] at this
  rcases h.2 with h | h
  · have : i = 0 := by omega
    subst this
    cases l with
    | nil => simp at hi
    | cons c r =>
      have e : (c :: r).headD 48 = c := rfl
      simp only [List.getElem_cons_zero] at this
      rw [e, this] at hh; cases hh
  · rw [h] at this; cases this
theorem isWord303 (s : ByteArray) (w : World) (hs : s.size <= 9223372036854775807) :
    Calls Tryz.prog 303 #[.string s, .int .i64 10] w fun e w' => e = .returned (.bool (nameB s)) /\ w' = w := by
  have hN := Lib.hid (show s.size < 1 \/ 10 < s.size -> nameB s = false by
    intro h; unfold nameB
    rcases h with h | h
    · rw [show decide (1 <= s.size) = false from decide_eq_false (by omega)]; simp
    · rw [show decide (s.size <= 10) = false from decide_eq_false (by omega)]; simp)
  go_enter Tryz.func303, Tryz.ntmps303
  go_wp2
  any_goals (go_ret; exact ⟨ret_bool (hN.out (by omega)).symm, rfl⟩)
  · have hz : s.size <= 10 := by omega
    have hz1 : 1 <= s.size := by omega
    go_loopg [5] s.size (fun g s5 wr => ∃ k : Nat, k <= s.size /\ s.size - k <= g /\ s5 = .int .i64 k /\ (∀ i (hi : i < s.size), i < k -> wordC i s[i] = true) /\ wr = w)
    case atStart => exact ⟨0, Nat.zero_le _, by omega, rfl, fun i _ h => absurd h (Nat.not_lt_zero _), rfl⟩
    case round =>
      obtain ⟨k, hk, hg, rfl, hall, rfl⟩ := hrel
      replace hall := Lib.hid hall
      by_cases hlt : k < s.size
      · go_wp2_with (first | (go_at_call 363; refine (isLetter363 _ _).mono ?_; rintro e w' ⟨rfl, rfl⟩) | (go_at_call 367; refine (isDigit367 _ _).mono ?_; rintro e w' ⟨rfl, rfl⟩))
        all_goals first
          | (go_ret
             refine ⟨ret_bool (nameB_some hlt ?_).symm, rfl⟩
             unfold wordC; rw [upB_int, digB_int]
             generalize (s[k].toNat : Int) = cn at *
             clear hall hN
             first
               | (simp_all; done)
               | (have hd : digI cn = false := (by simp [digI]; omega)
                  rw [hd]; simp_all; done)
               | (have h0 : decide (0 < k) = false := decide_eq_false (by omega)
                  rw [h0]; simp_all; done)
               | trace_state)
          | (go_roundg (s.size - (k + 1))
             case measure => omega
             case rel =>
               refine ⟨k + 1, by omega, by omega, by go_num, fun i hi hl => ?_, rfl⟩
               by_cases hik : i < k
               · exact hall.out i hi hik
               · have hik : i = k := by omega
                 subst hik
                 unfold wordC; rw [upB_int, digB_int]
                 clear hall hN
                 generalize (s[i].toNat : Int) = cn at *
                 first
                   | (simp_all; done)
                   | (have h0 : decide (0 < i) = true := decide_eq_true (by omega)
                      rw [h0]; simp_all; done)
                   | (simp_all; omega)
                   | trace_state)
          | trace_state
      · have hkl : k = s.size := by omega
        subst hkl
        go_wp2
        go_ret
        exact ⟨ret_bool (nameB_all hz1 hz fun i hi => hall.out i hi hi).symm, rfl⟩
theorem isName230 (s : ByteArray) (w : World) (hs : s.size <= 9223372036854775807) :
    Calls Tryz.prog 230 #[.string s] w fun e w' => e = .returned (.bool (nameB s)) /\ w' = w := by
  go_enter Tryz.func230, Tryz.ntmps230
  go_wp2_with (first | (go_at_call 303; refine (isWord303 s _ hs).mono ?_; rintro e w' ⟨rfl, rfl⟩))
  go_ret
  exact ⟨rfl, rfl⟩
theorem wrI_nat (n : Int) (h : 0 <= n) : wrI n = wrN n.toNat := by unfold wrI; rw [if_neg (by omega)]
def digS : ByteArray := ⟨#[48, 49, 50, 51, 52, 53, 54, 55, 56, 57]⟩
theorem bytesOf_size (l : List UInt8) : (bytesOf l).size = l.length := rfl
theorem bytesOf_append (a b : List UInt8) : bytesOf a ++ bytesOf b = bytesOf (a ++ b) := by
  unfold bytesOf; rw [ByteArray.mk_append_mk]; try simp
theorem wrN_sz (n : Nat) (h : n <= 9223372036854775807) : (bytesOf (wrN n)).size <= 20 := by
  rw [bytesOf_size]; exact wrN_len 19 n (by omega)
theorem wrN_dig (n : Nat) (h : n < 10) : (⟨#[48, 49, 50, 51, 52, 53, 54, 55, 56, 57]⟩ : ByteArray).extract n (n + 1) = bytesOf (wrN n) := by
  have : n = 0 \/ n = 1 \/ n = 2 \/ n = 3 \/ n = 4 \/ n = 5 \/ n = 6 \/ n = 7 \/ n = 8 \/ n = 9 := by omega
  unfold wrN; rw [if_pos h]
  rcases this with rfl | rfl | rfl | rfl | rfl | rfl | rfl | rfl | rfl | rfl <;> first | rfl | done
theorem wrN_step (n : Nat) (h : ¬ n < 10) : bytesOf (wrN n) = bytesOf (wrN (n / 10)) ++ bytesOf (wrN (n % 10)) := by
  rw [bytesOf_append]
  conv => lhs; unfold wrN
  rw [if_neg h]
  have : wrN (n % 10) = [UInt8.ofNat (48 + n % 10)] := by unfold wrN; rw [if_pos (by omega)]
  rw [this]
theorem written226 (k : Nat) : ∀ (n : Nat) (w : World), n < k -> n <= 9223372036854775807 ->
    Calls Tryz.prog 226 #[.int .i64 n] w fun e w' => e = .returned (.string (bytesOf (wrN n))) /\ Below w.heap.size w w' := by
  induction k with
  | zero => intro n w h; omega
  | succ k ih =>
    intro n w hk hn
    have I := Lib.hid (fun m w (h : m < k) (h2 : m <= 9223372036854775807) => ih m w h h2)
    clear ih
    by_cases h10 : n < 10
    · go_enter Tryz.func226, Tryz.ntmps226
      go_wp2
      go_ret
      refine ⟨?_, Below.refl _ _⟩
      show Ending.returned (.string ((⟨#[48, 49, 50, 51, 52, 53, 54, 55, 56, 57]⟩ : ByteArray).extract n (n + 1))) = _
      rw [wrN_dig n h10]
    · go_enter Tryz.func226, Tryz.ntmps226
      have h1 : Hid ((n : Int) / 10 = ((n / 10 : Nat) : Int)) := Lib.hid (by omega)
      have h2 : Hid ((n : Int) % 10 = ((n % 10 : Nat) : Int)) := Lib.hid (by omega)
      go_wp2_with (first
        | (go_at_call 226; first
            | (rw [h1.out]; clear h1; have I1 := I.out (n / 10) w (by omega) (by omega); refine I1.mono ?_; clear I1; rintro e w1 ⟨rfl, hb1⟩)
            | (rw [h2.out]; clear h2; have I1 := I.out (n % 10) w1 (by omega) (by omega); refine I1.mono ?_; clear I1; rintro e w2 ⟨rfl, hb2⟩; have hadd := run_string_add_sum (P := Tryz.prog) w2 (bytesOf (wrN (n / 10))) (bytesOf (wrN (n % 10))) (by have := wrN_sz (n / 10) (by omega); have := wrN_sz (n % 10) (by omega); omega))))
      go_ret
      refine ⟨?_, hb1.trans (hb2.mono hb1.size)⟩
      rw [wrN_step n h10]; rfl
theorem leap520 (y : Int) (w : World) (h1 : 1 <= y) (h2 : y <= 9999) : Calls Tryz.prog 520 #[.int .i64 y] w fun e w' => e = .returned (.bool (leap y)) /\ w' = w := by
  have T : ∀ k : Int, 0 < k -> y.tmod k = y % k := fun k hk => Int.tmod_eq_emod_of_nonneg (by omega)
  have L : Hid (leap y = ((y % 4 == 0 && y % 100 != 0) || y % 400 == 0)) := Lib.hid (by unfold leap; rw [T _ (by decide), T _ (by decide), T _ (by decide)])
  clear T
  go_enter Tryz.func520, Tryz.ntmps520
  go_wp2
  all_goals
    go_ret
    refine ⟨ret_bool ?_, rfl⟩
    rw [L.out]
    first
      | rfl
      | (simp_all; done)
      | (rw [Bool.eq_iff_iff]; simp; omega)
      | trace_state
def mdlen (l : Bool) (m : Int) : Int := if m = 2 then (if l then 29 else 28) else if m = 4 || m = 6 || m = 9 || m = 11 then 30 else 31
theorem length434 (y m : Int) (w : World) (h1 : 1 <= y) (h2 : y <= 9999) : Calls Tryz.prog 434 #[.int .i64 y, .int .i64 m] w fun e w' => e = .returned (.int .i64 (mlen y m)) /\ w' = w := by
  have L := Lib.hid (leap520 y w h1 h2)
  have M : Hid (mlen y m = mdlen (leap y) m) := Lib.hid rfl
  generalize leap y = ly at *
  go_enter Tryz.func434, Tryz.ntmps434
  go_wp2_with (first | (go_at_call 520; refine L.out.mono ?_; rintro e w' ⟨rfl, rfl⟩))
  all_goals
    go_ret
    refine ⟨ret_int ?_, rfl⟩
    rw [M.out]
    clear M L
    first
      | (simp_all [mdlen]; done)
      | (simp_all [mdlen]; omega)
      | trace_state
theorem mlen_ge (y m : Int) : 28 <= mlen y m /\ mlen y m <= 31 := by
  unfold mlen; (repeat' split) <;> omega
theorem mdays_le (y : Int) : ∀ k, 0 <= mdays y k /\ mdays y k <= 31 * k
  | 0 => by simp [mdays]
  | k + 1 => by
    have := mdays_le y k
    have := mlen_ge y (k + 1 : Nat)
    simp only [mdays]; omega
def dayE (y m d : Int) : Value := .tuple #[.int .i64 ((dayOf y m d).getD 0), .int .i64 (if (dayOf y m d).isSome then 0 else 1)]
theorem days373 (y m d : Int) (w : World) : Calls Tryz.prog 373 #[.int .i64 y, .int .i64 m, .int .i64 d] w fun e w' => e = .returned (dayE y m d) /\ w' = w := by
  by_cases hy : y < 1 \/ 9999 < y
  · have D : Hid (dayOf y m d = none) := Lib.hid (by
      unfold dayOf; rw [if_pos]; simp only [Bool.or_eq_true, decide_eq_true_eq]; omega)
    go_enter Tryz.func373, Tryz.ntmps373
    go_wp2
    all_goals first
      | (go_returns; refine ⟨?_, rfl⟩; unfold dayE; rw [D.out]; rfl)
      | trace_state
  have hy1 : 1 <= y := by omega
  have hy2 : y <= 9999 := by omega
  clear hy
  have L := Lib.hid (fun m w => length434 y m w hy1 hy2)
  have ML := mlen_ge y m
  by_cases hm : m < 1 \/ 12 < m \/ d < 1 \/ mlen y m < d
  · have D : Hid (dayOf y m d = none) := Lib.hid (by
      unfold dayOf; rw [if_pos]; simp only [Bool.or_eq_true, decide_eq_true_eq]; omega)
    generalize hml : mlen y m = ml at *
    replace hml := Lib.hid hml
    go_enter Tryz.func373, Tryz.ntmps373
    go_wp2_with (first | (go_at_call 434; refine (L.out m _).mono ?_; rintro e w' ⟨rfl, rfl⟩; rw [hml.out]))
    all_goals first
      | (exfalso; omega)
      | (go_returns; refine ⟨?_, rfl⟩; unfold dayE; rw [D.out]; rfl)
      | trace_state
  have D : Hid (dayOf y m d = some (d + mdays y (m - 1).toNat + 365 * (y - 1) + (y - 1) / 4 - (y - 1) / 100 + (y - 1) / 400)) := Lib.hid (by
    unfold dayOf; rw [if_neg]
    · rw [Int.tdiv_eq_ediv_of_nonneg (by omega), Int.tdiv_eq_ediv_of_nonneg (by omega), Int.tdiv_eq_ediv_of_nonneg (by omega)]
    · simp only [Bool.or_eq_true, decide_eq_true_eq]; omega)
  obtain ⟨mn, rfl⟩ : ∃ mn : Nat, m = mn := ⟨m.toNat, by omega⟩
  have hm0 : 1 <= mn /\ mn <= 12 := by omega
  have hd : 1 <= d /\ d <= 31 := by omega
  generalize hml : mlen y mn = ml at *
  have hdm : d <= ml := by omega
  replace hml := Lib.hid hml
  clear hm
  go_enter Tryz.func373, Tryz.ntmps373
  go_wp2_with (first | (go_at_call 434; refine (L.out mn _).mono ?_; rintro e w' ⟨rfl, hw⟩; obtain rfl := hw.symm; rw [hml.out]))
  go_loopg [8, 9] mn (fun g s5 s6 wr => ∃ k : Nat, 1 <= k /\ k <= mn /\ mn - k <= g /\ s5 = .int .i64 (d + mdays y (k - 1)) /\ s6 = .int .i64 k /\ wr = w)
  case atStart => exact ⟨1, by omega, by omega, by omega, by simp [mdays], rfl, rfl⟩
  case round =>
    obtain ⟨k, hk1, hk, hg, rfl, rfl, rfl⟩ := hrel
    have hb := mdays_le y (k - 1)
    by_cases hlt : k < mn
    · have hstep : Hid (mdays y (k - 1) + mlen y k = mdays y k) := Lib.hid (by
        obtain ⟨j, rfl⟩ : ∃ j, k = j + 1 := ⟨k - 1, by omega⟩
        simp only [mdays, Nat.add_sub_cancel])
      have hlk := mlen_ge y k
      obtain ⟨lk, hlk2⟩ : ∃ lk, lk = mlen y k := ⟨_, rfl⟩
      rw [<- hlk2] at hstep hlk
      replace hlk2 := Lib.hid hlk2.symm
      generalize mdays y (k - 1) = mk at *
      go_wp2_with (first | (go_at_call 434; refine (L.out k _).mono ?_; rintro e w' ⟨rfl, rfl⟩; rw [hlk2.out]))
      all_goals
        go_roundg (mn - (k + 1))
        case measure => omega
        case rel => exact ⟨k + 1, by omega, by omega, by omega, by have := hstep.out; rw [Nat.add_sub_cancel]; go_num, by go_num, rfl⟩
    · have hkl : k = mn := by omega
      subst hkl
      have hmd : Hid (mdays y ((k : Int) - 1).toNat = mdays y (k - 1)) := Lib.hid (by congr 1; omega)
      generalize mdays y (k - 1) = mk at *
      go_wp2
      go_returns
      refine ⟨?_, rfl⟩
      unfold dayE; rw [D.out, hmd.out]
      rfl
theorem dayE_one (y : Int) (k : Nat) (hy : 1 <= y) (hy2 : y <= 9999) (hk : k < 12) : dayE y (k + 1 : Nat) 1 = .tuple #[.int .i64 (fy y + mdays y k), .int .i64 0] := by
  have D : dayOf y (k + 1 : Nat) 1 = some (fy y + mdays y k) := by
    have := mlen_ge y (k + 1 : Nat)
    unfold dayOf fy; rw [if_neg]
    · rw [show (((k + 1 : Nat) : Int) - 1).toNat = k by omega]; congr 1; omega
    · simp only [Bool.or_eq_true, decide_eq_true_eq]; omega
  unfold dayE; rw [D]; rfl
theorem days_one (y : Int) (k : Nat) (hy : 1 <= y) (hy2 : y <= 9999) (hk1 : 1 <= k) (hk : k <= 12) (w : World) :
    Calls Tryz.prog 373 #[.int .i64 y, .int .i64 k, .int .i64 1] w fun e w' => e = .returned (.tuple #[.int .i64 (fy y + mdays y (k - 1)), .int .i64 0]) /\ w' = w := by
  obtain ⟨j, rfl⟩ : ∃ j, k = j + 1 := ⟨k - 1, by omega⟩
  have := days373 y (j + 1 : Nat) 1 w
  rw [dayE_one y j hy hy2 (by omega)] at this
  exact this
theorem days_jan (y : Int) (hy : 1 <= y) (hy2 : y <= 9999) (w : World) :
    Calls Tryz.prog 373 #[.int .i64 y, .int .i64 1, .int .i64 1] w fun e w' => e = .returned (.tuple #[.int .i64 (fy y), .int .i64 0]) /\ w' = w := by
  have := days_one y 1 hy hy2 (by decide) (by decide) w
  simpa [mdays] using this
theorem fy_bound (y : Int) (h1 : 1 <= y) (h2 : y <= 9999) : 1 <= fy y /\ fy y <= 3660000 := by
  unfold fy
  rw [Int.tdiv_eq_ediv_of_nonneg (by omega), Int.tdiv_eq_ediv_of_nonneg (by omega), Int.tdiv_eq_ediv_of_nonneg (by omega)]
  omega
theorem monF_zero (day y : Int) (m : Nat) (h : fy y + mdays y m <= day) : monF (m + 1) y day = m + 1 := by simp only [monF]; rw [if_pos h]
theorem split301 (day : Int) (w : World) (h1 : 1 <= day) (h2 : day <= 3652059) :
    Calls Tryz.prog 301 #[.int .i64 day] w fun e w' => e = .returned (.tuple #[.int .i64 (yearOf day), .int .i64 (monOf day), .int .i64 (domOf day), .int .i64 0]) /\ 1 <= yearOf day /\ yearOf day <= 9999 /\ 1 <= monOf day /\ monOf day <= 12 /\ 1 <= domOf day /\ domOf day <= 3660000 /\ w' = w := by
  have HM : Hid (monOf day = monF 12 (yearOf day) day) := Lib.hid rfl
  have HD : Hid (domOf day = day - (fy (yearOf day) + mdays (yearOf day) (monOf day - 1)) + 1) := Lib.hid rfl
  have HY : Hid (yearOf day = srch 9999 day 1 9999) := Lib.hid rfl
  go_enter Tryz.func301, Tryz.ntmps301
  go_wp2
  generalize (day == 0) = bz at *
  rename_i hbz
  clear hbz
  go_loopg [6, 7] 9999 (fun g s6 s7 wr => ∃ (f : Nat) (lo hi : Int), 1 <= lo /\ lo <= hi /\ hi <= 9999 /\ (hi - lo).toNat <= g /\ (hi - lo).toNat <= f /\ fy lo <= day /\ srch f day lo hi = yearOf day /\ s6 = .int .i64 lo /\ s7 = .int .i64 hi /\ wr = w)
  case atStart => exact ⟨9999, 1, 9999, by omega, by omega, by omega, by omega, by omega, by have : fy 1 = 1 := rfl; omega, HY.out.symm, rfl, rfl, rfl⟩
  case round =>
    obtain ⟨f, lo, hi, a1, a2, a3, a4, a5, a6, a7, rfl, rfl, rfl⟩ := hrel
    have A6 := Lib.hid a6
    have A7 := Lib.hid a7
    clear a6 a7
    by_cases hlt : lo < hi
    · obtain ⟨f, rfl⟩ : ∃ k, f = k + 1 := ⟨f - 1, by omega⟩
      obtain ⟨mid, hmid⟩ : ∃ mid, mid = (lo + hi + 1) / 2 := ⟨_, rfl⟩
      have hm1 : lo < mid /\ mid <= hi := by omega
      have A8 := Lib.hid (show srch (f + 1) day lo hi = if fy mid <= day then srch f day mid hi else srch f day lo (mid - 1) by
        simp only [srch]; rw [if_pos hlt, Int.tdiv_eq_ediv_of_nonneg (by omega), <- hmid])
      have hfy := fy_bound mid (by omega) (by omega)
      have DE := Lib.hid (days_jan mid (by omega) (by omega) wr)
      replace hmid := Lib.hid hmid.symm
      generalize hfm : fy mid = fm at *
      replace hfm := Lib.hid hfm
      go_wp2_with (first | (go_at_call 373; rw [hmid.out]; refine DE.out.mono ?_; clear DE; rintro e w' ⟨rfl, rfl⟩))
      · have hle : fm <= day := by omega
        rw [if_pos hle] at A8
        go_roundg (hi - mid).toNat
        case measure => omega
        case rel => exact ⟨f, mid, hi, by omega, by omega, by omega, by omega, by omega, by rw [hfm.out]; exact hle, by rw [<- A8.out]; exact A7.out, by go_num, by go_num, rfl⟩
      · have hle : ¬ fm <= day := by omega
        rw [if_neg hle] at A8
        go_roundg (mid - 1 - lo).toNat
        case measure => omega
        case rel => exact ⟨f, lo, mid - 1, by omega, by omega, by omega, by omega, by omega, A6.out, by rw [<- A8.out]; exact A7.out, by go_num, by go_num, rfl⟩
    · have hlh : lo = hi := by omega
      subst hlh
      have hY : yearOf day = lo := by
        rw [<- A7.out]; cases f with
        | zero => rfl
        | succ f => simp only [srch]; rw [if_neg hlt]
      have HYL := Lib.hid hY
      have HM : Hid (monOf day = monF 12 lo day) := Lib.hid (by rw [HM.out, hY])
      clear hY
      have hfb := fy_bound lo (by omega) (by omega)
      have DO := Lib.hid (fun k h1 h2 w => days_one lo k (by omega) (by omega) h1 h2 w)
      have DM := Lib.hid (mdays_le lo)
      generalize hfl : fy lo = fl at *
      replace hfl := Lib.hid hfl
      clear HY A7
      have DM12 := DM.out 11
      have D12 : Hid (∀ w, Calls Tryz.prog 373 #[.int .i64 lo, .int .i64 12, .int .i64 1] w fun e w' => e = .returned (.tuple #[.int .i64 (fl + mdays lo 11), .int .i64 0]) /\ w' = w) := Lib.hid (DO.out 12 (by decide) (by decide))
      generalize hm11 : mdays lo 11 = m11 at *
      go_wp2_with (first | (go_at_call 373; refine (D12.out _).mono ?_; rintro e w' ⟨rfl, hw⟩; obtain rfl := hw.symm))
      go_loopg [11, 12] 12 (fun g s11 s12 wx => ∃ k : Nat, 1 <= k /\ k <= 12 /\ k - 1 <= g /\ monF 12 lo day = monF k lo day /\ s11 = .int .i64 k /\ s12 = .int .i64 (fl + mdays lo (k - 1)) /\ wx = wr)
      case atStart => exact ⟨12, by omega, by omega, by omega, rfl, rfl, by rw [show 12 - 1 = 11 from rfl, hm11], rfl⟩
      case round =>
        obtain ⟨k, b1, b2, b3, b4, rfl, rfl, rfl⟩ := hrel
        replace b4 := Lib.hid b4
        have DMk := DM.out (k - 1)
        by_cases hk : fl + mdays lo (k - 1) <= day
        · have hmo : monOf day = k := by
            obtain ⟨j, rfl⟩ : ∃ j, k = j + 1 := ⟨k - 1, by omega⟩
            rw [HM.out, b4.out]; exact monF_zero _ _ _ (by rw [hfl.out]; exact hk)
          have HDD : Hid (domOf day = day - (fl + mdays lo (k - 1)) + 1) := Lib.hid (by rw [HD.out, HYL.out, hfl.out, hmo])
          have HMO := Lib.hid hmo
          clear hmo
          have HK := Lib.hid hk
          generalize mdays lo (k - 1) = mk at *
          go_wp2
          go_returns
          rw [HDD.out, HYL.out, HMO.out]
          exact ⟨rfl, by omega, by omega, b1, b2, by omega, by omega, rfl⟩
        · have hk1 : 2 <= k := by
            rcases Nat.lt_or_ge k 2 with h | h
            · exfalso
              have : k = 1 := by omega
              subst this
              apply hk
              have e : mdays lo (1 - 1) = 0 := rfl
              rw [e]; have := A6.out; omega
            · exact h
          obtain ⟨j, rfl⟩ : ∃ j, k = j + 1 := ⟨k - 1, by omega⟩
          have hmon : Hid (monF (j + 1) lo day = monF j lo day) := Lib.hid (by
            simp only [monF]; rw [if_neg]; rw [hfl.out]; simpa using hk)
          have DMj := DM.out (j - 1)
          have DJ := Lib.hid (DO.out j (by omega) (by omega))
          have hjj : ((j + 1 : Nat) : Int) - 1 = (j : Int) := by omega
          rw [Nat.add_sub_cancel] at hk DMk ⊢
          generalize hmj : mdays lo (j - 1) = mj at *
          replace hmj := Lib.hid hmj
          generalize mdays lo j = mk at *
          go_wp2_with (first | (go_at_call 373; refine (DJ.out _).mono ?_; rintro e w' ⟨rfl, rfl⟩))
          all_goals
            go_roundg (j - 1)
            case measure => omega
            case rel => exact ⟨j, by omega, by omega, by omega, by rw [b4.out, hmon.out], by go_num, by rw [hmj.out], rfl⟩
theorem padded302 (n k : Nat) (w : World) (hn : n <= 9223372036854775807) (hk : k <= 100) :
    Calls Tryz.prog 302 #[.int .i64 n, .int .i64 k] w fun e w' => e = .returned (.string (bytesOf (padN k (wrN n)))) /\ Below w.heap.size w w' := by
  have hz := wrN_sz n hn
  rw [bytesOf_size] at hz
  have I := Lib.hid (written226 (n + 1) n w (by omega) hn)
  have P0 : Hid (padN k (wrN n) = List.replicate (k - (wrN n).length) 48 ++ wrN n) := Lib.hid rfl
  generalize wrN n = l at *
  go_enter Tryz.func302, Tryz.ntmps302
  go_wp2_with (first | (go_at_call 226; refine I.out.mono ?_; rintro e w1 ⟨rfl, hb⟩))
  go_loopg [5] 100 (fun g s5 wr => ∃ j : Nat, (j = 0 \/ j + l.length <= k) /\ k - (j + l.length) <= g /\ s5 = .string (bytesOf (List.replicate j 48 ++ l)) /\ wr = w1)
  case atStart => exact ⟨0, .inl rfl, by omega, rfl, rfl⟩
  case round =>
    obtain ⟨j, a1, a2, rfl, rfl⟩ := hrel
    have hsz : (bytesOf (List.replicate j 48 ++ l)).size = j + l.length := by rw [bytesOf_size]; simp
    have hadd := run_string_add_sum (P := Tryz.prog) wr ⟨#[48]⟩ (bytesOf (List.replicate j 48 ++ l)) (by rw [hsz]; show 1 + (j + l.length) <= _; omega)
    have HS : Hid ((⟨#[48]⟩ : ByteArray) ++ bytesOf (List.replicate j 48 ++ l) = bytesOf (List.replicate (j + 1) 48 ++ l)) := Lib.hid (by
      have : (⟨#[48]⟩ : ByteArray) = bytesOf [48] := rfl
      rw [this, bytesOf_append, List.replicate_succ]; rfl)
    have HZ : Hid (j + l.length < k \/ padN k l = List.replicate j 48 ++ l) := Lib.hid (by
      by_cases h : j + l.length < k
      · exact .inl h
      · right; rw [P0.out]
        have : k - l.length = j := by omega
        rw [this])
    generalize hcur : bytesOf (List.replicate j 48 ++ l) = cur at *
    replace hcur := Lib.hid hcur
    by_cases hlt : j + l.length < k
    · go_wp2
      go_roundg (k - (j + 1 + l.length))
      case measure => omega
      case rel => exact ⟨j + 1, by omega, by omega, by rw [HS.out], rfl⟩
    · have HP : Hid (bytesOf (padN k l) = cur) := Lib.hid (by rcases HZ.out with h | h; exact absurd h hlt; rw [h]; exact hcur.out)
      go_wp2
      go_ret
      exact ⟨by rw [HP.out]; rfl, hb⟩
theorem pad_sz (k n : Nat) (h : n <= 9223372036854775807) (hk : k <= 100) : (bytesOf (padN k (wrN n))).size <= 120 := by
  rw [bytesOf_size]; unfold padN
  have := wrN_len 19 n (by omega)
  simp; omega
theorem stamp228 (day : Int) (w : World) (h1 : 1 <= day) (h2 : day <= 3652059) :
    Calls Tryz.prog 228 #[.int .i64 day] w fun e w' => e = .returned (.tuple #[.string (bytesOf (stampL day)), .int .i64 0]) /\ Below w.heap.size w w' := by
  have S := Lib.hid (split301 day w h1 h2)
  have HS : Hid (bytesOf (stampL day) = bytesOf (padN 4 (wrI (yearOf day))) ++ bytesOf (padN 2 (wrI (monOf day : Int))) ++ bytesOf (padN 2 (wrI (domOf day)))) := Lib.hid (by
    rw [bytesOf_append, bytesOf_append, List.append_assoc]; rfl)
  have hdz : (day == 0) = false := by simp; omega
  generalize yearOf day = y at *
  generalize monOf day = mo at *
  generalize domOf day = dm at *
  go_enter Tryz.func228, Tryz.ntmps228
  go_wp2_with (first
    | (go_at_call 301; refine S.out.mono ?_; clear S; rintro e w' ⟨rfl, a1, a2, a3, a4, a5, a6, rfl⟩; obtain ⟨yn, rfl⟩ : ∃ n : Nat, y = n := ⟨y.toNat, by omega⟩; obtain ⟨dn, rfl⟩ : ∃ n : Nat, dm = n := ⟨dm.toNat, by omega⟩; rw [wrI_nat _ (by omega), wrI_nat _ (by omega), wrI_nat _ (by omega), Int.toNat_natCast, Int.toNat_natCast, Int.toNat_natCast] at HS; have Z1 := pad_sz 4 yn (by omega) (by decide); have Z2 := pad_sz 2 mo (by omega) (by decide); have Z3 := pad_sz 2 dn (by omega) (by decide);
       have K1 : Hid (∀ w, Calls Tryz.prog 302 #[.int .i64 yn, .int .i64 4] w fun e w' => e = .returned (.string (bytesOf (padN 4 (wrN yn)))) /\ Below w.heap.size w w') := Lib.hid (fun w => padded302 yn 4 w (by omega) (by decide));
       have K2 : Hid (∀ w, Calls Tryz.prog 302 #[.int .i64 mo, .int .i64 2] w fun e w' => e = .returned (.string (bytesOf (padN 2 (wrN mo)))) /\ Below w.heap.size w w') := Lib.hid (fun w => padded302 mo 2 w (by omega) (by decide));
       have K3 : Hid (∀ w, Calls Tryz.prog 302 #[.int .i64 dn, .int .i64 2] w fun e w' => e = .returned (.string (bytesOf (padN 2 (wrN dn)))) /\ Below w.heap.size w w') := Lib.hid (fun w => padded302 dn 2 w (by omega) (by decide));
       generalize bytesOf (padN 4 (wrN yn)) = s1 at *; generalize bytesOf (padN 2 (wrN mo)) = s2 at *; generalize bytesOf (padN 2 (wrN dn)) = s3 at *)
    | (go_at_call 302; first
        | (refine (K1.out _).mono ?_; clear K1; rintro e w1 ⟨rfl, hb1⟩)
        | (refine (K2.out _).mono ?_; clear K2; rintro e w2 ⟨rfl, hb2⟩; have hadd1 := run_string_add_sum (P := Tryz.prog) w2 s1 s2 (by omega); have hz12 : (s1 ++ s2).size = s1.size + s2.size := ByteArray.size_append)
        | (refine (K3.out _).mono ?_; clear K3; rintro e w3 ⟨rfl, hb3⟩; have hadd2 := run_string_add_sum (P := Tryz.prog) w3 (s1 ++ s2) s3 (by omega))))
  go_returns
  refine ⟨by rw [HS.out]; rfl, (hb1.trans (hb2.mono hb1.size)).trans (hb3.mono (Nat.le_trans hb1.size hb2.size))⟩
def tkC (t : Tk) : List Value := [.int .i64 t.k, .int .i64 0, .string t.t]
def bigM : Nat := 1000000000000
def WrAt (b m : Nat) (t : List Tk) (bd : Bool) (w : World) : Prop :=
  ∃ o v, Bk w b 159 #[.string o, v, .bool bd] /\ o.size <= m /\ t.length <= m /\ w.ownsRow (b + 1) 223 3 v t.length (t.flatMap tkC)
theorem own_keep {w w' : World} {base : Nat} {e : TypeId} {size : Nat} {v : Value} {n : Nat} {xs : List Value} (h : w.ownsRow base e size v n xs) (hb : Below w.heap.size w w') : w'.ownsRow base e size v n xs :=
  h.kept (row := none) ⟨hb.os, hb.tape, hb.output, hb.size, fun k hk _ => hb.block k hk⟩ (by cases v.ownBlock <;> simp)
theorem own_ne {w : World} {b : Nat} {e : TypeId} {size : Nat} {v : Value} {n : Nat} {xs : List Value} (h : w.ownsRow (b + 1) e size v n xs) : some b ≠ v.ownBlock := fun e1 => by
  have := h.lt b e1.symm; omega
theorem WrAt.keep {b m : Nat} {t : List Tk} {bd : Bool} {w w' : World} (h : WrAt b m t bd w) (hb : Below w.heap.size w w') : WrAt b m t bd w' := by
  obtain ⟨o, v, h1, h2, h3, h4⟩ := h
  exact ⟨o, v, h1.keep hb, h2, h3, own_keep h4 hb⟩
theorem WrAt.alloc {b m : Nat} {t : List Tk} {bd : Bool} {w : World} (h : WrAt b m t bd w) (o : Obj) : WrAt b m t bd (w.alloc o) := h.keep (below_a o)
theorem WrAt.drew {b m : Nat} {t : List Tk} {bd : Bool} {w : World} (h : WrAt b m t bd w) : WrAt b m t bd w.drew := h
theorem WrAt.lt {b m : Nat} {t : List Tk} {bd : Bool} {w : World} (h : WrAt b m t bd w) : b < w.heap.size := by
  obtain ⟨o, v, h1, _⟩ := h; exact h1.lt
theorem WrAt.mono {b m m' : Nat} {t : List Tk} {bd : Bool} {w : World} (h : WrAt b m t bd w) (hm : m <= m') : WrAt b m' t bd w := by
  obtain ⟨o, v, h1, h2, h3, h4⟩ := h; exact ⟨o, v, h1, by omega, by omega, h4⟩
theorem Bk.grown {w w' : World} {g T cs} (h : Bk w g T cs) {row : Option Nat} (hg : w.grownBy w' row) (hne : some g ≠ row) : Bk w' g T cs :=
  (hg.block g h.lt hne).trans h
theorem below_grown {b : Nat} {w w' : World} {row : Option Nat} (hg : w.grownBy w' row) (hr : ∀ k, row = some k -> b <= k) (hs : b <= w.heap.size) : Below b w w' :=
  (Below.refl b w).grown hg hs hr
theorem own_set {w : World} {base : Nat} {e : TypeId} {size : Nat} {v : Value} {n : Nat} {xs : List Value} (h : w.ownsRow base e size v n xs) {a : Addr} (ha : a.block < base) (u : Value) : (w.setCell a u).ownsRow base e size v n xs := ownsRow_setCell_below h ha u
theorem own_form {w : World} {base : Nat} {e : TypeId} {size : Nat} {v : Value} {n : Nat} {xs : List Value} (h : w.ownsRow base e size v (n + 1) xs) : ∃ g c, v = .slice (some ⟨g, 0, none⟩) (n + 1) c := by
  rcases h.2 with ⟨_, h⟩ | ⟨g, c, _, h, _⟩
  · omega
  · exact ⟨g, c, h⟩
structure Fw (b : Nat) (w w' : World) : Prop where
  os : w'.os = w.os
  tape : w'.tape = w.tape
  output : w'.output = w.output
  size : w.heap.size <= w'.heap.size
  block : ∀ k, k < w.heap.size -> k ≠ b -> (∀ cs fr, w.heap[k]? ≠ some (.cells cs 223 fr)) -> w'.heap[k]? = w.heap[k]?
theorem Fw.refl (b : Nat) (w : World) : Fw b w w := ⟨rfl, rfl, rfl, Nat.le_refl _, fun _ _ _ _ => rfl⟩
theorem Fw.trans {b : Nat} {x y z : World} (h : Fw b x y) (k : Fw b y z) : Fw b x z :=
  ⟨k.os.trans h.os, k.tape.trans h.tape, k.output.trans h.output, Nat.le_trans h.size k.size, fun i hi hb hn => by
    have e := h.block i hi hb hn
    exact (k.block i (Nat.lt_of_lt_of_le hi h.size) hb (fun cs fr => by rw [e]; exact hn cs fr)).trans e⟩
theorem Fw.of_below {b : Nat} {w w' : World} (h : Below w.heap.size w w') : Fw b w w' := ⟨h.os, h.tape, h.output, h.size, fun k hk _ _ => h.block k hk⟩
theorem Fw.drew {b : Nat} {x w : World} (h : Fw b x w) : Fw b x w.drew := ⟨h.os, h.tape, h.output, h.size, h.block⟩
theorem Fw.alloc {b : Nat} {x w : World} (h : Fw b x w) (o : Obj) : Fw b x (w.alloc o) := h.trans (.of_below (below_a o))
theorem Fw.set (b : Nat) (w : World) (i : Nat) (u : Value) : Fw b w (w.setCell ⟨b, i, none⟩ u) :=
  ⟨rfl, rfl, rfl, by simp [World.setCell], fun k hk hb _ => by rw [Below.heap_setCell _ _ _ _ (fun e => hb e)]⟩
theorem Fw.grown {b : Nat} {w w' : World} {row : Option Nat} (hg : w.grownBy w' row) (hr : ∀ k, row = some k -> ∃ cs fr, w.heap[k]? = some (.cells cs 223 fr)) : Fw b w w' :=
  ⟨hg.os, hg.tape, hg.output, hg.size, fun k hk _ hn => hg.block k hk (fun e => by
    obtain ⟨cs, fr, h⟩ := hr k e.symm
    exact hn cs fr h)⟩
theorem own_kind {w : World} {base : Nat} {e : TypeId} {size : Nat} {v : Value} {n : Nat} {xs : List Value} (h : w.ownsRow base e size v n xs) : ∀ k, v.ownBlock = some k -> ∃ cs fr, w.heap[k]? = some (.cells cs e fr) := by
  intro k hk
  rcases h.2 with ⟨rfl, _⟩ | ⟨g, c, cur, rfl, _, h1, _⟩
  · cases hk
  · cases hk; exact ⟨_, _, h1⟩
theorem Bk.fw {w w' : World} {g T cs b} (h : Bk w g T cs) (hb : Fw b w w') (hg : g ≠ b) (hT : T ≠ 223) : Bk w' g T cs :=
  (hb.block g h.lt hg (fun cs' fr e => by rw [h] at e; simp at e; exact hT e.2.1)).trans h
theorem below_set (b : Nat) (w : World) (i : Nat) (u : Value) : Below b w (w.setCell ⟨b, i, none⟩ u) := (Below.refl b w).setCell (Nat.le_refl _) _
theorem info223 : (Tryz.prog.info? 223).map (fun i => (i.zero, i.size, i.bytes)) = some (some (.agg #[.int .i64 0, .int .i64 0, .string ⟨#[]⟩]), 3, 32) := by kernel_rfl
theorem three_new (w : World) (T : TypeId) (a b c : Value) : ∀ j u, [a, b, c][j]? = some u -> (w.alloc (.cells #[a, b, c] T)).cell? ((⟨w.heap.size, 0, none⟩ : Addr).add j) = some u := by
  intro j u hj
  have hk : Bk (w.alloc (.cells #[a, b, c] T)) w.heap.size T #[a, b, c] := Bk.new _ _ _
  have e : ((⟨w.heap.size, 0, none⟩ : Addr).add j) = ⟨w.heap.size, j, none⟩ := by unfold Addr.add; split <;> simp_all
  rw [e, hk.cell]
  simpa using hj
theorem put227 (b m c : Nat) (t : List Tk) (bd : Bool) (k : Int) (s sh : ByteArray) (w : World) (h : WrAt b m t bd w) (hc : sh.size + 1 <= c) (hm : m + c <= bigM) :
    Calls Tryz.prog 227 #[.pointer (some ⟨b, 0, none⟩), .int .i64 k, .string s, .string sh] w fun e w' => e = .returned (.tuple #[]) /\ WrAt b (m + c) (t ++ [⟨k, s⟩]) bd w' /\ Below b w w' /\ Fw b w w' := by
  obtain ⟨o, v, hk, h1, h2, h3⟩ := h
  unfold bigM at hm
  have hlt := hk.lt
  have hown3 := h3.alloc (.cells #[.int .i64 k, .int .i64 0, .string s] 223)
  have hne := own_ne h3
  have hk3 := Lib.hid (hk.alloc (.cells #[.int .i64 k, .int .i64 0, .string s] 223))
  obtain ⟨i0, hi, hz0, hz1, hz2⟩ := info_parts info223
  have d1 := hk.cell 1
  have f1 := hk.frozen 1
  simp at d1
  have HK := Lib.hid hk
  have HO := Lib.hid h3
  clear hk h3
  go_enter Tryz.func227, Tryz.ntmps227
  go_wp2_with (first
    | (at_builtin; refine wpList_append_own _ rfl _ _ 141 rfl (b + 1) 223 i0 (.agg #[.int .i64 0, .int .i64 0, .string ⟨#[]⟩]) 3 32 Tryz.underlying141 hi hz0 hz1 hz2 rfl (by decide) _ _ _ rfl hown3 ⟨w.heap.size, 0, none⟩ 1 1 [.int .i64 k, .int .i64 0, .string s] rfl rfl (three_new _ _ _ _ _) (by simp [Value.oneCell']) (by unfold maxLen; omega) (by omega) ?cb ?_; (case cb => simp; omega); intro v' w3 hown' hg3 hnil3; clear hnil3; obtain ⟨g', c', rfl⟩ := own_form hown';
       have hkk := hk3.out.grown hg3 hne; have e1 := hkk.cell 1; simp at e1; have f3 := hkk.frozen 1; have hks := hkk.set1 1 (.slice (some ⟨g', 0, none⟩) (t.length + 1) c'); have HKS := Lib.hid hks; have HKK := Lib.hid hkk;
       have e0 := hks.cell 0; simp at e0; have f0 := hks.frozen 0; have HG := Lib.hid hg3; have HOW := Lib.hid hown'; clear hkk hks hg3 hown' hown3 d1 f1; have hadd := run_string_add_sum (P := Tryz.prog) (w3.setCell ⟨b, 1, none⟩ (.slice (some ⟨g', 0, none⟩) (t.length + 1) c')) o sh (by omega)))
  have hal : Below w.heap.size w (w.alloc (.cells #[.int .i64 k, .int .i64 0, .string s] 223)) := below_a _
  have hb3 : Below b w w3 := (hal.mono (Nat.le_of_lt hlt)).trans (below_grown HG.out (fun j hj => by have := HO.out.lt j hj; omega) (by simp; omega))
  have hf3 : Fw b w w3 := (Fw.of_below hal).trans (Fw.grown HG.out (fun j hj => own_kind (HO.out.alloc _) j hj))
  go_end0
  refine ⟨rfl, ⟨o ++ sh, _, (HKK.out.set1 1 _).set1 0 _, ?_, ?_, ?_⟩, ?_, ?_⟩
  · rw [ByteArray.size_append]; omega
  · simp; omega
  · have := own_set (own_set HOW.out (a := ⟨b, 1, none⟩) (Nat.lt_succ_self _) (.slice (some ⟨g', 0, none⟩) (t.length + 1) c')) (a := ⟨b, 0, none⟩) (Nat.lt_succ_self _) (.string (o ++ sh))
    simpa [tkC] using this
  · exact (hb3.setCell (Nat.le_refl _) _).setCell (Nat.le_refl _) _
  · exact (hf3.trans (Fw.set _ _ _ _)).trans (Fw.set _ _ _ _)
abbrev wp' (b : Nat) : Value := .pointer (some ⟨b, 0, none⟩)
def WS (b m : Nat) (t : List Tk) (bd : Bool) (w : World) (e : Ending) (w' : World) : Prop := e = .returned (.tuple #[]) /\ WrAt b m t bd w' /\ Below b w w' /\ Fw b w w'
theorem sign146 (b m c : Nat) (t : List Tk) (bd : Bool) (s : ByteArray) (w : World) (h : WrAt b m t bd w) (hc : s.size + 1 <= c) (hm : m + c <= bigM) :
    Calls Tryz.prog 146 #[wp' b, .string s] w (WS b (m + c) (t ++ [S s]) bd w) := by
  go_enter Tryz.func146, Tryz.ntmps146
  go_wp2_with (first | (go_at_call 227; refine (put227 b m c t bd 4 s s w h hc hm).mono ?_; rintro e w1 ⟨rfl, hw, hb⟩))
  go_end0
  exact ⟨rfl, hw, hb⟩
theorem WrAt.parts {b m : Nat} {t : List Tk} {bd : Bool} {w : World} (h : WrAt b m t bd w) : ∃ o v, o.size <= m /\ w.cell? ⟨b, 0, none⟩ = some (.string o) /\ w.frozen? ⟨b, 0, none⟩ = false /\ w.cell? ⟨b, 2, none⟩ = some (.bool bd) /\ w.frozen? ⟨b, 2, none⟩ = false /\
    (∀ o', o'.size <= m -> WrAt b m t bd (w.setCell ⟨b, 0, none⟩ (.string o'))) /\ (∀ bd', WrAt b m t bd' (w.setCell ⟨b, 2, none⟩ (.bool bd'))) /\ w.cell? ⟨b, 1, none⟩ = some v /\ w.ownsRow (b + 1) 223 3 v t.length (t.flatMap tkC) := by
  obtain ⟨o, v, h1, h2, h3, h4⟩ := h
  refine ⟨o, v, h2, h1.cell 0, h1.frozen 0, h1.cell 2, h1.frozen 2, ?_, ?_, h1.cell 1, h4⟩
  · intro o' ho
    exact ⟨o', v, h1.set1 0 _, ho, h3, own_set h4 (Nat.lt_succ_self _) _⟩
  · intro bd'
    exact ⟨o, v, h1.set1 2 _, h2, h3, own_set h4 (Nat.lt_succ_self _) _⟩
theorem blank149 (b m : Nat) (t : List Tk) (bd : Bool) (w : World) (h : WrAt b m t bd w) (hm : m + 1 <= bigM) :
    Calls Tryz.prog 149 #[wp' b] w (WS b (m + 1) t bd w) := by
  obtain ⟨o, v, h1, c0, f0, -, -, H0, -, -, -⟩ := (h.mono (Nat.le_succ m)).parts
  have ho : o.size <= m := by
    obtain ⟨o', v', k1, k2, _⟩ := h
    have := k1.cell 0
    rw [c0] at this
    have e : o = o' := by simpa using this
    rw [e]; exact k2
  unfold bigM at hm
  have hadd := run_string_add_sum (P := Tryz.prog) w o ⟨#[32]⟩ (by show o.size + 1 <= _; omega)
  have HH := Lib.hid (H0 (o ++ ⟨#[32]⟩) (by rw [ByteArray.size_append]; show o.size + 1 <= _; omega))
  clear H0 h
  go_enter Tryz.func149, Tryz.ntmps149
  go_wp2
  go_end0
  exact ⟨rfl, HH.out, below_set _ _ _ _, Fw.set _ _ _ _⟩
theorem name144 (b m c : Nat) (t : List Tk) (bd : Bool) (s : ByteArray) (w : World) (h : WrAt b m t bd w) (hs : s.size <= 9223372036854775807) (hc : s.size + 1 <= c) (hm : m + c <= bigM) :
    Calls Tryz.prog 144 #[wp' b, .string s] w (WS b (m + c) (t ++ [W s]) (bd || !nameB s) w) := by
  obtain ⟨o, v, h1, -, -, c2, f2, -, H2, -, -⟩ := h.parts
  have HH := Lib.hid (H2 true)
  have H := Lib.hid h
  clear H2 h
  cases hn : nameB s with
  | true =>
    have IN : Hid (∀ w, Calls Tryz.prog 230 #[.string s] w fun e w' => e = .returned (.bool true) /\ w' = w) := Lib.hid (fun w => by have := isName230 s w hs; rw [hn] at this; exact this)
    have e : (bd || !true) = bd := by simp
    rw [e]
    go_enter Tryz.func144, Tryz.ntmps144
    go_wp2_with (first
      | (go_at_call 230; refine (IN.out w).mono ?_; rintro e w' ⟨rfl, hw⟩; obtain rfl := hw.symm)
      | (go_at_call 227; refine (put227 b m c t bd 0 s s w H.out hc hm).mono ?_; rintro e w1 ⟨rfl, hw, hb⟩))
    go_end0
    exact ⟨rfl, hw, hb⟩
  | false =>
    have IN : Hid (∀ w, Calls Tryz.prog 230 #[.string s] w fun e w' => e = .returned (.bool false) /\ w' = w) := Lib.hid (fun w => by have := isName230 s w hs; rw [hn] at this; exact this)
    have e : (bd || !false) = true := by simp
    rw [e]
    go_enter Tryz.func144, Tryz.ntmps144
    go_wp2_with (first
      | (go_at_call 230; refine (IN.out w).mono ?_; rintro e w' ⟨rfl, hw⟩; obtain rfl := hw.symm)
      | (go_at_call 227; refine (put227 b m c t true 0 s s _ HH.out hc hm).mono ?_; rintro e w1 ⟨rfl, hw, hb⟩))
    go_end0
    exact ⟨rfl, hw, (below_set _ _ _ _).trans hb.1, (Fw.set _ _ _ _).trans hb.2⟩
theorem has145 (b m : Nat) (t : List Tk) (bd : Bool) (x y : Nat) (w : World) (h : WrAt b m t bd w) :
    Calls Tryz.prog 145 #[wp' b, .int .i64 x, .int .i64 y] w fun e w' => e = .returned (.bool (decide (x = y))) /\ WrAt b m t (bd || decide (x ≠ y)) w' /\ Below b w w' /\ Fw b w w' := by
  obtain ⟨o, v, h1, -, -, c2, f2, -, H2, -, -⟩ := h.parts
  have HH := Lib.hid (H2 true)
  have H := Lib.hid h
  clear H2 h
  by_cases hxy : x = y
  · subst hxy
    go_enter Tryz.func145, Tryz.ntmps145
    go_wp2
    go_ret
    exact ⟨ret_bool (by simp), by simpa using H.out, Below.refl _ _, Fw.refl _ _⟩
  · have hi : ¬ ((x : Int) = (y : Int)) := by omega
    have e1 : Hid (decide (x = y) = false /\ (bd || decide (x ≠ y)) = true) := Lib.hid (by simp [hxy])
    go_enter Tryz.func145, Tryz.ntmps145
    go_wp2
    go_ret
    refine ⟨ret_bool ?_, ?_, below_set _ _ _ _, Fw.set _ _ _ _⟩
    · rw [e1.out.1]; simp [hi]
    · rw [e1.out.2]; exact HH.out
theorem comma231 (b m : Nat) (t : List Tk) (bd : Bool) (k : Nat) (w : World) (h : WrAt b m t bd w) (hm : m + 3 <= bigM) :
    Calls Tryz.prog 231 #[wp' b, .int .i64 k] w (WS b (m + 3) (t ++ (if k = 0 then [] else [S sComma])) bd w) := by
  have H := Lib.hid h
  clear h
  by_cases hk : k = 0
  · subst hk
    go_enter Tryz.func231, Tryz.ntmps231
    go_wp2
    go_end0
    exact ⟨rfl, by simpa using H.out.mono (by omega), Below.refl _ _, Fw.refl _ _⟩
  · have hk' : 0 < (k : Int) := by omega
    rw [if_neg hk]
    go_enter Tryz.func231, Tryz.ntmps231
    go_wp2_with (first
      | (go_at_call 146; refine (sign146 b m 2 t bd sComma w H.out (by decide) (by omega)).mono ?_; rintro e w1 ⟨rfl, hw, hb⟩)
      | (go_at_call 149; refine (blank149 b (m + 2) _ bd _ hw (by omega)).mono ?_; rintro e w2 ⟨rfl, hw2, hb2⟩))
    go_end0
    exact ⟨rfl, hw2, hb.1.trans hb2.1, hb.2.trans hb2.2⟩
def szP : List ByteArray -> Nat
  | [] => 0
  | s :: r => 1 + s.size + szP r
mutual
def sz : Ex -> Nat
  | .mk _ s v p l => 1 + s.size + v.s.size + szP p + szL l
def szL : List Ex -> Nat
  | [] => 0
  | x :: r => sz x + szL r
end
theorem sz_pos (x : Ex) : 1 <= sz x := by cases x; simp only [sz]; omega
theorem szP_len : ∀ p : List ByteArray, p.length <= szP p
  | [] => by simp [szP]
  | s :: r => by simp only [szP, List.length_cons]; have := szP_len r; omega
mutual
theorem wt_le_sz : ∀ x : Ex, wt x <= sz x
  | .mk op s v p l => by simp only [wt, sz]; have := wtL_le_szL l; have := szP_len p; omega
theorem wtL_le_szL : ∀ l : List Ex, wtL l <= szL l
  | [] => by simp [wtL]
  | x :: r => by simp only [wtL, szL]; have := wt_le_sz x; have := wtL_le_szL r; omega
end
theorem szP_take : ∀ (l : List ByteArray) (k : Nat) (h : k < l.length), szP (l.take (k + 1)) = szP (l.take k) + (1 + l[k].size)
  | x :: r, 0, h => by simp [szP]
  | x :: r, k + 1, h => by
    have := szP_take r k (by simpa using h)
    simp only [List.take_succ_cons, szP, this, List.getElem_cons_succ]; omega
theorem szP_take_le : ∀ (l : List ByteArray) (k : Nat), szP (l.take k) <= szP l
  | [], k => by simp
  | x :: r, 0 => by simp [szP]
  | x :: r, k + 1 => by simp only [List.take_succ_cons, szP]; have := szP_take_le r k; omega
theorem szL_take : ∀ (l : List Ex) (k : Nat) (h : k < l.length), szL (l.take (k + 1)) = szL (l.take k) + sz l[k]
  | x :: r, 0, h => by simp [szL]
  | x :: r, k + 1, h => by
    have := szL_take r k (by simpa using h)
    simp only [List.take_succ_cons, szL, this, List.getElem_cons_succ]; omega
theorem szL_take_le : ∀ (l : List Ex) (k : Nat), szL (l.take k) <= szL l
  | [], k => by simp
  | x :: r, 0 => by simp [szL]
  | x :: r, k + 1 => by simp only [List.take_succ_cons, szL]; have := szL_take_le r k; omega
theorem nmTks_take : ∀ (p : List ByteArray) (k : Nat) (h : k < p.length), nmTks (p.take (k + 1)) = nmTks (p.take k) ++ (if k = 0 then [] else [S sComma]) ++ [W p[k]]
  | x :: r, 0, h => by simp [nmTks]
  | [x], k + 1, h => by simp at h
  | x :: y :: r, k + 1, h => by
    have := nmTks_take (y :: r) k (by simpa using h)
    cases k with
    | zero => simp [nmTks]
    | succ k =>
      simp only [List.take_succ_cons, nmTks] at this ⊢
      rw [this]
      simp
theorem tksL_take : ∀ (p : List Ex) (k : Nat) (h : k < p.length), tksL (p.take (k + 1)) = tksL (p.take k) ++ (if k = 0 then [] else [S sComma]) ++ tks p[k]
  | x :: r, 0, h => by simp [tksL]
  | [x], k + 1, h => by simp at h
  | x :: y :: r, k + 1, h => by
    have := tksL_take (y :: r) k (by simpa using h)
    cases k with
    | zero => simp [tksL]
    | succ k =>
      simp only [List.take_succ_cons, tksL] at this ⊢
      rw [this]
      simp
theorem badL_take : ∀ (p : List Ex) (k : Nat) (h : k < p.length), badL (p.take (k + 1)) = (badL (p.take k) || bad p[k])
  | x :: r, 0, h => by simp [badL]
  | x :: r, k + 1, h => by
    have := badL_take r k (by simpa using h)
    simp only [List.take_succ_cons, badL, this, List.getElem_cons_succ, Bool.or_assoc]
theorem allN_take (p : List ByteArray) (k : Nat) (h : k < p.length) : (!(p.take (k + 1)).all nameB) = (!(p.take k).all nameB || !nameB p[k]) := by
  rw [List.take_add_one, List.all_append]
  simp [List.getElem?_eq_getElem h]
theorem lowcell {b : Nat} {w w1 : World} (hb : Below b w w1) {k o : Nat} (hk : k < b) : w1.cell? ⟨k, o, none⟩ = w.cell? ⟨k, o, none⟩ := hb.cell (p := ⟨k, o, none⟩) hk
theorem names232 (b m : Nat) (t : List Tk) (bd : Bool) (p : List ByteArray) (v : Value) (w : World) (h : WrAt b m t bd w) (hp : StrsAt (· < b) w v p) (hm : m + 4 * szP p <= bigM) :
    Calls Tryz.prog 232 #[wp' b, v] w (WS b (m + 4 * szP p) (t ++ nmTks p) (bd || !p.all nameB) w) := by
  obtain ⟨a, c, rfl⟩ := hp.shape
  have hlen : p.length <= 9223372036854775807 := hp.1
  have HP := Lib.hid hp
  have H := Lib.hid h
  have HM := Lib.hid hm
  clear hp h hm
  go_enter Tryz.func232, Tryz.ntmps232
  go_wp2
  go_loopg [4] p.length (fun g s8 wr => ∃ k : Nat, k <= p.length /\ p.length - k <= g /\ s8 = .int .i64 k /\ WrAt b (m + 4 * szP (p.take k)) (t ++ nmTks (p.take k)) (bd || !(p.take k).all nameB) wr /\ Below b w wr /\ Fw b w wr)
  case atStart => exact ⟨0, Nat.zero_le _, by omega, rfl, by simpa [szP, nmTks] using H.out, Below.refl _ _, Fw.refl _ _⟩
  case round =>
    obtain ⟨k, hk, hg, rfl, hw, hb⟩ := hrel
    have HW := Lib.hid hw
    have HB := Lib.hid hb
    clear hw hb
    by_cases hlt : k < p.length
    · obtain ⟨b', o, rfl, hN, hbl, hc, hz⟩ := HP.out.elem hlt
      rw [<- lowcell HB.out.1 hN] at hc
      have hz : p[k].size <= 9223372036854775807 := hz
      have E1 := Lib.hid (szP_take p k hlt)
      have E2 := Lib.hid (nmTks_take p k hlt)
      have E3 := Lib.hid (allN_take p k hlt)
      have E4 := Lib.hid (szP_take_le p (k + 1))
      generalize p[k] = s at *
      go_wp2_with (first
        | (go_at_call 231; refine (comma231 b _ _ _ k _ HW.out (by have := E1.out; have := E4.out; have := HM.out; omega)).mono ?_; rintro e w1 ⟨rfl, hw1, hb1⟩; rw [<- lowcell hb1.1 hN] at hc)
        | (go_at_call 144; refine (name144 b _ (s.size + 1) _ _ s _ hw1 hz (Nat.le_refl _) (by have := E1.out; have := E4.out; have := HM.out; omega)).mono ?_; rintro e w2 ⟨rfl, hw2, hb2⟩))
      go_roundg (p.length - (k + 1))
      case measure => omega
      case rel =>
        refine ⟨k + 1, by omega, by omega, by go_num, ?_, HB.out.1.trans (hb1.1.trans hb2.1), HB.out.2.trans (hb1.2.trans hb2.2)⟩
        rw [E2.out, E3.out, <- Bool.or_assoc, <- List.append_assoc, <- List.append_assoc]
        exact hw2.mono (by have := E1.out; omega)
    · have hkl : k = p.length := by omega
      subst hkl
      have HW2 := HW.out
      rw [List.take_length] at HW2
      go_wp2
      go_end0
      exact ⟨rfl, HW2, HB.out⟩
theorem below_low {w : World} {b : Nat} (o : Obj) (h : b <= w.heap.size) : Below b w (w.alloc o) := (below_a o).mono h
theorem sLp_sz : sLp.size = 1 := rfl
theorem sRp_sz : sRp.size = 1 := rfl
theorem sLc_sz : sLc.size = 1 := rfl
theorem sRc_sz : sRc.size = 1 := rfl
theorem sLb_sz : sLb.size = 1 := rfl
theorem sRb_sz : sRb.size = 1 := rfl
theorem sBar_sz : sBar.size = 1 := rfl
theorem sAmp_sz : sAmp.size = 1 := rfl
theorem sDot_sz : sDot.size = 1 := rfl
theorem sAt_sz : sAt.size = 1 := rfl
theorem sArrow_sz : sArrow.size = 2 := rfl
def cost (x : Ex) : Nat := 2200 * sz x - 10
def ExprW (n : Nat) : Prop := ∀ (x : Ex) (u : Value) (b m : Nat) (t : List Tk) (bd : Bool) (w : World), wt x <= n -> ExAt (· < b) w x u -> WrAt b m t bd w -> m + cost x <= bigM ->
  Calls Tryz.prog 79 #[wp' b, u] w (WS b (m + cost x) (t ++ tks x) (bd || bad x) w)
theorem cost_eq (x : Ex) : cost x + 10 = 2200 * sz x := by unfold cost; have := sz_pos x; omega
theorem closed147 (n : Nat) (ih : ExprW n) (x : Ex) (u : Value) (b m : Nat) (t : List Tk) (bd : Bool) (w : World) (hn : wt x <= n) (hx : ExAt (· < b) w x u) (h : WrAt b m t bd w) (hm : m + 2200 * sz x <= bigM) :
    Calls Tryz.prog 147 #[wp' b, u] w (WS b (m + 2200 * sz x) (t ++ (S sLp :: (tks x ++ [S sRp]))) (bd || bad x) w) := by
  have C := cost_eq x
  obtain ⟨op, s, v, p, l⟩ := x
  obtain ⟨pa, pc, la, lc, rfl, hs, hvs, hp, hl⟩ := hx.parts
  obtain ⟨vk, vn, vs⟩ := v
  have hs : s.size <= 9223372036854775807 := hs
  have hvs : vs.size <= 9223372036854775807 := hvs
  have hll : l.length <= 9223372036854775807 := hl.1
  have hlt := h.lt
  have HX := Lib.hid hx
  have HP := Lib.hid hp
  have HL := Lib.hid hl
  have hw := Lib.hid (h.alloc (.cells #[.int .i64 op, .string s, .int .i64 vk, .int .i64 vn, .string vs, .slice pa p.length pc, .slice la l.length lc] 55))
  have hk := Lib.hid (Bk.new w 55 #[.int .i64 op, .string s, .int .i64 vk, .int .i64 vn, .string vs, .slice pa p.length pc, .slice la l.length lc])
  have HB := Lib.hid (And.intro (below_low (w := w) (.cells #[.int .i64 op, .string s, .int .i64 vk, .int .i64 vn, .string vs, .slice pa p.length pc, .slice la l.length lc] 55) (Nat.le_of_lt hlt)) ((Fw.refl b w).alloc (.cells #[.int .i64 op, .string s, .int .i64 vk, .int .i64 vn, .string vs, .slice pa p.length pc, .slice la l.length lc] 55)))
  obtain ⟨k0, k1, k2, k3, k4, k5, k6⟩ := Bk7 hk.out
  have HE : Hid (t ++ (S sLp :: (tks (.mk op s ⟨vk, vn, vs⟩ p l) ++ [S sRp])) = t ++ [S sLp] ++ tks (.mk op s ⟨vk, vn, vs⟩ p l) ++ [S sRp]) := Lib.hid (by simp)
  go_enter Tryz.func147, Tryz.ntmps147
  go_wp2_with (first
    | (go_at_call 146; (first | (refine (sign146 b _ (sLp.size + 1) _ _ sLp _ hw.out (Nat.le_refl _) (by first | omega | (simp only [sLp_sz, sRp_sz, sLc_sz, sRc_sz, sLb_sz, sRb_sz, sBar_sz, sAmp_sz, sDot_sz, sAt_sz, sArrow_sz]; omega))).mono ?_) | (refine (sign146 b _ (sRp.size + 1) _ _ sRp _ hw.out (Nat.le_refl _) (by first | omega | (simp only [sLp_sz, sRp_sz, sLc_sz, sRc_sz, sLb_sz, sRb_sz, sBar_sz, sAmp_sz, sDot_sz, sAt_sz, sArrow_sz]; omega))).mono ?_)); rintro e w1 ⟨rfl, hw1, hb1⟩; have hk2 := Lib.hid (hk.out.fw hb1.2 (Nat.ne_of_gt hlt) (by decide)); have HB2 := Lib.hid (And.intro (HB.out.1.trans hb1.1) (HB.out.2.trans hb1.2)); clear k0 k1 k2 k3 k4 k5 k6 hk HB hw; have hk := hk2; have HB := HB2; have hw := Lib.hid hw1; clear hk2 HB2 hw1 hb1; obtain ⟨k0, k1, k2, k3, k4, k5, k6⟩ := Bk7 hk.out)
    | (go_at_call 79; refine (ih (.mk op s ⟨vk, vn, vs⟩ p l) _ b _ _ _ _ hn (ExAt.keep (.of_low HB.out.1) HX.out) hw.out (by first | omega | (simp only [sLp_sz, sRp_sz, sLc_sz, sRc_sz, sLb_sz, sRb_sz, sBar_sz, sAmp_sz, sDot_sz, sAt_sz, sArrow_sz]; omega))).mono ?_; rintro e w1 ⟨rfl, hw1, hb1⟩; have hk2 := Lib.hid (hk.out.fw hb1.2 (Nat.ne_of_gt hlt) (by decide)); have HB2 := Lib.hid (And.intro (HB.out.1.trans hb1.1) (HB.out.2.trans hb1.2)); clear k0 k1 k2 k3 k4 k5 k6 hk HB hw; have hk := hk2; have HB := HB2; have hw := Lib.hid hw1; clear hk2 HB2 hw1 hb1; obtain ⟨k0, k1, k2, k3, k4, k5, k6⟩ := Bk7 hk.out))
  go_end0
  rw [HE.out]
  exact ⟨rfl, hw.out.mono (by simp only [sLp_sz, sRp_sz]; omega), HB.out⟩
theorem low7 {b : Nat} {w w1 : World} (hb : Below b w w1) {k o : Nat} (hk : k < b) {o0 o1 o2 o3 o4 o5 o6 : Value}
    (h : w.cell? ⟨k, o, none⟩ = some o0 /\ w.cell? ⟨k, o + 1, none⟩ = some o1 /\ w.cell? ⟨k, o + 2, none⟩ = some o2 /\ w.cell? ⟨k, o + 3, none⟩ = some o3 /\ w.cell? ⟨k, o + 4, none⟩ = some o4 /\ w.cell? ⟨k, o + 5, none⟩ = some o5 /\ w.cell? ⟨k, o + 6, none⟩ = some o6) :
    w1.cell? ⟨k, o, none⟩ = some o0 /\ w1.cell? ⟨k, o + 1, none⟩ = some o1 /\ w1.cell? ⟨k, o + 2, none⟩ = some o2 /\ w1.cell? ⟨k, o + 3, none⟩ = some o3 /\ w1.cell? ⟨k, o + 4, none⟩ = some o4 /\ w1.cell? ⟨k, o + 5, none⟩ = some o5 /\ w1.cell? ⟨k, o + 6, none⟩ = some o6 := by
  simp only [lowcell hb hk]; exact h
theorem mxc : mx = 9223372036854775807 := rfl
def ValW : Prop := ∀ (v : Vl) (b m : Nat) (t : List Tk) (bd : Bool) (w : World), v.s.size <= mx -> WrAt b m t bd w -> m + 2100 <= bigM ->
  Calls Tryz.prog 143 #[wp' b, v.v] w (WS b (m + 2100) (t ++ cstTk v) (bd || !constB v) w)
theorem list148 (n : Nat) (ih : ExprW n) (l : List Ex) (v : Value) (b m : Nat) (t : List Tk) (bd : Bool) (w : World) (hn : wtL l <= n) (hl : ExsAt (· < b) w l v) (h : WrAt b m t bd w) (hm : m + 2200 * szL l <= bigM) :
    Calls Tryz.prog 148 #[wp' b, v] w (WS b (m + 2200 * szL l) (t ++ tksL l) (bd || badL l) w) := by
  obtain ⟨a, c, rfl⟩ := hl.shape
  have hlen : l.length <= 9223372036854775807 := hl.1
  have HL := Lib.hid hl
  have H := Lib.hid h
  have HM := Lib.hid hm
  clear hl h hm
  go_enter Tryz.func148, Tryz.ntmps148
  go_wp2
  go_loopg [4] l.length (fun g s8 wr => ∃ k : Nat, k <= l.length /\ l.length - k <= g /\ s8 = .int .i64 k /\ WrAt b (m + 2200 * szL (l.take k)) (t ++ tksL (l.take k)) (bd || badL (l.take k)) wr /\ Below b w wr /\ Fw b w wr)
  case atStart => exact ⟨0, Nat.zero_le _, by omega, rfl, by simpa [szL, tksL, badL] using H.out, Below.refl _ _, Fw.refl _ _⟩
  case round =>
    obtain ⟨k, hk, hg, rfl, hw, hb⟩ := hrel
    have HW := Lib.hid hw
    have HB := Lib.hid hb
    clear hw hb
    by_cases hlt : k < l.length
    · obtain ⟨b', o, yo, ys, yk, yn, yt, yp, yl, pa', pc', la', lc', rfl, hN, hblt, hy, EE, hx⟩ := HL.out.elem hlt
      have EE := Lib.hid EE
      obtain ⟨k0, k1, k2, k3, k4, k5, k6⟩ := low7 HB.out.1 hN EE.out
      have HX := Lib.hid hx
      have E1 := Lib.hid (szL_take l k hlt)
      have E2 := Lib.hid (tksL_take l k hlt)
      have E3 := Lib.hid (badL_take l k hlt)
      have E4 := Lib.hid (szL_take_le l (k + 1))
      have hw1 : wt l[k] <= wtL l := wt_mem (List.getElem_mem hlt)
      rw [hy] at E1 E2 E3 hw1
      have C := cost_eq (.mk yo ys ⟨yk, yn, yt⟩ yp yl)
      clear hx hy
      go_wp2_with (first
        | (go_at_call 231; refine (comma231 b _ _ _ k _ HW.out (by have := E1.out; have := E4.out; have := HM.out; omega)).mono ?_; rintro e w1 ⟨rfl, hw1, hb1⟩; clear k0 k1 k2 k3 k4 k5 k6; obtain ⟨k0, k1, k2, k3, k4, k5, k6⟩ := low7 (HB.out.1.trans hb1.1) hN EE.out)
        | (go_at_call 79; refine (ih (.mk yo ys ⟨yk, yn, yt⟩ yp yl) _ b _ _ _ _ (by omega) (ExAt.keep (.of_low (HB.out.1.trans hb1.1)) HX.out) hw1 (by have := E1.out; have := E4.out; have := HM.out; omega)).mono ?_; rintro e w2 ⟨rfl, hw2, hb2⟩))
      go_roundg (l.length - (k + 1))
      case measure => omega
      case rel =>
        refine ⟨k + 1, by omega, by omega, by go_num, ?_, HB.out.1.trans (hb1.1.trans hb2.1), HB.out.2.trans (hb1.2.trans hb2.2)⟩
        rw [E2.out, E3.out, <- Bool.or_assoc, <- List.append_assoc, <- List.append_assoc]
        exact hw2.mono (by have := E1.out; omega)
    · have hkl : k = l.length := by omega
      subst hkl
      have HW2 := HW.out
      rw [List.take_length] at HW2
      go_wp2
      go_end0
      exact ⟨rfl, HW2, HB.out⟩
theorem operand150 (n : Nat) (ih : ExprW n) (x : Ex) (u : Value) (b m : Nat) (t : List Tk) (bd : Bool) (w : World) (hn : wt x <= n) (hx : ExAt (· < b) w x u) (h : WrAt b m t bd w) (hm : m + 2200 * sz x <= bigM) :
    Calls Tryz.prog 150 #[wp' b, u] w (WS b (m + 2200 * sz x) (t ++ opd x (tks x)) (bd || bad x) w) := by
  have C := cost_eq x
  obtain ⟨op, s, v, p, l⟩ := x
  by_cases ho : op = 4
  · subst ho
    obtain ⟨pa, pc, la, lc, rfl, hs, hvs, hp, hl⟩ := hx.parts
    obtain ⟨vk, vn, vs⟩ := v
    have hlt := h.lt
    have HX := Lib.hid hx
    have hw := Lib.hid (h.alloc (.cells #[.int .i64 4, .string s, .int .i64 vk, .int .i64 vn, .string vs, .slice pa p.length pc, .slice la l.length lc] 55))
    have hk := Lib.hid (Bk.new w 55 #[.int .i64 4, .string s, .int .i64 vk, .int .i64 vn, .string vs, .slice pa p.length pc, .slice la l.length lc])
    have HB := Lib.hid (And.intro (below_low (w := w) (.cells #[.int .i64 4, .string s, .int .i64 vk, .int .i64 vn, .string vs, .slice pa p.length pc, .slice la l.length lc] 55) (Nat.le_of_lt hlt)) ((Fw.refl b w).alloc (.cells #[.int .i64 4, .string s, .int .i64 vk, .int .i64 vn, .string vs, .slice pa p.length pc, .slice la l.length lc] 55)))
    obtain ⟨k0, k1, k2, k3, k4, k5, k6⟩ := Bk7 hk.out
    go_enter Tryz.func150, Tryz.ntmps150
    go_wp2_with (first
      | (go_at_call 147; refine (closed147 n ih (.mk 4 s ⟨vk, vn, vs⟩ p l) _ b _ _ _ _ hn (ExAt.keep (.of_low HB.out.1) HX.out) hw.out (by omega)).mono ?_; rintro e w1 ⟨rfl, hw1, hb1⟩; have hk2 := Lib.hid (hk.out.fw hb1.2 (Nat.ne_of_gt hlt) (by decide)); have HB2 := Lib.hid (And.intro (HB.out.1.trans hb1.1) (HB.out.2.trans hb1.2)); clear k0 k1 k2 k3 k4 k5 k6  hk HB hw; have hk := hk2; have HB := HB2; have hw := Lib.hid hw1; clear hk2 HB2 hw1 hb1; obtain ⟨k0, k1, k2, k3, k4, k5, k6⟩ := Bk7 hk.out))
    go_end0
    exact ⟨rfl, hw.out.mono (by omega), HB.out⟩
  have hno4 := ho
  clear ho
  by_cases ho : op = 5
  · subst ho
    obtain ⟨pa, pc, la, lc, rfl, hs, hvs, hp, hl⟩ := hx.parts
    obtain ⟨vk, vn, vs⟩ := v
    have hlt := h.lt
    have HX := Lib.hid hx
    have hw := Lib.hid (h.alloc (.cells #[.int .i64 5, .string s, .int .i64 vk, .int .i64 vn, .string vs, .slice pa p.length pc, .slice la l.length lc] 55))
    have hk := Lib.hid (Bk.new w 55 #[.int .i64 5, .string s, .int .i64 vk, .int .i64 vn, .string vs, .slice pa p.length pc, .slice la l.length lc])
    have HB := Lib.hid (And.intro (below_low (w := w) (.cells #[.int .i64 5, .string s, .int .i64 vk, .int .i64 vn, .string vs, .slice pa p.length pc, .slice la l.length lc] 55) (Nat.le_of_lt hlt)) ((Fw.refl b w).alloc (.cells #[.int .i64 5, .string s, .int .i64 vk, .int .i64 vn, .string vs, .slice pa p.length pc, .slice la l.length lc] 55)))
    obtain ⟨k0, k1, k2, k3, k4, k5, k6⟩ := Bk7 hk.out
    go_enter Tryz.func150, Tryz.ntmps150
    go_wp2_with (first
      | (go_at_call 147; refine (closed147 n ih (.mk 5 s ⟨vk, vn, vs⟩ p l) _ b _ _ _ _ hn (ExAt.keep (.of_low HB.out.1) HX.out) hw.out (by omega)).mono ?_; rintro e w1 ⟨rfl, hw1, hb1⟩; have hk2 := Lib.hid (hk.out.fw hb1.2 (Nat.ne_of_gt hlt) (by decide)); have HB2 := Lib.hid (And.intro (HB.out.1.trans hb1.1) (HB.out.2.trans hb1.2)); clear k0 k1 k2 k3 k4 k5 k6  hk HB hw; have hk := hk2; have HB := HB2; have hw := Lib.hid hw1; clear hk2 HB2 hw1 hb1; obtain ⟨k0, k1, k2, k3, k4, k5, k6⟩ := Bk7 hk.out))
    go_end0
    exact ⟨rfl, hw.out.mono (by omega), HB.out⟩
  have hno5 := ho
  clear ho
  obtain ⟨pa, pc, la, lc, rfl, hs, hvs, hp, hl⟩ := hx.parts
  obtain ⟨vk, vn, vs⟩ := v
  have hlt := h.lt
  have HX := Lib.hid hx
  have hw := Lib.hid (h.alloc (.cells #[.int .i64 op, .string s, .int .i64 vk, .int .i64 vn, .string vs, .slice pa p.length pc, .slice la l.length lc] 55))
  have hk := Lib.hid (Bk.new w 55 #[.int .i64 op, .string s, .int .i64 vk, .int .i64 vn, .string vs, .slice pa p.length pc, .slice la l.length lc])
  have HB := Lib.hid (And.intro (below_low (w := w) (.cells #[.int .i64 op, .string s, .int .i64 vk, .int .i64 vn, .string vs, .slice pa p.length pc, .slice la l.length lc] 55) (Nat.le_of_lt hlt)) ((Fw.refl b w).alloc (.cells #[.int .i64 op, .string s, .int .i64 vk, .int .i64 vn, .string vs, .slice pa p.length pc, .slice la l.length lc] 55)))
  obtain ⟨k0, k1, k2, k3, k4, k5, k6⟩ := Bk7 hk.out
  have HO : Hid (opd (.mk op s ⟨vk, vn, vs⟩ p l) (tks (.mk op s ⟨vk, vn, vs⟩ p l)) = tks (.mk op s ⟨vk, vn, vs⟩ p l)) := Lib.hid (by simp [opd, Ex.op, hno4, hno5])
  go_enter Tryz.func150, Tryz.ntmps150
  go_wp2_with (first
    | (go_at_call 79; refine (ih (.mk op s ⟨vk, vn, vs⟩ p l) _ b _ _ _ _ hn (ExAt.keep (.of_low HB.out.1) HX.out) hw.out (by omega)).mono ?_; rintro e w1 ⟨rfl, hw1, hb1⟩; have hk2 := Lib.hid (hk.out.fw hb1.2 (Nat.ne_of_gt hlt) (by decide)); have HB2 := Lib.hid (And.intro (HB.out.1.trans hb1.1) (HB.out.2.trans hb1.2)); clear k0 k1 k2 k3 k4 k5 k6  hk HB hw; have hk := hk2; have HB := HB2; have hw := Lib.hid hw1; clear hk2 HB2 hw1 hb1; obtain ⟨k0, k1, k2, k3, k4, k5, k6⟩ := Bk7 hk.out))
  all_goals first
    | (exfalso; have hc : (op != 4) = false \/ (op != 5) = false := by assumption
       simp [hno4, hno5] at hc; done)
    | (exfalso; omega)
    | (go_end0
       rw [HO.out]
       exact ⟨rfl, hw.out.mono (by omega), HB.out⟩)
    | trace_state
theorem tks_0 (s : ByteArray) (v : Vl) (p : List ByteArray) (l : List Ex) : tks (.mk 0 s v p l) = cstTk v := by
  conv => lhs; unfold tks
  try simp
theorem bad_0 (s : ByteArray) (v : Vl) (p : List ByteArray) (l : List Ex) : bad (.mk 0 s v p l) = (!constB v) := by
  conv => lhs; unfold bad
  try simp
theorem tks_1 (s : ByteArray) (v : Vl) (p : List ByteArray) (l : List Ex) : tks (.mk 1 s v p l) = [W s] := by
  conv => lhs; unfold tks
  try simp
theorem bad_1 (s : ByteArray) (v : Vl) (p : List ByteArray) (l : List Ex) : bad (.mk 1 s v p l) = (!nameB s) := by
  conv => lhs; unfold bad
  try simp
theorem tks_3 (s : ByteArray) (v : Vl) (p : List ByteArray) (l : List Ex) : tks (.mk 3 s v p l) = W s :: S sLp :: (tksL l ++ [S sRp]) := by
  conv => lhs; unfold tks
  try simp
theorem bad_3 (s : ByteArray) (v : Vl) (p : List ByteArray) (l : List Ex) : bad (.mk 3 s v p l) = (!nameB s || badL l) := by
  conv => lhs; unfold bad
  try simp
theorem tks_2_1 (s : ByteArray) (v : Vl) (p : List ByteArray) (x1 : Ex) : tks (.mk 2 s v p [x1]) = W s :: S sArrow :: (if x1.op = 1 then [W x1.s] else S sLp :: (tks x1 ++ [S sRp])) := by
  conv => lhs; unfold tks
  try simp
theorem bad_2_1 (s : ByteArray) (v : Vl) (p : List ByteArray) (x1 : Ex) : bad (.mk 2 s v p [x1]) = (!nameB s || (if x1.op = 1 then !nameB x1.s else bad x1)) := by
  conv => lhs; unfold bad
  try simp
theorem tks_4_1 (s : ByteArray) (v : Vl) (p : List ByteArray) (x1 : Ex) : tks (.mk 4 s v p [x1]) = S s :: opd x1 (tks x1) := by
  conv => lhs; unfold tks
  try simp
theorem bad_4_1 (s : ByteArray) (v : Vl) (p : List ByteArray) (x1 : Ex) : bad (.mk 4 s v p [x1]) = (bad x1) := by
  conv => lhs; unfold bad
  try simp
theorem tks_5_2 (s : ByteArray) (v : Vl) (p : List ByteArray) (x1 x2 : Ex) : tks (.mk 5 s v p [x1, x2]) = opd x1 (tks x1) ++ S s :: opd x2 (tks x2) := by
  conv => lhs; unfold tks
  try simp
theorem bad_5_2 (s : ByteArray) (v : Vl) (p : List ByteArray) (x1 x2 : Ex) : bad (.mk 5 s v p [x1, x2]) = (bad x1 || bad x2) := by
  conv => lhs; unfold bad
  try simp
theorem tks_6_2 (s : ByteArray) (v : Vl) (p : List ByteArray) (x1 x2 : Ex) : tks (.mk 6 s v p [x1, x2]) = opd x1 (tks x1) ++ S sLb :: (tks x2 ++ [S sRb]) := by
  conv => lhs; unfold tks
  try simp
theorem bad_6_2 (s : ByteArray) (v : Vl) (p : List ByteArray) (x1 x2 : Ex) : bad (.mk 6 s v p [x1, x2]) = (bad x1 || bad x2) := by
  conv => lhs; unfold bad
  try simp
theorem tks_7 (s : ByteArray) (v : Vl) (p : List ByteArray) (l : List Ex) : tks (.mk 7 s v p l) = S sLc :: (tksL l ++ [S sRc]) := by
  conv => lhs; unfold tks
  try simp
theorem bad_7 (s : ByteArray) (v : Vl) (p : List ByteArray) (l : List Ex) : bad (.mk 7 s v p l) = (badL l) := by
  conv => lhs; unfold bad
  try simp
theorem tks_8_1 (s : ByteArray) (v : Vl) (p : List ByteArray) (x1 : Ex) : tks (.mk 8 s v p [x1]) = S sLc :: S sBar :: (nmTks p ++ S sBar :: (tks x1 ++ [S sRc])) := by
  conv => lhs; unfold tks
  try simp
theorem bad_8_1 (s : ByteArray) (v : Vl) (p : List ByteArray) (x1 : Ex) : bad (.mk 8 s v p [x1]) = (!p.all nameB || bad x1) := by
  conv => lhs; unfold bad
  try simp
theorem tks_9_1 (s : ByteArray) (v : Vl) (p : List ByteArray) (x1 : Ex) : tks (.mk 9 s v p [x1]) = S sAmp :: S sLp :: (tks x1 ++ [S sRp]) := by
  conv => lhs; unfold tks
  try simp
theorem bad_9_1 (s : ByteArray) (v : Vl) (p : List ByteArray) (x1 : Ex) : bad (.mk 9 s v p [x1]) = (bad x1) := by
  conv => lhs; unfold bad
  try simp
theorem tks_10 (s : ByteArray) (v : Vl) (p : List ByteArray) (l : List Ex) : tks (.mk 10 s v p l) = [S sAt, W s] := by
  conv => lhs; unfold tks
  try simp
theorem bad_10 (s : ByteArray) (v : Vl) (p : List ByteArray) (l : List Ex) : bad (.mk 10 s v p l) = (!nameB s) := by
  conv => lhs; unfold bad
  try simp
theorem tksb_2 (s : ByteArray) (v : Vl) (p : List ByteArray) (l : List Ex) (h : l.length ≠ 1) : tks (.mk 2 s v p l) = [] /\ bad (.mk 2 s v p l) = true := by
  constructor
  · conv => lhs; unfold tks
    simp only [Int.reduceEq, if_false, if_true, Bool.or_self, Bool.false_eq_true, decide_false, decide_true, Bool.or_false, Bool.or_true, Bool.false_or, Bool.true_or, reduceCtorEq, ite_false, ite_true]
    split
    · exact absurd rfl h
    · rfl
  · conv => lhs; unfold bad
    simp only [Int.reduceEq, if_false, if_true, Bool.or_self, Bool.false_eq_true, decide_false, decide_true, Bool.or_false, Bool.or_true, Bool.false_or, Bool.true_or, reduceCtorEq, ite_false, ite_true]
    split
    · exact absurd rfl h
    · rfl
theorem tksb_4 (s : ByteArray) (v : Vl) (p : List ByteArray) (l : List Ex) (h : l.length ≠ 1) : tks (.mk 4 s v p l) = [] /\ bad (.mk 4 s v p l) = true := by
  constructor
  · conv => lhs; unfold tks
    simp only [Int.reduceEq, if_false, if_true, Bool.or_self, Bool.false_eq_true, decide_false, decide_true, Bool.or_false, Bool.or_true, Bool.false_or, Bool.true_or, reduceCtorEq, ite_false, ite_true]
    split
    · exact absurd rfl h
    · rfl
  · conv => lhs; unfold bad
    simp only [Int.reduceEq, if_false, if_true, Bool.or_self, Bool.false_eq_true, decide_false, decide_true, Bool.or_false, Bool.or_true, Bool.false_or, Bool.true_or, reduceCtorEq, ite_false, ite_true]
    split
    · exact absurd rfl h
    · rfl
theorem tksb_5 (s : ByteArray) (v : Vl) (p : List ByteArray) (l : List Ex) (h : l.length ≠ 2) : tks (.mk 5 s v p l) = [] /\ bad (.mk 5 s v p l) = true := by
  constructor
  · conv => lhs; unfold tks
    simp only [Int.reduceEq, if_false, if_true, Bool.or_self, Bool.false_eq_true, decide_false, decide_true, Bool.or_false, Bool.or_true, Bool.false_or, Bool.true_or, reduceCtorEq, ite_false, ite_true]
    split
    · exact absurd rfl h
    · rfl
  · conv => lhs; unfold bad
    simp only [Int.reduceEq, if_false, if_true, Bool.or_self, Bool.false_eq_true, decide_false, decide_true, Bool.or_false, Bool.or_true, Bool.false_or, Bool.true_or, reduceCtorEq, ite_false, ite_true]
    split
    · exact absurd rfl h
    · rfl
theorem tksb_6 (s : ByteArray) (v : Vl) (p : List ByteArray) (l : List Ex) (h : l.length ≠ 2) : tks (.mk 6 s v p l) = [] /\ bad (.mk 6 s v p l) = true := by
  constructor
  · conv => lhs; unfold tks
    simp only [Int.reduceEq, if_false, if_true, Bool.or_self, Bool.false_eq_true, decide_false, decide_true, Bool.or_false, Bool.or_true, Bool.false_or, Bool.true_or, reduceCtorEq, ite_false, ite_true]
    split
    · exact absurd rfl h
    · rfl
  · conv => lhs; unfold bad
    simp only [Int.reduceEq, if_false, if_true, Bool.or_self, Bool.false_eq_true, decide_false, decide_true, Bool.or_false, Bool.or_true, Bool.false_or, Bool.true_or, reduceCtorEq, ite_false, ite_true]
    split
    · exact absurd rfl h
    · rfl
theorem tksb_8 (s : ByteArray) (v : Vl) (p : List ByteArray) (l : List Ex) (h : l.length ≠ 1) : tks (.mk 8 s v p l) = [] /\ bad (.mk 8 s v p l) = true := by
  constructor
  · conv => lhs; unfold tks
    simp only [Int.reduceEq, if_false, if_true, Bool.or_self, Bool.false_eq_true, decide_false, decide_true, Bool.or_false, Bool.or_true, Bool.false_or, Bool.true_or, reduceCtorEq, ite_false, ite_true]
    split
    · exact absurd rfl h
    · rfl
  · conv => lhs; unfold bad
    simp only [Int.reduceEq, if_false, if_true, Bool.or_self, Bool.false_eq_true, decide_false, decide_true, Bool.or_false, Bool.or_true, Bool.false_or, Bool.true_or, reduceCtorEq, ite_false, ite_true]
    split
    · exact absurd rfl h
    · rfl
theorem w79_0 (V : ValW) (n : Nat) (ih : ExprW n) (s : ByteArray) (v : Vl) (p : List ByteArray) (l : List Ex) (u : Value) (b m : Nat) (t : List Tk) (bd : Bool) (w : World) (hnl : wtL l <= n) (hx : ExAt (· < b) w (.mk 0 s v p l) u) (h : WrAt b m t bd w) (hm : m + cost (.mk 0 s v p l) <= bigM) :
    Calls Tryz.prog 79 #[wp' b, u] w (WS b (m + cost (.mk 0 s v p l)) (t ++ tks (.mk 0 s v p l)) (bd || bad (.mk 0 s v p l)) w) := by
  have C0 := cost_eq (.mk 0 s v p l)
  obtain ⟨pa, pc, la, lc, hu, hs, hvs, hp, hl⟩ := hx.parts
  obtain ⟨vk, vn, vs⟩ := v
  have hs : s.size <= 9223372036854775807 := hs
  have hvs : vs.size <= 9223372036854775807 := hvs
  have hll : l.length <= 9223372036854775807 := hl.1
  simp only [sz] at C0
  subst hu
  have hlt := h.lt
  have HX := Lib.hid hx
  have HP := Lib.hid hp
  have HL := Lib.hid hl
  have hw := Lib.hid (h.alloc (.cells #[.int .i64 0, .string s, .int .i64 vk, .int .i64 vn, .string vs, .slice pa p.length pc, .slice la l.length lc] 55))
  have hk := Lib.hid (Bk.new w 55 #[.int .i64 0, .string s, .int .i64 vk, .int .i64 vn, .string vs, .slice pa p.length pc, .slice la l.length lc])
  have HB := Lib.hid (And.intro (below_low (w := w) (.cells #[.int .i64 0, .string s, .int .i64 vk, .int .i64 vn, .string vs, .slice pa p.length pc, .slice la l.length lc] 55) (Nat.le_of_lt hlt)) ((Fw.refl b w).alloc (.cells #[.int .i64 0, .string s, .int .i64 vk, .int .i64 vn, .string vs, .slice pa p.length pc, .slice la l.length lc] 55)))
  obtain ⟨k0, k1, k2, k3, k4, k5, k6⟩ := Bk7 hk.out
  go_enter Tryz.func79, Tryz.ntmps79
  go_wp2_with (first
    | (go_at_call 143; refine (V ⟨vk, vn, vs⟩ b _ _ _ _ hvs hw.out (by first | omega | (simp only [sLp_sz, sRp_sz, sLc_sz, sRc_sz, sLb_sz, sRb_sz, sBar_sz, sAmp_sz, sDot_sz, sAt_sz, sArrow_sz, mxc]; omega))).mono ?_; rintro e w1 ⟨rfl, hw1, hb1⟩; have hk2 := Lib.hid (hk.out.fw hb1.2 (Nat.ne_of_gt hlt) (by decide)); have HB2 := Lib.hid (And.intro (HB.out.1.trans hb1.1) (HB.out.2.trans hb1.2)); clear k0 k1 k2 k3 k4 k5 k6  hk HB hw; have hk := hk2; have HB := HB2; have hw := Lib.hid hw1; clear hk2 HB2 hw1 hb1; obtain ⟨k0, k1, k2, k3, k4, k5, k6⟩ := Bk7 hk.out))
  all_goals
    go_end0
    refine ⟨rfl, ?_, HB.out⟩
    have hf := hw.out.mono (m' := m + cost (.mk 0 s ⟨vk, vn, vs⟩ p l)) (by first | omega | (simp only [sLp_sz, sRp_sz, sLc_sz, sRc_sz, sLb_sz, sRb_sz, sBar_sz, sAmp_sz, sDot_sz, sAt_sz, sArrow_sz, mxc]; omega))
    rw [tks_0, bad_0]
    simpa [Bool.or_assoc] using hf
theorem w79_1 (V : ValW) (n : Nat) (ih : ExprW n) (s : ByteArray) (v : Vl) (p : List ByteArray) (l : List Ex) (u : Value) (b m : Nat) (t : List Tk) (bd : Bool) (w : World) (hnl : wtL l <= n) (hx : ExAt (· < b) w (.mk 1 s v p l) u) (h : WrAt b m t bd w) (hm : m + cost (.mk 1 s v p l) <= bigM) :
    Calls Tryz.prog 79 #[wp' b, u] w (WS b (m + cost (.mk 1 s v p l)) (t ++ tks (.mk 1 s v p l)) (bd || bad (.mk 1 s v p l)) w) := by
  have C0 := cost_eq (.mk 1 s v p l)
  obtain ⟨pa, pc, la, lc, hu, hs, hvs, hp, hl⟩ := hx.parts
  obtain ⟨vk, vn, vs⟩ := v
  have hs : s.size <= 9223372036854775807 := hs
  have hvs : vs.size <= 9223372036854775807 := hvs
  have hll : l.length <= 9223372036854775807 := hl.1
  simp only [sz] at C0
  subst hu
  have hlt := h.lt
  have HX := Lib.hid hx
  have HP := Lib.hid hp
  have HL := Lib.hid hl
  have hw := Lib.hid (h.alloc (.cells #[.int .i64 1, .string s, .int .i64 vk, .int .i64 vn, .string vs, .slice pa p.length pc, .slice la l.length lc] 55))
  have hk := Lib.hid (Bk.new w 55 #[.int .i64 1, .string s, .int .i64 vk, .int .i64 vn, .string vs, .slice pa p.length pc, .slice la l.length lc])
  have HB := Lib.hid (And.intro (below_low (w := w) (.cells #[.int .i64 1, .string s, .int .i64 vk, .int .i64 vn, .string vs, .slice pa p.length pc, .slice la l.length lc] 55) (Nat.le_of_lt hlt)) ((Fw.refl b w).alloc (.cells #[.int .i64 1, .string s, .int .i64 vk, .int .i64 vn, .string vs, .slice pa p.length pc, .slice la l.length lc] 55)))
  obtain ⟨k0, k1, k2, k3, k4, k5, k6⟩ := Bk7 hk.out
  go_enter Tryz.func79, Tryz.ntmps79
  go_wp2_with (first
    | (go_at_call 144; (first | (refine (name144 b _ (s.size + 1) _ _ s _ hw.out hs (Nat.le_refl _) (by first | omega | (simp only [sLp_sz, sRp_sz, sLc_sz, sRc_sz, sLb_sz, sRb_sz, sBar_sz, sAmp_sz, sDot_sz, sAt_sz, sArrow_sz, mxc]; omega))).mono ?_)); rintro e w1 ⟨rfl, hw1, hb1⟩; have hk2 := Lib.hid (hk.out.fw hb1.2 (Nat.ne_of_gt hlt) (by decide)); have HB2 := Lib.hid (And.intro (HB.out.1.trans hb1.1) (HB.out.2.trans hb1.2)); clear k0 k1 k2 k3 k4 k5 k6  hk HB hw; have hk := hk2; have HB := HB2; have hw := Lib.hid hw1; clear hk2 HB2 hw1 hb1; obtain ⟨k0, k1, k2, k3, k4, k5, k6⟩ := Bk7 hk.out))
  all_goals
    go_end0
    refine ⟨rfl, ?_, HB.out⟩
    have hf := hw.out.mono (m' := m + cost (.mk 1 s ⟨vk, vn, vs⟩ p l)) (by first | omega | (simp only [sLp_sz, sRp_sz, sLc_sz, sRc_sz, sLb_sz, sRb_sz, sBar_sz, sAmp_sz, sDot_sz, sAt_sz, sArrow_sz, mxc]; omega))
    rw [tks_1, bad_1]
    simpa [Bool.or_assoc] using hf
theorem w79_3 (V : ValW) (n : Nat) (ih : ExprW n) (s : ByteArray) (v : Vl) (p : List ByteArray) (l : List Ex) (u : Value) (b m : Nat) (t : List Tk) (bd : Bool) (w : World) (hnl : wtL l <= n) (hx : ExAt (· < b) w (.mk 3 s v p l) u) (h : WrAt b m t bd w) (hm : m + cost (.mk 3 s v p l) <= bigM) :
    Calls Tryz.prog 79 #[wp' b, u] w (WS b (m + cost (.mk 3 s v p l)) (t ++ tks (.mk 3 s v p l)) (bd || bad (.mk 3 s v p l)) w) := by
  have C0 := cost_eq (.mk 3 s v p l)
  obtain ⟨pa, pc, la, lc, hu, hs, hvs, hp, hl⟩ := hx.parts
  obtain ⟨vk, vn, vs⟩ := v
  have hs : s.size <= 9223372036854775807 := hs
  have hvs : vs.size <= 9223372036854775807 := hvs
  have hll : l.length <= 9223372036854775807 := hl.1
  simp only [sz] at C0
  subst hu
  have hlt := h.lt
  have HX := Lib.hid hx
  have HP := Lib.hid hp
  have HL := Lib.hid hl
  have hw := Lib.hid (h.alloc (.cells #[.int .i64 3, .string s, .int .i64 vk, .int .i64 vn, .string vs, .slice pa p.length pc, .slice la l.length lc] 55))
  have hk := Lib.hid (Bk.new w 55 #[.int .i64 3, .string s, .int .i64 vk, .int .i64 vn, .string vs, .slice pa p.length pc, .slice la l.length lc])
  have HB := Lib.hid (And.intro (below_low (w := w) (.cells #[.int .i64 3, .string s, .int .i64 vk, .int .i64 vn, .string vs, .slice pa p.length pc, .slice la l.length lc] 55) (Nat.le_of_lt hlt)) ((Fw.refl b w).alloc (.cells #[.int .i64 3, .string s, .int .i64 vk, .int .i64 vn, .string vs, .slice pa p.length pc, .slice la l.length lc] 55)))
  obtain ⟨k0, k1, k2, k3, k4, k5, k6⟩ := Bk7 hk.out
  go_enter Tryz.func79, Tryz.ntmps79
  go_wp2_with (first
    | (go_at_call 144; (first | (refine (name144 b _ (s.size + 1) _ _ s _ hw.out hs (Nat.le_refl _) (by first | omega | (simp only [sLp_sz, sRp_sz, sLc_sz, sRc_sz, sLb_sz, sRb_sz, sBar_sz, sAmp_sz, sDot_sz, sAt_sz, sArrow_sz, mxc]; omega))).mono ?_)); rintro e w1 ⟨rfl, hw1, hb1⟩; have hk2 := Lib.hid (hk.out.fw hb1.2 (Nat.ne_of_gt hlt) (by decide)); have HB2 := Lib.hid (And.intro (HB.out.1.trans hb1.1) (HB.out.2.trans hb1.2)); clear k0 k1 k2 k3 k4 k5 k6  hk HB hw; have hk := hk2; have HB := HB2; have hw := Lib.hid hw1; clear hk2 HB2 hw1 hb1; obtain ⟨k0, k1, k2, k3, k4, k5, k6⟩ := Bk7 hk.out)
    | (go_at_call 146; (first | (refine (sign146 b _ (sLp.size + 1) _ _ sLp _ hw.out (Nat.le_refl _) (by first | omega | (simp only [sLp_sz, sRp_sz, sLc_sz, sRc_sz, sLb_sz, sRb_sz, sBar_sz, sAmp_sz, sDot_sz, sAt_sz, sArrow_sz, mxc]; omega))).mono ?_) | (refine (sign146 b _ (sRp.size + 1) _ _ sRp _ hw.out (Nat.le_refl _) (by first | omega | (simp only [sLp_sz, sRp_sz, sLc_sz, sRc_sz, sLb_sz, sRb_sz, sBar_sz, sAmp_sz, sDot_sz, sAt_sz, sArrow_sz, mxc]; omega))).mono ?_)); rintro e w1 ⟨rfl, hw1, hb1⟩; have hk2 := Lib.hid (hk.out.fw hb1.2 (Nat.ne_of_gt hlt) (by decide)); have HB2 := Lib.hid (And.intro (HB.out.1.trans hb1.1) (HB.out.2.trans hb1.2)); clear k0 k1 k2 k3 k4 k5 k6  hk HB hw; have hk := hk2; have HB := HB2; have hw := Lib.hid hw1; clear hk2 HB2 hw1 hb1; obtain ⟨k0, k1, k2, k3, k4, k5, k6⟩ := Bk7 hk.out)
    | (go_at_call 148; refine (list148 n ih l _ b _ _ _ _ hnl (ExsAt.keep HL.out (.of_low HB.out.1)) hw.out (by first | omega | (simp only [sLp_sz, sRp_sz, sLc_sz, sRc_sz, sLb_sz, sRb_sz, sBar_sz, sAmp_sz, sDot_sz, sAt_sz, sArrow_sz, mxc]; omega))).mono ?_; rintro e w1 ⟨rfl, hw1, hb1⟩; have hk2 := Lib.hid (hk.out.fw hb1.2 (Nat.ne_of_gt hlt) (by decide)); have HB2 := Lib.hid (And.intro (HB.out.1.trans hb1.1) (HB.out.2.trans hb1.2)); clear k0 k1 k2 k3 k4 k5 k6  hk HB hw; have hk := hk2; have HB := HB2; have hw := Lib.hid hw1; clear hk2 HB2 hw1 hb1; obtain ⟨k0, k1, k2, k3, k4, k5, k6⟩ := Bk7 hk.out))
  all_goals
    go_end0
    refine ⟨rfl, ?_, HB.out⟩
    have hf := hw.out.mono (m' := m + cost (.mk 3 s ⟨vk, vn, vs⟩ p l)) (by first | omega | (simp only [sLp_sz, sRp_sz, sLc_sz, sRc_sz, sLb_sz, sRb_sz, sBar_sz, sAmp_sz, sDot_sz, sAt_sz, sArrow_sz, mxc]; omega))
    rw [tks_3, bad_3]
    simpa [Bool.or_assoc] using hf
theorem w79_2b (V : ValW) (n : Nat) (ih : ExprW n) (s : ByteArray) (v : Vl) (p : List ByteArray) (l : List Ex) (u : Value) (b m : Nat) (t : List Tk) (bd : Bool) (w : World) (hnl : wtL l <= n) (hlen : l.length ≠ 1) (hx : ExAt (· < b) w (.mk 2 s v p l) u) (h : WrAt b m t bd w) (hm : m + cost (.mk 2 s v p l) <= bigM) :
    Calls Tryz.prog 79 #[wp' b, u] w (WS b (m + cost (.mk 2 s v p l)) (t ++ tks (.mk 2 s v p l)) (bd || bad (.mk 2 s v p l)) w) := by
  have C0 := cost_eq (.mk 2 s v p l)
  obtain ⟨pa, pc, la, lc, hu, hs, hvs, hp, hl⟩ := hx.parts
  obtain ⟨vk, vn, vs⟩ := v
  have hs : s.size <= 9223372036854775807 := hs
  have hvs : vs.size <= 9223372036854775807 := hvs
  have hll : l.length <= 9223372036854775807 := hl.1
  simp only [sz] at C0
  subst hu
  have hlt := h.lt
  have HX := Lib.hid hx
  have HP := Lib.hid hp
  have HL := Lib.hid hl
  have hw := Lib.hid (h.alloc (.cells #[.int .i64 2, .string s, .int .i64 vk, .int .i64 vn, .string vs, .slice pa p.length pc, .slice la l.length lc] 55))
  have hk := Lib.hid (Bk.new w 55 #[.int .i64 2, .string s, .int .i64 vk, .int .i64 vn, .string vs, .slice pa p.length pc, .slice la l.length lc])
  have HB := Lib.hid (And.intro (below_low (w := w) (.cells #[.int .i64 2, .string s, .int .i64 vk, .int .i64 vn, .string vs, .slice pa p.length pc, .slice la l.length lc] 55) (Nat.le_of_lt hlt)) ((Fw.refl b w).alloc (.cells #[.int .i64 2, .string s, .int .i64 vk, .int .i64 vn, .string vs, .slice pa p.length pc, .slice la l.length lc] 55)))
  obtain ⟨k0, k1, k2, k3, k4, k5, k6⟩ := Bk7 hk.out
  have hlk1 : decide (l.length = 1) = false := decide_eq_false hlen
  have hlk2 : decide (l.length ≠ 1) = true := decide_eq_true hlen
  go_enter Tryz.func79, Tryz.ntmps79
  go_wp2_with (first
    | (go_at_call 145; refine (has145 b _ _ _ l.length 1 _ hw.out).mono ?_; rw [hlk1, hlk2]; rintro e w1 ⟨rfl, hw1, hb1⟩; have hk2 := Lib.hid (hk.out.fw hb1.2 (Nat.ne_of_gt hlt) (by decide)); have HB2 := Lib.hid (And.intro (HB.out.1.trans hb1.1) (HB.out.2.trans hb1.2)); clear k0 k1 k2 k3 k4 k5 k6  hk HB hw; have hk := hk2; have HB := HB2; have hw := Lib.hid hw1; clear hk2 HB2 hw1 hb1; obtain ⟨k0, k1, k2, k3, k4, k5, k6⟩ := Bk7 hk.out))
  all_goals
    go_end0
    refine ⟨rfl, ?_, HB.out⟩
    have hf := hw.out.mono (m' := m + cost (.mk 2 s ⟨vk, vn, vs⟩ p l)) (by first | omega | (simp only [sLp_sz, sRp_sz, sLc_sz, sRc_sz, sLb_sz, sRb_sz, sBar_sz, sAmp_sz, sDot_sz, sAt_sz, sArrow_sz, mxc]; omega))
    rw [(tksb_2 s ⟨vk, vn, vs⟩ p l hlen).1, (tksb_2 s ⟨vk, vn, vs⟩ p l hlen).2]
    simpa using hf
end Go.Proofs.YtdmepghoffhphaaGreatDoor
