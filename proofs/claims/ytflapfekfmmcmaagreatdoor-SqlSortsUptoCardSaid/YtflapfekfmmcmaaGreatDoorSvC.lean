/- PROVED: contracts of the functions that SqlSorts reaches, and what a stable sort is (part SvC). CONDITIONS: none. -/
import Derived.Test.YtflapfekfmmcmaaGreatDoorSvB
set_option linter.unusedSimpArgs false
set_option linter.unusedVariables false
set_option linter.unusedVariables false
namespace Go.Proofs.YtflapfekfmmcmaaGreatDoor
namespace Srt
/-- A strict weak order. -/
structure Swo (lt : Nat → Nat → Bool) : Prop where
  irr : ∀ x, lt x x = false
  tr : ∀ x y z, lt x y = true → lt y z = true → lt x z = true
  neg : ∀ x y z, lt x z = true → lt x y = true ∨ lt y z = true
/-- The stable order: where neither comes first, the lesser tag does. -/
def L (lt : Nat → Nat → Bool) (x y : Nat) : Prop := lt x y = true ∨ (lt y x = false ∧ x < y)
variable {lt : Nat → Nat → Bool}
theorem L.irr (h : Swo lt) {x : Nat} (hx : L lt x x) : False := by
  rcases hx with hx | ⟨_, hx⟩
  · rw [h.irr] at hx; cases hx
  · omega
theorem L.trans (h : Swo lt) {x y z : Nat} (h1 : L lt x y) (h2 : L lt y z) : L lt x z := by
  rcases h1 with h1 | ⟨h1, t1⟩ <;> rcases h2 with h2 | ⟨h2, t2⟩
  · exact .inl (h.tr _ _ _ h1 h2)
  · rcases h.neg x z y h1 with h3 | h3
    · exact .inl h3
    · rw [h2] at h3; cases h3
  · rcases h.neg y x z h2 with h3 | h3
    · rw [h1] at h3; cases h3
    · exact .inl h3
  · refine .inr ⟨?_, by omega⟩
    cases h3 : lt z x with
    | false => rfl
    | true =>
      rcases h.neg z y x h3 with h4 | h4
      · rw [h2] at h4; cases h4
      · rw [h1] at h4; cases h4
theorem L.total (h : Swo lt) {x y : Nat} (hne : x ≠ y) : L lt x y ∨ L lt y x := by
  cases h1 : lt x y with
  | true => exact .inl (.inl h1)
  | false =>
    cases h2 : lt y x with
    | true => exact .inr (.inl h2)
    | false =>
      rcases Nat.lt_or_gt_of_ne hne with hh | hh
      · exact .inl (.inr ⟨h2, hh⟩)
      · exact .inr (.inr ⟨h1, hh⟩)
/-- g is f with what stands at a..b-1 rearranged. -/
def Same (a b : Nat) (f g : Nat → Nat) : Prop :=
  (∀ i, (i < a ∨ b ≤ i) → g i = f i) ∧ (∀ i, a ≤ i → i < b → ∃ j, a ≤ j ∧ j < b ∧ g i = f j) ∧ (∀ i, a ≤ i → i < b → ∃ j, a ≤ j ∧ j < b ∧ f i = g j)
theorem Same.refl (a b : Nat) (f : Nat → Nat) : Same a b f f := ⟨fun _ _ => rfl, fun i h1 h2 => ⟨i, h1, h2, rfl⟩, fun i h1 h2 => ⟨i, h1, h2, rfl⟩⟩
theorem Same.trans {a b : Nat} {f g k : Nat → Nat} (h1 : Same a b f g) (h2 : Same a b g k) : Same a b f k := by
  refine ⟨fun i hi => (h2.1 i hi).trans (h1.1 i hi), fun i ha hb => ?_, fun i ha hb => ?_⟩
  · obtain ⟨j, j1, j2, e⟩ := h2.2.1 i ha hb
    obtain ⟨q, q1, q2, e2⟩ := h1.2.1 j j1 j2
    exact ⟨q, q1, q2, e.trans e2⟩
  · obtain ⟨j, j1, j2, e⟩ := h1.2.2 i ha hb
    obtain ⟨q, q1, q2, e2⟩ := h2.2.2 j j1 j2
    exact ⟨q, q1, q2, e.trans e2⟩
theorem Same.mono {a b a' b' : Nat} {f g : Nat → Nat} (h : Same a b f g) (ha : a' ≤ a) (hb : b ≤ b') : Same a' b' f g := by
  refine ⟨fun i hi => h.1 i (by omega), fun i h1 h2 => ?_, fun i h1 h2 => ?_⟩
  · by_cases hin : a ≤ i ∧ i < b
    · obtain ⟨j, j1, j2, e⟩ := h.2.1 i hin.1 hin.2
      exact ⟨j, by omega, by omega, e⟩
    · exact ⟨i, h1, h2, h.1 i (by omega)⟩
  · by_cases hin : a ≤ i ∧ i < b
    · obtain ⟨j, j1, j2, e⟩ := h.2.2 i hin.1 hin.2
      exact ⟨j, by omega, by omega, e⟩
    · exact ⟨i, h1, h2, (h.1 i (by omega)).symm⟩
def swap (f : Nat → Nat) (i j : Nat) : Nat → Nat := fun k => if k = i then f j else if k = j then f i else f k
theorem swap_l (f : Nat → Nat) (i j : Nat) : swap f i j i = f j := by simp [swap]
theorem swap_r (f : Nat → Nat) (i j : Nat) : swap f i j j = f i := by
  unfold swap; split
  · rename_i e; rw [e]
  · simp
theorem swap_o (f : Nat → Nat) {i j k : Nat} (h1 : k ≠ i) (h2 : k ≠ j) : swap f i j k = f k := by simp [swap, h1, h2]
theorem same_swap {a b i j : Nat} (f : Nat → Nat) (hi : a ≤ i ∧ i < b) (hj : a ≤ j ∧ j < b) : Same a b f (swap f i j) := by
  refine ⟨fun k hk => swap_o f (by omega) (by omega), fun k h1 h2 => ?_, fun k h1 h2 => ?_⟩
  · by_cases e : k = i
    · subst e; exact ⟨j, hj.1, hj.2, swap_l f _ _⟩
    · by_cases e2 : k = j
      · subst e2; exact ⟨i, hi.1, hi.2, swap_r f _ _⟩
      · exact ⟨k, h1, h2, swap_o f e e2⟩
  · by_cases e : k = i
    · subst e; exact ⟨j, hj.1, hj.2, (swap_r f _ _).symm⟩
    · by_cases e2 : k = j
      · subst e2; exact ⟨i, hi.1, hi.2, (swap_l f _ _).symm⟩
      · exact ⟨k, h1, h2, (swap_o f e e2).symm⟩
def Srtd (lt : Nat → Nat → Bool) (a b : Nat) (f : Nat → Nat) : Prop := ∀ i j, a ≤ i → i < j → j < b → L lt (f i) (f j)
theorem Srtd.congr {a b : Nat} {f g : Nat → Nat} (h : Srtd lt a b f) (e : ∀ i, a ≤ i → i < b → g i = f i) : Srtd lt a b g := fun i j h1 h2 h3 => by
  rw [e i h1 (by omega), e j (by omega) h3]; exact h i j h1 h2 h3
/-- insertion: outer -/
def InsOut (lt : Nat → Nat → Bool) (a i : Nat) (f g : Nat → Nat) : Prop := Same a i f g ∧ Srtd lt a i g
def InsIn (lt : Nat → Nat → Bool) (a i j : Nat) (f g : Nat → Nat) : Prop :=
  a ≤ j ∧ j ≤ i ∧ Same a (i + 1) f g ∧ (∀ p q, a ≤ p → p < q → q ≤ i → q ≠ j → L lt (g p) (g q)) ∧ (∀ p, a ≤ p → p < j → g p < g j)
theorem ins_first (lt : Nat → Nat → Bool) (a i : Nat) (f : Nat → Nat) (h : i ≤ a + 1) : InsOut lt a i f f := ⟨Same.refl _ _ _, fun _ _ _ _ _ => by omega⟩
theorem ins_start {a b i : Nat} {f g : Nat → Nat} (h : InsOut lt a i f g) (hai : a ≤ i) (hib : i < b) (T : ∀ p q, a ≤ p → p < q → q < b → f p < f q) : InsIn lt a i i f g := by
  refine ⟨hai, Nat.le_refl _, h.1.mono (Nat.le_refl _) (by omega), fun p q h1 h2 h3 h4 => h.2 p q h1 h2 (by omega), fun p h1 h2 => ?_⟩
  obtain ⟨j, j1, j2, e⟩ := h.1.2.1 p h1 h2
  rw [e, h.1.1 i (by omega)]
  exact T j i j1 j2 hib
theorem ins_step {a i j : Nat} {f g : Nat → Nat} (h : InsIn lt a i j f g) (hj : a < j) (hc : lt (g j) (g (j - 1)) = true) : InsIn lt a i (j - 1) f (swap g j (j - 1)) := by
  obtain ⟨h1, h2, h3, h4, h5⟩ := h
  have hL : L lt (g j) (g (j - 1)) := .inl hc
  refine ⟨by omega, by omega, h3.trans (same_swap g (by omega) (by omega)), fun p q k1 k2 k3 k4 => ?_, fun p k1 k2 => ?_⟩
  · by_cases e1 : q = j
    · subst e1
      rw [swap_l]
      by_cases e2 : p = q - 1
      · subst e2; rw [swap_r]; exact hL
      · rw [swap_o g (by omega) e2]; exact h4 p (q - 1) k1 (by omega) (by omega) (by omega)
    · rw [swap_o g (k := q) e1 k4]
      by_cases e2 : p = j
      · subst e2; rw [swap_l]; exact h4 (p - 1) q (by omega) (by omega) k3 e1
      · by_cases e3 : p = j - 1
        · subst e3; rw [swap_r]; exact h4 j q (by omega) (by omega) k3 e1
        · rw [swap_o g e2 e3]; exact h4 p q k1 k2 k3 e1
  · rw [swap_r, swap_o g (by omega) (by omega)]; exact h5 p k1 (by omega)
theorem ins_exit (hO : Swo lt) {a i j : Nat} {f g : Nat → Nat} (h : InsIn lt a i j f g) (hc : j = a ∨ lt (g j) (g (j - 1)) = false) : InsOut lt a (i + 1) f g := by
  obtain ⟨h1, h2, h3, h4, h5⟩ := h
  refine ⟨h3, fun p q k1 k2 k3 => ?_⟩
  by_cases e : q = j
  · subst e
    rcases hc with hc | hc
    · omega
    · have l1 : L lt (g (q - 1)) (g q) := .inr ⟨hc, h5 _ (by omega) (by omega)⟩
      by_cases e2 : p = q - 1
      · subst e2; exact l1
      · exact (h4 p (q - 1) k1 (by omega) (by omega) (by omega)).trans hO l1
  · exact h4 p q k1 k2 (by omega) e
/-! swapRange, rotate -/
def swp (g : Nat → Nat) (a b i : Nat) : Nat → Nat := fun p => if a ≤ p ∧ p < a + i then g (p + (b - a)) else if b ≤ p ∧ p < b + i then g (p - (b - a)) else g p
theorem swp_zero (g : Nat → Nat) (a b : Nat) : swp g a b 0 = g := by
  funext p; unfold swp; rw [if_neg (by omega), if_neg (by omega)]
theorem swp_step (g : Nat → Nat) {a b i n : Nat} (hn : a + n ≤ b) (hi : i < n) : swap (swp g a b i) (a + i) (b + i) = swp g a b (i + 1) := by
  funext p
  by_cases e1 : p = a + i
  · subst e1
    rw [swap_l]
    unfold swp
    rw [if_neg (by omega), if_neg (by omega), if_pos (by omega)]
    congr 1; omega
  · by_cases e2 : p = b + i
    · subst e2
      rw [swap_r]
      unfold swp
      rw [if_neg (by omega), if_neg (by omega), if_neg (by omega), if_pos (by omega)]
      congr 1; omega
    · rw [swap_o _ e1 e2]
      unfold swp
      by_cases c1 : a ≤ p ∧ p < a + i
      · rw [if_pos c1, if_pos (by omega)]
      · rw [if_neg c1, if_neg (c := a ≤ p ∧ p < a + (i + 1)) (by omega)]
        by_cases c2 : b ≤ p ∧ p < b + i
        · rw [if_pos c2, if_pos (by omega)]
        · rw [if_neg c2, if_neg (by omega)]
def rot (g : Nat → Nat) (a m b : Nat) : Nat → Nat := fun p => if a ≤ p ∧ p < a + (b - m) then g (p + (m - a)) else if a + (b - m) ≤ p ∧ p < b then g (p - (b - m)) else g p
theorem rot_gt (g : Nat → Nat) {m i j : Nat} (hm : i ≤ m) (h : j < i) : rot (swp g (m - i) m j) (m - (i - j)) m (m + j) = rot g (m - i) m (m + j) := by
  funext p
  unfold rot
  by_cases c1 : m - i ≤ p ∧ p < m - i + (m + j - m)
  · rw [if_neg (by omega), if_neg (by omega), if_pos c1]
    unfold swp
    rw [if_pos (by omega)]
  · rw [if_neg c1]
    by_cases c2 : m - i + (m + j - m) ≤ p ∧ p < m + j
    · rw [if_pos c2]
      by_cases c3 : m - (i - j) ≤ p ∧ p < m - (i - j) + (m + j - m)
      · rw [if_pos c3]
        unfold swp
        rw [if_neg (by omega), if_pos (by omega)]
        congr 1; omega
      · rw [if_neg c3, if_pos (by omega)]
        unfold swp
        rw [if_neg (by omega), if_neg (by omega)]
    · rw [if_neg c2, if_neg (by omega), if_neg (by omega)]
      unfold swp
      rw [if_neg (by omega), if_neg (by omega)]
theorem rot_lt (g : Nat → Nat) {m i j : Nat} (hm : i ≤ m) (h : i < j) : rot (swp g (m - i) (m + j - i) i) (m - i) m (m + (j - i)) = rot g (m - i) m (m + j) := by
  funext p
  unfold rot
  by_cases c0 : m - i ≤ p ∧ p < m + j
  · by_cases c1 : p < m - i + j
    · rw [if_pos (c := m - i ≤ p ∧ p < m - i + (m + j - m)) (by omega)]
      by_cases c2 : p < m - i + (j - i)
      · rw [if_pos (by omega)]
        unfold swp
        rw [if_neg (by omega), if_neg (by omega)]
      · rw [if_neg (by omega), if_pos (by omega)]
        unfold swp
        rw [if_pos (by omega)]
        congr 1; omega
    · rw [if_neg (c := m - i ≤ p ∧ p < m - i + (m + j - m)) (by omega), if_pos (c := m - i + (m + j - m) ≤ p ∧ p < m + j) (by omega), if_neg (by omega), if_neg (by omega)]
      unfold swp
      rw [if_neg (by omega), if_pos (by omega)]
      congr 1; omega
  · rw [if_neg (by omega), if_neg (by omega), if_neg (by omega), if_neg (by omega)]
    unfold swp
    rw [if_neg (by omega), if_neg (by omega)]
theorem rot_eq (g : Nat → Nat) {m i : Nat} (hm : i ≤ m) : swp g (m - i) m i = rot g (m - i) m (m + i) := by
  funext p
  unfold rot swp
  by_cases c1 : m - i ≤ p ∧ p < m - i + i
  · rw [if_pos c1, if_pos (by omega)]
  · rw [if_neg c1, if_neg (c := m - i ≤ p ∧ p < m - i + (m + i - m)) (by omega)]
    by_cases c2 : m ≤ p ∧ p < m + i
    · rw [if_pos c2, if_pos (by omega)]
      congr 1; omega
    · rw [if_neg c2, if_neg (by omega)]
theorem rot_none (g : Nat → Nat) {a m b : Nat} (h : (a = m ∧ m ≤ b) ∨ (m = b ∧ a ≤ m)) : rot g a m b = g := by
  funext p
  unfold rot
  by_cases c1 : a ≤ p ∧ p < a + (b - m)
  · rw [if_pos c1]; congr 1; omega
  · rw [if_neg c1]
    by_cases c2 : a + (b - m) ≤ p ∧ p < b
    · rw [if_pos c2]; congr 1; omega
    · rw [if_neg c2]
theorem same_rot (g : Nat → Nat) {a m b : Nat} (h1 : a ≤ m) (h2 : m ≤ b) : Same a b g (rot g a m b) := by
  refine ⟨fun i hi => ?_, fun i k1 k2 => ?_, fun i k1 k2 => ?_⟩
  · unfold rot; rw [if_neg (by omega), if_neg (by omega)]
  · unfold rot
    by_cases c : i < a + (b - m)
    · exact ⟨i + (m - a), by omega, by omega, by rw [if_pos (by omega)]⟩
    · exact ⟨i - (b - m), by omega, by omega, by rw [if_neg (by omega), if_pos (by omega)]⟩
  · by_cases c : i < m
    · refine ⟨i + (b - m), by omega, by omega, ?_⟩
      unfold rot; rw [if_neg (by omega), if_pos (by omega)]; congr 1; omega
    · refine ⟨i - (m - a), by omega, by omega, ?_⟩
      unfold rot; rw [if_pos (by omega)]; congr 1; omega
end Srt
end Go.Proofs.YtflapfekfmmcmaaGreatDoor

set_option linter.unusedVariables false
namespace Go.Proofs.YtflapfekfmmcmaaGreatDoor
namespace Srt
variable {lt : Nat → Nat → Bool}
/-- what symMerge may ask -/
def Pre (lt : Nat → Nat → Bool) (a m b : Nat) (g : Nat → Nat) : Prop :=
  Srtd lt a m g ∧ Srtd lt m b g ∧ ∀ p q, a ≤ p → p < m → m ≤ q → q < b → g p < g q
def Post (lt : Nat → Nat → Bool) (a b : Nat) (g g' : Nat → Nat) : Prop := Same a b g g' ∧ Srtd lt a b g'
/-! one element on the left -/
def shl (g : Nat → Nat) (a k : Nat) : Nat → Nat := fun p => if a ≤ p ∧ p < k then g (p + 1) else if p = k then g a else g p
theorem shl_zero (g : Nat → Nat) (a : Nat) : shl g a a = g := by
  funext p; unfold shl; rw [if_neg (by omega)]
  by_cases e : p = a
  · rw [if_pos e, e]
  · rw [if_neg e]
theorem shl_step (g : Nat → Nat) {a k : Nat} (h : a ≤ k) : swap (shl g a k) k (k + 1) = shl g a (k + 1) := by
  funext p
  by_cases e1 : p = k
  · subst e1; rw [swap_l]; unfold shl
    rw [if_neg (by omega), if_neg (by omega), if_pos (by omega)]
  · by_cases e2 : p = k + 1
    · subst e2; rw [swap_r]; unfold shl
      rw [if_neg (by omega), if_pos rfl, if_neg (by omega), if_pos rfl]
    · rw [swap_o _ e1 e2]
      unfold shl
      by_cases c : a ≤ p ∧ p < k
      · rw [if_pos c, if_pos (by omega)]
      · rw [if_neg c, if_neg e1, if_neg (by omega), if_neg e2]
theorem same_shl (g : Nat → Nat) {a k b : Nat} (h : a ≤ k) (hb : k < b) : Same a b g (shl g a k) := by
  refine ⟨fun i hi => ?_, fun i k1 k2 => ?_, fun i k1 k2 => ?_⟩
  · unfold shl; rw [if_neg (by omega), if_neg (by omega)]
  · unfold shl
    by_cases c : a ≤ i ∧ i < k
    · exact ⟨i + 1, by omega, by omega, by rw [if_pos c]⟩
    · by_cases e : i = k
      · exact ⟨a, by omega, by omega, by rw [if_neg c, if_pos e]⟩
      · exact ⟨i, by omega, by omega, by rw [if_neg c, if_neg e]⟩
  · by_cases e : i = a
    · exact ⟨k, by omega, by omega, by unfold shl; rw [if_neg (by omega), if_pos rfl, e]⟩
    · by_cases c : i ≤ k
      · refine ⟨i - 1, by omega, by omega, ?_⟩
        unfold shl; rw [if_pos (by omega)]; congr 1; omega
      · exact ⟨i, by omega, by omega, by unfold shl; rw [if_neg (by omega), if_neg (by omega)]⟩
theorem post_left (hO : Swo lt) {a m b i : Nat} {g : Nat → Nat} (h : Pre lt a m b g) (hm : m = a + 1) (hi : m ≤ i ∧ i ≤ b) (h1 : ∀ k, m ≤ k → k < i → lt (g k) (g a) = true) (h2 : ∀ k, i ≤ k → k < b → lt (g k) (g a) = false) :
    Post lt a b g (shl g a (i - 1)) := by
  obtain ⟨s1, s2, s3⟩ := h
  refine ⟨same_shl g (by omega) (by omega), fun p q k1 k2 k3 => ?_⟩
  have ga : ∀ k, i ≤ k → k < b → L lt (g a) (g k) := fun k q1 q2 => .inr ⟨h2 k q1 q2, s3 a k (Nat.le_refl _) (by omega) (by omega) q2⟩
  have gb : ∀ k, m ≤ k → k < i → L lt (g k) (g a) := fun k q1 q2 => .inl (h1 k q1 q2)
  unfold shl
  by_cases c1 : a ≤ p ∧ p < i - 1
  · rw [if_pos c1]
    by_cases c2 : a ≤ q ∧ q < i - 1
    · rw [if_pos c2]; exact s2 _ _ (by omega) (by omega) (by omega)
    · rw [if_neg c2]
      by_cases e : q = i - 1
      · rw [if_pos e]; exact gb _ (by omega) (by omega)
      · rw [if_neg e]; exact s2 _ _ (by omega) (by omega) (by omega)
  · rw [if_neg c1, if_neg (c := a ≤ q ∧ q < i - 1) (by omega)]
    by_cases e : p = i - 1
    · rw [if_pos e, if_neg (by omega)]; exact ga q (by omega) k3
    · rw [if_neg e, if_neg (by omega)]; exact s2 _ _ (by omega) k2 k3
/-! one element on the right -/
def shr (g : Nat → Nat) (k m : Nat) : Nat → Nat := fun p => if k < p ∧ p ≤ m then g (p - 1) else if p = k then g m else g p
theorem shr_zero (g : Nat → Nat) (m : Nat) : shr g m m = g := by
  funext p; unfold shr; rw [if_neg (by omega)]
  by_cases e : p = m
  · rw [if_pos e, e]
  · rw [if_neg e]
theorem shr_step (g : Nat → Nat) {k m : Nat} (h0 : 0 < k) (h : k ≤ m) : swap (shr g k m) k (k - 1) = shr g (k - 1) m := by
  funext p
  by_cases e1 : p = k
  · subst e1; rw [swap_l]; unfold shr
    rw [if_neg (by omega), if_neg (by omega), if_pos (by omega)]
  · by_cases e2 : p = k - 1
    · subst e2; rw [swap_r]; unfold shr
      rw [if_neg (by omega), if_pos rfl, if_neg (by omega), if_pos rfl]
    · rw [swap_o _ e1 e2]
      unfold shr
      by_cases c : k < p ∧ p ≤ m
      · rw [if_pos c, if_pos (by omega)]
      · rw [if_neg c, if_neg e1, if_neg (by omega), if_neg e2]
theorem same_shr (g : Nat → Nat) {a k m b : Nat} (ha : a ≤ k) (h : k ≤ m) (hb : m < b) : Same a b g (shr g k m) := by
  refine ⟨fun i hi => ?_, fun i k1 k2 => ?_, fun i k1 k2 => ?_⟩
  · unfold shr; rw [if_neg (by omega), if_neg (by omega)]
  · unfold shr
    by_cases c : k < i ∧ i ≤ m
    · exact ⟨i - 1, by omega, by omega, by rw [if_pos c]⟩
    · by_cases e : i = k
      · exact ⟨m, by omega, by omega, by rw [if_neg c, if_pos e]⟩
      · exact ⟨i, by omega, by omega, by rw [if_neg c, if_neg e]⟩
  · by_cases e : i = m
    · exact ⟨k, by omega, by omega, by unfold shr; rw [if_neg (by omega), if_pos rfl, e]⟩
    · by_cases c : k ≤ i ∧ i < m
      · refine ⟨i + 1, by omega, by omega, ?_⟩
        unfold shr; rw [if_pos (by omega)]; congr 1
      · exact ⟨i, by omega, by omega, by unfold shr; rw [if_neg (by omega), if_neg (by omega)]⟩
theorem post_right (hO : Swo lt) {a m b i : Nat} {g : Nat → Nat} (h : Pre lt a m b g) (hm : b = m + 1) (hi : a ≤ i ∧ i ≤ m) (h1 : ∀ k, a ≤ k → k < i → lt (g m) (g k) = false) (h2 : ∀ k, i ≤ k → k < m → lt (g m) (g k) = true) :
    Post lt a b g (shr g i m) := by
  obtain ⟨s1, s2, s3⟩ := h
  refine ⟨same_shr g (by omega) (by omega) (by omega), fun p q k1 k2 k3 => ?_⟩
  have ga : ∀ k, a ≤ k → k < i → L lt (g k) (g m) := fun k q1 q2 => .inr ⟨h1 k q1 q2, s3 k m q1 (by omega) (Nat.le_refl _) (by omega)⟩
  have gb : ∀ k, i ≤ k → k < m → L lt (g m) (g k) := fun k q1 q2 => .inl (h2 k q1 q2)
  unfold shr
  by_cases c1 : i < p ∧ p ≤ m
  · rw [if_pos c1, if_pos (by omega)]; exact s1 _ _ (by omega) (by omega) (by omega)
  · rw [if_neg c1]
    by_cases e : p = i
    · rw [if_pos e, if_pos (by omega)]; exact gb _ (by omega) (by omega)
    · rw [if_neg e]
      by_cases c2 : i < q ∧ q ≤ m
      · rw [if_pos c2]; exact s1 _ _ (by omega) (by omega) (by omega)
      · rw [if_neg c2]
        by_cases e2 : q = i
        · rw [if_pos e2]; exact ga _ (by omega) (by omega)
        · rw [if_neg e2]; exact s1 _ _ (by omega) (by omega) (by omega)
/-! the middle -/
/-- the search's two bounds -/
def Lo (a m b : Nat) : Nat := if (a + b) / 2 < m then (a + b) / 2 + m - b else a
def Hi (a m b : Nat) : Nat := if (a + b) / 2 < m then (a + b) / 2 else m
/-- what the search knows -/
def Srch (lt : Nat → Nat → Bool) (a m b : Nat) (g : Nat → Nat) (s r : Nat) : Prop :=
  Lo a m b ≤ s ∧ s ≤ r ∧ r ≤ Hi a m b ∧ (∀ c, Lo a m b ≤ c → c < s → lt (g ((a + b) / 2 + m - 1 - c)) (g c) = false) ∧ (∀ c, r ≤ c → c < Hi a m b → lt (g ((a + b) / 2 + m - 1 - c)) (g c) = true)
end Srt
end Go.Proofs.YtflapfekfmmcmaaGreatDoor

set_option linter.unusedVariables false
namespace Go.Proofs.YtflapfekfmmcmaaGreatDoor
namespace Srt
variable {lt : Nat → Nat → Bool}
theorem L.not (hO : Swo lt) {x y : Nat} (h : L lt x y) : lt y x = false := by
  rcases h with h | ⟨h, _⟩
  · cases h2 : lt y x with
    | false => rfl
    | true => have := hO.tr _ _ _ h h2; rw [hO.irr] at this; cases this
  · exact h
/-- y before x; x' not behind x, y' not before y: y' before ... -/
theorem down (hO : Swo lt) {x x' y y' : Nat} (h1 : lt x x' = false) (h2 : lt y' y = false) (h : lt y x = false) : lt y' x' = false := by
  cases h3 : lt y' x' with
  | false => rfl
  | true =>
    rcases hO.neg y' x x' h3 with h4 | h4
    · rcases hO.neg y' y x h4 with h5 | h5
      · rw [h2] at h5; cases h5
      · rw [h] at h5; cases h5
    · rw [h1] at h4; cases h4
theorem not_le (hO : Swo lt) {a b : Nat} {g : Nat → Nat} (s : Srtd lt a b g) {i j : Nat} (h1 : a ≤ i) (h2 : i ≤ j) (h3 : j < b) : lt (g j) (g i) = false := by
  by_cases e : i = j
  · subst e; exact hO.irr _
  · exact (s i j h1 (by omega) h3).not hO
/-! the three searches -/
def Sl (lt : Nat → Nat → Bool) (a m b : Nat) (g : Nat → Nat) (i j : Nat) : Prop :=
  m ≤ i ∧ i ≤ j ∧ j ≤ b ∧ (∀ k, m ≤ k → k < i → lt (g k) (g a) = true) ∧ (∀ k, j ≤ k → k < b → lt (g k) (g a) = false)
theorem sl_start (lt : Nat → Nat → Bool) {a m b : Nat} (g : Nat → Nat) (h : m ≤ b) : Sl lt a m b g m b := ⟨Nat.le_refl _, h, Nat.le_refl _, fun _ _ _ => by omega, fun _ _ _ => by omega⟩
theorem sl_true (hO : Swo lt) {a m b i j : Nat} {g : Nat → Nat} (s : Srtd lt m b g) (h : Sl lt a m b g i j) (hij : i < j) (hc : lt (g ((i + j) / 2)) (g a) = true) : Sl lt a m b g ((i + j) / 2 + 1) j := by
  obtain ⟨h1, h2, h3, h4, h5⟩ := h
  refine ⟨by omega, by omega, h3, fun k k1 k2 => ?_, h5⟩
  rcases hO.neg _ (g k) _ hc with hh | hh
  · rw [not_le hO s k1 (by omega) (by omega)] at hh; cases hh
  · exact hh
theorem sl_false (hO : Swo lt) {a m b i j : Nat} {g : Nat → Nat} (s : Srtd lt m b g) (h : Sl lt a m b g i j) (hij : i < j) (hc : lt (g ((i + j) / 2)) (g a) = false) : Sl lt a m b g i ((i + j) / 2) := by
  obtain ⟨h1, h2, h3, h4, h5⟩ := h
  exact ⟨h1, by omega, by omega, h4, fun k k1 k2 => down hO (hO.irr _) (not_le hO s (by omega) k1 k2) hc⟩
def Sr (lt : Nat → Nat → Bool) (a m : Nat) (g : Nat → Nat) (i j : Nat) : Prop :=
  a ≤ i ∧ i ≤ j ∧ j ≤ m ∧ (∀ k, a ≤ k → k < i → lt (g m) (g k) = false) ∧ (∀ k, j ≤ k → k < m → lt (g m) (g k) = true)
theorem sr_start (lt : Nat → Nat → Bool) {a m : Nat} (g : Nat → Nat) (h : a ≤ m) : Sr lt a m g a m := ⟨Nat.le_refl _, h, Nat.le_refl _, fun _ _ _ => by omega, fun _ _ _ => by omega⟩
theorem sr_true (hO : Swo lt) {a m i j : Nat} {g : Nat → Nat} (s : Srtd lt a m g) (h : Sr lt a m g i j) (hij : i < j) (hc : lt (g m) (g ((i + j) / 2)) = true) : Sr lt a m g i ((i + j) / 2) := by
  obtain ⟨h1, h2, h3, h4, h5⟩ := h
  refine ⟨h1, by omega, by omega, h4, fun k k1 k2 => ?_⟩
  rcases hO.neg _ (g k) _ hc with hh | hh
  · exact hh
  · rw [not_le hO s (by omega) k1 (by omega)] at hh; cases hh
theorem sr_false (hO : Swo lt) {a m i j : Nat} {g : Nat → Nat} (s : Srtd lt a m g) (h : Sr lt a m g i j) (hij : i < j) (hc : lt (g m) (g ((i + j) / 2)) = false) : Sr lt a m g ((i + j) / 2 + 1) j := by
  obtain ⟨h1, h2, h3, h4, h5⟩ := h
  exact ⟨by omega, by omega, h3, fun k k1 k2 => down hO (not_le hO s k1 (by omega) (by omega)) (hO.irr _) hc, h5⟩
theorem lo_le_hi {a m b : Nat} (h1 : a < m) (h2 : m < b) : Lo a m b ≤ Hi a m b := by unfold Lo Hi; split <;> omega
theorem srch_start (lt : Nat → Nat → Bool) {a m b : Nat} (g : Nat → Nat) (h1 : a < m) (h2 : m < b) : Srch lt a m b g (Lo a m b) (Hi a m b) :=
  ⟨Nat.le_refl _, lo_le_hi h1 h2, Nat.le_refl _, fun _ _ _ => by omega, fun _ _ _ => by omega⟩
/-- where the search looks -/
theorem srch_in {a m b c : Nat} (h1 : a < m) (h2 : m < b) (hl : Lo a m b ≤ c) (hh : c < Hi a m b) : a ≤ c ∧ c < m ∧ m ≤ (a + b) / 2 + m - 1 - c ∧ (a + b) / 2 + m - 1 - c < b := by
  unfold Lo at hl; unfold Hi at hh
  by_cases e : (a + b) / 2 < m
  · rw [if_pos e] at hl hh; omega
  · rw [if_neg e] at hl hh; omega
theorem srch_false (hO : Swo lt) {a m b s r : Nat} {g : Nat → Nat} (P : Pre lt a m b g) (h1 : a < m) (h2 : m < b) (h : Srch lt a m b g s r) (hsr : s < r) (hc : lt (g ((a + b) / 2 + m - 1 - (s + r) / 2)) (g ((s + r) / 2)) = false) :
    Srch lt a m b g ((s + r) / 2 + 1) r := by
  obtain ⟨k1, k2, k3, k4, k5⟩ := h
  refine ⟨by omega, by omega, k3, fun c c1 c2 => ?_, k5⟩
  obtain ⟨i1, i2, i3, i4⟩ := srch_in h1 h2 c1 (c := c) (by omega)
  obtain ⟨j1, j2, j3, j4⟩ := srch_in h1 h2 (c := (s + r) / 2) (by omega) (by omega)
  exact down hO (not_le hO P.1 i1 (by omega) j2) (not_le hO P.2.1 j3 (by omega) i4) hc
theorem srch_true (hO : Swo lt) {a m b s r : Nat} {g : Nat → Nat} (P : Pre lt a m b g) (h1 : a < m) (h2 : m < b) (h : Srch lt a m b g s r) (hsr : s < r) (hc : lt (g ((a + b) / 2 + m - 1 - (s + r) / 2)) (g ((s + r) / 2)) = true) :
    Srch lt a m b g s ((s + r) / 2) := by
  obtain ⟨k1, k2, k3, k4, k5⟩ := h
  refine ⟨k1, by omega, by omega, k4, fun c c1 c2 => ?_⟩
  obtain ⟨i1, i2, i3, i4⟩ := srch_in h1 h2 (c := c) (by omega) c2
  obtain ⟨j1, j2, j3, j4⟩ := srch_in h1 h2 (c := (s + r) / 2) (by omega) (by omega)
  cases h3 : lt (g ((a + b) / 2 + m - 1 - c)) (g c) with
  | true => rfl
  | false =>
    have := down hO (not_le hO P.1 j1 (by omega) i2) (not_le hO P.2.1 i3 (by omega) j4) h3
    rw [this] at hc; cases hc
theorem srch_end {a m b s : Nat} {g : Nat → Nat} (h1 : a < m) (h2 : m < b) (h : Srch lt a m b g s s) :
    a ≤ s ∧ s ≤ m ∧ s ≤ (a + b) / 2 ∧ m ≤ (a + b) / 2 + m - s ∧ (a + b) / 2 + m - s ≤ b ∧ (a + b) / 2 ≤ (a + b) / 2 + m - s := by
  obtain ⟨k1, k2, k3, k4, k5⟩ := h
  unfold Lo at k1; unfold Hi at k3
  by_cases e : (a + b) / 2 < m
  · rw [if_pos e] at k1 k3; omega
  · rw [if_neg e] at k1 k3; omega
theorem srch_split (hO : Swo lt) {a m b s : Nat} {g : Nat → Nat} (P : Pre lt a m b g) (h1 : a < m) (h2 : m < b) (h : Srch lt a m b g s s) :
    Pre lt a s ((a + b) / 2) (rot g s m ((a + b) / 2 + m - s)) ∧ Pre lt ((a + b) / 2) ((a + b) / 2 + m - s) b (rot g s m ((a + b) / 2 + m - s)) ∧
    ∀ p q, a ≤ p → p < (a + b) / 2 → (a + b) / 2 ≤ q → q < b → L lt (rot g s m ((a + b) / 2 + m - s) p) (rot g s m ((a + b) / 2 + m - s) q) := by
  obtain ⟨e1, e2, e3, e4, e5, e6⟩ := srch_end h1 h2 h
  obtain ⟨k1, k2, k3, k4, k5⟩ := h
  obtain ⟨s1, s2, s3⟩ := P
  generalize hE : (a + b) / 2 + m - s = E at *
  generalize hM : (a + b) / 2 = M at *
  have r1 : ∀ p, p < s → rot g s m E p = g p := fun p hp => by unfold rot; rw [if_neg (by omega), if_neg (by omega)]
  have r2 : ∀ p, s ≤ p → p < M → rot g s m E p = g (p + (m - s)) := fun p h3 h4 => by unfold rot; rw [if_pos (by omega)]
  have r3 : ∀ p, M ≤ p → p < E → rot g s m E p = g (p - (E - m)) := fun p h3 h4 => by unfold rot; rw [if_neg (by omega), if_pos (by omega)]
  have r4 : ∀ p, E ≤ p → rot g s m E p = g p := fun p h3 => by unfold rot; rw [if_neg (by omega), if_neg (by omega)]
  have x1 : a < s → E < b → L lt (g (s - 1)) (g E) := fun y1 y2 => by
    have hl : Lo a m b ≤ s - 1 := by
      unfold Lo at k1 ⊢
      rw [hM] at k1 ⊢
      by_cases e : M < m
      · rw [if_pos e] at k1 ⊢; omega
      · rw [if_neg e] at k1 ⊢; omega
    have := k4 (s - 1) hl (by omega)
    rw [show M + m - 1 - (s - 1) = E by omega] at this
    exact .inr ⟨this, s3 _ _ (by omega) (by omega) e4 y2⟩
  have x2 : s < M → M < E → L lt (g (E - 1)) (g s) := fun y1 y2 => by
    have hl : s < Hi a m b := by
      unfold Hi at k3 ⊢
      rw [hM] at k3 ⊢
      by_cases e : M < m
      · rw [if_pos e] at k3 ⊢; omega
      · rw [if_neg e] at k3 ⊢; omega
    have := k5 s (Nat.le_refl _) hl
    rw [show M + m - 1 - s = E - 1 by omega] at this
    exact .inl this
  have le1 : ∀ p q, a ≤ p → p ≤ q → q < m → ∀ z, L lt (g q) z → L lt (g p) z := fun p q y1 y2 y3 z hz => by
    by_cases e : p = q
    · rw [e]; exact hz
    · exact (s1 p q y1 (by omega) y3).trans hO hz
  have le2 : ∀ p q, m ≤ p → p ≤ q → q < b → ∀ z, L lt z (g p) → L lt z (g q) := fun p q y1 y2 y3 z hz => by
    by_cases e : p = q
    · rw [← e]; exact hz
    · exact hz.trans hO (s2 p q y1 (by omega) y3)
  have le1' : ∀ p q, a ≤ p → p ≤ q → q < m → ∀ z, L lt z (g p) → L lt z (g q) := fun p q y1 y2 y3 z hz => by
    by_cases e : p = q
    · rw [← e]; exact hz
    · exact hz.trans hO (s1 p q y1 (by omega) y3)
  have le2' : ∀ p q, m ≤ p → p ≤ q → q < b → ∀ z, L lt (g q) z → L lt (g p) z := fun p q y1 y2 y3 z hz => by
    by_cases e : p = q
    · rw [e]; exact hz
    · exact (s2 p q y1 (by omega) y3).trans hO hz
  refine ⟨⟨fun i j y1 y2 y3 => ?_, fun i j y1 y2 y3 => ?_, fun p q y1 y2 y3 y4 => ?_⟩, ⟨fun i j y1 y2 y3 => ?_, fun i j y1 y2 y3 => ?_, fun p q y1 y2 y3 y4 => ?_⟩, fun p q y1 y2 y3 y4 => ?_⟩
  · rw [r1 i (by omega), r1 j (by omega)]; exact s1 i j y1 y2 (by omega)
  · rw [r2 i (by omega) (by omega), r2 j (by omega) (by omega)]; exact s2 _ _ (by omega) (by omega) (by omega)
  · rw [r1 p y2, r2 q y3 y4]; exact s3 _ _ y1 (by omega) (by omega) (by omega)
  · rw [r3 i y1 (by omega), r3 j (by omega) y3]; exact s1 _ _ (by omega) (by omega) (by omega)
  · rw [r4 i y1, r4 j (by omega)]; exact s2 _ _ (by omega) y2 y3
  · rw [r3 p y1 y2, r4 q y3]; exact s3 _ _ (by omega) (by omega) (by omega) y4
  · by_cases c1 : p < s
    · rw [r1 p c1]
      by_cases c2 : q < E
      · rw [r3 q y3 c2]; exact s1 _ _ y1 (by omega) (by omega)
      · rw [r4 q (by omega)]
        exact le1 p (s - 1) y1 (by omega) (by omega) _ (le2 E q e4 (by omega) y4 _ (x1 (by omega) (by omega)))
    · rw [r2 p (by omega) y2]
      by_cases c2 : q < E
      · rw [r3 q y3 c2]
        exact le2' _ (E - 1) (by omega) (by omega) (by omega) _ (le1' s _ e1 (by omega) (by omega) _ (x2 (by omega) (by omega)))
      · rw [r4 q (by omega)]; exact s2 _ _ (by omega) (by omega) y4
theorem Pre.congr {a m b : Nat} {f g : Nat → Nat} (h : Pre lt a m b f) (e : ∀ i, a ≤ i → i < b → g i = f i) (ha : a ≤ m) (hb : m ≤ b) : Pre lt a m b g :=
  ⟨h.1.congr fun i h1 h2 => e i h1 (by omega), h.2.1.congr fun i h1 h2 => e i (by omega) h2, fun p q h1 h2 h3 h4 => by rw [e p h1 (by omega), e q (by omega) h4]; exact h.2.2 p q h1 h2 h3 h4⟩
theorem Pre.skip {a m b : Nat} {g : Nat → Nat} (h : Pre lt a m b g) (hs : ¬ (a < m ∧ m < b)) (ha : a ≤ m) (hb : m ≤ b) : Post lt a b g g := by
  refine ⟨Same.refl _ _ _, ?_⟩
  by_cases e : a = m
  · rw [e]; exact h.2.1
  · rw [show b = m by omega]; exact h.1
theorem post_mid {a M b : Nat} {g g1 g2 g3 : Nat → Nat} (ha : a ≤ M) (hb : M ≤ b) (h1 : Same a b g g1) (hx : ∀ p q, a ≤ p → p < M → M ≤ q → q < b → L lt (g1 p) (g1 q)) (h2 : Post lt a M g1 g2) (h3 : Post lt M b g2 g3) : Post lt a b g g3 := by
  refine ⟨h1.trans ((h2.1.mono (Nat.le_refl _) hb).trans (h3.1.mono ha (Nat.le_refl _))), fun p q k1 k2 k3 => ?_⟩
  by_cases c1 : q < M
  · rw [h3.1.1 p (by omega), h3.1.1 q (by omega)]; exact h2.2 p q k1 k2 c1
  · by_cases c2 : p < M
    · rw [h3.1.1 p (by omega)]
      obtain ⟨p', p1, p2, ep⟩ := h2.1.2.1 p k1 c2
      obtain ⟨q', q1, q2, eq⟩ := h3.1.2.1 q (by omega) k3
      rw [ep, eq, h2.1.1 q' (by omega)]
      exact hx p' q' p1 p2 q1 q2
    · exact h3.2 p q (by omega) k2 k3
end Srt
end Go.Proofs.YtflapfekfmmcmaaGreatDoor

set_option linter.unusedVariables false
namespace Go.Proofs.YtflapfekfmmcmaaGreatDoor
namespace Srt
variable {lt : Nat → Nat → Bool}
/-- what stands in block k of s places came from there, in order -/
def Blk (lt : Nat → Nat → Bool) (n s k : Nat) (g : Nat → Nat) : Prop :=
  (∀ i, k * s ≤ i → i < k * s + s → i < n → k * s ≤ g i ∧ g i < k * s + s) ∧ Srtd lt (k * s) (min (k * s + s) n) g
theorem Blk.congr {n s k : Nat} {f g : Nat → Nat} (h : Blk lt n s k f) (e : ∀ i, k * s ≤ i → i < k * s + s → i < n → g i = f i) : Blk lt n s k g :=
  ⟨fun i h1 h2 h3 => by rw [e i h1 h2 h3]; exact h.1 i h1 h2 h3, h.2.congr fun i h1 h2 => e i h1 (by omega) (by omega)⟩
theorem Blk.none {n s k : Nat} {g : Nat → Nat} (h : n ≤ k * s) : Blk lt n s k g := ⟨fun i h1 h2 h3 => by omega, fun i j h1 h2 h3 => by omega⟩
/-- the first phase: k blocks of 20 are in order -/
def Ph0 (lt : Nat → Nat → Bool) (n k : Nat) (g : Nat → Nat) : Prop := Same 0 n id g ∧ (∀ i, k * 20 ≤ i → g i = i) ∧ ∀ j, j < k → Blk lt n 20 j g
theorem ph0_start (lt : Nat → Nat → Bool) (n : Nat) : Ph0 lt n 0 id := ⟨Same.refl _ _ _, fun _ _ => rfl, fun j hj => absurd hj (Nat.not_lt_zero _)⟩
theorem ph0_step {n k : Nat} {g g' : Nat → Nat} (h : Ph0 lt n k g) (hb : k * 20 + 20 ≤ n) (hp : Post lt (k * 20) (k * 20 + 20) g g') : Ph0 lt n (k + 1) g' := by
  obtain ⟨h1, h2, h3⟩ := h
  refine ⟨h1.trans (hp.1.mono (Nat.zero_le _) hb), fun i hi => ?_, fun j hj => ?_⟩
  · rw [hp.1.1 i (by omega)]; exact h2 i (by omega)
  · by_cases e : j = k
    · subst e
      refine ⟨fun i k1 k2 k3 => ?_, ?_⟩
      · obtain ⟨q, q1, q2, e⟩ := hp.1.2.1 i k1 k2
        rw [e, h2 q q1]; exact ⟨q1, q2⟩
      · rw [show min (j * 20 + 20) n = j * 20 + 20 by omega]; exact hp.2
    · exact (h3 j (by omega)).congr fun i k1 k2 k3 => hp.1.1 i (by omega)
theorem ph0_end {n k : Nat} {g g' : Nat → Nat} (h : Ph0 lt n k g) (h0 : k * 20 ≤ n) (hb : n < k * 20 + 20) (hp : Post lt (k * 20) n g g') : Same 0 n id g' ∧ ∀ j, Blk lt n 20 j g' := by
  obtain ⟨h1, h2, h3⟩ := h
  refine ⟨h1.trans (hp.1.mono (Nat.zero_le _) (Nat.le_refl _)), fun j => ?_⟩
  by_cases e : j = k
  · subst e
    refine ⟨fun i k1 k2 k3 => ?_, ?_⟩
    · obtain ⟨q, q1, q2, e⟩ := hp.1.2.1 i k1 k3
      rw [e, h2 q q1]; exact ⟨q1, by omega⟩
    · rw [show min (j * 20 + 20) n = n by omega]; exact hp.2
  · by_cases e2 : j < k
    · exact (h3 j e2).congr fun i k1 k2 k3 => hp.1.1 i (by omega)
    · exact Blk.none (by omega)
/-- tags rise in what was not yet sorted -/
theorem ph0_tags {n k : Nat} {g : Nat → Nat} (h : Ph0 lt n k g) : ∀ p q, k * 20 ≤ p → p < q → g p < g q := fun p q h1 h2 => by
  rw [h.2.1 p h1, h.2.1 q (by omega)]; exact h2
/-- a phase of merges: k pairs of blocks of s are merged -/
def Ph (lt : Nat → Nat → Bool) (n s k : Nat) (g : Nat → Nat) : Prop := Same 0 n id g ∧ (∀ j, j < k → Blk lt n (2 * s) j g) ∧ ∀ j, 2 * k ≤ j → Blk lt n s j g
theorem ph_start {n s : Nat} {g : Nat → Nat} (h1 : Same 0 n id g) (h2 : ∀ j, Blk lt n s j g) : Ph lt n s 0 g := ⟨h1, fun j hj => absurd hj (Nat.not_lt_zero _), fun j _ => h2 j⟩
theorem dbl (k s : Nat) : k * (2 * s) = 2 * k * s := by rw [← Nat.mul_assoc, Nat.mul_comm k 2]
theorem ph_pre {n s k b : Nat} {g : Nat → Nat} (h : Ph lt n s k g) (h1 : k * (2 * s) + s < b) (h2 : b ≤ k * (2 * s) + 2 * s) (h3 : b ≤ n) (h4 : b = k * (2 * s) + 2 * s ∨ b = n) : Pre lt (k * (2 * s)) (k * (2 * s) + s) b g := by
  obtain ⟨_, _, hb⟩ := h
  have b1 := hb (2 * k) (Nat.le_refl _)
  have b2 := hb (2 * k + 1) (by omega)
  unfold Blk at b1 b2
  rw [Nat.succ_mul] at b2
  rw [← dbl] at b1 b2
  generalize k * (2 * s) = A at *
  refine ⟨?_, ?_, fun p q k1 k2 k3 k4 => ?_⟩
  · have := b1.2; rw [show min (A + s) n = A + s by omega] at this; exact this
  · have := b2.2; rw [show min (A + s + s) n = b by omega] at this; exact this
  · have := b1.1 p k1 k2 (by omega)
    have := b2.1 q k3 (by omega) (by omega)
    omega
theorem ph_merge {n s k b : Nat} {g g' : Nat → Nat} (h : Ph lt n s k g) (h1 : k * (2 * s) + s < b) (h2 : b ≤ k * (2 * s) + 2 * s) (h3 : b ≤ n) (h4 : b = k * (2 * s) + 2 * s ∨ b = n) (hp : Post lt (k * (2 * s)) b g g') : Ph lt n s (k + 1) g' := by
  have P := ph_pre h h1 h2 h3 h4
  obtain ⟨hs, hk, hb⟩ := h
  have b1 := hb (2 * k) (Nat.le_refl _)
  have b2 := hb (2 * k + 1) (by omega)
  refine ⟨hs.trans (hp.1.mono (Nat.zero_le _) h3), fun j hj => ?_, fun j hj => ?_⟩
  · by_cases e : j = k
    · subst e
      unfold Blk at b1 b2 ⊢
      rw [Nat.succ_mul] at b2
      rw [← dbl] at b1 b2
      generalize j * (2 * s) = A at *
      refine ⟨fun i k1 k2 k3 => ?_, ?_⟩
      · obtain ⟨q, q1, q2, e⟩ := hp.1.2.1 i k1 (by omega)
        rw [e]
        by_cases c : q < A + s
        · have := b1.1 q q1 c (by omega); omega
        · have := b2.1 q (by omega) (by omega) (by omega); omega
      · rw [show min (A + 2 * s) n = b by omega]; exact hp.2
    · refine (hk j (by omega)).congr fun i k1 k2 k3 => hp.1.1 i (.inl ?_)
      have : (j + 1) * (2 * s) ≤ k * (2 * s) := Nat.mul_le_mul_right _ (by omega)
      rw [Nat.succ_mul] at this
      omega
  · refine (hb j (by omega)).congr fun i k1 k2 k3 => hp.1.1 i (.inr ?_)
    have : (2 * k + 2) * s ≤ j * s := Nat.mul_le_mul_right _ (by omega)
    rw [Nat.add_mul] at this
    rw [← dbl] at this
    omega
theorem ph_stay {n s k : Nat} {g : Nat → Nat} (h : Ph lt n s k g) (h1 : n ≤ k * (2 * s) + s) : Ph lt n s (k + 1) g := by
  obtain ⟨hs, hk, hb⟩ := h
  have b1 := hb (2 * k) (Nat.le_refl _)
  refine ⟨hs, fun j hj => ?_, fun j hj => hb j (by omega)⟩
  by_cases e : j = k
  · subst e
    unfold Blk at b1 ⊢
    rw [← dbl] at b1
    generalize j * (2 * s) = A at *
    refine ⟨fun i k1 k2 k3 => ?_, ?_⟩
    · have := b1.1 i k1 (by omega) k3; omega
    · have := b1.2
      by_cases c : A ≤ n
      · rw [show min (A + s) n = min (A + 2 * s) n by omega] at this; exact this
      · intro i j y1 y2 y3; omega
  · exact hk j (by omega)
theorem ph_all {n s k : Nat} {g : Nat → Nat} (h : Ph lt n s k g) (h1 : n ≤ k * (2 * s)) : ∀ j, Blk lt n (2 * s) j g := fun j => by
  by_cases c : j < k
  · exact h.2.1 j c
  · refine Blk.none ?_
    have : k * (2 * s) ≤ j * (2 * s) := Nat.mul_le_mul_right _ (by omega)
    omega
theorem blk_done {n s : Nat} {g : Nat → Nat} (h : ∀ j, Blk lt n s j g) (hn : n ≤ s) : Srtd lt 0 n g := by
  have := (h 0).2
  rw [Nat.zero_mul, show min (0 + s) n = n by omega] at this
  exact this
/-! lists -/
def SL (lt : Nat → Nat → Bool) : List Nat → Prop
  | [] => True
  | x :: r => (∀ y ∈ r, L lt x y) ∧ SL lt r
theorem sl_ext (hO : Swo lt) : ∀ {l k : List Nat}, SL lt l → SL lt k → (∀ x, x ∈ l ↔ x ∈ k) → l = k
  | [], [], _, _, _ => rfl
  | [], y :: k, _, _, h => by have := (h y).2 (by simp); cases this
  | x :: l, [], _, _, h => by have := (h x).1 (by simp); cases this
  | x :: l, y :: k, h1, h2, h => by
    have e : x = y := by
      have m1 := (h x).1 (by simp)
      have m2 := (h y).2 (by simp)
      rcases List.mem_cons.1 m1 with e | m1
      · exact e
      · rcases List.mem_cons.1 m2 with e | m2
        · exact e.symm
        · exact ((L.trans hO (h1.1 y m2) (h2.1 x m1)).irr hO).elim
    subst e
    rw [sl_ext hO h1.2 h2.2 fun z => ?_]
    constructor
    · intro hz
      rcases List.mem_cons.1 ((h z).1 (List.mem_cons_of_mem _ hz)) with e | hz'
      · subst e; exact ((h1.1 z hz).irr hO).elim
      · exact hz'
    · intro hz
      rcases List.mem_cons.1 ((h z).2 (List.mem_cons_of_mem _ hz)) with e | hz'
      · subst e; exact ((h2.1 z hz).irr hO).elim
      · exact hz'
theorem sl_of_srtd {g : Nat → Nat} : ∀ (m a : Nat), Srtd lt a (a + m) g → SL lt ((List.range' a m).map g)
  | 0, _, _ => trivial
  | m + 1, a, h => by
    rw [List.range'_succ, List.map_cons]
    refine ⟨fun y hy => ?_, sl_of_srtd m (a + 1) fun i j h1 h2 h3 => h i j (by omega) h2 (by omega)⟩
    obtain ⟨i, hi, rfl⟩ := List.mem_map.1 hy
    have := List.mem_range'_1.1 hi
    exact h a i (Nat.le_refl _) (by omega) (by omega)
/-! the reference's way: merge -/
def mrg (lt : Nat → Nat → Bool) : List Nat → List Nat → List Nat
  | [], k => k
  | l, [] => l
  | x :: l, y :: k => if lt y x then y :: mrg lt (x :: l) k else x :: mrg lt l (y :: k)
termination_by l k => l.length + k.length
def ms (lt : Nat → Nat → Bool) : Nat → List Nat → List Nat
  | 0, l => l
  | f + 1, l => if l.length < 2 then l else mrg lt (ms lt f (l.take (l.length / 2))) (ms lt f (l.drop (l.length / 2)))
theorem mrg_nil (lt : Nat → Nat → Bool) (k : List Nat) : mrg lt [] k = k := by cases k <;> simp [mrg]
theorem mrg_nil2 (lt : Nat → Nat → Bool) (l : List Nat) : mrg lt l [] = l := by cases l <;> simp [mrg]
theorem mrg_cons (lt : Nat → Nat → Bool) (x y : Nat) (l k : List Nat) : mrg lt (x :: l) (y :: k) = if lt y x then y :: mrg lt (x :: l) k else x :: mrg lt l (y :: k) := by rw [mrg]
theorem mem_mrg (lt : Nat → Nat → Bool) : ∀ (f : Nat) (l k : List Nat), l.length + k.length ≤ f → ∀ x, x ∈ mrg lt l k ↔ x ∈ l ∨ x ∈ k
  | _, [], k, _, x => by rw [mrg_nil]; simp
  | _, l, [], _, x => by rw [mrg_nil2]; simp
  | 0, x :: l, y :: k, h, _ => by simp at h
  | f + 1, x :: l, y :: k, h, z => by
    rw [mrg_cons]
    simp only [List.length_cons] at h
    split
    · rw [List.mem_cons, mem_mrg lt f (x :: l) k (by simp only [List.length_cons]; omega) z]
      simp only [List.mem_cons]
      constructor
      · rintro (h | h | h) <;> simp [h]
      · rintro ((h | h) | h | h) <;> simp [h]
    · rw [List.mem_cons, mem_mrg lt f l (y :: k) (by simp only [List.length_cons]; omega) z]
      simp only [List.mem_cons]
      constructor
      · rintro (h | h | h) <;> simp [h]
      · rintro ((h | h) | h | h) <;> simp [h]
theorem sl_mrg (hO : Swo lt) : ∀ (f : Nat) (l k : List Nat), l.length + k.length ≤ f → SL lt l → SL lt k → (∀ x ∈ l, ∀ y ∈ k, x < y) → SL lt (mrg lt l k)
  | _, [], k, _, _, h, _ => by rw [mrg_nil]; exact h
  | _, l, [], _, h, _, _ => by rw [mrg_nil2]; exact h
  | 0, x :: l, y :: k, h, _, _, _ => by simp at h
  | f + 1, x :: l, y :: k, h, h1, h2, ht => by
    rw [mrg_cons]
    simp only [List.length_cons] at h
    split
    · rename_i c
      have Lyx : L lt y x := .inl c
      refine ⟨fun z hz => ?_, sl_mrg hO f (x :: l) k (by simp only [List.length_cons]; omega) h1 h2.2 fun p hp q hq => ht p hp q (List.mem_cons_of_mem _ hq)⟩
      rcases (mem_mrg lt _ _ _ (Nat.le_refl _) z).1 hz with hz | hz
      · rcases List.mem_cons.1 hz with e | hz
        · subst e; exact Lyx
        · exact Lyx.trans hO (h1.1 z hz)
      · exact h2.1 z hz
    · rename_i c
      have c : lt y x = false := by simpa using c
      have Lxy : L lt x y := .inr ⟨c, ht x (by simp) y (by simp)⟩
      refine ⟨fun z hz => ?_, sl_mrg hO f l (y :: k) (by simp only [List.length_cons]; omega) h1.2 h2 fun p hp q hq => ht p (List.mem_cons_of_mem _ hp) q hq⟩
      rcases (mem_mrg lt _ _ _ (Nat.le_refl _) z).1 hz with hz | hz
      · exact h1.1 z hz
      · rcases List.mem_cons.1 hz with e | hz
        · subst e; exact Lxy
        · exact Lxy.trans hO (h2.1 z hz)
/-- tags rise -/
def Up : List Nat → Prop
  | [] => True
  | x :: r => (∀ y ∈ r, x < y) ∧ Up r
theorem up_take : ∀ {l : List Nat} (k : Nat), Up l → Up (l.take k) ∧ Up (l.drop k) ∧ ∀ x ∈ l.take k, ∀ y ∈ l.drop k, x < y
  | [], k, h => by simp [Up]
  | x :: l, 0, h => by simp [Up]; exact h
  | x :: l, k + 1, h => by
    obtain ⟨h1, h2, h3⟩ := up_take k h.2
    refine ⟨⟨fun y hy => h.1 y (List.mem_of_mem_take hy), h1⟩, h2, fun p hp q hq => ?_⟩
    simp only [List.take_succ_cons, List.drop_succ_cons, List.mem_cons] at hp hq
    rcases hp with rfl | hp
    · exact h.1 q (List.mem_of_mem_drop hq)
    · exact h3 p hp q hq
theorem up_range' : ∀ (m a : Nat), Up (List.range' a m)
  | 0, _ => trivial
  | m + 1, a => by
    rw [List.range'_succ]
    exact ⟨fun y hy => by have := List.mem_range'_1.1 hy; omega, up_range' m (a + 1)⟩
theorem ms_ok (hO : Swo lt) : ∀ (f : Nat) (l : List Nat), l.length ≤ f → Up l → SL lt (ms lt f l) ∧ ∀ x, x ∈ ms lt f l ↔ x ∈ l
  | 0, l, h, _ => by
    have : l = [] := List.eq_nil_of_length_eq_zero (by omega)
    subst this
    exact ⟨trivial, fun _ => Iff.rfl⟩
  | f + 1, l, h, hu => by
    unfold ms
    split
    · rename_i c
      refine ⟨?_, fun _ => Iff.rfl⟩
      match l, c with
      | [], _ => trivial
      | [x], _ => exact ⟨fun y hy => (nomatch hy), trivial⟩
      | x :: y :: r, c => simp only [List.length_cons] at c; omega
    · rename_i c
      obtain ⟨u1, u2, u3⟩ := up_take (l.length / 2) hu
      obtain ⟨s1, m1⟩ := ms_ok hO f (l.take (l.length / 2)) (by simp; omega) u1
      obtain ⟨s2, m2⟩ := ms_ok hO f (l.drop (l.length / 2)) (by simp; omega) u2
      refine ⟨sl_mrg hO _ _ _ (Nat.le_refl _) s1 s2 fun x hx y hy => u3 x ((m1 x).1 hx) y ((m2 y).1 hy), fun x => ?_⟩
      rw [mem_mrg lt _ _ _ (Nat.le_refl _), m1, m2, ← List.mem_append, List.take_append_drop]
/-- the two ways meet -/
theorem meet (hO : Swo lt) {n : Nat} {g : Nat → Nat} (hs : Same 0 n id g) (h : Srtd lt 0 n g) : (List.range' 0 n).map g = ms lt n (List.range' 0 n) := by
  obtain ⟨s, m⟩ := ms_ok hO n (List.range' 0 n) (by simp) (up_range' n 0)
  refine sl_ext hO (sl_of_srtd n 0 (by rw [Nat.zero_add]; exact h)) s fun x => ?_
  rw [m, List.mem_map]
  constructor
  · rintro ⟨i, hi, rfl⟩
    have := List.mem_range'_1.1 hi
    obtain ⟨j, j1, j2, e⟩ := hs.2.1 i (by omega) (by omega)
    rw [e]
    exact List.mem_range'_1.2 ⟨j1, by simpa using j2⟩
  · intro hx
    have := List.mem_range'_1.1 hx
    obtain ⟨j, j1, j2, e⟩ := hs.2.2 x (by omega) (by omega)
    exact ⟨j, List.mem_range'_1.2 ⟨j1, by omega⟩, e.symm⟩
end Srt
end Go.Proofs.YtflapfekfmmcmaaGreatDoor

set_option linter.unusedVariables false
namespace Go.Proofs.YtflapfekfmmcmaaGreatDoor
open Go Go.RowKit Go.Lib
/-- A total preorder as a comparison. -/
structure TP {α : Type} (f : α → α → Int) : Prop where
  anti : ∀ x y, f y x = - f x y
  tr : ∀ x y z, f x y ≤ 0 → f y z ≤ 0 → f x z ≤ 0
theorem TP.swo {f : Nat → Nat → Int} (h : TP f) : Srt.Swo (fun i j => decide (f i j < 0)) := by
  refine ⟨fun x => ?_, fun x y z h1 h2 => ?_, fun x y z h1 => ?_⟩
  · have := h.anti x x; simp only [decide_eq_false_iff_not]; omega
  · simp only [decide_eq_true_eq] at *
    have a1 := h.anti x z; have a2 := h.anti y z
    have t1 := h.tr x y z (by omega) (by omega)
    by_cases e : f x z = 0
    · have := h.tr z x y (by omega) (by omega); omega
    · omega
  · simp only [decide_eq_true_eq] at *
    by_cases c : f x y < 0
    · exact .inl c
    · right
      have a1 := h.anti x y; have a2 := h.anti y z; have a3 := h.anti x z
      by_cases c2 : f y z < 0
      · exact c2
      · have := h.tr z y x (by omega) (by omega); omega
theorem TP.comp {α β : Type} {f : α → α → Int} (h : TP f) (g : β → α) : TP (fun x y => f (g x) (g y)) := ⟨fun x y => h.anti _ _, fun x y z => h.tr _ _ _⟩
theorem TP.neg {α : Type} {f : α → α → Int} (h : TP f) : TP (fun x y => - f x y) := ⟨fun x y => by have := h.anti x y; omega, fun x y z h1 h2 => by
  have a1 := h.anti x y; have a2 := h.anti y z; have a3 := h.anti x z
  have := h.tr z y x (by omega) (by omega); omega⟩
theorem TP.zero {α : Type} : TP (fun _ _ : α => 0) := ⟨fun _ _ => rfl, fun _ _ _ _ _ => Int.le_refl _⟩
theorem TP.lex {α : Type} {g f : α → α → Int} (hg : TP g) (hf : TP f) : TP (fun x y => if g x y ≠ 0 then g x y else f x y) := by
  refine ⟨fun x y => ?_, fun x y z h1 h2 => ?_⟩
  · have a1 := hg.anti x y; have a2 := hf.anti x y
    by_cases e : g x y = 0
    · rw [if_neg (c := g y x ≠ 0) (by omega), if_neg (c := g x y ≠ 0) (by omega)]; exact a2
    · rw [if_pos (c := g y x ≠ 0) (by omega), if_pos (c := g x y ≠ 0) (by omega)]; exact a1
  · have a1 := hg.anti x y; have a2 := hg.anti y z; have a3 := hg.anti x z
    have g1 : g x y ≤ 0 := by
      by_cases e : g x y = 0
      · omega
      · rw [if_pos e] at h1; exact h1
    have g2 : g y z ≤ 0 := by
      by_cases e : g y z = 0
      · omega
      · rw [if_pos e] at h2; exact h2
    have g3 := hg.tr x y z g1 g2
    by_cases e : g x z = 0
    · have t1 := hg.tr z x y (by omega) g1
      have t2 := hg.tr y z x g2 (by omega)
      have e1 : g x y = 0 := by omega
      have e2 : g y z = 0 := by omega
      rw [if_neg (by simpa using e1)] at h1
      rw [if_neg (by simpa using e2)] at h2
      rw [if_neg (by simpa using e)]
      exact hf.tr x y z h1 h2
    · rw [if_pos e]; exact g3
theorem tp_cmpI : TP cmpI := by
  refine ⟨fun x y => ?_, fun x y z => ?_⟩
  · unfold cmpI; (repeat' split) <;> omega
  · unfold cmpI; (repeat' split) <;> omega
theorem cb_anti : ∀ (a b : List UInt8), compareBytes b a = - compareBytes a b
  | [], [] => rfl
  | [], _ :: _ => by simp [compareBytes]
  | _ :: _, [] => by simp [compareBytes]
  | a :: l, b :: k => by
    simp only [compareBytes]
    by_cases h1 : a < b
    · have h2 : ¬ b < a := fun h => by have := UInt8.lt_iff_toNat_lt.1 h1; have := UInt8.lt_iff_toNat_lt.1 h; omega
      rw [if_neg h2, if_pos h1, if_pos h1]; rfl
    · by_cases h2 : b < a
      · rw [if_pos h2, if_neg h1, if_pos h2]
      · rw [if_neg h2, if_neg h1, if_neg h1, if_neg h2]; exact cb_anti l k
theorem cb_tr : ∀ (a b c : List UInt8), compareBytes a b ≤ 0 → compareBytes b c ≤ 0 → compareBytes a c ≤ 0
  | [], _, [], _, _ => by simp [compareBytes]
  | [], _, _ :: _, _, _ => by simp [compareBytes]
  | _ :: _, [], _, h, _ => by simp [compareBytes] at h
  | _ :: _, _ :: _, [], _, h => by simp [compareBytes] at h
  | a :: l, b :: k, c :: m, h1, h2 => by
    simp only [compareBytes] at h1 h2 ⊢
    have lt := fun (x y : UInt8) => @UInt8.lt_iff_toNat_lt x y
    simp only [lt] at h1 h2 ⊢
    have ih := cb_tr l k m
    by_cases p1 : a.toNat < c.toNat
    · rw [if_pos p1]; omega
    · rw [if_neg p1]
      by_cases q1 : a.toNat < b.toNat
      · by_cases q2 : b.toNat < c.toNat
        · omega
        · rw [if_neg q2] at h2
          by_cases q3 : c.toNat < b.toNat
          · rw [if_pos q3] at h2; omega
          · omega
      · rw [if_neg q1] at h1
        by_cases q2 : b.toNat < a.toNat
        · rw [if_pos q2] at h1; omega
        · rw [if_neg q2] at h1
          by_cases q3 : b.toNat < c.toNat
          · omega
          · rw [if_neg q3] at h2
            by_cases q4 : c.toNat < b.toNat
            · rw [if_pos q4] at h2; omega
            · rw [if_neg q4] at h2
              rw [if_neg (by omega)]
              exact ih h1 h2
theorem tp_cmpS : TP cmpS := ⟨fun x y => cb_anti _ _, fun x y z => cb_tr _ _ _⟩
/-- a column's order: nothing first; a column of texts, or of numbers -/
def ordC (t : Bool) (x y : Vl) : Int := if cmpI (if x.k ≤ 0 then 0 else 1) (if y.k ≤ 0 then 0 else 1) ≠ 0 then cmpI (if x.k ≤ 0 then 0 else 1) (if y.k ≤ 0 then 0 else 1) else if x.k ≤ 0 then 0 else if t then cmpS x.s y.s else cmpI x.n y.n
theorem ordV_col {t : Bool} {x y : Vl} (hx : 0 ≤ x.k ∧ x.k ≤ 4) (hy : 0 ≤ y.k ∧ y.k ≤ 4) (hu : x.k = 0 ∨ y.k = 0 ∨ x.k = y.k) (ht : x.k ≠ 0 → (t = decide (x.k = 4))) : ordV x y = ordC t x y := by
  unfold ordV ordC
  by_cases h0 : x.k = 0
  · rw [if_pos (.inl h0)]
    by_cases h1 : y.k = 0
    · simp [h0, h1, cmpI]
    · have : ¬ y.k ≤ 0 := by omega
      have e : min y.k 1 = 1 := by omega
      have m0 : min (0 : Int) 1 = 0 := rfl
      simp [h0, this, e, cmpI, m0]
  · have n0 : ¬ x.k ≤ 0 := by omega
    by_cases h1 : y.k = 0
    · have e : min x.k 1 = 1 := by omega
      have m0 : min (0 : Int) 1 = 0 := rfl
      simp [h1, n0, e, cmpI, m0]
    · have n1 : ¬ y.k ≤ 0 := by omega
      have hk : x.k = y.k := by omega
      rw [if_neg (by omega), if_neg (by simpa using hk)]
      rw [ht h0]
      simp only [n0, n1, if_false, decide_eq_true_eq]
      simp [cmpI]
end Go.Proofs.YtflapfekfmmcmaaGreatDoor
