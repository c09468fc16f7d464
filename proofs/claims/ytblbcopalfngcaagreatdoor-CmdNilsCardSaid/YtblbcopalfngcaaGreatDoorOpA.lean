/- PROVED: what syntax.Operators returns (part OpA). CONDITIONS: none. -/
import Derived.Test.YtblbcopalfngcaaGreatDoorEvE
import Derived.Test.YtblbcopalfngcaaGreatDoorProg
import Derived.KernelRfl
import Derived.Sort.EncStr
set_option linter.unusedVariables false
namespace Go.Ev
open Go Go.Proofs
def encN (l : List Nat) : Value := encStr (l.map Nat.toUInt8)
def ent (x : List Nat × List Nat × Nat) : MapEntry := { key := encN x.1, val := encN x.2.1, born := x.2.2 }
def entA : List (List Nat × List Nat × Nat) → List (AV × AV × Nat)
  | [] => []
  | (k, v, n) :: l => (.str k, .str v, n) :: entA l

theorem str_enc {μ : Mp} {l : List Nat} {v : Value} (h : VR μ (.str l) v) : v = encN l := by
  cases h with
  | str _ s h =>
    subst h
    simp only [encN, encStr, List.map_map, Value.string.injEq]
    have : List.map (Nat.toUInt8 ∘ UInt8.toNat) s.data.toList = s.data.toList := by
      conv => rhs; rw [← List.map_id s.data.toList]
      exact List.map_congr_left fun x _ => by simp
    rw [this]

theorem ents_inv {μ : Mp} : ∀ {l : List (List Nat × List Nat × Nat)} {a : List MapEntry}, ERs μ (entA l) a → a = l.map ent
  | [], _, h => by cases h; rfl
  | (k, v, n) :: l, _, h => by
    simp only [entA] at h
    cases h with
    | cons _ _ _ _ k' v' a hk hv t =>
      rw [str_enc hk, str_enc hv, ents_inv t]; rfl
end Go.Ev

set_option linter.unusedVariables false
namespace Go.Ev
open Go Go.Proofs Go.RowKit
noncomputable section
def lvE : List (List (List Nat × List Nat × Nat)) := [[([46, 79, 82, 46], [46, 79, 82, 46], 0)],
  [([46, 65, 78, 68, 46], [46, 65, 78, 68, 46], 0)],
  [([61], [61], 0), ([61, 61], [61, 61], 1), ([60, 62], [60, 62], 2), ([35], [60, 62], 3), ([33, 61], [60, 62], 4), ([60], [60], 5), ([62], [62], 6), ([60, 61], [60, 61], 7), ([62, 61], [62, 61], 8), ([36], [36], 9)],
  [([43], [43], 0), ([45], [45], 1)],
  [([42], [42], 0), ([47], [47], 1), ([37], [37], 2)],
  [([94], [94], 0)]]

theorem lv_names : namesB Tryz.prog = true := by kernel_rfl
theorem lv_follows : Tryz.prog.follows .mixedOrders = true := by kernel_rfl
theorem lv_ok : EvOk Tryz.prog (extOf []) (regD Tryz.prog (extOf [])) := evOk_of lv_names (fun g k h => by cases h) lv_follows
def lvRun : Option (AV × AH) := evCall Tryz.prog (extOf []) (regD Tryz.prog (extOf [])) noHook 1000 (.fn 338) [] (baseH 0 [])
def lvSee : Option (AV × AH) → Option (AV × List (Option AB))
  | some (z, H) => some (z, (List.range 6).map fun j => H.m.get (j + 1))
  | none => none
theorem lv_run : lvSee lvRun = some (.agg [.map 1, .map 2, .map 3, .map 4, .map 5, .map 6], lvE.map fun es => some (.map (entA es) es.length)) := by kernel_rfl

def MapsAt (w : World) : List Nat → List (List (List Nat × List Nat × Nat)) → Prop
  | [], [] => True
  | b :: l, es :: r => w.heap[b]? = some (.map ⟨es.map ent⟩ es.length) ∧ MapsAt w l r
  | _, _ => False
theorem levels_calls (w : World) : Calls Tryz.prog 338 #[] w fun e w' => ∃ b0 b1 b2 b3 b4 b5 : Nat, e = .returned (.agg #[.map (some b0), .map (some b1), .map (some b2), .map (some b3), .map (some b4), .map (some b5)]) ∧
    MapsAt w' [b0, b1, b2, b3, b4, b5] lvE ∧ Below w.heap.size w w' := by
  have h := lv_run
  cases hc : lvRun with
  | none => rw [hc] at h; cases h
  | some r =>
    obtain ⟨z, H'⟩ := r
    rw [hc] at h
    simp only [lvSee, Option.some.injEq, Prod.mk.injEq] at h
    obtain ⟨rfl, hm⟩ := h
    refine ((evCall_sound lv_ok noHook_ok 1000).fn 338 [] _ _ H' hc (startMp 0 w) w [] (start_Rel (by rfl) (fun x hx => by cases hx)) .nil).mono ?_
    rintro e W' ⟨u, μ', rfl, hu, hs⟩
    cases hu with
    | agg _ a ha =>
    cases ha with | cons _ v0 _ a h0 ha =>
    cases ha with | cons _ v1 _ a h1 ha =>
    cases ha with | cons _ v2 _ a h2 ha =>
    cases ha with | cons _ v3 _ a h3 ha =>
    cases ha with | cons _ v4 _ a h4 ha =>
    cases ha with | cons _ v5 _ a h5 ha =>
    cases ha
    cases h0 with | map _ p0 q0 =>
    cases h1 with | map _ p1 q1 =>
    cases h2 with | map _ p2 q2 =>
    cases h3 with | map _ p3 q3 =>
    cases h4 with | map _ p4 q4 =>
    cases h5 with | map _ p5 q5 =>
    simp only [lvE, List.map_cons, List.map_nil, List.range_succ, List.range_zero, List.nil_append, List.cons_append, List.cons.injEq] at hm
    obtain ⟨m0, m1, m2, m3, m4, m5, _⟩ := hm
    have key : ∀ {k : Nat} {p : Pl} {es : List (List Nat × List Nat × Nat)} {n : Nat}, μ' k = some p → H'.m.get k = some (.map (entA es) n) → W'.heap[p.blk]? = some (.map ⟨es.map ent⟩ n) := by
      intro k p es n hp hg
      obtain ⟨p', hp', a, hb, he⟩ := hs.rel.blk k _ hg
      rw [hp] at hp'; cases hp'
      rw [hb, ents_inv he]
    refine ⟨p0.blk, p1.blk, p2.blk, p3.blk, p4.blk, p5.blk, rfl, ?_, ⟨hs.keeps.os, hs.keeps.tape, hs.keeps.output, hs.keeps.size, fun k hk => hs.keeps.same k hk ?_⟩⟩
    · exact ⟨key q0 m0, key q1 m1, key q2 m2, key q3 m3, key q4 m4, key q5 m5, trivial⟩
    · intro b B p hB hro
      obtain ⟨x, hx, _⟩ := baseM_get hB
      cases hx
end
end Go.Ev
