/- PROVED: closed facts of the row. CONDITIONS: none. -/
import Derived.Test.YtmomolpgjkejgaaGreatDoorJoG
import Derived.Test.YtmomolpgjkejgaaGreatDoorJoH
import Derived.Test.YtmomolpgjkejgaaGreatDoorJoI
import Derived.Test.YtmomolpgjkejgaaGreatDoorJoK
import Derived.Test.YtmomolpgjkejgaaGreatDoorRows
import Derived.JoinedOf
import GoSem.ClaimFollow
import Derived.KernelRfl
namespace Go.Proofs.YtmomolpgjkejgaaGreatDoor
open Go
theorem take_drop4 {α : Type} (l : List α) (q : Nat) (h : l.length ≤ 4 * q) : l = (l.drop 0).take q ++ ((l.drop q).take q ++ ((l.drop (2 * q)).take q ++ (l.drop (3 * q)).take q)) := by
  have e3 : (l.drop (3 * q)).take q = l.drop (3 * q) := List.take_of_length_le (by rw [List.length_drop]; omega)
  have k2 : (l.drop (2 * q)).take q ++ l.drop (3 * q) = l.drop (2 * q) := by
    have := List.take_append_drop q (l.drop (2 * q)); rwa [List.drop_drop, show 2 * q + q = 3 * q by omega] at this
  have k1 : (l.drop q).take q ++ l.drop (2 * q) = l.drop q := by
    have := List.take_append_drop q (l.drop q); rwa [List.drop_drop, show q + q = 2 * q by omega] at this
  rw [e3, k2, k1, List.drop_zero, List.take_append_drop]
def nthL : List (List Nat) → Nat → List Nat
  | [], _ => []
  | x :: _, 0 => x
  | _ :: l, n + 1 => nthL l n
theorem nthL_eq : ∀ (l : List (List Nat)) (n : Nat), nthL l n = (l[n]?).getD []
  | [], _ => by simp [nthL]
  | x :: _, 0 => rfl
  | _ :: l, n + 1 => by simp [nthL, nthL_eq l n]
def cloB (L : List (List Nat)) : Nat → List Nat → Nat → List Nat → List Nat
  | 0, _, _, acc => acc.reverse
  | _ + 1, [], _, acc => acc.reverse
  | n + 1, f :: todo, m, acc => match Nat.beq (Nat.land (Nat.shiftRight m f) 1) 1 with
    | true => cloB L n todo m acc
    | false => cloB L n (nthL L f ++ todo) (Nat.lor m (Nat.shiftLeft 1 f)) (f :: acc)
theorem bit_eq (m f : Nat) : Nat.beq (Nat.land (Nat.shiftRight m f) 1) 1 = m.testBit f := by
  show Nat.beq ((m >>> f) &&& 1) 1 = m.testBit f
  unfold Nat.testBit
  rw [Nat.and_comm]
  have h : 1 &&& m >>> f = 0 ∨ 1 &&& m >>> f = 1 := by
    rw [Nat.and_comm, Nat.and_one_is_mod]
    omega
  rcases h with h | h <;> rw [h] <;> rfl
theorem clo_eq {P : Program} {L : List (List Nat)} (hL : P.funcs.toList.map P.leadsTo = L) : ∀ (n : Nat) (todo : List Nat) (m : Nat) (acc : List Nat), (∀ f, m.testBit f = acc.contains f) → P.closureVia n todo acc = cloB L n todo m acc
  | 0, _, _, _, _ => rfl
  | _ + 1, [], _, _, _ => rfl
  | n + 1, f :: todo, m, acc, h => by
    simp only [Program.closureVia, cloB, bit_eq, h f]
    cases hc : acc.contains f with
    | true => simpa using clo_eq hL n todo m acc h
    | false =>
      have e : (P.funcs[f]?).elim [] P.leadsTo = nthL L f := by
        rw [nthL_eq, ← hL, List.getElem?_map, Array.getElem?_toList]
        cases P.funcs[f]? <;> rfl
      simp only [Bool.false_eq_true, if_false, e]
      refine clo_eq hL n _ _ _ fun g => ?_
      show (m ||| (1 <<< f)).testBit g = (f :: acc).contains g
      rw [Nat.testBit_or, h g, Nat.one_shiftLeft, Nat.testBit_two_pow, List.contains_cons]
      by_cases e2 : f = g
      · subst e2; simp
      · have e3 : (g == f) = false := by simpa using fun x => e2 x.symm
        rw [decide_eq_false e2, e3, Bool.or_false, Bool.false_or]
theorem led_all : Tryz.pinned.checked.prog.funcs.toList.map Tryz.pinned.checked.prog.leadsTo = ldL := by
  have hn : Tryz.pinned.checked.prog.funcs.toList.length ≤ 4 * 128 := by
    have : (Tryz.pinned.checked.prog.funcs.size ≤ 4 * 128) := of_decide_eq_true (by kernel_rfl)
    simpa using this
  have hm : ldL.length ≤ 4 * 128 := of_decide_eq_true (by kernel_rfl)
  have h0 := ld0
  have h1 := ld1
  have h2 := ld2
  have h3 := ld3
  rw [take_drop4 Tryz.pinned.checked.prog.funcs.toList 128 hn, List.map_append, List.map_append, List.map_append, take_drop4 ldL 128 hm]
  exact congr (congrArg _ h0) (congr (congrArg _ h1) (congr (congrArg _ h2) h3))
def cl : List Nat := [3, 4, 9, 5, 10, 16, 28, 45, 75, 77, 110, 111, 152, 203, 153, 154, 204, 155, 205, 295, 177, 236, 156, 157, 206, 296, 73, 107, 350, 388, 41, 297, 43, 298, 166, 220, 351, 352, 389, 406, 353, 299, 354, 390, 407, 408, 207, 208, 209, 300, 89, 125, 124, 126, 128, 165, 127, 130, 168, 222, 167, 221, 313, 179, 178, 129, 314, 363, 344, 386, 405, 387, 210, 301, 76, 109, 46, 47, 78, 48, 79, 81, 85, 122, 50, 82, 117, 51, 160, 214, 308, 309, 360, 398, 399, 112, 118, 113, 86, 114, 158, 116, 159, 212, 213, 306, 307, 358, 393, 395, 359, 396, 397, 419, 428, 123, 163, 215, 310, 361, 362, 164, 216, 311, 217, 218, 42, 74, 108, 148, 149, 199, 198, 200, 150, 151, 201, 202, 293, 294, 312, 219, 433, 304, 434, 436, 440, 443, 429, 442, 437, 435, 438, 439, 441, 444, 356, 394, 357, 305, 211, 302, 303, 355, 392, 418, 391, 409, 415, 427, 410, 422, 411, 423, 424, 412, 425, 426, 432, 413, 414, 416, 417, 80, 115, 83, 49, 84, 119, 120, 161, 162, 121, 87, 88, 29, 52, 90, 91, 131, 169, 132, 133, 170, 223, 224, 225, 176, 71, 234, 235, 318, 365, 366, 319, 226, 227, 315, 72, 364, 347, 400, 228, 229, 230, 174, 231, 232, 171, 134, 172, 92, 23, 40, 135, 173, 175, 233, 316, 317, 30, 53, 17, 31, 54, 93, 55, 58, 56, 94, 136, 180, 237, 57, 59, 12, 24, 25, 32, 60, 33, 34, 62, 63, 96, 139, 140, 182, 239, 97, 141, 61, 95, 137, 138, 181, 238, 18, 19, 35, 64, 98, 99, 100, 101, 65, 38, 70, 105, 142, 143, 183, 184, 144, 185, 145, 186, 187, 240, 322, 372, 371, 323, 368, 373, 324, 325, 326, 320, 367, 369, 370, 321, 188, 189, 241, 146, 190, 242, 329, 328, 374, 375, 401, 420, 327, 333, 243, 330, 376, 402, 244, 331, 377, 378, 245, 332, 379, 246, 247, 248, 334, 249, 250, 335, 380, 251, 336, 252, 337, 253, 254, 255, 338, 256, 257, 339, 381, 258, 340, 382, 403, 421, 430, 431, 259, 341, 383, 384, 404, 260, 342, 385, 261, 262, 263, 264, 265, 266, 267, 268, 269, 270, 271, 343, 272, 273, 274, 275, 276, 277, 278, 345, 279, 346, 280, 281, 282, 283, 348, 284, 285, 286, 349, 287, 191, 192, 193, 21, 39, 288, 289, 106, 147, 194, 195, 196, 197, 290, 291, 292, 36, 66, 102, 67, 68, 37, 69, 103, 104, 20, 6, 11, 22, 7, 13, 26, 44, 14, 15, 27, 8]
theorem fuel_eq (L : List Func) : (L.map fun g => (Tryz.pinned.checked.prog.leadsTo g).length + 1).sum = ((L.map Tryz.pinned.checked.prog.leadsTo).map fun l => l.length + 1).sum := by rw [List.map_map]; rfl
theorem cl_eq : Tryz.pinned.checked.prog.closure 3 = cl := by
  unfold Program.closure
  rw [fuel_eq, led_all, clo_eq led_all _ _ 0 [] (fun f => by simp)]
  kernel_rfl
end Go.Proofs.YtmomolpgjkejgaaGreatDoor
