/- PROVED: closed facts of the row. CONDITIONS: none. -/
import Derived.Test.YtflapfekfmmcmaaGreatDoorJoG
import Derived.Test.YtflapfekfmmcmaaGreatDoorJoH
import Derived.Test.YtflapfekfmmcmaaGreatDoorJoI
import Derived.Test.YtflapfekfmmcmaaGreatDoorJoK
import Derived.Test.YtflapfekfmmcmaaGreatDoorRows
import Derived.JoinedOf
import GoSem.ClaimFollow
import Derived.KernelRfl
namespace Go.Proofs.YtflapfekfmmcmaaGreatDoor
open Go
theorem take_drop4 {α : Type} (l : List α) (q : Nat) (h : l.length ≤ 4 * q) : l = (l.drop 0).take q ++ ((l.drop q).take q ++ ((l.drop (2 * q)).take q ++ (l.drop (3 * q)).take q)) := by
  have e3 : (l.drop (3 * q)).take q = l.drop (3 * q) := List.take_of_length_le (by rw [List.length_drop]; omega)
  have k2 : (l.drop (2 * q)).take q ++ l.drop (3 * q) = l.drop (2 * q) := by
    have := List.take_append_drop q (l.drop (2 * q)); rwa [List.drop_drop, show 2 * q + q = 3 * q by omega] at this
  have k1 : (l.drop q).take q ++ l.drop (2 * q) = l.drop q := by
    have := List.take_append_drop q (l.drop q); rwa [List.drop_drop, show q + q = 2 * q by omega] at this
  rw [e3, k2, k1, List.drop_zero, List.take_append_drop]
def nthL : List (List Nat) → Nat → List Nat
  | [], _ => []
  | x :: _, 0 => x
  | _ :: l, n + 1 => nthL l n
theorem nthL_eq : ∀ (l : List (List Nat)) (n : Nat), nthL l n = (l[n]?).getD []
  | [], _ => by simp [nthL]
  | x :: _, 0 => rfl
  | _ :: l, n + 1 => by simp [nthL, nthL_eq l n]
def cloB (L : List (List Nat)) : Nat → List Nat → Nat → List Nat → List Nat
  | 0, _, _, acc => acc.reverse
  | _ + 1, [], _, acc => acc.reverse
  | n + 1, f :: todo, m, acc => match Nat.beq (Nat.land (Nat.shiftRight m f) 1) 1 with
    | true => cloB L n todo m acc
    | false => cloB L n (nthL L f ++ todo) (Nat.lor m (Nat.shiftLeft 1 f)) (f :: acc)
theorem bit_eq (m f : Nat) : Nat.beq (Nat.land (Nat.shiftRight m f) 1) 1 = m.testBit f := by
  show Nat.beq ((m >>> f) &&& 1) 1 = m.testBit f
  unfold Nat.testBit
  rw [Nat.and_comm]
  have h : 1 &&& m >>> f = 0 ∨ 1 &&& m >>> f = 1 := by
    rw [Nat.and_comm, Nat.and_one_is_mod]
    omega
  rcases h with h | h <;> rw [h] <;> rfl
theorem clo_eq {P : Program} {L : List (List Nat)} (hL : P.funcs.toList.map P.leadsTo = L) : ∀ (n : Nat) (todo : List Nat) (m : Nat) (acc : List Nat), (∀ f, m.testBit f = acc.contains f) → P.closureVia n todo acc = cloB L n todo m acc
  | 0, _, _, _, _ => rfl
  | _ + 1, [], _, _, _ => rfl
  | n + 1, f :: todo, m, acc, h => by
    simp only [Program.closureVia, cloB, bit_eq, h f]
    cases hc : acc.contains f with
    | true => simpa using clo_eq hL n todo m acc h
    | false =>
      have e : (P.funcs[f]?).elim [] P.leadsTo = nthL L f := by
        rw [nthL_eq, ← hL, List.getElem?_map, Array.getElem?_toList]
        cases P.funcs[f]? <;> rfl
      simp only [Bool.false_eq_true, if_false, e]
      refine clo_eq hL n _ _ _ fun g => ?_
      show (m ||| (1 <<< f)).testBit g = (f :: acc).contains g
      rw [Nat.testBit_or, h g, Nat.one_shiftLeft, Nat.testBit_two_pow, List.contains_cons]
      by_cases e2 : f = g
      · subst e2; simp
      · have e3 : (g == f) = false := by simpa using fun x => e2 x.symm
        rw [decide_eq_false e2, e3, Bool.or_false, Bool.false_or]
theorem led_all : Tryz.pinned.checked.prog.funcs.toList.map Tryz.pinned.checked.prog.leadsTo = ldL := by
  have hn : Tryz.pinned.checked.prog.funcs.toList.length ≤ 4 * 131 := by
    have : (Tryz.pinned.checked.prog.funcs.size ≤ 4 * 131) := of_decide_eq_true (by kernel_rfl)
    simpa using this
  have hm : ldL.length ≤ 4 * 131 := of_decide_eq_true (by kernel_rfl)
  have h0 := ld0
  have h1 := ld1
  have h2 := ld2
  have h3 := ld3
  rw [take_drop4 Tryz.pinned.checked.prog.funcs.toList 131 hn, List.map_append, List.map_append, List.map_append, take_drop4 ldL 131 hm]
  exact congr (congrArg _ h0) (congr (congrArg _ h1) (congr (congrArg _ h2) h3))
def cl : List Nat := [3, 4, 9, 5, 10, 22, 39, 56, 88, 90, 125, 126, 164, 210, 165, 166, 211, 167, 212, 302, 189, 243, 168, 169, 213, 303, 153, 194, 362, 402, 109, 304, 110, 305, 178, 227, 363, 364, 403, 420, 365, 306, 366, 404, 421, 422, 214, 215, 216, 307, 102, 140, 139, 141, 143, 177, 142, 145, 180, 229, 179, 228, 320, 191, 190, 144, 321, 375, 356, 400, 419, 401, 217, 308, 89, 124, 57, 58, 91, 59, 92, 94, 98, 137, 61, 95, 132, 62, 172, 221, 315, 316, 372, 412, 413, 127, 133, 128, 99, 129, 170, 131, 171, 219, 220, 313, 314, 370, 407, 409, 371, 410, 411, 433, 442, 138, 175, 222, 317, 373, 374, 176, 223, 318, 224, 225, 108, 152, 193, 245, 246, 328, 327, 329, 247, 248, 330, 331, 379, 380, 319, 226, 447, 311, 448, 450, 454, 457, 443, 456, 451, 449, 452, 453, 455, 458, 368, 408, 369, 312, 218, 309, 310, 367, 406, 432, 405, 423, 429, 441, 424, 436, 425, 437, 438, 426, 439, 440, 446, 427, 428, 430, 431, 93, 130, 96, 60, 97, 134, 135, 173, 174, 136, 100, 101, 40, 63, 103, 104, 146, 181, 147, 148, 182, 230, 231, 232, 188, 80, 241, 242, 325, 377, 378, 326, 233, 234, 322, 81, 376, 359, 414, 235, 236, 237, 186, 238, 239, 183, 149, 184, 105, 29, 50, 150, 185, 187, 240, 323, 324, 41, 64, 23, 42, 65, 106, 66, 69, 67, 107, 151, 192, 244, 68, 70, 43, 71, 32, 44, 72, 16, 18, 34, 35, 52, 84, 85, 121, 161, 53, 86, 33, 51, 82, 83, 120, 160, 24, 25, 45, 73, 111, 112, 113, 114, 74, 48, 79, 118, 154, 155, 195, 196, 156, 197, 157, 198, 199, 249, 334, 386, 385, 335, 382, 387, 336, 337, 338, 332, 381, 383, 384, 333, 200, 201, 250, 158, 202, 251, 341, 340, 388, 389, 415, 434, 339, 345, 252, 342, 390, 416, 253, 343, 391, 392, 254, 344, 393, 255, 256, 257, 346, 258, 259, 347, 394, 260, 348, 261, 349, 262, 263, 264, 350, 265, 266, 351, 395, 267, 352, 396, 417, 435, 444, 445, 268, 353, 397, 398, 418, 269, 354, 399, 270, 271, 272, 273, 274, 275, 276, 277, 278, 279, 280, 355, 281, 282, 283, 284, 285, 286, 287, 357, 288, 358, 289, 290, 291, 292, 360, 293, 294, 295, 361, 296, 203, 204, 205, 27, 49, 297, 298, 119, 159, 206, 207, 208, 209, 299, 300, 301, 46, 75, 115, 76, 77, 47, 78, 116, 117, 26, 6, 11, 28, 12, 30, 13, 15, 14, 31, 17, 7, 19, 36, 54, 20, 37, 55, 87, 122, 123, 162, 163, 8, 21, 38]
theorem fuel_eq (L : List Func) : (L.map fun g => (Tryz.pinned.checked.prog.leadsTo g).length + 1).sum = ((L.map Tryz.pinned.checked.prog.leadsTo).map fun l => l.length + 1).sum := by rw [List.map_map]; rfl
theorem cl_eq : Tryz.pinned.checked.prog.closure 3 = cl := by
  unfold Program.closure
  rw [fuel_eq, led_all, clo_eq led_all _ _ 0 [] (fun f => by simp)]
  kernel_rfl
end Go.Proofs.YtflapfekfmmcmaaGreatDoor
