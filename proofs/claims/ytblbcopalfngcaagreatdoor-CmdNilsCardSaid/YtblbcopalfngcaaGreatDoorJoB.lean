/- PROVED: closed facts of the row. CONDITIONS: none. -/
import Derived.Test.YtblbcopalfngcaaGreatDoorJoG
import Derived.Test.YtblbcopalfngcaaGreatDoorJoH
import Derived.Test.YtblbcopalfngcaaGreatDoorJoI
import Derived.Test.YtblbcopalfngcaaGreatDoorJoK
import Derived.Test.YtblbcopalfngcaaGreatDoorRows
import Derived.JoinedOf
import GoSem.ClaimFollow
import Derived.KernelRfl
namespace Go.Proofs.YtblbcopalfngcaaGreatDoor
open Go
theorem take_drop4 {α : Type} (l : List α) (q : Nat) (h : l.length ≤ 4 * q) : l = (l.drop 0).take q ++ ((l.drop q).take q ++ ((l.drop (2 * q)).take q ++ (l.drop (3 * q)).take q)) := by
  have e3 : (l.drop (3 * q)).take q = l.drop (3 * q) := List.take_of_length_le (by rw [List.length_drop]; omega)
  have k2 : (l.drop (2 * q)).take q ++ l.drop (3 * q) = l.drop (2 * q) := by
    have := List.take_append_drop q (l.drop (2 * q)); rwa [List.drop_drop, show 2 * q + q = 3 * q by omega] at this
  have k1 : (l.drop q).take q ++ l.drop (2 * q) = l.drop q := by
    have := List.take_append_drop q (l.drop q); rwa [List.drop_drop, show q + q = 2 * q by omega] at this
  rw [e3, k2, k1, List.drop_zero, List.take_append_drop]
def nthL : List (List Nat) → Nat → List Nat
  | [], _ => []
  | x :: _, 0 => x
  | _ :: l, n + 1 => nthL l n
theorem nthL_eq : ∀ (l : List (List Nat)) (n : Nat), nthL l n = (l[n]?).getD []
  | [], _ => by simp [nthL]
  | x :: _, 0 => rfl
  | _ :: l, n + 1 => by simp [nthL, nthL_eq l n]
def cloB (L : List (List Nat)) : Nat → List Nat → Nat → List Nat → List Nat
  | 0, _, _, acc => acc.reverse
  | _ + 1, [], _, acc => acc.reverse
  | n + 1, f :: todo, m, acc => match Nat.beq (Nat.land (Nat.shiftRight m f) 1) 1 with
    | true => cloB L n todo m acc
    | false => cloB L n (nthL L f ++ todo) (Nat.lor m (Nat.shiftLeft 1 f)) (f :: acc)
theorem bit_eq (m f : Nat) : Nat.beq (Nat.land (Nat.shiftRight m f) 1) 1 = m.testBit f := by
  show Nat.beq ((m >>> f) &&& 1) 1 = m.testBit f
  unfold Nat.testBit
  rw [Nat.and_comm]
  have h : 1 &&& m >>> f = 0 ∨ 1 &&& m >>> f = 1 := by
    rw [Nat.and_comm, Nat.and_one_is_mod]
    omega
  rcases h with h | h <;> rw [h] <;> rfl
theorem clo_eq {P : Program} {L : List (List Nat)} (hL : P.funcs.toList.map P.leadsTo = L) : ∀ (n : Nat) (todo : List Nat) (m : Nat) (acc : List Nat), (∀ f, m.testBit f = acc.contains f) → P.closureVia n todo acc = cloB L n todo m acc
  | 0, _, _, _, _ => rfl
  | _ + 1, [], _, _, _ => rfl
  | n + 1, f :: todo, m, acc, h => by
    simp only [Program.closureVia, cloB, bit_eq, h f]
    cases hc : acc.contains f with
    | true => simpa using clo_eq hL n todo m acc h
    | false =>
      have e : (P.funcs[f]?).elim [] P.leadsTo = nthL L f := by
        rw [nthL_eq, ← hL, List.getElem?_map, Array.getElem?_toList]
        cases P.funcs[f]? <;> rfl
      simp only [Bool.false_eq_true, if_false, e]
      refine clo_eq hL n _ _ _ fun g => ?_
      show (m ||| (1 <<< f)).testBit g = (f :: acc).contains g
      rw [Nat.testBit_or, h g, Nat.one_shiftLeft, Nat.testBit_two_pow, List.contains_cons]
      by_cases e2 : f = g
      · subst e2; simp
      · have e3 : (g == f) = false := by simpa using fun x => e2 x.symm
        rw [decide_eq_false e2, e3, Bool.or_false, Bool.false_or]
theorem led_all : Tryz.pinned.checked.prog.funcs.toList.map Tryz.pinned.checked.prog.leadsTo = ldL := by
  have hn : Tryz.pinned.checked.prog.funcs.toList.length ≤ 4 * 183 := by
    have : (Tryz.pinned.checked.prog.funcs.size ≤ 4 * 183) := of_decide_eq_true (by kernel_rfl)
    simpa using this
  have hm : ldL.length ≤ 4 * 183 := of_decide_eq_true (by kernel_rfl)
  have h0 := ld0
  have h1 := ld1
  have h2 := ld2
  have h3 := ld3
  rw [take_drop4 Tryz.pinned.checked.prog.funcs.toList 183 hn, List.map_append, List.map_append, List.map_append, take_drop4 ldL 183 hm]
  exact congr (congrArg _ h0) (congr (congrArg _ h1) (congr (congrArg _ h2) h3))
def cl : List Nat := [3, 4, 10, 12, 40, 55, 104, 76, 121, 173, 174, 175, 176, 177, 255, 256, 257, 258, 259, 179, 79, 125, 124, 77, 122, 178, 180, 260, 261, 80, 105, 41, 88, 106, 53, 69, 139, 140, 202, 89, 42, 90, 36, 57, 13, 43, 91, 37, 86, 136, 196, 135, 137, 197, 278, 335, 279, 198, 280, 336, 395, 445, 419, 508, 357, 356, 529, 581, 199, 78, 123, 160, 181, 161, 162, 240, 182, 163, 241, 305, 262, 315, 242, 306, 354, 355, 183, 200, 282, 338, 112, 159, 238, 239, 158, 229, 235, 304, 230, 299, 231, 300, 301, 232, 302, 303, 353, 233, 234, 236, 237, 60, 281, 337, 201, 72, 120, 283, 26, 28, 71, 70, 39, 38, 14, 44, 92, 141, 203, 284, 205, 56, 50, 97, 98, 99, 147, 155, 215, 216, 116, 165, 166, 167, 245, 307, 308, 117, 168, 246, 309, 358, 310, 359, 247, 248, 249, 217, 152, 225, 153, 226, 223, 224, 292, 295, 294, 349, 293, 218, 154, 227, 219, 220, 114, 221, 222, 148, 100, 149, 102, 204, 285, 339, 340, 396, 397, 341, 398, 342, 399, 400, 446, 447, 101, 150, 532, 587, 586, 533, 583, 588, 534, 535, 536, 530, 582, 584, 585, 531, 401, 347, 411, 500, 348, 412, 402, 343, 403, 448, 539, 538, 589, 243, 560, 596, 598, 537, 543, 449, 540, 590, 597, 450, 541, 591, 559, 451, 542, 592, 452, 453, 454, 544, 455, 456, 545, 593, 457, 546, 458, 547, 459, 460, 461, 548, 462, 463, 549, 594, 464, 550, 364, 422, 510, 562, 563, 465, 551, 420, 509, 561, 466, 552, 595, 467, 468, 469, 470, 471, 472, 473, 474, 475, 476, 477, 553, 478, 479, 480, 481, 482, 483, 484, 554, 485, 555, 486, 487, 488, 489, 556, 490, 491, 492, 151, 493, 404, 405, 406, 494, 557, 495, 496, 286, 344, 407, 408, 409, 410, 497, 498, 499, 93, 142, 206, 208, 288, 185, 265, 264, 296, 350, 413, 501, 414, 503, 502, 209, 210, 207, 287, 94, 143, 144, 95, 145, 211, 59, 65, 119, 172, 82, 127, 188, 129, 128, 251, 311, 312, 360, 361, 313, 362, 314, 363, 421, 252, 253, 254, 212, 213, 289, 345, 267, 319, 320, 373, 433, 290, 291, 346, 214, 45, 46, 87, 138, 24, 66, 11, 5, 15, 6, 16, 47, 48, 96, 146, 107, 156, 186, 266, 318, 372, 268, 321, 374, 375, 434, 376, 377, 435, 436, 521, 378, 379, 380, 381, 269, 271, 270, 272, 228, 297, 325, 322, 351, 415, 504, 323, 382, 437, 522, 523, 576, 605, 383, 438, 439, 440, 524, 525, 577, 606, 298, 352, 416, 417, 418, 505, 506, 558, 507, 7, 17, 49, 51, 63, 115, 164, 244, 19, 18, 52, 20, 21, 54, 103, 22, 58, 108, 109, 110, 23, 62, 113, 61, 111, 157, 64, 118, 169, 171, 170, 250, 8, 25, 67, 27, 68, 9, 29, 30, 73, 74, 75, 31, 32, 81, 126, 184, 263, 316, 365, 367, 424, 425, 511, 564, 512, 513, 565, 514, 515, 566, 599, 600, 616, 617, 628, 635, 618, 601, 619, 629, 636, 637, 567, 568, 569, 570, 602, 366, 423, 317, 369, 370, 430, 431, 519, 432, 573, 520, 574, 575, 604, 622, 630, 638, 646, 654, 658, 659, 639, 647, 655, 648, 649, 657, 660, 661, 662, 663, 666, 667, 664, 665, 668, 669, 670, 671, 656, 650, 631, 428, 632, 640, 644, 652, 623, 651, 641, 633, 642, 643, 645, 653, 517, 518, 429, 371, 368, 426, 427, 516, 571, 572, 603, 620, 621, 187, 273, 324, 33, 35, 85, 130, 189, 274, 275, 326, 327, 328, 330, 329, 384, 385, 331, 332, 386, 387, 390, 389, 441, 388, 391, 392, 442, 527, 526, 578, 607, 393, 443, 131, 190, 276, 333, 191, 277, 193, 334, 394, 444, 528, 579, 608, 609, 610, 611, 615, 194, 580, 624, 626, 625, 634, 612, 613, 614, 627, 192, 132, 133, 195, 134, 34, 83, 84]
theorem fuel_eq (L : List Func) : (L.map fun g => (Tryz.pinned.checked.prog.leadsTo g).length + 1).sum = ((L.map Tryz.pinned.checked.prog.leadsTo).map fun l => l.length + 1).sum := by rw [List.map_map]; rfl
theorem cl_eq : Tryz.pinned.checked.prog.closure 3 = cl := by
  unfold Program.closure
  rw [fuel_eq, led_all, clo_eq led_all _ _ 0 [] (fun f => by simp)]
  kernel_rfl
end Go.Proofs.YtblbcopalfngcaaGreatDoor
