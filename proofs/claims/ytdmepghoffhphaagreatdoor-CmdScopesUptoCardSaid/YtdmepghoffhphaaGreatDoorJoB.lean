/- PROVED: closed facts of the row. CONDITIONS: none. -/
import Derived.Test.YtdmepghoffhphaaGreatDoorJoG
import Derived.Test.YtdmepghoffhphaaGreatDoorJoH
import Derived.Test.YtdmepghoffhphaaGreatDoorJoI
import Derived.Test.YtdmepghoffhphaaGreatDoorJoK
import Derived.Test.YtdmepghoffhphaaGreatDoorRows
import Derived.JoinedOf
import GoSem.ClaimFollow
import Derived.KernelRfl
namespace Go.Proofs.YtdmepghoffhphaaGreatDoor
open Go
theorem take_drop4 {α : Type} (l : List α) (q : Nat) (h : l.length ≤ 4 * q) : l = (l.drop 0).take q ++ ((l.drop q).take q ++ ((l.drop (2 * q)).take q ++ (l.drop (3 * q)).take q)) := by
  have e3 : (l.drop (3 * q)).take q = l.drop (3 * q) := List.take_of_length_le (by rw [List.length_drop]; omega)
  have k2 : (l.drop (2 * q)).take q ++ l.drop (3 * q) = l.drop (2 * q) := by
    have := List.take_append_drop q (l.drop (2 * q)); rwa [List.drop_drop, show 2 * q + q = 3 * q by omega] at this
  have k1 : (l.drop q).take q ++ l.drop (2 * q) = l.drop q := by
    have := List.take_append_drop q (l.drop q); rwa [List.drop_drop, show q + q = 2 * q by omega] at this
  rw [e3, k2, k1, List.drop_zero, List.take_append_drop]
def nthL : List (List Nat) → Nat → List Nat
  | [], _ => []
  | x :: _, 0 => x
  | _ :: l, n + 1 => nthL l n
theorem nthL_eq : ∀ (l : List (List Nat)) (n : Nat), nthL l n = (l[n]?).getD []
  | [], _ => by simp [nthL]
  | x :: _, 0 => rfl
  | _ :: l, n + 1 => by simp [nthL, nthL_eq l n]
def cloB (L : List (List Nat)) : Nat → List Nat → Nat → List Nat → List Nat
  | 0, _, _, acc => acc.reverse
  | _ + 1, [], _, acc => acc.reverse
  | n + 1, f :: todo, m, acc => match Nat.beq (Nat.land (Nat.shiftRight m f) 1) 1 with
    | true => cloB L n todo m acc
    | false => cloB L n (nthL L f ++ todo) (Nat.lor m (Nat.shiftLeft 1 f)) (f :: acc)
theorem bit_eq (m f : Nat) : Nat.beq (Nat.land (Nat.shiftRight m f) 1) 1 = m.testBit f := by
  show Nat.beq ((m >>> f) &&& 1) 1 = m.testBit f
  unfold Nat.testBit
  rw [Nat.and_comm]
  have h : 1 &&& m >>> f = 0 ∨ 1 &&& m >>> f = 1 := by
    rw [Nat.and_comm, Nat.and_one_is_mod]
    omega
  rcases h with h | h <;> rw [h] <;> rfl
theorem clo_eq {P : Program} {L : List (List Nat)} (hL : P.funcs.toList.map P.leadsTo = L) : ∀ (n : Nat) (todo : List Nat) (m : Nat) (acc : List Nat), (∀ f, m.testBit f = acc.contains f) → P.closureVia n todo acc = cloB L n todo m acc
  | 0, _, _, _, _ => rfl
  | _ + 1, [], _, _, _ => rfl
  | n + 1, f :: todo, m, acc, h => by
    simp only [Program.closureVia, cloB, bit_eq, h f]
    cases hc : acc.contains f with
    | true => simpa using clo_eq hL n todo m acc h
    | false =>
      have e : (P.funcs[f]?).elim [] P.leadsTo = nthL L f := by
        rw [nthL_eq, ← hL, List.getElem?_map, Array.getElem?_toList]
        cases P.funcs[f]? <;> rfl
      simp only [Bool.false_eq_true, if_false, e]
      refine clo_eq hL n _ _ _ fun g => ?_
      show (m ||| (1 <<< f)).testBit g = (f :: acc).contains g
      rw [Nat.testBit_or, h g, Nat.one_shiftLeft, Nat.testBit_two_pow, List.contains_cons]
      by_cases e2 : f = g
      · subst e2; simp
      · have e3 : (g == f) = false := by simpa using fun x => e2 x.symm
        rw [decide_eq_false e2, e3, Bool.or_false, Bool.false_or]
theorem led_all : Tryz.pinned.checked.prog.funcs.toList.map Tryz.pinned.checked.prog.leadsTo = ldL := by
  have hn : Tryz.pinned.checked.prog.funcs.toList.length ≤ 4 * 184 := by
    have : (Tryz.pinned.checked.prog.funcs.size ≤ 4 * 184) := of_decide_eq_true (by kernel_rfl)
    simpa using this
  have hm : ldL.length ≤ 4 * 184 := of_decide_eq_true (by kernel_rfl)
  have h0 := ld0
  have h1 := ld1
  have h2 := ld2
  have h3 := ld3
  rw [take_drop4 Tryz.pinned.checked.prog.funcs.toList 184 hn, List.map_append, List.map_append, List.map_append, take_drop4 ldL 184 hm]
  exact congr (congrArg _ h0) (congr (congrArg _ h1) (congr (congrArg _ h2) h3))
def cl : List Nat := [3, 4, 8, 5, 9, 10, 20, 44, 21, 22, 29, 52, 98, 97, 99, 101, 175, 100, 103, 178, 242, 176, 240, 177, 241, 305, 374, 435, 306, 307, 308, 102, 25, 47, 24, 45, 81, 46, 83, 163, 164, 82, 154, 160, 238, 155, 233, 156, 234, 235, 157, 236, 237, 304, 158, 159, 161, 162, 23, 26, 48, 84, 85, 165, 118, 166, 120, 200, 263, 264, 265, 125, 204, 205, 206, 276, 350, 351, 126, 207, 277, 352, 420, 353, 421, 278, 279, 280, 266, 347, 417, 267, 348, 273, 418, 508, 511, 510, 564, 509, 268, 349, 419, 269, 270, 123, 271, 272, 201, 167, 239, 86, 121, 202, 68, 122, 124, 203, 274, 275, 49, 87, 88, 11, 27, 50, 89, 90, 91, 92, 93, 168, 169, 170, 171, 172, 95, 28, 51, 94, 96, 173, 174, 30, 54, 53, 31, 55, 12, 32, 56, 33, 57, 104, 179, 243, 309, 311, 376, 377, 436, 521, 437, 438, 522, 439, 440, 523, 575, 576, 616, 617, 632, 639, 618, 577, 619, 633, 640, 641, 524, 525, 526, 527, 578, 310, 375, 244, 313, 314, 382, 383, 444, 384, 530, 445, 531, 532, 580, 622, 634, 642, 650, 658, 662, 663, 643, 651, 659, 652, 653, 661, 664, 665, 666, 667, 670, 671, 668, 669, 672, 673, 674, 675, 660, 654, 635, 380, 636, 644, 648, 656, 623, 655, 645, 222, 298, 637, 646, 647, 649, 657, 442, 299, 443, 381, 315, 312, 378, 379, 441, 528, 529, 579, 620, 621, 77, 137, 76, 105, 181, 180, 106, 182, 246, 245, 247, 317, 41, 78, 138, 219, 296, 220, 139, 221, 297, 372, 433, 519, 574, 140, 141, 223, 142, 224, 385, 198, 260, 341, 342, 402, 403, 343, 404, 344, 405, 406, 454, 455, 537, 588, 587, 538, 584, 589, 539, 540, 541, 535, 583, 585, 586, 536, 407, 330, 392, 447, 331, 393, 408, 345, 409, 456, 544, 543, 590, 591, 624, 627, 542, 548, 457, 545, 592, 625, 458, 546, 593, 594, 459, 547, 595, 460, 461, 462, 549, 463, 464, 550, 596, 465, 551, 466, 552, 467, 468, 469, 553, 470, 471, 554, 597, 472, 555, 426, 516, 571, 606, 607, 473, 556, 514, 570, 605, 474, 557, 598, 475, 476, 477, 478, 479, 480, 481, 482, 483, 484, 485, 558, 486, 487, 488, 489, 490, 491, 492, 559, 493, 560, 494, 495, 496, 497, 561, 498, 499, 500, 562, 501, 410, 411, 412, 502, 563, 503, 504, 261, 346, 413, 414, 415, 416, 505, 506, 507, 316, 183, 248, 318, 319, 386, 387, 320, 388, 355, 425, 515, 184, 249, 321, 322, 389, 323, 324, 390, 391, 446, 325, 326, 327, 328, 185, 187, 186, 188, 107, 189, 250, 251, 329, 252, 253, 332, 394, 448, 333, 395, 449, 450, 533, 581, 334, 396, 397, 398, 451, 452, 534, 582, 108, 13, 34, 58, 109, 60, 59, 15, 39, 71, 130, 215, 216, 287, 288, 289, 291, 290, 361, 362, 292, 293, 363, 364, 367, 366, 429, 365, 368, 369, 430, 517, 373, 434, 520, 370, 431, 72, 131, 217, 294, 132, 218, 134, 295, 371, 432, 518, 572, 608, 609, 610, 611, 615, 135, 573, 628, 630, 629, 638, 612, 613, 614, 631, 133, 73, 74, 136, 75, 14, 36, 37, 66, 117, 197, 259, 199, 40, 262, 38, 67, 119, 69, 127, 209, 211, 210, 282, 212, 213, 208, 281, 354, 254, 335, 422, 512, 565, 599, 566, 601, 600, 423, 424, 513, 567, 568, 569, 602, 603, 626, 604, 70, 128, 214, 283, 284, 285, 286, 356, 358, 428, 359, 360, 357, 427, 129, 35, 61, 110, 111, 190, 191, 112, 192, 16, 6, 18, 42, 17, 62, 64, 63, 113, 193, 255, 256, 336, 258, 195, 257, 337, 338, 339, 399, 453, 400, 401, 340, 114, 194, 115, 196, 65, 116, 7, 19, 43, 79, 143, 225, 300, 146, 227, 226, 228, 301, 302, 229, 144, 230, 303, 145, 147, 148, 231, 149, 150, 151, 232, 80, 152, 153]
theorem fuel_eq (L : List Func) : (L.map fun g => (Tryz.pinned.checked.prog.leadsTo g).length + 1).sum = ((L.map Tryz.pinned.checked.prog.leadsTo).map fun l => l.length + 1).sum := by rw [List.map_map]; rfl
theorem cl_eq : Tryz.pinned.checked.prog.closure 3 = cl := by
  unfold Program.closure
  rw [fuel_eq, led_all, clo_eq led_all _ _ 0 [] (fun f => by simp)]
  kernel_rfl
end Go.Proofs.YtdmepghoffhphaaGreatDoor
