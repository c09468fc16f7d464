/- PROVED: a part of the tie of the row's variables to the program's text. CONDITIONS: none. -/
import Derived.Test.YtdmepghoffhphaaGreatDoorTieA
import Derived.Test.YtdmepghoffhphaaGreatDoorTieB
import Derived.Test.YtdmepghoffhphaaGreatDoorTieC
import Derived.Test.YtdmepghoffhphaaGreatDoorTieD
import Derived.Test.YtdmepghoffhphaaGreatDoorTieE
import Derived.Test.YtdmepghoffhphaaGreatDoorTieF
import Derived.Test.YtdmepghoffhphaaGreatDoorTieG
import Derived.Test.YtdmepghoffhphaaGreatDoorTieH
import Derived.Test.YtdmepghoffhphaaGreatDoorTieI
import Derived.Test.YtdmepghoffhphaaGreatDoorTieJ
import Derived.SevenTiedAt
namespace Go.Proofs.YtdmepghoffhphaaGreatDoor
open Go
theorem rows_append (P : Program) (w : World) (a b : List MemPlace) : laidRowsB P w (a ++ b) = (laidRowsB P w a && laidRowsB P w b) := by
  unfold laidRowsB; exact List.all_append
theorem tie_2 (os : Os) (tape : Tape) : (DataW.laidRun Tryz.pinned.checked.prog (varsWorld Tryz.pinned.checked.prog 400 (varsId Tryz.pinned.checked.prog) os tape).memory 8 ((tl.filter fun x => x.2.handleName?.isNone).map (·.1))).map (fun x => decide x.2.Nodup && laidRowsB Tryz.pinned.checked.prog (varsWorld Tryz.pinned.checked.prog 400 (varsId Tryz.pinned.checked.prog) os tape).memory x.2) = some true := by
  have h0 := tie_nd os tape
  have h1 := tie_r0 os tape
  have h2 := tie_r1 os tape
  have h3 := tie_r2 os tape
  have h4 := tie_r3 os tape
  cases hx : (DataW.laidRun Tryz.pinned.checked.prog (varsWorld Tryz.pinned.checked.prog 400 (varsId Tryz.pinned.checked.prog) os tape).memory 8 ((tl.filter fun x => x.2.handleName?.isNone).map (·.1))) with
  | none => rw [hx] at h0; cases h0
  | some x =>
    rw [hx] at h0 h1 h2 h3 h4
    simp only [Option.map_some, Option.some.injEq] at h0 h1 h2 h3 h4 ⊢
    have e1 : x.2 = x.2.take 110 ++ ((x.2.drop 110).take 110 ++ ((x.2.drop 220).take 110 ++ x.2.drop 330)) := by
      have k1 : (x.2.drop 220).take 110 ++ x.2.drop 330 = x.2.drop 220 := by
        have := List.take_append_drop 110 (x.2.drop 220); rwa [List.drop_drop] at this
      have k2 : (x.2.drop 110).take 110 ++ x.2.drop 220 = x.2.drop 110 := by
        have := List.take_append_drop 110 (x.2.drop 110); rwa [List.drop_drop] at this
      rw [k1, k2, List.take_append_drop]
    rw [Bool.and_eq_true]
    refine ⟨decide_eq_true (nodupBits_sound h0).1, ?_⟩
    rw [e1, rows_append, rows_append, rows_append, h1, h2, h3, h4]; rfl
theorem tie : Tryz.pinned.checked.prog.laidByTextLater tl tk true :=
  Program.laidByTextLater_by_run_h 400 8 tie_w tie_w' tie_root tie_k tie_g tie_n tie_d tie_1 tie_2 tie_h
theorem row_tie : Rows.cmdScopesUptoRow.laidByTextAt .later Tryz.pinned tkAll true :=
  OpenClaim.laidByTextAt_pinned rfl rfl tie rfl rfl rfl rfl (fun y hy he => by
    simp only [Rows.cmdScopesUptoRow, tkAll, List.zip_cons_cons, List.zip_nil_right, List.mem_cons, List.mem_nil_iff, or_false] at hy
    rcases hy with rfl | rfl | rfl | rfl | rfl | rfl | rfl | rfl | rfl | rfl | rfl
    · exact ⟨pin0, by kernel_rfl⟩
    · cases he
    · exact ⟨pin2, by kernel_rfl⟩
    · cases he
    · cases he
    · cases he
    · cases he
    · cases he
    · cases he
    · cases he
    · cases he) fits1
end Go.Proofs.YtdmepghoffhphaaGreatDoor
