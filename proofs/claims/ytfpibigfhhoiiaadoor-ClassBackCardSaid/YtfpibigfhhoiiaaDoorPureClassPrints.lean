/- Any numbers are printed as the document prints them, or refused as it refuses them; they stay; under the bounds that the law itself lays on its input. -/
import Derived.Test.YtfpibigfhhoiiaaDoorPBn
namespace Go.Proofs.YtfpibigfhhoiiaaDoor.Pure
open Go.RowKit Go.Proofs.YtfpibigfhhoiiaaDoor.PB Go.Proofs.YtfpibigfhhoiiaaDoorW.PrintWords Go.Proofs.YtfpibigfhhoiiaaDoorW.PrintLast

theorem print_is (l : List Int) (h : l.length ≤ 1048576) : class_Print.f l = some (printP l) := by
  unfold class_Print.f printP
  rw [if_pos h]
theorem ClassPrints : parquetrylaw02_ClassPrints.Pure := by
  intro l _ _ _
  apply Ev.rounds
  unfold parquetrylaw02_ClassPrints.f
  by_cases h : (l.length : Int) > 300
  · simp only [if_pos h]
    exact Ev.bind awake2_ev (Ev.now _)
  · simp only [if_neg h, Option.bind_some, List.nil_append, List.length_nil]
    simp only [if_pos (show 0 + l.length < 17592186044416 by omega)]
    simp only [print_is l (by omega), Option.bind_some]
    refine Ev.bind (refPrint_ev l (by omega)) ?_
    simp only [if_true, beq_self_eq_true]
    refine Ev.bind (same2_self _ (by omega)) ?_
    simp only [if_true]
    exact Ev.bind awake2_ev (Ev.now _)

end Go.Proofs.YtfpibigfhhoiiaaDoor.Pure
