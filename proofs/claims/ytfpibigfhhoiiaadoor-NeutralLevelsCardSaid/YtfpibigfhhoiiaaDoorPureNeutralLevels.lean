/- The levels of any numbers as classes, in a sequence of any level from 0 on, are the reference's, and the classes stay; under the bounds that the law itself lays on its input. -/
import Derived.Test.YtfpibigfhhoiiaaDoorPAx2
import Derived.Test.YtfpibigfhhoiiaaDoorPAc
namespace Go.Proofs.YtfpibigfhhoiiaaDoor.Pure
open Go.RowKit Go.Proofs.YtfpibigfhhoiiaaDoor.PA Go.Proofs.YtfpibigfhhoiiaaDoorW.PrintWords Go.Proofs.YtfpibigfhhoiiaaDoorW.PrintLast

theorem NeutralLevels : parquetrylaw15_NeutralLevels.Pure := by
  intro l a _ _ _ _
  apply Ev.rounds
  unfold parquetrylaw15_NeutralLevels.f
  by_cases h : (l.length : Int) > 300
  · simp only [if_pos h]
    exact Ev.bind awake_ev (Ev.now _)
  · simp only [if_neg h, Option.bind_some, List.nil_append, List.length_nil]
    simp only [if_pos (show 0 + l.length < 17592186044416 by omega)]
    have hb : 0 ≤ Go.bits .and .i64 a 2147483647 ∧ Go.bits .and .i64 a 2147483647 < 2147483648 := by
      rw [Base.and_31]; omega
    generalize Go.bits .and .i64 a 2147483647 = m at hb
    refine Ev.bind (levels_ev l m (by omega)) ?_
    refine Ev.bind (refLevels_ev l m hb.1 hb.2 (by omega)) ?_
    refine Ev.bind (same_self _ (by simp [levelsP]; omega)) ?_
    simp only [if_true]
    refine Ev.bind (same_self _ (by omega)) ?_
    simp only [if_true]
    exact Ev.bind awake_ev (Ev.now _)

end Go.Proofs.YtfpibigfhhoiiaaDoor.Pure
