/- WeakRules, the plain law. -/
import Derived.Test.YtfpibigfhhoiiaaDoorPWs
namespace Go.Proofs.YtfpibigfhhoiiaaDoor.Pure
open Go.RowKit Go.Proofs.YtfpibigfhhoiiaaDoor.PW Go.Proofs.YtfpibigfhhoiiaaDoorW.PrintWords Go.Proofs.YtfpibigfhhoiiaaDoorW.PrintLast
set_option linter.unusedVariables false
theorem WeakRules : parquetrylaw13_WeakRules.Pure := by
  intro l0 a1 _ _ _ _
  refine Ev.rounds (g := fun k => parquetrylaw13_WeakRules.f k l0 a1) ?_
  unfold parquetrylaw13_WeakRules.f
  by_cases h : (l0.length : Int) > 300
  · refine Ev.congr (fun k => if_pos h) (Ev.congr (f := fun _ => some true) (fun k => ?_) (Ev.now _))
    rw [awakeW]; rfl
  · have hl : l0.length ≤ 1048576 := by omega
    refine Ev.congr (fun k => if_neg h) ?_
    simp only [Option.bind_some, List.nil_append, List.length_nil, Nat.zero_add]
    refine Ev.congr (fun k => if_pos (by omega)) ?_
    rw [weakF l0 a1 hl]
    simp only [Option.bind_some]
    refine Ev.bind (refWeak_ev l0 a1 hl) (Ev.bind (sameW _ (by rw [weak_len]; exact hl)) ?_)
    simp only [if_true]
    refine Ev.bind (sameW l0 hl) ?_
    simp only [if_true]
    rw [awakeW]
    exact Ev.now _
end Go.Proofs.YtfpibigfhhoiiaaDoor.Pure
