/- PairsFound, the plain law. -/
import Derived.Test.YtdpifkhkemeclaaDoorPfe
namespace Go.Proofs.YtdpifkhkemeclaaDoor.Pure
open Go.RowKit Go.Proofs.YtdpifkhkemeclaaDoor.PQ Go.Proofs.YtdpifkhkemeclaaDoorW.PrintWords Go.Proofs.YtdpifkhkemeclaaDoorW.PrintLast
set_option linter.unusedVariables false
theorem PairsFound : parquetrylaw14_PairsFound.Pure := by
  intro l0 l1 _ _ _ _ _ _
  refine Ev.rounds (g := fun k => parquetrylaw14_PairsFound.f k l0 l1) ?_
  have hbig : Ev (fun k => parquetrylaw14_PairsFound.j0 k l0 l1 true) true := by
    refine Ev.step (f := fun k => (parquetrylaw14_awake.f k).bind fun t => some t) (fun k => ?_) (Ev.bind awakeQ (Ev.now _))
    simp only [parquetrylaw14_PairsFound.j0]
    rw [if_pos trivial]
  unfold parquetrylaw14_PairsFound.f
  by_cases h : (l0.length : Int) > 300
  · exact Ev.congr (fun k => if_pos h) hbig
  · refine Ev.congr (fun k => if_neg h) ?_
    by_cases h' : (l1.length : Int) > 300
    · rw [decide_eq_true h']
      exact hbig
    · rw [decide_eq_false h']
      refine Ev.step (f := fun k => (parquetryref14_Find.f k l0 l1).bind fun t226 => ((parquetryref14_Same.f k (if l0.length = l1.length then (pairsW l0 l1).map s31 else []) t226).bind fun t229 => (if t229 = true then ((parquetryref02_Same.f k l0 l0).bind fun t230 => (if t230 = true then ((parquetryref02_Same.f k l1 l1).bind fun t231 => (if t231 = true then ((parquetrylaw14_awake.f k).bind fun t232 => (some t232)) else (some false))) else (some false))) else (some false)))) (fun k => ?_) ?_
      · simp only [parquetrylaw14_PairsFound.j0]
        rw [if_neg (by decide)]
        simp only [Option.bind_some, List.nil_append, List.length_nil, Nat.zero_add]
        rw [if_pos (by omega), if_pos (by omega), findF l0 l1 (by omega)]
        simp only [Option.bind_some]
      · have hlen : (if l0.length = l1.length then (pairsW l0 l1).map s31 else []).length ≤ 1048576 := by
          split
          · have := pairsW_len l0 l1
            simp; omega
          · simp
        refine Ev.bind (refFind_ev l0 l1 (by omega)) (Ev.bind (sameP _ hlen) ?_)
        simp only [if_true]
        refine Ev.bind (sameQ l0 (by omega)) ?_
        simp only [if_true]
        refine Ev.bind (sameQ l1 (by omega)) ?_
        simp only [if_true]
        exact Ev.bind awakeQ (Ev.now _)
end Go.Proofs.YtdpifkhkemeclaaDoor.Pure
