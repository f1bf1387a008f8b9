/- PairsSettle, the plain law. -/
import Derived.Test.YtdpifkhkemeclaaDoorPLs
import Derived.Test.YtdpifkhkemeclaaDoorMf
namespace Go.Proofs.YtdpifkhkemeclaaDoor.Pure
open Go.RowKit Go.Proofs.YtdpifkhkemeclaaDoor.PQ Go.Proofs.YtdpifkhkemeclaaDoorW.PrintWords Go.Proofs.YtdpifkhkemeclaaDoorW.PrintLast
set_option linter.unusedVariables false
theorem PairsSettle : parquetrylaw14_PairsSettle.Pure := by
  intro l0 l1 l2 a3 a4 _ _ _ _ _ _ _ _ _ hlev _
  refine Ev.rounds (g := fun k => parquetrylaw14_PairsSettle.f k l0 l1 l2 a3 a4) ?_
  have hbig : Ev (fun k => parquetrylaw14_PairsSettle.j0 k l0 l1 l2 a3 a4 true) true := by
    refine Ev.step (f := fun k => (parquetrylaw14_awake.f k).bind fun t => some t) (fun k => ?_) (Ev.bind awakeQ (Ev.now _))
    simp only [parquetrylaw14_PairsSettle.j0]
    rw [if_pos trivial]
  unfold parquetrylaw14_PairsSettle.f
  by_cases h : (l0.length : Int) > 300
  · exact Ev.congr (fun k => if_pos h) hbig
  · refine Ev.congr (fun k => if_neg h) ?_
    by_cases h1 : (l1.length : Int) > 300
    · exact Ev.congr (fun k => if_pos h1) hbig
    · refine Ev.congr (fun k => if_neg h1) ?_
      by_cases h2 : (l2.length : Int) > 300
      · rw [decide_eq_true h2]
        exact hbig
      · rw [decide_eq_false h2]
        have hB := refBrackets_ev l0 l1 l2 a3 a4 (by omega) (by omega) hlev
        have hBl : (if l0.length = l1.length ∧ l2.length = l1.length then braW l0 l1 l2 a3 a4 else []).length ≤ 1048576 := by
          split
          · have : ∀ (ps : List (Nat × Nat)) (T : List Int) (W : Int), (ps.foldl (braS l2 W a4) T).length = T.length := by
              intro ps
              induction ps with
              | nil => intro T W; rfl
              | cons p r ih => intro T W; rw [List.foldl_cons, ih, braS_len]
            unfold braW
            rw [this]
            omega
          · simp
        obtain ⟨L, hL⟩ : ∃ L, L = (if l0.length = l1.length ∧ l2.length = l1.length then braW l0 l1 l2 a3 a4 else []) := ⟨_, rfl⟩
        rw [← hL] at hB hBl
        refine Ev.step (f := fun k => (parquetryref14_Brackets.f k l0 l1 l2 a3 a4).bind fun t289 => ((parquetryref02_Same.f k L t289).bind fun t292 => (if t292 = true then ((parquetryref02_Same.f k l0 l0).bind fun t293 => (if t293 = true then ((parquetryref02_Same.f k l1 l1).bind fun t294 => (if t294 = true then ((parquetryref02_Same.f k l2 l2).bind fun t295 => (if t295 = true then ((parquetrylaw14_awake.f k).bind fun t296 => (some t296)) else (some false))) else (some false))) else (some false))) else (some false)))) (fun k => ?_) ?_
        · simp only [parquetrylaw14_PairsSettle.j0]
          rw [if_neg (by decide)]
          simp only [Option.bind_some, List.nil_append, List.length_nil, Nat.zero_add]
          rw [if_pos (by omega), if_pos (by omega), if_pos (by omega), bracketsF l0 l1 l2 a3 a4 (by omega), ← hL]
          simp only [Option.bind_some]
        · refine Ev.bind hB (Ev.bind (sameQ _ hBl) ?_)
          simp only [if_true]
          refine Ev.bind (sameQ l0 (by omega)) ?_
          simp only [if_true]
          refine Ev.bind (sameQ l1 (by omega)) ?_
          simp only [if_true]
          refine Ev.bind (sameQ l2 (by omega)) ?_
          simp only [if_true]
          exact Ev.bind awakeQ (Ev.now _)
end Go.Proofs.YtdpifkhkemeclaaDoor.Pure
