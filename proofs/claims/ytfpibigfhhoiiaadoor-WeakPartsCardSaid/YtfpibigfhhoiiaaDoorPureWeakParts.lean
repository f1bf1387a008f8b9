/- WeakParts, the plain law. -/
import Derived.Test.YtfpibigfhhoiiaaDoorPWs
import Derived.Test.YtfpibigfhhoiiaaDoorPWx6
namespace Go.Proofs.YtfpibigfhhoiiaaDoor.Pure
open Go.RowKit Go.Proofs.YtfpibigfhhoiiaaDoor.PW Go.Proofs.YtfpibigfhhoiiaaDoorW.PrintWords Go.Proofs.YtfpibigfhhoiiaaDoorW.PrintLast
set_option linter.unusedVariables false
theorem WeakParts : parquetrylaw13_WeakParts.Pure := by
  intro l0 l1 a2 a3 _ _ _ _ _ _ _
  refine Ev.rounds (g := fun k => parquetrylaw13_WeakParts.f k l0 l1 a2 a3) ?_
  have hyes : Ev (fun k => parquetrylaw13_WeakParts.j0 k l0 l1 a2 a3 true) true := by
    refine Ev.step (f := fun _ => some true) (fun k => ?_) (Ev.now _)
    simp only [parquetrylaw13_WeakParts.j0]
    rw [if_pos trivial, awakeW]; rfl
  unfold parquetrylaw13_WeakParts.f
  by_cases h : (l0.length : Int) > 1000
  · exact Ev.congr (fun k => if_pos h) hyes
  · refine Ev.congr (fun k => if_neg h) ?_
    by_cases h1 : (l1.length : Int) > 1000
    · rw [decide_eq_true h1]; exact hyes
    · rw [decide_eq_false h1]
      have key : ∀ y : Int, y = 0 ∨ y = 1 → Ev (fun k => parquetrylaw13_WeakParts.j1 k l0 l1 a2 y) true := by
        intro y hy
        have la : (l0 ++ [y]).length = l0.length + 1 := by simp
        have lb : (l0 ++ [y] ++ l1).length = l0.length + 1 + l1.length := by simp; omega
        have hw : weakW (l0 ++ [y] ++ l1) a2 = weakW (l0 ++ [y]) a2 ++ weakW l1 y := by
          rw [List.append_assoc, List.singleton_append]; exact weak_app y hy l0 l1 a2
        refine Ev.step (f := fun k => (parquetrylaw13_like.f k (weakW (l0 ++ [y]) a2 ++ weakW l1 y) (weakW (l0 ++ [y]) a2 ++ weakW l1 y)).bind fun t => if t = true then some true else some false) (fun k => ?_) ?_
        · simp only [parquetrylaw13_WeakParts.j1, Option.bind_some, List.nil_append, List.length_nil, Nat.zero_add]
          rw [if_pos (by omega), if_pos (by omega), if_pos (by rw [la]; omega), if_pos (by rw [la]; omega), weakF _ _ (by rw [lb]; omega), weakF _ _ (by rw [la]; omega), weakF _ _ (by omega)]
          simp only [Option.bind_some]
          rw [if_pos (by rw [weak_len, la]; omega), if_pos (by rw [weak_len, weak_len, la]; omega), hw]
          congr 1
          funext t
          rw [if_pos (show ((weakW (l0 ++ [y]) a2).length : Int) = ((l0 ++ [y]).length : Int) by rw [weak_len]), awakeW]
          rfl
        · refine Ev.bind (likeW _ (by rw [List.length_append, weak_len, weak_len, la]; omega)) ?_
          exact Ev.congr (fun k => if_pos rfl) (Ev.now _)
      cases a3 with
      | true =>
        refine Ev.step (fun k => ?_) (key 1 (.inr rfl))
        simp only [parquetrylaw13_WeakParts.j0]
        rw [if_neg (by decide), if_pos trivial]
      | false =>
        refine Ev.step (fun k => ?_) (key 0 (.inl rfl))
        simp only [parquetrylaw13_WeakParts.j0]
        rw [if_neg (by decide), if_neg (by decide)]
end Go.Proofs.YtfpibigfhhoiiaaDoor.Pure
