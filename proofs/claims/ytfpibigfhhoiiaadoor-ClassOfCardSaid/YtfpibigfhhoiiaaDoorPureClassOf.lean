/- The class of any number, and of those beside it, is the document's; under no bound but that they are numbers. -/
import Derived.Test.YtfpibigfhhoiiaaDoorPBo
namespace Go.Proofs.YtfpibigfhhoiiaaDoor.Pure
open Go.RowKit Go.Proofs.YtfpibigfhhoiiaaDoor.PB Go.Proofs.YtfpibigfhhoiiaaDoorW.PrintWords Go.Proofs.YtfpibigfhhoiiaaDoorW.PrintLast

theorem ClassOf : parquetrylaw02_ClassOf.Pure := by
  intro a0 _
  apply Ev.rounds
  unfold parquetrylaw02_ClassOf.f
  have hend : Ev (fun k => parquetrylaw02_ClassOf.l0 k a0 3) true := by
    refine Ev.step (f := fun k => (parquetryref02_Of.f k a0).bind fun t => if ofP a0 = t then some true else some false) (fun k => ?_) ?_
    · simp only [parquetrylaw02_ClassOf.l0]
      rw [if_neg (by decide)]
      rfl
    · refine Ev.bind (refOf_is a0) ?_
      exact Ev.congr (fun k => if_pos rfl) (Ev.now true)
  have hstep : ∀ x y : Int, x ≤ 2 → wrap64 (x + 1) = y → Ev (fun k => parquetrylaw02_ClassOf.l0 k a0 y) true → Ev (fun k => parquetrylaw02_ClassOf.l0 k a0 x) true := by
    intro x y hx hy h
    refine Ev.step (f := fun k => (parquetryref02_Of.f k (wrap64 ((Go.bits .and .i64 a0 2097151) + x))).bind fun t => if ofP (wrap64 ((Go.bits .and .i64 a0 2097151) + x)) = t then parquetrylaw02_ClassOf.l0 k a0 y else some false) (fun k => ?_) ?_
    · simp only [parquetrylaw02_ClassOf.l0]
      rw [if_pos hx, hy]
      rfl
    · refine Ev.bind (refOf_is _) ?_
      exact Ev.congr (fun k => if_pos rfl) h
  exact hstep (-2) (-1) (by decide) (by unfold wrap64; omega) (hstep (-1) 0 (by decide) (by unfold wrap64; omega) (hstep 0 1 (by decide) (by unfold wrap64; omega) (hstep 1 2 (by decide) (by unfold wrap64; omega) (hstep 2 3 (by decide) (by unfold wrap64; omega) hend))))

end Go.Proofs.YtfpibigfhhoiiaaDoor.Pure
