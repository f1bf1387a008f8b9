/- Behind an L or an R the rest is settled as a sequence that has that as its direction ahead, and what stands ahead as one that has it behind; under the bounds that the law itself lays on its input. -/
import Derived.Test.YtfpibigfhhoiiaaDoorPAx3
import Derived.Test.YtfpibigfhhoiiaaDoorPAs
namespace Go.Proofs.YtfpibigfhhoiiaaDoor.Pure
open Go.RowKit Go.Proofs.YtfpibigfhhoiiaaDoor.PA Go.Proofs.YtfpibigfhhoiiaaDoorW.PrintWords Go.Proofs.YtfpibigfhhoiiaaDoorW.PrintLast

theorem NeutralParts : parquetrylaw15_NeutralParts.Pure := by
  intro l m a s e r _ _ _ _ _ _ _ _ _
  apply Ev.rounds
  unfold parquetrylaw15_NeutralParts.f
  by_cases h : (l.length : Int) > 1000
  · simp only [if_pos h]
    refine Ev.step (f := fun k => (parquetrylaw15_awake.f k).bind fun t => some t) (fun k => ?_) (Ev.bind awake_ev (Ev.now _))
    simp only [parquetrylaw15_NeutralParts.j0]
    rw [if_pos trivial]
  · by_cases h2 : (m.length : Int) > 1000
    · simp only [if_neg h, decide_eq_true h2]
      refine Ev.step (f := fun k => (parquetrylaw15_awake.f k).bind fun t => some t) (fun k => ?_) (Ev.bind awake_ev (Ev.now _))
      simp only [parquetrylaw15_NeutralParts.j0]
      rw [if_pos trivial]
    · simp only [if_neg h, decide_eq_false h2]
      obtain ⟨w, hw⟩ : ∃ w : Int, w = if r = true then 1 else 0 := ⟨_, rfl⟩
      have hw01 : w = 0 ∨ w = 1 := by cases r <;> simp [hw]
      obtain ⟨q, hq⟩ : ∃ q, q = spec a e s (l ++ w :: m) := ⟨_, rfl⟩
      have hql : q.length = l.length + (m.length + 1) := by rw [hq, spec_length]; simp
      refine Ev.step (f := fun k => (parquetrylaw15_like.f k q q).bind fun t => if t = true then (parquetrylaw15_awake.f k).bind fun u => some u else some false) (fun k => ?_) ?_
      · simp only [parquetrylaw15_NeutralParts.j0]
        have hsl := spec_length a w l s
        have hsm := spec_length a e m w
        rw [if_neg (by simp)]
        have hset := settle_ev (l ++ [w] ++ m) a s e (by simp; omega)
        simp only [direct_some, Option.bind_some, ← hw, List.nil_append, settle_ev l a s w (by omega), settle_ev m a w e (by omega), hset]
        rw [if_pos (by simp; omega), if_pos (by omega), if_pos (by simp; omega), if_pos (by simp; omega), if_pos (by omega), if_pos (by simp; omega)]
        have e1 : spec a e s (l ++ [w] ++ m) = q := by rw [hq]; simp
        have e2 : spec a w s l ++ [w] ++ spec a e w m = q := by rw [hq, spec_parts a e w hw01]; simp
        rw [e1, e2]
      · refine Ev.bind (like_self q (by omega)) ?_
        simp only [if_true]
        exact Ev.bind awake_ev (Ev.now _)

end Go.Proofs.YtfpibigfhhoiiaaDoor.Pure
