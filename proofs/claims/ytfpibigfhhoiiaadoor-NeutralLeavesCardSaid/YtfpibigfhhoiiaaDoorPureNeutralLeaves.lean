/- Between L and R as directions nothing but L, R, EN and AN is left; these stay; what is settled stays so; under the bounds that the law itself lays on its input. -/
import Derived.Test.YtfpibigfhhoiiaaDoorPAx3
import Derived.Test.YtfpibigfhhoiiaaDoorPAs
namespace Go.Proofs.YtfpibigfhhoiiaaDoor.Pure
open Go.RowKit Go.Proofs.YtfpibigfhhoiiaaDoor.PA Go.Proofs.YtfpibigfhhoiiaaDoorW.PrintWords Go.Proofs.YtfpibigfhhoiiaaDoorW.PrintLast

theorem NeutralLeaves : parquetrylaw15_NeutralLeaves.Pure := by
  intro l a b c _ _ _ _
  apply Ev.rounds
  unfold parquetrylaw15_NeutralLeaves.f
  by_cases h : (l.length : Int) > 1000
  · simp only [if_pos h]
    exact Ev.bind awake_ev (Ev.now _)
  · simp only [if_neg h, direct_some, Option.bind_some]
    obtain ⟨s, hs⟩ : ∃ s : Int, s = if b = true then 1 else 0 := ⟨_, rfl⟩
    obtain ⟨e, he⟩ : ∃ e : Int, e = if c = true then 1 else 0 := ⟨_, rfl⟩
    simp only [← hs, ← he, settle_ev l a s e (by omega), Option.bind_some]
    have he01 : e = 0 ∨ e = 1 := by cases c <;> simp [he]
    have hlen := spec_length a e l s
    simp only [hlen, if_true]
    obtain ⟨q, hq⟩ : ∃ q, q = spec a e s l := ⟨_, rfl⟩
    have hat := fun i hi => spec_at a e he01 l s i hi
    have hall := spec_letters a e he01 l s
    rw [← hq] at hlen hat hall
    rw [← hq]
    have hloop : ∀ (d i : Nat), l.length - i = d → i ≤ l.length → Ev (fun k => parquetrylaw15_NeutralLeaves.l0 k l a b c q (i : Int)) true := by
      intro d
      induction d with
      | zero =>
        intro i hd hi
        refine Ev.step (f := fun k => (parquetrylaw15_like.f k q q).bind fun t => if t = true then (parquetrylaw15_awake.f k).bind fun u => some u else some false) (fun k => ?_) ?_
        · simp only [parquetrylaw15_NeutralLeaves.l0]
          rw [if_neg (by omega)]
          simp only [direct_some, Option.bind_some, ← hs, ← he, settle_ev q a s e (by omega), spec_all a e q hall]
        · refine Ev.bind (like_self q (by omega)) ?_
          simp only [if_true]
          exact Ev.bind awake_ev (Ev.now _)
      | succ d ih =>
        intro i hd hi
        refine Ev.step (fun k => ?_) (ih (i + 1) (by omega) (by omega))
        obtain ⟨h1, h2⟩ := hat i (by omega)
        simp only [parquetrylaw15_NeutralLeaves.l0]
        rw [if_pos (by omega), if_pos (by omega), if_pos (by omega), wsucc i (by omega), rd_at, rd_at]
        generalize q.getD i 0 = y at *
        generalize l.getD i 0 = x at *
        cases hx : isL x with
        | true =>
          rw [h1 hx]
          rcases (isL_iff x).1 hx with rfl | rfl | rfl | rfl <;> simp
        | false =>
          have hn : x ≠ 0 ∧ x ≠ 1 ∧ x ≠ 3 ∧ x ≠ 6 := by
            have := isL_iff x
            rw [hx] at this
            simp at this
            omega
          rw [if_neg hn.1, if_neg hn.2.1, if_neg hn.2.2.1, if_neg hn.2.2.2, if_neg hn.2.2.2]
          rcases h2 hx with rfl | rfl <;> simp
    exact hloop _ 0 rfl (Nat.zero_le _)

end Go.Proofs.YtfpibigfhhoiiaaDoor.Pure
