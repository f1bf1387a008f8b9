/- With L and R exchanged, in the classes, on both sides, and by the level, classes without numbers become what they did, exchanged; under the bounds that the law itself lays on its input. -/
import Derived.Test.YtfpibigfhhoiiaaDoorPAx4
import Derived.Test.YtfpibigfhhoiiaaDoorPAs
namespace Go.Proofs.YtfpibigfhhoiiaaDoor.Pure
open Go.RowKit Go.Proofs.YtfpibigfhhoiiaaDoor.PA Go.Proofs.YtfpibigfhhoiiaaDoorW.PrintWords Go.Proofs.YtfpibigfhhoiiaaDoorW.PrintLast

theorem turns_j1 (l : List Int) (b c : Bool) (lev : Int) (hlev : lev = 0 ∨ lev = 1) (hl : l.length ≤ 1000) (hn : ∀ x ∈ l, x ≠ 3 ∧ x ≠ 6) : Ev (fun k => parquetrylaw15_NeutralTurns.j1 k l b c lev) true := by
  obtain ⟨s, hs⟩ : ∃ s : Int, s = if b = true then 1 else 0 := ⟨_, rfl⟩
  obtain ⟨e, he⟩ : ∃ e : Int, e = if c = true then 1 else 0 := ⟨_, rfl⟩
  have hs' : (if (!b) = true then (1 : Int) else 0) = 1 - s := by cases b <;> simp [hs]
  have he' : (if (!c) = true then (1 : Int) else 0) = 1 - e := by cases c <;> simp [he]
  have hs01 : s = 0 ∨ s = 1 := by cases b <;> simp [hs]
  have he01 : e = 0 ∨ e = 1 := by cases c <;> simp [he]
  have hlen := spec_length lev e l s
  have htl : (turnL l).length = l.length := by simp [turnL]
  refine Ev.step (f := fun k => (parquetrylaw15_turned.f k l).bind fun t => (neutral_Settle.f t (1 - lev) (1 - s) (1 - e)).bind fun u => (parquetrylaw15_turned.f k (spec lev e s l)).bind fun v => (parquetrylaw15_like.f k v u).bind fun z => if z = true then (parquetrylaw15_awake.f k).bind fun y => some y else some false) (fun k => ?_) ?_
  · simp only [parquetrylaw15_NeutralTurns.j1, direct_some, Option.bind_some, ← hs, ← he, hs', he', settle_ev l lev s e (by omega)]
    rw [w64 (by omega) (by omega)]
  · refine Ev.bind (turned_ev l (by omega)) ?_
    simp only [settle_ev (turnL l) (1 - lev) (1 - s) (1 - e) (by omega), Option.bind_some]
    refine Ev.bind (turned_ev _ (by omega)) ?_
    have hway : way (1 - lev) = 1 - way lev := by rcases hlev with rfl | rfl <;> decide
    rw [spec_turn lev (1 - lev) hway e he01 l hn s hs01]
    refine Ev.bind (like_self _ (by simp [turnL]; omega)) ?_
    simp only [if_true]
    exact Ev.bind awake_ev (Ev.now _)
theorem NeutralTurns : parquetrylaw15_NeutralTurns.Pure := by
  intro l a b c _ _ _
  apply Ev.rounds
  unfold parquetrylaw15_NeutralTurns.f
  by_cases h : (l.length : Int) > 1000
  · simp only [if_pos h]
    exact Ev.bind awake_ev (Ev.now _)
  · simp only [if_neg h]
    have hloop : ∀ (d i : Nat), l.length - i = d → i ≤ l.length → (∀ x ∈ l.take i, x ≠ 3 ∧ x ≠ 6) → Ev (fun k => parquetrylaw15_NeutralTurns.l0 k l a b c (i : Int)) true := by
      intro d
      induction d with
      | zero =>
        intro i hd hi hn
        have hil : i = l.length := by omega
        subst hil
        rw [List.take_length] at hn
        cases a with
        | true =>
          refine Ev.step (fun k => ?_) (turns_j1 l b c 1 (.inr rfl) (by omega) hn)
          simp only [parquetrylaw15_NeutralTurns.l0]
          rw [if_neg (by omega)]; rfl
        | false =>
          refine Ev.step (fun k => ?_) (turns_j1 l b c 0 (.inl rfl) (by omega) hn)
          simp only [parquetrylaw15_NeutralTurns.l0]
          rw [if_neg (by omega)]; rfl
      | succ d ih =>
        intro i hd hi hn
        have hlt : i < l.length := by omega
        by_cases h3 : rd l (i : Int) = 3
        · refine Ev.step (f := fun k => (parquetrylaw15_awake.f k).bind fun t => some t) (fun k => ?_) (Ev.bind awake_ev (Ev.now _))
          simp only [parquetrylaw15_NeutralTurns.l0]
          rw [if_pos (by omega), if_pos (by omega), if_pos h3]
        · by_cases h6 : rd l (i : Int) = 6
          · refine Ev.step (f := fun k => (parquetrylaw15_awake.f k).bind fun t => some t) (fun k => ?_) (Ev.bind awake_ev (Ev.now _))
            simp only [parquetrylaw15_NeutralTurns.l0]
            rw [if_pos (by omega), if_pos (by omega), if_neg h3, if_pos h6]
          · refine Ev.step (fun k => ?_) (ih (i + 1) (by omega) (by omega) ?_)
            · simp only [parquetrylaw15_NeutralTurns.l0]
              rw [if_pos (by omega), if_pos (by omega), if_neg h3, if_neg h6, wsucc i (by omega)]
            · rw [getD_take l i hlt]
              intro x hx
              rcases List.mem_append.1 hx with hx | hx
              · exact hn x hx
              · rw [List.mem_singleton] at hx; rw [hx]; exact ⟨h3, h6⟩
    exact hloop _ 0 rfl (Nat.zero_le _) (by simp)

end Go.Proofs.YtfpibigfhhoiiaaDoor.Pure
