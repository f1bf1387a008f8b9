/- WeakSettles, the plain law. -/
import Derived.Test.YtfpibigfhhoiiaaDoorPWs
namespace Go.Proofs.YtfpibigfhhoiiaaDoor.Pure
open Go.RowKit Go.Proofs.YtfpibigfhhoiiaaDoor.PW Go.Proofs.YtfpibigfhhoiiaaDoorW.PrintWords Go.Proofs.YtfpibigfhhoiiaaDoorW.PrintLast
set_option linter.unusedVariables false
theorem WeakSettles : parquetrylaw13_WeakSettles.Pure := by
  intro l0 a1 _ _ _
  refine Ev.rounds (g := fun k => parquetrylaw13_WeakSettles.f k l0 a1) ?_
  unfold parquetrylaw13_WeakSettles.f
  by_cases h : (l0.length : Int) > 1000
  · refine Ev.congr (fun k => if_pos h) (Ev.congr (f := fun _ => some true) (fun k => ?_) (Ev.now _))
    rw [awakeW]; rfl
  · refine Ev.congr (fun k => if_neg h) ?_
    have hl : l0.length ≤ 1000 := by omega
    have key : ∀ sos : Int, sos = 0 ∨ sos = 1 → Ev (fun k => parquetrylaw13_WeakSettles.j0 k l0 sos) true := by
      intro sos hs
      have hov := weak_over l0 sos hs
      have hlen := weak_len l0 sos
      have htw := weak_twice l0 sos hs
      obtain ⟨m, hm⟩ : ∃ m, m = weakW l0 sos := ⟨_, rfl⟩
      rw [← hm] at hov hlen htw
      have hend : Ev (fun k => parquetrylaw13_WeakSettles.l0 k l0 sos m (m.length : Int)) true := by
        refine Ev.step (f := fun k => (parquetrylaw13_like.f k m m).bind fun t => if t = true then some true else some false) (fun k => ?_) ?_
        · simp only [parquetrylaw13_WeakSettles.l0]
          rw [if_neg (by omega), weakF m sos (by omega), htw]
          simp only [Option.bind_some]
          congr 1
          funext t
          rw [awakeW]
          rfl
        · refine Ev.bind (likeW _ (by omega)) ?_
          exact Ev.congr (fun k => if_pos rfl) (Ev.now _)
      have hloop : ∀ d i : Nat, m.length - i = d → i ≤ m.length → Ev (fun k => parquetrylaw13_WeakSettles.l0 k l0 sos m (i : Int)) true := by
        intro d
        induction d with
        | zero =>
          intro i hd hi
          have : i = m.length := by omega
          subst this
          exact hend
        | succ d ih =>
          intro i hd hi
          have hg := hov.get i (by omega)
          have ih := ih (i + 1) (by omega) (by omega)
          have ew : wrap64 ((i : Int) + 1) = ((i + 1 : Nat) : Int) := by rw [w64_in _ (by omega) (by omega)]; omega
          refine ev_step2 (fun k => ?_) ih
          simp only [parquetrylaw13_WeakSettles.l0, parquetrylaw13_WeakSettles.j2]
          rw [rdn, rdn, ew]
          obtain ⟨x, hx⟩ : ∃ x, x = m.getD i 0 := ⟨_, rfl⟩
          obtain ⟨c, hc⟩ : ∃ c, c = l0.getD i 0 := ⟨_, rfl⟩
          rw [← hx, ← hc] at hg
          rw [← hx, ← hc]
          obtain ⟨g8, g2, g4, g5, g7, gs⟩ := hg
          rw [if_pos (by omega), if_pos (by omega), if_neg g8, if_neg g2, if_neg g4, if_neg g5, if_neg (by simpa using g7), if_pos (by omega), if_pos (by omega)]
          by_cases s0 : c = 0
          · rw [if_pos s0, if_pos (show (i : Int) < (m.length : Int) by omega), if_pos (gs (.inl s0))]
          · rw [if_neg s0]
            by_cases s1 : c = 1
            · rw [if_pos s1, if_pos (show (i : Int) < (m.length : Int) by omega), if_pos (gs (.inr (.inl s1)))]
            · rw [if_neg s1]
              by_cases s6 : c = 6
              · rw [if_pos s6, if_pos (show (i : Int) < (m.length : Int) by omega), if_pos (gs (.inr (.inr (.inl s6))))]
              · rw [if_neg s6]
                by_cases sn : c < 0
                · rw [if_pos sn, if_pos (show (i : Int) < (m.length : Int) by omega), if_pos (gs (.inr (.inr (.inr (.inl sn)))))]
                · rw [if_neg sn]
                  by_cases sp : c > 8
                  · rw [if_pos sp, if_pos (show (i : Int) < (m.length : Int) by omega), if_pos (gs (.inr (.inr (.inr (.inr sp)))))]
                  · rw [if_neg sp]
      refine Ev.step (fun k => ?_) (hloop _ 0 rfl (Nat.zero_le _))
      simp only [parquetrylaw13_WeakSettles.j0]
      rw [weakF l0 sos (by omega), ← hm]
      simp only [Option.bind_some]
      rw [if_pos (by omega)]
      rfl
    cases a1 with
    | true => exact Ev.congr (fun k => if_pos rfl) (key 1 (.inr rfl))
    | false => exact Ev.congr (fun k => if_neg (by decide)) (key 0 (.inl rfl))
end Go.Proofs.YtfpibigfhhoiiaaDoor.Pure
