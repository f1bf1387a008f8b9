/- The level of an L, an EN, an AN is even, that of an R odd, of all others the sequence's, and it is at most two above that; under the bounds that the law itself lays on its input. -/
import Derived.Test.YtfpibigfhhoiiaaDoorPAx5
import Derived.Test.YtfpibigfhhoiiaaDoorPAc
namespace Go.Proofs.YtfpibigfhhoiiaaDoor.Pure
open Go.RowKit Go.Proofs.YtfpibigfhhoiiaaDoor.PA Go.Proofs.YtfpibigfhhoiiaaDoorW.PrintWords Go.Proofs.YtfpibigfhhoiiaaDoorW.PrintLast

theorem even_step (l : List Int) (a : Int) (h0 : 0 ≤ a) (h1 : a < 2147483648) (i : Nat) (hi : i < l.length) (hl : l.length ≤ 1048576) :
    ∃ s, 1 ≤ s ∧ s ≤ 3 ∧ ∀ k, parquetrylaw15_NeutralEven.l0 (k + s) l a (levelsP l a) (i : Int) = parquetrylaw15_NeutralEven.l0 k l a (levelsP l a) ((i + 1 : Nat) : Int) := by
  have hlen : (levelsP l a).length = l.length := by simp [levelsP]
  have hrd : rd (levelsP l a) (i : Int) = a + risesP (rd l i) a := by
    rw [rd_at, rd_at]
    have hr : -1 ≤ risesP (l.getD i 0) a ∧ risesP (l.getD i 0) a ≤ 2 := by
      unfold risesP; split
      · omega
      · split
        · omega
        · split <;> omega
    rw [← w64 (x := a + risesP (l.getD i 0) a) (by omega) (by omega)]
    simp [levelsP, List.getD_eq_getElem?_getD, List.getElem?_eq_getElem hi]
  have hi1 : (i : Int) < ((levelsP l a).length : Int) := by omega
  have hi2 : (i : Int) < (l.length : Int) := by omega
  have hi3 : (0 : Int) ≤ (i : Int) := by omega
  have hw := wsucc i (by omega)
  have hw1 : wrap64 (a + 1) = a + 1 := w64 (by omega) (by omega)
  have hw2 : wrap64 (a + 2) = a + 2 := w64 (by omega) (by omega)
  generalize hc : rd l (i : Int) = c at hrd
  rw [risesP_of] at hrd
  by_cases c0 : c = 0
  · refine ⟨2, by omega, by omega, fun k => ?_⟩
    simp only [parquetrylaw15_NeutralEven.l0, parquetrylaw15_NeutralEven.j1, hrd, hc, c0, if_pos hi1, if_pos hi2, if_pos hi3, hw, hw1, hw2, Base.and_one]
    rcases (show a % 2 = 0 ∨ a % 2 = 1 by omega) with h2 | h2
    · have h2a : ¬ a < a := by omega
      have h2b : ¬ a > a + 2 := by omega
      have h2c : ¬ a > a + 1 := by omega
      simp [h2]
      all_goals try (repeat' split)
      all_goals first | rfl | (intros; exfalso; omega)
    · have : (a + 1) % 2 = 0 := by omega
      simp [h2, this]
      all_goals try (repeat' split)
      all_goals first | rfl | (intros; exfalso; omega)
  · by_cases c3 : c = 3 ∨ c = 6
    · refine ⟨3, by omega, by omega, fun k => ?_⟩
      rcases (show a % 2 = 0 ∨ a % 2 = 1 by omega) with h2 | h2
      · have h3 : (a + 2) % 2 = 0 := by omega
        rcases c3 with c3 | c3 <;> subst c3
        all_goals
          simp [h2] at hrd
          simp only [parquetrylaw15_NeutralEven.l0, parquetrylaw15_NeutralEven.j1, parquetrylaw15_NeutralEven.j2, hrd, hc, if_pos hi1, if_pos hi2, if_pos hi3, hw, hw1, hw2, Base.and_one]
          simp [h3]
          all_goals try (repeat' split)
          all_goals first | rfl | (intros; exfalso; omega)
      · have h3 : (a + 1) % 2 = 0 := by omega
        rcases c3 with c3 | c3 <;> subst c3
        all_goals
          simp [h2] at hrd
          simp only [parquetrylaw15_NeutralEven.l0, parquetrylaw15_NeutralEven.j1, parquetrylaw15_NeutralEven.j2, hrd, hc, if_pos hi1, if_pos hi2, if_pos hi3, hw, hw1, hw2, Base.and_one]
          simp [h3]
          all_goals try (repeat' split)
          all_goals first | rfl | (intros; exfalso; omega)
    · have c3' : c ≠ 3 ∧ c ≠ 6 := by omega
      refine ⟨3, by omega, by omega, fun k => ?_⟩
      have b3 : (c == 3) = false := by simpa using c3'.1
      have b6 : (c == 6) = false := by simpa using c3'.2
      by_cases c1 : c = 1
      · subst c1
        rcases (show a % 2 = 0 ∨ a % 2 = 1 by omega) with h2 | h2
        · have h3 : (a + 1) % 2 = 1 := by omega
          simp [h2] at hrd
          simp only [parquetrylaw15_NeutralEven.l0, parquetrylaw15_NeutralEven.j1, parquetrylaw15_NeutralEven.j2, hrd, hc, if_pos hi1, if_pos hi2, if_pos hi3, hw, hw1, hw2, Base.and_one]
          simp [h3]
          all_goals try (repeat' split)
          all_goals first | rfl | (intros; exfalso; omega)
        · simp [h2] at hrd
          simp only [parquetrylaw15_NeutralEven.l0, parquetrylaw15_NeutralEven.j1, parquetrylaw15_NeutralEven.j2, hrd, hc, if_pos hi1, if_pos hi2, if_pos hi3, hw, hw1, hw2, Base.and_one]
          simp [h2]
          all_goals try (repeat' split)
          all_goals first | rfl | (intros; exfalso; omega)
      · simp [c0, c1, c3'] at hrd
        simp only [parquetrylaw15_NeutralEven.l0, parquetrylaw15_NeutralEven.j1, parquetrylaw15_NeutralEven.j2, hrd, hc, if_pos hi1, if_pos hi2, if_pos hi3, hw, hw1, hw2, Base.and_one, c0, c1, c3'.1, c3'.2, b3, b6]
        simp
        all_goals try (repeat' split)
        all_goals first | rfl | (intros; exfalso; omega)
theorem NeutralEven : parquetrylaw15_NeutralEven.Pure := by
  intro l a _ _ _ _
  apply Ev.rounds
  unfold parquetrylaw15_NeutralEven.f
  by_cases h : (l.length : Int) > 1000
  · simp only [if_pos h]
    exact Ev.bind awake_ev (Ev.now _)
  · simp only [if_neg h]
    have hb : 0 ≤ Go.bits .and .i64 a 2147483647 ∧ Go.bits .and .i64 a 2147483647 < 2147483648 := by
      rw [Base.and_31]; omega
    generalize Go.bits .and .i64 a 2147483647 = m at hb
    refine Ev.bind (levels_ev l m (by omega)) ?_
    have hlen : (levelsP l m).length = l.length := by simp [levelsP]
    simp only [hlen, if_true]
    have hloop : ∀ (d i : Nat), l.length - i = d → i ≤ l.length → Ev (fun k => parquetrylaw15_NeutralEven.l0 k l m (levelsP l m) (i : Int)) true := by
      intro d
      induction d with
      | zero =>
        intro i hd hi
        refine Ev.step (f := fun k => (parquetrylaw15_awake.f k).bind fun t => some t) (fun k => ?_) (Ev.bind awake_ev (Ev.now _))
        simp only [parquetrylaw15_NeutralEven.l0]
        rw [if_neg (by omega)]
      | succ d ih =>
        intro i hd hi
        obtain ⟨s, _, _, hs⟩ := even_step l m hb.1 hb.2 i (by omega) (by omega)
        obtain ⟨K, hK⟩ := ih (i + 1) (by omega) (by omega)
        refine ⟨K + s, fun n hn => ?_⟩
        obtain ⟨j, rfl⟩ : ∃ j, n = j + s := ⟨n - s, by omega⟩
        exact (hs j).trans (hK j (by omega))
    exact hloop _ 0 rfl (Nat.zero_le _)

end Go.Proofs.YtfpibigfhhoiiaaDoor.Pure
