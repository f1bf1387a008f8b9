/- What any numbers as classes become is what the document says, whatever stands on both sides; they stay; under the bounds that the law itself lays on its input. -/
import Derived.Test.YtfpibigfhhoiiaaDoorPDx2
import Derived.Test.YtfpibigfhhoiiaaDoorPAs
namespace Go.Proofs.YtfpibigfhhoiiaaDoor.Pure
open Go.RowKit Go.Proofs.YtfpibigfhhoiiaaDoor.PD Go.Proofs.YtfpibigfhhoiiaaDoorW.PrintWords Go.Proofs.YtfpibigfhhoiiaaDoorW.PrintLast
set_option linter.unusedVariables false
set_option linter.unusedSimpArgs false

theorem awakeD_ev : Ev (fun k => PD.parquetrylaw15_awake.f k) true := Ev.of (fun k => PD.parquetrylaw15_awake.mono k) (k := 60) (by kernel_rfl)
theorem sameD_self (l : List Int) (hl : l.length ≤ 1048576) : Ev (fun k => PD.parquetryref02_Same.f k l l) true := by
  have hloop : ∀ (d i : Nat), l.length - i = d → i ≤ l.length → Ev (fun k => PD.parquetryref02_Same.l0 k l l (i : Int)) true := by
    intro d
    induction d with
    | zero =>
      intro i hd hi
      refine Ev.step (f := fun _ => some true) (fun k => ?_) (Ev.now _)
      simp only [PD.parquetryref02_Same.l0]
      rw [if_neg (by omega)]
    | succ d ih =>
      intro i hd hi
      refine Ev.step (fun k => ?_) (ih (i + 1) (by omega) (by omega))
      simp only [PD.parquetryref02_Same.l0]
      rw [if_pos (by omega), if_pos (by omega), if_pos (by omega), if_pos trivial, wsucc i (by omega)]
  refine Ev.congr (fun k => ?_) (hloop _ 0 rfl (Nat.zero_le _))
  unfold PD.parquetryref02_Same.f
  rw [if_pos rfl]; rfl

theorem dirRef_yes (c : Int) (h : isL c = true) : parquetryref15_Direction.f c = some (dirD c) ∧ 0 ≤ dirD c := by
  have := (isL_iff c).1 h
  rcases this with rfl | rfl | rfl | rfl <;> exact ⟨rfl, by decide⟩
theorem dirRef_no (c : Int) (h : isL c = false) : parquetryref15_Direction.f c = some (-1) := by
  have hn : ¬ (c = 0 ∨ c = 1 ∨ c = 3 ∨ c = 6) := fun hc => by rw [(isL_iff c).2 hc] at h; cases h
  unfold parquetryref15_Direction.f
  rw [if_neg (fun e => hn (.inl e)), if_neg (fun e => hn (.inr (.inl e))), if_neg (fun e => hn (.inr (.inr (.inl e)))), if_neg (fun e => hn (.inr (.inr (.inr e))))]
def lastD (a : Int) : List Int → Int
  | [] => a
  | c :: cs => lastD (if isL c = true then dirD c else a) cs
theorem lastD_snoc (c : Int) : ∀ (l : List Int) (a : Int), lastD a (l ++ [c]) = if isL c = true then dirD c else lastD a l
  | [], a => by simp [lastD]
  | d :: r, a => by
    rw [List.cons_append, lastD, lastD_snoc c r]
    rfl
theorem spec_get (level eos : Int) : ∀ (l : List Int) (a : Int) (i : Nat), i < l.length →
    (spec level eos a l).getD i 0 = if isL (l.getD i 0) = true then l.getD i 0 else asOf level (lastD a (l.take i)) (firstD eos (l.drop i))
  | [], a, i, h => absurd h (by simp)
  | c :: cs, a, 0, h => by
    unfold spec
    by_cases hc : isL c = true
    · rw [if_pos hc]; simp [hc]
    · rw [if_neg hc]; simp [hc, lastD, firstD]
  | c :: cs, a, i + 1, h => by
    unfold spec
    by_cases hc : isL c = true
    · rw [if_pos hc, List.getD_cons_succ, spec_get level eos cs (dirD c) i (by simpa using h)]
      simp [lastD, hc]
    · rw [if_neg hc, List.getD_cons_succ, spec_get level eos cs a i (by simpa using h)]
      simp [lastD, hc]
theorem rdD (l : List Int) (i : Nat) : rd l (i : Int) = l.getD i 0 := by simp [rd]
theorem l1D_ev (l : List Int) (hl : l.length ≤ 1048576) (a eos : Int) : ∀ (d j : Nat), l.length - j = d → j ≤ l.length → Ev (fun k => parquetryref15_around.l1 k l a eos (j : Int)) (a, firstD eos (l.drop j)) := by
  intro d
  induction d with
  | zero =>
    intro j hd hj
    rw [List.drop_of_length_le (by omega)]
    refine Ev.step (f := fun _ => some (a, eos)) (fun k => ?_) (Ev.now _)
    simp only [parquetryref15_around.l1]
    rw [if_neg (by omega)]
  | succ d ih =>
    intro j hd hj
    have hlt : j < l.length := by omega
    have hdrop : l.drop j = l.getD j 0 :: l.drop (j + 1) := by
      rw [List.drop_eq_getElem_cons hlt, List.getD_eq_getElem?_getD, List.getElem?_eq_getElem hlt]; rfl
    rw [hdrop]
    by_cases hc : isL (l.getD j 0) = true
    · obtain ⟨h1, h2⟩ := dirRef_yes _ hc
      refine Ev.step (f := fun _ => some (a, dirD (l.getD j 0))) (fun k => ?_) (by rw [firstD, if_pos hc]; exact Ev.now _)
      simp only [parquetryref15_around.l1]
      rw [if_pos (by omega), if_pos (by omega), rdD, h1, Option.bind_some, if_pos h2, Option.bind_some]
    · have h1 := dirRef_no _ (Bool.eq_false_iff.2 hc)
      rw [firstD, if_neg hc]
      refine Ev.step (fun k => ?_) (ih (j + 1) (by omega) (by omega))
      simp only [parquetryref15_around.l1]
      rw [if_pos (by omega), if_pos (by omega), rdD, h1, Option.bind_some, if_neg (by decide), wsucc j (by omega)]
theorem l0D_ev (l : List Int) (hl : l.length ≤ 1048576) (at_ : Nat) (hat : at_ < l.length) (sos eos : Int) : ∀ (n : Nat), n ≤ at_ + 1 →
    Ev (fun k => parquetryref15_around.l0 k l (at_ : Int) sos eos ((n : Int) - 1)) (lastD sos (l.take n), firstD eos (l.drop at_)) := by
  have hj : ∀ a : Int, Ev (fun k => parquetryref15_around.j1 k l (at_ : Int) a eos) (a, firstD eos (l.drop at_)) := fun a =>
    Ev.step (fun k => by simp only [parquetryref15_around.j1]) (l1D_ev l hl a eos _ at_ rfl (by omega))
  intro n
  induction n with
  | zero =>
    intro _
    refine Ev.step (fun k => ?_) (hj sos)
    simp only [parquetryref15_around.l0]
    rw [if_neg (by omega)]
  | succ n ih =>
    intro hn
    have hlt : n < l.length := by omega
    have e : ((n + 1 : Nat) : Int) - 1 = (n : Int) := by omega
    rw [e, show l.take (n + 1) = l.take n ++ [l.getD n 0] from by rw [List.take_succ_eq_append_getElem hlt, List.getD_eq_getElem?_getD, List.getElem?_eq_getElem hlt]; rfl, lastD_snoc]
    by_cases hc : isL (l.getD n 0) = true
    · obtain ⟨h1, h2⟩ := dirRef_yes _ hc
      rw [if_pos hc]
      refine Ev.step (fun k => ?_) (hj (dirD (l.getD n 0)))
      simp only [parquetryref15_around.l0]
      rw [if_pos (by omega), if_pos (by omega), if_pos (by omega), rdD, h1, Option.bind_some, if_pos h2, Option.bind_some]
    · have h1 := dirRef_no _ (Bool.eq_false_iff.2 hc)
      rw [if_neg hc]
      refine Ev.step (fun k => ?_) (ih (by omega))
      simp only [parquetryref15_around.l0]
      rw [if_pos (by omega), if_pos (by omega), if_pos (by omega), rdD, h1, Option.bind_some, if_neg (by decide), w64 (by omega) (by omega)]
theorem way_ref (level : Int) : way level = if Int.tmod level 2 = 0 then 0 else 1 := by
  unfold way
  rw [Base.and_one]
  have h1 := Int.emod_two_eq level
  have h2 : Int.tmod level 2 = 0 ↔ level % 2 = 0 := ⟨fun h => Int.emod_eq_zero_of_dvd (Int.dvd_of_tmod_eq_zero h), fun h => Int.tmod_eq_zero_of_dvd (Int.dvd_of_emod_eq_zero h)⟩
  by_cases h : level % 2 = 0
  · rw [if_pos (h2.2 h), h]; rfl
  · have : level % 2 = 1 := by omega
    rw [if_neg (fun hh => h (h2.1 hh)), this]; rfl
theorem refSettle_ev (l : List Int) (hl : l.length ≤ 1048576) (level sos eos : Int) : Ev (fun k => parquetryref15_Settle.f k l level sos eos) (spec level eos sos l) := by
  have hloop : ∀ (d i : Nat), l.length - i = d → i ≤ l.length → Ev (fun k => parquetryref15_Settle.l0 k l level sos eos ((spec level eos sos l).take i) (i : Int)) (spec level eos sos l) := by
    intro d
    induction d with
    | zero =>
      intro i hd hi
      rw [List.take_of_length_le (by rw [spec_length]; omega)]
      refine Ev.step (f := fun _ => some (spec level eos sos l)) (fun k => ?_) (Ev.now _)
      simp only [parquetryref15_Settle.l0]
      rw [if_neg (by omega)]
    | succ d ih =>
      intro i hd hi
      have hlt : i < l.length := by omega
      have hlt' : i < (spec level eos sos l).length := by rw [spec_length]; exact hlt
      have hg := spec_get level eos l sos i hlt
      have hnext := ih (i + 1) (by omega) (by omega)
      rw [show (spec level eos sos l).take (i + 1) = (spec level eos sos l).take i ++ [(spec level eos sos l).getD i 0] from by rw [List.take_succ_eq_append_getElem hlt', List.getD_eq_getElem?_getD, List.getElem?_eq_getElem hlt']; rfl, hg] at hnext
      have hlen : ((spec level eos sos l).take i).length < 17592186044416 := by rw [List.length_take, spec_length]; omega
      by_cases hc : isL (l.getD i 0) = true
      · obtain ⟨h1, h2⟩ := dirRef_yes _ hc
        rw [if_pos hc] at hnext
        refine Ev.step (fun k => ?_) hnext
        simp only [parquetryref15_Settle.l0]
        rw [if_pos (by omega), if_pos (by omega), rdD, h1, Option.bind_some, if_neg (by omega), if_pos hlen, wsucc i (by omega)]
      · have h1 := dirRef_no _ (Bool.eq_false_iff.2 hc)
        rw [if_neg hc] at hnext
        have har := l0D_ev l hl i hlt sos eos (i + 1) (Nat.le_refl _)
        rw [show ((i + 1 : Nat) : Int) - 1 = (i : Int) by omega, show l.take (i + 1) = l.take i ++ [l.getD i 0] from by rw [List.take_succ_eq_append_getElem hlt, List.getD_eq_getElem?_getD, List.getElem?_eq_getElem hlt]; rfl, lastD_snoc, if_neg hc] at har
        refine Ev.step (f := fun k => (parquetryref15_around.f k l (i : Int) sos eos).bind fun b => if b.1 = b.2 then parquetryref15_Settle.l0 k l level sos eos ((spec level eos sos l).take i ++ [b.1]) ((i + 1 : Nat) : Int) else parquetryref15_Settle.l0 k l level sos eos ((spec level eos sos l).take i ++ [way level]) ((i + 1 : Nat) : Int)) (fun k => ?_) ?_
        · simp only [parquetryref15_Settle.l0]
          rw [if_pos (by omega), if_pos (by omega), rdD, h1, Option.bind_some, if_pos (by decide), wsucc i (by omega)]
          congr 1
          funext b
          rw [way_ref]
          by_cases hb : b.1 = b.2
          · rw [if_pos hb, if_pos hb, if_pos hlen]
          · rw [if_neg hb, if_neg hb]
            by_cases ht : Int.tmod level 2 = 0
            · rw [if_pos ht, if_pos ht, if_pos hlen]
            · rw [if_neg ht, if_neg ht, if_pos hlen]
        · have har' : Ev (fun k => parquetryref15_around.f k l (i : Int) sos eos) (lastD sos (l.take i), firstD eos (l.drop i)) := har
          refine Ev.bind har' ?_
          unfold asOf at hnext
          by_cases hb : lastD sos (l.take i) = firstD eos (l.drop i)
          · rw [if_pos hb] at hnext
            refine Ev.congr (fun k => ?_) hnext
            rw [if_pos hb]
            rw [hb]
          · rw [if_neg hb] at hnext
            exact Ev.congr (fun k => if_neg hb) hnext
  have h := hloop _ 0 rfl (Nat.zero_le _)
  exact h
theorem NeutralSettles : parquetrylaw15_NeutralSettles.Pure := by
  intro l a b c _ _ _ _ _ _
  apply Ev.rounds
  unfold parquetrylaw15_NeutralSettles.f
  by_cases h : (l.length : Int) > 300
  · simp only [if_pos h]
    exact Ev.bind awakeD_ev (Ev.now _)
  · simp only [if_neg h, Option.bind_some, List.nil_append, List.length_nil]
    simp only [if_pos (show 0 + l.length < 17592186044416 by omega)]
    simp only [settle_ev l a b c (by omega), Option.bind_some]
    refine Ev.bind (refSettle_ev l (by omega) a b c) ?_
    refine Ev.bind (sameD_self _ (by rw [spec_length]; omega)) ?_
    simp only [if_true]
    refine Ev.bind (sameD_self _ (by omega)) ?_
    simp only [if_true]
    exact Ev.bind awakeD_ev (Ev.now _)

end Go.Proofs.YtfpibigfhhoiiaaDoor.Pure
