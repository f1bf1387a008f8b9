/- The document's look at letters and at numbers beside a run, in plain words; its rules' plain words. -/
import Derived.Test.YtfpibigfhhoiiaaDoorPWx2
import Derived.Test.YtfpibigfhhoiiaaDoorPWx1
import Derived.Test.YtfpibigfhhoiiaaDoorWk8
namespace Go.Proofs.YtfpibigfhhoiiaaDoor
open Go.RowKit Go.Proofs.YtfpibigfhhoiiaaDoorW.PrintWords
set_option linter.unusedVariables false
set_option linter.unusedSimpArgs false

/-! The document's rules: at each place what it becomes, of what those ahead have become. -/
def lastL (A : List Int) (sos : Int) : Int := A.foldl (fun s c => if c = 0 ∨ c = 1 ∨ c = 2 then c else s) sos
def prevL (A : List Int) (sos : Int) : Int := A.getLast?.getD sos
def someB (A : List Int) : Bool := !A.isEmpty
def stepR (sos : Int) (rule : Nat) (A : List Int) (c : Int) (r : List Int) : Int :=
  match rule with
  | 1 => if c = 8 then mkOf (prevL A sos) (someB A) else c
  | 2 => if c = 3 ∧ lastL A sos = 2 then 6 else c
  | 3 => if c = 2 then 1 else c
  | 4 => btOf (prevL A sos) (nxW r) (someB A) c
  | 5 => bsOf (prevL A sos) (runNx r) (someB A) c
  | 6 => if c = 4 ∨ c = 5 ∨ c = 7 then 13 else c
  | _ => if c = 3 ∧ lastL A sos = 0 then 0 else c
def goR (sos : Int) (rule : Nat) : List Int → List Int → List Int
  | A, [] => A
  | A, c :: r => goR sos rule (A ++ [stepR sos rule A c r]) r
theorem prevL_snoc (A : List Int) (x sos : Int) : prevL (A ++ [x]) sos = x := by simp [prevL]
theorem someB_snoc (A : List Int) (x : Int) : someB (A ++ [x]) = true := by cases A <;> rfl
theorem lastL_snoc (A : List Int) (x sos : Int) : lastL (A ++ [x]) sos = if x = 0 ∨ x = 1 ∨ x = 2 then x else lastL A sos := by simp [lastL]
theorem goR1 (sos : Int) : ∀ (r A : List Int), goR sos 1 A r = A ++ mkGo (prevL A sos) (someB A) r
  | [], A => by simp [goR, mkGo]
  | c :: r, A => by
    simp only [goR]
    rw [goR1 sos r, prevL_snoc, someB_snoc]
    simp only [stepR, mkGo, List.append_assoc, List.singleton_append]
theorem goR2 (sos : Int) : ∀ (r A : List Int), goR sos 2 A r = A ++ aftGo 2 6 (lastL A sos) r
  | [], A => by simp [goR, aftGo]
  | c :: r, A => by
    simp only [goR]
    rw [goR2 sos r, lastL_snoc]
    simp only [stepR, aftGo, List.append_assoc, List.singleton_append]
    congr 1
    by_cases h0 : c = 0 ∨ c = 1 ∨ c = 2
    · rw [if_neg (by omega), if_pos h0, if_pos h0]
    · rw [if_neg h0]
      by_cases h3 : c = 3
      · by_cases hl : lastL A sos = 2
        · rw [if_pos ⟨h3, hl⟩, if_neg (by omega), if_pos h3, if_pos hl]
        · rw [if_neg (by omega), if_neg h0, if_pos h3, if_neg hl]
      · rw [if_neg (by omega), if_neg h0, if_neg h3]
theorem goR3 (sos : Int) : ∀ (r A : List Int), goR sos 3 A r = A ++ turnW 1 [2] r
  | [], A => by simp [goR, turnW]
  | c :: r, A => by
    simp only [goR]
    rw [goR3 sos r]
    simp only [stepR, turnW, List.map_cons, List.append_assoc, List.singleton_append]
    congr 2
    by_cases h : c = 2
    · subst h; rfl
    · rw [if_neg h, if_neg (by simp [h])]
theorem goR4 (sos : Int) : ∀ (r A : List Int), goR sos 4 A r = A ++ btGo (prevL A sos) (someB A) r
  | [], A => by simp [goR, btGo]
  | c :: r, A => by
    simp only [goR]
    rw [goR4 sos r, prevL_snoc, someB_snoc]
    simp only [stepR, btGo, List.append_assoc, List.singleton_append]
theorem goR5 (sos : Int) : ∀ (r A : List Int), goR sos 5 A r = A ++ bsGo (prevL A sos) (someB A) r
  | [], A => by simp [goR, bsGo]
  | c :: r, A => by
    simp only [goR]
    rw [goR5 sos r, prevL_snoc, someB_snoc]
    simp only [stepR, bsGo, List.append_assoc, List.singleton_append]
theorem goR6 (sos : Int) : ∀ (r A : List Int), goR sos 6 A r = A ++ turnW 13 [4, 5, 7] r
  | [], A => by simp [goR, turnW]
  | c :: r, A => by
    simp only [goR]
    rw [goR6 sos r]
    simp only [stepR, turnW, List.map_cons, List.append_assoc, List.singleton_append]
    congr 2
    by_cases h : c = 4 ∨ c = 5 ∨ c = 7
    · rw [if_pos h, if_pos (by rcases h with rfl | rfl | rfl <;> rfl)]
    · rw [if_neg h, if_neg (by simp; omega)]
theorem goR7 (sos : Int) : ∀ (r A : List Int), goR sos 7 A r = A ++ aftGo 0 0 (lastL A sos) r
  | [], A => by simp [goR, aftGo]
  | c :: r, A => by
    simp only [goR]
    rw [goR7 sos r, lastL_snoc]
    simp only [stepR, aftGo, List.append_assoc, List.singleton_append]
    congr 1
    by_cases h0 : c = 0 ∨ c = 1 ∨ c = 2
    · rw [if_neg (by omega), if_pos h0, if_pos h0]
    · rw [if_neg h0]
      by_cases h3 : c = 3
      · by_cases hl : lastL A sos = 0
        · rw [if_pos ⟨h3, hl⟩, if_pos (by omega), if_pos h3, if_pos hl, hl]
        · rw [if_neg (by omega), if_neg h0, if_pos h3, if_neg hl]
      · rw [if_neg (by omega), if_neg h0, if_neg h3]
theorem weak_ref (l : List Int) (sos : Int) : goR sos 7 [] (goR sos 6 [] (goR sos 5 [] (goR sos 4 [] (goR sos 3 [] (goR sos 2 [] (goR sos 1 [] l)))))) = weakW l sos := by
  rw [goR1, goR2, goR3, goR4, goR5, goR6, goR7]
  rfl
/-- Behind ET that stay no EN stands next to their run. -/
def okR (A r : List Int) : Prop := ∀ B n, A = B ++ List.replicate n 5 → 0 < n → B.getLast? ≠ some 3 ∧ runNx r ≠ 3
theorem okR_nil (r : List Int) : okR [] r := by
  intro B n h hn
  have := congrArg List.length h
  simp at this
  omega
theorem okR_step (sos : Int) {A r : List Int} {c : Int} (h : okR A (c :: r)) : okR (A ++ [stepR sos 5 A c r]) r := by
  intro B n hB hn
  obtain ⟨m, rfl⟩ : ∃ m, n = m + 1 := ⟨n - 1, by omega⟩
  rw [List.replicate_succ', ← List.append_assoc] at hB
  obtain ⟨hA, hx⟩ := List.append_inj' hB rfl
  injection hx with hx _
  simp only [stepR, bsOf] at hx
  have hc : ¬ (c = 5 ∧ (someB A = true ∧ prevL A sos = 3 ∨ runNx r = 3)) := by intro hh; rw [if_pos hh] at hx; omega
  rw [if_neg hc] at hx
  subst hx
  refine ⟨?_, fun h3 => hc ⟨rfl, .inr h3⟩⟩
  cases m with
  | zero =>
    simp at hA
    subst hA
    intro h3
    refine hc ⟨rfl, .inl ⟨?_, by simp [prevL, h3]⟩⟩
    cases A with
    | nil => simp at h3
    | cons a A => rfl
  | succ m => exact (h B (m + 1) hA (by omega)).1

theorem w64_in (x : Int) (h0 : -9223372036854775808 ≤ x) (h1 : x ≤ 9223372036854775807) : wrap64 x = x := by unfold wrap64; omega
theorem rdn (l : List Int) (i : Nat) : rd l (i : Int) = l.getD i 0 := by simp [rd]
theorem take_snoc (l : List Int) (i : Nat) (h : i < l.length) : l.take (i + 1) = l.take i ++ [l.getD i 0] := by
  rw [List.take_succ_eq_append_getElem h, List.getD_eq_getElem?_getD, List.getElem?_eq_getElem h]; rfl
theorem ev_step2 {α : Type} {g f : Nat → Option α} {r : α} (h : ∀ k, g (k + 2) = f k) (k : Ev f r) : Ev g r := by
  obtain ⟨K, hK⟩ := k
  refine ⟨K + 2, fun k hk => ?_⟩
  obtain ⟨j, rfl⟩ : ∃ j, k = j + 2 := ⟨k - 2, by omega⟩
  rw [h]
  exact hK j (by omega)
theorem letter_ev (l : List Int) (sos : Int) (hl : l.length ≤ 1048576) : ∀ i : Nat, i ≤ l.length → Ev (fun k => PW.parquetryref13_letter.f k l (i : Int) sos) (lastL (l.take i) sos) := by
  have hloop : ∀ i : Nat, i ≤ l.length → Ev (fun k => PW.parquetryref13_letter.l0 k l sos ((i : Int) - 1)) (lastL (l.take i) sos) := by
    intro i
    induction i with
    | zero =>
      intro _
      refine Ev.step (f := fun _ => some sos) (fun k => ?_) (Ev.now _)
      simp only [PW.parquetryref13_letter.l0]
      rw [if_neg (by omega)]
    | succ i ih =>
      intro hi
      rw [take_snoc l i (by omega), lastL_snoc, show ((i + 1 : Nat) : Int) - 1 = (i : Int) by omega]
      by_cases h : l.getD i 0 = 0 ∨ l.getD i 0 = 1 ∨ l.getD i 0 = 2
      · rw [if_pos h]
        refine Ev.step (f := fun _ => some (l.getD i 0)) (fun k => ?_) (Ev.now _)
        simp only [PW.parquetryref13_letter.l0]
        rw [if_pos (by omega), if_pos (by omega), if_pos (by omega), rdn]
        by_cases h0 : l.getD i 0 = 0
        · rw [if_pos h0]
        · rw [if_neg h0]
          by_cases h1 : l.getD i 0 = 1
          · rw [if_pos h1]
          · rw [if_neg h1, if_pos (by omega)]
      · rw [if_neg h]
        refine Ev.step (fun k => ?_) (ih (by omega))
        simp only [PW.parquetryref13_letter.l0]
        rw [if_pos (by omega), if_pos (by omega), if_pos (by omega), rdn, if_neg (by omega), if_neg (by omega), if_neg (by omega), w64_in _ (by omega) (by omega)]
  intro i hi
  refine Ev.congr (fun k => ?_) (hloop i hi)
  unfold PW.parquetryref13_letter.f
  rw [w64_in _ (by omega) (by omega)]
def numW (A r : List Int) : Bool := (runNx A.reverse == 3) || (runNx r == 3)
theorem number_ev (l : List Int) (hl : l.length ≤ 1048576) (i : Nat) (hi : i < l.length) : Ev (fun k => PW.parquetryref13_number.f k l (i : Int)) (numW (l.take i) (l.drop (i + 1))) := by
  have h1 : ∀ (m : Nat), m ≤ l.length → ∀ (d t : Nat), l.length - t = d → t < l.length → Ev (fun k => PW.parquetryref13_number.l1 k l (m : Int) (t : Int)) ((decide (0 < m) && (l.getD (m - 1) 0 == 3)) || (runNx (l.drop (t + 1)) == 3)) := by
    intro m hm d
    induction d with
    | zero => intro t hd ht; omega
    | succ d ih =>
      intro t hd ht
      have et : wrap64 ((t : Int) + 1) = ((t + 1 : Nat) : Int) := by rw [w64_in _ (by omega) (by omega)]; omega
      by_cases hlt : t + 1 < l.length
      · by_cases h5 : l.getD (t + 1) 0 = 5
        · have e : runNx (l.drop (t + 1)) = runNx (l.drop (t + 1 + 1)) := by
            rw [drop_at l (t + 1) hlt]; simp only [runNx]; rw [if_pos h5]
          rw [e]
          refine Ev.step (fun k => ?_) (ih (t + 1) (by omega) hlt)
          simp only [PW.parquetryref13_number.l1]
          rw [et, if_pos (by omega), if_pos (by omega), rdn, if_pos h5]
        · have e : runNx (l.drop (t + 1)) = l.getD (t + 1) 0 := by
            rw [drop_at l (t + 1) hlt]; simp only [runNx]; rw [if_neg h5]
          rw [e]
          refine Ev.step (f := fun _ => some ((decide (0 < m) && (l.getD (m - 1) 0 == 3)) || (l.getD (t + 1) 0 == 3))) (fun k => ?_) (Ev.now _)
          simp only [PW.parquetryref13_number.l1]
          rw [et, if_pos (by omega), if_pos (by omega), rdn, if_neg h5]
          by_cases h0 : 0 < m
          · have em : wrap64 ((m : Int) - 1) = ((m - 1 : Nat) : Int) := by rw [w64_in _ (by omega) (by omega)]; omega
            rw [if_pos (by omega), em, if_pos (by omega), if_pos (by omega), rdn, decide_eq_true h0]
            by_cases h3 : l.getD (m - 1) 0 = 3
            · rw [if_pos h3, h3]; rfl
            · rw [if_neg h3, show (l.getD (m - 1) 0 == 3) = false by simpa using h3]; rfl
          · rw [if_neg (by omega), decide_eq_false h0]; rfl
      · have e : runNx (l.drop (t + 1)) = -1 := by rw [List.drop_of_length_le (by omega)]; rfl
        rw [e]
        refine Ev.step (f := fun _ => some ((decide (0 < m) && (l.getD (m - 1) 0 == 3)) || ((-1 : Int) == 3))) (fun k => ?_) (Ev.now _)
        simp only [PW.parquetryref13_number.l1]
        rw [et, if_neg (by omega)]
        by_cases h0 : 0 < m
        · have em : wrap64 ((m : Int) - 1) = ((m - 1 : Nat) : Int) := by rw [w64_in _ (by omega) (by omega)]; omega
          rw [if_pos (by omega), em, if_pos (by omega), if_pos (by omega), rdn, decide_eq_true h0]
          by_cases h3 : l.getD (m - 1) 0 = 3
          · rw [if_pos h3, h3]; rfl
          · rw [if_neg h3, show (l.getD (m - 1) 0 == 3) = false by simpa using h3]; rfl
        · rw [if_neg (by omega), decide_eq_false h0]; rfl
  have h0 : ∀ m : Nat, m ≤ i → Ev (fun k => PW.parquetryref13_number.l0 k l (m : Int) (i : Int)) (numW (l.take m) (l.drop (i + 1))) := by
    intro m
    induction m with
    | zero =>
      intro _
      refine ev_step2 (fun k => ?_) (h1 0 (Nat.zero_le _) _ i rfl hi)
      simp only [PW.parquetryref13_number.l0, PW.parquetryref13_number.j1]
      rw [if_neg (by omega)]
    | succ m ih =>
      intro hm
      have em : wrap64 (((m + 1 : Nat) : Int) - 1) = (m : Int) := by rw [w64_in _ (by omega) (by omega)]; omega
      by_cases h5 : l.getD m 0 = 5
      · have e : numW (l.take (m + 1)) (l.drop (i + 1)) = numW (l.take m) (l.drop (i + 1)) := by
          unfold numW
          rw [take_snoc l m (by omega), List.reverse_append]
          simp only [List.reverse_singleton, List.singleton_append, runNx]
          rw [if_pos h5]
        rw [e]
        refine Ev.step (fun k => ?_) (ih (by omega))
        simp only [PW.parquetryref13_number.l0]
        rw [if_pos (by omega), em, if_pos (by omega), if_pos (by omega), rdn, if_pos h5]
      · have e : numW (l.take (m + 1)) (l.drop (i + 1)) = ((decide (0 < m + 1) && (l.getD (m + 1 - 1) 0 == 3)) || (runNx (l.drop (i + 1)) == 3)) := by
          unfold numW
          rw [take_snoc l m (by omega), List.reverse_append]
          simp only [List.reverse_singleton, List.singleton_append, runNx]
          rw [if_neg h5, decide_eq_true (Nat.succ_pos m), Bool.true_and, Nat.add_sub_cancel]
        rw [e]
        refine ev_step2 (fun k => ?_) (h1 (m + 1) (by omega) _ i rfl hi)
        simp only [PW.parquetryref13_number.l0, PW.parquetryref13_number.j1]
        rw [if_pos (by omega), em, if_pos (by omega), if_pos (by omega), rdn, if_neg h5]
  exact h0 i (Nat.le_refl _)
end Go.Proofs.YtfpibigfhhoiiaaDoor
