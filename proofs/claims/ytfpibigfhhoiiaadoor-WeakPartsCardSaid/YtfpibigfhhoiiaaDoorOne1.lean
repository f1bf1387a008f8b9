/- The document's rules of chapter 13, in plain words: what the printed function answers. -/
import Derived.Test.YtfpibigfhhoiiaaDoorOne0
import Derived.Test.YtfpibigfhhoiiaaDoorPWx4
namespace Go.Proofs.YtfpibigfhhoiiaaDoor
open Go.RowKit Go.Proofs.YtfpibigfhhoiiaaDoorW.PrintWords
set_option linter.unusedVariables false
set_option linter.unusedSimpArgs false

/-- What the document's rule makes of a class, by what stands around it. -/
def oneV (rule c p n i sos lt : Int) (nm : Bool) : Int :=
  if rule = 1 then (if c = 8 then (if i = 0 then sos else if p = 19 ∨ p = 20 ∨ p = 21 ∨ p = 22 then 13 else p) else c)
  else if rule = 2 then (if c = 3 ∧ lt = 2 then 6 else c)
  else if rule = 3 then (if c = 2 then 1 else c)
  else if rule = 4 then (if c = 4 ∧ p = 3 ∧ n = 3 then 3 else if c = 7 ∧ p = n ∧ (p = 3 ∨ p = 6) then p else c)
  else if rule = 5 then (if c = 5 ∧ nm = true then 3 else c)
  else if rule = 6 then (if c = 4 ∨ c = 5 ∨ c = 7 then 13 else c)
  else if rule = 7 then (if c = 3 ∧ lt = 0 then 0 else c) else c
section
variable (l : List Int) (sos : Int) (i : Nat) (lt : Int) (nm : Bool) (c p n : Int)
/-- From the number's end on. -/
theorem j1_ev (rule : Int) (hr : 1 ≤ rule ∧ rule ≤ 7) (hlt : Ev (fun k => PW.parquetryref13_letter.f k l (i : Int) sos) lt) (hnm : Ev (fun k => PW.parquetryref13_number.f k l (i : Int)) nm) :
    Ev (fun k => PW.parquetryref13_one.j1 k rule l (i : Int) sos c p n) (oneV rule c p n i sos lt nm) := by
  obtain ⟨K1, h1⟩ := hlt
  obtain ⟨K2, h2⟩ := hnm
  refine ⟨K1 + K2 + 12, fun k hk => ?_⟩
  obtain ⟨j, rfl⟩ : ∃ j, k = j + 9 := ⟨k - 9, by omega⟩
  have g1 : ∀ m, j ≤ m → PW.parquetryref13_letter.f m l (i : Int) sos = some lt := fun m hm => h1 m (by omega)
  have g2 : ∀ m, j ≤ m → PW.parquetryref13_number.f m l (i : Int) = some nm := fun m hm => h2 m (by omega)
  rcases (show rule = 1 ∨ rule = 2 ∨ rule = 3 ∨ rule = 4 ∨ rule = 5 ∨ rule = 6 ∨ rule = 7 by omega) with rfl | rfl | rfl | rfl | rfl | rfl | rfl
  · simp only [PW.parquetryref13_one.j1, PW.parquetryref13_one.j2, PW.parquetryref13_one.j3, PW.parquetryref13_one.j4, PW.parquetryref13_one.j5, PW.parquetryref13_one.j6, PW.parquetryref13_one.j7, PW.parquetryref13_one.j8, PW.parquetryref13_one.j9, oneV]
    by_cases a : c = 8
    · subst a
      by_cases b : (i : Int) = 0
      · simp [b]
      · have b' : ¬ i = 0 := by omega
        simp [b']
        by_cases p1 : p = 19
        · simp [p1, b']
        · by_cases p2 : p = 20
          · simp [p2, b']
          · by_cases p3 : p = 21
            · simp [p3, b']
            · by_cases p4 : p = 22
              · simp [p4, b']
              · simp [p1, p2, p3, p4, b']
    · have : (c == 8) = false := by simpa using a
      simp [a, this]
  · simp only [PW.parquetryref13_one.j1, PW.parquetryref13_one.j2, PW.parquetryref13_one.j3, PW.parquetryref13_one.j4, PW.parquetryref13_one.j5, PW.parquetryref13_one.j6, PW.parquetryref13_one.j7, PW.parquetryref13_one.j8, PW.parquetryref13_one.j9, oneV]
    rw [g1 _ (by omega)]
    by_cases a : c = 3
    · by_cases b : lt = 2
      · simp [a, b]
      · simp [a, b]
    · simp [a]
  · simp only [PW.parquetryref13_one.j1, PW.parquetryref13_one.j2, PW.parquetryref13_one.j3, PW.parquetryref13_one.j4, PW.parquetryref13_one.j5, PW.parquetryref13_one.j6, PW.parquetryref13_one.j7, PW.parquetryref13_one.j8, PW.parquetryref13_one.j9, oneV]
    by_cases a : c = 2
    · simp [a]
    · simp [a]
  · simp only [PW.parquetryref13_one.j1, PW.parquetryref13_one.j2, PW.parquetryref13_one.j3, PW.parquetryref13_one.j4, PW.parquetryref13_one.j5, PW.parquetryref13_one.j6, PW.parquetryref13_one.j7, PW.parquetryref13_one.j8, PW.parquetryref13_one.j9, oneV]
    by_cases a : c = 4
    · subst a
      by_cases b : p = 3
      · by_cases d : n = 3
        · simp [b, d]
        · simp [b, d]
      · simp [b]
    · by_cases a7 : c = 7
      · subst a7
        by_cases d : p = n
        · subst d
          by_cases b : p = 3
          · simp [b]
          · by_cases b6 : p = 6
            · simp [b6]
            · simp [b, b6]
        · simp [d]
      · simp [a, a7]
  · simp only [PW.parquetryref13_one.j1, PW.parquetryref13_one.j2, PW.parquetryref13_one.j3, PW.parquetryref13_one.j4, PW.parquetryref13_one.j5, PW.parquetryref13_one.j6, PW.parquetryref13_one.j7, PW.parquetryref13_one.j8, PW.parquetryref13_one.j9, oneV]
    rw [g2 _ (by omega)]
    by_cases a : c = 5
    · cases nm <;> simp [a]
    · simp [a]
  · simp only [PW.parquetryref13_one.j1, PW.parquetryref13_one.j2, PW.parquetryref13_one.j3, PW.parquetryref13_one.j4, PW.parquetryref13_one.j5, PW.parquetryref13_one.j6, PW.parquetryref13_one.j7, PW.parquetryref13_one.j8, PW.parquetryref13_one.j9, oneV]
    by_cases a : c = 4
    · simp [a]
    · by_cases b : c = 5
      · simp [b]
      · by_cases d : c = 7
        · simp [d]
        · simp [a, b, d]
  · simp only [PW.parquetryref13_one.j1, PW.parquetryref13_one.j2, PW.parquetryref13_one.j3, PW.parquetryref13_one.j4, PW.parquetryref13_one.j5, PW.parquetryref13_one.j6, PW.parquetryref13_one.j7, PW.parquetryref13_one.j8, PW.parquetryref13_one.j9, oneV]
    by_cases a : c = 3
    · by_cases b : lt = 0
      · simp [a, b, g1 j (Nat.le_refl _)]
      · simp [a, b, g1 j (Nat.le_refl _)]
    · simp [a]
end
/-- A place of a row. -/
theorem one_ev (rule : Int) (hr : 1 ≤ rule ∧ rule ≤ 7) (sos : Int) (A : List Int) (c : Int) (r : List Int) (hl : (A ++ c :: r).length ≤ 1048576) :
    Ev (fun k => PW.parquetryref13_one.f k rule (A ++ c :: r) (A.length : Int) sos) (oneV rule c (A.getLast?.getD (-1)) (nxW r) (A.length : Int) sos (lastL A sos) (numW A r)) := by
  have hlen : (A ++ c :: r).length = A.length + r.length + 1 := by simp; omega
  have hA : A.length < (A ++ c :: r).length := by omega
  have t1 : (A ++ c :: r).take A.length = A := by simp
  have t2 : (A ++ c :: r).drop (A.length + 1) = r := by rw [List.drop_append]; simp
  have hlt := letter_ev (A ++ c :: r) sos hl A.length (by omega)
  have hnm := number_ev (A ++ c :: r) hl A.length hA
  rw [t1] at hlt hnm
  rw [t2] at hnm
  have gc : rd (A ++ c :: r) (A.length : Int) = c := by rw [rdn]; simp
  obtain ⟨l, hL⟩ : ∃ l, l = A ++ c :: r := ⟨_, rfl⟩
  rw [← hL] at hl hlen hA t1 t2 hlt hnm gc ⊢
  have hj0 : ∀ p, Ev (fun k => PW.parquetryref13_one.j0 k rule l (A.length : Int) sos c p (-1)) (oneV rule c p (nxW r) (A.length : Int) sos (lastL A sos) (numW A r)) := by
    intro p
    have ew : wrap64 ((A.length : Int) + 1) = ((A.length + 1 : Nat) : Int) := by rw [w64_in _ (by omega) (by omega)]; omega
    cases r with
    | nil =>
      refine Ev.step (fun k => ?_) (j1_ev l sos A.length _ _ c p (-1) rule hr hlt hnm)
      simp only [PW.parquetryref13_one.j0]
      rw [ew, if_neg (by simp at hlen; omega)]
    | cons d r =>
      refine Ev.step (fun k => ?_) (j1_ev l sos A.length _ _ c p d rule hr hlt hnm)
      simp only [PW.parquetryref13_one.j0]
      have gd : rd l ((A.length + 1 : Nat) : Int) = d := by
        rw [rdn, hL, List.getD_eq_getElem?_getD, List.getElem?_append_right (by omega), show A.length + 1 - A.length = 1 by omega]; rfl
      rw [ew, if_pos (by simp at hlen; omega), if_pos (by omega), gd]
  refine Ev.congr (fun k => ?_) (hj0 _)
  unfold PW.parquetryref13_one.f
  rw [if_pos (by omega), if_pos (by omega), gc]
  by_cases h0 : A = []
  · subst h0
    rw [if_neg (by simp)]
    rfl
  · have hpos : 0 < A.length := List.length_pos_iff.2 h0
    have ep : wrap64 ((A.length : Int) - 1) = ((A.length - 1 : Nat) : Int) := by rw [w64_in _ (by omega) (by omega)]; omega
    have gp : rd l ((A.length - 1 : Nat) : Int) = A.getLast?.getD (-1) := by
      rw [rdn, hL, List.getD_eq_getElem?_getD, List.getElem?_append_left (by omega), List.getLast?_eq_getElem?, List.getElem?_eq_getElem (by omega)]; rfl
    rw [if_pos (by omega), ep, if_pos (by omega), if_pos (by omega), gp]
/-- The document's step is the plain one. -/
theorem oneV_step (sos : Int) (A : List Int) (c : Int) (r : List Int) (rule : Nat) (hr : 1 ≤ rule ∧ rule ≤ 7) (h5 : rule = 5 → okR A (c :: r)) :
    oneV (rule : Int) c (A.getLast?.getD (-1)) (nxW r) (A.length : Int) sos (lastL A sos) (numW A r) = stepR sos rule A c r := by
  have hne : A ≠ [] → A.getLast?.getD (-1) = prevL A sos ∧ someB A = true ∧ ¬ (A.length : Int) = 0 := by
    intro h
    cases hA : A.getLast? with
    | none => exact absurd (List.getLast?_eq_none_iff.1 hA) h
    | some x => exact ⟨by simp [prevL, hA], by cases A with | nil => exact absurd rfl h | cons a A => rfl, by have := List.length_pos_iff.2 h; omega⟩
  rcases (show rule = 1 ∨ rule = 2 ∨ rule = 3 ∨ rule = 4 ∨ rule = 5 ∨ rule = 6 ∨ rule = 7 by omega) with rfl | rfl | rfl | rfl | rfl | rfl | rfl
  · simp only [oneV, stepR]
    by_cases c8 : c = 8
    · by_cases h0 : A = []
      · subst h0; simp [c8, prevL, someB, mkOf]
      · obtain ⟨e1, e2, e3⟩ := hne h0
        rw [e1, e2, if_pos (by rfl), if_pos c8, if_neg e3, if_pos c8]
        unfold mkOf
        by_cases h : prevL A sos = 19 ∨ prevL A sos = 20 ∨ prevL A sos = 21 ∨ prevL A sos = 22
        · rw [if_pos h, if_pos ⟨rfl, by omega, by omega⟩]
        · rw [if_neg h, if_neg (fun hh => h (by have := hh.2; omega))]
    · simp [c8]
  · simp [oneV, stepR]
  · simp [oneV, stepR]
  · have x4 : ((4 : Nat) : Int) = 4 := rfl
    simp only [oneV, stepR, x4]
    rw [if_neg (by decide), if_neg (by decide), if_neg (by decide), if_pos trivial]
    unfold btOf
    by_cases h0 : A = []
    · subst h0
      rw [if_neg (by rintro ⟨_, h, _⟩; simp at h), if_neg (by rintro ⟨_, _, h⟩; simp at h), if_neg (by rintro ⟨h, _⟩; simp [someB] at h)]
    · obtain ⟨e1, e2, e3⟩ := hne h0
      rw [e1, e2]
      by_cases q : c = 4 ∧ prevL A sos = 3 ∧ nxW r = 3
      · rw [if_pos q, if_pos ⟨rfl, by omega, .inl ⟨q.1, q.2.1⟩⟩]; omega
      · rw [if_neg q]
        by_cases q2 : c = 7 ∧ prevL A sos = nxW r ∧ (prevL A sos = 3 ∨ prevL A sos = 6)
        · rw [if_pos q2, if_pos ⟨rfl, q2.2.1, .inr ⟨q2.1, q2.2.2⟩⟩]
        · rw [if_neg q2, if_neg]
          rintro ⟨_, a, b | b⟩
          · exact q ⟨b.1, b.2, by omega⟩
          · exact q2 ⟨b.1, a, b.2⟩
  · have x5 : ((5 : Nat) : Int) = 5 := rfl
    simp only [oneV, stepR, x5]
    rw [if_neg (by decide), if_neg (by decide), if_neg (by decide), if_neg (by decide), if_pos trivial]
    unfold bsOf
    by_cases c5 : c = 5
    · subst c5
      have key : numW A r = true ↔ (someB A = true ∧ prevL A sos = 3 ∨ runNx r = 3) := by
        unfold numW
        simp only [Bool.or_eq_true, beq_iff_eq]
        by_cases hr3 : runNx r = 3
        · simp [hr3]
        · simp only [hr3, or_false]
          -- the run ahead
          by_cases h0 : A = []
          · subst h0; simp [runNx, someB]
          · obtain ⟨_, e2, _⟩ := hne h0
            obtain ⟨B, x, rfl⟩ : ∃ B x, A = B ++ [x] := ⟨A.dropLast, A.getLast h0, (List.dropLast_concat_getLast h0).symm⟩
            rw [e2, prevL_snoc, List.reverse_append]
            simp only [List.reverse_singleton, List.singleton_append, runNx]
            by_cases hx : x = 5
            · subst hx
              simp only [if_true]
              constructor
              · intro hh
                exfalso
                have hrun : ∀ (C : List Int) (m : Nat), runNx C.reverse = 3 → ∃ D m', C ++ List.replicate m 5 = D ++ List.replicate m' 5 ∧ D.getLast? = some 3 ∧ m ≤ m' := by
                  intro C
                  obtain ⟨n, hn⟩ : ∃ n, n = C.length := ⟨_, rfl⟩
                  induction n generalizing C with
                  | zero => intro m h; have : C = [] := List.eq_nil_of_length_eq_zero hn.symm; subst this; simp [runNx] at h
                  | succ n ih =>
                    intro m h
                    have hC : C ≠ [] := by intro e; subst e; simp at hn
                    obtain ⟨E, y, rfl⟩ : ∃ E y, C = E ++ [y] := ⟨C.dropLast, C.getLast hC, (List.dropLast_concat_getLast hC).symm⟩
                    rw [List.reverse_append] at h
                    simp only [List.reverse_singleton, List.singleton_append, runNx] at h
                    by_cases hy : y = 5
                    · rw [if_pos hy] at h
                      obtain ⟨D, m', e, e2, e3⟩ := ih E (by simp at hn; omega) (m + 1) h
                      refine ⟨D, m', ?_, e2, by omega⟩
                      rw [← e, hy, List.append_assoc]
                      rfl
                    · rw [if_neg hy] at h
                      exact ⟨E ++ [y], m, rfl, by simp [h], Nat.le_refl _⟩
                obtain ⟨D, m', e, e2, e3⟩ := hrun B 1 hh
                exact (h5 rfl D m' (by simpa using e) (by omega)).1 e2
              · rintro ⟨_, h⟩; omega
            · simp [hx]
      by_cases hn : numW A r = true
      · rw [if_pos ⟨rfl, hn⟩, if_pos ⟨rfl, key.1 hn⟩]
      · rw [if_neg (fun h => hn h.2), if_neg (fun h => hn (key.2 h.2))]
    · rw [if_neg (fun h => c5 h.1), if_neg (fun h => c5 h.1)]
  · simp [oneV, stepR]
  · simp [oneV, stepR]
theorem goR_len (sos : Int) (rule : Nat) : ∀ (r A : List Int), (goR sos rule A r).length = A.length + r.length
  | [], A => by simp [goR]
  | c :: r, A => by simp only [goR]; rw [goR_len sos rule r]; simp; omega
theorem l1_ev (sos : Int) (rule : Nat) (hr : 1 ≤ rule ∧ rule ≤ 7) {X : List Int} : ∀ (r A : List Int), (A ++ r).length ≤ 1048576 → (rule = 5 → okR A r) →
    Ev (fun k => PW.parquetryref13_Weak.l0 k sos (goR sos rule A r) ((rule + 1 : Nat) : Int)) X → Ev (fun k => PW.parquetryref13_Weak.l1 k sos (A ++ r) (rule : Int) (A.length : Int)) X
  | [], A, hl, _, h => by
    refine Ev.step (fun k => ?_) h
    simp only [PW.parquetryref13_Weak.l1]
    rw [if_neg (by simp), w64_in _ (by omega) (by omega)]
    simp [goR]
  | c :: r, A, hl, h5, h => by
    have hlen : (A ++ c :: r).length = A.length + r.length + 1 := by simp; omega
    have e1 := one_ev (rule : Int) (by omega) sos A c r hl
    rw [oneV_step sos A c r rule hr h5] at e1
    have ih := l1_ev sos rule hr r (A ++ [stepR sos rule A c r]) (by simp at hl ⊢; omega) (fun e => by subst e; exact okR_step sos (h5 rfl)) (X := X) (by simpa [goR] using h)
    refine Ev.step (f := fun k => (PW.parquetryref13_one.f k (rule : Int) (A ++ c :: r) (A.length : Int) sos).bind fun t => PW.parquetryref13_Weak.l1 k sos ((A ++ c :: r).set A.length t) (rule : Int) ((A.length + 1 : Nat) : Int)) (fun k => ?_) (Ev.bind e1 ?_)
    · simp only [PW.parquetryref13_Weak.l1]
      rw [if_pos (by omega)]
      have ew : wrap64 ((A.length : Int) + 1) = ((A.length + 1 : Nat) : Int) := by rw [w64_in _ (by omega) (by omega)]; omega
      simp only [ew, Int.toNat_natCast]
      congr 1
    · have es : (A ++ c :: r).set A.length (stepR sos rule A c r) = (A ++ [stepR sos rule A c r]) ++ r := by
        rw [List.set_append_right _ _ (Nat.le_refl _)]; simp
      rw [es]
      have el : (A ++ [stepR sos rule A c r]).length = A.length + 1 := by simp
      rw [← el]
      exact ih
theorem refWeak_ev (l : List Int) (sos : Int) (hl : l.length ≤ 1048576) : Ev (fun k => PW.parquetryref13_Weak.f k l sos) (weakW l sos) := by
  have hstep : ∀ (rule : Nat) (m : List Int) (X : List Int), 1 ≤ rule ∧ rule ≤ 7 → m.length ≤ 1048576 → Ev (fun k => PW.parquetryref13_Weak.l0 k sos (goR sos rule [] m) ((rule + 1 : Nat) : Int)) X → Ev (fun k => PW.parquetryref13_Weak.l0 k sos m (rule : Int)) X := by
    intro rule m X hr hm h
    refine Ev.step (fun k => ?_) (l1_ev sos rule hr m [] (by simpa using hm) (fun _ => okR_nil m) h)
    simp only [PW.parquetryref13_Weak.l0]
    rw [if_pos (by omega)]
    rfl
  have hlen : ∀ rule m, m.length ≤ 1048576 → (goR sos rule [] m).length ≤ 1048576 := fun rule m h => by rw [goR_len]; simpa using h
  have h1 := hlen 1 l hl
  have h2 := hlen 2 _ h1
  have h3 := hlen 3 _ h2
  have h4 := hlen 4 _ h3
  have h5 := hlen 5 _ h4
  have h6 := hlen 6 _ h5
  have hend : ∀ m, Ev (fun k => PW.parquetryref13_Weak.l0 k sos m ((7 + 1 : Nat) : Int)) m := by
    intro m
    refine Ev.step (f := fun _ => some m) (fun k => ?_) (Ev.now _)
    simp only [PW.parquetryref13_Weak.l0]
    rw [if_neg (by decide)]
  have hall := hstep 1 l _ (by omega) hl (hstep 2 _ _ (by omega) h1 (hstep 3 _ _ (by omega) h2 (hstep 4 _ _ (by omega) h3 (hstep 5 _ _ (by omega) h4 (hstep 6 _ _ (by omega) h5 (hstep 7 _ _ (by omega) h6 (hend _)))))))
  rw [weak_ref] at hall
  refine Ev.congr (fun k => ?_) hall
  unfold PW.parquetryref13_Weak.f
  simp only [Option.bind_some, List.nil_append, List.length_nil]
  rw [if_pos (by omega)]
  rfl
end Go.Proofs.YtfpibigfhhoiiaaDoor
