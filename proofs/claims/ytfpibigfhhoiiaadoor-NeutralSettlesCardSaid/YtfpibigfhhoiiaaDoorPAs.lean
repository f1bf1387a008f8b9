import Derived.Test.YtfpibigfhhoiiaaDoorPAc
import Derived.Test.YtfpibigfhhoiiaaDoorPAx3
import Derived.Test.YtfpibigfhhoiiaaDoorPAx4
namespace Go.Proofs.YtfpibigfhhoiiaaDoor.Pure
open Go.RowKit Go.Proofs.YtfpibigfhhoiiaaDoor.PA Go.Proofs.YtfpibigfhhoiiaaDoorW.PrintWords Go.Proofs.YtfpibigfhhoiiaaDoorW.PrintLast

/-! ### What Settle does, plainly -/
def isL (c : Int) : Bool := (letter c).2
def dirD (c : Int) : Int := (letter c).1
def firstD (eos : Int) : List Int → Int
  | [] => eos
  | c :: cs => if isL c = true then dirD c else firstD eos cs
def spec (level eos : Int) : Int → List Int → List Int
  | _, [] => []
  | a, c :: cs => if isL c = true then c :: spec level eos (dirD c) cs else asOf level a (firstD eos cs) :: spec level eos a cs
theorem spec_length (level eos : Int) (l : List Int) : ∀ a, (spec level eos a l).length = l.length := by
  induction l with
  | nil => intro a; rfl
  | cons c cs ih => intro a; unfold spec; split <;> simp [ih]
theorem firstD_app (eos c : Int) (g r : List Int) (hg : ∀ x ∈ g, isL x = false) (hc : isL c = true) : firstD eos (g ++ c :: r) = dirD c := by
  induction g with
  | nil => simp [firstD, hc]
  | cons x g ih =>
    rw [List.cons_append, firstD, if_neg (by rw [hg x (by simp)]; simp)]
    exact ih fun y hy => hg y (by simp [hy])
theorem firstD_none (eos : Int) (g : List Int) (hg : ∀ x ∈ g, isL x = false) : firstD eos g = eos := by
  induction g with
  | nil => rfl
  | cons x g ih =>
    rw [firstD, if_neg (by rw [hg x (by simp)]; simp)]
    exact ih fun y hy => hg y (by simp [hy])
theorem spec_gap (level eos a c : Int) (g r : List Int) (hg : ∀ x ∈ g, isL x = false) (hc : isL c = true) :
    spec level eos a (g ++ c :: r) = List.replicate g.length (asOf level a (dirD c)) ++ c :: spec level eos (dirD c) r := by
  induction g with
  | nil => simp [spec, hc]
  | cons x g ih =>
    have hg' : ∀ y ∈ g, isL y = false := fun y hy => hg y (by simp [hy])
    rw [List.cons_append, spec, if_neg (by rw [hg x (by simp)]; simp), firstD_app eos c g r hg' hc, ih hg', List.length_cons, List.replicate_succ]
    rfl
theorem spec_tail (level eos a : Int) (g : List Int) (hg : ∀ x ∈ g, isL x = false) : spec level eos a g = List.replicate g.length (asOf level a eos) := by
  induction g with
  | nil => rfl
  | cons x g ih =>
    have hg' : ∀ y ∈ g, isL y = false := fun y hy => hg y (by simp [hy])
    rw [spec, if_neg (by rw [hg x (by simp)]; simp), firstD_none eos g hg', ih hg', List.length_cons, List.replicate_succ]
theorem fillIn_eq (v : Int) (d : Nat) : ∀ (o : List Int) (f : Nat), f + d ≤ o.length → fillIn o f v d = o.take f ++ (List.replicate d v ++ o.drop (f + d)) := by
  induction d with
  | zero => intro o f _; simp [fillIn]
  | succ d ih =>
    intro o f h
    rw [fillIn, ih _ _ (by rw [List.length_set]; omega)]
    rw [List.take_set, List.drop_set_of_lt (by omega), List.replicate_succ, List.cons_append]
    have e1 : (o.take (f + 1)).set f v = o.take f ++ [v] := by
      rw [List.take_succ_eq_append_getElem (by omega), List.set_append_right _ _ (by rw [List.length_take]; omega), List.length_take, Nat.min_eq_left (by omega), Nat.sub_self, List.set_cons_zero]
    rw [e1, List.append_assoc, List.singleton_append, show f + 1 + d = f + (d + 1) by omega]
theorem take_mid {α : Type} (P r : List α) (c : α) : (P ++ c :: r).take (P.length + 1) = P ++ [c] := by
  rw [List.take_append, List.take_of_length_le (Nat.le_succ _)]; simp
theorem drop_mid {α : Type} (P r : List α) (c : α) : (P ++ c :: r).drop (P.length + 1) = r := by
  rw [List.drop_append]; simp
theorem stt_inv (l : List Int) (level sos eos : Int) : ∀ k, k ≤ l.length →
    let s := stt l level sos k
    s.2.1 ≤ k ∧ s.2.2.drop s.2.1 = l.drop s.2.1 ∧ (∀ j, s.2.1 ≤ j → j < k → isL (l.getD j 0) = false) ∧ spec level eos sos l = s.2.2.take s.2.1 ++ spec level eos s.1 (l.drop s.2.1) := by
  intro k
  induction k with
  | zero => intro _; simp [stt]
  | succ k ih =>
    intro hk
    obtain ⟨h1, h2, h3, h4⟩ := ih (by omega)
    have hlen := stt_length l level sos k
    simp only [stt]
    by_cases hl : (letter (l.getD k 0)).2 = true
    · rw [if_pos hl]
      generalize stt l level sos k = s at *
      simp only
      have hlt : k < l.length := by omega
      have hsplit : l.drop s.2.1 = (l.drop s.2.1).take (k - s.2.1) ++ l.getD k 0 :: l.drop (k + 1) := by
        have e : (l.drop s.2.1).drop (k - s.2.1) = l.getD k 0 :: l.drop (k + 1) := by
          rw [List.drop_drop, show s.2.1 + (k - s.2.1) = k by omega, List.drop_eq_getElem_cons hlt, List.getD_eq_getElem?_getD, List.getElem?_eq_getElem hlt]; rfl
        rw [← e, List.take_append_drop]
      have hgap : ∀ x ∈ (l.drop s.2.1).take (k - s.2.1), isL x = false := by
        intro x hx
        obtain ⟨j, hj, rfl⟩ := List.mem_iff_getElem.1 hx
        simp only [List.length_take, List.length_drop] at hj
        have := h3 (s.2.1 + j) (by omega) (by omega)
        rw [List.getElem_take, List.getElem_drop]
        rwa [List.getD_eq_getElem?_getD, List.getElem?_eq_getElem (by omega)] at this
      have hgl : ((l.drop s.2.1).take (k - s.2.1)).length = k - s.2.1 := by simp; omega
      have hfill := fillIn_eq (asOf level s.1 (letter (l.getD k 0)).1) (k - s.2.1) s.2.2 s.2.1 (by omega)
      have hdrop : s.2.2.drop (s.2.1 + (k - s.2.1)) = l.drop k := by
        rw [← List.drop_drop, h2, List.drop_drop, show s.2.1 + (k - s.2.1) = k by omega]
      rw [hdrop] at hfill
      have hkd : l.drop k = l.getD k 0 :: l.drop (k + 1) := by
        rw [List.drop_eq_getElem_cons hlt, List.getD_eq_getElem?_getD, List.getElem?_eq_getElem hlt]; rfl
      have htl : (s.2.2.take s.2.1).length = s.2.1 := by simp; omega
      rw [hkd, ← List.append_assoc] at hfill
      obtain ⟨P, hP⟩ : ∃ P, P = s.2.2.take s.2.1 ++ List.replicate (k - s.2.1) (asOf level s.1 (letter (l.getD k 0)).1) := ⟨_, rfl⟩
      rw [← hP] at hfill
      have hPl : P.length = k := by rw [hP, List.length_append, htl, List.length_replicate]; omega
      refine ⟨Nat.le_refl _, ?_, fun j a b => by omega, ?_⟩
      · rw [hfill, ← hPl]; exact drop_mid _ _ _
      · rw [h4, hsplit, spec_gap level eos s.1 (l.getD k 0) _ _ hgap hl, hgl, hfill]
        have ht : (P ++ l.getD k 0 :: l.drop (k + 1)).take (k + 1) = P ++ [l.getD k 0] := by
          have := take_mid P (l.drop (k + 1)) (l.getD k 0)
          rwa [hPl] at this
        rw [ht, hP]
        simp [dirD]
    · rw [if_neg hl]
      have hl' : isL (l.getD k 0) = false := by simpa [isL] using hl
      refine ⟨by omega, h2, fun j a b => ?_, h4⟩
      by_cases hj : j = k
      · rw [hj]; exact hl'
      · exact h3 j a (by omega)
theorem settle_spec (l : List Int) (level sos eos : Int) : settle l level sos eos = spec level eos sos l := by
  obtain ⟨h1, h2, h3, h4⟩ := stt_inv l level sos eos l.length (Nat.le_refl _)
  have hlen := stt_length l level sos l.length
  unfold settle
  rw [h4]
  generalize stt l level sos l.length = s at *
  rw [fillIn_eq _ _ _ _ (by omega), spec_tail]
  · congr 1
    rw [List.length_drop, show s.2.1 + (l.length - s.2.1) = l.length by omega, List.drop_of_length_le (by omega)]
    simp
  · intro x hx
    obtain ⟨j, hj, rfl⟩ := List.mem_iff_getElem.1 hx
    simp only [List.length_drop] at hj
    have := h3 (s.2.1 + j) (by omega) (by omega)
    rw [List.getElem_drop]
    rwa [List.getD_eq_getElem?_getD, List.getElem?_eq_getElem (by omega)] at this
theorem settle_ev (l : List Int) (level sos eos : Int) (hl : l.length ≤ 1048576) : neutral_Settle.f l level sos eos = some (spec level eos sos l) := by
  unfold neutral_Settle.f
  rw [if_pos (by omega), settle_spec]
theorem direct_some (b : Bool) : parquetrylaw15_direct.f b = some (if b = true then 1 else 0) := by cases b <;> rfl
theorem isL_iff (c : Int) : isL c = true ↔ c = 0 ∨ c = 1 ∨ c = 3 ∨ c = 6 := by
  unfold isL letter
  split
  · rename_i h; simp; omega
  · split
    · rename_i h; simp; omega
    · simp; omega
theorem dirD_01 (c : Int) (h : isL c = true) : dirD c = 0 ∨ dirD c = 1 := by
  have := (isL_iff c).1 h
  rcases this with rfl | rfl | rfl | rfl <;> decide
theorem way_01 (level : Int) : way level = 0 ∨ way level = 1 := by unfold way; split <;> simp
theorem firstD_01 (eos : Int) (he : eos = 0 ∨ eos = 1) (l : List Int) : firstD eos l = 0 ∨ firstD eos l = 1 := by
  induction l with
  | nil => exact he
  | cons c cs ih => unfold firstD; split; · rename_i h; exact dirD_01 c h
                    exact ih
theorem asOf_01 (level a b : Int) (hb : b = 0 ∨ b = 1) : asOf level a b = 0 ∨ asOf level a b = 1 := by
  unfold asOf; split; · exact hb
  exact way_01 level
/-- What is settled: letters stay, all else is L or R. -/
theorem spec_at (level eos : Int) (he : eos = 0 ∨ eos = 1) (l : List Int) : ∀ (a : Int) (i : Nat), i < l.length →
    (isL (l.getD i 0) = true → (spec level eos a l).getD i 0 = l.getD i 0) ∧ (isL (l.getD i 0) = false → (spec level eos a l).getD i 0 = 0 ∨ (spec level eos a l).getD i 0 = 1) := by
  induction l with
  | nil => intro a i h; simp at h
  | cons c cs ih =>
    intro a i hi
    unfold spec
    cases i with
    | zero =>
      by_cases hc : isL c = true
      · rw [if_pos hc]
        exact ⟨fun _ => rfl, fun h => by rw [List.getD_cons_zero] at h; rw [h] at hc; cases hc⟩
      · rw [if_neg hc]
        exact ⟨fun h => absurd h hc, fun _ => asOf_01 level a _ (firstD_01 eos he cs)⟩
    | succ i =>
      have hi' : i < cs.length := by simpa using hi
      by_cases hc : isL c = true
      · rw [if_pos hc]; simpa using ih (dirD c) i hi'
      · rw [if_neg hc]; simpa using ih a i hi'
theorem spec_all (level eos : Int) (l : List Int) (h : ∀ x ∈ l, isL x = true) : ∀ a, spec level eos a l = l := by
  induction l with
  | nil => intro a; rfl
  | cons c cs ih =>
    intro a
    rw [spec, if_pos (h c (by simp)), ih fun y hy => h y (by simp [hy])]
theorem spec_letters (level eos : Int) (he : eos = 0 ∨ eos = 1) (l : List Int) (a : Int) : ∀ x ∈ spec level eos a l, isL x = true := by
  intro x hx
  obtain ⟨i, hi, rfl⟩ := List.mem_iff_getElem.1 hx
  have hil : i < l.length := by rw [spec_length] at hi; exact hi
  have h := spec_at level eos he l a i hil
  have e : (spec level eos a l)[i] = (spec level eos a l).getD i 0 := by rw [List.getD_eq_getElem?_getD, List.getElem?_eq_getElem hi]; rfl
  rw [e]
  cases hc : isL (l.getD i 0) with
  | true => rw [h.1 hc]; exact hc
  | false => rw [isL_iff]; rcases h.2 hc with h | h <;> omega
theorem like_self (l : List Int) (hl : l.length ≤ 1048576) : Ev (fun k => parquetrylaw15_like.f k l l) true := by
  have hloop : ∀ (d i : Nat), l.length - i = d → i ≤ l.length → Ev (fun k => parquetrylaw15_like.l0 k l l (i : Int)) true := by
    intro d
    induction d with
    | zero =>
      intro i hd hi
      refine Ev.step (f := fun _ => some true) (fun k => ?_) (Ev.now _)
      simp only [parquetrylaw15_like.l0]
      rw [if_neg (by omega)]
    | succ d ih =>
      intro i hd hi
      refine Ev.step (fun k => ?_) (ih (i + 1) (by omega) (by omega))
      simp only [parquetrylaw15_like.l0]
      rw [if_pos (by omega), if_pos (by omega), if_pos (by omega), if_pos trivial, wsucc i (by omega)]
  refine Ev.congr (fun k => ?_) (hloop _ 0 rfl (Nat.zero_le _))
  unfold parquetrylaw15_like.f
  rw [if_pos rfl]; rfl
theorem spec_parts (level eos w : Int) (hw : w = 0 ∨ w = 1) (b : List Int) (a : List Int) : ∀ sos, spec level eos sos (a ++ w :: b) = spec level w sos a ++ w :: spec level eos w b := by
  have hL : isL w = true := (isL_iff w).2 (by omega)
  have hd : dirD w = w := by rcases hw with rfl | rfl <;> rfl
  have hf : ∀ a : List Int, firstD eos (a ++ w :: b) = firstD w a := by
    intro a
    induction a with
    | nil => simp [firstD, hL, hd]
    | cons c cs ih => rw [List.cons_append, firstD, firstD, ih]
  induction a with
  | nil => intro sos; simp [spec, hL, hd]
  | cons c cs ih =>
    intro sos
    rw [List.cons_append, spec, spec, hf]
    split
    · rw [ih]; rfl
    · rw [ih]; rfl
/-! ### L and R exchanged -/
def turnI (c : Int) : Int := if c = 0 ∨ c = 1 then 1 - c else c
def turnL (l : List Int) : List Int := l.map turnI
theorem turned_ev (l : List Int) (hl : l.length ≤ 1048576) : Ev (fun k => parquetrylaw15_turned.f k l) (turnL l) := by
  have hloop : ∀ (d i : Nat), l.length - i = d → i ≤ l.length → Ev (fun k => parquetrylaw15_turned.l0 k l (turnL (l.take i)) (i : Int)) (turnL l) := by
    intro d
    induction d with
    | zero =>
      intro i hd hi
      have hil : i = l.length := by omega
      subst hil
      refine Ev.step (f := fun _ => some (turnL l)) (fun k => ?_) (Ev.now _)
      simp only [parquetrylaw15_turned.l0]
      rw [if_neg (by omega)]
      simp
    | succ d ih =>
      intro i hd hi
      have hlt : i < l.length := by omega
      refine Ev.step (fun k => ?_) (ih (i + 1) (by omega) (by omega))
      have hb : (turnL (l.take i)).length < 17592186044416 := by simp [turnL]; omega
      have e : turnL (l.take (i + 1)) = turnL (l.take i) ++ [turnI (rd l i)] := by
        rw [getD_take l i hlt]; simp [turnL]
      simp only [parquetrylaw15_turned.l0]
      rw [if_pos (by omega), if_pos (by omega), e, wsucc i (by omega)]
      generalize rd l (i : Int) = c
      by_cases h0 : c = 0
      · subst h0; rw [if_pos rfl, if_pos hb, w64 (by omega) (by omega)]; rfl
      · rw [if_neg h0]
        by_cases h1 : c = 1
        · subst h1; rw [if_pos rfl, if_pos hb, w64 (by omega) (by omega)]; rfl
        · rw [if_neg h1, if_pos hb, turnI, if_neg (by omega)]
  exact hloop _ 0 rfl (Nat.zero_le _)
theorem spec_turn (level level' : Int) (hlev : way level' = 1 - way level) (eos : Int) (he : eos = 0 ∨ eos = 1) (l : List Int) (hl : ∀ x ∈ l, x ≠ 3 ∧ x ≠ 6) :
    ∀ a, (a = 0 ∨ a = 1) → spec level' (1 - eos) (1 - a) (turnL l) = turnL (spec level eos a l) := by
  have hLt : ∀ c : Int, c ≠ 3 ∧ c ≠ 6 → isL (turnI c) = isL c := by
    intro c hc
    rw [Bool.eq_iff_iff, isL_iff, isL_iff]
    unfold turnI; split <;> omega
  have hdt : ∀ c : Int, c ≠ 3 ∧ c ≠ 6 → isL c = true → dirD (turnI c) = 1 - dirD c := by
    intro c hc h
    rcases (isL_iff c).1 h with rfl | rfl | rfl | rfl
    · rfl
    · rfl
    · exact absurd rfl hc.1
    · exact absurd rfl hc.2
  have hf : ∀ l : List Int, (∀ x ∈ l, x ≠ 3 ∧ x ≠ 6) → firstD (1 - eos) (turnL l) = 1 - firstD eos l := by
    intro l
    induction l with
    | nil => intro _; rfl
    | cons c cs ih =>
      intro h
      have hc := h c (by simp)
      show firstD (1 - eos) (turnI c :: turnL cs) = _
      rw [firstD, firstD, hLt c hc]
      by_cases hi : isL c = true
      · rw [if_pos hi, if_pos hi, hdt c hc hi]
      · rw [if_neg hi, if_neg hi]; exact ih fun y hy => h y (by simp [hy])
  induction l with
  | nil => intro a _; rfl
  | cons c cs ih =>
    intro a ha
    have hc := hl c (by simp)
    have hcs : ∀ x ∈ cs, x ≠ 3 ∧ x ≠ 6 := fun y hy => hl y (by simp [hy])
    show spec level' (1 - eos) (1 - a) (turnI c :: turnL cs) = _
    rw [spec, spec, hLt c hc]
    by_cases hi : isL c = true
    · rw [if_pos hi, if_pos hi, hdt c hc hi, ih hcs _ (dirD_01 c hi)]; rfl
    · rw [if_neg hi, if_neg hi, ih hcs a ha, hf cs hcs]
      show _ = turnI _ :: turnL _
      congr 1
      have h1 := firstD_01 eos he cs
      have h2 := way_01 level
      unfold asOf turnI
      by_cases e : a = firstD eos cs
      · rw [if_pos (by omega), if_pos e, if_pos h1]
      · rw [if_neg (by omega), if_neg e, hlev, if_pos h2]
end Go.Proofs.YtfpibigfhhoiiaaDoor.Pure
