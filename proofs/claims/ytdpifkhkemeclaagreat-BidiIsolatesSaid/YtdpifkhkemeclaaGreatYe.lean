/- base.Match, base.Level in plain words: by the depth of what is open. level.Explicit around an isolate: nothing in it changes what is around it. level.Explicit around an isolate: the state behind it is that ahead of it; its levels. seqs.Sequences around an isolate: where the sequences go on. seqs.Sequences around an isolate: the sequences are as they were, and those inside. seqs.Sequences of a paragraph with an isolate, and without what stands in it. bidi.Resolve around an isolate: the levels are as they were. bidi.Resolve of a paragraph with an isolate, and without what stands in it: around it the levels are one. bidi.Resolve of runes with an isolate, and without what stands in it. -/
import Derived.Test.YtdpifkhkemeclaaGreatYd
import Derived.Test.YtdpifkhkemeclaaGreatLinG
import Derived.Test.YtdpifkhkemeclaaGreatResG
set_option linter.unusedVariables false
set_option linter.unusedSimpArgs false
namespace Go.Proofs.YtdpifkhkemeclaaGreat
open Go.Proofs.YtdpifkhkemeclaaGreatW.PrintWords
def endGo : List Int → Nat → Nat
  | [], _ => 0
  | c :: r, d => if c = 22 then (match d with | 0 => 0 | d' + 1 => endGo r d' + 1) else if opB c = true then endGo r (d + 1) + 1 else endGo r d + 1
theorem op22 : opB 22 = false := rfl
theorem endGo_p0 (r : List Int) : endGo (22 :: r) 0 = 0 := rfl
theorem endGo_ps (r : List Int) (d : Nat) : endGo (22 :: r) (d + 1) = endGo r d + 1 := rfl
theorem endGo_c (c : Int) (r : List Int) (d : Nat) : endGo (c :: r) d = if c = 22 then (match d with | 0 => 0 | d' + 1 => endGo r d' + 1) else if opB c = true then endGo r (d + 1) + 1 else endGo r d + 1 := rfl
theorem endGo_op {c : Int} (r : List Int) (d : Nat) (hn : c ≠ 22) (ho : opB c = true) : endGo (c :: r) d = endGo r (d + 1) + 1 := by rw [endGo_c, if_neg hn, if_pos ho]
theorem endGo_no {c : Int} (r : List Int) (d : Nat) (hn : c ≠ 22) (ho : ¬ opB c = true) : endGo (c :: r) d = endGo r d + 1 := by rw [endGo_c, if_neg hn, if_neg ho]
theorem endGo_le : ∀ (r : List Int) (d : Nat), endGo r d ≤ r.length
  | [], _ => Nat.le_refl _
  | c :: r, d => by
    unfold endGo
    split
    · cases d with
      | zero => simp
      | succ d' => have := endGo_le r d'; simp; omega
    · split
      · have := endGo_le r (d + 1); simp; omega
      · have := endGo_le r d; simp; omega
theorem mtTo_open (l : List Int) : ∀ i, i ≤ l.length → (∀ a ∈ (mtTo l i).2, (mtTo l i).1.getD a 0 = (l.length : Int)) ∧ (mtTo l i).2.Pairwise (· > ·)
  | 0, _ => ⟨fun a h => by simp [mtTo] at h, by simp [mtTo]⟩
  | i + 1, h => by
    obtain ⟨h1, h2⟩ := mtTo_open l i (by omega)
    obtain ⟨g1, g2, g3⟩ := mtTo_inv l i (by omega)
    simp only [mtTo, mtStep]
    split
    · refine ⟨fun a ha => ?_, List.pairwise_cons.2 ⟨fun a ha => g2 a ha, h2⟩⟩
      rcases List.mem_cons.1 ha with rfl | ha
      · exact getD_set_self _ _ _ _ (by rw [List.length_set, g1]; omega)
      · have := g2 a ha
        rw [getD_set_other _ _ _ _ _ (by omega), getD_set_other _ _ _ _ _ (by omega)]
        exact h1 a ha
    · split
      · cases hq : (mtTo l i).2 with
        | nil => exact ⟨fun a ha => by simp at ha, List.Pairwise.nil⟩
        | cons a0 r =>
          rw [hq] at h1 h2 g2
          have hp := List.pairwise_cons.1 h2
          refine ⟨fun a ha => ?_, hp.2⟩
          have e1 := g2 a (List.mem_cons_of_mem _ ha)
          have e2 := hp.1 a ha
          show ((((mtTo l i).1.set i (-1)).set i (a0 : Int)).set a0 (i : Int)).getD a 0 = _
          rw [getD_set_other _ _ _ _ _ (by omega), getD_set_other _ _ _ _ _ (by omega), getD_set_other _ _ _ _ _ (by omega)]
          exact h1 a (List.mem_cons_of_mem _ ha)
      · refine ⟨fun a ha => ?_, h2⟩
        have := g2 a ha
        show ((mtTo l i).1.set i (-1)).getD a 0 = _
        rw [getD_set_other _ _ _ _ _ (by omega)]
        exact h1 a ha
theorem drop_getD (l : List Int) (i : Nat) (h : i < l.length) : l.drop i = l.getD i 0 :: l.drop (i + 1) := by
  rw [List.drop_eq_getElem_cons h, List.getD_eq_getElem?_getD, List.getElem?_eq_getElem h]; rfl
theorem mtTo_end (l : List Int) : ∀ d i, i + d = l.length → (∀ j a, (mtTo l i).2[j]? = some a → (matchW l).getD a 0 = ((i + endGo (l.drop i) j : Nat) : Int)) ∧ ∀ a, a < i → a ∉ (mtTo l i).2 → (matchW l).getD a 0 = (mtTo l i).1.getD a 0
  | 0, i, h => by
    have hi : i = l.length := by omega
    subst hi
    refine ⟨fun j a hj => ?_, fun a _ _ => rfl⟩
    rw [List.drop_length]
    exact (mtTo_open l l.length (Nat.le_refl _)).1 a (List.mem_of_getElem? hj)
  | d + 1, i, h => by
    obtain ⟨k1, k2⟩ := mtTo_end l d (i + 1) (by omega)
    obtain ⟨g1, g2, g3⟩ := mtTo_inv l i (by omega)
    obtain ⟨o1, o2⟩ := mtTo_open l i (by omega)
    rw [drop_getD l i (by omega)]
    simp only [mtTo, mtStep] at k1 k2
    by_cases ho : opB (l.getD i 0) = true
    · rw [if_pos ho] at k1 k2
      have hn : l.getD i 0 ≠ 22 := by intro e; rw [e] at ho; cases ho
      refine ⟨fun j a hj => ?_, fun a ha hna => ?_⟩
      · rw [k1 (j + 1) a hj, endGo_op _ _ hn ho]
        congr 1
        omega
      · rw [k2 a (by omega) (fun hm => by
          rcases List.mem_cons.1 hm with rfl | hm
          · omega
          · exact hna hm)]
        show (((mtTo l i).1.set i (-1)).set i (l.length : Int)).getD a 0 = _
        rw [getD_set_other _ _ _ _ _ (by omega), getD_set_other _ _ _ _ _ (by omega)]
    · rw [if_neg ho] at k1 k2
      by_cases hc : l.getD i 0 = 22
      · rw [if_pos hc] at k1 k2
        cases hq : (mtTo l i).2 with
        | nil =>
          rw [hq] at k1 k2
          refine ⟨fun j a hj => by simp at hj, fun a ha hna => ?_⟩
          rw [k2 a (by omega) (by simp)]
          show ((mtTo l i).1.set i (-1)).getD a 0 = _
          rw [getD_set_other _ _ _ _ _ (by omega)]
        | cons a0 r =>
          rw [hq] at k1 k2 o2 g2
          have hp := List.pairwise_cons.1 o2
          have ha0 := g2 a0 (by simp)
          refine ⟨fun j a hj => ?_, fun a ha hna => ?_⟩
          · rw [hc]
            cases j with
            | zero =>
              injection hj with hj
              subst hj
              rw [endGo_p0]
              rw [k2 a0 (by omega) (fun hm => by have := hp.1 a0 hm; omega)]
              exact getD_set_self _ _ _ _ (by rw [List.length_set, List.length_set, g1]; omega)
            | succ j =>
              rw [k1 j a hj, endGo_ps]
              congr 1
              omega
          · rw [k2 a (by omega) (fun hm => hna (List.mem_cons_of_mem _ hm))]
            show ((((mtTo l i).1.set i (-1)).set i (a0 : Int)).set a0 (i : Int)).getD a 0 = _
            rw [getD_set_other _ _ _ _ _ (fun e => hna (by rw [e]; simp)), getD_set_other _ _ _ _ _ (by omega), getD_set_other _ _ _ _ _ (by omega)]
      · rw [if_neg hc] at k1 k2
        refine ⟨fun j a hj => ?_, fun a ha hna => ?_⟩
        · rw [k1 j a hj, endGo_no _ _ hc ho]
          congr 1
          omega
        · rw [k2 a (by omega) hna]
          show ((mtTo l i).1.set i (-1)).getD a 0 = _
          rw [getD_set_other _ _ _ _ _ (by omega)]
theorem match_op (l : List Int) (p : Nat) (hp : p < l.length) (ho : opB (l.getD p 0) = true) : (matchW l).getD p 0 = ((p + 1 + endGo (l.drop (p + 1)) 0 : Nat) : Int) := by
  refine (mtTo_end l (l.length - (p + 1)) (p + 1) (by omega)).1 0 p ?_
  simp only [mtTo, mtStep]
  rw [if_pos ho]
  rfl
theorem match_no (l : List Int) (p : Nat) (hp : p < l.length) (ho : opB (l.getD p 0) = false) : (matchW l).getD p 0 ≠ (l.length : Int) := by
  obtain ⟨g1, g2, g3⟩ := mtTo_inv l p (by omega)
  obtain ⟨_, k2⟩ := mtTo_end l (l.length - (p + 1)) (p + 1) (by omega)
  simp only [mtTo, mtStep] at k2
  rw [if_neg (by rw [ho]; decide)] at k2
  by_cases hc : l.getD p 0 = 22
  · rw [if_pos hc] at k2
    cases hq : (mtTo l p).2 with
    | nil =>
      rw [hq] at k2
      rw [k2 p (by omega) (by simp)]
      show ((mtTo l p).1.set p (-1)).getD p 0 ≠ _
      rw [getD_set_self _ _ _ _ (by rw [g1]; exact hp)]
      omega
    | cons a0 r =>
      rw [hq] at k2 g2
      have ha0 := g2 a0 (by simp)
      rw [k2 p (by omega) (fun hm => by have := g2 p (List.mem_cons_of_mem _ hm); omega)]
      show ((((mtTo l p).1.set p (-1)).set p (a0 : Int)).set a0 (p : Int)).getD p 0 ≠ _
      rw [getD_set_other _ _ _ _ _ (by omega), getD_set_self _ _ _ _ (by rw [List.length_set, g1]; exact hp)]
      omega
  · rw [if_neg hc] at k2
    rw [k2 p (by omega) (fun hm => by have := g2 p hm; omega)]
    show ((mtTo l p).1.set p (-1)).getD p 0 ≠ _
    rw [getD_set_self _ _ _ _ (by rw [g1]; exact hp)]
    omega
def dpt : List Int → Nat → Option Nat
  | [], d => some d
  | c :: r, d => if c = 22 then (match d with | 0 => none | d' + 1 => dpt r d') else if opB c = true then dpt r (d + 1) else dpt r d
theorem dpt_c (c : Int) (r : List Int) (d : Nat) : dpt (c :: r) d = if c = 22 then (match d with | 0 => none | d' + 1 => dpt r d') else if opB c = true then dpt r (d + 1) else dpt r d := rfl
theorem endGo_app : ∀ (u v : List Int) (d : Nat), endGo (u ++ v) d = (match dpt u d with | some d' => (Nat.add u.length (endGo v d')) | none => endGo u d : Nat)
  | [], v, d => by simp [dpt]
  | c :: u, v, d => by
    rw [List.cons_append, dpt_c]
    by_cases hc : c = 22
    · subst hc
      rw [if_pos rfl]
      cases d with
      | zero => rfl
      | succ d' =>
        dsimp only
        rw [endGo_ps, endGo_ps, endGo_app u v d']
        cases dpt u d' with
        | none => rfl
        | some k => exact Nat.add_right_comm _ _ _
    · rw [if_neg hc]
      by_cases ho : opB c = true
      · rw [if_pos ho, endGo_op _ _ hc ho, endGo_op _ _ hc ho, endGo_app u v (d + 1)]
        cases dpt u (d + 1) with
        | none => rfl
        | some k => exact Nat.add_right_comm _ _ _
      · rw [if_neg ho, endGo_no _ _ hc ho, endGo_no _ _ hc ho, endGo_app u v d]
        cases dpt u d with
        | none => rfl
        | some k => exact Nat.add_right_comm _ _ _
theorem dpt_none : ∀ (u : List Int) (d : Nat), dpt u d = none → endGo u d < u.length
  | [], d, h => by cases h
  | c :: u, d, h => by
    unfold dpt at h
    unfold endGo
    split at h
    · rename_i hc
      rw [if_pos hc]
      cases d with
      | zero => simp
      | succ d' => have := dpt_none u d' h; simp; omega
    · rename_i hc
      rw [if_neg hc]
      split at h
      · rename_i ho
        rw [if_pos ho]
        have := dpt_none u (d + 1) h; simp; omega
      · rename_i ho
        rw [if_neg ho]
        have := dpt_none u d h; simp; omega
theorem dpt_app : ∀ (u v : List Int) (d : Nat), dpt (u ++ v) d = (dpt u d).bind (dpt v)
  | [], v, d => rfl
  | c :: u, v, d => by
    rw [List.cons_append]
    unfold dpt
    split
    · cases d with
      | zero => rfl
      | succ d' => exact dpt_app u v d'
    · split
      · exact dpt_app u v (d + 1)
      · exact dpt_app u v d
theorem dpt_up : ∀ (u : List Int) (a b d : Nat), dpt u a = some b → dpt u (a + d) = some (b + d)
  | [], a, b, d, h => by injection h with h; rw [h]; rfl
  | c :: u, a, b, d, h => by
    unfold dpt at h ⊢
    split at h
    · rename_i hc
      rw [if_pos hc]
      cases a with
      | zero => cases h
      | succ a' => rw [show a' + 1 + d = (a' + d) + 1 by omega]; exact dpt_up u a' b d h
    · rename_i hc
      rw [if_neg hc]
      split at h
      · rename_i ho
        rw [if_pos ho, show a + d + 1 = a + 1 + d by omega]; exact dpt_up u (a + 1) b d h
      · rename_i ho
        rw [if_neg ho]; exact dpt_up u a b d h
theorem endGo_deep : ∀ (r : List Int) (d e : Nat), endGo r d < r.length → endGo r d < endGo r (d + e + 1)
  | [], d, e, h => by simp [endGo] at h
  | c :: r, d, e, h => by
    unfold endGo at h ⊢
    split at h
    · rename_i hc
      rw [if_pos hc, if_pos hc]
      cases d with
      | zero => simp
      | succ d' =>
        have := endGo_deep r d' e (by simpa using h)
        rw [show d' + 1 + e + 1 = (d' + e + 1) + 1 by omega]
        simpa using this
    · rename_i hc
      rw [if_neg hc, if_neg hc]
      split at h
      · rename_i ho
        rw [if_pos ho, if_pos ho]
        have := endGo_deep r (d + 1) e (by simpa using h)
        rw [show d + e + 1 + 1 = d + 1 + e + 1 by omega]
        omega
      · rename_i ho
        rw [if_neg ho, if_neg ho]
        have := endGo_deep r d e (by simpa using h)
        omega
theorem rd_nat (l : List Int) (p : Nat) : rd l (p : Int) = l.getD p 0 := by simp [rd]
theorem match_ok (l : List Int) : MatC l (matchW l) := by
  refine ⟨fun p hp ho => ?_, fun p q hp hq ho ho' he hlt => ?_⟩
  · rw [rd_nat] at ho ⊢
    refine ⟨_, match_op l p hp ho, by omega, ?_⟩
    have := endGo_le (l.drop (p + 1)) 0
    rw [List.length_drop] at this
    omega
  · -- no two have one match
    have key : ∀ p q, p < q → q < l.length → opB (l.getD p 0) = true → opB (l.getD q 0) = true → (matchW l).getD p 0 = (matchW l).getD q 0 → (matchW l).getD p 0 < l.length → False := by
      intro p q hpq hq ho ho' he hlt
      rw [match_op l p (by omega) ho] at he hlt
      rw [match_op l q hq ho'] at he
      have he : p + 1 + endGo (l.drop (p + 1)) 0 = q + 1 + endGo (l.drop (q + 1)) 0 := by omega
      have hs : l.drop (p + 1) = (l.drop (p + 1)).take (q - p - 1) ++ (l.getD q 0 :: l.drop (q + 1)) := by
        rw [← drop_getD l q hq]
        conv => lhs; rw [← List.take_append_drop (q - p - 1) (l.drop (p + 1))]
        rw [List.drop_drop, show p + 1 + (q - p - 1) = q by omega]
      have hlen : ((l.drop (p + 1)).take (q - p - 1)).length = q - p - 1 := by rw [List.length_take, List.length_drop]; omega
      rw [hs, endGo_app] at he
      have hn : l.getD q 0 ≠ 22 := by intro e; rw [e] at ho'; cases ho'
      cases hd : dpt ((l.drop (p + 1)).take (q - p - 1)) 0 with
      | none =>
        rw [hd] at he
        dsimp only at he
        have := dpt_none _ _ hd
        omega
      | some d' =>
        rw [hd] at he
        dsimp only at he
        rw [endGo_op _ _ hn ho', hlen] at he
        rw [hs, endGo_app, hd] at hlt
        dsimp only at hlt
        rw [endGo_op _ _ hn ho', hlen] at hlt
        obtain ⟨x, hx⟩ : ∃ x, x = endGo (l.drop (q + 1)) 0 := ⟨_, rfl⟩
        obtain ⟨y, hy⟩ : ∃ y, y = endGo (l.drop (q + 1)) (d' + 1) := ⟨_, rfl⟩
        rw [← hx] at he
        have hxy : x < (l.drop (q + 1)).length → x < y := fun h => by
          have h3 := endGo_deep (l.drop (q + 1)) 0 d' (by rw [← hx]; exact h)
          rw [show 0 + d' + 1 = d' + 1 by omega, ← hx, ← hy] at h3
          exact h3
        rw [List.length_drop] at hxy
        have hadd : ∀ a b : Nat, Nat.add a b = a + b := fun _ _ => rfl
        rw [hadd] at he hlt
        rw [← hy] at he hlt
        omega
    rw [rd_nat] at ho ho' he hlt
    rw [rd_nat] at he
    rcases Nat.lt_trichotomy p q with h | h | h
    · exact (key p q h hq ho ho' he hlt).elim
    · exact h
    · exact (key q p h hp ho' ho he.symm (by rw [← he]; exact hlt)).elim
def scanL : List Int → Nat → Int
  | [], _ => 0
  | c :: r, d => if opB c = true then scanL r (d + 1) else if c = 22 then scanL r (d - 1) else if d = 0 ∧ c = 0 then 0 else if d = 0 ∧ (c = 1 ∨ c = 2) then 1 else scanL r d
theorem scanL_c (c : Int) (r : List Int) (d : Nat) : scanL (c :: r) d = if opB c = true then scanL r (d + 1) else if c = 22 then scanL r (d - 1) else if d = 0 ∧ c = 0 then 0 else if d = 0 ∧ (c = 1 ∨ c = 2) then 1 else scanL r d := rfl
theorem scanL_deep : ∀ (r : List Int) (d : Nat), scanL r (d + 1) = if endGo r d < r.length then scanL (r.drop (endGo r d + 1)) 0 else 0
  | [], d => rfl
  | c :: r, d => by
    rw [scanL_c, endGo_c]
    by_cases ho : opB c = true
    · have hn : c ≠ 22 := by intro e; rw [e] at ho; cases ho
      rw [if_pos ho, if_neg hn, if_pos ho, scanL_deep r (d + 1), List.length_cons, List.drop_succ_cons]
      by_cases h : endGo r (d + 1) < r.length
      · rw [if_pos h, if_pos (by omega)]
      · rw [if_neg h, if_neg (by omega)]
    · rw [if_neg ho]
      by_cases hc : c = 22
      · rw [if_pos hc, if_pos hc]
        cases d with
        | zero => simp
        | succ d' =>
          dsimp only
          rw [Nat.add_sub_cancel, scanL_deep r d', List.length_cons, List.drop_succ_cons]
          by_cases h : endGo r d' < r.length
          · rw [if_pos h, if_pos (by omega)]
          · rw [if_neg h, if_neg (by omega)]
      · rw [if_neg hc, if_neg hc, if_neg ho, if_neg (by omega), if_neg (by omega), scanL_deep r d, List.length_cons, List.drop_succ_cons]
        by_cases h : endGo r d < r.length
        · rw [if_pos h, if_pos (by omega)]
        · rw [if_neg h, if_neg (by omega)]
theorem lvlGo_scan (l : List Int) : ∀ (d i : Nat), l.length < i + d → (lvlGo l (matchW l) d i).1 = scanL (l.drop i) 0
  | 0, i, h => by rw [List.drop_of_length_le (by omega)]; rfl
  | d + 1, i, h => by
    unfold lvlGo
    by_cases hi : l.length ≤ i
    · rw [if_pos hi, List.drop_of_length_le hi]; rfl
    · rw [if_neg hi, drop_getD l i (by omega), scanL_c]
      by_cases ho : opB (l.getD i 0) = true
      · have h0 : l.getD i 0 ≠ 0 := by intro e; rw [e] at ho; cases ho
        have h1 : ¬ (l.getD i 0 = 1 ∨ l.getD i 0 = 2) := by
          rintro (e | e)
          · rw [e] at ho; cases ho
          · rw [e] at ho; cases ho
        rw [if_neg h0, if_neg h1, if_pos ho, if_pos ho, match_op l i (by omega) ho, Int.toNat_natCast, lvlGo_scan l d _ (by omega), scanL_deep]
        split
        · rw [List.drop_drop]; congr 2
        · rename_i hn
          have := endGo_le (l.drop (i + 1)) 0
          rw [List.drop_of_length_le (by rw [List.length_drop] at hn this; omega)]
          rfl
      · by_cases h0 : l.getD i 0 = 0
        · rw [h0]; simp [opB]
        · by_cases h1 : l.getD i 0 = 1 ∨ l.getD i 0 = 2
          · rcases h1 with e | e
            · rw [e]; simp [opB]
            · rw [e]; simp [opB]
          · by_cases hc : l.getD i 0 = 22
            · rw [if_neg h0, if_neg h1]
              simp only [if_neg ho, if_pos hc]
              exact lvlGo_scan l d (i + 1) (by omega)
            · rw [if_neg h0, if_neg h1]
              simp only [if_neg ho, if_neg hc, h0, h1, and_false, if_false]
              exact lvlGo_scan l d (i + 1) (by omega)
theorem lvlW_scan (l : List Int) : (lvlW l).1 = scanL l 0 := by
  unfold lvlW
  rw [lvlGo_scan l (l.length + 1) 0 (by omega)]
  rfl
theorem scanL_closed : ∀ (u v : List Int) (a b d : Nat), dpt u a = some b → scanL (u ++ v) (a + d + 1) = scanL v (b + d + 1)
  | [], v, a, b, d, h => by injection h with h; rw [h]; rfl
  | c :: u, v, a, b, d, h => by
    rw [List.cons_append, scanL_c]
    rw [dpt_c] at h
    split at h
    · rename_i hc
      rw [if_neg (by rw [hc]; decide), if_pos hc]
      cases a with
      | zero => cases h
      | succ a' => rw [show a' + 1 + d + 1 - 1 = a' + d + 1 by omega]; exact scanL_closed u v a' b d h
    · rename_i hc
      split at h
      · rename_i ho
        rw [if_pos ho, show a + d + 1 + 1 = a + 1 + d + 1 by omega]
        exact scanL_closed u v (a + 1) b d h
      · rename_i ho
        rw [if_neg ho, if_neg hc, if_neg (by omega), if_neg (by omega)]
        exact scanL_closed u v a b d h
end Go.Proofs.YtdpifkhkemeclaaGreat
namespace Go.Proofs.YtdpifkhkemeclaaGreat
open Go.Proofs.YtdpifkhkemeclaaGreatW.PrintWords
def isL (A B : List Int) (c0 : Int) : List Int := A ++ c0 :: 22 :: B
def isM (A I B : List Int) (c0 : Int) : List Int := A ++ c0 :: (I ++ 22 :: B)
def phi (a k p : Nat) : Nat := if p ≤ a then p else p + k
structure IsoC (A I B : List Int) (c0 : Int) : Prop where
  op : opB c0 = true
  cl : dpt I 0 = some 0
section
variable {A I B : List Int} {c0 : Int}
theorem isL_len : (isL A B c0).length = A.length + 2 + B.length := by simp [isL]; omega
theorem isM_len : (isM A I B c0).length = A.length + 2 + I.length + B.length := by simp [isM]; omega
theorem drop_app_of {u v : List Int} {p : Nat} (h : p ≤ u.length) : (u ++ v).drop p = u.drop p ++ v := by rw [List.drop_append_of_le_length h]
theorem isL_pre {p : Nat} (h : p < A.length) : (isL A B c0).drop (p + 1) = A.drop (p + 1) ++ c0 :: 22 :: B := drop_app_of (by omega)
theorem isM_pre {p : Nat} (h : p < A.length) : (isM A I B c0).drop (p + 1) = A.drop (p + 1) ++ c0 :: (I ++ 22 :: B) := drop_app_of (by omega)
theorem isL_at : (isL A B c0).drop (A.length + 1) = 22 :: B := by simp [isL, List.drop_append]
theorem isM_at : (isM A I B c0).drop (A.length + 1) = I ++ 22 :: B := by simp [isM, List.drop_append]
theorem isL_post (j : Nat) : (isL A B c0).drop (A.length + 2 + j) = B.drop j := by
  unfold isL
  rw [List.drop_append, List.drop_of_length_le (by omega), show A.length + 2 + j - A.length = j + 1 + 1 by omega]
  rfl
theorem isM_post (j : Nat) : (isM A I B c0).drop (A.length + 2 + I.length + j) = B.drop j := by
  unfold isM
  rw [List.drop_append, List.drop_of_length_le (by omega), show A.length + 2 + I.length + j - A.length = (I.length + 1 + j) + 1 by omega, List.drop_succ_cons, List.nil_append,
    List.drop_append, List.drop_of_length_le (by omega), show I.length + 1 + j - I.length = j + 1 by omega]
  rfl
theorem isL_getA {p : Nat} (h : p < A.length) : (isL A B c0).getD p 0 = A.getD p 0 := by simp [isL, List.getD_eq_getElem?_getD, List.getElem?_append_left h]
theorem isM_getA {p : Nat} (h : p < A.length) : (isM A I B c0).getD p 0 = A.getD p 0 := by simp [isM, List.getD_eq_getElem?_getD, List.getElem?_append_left h]
theorem isL_get0 : (isL A B c0).getD A.length 0 = c0 := by simp [isL, List.getD_eq_getElem?_getD]
theorem isM_get0 : (isM A I B c0).getD A.length 0 = c0 := by simp [isM, List.getD_eq_getElem?_getD]
theorem isL_get1 : (isL A B c0).getD (A.length + 1) 0 = 22 := by
  have := drop_getD (isL A B c0) (A.length + 1) (by rw [isL_len]; omega)
  rw [isL_at] at this
  injection this with h _
  exact h.symm
theorem isM_getI {i : Nat} (h : i < I.length) : (isM A I B c0).getD (A.length + 1 + i) 0 = I.getD i 0 := by
  unfold isM
  rw [List.getD_eq_getElem?_getD, List.getElem?_append_right (by omega), show A.length + 1 + i - A.length = i + 1 by omega, List.getElem?_cons_succ, List.getElem?_append_left h, List.getD_eq_getElem?_getD]
theorem isM_get1 : (isM A I B c0).getD (A.length + 1 + I.length) 0 = 22 := by
  unfold isM
  rw [List.getD_eq_getElem?_getD, List.getElem?_append_right (by omega), show A.length + 1 + I.length - A.length = I.length + 1 by omega, List.getElem?_cons_succ, List.getElem?_append_right (Nat.le_refl _), Nat.sub_self]
  rfl
theorem isL_getB (j : Nat) : (isL A B c0).getD (A.length + 2 + j) 0 = B.getD j 0 := by
  unfold isL
  rw [List.getD_eq_getElem?_getD, List.getElem?_append_right (by omega), show A.length + 2 + j - A.length = j + 1 + 1 by omega, List.getElem?_cons_succ, List.getElem?_cons_succ, List.getD_eq_getElem?_getD]
theorem isM_getB (j : Nat) : (isM A I B c0).getD (A.length + 2 + I.length + j) 0 = B.getD j 0 := by
  unfold isM
  rw [List.getD_eq_getElem?_getD, List.getElem?_append_right (by omega), show A.length + 2 + I.length + j - A.length = (I.length + (j + 1)) + 1 by omega, List.getElem?_cons_succ, List.getElem?_append_right (by omega), show I.length + (j + 1) - I.length = j + 1 by omega, List.getElem?_cons_succ, List.getD_eq_getElem?_getD]
theorem is_get {p : Nat} (hp : p < (isL A B c0).length) : (isM A I B c0).getD (phi A.length I.length p) 0 = (isL A B c0).getD p 0 := by
  rw [isL_len] at hp
  unfold phi
  rcases Nat.lt_trichotomy p A.length with h | h | h
  · rw [if_pos (by omega), isM_getA h, isL_getA h]
  · subst h
    rw [if_pos (Nat.le_refl _), isM_get0, isL_get0]
  · rw [if_neg (by omega)]
    rcases Nat.eq_or_lt_of_le (Nat.succ_le_of_lt h) with h | h
    · rw [show p = A.length + 1 from h.symm, isL_get1, isM_get1]
    · obtain ⟨j, rfl⟩ : ∃ j, p = A.length + 2 + j := ⟨p - (A.length + 2), by omega⟩
      rw [isL_getB, show A.length + 2 + j + I.length = A.length + 2 + I.length + j by omega, isM_getB]
theorem opn (h : opB c0 = true) : c0 ≠ 22 := by intro e; rw [e] at h; cases h
theorem endGo_open {c : Int} (r : List Int) (d : Nat) (h : opB c = true) : endGo (c :: r) d = endGo r (d + 1) + 1 := endGo_op r d (opn h) h
theorem endGo_I (h : IsoC A I B c0) (r : List Int) (d : Nat) : endGo (I ++ r) d = I.length + endGo r d := by
  rw [endGo_app, show dpt I d = some d by have := dpt_up I 0 0 d h.cl; rwa [Nat.zero_add] at this]
  rfl
theorem is_end (h : IsoC A I B c0) {p : Nat} (hp : p < (isL A B c0).length) (ho : opB ((isL A B c0).getD p 0) = true) :
    phi A.length I.length p + 1 + endGo ((isM A I B c0).drop (phi A.length I.length p + 1)) 0 = phi A.length I.length (p + 1 + endGo ((isL A B c0).drop (p + 1)) 0) := by
  rw [isL_len] at hp
  rcases Nat.lt_trichotomy p A.length with hpa | hpa | hpa
  · have e : phi A.length I.length p = p := by unfold phi; rw [if_pos (by omega)]
    rw [e, isL_pre hpa, isM_pre hpa, endGo_app, endGo_app]
    have hu : (A.drop (p + 1)).length = A.length - (p + 1) := List.length_drop
    cases hd : dpt (A.drop (p + 1)) 0 with
    | none =>
      have := dpt_none _ _ hd
      show p + 1 + endGo (A.drop (p + 1)) 0 = phi A.length I.length (p + 1 + endGo (A.drop (p + 1)) 0)
      unfold phi
      rw [if_pos (by omega)]
    | some d =>
      show p + 1 + ((A.drop (p + 1)).length + endGo (c0 :: (I ++ 22 :: B)) d) = phi A.length I.length (p + 1 + ((A.drop (p + 1)).length + endGo (c0 :: 22 :: B) d))
      rw [endGo_open _ _ h.op, endGo_open _ _ h.op, endGo_I h, endGo_ps]
      unfold phi
      rw [if_neg (by omega)]
      omega
  · subst hpa
    have e : phi A.length I.length A.length = A.length := by unfold phi; rw [if_pos (Nat.le_refl _)]
    rw [e, isL_at, isM_at, endGo_I h, endGo_p0]
    unfold phi
    rw [if_neg (by omega)]
    omega
  · rcases Nat.eq_or_lt_of_le (Nat.succ_le_of_lt hpa) with h2 | h2
    · exfalso
      rw [show p = A.length + 1 from h2.symm, isL_get1] at ho
      cases ho
    · obtain ⟨j, rfl⟩ : ∃ j, p = A.length + 2 + j := ⟨p - (A.length + 2), by omega⟩
      have e : phi A.length I.length (A.length + 2 + j) = A.length + 2 + I.length + j := by unfold phi; rw [if_neg (by omega)]; omega
      rw [e, show A.length + 2 + j + 1 = A.length + 2 + (j + 1) by omega, show A.length + 2 + I.length + j + 1 = A.length + 2 + I.length + (j + 1) by omega, isL_post, isM_post]
      unfold phi
      rw [if_neg (by omega)]
      omega
theorem exOdd_scan (l : List Int) (p : Nat) (hp : p < l.length) (ho : opB (l.getD p 0) = true) : exOdd l p = scanL ((l.drop (p + 1)).take (endGo (l.drop (p + 1)) 0)) 0 := by
  unfold exOdd
  rw [match_op l p hp ho, Int.toNat_natCast, lvlW_scan, List.drop_take, show p + 1 + endGo (l.drop (p + 1)) 0 - (p + 1) = endGo (l.drop (p + 1)) 0 by omega]
theorem take_len_add {α : Type} (u v : List α) (n : Nat) : (u ++ v).take (u.length + n) = u ++ v.take n := by
  rw [List.take_append, List.take_of_length_le (by omega), Nat.add_sub_cancel_left]
theorem scanL_ins (h : IsoC A I B c0) (X : List Int) : ∀ (u : List Int) (d : Nat), scanL (u ++ c0 :: (I ++ 22 :: X)) d = scanL (u ++ c0 :: 22 :: X) d
  | [], d => by
    rw [List.nil_append, List.nil_append, scanL_c, if_pos h.op, scanL_c, if_pos h.op]
    have := scanL_closed I (22 :: X) 0 0 d h.cl
    rw [Nat.zero_add] at this
    exact this
  | c :: u, d => by
    rw [List.cons_append, List.cons_append, scanL_c, scanL_c]
    simp only [scanL_ins h X u]
theorem is_odd (h : IsoC A I B c0) {p : Nat} (hp : p < (isL A B c0).length) (hn : p ≠ A.length) (ho : opB ((isL A B c0).getD p 0) = true) : exOdd (isM A I B c0) (phi A.length I.length p) = exOdd (isL A B c0) p := by
  have hp' := hp
  rw [isL_len] at hp
  have hpm : phi A.length I.length p < (isM A I B c0).length := by rw [isM_len]; unfold phi; split <;> omega
  rw [exOdd_scan _ _ hp' ho, exOdd_scan _ _ hpm (by rw [is_get hp']; exact ho)]
  rcases Nat.lt_trichotomy p A.length with hpa | hpa | hpa
  · have e : phi A.length I.length p = p := by unfold phi; rw [if_pos (by omega)]
    rw [e, isL_pre hpa, isM_pre hpa, endGo_app, endGo_app]
    cases hd : dpt (A.drop (p + 1)) 0 with
    | none =>
      have := dpt_none _ _ hd
      dsimp only
      rw [List.take_append_of_le_length (by omega), List.take_append_of_le_length (by omega)]
    | some d =>
      show scanL ((A.drop (p + 1) ++ c0 :: (I ++ 22 :: B)).take ((A.drop (p + 1)).length + endGo (c0 :: (I ++ 22 :: B)) d)) 0 = scanL ((A.drop (p + 1) ++ c0 :: 22 :: B).take ((A.drop (p + 1)).length + endGo (c0 :: 22 :: B) d)) 0
      rw [endGo_open _ _ h.op, endGo_open _ _ h.op, endGo_I h, endGo_ps, take_len_add, take_len_add, List.take_succ_cons, List.take_succ_cons, List.take_succ_cons, take_len_add, List.take_succ_cons]
      exact scanL_ins h _ _ _
  · exact absurd hpa hn
  · rcases Nat.eq_or_lt_of_le (Nat.succ_le_of_lt hpa) with h2 | h2
    · exfalso
      rw [show p = A.length + 1 from h2.symm, isL_get1] at ho
      cases ho
    · obtain ⟨j, rfl⟩ : ∃ j, p = A.length + 2 + j := ⟨p - (A.length + 2), by omega⟩
      have e : phi A.length I.length (A.length + 2 + j) = A.length + 2 + I.length + j := by unfold phi; rw [if_neg (by omega)]; omega
      rw [e, show A.length + 2 + j + 1 = A.length + 2 + (j + 1) by omega, show A.length + 2 + I.length + j + 1 = A.length + 2 + I.length + (j + 1) by omega, isL_post, isM_post]
end
def stE (para : Int) (l : List Int) (i : Nat) : WS := (exTo para l i).1
theorem stE_succ (para : Int) (l : List Int) (i : Nat) : stE para l (i + 1) = exSt l i (l.getD i 0) (stE para l i) := rfl
theorem getD_left {α : Type} (u v : List α) (d : α) {j : Nat} (h : j < u.length) : (u ++ v).getD j d = u.getD j d := by
  rw [List.getD_eq_getElem?_getD, List.getElem?_append_left h, List.getD_eq_getElem?_getD]
theorem exLv_at (para : Int) (l : List Int) : ∀ i j, j < i → (exTo para l i).2.1.getD j 0 = exAt para (l.getD j 0) (stE para l j) (stE para l (j + 1)) ∧ (exTo para l i).2.2.getD j 0 = exAs (l.getD j 0) (stE para l j) (stE para l (j + 1))
  | i + 1, j, h => by
    have hl := exTo_len para l i
    simp only [exTo]
    by_cases e : j = i
    · subst e
      constructor
      · rw [List.getD_eq_getElem?_getD, List.getElem?_append_right (by omega), hl.1, Nat.sub_self]; rfl
      · rw [List.getD_eq_getElem?_getD, List.getElem?_append_right (by omega), hl.2, Nat.sub_self]; rfl
    · have := exLv_at para l i j (by omega)
      rw [getD_left _ _ _ (by omega), getD_left _ _ _ (by omega)]
      exact this
theorem exSt_eq {l l' : List Int} {i i' : Nat} {c : Int} {s : WS} (h : c = 21 → exOdd l i = exOdd l' i') : exSt l i c s = exSt l' i' c s := by
  unfold exSt
  by_cases e : c = 21
  · subst e; rw [h rfl]
  · simp only [if_neg e]
def dpB (c : Int) : Bool := (decide (14 ≤ c) && decide (c ≤ 17)) || opB c
structure InvD (n : Nat) (s : WS) : Prop where
  inn : s.inn = 0
  deep : s.deep = 0
  lv : ∀ t ∈ s.st, t.lv ≤ 1 + 2 * n
theorem InvD.mono {n m : Nat} {s : WS} (h : InvD n s) (hnm : n ≤ m) : InvD m s := ⟨h.inn, h.deep, fun t ht => by have := h.lv t ht; omega⟩
theorem InvD.fits {n : Nat} {s : WS} (h : InvD n s) (hn : n ≤ 60) {t : En} {r : List En} (hs : s.st = t :: r) (odd : Int) : fitsW s t.lv odd = true ∧ nextL t.lv odd ≤ 1 + 2 * (n + 1 : Nat) := by
  have h1 := h.lv t (by rw [hs]; simp)
  have h2 := nextL_or t.lv odd
  constructor
  · unfold fitsW
    rw [h.inn, h.deep, decide_eq_false (by omega)]
    rfl
  · omega
theorem InvD.push {n : Nat} {s : WS} (h : InvD n s) (hn : n ≤ 60) {t : En} {r : List En} (hs : s.st = t :: r) (odd ov : Int) (iso : Bool) (k : Int) : InvD (n + 1) { s with st := ⟨nextL t.lv odd, ov, iso⟩ :: s.st, iso := k } := by
  refine ⟨h.inn, h.deep, fun u hu => ?_⟩
  rcases List.mem_cons.1 hu with rfl | hu
  · exact (h.fits hn hs odd).2
  · have := h.lv u hu; omega
theorem InvD.emb {n : Nat} {s : WS} (h : InvD n s) (hn : n ≤ 60) {t : En} {r : List En} (hs : s.st = t :: r) (odd ov : Int) : InvD (n + 1) (embedW s t.lv odd ov) := by
  unfold embedW
  rw [if_pos (h.fits hn hs odd).1, pushW_yes (h.fits hn hs odd).1]
  exact h.push hn hs odd ov false s.iso
theorem InvD.isol {n : Nat} {s : WS} (h : InvD n s) (hn : n ≤ 60) {t : En} {r : List En} (hs : s.st = t :: r) (odd : Int) : InvD (n + 1) (isolW s t.lv odd) := by
  unfold isolW
  rw [if_pos (h.fits hn hs odd).1, pushW_yes (h.fits hn hs odd).1]
  exact h.push hn hs odd (-1) true (s.iso + 1)
theorem InvD.suf {n : Nat} {s s' : WS} (h : InvD n s) (h1 : s'.inn = s.inn) (h2 : s'.deep = 0) (h3 : ∀ t ∈ s'.st, t ∈ s.st) : InvD n s' := ⟨h1.trans h.inn, h2, fun t ht => h.lv t (h3 t ht)⟩
theorem InvD.step {n : Nat} {s : WS} (h : InvD n s) (hn : n ≤ 60) {i : Nat} (hI : InvW i s) (l : List Int) (k : Nat) (c : Int) : InvD (n + if dpB c = true then 1 else 0) (exSt l k c s) := by
  obtain ⟨t, r, hs, _, _⟩ := hI.top
  unfold exSt
  rw [topW_of hs]
  by_cases h16 : c = 16
  · subst h16; exact h.emb hn hs 1 (-1)
  rw [if_neg h16]
  by_cases h14 : c = 14
  · subst h14; exact h.emb hn hs 0 (-1)
  rw [if_neg h14]
  by_cases h17 : c = 17
  · subst h17; exact h.emb hn hs 1 1
  rw [if_neg h17]
  by_cases h15 : c = 15
  · subst h15; exact h.emb hn hs 0 0
  rw [if_neg h15]
  by_cases h18 : c = 18
  · subst h18
    rw [if_pos rfl]
    refine InvD.mono (h.suf (s' := endsW s t) ?_ ?_ ?_) (Nat.le_add_right _ _)
    · unfold endsW popW
      split
      · rfl
      split
      · rfl
      split
      · rfl
      · rfl
    · unfold endsW popW
      rw [h.inn, h.deep, if_neg (by omega), if_neg (by omega)]
      split
      · rfl
      · exact h.deep
    · unfold endsW popW
      rw [h.inn, h.deep, if_neg (by omega), if_neg (by omega)]
      split
      · exact fun u hu => List.mem_of_mem_tail hu
      · exact fun u hu => hu
  rw [if_neg h18]
  by_cases h22 : c = 22
  · subst h22
    rw [if_pos rfl]
    refine InvD.mono (h.suf (s' := closesW s) ?_ ?_ ?_) (Nat.le_add_right _ _)
    · unfold closesW
      rw [h.inn, if_neg (by omega)]
      split
      · rw [← h.inn]
      · exact h.inn
    · unfold closesW
      rw [h.inn, if_neg (by omega)]
      split
      · rfl
      · exact h.deep
    · unfold closesW
      rw [h.inn, if_neg (by omega)]
      split
      · exact fun u hu => (popTo_suf s.st).subset (List.mem_of_mem_tail hu)
      · exact fun u hu => hu
  rw [if_neg h22]
  by_cases h20 : c = 20
  · subst h20; exact h.isol hn hs 1
  rw [if_neg h20]
  by_cases h19 : c = 19
  · subst h19; exact h.isol hn hs 0
  rw [if_neg h19]
  by_cases h21 : c = 21
  · subst h21; exact h.isol hn hs (exOdd l k)
  rw [if_neg h21]
  exact h.mono (Nat.le_add_right _ _)
theorem cnt_take (l : List Int) (i : Nat) (h : i < l.length) : (l.take (i + 1)).countP dpB = (l.take i).countP dpB + if dpB (l.getD i 0) = true then 1 else 0 := by
  rw [List.take_succ_eq_append_getElem h, List.countP_append, List.getD_eq_getElem?_getD, List.getElem?_eq_getElem h]
  simp [List.countP_cons]
theorem stE_D (para : Int) (hp : para = 0 ∨ para = 1) (l : List Int) : ∀ i, i ≤ l.length → (l.take i).countP dpB ≤ 60 → InvD ((l.take i).countP dpB) (stE para l i)
  | 0, _, _ => ⟨rfl, rfl, fun t ht => by rw [List.mem_singleton.1 ht]; show para ≤ _; omega⟩
  | i + 1, hi, hc => by
    rw [cnt_take l i (by omega)] at hc ⊢
    have ih := stE_D para hp l i (by omega) (by omega)
    rw [stE_succ]
    exact ih.step (by omega) (exTo_inv para l hp i) l i _
end Go.Proofs.YtdpifkhkemeclaaGreat
namespace Go.Proofs.YtdpifkhkemeclaaGreat
open Go.Proofs.YtdpifkhkemeclaaGreatW.PrintWords
def isoN (X : List En) : Nat := (X.filter (·.iso)).length
def InJ (s0 : WS) (e0 : En) (d : Nat) (s : WS) : Prop := ∃ X : List En, s.st = X ++ e0 :: s0.st ∧ (∀ x ∈ X, e0.lv ≤ x.lv) ∧ 0 ≤ s.inn ∧ (isoN X : Int) + s.inn = d ∧ s.iso = s0.iso + 1 + isoN X
theorem InJ.top {s0 : WS} {e0 : En} {d : Nat} {s : WS} (h : InJ s0 e0 d s) : ∃ t r, s.st = t :: r ∧ e0.lv ≤ t.lv := by
  obtain ⟨X, hs, hx, _⟩ := h
  cases X with
  | nil => exact ⟨e0, s0.st, hs, Int.le_refl _⟩
  | cons t X => exact ⟨t, X ++ e0 :: s0.st, hs, hx t (by simp)⟩
theorem isoN_cons (t : En) (X : List En) : isoN (t :: X) = isoN X + if t.iso = true then 1 else 0 := by
  unfold isoN
  cases h : t.iso <;> simp [h]
theorem popTo_app : ∀ (X Y : List En), isoN X ≠ 0 → popTo (X ++ Y) = popTo X ++ Y
  | [], Y, h => absurd rfl h
  | t :: X, Y, h => by
    rw [List.cons_append]
    unfold popTo
    split
    · rfl
    · rename_i ht
      rw [isoN_cons, if_neg ht] at h
      exact popTo_app X Y h
theorem popTo_none : ∀ (X Y : List En) (e : En), isoN X = 0 → e.iso = true → popTo (X ++ e :: Y) = e :: Y
  | [], Y, e, _, he => by rw [List.nil_append]; unfold popTo; rw [if_pos he]
  | t :: X, Y, e, h, he => by
    rw [isoN_cons] at h
    have ht : ¬ t.iso = true := by intro ht; rw [if_pos ht] at h; omega
    rw [if_neg ht] at h
    rw [List.cons_append]
    unfold popTo
    rw [if_neg ht]
    exact popTo_none X Y e h he
theorem nextL_ge (lv odd : Int) : lv ≤ nextL lv odd := by have := nextL_or lv odd; omega
theorem InJ.embed {s0 : WS} {e0 : En} {d : Nat} {s : WS} (h : InJ s0 e0 d s) (odd ov : Int) : InJ s0 e0 d (embedW s (topW s).lv odd ov) := by
  obtain ⟨t, r, hs, ht⟩ := h.top
  obtain ⟨X, hX, hx, hi, hc, ho⟩ := h
  rw [topW_of hs]
  unfold embedW
  cases hf : fitsW s t.lv odd with
  | true =>
    rw [if_pos rfl, pushW_yes hf]
    refine ⟨⟨nextL t.lv odd, ov, false⟩ :: X, by show _ :: s.st = _; rw [hX]; rfl, fun x hxm => ?_, hi, ?_, ?_⟩
    · rcases List.mem_cons.1 hxm with rfl | hxm
      · have := nextL_ge t.lv odd; show e0.lv ≤ nextL t.lv odd; omega
      · exact hx x hxm
    · rw [isoN_cons]; exact hc
    · rw [isoN_cons]; exact ho
  | false =>
    rw [if_neg (by decide)]
    split
    · exact ⟨X, hX, hx, hi, hc, ho⟩
    · exact ⟨X, hX, hx, hi, hc, ho⟩
theorem InJ.isol {s0 : WS} {e0 : En} {d : Nat} {s : WS} (h : InJ s0 e0 d s) (odd : Int) : InJ s0 e0 (d + 1) (isolW s (topW s).lv odd) := by
  obtain ⟨t, r, hs, ht⟩ := h.top
  obtain ⟨X, hX, hx, hi, hc, ho⟩ := h
  rw [topW_of hs]
  unfold isolW
  cases hf : fitsW s t.lv odd with
  | true =>
    rw [if_pos rfl, pushW_yes hf]
    refine ⟨⟨nextL t.lv odd, -1, true⟩ :: X, by show _ :: s.st = _; rw [hX]; rfl, fun x hxm => ?_, hi, ?_, ?_⟩
    · rcases List.mem_cons.1 hxm with rfl | hxm
      · have := nextL_ge t.lv odd; show e0.lv ≤ nextL t.lv odd; omega
      · exact hx x hxm
    · rw [isoN_cons, if_pos rfl]; show ((isoN X + 1 : Nat) : Int) + s.inn = _; omega
    · rw [isoN_cons, if_pos rfl]; show s.iso + 1 = _; omega
  | false =>
    rw [if_neg (by decide)]
    exact ⟨X, hX, hx, by show 0 ≤ s.inn + 1; omega, by show (isoN X : Int) + (s.inn + 1) = _; omega, ho⟩
theorem InJ.ends {s0 : WS} {e0 : En} {d : Nat} {s : WS} (he : e0.iso = true) (h : InJ s0 e0 d s) : InJ s0 e0 d (endsW s (topW s)) := by
  obtain ⟨t, r, hs, ht⟩ := h.top
  obtain ⟨X, hX, hx, hi, hc, ho⟩ := h
  rw [topW_of hs]
  unfold endsW
  split
  · exact ⟨X, hX, hx, hi, hc, ho⟩
  split
  · exact ⟨X, hX, hx, hi, hc, ho⟩
  split
  · rename_i hp
    cases X with
    | nil =>
      rw [hX] at hs
      injection hs with h1 _
      rw [← h1, he] at hp
      cases hp.1
    | cons y X =>
      rw [hX] at hs
      injection hs with h1 _
      subst h1
      rw [isoN_cons, if_neg (by rw [hp.1]; decide)] at hc ho
      exact ⟨X, by show s.st.tail = _; rw [hX]; rfl, fun x hxm => hx x (List.mem_cons_of_mem _ hxm), hi, hc, ho⟩
  · exact ⟨X, hX, hx, hi, hc, ho⟩
theorem InJ.closes {s0 : WS} {e0 : En} {d : Nat} {s : WS} (hs0 : 0 ≤ s0.iso) (h : InJ s0 e0 (d + 1) s) : InJ s0 e0 d (closesW s) := by
  obtain ⟨X, hX, hx, hi, hc, ho⟩ := h
  unfold closesW
  split
  · exact ⟨X, hX, hx, by show 0 ≤ s.inn - 1; omega, by show (isoN X : Int) + (s.inn - 1) = _; omega, ho⟩
  · rename_i hn
    have hcx : isoN X = d + 1 := by omega
    rw [if_pos (by omega)]
    have hpo := popTo_app X (e0 :: s0.st) (by omega)
    cases hq : popTo X with
    | nil =>
      have h1 := popTo_cnt X
      rw [hq] at h1
      have : isoN X = 0 := by unfold isoN; rw [← h1]; rfl
      omega
    | cons y Y =>
      have hy := popTo_head hq
      have h1 := popTo_cnt X
      rw [hq] at h1
      have h2 : isoN (y :: Y) = isoN X := by unfold isoN; rw [h1]
      rw [isoN_cons, if_pos hy] at h2
      have hsub : ∀ x ∈ y :: Y, x ∈ X := fun x hxm => (popTo_suf X).subset (by rw [hq]; exact hxm)
      refine ⟨Y, by show (popTo s.st).tail = _; rw [hX, hpo, hq]; rfl, fun x hxm => hx x (hsub x (List.mem_cons_of_mem _ hxm)), hi, by show (isoN Y : Int) + s.inn = _; omega, by show s.iso - 1 = _; omega⟩
theorem InJ.step {s0 : WS} {e0 : En} {d d' : Nat} {s : WS} (he : e0.iso = true) (hs0 : 0 ≤ s0.iso) (h : InJ s0 e0 d s) (l : List Int) (k : Nat) (c : Int) (hd : dpt [c] d = some d') : InJ s0 e0 d' (exSt l k c s) := by
  rw [dpt_c] at hd
  unfold exSt
  by_cases h22 : c = 22
  · subst h22
    rw [if_pos rfl] at hd
    cases d with
    | zero => cases hd
    | succ d =>
      injection hd with hd
      subst hd
      exact h.closes hs0
  rw [if_neg h22] at hd
  by_cases ho : opB c = true
  · rw [if_pos ho] at hd
    injection hd with hd
    subst hd
    have hc : c = 19 ∨ c = 20 ∨ c = 21 := by
      unfold opB at ho
      simp at ho
      omega
    rcases hc with rfl | rfl | rfl
    · exact h.isol 0
    · exact h.isol 1
    · exact h.isol _
  · rw [if_neg ho] at hd
    injection hd with hd
    subst hd
    have h19 : c ≠ 19 := by rintro rfl; exact ho rfl
    have h20 : c ≠ 20 := by rintro rfl; exact ho rfl
    have h21 : c ≠ 21 := by rintro rfl; exact ho rfl
    rw [if_neg h22, if_neg h20, if_neg h19, if_neg h21]
    split
    · exact h.embed 1 (-1)
    split
    · exact h.embed 0 (-1)
    split
    · exact h.embed 1 1
    split
    · exact h.embed 0 0
    split
    · exact h.ends he
    · exact h
theorem dpt_take {I : List Int} (h : dpt I 0 = some 0) (i : Nat) : ∃ d, dpt (I.take i) 0 = some d := by
  have e := dpt_app (I.take i) (I.drop i) 0
  rw [List.take_append_drop, h] at e
  cases hd : dpt (I.take i) 0 with
  | none => rw [hd] at e; cases e
  | some d => exact ⟨d, rfl⟩
section
variable {A I B : List Int} {c0 para : Int}
theorem st_pre (h : IsoC A I B c0) : ∀ i, i ≤ A.length → stE para (isM A I B c0) i = stE para (isL A B c0) i
  | 0, _ => rfl
  | i + 1, hi => by
    have hl : i < (isL A B c0).length := by rw [isL_len]; omega
    have e : phi A.length I.length i = i := by unfold phi; rw [if_pos (by omega)]
    have hg := is_get (A := A) (I := I) (B := B) (c0 := c0) hl
    rw [e] at hg
    rw [stE_succ, stE_succ, st_pre h i (by omega), hg]
    refine exSt_eq (fun hc => ?_)
    have := is_odd h hl (by omega) (by rw [hc]; rfl)
    rw [e] at this
    exact this
theorem isol_is {s : WS} {n : Nat} (hD : InvD n s) (hn : n ≤ 60) {t : En} {r : List En} (hs : s.st = t :: r) (hc : opB c0 = true) (l : List Int) (i : Nat) : ∃ odd, exSt l i c0 s = { s with st := ⟨nextL t.lv odd, -1, true⟩ :: s.st, iso := s.iso + 1 } := by
  have key : ∀ odd, isolW s t.lv odd = { s with st := ⟨nextL t.lv odd, -1, true⟩ :: s.st, iso := s.iso + 1 } := fun odd => by
    unfold isolW
    rw [if_pos (hD.fits hn hs odd).1, pushW_yes (hD.fits hn hs odd).1]
  have h3 : c0 = 19 ∨ c0 = 20 ∨ c0 = 21 := by
    unfold opB at hc
    simp at hc
    omega
  unfold exSt
  rw [topW_of hs]
  rcases h3 with rfl | rfl | rfl
  · exact ⟨0, key 0⟩
  · exact ⟨1, key 1⟩
  · exact ⟨exOdd l i, key _⟩
theorem nextL_gt (lv odd : Int) : lv < nextL lv odd := by have := nextL_or lv odd; omega
structure IsoP (A I B : List Int) (c0 para : Int) : Prop extends IsoC A I B c0 where
  par : para = 0 ∨ para = 1
  few : A.countP dpB ≤ 60
  nB : (∀ c ∈ A, c ≠ 10) ∧ (∀ c ∈ I, c ≠ 10) ∧ ∀ c ∈ B, c ≠ 10
def st0 (para : Int) (A B : List Int) (c0 : Int) : WS := stE para (isL A B c0) A.length
theorem st0_D (h : IsoP A I B c0 para) : InvD (A.countP dpB) (st0 para A B c0) := by
  have e : (isL A B c0).take A.length = A := by unfold isL; rw [List.take_left]
  have := stE_D para h.par (isL A B c0) A.length (by rw [isL_len]; omega) (by rw [e]; exact h.few)
  rw [e] at this
  exact this
theorem st0_W (h : IsoP A I B c0 para) : InvW A.length (st0 para A B c0) := exTo_inv para (isL A B c0) h.par A.length
theorem closes_back {s0 s : WS} {e0 : En} (hi : s0.inn = 0) (hd : s0.deep = 0) (hs0 : 0 ≤ s0.iso) (he : e0.iso = true) (h : InJ s0 e0 0 s) : closesW s = s0 := by
  obtain ⟨X, hX, hx, hin, hc, ho⟩ := h
  have h0 : isoN X = 0 := by omega
  have h1 : s.inn = 0 := by omega
  have key : ∀ u : WS, u.inn = 0 → u.deep = 0 → (⟨0, 0, u.iso, u.st⟩ : WS) = u := by rintro ⟨_, _, _, _⟩ rfl rfl; rfl
  unfold closesW
  rw [if_neg (by omega), if_pos (by omega)]
  show (⟨s.inn, 0, s.iso - 1, (popTo s.st).tail⟩ : WS) = s0
  rw [hX, popTo_none X s0.st e0 h0 he, h1, show s.iso - 1 = s0.iso by omega]
  exact key s0 hi hd
theorem st_L1 (h : IsoP A I B c0 para) {t : En} {r : List En} (hs : (st0 para A B c0).st = t :: r) : ∃ odd, stE para (isL A B c0) (A.length + 1) = { st0 para A B c0 with st := ⟨nextL t.lv odd, -1, true⟩ :: (st0 para A B c0).st, iso := (st0 para A B c0).iso + 1 } := by
  rw [stE_succ, isL_get0]
  exact isol_is (st0_D h) h.few hs h.op _ _
theorem st_L2 (h : IsoP A I B c0 para) : stE para (isL A B c0) (A.length + 2) = st0 para A B c0 := by
  obtain ⟨t, r, hs, _, _⟩ := (st0_W h).top
  obtain ⟨odd, h1⟩ := st_L1 h hs
  rw [show A.length + 2 = (A.length + 1) + 1 by rfl, stE_succ, isL_get1, h1]
  have hi := (st0_W h).iso
  exact closes_back (e0 := ⟨nextL t.lv odd, -1, true⟩) (st0_D h).inn (st0_D h).deep hi.1 rfl ⟨[], rfl, (fun x hx => by cases hx), by rw [(st0_D h).inn]; exact Int.le_refl _, by rw [(st0_D h).inn]; rfl, by show (st0 para A B c0).iso + 1 = _ + 1 + ((isoN [] : Nat) : Int); rw [show isoN [] = 0 from rfl]; omega⟩
theorem st_in (h : IsoP A I B c0 para) {t : En} {r : List En} (hs : (st0 para A B c0).st = t :: r) : ∃ e0 : En, e0.iso = true ∧ t.lv < e0.lv ∧ ∀ i, i ≤ I.length → ∀ d, dpt (I.take i) 0 = some d → InJ (st0 para A B c0) e0 d (stE para (isM A I B c0) (A.length + 1 + i)) := by
  have hi := (st0_W h).iso
  have hpre := st_pre (para := para) h.toIsoC A.length (Nat.le_refl _)
  obtain ⟨odd, h1⟩ := isol_is (l := isM A I B c0) (i := A.length) (st0_D h) h.few hs h.op
  refine ⟨⟨nextL t.lv odd, -1, true⟩, rfl, nextL_gt _ _, ?_⟩
  intro i
  induction i with
  | zero =>
    intro _ d hd
    injection hd with hd
    subst hd
    rw [show A.length + 1 + 0 = A.length + 1 by rfl, stE_succ, isM_get0, hpre]
    show InJ _ _ 0 (exSt (isM A I B c0) A.length c0 (st0 para A B c0))
    rw [h1]
    exact ⟨[], rfl, (fun x hx => by cases hx), by show 0 ≤ (st0 para A B c0).inn; rw [(st0_D h).inn]; exact Int.le_refl _, by show ((isoN [] : Nat) : Int) + (st0 para A B c0).inn = _; rw [(st0_D h).inn]; rfl, by show (st0 para A B c0).iso + 1 = _ + 1 + ((isoN [] : Nat) : Int); rw [show isoN [] = 0 from rfl]; omega⟩
  | succ i ih =>
    intro hil d hd
    rw [List.take_succ_eq_append_getElem (by omega), dpt_app] at hd
    obtain ⟨d0, hd0⟩ := dpt_take h.cl i
    rw [hd0] at hd
    have ih' := ih (by omega) d0 hd0
    rw [show A.length + 1 + (i + 1) = (A.length + 1 + i) + 1 by omega, stE_succ, isM_getI (by omega)]
    refine ih'.step rfl hi.1 _ _ _ ?_
    have e : I.getD i 0 = I[i] := by rw [List.getD_eq_getElem?_getD, List.getElem?_eq_getElem (by omega)]; rfl
    rw [e]
    exact hd
theorem st_M2 (h : IsoP A I B c0 para) : stE para (isM A I B c0) (A.length + 2 + I.length) = st0 para A B c0 := by
  obtain ⟨t, r, hs, _, _⟩ := (st0_W h).top
  obtain ⟨e0, he, _, hJ⟩ := st_in h hs
  have hi := (st0_W h).iso
  rw [show A.length + 2 + I.length = (A.length + 1 + I.length) + 1 by omega, stE_succ, isM_get1]
  exact closes_back (st0_D h).inn (st0_D h).deep hi.1 he (hJ I.length (Nat.le_refl _) 0 (by rw [List.take_length]; exact h.cl))
theorem st_post (h : IsoP A I B c0 para) : ∀ j, j ≤ B.length → stE para (isM A I B c0) (A.length + 2 + I.length + j) = stE para (isL A B c0) (A.length + 2 + j)
  | 0, _ => by rw [Nat.add_zero, Nat.add_zero, st_M2 h, st_L2 h]
  | j + 1, hj => by
    have hl : A.length + 2 + j < (isL A B c0).length := by rw [isL_len]; omega
    have e : phi A.length I.length (A.length + 2 + j) = A.length + 2 + I.length + j := by unfold phi; rw [if_neg (by omega)]; omega
    have hg := is_get (A := A) (I := I) (B := B) (c0 := c0) hl
    rw [e] at hg
    rw [show A.length + 2 + I.length + (j + 1) = (A.length + 2 + I.length + j) + 1 by omega, show A.length + 2 + (j + 1) = (A.length + 2 + j) + 1 by omega, stE_succ, stE_succ, st_post h j (by omega), hg]
    refine exSt_eq (fun hc => ?_)
    have := is_odd h.toIsoC hl (by omega) (by rw [hc]; rfl)
    rw [e] at this
    exact this
theorem lv_M (i : Nat) (hi : i < (isM A I B c0).length) : (exLv para (isM A I B c0)).getD i 0 = exAt para ((isM A I B c0).getD i 0) (stE para (isM A I B c0) i) (stE para (isM A I B c0) (i + 1)) ∧ (exTd para (isM A I B c0)).getD i 0 = exAs ((isM A I B c0).getD i 0) (stE para (isM A I B c0) i) (stE para (isM A I B c0) (i + 1)) := exLv_at para _ _ i hi
theorem lv_L (i : Nat) (hi : i < (isL A B c0).length) : (exLv para (isL A B c0)).getD i 0 = exAt para ((isL A B c0).getD i 0) (stE para (isL A B c0) i) (stE para (isL A B c0) (i + 1)) ∧ (exTd para (isL A B c0)).getD i 0 = exAs ((isL A B c0).getD i 0) (stE para (isL A B c0) i) (stE para (isL A B c0) (i + 1)) := exLv_at para _ _ i hi
theorem op_cases (hc : opB c0 = true) : c0 = 19 ∨ c0 = 20 ∨ c0 = 21 := by
  unfold opB at hc
  simp at hc
  omega
theorem is_lev (h : IsoP A I B c0 para) {p : Nat} (hp : p < (isL A B c0).length) :
    (exLv para (isM A I B c0)).getD (phi A.length I.length p) 0 = (exLv para (isL A B c0)).getD p 0 ∧ (exTd para (isM A I B c0)).getD (phi A.length I.length p) 0 = (exTd para (isL A B c0)).getD p 0 := by
  have hp' := hp
  rw [isL_len] at hp
  have hpm : phi A.length I.length p < (isM A I B c0).length := by rw [isM_len]; unfold phi; split <;> omega
  have hM := lv_M (para := para) (phi A.length I.length p) hpm
  have hL := lv_L (para := para) p hp'
  rw [hM.1, hM.2, hL.1, hL.2, is_get hp']
  rcases Nat.lt_trichotomy p A.length with hpa | hpa | hpa
  · have e : phi A.length I.length p = p := by unfold phi; rw [if_pos (by omega)]
    rw [e, st_pre h.toIsoC p (by omega), st_pre h.toIsoC (p + 1) (by omega)]
    exact ⟨rfl, rfl⟩
  · subst hpa
    have e : phi A.length I.length A.length = A.length := by unfold phi; rw [if_pos (Nat.le_refl _)]
    rw [e, st_pre h.toIsoC A.length (Nat.le_refl _), isL_get0]
    rcases op_cases h.op with rfl | rfl | rfl
    · exact ⟨rfl, rfl⟩
    · exact ⟨rfl, rfl⟩
    · exact ⟨rfl, rfl⟩
  · rcases Nat.eq_or_lt_of_le (Nat.succ_le_of_lt hpa) with h2 | h2
    · have hpe : p = A.length + 1 := h2.symm
      subst hpe
      have e : phi A.length I.length (A.length + 1) = A.length + 1 + I.length := by unfold phi; rw [if_neg (by omega)]
      rw [e, show A.length + 1 + I.length + 1 = A.length + 2 + I.length by omega, show A.length + 1 + 1 = A.length + 2 by rfl, st_M2 h, st_L2 h, isL_get1]
      exact ⟨rfl, rfl⟩
    · obtain ⟨j, rfl⟩ : ∃ j, p = A.length + 2 + j := ⟨p - (A.length + 2), by omega⟩
      have e : phi A.length I.length (A.length + 2 + j) = A.length + 2 + I.length + j := by unfold phi; rw [if_neg (by omega)]; omega
      rw [e, show A.length + 2 + I.length + j + 1 = A.length + 2 + I.length + (j + 1) by omega, show A.length + 2 + j + 1 = A.length + 2 + (j + 1) by omega, st_post h j (by omega), st_post h (j + 1) (by omega)]
      exact ⟨rfl, rfl⟩
theorem is_lev0 (h : IsoP A I B c0 para) {t : En} {r : List En} (hs : (st0 para A B c0).st = t :: r) : (exLv para (isL A B c0)).getD A.length 0 = t.lv ∧ (exLv para (isL A B c0)).getD (A.length + 1) 0 = t.lv := by
  have h0 := lv_L (para := para) (A := A) (B := B) (c0 := c0) A.length (by rw [isL_len]; omega)
  have h1 := lv_L (para := para) (A := A) (B := B) (c0 := c0) (A.length + 1) (by rw [isL_len]; omega)
  rw [h0.1, h1.1, isL_get0, isL_get1, show A.length + 1 + 1 = A.length + 2 by rfl, st_L2 h]
  have e : topW (st0 para A B c0) = t := topW_of hs
  constructor
  · have e2 : exAt para c0 (stE para (isL A B c0) A.length) (stE para (isL A B c0) (A.length + 1)) = (topW (st0 para A B c0)).lv := by
      rcases op_cases h.op with rfl | rfl | rfl <;> rfl
    rw [e2, e]
  · have e2 : exAt para 22 (stE para (isL A B c0) (A.length + 1)) (st0 para A B c0) = (topW (st0 para A B c0)).lv := rfl
    rw [e2, e]
theorem is_in (h : IsoP A I B c0 para) {i : Nat} (hi : i < I.length) : (exLv para (isM A I B c0)).getD (A.length + 1 + i) 0 < 0 ∨ (exLv para (isL A B c0)).getD A.length 0 < (exLv para (isM A I B c0)).getD (A.length + 1 + i) 0 := by
  obtain ⟨t, r, hs, _, _⟩ := (st0_W h).top
  obtain ⟨e0, he, hlt, hJ⟩ := st_in h hs
  rw [(is_lev0 h hs).1]
  have hM := lv_M (para := para) (A := A) (I := I) (B := B) (c0 := c0) (A.length + 1 + i) (by rw [isM_len]; omega)
  rw [hM.1, isM_getI hi]
  obtain ⟨d, hd⟩ := dpt_take h.cl i
  obtain ⟨d', hd'⟩ := dpt_take h.cl (i + 1)
  obtain ⟨u, _, hu, hul⟩ := (hJ i (by omega) d hd).top
  obtain ⟨u', _, hu', hul'⟩ := (hJ (i + 1) (by omega) d' hd').top
  rw [show A.length + 1 + (i + 1) = A.length + 1 + i + 1 by omega] at hu'
  have h10 : I.getD i 0 ≠ 10 := h.nB.2.1 _ (mem_getD I 0 i hi)
  unfold exAt
  split
  · left; omega
  · skip
    right
    split
    · rw [topW_of hu']; omega
    · rw [topW_of hu]; omega
end
end Go.Proofs.YtdpifkhkemeclaaGreat
namespace Go.Proofs.YtdpifkhkemeclaaGreat
open Go.Proofs.YtdpifkhkemeclaaGreatW.PrintWords
def KP (lev : List Int) : List PL2 := kpTo lev lev.length
theorem KP_in {lev : List Int} {x : PL2} (h : x ∈ KP lev) : x.1 < lev.length ∧ lev.getD x.1 0 = x.2 ∧ 0 ≤ x.2 := lev_of rfl h
theorem KP_of {lev : List Int} {p : Nat} (h : p < lev.length) (h0 : 0 ≤ lev.getD p 0) : (p, lev.getD p 0) ∈ KP lev := kpTo_mem' h h0
theorem KP_rise (lev : List Int) : Rise (KP lev) := kpTo_rise _ _
theorem rise_find : ∀ {K : List PL2} {p : Nat} {y : PL2}, Rise K → y ∈ K → p < y.1 → (∀ z ∈ K, p < z.1 → y.1 ≤ z.1) → K.find? (fun x => decide (p < x.1)) = some y
  | x :: K, p, y, hR, hy, hp, hm => by
    by_cases h : p < x.1
    · rw [List.find?_cons_of_pos (by simpa using h)]
      rcases List.mem_cons.1 hy with rfl | hy
      · rfl
      · have h1 := (List.pairwise_cons.1 hR).1 y hy
        have h2 := hm x (by simp) h
        omega
    · rw [List.find?_cons_of_neg (by simpa using h)]
      rcases List.mem_cons.1 hy with rfl | hy
      · exact absurd hp h
      · exact rise_find (List.pairwise_cons.1 hR).2 hy hp (fun z hz hz2 => hm z (List.mem_cons_of_mem _ hz) hz2)
theorem nk_eq {lev : List Int} {p q : Nat} (hpq : p < q) (hq : q < lev.length) (h0 : 0 ≤ lev.getD q 0) (hno : ∀ x, p < x → x < q → lev.getD x 0 < 0) : nk (KP lev) p = some (q, lev.getD q 0) := by
  refine rise_find (KP_rise lev) (KP_of hq h0) hpq (fun z hz hz2 => ?_)
  have := KP_in hz
  rcases Nat.lt_or_ge z.1 q with h | h
  · have := hno z.1 hz2 h; omega
  · exact h
theorem nk_none {lev : List Int} {p : Nat} (hno : ∀ x, p < x → x < lev.length → lev.getD x 0 < 0) : nk (KP lev) p = none := by
  refine List.find?_eq_none.2 (fun z hz => ?_)
  have h := KP_in hz
  simp
  rcases Nat.lt_or_ge p z.1 with h1 | h1
  · have := hno z.1 h1 h.1; omega
  · exact h1
theorem nk_some {lev : List Int} {p : Nat} {y : PL2} (h : nk (KP lev) p = some y) : p < y.1 ∧ y.1 < lev.length ∧ y.2 = lev.getD y.1 0 ∧ 0 ≤ y.2 ∧ ∀ x, p < x → x < y.1 → lev.getD x 0 < 0 := by
  have h1 := List.find?_some h
  have h2 := KP_in (List.mem_of_find?_eq_some h)
  refine ⟨by simpa using h1, h2.1, h2.2.1.symm, h2.2.2, fun x hx hxy => ?_⟩
  rcases Int.lt_or_le (lev.getD x 0) 0 with h3 | h3
  · exact h3
  · exfalso
    have hm := KP_of (by omega : x < lev.length) h3
    obtain ⟨u, v, hs⟩ := List.append_of_mem (List.mem_of_find?_eq_some h)
    have hR := KP_rise lev
    rw [hs] at hm hR
    rcases List.mem_append.1 hm with hm | hm
    · unfold nk at h
      rw [hs, List.find?_append] at h
      cases hf : u.find? (fun z => decide (p < z.1)) with
      | none =>
        have := List.find?_eq_none.1 hf _ hm
        simp at this
        omega
      | some z =>
        rw [hf] at h
        injection h with h
        have := hR.lt (List.mem_of_find?_eq_some hf) (y := y) (by simp)
        rw [h] at this
        omega
    · rcases List.mem_cons.1 hm with e | hm
      · have := congrArg Prod.fst e; simp at this; omega
      · have := (List.pairwise_cons.1 hR.right).1 _ hm
        simp at this
        omega
theorem nk_no {lev : List Int} {p : Nat} (h : nk (KP lev) p = none) : ∀ x, p < x → x < lev.length → lev.getD x 0 < 0 := by
  intro x hx hxl
  rcases Int.lt_or_le (lev.getD x 0) 0 with h3 | h3
  · exact h3
  · have := List.find?_eq_none.1 h _ (KP_of hxl h3)
    simp at this
    omega
theorem pk_eq {lev : List Int} {p q : Nat} (hpq : q < p) (hq : q < lev.length) (h0 : 0 ≤ lev.getD q 0) (hno : ∀ x, q < x → x < p → x < lev.length → lev.getD x 0 < 0) : pk (KP lev) p = some (q, lev.getD q 0) := by
  obtain ⟨u, v, hs⟩ := List.append_of_mem (KP_of hq h0)
  have hR := KP_rise lev
  unfold pk
  rw [hs] at hR ⊢
  have e : u ++ (q, lev.getD q 0) :: v = (u ++ [(q, lev.getD q 0)]) ++ v := by simp
  rw [e] at hR ⊢
  rw [filter_lt (fun x hx => ?_) (fun x hx => ?_)]
  · simp
  · rcases List.mem_append.1 hx with hx | hx
    · have := hR.left.lt hx (y := (q, lev.getD q 0)) (by simp); simp at this; omega
    · rw [List.mem_singleton.1 hx]; exact hpq
  · have h1 := hR.lt (x := (q, lev.getD q 0)) (by simp) hx
    have h2 := KP_in (lev := lev) (x := x) (by rw [hs]; simp [hx])
    rcases Nat.lt_or_ge x.1 p with h3 | h3
    · have := hno x.1 (by simpa using h1) h3 h2.1; omega
    · exact h3
theorem pk_none {lev : List Int} {p : Nat} (hno : ∀ x, x < p → x < lev.length → lev.getD x 0 < 0) : pk (KP lev) p = none := by
  unfold pk
  rw [List.filter_eq_nil_iff.2 (fun z hz => ?_)]
  · rfl
  · have h := KP_in hz
    simp
    rcases Nat.lt_or_ge z.1 p with h1 | h1
    · have := hno z.1 h1 h.1; omega
    · exact h1
theorem pk_cases (lev : List Int) (p : Nat) : (pk (KP lev) p = none ∧ ∀ x, x < p → x < lev.length → lev.getD x 0 < 0) ∨ ∃ q, q < p ∧ q < lev.length ∧ 0 ≤ lev.getD q 0 ∧ (∀ x, q < x → x < p → x < lev.length → lev.getD x 0 < 0) ∧ pk (KP lev) p = some (q, lev.getD q 0) := by
  have key : ∀ n, (∀ x, x < n → x < lev.length → lev.getD x 0 < 0) ∨ ∃ q, q < n ∧ q < lev.length ∧ 0 ≤ lev.getD q 0 ∧ ∀ x, q < x → x < n → x < lev.length → lev.getD x 0 < 0 := by
    intro n
    induction n with
    | zero => left; intro x hx; omega
    | succ n ih =>
      by_cases hn : n < lev.length ∧ 0 ≤ lev.getD n 0
      · right; exact ⟨n, by omega, hn.1, hn.2, fun x h1 h2 _ => by omega⟩
      · have hn' : n < lev.length → lev.getD n 0 < 0 := fun h => by
          rcases Int.lt_or_le (lev.getD n 0) 0 with h3 | h3
          · exact h3
          · exact absurd ⟨h, h3⟩ hn
        rcases ih with ih | ⟨q, h1, h2, h3, h4⟩
        · left
          intro x hx hl
          rcases Nat.lt_succ_iff_lt_or_eq.1 hx with h | h
          · exact ih x h hl
          · subst h; exact hn' hl
        · right
          refine ⟨q, by omega, h2, h3, fun x hx hxn hl => ?_⟩
          rcases Nat.lt_succ_iff_lt_or_eq.1 hxn with h | h
          · exact h4 x hx h hl
          · subst h; exact hn' hl
  rcases key p with h | ⟨q, h1, h2, h3, h4⟩
  · left; exact ⟨pk_none h, h⟩
  · right; exact ⟨q, h1, h2, h3, h4, pk_eq h1 h2 h3 h4⟩
theorem nk_cases (lev : List Int) (p : Nat) : (nk (KP lev) p = none ∧ ∀ x, p < x → x < lev.length → lev.getD x 0 < 0) ∨ ∃ q, p < q ∧ q < lev.length ∧ 0 ≤ lev.getD q 0 ∧ (∀ x, p < x → x < q → lev.getD x 0 < 0) ∧ nk (KP lev) p = some (q, lev.getD q 0) := by
  cases h : nk (KP lev) p with
  | none => left; exact ⟨rfl, nk_no h⟩
  | some y =>
    right
    obtain ⟨h1, h2, h3, h4, h5⟩ := nk_some h
    exact ⟨y.1, h1, h2, by rw [← h3]; exact h4, h5, by rw [← h3]⟩
theorem NpB_fun {K : List PL2} {lev cl M : List Int} {p q q' : Nat} (h : NpB K lev cl M p q = true) (h' : NpB K lev cl M p q' = true) : q = q' := by
  have hj : ∀ {a b}, jmpB K cl M p a = true → jmpB K cl M p b = true → a = b := by
    intro a b ha hb
    unfold jmpB at ha hb
    simp only [Bool.and_eq_true, decide_eq_true_eq] at ha hb
    have := ha.1.2.symm.trans hb.1.2
    omega
  unfold NpB at h h'
  split at h
  · rename_i y hy
    rw [hy] at h'
    dsimp only at h'
    split at h
    · rename_i e
      rw [if_pos e] at h'
      rw [decide_eq_true_eq] at h h'
      omega
    · rename_i e
      rw [if_neg e] at h'
      exact hj h h'
  · rename_i hy
    rw [hy] at h'
    exact hj h h'
theorem chain_one {N : Nat → Nat → Bool} (hf : ∀ p q q', N p q = true → N p q' = true → q = q') : ∀ {c d : List Nat}, Chn N c → Chn N d → c ≠ [] → d ≠ [] → c.headD 0 = d.headD 0 → (∀ u q, c = u ++ [q] → ∀ y, N q y = false) → (∀ u q, d = u ++ [q] → ∀ y, N q y = false) → c = d
  | [], _, _, _, h, _, _, _, _ => absurd rfl h
  | _ :: _, [], _, _, _, h, _, _, _ => absurd rfl h
  | [a], [b], _, _, _, _, h, _, _ => by simpa using h
  | [a], b :: b' :: r, _, hd, _, _, h, hc, _ => by
    have e : a = b := h
    have := hc [] a rfl b'
    rw [e, hd.1] at this
    cases this
  | a :: a' :: r, [b], hc, _, _, _, h, _, hd => by
    have e : a = b := h
    have := hd [] b rfl a'
    rw [← e, hc.1] at this
    cases this
  | a :: a' :: r, b :: b' :: s, hc, hd, _, _, h, h1, h2 => by
    have e : a = b := h
    subst e
    have e' := hf a a' b' hc.1 hd.1
    subst e'
    rw [chain_one hf (c := a' :: r) (d := a' :: s) hc.2 hd.2 (by simp) (by simp) rfl (fun u q hq => h1 (a :: u) q (by rw [hq]; rfl)) (fun u q hq => h2 (a :: u) q (by rw [hq]; rfl))]
end Go.Proofs.YtdpifkhkemeclaaGreat
namespace Go.Proofs.YtdpifkhkemeclaaGreat
open Go.Proofs.YtdpifkhkemeclaaGreatW.PrintWords
theorem phi_le {a k p : Nat} (h : p ≤ a) : phi a k p = p := if_pos h
theorem phi_gt {a k p : Nat} (h : a < p) : phi a k p = p + k := if_neg (by omega)
theorem phi_lt {a k p q : Nat} : phi a k p < phi a k q ↔ p < q := by unfold phi; split <;> split <;> omega
theorem phi_inj {a k p q : Nat} (h : phi a k p = phi a k q) : p = q := by unfold phi at h; split at h <;> split at h <;> omega
theorem phi_out {a k p : Nat} : phi a k p ≤ a ∨ a + 1 + k ≤ phi a k p := by unfold phi; split <;> omega
theorem phi_of {a k n q : Nat} (hq : q < n + k) (h : q ≤ a ∨ a + 1 + k ≤ q) (ha : a < n) : ∃ p, p < n ∧ q = phi a k p := by
  rcases h with h | h
  · exact ⟨q, by omega, (phi_le h).symm⟩
  · exact ⟨q - k, by omega, by rw [phi_gt (by omega)]; omega⟩
structure MrgC (a k n : Nat) (vL vM cL cM mL mM : List Int) : Prop where
  hvL : vL.length = n
  hcL : cL.length = n
  hvM : vM.length = n + k
  hcM : cM.length = n + k
  ha : a + 1 < n
  lev : ∀ p, p < n → vM.getD (phi a k p) 0 = vL.getD p 0
  lv0 : 0 ≤ vL.getD a 0
  lv1 : vL.getD (a + 1) 0 = vL.getD a 0
  inn : ∀ q, a < q → q < a + 1 + k → vM.getD q 0 < 0 ∨ vL.getD a 0 < vM.getD q 0
  op : ∀ p : Nat, p < n → opB (rd cM (phi a k p : Nat)) = opB (rd cL (p : Nat))
  op0 : opB (rd cL (a : Nat)) = true
  jmp : ∀ p : Nat, p < n → opB (rd cL (p : Nat)) = true → ∃ m : Nat, rd mL (p : Nat) = (m : Int) ∧ p < m ∧ m ≤ n ∧ rd mM (phi a k p : Nat) = (phi a k m : Nat)
  jn : ∀ p : Nat, p < n → opB (rd cL (p : Nat)) = false → rd mL (p : Nat) ≠ (n : Int) ∧ rd mM (phi a k p : Nat) ≠ ((n + k : Nat) : Int)
  jmp0 : rd mL (a : Nat) = ((a + 1 : Nat) : Int)
  jin : ∀ q : Nat, a < q → q < a + 1 + k → opB (rd cM (q : Nat)) = true → ∃ m : Nat, rd mM (q : Nat) = (m : Int) ∧ q < m ∧ m < a + 1 + k
  matL : MatC cL mL
  matM : MatC cM mM
section
variable {a k n : Nat} {vL vM cL cM mL mM : List Int}
theorem MrgC.kept (h : MrgC a k n vL vM cL cM mL mM) {x : PL2} (hx : x ∈ KP vL) : x.1 < n ∧ vL.getD x.1 0 = x.2 ∧ 0 ≤ x.2 := by
  have := KP_in hx
  rw [h.hvL] at this
  exact this
theorem MrgC.nk (h : MrgC a k n vL vM cL cM mL mM) {p : Nat} (hp : p < n) (hpa : p ≠ a) : nk (KP vM) (phi a k p) = (nk (KP vL) p).map fun y => (phi a k y.1, y.2) := by
  have ha := h.ha
  have hv := h.hvL
  have hv' := h.hvM
  rcases nk_cases vL p with ⟨e, hno⟩ | ⟨q, h1, h2, h3, h4, e⟩
  · rw [e]
    refine nk_none (fun x hx hxl => ?_)
    have hpa2 : a < p := by
      rcases Nat.lt_or_ge a p with h5 | h5
      · exact h5
      · have := hno a (by omega) (by omega); have := h.lv0; omega
    rw [phi_gt hpa2] at hx
    obtain ⟨z, hz, rfl⟩ := phi_of (a := a) (k := k) (n := n) (q := x) (by omega) (.inr (by omega)) (by omega)
    rw [h.lev z hz]
    refine hno z ?_ (by omega)
    rw [← phi_gt hpa2] at hx
    exact phi_lt.1 hx
  · rw [e]
    show _ = some (phi a k q, vL.getD q 0)
    rw [← h.lev q (by omega)]
    refine nk_eq (phi_lt.2 h1) ?_ (by rw [h.lev q (by omega)]; exact h3) (fun x hx hxq => ?_)
    · rw [hv']; have := phi_lt (a := a) (k := k) (p := q) (q := n); rw [phi_gt (show a < n by omega)] at this; omega
    · have hc : x ≤ a ∨ a + 1 + k ≤ x := by
        rcases Nat.lt_or_ge a p with h5 | h5
        · right; rw [phi_gt h5] at hx; omega
        · left
          have hqa : q ≤ a := by
            rcases Nat.lt_or_ge a q with h6 | h6
            · have := h4 a (by omega) h6; have := h.lv0; omega
            · exact h6
          rw [phi_le hqa] at hxq
          omega
      have hxn : x < n + k := by
        have h6 : phi a k q ≤ q + k := by unfold phi; split <;> omega
        omega
      obtain ⟨z, hz, rfl⟩ := phi_of (a := a) (k := k) (n := n) (q := x) hxn hc (by omega)
      rw [h.lev z hz]
      exact h4 z (phi_lt.1 hx) (phi_lt.1 hxq)
theorem MrgC.nkL (h : MrgC a k n vL vM cL cM mL mM) : Go.Proofs.YtdpifkhkemeclaaGreat.nk (KP vL) a = some (a + 1, vL.getD (a + 1) 0) := nk_eq (by omega) (by rw [h.hvL]; exact h.ha) (by rw [h.lv1]; exact h.lv0) (fun x h1 h2 => by omega)
theorem MrgC.levQ (h : MrgC a k n vL vM cL cM mL mM) : vM.getD (a + 1 + k) 0 = vL.getD a 0 := by
  have := h.lev (a + 1) h.ha
  rw [phi_gt (by omega)] at this
  rw [this, h.lv1]
theorem MrgC.nkM (h : MrgC a k n vL vM cL cM mL mM) : Go.Proofs.YtdpifkhkemeclaaGreat.nk (KP vM) a = some (a + 1 + k, vL.getD a 0) ∨ ∃ q, a < q ∧ q < a + 1 + k ∧ vL.getD a 0 < vM.getD q 0 ∧ Go.Proofs.YtdpifkhkemeclaaGreat.nk (KP vM) a = some (q, vM.getD q 0) := by
  have hv' := h.hvM
  have ha := h.ha
  have h0 := h.lv0
  have hQ := h.levQ
  rcases nk_cases vM a with ⟨e, hno⟩ | ⟨q, h1, h2, h3, h4, e⟩
  · have := hno (a + 1 + k) (by omega) (by omega); omega
  · rcases Nat.lt_trichotomy q (a + 1 + k) with h5 | h5 | h5
    · right
      refine ⟨q, h1, h5, ?_, e⟩
      rcases h.inn q h1 h5 with h6 | h6 <;> omega
    · left; rw [e, h5, hQ]
    · have := h4 (a + 1 + k) (by omega) h5; omega
theorem MrgC.pk (h : MrgC a k n vL vM cL cM mL mM) {p : Nat} (hp : p < n) (hpa : p ≠ a + 1) : pk (KP vM) (phi a k p) = (pk (KP vL) p).map fun y => (phi a k y.1, y.2) := by
  have ha := h.ha
  have hv := h.hvL
  have hv' := h.hvM
  rcases pk_cases vL p with ⟨e, hno⟩ | ⟨q, h1, h2, h3, h4, e⟩
  · rw [e]
    have hpa2 : p ≤ a := by
      rcases Nat.lt_or_ge a p with h5 | h5
      · have := hno a h5 (by omega); have := h.lv0; omega
      · exact h5
    refine pk_none (fun x hx hxl => ?_)
    rw [phi_le hpa2] at hx
    have := h.lev x (by omega)
    rw [phi_le (by omega)] at this
    rw [this]
    exact hno x hx (by omega)
  · rw [e]
    show _ = some (phi a k q, vL.getD q 0)
    rw [← h.lev q (by omega)]
    refine pk_eq (phi_lt.2 h1) ?_ (by rw [h.lev q (by omega)]; exact h3) (fun x hx hxq hxl => ?_)
    · rw [hv']; have := phi_lt (a := a) (k := k) (p := q) (q := n); rw [phi_gt (show a < n by omega)] at this; omega
    · have hc : x ≤ a ∨ a + 1 + k ≤ x := by
        rcases Nat.lt_or_ge a p with h5 | h5
        · right
          have hqa : a + 1 ≤ q := by
            rcases Nat.lt_or_ge a q with h6 | h6
            · exact h6
            · have := h4 (a + 1) (by omega) (by omega) (by omega); have := h.lv0; have := h.lv1; omega
          rw [phi_gt (by omega)] at hx
          omega
        · left
          rw [phi_le h5] at hxq
          omega
      obtain ⟨z, hz, rfl⟩ := phi_of (a := a) (k := k) (n := n) (q := x) (by omega) hc (by omega)
      rw [h.lev z hz]
      exact h4 z (phi_lt.1 hx) (phi_lt.1 hxq) (by omega)
theorem begB_at {v : List Int} {q : Nat} : begB (KP v) q = true ↔ q < v.length ∧ 0 ≤ v.getD q 0 ∧ (match Go.Proofs.YtdpifkhkemeclaaGreat.pk (KP v) q with | some y => decide (y.2 ≠ v.getD q 0) | none => true) = true := by
  unfold begB
  rw [List.any_eq_true]
  constructor
  · rintro ⟨x, hx, h⟩
    rw [Bool.and_eq_true, decide_eq_true_eq] at h
    obtain ⟨rfl, h⟩ := h
    have := KP_in hx
    exact ⟨this.1, by rw [this.2.1]; exact this.2.2, by rw [this.2.1]; exact h⟩
  · rintro ⟨h1, h2, h3⟩
    exact ⟨_, KP_of h1 h2, by rw [Bool.and_eq_true, decide_eq_true_eq]; exact ⟨rfl, h3⟩⟩
theorem MrgC.phin (h : MrgC a k n vL vM cL cM mL mM) {p : Nat} : phi a k p < n + k ↔ p < n := by
  have ha := h.ha
  have := phi_lt (a := a) (k := k) (p := p) (q := n)
  rw [phi_gt (show a < n by omega)] at this
  exact this
theorem MrgC.beg (h : MrgC a k n vL vM cL cM mL mM) {z : Nat} (hz : z < n) (hza : z ≠ a + 1) : begB (KP vM) (phi a k z) = begB (KP vL) z := by
  rw [Bool.eq_iff_iff, begB_at, begB_at, h.lev z hz, h.hvL, h.hvM, h.phin, h.pk hz hza]
  cases Go.Proofs.YtdpifkhkemeclaaGreat.pk (KP vL) z <;> rfl
theorem MrgC.jmpE (h : MrgC a k n vL vM cL cM mL mM) {p z : Nat} (hp : p < n) (hpa : p ≠ a) (hz : z < n) : jmpB (KP vM) cM mM (phi a k p) (phi a k z) = jmpB (KP vL) cL mL p z := by
  have ha := h.ha
  unfold jmpB
  rw [h.op p hp]
  cases ho : opB (rd cL (p : Nat)) with
  | false => rfl
  | true =>
    obtain ⟨m, h1, h2, h3, h4⟩ := h.jmp p hp ho
    rw [h1, h4, Bool.true_and, Bool.true_and]
    by_cases e : m = z
    · subst e
      have hma : m ≠ a + 1 := by
        rintro rfl
        have := h.matL.inj p a (by rw [h.hcL]; exact hp) (by rw [h.hcL]; omega) ho h.op0 (by rw [h1, h.jmp0]) (by rw [h1, h.hcL]; omega)
        exact hpa this
      rw [h.beg hz hma]
      simp
    · have d1 : decide ((m : Int) = (z : Int)) = false := decide_eq_false (fun e2 => e (Int.ofNat.inj e2))
      have d2 : decide (((phi a k m : Nat) : Int) = ((phi a k z : Nat) : Int)) = false := decide_eq_false (fun e2 => e (phi_inj (Int.ofNat.inj e2)))
      rw [d1, d2]
      rfl
theorem MrgC.npA (h : MrgC a k n vL vM cL cM mL mM) (z : Nat) : NpB (KP vL) vL cL mL a z = decide (a + 1 = z) := by
  unfold NpB
  rw [h.nkL]
  dsimp only
  rw [if_pos h.lv1]
theorem MrgC.npQ (h : MrgC a k n vL vM cL cM mL mM) (q : Nat) : NpB (KP vM) vM cM mM a q = decide (a + 1 + k = q) := by
  have ha := h.ha
  have e0 : vM.getD a 0 = vL.getD a 0 := by have := h.lev a (by omega); rwa [phi_le (Nat.le_refl _)] at this
  unfold NpB
  rcases h.nkM with e | ⟨y, h1, h2, h3, e⟩
  · rw [e]
    dsimp only
    rw [if_pos e0.symm]
  · rw [e]
    dsimp only
    rw [if_neg (by omega)]
    unfold jmpB
    have ho := h.op a (by omega)
    rw [phi_le (Nat.le_refl _), h.op0] at ho
    obtain ⟨m, g1, g2, g3, g4⟩ := h.jmp a (by omega) h.op0
    have hm : m = a + 1 := by have := g1.symm.trans h.jmp0; omega
    subst hm
    rw [phi_le (Nat.le_refl _), phi_gt (by omega)] at g4
    rw [ho, g4, Bool.true_and]
    by_cases eq : q = a + 1 + k
    · subst eq
      have hb : begB (KP vM) (a + 1 + k) = true := by
        rw [begB_at]
        refine ⟨by rw [h.hvM]; omega, by rw [h.levQ]; exact h.lv0, ?_⟩
        rcases pk_cases vM (a + 1 + k) with ⟨e2, hno⟩ | ⟨q2, f1, f2, f3, f4, e2⟩
        · rw [e2]
        · rw [e2]
          dsimp only
          rw [decide_eq_true_eq, h.levQ]
          have h0 := h.lv0
          have hy : y ≤ q2 := by
            rcases Nat.lt_or_ge q2 y with f5 | f5
            · have := f4 y f5 h2 (by rw [h.hvM]; omega); omega
            · exact f5
          rcases h.inn q2 (by omega) f1 with f6 | f6 <;> omega
      rw [hb]
      simp
    · rw [decide_eq_false (fun e2 => eq (by omega)), decide_eq_false (fun e2 => eq e2.symm)]
      rfl
theorem MrgC.npE (h : MrgC a k n vL vM cL cM mL mM) {p z : Nat} (hp : p < n) (hz : z < n) : NpB (KP vM) vM cM mM (phi a k p) (phi a k z) = NpB (KP vL) vL cL mL p z := by
  by_cases hpa : p = a
  · subst hpa
    rw [h.npA, phi_le (Nat.le_refl _), h.npQ, Bool.eq_iff_iff, decide_eq_true_eq, decide_eq_true_eq]
    unfold phi
    split <;> omega
  · unfold NpB
    rw [h.nk hp hpa, h.lev p hp]
    cases Go.Proofs.YtdpifkhkemeclaaGreat.nk (KP vL) p with
    | none => exact h.jmpE hp hpa hz
    | some y =>
      dsimp only [Option.map]
      split
      · rw [Bool.eq_iff_iff, decide_eq_true_eq, decide_eq_true_eq]
        exact ⟨phi_inj, fun e => by rw [e]⟩
      · exact h.jmpE hp hpa hz
theorem NpB_in {v c m : List Int} {p q : Nat} (h : NpB (KP v) v c m p q = true) : q < v.length ∧ 0 ≤ v.getD q 0 := by
  have hj : jmpB (KP v) c m p q = true → q < v.length ∧ 0 ≤ v.getD q 0 := by
    intro hj
    unfold jmpB at hj
    rw [Bool.and_eq_true] at hj
    have := begB_at.1 hj.2
    exact ⟨this.1, this.2.1⟩
  unfold NpB at h
  split at h
  · rename_i y hy
    split at h
    · rw [decide_eq_true_eq] at h
      subst h
      have := KP_in (List.mem_of_find?_eq_some hy)
      exact ⟨this.1, by rw [this.2.1]; exact this.2.2⟩
    · exact hj h
  · exact hj h
theorem MrgC.npO (h : MrgC a k n vL vM cL cM mL mM) {p q : Nat} (hp : p < n) (hq : NpB (KP vM) vM cM mM (phi a k p) q = true) : ∃ z, z < n ∧ q = phi a k z := by
  have ha := h.ha
  have hi := NpB_in hq
  rw [h.hvM] at hi
  by_cases hpa : p = a
  · subst hpa
    rw [phi_le (Nat.le_refl _), h.npQ, decide_eq_true_eq] at hq
    exact ⟨p + 1, ha, by rw [phi_gt (by omega)]; omega⟩
  · have hj : jmpB (KP vM) cM mM (phi a k p) q = true → ∃ z, z < n ∧ q = phi a k z := by
      intro hj
      unfold jmpB at hj
      simp only [Bool.and_eq_true, decide_eq_true_eq] at hj
      have ho := hj.1.1
      rw [h.op p hp] at ho
      obtain ⟨m, h1, h2, h3, h4⟩ := h.jmp p hp ho
      have e : q = phi a k m := by have := h4.symm.trans hj.1.2; omega
      exact ⟨m, by rw [e] at hi; exact h.phin.1 hi.1, e⟩
    unfold NpB at hq
    rw [h.nk hp hpa] at hq
    cases hn : Go.Proofs.YtdpifkhkemeclaaGreat.nk (KP vL) p with
    | none => rw [hn] at hq; exact hj hq
    | some y =>
      rw [hn] at hq
      dsimp only [Option.map] at hq
      split at hq
      · rw [decide_eq_true_eq] at hq
        have := h.kept (List.mem_of_find?_eq_some hn)
        exact ⟨y.1, this.1, hq.symm⟩
      · exact hj hq
theorem MrgC.npI (h : MrgC a k n vL vM cL cM mL mM) {p q : Nat} (h1 : a < p) (h2 : p < a + 1 + k) (h0 : 0 ≤ vM.getD p 0) (hq : NpB (KP vM) vM cM mM p q = true) : a < q ∧ q < a + 1 + k := by
  have ha := h.ha
  have hj : jmpB (KP vM) cM mM p q = true → a < q ∧ q < a + 1 + k := by
    intro hj
    unfold jmpB at hj
    simp only [Bool.and_eq_true, decide_eq_true_eq] at hj
    obtain ⟨m, g1, g2, g3⟩ := h.jin p h1 h2 hj.1.1
    have := g1.symm.trans hj.1.2
    omega
  unfold NpB at hq
  split at hq
  · rename_i y hy
    split at hq
    · rename_i e
      rw [decide_eq_true_eq] at hq
      obtain ⟨f1, f2, f3, f4, f5⟩ := nk_some hy
      have hQ := h.levQ
      have hl := h.lv0
      have hi := h.inn p h1 h2
      rcases Nat.lt_trichotomy y.1 (a + 1 + k) with f6 | f6 | f6
      · omega
      · rw [f6, hQ] at f3
        rw [e] at f3
        rcases hi with hi | hi <;> omega
      · have := f5 (a + 1 + k) h2 f6; omega
    · exact hj hq
  · exact hj hq
theorem frst_iff {v c m : List Int} {p : Nat} : frstP (KP v) v c m p = true ↔ (p < v.length ∧ 0 ≤ v.getD p 0) ∧ ∀ q, q < v.length → 0 ≤ v.getD q 0 → NpB (KP v) v c m q p = false := by
  unfold frstP
  rw [Bool.and_eq_true, List.any_eq_true, List.all_eq_true]
  constructor
  · rintro ⟨⟨x, hx, e⟩, h⟩
    rw [decide_eq_true_eq] at e
    subst e
    have := KP_in hx
    exact ⟨⟨this.1, by rw [this.2.1]; exact this.2.2⟩, fun q hq h0 => by simpa using h _ (KP_of hq h0)⟩
  · rintro ⟨⟨h1, h2⟩, h⟩
    refine ⟨⟨_, KP_of h1 h2, by simp⟩, fun x hx => ?_⟩
    have := KP_in hx
    rw [h x.1 this.1 (by rw [this.2.1]; exact this.2.2)]
    rfl
theorem MrgC.frst (h : MrgC a k n vL vM cL cM mL mM) {z : Nat} (hz : z < n) : frstP (KP vM) vM cM mM (phi a k z) = frstP (KP vL) vL cL mL z := by
  have ha := h.ha
  rw [Bool.eq_iff_iff, frst_iff, frst_iff, h.lev z hz, h.hvL, h.hvM, h.phin]
  refine and_congr Iff.rfl ⟨fun H q hq h0 => ?_, fun H q hq h0 => ?_⟩
  · rw [← h.npE hq hz]
    exact H _ (h.phin.2 hq) (by rw [h.lev q hq]; exact h0)
  · by_cases hi : a < q ∧ q < a + 1 + k
    · cases hn : NpB (KP vM) vM cM mM q (phi a k z) with
      | false => rfl
      | true =>
        have := h.npI hi.1 hi.2 h0 hn
        have := phi_out (a := a) (k := k) (p := z)
        omega
    · obtain ⟨p, hp, rfl⟩ := phi_of (a := a) (k := k) hq (by omega) (by omega)
      rw [h.npE hp hz]
      rw [h.lev p hp] at h0
      exact H p hp h0
theorem headD_map {α β : Type} (f : α → β) (c : List α) (d : α) (e : β) (h : c ≠ []) : (c.map f).headD e = f (c.headD d) := by cases c with | nil => exact absurd rfl h | cons x r => rfl
theorem getLastD_map {α β : Type} (f : α → β) (c : List α) (d : α) (e : β) (h : c ≠ []) : (c.map f).getLastD e = f (c.getLastD d) := by
  obtain ⟨u, x, rfl⟩ := snoc_of h
  simp [List.getLastD_eq_getLast?]
theorem MrgC.seq (h : MrgC a k n vL vM cL cM mL mM) (para : Int) {c : List Nat} (hc : c ≠ []) (hin : ∀ p ∈ c, p < n) (h0 : c.headD 0 ≠ a + 1) (h1 : c.getLastD 0 ≠ a) :
    seqP (KP vM) vM cM mM para (c.map (phi a k)) = { seqP (KP vL) vL cL mL para c with at_ := (c.map (phi a k)).map fun p : Nat => (p : Int) } := by
  have ha := h.ha
  have hh : c.headD 0 < n := by cases c with | nil => exact absurd rfl hc | cons x r => exact hin x (by simp)
  have ht : c.getLastD 0 < n := by obtain ⟨u, x, rfl⟩ := snoc_of hc; rw [getLastD_snoc]; exact hin x (by simp)
  unfold seqP
  rw [headD_map (phi a k) c 0 0 hc, getLastD_map (phi a k) c 0 0 hc, h.lev _ hh, h.lev _ ht, h.pk hh h0, h.nk ht h1, h.hcL, h.hcM]
  have e3 : (rd mM ((phi a k (c.getLastD 0) : Nat) : Int) = ((n + k : Nat) : Int)) = (rd mL ((c.getLastD 0 : Nat) : Int) = (n : Int)) := by
    cases ho : opB (rd cL ((c.getLastD 0 : Nat) : Int)) with
    | false =>
      have := h.jn _ ht ho
      exact propext ⟨fun e => absurd e this.2, fun e => absurd e this.1⟩
    | true =>
      obtain ⟨m, g1, g2, g3, g4⟩ := h.jmp _ ht ho
      rw [g1, g4]
      refine propext ⟨fun e => ?_, fun e => ?_⟩
      · have e' : phi a k m = n + k := by exact_mod_cast e
        have : m = n := by unfold phi at e'; split at e' <;> omega
        rw [this]
      · have e' : m = n := by exact_mod_cast e
        rw [e', phi_gt (by omega)]
  simp only [e3]
  cases Go.Proofs.YtdpifkhkemeclaaGreat.pk (KP vL) (c.headD 0) <;> cases Go.Proofs.YtdpifkhkemeclaaGreat.nk (KP vL) (c.getLastD 0) <;> rfl
end
end Go.Proofs.YtdpifkhkemeclaaGreat
namespace Go.Proofs.YtdpifkhkemeclaaGreat
open Go.Proofs.YtdpifkhkemeclaaGreatW.PrintWords
theorem map_ext_by {α β : Type} {f : α → β} : ∀ {xs ys : List α}, xs.map f = ys.map f → (∀ x ∈ xs, ∀ y ∈ ys, f x = f y → x = y) → xs = ys
  | [], [], _, _ => rfl
  | [], y :: ys, h, _ => by simp at h
  | x :: xs, [], h, _ => by simp at h
  | x :: xs, y :: ys, h, H => by
    rw [List.map_cons, List.map_cons] at h
    injection h with h1 h2
    rw [H x (by simp) y (by simp) h1, map_ext_by h2 (fun a ha b hb => H a (by simp [ha]) b (by simp [hb]))]
theorem map_filter_c {α β : Type} (f : α → β) (p : β → Bool) : ∀ l : List α, (l.filter fun x => p (f x)).map f = (l.map f).filter p
  | [] => rfl
  | x :: l => by
    rw [List.filter_cons, List.map_cons, List.filter_cons]
    split
    · rw [List.map_cons, map_filter_c f p l]
    · exact map_filter_c f p l
theorem chn_map {N N' : Nat → Nat → Bool} {f : Nat → Nat} : ∀ {c : List Nat}, (∀ p ∈ c, ∀ q ∈ c, N' (f p) (f q) = N p q) → Chn N c → Chn N' (c.map f)
  | [], _, _ => trivial
  | [x], _, _ => trivial
  | x :: y :: r, h, hc => ⟨by rw [h x (by simp) y (by simp)]; exact hc.1, chn_map (c := y :: r) (fun p hp q hq => h p (List.mem_cons_of_mem _ hp) q (List.mem_cons_of_mem _ hq)) hc.2⟩
theorem chn_all {N : Nat → Nat → Bool} {P : Nat → Prop} (hP : ∀ p q, P p → N p q = true → P q) : ∀ {c : List Nat}, Chn N c → (c ≠ [] → P (c.headD 0)) → ∀ p ∈ c, P p
  | [], _, _, p, hp => by cases hp
  | [x], _, h, p, hp => by rw [List.mem_singleton.1 hp]; exact h (by simp)
  | x :: y :: r, hc, h, p, hp => by
    have hx : P x := h (by simp)
    rcases List.mem_cons.1 hp with rfl | hp
    · exact hx
    · exact chn_all hP (c := y :: r) hc.2 (fun _ => hP x y hx hc.1) p hp
def outB (a k q : Nat) : Bool := decide (q ≤ a) || decide (a + 1 + k ≤ q)
theorem outB_phi {a k p : Nat} : outB a k (phi a k p) = true := by have := phi_out (a := a) (k := k) (p := p); unfold outB; simpa using this
section
variable {a k n : Nat} {vL vM cL cM mL mM : List Int}
theorem MrgC.seqs (h : MrgC a k n vL vM cL cM mL mM) (para : Int) : ∃ psL psM : List (List Nat),
    (seqTo (runsOf (KP vL)) cL mL para (runsOf (KP vL)).length).1 = psL.map (seqP (KP vL) vL cL mL para) ∧
    (seqTo (runsOf (KP vM)) cM mM para (runsOf (KP vM)).length).1 = psM.map (seqP (KP vM) vM cM mM para) ∧
    psM.filter (fun c => outB a k (c.headD 0)) = psL.map (List.map (phi a k)) ∧
    (∀ c ∈ psL, c ≠ [] ∧ Chn (NpB (KP vL) vL cL mL) c ∧ (∀ p ∈ c, p < n ∧ 0 ≤ vL.getD p 0) ∧ seqP (KP vM) vM cM mM para (c.map (phi a k)) = { seqP (KP vL) vL cL mL para c with at_ := (c.map (phi a k)).map fun p : Nat => (p : Int) }) ∧
    ∀ c ∈ psM, c ≠ [] ∧ Chn (NpB (KP vM) vM cM mM) c ∧ (∀ p ∈ c, p < n + k ∧ 0 ≤ vM.getD p 0) ∧ (outB a k (c.headD 0) = false → ∀ p ∈ c, outB a k p = false) := by
  have ha := h.ha
  obtain ⟨psL, eL, hdL, hL⟩ := seqs_places (K := KP vL) (lev := vL) (cl := cL) (M := mL) rfl (by rw [h.hvL, h.hcL]) h.matL para
  obtain ⟨psM, eM, hdM, hM⟩ := seqs_places (K := KP vM) (lev := vM) (cl := cM) (M := mM) rfl (by rw [h.hvM, h.hcM]) h.matM para
  have kL : ∀ c ∈ psL, ∀ p ∈ c, p < n ∧ 0 ≤ vL.getD p 0 := by
    intro c hc p hp
    obtain ⟨x, hx, rfl⟩ := (hL c hc).2.2.2 p hp
    have := h.kept hx
    exact ⟨this.1, by rw [this.2.1]; exact this.2.2⟩
  have kM : ∀ c ∈ psM, ∀ p ∈ c, p < n + k ∧ 0 ≤ vM.getD p 0 := by
    intro c hc p hp
    obtain ⟨x, hx, rfl⟩ := (hM c hc).2.2.2 p hp
    have := KP_in hx
    rw [h.hvM] at this
    exact ⟨this.1, by rw [this.2.1]; exact this.2.2⟩
  have mxL : ∀ c ∈ psL, ∀ u q, c.map (phi a k) = u ++ [q] → ∀ y, NpB (KP vM) vM cM mM q y = false := by
    intro c hc u q e y
    obtain ⟨u', q', rfl⟩ := snoc_of (hL c hc).1
    rw [List.map_append] at e
    have e2 := (List.append_inj' e rfl).2
    simp only [List.map_cons, List.map_nil, List.cons.injEq, and_true] at e2
    subst e2
    have hq := (kL _ hc q' (by simp)).1
    cases hn : NpB (KP vM) vM cM mM (phi a k q') y with
    | false => rfl
    | true =>
      obtain ⟨z, hz, rfl⟩ := h.npO hq hn
      rw [h.npE hq hz, (hL _ hc).2.2.1 u' q' rfl z] at hn
      cases hn
  have chM : ∀ c ∈ psL, Chn (NpB (KP vM) vM cM mM) (c.map (phi a k)) := fun c hc => chn_map (fun p hp q hq => h.npE (kL c hc p hp).1 (kL c hc q hq).1) (hL c hc).2.1
  refine ⟨psL, psM, eL, eM, ?_, fun c hc => ⟨(hL c hc).1, (hL c hc).2.1, kL c hc, ?_⟩, fun c hc => ⟨(hM c hc).1, (hM c hc).2.1, kM c hc, fun ho => ?_⟩⟩
  · refine map_ext_by (f := fun c : List Nat => c.headD 0) ?_ ?_
    · rw [map_filter_c (fun c : List Nat => c.headD 0) (outB a k), hdM, List.map_map]
      have e : psL.map ((fun c : List Nat => c.headD 0) ∘ List.map (phi a k)) = (psL.map fun c => c.headD 0).map (phi a k) := by
        rw [List.map_map]
        exact List.map_congr_left (fun c hc => headD_map (phi a k) c 0 0 (hL c hc).1)
      rw [e, hdL, h.hvL, h.hvM]
      refine rise_ext ?_ ?_ (fun x => ?_)
      · exact ((List.pairwise_lt_range).filter _).filter _
      · exact ((List.pairwise_lt_range).filter _).map _ (fun x y hxy => phi_lt.2 hxy)
      · rw [List.mem_filter, List.mem_filter, List.mem_range, List.mem_map]
        constructor
        · rintro ⟨⟨h1, h2⟩, h3⟩
          obtain ⟨z, hz, rfl⟩ := phi_of (a := a) (k := k) (n := n) (q := x) h1 (by unfold outB at h3; simpa using h3) (by omega)
          exact ⟨z, List.mem_filter.2 ⟨List.mem_range.2 hz, by rw [← h.frst hz]; exact h2⟩, rfl⟩
        · rintro ⟨z, hz, rfl⟩
          have := List.mem_filter.1 hz
          have hzn := List.mem_range.1 this.1
          exact ⟨⟨h.phin.2 hzn, by rw [h.frst hzn]; exact this.2⟩, outB_phi⟩
    · intro x hx y hy e
      have hxM := (List.mem_filter.1 hx).1
      obtain ⟨c, hc, rfl⟩ := List.mem_map.1 hy
      exact chain_one (N := NpB (KP vM) vM cM mM) (fun p q q' => NpB_fun) (hM x hxM).2.1 (chM c hc) (hM x hxM).1 (by simpa using (hL c hc).1) e (fun u q hu => (hM x hxM).2.2.1 u q hu) (mxL c hc)
  · refine h.seq para (hL c hc).1 (fun p hp => (kL c hc p hp).1) ?_ ?_
    · intro e
      have hm : (c.headD 0) ∈ (List.range vL.length).filter (frstP (KP vL) vL cL mL) := by rw [← hdL]; exact List.mem_map_of_mem hc
      have hf := (List.mem_filter.1 hm).2
      rw [e, frst_iff] at hf
      have := hf.2 a (by rw [h.hvL]; omega) h.lv0
      rw [h.npA, decide_eq_true rfl] at this
      cases this
    · intro e
      obtain ⟨u, q, rfl⟩ := snoc_of (hL c hc).1
      rw [getLastD_snoc] at e
      subst e
      have := (hL _ hc).2.2.1 u q rfl (q + 1)
      rw [h.npA, decide_eq_true rfl] at this
      cases this
  · have := chn_all (N := NpB (KP vM) vM cM mM) (P := fun p => (a < p ∧ p < a + 1 + k) ∧ (0 ≤ vM.getD p 0)) (fun p q hp hn => ⟨h.npI hp.1.1 hp.1.2 hp.2 hn, (NpB_in hn).2⟩) (hM c hc).2.1 (fun hne => ?_)
    · intro p hp
      have := (this p hp).1
      unfold outB
      simp
      omega
    · have hmem : c.headD 0 ∈ c := by cases c with | nil => exact absurd rfl hne | cons x r => simp
      unfold outB at ho
      simp only [Bool.or_eq_false_iff, decide_eq_false_iff_not] at ho
      exact ⟨by omega, (kM c hc _ hmem).2⟩
end
section
variable {A I B : List Int} {c0 para : Int}
theorem mrg_of (h : IsoP A I B c0 para) : MrgC A.length I.length (A.length + 2 + B.length) (exLv para (isL A B c0)) (exLv para (isM A I B c0)) (isL A B c0) (isM A I B c0) (matchW (isL A B c0)) (matchW (isM A I B c0)) := by
  have hn : (isL A B c0).length = A.length + 2 + B.length := isL_len
  have hm : (isM A I B c0).length = A.length + 2 + B.length + I.length := by rw [isM_len]; omega
  obtain ⟨t, r, hs, ht, _⟩ := (st0_W h).top
  have h0 := is_lev0 h hs
  have hpm : ∀ p, p < (isL A B c0).length → phi A.length I.length p < (isM A I B c0).length := by intro p hp; rw [hm]; rw [hn] at hp; unfold phi; split <;> omega
  refine ⟨by rw [exLv_len, hn], hn, by rw [exLv_len, hm], hm, by omega, fun p hp => (is_lev h (by rw [hn]; exact hp)).1, by rw [h0.1]; omega, by rw [h0.1, h0.2], ?_, ?_, ?_, ?_, ?_, ?_, ?_, match_ok _, match_ok _⟩
  · intro q h1 h2
    obtain ⟨i, rfl⟩ : ∃ i, q = A.length + 1 + i := ⟨q - (A.length + 1), by omega⟩
    exact is_in h (by omega)
  · intro p hp
    rw [rd_nat, rd_nat, is_get (by rw [hn]; exact hp)]
  · rw [rd_nat, isL_get0]; exact h.op
  · intro p hp ho
    rw [rd_nat] at ho
    have hp' : p < (isL A B c0).length := by rw [hn]; exact hp
    have e1 := match_op _ p hp' ho
    have e2 := match_op (isM A I B c0) (phi A.length I.length p) (hpm p hp') (by rw [is_get hp']; exact ho)
    refine ⟨_, by rw [rd_nat]; exact e1, by omega, ?_, by rw [rd_nat, e2, is_end h.toIsoC hp' ho]⟩
    have := endGo_le ((isL A B c0).drop (p + 1)) 0
    rw [List.length_drop, hn] at this
    omega
  · intro p hp ho
    rw [rd_nat] at ho
    have hp' : p < (isL A B c0).length := by rw [hn]; exact hp
    have e1 := match_no _ p hp' ho
    have e2 := match_no (isM A I B c0) (phi A.length I.length p) (hpm p hp') (by rw [is_get hp']; exact ho)
    rw [hn] at e1
    rw [hm] at e2
    rw [rd_nat, rd_nat]
    exact ⟨e1, e2⟩
  · rw [rd_nat, match_op _ A.length (by omega) (by rw [isL_get0]; exact h.op), isL_at, endGo_p0]
  · intro q h1 h2 ho
    obtain ⟨i, rfl⟩ : ∃ i, q = A.length + 1 + i := ⟨q - (A.length + 1), by omega⟩
    have hi : i < I.length := by omega
    rw [rd_nat] at ho
    refine ⟨_, by rw [rd_nat]; exact match_op _ _ (by omega) ho, by omega, ?_⟩
    rw [isM_getI hi] at ho
    have ed : (isM A I B c0).drop (A.length + 1 + i + 1) = I.drop (i + 1) ++ 22 :: B := by
      rw [show A.length + 1 + i + 1 = A.length + 1 + (i + 1) by omega, ← List.drop_drop, isM_at, drop_app_of (by omega)]
    rw [ed, endGo_app]
    have hI : dpt I 0 = some 0 := h.cl
    obtain ⟨d, hd⟩ := dpt_take hI i
    have e1 : dpt (I.take (i + 1)) 0 = some (d + 1) := by
      have e3 : I.take (i + 1) = I.take i ++ [I.getD i 0] := by
        rw [List.take_succ_eq_append_getElem hi, List.getD_eq_getElem?_getD, List.getElem?_eq_getElem hi]; rfl
      rw [e3, dpt_app, hd]
      show dpt [I.getD i 0] d = _
      rw [dpt_c, if_neg (opn ho), if_pos ho]
      rfl
    have e2 : dpt (I.drop (i + 1)) (d + 1) = some 0 := by
      have := dpt_app (I.take (i + 1)) (I.drop (i + 1)) 0
      rw [List.take_append_drop, hI, e1] at this
      exact this.symm
    cases hd0 : dpt (I.drop (i + 1)) 0 with
    | none =>
      have := dpt_none _ _ hd0
      have hl : (I.drop (i + 1)).length = I.length - (i + 1) := List.length_drop
      show A.length + 1 + i + 1 + endGo (I.drop (i + 1)) 0 < A.length + 1 + I.length
      omega
    | some b =>
      have := dpt_up _ 0 b (d + 1) hd0
      rw [Nat.zero_add, e2] at this
      injection this with this
      omega
end
end Go.Proofs.YtdpifkhkemeclaaGreat
namespace Go.Proofs.YtdpifkhkemeclaaGreat
open Go.RowKit Go.Proofs.YtdpifkhkemeclaaGreatW.PrintWords Go.Proofs.YtdpifkhkemeclaaGreat.PZ
theorem wI1 {x : Int} (h0 : -9223372036854775808 ≤ x) (h1 : x ≤ 9223372036854775807) : wrap64 x = x := by unfold wrap64; omega
theorem wS1 (i : Nat) (h : i ≤ 1048577) : wrap64 ((i : Int) + 1) = ((i + 1 : Nat) : Int) := by rw [wI1 (by omega) (by omega)]; rfl
theorem braW_len (types codes ow : List Int) (level sos : Int) : (braW types codes ow level sos).length = types.length := by
  unfold braW
  generalize pairsW types codes = ps
  generalize (if Go.bits .and .i64 level 1 = 1 then (1 : Int) else 0) = wy
  induction ps generalizing types with
  | nil => rfl
  | cons p ps ih => rw [List.foldl_cons, ih, braS_len]
theorem settle_len (l : List Int) (a b c : Int) : (Nt.settle l a b c).length = l.length := by
  unfold Nt.settle
  rw [Nt.fillIn_length, Nt.stt_length]
theorem cls_all (l : List S38) (hl : l.length ≤ 100000) (K : Nat) (hK : l.length + 1 ≤ K) : class_All.f K l = some (l.map clsR) := by
  have main : ∀ (m i k : Nat), l.length - i = m → i ≤ l.length → m + 1 ≤ k → class_All.l0 k ((l.map clsR).take i) l (l.length : Int) (i : Int) = some (l.map clsR) := by
    intro m
    induction m with
    | zero =>
      intro i k hm hi hk
      obtain ⟨k, rfl⟩ : ∃ k', k = k' + 1 := ⟨k - 1, by omega⟩
      simp only [class_All.l0]
      rw [if_neg (by omega), List.take_of_length_le (by simp; omega)]
    | succ m ih =>
      intro i k hm hi hk
      obtain ⟨k, rfl⟩ : ∃ k', k = k' + 1 := ⟨k - 1, by omega⟩
      have hil : i < l.length := by omega
      have := ih (i + 1) k (by omega) (by omega) (by omega)
      simp only [class_All.l0]
      rw [if_pos (by omega), if_pos (by omega), if_pos (by omega), clsR_some, Option.bind_some, if_pos (by simp; omega), wS1 i (by omega)]
      have e : rd_T38 l (i : Int) = l[i] := by simp [rd_T38, List.getD_eq_getElem?_getD, hil]
      rw [e, ← List.getElem_map (f := clsR) (h := by simpa using hil), ← List.take_succ_eq_append_getElem]
      exact this
  have := main l.length 0 K rfl (Nat.zero_le _) hK
  simpa [class_All.f] using this
theorem part_of (ks : List Nat) (l : List Int) (a b c : Int) (hl : l.length ≤ 100000) (hk : ks.length ≤ 100000) (hks : ∀ i ∈ ks, i < l.length) (K : Nat) (hK : ks.length + 1 ≤ K) :
    bidi_part_of.f K a b c (ks.map fun i : Nat => (i : Int)) l = some (ks.map fun i => l.getD i 0) := by
  have main : ∀ (m i k : Nat), ks.length - i = m → i ≤ ks.length → m + 1 ≤ k → bidi_part_of.l0 k l ((ks.map fun i => l.getD i 0).take i) (ks.map fun i : Nat => (i : Int)) (ks.length : Int) (i : Int) = some (ks.map fun i => l.getD i 0) := by
    intro m
    induction m with
    | zero =>
      intro i k hm hi hk
      obtain ⟨k, rfl⟩ : ∃ k', k = k' + 1 := ⟨k - 1, by omega⟩
      simp only [bidi_part_of.l0]
      rw [if_neg (by omega), List.take_of_length_le (by simp; omega)]
    | succ m ih =>
      intro i k hm hi hk
      obtain ⟨k, rfl⟩ : ∃ k', k = k' + 1 := ⟨k - 1, by omega⟩
      have hil : i < ks.length := by omega
      have := ih (i + 1) k (by omega) (by omega) (by omega)
      have e : rd (ks.map fun i : Nat => (i : Int)) (i : Int) = (ks[i] : Int) := by simp [rd, List.getD_eq_getElem?_getD, hil]
      have hb := hks ks[i] (List.getElem_mem hil)
      have e2 : rd l (ks[i] : Int) = (ks.map fun i => l.getD i 0)[i]'(by simpa using hil) := by simp [rd]
      simp only [bidi_part_of.l0]
      rw [e, if_pos (by omega), if_pos (by omega), if_pos (by simp; omega), if_pos (by omega), if_pos (by omega), if_pos (by simp; omega), wS1 i (by omega), e2, ← List.take_succ_eq_append_getElem]
      exact this
  have := main ks.length 0 K rfl (Nat.zero_le _) hK
  simpa [bidi_part_of.f] using this
def riseW (c lv : Int) : Int := (neutral_rises.f 4 c lv).getD 0
theorem rises_in (odd : Bool) (c : Int) : (∀ k, ∃ r, neutral_rises.j0 (k + 3) c odd (!odd) = some r ∧ 0 ≤ r ∧ r ≤ 2) ∧ ∀ k, ∃ r, neutral_rises.j0 (k + 3) c odd false = some r ∧ 0 ≤ r ∧ r ≤ 2 := by
  have j2 : ∀ k b, ∃ r, neutral_rises.j2 (k + 1) odd b = some r ∧ 0 ≤ r ∧ r ≤ 2 := by
    intro k b
    simp only [neutral_rises.j2]
    split
    · exact ⟨0, rfl, by omega, by omega⟩
    · split
      · exact ⟨1, rfl, by omega, by omega⟩
      · exact ⟨2, rfl, by omega, by omega⟩
  have j1 : ∀ k b, ∃ r, neutral_rises.j1 (k + 2) c odd b = some r ∧ 0 ≤ r ∧ r ≤ 2 := by
    intro k b
    simp only [neutral_rises.j1]
    split
    · exact ⟨1, rfl, by omega, by omega⟩
    · split
      · exact j2 k _
      · exact j2 k _
  have j0 : ∀ k b, ∃ r, neutral_rises.j0 (k + 3) c odd b = some r ∧ 0 ≤ r ∧ r ≤ 2 := by
    intro k b
    simp only [neutral_rises.j0]
    split
    · exact j1 k _
    · split
      · exact j1 k _
      · exact j1 k _
  exact ⟨fun k => j0 k _, fun k => j0 k _⟩
theorem rises_ok (c lv : Int) (k : Nat) : ∃ r, neutral_rises.f (k + 3) c lv = some r ∧ 0 ≤ r ∧ r ≤ 2 := by
  unfold neutral_rises.f
  split
  · exact (rises_in _ c).1 k
  · exact (rises_in _ c).2 k
theorem rises_at (c lv : Int) : ∀ k, neutral_rises.f (k + 4) c lv = some (riseW c lv)
  | 0 => by
    obtain ⟨r, h, _⟩ := rises_ok c lv 1
    unfold riseW
    show neutral_rises.f 4 c lv = _
    have h' : neutral_rises.f 4 c lv = some r := h
    rw [h']
    rfl
  | k + 1 => neutral_rises.mono _ _ _ _ (rises_at c lv k)
theorem rise_in (c lv : Int) : 0 ≤ riseW c lv ∧ riseW c lv ≤ 2 := by
  obtain ⟨r, h, h1⟩ := rises_ok c lv 1
  have := rises_at c lv 0
  have h' : neutral_rises.f 4 c lv = some r := h
  have e : some (riseW c lv) = some r := this.symm.trans h'
  injection e with e
  rw [e]
  exact h1
theorem levels_ok (l : List Int) (lv : Int) (hv : 0 ≤ lv ∧ lv ≤ 1000) (hl : l.length ≤ 100000) (K : Nat) (hK : l.length + 10 ≤ K) : neutral_Levels.f K l lv = some (l.map fun c => lv + riseW c lv) := by
  have main : ∀ (m i k : Nat), l.length - i = m → i ≤ l.length → m + 9 ≤ k → neutral_Levels.l0 k lv (((l.map fun c => lv + riseW c lv).take i) ++ List.replicate (l.length - i) 0) l (l.length : Int) (i : Int) = some (l.map fun c => lv + riseW c lv) := by
    intro m
    induction m with
    | zero =>
      intro i k hm hi hk
      obtain ⟨k, rfl⟩ : ∃ k', k = k' + 1 := ⟨k - 1, by omega⟩
      simp only [neutral_Levels.l0]
      rw [if_neg (by omega), List.take_of_length_le (by simp; omega), hm]
      simp
    | succ m ih =>
      intro i k hm hi hk
      obtain ⟨k, rfl⟩ : ∃ k', k = k' + 5 := ⟨k - 5, by omega⟩
      have hil : i < l.length := by omega
      have e : rd l (i : Int) = l[i] := by simp [rd, List.getD_eq_getElem?_getD, hil]
      have := ih (i + 1) (k + 4) (by omega) (by omega) (by omega)
      have hr := rise_in l[i] lv
      have htl : ((l.map fun c => lv + riseW c lv).take i).length = i := by rw [List.length_take, List.length_map]; omega
      rw [show k + 5 = (k + 4) + 1 by rfl]
      simp only [neutral_Levels.l0]
      rw [if_pos (by omega), if_pos (by omega), if_pos (by omega), e, rises_at, Option.bind_some, if_pos (by rw [List.length_append, htl, List.length_replicate]; omega), wS1 i (by omega), wI1 (by omega) (by omega)]
      have e2 : (((l.map fun c => lv + riseW c lv).take i) ++ List.replicate (l.length - i) 0).set ((i : Int)).toNat (lv + riseW l[i] lv) = ((l.map fun c => lv + riseW c lv).take (i + 1)) ++ List.replicate (l.length - (i + 1)) 0 := by
        rw [Int.toNat_natCast, List.set_append_right _ _ (by omega), htl, Nat.sub_self, List.take_succ_eq_append_getElem (by simpa using hil), List.getElem_map, List.append_assoc]
        congr 1
        rw [show l.length - i = (l.length - (i + 1)) + 1 by omega, List.replicate_succ]
        rfl
      rw [e2]
      exact this
  unfold neutral_Levels.f
  rw [if_pos (by omega), Int.toNat_natCast, if_pos (by omega)]
  have := main l.length 0 K rfl (Nat.zero_le _) (by omega)
  simpa using this
def plW (lv sos eos : Int) (tl co ow : List Int) : List Int := (Nt.settle (braW (Wk.weakW tl sos) co ow lv sos) lv sos eos).map fun c => lv + riseW c lv
theorem plW_len (lv sos eos : Int) (tl co ow : List Int) : (plW lv sos eos tl co ow).length = tl.length := by
  unfold plW
  rw [List.length_map, settle_len, braW_len, Wk.weak_len]
theorem plW_in {lv sos eos : Int} {tl co ow : List Int} (h : 0 ≤ lv) : ∀ c ∈ plW lv sos eos tl co ow, 0 ≤ c := by
  intro c hc
  obtain ⟨d, _, rfl⟩ := List.mem_map.1 hc
  have := rise_in d lv
  omega
theorem pl_ok (ks : List Nat) (codes own told : List Int) (lv sos eos : Int) (hv : 0 ≤ lv ∧ lv ≤ 1000) (h1 : own.length = codes.length) (h2 : told.length = codes.length) (hl : codes.length ≤ 100000) (hk : ks.length ≤ 100000) (hks : ∀ i ∈ ks, i < codes.length) (K : Nat) (hK : ks.length + 10 ≤ K) :
    bidi_part_levels.f K lv sos eos (ks.map fun i : Nat => (i : Int)) codes own told = some (plW lv sos eos (ks.map fun i => told.getD i 0) (ks.map fun i => codes.getD i 0) (ks.map fun i => own.getD i 0)) := by
  unfold bidi_part_levels.f
  rw [part_of ks told _ _ _ (by omega) hk (fun i hi => by rw [h2]; exact hks i hi) K (by omega), Option.bind_some]
  have hwl := Wk.weak_len (ks.map fun i => told.getD i 0) sos
  rw [List.length_map] at hwl
  unfold weak_Weak.f
  rw [if_pos (by rw [List.length_map]; omega), Option.bind_some, part_of ks codes _ _ _ hl hk hks K (by omega), Option.bind_some, part_of ks own _ _ _ (by omega) hk (fun i hi => by rw [h1]; exact hks i hi) K (by omega), Option.bind_some]
  unfold pairs_Brackets.f
  rw [if_pos ⟨by rw [hwl, List.length_map], by rw [List.length_map, List.length_map]⟩, if_pos (by omega), Option.bind_some]
  unfold neutral_Settle.f
  rw [if_pos (by rw [braW_len, hwl]; omega), Option.bind_some, levels_ok _ _ hv (by rw [settle_len, braW_len, hwl]; omega) _ (by rw [settle_len, braW_len, hwl]; omega), Option.bind_some]
  rfl
end Go.Proofs.YtdpifkhkemeclaaGreat
namespace Go.Proofs.YtdpifkhkemeclaaGreat
open Go.RowKit Go.Proofs.YtdpifkhkemeclaaGreatW.PrintWords Go.Proofs.YtdpifkhkemeclaaGreat.PZ
def Agr (a k n : Nat) (x y : List Int) : Prop := x.length = n ∧ y.length = n + k ∧ ∀ p, p < n → y.getD (phi a k p) 0 = x.getD p 0
theorem getD_set (l : List Int) (i j : Nat) (x : Int) : (l.set i x).getD j 0 = if i = j ∧ j < l.length then x else l.getD j 0 := by
  rw [List.getD_eq_getElem?_getD, List.getElem?_set, List.getD_eq_getElem?_getD]
  by_cases e : i = j
  · subst e
    by_cases h : i < l.length
    · rw [if_pos rfl, if_pos h, if_pos ⟨rfl, h⟩]; rfl
    · rw [if_pos rfl, if_neg h, if_neg (fun h2 => h h2.2), List.getElem?_eq_none (by omega)]
  · rw [if_neg e, if_neg (fun h2 => e h2.1)]
theorem Agr.set {a k n : Nat} {x y : List Int} (h : Agr a k n x y) (hn : a < n) {p : Nat} (hp : p < n) (c : Int) : Agr a k n (x.set p c) (y.set (phi a k p) c) := by
  obtain ⟨h1, h2, h3⟩ := h
  refine ⟨by rw [List.length_set, h1], by rw [List.length_set, h2], fun q hq => ?_⟩
  have hb : ∀ q, q < n → phi a k q < n + k := fun q hq => by unfold phi; split <;> omega
  rw [getD_set, getD_set, h3 q hq, h1, h2]
  by_cases e : p = q
  · subst e; rw [if_pos ⟨rfl, hb p hp⟩, if_pos ⟨rfl, hp⟩]
  · rw [if_neg (fun h => e (phi_inj h.1)), if_neg (fun h => e h.1)]
theorem Agr.put {a k n : Nat} (hn : a < n) : ∀ (ks : List Nat) (xs : List Int) {x y : List Int}, Agr a k n x y → (∀ p ∈ ks, p < n) → Agr a k n (putAt x ks xs) (putAt y (ks.map (phi a k)) xs)
  | [], _, x, y, h, _ => by simpa [putAt] using h
  | p :: ks, [], x, y, h, _ => by simpa [putAt] using h
  | p :: ks, c :: xs, x, y, h, hk => by
    simp only [List.map_cons, putAt]
    exact Agr.put hn ks xs (h.set hn (hk p (by simp)) c) (fun q hq => hk q (by simp [hq]))
theorem Agr.putIn {a k n : Nat} (hn : a < n) : ∀ (ks : List Nat) (xs : List Int) {x y : List Int}, Agr a k n x y → (∀ p ∈ ks, outB a k p = false) → Agr a k n x (putAt y ks xs)
  | [], _, x, y, h, _ => by simpa [putAt] using h
  | p :: ks, [], x, y, h, _ => by simpa [putAt] using h
  | p :: ks, c :: xs, x, y, h, hk => by
    simp only [putAt]
    refine Agr.putIn hn ks xs ⟨h.1, by rw [List.length_set]; exact h.2.1, fun q hq => ?_⟩ (fun q hq => hk q (by simp [hq]))
    rw [getD_set, if_neg, h.2.2 q hq]
    rintro ⟨e, _⟩
    have := hk p (by simp)
    rw [e, outB_phi] at this
    cases this
theorem put_nn (j : Nat) : ∀ (ks : List Nat) (xs x : List Int), (∀ c ∈ xs, 0 ≤ c) → 0 ≤ x.getD j 0 → 0 ≤ (putAt x ks xs).getD j 0
  | [], _, x, _, h => by simpa [putAt] using h
  | p :: ks, [], x, _, h => by simpa [putAt] using h
  | p :: ks, c :: xs, x, hx, h => by
    simp only [putAt]
    refine put_nn j ks xs _ (fun d hd => hx d (by simp [hd])) ?_
    rw [getD_set]
    split
    · exact hx c (by simp)
    · exact h
theorem map_agr {a k n : Nat} {x y : List Int} (h : Agr a k n x y) {c : List Nat} (hc : ∀ p ∈ c, p < n) : (c.map (phi a k)).map (fun i => y.getD i 0) = c.map fun i => x.getD i 0 := by
  rw [List.map_map]
  exact List.map_congr_left (fun p hp => h.2.2 p (hc p hp))
theorem toNat_map (c : List Nat) : (c.map fun p : Nat => (p : Int)).map Int.toNat = c := by
  rw [List.map_map]
  have e : (Int.toNat ∘ fun p : Nat => (p : Int)) = id := by funext p; simp
  rw [e, List.map_id]
structure PlcS (m : Nat) (s : SeqR) (c : List Nat) : Prop where
  at_ : s.at_ = c.map fun p : Nat => (p : Int)
  lt : ∀ p ∈ c, p < m
  lv : 0 ≤ s.lv ∧ s.lv ≤ 1000
  len : c.length ≤ m
theorem res_one {m K : Nat} {codes own told : List Int} (hm : m ≤ 1000) (hK : m + 20 ≤ K) (h1 : codes.length = m) (h2 : own.length = m) (h3 : told.length = m) {s : SeqR} {c : List Nat} (h : PlcS m s c) {X : List Int} (hX : X.length = m) (r : List SeqR) :
    resRow K codes own told (s :: r) X = resRow K codes own told r (putAt X c (plW s.lv s.sos s.eos (c.map fun i => told.getD i 0) (c.map fun i => codes.getD i 0) (c.map fun i => own.getD i 0))) := by
  have hl := h.len
  have hc : (plW s.lv s.sos s.eos (c.map fun i => told.getD i 0) (c.map fun i => codes.getD i 0) (c.map fun i => own.getD i 0)).length = (c.map fun p : Nat => (p : Int)).length ∧ (∀ a ∈ c.map fun p : Nat => (p : Int), 0 ≤ a ∧ a < (X.length : Int)) := by
    refine ⟨by rw [plW_len, List.length_map, List.length_map], fun q hq => ?_⟩
    obtain ⟨p, hp, rfl⟩ := List.mem_map.1 hq
    have := h.lt p hp
    omega
  rw [resRow, h.at_, pl_ok c codes own told s.lv s.sos s.eos h.lv (by omega) (by omega) (by omega) (by omega) (fun i hi => by rw [h1]; exact h.lt i hi) K (by omega), Option.bind_some, if_pos hc, toNat_map]
theorem res_fold {a k n KL KM : Nat} {coL owL tdL coM owM tdM : List Int} (hm : n + k ≤ 1000) (ha : a + 1 < n) (hKL : n + 20 ≤ KL) (hKM : n + k + 20 ≤ KM) (h1 : Agr a k n coL coM) (h2 : Agr a k n owL owM) (h3 : Agr a k n tdL tdM) (sL sM : List Nat → SeqR) :
    ∀ (psM psL : List (List Nat)) (XL XM : List Int), psM.filter (fun c => outB a k (c.headD 0)) = psL.map (List.map (phi a k)) →
      (∀ c ∈ psL, PlcS n (sL c) c ∧ sM (c.map (phi a k)) = { sL c with at_ := (c.map (phi a k)).map fun p : Nat => (p : Int) }) →
      (∀ c ∈ psM, PlcS (n + k) (sM c) c ∧ (outB a k (c.headD 0) = false → ∀ p ∈ c, outB a k p = false)) → Agr a k n XL XM → 0 ≤ XL.getD (a + 1) 0 →
      ∃ YL YM, resRow KL coL owL tdL (psL.map sL) XL = some YL ∧ resRow KM coM owM tdM (psM.map sM) XM = some YM ∧ Agr a k n YL YM ∧ 0 ≤ YL.getD (a + 1) 0
  | [], [], XL, XM, _, _, _, hX, h0 => ⟨XL, XM, rfl, rfl, hX, h0⟩
  | [], _ :: _, _, _, h, _, _, _, _ => by simp at h
  | c :: psM, psL, XL, XM, h, hL, hM, hX, h0 => by
    have hc := hM c (by simp)
    rw [List.map_cons, res_one (m := n + k) hm hKM h1.2.1 h2.2.1 h3.2.1 hc.1 hX.2.1]
    cases ho : outB a k (c.headD 0) with
    | false =>
      rw [List.filter_cons_of_neg (by rw [ho]; decide)] at h
      exact res_fold hm ha hKL hKM h1 h2 h3 sL sM psM psL XL _ h hL (fun d hd => hM d (by simp [hd])) (hX.putIn (by omega) _ _ (hc.2 ho)) h0
    | true =>
      rw [List.filter_cons_of_pos (by rw [ho])] at h
      cases psL with
      | nil => simp at h
      | cons d psL =>
        rw [List.map_cons] at h
        injection h with e h
        subst e
        have hd := hL d (by simp)
        rw [List.map_cons, res_one (m := n) (by omega) hKL h1.1 h2.1 h3.1 hd.1 hX.1]
        rw [hd.2, map_agr h1 hd.1.lt, map_agr h2 hd.1.lt, map_agr h3 hd.1.lt]
        exact res_fold hm ha hKL hKM h1 h2 h3 sL sM psM psL _ _ h (fun d hd => hL d (by simp [hd])) (fun d hd => hM d (by simp [hd])) (hX.put (by omega) _ _ hd.1.lt) (put_nn _ _ _ _ (plW_in hd.1.lv.1) h0)
theorem lastP_s (para : Int) (X : List Int) (i : Nat) : lastP para X (i + 1) = if X.getD i 0 < 0 then lastP para X i else X.getD i 0 := rfl
theorem fill_agr {a k n : Nat} {para : Int} {XL XM : List Int} (ha : a + 1 < n) (h : Agr a k n XL XM) (h0 : 0 ≤ XL.getD (a + 1) 0) : ∀ p, p < n → lastP para XM (phi a k p + 1) = lastP para XL (p + 1)
  | 0, hp => by
    have := h.2.2 0 hp
    rw [phi_le (Nat.zero_le _)] at this ⊢
    unfold lastP
    rw [this]
    rfl
  | p + 1, hp => by
    have e := h.2.2 (p + 1) hp
    have ih := fill_agr ha h h0 p (by omega) (para := para)
    rcases Nat.lt_trichotomy p a with h1 | h1 | h1
    · rw [phi_le (by omega)] at e ⊢
      rw [phi_le (by omega)] at ih
      rw [lastP_s para XM (p + 1), lastP_s para XL (p + 1), e, ih]
    · subst h1
      rw [lastP_s para XM (phi p k (p + 1)), lastP_s para XL (p + 1), e, if_neg (by omega), if_neg (by omega)]
    · rw [phi_gt (by omega)] at e ⊢ ih
      rw [show p + 1 + k = p + k + 1 by omega] at e ⊢
      rw [lastP_s para XM (p + k + 1), lastP_s para XL (p + 1), e, ih]
theorem fillP_at (para : Int) (X : List Int) (i : Nat) (h : i < X.length) : (fillP para X).getD i 0 = lastP para X (i + 1) := by
  unfold fillP
  rw [List.getD_eq_getElem?_getD, List.getElem?_map, List.getElem?_range h]
  rfl
theorem fill_agr' {a k n : Nat} {para : Int} {XL XM : List Int} (ha : a + 1 < n) (h : Agr a k n XL XM) (h0 : 0 ≤ XL.getD (a + 1) 0) : Agr a k n (fillP para XL) (fillP para XM) := by
  refine ⟨by rw [fillP_length, h.1], by rw [fillP_length, h.2.1], fun p hp => ?_⟩
  rw [fillP_at _ _ _ (by rw [h.2.1]; unfold phi; split <;> omega), fillP_at _ _ _ (by rw [h.1]; exact hp), fill_agr ha h h0 p hp]
theorem ins_at {α : Type} (A I T : List α) (c : α) (p : Nat) : (A ++ c :: (I ++ T))[phi A.length I.length p]? = (A ++ c :: T)[p]? := by
  by_cases h : p ≤ A.length
  · rw [phi_le h]
    rcases Nat.lt_or_eq_of_le h with h | h
    · rw [List.getElem?_append_left h, List.getElem?_append_left h]
    · rw [List.getElem?_append_right (by omega), List.getElem?_append_right (by omega), h, Nat.sub_self]; rfl
  · rw [phi_gt (by omega), List.getElem?_append_right (by omega), List.getElem?_append_right (by omega), show p + I.length - A.length = (I.length + (p - A.length - 1)) + 1 by omega, List.getElem?_cons_succ, List.getElem?_append_right (by omega), Nat.add_sub_cancel_left]
    obtain ⟨j, hj⟩ : ∃ j, p - A.length = j + 1 := ⟨p - A.length - 1, by omega⟩
    rw [hj, List.getElem?_cons_succ, Nat.add_sub_cancel]
theorem chn_rise {N : Nat → Nat → Bool} {m : Nat} (hN : ∀ p q, p < m → N p q = true → p < q) : ∀ {c : List Nat}, (∀ p ∈ c, p < m) → Chn N c → ∀ s, (c ≠ [] → s ≤ c.headD 0) → c.length ≤ m - s
  | [], _, _, s, _ => Nat.zero_le _
  | [x], h, _, s, hs => by have := h x (by simp); have : s ≤ x := hs (by simp); simp; omega
  | x :: y :: r, h, hc, s, hs => by
    have hx := h x (by simp)
    have hsx : s ≤ x := hs (by simp)
    have hxy := hN x y hx hc.1
    have := chn_rise hN (c := y :: r) (fun p hp => h p (List.mem_cons_of_mem _ hp)) hc.2 (s + 1) (fun _ => by show s + 1 ≤ y; omega)
    simp only [List.length_cons] at this ⊢
    omega
theorem np_rise {v c m : List Int} (hv : v.length = c.length) (hM : MatC c m) (p q : Nat) (hp : p < v.length) (h : NpB (KP v) v c m p q = true) : p < q := by
  have hj : jmpB (KP v) c m p q = true → p < q := by
    intro hj
    unfold jmpB at hj
    simp only [Bool.and_eq_true, decide_eq_true_eq] at hj
    obtain ⟨x, h1, h2, h3⟩ := hM.up p (by omega) hj.1.1
    have := h1.symm.trans hj.1.2
    omega
  unfold NpB at h
  split at h
  · rename_i y hy
    split at h
    · rw [decide_eq_true_eq] at h
      have := nk_some hy
      omega
    · exact hj h
  · exact hj h
theorem seqP_lv {v c m : List Int} {para : Int} {x : List Nat} : (seqP (KP v) v c m para x).lv = v.getD (x.headD 0) 0 := rfl
theorem lvB {para : Int} {l : List Int} (hp : para = 0 ∨ para = 1) (i : Nat) : (exLv para l).getD i 0 ≤ 1000 := by
  by_cases h : i < (exLv para l).length
  · have := exTo_bd para l hp l.length _ (mem_getD (exLv para l) 0 i h)
    omega
  · rw [List.getD_eq_getElem?_getD, List.getElem?_eq_none (by omega)]; exact (by decide)
theorem head_in {c : List Nat} (h : c ≠ []) : c.headD 0 ∈ c := by cases c with | nil => exact absurd rfl h | cons x r => simp
theorem plcS_of {para : Int} {l : List Int} (hp : para = 0 ∨ para = 1) {m : Nat} (hm : l.length = m) {c : List Nat} (hne : c ≠ []) (hc : ∀ p ∈ c, p < m ∧ 0 ≤ (exLv para l).getD p 0) (hch : Chn (NpB (KP (exLv para l)) (exLv para l) l (matchW l)) c) : PlcS m (seqP (KP (exLv para l)) (exLv para l) l (matchW l) para c) c := by
  refine ⟨rfl, fun p hpc => (hc p hpc).1, ?_, ?_⟩
  · rw [seqP_lv]
    exact ⟨(hc _ (head_in hne)).2, lvB hp _⟩
  · have := chn_rise (m := m) (fun p q hpm h => np_rise (by rw [exLv_len]) (match_ok l) p q (by rw [exLv_len, hm]; exact hpm) h) (fun p hpc => (hc p hpc).1) hch 0 (fun _ => Nat.zero_le _)
    exact this
end Go.Proofs.YtdpifkhkemeclaaGreat
namespace Go.Proofs.YtdpifkhkemeclaaGreat
open Go.RowKit Go.Proofs.YtdpifkhkemeclaaGreatW.PrintWords Go.Proofs.YtdpifkhkemeclaaGreat.PZ
theorem is_tl {A I B : List Int} {c0 para : Int} (h : IsoP A I B c0 para) : Agr A.length I.length (A.length + 2 + B.length) (exTd para (isL A B c0)) (exTd para (isM A I B c0)) :=
  ⟨by rw [exTd_len, isL_len], by rw [exTd_len, isM_len]; omega, fun p hp => (is_lev h (by rw [isL_len]; exact hp)).2⟩
theorem is_lv {A I B : List Int} {c0 para : Int} (h : IsoP A I B c0 para) : Agr A.length I.length (A.length + 2 + B.length) (exLv para (isL A B c0)) (exLv para (isM A I B c0)) :=
  ⟨by rw [exLv_len, isL_len], by rw [exLv_len, isM_len]; omega, fun p hp => (is_lev h (by rw [isL_len]; exact hp)).1⟩
theorem ins_agr (A I B : List Int) (c d : Int) : Agr A.length I.length (A.length + 2 + B.length) (A ++ c :: d :: B) (A ++ c :: (I ++ d :: B)) :=
  ⟨by simp; omega, by simp; omega, fun p hp => by rw [List.getD_eq_getElem?_getD, List.getD_eq_getElem?_getD, ins_at A I (d :: B) c p]⟩
theorem iso_resolve (lA lI lB : List S38) (x0 x1 : S38) (para : Int) (h : IsoP (lA.map clsR) (lI.map clsR) (lB.map clsR) (clsR x0) para) (h1 : clsR x1 = 22) (hl : lA.length ≤ 200 ∧ lI.length ≤ 200 ∧ lB.length ≤ 200) :
    ∃ RL RM, bidi_Resolve.f (lA ++ x0 :: x1 :: lB) para = some RL ∧ bidi_Resolve.f (lA ++ x0 :: (lI ++ x1 :: lB)) para = some RM ∧ Agr lA.length lI.length (lA.length + 2 + lB.length) RL RM := by
  have eL : (lA ++ x0 :: x1 :: lB).map clsR = isL (lA.map clsR) (lB.map clsR) (clsR x0) := by simp [isL, h1]
  have eM : (lA ++ x0 :: (lI ++ x1 :: lB)).map clsR = isM (lA.map clsR) (lI.map clsR) (lB.map clsR) (clsR x0) := by simp [isM, h1]
  have nL : (lA ++ x0 :: x1 :: lB).length = lA.length + 2 + lB.length := by simp; omega
  have nM : (lA ++ x0 :: (lI ++ x1 :: lB)).length = lA.length + 2 + lB.length + lI.length := by simp; omega
  have hg := mrg_of h
  have ht := is_tl h
  have hv := is_lv h
  have ho : Agr (lA.map clsR).length (lI.map clsR).length ((lA.map clsR).length + 2 + (lB.map clsR).length) (isL (lA.map clsR) (lB.map clsR) (clsR x0)) (isM (lA.map clsR) (lI.map clsR) (lB.map clsR) (clsR x0)) := ins_agr _ _ _ _ _
  have hc := ins_agr (lA.map fun x => x.f2) (lI.map fun x => x.f2) (lB.map fun x => x.f2) x0.f2 x1.f2
  obtain ⟨psL, psM, e1, e2, e3, e4, e5⟩ := hg.seqs para
  have hlL : (isL (lA.map clsR) (lB.map clsR) (clsR x0)).length = (lA.map clsR).length + 2 + (lB.map clsR).length := isL_len
  have hlM : (isM (lA.map clsR) (lI.map clsR) (lB.map clsR) (clsR x0)).length = (lA.map clsR).length + 2 + (lB.map clsR).length + (lI.map clsR).length := by rw [isM_len]; omega
  have g0 : 0 ≤ (exLv para (isL (lA.map clsR) (lB.map clsR) (clsR x0))).getD ((lA.map clsR).length + 1) 0 := by rw [hg.lv1]; exact hg.lv0
  have pL := fun c hc => plcS_of (l := isL (lA.map clsR) (lB.map clsR) (clsR x0)) h.par hlL (e4 c hc).1 (e4 c hc).2.2.1 (e4 c hc).2.1
  have pM := fun c hc => plcS_of (l := isM (lA.map clsR) (lI.map clsR) (lB.map clsR) (clsR x0)) h.par hlM (e5 c hc).1 (e5 c hc).2.2.1 (e5 c hc).2.1
  have q4 : ∀ c ∈ psL, PlcS _ _ c ∧ _ := fun c hc => ⟨pL c hc, (e4 c hc).2.2.2⟩
  have q5 : ∀ c ∈ psM, PlcS _ _ c ∧ _ := fun c hc => ⟨pM c hc, (e5 c hc).2.2.2⟩
  simp only [List.length_map] at hg ht hv ho hc e3 q4 q5 g0
  have k1 : lA.length + 1 < lA.length + 2 + lB.length := by omega
  obtain ⟨YL, YM, r1, r2, r3, r4⟩ := res_fold (KL := (lA ++ x0 :: x1 :: lB).length + 60) (KM := (lA ++ x0 :: (lI ++ x1 :: lB)).length + 60) (by omega) k1 (by omega) (by omega) hc ho ht
    (seqP (KP (exLv para (isL (lA.map clsR) (lB.map clsR) (clsR x0)))) (exLv para (isL (lA.map clsR) (lB.map clsR) (clsR x0))) (isL (lA.map clsR) (lB.map clsR) (clsR x0)) (matchW (isL (lA.map clsR) (lB.map clsR) (clsR x0))) para)
    (seqP (KP (exLv para (isM (lA.map clsR) (lI.map clsR) (lB.map clsR) (clsR x0)))) (exLv para (isM (lA.map clsR) (lI.map clsR) (lB.map clsR) (clsR x0))) (isM (lA.map clsR) (lI.map clsR) (lB.map clsR) (clsR x0)) (matchW (isM (lA.map clsR) (lI.map clsR) (lB.map clsR) (clsR x0))) para)
    psM psL _ _ e3 q4 q5 hv g0
  refine ⟨fillP para YL, fillP para YM, ?_, ?_, fill_agr' k1 r3 r4⟩
  · unfold bidi_Resolve.f
    rw [cls_all _ (by omega) _ (by omega), Option.bind_some, if_pos ⟨by simp, by omega⟩, if_pos h.par, eL]
    have es : seqsW para (isL (lA.map clsR) (lB.map clsR) (clsR x0)) = psL.map _ := e1
    rw [es]
    have ec : (lA ++ x0 :: x1 :: lB).map (fun x => x.f2) = (lA.map fun x => x.f2) ++ x0.f2 :: x1.f2 :: (lB.map fun x => x.f2) := by simp
    rw [ec, r1]
    rfl
  · unfold bidi_Resolve.f
    rw [cls_all _ (by omega) _ (by omega), Option.bind_some, if_pos ⟨by simp, by omega⟩, if_pos h.par, eM]
    have es : seqsW para (isM (lA.map clsR) (lI.map clsR) (lB.map clsR) (clsR x0)) = psM.map _ := e2
    rw [es]
    have ec : (lA ++ x0 :: (lI ++ x1 :: lB)).map (fun x => x.f2) = (lA.map fun x => x.f2) ++ x0.f2 :: ((lI.map fun x => x.f2) ++ x1.f2 :: (lB.map fun x => x.f2)) := by simp
    rw [ec, r2]
    rfl
end Go.Proofs.YtdpifkhkemeclaaGreat
