/- bidi.Order, in plain words. -/
import Derived.Test.YtdpifkhkemeclaaGreatZo
import Derived.Test.YtdpifkhkemeclaaGreatOrdM
namespace Go.Proofs.YtdpifkhkemeclaaGreat
open Go.RowKit Go.Proofs.YtdpifkhkemeclaaGreatW.PrintWords Go.Proofs.YtdpifkhkemeclaaGreatW.PrintMore
set_option linter.unusedVariables false
set_option linter.unusedSimpArgs false
theorem oW {x : Int} (h0 : -9223372036854775808 ≤ x) (h1 : x ≤ 9223372036854775807) : wrap64 x = x := by unfold wrap64; omega
theorem oS (i : Nat) (h : i ≤ 1048577) : wrap64 ((i : Int) + 1) = ((i + 1 : Nat) : Int) := by rw [oW (by omega) (by omega)]; rfl
theorem oR (l : List Int) (i : Nat) : rd l (i : Int) = l.getD i 0 := by simp [rd]
def castN (xs : List Nat) : List Int := xs.map fun j : Nat => (j : Int)
theorem castN_app (a b : List Nat) : castN (a ++ b) = castN a ++ castN b := by simp [castN]
theorem castN_rev (a : List Nat) : castN a.reverse = (castN a).reverse := by simp [castN]
theorem castN_len (a : List Nat) : (castN a).length = a.length := by simp [castN]

/-- Turned round from both ends, t steps. -/
def revAt (x : List Int) (t : Nat) : List Int := (List.range x.length).map fun p => if p < t ∨ x.length ≤ p + t then x.getD (x.length - 1 - p) 0 else x.getD p 0
theorem revAt_len (x : List Int) (t : Nat) : (revAt x t).length = x.length := by simp [revAt]
theorem revAt_at (x : List Int) (t q : Nat) (h : q < x.length) : (revAt x t).getD q 0 = if q < t ∨ x.length ≤ q + t then x.getD (x.length - 1 - q) 0 else x.getD q 0 := by
  rw [List.getD_eq_getElem?_getD, List.getElem?_eq_getElem (by rw [revAt_len]; exact h)]
  simp [revAt]
theorem revAt_step (x : List Int) (t : Nat) (h : t + t + 1 < x.length) : ((revAt x t).set t ((revAt x t).getD (x.length - 1 - t) 0)).set (x.length - 1 - t) ((revAt x t).getD t 0) = revAt x (t + 1) := by
  rw [revAt_at x t (x.length - 1 - t) (by omega), revAt_at x t t (by omega)]
  apply List.ext_getElem
  · simp [revAt]
  intro p h1 h2
  have hp : p < x.length := by simpa [revAt] using h2
  rw [List.getElem_set, List.getElem_set]
  have e : ∀ u, (revAt x u)[p]'(by rw [revAt_len]; exact hp) = if p < u ∨ x.length ≤ p + u then x.getD (x.length - 1 - p) 0 else x.getD p 0 := fun u => by simp [revAt]
  rw [e, e]
  by_cases c1 : x.length - 1 - t = p
  · rw [if_pos c1, if_neg (by omega), if_pos (by omega)]
    congr 1
    omega
  · rw [if_neg c1]
    by_cases c2 : t = p
    · rw [if_pos c2, if_neg (by omega), if_pos (by omega), c2]
    · rw [if_neg c2]
      by_cases c3 : p < t ∨ x.length ≤ p + t
      · rw [if_pos c3, if_pos (by omega)]
      · rw [if_neg c3, if_neg (by omega)]
theorem revAt_end (x : List Int) (t : Nat) (h : x.length ≤ t + t + 1) : revAt x t = x.reverse := by
  apply List.ext_getElem
  · simp [revAt]
  intro p h1 h2
  have hp : p < x.length := by simpa [revAt] using h1
  have e : (revAt x t)[p] = if p < t ∨ x.length ≤ p + t then x.getD (x.length - 1 - p) 0 else x.getD p 0 := by simp [revAt]
  rw [e, List.getElem_reverse]
  have g : ∀ q, q < x.length → x.getD q 0 = x[q]?.getD 0 := fun q _ => List.getD_eq_getElem?_getD
  by_cases c : p < t ∨ x.length ≤ p + t
  · rw [if_pos c, g _ (by omega), List.getElem?_eq_getElem (by omega)]
    rfl
  · have hq : x.length - 1 - p = p := by omega
    rw [if_neg c, g _ hp, List.getElem?_eq_getElem hp, Option.getD_some]
    congr 1
    omega
theorem revAt_zero (x : List Int) : revAt x 0 = x := by
  apply List.ext_getElem
  · simp [revAt]
  intro p h1 h2
  have e : (revAt x 0)[p] = if p < 0 ∨ x.length ≤ p + 0 then x.getD (x.length - 1 - p) 0 else x.getD p 0 := by simp [revAt]
  rw [e, if_neg (by omega), List.getD_eq_getElem?_getD, List.getElem?_eq_getElem h2, Option.getD_some]
theorem rev_ev (x : List Int) (hx : x.length ≤ 100000) : Ev (fun k => PZ.slices_Reverse_int_int.f k x) x.reverse := by
  have main : ∀ (m t : Nat), x.length - t = m → t + t ≤ x.length + 1 → Ev (fun k => PZ.slices_Reverse_int_int.l0 k (revAt x t) (t : Int) ((x.length : Int) - 1 - t)) x.reverse := by
    intro m
    induction m with
    | zero =>
      intro t hm ht
      refine Ev.step (f := fun _ => some (revAt x t)) (fun k => ?_) ?_
      · simp only [PZ.slices_Reverse_int_int.l0]
        rw [if_neg (by omega)]
      · rw [revAt_end x t (by omega)]; exact Ev.now _
    | succ m ih =>
      intro t hm ht
      by_cases hc : t + t + 1 < x.length
      · refine Ev.step (fun k => ?_) (ih (t + 1) (by omega) (by omega))
        have e1 : ((x.length : Int) - 1 - t) = ((x.length - 1 - t : Nat) : Int) := by omega
        simp only [PZ.slices_Reverse_int_int.l0]
        rw [if_pos (by omega), e1, if_pos (by omega), revAt_len, if_pos (by omega), if_pos (by omega), if_pos (by omega), oS t (by omega), oW (by omega) (by omega), oR, oR, Int.toNat_natCast, Int.toNat_natCast, revAt_step x t hc]
        congr 1
        omega
      · refine Ev.step (f := fun _ => some (revAt x t)) (fun k => ?_) ?_
        · simp only [PZ.slices_Reverse_int_int.l0]
          rw [if_neg (by omega)]
        · rw [revAt_end x t (by omega)]; exact Ev.now _
  have h := main x.length 0 (by omega) (by omega)
  refine Ev.congr (fun k => ?_) h
  unfold PZ.slices_Reverse_int_int.f
  rw [revAt_zero, oW (by omega) (by omega)]
  congr 1
  omega
def lvL (l : List Int) (j : Nat) : Int := l.getD j 0
theorem turn_loop (l : List Int) (hl : l.length ≤ 100000) (a : Int) (ha0 : 0 ≤ a) (ha1 : a ≤ 1000) (F : List Nat → List Nat) (hF0 : F [] = []) (tt : Nat) (hto : tt ≤ l.length)
    (hFl : ∀ ys, (F ys).length = ys.length)
    (hin : ∀ i e, i < e → e ≤ tt → (∀ j, i ≤ j → j < e → lvL l j ≥ a) → Ev (fun k => PZ.bidi_turn.f k l (i : Int) (e : Int) (a + 1)) (castN (F (List.range' i (e - i))))) :
    ∀ (m i : Nat) (out : List Int), tt - i = m → i ≤ tt → out.length ≤ i → Ev (fun k => PZ.bidi_turn.l0 k l (tt : Int) a out (i : Int)) (out ++ castN (stGo (fun x => decide (lvL l x ≥ a)) F [] (List.range' i (tt - i)))) := by
  intro m
  induction m using Nat.strongRecOn with
  | _ m IH =>
    intro i out hm hi hout
    by_cases hlt : i < tt
    · refine Ev.step (f := fun k => PZ.bidi_turn.l1 k l (tt : Int) a out (i : Int) (i : Int)) (fun k => ?_) ?_
      · simp only [PZ.bidi_turn.l0]
        rw [if_pos (by omega)]
      have j2 : ∀ e, i ≤ e → e ≤ tt → (∀ j, i ≤ j → j < e → lvL l j ≥ a) → (e < tt → ¬ lvL l e ≥ a) → Ev (fun k => PZ.bidi_turn.j2 k l (tt : Int) a out (i : Int) (e : Int)) (out ++ castN (stGo (fun x => decide (lvL l x ≥ a)) F [] (List.range' i (tt - i)))) := by
        intro e hie het hall hne
        by_cases hee : e = i
        · subst hee
          have hp : ¬ (decide (lvL l e ≥ a) = true) := by simpa using hne hlt
          have e1 : List.range' e (tt - e) = e :: List.range' (e + 1) (tt - (e + 1)) := by
            rw [show tt - e = (tt - (e + 1)) + 1 by omega, List.range'_succ]
          have e2 : stGo (fun x => decide (lvL l x ≥ a)) F [] (e :: List.range' (e + 1) (tt - (e + 1))) = e :: stGo (fun x => decide (lvL l x ≥ a)) F [] (List.range' (e + 1) (tt - (e + 1))) := by
            conv => lhs; unfold stGo
            rw [if_neg hp]
            simp [hF0]
          have := IH (tt - (e + 1)) (by omega) (e + 1) (out ++ [(e : Int)]) rfl (by omega) (by simp; omega)
          rw [e1, e2]
          have e3 : out ++ castN (e :: stGo (fun x => decide (lvL l x ≥ a)) F [] (List.range' (e + 1) (tt - (e + 1)))) = (out ++ [(e : Int)]) ++ castN (stGo (fun x => decide (lvL l x ≥ a)) F [] (List.range' (e + 1) (tt - (e + 1)))) := by simp [castN]
          rw [e3]
          refine Ev.step (fun k => ?_) this
          simp only [PZ.bidi_turn.j2]
          rw [if_pos trivial, if_pos (by omega), oS e (by omega)]
        · have hie' : i < e := by omega
          have e1 : List.range' i (tt - i) = List.range' i (e - i) ++ List.range' e (tt - e) := by
            have := List.range'_append (s := i) (m := e - i) (n := tt - e) (step := 1)
            rw [Nat.one_mul, show i + (e - i) = e by omega, show e - i + (tt - e) = tt - i by omega] at this
            exact this.symm
          have hall' : ∀ x ∈ List.range' i (e - i), (fun x => decide (lvL l x ≥ a)) x = true := by
            intro x hx
            rw [List.mem_range'_1] at hx
            simpa using hall x (by omega) (by omega)
          have e2 : stGo (fun x => decide (lvL l x ≥ a)) F [] (List.range' i (tt - i)) = (F (List.range' i (e - i))).reverse ++ stGo (fun x => decide (lvL l x ≥ a)) F [] (List.range' e (tt - e)) := by
            rw [e1, stGo_app _ _ _ hall', List.append_nil, stGo_cut hF0]
            · rw [List.reverse_reverse]
            · intro y r hy
              by_cases het' : e < tt
              · rw [show tt - e = (tt - e - 1) + 1 by omega, List.range'_succ] at hy
                injection hy with hy _
                subst hy
                simpa using hne het'
              · rw [show tt - e = 0 by omega] at hy
                cases hy
          rw [e2, castN_app, castN_rev]
          have hlen : (castN (F (List.range' i (e - i)))).length = e - i := by rw [castN_len, hFl]; simp
          refine Ev.step (f := fun k => (PZ.bidi_turn.f k l (i : Int) (e : Int) (wrap64 (a + 1))).bind fun t153 => ((PZ.slices_Reverse_int_int.f k t153).bind fun t156 => (if out.length + t156.length < 17592186044416 then (PZ.bidi_turn.l0 k l (tt : Int) a (out ++ t156) (e : Int)) else (none)))) (fun k => ?_) ?_
          · simp only [PZ.bidi_turn.j2]
            rw [if_neg (by omega)]
          rw [oW (by omega) (by omega)]
          refine Ev.bind (hin i e hie' het hall) ?_
          refine Ev.bind (rev_ev _ (by rw [hlen]; omega)) ?_
          have := IH (tt - e) (by omega) e (out ++ (castN (F (List.range' i (e - i)))).reverse) rfl het (by rw [List.length_append, List.length_reverse, hlen]; omega)
          rw [List.append_assoc] at this
          exact Ev.congr (fun k => if_pos (by rw [List.length_reverse, hlen]; omega)) this
      have l1 : ∀ (q e : Nat), tt - e = q → i ≤ e → e ≤ tt → (∀ j, i ≤ j → j < e → lvL l j ≥ a) → Ev (fun k => PZ.bidi_turn.l1 k l (tt : Int) a out (i : Int) (e : Int)) (out ++ castN (stGo (fun x => decide (lvL l x ≥ a)) F [] (List.range' i (tt - i)))) := by
        intro q
        induction q with
        | zero =>
          intro e hq hie het hall
          refine Ev.step (fun k => ?_) (j2 e hie het hall (fun h => by omega))
          simp only [PZ.bidi_turn.l1]
          rw [if_neg (by omega)]
        | succ q ihq =>
          intro e hq hie het hall
          by_cases hge : lvL l e ≥ a
          · refine Ev.step (fun k => ?_) (ihq (e + 1) (by omega) (by omega) (by omega) (fun j h1 h2 => by
              by_cases hj : j = e
              · subst hj; exact hge
              · exact hall j h1 (by omega)))
            simp only [PZ.bidi_turn.l1]
            rw [if_pos (by omega), if_pos (by omega), if_pos (by omega), show rd l (e : Int) = lvL l e from oR l e, if_pos hge, oS e (by omega)]
          · refine Ev.step (fun k => ?_) (j2 e hie het hall (fun _ => hge))
            simp only [PZ.bidi_turn.l1]
            rw [if_pos (by omega), if_pos (by omega), if_pos (by omega), show rd l (e : Int) = lvL l e from oR l e, if_neg hge]
      exact l1 (tt - i) i rfl (Nat.le_refl _) hi (fun j h1 h2 => by omega)
    · have : tt - i = 0 := by omega
      rw [this]
      refine Ev.step (f := fun _ => some out) (fun k => ?_) ?_
      · simp only [PZ.bidi_turn.l0]
        rw [if_neg (by omega)]
      · simp [stGo, hF0, castN]
        exact Ev.now _
theorem stGo_none {p : Nat → Bool} {F : List Nat → List Nat} (hF0 : F [] = []) : ∀ xs : List Nat, (∀ x ∈ xs, p x = false) → stGo p F [] xs = xs
  | [], _ => by simp [stGo, hF0]
  | x :: r, h => by
    unfold stGo
    rw [if_neg (by rw [h x (by simp)]; decide), stGo_none hF0 r (fun y hy => h y (by simp [hy]))]
    simp [hF0]
theorem turn_ev (l : List Int) (hl : l.length ≤ 100000) : ∀ (d : Nat) (a : Int), 0 ≤ a → a + d ≤ 1000 → (∀ j, j < l.length → lvL l j < a + d) → ∀ (i tt : Nat), i ≤ tt → tt ≤ l.length → Ev (fun k => PZ.bidi_turn.f k l (i : Int) (tt : Int) a) (castN (tn (lvL l) d a (List.range' i (tt - i)))) := by
  intro d
  induction d with
  | zero =>
    intro a h0 h1 hlev i tt hi hto
    refine Ev.step (f := fun k => PZ.bidi_turn.l0 k l (tt : Int) a ([] : List Int) (i : Int)) (fun k => rfl) ?_
    have := turn_loop l hl a h0 (by omega) (fun xs => xs) rfl tt hto (fun _ => rfl) (fun i e hie het hall => by
      have := hall i (Nat.le_refl _) hie
      have := hlev i (by omega)
      omega) (tt - i) i [] rfl hi (by simp)
    rw [List.nil_append, stGo_none rfl _ (fun x hx => by
      rw [List.mem_range'_1] at hx
      have := hlev x (by omega)
      simp; omega)] at this
    exact this
  | succ d ih =>
    intro a h0 h1 hlev i tt hi hto
    refine Ev.step (f := fun k => PZ.bidi_turn.l0 k l (tt : Int) a ([] : List Int) (i : Int)) (fun k => rfl) ?_
    have := turn_loop l hl a h0 (by omega) (tn (lvL l) d (a + 1)) (tn_nil _ _ _) tt hto (fun ys => (tn_perm _ _ _ ys).length_eq) (fun i e hie het hall => ih (a + 1) (by omega) (by omega) (fun j hj => by have := hlev j hj; omega) i e (by omega) (by omega)) (tt - i) i [] rfl hi (by simp)
    rw [List.nil_append] at this
    exact this
end Go.Proofs.YtdpifkhkemeclaaGreat
