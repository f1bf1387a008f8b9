/- The class of any number: the search over the spans answers as the document's table. -/
import Derived.Test.YtdpifkhkemeclaaGreatZb
import Derived.Test.YtdpifkhkemeclaaGreatPZx6

import Derived.KernelRfl
namespace Go.Proofs.YtdpifkhkemeclaaGreat.Cl
open Go.RowKit Go.Proofs.YtdpifkhkemeclaaGreat.PZ Go.Proofs.YtdpifkhkemeclaaGreatW.PrintWords Go.Proofs.YtdpifkhkemeclaaGreatW.PrintLast
set_option linter.unusedVariables false
set_option linter.unusedSimpArgs false

theorem w64b {x : Int} (h0 : -9223372036854775808 ≤ x) (h1 : x ≤ 9223372036854775807) : wrap64 x = x := by
  unfold wrap64; omega


def rowHit (a : Int) : List Int → Bool
  | lo :: hi :: r => (decide (lo ≤ a) && decide (a ≤ hi)) || rowHit a r
  | _ => false
def refP (a : Int) : List S137 → Int
  | [] => 0
  | x :: r => if rowHit a x.f1 = true then x.f0 else refP a r
def tabT : List S137 := (parquetryref02_Table.f).getD []
theorem tab_is : parquetryref02_Table.f = some tabT := rfl

theorem l1_ev (a : Int) (t : List S137) (i : Nat) (hi : i < t.length) (ht : t.length ≤ 1000) (v : Int) (h0 : Ev (fun k => parquetryref02_Of.l0 k a t ((i + 1 : Nat) : Int)) v) (l : List Int) (hl : l.length ≤ 1000) :
    ∀ (d j : Nat), l.length - j ≤ d → j ≤ l.length → Ev (fun k => parquetryref02_Of.l1 k a t (i : Int) l (j : Int)) (if rowHit a (l.drop j) = true then (rd_T137 t i).f0 else v) := by
  have hend : ∀ j : Nat, j ≤ l.length → l.length ≤ j + 1 → Ev (fun k => parquetryref02_Of.l1 k a t (i : Int) l (j : Int)) (if rowHit a (l.drop j) = true then (rd_T137 t i).f0 else v) := by
    intro j h1 h2
    have hr : rowHit a (l.drop j) = false := by
      have hlen : (l.drop j).length ≤ 1 := by simp; omega
      cases hq : l.drop j with
      | nil => rfl
      | cons x r =>
        rw [hq] at hlen
        cases r with
        | nil => rfl
        | cons y r => simp at hlen
    rw [hr, if_neg (by simp)]
    refine Ev.step (fun k => ?_) h0
    simp only [parquetryref02_Of.l1]
    rw [w64b (by omega) (by omega), if_neg (by omega), w64b (by omega) (by omega)]
    rfl
  intro d
  induction d with
  | zero => intro j hd hj; exact hend j hj (by omega)
  | succ d ih =>
    intro j hd hj
    by_cases hlt : j + 1 < l.length
    · have hdrop : l.drop j = rd l (j : Int) :: rd l ((j + 1 : Nat) : Int) :: l.drop (j + 2) := by
        rw [List.drop_eq_getElem_cons (by omega), List.drop_eq_getElem_cons hlt]
        simp only [rd, Int.toNat_natCast, List.getD_eq_getElem?_getD]
        rw [List.getElem?_eq_getElem (by omega), List.getElem?_eq_getElem hlt]
        rfl
      have hw1 : wrap64 ((j : Int) + 1) = ((j + 1 : Nat) : Int) := by rw [w64b (by omega) (by omega)]; rfl
      have hw2 : wrap64 ((j : Int) + 2) = ((j + 2 : Nat) : Int) := by rw [w64b (by omega) (by omega)]; rfl
      rw [hdrop]
      by_cases hc : rd l (j : Int) ≤ a ∧ a ≤ rd l ((j + 1 : Nat) : Int)
      · have hr : rowHit a (rd l (j : Int) :: rd l ((j + 1 : Nat) : Int) :: l.drop (j + 2)) = true := by
          simp only [rowHit]
          rw [decide_eq_true hc.1, decide_eq_true hc.2]
          rfl
        rw [hr, if_pos rfl]
        refine Ev.step (f := fun _ => some (rd_T137 t i).f0) (fun k => ?_) (Ev.now _)
        simp only [parquetryref02_Of.l1]
        rw [hw1, if_pos (by omega), if_pos (by omega), if_pos (by omega), if_pos hc.1, if_pos (by omega), if_pos hc.2, if_pos (by omega), if_pos (by omega)]
      · have hr : rowHit a (rd l (j : Int) :: rd l ((j + 1 : Nat) : Int) :: l.drop (j + 2)) = rowHit a (l.drop (j + 2)) := by
          simp only [rowHit]
          have : (decide (rd l (j : Int) ≤ a) && decide (a ≤ rd l ((j + 1 : Nat) : Int))) = false := by
            rw [Bool.eq_false_iff]
            intro h
            simp only [Bool.and_eq_true, decide_eq_true_eq] at h
            exact hc h
          rw [this, Bool.false_or]
        rw [hr]
        refine Ev.step (fun k => ?_) (ih (j + 2) (by omega) (by omega))
        simp only [parquetryref02_Of.l1]
        rw [hw1, hw2, if_pos (by omega), if_pos (by omega), if_pos (by omega)]
        by_cases h1 : rd l (j : Int) ≤ a
        · rw [if_pos h1, if_pos (by omega), if_neg (fun h2 => hc ⟨h1, h2⟩)]
        · rw [if_neg h1]
    · exact hend j hj (by omega)

theorem l0_ev (a : Int) (t : List S137) (ht : t.length ≤ 1000) (hl : ∀ x ∈ t, x.f1.length ≤ 1000) :
    ∀ (d i : Nat), t.length - i = d → i ≤ t.length → Ev (fun k => parquetryref02_Of.l0 k a t (i : Int)) (refP a (t.drop i)) := by
  intro d
  induction d with
  | zero =>
    intro i hd hi
    rw [List.drop_of_length_le (by omega)]
    refine Ev.step (f := fun _ => some 0) (fun k => ?_) (Ev.now _)
    simp only [parquetryref02_Of.l0]
    rw [if_neg (by omega)]
  | succ d ih =>
    intro i hd hi
    have hlt : i < t.length := by omega
    have hrd : rd_T137 t (i : Int) = t[i] := by
      simp [rd_T137, List.getElem?_eq_getElem hlt]
    rw [List.drop_eq_getElem_cons hlt]
    have h1 := l1_ev a t i hlt ht _ (ih (i + 1) (by omega) (by omega)) (t[i]).f1 (hl _ (List.getElem_mem hlt)) (t[i]).f1.length 0 (by omega) (by omega)
    rw [List.drop_zero, hrd] at h1
    refine Ev.step (fun k => ?_) h1
    simp only [parquetryref02_Of.l0]
    rw [if_pos (by omega), if_pos (by omega), hrd]
    rfl
theorem tab_small : (tabT.all fun x => decide (x.f1.length ≤ 1000)) = true := by kernel_rfl
theorem tab_len : tabT.length ≤ 1000 := by
  have : tabT.length = 22 := by kernel_rfl
  omega
theorem refOf_ev (a : Int) : Ev (fun k => parquetryref02_Of.f k a) (refP a tabT) := by
  have h := l0_ev a tabT tab_len (fun x hx => of_decide_eq_true (List.all_eq_true.1 tab_small x hx)) _ 0 rfl (Nat.zero_le _)
  rw [List.drop_zero] at h
  refine Ev.congr (fun k => ?_) h
  unfold parquetryref02_Of.f
  rw [tab_is]
  rfl

/-! ### The same, for every number: both only compare -/
def vals : List Int := 0 :: (tabT.flatMap (·.f1) ++ spanL.flatMap fun x => [x.1, x.2.1])
def marks : List Int := vals.flatMap fun v => [v, v + 1]
def Sim (a b : Int) : Prop := ∀ v ∈ vals, (v ≤ a ↔ v ≤ b) ∧ (a ≤ v ↔ b ≤ v)
theorem rep (l : List Int) (hl : ∀ p ∈ l, 0 ≤ p) (a : Int) : ∃ b, b ∈ (-1 :: l) ∧ ∀ p ∈ l, (p ≤ a ↔ p ≤ b) := by
  induction l with
  | nil => exact ⟨-1, by simp, by simp⟩
  | cons p l ih =>
    obtain ⟨b, hb, hs⟩ := ih (fun q hq => hl q (List.mem_cons_of_mem _ hq))
    have hp := hl p List.mem_cons_self
    by_cases h1 : p ≤ a
    · by_cases h2 : p ≤ b
      · refine ⟨b, (List.mem_cons.1 hb).elim (fun h => by rw [h]; exact List.mem_cons_self) (fun h => List.mem_cons_of_mem _ (List.mem_cons_of_mem _ h)), fun q hq => ?_⟩
        rcases List.mem_cons.1 hq with rfl | hq
        · exact ⟨fun _ => h2, fun _ => h1⟩
        · exact hs q hq
      · refine ⟨p, by simp, fun q hq => ?_⟩
        rcases List.mem_cons.1 hq with rfl | hq
        · exact ⟨fun _ => Int.le_refl _, fun _ => h1⟩
        · exact ⟨fun h => by have := (hs q hq).1 h; omega, fun h => by omega⟩
    · refine ⟨b, (List.mem_cons.1 hb).elim (fun h => by rw [h]; exact List.mem_cons_self) (fun h => List.mem_cons_of_mem _ (List.mem_cons_of_mem _ h)), fun q hq => ?_⟩
      rcases List.mem_cons.1 hq with rfl | hq
      · refine ⟨fun h => absurd h h1, fun h => ?_⟩
        rcases List.mem_cons.1 hb with rfl | hb
        · omega
        · have := (hs b hb).2 (Int.le_refl _)
          omega
      · exact hs q hq
theorem rowHit_sim {a b : Int} : ∀ l : List Int, (∀ v ∈ l, (v ≤ a ↔ v ≤ b) ∧ (a ≤ v ↔ b ≤ v)) → rowHit a l = rowHit b l
  | [], _ => rfl
  | [_], _ => rfl
  | lo :: hi :: r, h => by
    have h1 := (h lo (by simp)).1
    have h2 := (h hi (by simp)).2
    have ih := rowHit_sim r (fun v hv => h v (by simp [hv]))
    simp only [rowHit, ih, h1, h2]
theorem refP_sim {a b : Int} : ∀ t : List S137, (∀ x ∈ t, ∀ v ∈ x.f1, (v ≤ a ↔ v ≤ b) ∧ (a ≤ v ↔ b ≤ v)) → refP a t = refP b t
  | [], _ => rfl
  | x :: r, h => by
    simp only [refP]
    rw [rowHit_sim x.f1 (h x (by simp)), refP_sim r (fun y hy => h y (by simp [hy]))]
theorem side_sim {a b : Int} (h : Sim a b) (m : Nat) : sideP (frS m) (toS m) a = sideP (frS m) (toS m) b := by
  have hm : frS m ∈ vals ∧ toS m ∈ vals := by
    unfold frS toS
    rw [List.getD_eq_getElem?_getD]
    cases hx : spanL[m]? with
    | none => exact ⟨by simp [vals], by simp [vals]⟩
    | some x =>
      have hmem := List.mem_of_getElem? hx
      constructor
      · refine List.mem_cons_of_mem _ (List.mem_append_right _ (List.mem_flatMap.2 ⟨x, hmem, ?_⟩)); simp
      · refine List.mem_cons_of_mem _ (List.mem_append_right _ (List.mem_flatMap.2 ⟨x, hmem, ?_⟩)); simp
  have h1 := (h _ hm.1).1
  have h2 := (h _ hm.2).2
  unfold sideP
  have e1 : (toS m < a) ↔ (toS m < b) := by omega
  have e2 : (a < frS m) ↔ (b < frS m) := by omega
  simp only [e1, e2]
theorem bsGo_sim {a b : Int} (h : Sim a b) : ∀ f i j, bsGo a f i j = bsGo b f i j := by
  intro f
  induction f with
  | zero => intro i j; rfl
  | succ f ih =>
    intro i j
    simp only [bsGo, side_sim h, ih]
theorem ofP_sim {a b : Int} (h : Sim a b) : ofP a = ofP b := by
  have hb : bs a = bs b := bsGo_sim h _ _ _
  unfold ofP hitS
  rw [hb, side_sim h]
theorem marks_pos : (marks.all fun p => decide (0 ≤ p)) = true := by kernel_rfl
set_option maxRecDepth 1000000 in
theorem of_check : ((-1 :: marks).all fun p => refP p tabT == ofP p) = true := by kernel_rfl
theorem ref_is (a : Int) : refP a tabT = ofP a := by
  obtain ⟨b, hb, hs⟩ := rep marks (fun p hp => of_decide_eq_true (List.all_eq_true.1 marks_pos p hp)) a
  have hsim : Sim a b := by
    intro v hv
    have m1 : v ∈ marks := List.mem_flatMap.2 ⟨v, hv, by simp⟩
    have m2 : v + 1 ∈ marks := List.mem_flatMap.2 ⟨v, hv, by simp⟩
    have h1 := hs v m1
    have h2 := hs (v + 1) m2
    exact ⟨h1, by omega⟩
  have hc := List.all_eq_true.1 of_check b hb
  rw [refP_sim tabT (fun x hx v hv => hsim v (List.mem_cons_of_mem _ (List.mem_append_left _ (List.mem_flatMap.2 ⟨x, hx, hv⟩)))), ofP_sim hsim]
  exact eq_of_beq hc
theorem refOf_is (a : Int) : Ev (fun k => parquetryref02_Of.f k a) (ofP a) := by
  have := refOf_ev a
  rwa [ref_is] at this
end Go.Proofs.YtdpifkhkemeclaaGreat.Cl
