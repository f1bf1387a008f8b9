/- bidi.Order in plain words: cut levels, stretch in stretch. -/
import Derived.Test.YtdpifkhkemeclaaGreatOrdP
namespace Go.Proofs.YtdpifkhkemeclaaGreat
open Go.RowKit Go.Proofs.YtdpifkhkemeclaaGreatW.PrintWords Go.Proofs.YtdpifkhkemeclaaGreatW.PrintMore
set_option linter.unusedVariables false
set_option linter.unusedSimpArgs false
def clipL (v : Int) : Int := mn (mx v 0) 126
theorem clipL_le (v : Int) : 0 ≤ clipL v ∧ clipL v ≤ 126 := by
  unfold clipL mn mx
  split <;> split <;> omega
theorem clipL_id {v : Int} (h0 : 0 ≤ v) (h1 : v ≤ 126) : clipL v = v := by
  unfold clipL mn mx
  rw [if_neg (by omega), if_neg (by omega)]
def clipTo (l : List Int) (i : Nat) : List Int := (l.map clipL).take i ++ l.drop i
theorem clipTo_len (l : List Int) (i : Nat) (h : i ≤ l.length) : (clipTo l i).length = l.length := by simp [clipTo]; omega
theorem clipTo_zero (l : List Int) : clipTo l 0 = l := by simp [clipTo]
theorem clipTo_all (l : List Int) : clipTo l l.length = l.map clipL := by simp [clipTo]; rw [List.take_of_length_le (by simp)]
theorem clipTo_at (l : List Int) (i : Nat) (h : i < l.length) : (clipTo l i).getD i 0 = l.getD i 0 := by
  have h1 : ((l.map clipL).take i).length = i := by rw [List.length_take, List.length_map]; omega
  simp only [clipTo, List.getD_eq_getElem?_getD]
  rw [List.getElem?_append_right (by omega), h1, Nat.sub_self, List.getElem?_drop, Nat.add_zero]
theorem clipTo_set (l : List Int) (i : Nat) (h : i < l.length) : (clipTo l i).set i (clipL (l.getD i 0)) = clipTo l (i + 1) := by
  have h1 : ((l.map clipL).take i).length = i := by rw [List.length_take, List.length_map]; omega
  have h2 : (l.map clipL).take (i + 1) = (l.map clipL).take i ++ [clipL (l.getD i 0)] := by
    rw [List.take_succ_eq_append_getElem (by rw [List.length_map]; exact h), List.getElem_map, List.getD_eq_getElem?_getD, List.getElem?_eq_getElem h]
    rfl
  simp only [clipTo]
  rw [h2, List.set_append_right _ _ (by omega), h1, Nat.sub_self, List.drop_eq_getElem_cons h, List.set_cons_zero, List.append_assoc]
  rfl
/-- The order of levels. -/
def ordT (l : List Int) : List Nat := tn (lvL (l.map clipL)) 126 1 (List.range' 0 l.length)
theorem order_ev (l : List Int) (hl : l.length ≤ 100000) : Ev (fun k => PZ.bidi_Order.f k l) (castN (ordT l)) := by
  have tail : Ev (fun k => (PZ.bidi_turn.f k (l.map clipL) 0 (((l.map clipL).length : Nat) : Int) 1).bind fun t => some t) (castN (ordT l)) := by
    have h := turn_ev (l.map clipL) (by rw [List.length_map]; exact hl) 126 1 (by omega) (by omega) (fun j hj => by
      have e : lvL (l.map clipL) j = clipL (l.getD j 0) := by
        have hj' : j < l.length := by simpa using hj
        simp [lvL, List.getD_eq_getElem?_getD, hj']
      have := clipL_le (l.getD j 0)
      omega) 0 (l.map clipL).length (Nat.zero_le _) (Nat.le_refl _)
    rw [Nat.sub_zero] at h
    have e : (l.map clipL).length = l.length := List.length_map _
    unfold ordT
    rw [← e]
    exact Ev.bind h (Ev.now _)
  have main : ∀ (m i : Nat), l.length - i = m → i ≤ l.length → Ev (fun k => PZ.bidi_Order.l0 k (clipTo l i) (l.length : Int) (i : Int)) (castN (ordT l)) := by
    intro m
    induction m with
    | zero =>
      intro i hm hi
      have : i = l.length := by omega
      subst this
      refine Ev.step (fun k => ?_) tail
      simp only [PZ.bidi_Order.l0]
      rw [if_neg (by omega), clipTo_all]
    | succ m ih =>
      intro i hm hi
      have hi' : i < l.length := by omega
      refine Ev.step (fun k => ?_) (ih (i + 1) (by omega) (by omega))
      simp only [PZ.bidi_Order.l0]
      rw [if_pos (by omega), if_pos (by omega), if_pos (by rw [clipTo_len l i hi]; omega), oR, clipTo_at l i hi', Int.toNat_natCast, oS i (by omega), show mn (mx (l.getD i 0) 0) 126 = clipL (l.getD i 0) from rfl, clipTo_set l i hi']
  refine Ev.congr (f := fun k => PZ.bidi_Order.l0 k l (l.length : Int) 0) (fun k => ?_) ?_
  · unfold PZ.bidi_Order.f slices_Clone_int_int.f
    rw [if_pos (by omega)]
    rfl
  · have := main l.length 0 (by omega) (by omega)
    rw [clipTo_zero] at this
    exact this
theorem ordT_perm (l : List Int) : (ordT l).Perm (List.range' 0 l.length) := tn_perm _ _ _ _
theorem ordT_len (l : List Int) : (ordT l).length = l.length := by rw [(ordT_perm l).length_eq]; simp
theorem ordT_nodup (l : List Int) : (ordT l).Nodup := (ordT_perm l).nodup_iff.2 List.nodup_range'
theorem ordT_mem (l : List Int) (j : Nat) : j ∈ ordT l ↔ j < l.length := by rw [(ordT_perm l).mem_iff, List.mem_range'_1]; omega
end Go.Proofs.YtdpifkhkemeclaaGreat
