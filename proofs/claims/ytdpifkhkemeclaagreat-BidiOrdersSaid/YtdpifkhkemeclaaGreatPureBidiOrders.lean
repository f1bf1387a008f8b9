/- BidiOrders, the plain law: pass by pass from the highest level on is stretch in stretch. -/
import Derived.Test.YtdpifkhkemeclaaGreatPZx8
import Derived.Test.YtdpifkhkemeclaaGreatOrdQ
namespace Go.Proofs.YtdpifkhkemeclaaGreat.Pure
open Go.RowKit Go.Proofs.YtdpifkhkemeclaaGreat Go.Proofs.YtdpifkhkemeclaaGreat.PZ Go.Proofs.YtdpifkhkemeclaaGreatW.PrintWords Go.Proofs.YtdpifkhkemeclaaGreatW.PrintMore
set_option linter.unusedVariables false
set_option linter.unusedSimpArgs false
theorem awakeO_ev : Ev (fun k => parquetrylaw16_awake.f k) true := Ev.of parquetrylaw16_awake.mono parquetrylaw16_awake.run
theorem sameO_ev (x : List Int) (hx : x.length ≤ 100000) : Ev (fun k => parquetryref02_Same.f k x x) true := by
  refine Ev.congr (f := fun k => parquetryref02_Same.l0 k x x 0) (fun k => if_pos rfl) ?_
  have main : ∀ (m i : Nat), x.length - i = m → Ev (fun k => parquetryref02_Same.l0 k x x (i : Int)) true := by
    intro m
    induction m with
    | zero =>
      intro i hm
      refine Ev.step (f := fun _ => some true) (fun k => ?_) (Ev.now _)
      simp only [parquetryref02_Same.l0]
      rw [if_neg (by omega)]
    | succ m ih =>
      intro i hm
      refine Ev.step (fun k => ?_) (ih (i + 1) (by omega))
      simp only [parquetryref02_Same.l0]
      rw [if_pos (by omega), if_pos (by omega), if_pos (by omega), if_pos trivial, oS i (by omega)]
  exact main x.length 0 (by omega)
theorem mid_get (P R Q : List Int) (q : Nat) (h : q < R.length) : (P ++ (R ++ Q)).getD (P.length + q) 0 = R.getD q 0 := by
  simp only [List.getD_eq_getElem?_getD]
  rw [List.getElem?_append_right (by omega), Nat.add_sub_cancel_left, List.getElem?_append_left h]
theorem mid_set (P R Q : List Int) (q : Nat) (v : Int) (h : q < R.length) : (P ++ (R ++ Q)).set (P.length + q) v = P ++ (R.set q v ++ Q) := by
  rw [List.set_append_right _ _ (by omega), Nat.add_sub_cancel_left, List.set_append_left _ _ h]
theorem l3_ev (l P S Q : List Int) (a : Int) (i : Nat) (hi : i = P.length + S.length) (hb : i ≤ 100000) {R : List Int} (hR : Ev (fun k => parquetryref16_Order.l2 k l (P ++ (S.reverse ++ Q)) a ((i + 1 : Nat) : Int) ((i + 1 : Nat) : Int)) R) :
    ∀ (m t : Nat), S.length - t = m → t + t ≤ S.length + 1 → Ev (fun k => parquetryref16_Order.l3 k l (P ++ (revAt S t ++ Q)) a (i : Int) ((P.length + t : Nat) : Int) ((P.length : Int) + S.length - 1 - t)) R := by
  have fin : ∀ t, S.length ≤ t + t + 1 → Ev (fun k => parquetryref16_Order.l3 k l (P ++ (revAt S t ++ Q)) a (i : Int) ((P.length + t : Nat) : Int) ((P.length : Int) + S.length - 1 - t)) R := by
    intro t ht
    refine Ev.step (fun k => ?_) hR
    simp only [parquetryref16_Order.l3]
    rw [if_neg (by omega), revAt_end S t ht, oS i (by omega)]
  intro m
  induction m with
  | zero => intro t hm ht; exact fin t (by omega)
  | succ m ih =>
    intro t hm ht
    by_cases hc : t + t + 1 < S.length
    · refine Ev.step (fun k => ?_) (ih (t + 1) (by omega) (by omega))
      have e1 : ((P.length : Int) + S.length - 1 - t) = ((P.length + (S.length - 1 - t) : Nat) : Int) := by omega
      simp only [parquetryref16_Order.l3]
      rw [e1, if_pos (by omega), if_pos (by omega), oR, oR, Int.toNat_natCast, Int.toNat_natCast, mid_get _ _ _ _ (by rw [revAt_len]; omega), mid_get _ _ _ _ (by rw [revAt_len]; omega)]
      rw [mid_set _ _ _ _ _ (by rw [revAt_len]; omega), mid_set _ _ _ _ _ (by rw [List.length_set, revAt_len]; omega), revAt_step S t hc]
      rw [List.length_append, List.length_append, revAt_len, if_pos (by omega), if_pos (by omega), if_pos (by omega), oS _ (by omega), oW (by omega) (by omega)]
      congr 1
      omega
    · exact fin t (by omega)
theorem j3_false (l P S Q : List Int) (a : Int) (i : Nat) (hi : i = P.length + S.length) (hb : i ≤ 100000) {R : List Int} (hR : Ev (fun k => parquetryref16_Order.l2 k l (P ++ (S.reverse ++ Q)) a ((i + 1 : Nat) : Int) ((i + 1 : Nat) : Int)) R) :
    Ev (fun k => parquetryref16_Order.j3 k l (P ++ (S ++ Q)) a (P.length : Int) (i : Int) false) R := by
  have h := l3_ev l P S Q a i hi hb hR S.length 0 (by omega) (by omega)
  rw [revAt_zero] at h
  refine Ev.step (fun k => ?_) h
  simp only [parquetryref16_Order.j3]
  rw [if_neg (by decide), oW (by omega) (by omega)]
  congr 1
  omega
theorem pass_ev (l : List Int) (a : Int) (ha0 : 0 ≤ a) (ha1 : a ≤ 200) {R : List Int} : ∀ (rest out S : List Nat), out.length + S.length + rest.length ≤ 100000 → (∀ x ∈ rest, x < l.length) →
    Ev (fun k => parquetryref16_Order.l1 k l (castN (out ++ stGo (fun x => decide (lvL (l.map clipL) x ≥ a)) id S.reverse rest)) (a - 1)) R →
    Ev (fun k => parquetryref16_Order.l2 k l (castN (out ++ (S ++ rest))) a (out.length : Int) ((out.length + S.length : Nat) : Int)) R := by
  intro rest
  induction rest with
  | nil =>
    intro out S hlen hm hR
    have hl : (castN (out ++ (S ++ []))).length = out.length + S.length := by rw [castN_len]; simp
    refine Ev.step (f := fun k => parquetryref16_Order.j3 k l (castN (out ++ (S ++ []))) a (out.length : Int) ((out.length + S.length : Nat) : Int) false) (fun k => ?_) ?_
    · simp only [parquetryref16_Order.l2]
      rw [if_pos (by rw [hl]; omega), if_neg (by rw [hl]; omega)]
    · have hR2 : Ev (fun k => parquetryref16_Order.l2 k l (castN out ++ ((castN S).reverse ++ castN [])) a ((out.length + S.length + 1 : Nat) : Int) ((out.length + S.length + 1 : Nat) : Int)) R := by
        have e : castN out ++ ((castN S).reverse ++ castN []) = castN (out ++ stGo (fun x => decide (lvL (l.map clipL) x ≥ a)) id S.reverse []) := by simp [stGo, castN]
        rw [e]
        refine Ev.step (fun k => ?_) hR
        simp only [parquetryref16_Order.l2]
        rw [if_neg (by rw [← e]; simp [castN]; omega), oW (by omega) (by omega)]
      have := j3_false l (castN out) (castN S) (castN []) a (out.length + S.length) (by rw [castN_len, castN_len]) (by omega) hR2
      rw [castN_len] at this
      rw [castN_app, castN_app]
      exact this
  | cons x r ih =>
    intro out S hlen hm hR
    have hx := hm x (by simp)
    simp only [List.length_cons] at hlen
    have hl : (castN (out ++ (S ++ x :: r))).length = out.length + S.length + r.length + 1 := by rw [castN_len]; simp; omega
    have hg : (castN (out ++ (S ++ x :: r))).getD (out.length + S.length) 0 = (x : Int) := by
      simp only [castN, List.getD_eq_getElem?_getD, List.getElem?_map]
      rw [List.getElem?_append_right (by omega), List.getElem?_append_right (by omega)]
      simp
    have hcut : clipL (l.getD x 0) = lvL (l.map clipL) x := by simp [lvL, List.getD_eq_getElem?_getD, hx]
    have head : ∀ k, parquetryref16_Order.l2 (k + 1) l (castN (out ++ (S ++ x :: r))) a (out.length : Int) ((out.length + S.length : Nat) : Int) = parquetryref16_Order.j3 k l (castN (out ++ (S ++ x :: r))) a (out.length : Int) ((out.length + S.length : Nat) : Int) (decide (lvL (l.map clipL) x ≥ a)) := by
      intro k
      simp only [parquetryref16_Order.l2]
      rw [if_pos (by rw [hl]; omega), if_pos (by rw [hl]; omega), if_pos (by omega), oR, hg, if_pos (by omega), if_pos (by omega), oR]
      unfold parquetryref16_Cut.f
      rw [Option.bind_some, show mn (mx (l.getD x 0) 0) 126 = clipL (l.getD x 0) from rfl, hcut]
    refine Ev.step head ?_
    by_cases hp : lvL (l.map clipL) x ≥ a
    · have hd : decide (lvL (l.map clipL) x ≥ a) = true := by simpa using hp
      rw [hd]
      have h2 := ih out (S ++ [x]) (by simp; omega) (fun y hy => hm y (by simp [hy])) (by
        have e : stGo (fun x => decide (lvL (l.map clipL) x ≥ a)) id S.reverse (x :: r) = stGo (fun x => decide (lvL (l.map clipL) x ≥ a)) id (S ++ [x]).reverse r := by
          conv => lhs; unfold stGo
          rw [if_pos hd]
          simp
        rw [e] at hR
        exact hR)
      have e2 : out ++ (S ++ [x] ++ r) = out ++ (S ++ x :: r) := by simp
      rw [e2] at h2
      refine Ev.step (fun k => ?_) h2
      simp only [parquetryref16_Order.j3]
      rw [if_pos trivial, oS _ (by omega)]
      congr 1
      simp
      omega
    · have hd : decide (lvL (l.map clipL) x ≥ a) = false := by simpa using hp
      rw [hd]
      have h2 := ih (out ++ S.reverse ++ [x]) [] (by simp; omega) (fun y hy => hm y (by simp [hy])) (by
        have e : out ++ stGo (fun x => decide (lvL (l.map clipL) x ≥ a)) id S.reverse (x :: r) = out ++ S.reverse ++ [x] ++ stGo (fun x => decide (lvL (l.map clipL) x ≥ a)) id [].reverse r := by
          have e1 := stGo_split (p := fun x => decide (lvL (l.map clipL) x ≥ a)) (f := id) hd [] S.reverse r
          rw [List.nil_append] at e1
          rw [e1]
          simp [stGo]
        rw [e] at hR
        exact hR)
      have e3 : (out ++ S.reverse ++ [x]).length = out.length + S.length + 1 := by simp; omega
      rw [e3] at h2
      have hR2 : Ev (fun k => parquetryref16_Order.l2 k l (castN out ++ ((castN S).reverse ++ castN (x :: r))) a ((out.length + S.length + 1 : Nat) : Int) ((out.length + S.length + 1 : Nat) : Int)) R := by
        have e : castN out ++ ((castN S).reverse ++ castN (x :: r)) = castN (out ++ S.reverse ++ [x] ++ ([] ++ r)) := by simp [castN]
        rw [e]
        exact h2
      have := j3_false l (castN out) (castN S) (castN (x :: r)) a (out.length + S.length) (by rw [castN_len, castN_len]) (by omega) hR2
      rw [castN_len] at this
      rw [castN_app, castN_app]
      exact this
theorem ps_perm (lv : Nat → Int) (d : Nat) (a : Int) (xs : List Nat) : (ps lv d a xs).Perm xs := by rw [ps_tn]; exact tn_perm _ _ _ _
theorem l1_ev (l : List Int) (hl : l.length ≤ 10000) : ∀ (d : Nat), d ≤ 126 → Ev (fun k => parquetryref16_Order.l1 k l (castN (ps (lvL (l.map clipL)) (126 - d) ((d : Int) + 1) (List.range' 0 l.length))) (d : Int)) (castN (ordT l)) := by
  intro d
  induction d with
  | zero =>
    intro _
    refine Ev.step (f := fun _ => some (castN (ordT l))) (fun k => ?_) (Ev.now _)
    simp only [parquetryref16_Order.l1]
    rw [if_neg (by omega), ps_tn]
    rfl
  | succ d ih =>
    intro hd
    have hp := ps_perm (lvL (l.map clipL)) (126 - (d + 1)) (((d + 1 : Nat) : Int) + 1) (List.range' 0 l.length)
    have h := pass_ev l ((d + 1 : Nat) : Int) (by omega) (by omega) (R := castN (ordT l)) (ps (lvL (l.map clipL)) (126 - (d + 1)) (((d + 1 : Nat) : Int) + 1) (List.range' 0 l.length)) [] [] (by
        have := hp.length_eq
        simp at this ⊢
        omega) (fun x hx => by
        have := hp.mem_iff.1 hx
        rw [List.mem_range'_1] at this
        omega) (by
        have e : (((d + 1 : Nat) : Int) - 1) = (d : Int) := by omega
        have e2 : ps (lvL (l.map clipL)) (126 - d) ((d : Int) + 1) (List.range' 0 l.length) = stGo (fun x => decide (lvL (l.map clipL) x ≥ ((d + 1 : Nat) : Int))) id [] (ps (lvL (l.map clipL)) (126 - (d + 1)) (((d + 1 : Nat) : Int) + 1) (List.range' 0 l.length)) := by
          rw [show 126 - d = (126 - (d + 1)) + 1 by omega, ps]
          rfl
        rw [e, List.nil_append, List.reverse_nil, ← e2]
        exact ih (by omega))
    refine Ev.step (fun k => ?_) h
    simp only [parquetryref16_Order.l1]
    rw [if_pos (by omega)]
    rfl
theorem refOrder_ev (l : List Int) (hl : l.length ≤ 10000) : Ev (fun k => parquetryref16_Order.f k l) (castN (ordT l)) := by
  have main : ∀ (m i : Nat), l.length - i = m → i ≤ l.length → Ev (fun k => parquetryref16_Order.l0 k l (castN (List.range' 0 i)) (i : Int)) (castN (ordT l)) := by
    intro m
    induction m with
    | zero =>
      intro i hm hi
      have : i = l.length := by omega
      subst this
      refine Ev.step (fun k => ?_) (l1_ev l hl 126 (Nat.le_refl _))
      simp only [parquetryref16_Order.l0]
      rw [if_neg (by omega)]
      rfl
    | succ m ih =>
      intro i hm hi
      refine Ev.step (fun k => ?_) (ih (i + 1) (by omega) (by omega))
      simp only [parquetryref16_Order.l0]
      rw [if_pos (by omega), if_pos (by rw [castN_len]; simp; omega), oS i (by omega)]
      congr 1
      have := List.range'_append (s := 0) (m := i) (n := 1) (step := 1)
      rw [← this, castN_app]
      simp [castN]
  exact main l.length 0 (by omega) (by omega)
theorem BidiOrders : parquetrylaw16_BidiOrders.Pure := by
  intro l0 _ _ _
  refine Ev.rounds ?_
  by_cases hbig : (l0.length : Int) > 200
  · exact Ev.congr (fun k => if_pos hbig) (Ev.bind awakeO_ev (Ev.now _))
  have hn : l0.length ≤ 200 := by omega
  refine Ev.congr (fun k => if_neg hbig) ?_
  refine Ev.bind (Ev.now ([] : List Int)) ?_
  refine Ev.congr (fun k => if_pos (by simp; omega)) ?_
  refine Ev.bind (Ev.now (([] : List Int) ++ l0)) ?_
  rw [List.nil_append]
  refine Ev.bind (order_ev l0 (by omega)) ?_
  refine Ev.bind (refOrder_ev l0 (by omega)) ?_
  refine Ev.bind (sameO_ev (castN (ordT l0)) (by rw [castN_len, ordT_len]; omega)) ?_
  refine Ev.congr (fun k => if_pos rfl) ?_
  refine Ev.bind (sameO_ev l0 (by omega)) ?_
  exact Ev.congr (fun k => if_pos rfl) (Ev.bind awakeO_ev (Ev.now _))
end Go.Proofs.YtdpifkhkemeclaaGreat.Pure
