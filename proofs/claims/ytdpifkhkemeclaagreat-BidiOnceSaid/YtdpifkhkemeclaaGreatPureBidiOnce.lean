/- BidiOnce, the plain law: an order has each place once; neighbours of one level stay neighbours, turned round where it is odd. -/
import Derived.Test.YtdpifkhkemeclaaGreatPZx10
import Derived.Test.YtdpifkhkemeclaaGreatOrdQ
import Derived.Test.YtdpifkhkemeclaaGreatBitsO
namespace Go.Proofs.YtdpifkhkemeclaaGreat.Pure
open Go.RowKit Go.Proofs.YtdpifkhkemeclaaGreat Go.Proofs.YtdpifkhkemeclaaGreat.PZ Go.Proofs.YtdpifkhkemeclaaGreatW.PrintWords Go.Proofs.YtdpifkhkemeclaaGreatW.PrintMore
set_option linter.unusedVariables false
set_option linter.unusedSimpArgs false
theorem awake_ev : Ev (fun k => parquetrylaw16_awake.f k) true := Ev.of parquetrylaw16_awake.mono parquetrylaw16_awake.run
/-- Where places stand in an order; -1: not yet seen. -/
def atL (T : List Nat) (n i : Nat) : List Int := (List.range n).map fun p => if T.idxOf p < i then (T.idxOf p : Int) else -1
theorem atL_len (T : List Nat) (n i : Nat) : (atL T n i).length = n := by simp [atL]
theorem atL_at (T : List Nat) (n i p : Nat) (h : p < n) : (atL T n i).getD p 0 = if T.idxOf p < i then (T.idxOf p : Int) else -1 := by
  rw [List.getD_eq_getElem?_getD, List.getElem?_eq_getElem (by rw [atL_len]; exact h)]
  simp [atL]
theorem atL_zero (T : List Nat) (n : Nat) : atL T n 0 = List.replicate n (-1) := by
  apply List.ext_getElem
  · simp [atL]
  · intro p h1 h2; simp [atL]
theorem idx_get (T : List Nat) (hT : T.Nodup) (i : Nat) (h : i < T.length) : T.idxOf T[i] = i := by
  have hl : T.idxOf T[i] < T.length := List.idxOf_lt_length_iff.2 (List.getElem_mem h)
  have e : T[T.idxOf T[i]] = T[i] := List.getElem_idxOf hl
  first
  | exact (List.getElem_inj hT).1 e
  | exact (List.Nodup.getElem_inj_iff hT).1 e
  | exact (List.getElem_inj hl h hT).1 e
theorem atL_step (T : List Nat) (hT : T.Nodup) (n i : Nat) (h : i < T.length) (hm : ∀ p, p < n → p ∈ T) (hi : T[i] < n) : (atL T n i).set T[i] (i : Int) = atL T n (i + 1) := by
  apply List.ext_getElem
  · simp [atL]
  intro p h1 h2
  have hp : p < n := by simpa [atL] using h2
  rw [List.getElem_set]
  have e : ∀ u, (atL T n u)[p]'(by rw [atL_len]; exact hp) = if T.idxOf p < u then (T.idxOf p : Int) else -1 := fun u => by simp [atL]
  rw [e, e]
  by_cases c : T[i] = p
  · have := idx_get T hT i h
    rw [c] at this
    rw [if_pos c, this, if_pos (by omega)]
  · rw [if_neg c]
    have hne : T.idxOf p ≠ i := by
      intro he
      have hl : T.idxOf p < T.length := List.idxOf_lt_length_iff.2 (hm p hp)
      have := List.getElem_idxOf hl
      simp only [he] at this
      exact c this
    by_cases c2 : T.idxOf p < i
    · rw [if_pos c2, if_pos (by omega)]
    · rw [if_neg c2, if_neg (by omega)]
theorem idx_app (A B : List Nat) (x : Nat) (h : (A ++ x :: B).Nodup) : (A ++ x :: B).idxOf x = A.length := by
  have := idx_get (A ++ x :: B) h A.length (by simp)
  simpa using this
/-- The levels of the law's bytes. -/
def ownB (l0 : List Int) : List Int := l0.map fun x => Int.tmod (wrap64 x) 127
theorem ownB_at (l0 : List Int) (hb : ∀ x ∈ l0, 0 ≤ x ∧ x ≤ 255) (j : Nat) (hj : j < l0.length) : 0 ≤ (ownB l0).getD j 0 ∧ (ownB l0).getD j 0 ≤ 126 := by
  have hx := hb l0[j] (List.getElem_mem hj)
  have e : (ownB l0).getD j 0 = Int.tmod (wrap64 l0[j]) 127 := by simp [ownB, List.getD_eq_getElem?_getD, hj]
  rw [e, oW (by omega) (by omega), Int.tmod_eq_emod_of_nonneg (by omega)]
  omega
theorem own_clip (l0 : List Int) (hb : ∀ x ∈ l0, 0 ≤ x ∧ x ≤ 255) : (ownB l0).map clipL = ownB l0 := by
  apply List.ext_getElem
  · simp
  intro j h1 h2
  have hj : j < l0.length := by simpa [ownB] using h2
  have := ownB_at l0 hb j hj
  rw [List.getD_eq_getElem?_getD, List.getElem?_eq_getElem h2, Option.getD_some] at this
  rw [List.getElem_map]
  exact clipL_id this.1 this.2
theorem adj_at (l0 : List Int) (hb : ∀ x ∈ l0, 0 ≤ x ∧ x ≤ 255) (j : Nat) (hj0 : 1 ≤ j) (hj : j < l0.length) (he : (ownB l0).getD j 0 = (ownB l0).getD (j - 1) 0) :
    ((ordT (ownB l0)).idxOf j : Int) = ((ordT (ownB l0)).idxOf (j - 1) : Int) + (if (ownB l0).getD j 0 % 2 = 1 then -1 else 1) := by
  have hlen : (ownB l0).length = l0.length := by simp [ownB]
  have hlv : ∀ i, lvL ((ownB l0).map clipL) i = (ownB l0).getD i 0 := fun i => by rw [own_clip l0 hb]; rfl
  have h0 : Adj true (j - 1) j (List.range' 0 (ownB l0).length) := by
    refine ⟨List.range' 0 (j - 1), List.range' (j + 1) (l0.length - (j + 1)), ?_⟩
    rw [hlen]
    have e1 : List.range' 0 l0.length = List.range' 0 (j - 1) ++ List.range' (j - 1) (l0.length - (j - 1)) := by
      have := List.range'_append (s := 0) (m := j - 1) (n := l0.length - (j - 1)) (step := 1)
      rw [Nat.one_mul, Nat.zero_add, show j - 1 + (l0.length - (j - 1)) = l0.length by omega] at this
      exact this.symm
    rw [e1, show l0.length - (j - 1) = (l0.length - (j + 1)) + 1 + 1 by omega, List.range'_succ, List.range'_succ, show j - 1 + 1 = j by omega]
    simp
  have h1 := tn_adj (lvL ((ownB l0).map clipL)) (u := j - 1) (v := j) (by rw [hlv, hlv, he]) 126 1 true _ h0
  have hb' := ownB_at l0 hb (j - 1) (by omega)
  obtain ⟨v, hv⟩ : ∃ v : Nat, (v : Int) = (ownB l0).getD (j - 1) 0 := ⟨((ownB l0).getD (j - 1) 0).toNat, by omega⟩
  have hp : par (lvL ((ownB l0).map clipL) (j - 1)) 126 1 = (v % 2 == 1) := by
    rw [hlv, ← hv]
    have := List.all_eq_true.1 par_odd v (List.mem_range.2 (by omega))
    simpa using this
  rw [hp] at h1
  have hnd := ordT_nodup (ownB l0)
  change Adj (true != (v % 2 == 1)) (j - 1) j (ordT (ownB l0)) at h1
  obtain ⟨A, B, hT⟩ := h1
  rw [he, ← hv]
  by_cases hodd : v % 2 = 1
  · have e2 : (true != (v % 2 == 1)) = false := by rw [hodd]; rfl
    rw [e2, if_neg (by decide)] at hT
    have t1 : ordT (ownB l0) = A ++ j :: ((j - 1) :: B) := by rw [hT]; simp
    have t2 : ordT (ownB l0) = (A ++ [j]) ++ (j - 1) :: B := by rw [hT]; simp
    have i1 : (ordT (ownB l0)).idxOf j = A.length := by rw [t1]; exact idx_app A _ j (by rw [← t1]; exact hnd)
    have i2 : (ordT (ownB l0)).idxOf (j - 1) = A.length + 1 := by
      rw [t2]
      have := idx_app (A ++ [j]) B (j - 1) (by rw [← t2]; exact hnd)
      rw [this]; simp
    rw [i1, i2, if_pos (by omega)]
    omega
  · have e2 : (true != (v % 2 == 1)) = true := by
      have : (v % 2 == 1) = false := by simpa using hodd
      rw [this]; rfl
    rw [e2, if_pos rfl] at hT
    have t1 : ordT (ownB l0) = A ++ (j - 1) :: (j :: B) := by rw [hT]; simp
    have t2 : ordT (ownB l0) = (A ++ [j - 1]) ++ j :: B := by rw [hT]; simp
    have i1 : (ordT (ownB l0)).idxOf (j - 1) = A.length := by rw [t1]; exact idx_app A _ (j - 1) (by rw [← t1]; exact hnd)
    have i2 : (ordT (ownB l0)).idxOf j = A.length + 1 := by
      rw [t2]
      have := idx_app (A ++ [j - 1]) B j (by rw [← t2]; exact hnd)
      rw [this]; simp
    rw [i1, i2, if_neg (by omega)]
    omega
theorem castN_get (T : List Nat) (i : Nat) (h : i < T.length) : (castN T).getD i 0 = (T[i] : Int) := by simp [castN, List.getD_eq_getElem?_getD, h]
theorem BidiOnce : parquetrylaw16_BidiOnce.Pure := by
  intro l0 _ _ hwf
  refine Ev.rounds ?_
  by_cases hbig : (l0.length : Int) > 300
  · exact Ev.congr (fun k => if_pos hbig) (Ev.bind awake_ev (Ev.now _))
  have hn : l0.length ≤ 300 := by omega
  have hb : ∀ x ∈ l0, 0 ≤ x ∧ x ≤ 255 := by
    intro x hx
    have h : (decide (IntKind.u8.min ≤ x) && decide (x ≤ IntKind.u8.max)) = true := hwf x hx
    rw [Bool.and_eq_true] at h
    have h1 : (0 : Int) ≤ x := of_decide_eq_true h.1
    have h2 : x ≤ (255 : Int) := of_decide_eq_true h.2
    exact ⟨h1, h2⟩
  have hol : (ownB l0).length = l0.length := by simp [ownB]
  obtain ⟨T, hT⟩ : ∃ T, T = ordT (ownB l0) := ⟨_, rfl⟩
  have hTl : T.length = l0.length := by rw [hT, ordT_len, hol]
  have hTn : T.Nodup := by rw [hT]; exact ordT_nodup _
  have hTm : ∀ p, p < l0.length → p ∈ T := fun p hp => by rw [hT]; exact (ordT_mem _ p).2 (by rw [hol]; exact hp)
  have hTi : ∀ i (h : i < T.length), T[i] < l0.length := fun i h => by
    have : T[i] ∈ ordT (ownB l0) := by rw [← hT]; exact List.getElem_mem h
    have := (ordT_mem _ _).1 this
    rwa [hol] at this
  -- the third loop
  have L2 : ∀ (m j : Nat), l0.length - j = m → 1 ≤ j → Ev (fun k => parquetrylaw16_BidiOnce.l2 k (ownB l0) (atL T l0.length l0.length) (j : Int)) true := by
    intro m
    induction m with
    | zero =>
      intro j hm hj
      refine Ev.step (f := fun k => (parquetrylaw16_awake.f k).bind fun t => some t) (fun k => ?_) (Ev.bind awake_ev (Ev.now _))
      simp only [parquetrylaw16_BidiOnce.l2]
      rw [if_neg (by rw [hol]; omega)]
    | succ m ih =>
      intro j hm hj
      have hjn : j < l0.length := by omega
      have e1 : wrap64 ((j : Int) - 1) = ((j - 1 : Nat) : Int) := by rw [oW (by omega) (by omega)]; omega
      have ai : ∀ p, p < l0.length → (atL T l0.length l0.length).getD p 0 = (T.idxOf p : Int) := fun p hp => by
        rw [atL_at _ _ _ _ hp, if_pos (by rw [← hTl]; exact List.idxOf_lt_length_iff.2 (hTm p hp))]
      have il : ∀ p, p < l0.length → (T.idxOf p : Int) < 301 := fun p hp => by
        have : T.idxOf p < T.length := List.idxOf_lt_length_iff.2 (hTm p hp)
        omega
      refine Ev.step (fun k => ?_) (ih (j + 1) (by omega) (by omega))
      simp only [parquetrylaw16_BidiOnce.l2]
      rw [e1, oR, oR, oR, oR, ai j hjn, ai (j - 1) (by omega), Base.and_one, oS j (by omega), hol, atL_len]
      rw [if_pos (show (j : Int) < (l0.length : Int) by omega), if_pos (show (0 : Int) ≤ j by omega)]
      have il0 := il j hjn
      have il1 := il (j - 1) (by omega)
      by_cases heq : (ownB l0).getD j 0 = (ownB l0).getD (j - 1) 0
      · have hadj := adj_at l0 hb j hj hjn heq
        rw [← hT] at hadj
        by_cases hodd : (ownB l0).getD j 0 % 2 = 1
        · rw [if_pos hodd] at hadj
          rw [if_pos hodd, if_pos (by omega), if_pos (by omega), if_pos heq, if_pos (by omega), if_pos (by omega), if_pos (by rw [oW (by omega) (by omega)]; omega)]
        · rw [if_neg hodd] at hadj
          rw [if_neg hodd, if_pos (by omega), if_pos (by omega), if_pos heq, if_pos (by omega), if_pos (by omega), if_pos (by rw [oW (by omega) (by omega)]; omega)]
      · by_cases hodd : (ownB l0).getD j 0 % 2 = 1
        · rw [if_pos hodd, if_pos (by omega), if_pos (by omega), if_neg heq]
        · rw [if_neg hodd, if_pos (by omega), if_pos (by omega), if_neg heq]
  -- the second loop
  have L1 : ∀ (m i : Nat), l0.length - i = m → i ≤ l0.length → Ev (fun k => parquetrylaw16_BidiOnce.l1 k (ownB l0) (atL T l0.length i) (castN T) (i : Int)) true := by
    intro m
    induction m with
    | zero =>
      intro i hm hi
      have : i = l0.length := by omega
      subst this
      refine Ev.step (fun k => ?_) (L2 (l0.length - 1) 1 rfl (Nat.le_refl _))
      simp only [parquetrylaw16_BidiOnce.l1]
      rw [if_neg (by rw [castN_len]; omega)]
      rfl
    | succ m ih =>
      intro i hm hi
      have hin : i < l0.length := by omega
      have hiT : i < T.length := by omega
      have ht := hTi i hiT
      refine Ev.step (fun k => ?_) (ih (i + 1) (by omega) (by omega))
      simp only [parquetrylaw16_BidiOnce.l1]
      rw [castN_len, oR, castN_get T i hiT, oR, atL_len, Int.toNat_natCast, atL_at _ _ _ _ ht, idx_get T hTn i hiT, oS i (by omega)]
      rw [if_pos (by omega), if_pos (by omega), if_neg (by omega), if_neg (by omega), if_pos (by omega), if_pos (by omega), if_pos (by rw [if_neg (Nat.lt_irrefl _)]), atL_step T hTn l0.length i hiT hTm ht]
  -- the first loop
  have L0 : ∀ (m i : Nat), l0.length - i = m → i ≤ l0.length → Ev (fun k => parquetrylaw16_BidiOnce.l0 k l0 ((ownB l0).take i) (List.replicate i (-1)) (i : Int)) true := by
    intro m
    induction m with
    | zero =>
      intro i hm hi
      have : i = l0.length := by omega
      subst this
      refine Ev.step (f := fun k => (bidi_Order.f k (ownB l0)).bind fun t => if (t.length : Int) = ((ownB l0).length : Int) then parquetrylaw16_BidiOnce.l1 k (ownB l0) (List.replicate l0.length (-1)) t 0 else some false) (fun k => ?_) ?_
      · simp only [parquetrylaw16_BidiOnce.l0]
        rw [if_neg (by omega), List.take_of_length_le (by rw [hol]; exact Nat.le_refl _)]
      · refine Ev.bind (order_ev (ownB l0) (by omega)) ?_
        rw [← hT]
        refine Ev.congr (fun k => if_pos (by rw [castN_len, hTl, hol])) ?_
        have := L1 l0.length 0 (by omega) (by omega)
        rw [atL_zero] at this
        exact this
    | succ m ih =>
      intro i hm hi
      have hin : i < l0.length := by omega
      have hio : i < (ownB l0).length := by omega
      refine Ev.step (fun k => ?_) (ih (i + 1) (by omega) (by omega))
      simp only [parquetrylaw16_BidiOnce.l0]
      rw [if_pos (by omega), if_pos (by omega), List.length_take, if_pos (by omega), List.length_replicate, if_pos (by omega), oR, oS i (by omega)]
      congr 1
      · rw [List.take_succ_eq_append_getElem hio]
        simp [ownB, List.getD_eq_getElem?_getD, hin]
      · rw [List.replicate_succ']
  refine Ev.congr (fun k => if_neg hbig) ?_
  exact L0 l0.length 0 (by omega) (by omega)
end Go.Proofs.YtdpifkhkemeclaaGreat.Pure
