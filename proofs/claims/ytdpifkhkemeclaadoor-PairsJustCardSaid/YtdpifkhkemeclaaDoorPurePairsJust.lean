/- PairsJust, the plain law. -/
import Derived.Test.YtdpifkhkemeclaaDoorPLj
import Derived.Test.YtdpifkhkemeclaaDoorMn
namespace Go.Proofs.YtdpifkhkemeclaaDoor.Pure
open Go.RowKit Go.Proofs.YtdpifkhkemeclaaDoor.PQ Go.Proofs.YtdpifkhkemeclaaDoorW.PrintWords Go.Proofs.YtdpifkhkemeclaaDoorW.PrintLast
set_option linter.unusedVariables false
theorem behind_ev (ow : List Int) (a k : Nat) (hk : k < ow.length) (hl : ow.length ≤ 1048576) (ha : a < ow.length) : Ev (fun n => parquetrylaw14_behind.f n ow (a : Int) (k : Int)) (marksB ow a k) := by
  have hloop : ∀ (d i : Nat), k + 1 - i = d → a < i → (∀ j, a < j → j < i → ow.getD j 0 = 8) → i ≤ ow.length → Ev (fun n => parquetrylaw14_behind.l0 n ow (a : Int) (k : Int) (i : Int)) (marksB ow a k) := by
    intro d
    induction d with
    | zero =>
      intro i hd hai hall hi
      refine Ev.step (f := fun _ => some (marksB ow a k)) (fun n => ?_) (Ev.now _)
      simp only [parquetrylaw14_behind.l0]
      rw [if_neg (by omega)]
      congr 1
      by_cases h : a < k
      · rw [(marksB_iff ow a k).2 ⟨h, fun j h1 h2 => hall j h1 (by omega)⟩]
        exact decide_eq_true (by omega)
      · have : marksB ow a k = false := by
          cases hb : marksB ow a k with
          | false => rfl
          | true => exact absurd ((marksB_iff ow a k).1 hb).1 h
        rw [this]
        exact decide_eq_false (by omega)
    | succ d ih =>
      intro i hd hai hall hi
      by_cases h8 : ow.getD i 0 = 8
      · refine Ev.step (fun n => ?_) (ih (i + 1) (by omega) (by omega) (fun j h1 h2 => by
          by_cases e : j = i
          · rw [e]; exact h8
          · exact hall j h1 (by omega)) (by omega))
        simp only [parquetrylaw14_behind.l0]
        rw [if_pos (by omega), if_pos (by omega), if_pos (by omega), rdB, if_pos h8, wsuccB _ (by omega)]
      · have : marksB ow a k = false := by
          cases hb : marksB ow a k with
          | false => rfl
          | true => exact absurd (((marksB_iff ow a k).1 hb).2 i hai (by omega)) h8
        rw [this]
        refine Ev.step (f := fun _ => some false) (fun n => ?_) (Ev.now _)
        simp only [parquetrylaw14_behind.l0]
        rw [if_pos (by omega), if_pos (by omega), if_pos (by omega), rdB, if_neg h8]
  unfold parquetrylaw14_behind.f
  rw [wsuccB _ (by omega)]
  exact hloop _ (a + 1) rfl (by omega) (fun j h1 h2 => by omega) (by omega)

/-- What changes is a pair's, or a mark's behind it, and becomes L or R. -/
theorem bra_just (ow : List Int) (W sos : Int) (hW : W = 0 ∨ W = 1) (n : Nat) (how : ow.length = n) : ∀ (ps : List (Nat × Nat)) (T : List Int), T.length = n → (∀ p ∈ ps, p.1 < p.2 ∧ p.2 < n) → ∀ k, k < n →
    (ps.foldl (braS ow W sos) T).getD k 0 = T.getD k 0 ∨ (ps.any (fun p => condB ow p k) = true ∧ ((ps.foldl (braS ow W sos) T).getD k 0 = 0 ∨ (ps.foldl (braS ow W sos) T).getD k 0 = 1))
  | [], T, _, _, k, _ => .inl rfl
  | p :: r, T, hT, hb, k, hk => by
    rw [List.foldl_cons, List.any_cons]
    have ih := bra_just ow W sos hW n how r (braS ow W sos T p) (by rw [braS_len]; exact hT) (fun q hq => hb q (by simp [hq])) k hk
    rcases ih with h | ⟨h1, h2⟩
    · rw [h, braS_bec ow W sos hW]
      split
      · exact .inl rfl
      · rename_i hne
        obtain ⟨b1, b2⟩ := hb p (by simp)
        rw [set2_get ow p _ T (by omega) (by omega) (by omega) k (by omega)]
        have hr := becV_range W sos hW T p
        split
        · rename_i hc
          exact .inr ⟨by rw [hc]; rfl, by rcases hr with h | h | h; exact .inl h; exact .inr h; exact absurd h hne⟩
        · exact .inl rfl
    · exact .inr ⟨by rw [h1]; simp, h2⟩
theorem PairsJust : parquetrylaw14_PairsJust.Pure := by
  intro l0 l1 l2 a3 a4 _ _ _ _ _ _ _ _ _ _ _
  refine Ev.rounds (g := fun k => parquetrylaw14_PairsJust.f k l0 l1 l2 a3 a4) ?_
  have hbig : Ev (fun k => parquetrylaw14_PairsJust.j0 k l0 l1 l2 a3 a4 (l0.length : Int) true) true := by
    refine Ev.step (f := fun k => (parquetrylaw14_awake.f k).bind fun t => some t) (fun k => ?_) (Ev.bind awakeQ (Ev.now _))
    simp only [parquetrylaw14_PairsJust.j0]
    rw [if_pos trivial]
  unfold parquetrylaw14_PairsJust.f
  by_cases h : (l0.length : Int) > 300
  · exact Ev.congr (fun k => if_pos h) hbig
  · refine Ev.congr (fun k => if_neg h) ?_
    by_cases h1 : l1.length = l0.length
    · refine Ev.congr (fun k => if_pos (by omega)) ?_
      by_cases h2 : l2.length = l0.length
      · have hb : ((l2.length : Int) != (l0.length : Int)) = false := by simp; omega
        rw [hb]
        obtain ⟨W, hWd⟩ : ∃ W : Int, W = if Go.bits .and .i64 a3 1 = 1 then 1 else 0 := ⟨_, rfl⟩
        have hW : W = 0 ∨ W = 1 := by rw [hWd]; split <;> simp
        obtain ⟨ps, hps⟩ : ∃ ps, ps = pairsW l0 l1 := ⟨_, rfl⟩
        have hpb : ∀ p ∈ ps, p.1 < p.2 ∧ p.2 < l0.length := by rw [hps]; exact pairsW_bound l0 l1
        have hpl : ps.length ≤ l0.length := by rw [hps]; exact pairsW_len l0 l1
        obtain ⟨L, hL⟩ : ∃ L, L = ps.foldl (braS l2 W a4) l0 := ⟨_, rfl⟩
        have hLl : L.length = l0.length := by
          have : ∀ (ps : List (Nat × Nat)) (T : List Int), (ps.foldl (braS l2 W a4) T).length = T.length := by
            intro ps
            induction ps with
            | nil => intro T; rfl
            | cons p r ih => intro T; rw [List.foldl_cons, ih, braS_len]
          rw [hL, this]
        have hj : ∀ k, k < l0.length → L.getD k 0 = l0.getD k 0 ∨ (ps.any (fun p => condB l2 p k) = true ∧ (L.getD k 0 = 0 ∨ L.getD k 0 = 1)) := fun k hk => by
          rw [hL]
          exact bra_just l2 W a4 hW l0.length h2 ps l0 rfl hpb k hk
        have loop : ∀ d i, d + i = l0.length → Ev (fun k => parquetrylaw14_PairsJust.l0 k l0 l2 (l0.length : Int) L (ps.map s31) (i : Int)) true := by
          intro d
          induction d with
          | zero =>
            intro i hi
            refine Ev.step (f := fun k => (parquetrylaw14_awake.f k).bind fun t => some t) (fun k => ?_) (Ev.bind awakeQ (Ev.now _))
            simp only [parquetrylaw14_PairsJust.l0]
            rw [if_neg (by omega)]
          | succ d ih =>
            intro i hi
            have ih := ih (i + 1) (by omega)
            have inner : ∀ (d2 q : Nat) (m : Bool), d2 + q = ps.length → (m || (ps.drop q).any (fun p => condB l2 p i)) = ps.any (fun p => condB l2 p i) → Ev (fun k => parquetrylaw14_PairsJust.l1 k l0 l2 (l0.length : Int) L (ps.map s31) (i : Int) m (q : Int)) true := by
              intro d2
              induction d2 with
              | zero =>
                intro q m hq hm
                rw [List.drop_of_length_le (by omega), List.any_nil, Bool.or_false] at hm
                refine Ev.step (fun k => ?_) ih
                simp only [parquetrylaw14_PairsJust.l1]
                rw [if_neg (by simp; omega), if_pos (by omega), if_pos (by omega), if_pos (by omega), rdB, rdB, wsuccB _ (by omega)]
                rcases hj i (by omega) with hj | ⟨hj1, hj2⟩
                · rw [if_pos hj]
                · by_cases he : L.getD i 0 = l0.getD i 0
                  · rw [if_pos he]
                  · rw [if_neg he, if_pos (hm.trans hj1)]
                    by_cases h0 : L.getD i 0 = 0
                    · rw [if_pos h0]
                    · rw [if_neg h0, if_pos (hj2.resolve_left h0)]
              | succ d2 ih2 =>
                intro q m hq hm
                have hql : q < ps.length := by omega
                rw [drop31 ps q hql, List.any_cons] at hm
                obtain ⟨p, hp⟩ : ∃ p, p = ps.getD q (0, 0) := ⟨_, rfl⟩
                have hpm : p ∈ ps := by rw [hp, List.getD_eq_getElem?_getD, List.getElem?_eq_getElem hql]; exact List.getElem_mem hql
                obtain ⟨b1, b2⟩ := hpb p hpm
                rw [← hp] at hm
                cases m with
                | true =>
                  refine Ev.step (fun k => ?_) (ih2 (q + 1) true (by omega) (by rw [← hm]; simp))
                  simp only [parquetrylaw14_PairsJust.l1]
                  rw [if_pos (by simp; omega), if_pos trivial, wsuccB _ (by omega)]
                | false =>
                  rw [Bool.false_or] at hm
                  have htrue : condB l2 p i = true → Ev (fun k => parquetrylaw14_PairsJust.l1 k l0 l2 (l0.length : Int) L (ps.map s31) (i : Int) true ((q + 1 : Nat) : Int)) true := fun h => ih2 (q + 1) true (by omega) (by rw [← hm, h])
                  by_cases e1 : i = p.1
                  · refine Ev.step (fun k => ?_) (htrue (by unfold condB; simp [e1]))
                    simp only [parquetrylaw14_PairsJust.l1]
                    rw [if_pos (by simp; omega), if_neg (by decide), if_pos (by omega), rd31 _ _ hql, ← hp, if_pos (by unfold s31; first | (simp only; omega) | simp only), wsuccB _ (by omega)]
                  · by_cases e2 : i = p.2
                    · refine Ev.step (fun k => ?_) (htrue (by unfold condB; simp [e2]))
                      simp only [parquetrylaw14_PairsJust.l1]
                      rw [if_pos (by simp; omega), if_neg (by decide), if_pos (by omega), rd31 _ _ hql, ← hp, if_neg (by unfold s31; simp only; omega), if_pos (by unfold s31; first | (simp only; omega) | simp only), wsuccB _ (by omega)]
                    · refine Ev.step (f := fun k => (parquetrylaw14_behind.f k l2 (p.1 : Int) (i : Int)).bind fun t323 => (if t323 = true then parquetrylaw14_PairsJust.l1 k l0 l2 (l0.length : Int) L (ps.map s31) (i : Int) true ((q + 1 : Nat) : Int) else ((parquetrylaw14_behind.f k l2 (p.2 : Int) (i : Int)).bind fun t325 => parquetrylaw14_PairsJust.l1 k l0 l2 (l0.length : Int) L (ps.map s31) (i : Int) t325 ((q + 1 : Nat) : Int)))) (fun k => ?_) ?_
                      · simp only [parquetrylaw14_PairsJust.l1]
                        rw [if_pos (by simp; omega), if_neg (by decide), if_pos (by omega), rd31 _ _ hql, ← hp, if_neg (by unfold s31; simp only; omega), if_neg (by unfold s31; simp only; omega), wsuccB _ (by omega)]
                        rfl
                      · refine Ev.bind (behind_ev l2 p.1 i (by omega) (by omega) (by omega)) ?_
                        cases m1 : marksB l2 p.1 i with
                        | true => exact Ev.congr (fun k => if_pos rfl) (htrue (by unfold condB; simp [m1]))
                        | false =>
                          refine Ev.congr (fun k => if_neg (by decide)) (Ev.bind (behind_ev l2 p.2 i (by omega) (by omega) (by omega)) ?_)
                          have hc : condB l2 p i = marksB l2 p.2 i := by
                            have n1 : (i == p.1) = false := by simpa using e1
                            have n2 : (i == p.2) = false := by simpa using e2
                            unfold condB
                            rw [n1, n2, m1]
                            rfl
                          exact ih2 (q + 1) _ (by omega) (by rw [← hm, hc])
            refine Ev.step (fun k => ?_) (inner ps.length 0 false (by omega) (by simp))
            simp only [parquetrylaw14_PairsJust.l0]
            rw [if_pos (by omega)]
            rfl
        refine Ev.step (fun k => ?_) (loop l0.length 0 (by omega))
        simp only [parquetrylaw14_PairsJust.j0]
        rw [if_neg (by decide), bracketsF l0 l1 l2 a3 a4 (by omega), findF l0 l1 (by omega), if_pos ⟨by omega, by omega⟩, if_pos (by omega)]
        simp only [Option.bind_some]
        unfold braW
        rw [← hWd, ← hps, ← hL, if_pos (by omega)]
        rfl
      · have hb : ((l2.length : Int) != (l0.length : Int)) = true := by simp; omega
        rw [hb]
        exact hbig
    · exact Ev.congr (fun k => if_neg (by omega)) hbig
end Go.Proofs.YtdpifkhkemeclaaDoor.Pure
