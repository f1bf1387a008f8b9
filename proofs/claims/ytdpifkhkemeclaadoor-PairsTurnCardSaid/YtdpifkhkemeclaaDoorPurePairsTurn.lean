/- PairsTurn, the plain law. -/
import Derived.Test.YtdpifkhkemeclaaDoorPLt
import Derived.Test.YtdpifkhkemeclaaDoorMn
namespace Go.Proofs.YtdpifkhkemeclaaDoor.Pure
open Go.RowKit Go.Proofs.YtdpifkhkemeclaaDoor.PQ Go.Proofs.YtdpifkhkemeclaaDoorW.PrintWords Go.Proofs.YtdpifkhkemeclaaDoorW.PrintLast
set_option linter.unusedVariables false
set_option linter.unusedSimpArgs false
def trn (c : Int) : Int := if c = 0 ∨ c = 1 then 1 - c else c
theorem trn_get (l : List Int) (i : Nat) (h : i < l.length) : (l.map trn).getD i 0 = trn (l.getD i 0) := by
  rw [List.getD_eq_getElem?_getD, List.getElem?_map, List.getD_eq_getElem?_getD, List.getElem?_eq_getElem h]
  rfl
theorem turned_ev (l : List Int) (hl : l.length ≤ 1048576) : Ev (fun k => parquetrylaw14_turned.f k l) (l.map trn) := by
  have hloop : ∀ (d i : Nat), d + i = l.length → Ev (fun k => parquetrylaw14_turned.l0 k l ((l.take i).map trn) (i : Int)) (l.map trn) := by
    intro d
    induction d with
    | zero =>
      intro i hi
      rw [List.take_of_length_le (by omega)]
      refine Ev.step (f := fun _ => some (l.map trn)) (fun k => ?_) (Ev.now _)
      simp only [parquetrylaw14_turned.l0]
      rw [if_neg (by omega)]
    | succ d ih =>
      intro i hi
      have ht : l.take (i + 1) = l.take i ++ [l.getD i 0] := by
        rw [List.take_succ_eq_append_getElem (by omega), List.getD_eq_getElem?_getD, List.getElem?_eq_getElem (by omega)]
        rfl
      have ih := ih (i + 1) (by omega)
      rw [ht, List.map_append] at ih
      refine Ev.step (fun k => ?_) ih
      simp only [parquetrylaw14_turned.l0]
      rw [if_pos (by omega), if_pos (by omega), rdB, wsuccB _ (by omega)]
      have hb : ((l.take i).map trn).length < 17592186044416 := by simp; omega
      simp only [if_pos hb, List.map_cons, List.map_nil]
      obtain ⟨c, hc⟩ : ∃ c, c = l.getD i 0 := ⟨_, rfl⟩
      rw [← hc]
      by_cases h0 : c = 0
      · have e : wrap64 (1 - c) = trn c := by rw [w64b (by omega) (by omega)]; unfold trn; rw [if_pos (by omega)]
        rw [if_pos h0, e]
      · by_cases h1 : c = 1
        · have e : wrap64 (1 - c) = trn c := by rw [w64b (by omega) (by omega)]; unfold trn; rw [if_pos (by omega)]
          rw [if_neg h0, if_pos h1, e]
        · have e : trn c = c := by unfold trn; rw [if_neg (by omega)]
          rw [if_neg h0, if_neg h1, e]
  exact hloop l.length 0 (by omega)
theorem likeQ (l : List Int) (hl : l.length ≤ 1048576) : Ev (fun k => parquetrylaw14_like.f k l l) true := by
  have hloop : ∀ (d i : Nat), l.length - i = d → i ≤ l.length → Ev (fun k => parquetrylaw14_like.l0 k l l (i : Int)) true := by
    intro d
    induction d with
    | zero =>
      intro i hd hi
      refine Ev.step (f := fun _ => some true) (fun k => ?_) (Ev.now _)
      simp only [parquetrylaw14_like.l0]
      rw [if_neg (by omega)]
    | succ d ih =>
      intro i hd hi
      refine Ev.step (fun k => ?_) (ih (i + 1) (by omega) (by omega))
      simp only [parquetrylaw14_like.l0]
      rw [if_pos (by omega), if_pos (by omega), if_pos (by omega), if_pos trivial, wsuccB _ (by omega)]
  refine Ev.congr (fun k => ?_) (hloop _ 0 rfl (Nat.zero_le _))
  unfold parquetrylaw14_like.f
  rw [if_pos rfl]; rfl

/-- No numbers stand in a row. -/
def NoNum (l : List Int) : Prop := ∀ c ∈ l, c ≠ 3 ∧ c ≠ 6
theorem letV_trn (c : Int) (h : c ≠ 3 ∧ c ≠ 6) : letV (trn c) = if letV c = -1 then -1 else 1 - letV c := by
  unfold letV trn
  by_cases h0 : c = 0
  · subst h0; rfl
  · by_cases h1 : c = 1
    · subst h1; rfl
    · simp [h0, h1, h.1, h.2]
theorem hasP_trn (x : Int) (hx : x = 0 ∨ x = 1) : ∀ l : List Int, NoNum l → hasP (l.map trn) (1 - x) = hasP l x
  | [], _ => rfl
  | c :: r, h => by
    have e1 : hasP (c :: r) x = ((letV c == x) || hasP r x) := rfl
    have e2 : hasP ((c :: r).map trn) (1 - x) = ((letV (trn c) == 1 - x) || hasP (r.map trn) (1 - x)) := rfl
    rw [e1, e2, hasP_trn x hx r (fun d hd => h d (by simp [hd])), letV_trn c (h c (by simp))]
    congr 1
    have := (letV_of c).2.2
    rw [Bool.eq_iff_iff, beq_iff_eq, beq_iff_eq]
    split <;> omega
theorem aheadP_trn : ∀ (l : List Int) (s : Int), NoNum l → aheadP (l.map trn) (1 - s) = 1 - aheadP l s
  | [], s, _ => rfl
  | c :: r, s, h => by
    rw [List.map_cons, aheadP_cons, aheadP_cons]
    have hr : NoNum r := fun d hd => h d (by simp [hd])
    obtain ⟨a1, a2, a3⟩ := letV_of c
    obtain ⟨b1, b2, b3⟩ := letV_of (trn c)
    have hl := letV_trn c (h c (by simp))
    by_cases hx : 0 ≤ letV c
    · have ha : (letterP c).2 = true := by rw [a1]; exact decide_eq_true hx
      have hb : (letterP (trn c)).2 = true := by rw [b1, hl]; exact decide_eq_true (by split <;> omega)
      rw [if_pos ha, if_pos hb, a2 ha, b2 hb, hl, if_neg (by omega)]
      exact aheadP_trn r _ hr
    · have ha : (letterP c).2 = false := by rw [a1]; exact decide_eq_false hx
      have hb : (letterP (trn c)).2 = false := by rw [b1, hl]; exact decide_eq_false (by split <;> omega)
      rw [if_neg (by rw [hb]; decide), if_neg (by rw [ha]; decide)]
      exact aheadP_trn r _ hr
theorem becV_trn (W sos : Int) (hW : W = 0 ∨ W = 1) (T : List Int) (hT : NoNum T) (p : Nat × Nat) : becV (1 - W) (1 - sos) (T.map trn) p = if becV W sos T p = -1 then -1 else 1 - becV W sos T p := by
  have hp : partL (T.map trn) p.1 p.2 = (partL T p.1 p.2).map trn := by
    unfold partL; rw [List.map_take, List.map_drop]
  have hpn : NoNum (partL T p.1 p.2) := fun c hc => hT c (List.mem_of_mem_drop (List.mem_of_mem_take hc))
  have htn : NoNum (T.take p.1) := fun c hc => hT c (List.mem_of_mem_take hc)
  have ha : aheadP ((T.map trn).take p.1) (1 - sos) = 1 - aheadP (T.take p.1) sos := by rw [← List.map_take]; exact aheadP_trn _ _ htn
  have h1 := hasP_trn W hW _ hpn
  have h2 := hasP_trn (1 - W) (by omega) _ hpn
  have n1 : ¬ W = -1 := by omega
  have n2 : ¬ 1 - W = W := by omega
  have n3 : ¬ 1 - W = -1 := by omega
  have n4 : 1 - (1 - W) = W := by omega
  have n5 : ¬ W = 1 - W := by omega
  unfold becV
  rw [insGo_has (1 - W) (by omega), insGo_has W hW, hp, h1, h2, ha]
  cases hasP (partL T p.1 p.2) W with
  | true => simp [n1, n3]
  | false =>
    cases hasP (partL T p.1 p.2) (1 - W) with
    | false => simp
    | true =>
      by_cases h3 : aheadP (T.take p.1) sos = 1 - W
      · simp [h3, n2, n3, n4, n5]
      · have h4 : ¬ 1 - aheadP (T.take p.1) sos = W := by omega
        simp [h3, h4, n1, n2, n4, n5]
theorem set_trn (ow : List Int) (w : Int) : ∀ (d i : Nat) (T : List Int), setGo ow (trn w) d i (T.map trn) = (setGo ow w d i T).map trn
  | 0, _, _ => rfl
  | d + 1, i, T => by
    unfold setGo
    split
    · rw [← List.map_set]; exact set_trn ow w d _ _
    · rfl
theorem setP_trn (ow : List Int) (a : Nat) (w : Int) (T : List Int) : setP ow a (trn w) (T.map trn) = (setP ow a w T).map trn := by
  unfold setP
  rw [← List.map_set]
  exact set_trn ow w _ _ _
theorem setGo_nonum (ow : List Int) (w : Int) (hw : w ≠ 3 ∧ w ≠ 6) : ∀ (d i : Nat) (T : List Int), NoNum T → NoNum (setGo ow w d i T)
  | 0, _, _, h => h
  | d + 1, i, T, h => by
    unfold setGo
    split
    · refine setGo_nonum ow w hw d _ _ (fun c hc => ?_)
      rcases List.mem_or_eq_of_mem_set hc with hc | rfl
      · exact h c hc
      · exact hw
    · exact h
theorem setP_nonum (ow : List Int) (a : Nat) (w : Int) (hw : w ≠ 3 ∧ w ≠ 6) (T : List Int) (h : NoNum T) : NoNum (setP ow a w T) := by
  unfold setP
  refine setGo_nonum ow w hw _ _ _ (fun c hc => ?_)
  rcases List.mem_or_eq_of_mem_set hc with hc | rfl
  · exact h c hc
  · exact hw
theorem bra_trn (ow : List Int) (W sos : Int) (hW : W = 0 ∨ W = 1) : ∀ (ps : List (Nat × Nat)) (T : List Int), NoNum T → ps.foldl (braS ow (1 - W) (1 - sos)) (T.map trn) = (ps.foldl (braS ow W sos) T).map trn
  | [], T, _ => rfl
  | p :: r, T, hT => by
    rw [List.foldl_cons, List.foldl_cons]
    have hr := becV_range W sos hW T p
    have e : braS ow (1 - W) (1 - sos) (T.map trn) p = (braS ow W sos T p).map trn ∧ NoNum (braS ow W sos T p) := by
      rw [braS_bec ow (1 - W) (1 - sos) (by omega), braS_bec ow W sos hW, becV_trn W sos hW T hT p]
      obtain ⟨c, hc⟩ : ∃ c, c = becV W sos T p := ⟨_, rfl⟩
      rw [← hc] at hr ⊢
      by_cases h1 : c = -1
      · rw [if_pos h1, if_pos rfl, if_pos h1]
        exact ⟨rfl, hT⟩
      · have ht : 1 - c = trn c := by unfold trn; rw [if_pos (by omega)]
        rw [if_neg h1, if_neg (by omega), if_neg h1, ht, setP_trn, setP_trn]
        exact ⟨rfl, setP_nonum _ _ _ (by omega) _ (setP_nonum _ _ _ (by omega) _ hT)⟩
    rw [e.1]
    exact bra_trn ow W sos hW r _ e.2
theorem findGo_trn (types codes : List Int) : ∀ (d i : Nat) (op : List Nat) (out : List (Nat × Nat)), d + i ≤ types.length → findGo (types.map trn) codes d i op out = findGo types codes d i op out
  | 0, _, _, _, _ => rfl
  | d + 1, i, op, out, hd => by
    have ht : ((types.map trn).getD i 0 ≠ 13) = (types.getD i 0 ≠ 13) := by
      rw [trn_get types i (by omega)]
      unfold trn
      refine propext ⟨fun h e => h ?_, fun h e => h ?_⟩
      · rw [if_neg (by omega)]; exact e
      · split at e
        · omega
        · exact e
    unfold findGo
    simp only [ht]
    rw [findGo_trn types codes d (i + 1) op out (by omega), findGo_trn types codes d (i + 1) (op ++ [i]) out (by omega)]
    split
    · rfl
    · split
      · rfl
      · split
        · rfl
        · rename_i x hx
          exact findGo_trn types codes d (i + 1) _ _ (by omega)
theorem bra_turn (types codes own : List Int) (level sos : Int) (hlev : level = 0 ∨ level = 1) (h : NoNum types) : braW (types.map trn) codes own (1 - level) (1 - sos) = (braW types codes own level sos).map trn := by
  have hp : pairsW (types.map trn) codes = pairsW types codes := by
    unfold pairsW
    rw [List.length_map, findGo_trn types codes types.length 0 [] [] (by omega)]
  unfold braW
  rw [hp, Base.and_one, Base.and_one]
  rcases hlev with rfl | rfl
  · exact bra_trn own 0 sos (.inl rfl) (pairsW types codes) types h
  · exact bra_trn own 1 sos (.inr rfl) (pairsW types codes) types h
theorem PairsTurn : parquetrylaw14_PairsTurn.Pure := by
  intro l0 l1 l2 a3 a4 _ _ _ _ _ _ _ _ _
  refine Ev.rounds (g := fun k => parquetrylaw14_PairsTurn.f k l0 l1 l2 a3 a4) ?_
  have haw : Ev (fun k => (parquetrylaw14_awake.f k).bind fun t => some t) true := Ev.bind awakeQ (Ev.now _)
  have hbig : Ev (fun k => parquetrylaw14_PairsTurn.j0 k l0 l1 l2 a3 a4 true) true := by
    refine Ev.step (fun k => ?_) haw
    simp only [parquetrylaw14_PairsTurn.j0]
    rw [if_pos trivial]
  unfold parquetrylaw14_PairsTurn.f
  by_cases h : (l0.length : Int) > 300
  · exact Ev.congr (fun k => if_pos h) hbig
  · refine Ev.congr (fun k => if_neg h) ?_
    by_cases h1 : (l1.length : Int) > 300
    · exact Ev.congr (fun k => if_pos h1) hbig
    · refine Ev.congr (fun k => if_neg h1) ?_
      by_cases h2 : (l2.length : Int) > 300
      · rw [decide_eq_true h2]
        exact hbig
      · rw [decide_eq_false h2]
        have j3 : ∀ level sos : Int, (level = 0 ∨ level = 1) → (sos = 0 ∨ sos = 1) → NoNum l0 → Ev (fun k => parquetrylaw14_PairsTurn.j3 k l0 l1 l2 level sos) true := by
          intro level sos hlev hsos hnn
          have hlen : ∀ (T : List Int) (W s : Int) (ps : List (Nat × Nat)), (ps.foldl (braS l2 W s) T).length = T.length := by
            intro T W s ps
            induction ps generalizing T with
            | nil => rfl
            | cons p r ih => rw [List.foldl_cons, ih, braS_len]
          obtain ⟨L, hL⟩ : ∃ L, L = (if l0.length = l1.length ∧ l2.length = l1.length then braW l0 l1 l2 level sos else []) := ⟨_, rfl⟩
          have hLl : L.length ≤ 1048576 := by
            rw [hL]
            split
            · unfold braW; rw [hlen]; omega
            · simp
          have hL2 : (if (l0.map trn).length = l1.length ∧ l2.length = l1.length then braW (l0.map trn) l1 l2 (1 - level) (1 - sos) else []) = L.map trn := by
            rw [hL, List.length_map]
            split
            · exact bra_turn l0 l1 l2 level sos hlev hnn
            · rfl
          refine Ev.step (f := fun k => (parquetrylaw14_turned.f k l0).bind fun t350 => (pairs_Brackets.f t350 l1 l2 (1 - level) (1 - sos)).bind fun t353 => ((parquetrylaw14_turned.f k L).bind fun t356 => ((parquetrylaw14_like.f k t356 t353).bind fun t359 => (if t359 = true then ((parquetrylaw14_awake.f k).bind fun t360 => (some t360)) else (some false))))) (fun k => ?_) ?_
          · simp only [parquetrylaw14_PairsTurn.j3]
            rw [bracketsF l0 l1 l2 level sos (by omega), ← hL, w64b (x := 1 - level) (by omega) (by omega), w64b (x := 1 - sos) (by omega) (by omega)]
            simp only [Option.bind_some]
          · refine Ev.bind (turned_ev l0 (by omega)) ?_
            rw [bracketsF (l0.map trn) l1 l2 (1 - level) (1 - sos) (by simp; omega), hL2]
            simp only [Option.bind_some]
            refine Ev.bind (turned_ev L hLl) (Ev.bind (likeQ (L.map trn) (by simpa using hLl)) ?_)
            simp only [if_true]
            exact haw
        have loop : ∀ d i, d + i = l0.length → (∀ c ∈ l0.take i, c ≠ 3 ∧ c ≠ 6) → Ev (fun k => parquetrylaw14_PairsTurn.l0 k l0 l1 l2 a3 a4 (i : Int)) true := by
          intro d
          induction d with
          | zero =>
            intro i hi hn
            rw [List.take_of_length_le (by omega)] at hn
            have fin : ∀ level : Int, (level = 0 ∨ level = 1) → Ev (fun k => parquetrylaw14_PairsTurn.j2 k l0 l1 l2 a4 level 0) true := by
              intro level hlev
              cases a4 with
              | true =>
                refine Ev.step (fun k => ?_) (j3 level 1 hlev (.inr rfl) hn)
                simp only [parquetrylaw14_PairsTurn.j2]
                rw [if_pos trivial]
              | false =>
                refine Ev.step (fun k => ?_) (j3 level 0 hlev (.inl rfl) hn)
                simp only [parquetrylaw14_PairsTurn.j2]
                rw [if_neg (by decide)]
            cases a3 with
            | true =>
              refine Ev.step (fun k => ?_) (fin 1 (.inr rfl))
              simp only [parquetrylaw14_PairsTurn.l0]
              rw [if_neg (by omega), if_pos trivial]
            | false =>
              refine Ev.step (fun k => ?_) (fin 0 (.inl rfl))
              simp only [parquetrylaw14_PairsTurn.l0]
              rw [if_neg (by omega), if_neg (by decide)]
          | succ d ih =>
            intro i hi hn
            by_cases h3 : l0.getD i 0 = 3
            · refine Ev.step (fun k => ?_) haw
              simp only [parquetrylaw14_PairsTurn.l0]
              rw [if_pos (by omega), if_pos (by omega), rdB, if_pos h3]
            · by_cases h6 : l0.getD i 0 = 6
              · refine Ev.step (fun k => ?_) haw
                simp only [parquetrylaw14_PairsTurn.l0]
                rw [if_pos (by omega), if_pos (by omega), rdB, if_neg h3, if_pos h6]
              · refine Ev.step (fun k => ?_) (ih (i + 1) (by omega) (fun c hc => ?_))
                · simp only [parquetrylaw14_PairsTurn.l0]
                  rw [if_pos (by omega), if_pos (by omega), rdB, if_neg h3, if_neg h6, wsuccB _ (by omega)]
                · rw [List.take_succ_eq_append_getElem (by omega)] at hc
                  rcases List.mem_append.1 hc with hc | hc
                  · exact hn c hc
                  · have := List.mem_singleton.1 hc
                    rw [List.getD_eq_getElem?_getD, List.getElem?_eq_getElem (show i < l0.length by omega)] at h3 h6
                    rw [this]
                    exact ⟨h3, h6⟩
        refine Ev.step (fun k => ?_) (loop l0.length 0 (by omega) (by simp))
        simp only [parquetrylaw14_PairsTurn.j0]
        rw [if_neg (by decide)]
        rfl
end Go.Proofs.YtdpifkhkemeclaaDoor.Pure
