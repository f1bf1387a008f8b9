/- BidiIsolates, the plain law. -/
import Derived.Test.YtdpifkhkemeclaaGreatPZi
import Derived.Test.YtdpifkhkemeclaaGreatYe
import Derived.Test.YtdpifkhkemeclaaGreatBits
namespace Go.Proofs.YtdpifkhkemeclaaGreat.Pure
open Go.RowKit Go.Proofs.Base Go.Proofs.YtdpifkhkemeclaaGreat Go.Proofs.YtdpifkhkemeclaaGreat.PZ Go.Proofs.YtdpifkhkemeclaaGreatW.PrintWords
set_option linter.unusedVariables false
set_option linter.unusedSimpArgs false
theorem awakeI : Ev (fun k => (lw_awake.f k).bind fun t => some t) true := Ev.bind (Ev.of lw_awake.mono lw_awake.run) (Ev.now _)
theorem runeI (l : List S38) (i : Nat) (h : i < l.length) : rd_T38 l (i : Int) = l[i] := by simp [rd_T38, List.getD_eq_getElem?_getD, h]
theorem opens_is (c : Int) : lw_opens.f c = some (opB c) := by
  unfold lw_opens.f opB
  by_cases h1 : c = 19
  · subst h1; rfl
  rw [if_neg h1]
  by_cases h2 : c = 20
  · subst h2; rfl
  rw [if_neg h2]
  simp [h1, h2]
theorem dropM (l : List S38) (i : Nat) (h : i < l.length) : (l.map clsR).drop i = clsR l[i] :: (l.map clsR).drop (i + 1) := by
  rw [List.drop_eq_getElem_cons (by simpa using h), List.getElem_map]
theorem closed_ev (l : List S38) (hl : l.length ≤ 1000) : ∀ (m i d : Nat), l.length - i = m → i ≤ l.length → d ≤ i → Ev (fun k => lw_closed.l0 k l (d : Int) (i : Int)) (decide (dpt ((l.map clsR).drop i) d = some 0)) := by
  intro m
  induction m with
  | zero =>
    intro i d hm hi hd
    rw [List.drop_of_length_le (by simp; omega)]
    have e : decide (dpt ([] : List Int) d = some 0) = (((d : Int)) == 0) := by
      rw [Bool.eq_iff_iff, decide_eq_true_eq, beq_iff_eq]
      show some d = some 0 ↔ _
      rw [Option.some.injEq]
      omega
    rw [e]
    refine Ev.step (f := fun k => lw_closed.j1 k l (d : Int) (i : Int) false) (fun k => ?_) (Ev.step (fun k => ?_) (Ev.now _))
    · simp only [lw_closed.l0]
      rw [if_neg (by omega)]
    · simp only [lw_closed.j1]
      rw [if_neg (by decide)]
  | succ m ih =>
    intro i d hm hi hd
    have hil : i < l.length := by omega
    have ei : wrap64 ((i : Int) + 1) = ((i + 1 : Nat) : Int) := wS1 i (by omega)
    have ed : wrap64 ((d : Int) + 1) = ((d + 1 : Nat) : Int) := wS1 d (by omega)
    have e1 : ∀ k, lw_closed.l0 (k + 1) l (d : Int) (i : Int) = lw_closed.j1 k l (d : Int) (i : Int) true := by
      intro k
      simp only [lw_closed.l0]
      rw [if_pos (by omega), decide_eq_true (by omega)]
    refine Ev.step e1 ?_
    rw [dropM l i hil, dpt_c]
    have e2 : ∀ k, lw_closed.j1 (k + 1) l (d : Int) (i : Int) true = (if opB (clsR l[i]) = true then (if clsR l[i] = 22 then (lw_closed.l0 k l (wrap64 (((d + 1 : Nat) : Int) - 1)) ((i + 1 : Nat) : Int)) else (lw_closed.l0 k l ((d + 1 : Nat) : Int) ((i + 1 : Nat) : Int))) else (if clsR l[i] = 22 then (lw_closed.l0 k l (wrap64 ((d : Int) - 1)) ((i + 1 : Nat) : Int)) else (lw_closed.l0 k l (d : Int) ((i + 1 : Nat) : Int)))) := by
      intro k
      simp only [lw_closed.j1]
      rw [if_pos trivial, if_pos (by omega), if_pos (by omega), runeI l i hil, clsR_some, Option.bind_some, opens_is, Option.bind_some, ei, ed]
    by_cases h22 : clsR l[i] = 22
    · rw [if_pos h22]
      have hno : ¬ opB (clsR l[i]) = true := by rw [h22]; decide
      cases d with
      | zero =>
        refine Ev.step (f := fun k => lw_closed.l0 k l (-1) ((i + 1 : Nat) : Int)) (fun k => by rw [e2, if_neg hno, if_pos h22, show wrap64 (((0 : Nat) : Int) - 1) = -1 from wI1 (by decide) (by decide)]) ?_
        refine Ev.step (f := fun k => lw_closed.j1 k l (-1) ((i + 1 : Nat) : Int) false) (fun k => ?_) (Ev.step (f := fun _ => some false) (fun k => ?_) ?_)
        · simp only [lw_closed.l0]
          split
          · rfl
          · rfl
        · simp only [lw_closed.j1]
          rw [if_neg (by decide)]
          rfl
        · exact Ev.now _
      | succ d =>
        have ew : wrap64 (((d + 1 : Nat) : Int) - 1) = (d : Int) := by rw [wI1 (by omega) (by omega)]; omega
        exact Ev.step (fun k => by rw [e2, if_neg hno, if_pos h22, ew]) (ih (i + 1) d (by omega) (by omega) (by omega))
    · rw [if_neg h22]
      by_cases ho : opB (clsR l[i]) = true
      · rw [if_pos ho]
        exact Ev.step (fun k => by rw [e2, if_pos ho, if_neg h22]) (ih (i + 1) (d + 1) (by omega) (by omega) (by omega))
      · rw [if_neg ho]
        exact Ev.step (fun k => by rw [e2, if_neg ho, if_neg h22]) (ih (i + 1) d (by omega) (by omega) (by omega))
theorem ends_ev (l : List S38) (hl : l.length ≤ 1000) : ∀ (m i : Nat), l.length - i = m → i ≤ l.length → Ev (fun k => lw_ends.l0 k l (i : Int)) (((l.map clsR).drop i).any fun c => decide (c = 10)) := by
  intro m
  induction m with
  | zero =>
    intro i hm hi
    rw [List.drop_of_length_le (by simp; omega)]
    refine Ev.step (fun k => ?_) (Ev.now _)
    simp only [lw_ends.l0]
    rw [if_neg (by omega)]
    rfl
  | succ m ih =>
    intro i hm hi
    have hil : i < l.length := by omega
    have e2 : ∀ k, lw_ends.l0 (k + 1) l (i : Int) = (if clsR l[i] = 10 then some true else lw_ends.l0 k l ((i + 1 : Nat) : Int)) := by
      intro k
      simp only [lw_ends.l0]
      rw [if_pos (by omega), if_pos (by omega), runeI l i hil, clsR_some, Option.bind_some, wS1 i (by omega)]
    rw [dropM l i hil, List.any_cons]
    by_cases h : clsR l[i] = 10
    · rw [decide_eq_true h, Bool.true_or]
      exact Ev.step (fun k => by rw [e2, if_pos h]) (Ev.now _)
    · rw [decide_eq_false h, Bool.false_or]
      exact Ev.step (fun k => by rw [e2, if_neg h]) (ih (i + 1) (by omega) (by omega))
theorem deep_ev (l : List S38) (hl : l.length ≤ 1000) : ∀ (m i d : Nat), l.length - i = m → i ≤ l.length → d ≤ i → Ev (fun k => lw_deep.l0 k l (d : Int) (i : Int)) (((d + ((l.map clsR).drop i).countP dpB : Nat)) : Int) := by
  intro m
  induction m with
  | zero =>
    intro i d hm hi hd
    rw [List.drop_of_length_le (by simp; omega)]
    refine Ev.step (fun k => ?_) (Ev.now _)
    simp only [lw_deep.l0]
    rw [if_neg (by omega)]
    rfl
  | succ m ih =>
    intro i d hm hi hd
    have hil : i < l.length := by omega
    have ed : wrap64 ((d : Int) + 1) = ((d + 1 : Nat) : Int) := wS1 d (by omega)
    have e2 : ∀ k, lw_deep.l0 (k + 1) l (d : Int) (i : Int) = (if dpB (clsR l[i]) = true then lw_deep.l0 k l ((d + 1 : Nat) : Int) ((i + 1 : Nat) : Int) else lw_deep.l0 k l (d : Int) ((i + 1 : Nat) : Int)) := by
      intro k
      simp only [lw_deep.l0]
      rw [if_pos (by omega), if_pos (by omega), runeI l i hil, clsR_some, Option.bind_some, wS1 i (by omega), ed, opens_is, Option.bind_some]
      unfold dpB
      by_cases h1 : clsR l[i] ≥ 14
      · rw [if_pos h1, decide_eq_true h1]
        by_cases h2 : clsR l[i] ≤ 17
        · rw [if_pos h2, decide_eq_true h2]; rfl
        · rw [if_neg h2, decide_eq_false h2]; rfl
      · rw [if_neg h1, decide_eq_false h1]; rfl
    rw [dropM l i hil, List.countP_cons]
    by_cases h : dpB (clsR l[i]) = true
    · rw [if_pos h, show d + (((l.map clsR).drop (i + 1)).countP dpB + 1) = d + 1 + ((l.map clsR).drop (i + 1)).countP dpB by omega]
      exact Ev.step (fun k => by rw [e2, if_pos h]) (ih (i + 1) (d + 1) (by omega) (by omega) (by omega))
    · rw [if_neg h, Nat.add_zero]
      exact Ev.step (fun k => by rw [e2, if_neg h]) (ih (i + 1) d (by omega) (by omega) (by omega))
theorem same_ev (x0 x1 x11 : List S38) (RL RM : List Int) (h : Agr x0.length x1.length x11.length RL RM) (hl : x11.length ≤ 1000 ∧ x1.length ≤ 1000) (ha : x0.length < x11.length) : ∀ (m i : Nat), x11.length - i = m → i ≤ x11.length → Ev (fun k => lw_BidiIsolates.l0 k x0 x1 x11 RL RM (i : Int)) true := by
  obtain ⟨h1, h2, h3⟩ := h
  intro m
  induction m with
  | zero =>
    intro i hm hi
    refine Ev.step (f := fun k => (lw_awake.f k).bind fun t => some t) (fun k => ?_) awakeI
    simp only [lw_BidiIsolates.l0]
    rw [if_neg (by omega)]
  | succ m ih =>
    intro i hm hi
    have hil : i < x11.length := by omega
    have c1 : (i : Int) < (x11.length : Int) := by omega
    have c2 : (0 : Int) ≤ (i : Int) := by omega
    have c3 : (i : Int) < (RL.length : Int) := by omega
    have c6 : x11.length - (i + 1) = m := by omega
    have es : wrap64 ((i : Int) + 1) = ((i + 1 : Nat) : Int) := wS1 i (by omega)
    refine Ev.step (fun k => ?_) (ih (i + 1) c6 hil)
    simp only [lw_BidiIsolates.l0]
    clear ih
    by_cases hc : x0.length < i
    · have c4 : (0 : Int) ≤ ((i + x1.length : Nat) : Int) := by clear es; omega
      have c5 : ((i + x1.length : Nat) : Int) < (RM.length : Int) := by clear es; omega
      have c7 : (i : Int) > (x0.length : Int) := by clear es; omega
      have ew : wrap64 ((i : Int) + (x1.length : Int)) = ((i + x1.length : Nat) : Int) := by clear es; rw [wI1 (by omega) (by omega)]; omega
      have e := h3 i hil
      rw [phi_gt hc] at e
      rw [if_pos c1, if_pos c7, if_pos c2, if_pos c3, ew, if_pos c4, if_pos c5, rd_nat RL i, rd_nat RM (i + x1.length), if_pos e.symm, es]
    · have c5 : (i : Int) < (RM.length : Int) := by clear es; omega
      have c7 : ¬ (i : Int) > (x0.length : Int) := by clear es; omega
      have e := h3 i hil
      rw [phi_le (Nat.le_of_not_lt hc)] at e
      rw [if_pos c1, if_neg c7, if_pos c2, if_pos c3, if_pos c5, rd_nat RL i, rd_nat RM i, if_pos e.symm, es]
theorem and255 (x : Int) : Go.bits .and .i64 x 255 = x % 256 := and_mask x 8 (by decide)
theorem init_is (x : Int) : ∃ t, (⟨0, 3, wrap64 (8294 + (Int.tmod (Go.bits .and .i64 x 255) 3))⟩ : S38) = ⟨0, 3, t⟩ ∧ opB (clsR (⟨0, 3, t⟩ : S38)) = true := by
  rw [and255, Int.tmod_eq_emod_of_nonneg (by omega), wI1 (by omega) (by omega)]
  refine ⟨_, rfl, ?_⟩
  have h : x % 256 % 3 = 0 ∨ x % 256 % 3 = 1 ∨ x % 256 % 3 = 2 := by omega
  rcases h with h | h | h
  · rw [h]
    show opB (clsR (⟨0, 3, 8294⟩ : S38)) = true
    kernel_rfl
  · rw [h]
    show opB (clsR (⟨0, 3, 8295⟩ : S38)) = true
    kernel_rfl
  · rw [h]
    show opB (clsR (⟨0, 3, 8296⟩ : S38)) = true
    kernel_rfl
theorem pdi_is : clsR (⟨0, 3, 8297⟩ : S38) = 22 := by kernel_rfl
theorem j0_at (k : Nat) (x0 x1 x2 : List S38) (x3 x4 : Int) (h0 : x0.length ≤ 150) (h1 : x1.length ≤ 150) (h2 : x2.length ≤ 150) :
    lw_BidiIsolates.j0 (k + 1) x0 x1 x2 x3 x4 false = ((bidi_Resolve.f (x0 ++ (⟨0, 3, wrap64 (8294 + (Int.tmod (Go.bits .and .i64 x3 255) 3))⟩ : S38) :: (⟨0, 3, 8297⟩ : S38) :: x2) (Go.bits .and .i64 x4 1)).bind fun t253 => ((bidi_Resolve.f (x0 ++ (⟨0, 3, wrap64 (8294 + (Int.tmod (Go.bits .and .i64 x3 255) 3))⟩ : S38) :: (x1 ++ (⟨0, 3, 8297⟩ : S38) :: x2)) (Go.bits .and .i64 x4 1)).bind fun t256 => (if (t253.length : Int) = ((x0 ++ (⟨0, 3, wrap64 (8294 + (Int.tmod (Go.bits .and .i64 x3 255) 3))⟩ : S38) :: (⟨0, 3, 8297⟩ : S38) :: x2).length : Int) then (lw_BidiIsolates.j1 k x0 x1 (x0 ++ (⟨0, 3, wrap64 (8294 + (Int.tmod (Go.bits .and .i64 x3 255) 3))⟩ : S38) :: (⟨0, 3, 8297⟩ : S38) :: x2) t253 t256 ((t256.length : Int) != ((x0 ++ (⟨0, 3, wrap64 (8294 + (Int.tmod (Go.bits .and .i64 x3 255) 3))⟩ : S38) :: (x1 ++ (⟨0, 3, 8297⟩ : S38) :: x2)).length : Int))) else (lw_BidiIsolates.j1 k x0 x1 (x0 ++ (⟨0, 3, wrap64 (8294 + (Int.tmod (Go.bits .and .i64 x3 255) 3))⟩ : S38) :: (⟨0, 3, 8297⟩ : S38) :: x2) t253 t256 true)))) := by
  simp only [lw_BidiIsolates.j0]
  generalize (⟨0, 3, wrap64 (8294 + (Int.tmod (Go.bits .and .i64 x3 255) 3))⟩ : S38) = u
  generalize (⟨0, 3, 8297⟩ : S38) = v
  rw [if_neg (by decide)]
  simp only [Option.bind_some]
  have eL : ((([] : List S38) ++ x0) ++ [u]) ++ [v] ++ x2 = x0 ++ u :: v :: x2 := by simp
  have eM : ((([] : List S38) ++ ((([] : List S38) ++ x0) ++ [u])) ++ x1) ++ [v] ++ x2 = x0 ++ u :: (x1 ++ v :: x2) := by simp
  rw [if_pos (by simp; omega), if_pos (by simp; omega), if_pos (by simp; omega), if_pos (by simp; omega), if_pos (by simp; omega), if_pos (by simp; omega), if_pos (by simp; omega), if_pos (by simp; omega), eL, eM]
theorem BidiIsolates (l0 l1 l2 : List S38) (a3 a4 : Int) : ∃ k, lw_BidiIsolates.f k l0 l1 l2 a3 a4 = some true := by
  refine Ev.rounds (g := fun k => lw_BidiIsolates.f k l0 l1 l2 a3 a4) ?_
  have hT : Ev (fun k => lw_BidiIsolates.j0 k l0 l1 l2 a3 a4 true) true := Ev.step (f := fun k => (lw_awake.f k).bind fun t => some t) (fun k => by simp only [lw_BidiIsolates.j0]; rw [if_pos trivial]) awakeI
  unfold lw_BidiIsolates.f
  by_cases g0 : (l0.length : Int) > 150
  · exact Ev.congr (fun k => if_pos g0) hT
  refine Ev.congr (fun k => if_neg g0) ?_
  by_cases g1 : (l1.length : Int) > 150
  · exact Ev.congr (fun k => if_pos g1) hT
  refine Ev.congr (fun k => if_neg g1) ?_
  by_cases g2 : (l2.length : Int) > 150
  · exact Ev.congr (fun k => if_pos g2) hT
  refine Ev.congr (fun k => if_neg g2) ?_
  refine Ev.bind (closed_ev l1 (by omega) l1.length 0 0 rfl (Nat.zero_le _) (Nat.zero_le _)) ?_
  rw [List.drop_zero]
  by_cases g3' : ¬ (dpt (l1.map clsR) 0 = some 0)
  · rw [decide_eq_false g3']
    exact Ev.congr (fun k => if_neg (by decide)) hT
  have g3 : dpt (l1.map clsR) 0 = some 0 := Classical.not_not.1 g3'
  rw [decide_eq_true g3]
  refine Ev.congr (fun k => if_pos rfl) ?_
  refine Ev.bind (ends_ev l0 (by omega) l0.length 0 rfl (Nat.zero_le _)) ?_
  rw [List.drop_zero]
  cases g4 : (l0.map clsR).any fun c => decide (c = 10) with
  | true => exact Ev.congr (fun k => if_pos rfl) hT
  | false =>
  refine Ev.congr (fun k => if_neg (by decide)) ?_
  refine Ev.bind (ends_ev l1 (by omega) l1.length 0 rfl (Nat.zero_le _)) ?_
  rw [List.drop_zero]
  cases g5 : (l1.map clsR).any fun c => decide (c = 10) with
  | true => exact Ev.congr (fun k => if_pos rfl) hT
  | false =>
  refine Ev.congr (fun k => if_neg (by decide)) ?_
  refine Ev.bind (ends_ev l2 (by omega) l2.length 0 rfl (Nat.zero_le _)) ?_
  rw [List.drop_zero]
  cases g6 : (l2.map clsR).any fun c => decide (c = 10) with
  | true => exact Ev.congr (fun k => if_pos rfl) hT
  | false =>
  refine Ev.congr (fun k => if_neg (by decide)) ?_
  refine Ev.bind (deep_ev l0 (by omega) l0.length 0 0 rfl (Nat.zero_le _) (Nat.zero_le _)) ?_
  rw [List.drop_zero, Nat.zero_add]
  by_cases g7 : (((l0.map clsR).countP dpB : Nat) : Int) > 60
  · rw [decide_eq_true g7]
    exact hT
  rw [decide_eq_false g7]
  have hn : ∀ (l : List S38), ((l.map clsR).any fun c => decide (c = 10)) = false → ∀ c ∈ l.map clsR, c ≠ 10 := by
    intro l h c hc e
    have := List.any_eq_false.1 h c hc
    simp [e] at this
  obtain ⟨t, ht, ho⟩ := init_is a3
  have hp : Go.bits .and .i64 a4 1 = 0 ∨ Go.bits .and .i64 a4 1 = 1 := by rw [and_one]; omega
  have hP : IsoP (l0.map clsR) (l1.map clsR) (l2.map clsR) (clsR (⟨0, 3, t⟩ : S38)) (Go.bits .and .i64 a4 1) := ⟨⟨ho, g3⟩, hp, by omega, hn l0 g4, hn l1 g5, hn l2 g6⟩
  obtain ⟨RL, RM, r1, r2, r3⟩ := iso_resolve l0 l1 l2 ⟨0, 3, t⟩ ⟨0, 3, 8297⟩ _ hP pdi_is (by omega)
  have nL : (l0 ++ (⟨0, 3, t⟩ : S38) :: (⟨0, 3, 8297⟩ : S38) :: l2).length = l0.length + 2 + l2.length := by simp; omega
  have nM : (l0 ++ (⟨0, 3, t⟩ : S38) :: (l1 ++ (⟨0, 3, 8297⟩ : S38) :: l2)).length = l0.length + 2 + l2.length + l1.length := by simp; omega
  refine Ev.step (fun k => ?_) (Ev.step (f := fun k => lw_BidiIsolates.l0 k l0 l1 (l0 ++ (⟨0, 3, t⟩ : S38) :: (⟨0, 3, 8297⟩ : S38) :: l2) RL RM ((0 : Nat) : Int)) (g := fun k => lw_BidiIsolates.j1 k l0 l1 (l0 ++ (⟨0, 3, t⟩ : S38) :: (⟨0, 3, 8297⟩ : S38) :: l2) RL RM false) (fun k => ?_) (same_ev l0 l1 _ RL RM (by rw [nL]; exact r3) (by omega) (by omega) _ 0 rfl (Nat.zero_le _)))
  · rw [j0_at k l0 l1 l2 a3 a4 (by omega) (by omega) (by omega), ht, r1, Option.bind_some, r2, Option.bind_some, if_pos (by rw [nL, r3.1]), nM, r3.2.1]
    rw [bne_self_eq_false]
  · simp only [lw_BidiIsolates.j1]
    rw [if_neg (by decide)]
    rfl
end Go.Proofs.YtdpifkhkemeclaaGreat.Pure
