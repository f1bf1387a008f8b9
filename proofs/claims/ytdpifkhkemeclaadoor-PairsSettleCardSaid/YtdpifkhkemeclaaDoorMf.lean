/- What a sequence becomes by its brackets: the document's rule is the program's. -/
import Derived.Test.YtdpifkhkemeclaaDoorPQc
import Derived.Test.YtdpifkhkemeclaaDoorMe
namespace Go.Proofs.YtdpifkhkemeclaaDoor
open Go.RowKit Go.Proofs.YtdpifkhkemeclaaDoorW.PrintWords
set_option linter.unusedVariables false
set_option linter.unusedSimpArgs false

theorem letterF (c : Int) : PQ.parquetryref14_Letter.f c = some (letV c) := by
  unfold PQ.parquetryref14_Letter.f letV
  split
  · rfl
  · split
    · rfl
    · split
      · rfl
      · split <;> rfl
theorem has_ev (l : List Int) (x : Int) (hl : l.length ≤ 1048576) : Ev (fun k => PQ.parquetryref14_has.f k l x) (hasP l x) := by
  have hloop : ∀ (d i : Nat), l.length - i = d → i ≤ l.length → Ev (fun k => PQ.parquetryref14_has.l0 k l x (i : Int)) (hasP (l.drop i) x) := by
    intro d
    induction d with
    | zero =>
      intro i hd hi
      rw [List.drop_of_length_le (by omega)]
      refine Ev.step (f := fun _ => some false) (fun k => ?_) (Ev.now _)
      simp only [PQ.parquetryref14_has.l0]
      rw [if_neg (by omega)]
    | succ d ih =>
      intro i hd hi
      rw [dropAt l i (by omega)]
      unfold hasP
      rw [List.any_cons]
      by_cases hx : letV (l.getD i 0) = x
      · rw [hx]
        refine Ev.step (f := fun _ => some true) (fun k => ?_) (ev_same (Ev.now _) (by simp))
        simp only [PQ.parquetryref14_has.l0]
        rw [if_pos (by omega), if_pos (by omega), rdB, letterF]
        simp only [Option.bind_some]
        rw [if_pos hx]
      · have e : (letV (l.getD i 0) == x) = false := by simpa using hx
        rw [e, Bool.false_or]
        refine Ev.step (fun k => ?_) (ih (i + 1) (by omega) (by omega))
        simp only [PQ.parquetryref14_has.l0]
        rw [if_pos (by omega), if_pos (by omega), rdB, letterF]
        simp only [Option.bind_some]
        rw [if_neg hx, wsuccB _ (by omega)]
  exact hloop l.length 0 (by omega) (by omega)
theorem ahead_ev (l : List Int) (s : Int) (hl : l.length ≤ 1048576) : Ev (fun k => PQ.parquetryref14_Ahead.f k l s) (aheadP l s) := by
  have hloop : ∀ (d i : Nat) (s : Int), l.length - i = d → i ≤ l.length → Ev (fun k => PQ.parquetryref14_Ahead.l0 k l s (i : Int)) (aheadP (l.drop i) s) := by
    intro d
    induction d with
    | zero =>
      intro i s hd hi
      rw [List.drop_of_length_le (by omega)]
      refine Ev.step (f := fun _ => some s) (fun k => ?_) (Ev.now _)
      simp only [PQ.parquetryref14_Ahead.l0]
      rw [if_neg (by omega)]
    | succ d ih =>
      intro i s hd hi
      rw [dropAt l i (by omega), aheadP_cons]
      obtain ⟨h1, h2, _⟩ := letV_of (l.getD i 0)
      by_cases hx : 0 ≤ letV (l.getD i 0)
      · have hb : (letterP (l.getD i 0)).2 = true := by rw [h1]; exact decide_eq_true hx
        rw [if_pos hb, h2 hb]
        refine Ev.step (fun k => ?_) (ih (i + 1) _ (by omega) (by omega))
        simp only [PQ.parquetryref14_Ahead.l0]
        rw [if_pos (by omega), if_pos (by omega), rdB, letterF]
        simp only [Option.bind_some]
        rw [if_pos hx, wsuccB _ (by omega)]
      · have hb : (letterP (l.getD i 0)).2 = false := by rw [h1]; exact decide_eq_false hx
        rw [if_neg (by rw [hb]; decide)]
        refine Ev.step (fun k => ?_) (ih (i + 1) _ (by omega) (by omega))
        simp only [PQ.parquetryref14_Ahead.l0]
        rw [if_pos (by omega), if_pos (by omega), rdB, letterF]
        simp only [Option.bind_some]
        rw [if_neg (by omega), wsuccB _ (by omega)]
  exact hloop l.length 0 s (by omega) (by omega)

theorem becomes_ev (W sos : Int) (hW : W = 0 ∨ W = 1) (T : List Int) (p : Nat × Nat) (h1 : p.1 < p.2) (h2 : p.2 < T.length) (hl : T.length ≤ 1048576) :
    Ev (fun k => PQ.parquetryref14_becomes.f k T (p.1 : Int) (p.2 : Int) W sos) (becV W sos T p) := by
  have hpart : (T.take p.2).drop (p.1 + 1) = partL T p.1 p.2 := by
    unfold partL; rw [List.drop_take]
  have hw : wrap64 (1 - W) = 1 - W := w64b (by omega) (by omega)
  have hpl : (partL T p.1 p.2).length ≤ 1048576 := by rw [← hpart]; simp; omega
  refine Ev.congr (f := fun k => (PQ.parquetryref14_has.f k (partL T p.1 p.2) W).bind fun t241 => (if t241 = true then (some W) else ((PQ.parquetryref14_has.f k (partL T p.1 p.2) (1 - W)).bind fun t242 => (if t242 = true then ((PQ.parquetryref14_Ahead.f k (T.take p.1) sos).bind fun t244 => (if t244 = 1 - W then (some (1 - W)) else (some W))) else (some (-1)))))) (fun k => ?_) ?_
  · unfold PQ.parquetryref14_becomes.f
    rw [wsuccB _ (by omega), hw, if_pos (by omega), if_pos (by omega), if_pos (by omega), if_pos (show (0 : Int) ≤ (p.1 : Int) by omega), if_pos (show (p.1 : Int) ≤ (T.length : Int) by omega)]
    simp only [Int.toNat_natCast]
    rw [hpart]
  · refine Ev.bind (has_ev _ W hpl) ?_
    unfold becV
    rw [insGo_has W hW]
    cases ha : hasP (partL T p.1 p.2) W with
    | true =>
      simp
      exact Ev.now _
    | false =>
      simp only [if_false, Bool.false_eq_true]
      refine Ev.bind (has_ev _ (1 - W) hpl) ?_
      cases hb : hasP (partL T p.1 p.2) (1 - W) with
      | false =>
        simp only [if_false, Bool.false_eq_true]
        exact Ev.now _
      | true =>
        simp only [if_true]
        refine Ev.bind (ahead_ev (T.take p.1) sos (by simp; omega)) ?_
        have hne : (1 - W) ≠ W := by omega
        by_cases hah : aheadP (T.take p.1) sos = 1 - W
        · rw [if_pos hah, if_neg (fun a => a.2 hah)]
          exact Ev.now _
        · rw [if_neg hah, if_pos ⟨hne, hah⟩]
          exact Ev.now _

theorem marks_ev (ow : List Int) (a k : Nat) (hk : k < ow.length) (hl : ow.length ≤ 1048576) (ha : a < ow.length) : Ev (fun n => PQ.parquetryref14_marks.f n ow (a : Int) (k : Int)) (marksB ow a k) := by
  have hloop : ∀ (d i : Nat), k + 1 - i = d → a < i → (∀ j, a < j → j < i → ow.getD j 0 = 8) → i ≤ ow.length → Ev (fun n => PQ.parquetryref14_marks.l0 n ow (a : Int) (k : Int) (i : Int)) (marksB ow a k) := by
    intro d
    induction d with
    | zero =>
      intro i hd hai hall hi
      refine Ev.step (f := fun _ => some (marksB ow a k)) (fun n => ?_) (Ev.now _)
      simp only [PQ.parquetryref14_marks.l0]
      rw [if_neg (by omega)]
      congr 1
      by_cases h : a < k
      · rw [(marksB_iff ow a k).2 ⟨h, fun j h1 h2 => hall j h1 (by omega)⟩]
        exact decide_eq_true (by omega)
      · have : marksB ow a k = false := by
          cases hb : marksB ow a k with
          | false => rfl
          | true => exact absurd ((marksB_iff ow a k).1 hb).1 h
        rw [this]
        exact decide_eq_false (by omega)
    | succ d ih =>
      intro i hd hai hall hi
      by_cases h8 : ow.getD i 0 = 8
      · refine Ev.step (fun n => ?_) (ih (i + 1) (by omega) (by omega) (fun j h1 h2 => by
          by_cases e : j = i
          · rw [e]; exact h8
          · exact hall j h1 (by omega)) (by omega))
        simp only [PQ.parquetryref14_marks.l0]
        rw [if_pos (by omega), if_pos (by omega), if_pos (by omega), rdB, if_pos h8, wsuccB _ (by omega)]
      · have : marksB ow a k = false := by
          cases hb : marksB ow a k with
          | false => rfl
          | true => exact absurd (((marksB_iff ow a k).1 hb).2 i hai (by omega)) h8
        rw [this]
        refine Ev.step (f := fun _ => some false) (fun n => ?_) (Ev.now _)
        simp only [PQ.parquetryref14_marks.l0]
        rw [if_pos (by omega), if_pos (by omega), if_pos (by omega), rdB, if_neg h8]
  unfold PQ.parquetryref14_marks.f
  rw [wsuccB _ (by omega)]
  exact hloop _ (a + 1) rfl (by omega) (fun j h1 h2 => by omega) (by omega)

/-- The row with the first places done. -/
def mixL (ow : List Int) (p : Nat × Nat) (c : Int) (T : List Int) (i : Nat) : List Int := (List.range T.length).map fun k => if (decide (k < i) && condB ow p k) = true then c else T.getD k 0
theorem mixL_len (ow : List Int) (p : Nat × Nat) (c : Int) (T : List Int) (i : Nat) : (mixL ow p c T i).length = T.length := by simp [mixL]
theorem mixL_get (ow : List Int) (p : Nat × Nat) (c : Int) (T : List Int) (i k : Nat) (hk : k < T.length) : (mixL ow p c T i)[k]? = some (if (decide (k < i) && condB ow p k) = true then c else T.getD k 0) := by
  unfold mixL
  rw [List.getElem?_map, List.getElem?_range hk]; rfl
theorem mixL_zero (ow : List Int) (p : Nat × Nat) (c : Int) (T : List Int) : mixL ow p c T 0 = T := by
  refine ext_len (mixL_len _ _ _ _ _) (fun k hk => ?_)
  rw [mixL_len] at hk
  rw [mixL_get _ _ _ _ _ _ hk, List.getD_eq_getElem?_getD, List.getElem?_eq_getElem hk]
  simp
theorem mixL_yes (ow : List Int) (p : Nat × Nat) (c : Int) (T : List Int) (i : Nat) (hi : i < T.length) (h : condB ow p i = true) : (mixL ow p c T i).set i c = mixL ow p c T (i + 1) := by
  refine ext_len (by rw [List.length_set, mixL_len, mixL_len]) (fun k hk => ?_)
  rw [List.length_set, mixL_len] at hk
  rw [List.getElem?_set, mixL_get _ _ _ _ _ _ hk, mixL_get _ _ _ _ _ _ hk, mixL_len]
  by_cases hki : i = k
  · subst hki; simp [hi, h]
  · rw [if_neg hki]
    have e : decide (k < i) = decide (k < i + 1) := decide_eq_decide.2 (by omega)
    rw [e]
theorem mixL_no (ow : List Int) (p : Nat × Nat) (c : Int) (T : List Int) (i : Nat) (h : condB ow p i = false) : mixL ow p c T i = mixL ow p c T (i + 1) := by
  refine ext_len (by rw [mixL_len, mixL_len]) (fun k hk => ?_)
  rw [mixL_len] at hk
  rw [mixL_get _ _ _ _ _ _ hk, mixL_get _ _ _ _ _ _ hk]
  by_cases hki : i = k
  · subst hki; simp [h]
  · have e : decide (k < i) = decide (k < i + 1) := decide_eq_decide.2 (by omega)
    rw [e]
theorem mixL_all (ow : List Int) (p : Nat × Nat) (c : Int) (T : List Int) (hl : T.length = ow.length) (h1 : p.1 < T.length) (h2 : p.2 < T.length) : mixL ow p c T T.length = setP ow p.2 c (setP ow p.1 c T) := by
  have hlen : (setP ow p.2 c (setP ow p.1 c T)).length = T.length := by rw [setP_len, setP_len]
  refine ext_len (by rw [mixL_len, hlen]) (fun k hk => ?_)
  rw [mixL_len] at hk
  rw [mixL_get _ _ _ _ _ _ hk, List.getElem?_eq_getElem (by rw [hlen]; exact hk)]
  have := set2_get ow p c T hl h1 h2 k hk
  rw [List.getD_eq_getElem?_getD, List.getElem?_eq_getElem (by rw [hlen]; exact hk)] at this
  simp only [Option.getD_some] at this
  rw [this]
  simp [hk]

theorem refB_l1 (ow : List Int) (W sos c : Int) (hc : 0 ≤ c) (T : List Int) (ps : List (Nat × Nat)) (pi : Nat) (hpi : pi < ps.length) (hl : T.length = ow.length) (hT : T.length ≤ 1048576) (hps : ps.length ≤ 1048576) (p : Nat × Nat) (hp : p = ps.getD pi (0, 0)) (h1 : p.1 < T.length) (h2 : p.2 < T.length) (r : List Int)
    (hk : Ev (fun k => PQ.parquetryref14_Brackets.l0 k ow sos W (setP ow p.2 c (setP ow p.1 c T)) (ps.map s31) ((pi + 1 : Nat) : Int)) r) :
    ∀ (d i : Nat), d + i = T.length → Ev (fun k => PQ.parquetryref14_Brackets.l1 k ow sos W (mixL ow p c T i) (ps.map s31) (pi : Int) c (i : Int)) r := by
  intro d
  induction d with
  | zero =>
    intro i hi
    have e : i = T.length := by omega
    subst e
    rw [mixL_all ow p c T hl h1 h2]
    refine Ev.step (f := fun k => PQ.parquetryref14_Brackets.j4 k ow sos W (setP ow p.2 c (setP ow p.1 c T)) (ps.map s31) (pi : Int) c (T.length : Int) false) (fun k => ?_) (Ev.step (fun k => ?_) hk)
    · simp only [PQ.parquetryref14_Brackets.l1]
      rw [if_neg (by rw [setP_len, setP_len]; omega)]
    · simp only [PQ.parquetryref14_Brackets.j4]
      rw [if_neg (by decide), wsuccB _ (by omega)]
  | succ d ih =>
    intro i hi
    have ih := ih (i + 1) (by omega)
    have hil : i < T.length := by omega
    have hmlen := mixL_len ow p c T i
    have hyes : condB ow p i = true → Ev (fun k => PQ.parquetryref14_Brackets.l1 k ow sos W ((mixL ow p c T i).set i c) (ps.map s31) (pi : Int) c ((i + 1 : Nat) : Int)) r := fun h => by rw [mixL_yes ow p c T i hil h]; exact ih
    refine Ev.step (f := fun k => PQ.parquetryref14_Brackets.j4 k ow sos W (mixL ow p c T i) (ps.map s31) (pi : Int) c (i : Int) true) (fun k => ?_) ?_
    · simp only [PQ.parquetryref14_Brackets.l1]
      rw [if_pos (by rw [mixL_len]; omega), decide_eq_true (show c ≥ 0 by omega)]
    · by_cases e1 : i = p.1
      · refine Ev.step (fun k => ?_) (hyes (by unfold condB; simp [e1]))
        simp only [PQ.parquetryref14_Brackets.j4]
        rw [if_pos trivial, if_pos (by omega), if_pos (by simp; omega), rd31 _ _ hpi, ← hp, if_pos (by unfold s31; simp only; omega), if_pos (by omega), if_pos (by rw [mixL_len]; omega), wsuccB _ (by omega), Int.toNat_natCast]
      · by_cases e2 : i = p.2
        · refine Ev.step (fun k => ?_) (hyes (by unfold condB; simp [e2]))
          simp only [PQ.parquetryref14_Brackets.j4]
          rw [if_pos trivial, if_pos (by omega), if_pos (by simp; omega), rd31 _ _ hpi, ← hp, if_neg (by unfold s31; simp only; omega), if_pos (by unfold s31; simp only; omega), if_pos (by omega), if_pos (by rw [mixL_len]; omega), wsuccB _ (by omega), Int.toNat_natCast]
        · refine Ev.step (f := fun k => (PQ.parquetryref14_marks.f k ow (p.1 : Int) (i : Int)).bind fun t262 => (if t262 = true then PQ.parquetryref14_Brackets.l1 k ow sos W ((mixL ow p c T i).set i c) (ps.map s31) (pi : Int) c ((i + 1 : Nat) : Int) else ((PQ.parquetryref14_marks.f k ow (p.2 : Int) (i : Int)).bind fun t265 => (if t265 = true then PQ.parquetryref14_Brackets.l1 k ow sos W ((mixL ow p c T i).set i c) (ps.map s31) (pi : Int) c ((i + 1 : Nat) : Int) else PQ.parquetryref14_Brackets.l1 k ow sos W (mixL ow p c T i) (ps.map s31) (pi : Int) c ((i + 1 : Nat) : Int))))) (fun k => ?_) ?_
          · simp only [PQ.parquetryref14_Brackets.j4]
            rw [if_pos trivial, if_pos (by omega), if_pos (by simp; omega), rd31 _ _ hpi, ← hp, if_neg (by unfold s31; simp only; omega), if_neg (by unfold s31; simp only; omega), wsuccB _ (by omega), Int.toNat_natCast]
            simp only [s31, hmlen]
            rw [if_pos (show (0 : Int) ≤ (i : Int) by omega), if_pos (show (i : Int) < (T.length : Int) by omega)]
          · refine Ev.bind (marks_ev ow p.1 i (by omega) (by omega) (by omega)) ?_
            cases m1 : marksB ow p.1 i with
            | true =>
              exact Ev.congr (fun k => if_pos rfl) (hyes (by unfold condB; simp [m1]))
            | false =>
              refine Ev.congr (fun k => if_neg (by decide)) (Ev.bind (marks_ev ow p.2 i (by omega) (by omega) (by omega)) ?_)
              cases m2 : marksB ow p.2 i with
              | true => exact Ev.congr (fun k => if_pos rfl) (hyes (by unfold condB; simp [m2]))
              | false =>
                refine Ev.congr (fun k => if_neg (by decide)) ?_
                rw [mixL_no ow p c T i (by unfold condB; simp [e1, e2, m1, m2])]
                exact ih

theorem refB_l0 (ow : List Int) (W sos : Int) (hW : W = 0 ∨ W = 1) (ps : List (Nat × Nat)) (n : Nat) (hn : n ≤ 1048576) (how : ow.length = n) (hps : ps.length ≤ 1048576) (hb : ∀ p ∈ ps, p.1 < p.2 ∧ p.2 < n) :
    ∀ (d i : Nat) (T : List Int), d + i = ps.length → T.length = n → Ev (fun k => PQ.parquetryref14_Brackets.l0 k ow sos W T (ps.map s31) (i : Int)) ((ps.drop i).foldl (braS ow W sos) T) := by
  intro d
  induction d with
  | zero =>
    intro i T hi hT
    rw [List.drop_of_length_le (by omega)]
    refine Ev.step (f := fun _ => some T) (fun k => ?_) (Ev.now _)
    simp only [PQ.parquetryref14_Brackets.l0]
    rw [if_neg (by simp; omega)]
  | succ d ih =>
    intro i T hi hT
    have hil : i < ps.length := by omega
    rw [drop31 ps i hil, List.foldl_cons]
    obtain ⟨p, hp⟩ : ∃ p, p = ps.getD i (0, 0) := ⟨_, rfl⟩
    have hpm : p ∈ ps := by rw [hp, List.getD_eq_getElem?_getD, List.getElem?_eq_getElem hil]; exact List.getElem_mem hil
    obtain ⟨b1, b2⟩ := hb p hpm
    rw [← hp]
    have ih := ih (i + 1) (braS ow W sos T p) (by omega) (by rw [braS_len]; exact hT)
    rw [braS_bec ow W sos hW] at ih ⊢
    refine Ev.step (f := fun k => (PQ.parquetryref14_becomes.f k T (p.1 : Int) (p.2 : Int) W sos).bind fun t256 => PQ.parquetryref14_Brackets.l1 k ow sos W T (ps.map s31) (i : Int) t256 0) (fun k => ?_) ?_
    · simp only [PQ.parquetryref14_Brackets.l0]
      rw [if_pos (by simp; omega), if_pos (by omega), rd31 _ _ hil, ← hp]
      rfl
    · refine Ev.bind (becomes_ev W sos hW T p b1 (by omega) (by omega)) ?_
      have hr := becV_range W sos hW T p
      obtain ⟨c, hc⟩ : ∃ c, c = becV W sos T p := ⟨_, rfl⟩
      rw [← hc] at ih hr ⊢
      by_cases h1 : c = -1
      · rw [if_pos h1] at ih ⊢
        subst h1
        refine Ev.step (f := fun k => PQ.parquetryref14_Brackets.j4 k ow sos W T (ps.map s31) (i : Int) (-1) 0 false) (fun k => ?_) (Ev.step (fun k => ?_) ih)
        · simp only [PQ.parquetryref14_Brackets.l1]
          rw [if_pos (by omega)]
          rfl
        · simp only [PQ.parquetryref14_Brackets.j4]
          rw [if_neg (by decide), wsuccB _ (by omega)]
      · rw [if_neg h1] at ih ⊢
        have := refB_l1 ow W sos c (by omega) T ps i hil (by omega) (by omega) hps p hp (by omega) (by omega) _ ih T.length 0 (by omega)
        rw [mixL_zero] at this
        exact this

theorem refBrackets_ev (types codes own : List Int) (level sos : Int) (hl : types.length ≤ 1048576) (hc : codes.length ≤ 1048576) (hlev : (Lit.int .i64 level).wf = true) :
    Ev (fun k => PQ.parquetryref14_Brackets.f k types codes own level sos) (if types.length = codes.length ∧ own.length = codes.length then braW types codes own level sos else []) := by
  have hnil : Ev (fun k => PQ.parquetryref14_Brackets.j0 k types codes own level sos true) [] := by
    refine Ev.step (f := fun _ => some []) (fun k => ?_) (Ev.now _)
    simp only [PQ.parquetryref14_Brackets.j0]
    rw [if_pos trivial]
  unfold PQ.parquetryref14_Brackets.f
  by_cases he : types.length = codes.length
  · refine Ev.congr (fun k => if_pos (by omega)) ?_
    by_cases he2 : own.length = codes.length
    · rw [if_pos ⟨he, he2⟩]
      have hb : ((own.length : Int) != (codes.length : Int)) = false := by simp; omega
      rw [hb]
      have key : ∀ W : Int, (W = 0 ∨ W = 1) → Ev (fun k => PQ.parquetryref14_Brackets.j1 k types codes own sos W) ((pairsW types codes).foldl (braS own W sos) types) := fun W hW => by
        have hp : Ev (fun k => PQ.parquetryref14_Find.f k types codes) ((pairsW types codes).map s31) := by
          have := refFind_ev types codes hc
          rw [if_pos he] at this
          exact this
        have hpl := pairsW_len types codes
        refine Ev.step (f := fun k => (PQ.parquetryref14_Find.f k types codes).bind fun t252 => PQ.parquetryref14_Brackets.l0 k own sos W types t252 0) (fun k => ?_) (Ev.bind hp ?_)
        · simp only [PQ.parquetryref14_Brackets.j1, Option.bind_some, List.nil_append, List.length_nil, Nat.zero_add]
          rw [if_pos (by omega)]
        · exact refB_l0 own W sos hW (pairsW types codes) types.length hl (by omega) (by omega) (pairsW_bound types codes) (pairsW types codes).length 0 types (by omega) rfl
      unfold braW
      rw [Base.and_one]
      by_cases h2 : level % 2 = 1
      · rw [if_pos h2]
        refine Ev.step (fun k => ?_) (key 1 (.inr rfl))
        simp only [PQ.parquetryref14_Brackets.j0]
        rw [if_neg (by decide), if_neg (by have := tmod2 level; omega)]
      · rw [if_neg h2]
        refine Ev.step (fun k => ?_) (key 0 (.inl rfl))
        simp only [PQ.parquetryref14_Brackets.j0]
        rw [if_neg (by decide), if_pos (by have := tmod2 level; omega)]
    · rw [if_neg (fun a => he2 a.2)]
      have hb : ((own.length : Int) != (codes.length : Int)) = true := by simp; omega
      rw [hb]
      exact hnil
  · rw [if_neg (fun a => he a.1)]
    exact Ev.congr (fun k => if_neg (by omega)) hnil
end Go.Proofs.YtdpifkhkemeclaaDoor
