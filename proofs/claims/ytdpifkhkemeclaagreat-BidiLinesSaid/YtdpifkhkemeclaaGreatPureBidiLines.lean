/- BidiLines, the plain law: from the end on back is the same as looking ahead from each place. -/
import Derived.Test.YtdpifkhkemeclaaGreatPZx7
import Derived.Test.YtdpifkhkemeclaaGreatPBo
import Derived.Test.YtdpifkhkemeclaaGreatLnO
namespace Go.Proofs.YtdpifkhkemeclaaGreat.Pure
open Go.RowKit Go.Proofs.YtdpifkhkemeclaaGreat Go.Proofs.YtdpifkhkemeclaaGreat.PZ Go.Proofs.YtdpifkhkemeclaaGreatW.PrintWords Go.Proofs.YtdpifkhkemeclaaGreatW.PrintMore
set_option linter.unusedVariables false
set_option linter.unusedSimpArgs false
theorem awakeL2 : Ev (fun k => (parquetrylaw16_awake.f k).bind fun t => some t) true := Ev.bind (Ev.of parquetrylaw16_awake.mono parquetrylaw16_awake.run) (Ev.now _)
theorem lS (i : Nat) (h : i ≤ 1048577) : wrap64 ((i : Int) + 1) = ((i + 1 : Nat) : Int) := by rw [Cl.w64b (by omega) (by omega)]; rfl
theorem sameL_ev (x : List Int) (hx : x.length ≤ 100000) : Ev (fun k => parquetryref02_Same.f k x x) true := by
  refine Ev.congr (f := fun k => parquetryref02_Same.l0 k x x 0) (fun k => if_pos rfl) ?_
  have main : ∀ (m i : Nat), x.length - i = m → Ev (fun k => parquetryref02_Same.l0 k x x (i : Int)) true := by
    intro m
    induction m with
    | zero =>
      intro i hm
      refine Ev.step (f := fun _ => some true) (fun k => ?_) (Ev.now _)
      simp only [parquetryref02_Same.l0]
      rw [if_neg (by omega)]
    | succ m ih =>
      intro i hm
      refine Ev.step (fun k => ?_) (ih (i + 1) (by omega))
      simp only [parquetryref02_Same.l0]
      rw [if_pos (by omega), if_pos (by omega), if_pos (by omega), if_pos trivial, lS i (by omega)]
  exact main x.length 0 (by omega)
theorem sameR_ev (x : List S38) (hx : x.length ≤ 100000) : Ev (fun k => parquetryref01_Same.f k x x) true := by
  refine Ev.congr (f := fun k => parquetryref01_Same.l0 k x x 0) (fun k => if_pos rfl) ?_
  have main : ∀ (m i : Nat), x.length - i = m → Ev (fun k => parquetryref01_Same.l0 k x x (i : Int)) true := by
    intro m
    induction m with
    | zero =>
      intro i hm
      refine Ev.step (f := fun _ => some true) (fun k => ?_) (Ev.now _)
      simp only [parquetryref01_Same.l0]
      rw [if_neg (by omega)]
    | succ m ih =>
      intro i hm
      refine Ev.step (fun k => ?_) (ih (i + 1) (by omega))
      simp only [parquetryref01_Same.l0]
      rw [if_pos (by omega), if_pos (by omega), if_pos (by omega), if_neg (by simp), lS i (by omega)]
  exact main x.length 0 (by omega)
theorem allL_ev (l : List S38) (hl : l.length ≤ 100000) : Ev (fun k => parquetryref02_All.f k l) (l.map clsR) := by
  have main : ∀ (m i : Nat), l.length - i = m → i ≤ l.length → Ev (fun k => parquetryref02_All.l0 k l ((l.map clsR).take i) (i : Int)) (l.map clsR) := by
    intro m
    induction m with
    | zero =>
      intro i hm hi
      refine Ev.step (f := fun _ => some (l.map clsR)) (fun k => ?_) (Ev.now _)
      simp only [parquetryref02_All.l0]
      rw [if_neg (by omega), List.take_of_length_le (by simp; omega)]
    | succ m ih =>
      intro i hm hi
      have hil : i < l.length := by omega
      have e : rd_T38 l (i : Int) = l[i] := by simp [rd_T38, List.getD_eq_getElem?_getD, hil]
      refine Ev.step (f := fun k => (parquetryref02_Of.f k (l[i]).f2).bind fun t => (if ((l.map clsR).take i).length < 17592186044416 then (parquetryref02_All.l0 k l ((l.map clsR).take i ++ [t]) ((i + 1 : Nat) : Int)) else none)) (fun k => ?_) ?_
      · simp only [parquetryref02_All.l0]
        rw [if_pos (by omega), if_pos (by omega), e, lS i (by omega)]
      · refine Ev.bind (Cl.refOf_is _) ?_
        refine Ev.congr (fun k => if_pos (by simp; omega)) ?_
        have e2 : (l.map clsR).take i ++ [Cl.ofP (l[i]).f2] = (l.map clsR).take (i + 1) := by
          rw [List.take_succ_eq_append_getElem (by simpa using hil), List.getElem_map]
          rfl
        rw [e2]
        exact ih (i + 1) (by omega) (by omega)
  exact main l.length 0 (by omega) (by omega)
theorem blank_ref (c : Int) : parquetryref16_blank.f c = some (blankB c) := by
  rw [← blank_some]
  unfold parquetryref16_blank.f bidi_blank.f parquetryref11_Removed.f level_Removed.f
  by_cases h9 : c = 9
  · subst h9; rfl
  have e9 : (c == 9) = false := by simp [h9]
  rw [e9]
  repeat' split
  all_goals first | rfl | omega
theorem blank_10 : blankB 10 = false := rfl
theorem blank_11 : blankB 11 = false := rfl
theorem line_l1 (l : List S38) (v out : List Int) (para : Int) (hl : l.length ≤ 300) (hv : l.length = v.length) (i : Nat) (hi : i < l.length) (ho : out.length ≤ 300) {R : List Int} :
    ∀ (m k : Nat), l.length - k = m → k ≤ l.length → Ev (fun n => parquetryref16_Line.l0 n l v para (l.map clsR) (out ++ [if lnFlag ((l.map clsR).drop k) = true then para else rd v (i : Int)]) ((i + 1 : Nat) : Int)) R →
      Ev (fun n => parquetryref16_Line.l1 n l v para (l.map clsR) out (i : Int) (k : Int)) R := by
  have hcl : (l.map clsR).length = l.length := List.length_map _
  intro m
  induction m with
  | zero =>
    intro k hm hk h
    have hkl : k = l.length := by omega
    rw [List.drop_of_length_le (by omega), show lnFlag [] = true from rfl, if_pos rfl] at h
    refine Ev.step (fun n => ?_) h
    simp only [parquetryref16_Line.l1]
    rw [if_neg (by omega), if_pos (by omega), if_pos (by omega), if_pos (by omega), if_pos (by omega), lS i (by omega)]
  | succ m ih =>
    intro k hm hk h
    have hkl : k < l.length := by omega
    have hkc : k < (l.map clsR).length := by omega
    have hd : (l.map clsR).drop k = (l.map clsR)[k] :: (l.map clsR).drop (k + 1) := List.drop_eq_getElem_cons hkc
    have hrd : rd (l.map clsR) (k : Int) = (l.map clsR)[k] := by simp [rd, List.getD_eq_getElem?_getD, hkl]
    rw [hd] at h
    generalize hc : (l.map clsR)[k] = c at hd hrd h
    have hf : lnFlag (c :: (l.map clsR).drop (k + 1)) = (c == 11 || c == 10 || (lnFlag ((l.map clsR).drop (k + 1)) && blankB c)) := rfl
    rw [hf] at h
    by_cases hb : blankB c = true
    · have h11 : (c == 11) = false := by
        by_cases e : c = 11
        · subst e; rw [blank_11] at hb; cases hb
        · simp [e]
      have h10 : (c == 10) = false := by
        by_cases e : c = 10
        · subst e; rw [blank_10] at hb; cases hb
        · simp [e]
      rw [h11, h10, hb, Bool.false_or, Bool.false_or, Bool.and_true] at h
      refine Ev.step (fun n => ?_) (ih (k + 1) (by omega) (by omega) h)
      simp only [parquetryref16_Line.l1]
      rw [if_pos (by omega), if_pos (by omega), if_pos (by omega), hrd, blank_ref, Option.bind_some, if_pos hb, lS k (by omega)]
    · have hb' : blankB c = false := by simpa using hb
      rw [hb', Bool.and_false, Bool.or_false] at h
      by_cases e11 : c = 11
      · subst e11
        rw [if_pos (by rfl)] at h
        refine Ev.step (fun n => ?_) h
        simp only [parquetryref16_Line.l1]
        rw [if_pos (by omega), if_pos (by omega), if_pos (by omega), hrd, blank_ref, Option.bind_some, if_neg hb, if_pos (by omega), if_pos (by omega), if_neg (by omega), if_pos rfl, if_pos (by omega), lS i (by omega)]
      by_cases e10 : c = 10
      · subst e10
        rw [if_pos (by rfl)] at h
        refine Ev.step (fun n => ?_) h
        simp only [parquetryref16_Line.l1]
        rw [if_pos (by omega), if_pos (by omega), if_pos (by omega), hrd, blank_ref, Option.bind_some, if_neg hb, if_pos (by omega), if_pos (by omega), if_neg (by omega), if_neg (by omega), if_pos rfl, if_pos (by omega), lS i (by omega)]
      rw [if_neg (by simp [e11, e10])] at h
      refine Ev.step (fun n => ?_) h
      simp only [parquetryref16_Line.l1]
      rw [if_pos (by omega), if_pos (by omega), if_pos (by omega), hrd, blank_ref, Option.bind_some, if_neg hb, if_pos (by omega), if_pos (by omega), if_neg (by omega), if_neg e11, if_neg e10, if_pos (by omega), lS i (by omega)]
theorem line_l0 (l : List S38) (v : List Int) (para : Int) (hl : l.length ≤ 300) (hv : l.length = v.length) :
    ∀ (m i : Nat), l.length - i = m → i ≤ l.length → Ev (fun n => parquetryref16_Line.l0 n l v para (l.map clsR) ((lnOut para (l.map clsR) v).take i) (i : Int)) (lnOut para (l.map clsR) v) := by
  have hcv : (l.map clsR).length = v.length := by rw [List.length_map, hv]
  have hlen : (lnOut para (l.map clsR) v).length = v.length := lnOut_len _ _ _ hcv
  intro m
  induction m with
  | zero =>
    intro i hm hi
    refine Ev.step (f := fun _ => some (lnOut para (l.map clsR) v)) (fun k => ?_) (Ev.now _)
    simp only [parquetryref16_Line.l0]
    rw [if_neg (by omega), List.take_of_length_le (by omega)]
  | succ m ih =>
    intro i hm hi
    have hil : i < l.length := by omega
    have hio : i < (lnOut para (l.map clsR) v).length := by omega
    have hi2 := ih (i + 1) (by omega) (by omega)
    have hg := lnOut_get para (l.map clsR) v i hcv (by omega)
    have e : (lnOut para (l.map clsR) v).getD i 0 = (lnOut para (l.map clsR) v)[i] := by simp [List.getD_eq_getElem?_getD, hio]
    have er : rd v (i : Int) = v.getD i 0 := by simp [rd]
    rw [List.take_succ_eq_append_getElem hio, ← e, hg, ← er] at hi2
    refine Ev.step (fun k => ?_) (line_l1 l v _ para hl hv i hil (by rw [List.length_take]; omega) _ i rfl (by omega) hi2)
    simp only [parquetryref16_Line.l0]
    rw [if_pos (by omega)]
theorem refLine_ev (l : List S38) (v : List Int) (para : Int) (hl : l.length ≤ 300) (hv : l.length = v.length) : Ev (fun k => parquetryref16_Line.f k l v para) (lnOut para (l.map clsR) v) := by
  refine Ev.congr (fun k => if_pos (by omega)) ?_
  refine Ev.bind (allL_ev l (by omega)) ?_
  exact line_l0 l v para hl hv l.length 0 (by omega) (by omega)
theorem BidiLines (l0 : List S38) (l1 : List Int) (a2 : Int) : ∃ k, parquetrylaw16_BidiLines.f k l0 l1 a2 = some true := by
  refine Ev.rounds ?_
  have out : Ev (fun k => parquetrylaw16_BidiLines.j0 k l0 l1 a2 true) true := by
    refine Ev.step (f := fun k => (parquetrylaw16_awake.f k).bind fun t => some t) (fun k => ?_) awakeL2
    simp only [parquetrylaw16_BidiLines.j0]
    rw [if_pos trivial]
  by_cases hbig : (l0.length : Int) > 300
  · exact Ev.congr (fun k => if_pos hbig) out
  refine Ev.congr (fun k => if_neg hbig) ?_
  by_cases hbig1 : (l1.length : Int) > 300
  · rw [decide_eq_true hbig1]
    exact out
  rw [decide_eq_false hbig1]
  have both : ∀ x : List Int, x.length ≤ 300 → bidi_Line.f l0 l1 a2 = some x → Ev (fun k => parquetryref16_Line.f k l0 l1 a2) x → Ev (fun k => parquetrylaw16_BidiLines.j0 k l0 l1 a2 false) true := by
    intro x hx h1 h2
    have hs : Ev (fun k => (parquetryref16_Line.f k l0 l1 a2).bind fun t385 => ((parquetryref02_Same.f k x t385).bind fun t388 => (if t388 = true then ((parquetryref01_Same.f k l0 l0).bind fun t389 => (if t389 = true then ((parquetryref02_Same.f k l1 l1).bind fun t390 => (if t390 = true then ((parquetrylaw16_awake.f k).bind fun t391 => (some t391)) else (some false))) else (some false))) else (some false)))) true := by
      refine Ev.bind h2 ?_
      refine Ev.bind (sameL_ev x (by omega)) ?_
      refine Ev.congr (fun k => if_pos rfl) ?_
      refine Ev.bind (sameR_ev l0 (by omega)) ?_
      refine Ev.congr (fun k => if_pos rfl) ?_
      refine Ev.bind (sameL_ev l1 (by omega)) ?_
      exact Ev.congr (fun k => if_pos rfl) awakeL2
    refine Ev.step (fun k => ?_) hs
    simp only [parquetrylaw16_BidiLines.j0]
    rw [if_neg (by decide), Option.bind_some, if_pos (by simp; omega), Option.bind_some, Option.bind_some, if_pos (by simp; omega), Option.bind_some, List.nil_append, List.nil_append, h1, Option.bind_some]
  by_cases hne : l0.length = l1.length
  · refine both _ ?_ (line_f l0 l1 a2 hne (by omega)) (refLine_ev l0 l1 a2 (by omega) hne)
    rw [lnOut_len _ _ _ (by simpa using hne)]
    omega
  · refine both [] (by simp) ?_ ?_
    · unfold bidi_Line.f
      rw [if_pos hne]
    · exact Ev.congr (fun k => if_neg (by omega)) (Ev.now _)
end Go.Proofs.YtdpifkhkemeclaaGreat.Pure
