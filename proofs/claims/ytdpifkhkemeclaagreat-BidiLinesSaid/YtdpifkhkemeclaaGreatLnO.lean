/- bidi.Line in plain words: what stands at the paragraph's level hangs on what is behind. -/
import Derived.Test.YtdpifkhkemeclaaGreatZh
namespace Go.Proofs.YtdpifkhkemeclaaGreat
open Go.RowKit Go.Proofs.YtdpifkhkemeclaaGreatW.PrintWords Go.Proofs.YtdpifkhkemeclaaGreat.PZ
set_option linter.unusedVariables false
set_option linter.unusedSimpArgs false
/-- Is the end, or a tab, ahead, with blanks alone between? -/
def lnFlag : List Int → Bool
  | [] => true
  | c :: r => lnE (lnFlag r) c
def lnOut (para : Int) : List Int → List Int → List Int
  | c :: cs, v :: vs => (if lnFlag (c :: cs) = true then para else v) :: lnOut para cs vs
  | _, _ => []
theorem lnOut_len (para : Int) : ∀ (cs vs : List Int), cs.length = vs.length → (lnOut para cs vs).length = vs.length
  | [], [], _ => rfl
  | c :: cs, v :: vs, h => by simp only [lnOut, List.length_cons]; rw [lnOut_len para cs vs (by simpa using h)]
  | [], v :: vs, h => by simp at h
  | c :: cs, [], h => by simp at h
theorem lnOut_twice (para : Int) : ∀ (cs vs : List Int), lnOut para cs (lnOut para cs vs) = lnOut para cs vs
  | [], _ => by simp [lnOut]
  | c :: cs, [] => by simp [lnOut]
  | c :: cs, v :: vs => by
    simp only [lnOut]
    rw [lnOut_twice para cs vs]
    by_cases h : lnFlag (c :: cs) = true
    · rw [if_pos h, if_pos h]
    · rw [if_neg h, if_neg h]
theorem lnOut_get (para : Int) : ∀ (cs vs : List Int) (i : Nat), cs.length = vs.length → i < vs.length → (lnOut para cs vs).getD i 0 = if lnFlag (cs.drop i) = true then para else vs.getD i 0
  | [], [], i, _, h => by simp at h
  | c :: cs, v :: vs, 0, _, _ => by simp [lnOut]
  | c :: cs, v :: vs, i + 1, hl, h => by
    have := lnOut_get para cs vs i (by simpa using hl) (by simpa using h)
    simpa [lnOut] using this
  | [], v :: vs, _, h, _ => by simp at h
  | c :: cs, [], _, h, _ => by simp at h
theorem lnFold (para : Int) (l : List S38) (v : List Int) (hl : l.length = v.length) : ∀ k, k ≤ l.length →
    (brTo l k).foldl (lnStep para) (true, v) = (lnFlag ((l.map clsR).drop (l.length - k)), v.take (l.length - k) ++ lnOut para ((l.map clsR).drop (l.length - k)) (v.drop (l.length - k))) := by
  intro k
  induction k with
  | zero =>
    intro _
    simp only [brTo, List.range_zero, List.map_nil, List.foldl_nil, Nat.sub_zero]
    rw [List.drop_of_length_le (by simp), List.drop_of_length_le (by omega), List.take_of_length_le (by omega)]
    simp [lnFlag, lnOut]
  | succ k ih =>
    intro hk
    rw [brTo_succ, List.foldl_append, ih (by omega)]
    obtain ⟨i, hi⟩ : ∃ i, i = l.length - (k + 1) := ⟨_, rfl⟩
    have hi1 : l.length - k = i + 1 := by omega
    have hi2 : l.length - 1 - k = i := by omega
    have hil : i < l.length := by omega
    have hiv : i < v.length := by omega
    rw [hi1, ← hi]
    simp only [List.foldl_cons, List.foldl_nil, brF, hi2]
    have e1 : (l.map clsR).drop i = clsR (l.getD i z38) :: (l.map clsR).drop (i + 1) := by
      rw [List.drop_eq_getElem_cons (by simpa using hil), List.getElem_map, List.getD_eq_getElem?_getD, List.getElem?_eq_getElem hil]
      rfl
    have e2 : v.drop i = v[i] :: v.drop (i + 1) := List.drop_eq_getElem_cons hiv
    have e3 : v.take (i + 1) = v.take i ++ [v[i]] := List.take_succ_eq_append_getElem hiv
    have e4 : (v.take i).length = i := by rw [List.length_take]; omega
    rw [e1, e2, e3]
    obtain ⟨R, hR⟩ : ∃ R, R = (l.map clsR).drop (i + 1) := ⟨_, rfl⟩
    obtain ⟨c, hc⟩ : ∃ c, c = clsR (l.getD i z38) := ⟨_, rfl⟩
    rw [← hR, ← hc]
    have hs : lnStep para (lnFlag R, v.take i ++ [v[i]] ++ lnOut para R (v.drop (i + 1))) (i, l.getD i z38) = (lnE (lnFlag R) c, if lnE (lnFlag R) c = true then (v.take i ++ [v[i]] ++ lnOut para R (v.drop (i + 1))).set i para else v.take i ++ [v[i]] ++ lnOut para R (v.drop (i + 1))) := by
      rw [hc]; rfl
    rw [hs]
    have hf2 : lnFlag (c :: R) = lnE (lnFlag R) c := rfl
    rw [hf2]
    congr 1
    show _ = v.take i ++ ((if lnFlag (c :: R) = true then para else v[i]) :: lnOut para R (v.drop (i + 1)))
    rw [hf2]
    by_cases hf : lnE (lnFlag R) c = true
    · rw [if_pos hf, if_pos hf, List.append_assoc, List.set_append_right _ _ (by omega), e4, Nat.sub_self]
      rfl
    · rw [if_neg hf, if_neg hf, List.append_assoc]
      rfl
theorem line_f (l : List S38) (v : List Int) (para : Int) (hl : l.length = v.length) (hb : v.length ≤ 1048576) : bidi_Line.f l v para = some (lnOut para (l.map clsR) v) := by
  unfold bidi_Line.f
  rw [if_neg (by omega), if_pos hb, lnFold para l v hl l.length (Nat.le_refl _), Nat.sub_self]
  simp
end Go.Proofs.YtdpifkhkemeclaaGreat
