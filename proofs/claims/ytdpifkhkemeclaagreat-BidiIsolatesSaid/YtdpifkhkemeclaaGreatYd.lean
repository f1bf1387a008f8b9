/- seqs.Sequences in plain words: chains of runs. seqs.runs in plain words: blocks of places of one level. seqs.Sequences in plain words: chains of places. seqs.Sequences: the chains of places that it answers. -/
import Derived.Test.YtdpifkhkemeclaaGreatYc
set_option linter.unusedVariables false
set_option linter.unusedSimpArgs false
namespace Go.Proofs.YtdpifkhkemeclaaGreat
def NxB (rs : List RunR) (cl M : List Int) (i j : Nat) : Bool := (goesW rs i cl M).2 && decide ((goesW rs i cl M).1 = (rs.getD j default).fr)
def Chn (N : Nat → Nat → Bool) : List Nat → Prop
  | [] => True
  | [_] => True
  | a :: b :: r => N a b = true ∧ Chn N (b :: r)
theorem Chn.snoc {N : Nat → Nat → Bool} : ∀ {c : List Nat} {q t : Nat}, Chn N (c ++ [q]) → N q t = true → Chn N (c ++ [q] ++ [t])
  | [], q, t, _, h => ⟨h, trivial⟩
  | [a], q, t, hc, h => ⟨hc.1, h, trivial⟩
  | a :: b :: r, q, t, hc, h => ⟨hc.1, Chn.snoc (c := b :: r) hc.2 h⟩
theorem Chn.next {N : Nat → Nat → Bool} : ∀ {c : List Nat} {q x : Nat}, Chn N (c ++ [q]) → x ∈ c → ∃ y ∈ c ++ [q], N x y = true
  | [], q, x, _, h => by cases h
  | [a], q, x, hc, h => by
    rw [List.mem_singleton] at h
    subst h
    exact ⟨q, by simp, hc.1⟩
  | a :: b :: r, q, x, hc, h => by
    rcases List.mem_cons.1 h with rfl | h
    · exact ⟨b, by simp, hc.1⟩
    · obtain ⟨y, hy, hn⟩ := Chn.next (c := b :: r) hc.2 h
      exact ⟨y, List.mem_cons_of_mem _ hy, hn⟩
structure RunC (rs : List RunR) (cl M : List Int) : Prop where
  inc : ∀ i j, i < j → j < rs.length → (rs.getD i default).fr < (rs.getD j default).fr
  inj : ∀ i i' j, i < rs.length → i' < rs.length → j < rs.length → NxB rs cl M i j = true → NxB rs cl M i' j = true → i = i'
theorem RunC.eq {rs : List RunR} {cl M : List Int} (h : RunC rs cl M) {i j : Nat} (hi : i < rs.length) (hj : j < rs.length) (e : (rs.getD i default).fr = (rs.getD j default).fr) : i = j := by
  rcases Nat.lt_trichotomy i j with h1 | h1 | h1
  · have := h.inc i j h1 hj; omega
  · exact h1
  · have := h.inc j i h1 hi; omega
theorem goesW_to {rs : List RunR} {cl M : List Int} {i : Nat} (h : (goesW rs i cl M).2 = true) : ∃ j, i < j ∧ j < rs.length ∧ (goesW rs i cl M).1 = (rs.getD j default).fr := by
  unfold goesW at h ⊢
  split at h
  · rename_i ho
    rw [if_pos ho]
    obtain ⟨r, hr, he⟩ := List.any_eq_true.1 h
    obtain ⟨k, hk, e⟩ := getD_of_mem default hr
    rw [List.length_drop] at hk
    refine ⟨i + 1 + k, by omega, by omega, ?_⟩
    have e2 : (rs.drop (i + 1)).getD k default = rs.getD (i + 1 + k) default := by rw [List.getD_eq_getElem?_getD, List.getElem?_drop, List.getD_eq_getElem?_getD]
    rw [← e2, e]
    simp at he
    exact he.symm
  · cases h
theorem RunC.lt {rs : List RunR} {cl M : List Int} (h : RunC rs cl M) {i j : Nat} (hj : j < rs.length) (hn : NxB rs cl M i j = true) : i < j := by
  unfold NxB at hn
  rw [Bool.and_eq_true, decide_eq_true_eq] at hn
  obtain ⟨k, h1, h2, h3⟩ := goesW_to hn.1
  have := h.eq h2 hj (by rw [← h3, hn.2])
  omega
theorem RunC.to {rs : List RunR} {cl M : List Int} (h : RunC rs cl M) {i j j' : Nat} (hj : j < rs.length) (hj' : j' < rs.length) (hn : NxB rs cl M i j = true) (hn' : NxB rs cl M i j' = true) : j = j' := by
  unfold NxB at hn hn'
  rw [Bool.and_eq_true, decide_eq_true_eq] at hn hn'
  exact h.eq hj hj' (by rw [← hn.2, hn'.2])
theorem NxB_of {rs : List RunR} {cl M : List Int} {i j : Nat} (h : (goesW rs i cl M).2 = true) (e : (goesW rs i cl M).1 = (rs.getD j default).fr) : NxB rs cl M i j = true := by
  unfold NxB; rw [h, decide_eq_true e]; rfl
def seqR (rs : List RunR) (cl M : List Int) (para : Int) (c : List Nat) : SeqR :=
  ⟨(rs.getD (c.headD 0) default).lv, wayW (rs.getD (c.headD 0) default).lv (besideW rs ((c.headD 0 : Nat) - 1 : Int) para),
   if (goesW rs (c.getLastD 0) cl M).2 = true then 0 else wayW (rs.getD (c.getLastD 0) default).lv (behindW rs (c.getLastD 0) para cl.length M),
   c.flatMap fun q => (rs.getD q default).at_⟩
def csTo (rs : List RunR) (cl M : List Int) (para : Int) : Nat → List (List Nat)
  | 0 => []
  | t + 1 => match (seqTo rs cl M para t).2 (rs.getD t default).fr with
    | some k => (csTo rs cl M para t).set k ((csTo rs cl M para t).getD k [] ++ [t])
    | none => csTo rs cl M para t ++ [[t]]
def frstB (rs : List RunR) (cl M : List Int) (j : Nat) : Bool := (List.range rs.length).all fun i => !NxB rs cl M i j
structure CsI (rs : List RunR) (cl M : List Int) (para : Int) (t : Nat) (st : List SeqR × (Int → Option Nat)) (cs : List (List Nat)) : Prop where
  out : st.1 = cs.map (seqR rs cl M para)
  ne : ∀ c ∈ cs, ∃ c' q, c = c' ++ [q]
  lt : ∀ c ∈ cs, ∀ q ∈ c, q < t
  f : ∀ j k, t ≤ j → j < rs.length → (st.2 (rs.getD j default).fr = some k ↔ ∃ c q, cs[k]? = some (c ++ [q]) ∧ NxB rs cl M q j = true)
  chn : ∀ c ∈ cs, Chn (NxB rs cl M) c
  hd : cs.map (fun c => c.headD 0) = (List.range t).filter (frstB rs cl M)
  cov : ∀ q, q < t → ∃ c ∈ cs, q ∈ c
  mx : ∀ c q, c ++ [q] ∈ cs → ∀ j, j < t → NxB rs cl M q j = false
theorem headD_app (c : List Nat) (q t : Nat) : (c ++ [q] ++ [t]).headD 0 = (c ++ [q]).headD 0 := by cases c <;> rfl
theorem getLastD_snoc (c : List Nat) (q d : Nat) : (c ++ [q]).getLastD d = q := by simp [List.getLastD_eq_getLast?]
theorem set_snoc {α : Type} (o : List α) (x y : α) : (o ++ [x]).set o.length y = o ++ [y] := by
  rw [List.set_append_right _ _ (Nat.le_refl _), Nat.sub_self]; rfl
theorem getD_snoc {α : Type} (o : List α) (x d : α) : (o ++ [x]).getD o.length d = x := by
  rw [List.getD_eq_getElem?_getD, List.getElem?_append_right (Nat.le_refl _), Nat.sub_self]; rfl
theorem mem_set_cases {α : Type} {l : List α} {k : Nat} {x y : α} (h : y ∈ l.set k x) : y = x ∨ ∃ j, j ≠ k ∧ l[j]? = some y := by
  obtain ⟨j, hj, e⟩ := List.mem_iff_getElem.1 h
  rw [List.length_set] at hj
  rw [List.getElem_set] at e
  split at e
  · exact .inl e.symm
  · rename_i hne
    exact .inr ⟨j, fun h => hne h.symm, by rw [← e]; exact List.getElem?_eq_getElem hj⟩
theorem CsI.grow {rs : List RunR} {cl M : List Int} {para : Int} {t : Nat} {out : List SeqR} {f : Int → Option Nat} {cs : List (List Nat)} (hR : RunC rs cl M) (h : CsI rs cl M para t (out, f) cs) (ht : t < rs.length) {k : Nat} (hk : f (rs.getD t default).fr = some k) :
    CsI rs cl M para (t + 1) (seqFin rs cl M para t out k f) (cs.set k (cs.getD k [] ++ [t])) := by
  obtain ⟨c, q, hc, hn⟩ := (h.f t k (Nat.le_refl _) ht).1 hk
  have hkl : k < cs.length := (List.getElem?_eq_some_iff.1 hc).1
  have hg : cs.getD k [] = c ++ [q] := by rw [List.getD_eq_getElem?_getD, hc]; rfl
  have hm : c ++ [q] ∈ cs := List.mem_of_getElem? hc
  have hq : q < t := h.lt _ hm q (by simp)
  have hgo : (goesW rs q cl M).2 = true := by unfold NxB at hn; rw [Bool.and_eq_true] at hn; exact hn.1
  have hout : out.getD k default = seqR rs cl M para (c ++ [q]) := by
    have := h.out
    dsimp only at this
    rw [this, List.getD_eq_getElem?_getD, List.getElem?_map, hc]; rfl
  have hol : k < out.length := by have := h.out; dsimp only at this; rw [this, List.length_map]; exact hkl
  have he0 : (seqR rs cl M para (c ++ [q])).eos = 0 := by unfold seqR; rw [getLastD_snoc, hgo]; rfl
  rw [hg]
  have hkey : (seqFin rs cl M para t out k f).1 = (cs.set k (c ++ [q] ++ [t])).map (seqR rs cl M para) := by
    have e1 : (cs.set k (c ++ [q] ++ [t])).map (seqR rs cl M para) = out.set k (seqR rs cl M para (c ++ [q] ++ [t])) := by
      rw [List.map_set, ← h.out]
    rw [e1]
    unfold seqFin
    split
    · rename_i hgt
      dsimp only
      rw [hout]
      congr 1
      unfold seqR
      rw [headD_app, getLastD_snoc, getLastD_snoc, if_pos hgt, if_pos hgo, List.flatMap_append (ys := [t])]
      simp
    · rename_i hgt
      dsimp only
      rw [List.set_set, getD_set_self _ _ _ _ hol, hout]
      congr 1
      unfold seqR
      rw [headD_app, getLastD_snoc, getLastD_snoc, if_neg hgt, List.flatMap_append (ys := [t])]
      simp
  refine ⟨hkey, ?_, ?_, ?_, ?_, ?_, ?_, ?_⟩
  · intro d hd
    rcases mem_set_cases hd with rfl | ⟨j, _, hj⟩
    · exact ⟨_, _, rfl⟩
    · exact h.ne d (List.mem_of_getElem? hj)
  · intro d hd x hx
    rcases mem_set_cases hd with rfl | ⟨j, _, hj⟩
    · rcases List.mem_append.1 hx with hx | hx
      · exact Nat.lt_succ_of_lt (h.lt _ hm x hx)
      · rw [List.mem_singleton] at hx; omega
    · exact Nat.lt_succ_of_lt (h.lt d (List.mem_of_getElem? hj) x hx)
  · intro j k' hj hjl
    have hfj := h.f j k' (by omega) hjl
    have hqj : NxB rs cl M q j = false := by
      cases hb : NxB rs cl M q j with
      | false => rfl
      | true => have := hR.to hjl ht hb hn; omega
    have hf' : (seqFin rs cl M para t out k f).2 (rs.getD j default).fr = if NxB rs cl M t j = true then some k else f (rs.getD j default).fr := by
      unfold seqFin
      split
      · rename_i hgt
        dsimp only
        by_cases e : (rs.getD j default).fr = (goesW rs t cl M).1
        · rw [if_pos e, if_pos (NxB_of hgt e.symm)]
        · rw [if_neg e, if_neg (by unfold NxB; rw [decide_eq_false (fun h => e h.symm)]; simp)]
      · rename_i hgt
        dsimp only
        rw [if_neg (by unfold NxB; simp at hgt; rw [hgt]; simp)]
    rw [hf']
    constructor
    · intro hs
      split at hs
      · rename_i hb
        cases hs
        exact ⟨c ++ [q], t, by rw [List.getElem?_set_self hkl], hb⟩
      · obtain ⟨c2, q2, h2, h3⟩ := hfj.1 hs
        have hne : k ≠ k' := by
          rintro rfl
          rw [hc] at h2
          have := List.append_inj' (Option.some.inj h2) rfl
          injection this.2 with e
          subst e
          rw [hqj] at h3
          cases h3
        exact ⟨c2, q2, by rw [List.getElem?_set_ne hne]; exact h2, h3⟩
    · rintro ⟨c2, q2, h2, h3⟩
      by_cases e : k = k'
      · subst e
        rw [List.getElem?_set_self hkl] at h2
        have := List.append_inj' (Option.some.inj h2) rfl
        injection this.2 with e
        subst e
        rw [if_pos h3]
      · rw [List.getElem?_set_ne e] at h2
        have h4 := hfj.2 ⟨c2, q2, h2, h3⟩
        split
        · rename_i hb
          have hq2 : q2 < t := h.lt _ (List.mem_of_getElem? h2) q2 (by simp)
          have := hR.inj t q2 j ht (by omega) hjl hb h3
          omega
        · exact h4
  · intro d hd
    rcases mem_set_cases hd with rfl | ⟨j, _, hj⟩
    · exact (h.chn _ hm).snoc hn
    · exact h.chn d (List.mem_of_getElem? hj)
  · rw [List.range_succ, List.filter_append, List.map_set, headD_app]
    have e1 : (cs.map fun c => c.headD 0).set k ((c ++ [q]).headD 0) = cs.map fun c => c.headD 0 := by
      rw [← List.map_set]
      congr 1
      exact List.ext_getElem? (fun j => by
        by_cases e : k = j
        · subst e; rw [List.getElem?_set_self hkl, hc]
        · rw [List.getElem?_set_ne e])
    have e2 : frstB rs cl M t = false := by
      cases hb : frstB rs cl M t with
      | false => rfl
      | true =>
        unfold frstB at hb
        have := List.all_eq_true.1 hb q (List.mem_range.2 (by omega))
        rw [hn] at this
        cases this
    rw [e1, h.hd, List.filter_cons_of_neg (by rw [e2]; decide)]
    simp
  · intro x hx
    by_cases e : x = t
    · exact ⟨c ++ [q] ++ [t], List.mem_iff_getElem?.2 ⟨k, List.getElem?_set_self hkl⟩, by rw [e]; simp⟩
    · obtain ⟨d, hd, hxd⟩ := h.cov x (by omega)
      obtain ⟨j, hj⟩ := List.mem_iff_getElem?.1 hd
      by_cases ek : k = j
      · subst ek
        rw [hc] at hj
        injection hj with hj
        subst hj
        exact ⟨c ++ [q] ++ [t], List.mem_iff_getElem?.2 ⟨k, List.getElem?_set_self hkl⟩, List.mem_append_left _ hxd⟩
      · exact ⟨d, List.mem_iff_getElem?.2 ⟨j, by rw [List.getElem?_set_ne ek]; exact hj⟩, hxd⟩
  · intro d x hd j hj
    have hbt : ∀ y, y < rs.length → NxB rs cl M t y = true → t < y := fun y hy hb => hR.lt hy hb
    rcases mem_set_cases hd with e | ⟨k', hne, hk'⟩
    · have := List.append_inj' e rfl
      injection this.2 with e2
      subst e2
      cases hb : NxB rs cl M x j with
      | false => rfl
      | true => have := hR.lt (by omega) hb; omega
    · by_cases e : j = t
      · subst e
        cases hb : NxB rs cl M x j with
        | false => rfl
        | true =>
          have := (h.f j k' (Nat.le_refl _) ht).2 ⟨d, x, hk', hb⟩
          dsimp only at this
          rw [hk] at this
          injection this with this
          exact absurd this.symm hne
      · exact h.mx d x (List.mem_of_getElem? hk') j (by omega)
theorem CsI.begin_ {rs : List RunR} {cl M : List Int} {para : Int} {t : Nat} {out : List SeqR} {f : Int → Option Nat} {cs : List (List Nat)} (hR : RunC rs cl M) (h : CsI rs cl M para t (out, f) cs) (ht : t < rs.length) (hk : f (rs.getD t default).fr = none) :
    CsI rs cl M para (t + 1) (seqFin rs cl M para t (out ++ [⟨(rs.getD t default).lv, wayW (rs.getD t default).lv (besideW rs ((t : Int) - 1) para), 0, []⟩]) out.length f) (cs ++ [[t]]) := by
  have hnone : ∀ i, i < rs.length → NxB rs cl M i t = false := by
    intro i hi
    cases hb : NxB rs cl M i t with
    | false => rfl
    | true =>
      have hit := hR.lt ht hb
      obtain ⟨c, hc, hic⟩ := h.cov i hit
      obtain ⟨c', q, rfl⟩ := h.ne c hc
      rcases List.mem_append.1 hic with h1 | h1
      · obtain ⟨y, hy, hn⟩ := (h.chn _ hc).next h1
        have hyt := h.lt _ hc y hy
        have := hR.to (by omega) ht hn hb
        omega
      · rw [List.mem_singleton] at h1
        subst h1
        obtain ⟨k, hk'⟩ := List.mem_iff_getElem?.1 hc
        have := (h.f t k (Nat.le_refl _) ht).2 ⟨c', i, hk', hb⟩
        dsimp only at this
        rw [hk] at this
        cases this
  have hol : out.length = cs.length := by have := h.out; dsimp only at this; rw [this, List.length_map]
  have hkey : (seqFin rs cl M para t (out ++ [⟨(rs.getD t default).lv, wayW (rs.getD t default).lv (besideW rs ((t : Int) - 1) para), 0, []⟩]) out.length f).1 = (cs ++ [[t]]).map (seqR rs cl M para) := by
    rw [List.map_append, ← h.out]
    unfold seqFin
    split
    · rename_i hgt
      simp only [set_snoc, getD_snoc]
      congr 1
      show [_] = [_]
      congr 1
      unfold seqR
      simp [hgt]
    · rename_i hgt
      simp only [set_snoc, getD_snoc]
      congr 1
      show [_] = [_]
      congr 1
      unfold seqR
      simp [hgt]
  refine ⟨hkey, ?_, ?_, ?_, ?_, ?_, ?_, ?_⟩
  · intro d hd
    rcases List.mem_append.1 hd with hd | hd
    · exact h.ne d hd
    · rw [List.mem_singleton] at hd; exact ⟨[], t, hd⟩
  · intro d hd x hx
    rcases List.mem_append.1 hd with hd | hd
    · exact Nat.lt_succ_of_lt (h.lt d hd x hx)
    · rw [List.mem_singleton] at hd; subst hd; rw [List.mem_singleton] at hx; omega
  · intro j k' hj hjl
    have hfj := h.f j k' (by omega) hjl
    have hf' : (seqFin rs cl M para t (out ++ [⟨(rs.getD t default).lv, wayW (rs.getD t default).lv (besideW rs ((t : Int) - 1) para), 0, []⟩]) out.length f).2 (rs.getD j default).fr = if NxB rs cl M t j = true then some out.length else f (rs.getD j default).fr := by
      unfold seqFin
      split
      · rename_i hgt
        dsimp only
        by_cases e : (rs.getD j default).fr = (goesW rs t cl M).1
        · rw [if_pos e, if_pos (NxB_of hgt e.symm)]
        · rw [if_neg e, if_neg (by unfold NxB; rw [decide_eq_false (fun h => e h.symm)]; simp)]
      · rename_i hgt
        dsimp only
        rw [if_neg (by unfold NxB; simp at hgt; rw [hgt]; simp)]
    rw [hf', hol]
    constructor
    · intro hs
      split at hs
      · rename_i hb
        cases hs
        exact ⟨[], t, by rw [List.getElem?_append_right (Nat.le_refl _), Nat.sub_self]; rfl, hb⟩
      · obtain ⟨c2, q2, h2, h3⟩ := hfj.1 hs
        exact ⟨c2, q2, by rw [List.getElem?_append_left (List.getElem?_eq_some_iff.1 h2).1]; exact h2, h3⟩
    · rintro ⟨c2, q2, h2, h3⟩
      by_cases e : k' < cs.length
      · rw [List.getElem?_append_left e] at h2
        have h4 := hfj.2 ⟨c2, q2, h2, h3⟩
        split
        · rename_i hb
          have hq2 : q2 < t := h.lt _ (List.mem_of_getElem? h2) q2 (by simp)
          have := hR.inj t q2 j ht (by omega) hjl hb h3
          omega
        · exact h4
      · have hlen := (List.getElem?_eq_some_iff.1 h2).1
        rw [List.length_append, List.length_singleton] at hlen
        have e2 : k' = cs.length := by omega
        subst e2
        rw [List.getElem?_append_right (Nat.le_refl _), Nat.sub_self] at h2
        have h5 := Option.some.inj h2
        have := List.append_inj' (s₁ := []) (t₁ := [t]) h5 rfl
        injection this.2 with e3
        subst e3
        rw [if_pos h3]
  · intro d hd
    rcases List.mem_append.1 hd with hd | hd
    · exact h.chn d hd
    · rw [List.mem_singleton] at hd; subst hd; trivial
  · rw [List.range_succ, List.filter_append, List.map_append, h.hd, List.filter_cons_of_pos (by
      unfold frstB
      exact List.all_eq_true.2 (fun i hi => by rw [hnone i (List.mem_range.1 hi)]; rfl))]
    rfl
  · intro x hx
    by_cases e : x = t
    · exact ⟨[t], by simp, by rw [e]; simp⟩
    · obtain ⟨d, hd, hxd⟩ := h.cov x (by omega)
      exact ⟨d, List.mem_append_left _ hd, hxd⟩
  · intro d x hd j hj
    rcases List.mem_append.1 hd with hd | hd
    · by_cases e : j = t
      · rw [e]
        exact hnone x (by have := h.lt _ hd x (by simp); omega)
      · exact h.mx d x hd j (by omega)
    · rw [List.mem_singleton] at hd
      have := List.append_inj' (s₂ := []) (t₂ := [t]) hd rfl
      injection this.2 with e2
      subst e2
      cases hb : NxB rs cl M x j with
      | false => rfl
      | true => have := hR.lt (by omega) hb; omega
theorem csTo_inv {rs : List RunR} {cl M : List Int} (para : Int) (hR : RunC rs cl M) : ∀ t, t ≤ rs.length → CsI rs cl M para t (seqTo rs cl M para t) (csTo rs cl M para t)
  | 0, _ => by
    have e : csTo rs cl M para 0 = [] := rfl
    rw [e]
    refine ⟨rfl, (fun c h => by cases h), (fun c h => by cases h), (fun j k _ _ => ⟨(fun h => by cases h), (fun ⟨c, q, h, _⟩ => by simp at h)⟩), (fun c h => by cases h), rfl, (fun q h => by cases h), (fun c q h => by simp at h)⟩
  | t + 1, ht => by
    have ih := csTo_inv para hR t (by omega)
    rw [seqTo, csTo]
    unfold seqStep
    split
    · rename_i k hk
      rw [hk]
      exact ih.grow hR (by omega) hk
    · rename_i hk
      rw [hk]
      exact ih.begin_ hR (by omega) hk
end Go.Proofs.YtdpifkhkemeclaaGreat
namespace Go.Proofs.YtdpifkhkemeclaaGreat
abbrev PL2 := Nat × Int
def toRun (b : List PL2) : RunR := ⟨(b.headD (0, 0)).2, ((b.headD (0, 0)).1 : Int), ((b.getLastD (0, 0)).1 : Int), b.map fun x => (x.1 : Int)⟩
def blv (b : List PL2) : Int := (b.headD (0, 0)).2
structure Blks (l : List PL2) (bs : List (List PL2)) : Prop where
  eq : runsOf l = bs.map toRun
  all : l = bs.flatten
  ne : ∀ b ∈ bs, b ≠ []
  one : ∀ b ∈ bs, ∀ x ∈ b, x.2 = blv b
  adj : ∀ u b c v, bs = u ++ b :: c :: v → blv b ≠ blv c
theorem headD_snoc {α : Type} (c : List α) (x d : α) (h : c ≠ []) : (c ++ [x]).headD d = c.headD d := by cases c with | nil => exact absurd rfl h | cons a r => rfl
theorem snoc_of {α : Type} {l : List α} (h : l ≠ []) : ∃ u x, l = u ++ [x] := ⟨l.dropLast, l.getLast h, (List.dropLast_concat_getLast h).symm⟩
theorem runsOf_blks (l : List PL2) : ∃ bs, Blks l bs := by
  refine snoc_ind (P := fun l => ∃ bs, Blks l bs) ⟨[], rfl, rfl, (fun b h => by cases h), (fun b h => by cases h), (fun u b c v h => by cases u <;> cases h)⟩ (fun l x ⟨bs, ih⟩ => ?_) l
  by_cases hc : runsOf l = [] ∨ ((runsOf l).getD ((runsOf l).length - 1) default).lv ≠ x.2
  · refine ⟨bs ++ [[x]], ?_, ?_, ?_, ?_, ?_⟩
    · obtain ⟨k, z⟩ := x
      rw [runsOf_snoc, runStep_new hc]
      simp only [set_snoc, getD_snoc]
      rw [List.map_append, ← ih.eq]
      rfl
    · rw [List.flatten_append, ← ih.all]; rfl
    · intro b hb
      rcases List.mem_append.1 hb with h | h
      · exact ih.ne b h
      · rw [List.mem_singleton] at h; subst h; simp
    · intro b hb y hy
      rcases List.mem_append.1 hb with h | h
      · exact ih.one b h y hy
      · rw [List.mem_singleton] at h; subst h; rw [List.mem_singleton] at hy; subst hy; rfl
    · intro u b c v h
      rcases List.eq_nil_or_concat v with rfl | ⟨v', y, rfl⟩
      · have h2 : bs ++ [[x]] = (u ++ [b]) ++ [c] := by rw [h]; simp
        have := List.append_inj' h2 rfl
        have e2 := this.2
        injection e2 with e2
        subst e2
        rcases hc with hc | hc
        · rw [ih.eq, this.1] at hc
          simp at hc
        · intro e
          apply hc
          rw [ih.eq, this.1]
          simp only [List.map_append, List.map_cons, List.map_nil, List.length_append, List.length_singleton, Nat.add_sub_cancel, List.length_map]
          have := getD_snoc (u.map toRun) (toRun b) default
          rw [List.length_map] at this
          rw [this]
          exact e
      · have h2 : bs ++ [[x]] = (u ++ b :: c :: v') ++ [y] := by rw [h]; simp
        have := List.append_inj' h2 rfl
        exact ih.adj u b c v' this.1
  · obtain ⟨hne, hlv⟩ : runsOf l ≠ [] ∧ ((runsOf l).getD ((runsOf l).length - 1) default).lv = x.2 := ⟨fun e => hc (.inl e), Classical.byContradiction (fun e => hc (.inr e))⟩
    have hbn : bs ≠ [] := by rintro rfl; exact hne ih.eq
    obtain ⟨us, b, rfl⟩ := snoc_of hbn
    have hb := ih.ne b (by simp)
    have hlen : (runsOf l).length = us.length + 1 := by rw [ih.eq]; simp
    have hlast : (runsOf l).getD us.length default = toRun b := by
      rw [ih.eq, List.map_append]
      have := getD_snoc (us.map toRun) (toRun b) default
      rw [List.length_map] at this
      exact this
    rw [hlen, Nat.add_sub_cancel, hlast] at hlv
    refine ⟨us ++ [b ++ [x]], ?_, ?_, ?_, ?_, ?_⟩
    · obtain ⟨k, z⟩ := x
      rw [runsOf_snoc, runStep_old hlen (by rw [hlast]; exact hlv), hlast, List.set_set]
      rw [getD_set_self _ _ _ _ (by rw [hlen]; exact Nat.lt_succ_self _)]
      rw [ih.eq, List.map_append, List.map_append]
      have := set_snoc (us.map toRun) (toRun b) { toRun b with en := (k : Int), at_ := (toRun b).at_ ++ [(k : Int)] }
      rw [List.length_map] at this
      refine this.trans ?_
      congr 1
      show [_] = [_]
      congr 1
      unfold toRun
      rw [headD_snoc b (k, z) (0, 0) hb]
      simp [List.getLastD_eq_getLast?]
    · rw [ih.all]; simp
    · intro d hd
      rcases List.mem_append.1 hd with h | h
      · exact ih.ne d (List.mem_append_left _ h)
      · rw [List.mem_singleton] at h; subst h; simp
    · intro d hd y hy
      rcases List.mem_append.1 hd with h | h
      · exact ih.one d (List.mem_append_left _ h) y hy
      · rw [List.mem_singleton] at h
        subst h
        unfold blv
        rw [headD_snoc b x (0, 0) hb]
        rcases List.mem_append.1 hy with hy | hy
        · exact ih.one b (by simp) y hy
        · rw [List.mem_singleton] at hy; subst hy; exact hlv.symm
    · intro u d c v h
      rcases List.eq_nil_or_concat v with rfl | ⟨v', y, rfl⟩
      · have h2 : us ++ [b ++ [x]] = (u ++ [d]) ++ [c] := by rw [h]; simp
        have h3 := List.append_inj' h2 rfl
        have e2 := h3.2
        injection e2 with e2
        have h4 := ih.adj u d b [] (by rw [h3.1]; simp)
        rw [← e2]
        unfold blv at h4 ⊢
        rw [headD_snoc b x (0, 0) hb]
        exact h4
      · have h2 : us ++ [b ++ [x]] = (u ++ d :: c :: v') ++ [y] := by rw [h]; simp
        have h3 := List.append_inj' h2 rfl
        exact ih.adj u d c (v' ++ [b]) (by rw [h3.1]; simp)
def nk (K : List PL2) (p : Nat) : Option PL2 := K.find? fun x => decide (p < x.1)
def pk (K : List PL2) (p : Nat) : Option PL2 := (K.filter fun x => decide (x.1 < p)).getLast?
def Rise (K : List PL2) : Prop := K.Pairwise fun x y => x.1 < y.1
theorem kpTo_rise (zs : List Int) : ∀ k, Rise (kpTo zs k)
  | 0 => List.Pairwise.nil
  | k + 1 => by
    rw [kpTo]
    refine List.pairwise_append.2 ⟨kpTo_rise zs k, ?_, ?_⟩
    · split
      · exact List.pairwise_singleton _ _
      · exact List.Pairwise.nil
    · intro x hx y hy
      split at hy
      · rw [List.mem_singleton] at hy; subst hy; exact (kpTo_in hx).1
      · cases hy
theorem kpTo_mem' {zs : List Int} : ∀ {k p : Nat}, p < k → 0 ≤ zs.getD p 0 → (p, zs.getD p 0) ∈ kpTo zs k
  | k + 1, p, h, h0 => by
    rw [kpTo]
    by_cases e : p = k
    · subst e
      rw [List.getD_eq_getElem?_getD] at h0 ⊢
      exact List.mem_append_right _ (by rw [if_pos h0]; simp)
    · exact List.mem_append_left _ (kpTo_mem' (by omega) h0)
theorem Rise.left {u v : List PL2} (h : Rise (u ++ v)) : Rise u := (List.pairwise_append.1 h).1
theorem Rise.right {u v : List PL2} (h : Rise (u ++ v)) : Rise v := (List.pairwise_append.1 h).2.1
theorem Rise.lt {u v : List PL2} (h : Rise (u ++ v)) {x y : PL2} (hx : x ∈ u) (hy : y ∈ v) : x.1 < y.1 := (List.pairwise_append.1 h).2.2 x hx y hy
theorem find_none' {p : Nat} {u : List PL2} (h : ∀ x ∈ u, x.1 ≤ p) : u.find? (fun x => decide (p < x.1)) = none := List.find?_eq_none.2 (fun x hx => by have := h x hx; simp; omega)
theorem nk_next {u v : List PL2} {x y : PL2} (h : Rise (u ++ x :: y :: v)) : nk (u ++ x :: y :: v) x.1 = some y := by
  unfold nk
  rw [List.find?_append, find_none' (fun z hz => Nat.le_of_lt (h.lt hz (by simp)))]
  have hxy : x.1 < y.1 := by have := h.right; exact (List.pairwise_cons.1 this).1 y (by simp)
  rw [Option.none_or, List.find?_cons_of_neg (by simp), List.find?_cons_of_pos (by simpa using hxy)]
theorem nk_last {u : List PL2} {x : PL2} (h : Rise (u ++ [x])) : nk (u ++ [x]) x.1 = none := by
  unfold nk
  refine find_none' (fun z hz => ?_)
  rcases List.mem_append.1 hz with hz | hz
  · exact Nat.le_of_lt (h.lt hz (by simp))
  · rw [List.mem_singleton] at hz; subst hz; exact Nat.le_refl _
theorem filter_lt {p : Nat} {u v : List PL2} (h1 : ∀ x ∈ u, x.1 < p) (h2 : ∀ x ∈ v, p ≤ x.1) : (u ++ v).filter (fun x => decide (x.1 < p)) = u := by
  rw [List.filter_append, List.filter_eq_self.2 (fun x hx => by simpa using h1 x hx), List.filter_eq_nil_iff.2 (fun x hx => by have := h2 x hx; simp; omega), List.append_nil]
theorem pk_at {u v : List PL2} {y : PL2} (h : Rise (u ++ y :: v)) : pk (u ++ y :: v) y.1 = u.getLast? := by
  unfold pk
  rw [filter_lt (fun x hx => h.lt hx (by simp)) (fun x hx => by
    rcases List.mem_cons.1 hx with rfl | hx
    · exact Nat.le_refl _
    · exact Nat.le_of_lt ((List.pairwise_cons.1 h.right).1 x hx))]
end Go.Proofs.YtdpifkhkemeclaaGreat
namespace Go.Proofs.YtdpifkhkemeclaaGreat
open Go.Proofs.YtdpifkhkemeclaaGreatW.PrintWords
def begB (K : List PL2) (q : Nat) : Bool := K.any fun x => decide (x.1 = q) && (match pk K q with | some y => decide (y.2 ≠ x.2) | none => true)
def jmpB (K : List PL2) (cl M : List Int) (p q : Nat) : Bool := opB (rd cl (p : Int)) && decide (rd M (p : Int) = (q : Int)) && begB K q
def NpB (K : List PL2) (lev cl M : List Int) (p q : Nat) : Bool :=
  match nk K p with
  | some y => if y.2 = lev.getD p 0 then decide (y.1 = q) else jmpB K cl M p q
  | none => jmpB K cl M p q
def frstP (K : List PL2) (lev cl M : List Int) (p : Nat) : Bool := K.any (fun x => decide (x.1 = p)) && K.all fun x => !NpB K lev cl M x.1 p
def seqP (K : List PL2) (lev cl M : List Int) (para : Int) (c : List Nat) : SeqR :=
  ⟨lev.getD (c.headD 0) 0, wayW (lev.getD (c.headD 0) 0) (match pk K (c.headD 0) with | some y => y.2 | none => para),
   wayW (lev.getD (c.getLastD 0) 0) (if rd M ((c.getLastD 0 : Nat) : Int) = (cl.length : Int) then para else match nk K (c.getLastD 0) with | some y => y.2 | none => para),
   c.map fun p : Nat => (p : Int)⟩
structure MatC (cl M : List Int) : Prop where
  up : ∀ p, p < cl.length → opB (rd cl (p : Int)) = true → ∃ m : Nat, rd M (p : Int) = (m : Int) ∧ p < m ∧ m ≤ cl.length
  inj : ∀ p q, p < cl.length → q < cl.length → opB (rd cl (p : Int)) = true → opB (rd cl (q : Int)) = true → rd M (p : Int) = rd M (q : Int) → rd M (p : Int) < cl.length → p = q
section
variable {K : List PL2} {bs : List (List PL2)} {lev cl M : List Int} {para : Int}
theorem blk_split (h : Blks K bs) {i : Nat} (hi : i < bs.length) : ∃ u v, bs = u ++ bs.getD i [] :: v ∧ u.length = i ∧ K = u.flatten ++ (bs.getD i [] ++ v.flatten) := by
  refine ⟨bs.take i, bs.drop (i + 1), ?_, by rw [List.length_take]; omega, ?_⟩
  · rw [List.getD_eq_getElem?_getD, List.getElem?_eq_getElem hi]
    simp
  · have e : bs = bs.take i ++ bs.getD i [] :: bs.drop (i + 1) := by rw [List.getD_eq_getElem?_getD, List.getElem?_eq_getElem hi]; simp
    rw [h.all]
    conv => lhs; rw [e]
    simp
theorem blk_mem {i : Nat} (hi : i < bs.length) : bs.getD i [] ∈ bs := mem_getD bs [] i hi
theorem blk_in (h : Blks K bs) {x : PL2} (hx : x ∈ K) : ∃ i, i < bs.length ∧ x ∈ bs.getD i [] := by
  rw [h.all] at hx
  obtain ⟨b, hb, hxb⟩ := List.mem_flatten.1 hx
  obtain ⟨i, hi, e⟩ := getD_of_mem [] hb
  exact ⟨i, hi, by rw [e]; exact hxb⟩
theorem in_blk (h : Blks K bs) {i : Nat} (hi : i < bs.length) {x : PL2} (hx : x ∈ bs.getD i []) : x ∈ K := by
  rw [h.all]
  exact List.mem_flatten.2 ⟨_, blk_mem hi, hx⟩
theorem lev_of (hK : K = kpTo lev lev.length) {x : PL2} (hx : x ∈ K) : x.1 < lev.length ∧ lev.getD x.1 0 = x.2 ∧ 0 ≤ x.2 := by
  rw [hK] at hx
  have := kpTo_in hx
  exact ⟨this.1, this.2.1.symm, this.2.2⟩
theorem np_in (hK : K = kpTo lev lev.length) (hR : Rise K) (h : Blks K bs) {i : Nat} (hi : i < bs.length) {b1 b2 : List PL2} {x y : PL2} (hb : bs.getD i [] = b1 ++ x :: y :: b2) (z : Nat) : NpB K lev cl M x.1 z = decide (y.1 = z) := by
  obtain ⟨u, v, _, _, hk⟩ := blk_split h hi
  rw [hb] at hk
  have e : K = (u.flatten ++ b1) ++ x :: y :: (b2 ++ v.flatten) := by rw [hk]; simp
  have hn : nk K x.1 = some y := by rw [e] at hR ⊢; exact nk_next hR
  have hx := lev_of hK (x := x) (by rw [e]; simp)
  have hy : y.2 = x.2 := by rw [h.one _ (blk_mem hi) y (by rw [hb]; simp), h.one _ (blk_mem hi) x (by rw [hb]; simp)]
  unfold NpB
  rw [hn]
  dsimp only
  rw [if_pos (by rw [hy, hx.2.1])]
theorem nk_end (hR : Rise K) (h : Blks K bs) {i : Nat} (hi : i < bs.length) {b1 : List PL2} {x : PL2} (hb : bs.getD i [] = b1 ++ [x]) :
    (i + 1 = bs.length ∧ nk K x.1 = none) ∨ (i + 1 < bs.length ∧ nk K x.1 = some ((bs.getD (i + 1) []).headD (0, 0)) ∧ blv (bs.getD (i + 1) []) ≠ x.2) := by
  obtain ⟨u, v, hbs, hu, hk⟩ := blk_split h hi
  cases v with
  | nil =>
    left
    rw [hb] at hk
    have e : K = (u.flatten ++ b1) ++ [x] := by rw [hk]; simp
    refine ⟨?_, by rw [e] at hR ⊢; exact nk_last hR⟩
    have := congrArg List.length hbs
    rw [List.length_append, List.length_singleton, hu] at this
    omega
  | cons d v =>
    right
    have hl := congrArg List.length hbs
    rw [List.length_append, List.length_cons, List.length_cons, hu] at hl
    have hd : bs.getD (i + 1) [] = d := by
      rw [hbs, List.getD_eq_getElem?_getD, List.getElem?_append_right (by omega), hu, Nat.add_sub_cancel_left]
      rfl
    have hdn := h.ne d (by rw [hbs]; simp)
    cases d with
    | nil => exact absurd rfl hdn
    | cons y d' =>
      rw [hd]
      rw [hb] at hk
      have e : K = (u.flatten ++ b1) ++ x :: y :: (d' ++ v.flatten) := by rw [hk]; simp
      refine ⟨by omega, by rw [e] at hR ⊢; exact nk_next hR, ?_⟩
      have h1 := h.adj u _ _ v hbs
      have h2 := h.one _ (blk_mem hi) x (by rw [hb]; simp)
      rw [h2]
      exact fun e => h1 e.symm
theorem np_end (hK : K = kpTo lev lev.length) (hR : Rise K) (h : Blks K bs) {i : Nat} (hi : i < bs.length) {b1 : List PL2} {x : PL2} (hb : bs.getD i [] = b1 ++ [x]) (z : Nat) : NpB K lev cl M x.1 z = jmpB K cl M x.1 z := by
  have hx := lev_of hK (in_blk h hi (x := x) (by rw [hb]; simp))
  unfold NpB
  rcases nk_end hR h hi hb with ⟨_, e⟩ | ⟨_, e, hne⟩
  · rw [e]
  · rw [e]
    dsimp only
    rw [if_neg (by rw [hx.2.1]; exact hne)]
theorem pk_head (hR : Rise K) (h : Blks K bs) {i : Nat} (hi : i < bs.length) {b2 : List PL2} {x : PL2} (hb : bs.getD i [] = x :: b2) :
    (i = 0 ∧ pk K x.1 = none) ∨ (0 < i ∧ ∃ y, pk K x.1 = some y ∧ y.2 = blv (bs.getD (i - 1) []) ∧ y.2 ≠ x.2) := by
  obtain ⟨u, v, hbs, hu, hk⟩ := blk_split h hi
  rw [hb] at hk hbs
  have e : K = u.flatten ++ x :: (b2 ++ v.flatten) := by rw [hk]; simp
  have hp : pk K x.1 = u.flatten.getLast? := by rw [e] at hR ⊢; exact pk_at hR
  rcases List.eq_nil_or_concat u with rfl | ⟨u', b, rfl⟩
  · left; exact ⟨hu.symm, hp⟩
  · right
    rw [List.concat_eq_append] at *
    rw [List.length_append, List.length_singleton] at hu
    have hb' : b ∈ bs := by rw [hbs]; simp
    obtain ⟨b1, y, hy⟩ := snoc_of (h.ne b hb')
    refine ⟨by omega, y, ?_, ?_, ?_⟩
    · rw [hp, hy]; simp
    · have e2 : bs.getD (i - 1) [] = b := by
        rw [hbs, List.append_assoc, List.getD_eq_getElem?_getD, List.getElem?_append_right (by omega), show i - 1 - u'.length = 0 by omega]
        rfl
      rw [e2]
      exact h.one b hb' y (by rw [hy]; simp)
    · have h1 := h.adj u' b (x :: b2) v (by rw [hbs]; simp)
      have h2 := h.one b hb' y (by rw [hy]; simp)
      rw [h2]
      exact h1
theorem begB_iff (hR : Rise K) (h : Blks K bs) (q : Nat) : begB K q = true ↔ ∃ j, j < bs.length ∧ ((bs.getD j []).headD (0, 0)).1 = q := by
  constructor
  · intro hb
    obtain ⟨x, hx, hc⟩ := List.any_eq_true.1 hb
    rw [Bool.and_eq_true, decide_eq_true_eq] at hc
    obtain ⟨rfl, hc⟩ := hc
    obtain ⟨i, hi, hxi⟩ := blk_in h hx
    obtain ⟨b1, b2, hs⟩ := List.append_of_mem hxi
    refine ⟨i, hi, ?_⟩
    rcases List.eq_nil_or_concat b1 with rfl | ⟨b1', y, rfl⟩
    · rw [hs]; rfl
    · exfalso
      rw [List.concat_eq_append] at hs
      obtain ⟨u, v, _, _, hk⟩ := blk_split h hi
      rw [hs] at hk
      have e : K = (u.flatten ++ b1' ++ [y]) ++ x :: (b2 ++ v.flatten) := by rw [hk]; simp
      have hp : pk K x.1 = some y := by
        rw [e] at hR ⊢
        rw [pk_at hR, List.getLast?_append]
        rfl
      rw [hp] at hc
      dsimp only at hc
      have h1 := h.one _ (blk_mem hi) y (by rw [hs]; simp)
      have h2 := h.one _ (blk_mem hi) x (by rw [hs]; simp)
      rw [h1, h2] at hc
      simp at hc
  · rintro ⟨j, hj, rfl⟩
    have hn := h.ne _ (blk_mem hj)
    cases hb : bs.getD j [] with
    | nil => exact absurd hb hn
    | cons x b2 =>
      refine List.any_eq_true.2 ⟨x, in_blk h hj (by rw [hb]; simp), ?_⟩
      show (decide (x.1 = x.1) && _) = true
      rcases pk_head hR h hj hb with ⟨_, e⟩ | ⟨_, y, e, _, hne⟩
      · show (decide (x.1 = x.1) && (match pk K x.1 with | some y => decide (y.2 ≠ x.2) | none => true)) = true
        rw [e]; simp
      · show (decide (x.1 = x.1) && (match pk K x.1 with | some y => decide (y.2 ≠ x.2) | none => true)) = true
        rw [e]; simpa using hne
theorem toRun_at (h : Blks K bs) {i : Nat} (hi : i < bs.length) : (runsOf K).getD i default = toRun (bs.getD i []) := by
  rw [h.eq, List.getD_eq_getElem?_getD, List.getElem?_map, List.getD_eq_getElem?_getD, List.getElem?_eq_getElem hi]
  rfl
theorem runs_len (h : Blks K bs) : (runsOf K).length = bs.length := by rw [h.eq, List.length_map]
theorem head_lt (hR : Rise K) (h : Blks K bs) {i j : Nat} (hij : i < j) (hj : j < bs.length) {x y : PL2} (hx : x ∈ bs.getD i []) (hy : y ∈ bs.getD j []) : x.1 < y.1 := by
  obtain ⟨u, v, hbs, hu, hk⟩ := blk_split h hj
  rw [hk] at hR
  refine hR.lt ?_ (List.mem_append_left _ hy)
  refine List.mem_flatten.2 ⟨bs.getD i [], ?_, hx⟩
  rw [hbs, List.getD_eq_getElem?_getD, List.getElem?_append_left (by omega), List.getElem?_eq_getElem (by omega)]
  exact List.getElem_mem _
theorem hd_mem {b : List PL2} (h : b ≠ []) : b.headD (0, 0) ∈ b := by cases b with | nil => exact absurd rfl h | cons a r => simp
theorem lt_mem {b : List PL2} (h : b ≠ []) : b.getLastD (0, 0) ∈ b := by obtain ⟨u, x, rfl⟩ := snoc_of h; rw [List.getLastD_eq_getLast?, List.getLast?_append]; simp
theorem nxB_iff (hK : K = kpTo lev lev.length) (hcl : lev.length = cl.length) (hR : Rise K) (h : Blks K bs) (hM : MatC cl M) {i j : Nat} (hi : i < bs.length) (hj : j < bs.length) :
    NxB (runsOf K) cl M i j = jmpB K cl M ((bs.getD i []).getLastD (0, 0)).1 ((bs.getD j []).headD (0, 0)).1 := by
  have hli := lt_mem (h.ne _ (blk_mem hi))
  have hen : ((runsOf K).getD i default).en = (((bs.getD i []).getLastD (0, 0)).1 : Int) := by rw [toRun_at h hi]; rfl
  have hfr : ((runsOf K).getD j default).fr = (((bs.getD j []).headD (0, 0)).1 : Int) := by rw [toRun_at h hj]; rfl
  have hbeg : begB K ((bs.getD j []).headD (0, 0)).1 = true := (begB_iff hR h _).2 ⟨j, hj, rfl⟩
  have hpl := (lev_of hK (in_blk h hi hli)).1
  unfold NxB goesW jmpB
  rw [hen, hfr, hbeg]
  cases ho : opB (rd cl (((bs.getD i []).getLastD (0, 0)).1 : Int)) with
  | false => rw [if_neg (by decide)]; rfl
  | true =>
    rw [if_pos rfl]
    dsimp only
    rw [Bool.and_true, Bool.true_and]
    by_cases e : rd M (((bs.getD i []).getLastD (0, 0)).1 : Int) = (((bs.getD j []).headD (0, 0)).1 : Int)
    · rw [decide_eq_true e, Bool.and_true]
      obtain ⟨m, hm, h1, h2⟩ := hM.up _ (by omega) ho
      rw [hm] at e
      have hij : i < j := by
        rcases Nat.lt_trichotomy i j with h3 | h3 | h3
        · exact h3
        · exfalso
          subst h3
          have h4 : ((bs.getD i []).headD (0, 0)).1 ≤ ((bs.getD i []).getLastD (0, 0)).1 := by
            cases hb : bs.getD i [] with
            | nil => exact absurd hb (h.ne _ (blk_mem hi))
            | cons x b2 =>
              have hr2 : Rise (bs.getD i []) := by
                obtain ⟨u, v, _, _, hk⟩ := blk_split h hi
                rw [hk] at hR
                exact hR.right.left
              rw [hb] at hr2
              rcases List.mem_cons.1 (lt_mem (b := x :: b2) (by simp)) with h5 | h5
              · rw [h5]; exact Nat.le_refl _
              · exact Nat.le_of_lt ((List.pairwise_cons.1 hr2).1 _ h5)
          omega
        · exfalso
          have := head_lt hR h h3 hi (hd_mem (h.ne _ (blk_mem hj))) hli
          omega
      refine List.any_eq_true.2 ⟨(runsOf K).getD j default, ?_, ?_⟩
      · refine List.mem_iff_getElem?.2 ⟨j - (i + 1), ?_⟩
        rw [List.getElem?_drop, show i + 1 + (j - (i + 1)) = j by omega, List.getD_eq_getElem?_getD, List.getElem?_eq_getElem (by rw [runs_len h]; exact hj)]
        rfl
      · rw [hfr, hm]; simpa using e.symm
    · rw [decide_eq_false e, Bool.and_false]
theorem runC_of (hK : K = kpTo lev lev.length) (hcl : lev.length = cl.length) (hR : Rise K) (h : Blks K bs) (hM : MatC cl M) : RunC (runsOf K) cl M := by
  refine ⟨fun i j hij hj => ?_, fun i i' j hi hi' hj h1 h2 => ?_⟩
  · rw [runs_len h] at hj
    rw [toRun_at h hj, toRun_at h (by omega)]
    have := head_lt hR h hij hj (hd_mem (h.ne _ (blk_mem (by omega)))) (hd_mem (h.ne _ (blk_mem hj)))
    show (((bs.getD i []).headD (0, 0)).1 : Int) < (((bs.getD j []).headD (0, 0)).1 : Int)
    omega
  · rw [runs_len h] at hi hi' hj
    rw [nxB_iff hK hcl hR h hM hi hj] at h1
    rw [nxB_iff hK hcl hR h hM hi' hj] at h2
    unfold jmpB at h1 h2
    simp only [Bool.and_eq_true, decide_eq_true_eq] at h1 h2
    have hli := lt_mem (h.ne _ (blk_mem hi))
    have hli' := lt_mem (h.ne _ (blk_mem hi'))
    have p1 := (lev_of hK (in_blk h hi hli)).1
    have p2 := (lev_of hK (in_blk h hi' hli')).1
    have p3 := (lev_of hK (in_blk h hj (hd_mem (h.ne _ (blk_mem hj))))).1
    have e := hM.inj _ _ (by omega) (by omega) h1.1.1 h2.1.1 (by rw [h1.1.2, h2.1.2]) (by rw [h1.1.2]; omega)
    rcases Nat.lt_trichotomy i i' with h3 | h3 | h3
    · have := head_lt hR h h3 hi' hli hli'; omega
    · exact h3
    · have := head_lt hR h h3 hi hli' hli; omega
end
theorem rise_ext : ∀ {a b : List Nat}, a.Pairwise (· < ·) → b.Pairwise (· < ·) → (∀ x, x ∈ a ↔ x ∈ b) → a = b
  | [], [], _, _, _ => rfl
  | [], y :: b, _, _, h => by have := (h y).2 (by simp); cases this
  | x :: a, [], _, _, h => by have := (h x).1 (by simp); cases this
  | x :: a, y :: b, ha, hb, h => by
    have ha' := List.pairwise_cons.1 ha
    have hb' := List.pairwise_cons.1 hb
    have e : x = y := by
      rcases List.mem_cons.1 ((h x).1 (by simp)) with h1 | h1
      · exact h1
      · rcases List.mem_cons.1 ((h y).2 (by simp)) with h2 | h2
        · exact h2.symm
        · have := hb'.1 x h1; have := ha'.1 y h2; omega
    subst e
    congr 1
    refine rise_ext ha'.2 hb'.2 (fun z => ⟨fun hz => ?_, fun hz => ?_⟩)
    · rcases List.mem_cons.1 ((h z).1 (List.mem_cons_of_mem _ hz)) with h1 | h1
      · subst h1; have := ha'.1 z hz; omega
      · exact h1
    · rcases List.mem_cons.1 ((h z).2 (List.mem_cons_of_mem _ hz)) with h1 | h1
      · subst h1; have := hb'.1 z hz; omega
      · exact h1
end Go.Proofs.YtdpifkhkemeclaaGreat
namespace Go.Proofs.YtdpifkhkemeclaaGreat
open Go.Proofs.YtdpifkhkemeclaaGreatW.PrintWords
theorem Chn.join {N : Nat → Nat → Bool} : ∀ {u v : List Nat} {x y : Nat}, Chn N (u ++ [x]) → Chn N (y :: v) → N x y = true → Chn N (u ++ [x] ++ y :: v)
  | [], v, x, y, _, hv, h => ⟨h, hv⟩
  | [a], v, x, y, hu, hv, h => ⟨hu.1, h, hv⟩
  | a :: b :: r, v, x, y, hu, hv, h => ⟨hu.1, Chn.join (u := b :: r) hu.2 hv h⟩
theorem Chn.tl {N : Nat → Nat → Bool} {a : Nat} {r : List Nat} (h : Chn N (a :: r)) : Chn N r := by
  cases r with
  | nil => trivial
  | cons b r => exact h.2
theorem flatMap_eq {α β : Type} {f g : α → List β} : ∀ {c : List α}, (∀ q ∈ c, f q = g q) → c.flatMap f = c.flatMap g
  | [], _ => rfl
  | a :: r, h => by rw [List.flatMap_cons, List.flatMap_cons, h a (by simp), flatMap_eq (fun q hq => h q (List.mem_cons_of_mem _ hq))]
def plc (bs : List (List PL2)) (c : List Nat) : List Nat := c.flatMap fun q => (bs.getD q []).map (·.1)
theorem plc_cons (bs : List (List PL2)) (q : Nat) (c : List Nat) : plc bs (q :: c) = (bs.getD q []).map (·.1) ++ plc bs c := rfl
section
variable {K : List PL2} {bs : List (List PL2)} {lev cl M : List Int} {para : Int}
theorem chn_blk (hK : K = kpTo lev lev.length) (hR : Rise K) (h : Blks K bs) {i : Nat} (hi : i < bs.length) : ∀ (b1 b2 : List PL2), bs.getD i [] = b1 ++ b2 → Chn (NpB K lev cl M) (b2.map (·.1))
  | b1, [], _ => trivial
  | b1, [x], _ => trivial
  | b1, x :: y :: r, e => ⟨by rw [np_in hK hR h hi e]; simp, chn_blk hK hR h hi (b1 ++ [x]) (y :: r) (by rw [e]; simp)⟩
theorem chn_plc (hK : K = kpTo lev lev.length) (hcl : lev.length = cl.length) (hR : Rise K) (h : Blks K bs) (hM : MatC cl M) : ∀ (c : List Nat), (∀ q ∈ c, q < bs.length) → Chn (NxB (runsOf K) cl M) c → Chn (NpB K lev cl M) (plc bs c)
  | [], _, _ => trivial
  | [q], hq, _ => by
    have := chn_blk (lev := lev) (cl := cl) (M := M) hK hR h (hq q (by simp)) [] (bs.getD q []) rfl
    show Chn _ ((bs.getD q []).map (·.1) ++ [])
    rw [List.append_nil]
    exact this
  | q :: q' :: r, hq, hc => by
    have hi := hq q (by simp)
    have hj := hq q' (by simp)
    have h1 := chn_blk (lev := lev) (cl := cl) (M := M) hK hR h hi [] (bs.getD q []) rfl
    have h2 := chn_plc hK hcl hR h hM (q' :: r) (fun x hx => hq x (List.mem_cons_of_mem _ hx)) hc.2
    obtain ⟨b1, x, hx⟩ := snoc_of (h.ne _ (blk_mem hi))
    have hn := hc.1
    rw [nxB_iff hK hcl hR h hM hi hj] at hn
    have hxl : (bs.getD q []).getLastD (0, 0) = x := by rw [hx]; simp [List.getLastD_eq_getLast?]
    rw [hxl, ← np_end hK hR h hi hx] at hn
    rw [plc_cons] at h2 ⊢
    cases hb : bs.getD q' [] with
    | nil => exact absurd hb (h.ne _ (blk_mem hj))
    | cons y b2 =>
      rw [hb] at h2 hn
      rw [plc_cons, hb]
      rw [hx, List.map_append] at h1 ⊢
      exact Chn.join (u := b1.map (·.1)) (x := x.1) (y := y.1) h1 h2 hn
theorem plc_head (h : Blks K bs) {q : Nat} {c : List Nat} (hq : q < bs.length) : (plc bs (q :: c)).headD 0 = ((bs.getD q []).headD (0, 0)).1 := by
  rw [plc_cons]
  cases hb : bs.getD q [] with
  | nil => exact absurd hb (h.ne _ (blk_mem hq))
  | cons y b2 => rfl
theorem plc_last (h : Blks K bs) {q : Nat} {c : List Nat} (hq : q < bs.length) : ∃ u, plc bs (c ++ [q]) = u ++ [((bs.getD q []).getLastD (0, 0)).1] := by
  obtain ⟨b1, x, hx⟩ := snoc_of (h.ne _ (blk_mem hq))
  refine ⟨plc bs c ++ b1.map (·.1), ?_⟩
  have e1 : plc bs (c ++ [q]) = plc bs c ++ (bs.getD q []).map (·.1) := by unfold plc; rw [List.flatMap_append]; simp
  rw [e1, hx]
  simp [List.getLastD_eq_getLast?]
theorem beside_pk (hR : Rise K) (h : Blks K bs) {i : Nat} (hi : i < bs.length) : besideW (runsOf K) ((i : Int) - 1) para = match pk K ((bs.getD i []).headD (0, 0)).1 with | some y => y.2 | none => para := by
  cases hb : bs.getD i [] with
  | nil => exact absurd hb (h.ne _ (blk_mem hi))
  | cons x b2 =>
    show _ = match pk K x.1 with | some y => y.2 | none => para
    unfold besideW
    rcases pk_head hR h hi hb with ⟨e, hp⟩ | ⟨e, y, hp, hy, _⟩
    · rw [hp, if_pos (by omega)]
    · rw [hp, if_neg (by rw [runs_len h]; omega), show ((i : Int) - 1).toNat = i - 1 by omega, toRun_at h (by omega)]
      exact hy.symm
theorem behind_nk (hK : K = kpTo lev lev.length) (hR : Rise K) (h : Blks K bs) {i : Nat} (hi : i < bs.length) (n : Nat) :
    behindW (runsOf K) i para n M = if rd M (((bs.getD i []).getLastD (0, 0)).1 : Int) = (n : Int) then para else match nk K ((bs.getD i []).getLastD (0, 0)).1 with | some y => y.2 | none => para := by
  obtain ⟨b1, x, hx⟩ := snoc_of (h.ne _ (blk_mem hi))
  have hxl : (bs.getD i []).getLastD (0, 0) = x := by rw [hx]; simp [List.getLastD_eq_getLast?]
  have hen : ((runsOf K).getD i default).en = (x.1 : Int) := by rw [toRun_at h hi, ← hxl]; rfl
  rw [hxl]
  unfold behindW
  rw [hen]
  split
  · rfl
  · unfold besideW
    rcases nk_end hR h hi hx with ⟨e, hp⟩ | ⟨e, hp, _⟩
    · rw [hp, if_pos (by rw [runs_len h]; omega)]
    · rw [hp, if_neg (by rw [runs_len h]; omega), show ((i : Int) + 1).toNat = i + 1 by omega, toRun_at h e]
      rfl
theorem seqs_places (hK : K = kpTo lev lev.length) (hcl : lev.length = cl.length) (hM : MatC cl M) (para : Int) :
    ∃ ps : List (List Nat), (seqTo (runsOf K) cl M para (runsOf K).length).1 = ps.map (seqP K lev cl M para) ∧ ps.map (fun c => c.headD 0) = (List.range lev.length).filter (frstP K lev cl M) ∧
      ∀ c ∈ ps, c ≠ [] ∧ Chn (NpB K lev cl M) c ∧ (∀ u q, c = u ++ [q] → ∀ y, NpB K lev cl M q y = false) ∧ ∀ p ∈ c, ∃ x ∈ K, x.1 = p := by
  have hR : Rise K := by rw [hK]; exact kpTo_rise _ _
  obtain ⟨bs, h⟩ := runsOf_blks K
  have hRC := runC_of hK hcl hR h hM
  have hI := csTo_inv para hRC (runsOf K).length (Nat.le_refl _)
  have hln := runs_len h
  obtain ⟨cs, hcs⟩ : ∃ cs, cs = csTo (runsOf K) cl M para (runsOf K).length := ⟨_, rfl⟩
  rw [← hcs] at hI
  have hlt : ∀ c ∈ cs, ∀ q ∈ c, q < bs.length := fun c hc q hq => by rw [← hln]; exact hI.lt c hc q hq
  have hmax : ∀ c q, c ++ [q] ∈ cs → ∀ y, NpB K lev cl M ((bs.getD q []).getLastD (0, 0)).1 y = false := by
    intro c q hc y
    have hq := hlt _ hc q (by simp)
    obtain ⟨b1, x, hx⟩ := snoc_of (h.ne _ (blk_mem hq))
    have hxl : (bs.getD q []).getLastD (0, 0) = x := by rw [hx]; simp [List.getLastD_eq_getLast?]
    rw [hxl, np_end hK hR h hq hx]
    cases hj : jmpB K cl M x.1 y with
    | false => rfl
    | true =>
      have hb : begB K y = true := by unfold jmpB at hj; rw [Bool.and_eq_true] at hj; exact hj.2
      obtain ⟨j, hjl, e⟩ := (begB_iff hR h y).1 hb
      have := hI.mx c q hc j (by rw [hln]; exact hjl)
      rw [nxB_iff hK hcl hR h hM hq hjl, hxl, e, hj] at this
      cases this
  refine ⟨cs.map (plc bs), ?_, ?_, ?_⟩
  · rw [hI.out, List.map_map]
    refine List.map_congr_left (fun c hc => ?_)
    obtain ⟨c', q, rfl⟩ := hI.ne c hc
    have hq := hlt _ hc q (by simp)
    obtain ⟨q0, r0, hq0⟩ : ∃ q0 r0, c' ++ [q] = q0 :: r0 := by cases c' <;> exact ⟨_, _, rfl⟩
    have hq0l := hlt _ hc q0 (by rw [hq0]; simp)
    have hgo : (goesW (runsOf K) q cl M).2 = false := by
      cases hg : (goesW (runsOf K) q cl M).2 with
      | false => rfl
      | true =>
        obtain ⟨j, _, hj, e⟩ := goesW_to hg
        have := hI.mx c' q hc j hj
        rw [NxB_of hg e] at this
        cases this
    have e1 : (c' ++ [q]).headD 0 = q0 := by rw [hq0]; rfl
    have e2 : (plc bs (c' ++ [q])).headD 0 = ((bs.getD q0 []).headD (0, 0)).1 := by rw [hq0]; exact plc_head h hq0l
    obtain ⟨u, hu⟩ := plc_last h (c := c') hq
    have e3 : (plc bs (c' ++ [q])).getLastD 0 = ((bs.getD q []).getLastD (0, 0)).1 := by rw [hu, getLastD_snoc]
    have l0 := lev_of hK (in_blk h hq0l (hd_mem (h.ne _ (blk_mem hq0l))))
    have l1 := lev_of hK (in_blk h hq (lt_mem (h.ne _ (blk_mem hq))))
    have o1 := h.one _ (blk_mem hq) _ (lt_mem (h.ne _ (blk_mem hq)))
    show seqR (runsOf K) cl M para (c' ++ [q]) = seqP K lev cl M para (plc bs (c' ++ [q]))
    unfold seqR seqP
    rw [getLastD_snoc, e1, e2, e3, hgo, if_neg (by decide), toRun_at h hq0l, toRun_at h hq, beside_pk hR h hq0l, behind_nk hK hR h hq, l0.2.1, l1.2.1, o1]
    have e4 : ((c' ++ [q]).flatMap fun q => ((runsOf K).getD q default).at_) = (plc bs (c' ++ [q])).map fun p : Nat => (p : Int) := by
      unfold plc
      rw [List.map_flatMap]
      refine flatMap_eq (fun x hx => ?_)
      rw [toRun_at h (hlt _ hc x hx)]
      unfold toRun
      rw [List.map_map]
      rfl
    rw [e4]
    rfl
  · rw [List.map_map]
    have e1 : cs.map ((fun c => c.headD 0) ∘ plc bs) = (cs.map fun c => c.headD 0).map fun q => ((bs.getD q []).headD (0, 0)).1 := by
      rw [List.map_map]
      refine List.map_congr_left (fun c hc => ?_)
      obtain ⟨c', q, rfl⟩ := hI.ne c hc
      obtain ⟨q0, r0, hq0⟩ : ∃ q0 r0, c' ++ [q] = q0 :: r0 := by cases c' <;> exact ⟨_, _, rfl⟩
      have hq0l := hlt _ hc q0 (by rw [hq0]; simp)
      show (plc bs (c' ++ [q])).headD 0 = ((bs.getD ((c' ++ [q]).headD 0) []).headD (0, 0)).1
      rw [hq0]
      exact plc_head h hq0l
    rw [e1, hI.hd]
    refine rise_ext ?_ ?_ (fun p => ⟨fun hp => ?_, fun hp => ?_⟩)
    · rw [List.pairwise_map]
      refine ((List.pairwise_lt_range).filter _).imp_of_mem ?_
      intro a b ha hb hab
      have hb' : b < bs.length := by rw [← hln]; exact List.mem_range.1 (List.mem_filter.1 hb).1
      exact head_lt hR h hab hb' (hd_mem (h.ne _ (blk_mem (by omega)))) (hd_mem (h.ne _ (blk_mem hb')))
    · exact (List.pairwise_lt_range).filter _
    · obtain ⟨j, hj, rfl⟩ := List.mem_map.1 hp
      obtain ⟨hj1, hj2⟩ := List.mem_filter.1 hj
      have hjl : j < bs.length := by rw [← hln]; exact List.mem_range.1 hj1
      have hm := in_blk h hjl (hd_mem (h.ne _ (blk_mem hjl)))
      refine List.mem_filter.2 ⟨List.mem_range.2 (lev_of hK hm).1, ?_⟩
      unfold frstP
      rw [Bool.and_eq_true]
      refine ⟨List.any_eq_true.2 ⟨_, hm, by simp⟩, List.all_eq_true.2 (fun x hx => ?_)⟩
      obtain ⟨i, hi, hxi⟩ := blk_in h hx
      obtain ⟨b1, b2, hs⟩ := List.append_of_mem hxi
      cases b2 with
      | nil =>
        rw [np_end hK hR h hi hs]
        have hxl : (bs.getD i []).getLastD (0, 0) = x := by rw [hs]; simp [List.getLastD_eq_getLast?]
        have := List.all_eq_true.1 hj2 i (List.mem_range.2 (by rw [hln]; exact hi))
        rw [nxB_iff hK hcl hR h hM hi hjl, hxl] at this
        exact this
      | cons y b2 =>
        rw [np_in hK hR h hi hs]
        have hne : y.1 ≠ ((bs.getD j []).headD (0, 0)).1 := by
          intro e
          have hyb : begB K y.1 = true := (begB_iff hR h _).2 ⟨j, hjl, e.symm⟩
          have hym : y ∈ bs.getD i [] := by rw [hs]; simp
          rcases Nat.lt_trichotomy i j with h3 | h3 | h3
          · have := head_lt hR h h3 hjl hym (hd_mem (h.ne _ (blk_mem hjl))); omega
          · subst h3
            have hr2 : Rise (bs.getD i []) := by
              obtain ⟨u, v, _, _, hk⟩ := blk_split h hi
              rw [hk] at hR
              exact hR.right.left
            rw [hs] at hr2 e
            cases b1 with
            | nil =>
              have := (List.pairwise_cons.1 hr2).1 y (by simp)
              simp at e
              omega
            | cons z b1 =>
              have := (List.pairwise_cons.1 hr2).1 y (by simp)
              simp at e
              omega
          · have := head_lt hR h h3 hi (hd_mem (h.ne _ (blk_mem hjl))) hym; omega
        rw [decide_eq_false hne]
        rfl
    · obtain ⟨hp1, hp2⟩ := List.mem_filter.1 hp
      unfold frstP at hp2
      rw [Bool.and_eq_true] at hp2
      obtain ⟨x, hx, hxp⟩ := List.any_eq_true.1 hp2.1
      rw [decide_eq_true_eq] at hxp
      subst hxp
      have hno := List.all_eq_true.1 hp2.2
      obtain ⟨j, hj, hxj⟩ := blk_in h hx
      obtain ⟨b1, b2, hs⟩ := List.append_of_mem hxj
      rcases List.eq_nil_or_concat b1 with rfl | ⟨b1', y, rfl⟩
      · refine List.mem_map.2 ⟨j, List.mem_filter.2 ⟨List.mem_range.2 (by rw [hln]; exact hj), ?_⟩, by rw [hs]; rfl⟩
        unfold frstB
        refine List.all_eq_true.2 (fun i hi => ?_)
        have hil : i < bs.length := by rw [← hln]; exact List.mem_range.1 hi
        obtain ⟨c1, z, hz⟩ := snoc_of (h.ne _ (blk_mem hil))
        have hzl : (bs.getD i []).getLastD (0, 0) = z := by rw [hz]; simp [List.getLastD_eq_getLast?]
        have := hno z (in_blk h hil (by rw [hz]; simp))
        rw [np_end hK hR h hil hz] at this
        rw [nxB_iff hK hcl hR h hM hil hj, hzl, hs]
        exact this
      · exfalso
        rw [List.concat_eq_append, List.append_assoc] at hs
        have := hno y (in_blk h hj (by rw [hs]; simp))
        rw [np_in hK hR h hj hs] at this
        simp at this
  · intro d hd
    obtain ⟨c, hc, rfl⟩ := List.mem_map.1 hd
    obtain ⟨c', q, rfl⟩ := hI.ne c hc
    have hq := hlt _ hc q (by simp)
    obtain ⟨u, hu⟩ := plc_last h (c := c') hq
    refine ⟨by rw [hu]; simp, chn_plc hK hcl hR h hM _ (hlt _ hc) (hI.chn _ hc), ?_, ?_⟩
    · intro u' z hz y
      rw [hu] at hz
      have := List.append_inj' hz rfl
      injection this.2 with e
      rw [← e]
      exact hmax c' q hc y
    · intro p hp
      unfold plc at hp
      obtain ⟨z, hz, hpz⟩ := List.mem_flatMap.1 hp
      obtain ⟨x, hx, rfl⟩ := List.mem_map.1 hpz
      exact ⟨x, in_blk h (hlt _ hc z hz) hx, rfl⟩
end
end Go.Proofs.YtdpifkhkemeclaaGreat
