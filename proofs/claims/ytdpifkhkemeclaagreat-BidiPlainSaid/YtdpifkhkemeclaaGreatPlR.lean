/- bidi.Resolve where nothing runs from right to left: all levels are 0. -/
import Derived.Test.YtdpifkhkemeclaaGreatZh
import Derived.Test.YtdpifkhkemeclaaGreatOrdQ
namespace Go.Proofs.YtdpifkhkemeclaaGreat
open Go.RowKit Go.Proofs.YtdpifkhkemeclaaGreatW.PrintWords Go.Proofs.YtdpifkhkemeclaaGreat.PZ
set_option linter.unusedVariables false
set_option linter.unusedSimpArgs false
/-- No R, AL, AN. -/
def tame (l : List Int) : Prop := ∀ c ∈ l, c ≠ 1 ∧ c ≠ 2 ∧ c ≠ 6
/-- No R, EN, AN. -/
def flat (l : List Int) : Prop := ∀ c ∈ l, c ≠ 1 ∧ c ≠ 3 ∧ c ≠ 6
theorem tame.tl {c : Int} {r : List Int} (h : tame (c :: r)) : tame r := fun d hd => h d (by simp [hd])
theorem tame.cons {c : Int} {r : List Int} (h : c ≠ 1 ∧ c ≠ 2 ∧ c ≠ 6) (hr : tame r) : tame (c :: r) := fun d hd => by
  rcases List.mem_cons.1 hd with rfl | hd
  · exact h
  · exact hr d hd
theorem mk_tame : ∀ (l : List Int) (p : Int) (b : Bool), p ≠ 1 ∧ p ≠ 2 ∧ p ≠ 6 → tame l → tame (Wk.mkGo p b l)
  | [], _, _, _, _ => fun d hd => by simp [Wk.mkGo] at hd
  | c :: r, p, b, hp, h => by
    have hc := h c (by simp)
    have hm : Wk.mkOf p b ≠ 1 ∧ Wk.mkOf p b ≠ 2 ∧ Wk.mkOf p b ≠ 6 := by unfold Wk.mkOf; split <;> omega
    have hx : (if c = 8 then Wk.mkOf p b else c) ≠ 1 ∧ (if c = 8 then Wk.mkOf p b else c) ≠ 2 ∧ (if c = 8 then Wk.mkOf p b else c) ≠ 6 := by
      split
      · exact hm
      · exact hc
    simp only [Wk.mkGo]
    exact tame.cons hx (mk_tame r _ _ hx h.tl)
theorem aft_tame : ∀ (l : List Int) (p : Int), p ≠ 2 → tame l → Wk.aftGo 2 6 p l = l
  | [], _, _, _ => rfl
  | c :: r, p, hp, h => by
    have hc := h c (by simp)
    simp only [Wk.aftGo]
    split
    · rw [aft_tame r c (by omega) h.tl]
    · split
      · rw [aft_tame r p hp h.tl]
      · rw [aft_tame r p hp h.tl]
theorem bt_tame : ∀ (l : List Int) (p : Int) (b : Bool), p ≠ 1 ∧ p ≠ 2 ∧ p ≠ 6 → tame l → tame (Wk.btGo p b l)
  | [], _, _, _, _ => fun d hd => by simp [Wk.btGo] at hd
  | c :: r, p, b, hp, h => by
    have hc := h c (by simp)
    have hx : Wk.btOf p (Wk.nxW r) b c ≠ 1 ∧ Wk.btOf p (Wk.nxW r) b c ≠ 2 ∧ Wk.btOf p (Wk.nxW r) b c ≠ 6 := by
      unfold Wk.btOf
      split
      · exact hp
      · exact hc
    exact tame.cons hx (bt_tame r _ _ hx h.tl)
theorem bs_tame : ∀ (l : List Int) (p : Int) (b : Bool), tame l → tame (Wk.bsGo p b l)
  | [], _, _, _ => fun d hd => by simp [Wk.bsGo] at hd
  | c :: r, p, b, h => by
    have hc := h c (by simp)
    have hx : Wk.bsOf p (Wk.runNx r) b c ≠ 1 ∧ Wk.bsOf p (Wk.runNx r) b c ≠ 2 ∧ Wk.bsOf p (Wk.runNx r) b c ≠ 6 := by
      unfold Wk.bsOf
      split
      · exact ⟨by omega, by omega, by omega⟩
      · exact hc
    exact tame.cons hx (bs_tame r _ _ h.tl)
theorem turn_tame (fs l : List Int) (h : tame l) : tame (Wk.turnW 13 fs l) := by
  intro d hd
  obtain ⟨c, hc, rfl⟩ := List.mem_map.1 hd
  split
  · exact ⟨by omega, by omega, by omega⟩
  · exact h c hc
theorem aft0_flat : ∀ (l : List Int), tame l → flat (Wk.aftGo 0 0 0 l)
  | [], _ => fun d hd => by simp [Wk.aftGo] at hd
  | c :: r, h => by
    have hc := h c (by simp)
    have ih := aft0_flat r h.tl
    intro d hd
    simp only [Wk.aftGo] at hd
    split at hd
    · rename_i h0
      have hc0 : c = 0 := by omega
      subst hc0
      rcases List.mem_cons.1 hd with rfl | hd
      · exact ⟨by omega, by omega, by omega⟩
      · exact ih d hd
    · rename_i h0
      split at hd
      · rcases List.mem_cons.1 hd with rfl | hd
        · rw [if_pos trivial]; exact ⟨by omega, by omega, by omega⟩
        · exact ih d hd
      · rcases List.mem_cons.1 hd with rfl | hd
        · exact ⟨hc.1, by assumption, hc.2.2⟩
        · exact ih d hd
theorem weak_flat (l : List Int) (h : tame l) : flat (Wk.weakW l 0) := by
  unfold Wk.weakW
  have h1 := mk_tame l 0 false ⟨by omega, by omega, by omega⟩ h
  rw [aft_tame _ 0 (by omega) h1, Wk.turn_bare 1 [2] _ (fun c hc => by simp [(h1 c hc).2.1])]
  exact aft0_flat _ (turn_tame _ _ (bs_tame _ _ _ (bt_tame _ _ _ ⟨by omega, by omega, by omega⟩ h1)))
theorem flat.set {T : List Int} (h : flat T) (i : Nat) : flat (T.set i 0) := fun d hd => by
  rcases List.mem_or_eq_of_mem_set hd with hd | rfl
  · exact h d hd
  · exact ⟨by omega, by omega, by omega⟩
theorem setGo_flat (ow : List Int) : ∀ (d i : Nat) (T : List Int), flat T → flat (setGo ow 0 d i T)
  | 0, _, _, h => h
  | d + 1, i, T, h => by
    unfold setGo
    split
    · exact setGo_flat ow d _ _ (h.set _)
    · exact h
theorem setP_flat (ow : List Int) (a : Nat) (T : List Int) (h : flat T) : flat (setP ow a 0 T) := setGo_flat _ _ _ _ (h.set _)
theorem letterP_flat {c : Int} (h : c ≠ 1 ∧ c ≠ 3 ∧ c ≠ 6) : (letterP c).1 = 0 := by
  unfold letterP
  split
  · rfl
  · rw [if_neg (by omega)]
theorem ins_flat : ∀ (l : List Int) (f : Bool), flat l → (insGo 0 0 f l).1 = 0
  | [], _, _ => rfl
  | c :: r, f, h => by
    have e := letterP_flat (h c (by simp))
    simp only [insGo]
    split
    · exact e
    · exact ins_flat r f (fun d hd => h d (by simp [hd]))
theorem part_flat {T : List Int} (h : flat T) (o c : Nat) : flat (partL T o c) := fun d hd => h d (List.mem_of_mem_drop (List.mem_of_mem_take hd))
theorem braS_flat (ow : List Int) (T : List Int) (p : Nat × Nat) (h : flat T) : flat (braS ow 0 0 T p) := by
  have e := ins_flat (partL T p.1 p.2) false (part_flat h _ _)
  unfold braS
  split
  · split
    · exact setP_flat _ _ _ (setP_flat _ _ _ h)
    · rw [e]
      exact setP_flat _ _ _ (setP_flat _ _ _ h)
  · exact h
theorem braW_flat (types codes ow : List Int) (h : flat types) : flat (braW types codes ow 0 0) := by
  unfold braW
  have e : (if Go.bits .and .i64 0 1 = 1 then (1 : Int) else 0) = 0 := by decide
  rw [e]
  generalize pairsW types codes = ps
  induction ps generalizing types with
  | nil => exact h
  | cons p ps ih => exact ih _ (braS_flat _ _ _ h)
theorem braW_len (types codes ow : List Int) (level sos : Int) : (braW types codes ow level sos).length = types.length := by
  unfold braW
  generalize pairsW types codes = ps
  generalize (if Go.bits .and .i64 level 1 = 1 then (1 : Int) else 0) = wy
  induction ps generalizing types with
  | nil => rfl
  | cons p ps ih => rw [List.foldl_cons, ih, braS_len]
theorem fill_flat : ∀ (d : Nat) (xs : List Int) (i : Nat), flat xs → flat (Nt.fillIn xs i 0 d)
  | 0, _, _, h => h
  | d + 1, xs, i, h => fill_flat d _ _ (h.set i)
theorem stt_flat (l : List Int) (h : flat l) : ∀ k, k ≤ l.length → (Nt.stt l 0 0 k).1 = 0 ∧ flat (Nt.stt l 0 0 k).2.2
  | 0, _ => ⟨rfl, h⟩
  | k + 1, hk => by
    obtain ⟨h1, h2⟩ := stt_flat l h k (by omega)
    have hc : l.getD k 0 ≠ 1 ∧ l.getD k 0 ≠ 3 ∧ l.getD k 0 ≠ 6 := by
      rw [List.getD_eq_getElem?_getD, List.getElem?_eq_getElem (by omega)]
      exact h _ (List.getElem_mem _)
    have hl : (Nt.letter (l.getD k 0)).1 = 0 := by
      unfold Nt.letter
      rw [if_neg (by omega)]
      split
      · show l.getD k 0 = 0
        omega
      · rfl
    unfold Nt.stt
    split
    · refine ⟨hl, ?_⟩
      dsimp only
      have e : Nt.asOf 0 (Nt.stt l 0 0 k).1 (Nt.letter (l.getD k 0)).1 = 0 := by
        unfold Nt.asOf
        rw [h1, hl, if_pos rfl]
      rw [e]
      exact fill_flat _ _ _ h2
    · exact ⟨h1, h2⟩
theorem settle_flat (l : List Int) (h : flat l) : flat (Nt.settle l 0 0 0) := by
  obtain ⟨h1, h2⟩ := stt_flat l h l.length (Nat.le_refl _)
  unfold Nt.settle
  have e : Nt.asOf 0 (Nt.stt l 0 0 l.length).1 0 = 0 := by
    unfold Nt.asOf
    rw [h1, if_pos rfl]
  rw [e]
  exact fill_flat _ _ _ h2
theorem settle_len (l : List Int) (a b c : Int) : (Nt.settle l a b c).length = l.length := by
  unfold Nt.settle
  rw [Nt.fillIn_length, Nt.stt_length]

/-! What is printed, by rounds. -/
theorem cls_all (l : List S38) (hl : l.length ≤ 100000) (K : Nat) (hK : l.length + 1 ≤ K) : class_All.f K l = some (l.map clsR) := by
  have main : ∀ (m i k : Nat), l.length - i = m → i ≤ l.length → m + 1 ≤ k → class_All.l0 k ((l.map clsR).take i) l (l.length : Int) (i : Int) = some (l.map clsR) := by
    intro m
    induction m with
    | zero =>
      intro i k hm hi hk
      obtain ⟨k, rfl⟩ : ∃ k', k = k' + 1 := ⟨k - 1, by omega⟩
      simp only [class_All.l0]
      rw [if_neg (by omega), List.take_of_length_le (by simp; omega)]
    | succ m ih =>
      intro i k hm hi hk
      obtain ⟨k, rfl⟩ : ∃ k', k = k' + 1 := ⟨k - 1, by omega⟩
      have hil : i < l.length := by omega
      have := ih (i + 1) k (by omega) (by omega) (by omega)
      simp only [class_All.l0]
      rw [if_pos (by omega), if_pos (by omega), if_pos (by omega), clsR_some, Option.bind_some, if_pos (by simp; omega), oS i (by omega)]
      have e : rd_T38 l (i : Int) = l[i] := by simp [rd_T38, List.getD_eq_getElem?_getD, hil]
      rw [e, ← List.getElem_map (f := clsR) (h := by simpa using hil), ← List.take_succ_eq_append_getElem]
      exact this
  have := main l.length 0 K rfl (Nat.zero_le _) hK
  simpa [class_All.f] using this
theorem part_of (ks : List Nat) (l : List Int) (a b c : Int) (hl : l.length ≤ 100000) (hk : ks.length ≤ 100000) (hks : ∀ i ∈ ks, i < l.length) (K : Nat) (hK : ks.length + 1 ≤ K) :
    bidi_part_of.f K a b c (ks.map fun i : Nat => (i : Int)) l = some (ks.map fun i => l.getD i 0) := by
  have main : ∀ (m i k : Nat), ks.length - i = m → i ≤ ks.length → m + 1 ≤ k → bidi_part_of.l0 k l ((ks.map fun i => l.getD i 0).take i) (ks.map fun i : Nat => (i : Int)) (ks.length : Int) (i : Int) = some (ks.map fun i => l.getD i 0) := by
    intro m
    induction m with
    | zero =>
      intro i k hm hi hk
      obtain ⟨k, rfl⟩ : ∃ k', k = k' + 1 := ⟨k - 1, by omega⟩
      simp only [bidi_part_of.l0]
      rw [if_neg (by omega), List.take_of_length_le (by simp; omega)]
    | succ m ih =>
      intro i k hm hi hk
      obtain ⟨k, rfl⟩ : ∃ k', k = k' + 1 := ⟨k - 1, by omega⟩
      have hil : i < ks.length := by omega
      have := ih (i + 1) k (by omega) (by omega) (by omega)
      have e : rd (ks.map fun i : Nat => (i : Int)) (i : Int) = (ks[i] : Int) := by simp [rd, List.getD_eq_getElem?_getD, hil]
      have hb := hks ks[i] (List.getElem_mem hil)
      have e2 : rd l (ks[i] : Int) = (ks.map fun i => l.getD i 0)[i]'(by simpa using hil) := by simp [rd]
      simp only [bidi_part_of.l0]
      rw [e, if_pos (by omega), if_pos (by omega), if_pos (by simp; omega), if_pos (by omega), if_pos (by omega), if_pos (by simp; omega), oS i (by omega), e2, ← List.take_succ_eq_append_getElem]
      exact this
  have := main ks.length 0 K rfl (Nat.zero_le _) hK
  simpa [bidi_part_of.f] using this
theorem rises_flat (c : Int) (h : c ≠ 1 ∧ c ≠ 3 ∧ c ≠ 6) (k : Nat) (hk : 3 ≤ k) : neutral_rises.f k c 0 = some 0 := by
  obtain ⟨k, rfl⟩ : ∃ k', k = k' + 3 := ⟨k - 3, by omega⟩
  have e : ((Go.bits .and .i64 0 1 : Int) == 1) = false := by decide
  unfold neutral_rises.f
  rw [if_neg h.1, e]
  have e6 : (c != 6) = true := by simp [h.2.2]
  have j1 : ∀ k', neutral_rises.j1 (k' + 2) c false false = some 0 := by
    intro k'
    simp only [neutral_rises.j1]
    rw [if_neg (by decide), if_neg h.2.1, e6]
    rfl
  show neutral_rises.j0 (k + 2 + 1) c false false = some 0
  simp only [neutral_rises.j0]
  rw [if_neg (by decide)]
  split
  · exact j1 k
  · exact j1 k
theorem levels_flat (l : List Int) (h : flat l) (hl : l.length ≤ 100000) (K : Nat) (hK : l.length + 10 ≤ K) : neutral_Levels.f K l 0 = some (List.replicate l.length 0) := by
  have main : ∀ (m i k : Nat), l.length - i = m → i ≤ l.length → m + 9 ≤ k → neutral_Levels.l0 k 0 (List.replicate l.length 0) l (l.length : Int) (i : Int) = some (List.replicate l.length 0) := by
    intro m
    induction m with
    | zero =>
      intro i k hm hi hk
      obtain ⟨k, rfl⟩ : ∃ k', k = k' + 1 := ⟨k - 1, by omega⟩
      simp only [neutral_Levels.l0]
      rw [if_neg (by omega)]
    | succ m ih =>
      intro i k hm hi hk
      obtain ⟨k, rfl⟩ : ∃ k', k = k' + 1 := ⟨k - 1, by omega⟩
      have hil : i < l.length := by omega
      have hc : rd l (i : Int) ≠ 1 ∧ rd l (i : Int) ≠ 3 ∧ rd l (i : Int) ≠ 6 := by
        have e : rd l (i : Int) = l[i] := by simp [rd, List.getD_eq_getElem?_getD, hil]
        rw [e]
        exact h _ (List.getElem_mem hil)
      have := ih (i + 1) k (by omega) (by omega) (by omega)
      simp only [neutral_Levels.l0]
      rw [if_pos (by omega), if_pos (by omega), if_pos (by omega), rises_flat _ hc k (by omega), Option.bind_some, if_pos (by simp; omega), oS i (by omega)]
      have e : (List.replicate l.length (0 : Int)).set ((i : Int)).toNat (wrap64 (0 + 0)) = List.replicate l.length 0 := by
        rw [show wrap64 (0 + 0) = 0 by rw [oW (by omega) (by omega)]; rfl]
        apply List.ext_getElem
        · simp
        · intro j h1 h2
          rw [List.getElem_set]
          split <;> simp
      rw [e]
      exact this
  unfold neutral_Levels.f
  rw [if_pos (by omega), Int.toNat_natCast, if_pos (by omega)]
  exact main l.length 0 K rfl (Nat.zero_le _) (by omega)

/-! All together. -/
theorem kept_lt (para : Int) (l : List Int) : ∀ i ∈ keptL para l, i < l.length := by
  intro i hi
  obtain ⟨x, hx, rfl⟩ := List.mem_map.1 hi
  exact kpTo_mem hx
theorem kept_len (para : Int) (l : List Int) : (keptL para l).length ≤ l.length := by
  unfold keptL
  rw [List.length_map]
  exact kpTo_length _ _
theorem putAt_all (p : Int → Prop) : ∀ (ks : List Nat) (xs o : List Int), (∀ c ∈ o, p c) → (∀ c ∈ xs, p c) → ∀ c ∈ putAt o ks xs, p c
  | [], _, o, h, _ => by simpa [putAt] using h
  | k :: ks, [], o, h, _ => by simpa [putAt] using h
  | k :: ks, x :: xs, o, h, hx => by
    simp only [putAt]
    refine putAt_all p ks xs _ (fun c hc => ?_) (fun c hc => hx c (by simp [hc]))
    rcases List.mem_or_eq_of_mem_set hc with hc | rfl
    · exact h c hc
    · exact hx _ (by simp)
theorem fill_zero (X : List Int) (h : ∀ c ∈ X, c = 0 ∨ c = -1) : fillP 0 X = List.replicate X.length 0 := by
  have hl : ∀ i, i ≤ X.length → lastP 0 X i = 0 := by
    intro i
    induction i with
    | zero => intro _; rfl
    | succ i ih =>
      intro hi
      have e : X.getD i 0 = X[i]'(by omega) := by simp [List.getD_eq_getElem?_getD, show i < X.length by omega]
      have hx := h (X[i]'(by omega)) (List.getElem_mem _)
      unfold lastP
      rw [e]
      split
      · exact ih (by omega)
      · omega
  apply List.ext_getElem
  · simp [fillP]
  · intro i h1 h2
    have hi : i < X.length := by simpa using h2
    simp [fillP, hl (i + 1) (by omega)]
theorem resolve_plain (l : List S38) (hl : l.length ≤ 1000) (hc : ∀ x ∈ l, clsR x ≠ 1 ∧ clsR x ≠ 2 ∧ clsR x ≠ 6 ∧ clsR x < 14) : bidi_Resolve.f l 0 = some (List.replicate l.length 0) := by
  unfold bidi_Resolve.f
  rw [cls_all l (by omega) _ (by omega), Option.bind_some]
  have hall : (((l.map clsR).all fun c => decide (c < 14)) && ((0 : Int) == 0 || (0 : Int) == 1) && decide ((l.map clsR).length = l.length) && decide (l.length ≤ 1048576)) = true := by
    have h1 : ((l.map clsR).all fun c => decide (c < 14)) = true := by
      rw [List.all_eq_true]
      intro c hcm
      obtain ⟨x, hx, rfl⟩ := List.mem_map.1 hcm
      exact decide_eq_true (hc x hx).2.2.2
    have h2 : decide ((l.map clsR).length = l.length) = true := decide_eq_true (by simp)
    have h3 : decide (l.length ≤ 1048576) = true := decide_eq_true (by omega)
    rw [h1, h2, h3]
    rfl
  rw [if_pos hall]
  have h0 : ∀ c ∈ (l.map clsR).map (lvP 0), c = 0 ∨ c = -1 := by
    intro c hcm
    obtain ⟨x, _, rfl⟩ := List.mem_map.1 hcm
    unfold lvP
    split
    · exact .inr rfl
    · exact .inl rfl
  by_cases hk : keptL 0 (l.map clsR) = []
  · rw [if_pos hk, Option.map_some, fill_zero _ h0]
    simp
  · rw [if_neg hk]
    have hkl := kept_len 0 (l.map clsR)
    have hkm := kept_lt 0 (l.map clsR)
    generalize hks : keptL 0 (l.map clsR) = ks at hkl hkm
    rw [List.length_map] at hkl
    have ht : tame (ks.map fun i => (l.map clsR).getD i 0) := by
      intro c hcm
      obtain ⟨i, hi, rfl⟩ := List.mem_map.1 hcm
      have hil : i < l.length := by simpa using hkm i hi
      have e : (l.map clsR).getD i 0 = clsR l[i] := by simp [List.getD_eq_getElem?_getD, hil]
      rw [e]
      have := hc l[i] (List.getElem_mem hil)
      exact ⟨this.1, this.2.1, this.2.2.1⟩
    have p1 := part_of ks (l.map clsR) 0 0 0 (by simp; omega) (by omega) hkm (l.length + 60) (by omega)
    have p2 := part_of ks (l.map fun x => x.f2) 0 0 0 (by simp; omega) (by omega) (fun i hi => by simpa using hkm i hi) (l.length + 60) (by omega)
    have hns : bidi_part_levels.f (l.length + 60) 0 0 0 (ks.map fun i : Nat => (i : Int)) (l.map fun x => x.f2) (l.map clsR) (l.map clsR) = some (List.replicate ks.length 0) := by
      unfold bidi_part_levels.f
      rw [p1, Option.bind_some]
      unfold weak_Weak.f
      rw [if_pos (by simp; omega), Option.bind_some, p2, Option.bind_some, Option.bind_some]
      have hwl := Wk.weak_len (ks.map fun i => (l.map clsR).getD i 0) 0
      rw [List.length_map] at hwl
      unfold pairs_Brackets.f
      rw [if_pos ⟨by rw [hwl, List.length_map], by rw [List.length_map, List.length_map]⟩, if_pos (by omega), Option.bind_some]
      unfold neutral_Settle.f
      rw [if_pos (by rw [braW_len, hwl]; omega), Option.bind_some]
      have hfl := settle_flat _ (braW_flat (Wk.weakW (ks.map fun i => (l.map clsR).getD i 0) 0) (ks.map fun i => (l.map fun x => x.f2).getD i 0) (ks.map fun i => (l.map clsR).getD i 0) (weak_flat _ ht))
      rw [levels_flat _ hfl (by rw [settle_len, braW_len, hwl]; omega) _ (by rw [settle_len, braW_len, hwl]; omega), Option.bind_some, settle_len, braW_len, hwl]
    rw [hns, Option.bind_some, if_pos (by simp), Option.map_some]
    rw [fill_zero _ (putAt_all _ ks _ _ h0 (fun c hcm => .inl (List.eq_of_mem_replicate hcm))), putAt_length]
    simp
theorem ord_plain (n : Nat) (hn : n ≤ 1000) : ordT (List.replicate n 0) = List.range' 0 n := by
  unfold ordT
  rw [List.length_replicate]
  show stGo _ (tn _ 125 (1 + 1)) [] (List.range' 0 n) = _
  refine stGo_none (tn_nil _ _ _) _ (fun x hx => ?_)
  have hxn : x < n := by rw [List.mem_range'_1] at hx; omega
  refine decide_eq_false ?_
  have e : lvL ((List.replicate n 0).map clipL) x = 0 := by simp [lvL, List.getD_eq_getElem?_getD, hxn]; rfl
  rw [e]
  omega
end Go.Proofs.YtdpifkhkemeclaaGreat
