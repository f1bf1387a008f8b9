/- Brackets in plain words: letters, marks, what a pair does, place by place. -/
import Derived.Test.YtdpifkhkemeclaaDoorPQa
import Derived.Test.YtdpifkhkemeclaaDoorMc
import Derived.KernelRfl
import Derived.WalkKit
import Derived.Laws.BitsLemmas
namespace Go.Proofs.Base
/-- 'x & (2^i - 1)' on an int, whatever its sign. -/
theorem and_mask (x : Int) (i : Nat) (hi : i ≤ 62) : Go.bits .and .i64 x ((2 : Int) ^ i - 1) = x % (2 : Int) ^ i := by
  have hpos : 0 < 2 ^ i := Nat.two_pow_pos i
  have hc : ((2 : Int) ^ i - 1) = ((2 ^ i - 1 : Nat) : Int) := by
    rw [Int.natCast_sub hpos]; simp
  have hle : 2 ^ i ≤ 2 ^ 62 := Nat.pow_le_pow_right (by decide) hi
  rw [hc]
  have h1 : (BitVec.ofInt 64 x &&& BitVec.ofInt 64 ((2 ^ i - 1 : Nat) : Int)).toNat = (x % 18446744073709551616).toNat % 2 ^ i := by
    rw [BitVec.toNat_and, BitVec.ofInt_natCast, BitVec.toNat_ofNat, BitVec.toNat_ofInt, Nat.mod_eq_of_lt (a := 2 ^ i - 1) (by omega), Nat.and_two_pow_sub_one_eq_mod]
    rfl
  have h2 : Go.bits .and .i64 x ((2 ^ i - 1 : Nat) : Int) = IntKind.i64.wrap ((BitVec.ofInt 64 x &&& BitVec.ofInt 64 ((2 ^ i - 1 : Nat) : Int)).toNat : Int) := rfl
  rw [h2, h1]
  have h3 : (((x % 18446744073709551616).toNat % 2 ^ i : Nat) : Int) = x % (2 : Int) ^ i := by
    have hdvd : ((2 ^ i : Nat) : Int) ∣ 18446744073709551616 := by
      refine ⟨((2 ^ (64 - i) : Nat) : Int), ?_⟩
      rw [← Int.natCast_mul, ← Nat.pow_add, show i + (64 - i) = 64 by omega]; rfl
    have e2 : ((2 ^ i : Nat) : Int) = (2 : Int) ^ i := by simp
    rw [Int.natCast_emod, Int.toNat_of_nonneg (Int.emod_nonneg _ (by decide)), ← e2, Int.emod_emod_of_dvd _ hdvd]
  rw [h3, IntKind.wrap_i64]
  have h4 : 0 ≤ x % (2 : Int) ^ i := Int.emod_nonneg _ (by have : ((2 ^ i : Nat) : Int) = (2 : Int) ^ i := by simp
                                                           omega)
  have h5 : x % (2 : Int) ^ i < (2 : Int) ^ i := Int.emod_lt_of_pos _ (by have : ((2 ^ i : Nat) : Int) = (2 : Int) ^ i := by simp
                                                                          omega)
  have h6 : (2 : Int) ^ i ≤ 4611686018427387904 := by
    have : ((2 ^ i : Nat) : Int) ≤ ((2 ^ 62 : Nat) : Int) := by exact_mod_cast hle
    have e2 : ((2 ^ i : Nat) : Int) = (2 : Int) ^ i := by simp
    rw [e2] at this
    exact this
  omega
theorem and_one (x : Int) : Go.bits .and .i64 x 1 = x % 2 := and_mask x 1 (by decide)
theorem and_31 (x : Int) : Go.bits .and .i64 x 2147483647 = x % 2147483648 := and_mask x 31 (by decide)
end Go.Proofs.Base
namespace Go.Proofs.YtdpifkhkemeclaaDoor
open Go.RowKit Go.Proofs.YtdpifkhkemeclaaDoorW.PrintWords
set_option linter.unusedVariables false
set_option linter.unusedSimpArgs false

theorem w64b {x : Int} (h0 : -9223372036854775808 ≤ x) (h1 : x ≤ 9223372036854775807) : wrap64 x = x := by
  unfold wrap64; omega
theorem wsuccB (i : Nat) (h : i ≤ 1048577) : wrap64 ((i : Int) + 1) = ((i + 1 : Nat) : Int) := by
  rw [w64b (by omega) (by omega)]; rfl
theorem wsucc2B (i : Nat) (h : i ≤ 1048577) : wrap64 ((i : Int) + 2) = ((i + 2 : Nat) : Int) := by
  rw [w64b (by omega) (by omega)]; rfl
theorem ev_same {α : Type} {g : Nat → Option α} {r r' : α} (h : Ev g r) (e : r = r') : Ev g r' := e ▸ h
theorem rdB (l : List Int) (i : Nat) : rd l (i : Int) = l.getD i 0 := by simp [rd]

theorem rd31 (out : List (Nat × Nat)) (j : Nat) (h : j < out.length) : PQ.rd_T31 (out.map s31) (j : Int) = s31 (out.getD j (0, 0)) := by
  unfold PQ.rd_T31
  rw [Int.toNat_natCast, List.getD_eq_getElem?_getD, List.getElem?_map, List.getD_eq_getElem?_getD, List.getElem?_eq_getElem h]
  rfl
theorem drop31 (out : List (Nat × Nat)) (j : Nat) (h : j < out.length) : out.drop j = out.getD j (0, 0) :: out.drop (j + 1) := by
  rw [List.drop_eq_getElem_cons h, List.getD_eq_getElem?_getD, List.getElem?_eq_getElem h]
  rfl

theorem findF (types codes : List Int) (hc : types.length ≤ 1048576) : pairs_Find.f types codes = some (if types.length = codes.length then (pairsW types codes).map s31 else []) := by
  unfold pairs_Find.f
  by_cases he : types.length = codes.length
  · rw [if_pos he, if_pos he, if_pos hc]
  · rw [if_neg he, if_neg he]
theorem bracketsF (types codes own : List Int) (level sos : Int) (hc : types.length ≤ 1048576) : pairs_Brackets.f types codes own level sos = some (if types.length = codes.length ∧ own.length = codes.length then braW types codes own level sos else []) := by
  unfold pairs_Brackets.f
  by_cases he : types.length = codes.length ∧ own.length = codes.length
  · rw [if_pos he, if_pos he, if_pos hc]
  · rw [if_neg he, if_neg he]

theorem awakeQ : Ev (fun k => PQ.parquetrylaw14_awake.f k) true := Ev.of (fun k => PQ.parquetrylaw14_awake.mono k) (k := 30) (by kernel_rfl)
/-- A class's letter; below 0: none. -/
def letV (c : Int) : Int := if c = 0 then 0 else if c = 1 then 1 else if c = 3 then 1 else if c = 6 then 1 else -1
theorem letV_of (c : Int) : (letterP c).2 = decide (0 ≤ letV c) ∧ ((letterP c).2 = true → (letterP c).1 = letV c) ∧ (letV c = 0 ∨ letV c = 1 ∨ letV c = -1) := by
  unfold letterP letV
  by_cases h0 : c = 0
  · simp [h0]
  · by_cases h1 : c = 1
    · simp [h1]
    · by_cases h3 : c = 3
      · simp [h3]
      · by_cases h6 : c = 6
        · simp [h6]
        · simp [h0, h1, h3, h6]
def hasP (l : List Int) (x : Int) : Bool := l.any fun c => letV c == x
theorem firstL_append (a b : List Int) : firstL (a ++ b) = match firstL a with | some x => some x | none => firstL b := by
  induction a with
  | nil => rfl
  | cons c r ih =>
    show (if (letterP c).2 = true then some (letterP c).1 else firstL (r ++ b)) = match (if (letterP c).2 = true then some (letterP c).1 else firstL r) with | some x => some x | none => firstL b
    by_cases h : (letterP c).2 = true
    · rw [if_pos h, if_pos h]
    · rw [if_neg h, if_neg h]; exact ih
theorem aheadP_cons (c : Int) (r : List Int) (s : Int) : aheadP (c :: r) s = aheadP r (if (letterP c).2 = true then (letterP c).1 else s) := by
  unfold aheadP
  rw [List.reverse_cons, firstL_append]
  cases firstL r.reverse with
  | some x => rfl
  | none =>
    show (firstL [c]).getD s = _
    unfold firstL
    split <;> rfl
/-- What stands between two brackets, by letters. -/
theorem insGo_has (W : Int) (hW : W = 0 ∨ W = 1) : ∀ (l : List Int) (y : Int) (f : Bool), insGo W y f l = if hasP l W = true then (W, true) else if hasP l (1 - W) = true then (1 - W, true) else (y, f)
  | [], y, f => rfl
  | c :: r, y, f => by
    obtain ⟨h1, h2, h3⟩ := letV_of c
    have e1 : hasP (c :: r) W = ((letV c == W) || hasP r W) := rfl
    have e2 : hasP (c :: r) (1 - W) = ((letV c == 1 - W) || hasP r (1 - W)) := rfl
    unfold insGo
    by_cases hx : 0 ≤ letV c
    · have hb : (letterP c).2 = true := by rw [h1]; exact decide_eq_true hx
      rw [if_pos hb, h2 hb]
      by_cases hc : letV c = W
      · rw [if_pos hc, e1, hc]
        simp
      · have ho : letV c = 1 - W := by omega
        have b1 : (letV c == W) = false := by simpa using hc
        have b2 : (letV c == 1 - W) = true := by simpa using ho
        rw [if_neg hc, insGo_has W hW r, e1, e2, b1, b2, ho]
        simp
    · have hb : (letterP c).2 = false := by rw [h1]; exact decide_eq_false hx
      have b1 : (letV c == W) = false := by rw [beq_eq_false_iff_ne]; omega
      have b2 : (letV c == 1 - W) = false := by rw [beq_eq_false_iff_ne]; omega
      rw [if_neg (by rw [hb]; decide), insGo_has W hW r, e1, e2, b1, b2]
      simp
/-- What a pair does; below 0: nothing. -/
def becV (W sos : Int) (T : List Int) (p : Nat × Nat) : Int :=
  if (insGo W 0 false (partL T p.1 p.2)).2 = true then
    (if (insGo W 0 false (partL T p.1 p.2)).1 ≠ W ∧ aheadP (T.take p.1) sos ≠ (insGo W 0 false (partL T p.1 p.2)).1 then W else (insGo W 0 false (partL T p.1 p.2)).1)
  else -1
theorem becV_range (W sos : Int) (hW : W = 0 ∨ W = 1) (T : List Int) (p : Nat × Nat) : becV W sos T p = 0 ∨ becV W sos T p = 1 ∨ becV W sos T p = -1 := by
  unfold becV
  rw [insGo_has W hW]
  by_cases h1 : hasP (partL T p.1 p.2) W = true
  · simp [h1]; omega
  · by_cases h2 : hasP (partL T p.1 p.2) (1 - W) = true
    · rw [if_neg h1, if_pos h2, if_pos rfl]
      split
      · omega
      · simp only; omega
    · rw [if_neg h1, if_neg h2]
      simp
/-- Marks from behind a place up to one. -/
def marksB (ow : List Int) (a k : Nat) : Bool := decide (a < k) && (List.range (k + 1)).all fun j => decide (j ≤ a) || ow.getD j 0 == 8
theorem marksB_iff (ow : List Int) (a k : Nat) : marksB ow a k = true ↔ a < k ∧ ∀ j, a < j → j ≤ k → ow.getD j 0 = 8 := by
  unfold marksB
  rw [Bool.and_eq_true, List.all_eq_true]
  constructor
  · rintro ⟨h1, h2⟩
    refine ⟨of_decide_eq_true h1, fun j hj hk => ?_⟩
    have := h2 j (List.mem_range.2 (by omega))
    rw [Bool.or_eq_true] at this
    rcases this with h | h
    · have := of_decide_eq_true h; omega
    · simpa using h
  · rintro ⟨h1, h2⟩
    refine ⟨decide_eq_true h1, fun j hj => ?_⟩
    rw [Bool.or_eq_true]
    by_cases h : j ≤ a
    · exact .inl (decide_eq_true h)
    · exact .inr (by simpa using h2 j (by omega) (by have := List.mem_range.1 hj; omega))
theorem getD_set (T : List Int) (i k : Nat) (w : Int) (hi : i < T.length) : (T.set i w).getD k 0 = if k = i then w else T.getD k 0 := by
  rw [List.getD_eq_getElem?_getD, List.getD_eq_getElem?_getD, List.getElem?_set]
  by_cases h : i = k
  · subst h; simp [hi]
  · rw [if_neg h, if_neg (fun e => h e.symm)]
theorem setGo_get (ow : List Int) (w : Int) : ∀ (d i : Nat) (T : List Int), ow.length + 1 - i ≤ d → T.length = ow.length → ∀ k, k < T.length →
    ((i ≤ k ∧ ∀ j, i ≤ j → j ≤ k → ow.getD j 0 = 8) → (setGo ow w d i T).getD k 0 = w) ∧ (¬ (i ≤ k ∧ ∀ j, i ≤ j → j ≤ k → ow.getD j 0 = 8) → (setGo ow w d i T).getD k 0 = T.getD k 0)
  | 0, i, T, hd, hl, k, hk => ⟨fun h => by omega, fun _ => rfl⟩
  | d + 1, i, T, hd, hl, k, hk => by
    unfold setGo
    by_cases hc : i < ow.length ∧ ow.getD i 0 = 8
    · rw [if_pos hc]
      have ih := setGo_get ow w d (i + 1) (T.set i w) (by omega) (by simp; exact hl) k (by simpa using hk)
      have hs := getD_set T i k w (by omega)
      by_cases hki : k = i
      · have e : (setGo ow w d (i + 1) (T.set i w)).getD k 0 = w := by rw [ih.2 (by omega), hs, if_pos hki]
        refine ⟨fun _ => e, fun h => ?_⟩
        exact absurd ⟨by omega, fun j h1 h2 => by rw [show j = i by omega]; exact hc.2⟩ h
      · refine ⟨fun h => ih.1 ⟨by omega, fun j h1 h2 => h.2 j (by omega) h2⟩, fun h => ?_⟩
        rw [ih.2 (fun a => h ⟨by omega, fun j h1 h2 => by
          by_cases e : j = i
          · rw [e]; exact hc.2
          · exact a.2 j (by omega) h2⟩), hs, if_neg hki]
    · rw [if_neg hc]
      refine ⟨fun h => ?_, fun _ => rfl⟩
      exact absurd ⟨by omega, h.2 i (Nat.le_refl _) h.1⟩ hc
theorem setP_get (ow : List Int) (a : Nat) (w : Int) (T : List Int) (hl : T.length = ow.length) (ha : a < T.length) (k : Nat) (hk : k < T.length) :
    ((k = a ∨ marksB ow a k = true) → (setP ow a w T).getD k 0 = w) ∧ (¬ (k = a ∨ marksB ow a k = true) → (setP ow a w T).getD k 0 = T.getD k 0) := by
  unfold setP
  have h := setGo_get ow w (ow.length + 1 - (a + 1)) (a + 1) (T.set a w) (Nat.le_refl _) (by simpa using hl) k (by simpa using hk)
  have hs := getD_set T a k w ha
  constructor
  · rintro (rfl | hm)
    · rw [h.2 (by omega), hs, if_pos rfl]
    · have := (marksB_iff ow a k).1 hm
      exact h.1 ⟨by omega, fun j h1 h2 => this.2 j (by omega) h2⟩
  · intro hn
    rw [h.2 (fun a' => hn (.inr ((marksB_iff ow a k).2 ⟨by omega, fun j h1 h2 => a'.2 j (by omega) h2⟩))), hs, if_neg (fun e => hn (.inl e))]

/-- Is a place a pair's, or a mark's behind it? -/
def condB (ow : List Int) (p : Nat × Nat) (k : Nat) : Bool := k == p.1 || (k == p.2 || (marksB ow p.1 k || marksB ow p.2 k))
theorem set2_get (ow : List Int) (p : Nat × Nat) (w : Int) (T : List Int) (hl : T.length = ow.length) (h1 : p.1 < T.length) (h2 : p.2 < T.length) (k : Nat) (hk : k < T.length) :
    (setP ow p.2 w (setP ow p.1 w T)).getD k 0 = if condB ow p k = true then w else T.getD k 0 := by
  have e1 := setP_get ow p.1 w T hl h1 k hk
  have e2 := setP_get ow p.2 w (setP ow p.1 w T) (by rw [setP_len]; exact hl) (by rw [setP_len]; exact h2) k (by rw [setP_len]; exact hk)
  by_cases c2 : k = p.2 ∨ marksB ow p.2 k = true
  · rw [e2.1 c2, if_pos]
    unfold condB
    rcases c2 with h | h
    · simp [h]
    · simp [h]
  · rw [e2.2 c2]
    by_cases c1 : k = p.1 ∨ marksB ow p.1 k = true
    · rw [e1.1 c1, if_pos]
      unfold condB
      rcases c1 with h | h
      · simp [h]
      · simp [h]
    · rw [e1.2 c1, if_neg]
      unfold condB
      intro h
      simp only [Bool.or_eq_true, beq_iff_eq] at h
      rcases h with h | h | h | h
      · exact c1 (.inl h)
      · exact c2 (.inl h)
      · exact c1 (.inr h)
      · exact c2 (.inr h)

theorem ext_len {a b : List Int} (hl : a.length = b.length) (h : ∀ k, k < a.length → a[k]? = b[k]?) : a = b := by
  refine List.ext_getElem? (fun k => ?_)
  rcases Nat.lt_or_ge k a.length with hk | hk
  · exact h k hk
  · rw [List.getElem?_eq_none hk, List.getElem?_eq_none (by omega)]
theorem braS_bec (ow : List Int) (W sos : Int) (hW : W = 0 ∨ W = 1) (T : List Int) (p : Nat × Nat) : braS ow W sos T p = if becV W sos T p = -1 then T else setP ow p.2 (becV W sos T p) (setP ow p.1 (becV W sos T p) T) := by
  unfold braS becV
  rw [insGo_has W hW]
  have n1 : ¬ W = -1 := by omega
  have n2 : ¬ 1 - W = W := by omega
  have n3 : ¬ 1 - W = -1 := by omega
  by_cases h1 : hasP (partL T p.1 p.2) W = true
  · simp [h1, n1]
  · by_cases h2 : hasP (partL T p.1 p.2) (1 - W) = true
    · by_cases h3 : aheadP (T.take p.1) sos = 1 - W
      · simp [h1, h2, h3, n2, n3]
      · simp [h1, h2, h3, n1, n2]
    · simp [h1, h2]
theorem tmod2 (x : Int) : Int.tmod x 2 = 0 ↔ x % 2 = 0 :=
  ⟨fun h => by have := Int.dvd_of_tmod_eq_zero h; omega, fun h => Int.tmod_eq_zero_of_dvd (by omega)⟩

end Go.Proofs.YtdpifkhkemeclaaDoor
