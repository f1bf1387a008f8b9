/- when two sheets are the same, and when one is great: plain laws. -/
import Derived.Test.YtcofacgdijjnoaaGreatPaz
import Derived.Test.YtcofacgdijjnoaaGreatPaa
import Derived.Test.YtcofacgdijjnoaaGreatPab
import Derived.Test.YtcofacgdijjnoaaGreatPaf
namespace Go.Proofs.YtcofacgdijjnoaaGreat
open PE (S31 S44 S49 k44 k49 k31)
open Go.RowKit Go.Shelf Go.Lib Go.Proofs.YtcofacgdijjnoaaGreatW.PrintWords Go.Proofs.YtcofacgdijjnoaaGreatW.PrintLast Go.Proofs.YtcofacgdijjnoaaGreatW.PrintMore
set_option linter.unusedVariables false
set_option linter.unusedSimpArgs false
set_option maxRecDepth 100000
set_option maxHeartbeats 2000000
theorem loop_eq {α : Type} (l l' : List α) (hl : l.length = l'.length) (g : Nat → Nat → Option Bool) (e : α → α → Prop) (he : ∀ x y, e x y ↔ x = y)
    (hs : ∀ k i, ∀ (h : i < l.length) (h' : i < l'.length), (e l[i] l'[i] → g (k + 1) i = g k (i + 1)) ∧ (¬ e l[i] l'[i] → g (k + 1) i = some false)) (hd : ∀ k, g (k + 1) l.length = some true) :
    ∀ m i k, l.length - i = m → i ≤ l.length → m < k → ∃ b, g k i = some b ∧ (b = true ↔ l.drop i = l'.drop i) := by
  intro m
  induction m with
  | zero =>
      intro i k hm hi hk
      obtain ⟨k, rfl⟩ : ∃ q, k = q + 1 := ⟨k - 1, by omega⟩
      have : i = l.length := by omega
      subst this
      exact ⟨true, hd k, by rw [List.drop_of_length_le (Nat.le_refl _), List.drop_of_length_le (by omega)]; simp⟩
  | succ m ih =>
      intro i k hm hi hk
      obtain ⟨k, rfl⟩ : ∃ q, k = q + 1 := ⟨k - 1, by omega⟩
      have h1 : i < l.length := by omega
      have h2 : i < l'.length := by omega
      have hc : l.drop i = l'.drop i ↔ l[i] = l'[i] ∧ l.drop (i + 1) = l'.drop (i + 1) := by
        rw [List.drop_eq_getElem_cons h1, List.drop_eq_getElem_cons h2, List.cons.injEq]
      by_cases h : e l[i] l'[i]
      · obtain ⟨b, hb, hq⟩ := ih (i + 1) k (by omega) (by omega) (by omega)
        exact ⟨b, by rw [(hs k i h1 h2).1 h]; exact hb, by rw [hq, hc]; exact ⟨fun x => ⟨(he _ _).1 h, x⟩, fun x => x.2⟩⟩
      · exact ⟨false, (hs k i h1 h2).2 h, by rw [hc]; exact ⟨fun x => (by cases x), fun x => absurd ((he _ _).2 x.1) h⟩⟩
theorem wr1 {i n : Nat} (h : i < n) (hn : n ≤ 1000000) : wrap64 ((i : Int) + 1) = ((i + 1 : Nat) : Int) := by unfold wrap64; omega
theorem numbers_is {l l' : List Int} (hl : l.length ≤ 1000000) {k : Nat} (hk : l.length < k) : ∃ b, PE.parquetryref21_numbers.f k l l' = some b ∧ (b = true ↔ l = l') := by
  unfold PE.parquetryref21_numbers.f
  by_cases h : l.length = l'.length
  · rw [if_pos (by omega)]
    have := loop_eq l l' h (fun k i => PE.parquetryref21_numbers.l0 k l l' (i : Int)) (fun x y => x = y) (fun _ _ => Iff.rfl) (fun k i h1 h2 => by
      have e1 : rd l (i : Int) = l[i] := by simp [rd, h1]
      have e2 : rd l' (i : Int) = l'[i] := by simp [rd, h2]
      constructor
      · intro he
        show PE.parquetryref21_numbers.l0 (k + 1) l l' (i : Int) = PE.parquetryref21_numbers.l0 k l l' ((i + 1 : Nat) : Int)
        rw [PE.parquetryref21_numbers.l0, if_pos (by omega), if_pos (by omega), if_pos (by omega), e1, e2, if_pos he, wr1 h1 hl]
      · intro he
        show PE.parquetryref21_numbers.l0 (k + 1) l l' (i : Int) = some false
        rw [PE.parquetryref21_numbers.l0, if_pos (by omega), if_pos (by omega), if_pos (by omega), e1, e2, if_neg he]) (fun k => by
        show PE.parquetryref21_numbers.l0 (k + 1) l l' (l.length : Int) = some true
        rw [PE.parquetryref21_numbers.l0, if_neg (by omega)]) l.length 0 k (by omega) (Nat.zero_le _) hk
    simpa using this
  · rw [if_neg (by omega)]
    exact ⟨false, rfl, ⟨fun x => (by cases x), fun x => absurd (by rw [x]) h⟩⟩
theorem rect_ext {x y : S49} : x = y ↔ x.f0 = y.f0 ∧ x.f1 = y.f1 ∧ x.f2 = y.f2 ∧ x.f3 = y.f3 := by
  obtain ⟨a, b, c, d⟩ := x
  obtain ⟨a', b', c', d'⟩ := y
  simp
theorem rects_is {l l' : List S49} (hl : l.length ≤ 1000000) {k : Nat} (hk : l.length < k) : ∃ b, PE.parquetryref21_Rects.f k l l' = some b ∧ (b = true ↔ l = l') := by
  unfold PE.parquetryref21_Rects.f
  by_cases h : l.length = l'.length
  · rw [if_pos (by omega)]
    have := loop_eq l l' h (fun k i => PE.parquetryref21_Rects.l0 k l l' (i : Int)) (fun x y => x.f0 = y.f0 ∧ x.f1 = y.f1 ∧ x.f2 = y.f2 ∧ x.f3 = y.f3) (fun _ _ => rect_ext.symm) (fun k i h1 h2 => by
      have e1 : PE.rd_T49 l (i : Int) = l[i] := by simp [PE.rd_T49, h1]
      have e2 : PE.rd_T49 l' (i : Int) = l'[i] := by simp [PE.rd_T49, h2]
      constructor
      · intro he
        show PE.parquetryref21_Rects.l0 (k + 1) l l' (i : Int) = PE.parquetryref21_Rects.l0 k l l' ((i + 1 : Nat) : Int)
        rw [PE.parquetryref21_Rects.l0, if_pos (by omega), if_pos (by omega), if_pos (by omega), e1, e2, if_neg (by simp [he.1, he.2.1, he.2.2.1, he.2.2.2]), wr1 h1 hl]
      · intro he
        show PE.parquetryref21_Rects.l0 (k + 1) l l' (i : Int) = some false
        rw [PE.parquetryref21_Rects.l0, if_pos (by omega), if_pos (by omega), if_pos (by omega), e1, e2, if_pos (by simp; omega)]) (fun k => by
        show PE.parquetryref21_Rects.l0 (k + 1) l l' (l.length : Int) = some true
        rw [PE.parquetryref21_Rects.l0, if_neg (by omega)]) l.length 0 k (by omega) (Nat.zero_le _) hk
    simpa using this
  · rw [if_neg (by omega)]
    exact ⟨false, rfl, ⟨fun x => (by cases x), fun x => absurd (by rw [x]) h⟩⟩
theorem cell_ext {x y : S44} : x = y ↔ x.f0 = y.f0 ∧ x.f1 = y.f1 ∧ x.f2.toList = y.f2.toList ∧ x.f3.f0 = y.f3.f0 ∧ x.f3.f1 = y.f3.f1 ∧ x.f3.f2 = y.f3.f2 := by
  obtain ⟨a, b, ⟨⟨c⟩⟩, ⟨d, e, f⟩⟩ := x
  obtain ⟨a', b', ⟨⟨c'⟩⟩, ⟨d', e', f'⟩⟩ := y
  simp [ByteArray.toList_eq]
theorem cells_is {a0 b0 : Int} {l1 l2 m1 m2 : List Int} {l4 m4 : List S49} {l l' : List S44} (h : l.length = l'.length) (hl : l.length ≤ 1000000) {k : Nat} (hk : l.length < k) : ∃ b, PE.parquetryref21_Same.l0 k 0 a0 l1 l2 l l4 b0 m1 m2 l' m4 = some b ∧ (b = true ↔ l = l') := by
  have := loop_eq l l' h (fun k i => PE.parquetryref21_Same.l0 k (i : Int) a0 l1 l2 l l4 b0 m1 m2 l' m4) (fun x y => x.f0 = y.f0 ∧ x.f1 = y.f1 ∧ x.f2.toList = y.f2.toList ∧ x.f3.f0 = y.f3.f0 ∧ x.f3.f1 = y.f3.f1 ∧ x.f3.f2 = y.f3.f2) (fun _ _ => cell_ext.symm) (fun k i h1 h2 => by
      have e1 : PE.rd_T44 l (i : Int) = l[i] := by simp [PE.rd_T44, h1]
      have e2 : PE.rd_T44 l' (i : Int) = l'[i] := by simp [PE.rd_T44, h2]
      constructor
      · intro he
        show PE.parquetryref21_Same.l0 (k + 1) (i : Int) a0 l1 l2 l l4 b0 m1 m2 l' m4 = PE.parquetryref21_Same.l0 k ((i + 1 : Nat) : Int) a0 l1 l2 l l4 b0 m1 m2 l' m4
        rw [PE.parquetryref21_Same.l0, if_pos (by omega), if_pos (by omega), if_pos (by omega), e1, e2, if_neg (by simp [he.1, he.2.1, he.2.2.1, he.2.2.2]), wr1 h1 hl]
      · intro he
        show PE.parquetryref21_Same.l0 (k + 1) (i : Int) a0 l1 l2 l l4 b0 m1 m2 l' m4 = some false
        rw [PE.parquetryref21_Same.l0, if_pos (by omega), if_pos (by omega), if_pos (by omega), e1, e2, if_pos (by
          refine Classical.byContradiction fun hn => he ?_
          simp at hn
          exact hn)]) (fun k => by
        show PE.parquetryref21_Same.l0 (k + 1) (l.length : Int) a0 l1 l2 l l4 b0 m1 m2 l' m4 = some true
        rw [PE.parquetryref21_Same.l0, if_neg (by omega)]) l.length 0 k (by omega) (Nat.zero_le _) hk
  simpa using this
theorem same_is {a0 b0 : Int} {l1 l2 m1 m2 : List Int} {l4 m4 : List S49} {l l' : List S44} (h1 : l1.length ≤ 1000000) (h2 : l2.length ≤ 1000000) (h3 : l.length ≤ 1000000) (h4 : l4.length ≤ 1000000) :
    ∃ k b, PE.parquetryref21_Same.f k a0 l1 l2 l l4 b0 m1 m2 l' m4 = some b ∧ (b = true ↔ (⟨a0, l1, l2, l, l4⟩ : Sh) = ⟨b0, m1, m2, l', m4⟩) := by
  refine ⟨l1.length + l2.length + l.length + l4.length + 3, ?_⟩
  obtain ⟨b1, e1, q1⟩ := numbers_is (l' := m1) h1 (k := l1.length + l2.length + l.length + l4.length + 3) (by omega)
  obtain ⟨b2, e2, q2⟩ := numbers_is (l' := m2) h2 (k := l1.length + l2.length + l.length + l4.length + 3) (by omega)
  obtain ⟨b4, e4, q4⟩ := rects_is (l' := m4) h4 (k := l1.length + l2.length + l.length + l4.length + 3) (by omega)
  have hj : PE.parquetryref21_Same.j0 (l1.length + l2.length + l.length + l4.length + 3) true a0 l1 l2 l l4 b0 m1 m2 l' m4 = some false := by rw [PE.parquetryref21_Same.j0, if_pos rfl]
  have hj2 : PE.parquetryref21_Same.j0 (l1.length + l2.length + l.length + l4.length + 3) false a0 l1 l2 l l4 b0 m1 m2 l' m4 = PE.parquetryref21_Same.l0 (l1.length + l2.length + l.length + l4.length + 2) 0 a0 l1 l2 l l4 b0 m1 m2 l' m4 := by rw [PE.parquetryref21_Same.j0, if_neg (by decide)]
  have no : ∀ {p : Prop}, ¬ p → ∃ b, (some false : Option Bool) = some b ∧ (b = true ↔ p) := fun hp => ⟨false, rfl, ⟨fun x => (by cases x), fun x => absurd x hp⟩⟩
  unfold PE.parquetryref21_Same.f
  by_cases h0 : a0 = b0
  · rw [if_pos h0, e1, Option.bind_some]
    by_cases hb1 : b1 = true
    · rw [if_pos hb1, e2, Option.bind_some]
      by_cases hb2 : b2 = true
      · rw [if_pos hb2]
        by_cases hl : l.length = l'.length
        · rw [if_pos (by omega), e4, Option.bind_some]
          cases b4 with
          | false =>
            rw [show (!false) = true from rfl, hj]
            exact no (fun h => by injection h with _ _ _ _ h5; have := q4.2 h5; cases this)
          | true =>
            rw [show (!true) = false from rfl, hj2]
            obtain ⟨b, eb, qb⟩ := cells_is (a0 := a0) (b0 := b0) (l1 := l1) (l2 := l2) (m1 := m1) (m2 := m2) (l4 := l4) (m4 := m4) hl h3 (k := l1.length + l2.length + l.length + l4.length + 2) (by omega)
            refine ⟨b, eb, qb.trans ⟨fun h => ?_, fun h => by injection h⟩⟩
            rw [h0, q1.1 hb1, q2.1 hb2, q4.1 rfl, h]
        · rw [if_neg (by omega), hj]
          exact no (fun h => by injection h with _ _ _ h5 _; exact hl (by rw [h5]))
      · rw [if_neg hb2, hj]
        exact no (fun h => by injection h with _ _ h5 _ _; exact hb2 (q2.2 h5))
    · rw [if_neg hb1, hj]
      exact no (fun h => by injection h with _ h5 _ _ _; exact hb1 (q1.2 h5))
  · rw [if_neg h0, hj]
    exact no (fun h => by injection h with h5; exact h0 h5)
theorem great_l0 {a0 : Int} {l1 l2 : List Int} {l4 : List S49} {l : List S44} (hl : l.length ≤ 1000000) : ∀ m i k, l.length - i = m → i ≤ l.length → m < k → ∃ b, PE.parquetrylaw22_great.l0 k (i : Int) a0 l1 l2 l l4 = some b := by
  intro m
  induction m with
  | zero =>
      intro i k hm hi hk
      obtain ⟨k, rfl⟩ : ∃ q, k = q + 1 := ⟨k - 1, by omega⟩
      exact ⟨false, by rw [PE.parquetrylaw22_great.l0, if_neg (by omega)]⟩
  | succ m ih =>
      intro i k hm hi hk
      obtain ⟨k, rfl⟩ : ∃ q, k = q + 1 := ⟨k - 1, by omega⟩
      rw [PE.parquetrylaw22_great.l0, if_pos (by omega), if_pos (by omega)]
      by_cases h : (((PE.rd_T44 l (i : Int)).f2).size : Int) > 2000
      · exact ⟨true, by rw [if_pos h]⟩
      · rw [if_neg h, wr1 (n := l.length) (by omega) hl]
        exact ih (i + 1) k (by omega) (by omega) (by omega)
theorem great_is (a0 : Int) (l1 l2 : List Int) (l : List S44) (l4 : List S49) (b0 b1 b2 b3 b4 b5 b6 : Int) (b7 : ByteArray) (b8 b9 b10 : Int) :
    ∃ k b, PE.parquetrylaw22_great.f k a0 l1 l2 l l4 b0 b1 b2 b3 b4 b5 b6 b7 b8 b9 b10 = some b ∧ (b = false → Few ⟨a0, l1, l2, l, l4⟩ ∧ b7.size ≤ 2000) := by
  by_cases hl : l.length ≤ 500
  · obtain ⟨b, hb⟩ := great_l0 (a0 := a0) (l1 := l1) (l2 := l2) (l4 := l4) (l := l) (by omega) l.length 0 (l.length + 2) (by omega) (Nat.zero_le _) (by omega)
    have hj : PE.parquetrylaw22_great.j0 (l.length + 3) true a0 l1 l2 l l4 = some true := by rw [PE.parquetrylaw22_great.j0, if_pos rfl]
    have hj2 : PE.parquetrylaw22_great.j0 (l.length + 3) false a0 l1 l2 l l4 = some b := by rw [PE.parquetrylaw22_great.j0, if_neg (by decide)]; exact hb
    refine ⟨l.length + 3, ?_⟩
    unfold PE.parquetrylaw22_great.f
    by_cases h1 : (l1.length : Int) > 100
    · exact ⟨true, by rw [if_pos h1, hj], fun h => by cases h⟩
    rw [if_neg h1]
    by_cases h2 : (l2.length : Int) > 100
    · exact ⟨true, by rw [if_pos h2, hj], fun h => by cases h⟩
    rw [if_neg h2]
    by_cases h3 : (l4.length : Int) > 100
    · exact ⟨true, by rw [if_pos h3, hj], fun h => by cases h⟩
    rw [if_neg h3, if_neg (by omega)]
    by_cases h5 : (b7.size : Int) > 2000
    · rw [decide_eq_true h5]; exact ⟨true, hj, fun h => by cases h⟩
    · rw [decide_eq_false h5]; exact ⟨b, hj2, fun _ => ⟨⟨by show l1.length ≤ 1000; omega, by show l2.length ≤ 1000; omega, by show l.length ≤ 1000; omega, by show l4.length ≤ 1000; omega⟩, by omega⟩⟩
  · refine ⟨1, true, ?_, fun h => by cases h⟩
    have hj : PE.parquetrylaw22_great.j0 1 true a0 l1 l2 l l4 = some true := by rw [PE.parquetrylaw22_great.j0, if_pos rfl]
    unfold PE.parquetrylaw22_great.f
    rw [hj, if_pos (show (l.length : Int) > 500 by omega)]
    simp
end Go.Proofs.YtcofacgdijjnoaaGreat
