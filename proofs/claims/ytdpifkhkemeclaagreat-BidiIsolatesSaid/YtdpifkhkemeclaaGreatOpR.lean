/- A slice of runes, as a law is handed it, read as the program's lists. No conditions. -/
import Derived.Test.YtdpifkhkemeclaaGreatPZx0
import Derived.ChangeArms
import Derived.DataReads
import Derived.ChangeSlices
set_option linter.unusedVariables false
set_option linter.unusedSimpArgs false
namespace Go.Proofs.YtdpifkhkemeclaaGreat.PZ
open Go.RowKit Go.ChangeShapes Go.Proofs.YtdpifkhkemeclaaGreatW.PrintWords
section
variable {P : Program} {H : Type} {enc : TypeId × Value → H} {w : World} {base : Nat} {spare : Nat → Bool} {held : Bool}
theorem plus_plus (a : Addr) (i j : Nat) : (a.add i).add j = a.add (i + j) := by
  unfold Addr.add
  by_cases hi : i = 0 <;> by_cases hj : j = 0 <;> simp [hi, hj, Nat.add_assoc]
theorem open_three {t e : TypeId} {f0 f1 f2 : Field} {fuel : Nat} {cs : List Value} {x : DataW H × List MemPlace} (hu : P.underlying t = some (.struct #[f0, f1, f2]))
    (he : P.underlying e = some (.int .i64)) (h3 : P.cellsOf t = 3) (h1 : P.cellsOf e = 1) (t0 : f0.type = e) (t1 : f1.type = e) (t2 : f2.type = e) (o0 : f0.offset = 0) (o1 : f1.offset = 1) (o2 : f2.offset = 2)
    (h : DataW.trod enc P w base spare held fuel t cs = some x) :
    ∃ s : S38, cs = [.int .i64 s.f0, .int .i64 s.f1, .int .i64 s.f2] ∧ (Lit.int .i64 s.f0).wf = true ∧ (Lit.int .i64 s.f1).wf = true ∧ (Lit.int .i64 s.f2).wf = true := by
  obtain ⟨xs, n, _, _, hl, hlen, hf⟩ := DataW.trod_struct hu h
  rw [h3] at hl
  have g0 := hf 0 f0 rfl
  have g1 := hf 1 f1 rfl
  have g2 := hf 2 f2 rfl
  clear hf h
  have hx : xs.length = 3 := hlen
  rcases xs with _ | ⟨y0, _ | ⟨y1, _ | ⟨y2, _ | ⟨y3, ys⟩⟩⟩⟩ <;> simp at hx
  rcases cs with _ | ⟨v0, _ | ⟨v1, _ | ⟨v2, _ | ⟨v3, vs⟩⟩⟩⟩ <;> simp at hl
  rw [t0, o0, h1] at g0
  rw [t1, o1, h1] at g1
  rw [t2, o2, h1] at g2
  simp only [List.drop_zero, List.drop_succ_cons, List.take_succ_cons, List.take_zero, List.getElem?_cons_zero, List.getElem?_cons_succ] at g0 g1 g2
  obtain ⟨n0, e0, _, q0⟩ := DataW.trod_int he g0
  obtain ⟨n1, e1, _, q1⟩ := DataW.trod_int he g1
  obtain ⟨n2, e2, _, q2⟩ := DataW.trod_int he g2
  simp only [List.cons.injEq, and_true] at e0 e1 e2
  subst e0 e1 e2
  exact ⟨⟨n0, n1, n2⟩, rfl, q0, q1, q2⟩
theorem list_of {α : Type} {p : Nat → α → Prop} (n : Nat) (h : ∀ i, i < n → ∃ s, p i s) : ∃ l : List α, l.length = n ∧ ∀ i s, l[i]? = some s → p i s := by
  induction n with
  | zero => exact ⟨[], rfl, by simp⟩
  | succ m ih =>
    obtain ⟨l, e1, e2⟩ := ih (fun i hi => h i (by omega))
    obtain ⟨s, hs⟩ := h m (by omega)
    refine ⟨l ++ [s], by simp [e1], fun i t ht => ?_⟩
    rcases Nat.lt_trichotomy i m with hi | hi | hi
    · rw [List.getElem?_append_left (by omega)] at ht
      exact e2 i t ht
    · subst hi
      rw [← e1, List.getElem?_append_right (Nat.le_refl _), Nat.sub_self] at ht
      obtain rfl : s = t := by simpa using ht
      exact hs
    · rw [List.getElem?_eq_none (by simp; omega)] at ht
      cases ht
theorem open_threes {q t e : TypeId} {f0 f1 f2 : Field} {fuel : Nat} {cs : List Value} {x : DataW H × List MemPlace} (hq : P.underlying q = some (.slice t)) (hu : P.underlying t = some (.struct #[f0, f1, f2]))
    (he : P.underlying e = some (.int .i64)) (h3 : P.cellsOf t = 3) (h1 : P.cellsOf e = 1) (t0 : f0.type = e) (t1 : f1.type = e) (t2 : f2.type = e) (o0 : f0.offset = 0) (o1 : f1.offset = 1) (o2 : f2.offset = 2)
    (h : DataW.trod enc P w base spare held fuel q cs = some x) :
    ∃ (A : Option Addr) (len cap : Nat) (l : List S38), cs = [.slice A len cap] ∧ len = l.length ∧ Kd.C k38 w A l.length l ∧ l.length ≤ cap ∧ l.length ≤ maxLen ∧
      ∀ s ∈ l, (Lit.int .i64 s.f0).wf = true ∧ (Lit.int .i64 s.f1).wf = true ∧ (Lit.int .i64 s.f2).wf = true := by
  rcases DataW.trod_slice hq h with ⟨rfl, _⟩ | ⟨a, len, cap, elems, rest, n, _, rfl, _, hb, hl, hm, hlen, hel, _, _⟩
  · exact ⟨none, 0, 0, [], rfl, rfl, Kd.C_nil _ _, Nat.le_refl _, Nat.zero_le _, by simp⟩
  · have each : ∀ i, i < len → ∃ s : S38, (∀ j u, [Value.int .i64 s.f0, .int .i64 s.f1, .int .i64 s.f2][j]? = some u → w.cell? (a.add (i * 3 + j)) = some u) ∧ (Lit.int .i64 s.f0).wf = true ∧ (Lit.int .i64 s.f1).wf = true ∧ (Lit.int .i64 s.f2).wf = true := by
      intro i hi
      have e := hel i hi
      rw [List.getElem?_eq_getElem (by omega), Option.bind_eq_some_iff, h3] at e
      obtain ⟨cs', e1, e2⟩ := e
      obtain ⟨s, rfl, q⟩ := open_three hu he h3 h1 t0 t1 t2 o0 o1 o2 e2
      obtain ⟨_, _, hc⟩ := World.cells?_some e1
      refine ⟨s, fun j u hj => ?_, q⟩
      have hj3 : j < 3 := by
        have := (List.getElem?_eq_some_iff.1 hj).1
        simpa using this
      have := hc j hj3
      rw [hj] at this
      rw [← this]
      rw [plus_plus]
    obtain ⟨l, hll, hlp⟩ := list_of len each
    have hmx : (maxLen : Nat) = 9223372036854775807 := rfl
    refine ⟨some a, len, cap, l, rfl, hll.symm, ⟨rfl, by omega, fun _ => ⟨a, rfl, fun j s hs => ?_⟩⟩, by omega, by omega, fun s hs => ?_⟩
    · exact ⟨_, rfl, k38_mk w s, fun i u hu => (hlp j s hs).1 i u hu⟩
    · obtain ⟨i, hi⟩ := List.getElem?_of_mem hs
      exact (hlp i s hi).2
theorem open_runes {fuel : Nat} {cs : List Value} {x : DataW H × List MemPlace} (h : DataW.trod enc Tryz.prog w base spare held fuel 22 cs = some x) :
    ∃ (A : Option Addr) (len cap : Nat) (l : List S38), cs = [.slice A len cap] ∧ len = l.length ∧ Kd.C k38 w A l.length l ∧ l.length ≤ cap ∧ l.length ≤ maxLen ∧
      ∀ s ∈ l, (Lit.int .i64 s.f0).wf = true ∧ (Lit.int .i64 s.f1).wf = true ∧ (Lit.int .i64 s.f2).wf = true :=
  open_threes Tryz.underlying22 Tryz.underlying38 Tryz.underlying3 (by kernel_rfl) (by kernel_rfl) rfl rfl rfl rfl rfl rfl h
end
end Go.Proofs.YtdpifkhkemeclaaGreat.PZ
