/- A sheet and a row of steps, as a law is handed them, read as the program's lists. No conditions. -/
import Derived.Test.YtcofacgdijjnoaaGreatPbd
import Derived.ChangeArms
import Derived.DataReads
import Derived.ChangeSlices
set_option linter.unusedVariables false
set_option linter.unusedSimpArgs false
namespace Go.Proofs.YtcofacgdijjnoaaGreat
open PE (S31 S44 S49 k44 k49 k31)
open Go.RowKit Go.ChangeShapes Go.Proofs.YtcofacgdijjnoaaGreatW.PrintWords
section
variable {H : Type} {enc : TypeId × Value → H} {w : World} {base : Nat} {spare : Nat → Bool} {held : Bool}
theorem plus_plus (a : Addr) (i j : Nat) : (a.add i).add j = a.add (i + j) := by
  unfold Addr.add
  by_cases hi : i = 0 <;> by_cases hj : j = 0 <;> simp [hi, hj, Nat.add_assoc]
theorem w6_of {n : Int} (h : (Lit.int .i64 n).wf = true) : W6 n := by
  simp only [Lit.wf, Bool.and_eq_true, decide_eq_true_eq] at h
  exact h
theorem list_of {α : Type} {p : Nat → α → Prop} (n : Nat) (h : ∀ i, i < n → ∃ s, p i s) : ∃ l : List α, l.length = n ∧ ∀ i s, l[i]? = some s → p i s := by
  induction n with
  | zero => exact ⟨[], rfl, by simp⟩
  | succ m ih =>
    obtain ⟨l, e1, e2⟩ := ih (fun i hi => h i (by omega))
    obtain ⟨s, hs⟩ := h m (by omega)
    refine ⟨l ++ [s], by simp [e1], fun i t ht => ?_⟩
    rcases Nat.lt_trichotomy i m with hi | hi | hi
    · rw [List.getElem?_append_left (by omega)] at ht
      exact e2 i t ht
    · subst hi
      rw [← e1, List.getElem?_append_right (Nat.le_refl _), Nat.sub_self] at ht
      obtain rfl : s = t := by simpa using ht
      exact hs
    · rw [List.getElem?_eq_none (by simp; omega)] at ht
      cases ht
theorem open_row {α : Type} {good : α → Prop} {q t : TypeId} {m fuel : Nat} {cs : List Value} {x : DataW H × List MemPlace} (enV : α → List Value) (hq : Tryz.prog.underlying q = some (.slice t)) (hm : Tryz.prog.cellsOf t = m) (hlen : ∀ s, (enV s).length = m)
    (one : ∀ n cs x, DataW.trod enc Tryz.prog w base spare held n t cs = some x → ∃ s : α, cs = enV s ∧ good s) (h : DataW.trod enc Tryz.prog w base spare held fuel q cs = some x) :
    ∃ (A : Option Addr) (cap : Nat) (l : List α), cs = [.slice A l.length cap] ∧ l.length ≤ cap ∧ l.length < 9223372036854775808 ∧ (∀ s ∈ l, good s) ∧ ∀ j s, l[j]? = some s → ∃ ad, A = some ad ∧ ∀ i u, (enV s)[i]? = some u → w.cell? (ad.add (j * m + i)) = some u := by
  rcases DataW.trod_slice hq h with ⟨rfl, _⟩ | ⟨a, len, cap, elems, rest, n, _, rfl, _, hb, hl, hmx, hlen', hel, _, _⟩
  · exact ⟨none, 0, [], rfl, Nat.le_refl _, by simp, by simp, by simp⟩
  · have each : ∀ i, i < len → ∃ s : α, (∀ j u, (enV s)[j]? = some u → w.cell? (a.add (i * m + j)) = some u) ∧ good s := by
      intro i hi
      have e := hel i hi
      rw [List.getElem?_eq_getElem (by omega), Option.bind_eq_some_iff, hm] at e
      obtain ⟨cs', e1, e2⟩ := e
      obtain ⟨s, rfl, q⟩ := one _ _ _ e2
      obtain ⟨_, _, hc⟩ := World.cells?_some e1
      refine ⟨s, fun j u hj => ?_, q⟩
      have hj3 : j < m := by
        have := (List.getElem?_eq_some_iff.1 hj).1
        rw [hlen] at this
        exact this
      have := hc j hj3
      rw [hj] at this
      rw [← this]
      rw [plus_plus]
    obtain ⟨l, hll, hlp⟩ := list_of len each
    have hmx' : (maxLen : Nat) = 9223372036854775807 := rfl
    subst hll
    refine ⟨some a, cap, l, rfl, by omega, by omega, fun s hs => ?_, fun j s hs => ⟨a, rfl, (hlp j s hs).1⟩⟩
    obtain ⟨i, hi⟩ := List.getElem?_of_mem hs
    exact (hlp i s hi).2
theorem open_style {fuel : Nat} {cs : List Value} {x : DataW H × List MemPlace} (h : DataW.trod enc Tryz.prog w base spare held fuel 31 cs = some x) :
    ∃ s : S31, cs = [.int .i64 s.f0, .int .i64 s.f1, .int .i64 s.f2] := by
  obtain ⟨xs, n, _, _, hl, hlen, hf⟩ := DataW.trod_struct Tryz.underlying31 h
  rw [show Tryz.prog.cellsOf 31 = 3 from by kernel_rfl] at hl
  have g0 := hf 0 (.mk _ 3 0 _ _ _ _) rfl
  have g1 := hf 1 (.mk _ 3 1 _ _ _ _) rfl
  have g2 := hf 2 (.mk _ 3 2 _ _ _ _) rfl
  clear hf h
  have hx : xs.length = 3 := hlen
  rcases xs with _ | ⟨y0, _ | ⟨y1, _ | ⟨y2, _ | ⟨y3, ys⟩⟩⟩⟩ <;> simp at hx
  rcases cs with _ | ⟨v0, _ | ⟨v1, _ | ⟨v2, _ | ⟨v3, vs⟩⟩⟩⟩ <;> simp at hl
  simp only [show Tryz.prog.cellsOf 3 = 1 from by kernel_rfl, List.drop_zero, List.drop_succ_cons, List.take_succ_cons, List.take_zero, List.getElem?_cons_zero, List.getElem?_cons_succ] at g0 g1 g2
  obtain ⟨n0, e0, _, _⟩ := DataW.trod_int Tryz.underlying3 g0
  obtain ⟨n1, e1, _, _⟩ := DataW.trod_int Tryz.underlying3 g1
  obtain ⟨n2, e2, _, _⟩ := DataW.trod_int Tryz.underlying3 g2
  simp only [List.cons.injEq, and_true] at e0 e1 e2
  subst e0 e1 e2
  exact ⟨⟨n0, n1, n2⟩, rfl⟩
theorem open_rect {fuel : Nat} {cs : List Value} {x : DataW H × List MemPlace} (h : DataW.trod enc Tryz.prog w base spare held fuel 49 cs = some x) :
    ∃ s : S49, cs = [.int .i64 s.f0, .int .i64 s.f1, .int .i64 s.f2, .int .i64 s.f3] ∧ WR s := by
  obtain ⟨xs, n, _, _, hl, hlen, hf⟩ := DataW.trod_struct Tryz.underlying49 h
  rw [show Tryz.prog.cellsOf 49 = 4 from by kernel_rfl] at hl
  have g0 := hf 0 (.mk _ 3 0 _ _ _ _) rfl
  have g1 := hf 1 (.mk _ 3 1 _ _ _ _) rfl
  have g2 := hf 2 (.mk _ 3 2 _ _ _ _) rfl
  have g3 := hf 3 (.mk _ 3 3 _ _ _ _) rfl
  clear hf h
  have hx : xs.length = 4 := hlen
  rcases xs with _ | ⟨y0, _ | ⟨y1, _ | ⟨y2, _ | ⟨y3, _ | ⟨y4, ys⟩⟩⟩⟩⟩ <;> simp at hx
  rcases cs with _ | ⟨v0, _ | ⟨v1, _ | ⟨v2, _ | ⟨v3, _ | ⟨v4, vs⟩⟩⟩⟩⟩ <;> simp at hl
  simp only [show Tryz.prog.cellsOf 3 = 1 from by kernel_rfl, List.drop_zero, List.drop_succ_cons, List.take_succ_cons, List.take_zero, List.getElem?_cons_zero, List.getElem?_cons_succ] at g0 g1 g2 g3
  obtain ⟨n0, e0, _, q0⟩ := DataW.trod_int Tryz.underlying3 g0
  obtain ⟨n1, e1, _, q1⟩ := DataW.trod_int Tryz.underlying3 g1
  obtain ⟨n2, e2, _, q2⟩ := DataW.trod_int Tryz.underlying3 g2
  obtain ⟨n3, e3, _, q3⟩ := DataW.trod_int Tryz.underlying3 g3
  simp only [List.cons.injEq, and_true] at e0 e1 e2 e3
  subst e0 e1 e2 e3
  exact ⟨⟨n0, n1, n2, n3⟩, rfl, w6_of q0, w6_of q1, w6_of q2, w6_of q3⟩
theorem open_cell {fuel : Nat} {cs : List Value} {x : DataW H × List MemPlace} (h : DataW.trod enc Tryz.prog w base spare held fuel 44 cs = some x) :
    ∃ s : S44, cs = [.int .i64 s.f0, .int .i64 s.f1, .string s.f2, .int .i64 s.f3.f0, .int .i64 s.f3.f1, .int .i64 s.f3.f2] ∧ WC s := by
  obtain ⟨xs, n, _, _, hl, hlen, hf⟩ := DataW.trod_struct Tryz.underlying44 h
  rw [show Tryz.prog.cellsOf 44 = 6 from by kernel_rfl] at hl
  have g0 := hf 0 (.mk _ 3 0 _ _ _ _) rfl
  have g1 := hf 1 (.mk _ 3 1 _ _ _ _) rfl
  have g2 := hf 2 (.mk _ 9 2 _ _ _ _) rfl
  have g3 := hf 3 (.mk _ 31 3 _ _ _ _) rfl
  clear hf h
  have hx : xs.length = 4 := hlen
  rcases xs with _ | ⟨y0, _ | ⟨y1, _ | ⟨y2, _ | ⟨y3, _ | ⟨y4, ys⟩⟩⟩⟩⟩ <;> simp at hx
  rcases cs with _ | ⟨v0, _ | ⟨v1, _ | ⟨v2, _ | ⟨v3, _ | ⟨v4, _ | ⟨v5, _ | ⟨v6, vs⟩⟩⟩⟩⟩⟩⟩ <;> simp at hl
  simp only [show Tryz.prog.cellsOf 3 = 1 from by kernel_rfl, show Tryz.prog.cellsOf 9 = 1 from by kernel_rfl, show Tryz.prog.cellsOf 31 = 3 from by kernel_rfl, List.drop_zero, List.drop_succ_cons, List.take_succ_cons, List.take_zero, List.getElem?_cons_zero, List.getElem?_cons_succ] at g0 g1 g2 g3
  obtain ⟨n0, e0, _, q0⟩ := DataW.trod_int Tryz.underlying3 g0
  obtain ⟨n1, e1, _, q1⟩ := DataW.trod_int Tryz.underlying3 g1
  obtain ⟨n2, e2, _, q2⟩ := DataW.trod_string Tryz.underlying9 g2
  obtain ⟨n3, e3⟩ := open_style g3
  simp only [List.cons.injEq, and_true] at e0 e1 e2 e3
  obtain ⟨e3, e4, e5⟩ := e3
  subst e0 e1 e2 e3 e4 e5
  exact ⟨⟨n0, n1, n2, n3⟩, rfl, w6_of q0, w6_of q1⟩
theorem open_step {fuel : Nat} {cs : List Value} {x : DataW H × List MemPlace} (h : DataW.trod enc Tryz.prog w base spare held fuel 33 cs = some x) :
    ∃ s : St, cs = (stv s).toList ∧ TyS s := by
  obtain ⟨xs, n, _, _, hl, hlen, hf⟩ := DataW.trod_struct Tryz.underlying33 h
  rw [show Tryz.prog.cellsOf 33 = 11 from by kernel_rfl] at hl
  have g0 := hf 0 (.mk _ 3 0 _ _ _ _) rfl
  have g1 := hf 1 (.mk _ 3 1 _ _ _ _) rfl
  have g2 := hf 2 (.mk _ 3 2 _ _ _ _) rfl
  have g3 := hf 3 (.mk _ 3 3 _ _ _ _) rfl
  have g4 := hf 4 (.mk _ 3 4 _ _ _ _) rfl
  have g5 := hf 5 (.mk _ 3 5 _ _ _ _) rfl
  have g6 := hf 6 (.mk _ 3 6 _ _ _ _) rfl
  have g7 := hf 7 (.mk _ 9 7 _ _ _ _) rfl
  have g8 := hf 8 (.mk _ 31 8 _ _ _ _) rfl
  clear hf h
  have hx : xs.length = 9 := hlen
  rcases xs with _ | ⟨y0, _ | ⟨y1, _ | ⟨y2, _ | ⟨y3, _ | ⟨y4, _ | ⟨y5, _ | ⟨y6, _ | ⟨y7, _ | ⟨y8, _ | ⟨y9, ys⟩⟩⟩⟩⟩⟩⟩⟩⟩⟩ <;> simp at hx
  rcases cs with _ | ⟨v0, _ | ⟨v1, _ | ⟨v2, _ | ⟨v3, _ | ⟨v4, _ | ⟨v5, _ | ⟨v6, _ | ⟨v7, _ | ⟨v8, _ | ⟨v9, _ | ⟨v10, _ | ⟨v11, vs⟩⟩⟩⟩⟩⟩⟩⟩⟩⟩⟩⟩ <;> simp at hl
  simp only [show Tryz.prog.cellsOf 3 = 1 from by kernel_rfl, show Tryz.prog.cellsOf 9 = 1 from by kernel_rfl, show Tryz.prog.cellsOf 31 = 3 from by kernel_rfl, List.drop_zero, List.drop_succ_cons, List.take_succ_cons, List.take_zero, List.getElem?_cons_zero, List.getElem?_cons_succ] at g0 g1 g2 g3 g4 g5 g6 g7 g8
  obtain ⟨n0, e0, _, q0⟩ := DataW.trod_int Tryz.underlying3 g0
  obtain ⟨n1, e1, _, q1⟩ := DataW.trod_int Tryz.underlying3 g1
  obtain ⟨n2, e2, _, q2⟩ := DataW.trod_int Tryz.underlying3 g2
  obtain ⟨n3, e3, _, q3⟩ := DataW.trod_int Tryz.underlying3 g3
  obtain ⟨n4, e4, _, q4⟩ := DataW.trod_int Tryz.underlying3 g4
  obtain ⟨n5, e5, _, q5⟩ := DataW.trod_int Tryz.underlying3 g5
  obtain ⟨n6, e6, _, q6⟩ := DataW.trod_int Tryz.underlying3 g6
  obtain ⟨n7, e7, _, q7⟩ := DataW.trod_string Tryz.underlying9 g7
  obtain ⟨n8, e8⟩ := open_style g8
  simp only [List.cons.injEq, and_true] at e0 e1 e2 e3 e4 e5 e6 e7 e8
  obtain ⟨e8, e9, e10⟩ := e8
  subst e0 e1 e2 e3 e4 e5 e6 e7 e8 e9 e10
  exact ⟨⟨n0, n1, n2, n3, n4, n5, n6, n7, n8⟩, rfl, w6_of q1, w6_of q2, w6_of q3, w6_of q4, w6_of q5, w6_of q6⟩
theorem open_sheet {fuel : Nat} {cs : List Value} {x : DataW H × List MemPlace} (h : DataW.trod enc Tryz.prog w base spare held fuel 26 cs = some x) :
    ∃ (V : SV) (s : Sh), cs = (shv V s).toList ∧ Rd w V s ∧ WS s := by
  obtain ⟨xs, n, _, _, hl, hlen, hf⟩ := DataW.trod_struct Tryz.underlying26 h
  rw [show Tryz.prog.cellsOf 26 = 5 from by kernel_rfl] at hl
  have g0 := hf 0 (.mk _ 3 0 _ _ _ _) rfl
  have g1 := hf 1 (.mk _ 22 1 _ _ _ _) rfl
  have g2 := hf 2 (.mk _ 22 2 _ _ _ _) rfl
  have g3 := hf 3 (.mk _ 23 3 _ _ _ _) rfl
  have g4 := hf 4 (.mk _ 24 4 _ _ _ _) rfl
  clear hf h
  have hx : xs.length = 5 := hlen
  rcases xs with _ | ⟨y0, _ | ⟨y1, _ | ⟨y2, _ | ⟨y3, _ | ⟨y4, _ | ⟨y5, ys⟩⟩⟩⟩⟩⟩ <;> simp at hx
  rcases cs with _ | ⟨v0, _ | ⟨v1, _ | ⟨v2, _ | ⟨v3, _ | ⟨v4, _ | ⟨v5, vs⟩⟩⟩⟩⟩⟩ <;> simp at hl
  simp only [show Tryz.prog.cellsOf 3 = 1 from by kernel_rfl, show Tryz.prog.cellsOf 22 = 1 from by kernel_rfl, show Tryz.prog.cellsOf 23 = 1 from by kernel_rfl, show Tryz.prog.cellsOf 24 = 1 from by kernel_rfl, List.drop_zero, List.drop_succ_cons, List.take_succ_cons, List.take_zero, List.getElem?_cons_zero, List.getElem?_cons_succ] at g0 g1 g2 g3 g4
  obtain ⟨n0, e0, _, q0⟩ := DataW.trod_int Tryz.underlying3 g0
  have oI : ∀ n cs x, DataW.trod enc Tryz.prog w base spare held n 3 cs = some x → ∃ s : Int, cs = [Value.int .i64 s] ∧ True := fun n cs x h => by
    obtain ⟨n, e, _, _⟩ := DataW.trod_int Tryz.underlying3 h
    exact ⟨n, e, trivial⟩
  obtain ⟨A1, c1, l1, e1, k1, b1, _, r1⟩ := open_row (fun s : Int => [Value.int .i64 s]) Tryz.underlying22 (m := 1) (by kernel_rfl) (fun _ => rfl) oI g1
  obtain ⟨A2, c2, l2, e2, k2, b2, _, r2⟩ := open_row (fun s : Int => [Value.int .i64 s]) Tryz.underlying22 (m := 1) (by kernel_rfl) (fun _ => rfl) oI g2
  obtain ⟨A3, c3, l3, e3, k3, b3, w3, r3⟩ := open_row (fun s : S44 => [.int .i64 s.f0, .int .i64 s.f1, .string s.f2, .int .i64 s.f3.f0, .int .i64 s.f3.f1, .int .i64 s.f3.f2]) Tryz.underlying23 (m := 6) (by kernel_rfl) (fun _ => rfl) (fun _ _ _ h => open_cell h) g3
  obtain ⟨A4, c4, l4, e4, k4, b4, w4, r4⟩ := open_row (fun s : S49 => [.int .i64 s.f0, .int .i64 s.f1, .int .i64 s.f2, .int .i64 s.f3]) Tryz.underlying24 (m := 4) (by kernel_rfl) (fun _ => rfl) (fun _ _ _ h => open_rect h) g4
  simp only [List.cons.injEq, and_true] at e0 e1 e2 e3 e4
  subst e0 e1 e2 e3 e4
  refine ⟨⟨A1, c1, A2, c2, A3, c3, A4, c4⟩, ⟨n0, l1, l2, l3, l4⟩, rfl, ⟨⟨rfl, Nat.le_of_lt_succ b1, fun hp => ?_⟩, k1, ⟨rfl, Nat.le_of_lt_succ b2, fun hp => ?_⟩, k2, ⟨rfl, Nat.le_of_lt_succ b3, fun hp => ?_⟩, k3, ⟨rfl, Nat.le_of_lt_succ b4, fun hp => ?_⟩, k4⟩, w3, w4⟩
  · obtain ⟨ad, ea, _⟩ := r1 0 _ (List.getElem?_eq_getElem hp)
    refine ⟨ad, ea, fun j s hs => ⟨_, rfl, rfl, fun i u hu => ?_⟩⟩
    obtain ⟨ad', ea', hr⟩ := r1 j s hs
    obtain rfl : ad = ad' := Option.some.inj (ea.symm.trans ea')
    exact hr i u hu
  · obtain ⟨ad, ea, _⟩ := r2 0 _ (List.getElem?_eq_getElem hp)
    refine ⟨ad, ea, fun j s hs => ⟨_, rfl, rfl, fun i u hu => ?_⟩⟩
    obtain ⟨ad', ea', hr⟩ := r2 j s hs
    obtain rfl : ad = ad' := Option.some.inj (ea.symm.trans ea')
    exact hr i u hu
  · obtain ⟨ad, ea, _⟩ := r3 0 _ (List.getElem?_eq_getElem hp)
    refine ⟨ad, ea, fun j s hs => ⟨_, rfl, PE.k44_mk w s, fun i u hu => ?_⟩⟩
    obtain ⟨ad', ea', hr⟩ := r3 j s hs
    obtain rfl : ad = ad' := Option.some.inj (ea.symm.trans ea')
    exact hr i u hu
  · obtain ⟨ad, ea, _⟩ := r4 0 _ (List.getElem?_eq_getElem hp)
    refine ⟨ad, ea, fun j s hs => ⟨_, rfl, PE.k49_mk w s, fun i u hu => ?_⟩⟩
    obtain ⟨ad', ea', hr⟩ := r4 j s hs
    obtain rfl : ad = ad' := Option.some.inj (ea.symm.trans ea')
    exact hr i u hu
end
end Go.Proofs.YtcofacgdijjnoaaGreat
