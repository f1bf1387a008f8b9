/- sheets: rows put in and deleted again, and a sheet flipped twice, are as they were; what was moved, and what was set: plain laws. -/
import Derived.Test.YtcofacgdijjnoaaGreatPal
import Derived.IntWalk
set_option linter.unusedVariables false
set_option linter.unusedSimpArgs false
namespace Go.Proofs.YtcofacgdijjnoaaGreat
open PE (S31 S44 S49 z31 z44 z49)
theorem num_le (f : S44 → Int) : ∀ (l : List S44) (a b : Int), a ≤ b → (l.Pairwise fun x y => f x < f y) → (∀ x ∈ l, a ≤ f x ∧ f x < b) → (l.length : Int) ≤ b - a
  | [], a, b, hab, _, _ => by simp only [List.length_nil]; omega
  | x :: l, a, b, hab, hp, hm => by
    rw [List.pairwise_cons] at hp
    have hx := hm x (List.mem_cons_self ..)
    have := num_le f l (f x + 1) b (by omega) hp.2 (fun y hy => ⟨by have := hp.1 y hy; omega, (hm y (List.mem_cons_of_mem _ hy)).2⟩)
    rw [List.length_cons]; omega
theorem ok_num {s : Sh} (h : OkS s) : s.ce.length ≤ 384 := by
  have hh := h.htn; have hw := h.wdn
  have := num_le (fun c => c.f0 * 16 + c.f1) s.ce 0 384 (by omega)
    (List.Pairwise.imp_of_mem (fun {x y} hx hy hxy => by
      have k := h.ceE x hx; have k' := h.ceE y hy
      have e0 := k.r0; have e1 := k.r1; have e2 := k.c0; have e3 := k.c1; have e4 := k'.r0; have e5 := k'.r1; have e6 := k'.c0; have e7 := k'.c1
      unfold LtC at hxy
      show x.f0 * 16 + x.f1 < y.f0 * 16 + y.f1
      omega) h.ceS)
    (fun x hx => by
      have k := h.ceE x hx
      have e0 := k.r0; have e1 := k.r1; have e2 := k.c0; have e3 := k.c1
      show 0 ≤ x.f0 * 16 + x.f1 ∧ x.f0 * 16 + x.f1 < 384
      omega)
  omega
theorem doF_ok {s : Sh} {x : St} (h : OkS s) (k1 : 1 ≤ x.kind) (k2 : x.kind ≤ 11) : doF s x = if (stepF x.kind.toNat s x).2 ≠ 0 then (zSh, (stepF x.kind.toNat s x).2) else ((stepF x.kind.toNat s x).1, 0) := by
  unfold doF
  rw [if_neg (by rw [chk_iff.mpr h]; omega)]
/-! ## what was moved -/
/-! ## what was set -/
/-- a step that sets a cell's text, or its style -/
def put44 (k : Int) (x : St) (c : S44) : S44 := if k = 1 then { c with f2 := x.text } else { c with f3 := x.style }
theorem set_is {s : Sh} {x : St} (h : OkS s) (hk : x.kind = 1 ∨ x.kind = 2) (hz : (doF s x).2 = 0) :
    ∃ l, (doF s x).1 = { s with ce := l } ∧ ∀ i j : Int, 0 ≤ i → i < s.ht.length → 0 ≤ j → j < s.wd.length →
      get s i j = (atK s.ce (aro s.me i j), 0) ∧
      get { s with ce := l } i j = (if (atK s.ce (aro s.me i j)).f0 = x.row ∧ (atK s.ce (aro s.me i j)).f1 = x.col then put44 x.kind x (atK s.ce (aro s.me i j)) else atK s.ce (aro s.me i j), 0) := by
  have e1 := doF_ok (x := x) h (by omega) (by omega)
  have hkey : ∀ r, (atK s.ce r).f0 = r.f0 ∧ (atK s.ce r).f1 = r.f1 := by
    intro r
    unfold atK
    cases hf : s.ce.find? (fun c => decide (c.f0 = r.f0) && decide (c.f1 = r.f1)) with
    | none => exact ⟨rfl, rfl⟩
    | some c =>
      have k := List.find?_some hf
      simp only [Bool.and_eq_true, decide_eq_true_eq] at k
      exact k
  have main : ∀ c : S44, c = put44 x.kind x (get s x.row x.col).1 → hereF s x.row x.col = 0 → OkS { s with ce := lay c s.ce } → ∀ i j : Int, 0 ≤ i → i < s.ht.length → 0 ≤ j → j < s.wd.length →
      get s i j = (atK s.ce (aro s.me i j), 0) ∧
      get { s with ce := lay c s.ce } i j = (if (atK s.ce (aro s.me i j)).f0 = x.row ∧ (atK s.ce (aro s.me i j)).f1 = x.col then put44 x.kind x (atK s.ce (aro s.me i j)) else atK s.ce (aro s.me i j), 0) := by
    intro c hc hh hok i j i0 i1 j0 j1
    refine ⟨get_ok h i0 i1 j0 j1, ?_⟩
    rw [get_ok hok i0 i1 j0 j1]
    show (atK (lay c s.ce) (aro s.me i j), (0 : Int)) = _
    obtain ⟨_, x0, x1, y0, y1, q0, q1⟩ := here_zero hh
    obtain ⟨_, g0, g1, _, _⟩ := got_here hh
    have hg : (get s x.row x.col).1 = atK s.ce (aro s.me x.row x.col) := by rw [get_ok h x0 x1 y0 y1]
    have c0 : c.f0 = x.row := by rw [hc]; unfold put44; split <;> exact g0
    have c1 : c.f1 = x.col := by rw [hc]; unfold put44; split <;> exact g1
    rw [atK_lay h.ceS, c0, c1, (hkey _).1, (hkey _).2]
    split
    · rename_i k
      rw [hc, hg]
      congr 2
      unfold atK
      rw [k.1, k.2, q0, q1]
    · rfl
  rcases hk with hk | hk
  · have e2 : stepF x.kind.toNat s x = setF s x := by rw [hk]; rfl
    rw [e2] at e1
    have hi : (setF s x).2 = 0 := by
      refine Classical.byContradiction fun k => ?_
      rw [e1, if_pos k] at hz
      exact k hz
    have hok := ok_setF h hi
    rw [if_neg (by rw [hi]; simp)] at e1
    unfold setF at hi e1 hok
    split at hi; · rename_i k; exact absurd hi k
    split at hi; · simp at hi
    rename_i k1 k2
    rw [if_neg k1, if_neg k2] at e1 hok
    exact ⟨_, congrArg Prod.fst e1, main _ (by unfold put44; rw [if_pos hk]) (Classical.byContradiction k1) hok⟩
  · have e2 : stepF x.kind.toNat s x = styF s x := by rw [hk]; rfl
    rw [e2] at e1
    have hi : (styF s x).2 = 0 := by
      refine Classical.byContradiction fun k => ?_
      rw [e1, if_pos k] at hz
      exact k hz
    have hok := ok_styF h hi
    rw [if_neg (by rw [hi]; simp)] at e1
    unfold styF at hi e1 hok
    split at hi; · simp at hi
    split at hi; · rename_i k; exact absurd hi k
    rename_i k1 k2
    rw [if_neg k1, if_neg k2] at e1 hok
    exact ⟨_, congrArg Prod.fst e1, main _ (by unfold put44; rw [if_neg (by omega)]) (Classical.byContradiction k2) hok⟩
end Go.Proofs.YtcofacgdijjnoaaGreat
