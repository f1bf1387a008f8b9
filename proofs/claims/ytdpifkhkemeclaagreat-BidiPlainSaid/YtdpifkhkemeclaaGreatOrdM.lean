/- An order by levels: stretch in stretch, or pass by pass: the same; each place once; neighbours of one level stay neighbours. -/
import Derived.WalkKit
import Derived.KernelRfl
namespace Go.Proofs.YtdpifkhkemeclaaGreat
set_option linter.unusedVariables false
set_option linter.unusedSimpArgs false
/-- Stretches of what p says are handed to f and turned round. -/
def stGo (p : Nat → Bool) (f : List Nat → List Nat) : List Nat → List Nat → List Nat
  | acc, [] => (f acc.reverse).reverse
  | acc, x :: r => if p x = true then stGo p f (x :: acc) r else (f acc.reverse).reverse ++ x :: stGo p f [] r
def tn (lv : Nat → Int) : Nat → Int → List Nat → List Nat
  | 0, _, xs => xs
  | d + 1, a, xs => stGo (fun x => decide (lv x ≥ a)) (tn lv d (a + 1)) [] xs
/-- Pass by pass, from the highest level on. -/
def ps (lv : Nat → Int) : Nat → Int → List Nat → List Nat
  | 0, _, xs => xs
  | d + 1, a, xs => stGo (fun x => decide (lv x ≥ a)) id [] (ps lv d (a + 1) xs)
theorem tn_nil (lv : Nat → Int) : ∀ (d : Nat) (a : Int), tn lv d a [] = []
  | 0, _ => rfl
  | d + 1, a => by simp [tn, stGo, tn_nil lv d]
theorem stGo_perm {p : Nat → Bool} {f : List Nat → List Nat} (hf : ∀ ys, (f ys).Perm ys) : ∀ (xs acc : List Nat), (stGo p f acc xs).Perm (acc.reverse ++ xs)
  | [], acc => by
    simp only [stGo, List.append_nil]
    exact (List.reverse_perm _).trans (hf _)
  | x :: r, acc => by
    unfold stGo
    split
    · have := stGo_perm (p := p) hf r (x :: acc)
      simpa using this
    · have h1 := stGo_perm (p := p) hf r []
      have h2 := (List.reverse_perm (f acc.reverse)).trans (hf acc.reverse)
      exact h2.append (List.Perm.cons x (by simpa using h1))
theorem tn_perm (lv : Nat → Int) : ∀ (d : Nat) (a : Int) (xs : List Nat), (tn lv d a xs).Perm xs
  | 0, _, xs => List.Perm.refl _
  | d + 1, a, xs => by
    have := stGo_perm (p := fun x => decide (lv x ≥ a)) (tn_perm lv d (a + 1)) xs []
    simpa [tn] using this
theorem stGo_app {p : Nat → Bool} {f : List Nat → List Nat} : ∀ (xs acc ys : List Nat), (∀ x ∈ xs, p x = true) → stGo p f acc (xs ++ ys) = stGo p f (xs.reverse ++ acc) ys
  | [], acc, ys, _ => rfl
  | x :: r, acc, ys, h => by
    rw [List.cons_append]
    conv => lhs; unfold stGo
    rw [if_pos (h x (by simp)), stGo_app r (x :: acc) ys (fun y hy => h y (by simp [hy]))]
    simp
theorem stGo_split {p : Nat → Bool} {f : List Nat → List Nat} {x : Nat} (hx : p x = false) : ∀ (A acc B : List Nat), stGo p f acc (A ++ x :: B) = stGo p f acc A ++ x :: stGo p f [] B
  | [], acc, B => by
    rw [List.nil_append]
    conv => lhs; unfold stGo
    rw [if_neg (by rw [hx]; decide)]
    rfl
  | y :: A, acc, B => by
    rw [List.cons_append]
    cases hy : p y with
    | true =>
      have e1 : ∀ r, stGo p f acc (y :: r) = stGo p f (y :: acc) r := fun r => by
        simp only [stGo]
        rw [if_pos hy]
      rw [e1, e1]
      exact stGo_split hx A (y :: acc) B
    | false =>
      have e1 : ∀ r, stGo p f acc (y :: r) = (f acc.reverse).reverse ++ y :: stGo p f [] r := fun r => by
        simp only [stGo]
        rw [if_neg (by rw [hy]; decide)]
      rw [e1, e1, stGo_split hx A [] B, List.append_assoc]
      rfl
theorem stGo_cut {p : Nat → Bool} {f : List Nat → List Nat} (hf : f [] = []) (acc : List Nat) : ∀ (ys : List Nat), (∀ y r, ys = y :: r → p y = false) → stGo p f acc ys = (f acc.reverse).reverse ++ stGo p f [] ys
  | [], _ => by simp [stGo, hf]
  | y :: r, h => by
    have hy := h y r rfl
    unfold stGo
    rw [if_neg (by rw [hy]; decide), if_neg (by rw [hy]; decide)]
    simp [hf]
theorem tn_split (lv : Nat → Int) {x : Nat} {a : Int} (hx : lv x < a) : ∀ (d : Nat) (A B : List Nat), tn lv d a (A ++ x :: B) = tn lv d a A ++ x :: tn lv d a B
  | 0, _, _ => rfl
  | d + 1, A, B => stGo_split (by simp; omega) A [] B
theorem pass_nil (lv : Nat → Int) (d : Nat) (a : Int) (acc : List Nat) (h : ∀ x ∈ acc, decide (lv x ≥ a) = true) : stGo (fun x => decide (lv x ≥ a)) id [] (tn lv d (a + 1) acc.reverse) = (tn lv d (a + 1) acc.reverse).reverse := by
  have hp := tn_perm lv d (a + 1) acc.reverse
  have hall : ∀ x ∈ tn lv d (a + 1) acc.reverse, decide (lv x ≥ a) = true := fun x hx => h x (by simpa using hp.mem_iff.1 hx)
  have := stGo_app (p := fun x => decide (lv x ≥ a)) (f := id) (tn lv d (a + 1) acc.reverse) [] [] hall
  rw [List.append_nil] at this
  rw [this]
  simp [stGo]
theorem pass_tn (lv : Nat → Int) (d : Nat) (a : Int) : ∀ (xs acc : List Nat), (∀ x ∈ acc, decide (lv x ≥ a) = true) → stGo (fun x => decide (lv x ≥ a)) id [] (tn lv d (a + 1) (acc.reverse ++ xs)) = stGo (fun x => decide (lv x ≥ a)) (tn lv d (a + 1)) acc xs
  | [], acc, h => by
    rw [List.append_nil]
    exact pass_nil lv d a acc h
  | x :: r, acc, h => by
    by_cases hx : lv x ≥ a
    · have hx' : decide (lv x ≥ a) = true := by simpa using hx
      conv => rhs; unfold stGo
      rw [if_pos hx']
      have := pass_tn lv d a r (x :: acc) (fun y hy => by rcases List.mem_cons.1 hy with rfl | hy; exact hx'; exact h y hy)
      rw [← this]
      simp
    · have hx' : decide (lv x ≥ a) = false := by simpa using hx
      conv => rhs; unfold stGo
      rw [if_neg (by rw [hx']; decide), tn_split lv (by omega), stGo_split (p := fun x => decide (lv x ≥ a)) hx']
      have h1 := pass_nil lv d a acc h
      have h2 := pass_tn lv d a r [] (by simp)
      rw [h1]
      rw [List.reverse_nil, List.nil_append] at h2
      rw [h2]
/-- Pass by pass is stretch in stretch. -/
theorem ps_tn (lv : Nat → Int) : ∀ (d : Nat) (a : Int) (xs : List Nat), ps lv d a xs = tn lv d a xs
  | 0, _, _ => rfl
  | d + 1, a, xs => by
    have := pass_tn lv d a xs [] (by simp)
    rw [List.reverse_nil, List.nil_append] at this
    rw [ps, ps_tn lv d (a + 1) xs, this]
    rfl
/-- u and v stand side by side: in this order (e), or in the other one. -/
def Adj (e : Bool) (u v : Nat) (xs : List Nat) : Prop := ∃ A B, xs = A ++ (if e = true then [u, v] else [v, u]) ++ B
theorem Adj.rev {e : Bool} {u v : Nat} {xs : List Nat} : Adj e u v xs → Adj (!e) u v xs.reverse
  | ⟨A, B, h⟩ => ⟨B.reverse, A.reverse, by rw [h]; cases e <;> simp⟩
theorem Adj.app {e : Bool} {u v : Nat} {xs : List Nat} (P Q : List Nat) : Adj e u v xs → Adj e u v (P ++ xs ++ Q)
  | ⟨A, B, h⟩ => ⟨P ++ A, B ++ Q, by rw [h]; simp⟩
theorem stGo_adj_acc {p : Nat → Bool} {f : List Nat → List Nat} {e e' : Bool} {u v : Nat} (hf : ∀ ys, Adj e u v ys → Adj e' u v (f ys)) : ∀ (B acc : List Nat), Adj e u v acc.reverse → Adj (!e') u v (stGo p f acc B)
  | [], acc, h => (hf _ h).rev
  | x :: r, acc, h => by
    unfold stGo
    split
    · refine stGo_adj_acc hf r (x :: acc) ?_
      have := h.app [] [x]
      simpa using this
    · have := ((hf _ h).rev).app [] (x :: stGo p f [] r)
      simpa using this
theorem stGo_adj {p : Nat → Bool} {f : List Nat → List Nat} {e e' : Bool} {u v : Nat} (hu : p u = true) (hv : p v = true) (hf : ∀ ys, Adj e u v ys → Adj e' u v (f ys)) (B : List Nat) : ∀ (A acc : List Nat), Adj (!e') u v (stGo p f acc (A ++ (if e = true then [u, v] else [v, u]) ++ B))
  | [], acc => by
    have hall : ∀ x ∈ (if e = true then [u, v] else [v, u]), p x = true := by
      intro x hx
      cases e <;> simp at hx <;> rcases hx with rfl | rfl <;> assumption
    rw [List.nil_append, stGo_app _ _ _ hall]
    refine stGo_adj_acc hf B _ ⟨acc.reverse, [], ?_⟩
    simp
  | x :: A, acc => by
    rw [List.cons_append, List.cons_append]
    unfold stGo
    split
    · exact stGo_adj hu hv hf B A (x :: acc)
    · have := (stGo_adj hu hv hf B A []).app ((f acc.reverse).reverse ++ [x]) []
      simpa using this
/-- How often a place of a level is turned: odd, or even. -/
def par (v : Int) : Nat → Int → Bool
  | 0, _ => false
  | d + 1, a => if v ≥ a then !(par v d (a + 1)) else false
theorem tn_adj (lv : Nat → Int) {u v : Nat} (huv : lv u = lv v) : ∀ (d : Nat) (a : Int) (e : Bool) (xs : List Nat), Adj e u v xs → Adj (e != par (lv u) d a) u v (tn lv d a xs)
  | 0, a, e, xs, h => by simpa [tn, par] using h
  | d + 1, a, e, xs, ⟨A, B, h⟩ => by
    subst h
    by_cases hu : lv u ≥ a
    · have h1 := stGo_adj (p := fun x => decide (lv x ≥ a)) (f := tn lv d (a + 1)) (e := e) (e' := (e != par (lv u) d (a + 1))) (u := u) (v := v) (by simpa using hu) (by simpa [← huv] using hu) (fun ys hy => tn_adj lv huv d (a + 1) e ys hy) B A []
      have e2 : (!(e != par (lv u) d (a + 1))) = (e != par (lv u) (d + 1) a) := by
        rw [par, if_pos hu]
        cases e <;> cases par (lv u) d (a + 1) <;> rfl
      rw [e2] at h1
      exact h1
    · have e2 : (e != par (lv u) (d + 1) a) = e := by rw [par, if_neg hu]; cases e <;> rfl
      rw [e2]
      have pu : decide (lv u ≥ a) = false := by simpa using hu
      have pv : decide (lv v ≥ a) = false := by rw [← huv]; exact pu
      have key : ∀ s t : Nat, decide (lv s ≥ a) = false → decide (lv t ≥ a) = false → ∃ C D, tn lv (d + 1) a (A ++ [s, t] ++ B) = C ++ [s, t] ++ D := by
        intro s t hs ht
        have e3 : A ++ [s, t] ++ B = A ++ s :: (t :: B) := by simp
        rw [e3, tn, stGo_split (p := fun x => decide (lv x ≥ a)) hs]
        conv => enter [1, C, 1, D, 1, 2, 2]; unfold stGo
        rw [if_neg (by rw [ht]; decide), List.reverse_nil, tn_nil]
        exact ⟨_, _, by simp; rfl⟩
      cases e with
      | true => exact key u v pu pv
      | false => exact key v u pv pu
theorem par_odd : (List.range 127).all (fun v : Nat => par (v : Int) 126 1 == (v % 2 == 1)) = true := by kernel_rfl
end Go.Proofs.YtdpifkhkemeclaaGreat
