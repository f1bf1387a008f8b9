/- sheets: the steps as plain functions; each that goes well leaves a sheet that may be: plain laws. -/
import Derived.Test.YtcofacgdijjnoaaGreatPad
set_option linter.unusedVariables false
set_option linter.unusedSimpArgs false
namespace Go.Proofs.YtcofacgdijjnoaaGreat
open PE (S31 S44 S49)
/-- a step -/
structure St where
  kind : Int
  row : Int
  col : Int
  rows : Int
  cols : Int
  n : Int
  size : Int
  text : ByteArray
  style : S31
def hereF (s : Sh) (i j : Int) : Int :=
  if (reg s i j).2 = 0 ∧ ((reg s i j).1.f0 ≠ i ∨ (reg s i j).1.f1 ≠ j) then 6 else (reg s i j).2
def setF (s : Sh) (x : St) : Sh × Int :=
  if hereF s x.row x.col ≠ 0 then (s, hereF s x.row x.col)
  else if 1024 < x.text.size then (s, 3)
  else ({ s with ce := lay { (get s x.row x.col).1 with f2 := x.text } s.ce }, 0)
def styF (s : Sh) (x : St) : Sh × Int :=
  if ¬ Stl x.style then (s, 1)
  else if hereF s x.row x.col ≠ 0 then (s, hereF s x.row x.col)
  else ({ s with ce := lay { (get s x.row x.col).1 with f3 := x.style } s.ce }, 0)
def withinF (a m b : Int) : Prop := 0 ≤ a ∧ m ≤ b ∧ a ≤ b - m
instance (a m b : Int) : Decidable (withinF a m b) := by unfold withinF; infer_instance
def rectOf (x : St) : S49 := ⟨x.row, x.col, x.rows, x.cols⟩
def mrgF (s : Sh) (x : St) : Sh × Int :=
  if x.rows < 1 ∨ x.cols < 1 ∨ (x.rows = 1 ∧ x.cols = 1) then (s, 1)
  else if ¬ (withinF x.row x.rows s.ht.length ∧ withinF x.col x.cols s.wd.length) then (s, 4)
  else if (s.me.any fun q => decide (Mt q (rectOf x))) = true then (s, 5)
  else if s.me.length = 12 then (s, 3)
  else (mrg (rectOf x) s, 0)
def unmF (s : Sh) (x : St) : Sh × Int :=
  if (reg s x.row x.col).2 ≠ 0 then (s, (reg s x.row x.col).2)
  else if (reg s x.row x.col).1.f2 = 1 ∧ (reg s x.row x.col).1.f3 = 1 then (s, 7)
  else (unm (reg s x.row x.col).1 s, 0)
def insF (at' n size : Int) (m0 : Nat) (m1 : Int) (s : Sh) : Sh × Int :=
  if n < 1 ∨ size < 1 then (s, 1)
  else if at' < 0 ∨ s.ht.length < at' then (s, 4)
  else if (m0 : Int) - s.ht.length < n ∨ m1 < size then (s, 3)
  else (ins at' n size s, 0)
def delF (at' n : Int) (s : Sh) : Sh × Int :=
  if n < 1 ∨ (at' = 0 ∧ n = s.ht.length) then (s, 1)
  else if ¬ withinF at' n s.ht.length then (s, 4)
  else (del at' n s, 0)
def rszF (l : List Int) (at' size most : Int) : List Int × Int :=
  if size < 1 then (l, 1) else if at' < 0 ∨ (l.length : Int) ≤ at' then (l, 4) else if most < size then (l, 3) else (l.set at'.toNat size, 0)
def stepF (k : Nat) (s : Sh) (x : St) : Sh × Int :=
  match k with
  | 1 => setF s x
  | 2 => styF s x
  | 3 => mrgF s x
  | 4 => unmF s x
  | 5 => insF x.row x.n x.size 24 12 s
  | 6 => delF x.row x.n s
  | 7 => (trn (insF x.col x.n x.size 16 60 (trn s)).1, (insF x.col x.n x.size 16 60 (trn s)).2)
  | 8 => (trn (delF x.col x.n (trn s)).1, (delF x.col x.n (trn s)).2)
  | 9 => ({ s with ht := (rszF s.ht x.row x.size 12).1 }, (rszF s.ht x.row x.size 12).2)
  | 10 => ({ s with wd := (rszF s.wd x.col x.size 60).1 }, (rszF s.wd x.col x.size 60).2)
  | 11 => ({ s with rt := 1 - s.rt }, 0)
  | _ => (s, 1)
def zSh : Sh := ⟨0, [], [], [], []⟩
def doF (s : Sh) (x : St) : Sh × Int :=
  if chk s ≠ 0 ∨ x.kind < 1 ∨ 11 < x.kind then (zSh, 1)
  else if (stepF x.kind.toNat s x).2 ≠ 0 then (zSh, (stepF x.kind.toNat s x).2)
  else ((stepF x.kind.toNat s x).1, 0)
theorem here_zero {s : Sh} {i j : Int} (h : hereF s i j = 0) : OkS s ∧ 0 ≤ i ∧ i < s.ht.length ∧ 0 ≤ j ∧ j < s.wd.length ∧ (aro s.me i j).f0 = i ∧ (aro s.me i j).f1 = j := by
  unfold hereF at h
  split at h
  · simp at h
  · rename_i h1
    obtain ⟨h2, h3, h4, h5, h6⟩ := reg_zero h
    have hr := reg_ok h2 h3 h4 h5 h6
    rw [hr] at h1
    refine ⟨h2, h3, h4, h5, h6, ?_⟩
    simp only [true_and] at h1
    exact ⟨Classical.byContradiction fun k => h1 (.inl k), Classical.byContradiction fun k => h1 (.inr k)⟩
theorem here_un {s : Sh} {i j : Int} (h : hereF s i j = 0) : ∀ r ∈ s.me, Cov r i j → r.f0 = i ∧ r.f1 = j := by
  obtain ⟨h1, _, _, _, _, h2, h3⟩ := here_zero h
  intro r hr hv
  rw [aro_cov (fun r hr => ⟨(h1.meE r hr).m, (h1.meE r hr).n⟩) h1.meM hr hv] at h2 h3
  exact ⟨h2, h3⟩
/-- the cell that is got where a cell may be laid -/
theorem got_here {s : Sh} {i j : Int} (h : hereF s i j = 0) : (get s i j).2 = 0 ∧ (get s i j).1.f0 = i ∧ (get s i j).1.f1 = j ∧ (get s i j).1.f2.size ≤ 1024 ∧ Stl (get s i j).1.f3 := by
  obtain ⟨h1, a0, a1, b0, b1, h2, h3⟩ := here_zero h
  rw [get_ok h1 a0 a1 b0 b1]
  refine ⟨rfl, ?_⟩
  unfold atK
  rw [h2, h3]
  cases hf : s.ce.find? (fun c => decide (c.f0 = i) && decide (c.f1 = j)) with
  | none => exact ⟨rfl, rfl, by show ByteArray.empty.size ≤ 1024; decide, by show Stl PE.z31; decide⟩
  | some c =>
      have hc := List.mem_of_find?_eq_some hf
      have k := List.find?_some hf
      simp only [Bool.and_eq_true, decide_eq_true_eq] at k
      exact ⟨k.1, k.2, (h1.ceE c hc).tx, (h1.ceE c hc).st⟩
theorem ok_setF {s : Sh} {x : St} (h : OkS s) (hz : (setF s x).2 = 0) : OkS (setF s x).1 := by
  unfold setF at hz ⊢
  split at hz
  · rename_i k; exact absurd hz k
  · rename_i k
    split at hz
    · simp at hz
    · rename_i k2
      rw [if_neg k, if_neg k2]
      have k' : hereF s x.row x.col = 0 := Classical.byContradiction k
      obtain ⟨_, a0, a1, b0, b1, _, _⟩ := here_zero k'
      obtain ⟨_, g0, g1, g2, g3⟩ := got_here k'
      exact ok_lay h (c := { (get s x.row x.col).1 with f2 := x.text }) (by show x.text.size ≤ 1024; omega) g3 (by rw [g0]; exact a0) (by rw [g0]; exact a1) (by rw [g1]; exact b0) (by rw [g1]; exact b1)
        (fun r hr hv => by rw [g0, g1] at hv ⊢; exact here_un k' r hr hv)
theorem ok_styF {s : Sh} {x : St} (h : OkS s) (hz : (styF s x).2 = 0) : OkS (styF s x).1 := by
  unfold styF at hz ⊢
  split at hz
  · simp at hz
  · rename_i k2
    split at hz
    · rename_i k; exact absurd hz k
    · rename_i k
      rw [if_neg k2, if_neg k]
      have k' : hereF s x.row x.col = 0 := Classical.byContradiction k
      obtain ⟨_, a0, a1, b0, b1, _, _⟩ := here_zero k'
      obtain ⟨_, g0, g1, g2, g3⟩ := got_here k'
      exact ok_lay h (c := { (get s x.row x.col).1 with f3 := x.style }) g2 (Classical.byContradiction k2) (by rw [g0]; exact a0) (by rw [g0]; exact a1) (by rw [g1]; exact b0) (by rw [g1]; exact b1)
        (fun r hr hv => by rw [g0, g1] at hv ⊢; exact here_un k' r hr hv)
theorem ok_mrgF {s : Sh} {x : St} (h : OkS s) (hz : (mrgF s x).2 = 0) : OkS (mrgF s x).1 := by
  unfold mrgF at hz ⊢
  split at hz; · simp at hz
  split at hz; · simp at hz
  split at hz; · simp at hz
  split at hz; · simp at hz
  rename_i k1 k2 k3 k4
  rw [if_neg k1, if_neg k2, if_neg k3, if_neg k4]
  have k2' := Classical.byContradiction k2
  unfold withinF at k2'
  have k3' : ∀ q ∈ s.me, ¬ Mt q (rectOf x) := by
    intro q hq hm
    exact k3 (List.any_eq_true.mpr ⟨q, hq, by simpa using hm⟩)
  refine ok_mrg h ⟨?_, ?_, ?_, ?_, ?_, ?_, ?_⟩ k3' k4
  all_goals (simp only [rectOf]; omega)
theorem ok_unmF {s : Sh} {x : St} (h : OkS s) (hz : (unmF s x).2 = 0) : OkS (unmF s x).1 := by
  unfold unmF at hz ⊢
  split at hz; · rename_i k; exact absurd hz k
  split at hz; · simp at hz
  rename_i k1 k2
  rw [if_neg k1, if_neg k2]
  exact ok_unm h _
theorem ok_insF {mr mc : Nat} {mh mw at' n size : Int} {s : Sh} (h : Ok mr mh mc mw s) (hz : (insF at' n size mr mh s).2 = 0) : Ok mr mh mc mw (insF at' n size mr mh s).1 := by
  unfold insF at hz ⊢
  split at hz; · simp at hz
  split at hz; · simp at hz
  split at hz; · simp at hz
  rename_i k1 k2 k3
  rw [if_neg k1, if_neg k2, if_neg k3]
  exact ok_ins h (by omega) (by omega) (by omega) (by omega) (by omega) (by omega)
theorem ok_delF {mr mc : Nat} {mh mw at' n : Int} {s : Sh} (h : Ok mr mh mc mw s) (hz : (delF at' n s).2 = 0) : Ok mr mh mc mw (delF at' n s).1 := by
  unfold delF at hz ⊢
  split at hz; · simp at hz
  split at hz; · simp at hz
  rename_i k1 k2
  rw [if_neg k1, if_neg k2]
  have k2' := Classical.byContradiction k2
  unfold withinF at k2'
  exact ok_del h (by omega) (by omega) (by omega) (by omega)
theorem ok_stepF {k : Nat} {s : Sh} {x : St} (h : OkS s) (hz : (stepF k s x).2 = 0) : OkS (stepF k s x).1 := by
  match k with
  | 0 => simp [stepF] at hz
  | 1 => exact ok_setF h hz
  | 2 => exact ok_styF h hz
  | 3 => exact ok_mrgF h hz
  | 4 => exact ok_unmF h hz
  | 5 => exact ok_insF h hz
  | 6 => exact ok_delF h hz
  | 7 => exact ok_trn (ok_insF (mr := 16) (mh := 60) (ok_trn h) hz)
  | 8 => exact ok_trn (ok_delF (ok_trn h) hz)
  | 9 =>
      simp only [stepF, rszF] at hz ⊢
      split at hz; · simp at hz
      split at hz; · simp at hz
      split at hz; · simp at hz
      rename_i k1 k2 k3
      rw [if_neg k1, if_neg k2, if_neg k3]
      exact ok_high h (by omega) (by omega)
  | 10 =>
      simp only [stepF, rszF] at hz ⊢
      split at hz; · simp at hz
      split at hz; · simp at hz
      split at hz; · simp at hz
      rename_i k1 k2 k3
      rw [if_neg k1, if_neg k2, if_neg k3]
      exact ok_wide h (by omega) (by omega)
  | 11 => exact ok_flip h
  | n + 12 => simp [stepF] at hz
theorem ok_doF {s : Sh} {x : St} (hz : (doF s x).2 = 0) : OkS (doF s x).1 := by
  unfold doF at hz ⊢
  split at hz; · simp at hz
  rename_i k1
  split at hz; · rename_i k; exact absurd hz k
  rename_i k2
  rw [if_neg k1, if_neg k2]
  exact ok_stepF (chk_iff.mp (Classical.byContradiction fun k => k1 (.inl k))) (Classical.byContradiction k2)
end Go.Proofs.YtcofacgdijjnoaaGreat
