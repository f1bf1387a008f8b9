import Derived.Test.YtfpibigfhhoiiaaDoorPAx1
import Derived.Test.YtfpibigfhhoiiaaDoorPAx2
import Derived.KernelRfl
import Derived.Test.YtfpibigfhhoiiaaDoorBits
namespace Go.Proofs.YtfpibigfhhoiiaaDoor.Pure
open Go.RowKit Go.Proofs.YtfpibigfhhoiiaaDoor.PA Go.Proofs.YtfpibigfhhoiiaaDoorW.PrintWords Go.Proofs.YtfpibigfhhoiiaaDoorW.PrintLast

theorem w64 {x : Int} (h0 : -9223372036854775808 ≤ x) (h1 : x ≤ 9223372036854775807) : wrap64 x = x := by
  unfold wrap64; omega
theorem wsucc (i : Nat) (h : i ≤ 1048577) : wrap64 ((i : Int) + 1) = ((i + 1 : Nat) : Int) := by
  rw [w64 (by omega) (by omega)]; rfl
theorem awake_ev : Ev (fun k => parquetrylaw15_awake.f k) true := Ev.of (fun k => parquetrylaw15_awake.mono k) (k := 60) (by kernel_rfl)
theorem Ev.same {α : Type} {g : Nat → Option α} {r r' : α} (h : Ev g r) (e : r = r') : Ev g r' := e ▸ h
theorem rd_at (l : List Int) (i : Nat) : rd l (i : Int) = l.getD i 0 := by simp [rd]
theorem getD_take (l : List Int) (i : Nat) (h : i < l.length) : l.take (i + 1) = l.take i ++ [rd l (i : Int)] := by
  rw [rd_at, List.take_succ_eq_append_getElem h, List.getD_eq_getElem?_getD, List.getElem?_eq_getElem h]; rfl

theorem same_self (l : List Int) (hl : l.length ≤ 1048576) : Ev (fun k => parquetryref02_Same.f k l l) true := by
  have hloop : ∀ (d i : Nat), l.length - i = d → i ≤ l.length → Ev (fun k => parquetryref02_Same.l0 k l l (i : Int)) true := by
    intro d
    induction d with
    | zero =>
      intro i hd hi
      refine Ev.step (f := fun _ => some true) (fun k => ?_) (Ev.now _)
      simp only [parquetryref02_Same.l0]
      rw [if_neg (by omega)]
    | succ d ih =>
      intro i hd hi
      refine Ev.step (fun k => ?_) (ih (i + 1) (by omega) (by omega))
      simp only [parquetryref02_Same.l0]
      rw [if_pos (by omega), if_pos (by omega), if_pos (by omega), if_pos trivial, wsucc i (by omega)]
  refine Ev.congr (fun k => ?_) (hloop _ 0 rfl (Nat.zero_le _))
  unfold parquetryref02_Same.f
  rw [if_pos rfl]; rfl

/-! ### Levels -/
def odd (a : Int) : Bool := Go.bits .and .i64 a 1 == 1
def risesP (c a : Int) : Int := if c = 1 ∧ odd a = false ∨ c = 0 ∧ odd a = true then 1 else if c ≠ 3 ∧ c ≠ 6 then 0 else if odd a = true then 1 else 2
theorem rises_ev (c a : Int) : Ev (fun k => neutral_rises.f k c a) (risesP c a) := by
  refine Ev.of (fun k => neutral_rises.mono c a k) (k := 4) ?_
  unfold neutral_rises.f risesP
  have ho : (Go.bits .and .i64 a 1 == 1) = odd a := rfl
  rw [ho]
  by_cases h1 : c = 1
  · subst h1
    cases odd a <;> simp [neutral_rises.j0, neutral_rises.j1, neutral_rises.j2]
  · rw [if_neg h1]
    by_cases h0 : c = 0
    · subst h0
      cases odd a <;> simp [neutral_rises.j0, neutral_rises.j1, neutral_rises.j2]
    · by_cases h3 : c = 3
      · subst h3
        cases odd a <;> simp [neutral_rises.j0, neutral_rises.j1, neutral_rises.j2]
      · by_cases h6 : c = 6
        · subst h6
          cases odd a <;> simp [neutral_rises.j0, neutral_rises.j1, neutral_rises.j2]
        · cases odd a <;> simp [neutral_rises.j0, neutral_rises.j1, neutral_rises.j2, h0, h1, h3, h6]

def levelsP (l : List Int) (a : Int) : List Int := l.map fun c => wrap64 (a + risesP c a)
theorem levels_ev (l : List Int) (a : Int) (hl : l.length ≤ 1048576) : Ev (fun k => neutral_Levels.f k l a) (levelsP l a) := by
  have hloop : ∀ (d i : Nat), l.length - i = d → i ≤ l.length →
      Ev (fun k => neutral_Levels.l0 k a ((levelsP (l.take i) a) ++ List.replicate (l.length - i) 0) l (l.length : Int) (i : Int)) (levelsP l a) := by
    intro d
    induction d with
    | zero =>
      intro i hd hi
      have hil : i = l.length := by omega
      subst hil
      refine Ev.step (f := fun _ => some (levelsP l a)) (fun k => ?_) (Ev.now _)
      simp only [neutral_Levels.l0]
      rw [if_neg (by omega)]
      simp
    | succ d ih =>
      intro i hd hi
      have hlt : i < l.length := by omega
      refine Ev.step (f := fun k => (neutral_rises.f k (rd l i) a).bind fun t => neutral_Levels.l0 k a (((levelsP (l.take i) a) ++ List.replicate (l.length - i) 0).set i (wrap64 (a + t))) l (l.length : Int) ((i + 1 : Nat) : Int)) (fun k => ?_) ?_
      · simp only [neutral_Levels.l0]
        rw [if_pos (by omega), if_pos (by omega), if_pos (by omega)]
        congr 1
        funext t
        rw [if_pos (by simp [levelsP]; omega), wsucc i (by omega), Int.toNat_natCast]
      · refine Ev.bind (rises_ev _ _) ?_
        have e : ((levelsP (l.take i) a) ++ List.replicate (l.length - i) 0).set i (wrap64 (a + risesP (rd l i) a)) = (levelsP (l.take (i + 1)) a) ++ List.replicate (l.length - (i + 1)) 0 := by
          have hlen : (levelsP (l.take i) a).length = i := by simp [levelsP]; omega
          rw [List.set_append_right _ _ (by omega), hlen, Nat.sub_self, show l.length - i = (l.length - (i + 1)) + 1 by omega, List.replicate_succ, List.set_cons_zero, getD_take l i hlt]
          simp [levelsP]
        simp only [e]
        exact ih (i + 1) (by omega) (by omega)
  have h0 := hloop _ 0 rfl (Nat.zero_le _)
  refine Ev.congr (fun k => ?_) h0
  unfold neutral_Levels.f
  rw [if_pos (by omega), if_pos (by omega)]
  simp [levelsP]
theorem odd_iff (a : Int) : odd a = decide (a % 2 = 1) := by
  unfold odd
  rw [Base.and_one]
  by_cases h : a % 2 = 1 <;> simp [h]
theorem risesP_of (c a : Int) : risesP c a = if c = 1 ∧ a % 2 = 0 ∨ c = 0 ∧ a % 2 = 1 then 1 else if c ≠ 3 ∧ c ≠ 6 then 0 else if a % 2 = 1 then 1 else 2 := by
  unfold risesP
  rw [odd_iff]
  have h2 : a % 2 = 0 ∨ a % 2 = 1 := by omega
  rcases h2 with h | h <;> simp [h]
theorem refLevels_step (l : List Int) (a : Int) (h0 : 0 ≤ a) (h1 : a < 2147483648) (x5 : List Int) (i : Nat) (hi : i < l.length) (hl : l.length ≤ 1048576) (hx : x5.length ≤ 1048576) (k : Nat) :
    parquetryref15_Levels.l0 (k + 2) l a x5 (i : Int) = parquetryref15_Levels.l0 k l a (x5 ++ [wrap64 (a + risesP (rd l i) a)]) ((i + 1 : Nat) : Int) := by
  have hb : x5.length < 17592186044416 := by omega
  have ht : Int.tmod a 2 = a % 2 := Int.tmod_eq_emod_of_nonneg h0
  have ht1 : Int.tmod (a + 1) 2 = (a + 1) % 2 := Int.tmod_eq_emod_of_nonneg (by omega)
  simp only [parquetryref15_Levels.l0]
  rw [if_pos (by omega), if_pos (by omega), risesP_of]
  generalize rd l (i : Int) = c
  have hw1 : wrap64 (a + 1) = a + 1 := w64 (by omega) (by omega)
  simp only [parquetryref15_Levels.j1, hw1, ht, ht1, if_pos hb, wsucc i (by omega)]
  rcases (show a % 2 = 0 ∨ a % 2 = 1 by omega) with h2 | h2
  · by_cases c1 : c = 1
    · subst c1; simp [h2, hw1]
    · by_cases c3 : c = 3
      · subst c3; simp [h2, w64 (x := a) (by omega) (by omega)]
      · by_cases c6 : c = 6
        · subst c6; simp [h2, w64 (x := a) (by omega) (by omega)]
        · simp [c1, c3, c6, h2, w64 (x := a) (by omega) (by omega)]
  · by_cases c0 : c = 0
    · subst c0; simp [h2, hw1]
    · have e : a - 1 + 2 = a + 1 := by omega
      by_cases c3 : c = 3
      · subst c3; simp [h2, w64 (x := a - 1) (by omega) (by omega), e]
      · by_cases c6 : c = 6
        · subst c6; simp [h2, w64 (x := a - 1) (by omega) (by omega), e]
        · by_cases c1 : c = 1
          · subst c1; simp [h2, w64 (x := a) (by omega) (by omega)]
          · simp [c0, c1, c3, c6, h2, w64 (x := a) (by omega) (by omega)]
theorem Ev.step2 {α : Type} {g f : Nat → Option α} {r : α} (h : ∀ k, g (k + 2) = f k) (k : Ev f r) : Ev g r := by
  obtain ⟨K, k⟩ := k
  refine ⟨K + 2, fun n hn => ?_⟩
  obtain ⟨m, rfl⟩ : ∃ m, n = m + 2 := ⟨n - 2, by omega⟩
  rw [h]
  exact k m (by omega)
theorem refLevels_ev (l : List Int) (a : Int) (h0 : 0 ≤ a) (h1 : a < 2147483648) (hl : l.length ≤ 1048576) : Ev (fun k => parquetryref15_Levels.f k l a) (levelsP l a) := by
  have hloop : ∀ (d i : Nat), l.length - i = d → i ≤ l.length → Ev (fun k => parquetryref15_Levels.l0 k l a (levelsP (l.take i) a) (i : Int)) (levelsP l a) := by
    intro d
    induction d with
    | zero =>
      intro i hd hi
      have hil : i = l.length := by omega
      subst hil
      refine Ev.step (f := fun _ => some (levelsP l a)) (fun k => ?_) (Ev.now _)
      simp only [parquetryref15_Levels.l0]
      rw [if_neg (by omega)]
      simp
    | succ d ih =>
      intro i hd hi
      have hlt : i < l.length := by omega
      refine Ev.step2 (fun k => refLevels_step l a h0 h1 _ i hlt hl (by simp [levelsP]; omega) k) ?_
      have e : levelsP (l.take i) a ++ [wrap64 (a + risesP (rd l i) a)] = levelsP (l.take (i + 1)) a := by
        rw [getD_take l i hlt]; simp [levelsP]
      simp only [e]
      exact ih (i + 1) (by omega) (by omega)
  exact hloop _ 0 rfl (Nat.zero_le _)
end Go.Proofs.YtfpibigfhhoiiaaDoor.Pure
