/- Chapter 13: the examples, rows that are the same, and weak.Weak in plain words. -/
import Derived.Test.YtfpibigfhhoiiaaDoorOne1
import Derived.Test.YtfpibigfhhoiiaaDoorPWx5
import Derived.KernelRfl
namespace Go.Proofs.YtfpibigfhhoiiaaDoor
open Go.RowKit Go.Proofs.YtfpibigfhhoiiaaDoorW.PrintWords
set_option linter.unusedVariables false
set_option linter.unusedSimpArgs false
theorem awakeW : PW.parquetrylaw13_awake.f = some true := by kernel_rfl
theorem weakF (l : List Int) (sos : Int) (h : l.length ≤ 1048576) : weak_Weak.f l sos = some (weakW l sos) := if_pos h
theorem sameW (l : List Int) (hl : l.length ≤ 1048576) : Ev (fun k => PW.parquetryref02_Same.f k l l) true := by
  have hloop : ∀ (d i : Nat), l.length - i = d → i ≤ l.length → Ev (fun k => PW.parquetryref02_Same.l0 k l l (i : Int)) true := by
    intro d
    induction d with
    | zero =>
      intro i hd hi
      refine Ev.step (f := fun _ => some true) (fun k => ?_) (Ev.now _)
      simp only [PW.parquetryref02_Same.l0]
      rw [if_neg (by omega)]
    | succ d ih =>
      intro i hd hi
      refine Ev.step (fun k => ?_) (ih (i + 1) (by omega) (by omega))
      simp only [PW.parquetryref02_Same.l0]
      rw [if_pos (by omega), if_pos (by omega), if_pos (by omega), if_pos trivial, w64_in _ (by omega) (by omega)]
      rfl
  refine Ev.congr (fun k => ?_) (hloop _ 0 rfl (Nat.zero_le _))
  unfold PW.parquetryref02_Same.f
  rw [if_pos rfl]; rfl
theorem likeW (l : List Int) (hl : l.length ≤ 1048576) : Ev (fun k => PW.parquetrylaw13_like.f k l l) true := by
  have hloop : ∀ (d i : Nat), l.length - i = d → i ≤ l.length → Ev (fun k => PW.parquetrylaw13_like.l0 k l l (i : Int)) true := by
    intro d
    induction d with
    | zero =>
      intro i hd hi
      refine Ev.step (f := fun _ => some true) (fun k => ?_) (Ev.now _)
      simp only [PW.parquetrylaw13_like.l0]
      rw [if_neg (by omega)]
    | succ d ih =>
      intro i hd hi
      refine Ev.step (fun k => ?_) (ih (i + 1) (by omega) (by omega))
      simp only [PW.parquetrylaw13_like.l0]
      rw [if_pos (by omega), if_pos (by omega), if_pos (by omega), if_pos trivial, w64_in _ (by omega) (by omega)]
      rfl
  refine Ev.congr (fun k => ?_) (hloop _ 0 rfl (Nat.zero_le _))
  unfold PW.parquetrylaw13_like.f
  rw [if_pos rfl]; rfl
end Go.Proofs.YtfpibigfhhoiiaaDoor
