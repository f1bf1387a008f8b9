-- Written by a program of this session (wip/myprint.py, over the kit's print). Not trusted: Lean checks it.
import Derived.Test.YtfpibigfhhoiiaaDoorPWx0
import Derived.Test.YtfpibigfhhoiiaaDoorPWx1
import Derived.Test.YtfpibigfhhoiiaaDoorPWx2
namespace Go.Proofs.YtfpibigfhhoiiaaDoor.PW
open Go.RowKit Go.Proofs.YtfpibigfhhoiiaaDoorW.PrintWords Go.Proofs.YtfpibigfhhoiiaaDoorW.PrintLast Go.Proofs.YtfpibigfhhoiiaaDoorW.PrintMore
attribute [local go_sem] max2_int min2_int max_two min_two max_three min_three max_four min_four   -- for this text's walks alone
set_option linter.unusedVariables false
set_option linter.unusedSimpArgs false

/-! ### parquetryref13_one: function 73 -/
mutual
def parquetryref13_one.j0 : Nat → Int → List Int → Int → Int → Int → Int → Int → Option (Int)
  | 0, _, _, _, _, _, _, _ => none
  | k + 1, x0, x1, x2, x3, x9, x10, x11 => if (wrap64 (x2 + 1)) < (x1.length : Int) then (if 0 ≤ (wrap64 (x2 + 1)) then (parquetryref13_one.j1 k x0 x1 x2 x3 x9 x10 (rd x1 (wrap64 (x2 + 1)))) else (none)) else (parquetryref13_one.j1 k x0 x1 x2 x3 x9 x10 x11)
def parquetryref13_one.j1 : Nat → Int → List Int → Int → Int → Int → Int → Int → Option (Int)
  | 0, _, _, _, _, _, _, _ => none
  | k + 1, x0, x1, x2, x3, x9, x10, x11 => if x0 = 1 then (if x9 = 8 then (parquetryref13_one.j2 k x0 x1 x2 x3 x9 x10 x11 (x2 == 0)) else (parquetryref13_one.j2 k x0 x1 x2 x3 x9 x10 x11 false)) else (parquetryref13_one.j2 k x0 x1 x2 x3 x9 x10 x11 false)
def parquetryref13_one.j2 : Nat → Int → List Int → Int → Int → Int → Int → Int → Bool → Option (Int)
  | 0, _, _, _, _, _, _, _, _ => none
  | k + 1, x0, x1, x2, x3, x9, x10, x11, x33 => if x33 = true then (some x3) else (if x0 = 1 then (parquetryref13_one.j3 k x0 x1 x2 x3 x9 x10 x11 (x9 == 8)) else (parquetryref13_one.j3 k x0 x1 x2 x3 x9 x10 x11 false))
def parquetryref13_one.j3 : Nat → Int → List Int → Int → Int → Int → Int → Int → Bool → Option (Int)
  | 0, _, _, _, _, _, _, _, _ => none
  | k + 1, x0, x1, x2, x3, x9, x10, x11, x45 => if x45 = true then (if x10 = 19 then (some 13) else (if x10 = 20 then (some 13) else (if x10 = 21 then (some 13) else (if x10 = 22 then (some 13) else (some x10))))) else (if x0 = 2 then (if x9 = 3 then ((parquetryref13_letter.f k x1 x2 x3).bind fun t138 => (parquetryref13_one.j4 k x0 x1 x2 x3 x9 x10 x11 (t138 == 2))) else (parquetryref13_one.j4 k x0 x1 x2 x3 x9 x10 x11 false)) else (parquetryref13_one.j4 k x0 x1 x2 x3 x9 x10 x11 false))
def parquetryref13_one.j4 : Nat → Int → List Int → Int → Int → Int → Int → Int → Bool → Option (Int)
  | 0, _, _, _, _, _, _, _, _ => none
  | k + 1, x0, x1, x2, x3, x9, x10, x11, x67 => if x67 = true then (some 6) else (if x0 = 3 then (parquetryref13_one.j5 k x0 x1 x2 x3 x9 x10 x11 (x9 == 2)) else (parquetryref13_one.j5 k x0 x1 x2 x3 x9 x10 x11 false))
def parquetryref13_one.j5 : Nat → Int → List Int → Int → Int → Int → Int → Int → Bool → Option (Int)
  | 0, _, _, _, _, _, _, _, _ => none
  | k + 1, x0, x1, x2, x3, x9, x10, x11, x81 => if x81 = true then (some 1) else (if x0 = 4 then (if x9 = 4 then (if x10 = 3 then (parquetryref13_one.j6 k x0 x1 x2 x3 x9 x10 x11 (x11 == 3)) else (parquetryref13_one.j6 k x0 x1 x2 x3 x9 x10 x11 false)) else (parquetryref13_one.j6 k x0 x1 x2 x3 x9 x10 x11 false)) else (parquetryref13_one.j6 k x0 x1 x2 x3 x9 x10 x11 false))
def parquetryref13_one.j6 : Nat → Int → List Int → Int → Int → Int → Int → Int → Bool → Option (Int)
  | 0, _, _, _, _, _, _, _, _ => none
  | k + 1, x0, x1, x2, x3, x9, x10, x11, x88 => if x88 = true then (some 3) else (if x0 = 4 then (if x9 = 7 then (if x10 = x11 then (if x10 = 3 then (parquetryref13_one.j7 k x0 x1 x2 x3 x9 x10 true) else (parquetryref13_one.j7 k x0 x1 x2 x3 x9 x10 (x10 == 6))) else (parquetryref13_one.j7 k x0 x1 x2 x3 x9 x10 false)) else (parquetryref13_one.j7 k x0 x1 x2 x3 x9 x10 false)) else (parquetryref13_one.j7 k x0 x1 x2 x3 x9 x10 false))
def parquetryref13_one.j7 : Nat → Int → List Int → Int → Int → Int → Int → Bool → Option (Int)
  | 0, _, _, _, _, _, _, _ => none
  | k + 1, x0, x1, x2, x3, x9, x10, x103 => if x103 = true then (some x10) else (if x0 = 5 then (if x9 = 5 then ((parquetryref13_number.f k x1 x2).bind fun t139 => (parquetryref13_one.j8 k x0 x1 x2 x3 x9 t139)) else (parquetryref13_one.j8 k x0 x1 x2 x3 x9 false)) else (parquetryref13_one.j8 k x0 x1 x2 x3 x9 false))
def parquetryref13_one.j8 : Nat → Int → List Int → Int → Int → Int → Bool → Option (Int)
  | 0, _, _, _, _, _, _ => none
  | k + 1, x0, x1, x2, x3, x9, x124 => if x124 = true then (some 3) else (if x0 = 6 then (if x9 = 4 then (parquetryref13_one.j9 k x0 x1 x2 x3 x9 true) else (if x9 = 5 then (parquetryref13_one.j9 k x0 x1 x2 x3 x9 true) else (parquetryref13_one.j9 k x0 x1 x2 x3 x9 (x9 == 7)))) else (parquetryref13_one.j9 k x0 x1 x2 x3 x9 false))
def parquetryref13_one.j9 : Nat → Int → List Int → Int → Int → Int → Bool → Option (Int)
  | 0, _, _, _, _, _, _ => none
  | k + 1, x0, x1, x2, x3, x9, x136 => if x136 = true then (some 13) else (if x0 = 7 then (if x9 = 3 then ((parquetryref13_letter.f k x1 x2 x3).bind fun t140 => (if t140 = 0 then (some 0) else (some x9))) else (some x9)) else (some x9))
end
def parquetryref13_one.f (k : Nat) (a0 : Int) (l1 : List Int) (a2 : Int) (a3 : Int) : Option (Int) := if 0 ≤ a2 then (if a2 < (l1.length : Int) then (if a2 > 0 then (if 0 ≤ (wrap64 (a2 - 1)) then (if (wrap64 (a2 - 1)) < (l1.length : Int) then (parquetryref13_one.j0 k a0 l1 a2 a3 (rd l1 a2) (rd l1 (wrap64 (a2 - 1))) (-1)) else (none)) else (none)) else (parquetryref13_one.j0 k a0 l1 a2 a3 (rd l1 a2) (-1) (-1))) else (none)) else (none)
theorem parquetryref13_one.mono_l : ∀ k, (∀ y0 y1 y2 y3 y4 y5 y6, LeO (parquetryref13_one.j0 k y0 y1 y2 y3 y4 y5 y6) (parquetryref13_one.j0 (k + 1) y0 y1 y2 y3 y4 y5 y6)) ∧ (∀ y0 y1 y2 y3 y4 y5 y6, LeO (parquetryref13_one.j1 k y0 y1 y2 y3 y4 y5 y6) (parquetryref13_one.j1 (k + 1) y0 y1 y2 y3 y4 y5 y6)) ∧ (∀ y0 y1 y2 y3 y4 y5 y6 y7, LeO (parquetryref13_one.j2 k y0 y1 y2 y3 y4 y5 y6 y7) (parquetryref13_one.j2 (k + 1) y0 y1 y2 y3 y4 y5 y6 y7)) ∧ (∀ y0 y1 y2 y3 y4 y5 y6 y7, LeO (parquetryref13_one.j3 k y0 y1 y2 y3 y4 y5 y6 y7) (parquetryref13_one.j3 (k + 1) y0 y1 y2 y3 y4 y5 y6 y7)) ∧ (∀ y0 y1 y2 y3 y4 y5 y6 y7, LeO (parquetryref13_one.j4 k y0 y1 y2 y3 y4 y5 y6 y7) (parquetryref13_one.j4 (k + 1) y0 y1 y2 y3 y4 y5 y6 y7)) ∧ (∀ y0 y1 y2 y3 y4 y5 y6 y7, LeO (parquetryref13_one.j5 k y0 y1 y2 y3 y4 y5 y6 y7) (parquetryref13_one.j5 (k + 1) y0 y1 y2 y3 y4 y5 y6 y7)) ∧ (∀ y0 y1 y2 y3 y4 y5 y6 y7, LeO (parquetryref13_one.j6 k y0 y1 y2 y3 y4 y5 y6 y7) (parquetryref13_one.j6 (k + 1) y0 y1 y2 y3 y4 y5 y6 y7)) ∧ (∀ y0 y1 y2 y3 y4 y5 y6, LeO (parquetryref13_one.j7 k y0 y1 y2 y3 y4 y5 y6) (parquetryref13_one.j7 (k + 1) y0 y1 y2 y3 y4 y5 y6)) ∧ (∀ y0 y1 y2 y3 y4 y5, LeO (parquetryref13_one.j8 k y0 y1 y2 y3 y4 y5) (parquetryref13_one.j8 (k + 1) y0 y1 y2 y3 y4 y5)) ∧ (∀ y0 y1 y2 y3 y4 y5, LeO (parquetryref13_one.j9 k y0 y1 y2 y3 y4 y5) (parquetryref13_one.j9 (k + 1) y0 y1 y2 y3 y4 y5))
  | 0 => ⟨fun _ _ _ _ _ _ _ r h => by simp [parquetryref13_one.j0] at h, fun _ _ _ _ _ _ _ r h => by simp [parquetryref13_one.j1] at h, fun _ _ _ _ _ _ _ _ r h => by simp [parquetryref13_one.j2] at h, fun _ _ _ _ _ _ _ _ r h => by simp [parquetryref13_one.j3] at h, fun _ _ _ _ _ _ _ _ r h => by simp [parquetryref13_one.j4] at h, fun _ _ _ _ _ _ _ _ r h => by simp [parquetryref13_one.j5] at h, fun _ _ _ _ _ _ _ _ r h => by simp [parquetryref13_one.j6] at h, fun _ _ _ _ _ _ _ r h => by simp [parquetryref13_one.j7] at h, fun _ _ _ _ _ _ r h => by simp [parquetryref13_one.j8] at h, fun _ _ _ _ _ _ r h => by simp [parquetryref13_one.j9] at h⟩
  | k + 1 => by
    obtain ⟨ih0, ih1, ih2, ih3, ih4, ih5, ih6, ih7, ih8, ih9⟩ := parquetryref13_one.mono_l k
    refine ⟨?_, ?_, ?_, ?_, ?_, ?_, ?_, ?_, ?_, ?_⟩
    · intro y0 y1 y2 y3 y4 y5 y6
      unfold parquetryref13_one.j0
      repeat' first
      | (with_reducible exact ih0 _ _ _ _ _ _ _)
      | (with_reducible exact ih1 _ _ _ _ _ _ _)
      | (with_reducible exact ih2 _ _ _ _ _ _ _ _)
      | (with_reducible exact ih3 _ _ _ _ _ _ _ _)
      | (with_reducible exact ih4 _ _ _ _ _ _ _ _)
      | (with_reducible exact ih5 _ _ _ _ _ _ _ _)
      | (with_reducible exact ih6 _ _ _ _ _ _ _ _)
      | (with_reducible exact ih7 _ _ _ _ _ _ _)
      | (with_reducible exact ih8 _ _ _ _ _ _)
      | (with_reducible exact ih9 _ _ _ _ _ _)
      | (with_reducible exact parquetryref13_letter.mono _ _ _ _)
      | (with_reducible exact parquetryref13_number.mono _ _ _)
      | (with_reducible exact LeO.refl _)
      | (with_reducible exact LeO.none _)
      | (with_reducible refine LeO.ite ?_ ?_)
      | (with_reducible refine LeO.bind ?_ (fun _ => ?_))
      | exact ih0 _ _ _ _ _ _ _
      | exact ih1 _ _ _ _ _ _ _
      | exact ih2 _ _ _ _ _ _ _ _
      | exact ih3 _ _ _ _ _ _ _ _
      | exact ih4 _ _ _ _ _ _ _ _
      | exact ih5 _ _ _ _ _ _ _ _
      | exact ih6 _ _ _ _ _ _ _ _
      | exact ih7 _ _ _ _ _ _ _
      | exact ih8 _ _ _ _ _ _
      | exact ih9 _ _ _ _ _ _
      | exact parquetryref13_letter.mono _ _ _ _
      | exact parquetryref13_number.mono _ _ _
      | exact LeO.none _
      | refine LeO.ite ?_ ?_
      | refine LeO.bind ?_ (fun _ => ?_)
    · intro y0 y1 y2 y3 y4 y5 y6
      unfold parquetryref13_one.j1
      repeat' first
      | (with_reducible exact ih0 _ _ _ _ _ _ _)
      | (with_reducible exact ih1 _ _ _ _ _ _ _)
      | (with_reducible exact ih2 _ _ _ _ _ _ _ _)
      | (with_reducible exact ih3 _ _ _ _ _ _ _ _)
      | (with_reducible exact ih4 _ _ _ _ _ _ _ _)
      | (with_reducible exact ih5 _ _ _ _ _ _ _ _)
      | (with_reducible exact ih6 _ _ _ _ _ _ _ _)
      | (with_reducible exact ih7 _ _ _ _ _ _ _)
      | (with_reducible exact ih8 _ _ _ _ _ _)
      | (with_reducible exact ih9 _ _ _ _ _ _)
      | (with_reducible exact parquetryref13_letter.mono _ _ _ _)
      | (with_reducible exact parquetryref13_number.mono _ _ _)
      | (with_reducible exact LeO.refl _)
      | (with_reducible exact LeO.none _)
      | (with_reducible refine LeO.ite ?_ ?_)
      | (with_reducible refine LeO.bind ?_ (fun _ => ?_))
      | exact ih0 _ _ _ _ _ _ _
      | exact ih1 _ _ _ _ _ _ _
      | exact ih2 _ _ _ _ _ _ _ _
      | exact ih3 _ _ _ _ _ _ _ _
      | exact ih4 _ _ _ _ _ _ _ _
      | exact ih5 _ _ _ _ _ _ _ _
      | exact ih6 _ _ _ _ _ _ _ _
      | exact ih7 _ _ _ _ _ _ _
      | exact ih8 _ _ _ _ _ _
      | exact ih9 _ _ _ _ _ _
      | exact parquetryref13_letter.mono _ _ _ _
      | exact parquetryref13_number.mono _ _ _
      | exact LeO.none _
      | refine LeO.ite ?_ ?_
      | refine LeO.bind ?_ (fun _ => ?_)
    · intro y0 y1 y2 y3 y4 y5 y6 y7
      unfold parquetryref13_one.j2
      repeat' first
      | (with_reducible exact ih0 _ _ _ _ _ _ _)
      | (with_reducible exact ih1 _ _ _ _ _ _ _)
      | (with_reducible exact ih2 _ _ _ _ _ _ _ _)
      | (with_reducible exact ih3 _ _ _ _ _ _ _ _)
      | (with_reducible exact ih4 _ _ _ _ _ _ _ _)
      | (with_reducible exact ih5 _ _ _ _ _ _ _ _)
      | (with_reducible exact ih6 _ _ _ _ _ _ _ _)
      | (with_reducible exact ih7 _ _ _ _ _ _ _)
      | (with_reducible exact ih8 _ _ _ _ _ _)
      | (with_reducible exact ih9 _ _ _ _ _ _)
      | (with_reducible exact parquetryref13_letter.mono _ _ _ _)
      | (with_reducible exact parquetryref13_number.mono _ _ _)
      | (with_reducible exact LeO.refl _)
      | (with_reducible exact LeO.none _)
      | (with_reducible refine LeO.ite ?_ ?_)
      | (with_reducible refine LeO.bind ?_ (fun _ => ?_))
      | exact ih0 _ _ _ _ _ _ _
      | exact ih1 _ _ _ _ _ _ _
      | exact ih2 _ _ _ _ _ _ _ _
      | exact ih3 _ _ _ _ _ _ _ _
      | exact ih4 _ _ _ _ _ _ _ _
      | exact ih5 _ _ _ _ _ _ _ _
      | exact ih6 _ _ _ _ _ _ _ _
      | exact ih7 _ _ _ _ _ _ _
      | exact ih8 _ _ _ _ _ _
      | exact ih9 _ _ _ _ _ _
      | exact parquetryref13_letter.mono _ _ _ _
      | exact parquetryref13_number.mono _ _ _
      | exact LeO.none _
      | refine LeO.ite ?_ ?_
      | refine LeO.bind ?_ (fun _ => ?_)
    · intro y0 y1 y2 y3 y4 y5 y6 y7
      unfold parquetryref13_one.j3
      repeat' first
      | (with_reducible exact ih0 _ _ _ _ _ _ _)
      | (with_reducible exact ih1 _ _ _ _ _ _ _)
      | (with_reducible exact ih2 _ _ _ _ _ _ _ _)
      | (with_reducible exact ih3 _ _ _ _ _ _ _ _)
      | (with_reducible exact ih4 _ _ _ _ _ _ _ _)
      | (with_reducible exact ih5 _ _ _ _ _ _ _ _)
      | (with_reducible exact ih6 _ _ _ _ _ _ _ _)
      | (with_reducible exact ih7 _ _ _ _ _ _ _)
      | (with_reducible exact ih8 _ _ _ _ _ _)
      | (with_reducible exact ih9 _ _ _ _ _ _)
      | (with_reducible exact parquetryref13_letter.mono _ _ _ _)
      | (with_reducible exact parquetryref13_number.mono _ _ _)
      | (with_reducible exact LeO.refl _)
      | (with_reducible exact LeO.none _)
      | (with_reducible refine LeO.ite ?_ ?_)
      | (with_reducible refine LeO.bind ?_ (fun _ => ?_))
      | exact ih0 _ _ _ _ _ _ _
      | exact ih1 _ _ _ _ _ _ _
      | exact ih2 _ _ _ _ _ _ _ _
      | exact ih3 _ _ _ _ _ _ _ _
      | exact ih4 _ _ _ _ _ _ _ _
      | exact ih5 _ _ _ _ _ _ _ _
      | exact ih6 _ _ _ _ _ _ _ _
      | exact ih7 _ _ _ _ _ _ _
      | exact ih8 _ _ _ _ _ _
      | exact ih9 _ _ _ _ _ _
      | exact parquetryref13_letter.mono _ _ _ _
      | exact parquetryref13_number.mono _ _ _
      | exact LeO.none _
      | refine LeO.ite ?_ ?_
      | refine LeO.bind ?_ (fun _ => ?_)
    · intro y0 y1 y2 y3 y4 y5 y6 y7
      unfold parquetryref13_one.j4
      repeat' first
      | (with_reducible exact ih0 _ _ _ _ _ _ _)
      | (with_reducible exact ih1 _ _ _ _ _ _ _)
      | (with_reducible exact ih2 _ _ _ _ _ _ _ _)
      | (with_reducible exact ih3 _ _ _ _ _ _ _ _)
      | (with_reducible exact ih4 _ _ _ _ _ _ _ _)
      | (with_reducible exact ih5 _ _ _ _ _ _ _ _)
      | (with_reducible exact ih6 _ _ _ _ _ _ _ _)
      | (with_reducible exact ih7 _ _ _ _ _ _ _)
      | (with_reducible exact ih8 _ _ _ _ _ _)
      | (with_reducible exact ih9 _ _ _ _ _ _)
      | (with_reducible exact parquetryref13_letter.mono _ _ _ _)
      | (with_reducible exact parquetryref13_number.mono _ _ _)
      | (with_reducible exact LeO.refl _)
      | (with_reducible exact LeO.none _)
      | (with_reducible refine LeO.ite ?_ ?_)
      | (with_reducible refine LeO.bind ?_ (fun _ => ?_))
      | exact ih0 _ _ _ _ _ _ _
      | exact ih1 _ _ _ _ _ _ _
      | exact ih2 _ _ _ _ _ _ _ _
      | exact ih3 _ _ _ _ _ _ _ _
      | exact ih4 _ _ _ _ _ _ _ _
      | exact ih5 _ _ _ _ _ _ _ _
      | exact ih6 _ _ _ _ _ _ _ _
      | exact ih7 _ _ _ _ _ _ _
      | exact ih8 _ _ _ _ _ _
      | exact ih9 _ _ _ _ _ _
      | exact parquetryref13_letter.mono _ _ _ _
      | exact parquetryref13_number.mono _ _ _
      | exact LeO.none _
      | refine LeO.ite ?_ ?_
      | refine LeO.bind ?_ (fun _ => ?_)
    · intro y0 y1 y2 y3 y4 y5 y6 y7
      unfold parquetryref13_one.j5
      repeat' first
      | (with_reducible exact ih0 _ _ _ _ _ _ _)
      | (with_reducible exact ih1 _ _ _ _ _ _ _)
      | (with_reducible exact ih2 _ _ _ _ _ _ _ _)
      | (with_reducible exact ih3 _ _ _ _ _ _ _ _)
      | (with_reducible exact ih4 _ _ _ _ _ _ _ _)
      | (with_reducible exact ih5 _ _ _ _ _ _ _ _)
      | (with_reducible exact ih6 _ _ _ _ _ _ _ _)
      | (with_reducible exact ih7 _ _ _ _ _ _ _)
      | (with_reducible exact ih8 _ _ _ _ _ _)
      | (with_reducible exact ih9 _ _ _ _ _ _)
      | (with_reducible exact parquetryref13_letter.mono _ _ _ _)
      | (with_reducible exact parquetryref13_number.mono _ _ _)
      | (with_reducible exact LeO.refl _)
      | (with_reducible exact LeO.none _)
      | (with_reducible refine LeO.ite ?_ ?_)
      | (with_reducible refine LeO.bind ?_ (fun _ => ?_))
      | exact ih0 _ _ _ _ _ _ _
      | exact ih1 _ _ _ _ _ _ _
      | exact ih2 _ _ _ _ _ _ _ _
      | exact ih3 _ _ _ _ _ _ _ _
      | exact ih4 _ _ _ _ _ _ _ _
      | exact ih5 _ _ _ _ _ _ _ _
      | exact ih6 _ _ _ _ _ _ _ _
      | exact ih7 _ _ _ _ _ _ _
      | exact ih8 _ _ _ _ _ _
      | exact ih9 _ _ _ _ _ _
      | exact parquetryref13_letter.mono _ _ _ _
      | exact parquetryref13_number.mono _ _ _
      | exact LeO.none _
      | refine LeO.ite ?_ ?_
      | refine LeO.bind ?_ (fun _ => ?_)
    · intro y0 y1 y2 y3 y4 y5 y6 y7
      unfold parquetryref13_one.j6
      repeat' first
      | (with_reducible exact ih0 _ _ _ _ _ _ _)
      | (with_reducible exact ih1 _ _ _ _ _ _ _)
      | (with_reducible exact ih2 _ _ _ _ _ _ _ _)
      | (with_reducible exact ih3 _ _ _ _ _ _ _ _)
      | (with_reducible exact ih4 _ _ _ _ _ _ _ _)
      | (with_reducible exact ih5 _ _ _ _ _ _ _ _)
      | (with_reducible exact ih6 _ _ _ _ _ _ _ _)
      | (with_reducible exact ih7 _ _ _ _ _ _ _)
      | (with_reducible exact ih8 _ _ _ _ _ _)
      | (with_reducible exact ih9 _ _ _ _ _ _)
      | (with_reducible exact parquetryref13_letter.mono _ _ _ _)
      | (with_reducible exact parquetryref13_number.mono _ _ _)
      | (with_reducible exact LeO.refl _)
      | (with_reducible exact LeO.none _)
      | (with_reducible refine LeO.ite ?_ ?_)
      | (with_reducible refine LeO.bind ?_ (fun _ => ?_))
      | exact ih0 _ _ _ _ _ _ _
      | exact ih1 _ _ _ _ _ _ _
      | exact ih2 _ _ _ _ _ _ _ _
      | exact ih3 _ _ _ _ _ _ _ _
      | exact ih4 _ _ _ _ _ _ _ _
      | exact ih5 _ _ _ _ _ _ _ _
      | exact ih6 _ _ _ _ _ _ _ _
      | exact ih7 _ _ _ _ _ _ _
      | exact ih8 _ _ _ _ _ _
      | exact ih9 _ _ _ _ _ _
      | exact parquetryref13_letter.mono _ _ _ _
      | exact parquetryref13_number.mono _ _ _
      | exact LeO.none _
      | refine LeO.ite ?_ ?_
      | refine LeO.bind ?_ (fun _ => ?_)
    · intro y0 y1 y2 y3 y4 y5 y6
      unfold parquetryref13_one.j7
      repeat' first
      | (with_reducible exact ih0 _ _ _ _ _ _ _)
      | (with_reducible exact ih1 _ _ _ _ _ _ _)
      | (with_reducible exact ih2 _ _ _ _ _ _ _ _)
      | (with_reducible exact ih3 _ _ _ _ _ _ _ _)
      | (with_reducible exact ih4 _ _ _ _ _ _ _ _)
      | (with_reducible exact ih5 _ _ _ _ _ _ _ _)
      | (with_reducible exact ih6 _ _ _ _ _ _ _ _)
      | (with_reducible exact ih7 _ _ _ _ _ _ _)
      | (with_reducible exact ih8 _ _ _ _ _ _)
      | (with_reducible exact ih9 _ _ _ _ _ _)
      | (with_reducible exact parquetryref13_letter.mono _ _ _ _)
      | (with_reducible exact parquetryref13_number.mono _ _ _)
      | (with_reducible exact LeO.refl _)
      | (with_reducible exact LeO.none _)
      | (with_reducible refine LeO.ite ?_ ?_)
      | (with_reducible refine LeO.bind ?_ (fun _ => ?_))
      | exact ih0 _ _ _ _ _ _ _
      | exact ih1 _ _ _ _ _ _ _
      | exact ih2 _ _ _ _ _ _ _ _
      | exact ih3 _ _ _ _ _ _ _ _
      | exact ih4 _ _ _ _ _ _ _ _
      | exact ih5 _ _ _ _ _ _ _ _
      | exact ih6 _ _ _ _ _ _ _ _
      | exact ih7 _ _ _ _ _ _ _
      | exact ih8 _ _ _ _ _ _
      | exact ih9 _ _ _ _ _ _
      | exact parquetryref13_letter.mono _ _ _ _
      | exact parquetryref13_number.mono _ _ _
      | exact LeO.none _
      | refine LeO.ite ?_ ?_
      | refine LeO.bind ?_ (fun _ => ?_)
    · intro y0 y1 y2 y3 y4 y5
      unfold parquetryref13_one.j8
      repeat' first
      | (with_reducible exact ih0 _ _ _ _ _ _ _)
      | (with_reducible exact ih1 _ _ _ _ _ _ _)
      | (with_reducible exact ih2 _ _ _ _ _ _ _ _)
      | (with_reducible exact ih3 _ _ _ _ _ _ _ _)
      | (with_reducible exact ih4 _ _ _ _ _ _ _ _)
      | (with_reducible exact ih5 _ _ _ _ _ _ _ _)
      | (with_reducible exact ih6 _ _ _ _ _ _ _ _)
      | (with_reducible exact ih7 _ _ _ _ _ _ _)
      | (with_reducible exact ih8 _ _ _ _ _ _)
      | (with_reducible exact ih9 _ _ _ _ _ _)
      | (with_reducible exact parquetryref13_letter.mono _ _ _ _)
      | (with_reducible exact parquetryref13_number.mono _ _ _)
      | (with_reducible exact LeO.refl _)
      | (with_reducible exact LeO.none _)
      | (with_reducible refine LeO.ite ?_ ?_)
      | (with_reducible refine LeO.bind ?_ (fun _ => ?_))
      | exact ih0 _ _ _ _ _ _ _
      | exact ih1 _ _ _ _ _ _ _
      | exact ih2 _ _ _ _ _ _ _ _
      | exact ih3 _ _ _ _ _ _ _ _
      | exact ih4 _ _ _ _ _ _ _ _
      | exact ih5 _ _ _ _ _ _ _ _
      | exact ih6 _ _ _ _ _ _ _ _
      | exact ih7 _ _ _ _ _ _ _
      | exact ih8 _ _ _ _ _ _
      | exact ih9 _ _ _ _ _ _
      | exact parquetryref13_letter.mono _ _ _ _
      | exact parquetryref13_number.mono _ _ _
      | exact LeO.none _
      | refine LeO.ite ?_ ?_
      | refine LeO.bind ?_ (fun _ => ?_)
    · intro y0 y1 y2 y3 y4 y5
      unfold parquetryref13_one.j9
      repeat' first
      | (with_reducible exact ih0 _ _ _ _ _ _ _)
      | (with_reducible exact ih1 _ _ _ _ _ _ _)
      | (with_reducible exact ih2 _ _ _ _ _ _ _ _)
      | (with_reducible exact ih3 _ _ _ _ _ _ _ _)
      | (with_reducible exact ih4 _ _ _ _ _ _ _ _)
      | (with_reducible exact ih5 _ _ _ _ _ _ _ _)
      | (with_reducible exact ih6 _ _ _ _ _ _ _ _)
      | (with_reducible exact ih7 _ _ _ _ _ _ _)
      | (with_reducible exact ih8 _ _ _ _ _ _)
      | (with_reducible exact ih9 _ _ _ _ _ _)
      | (with_reducible exact parquetryref13_letter.mono _ _ _ _)
      | (with_reducible exact parquetryref13_number.mono _ _ _)
      | (with_reducible exact LeO.refl _)
      | (with_reducible exact LeO.none _)
      | (with_reducible refine LeO.ite ?_ ?_)
      | (with_reducible refine LeO.bind ?_ (fun _ => ?_))
      | exact ih0 _ _ _ _ _ _ _
      | exact ih1 _ _ _ _ _ _ _
      | exact ih2 _ _ _ _ _ _ _ _
      | exact ih3 _ _ _ _ _ _ _ _
      | exact ih4 _ _ _ _ _ _ _ _
      | exact ih5 _ _ _ _ _ _ _ _
      | exact ih6 _ _ _ _ _ _ _ _
      | exact ih7 _ _ _ _ _ _ _
      | exact ih8 _ _ _ _ _ _
      | exact ih9 _ _ _ _ _ _
      | exact parquetryref13_letter.mono _ _ _ _
      | exact parquetryref13_number.mono _ _ _
      | exact LeO.none _
      | refine LeO.ite ?_ ?_
      | refine LeO.bind ?_ (fun _ => ?_)
theorem parquetryref13_one.mono : ∀ a0 a1 a2 a3 k, LeO (parquetryref13_one.f k a0 a1 a2 a3) (parquetryref13_one.f (k + 1) a0 a1 a2 a3) := by
  intro a0 a1 a2 a3 k
  obtain ⟨ih0, ih1, ih2, ih3, ih4, ih5, ih6, ih7, ih8, ih9⟩ := parquetryref13_one.mono_l k
  unfold parquetryref13_one.f
  repeat' first
      | (with_reducible exact ih0 _ _ _ _ _ _ _)
      | (with_reducible exact ih1 _ _ _ _ _ _ _)
      | (with_reducible exact ih2 _ _ _ _ _ _ _ _)
      | (with_reducible exact ih3 _ _ _ _ _ _ _ _)
      | (with_reducible exact ih4 _ _ _ _ _ _ _ _)
      | (with_reducible exact ih5 _ _ _ _ _ _ _ _)
      | (with_reducible exact ih6 _ _ _ _ _ _ _ _)
      | (with_reducible exact ih7 _ _ _ _ _ _ _)
      | (with_reducible exact ih8 _ _ _ _ _ _)
      | (with_reducible exact ih9 _ _ _ _ _ _)
      | (with_reducible exact parquetryref13_letter.mono _ _ _ _)
      | (with_reducible exact parquetryref13_number.mono _ _ _)
      | (with_reducible exact LeO.refl _)
      | (with_reducible exact LeO.none _)
      | (with_reducible refine LeO.ite ?_ ?_)
      | (with_reducible refine LeO.bind ?_ (fun _ => ?_))
      | exact ih0 _ _ _ _ _ _ _
      | exact ih1 _ _ _ _ _ _ _
      | exact ih2 _ _ _ _ _ _ _ _
      | exact ih3 _ _ _ _ _ _ _ _
      | exact ih4 _ _ _ _ _ _ _ _
      | exact ih5 _ _ _ _ _ _ _ _
      | exact ih6 _ _ _ _ _ _ _ _
      | exact ih7 _ _ _ _ _ _ _
      | exact ih8 _ _ _ _ _ _
      | exact ih9 _ _ _ _ _ _
      | exact parquetryref13_letter.mono _ _ _ _
      | exact parquetryref13_number.mono _ _ _
      | exact LeO.none _
      | refine LeO.ite ?_ ?_
      | refine LeO.bind ?_ (fun _ => ?_)
set_option maxHeartbeats 8000000 in
set_option maxRecDepth 100000 in
theorem parquetryref13_one.calls (k : Nat) (a0 : Int) (A1 : Option Addr) (c1 : Nat) (l1 : List Int) (a2 : Int) (a3 : Int) (r : Int) (w : World) (hr1 : Kd.C (Kd.int .i64) w A1 l1.length l1) (hc1 : l1.length ≤ c1) (h : parquetryref13_one.f k a0 l1 a2 a3 = some r) :
    Calls Tryd.prog 73 #[.int .i64 a0, .slice A1 l1.length c1, .int .i64 a2, .int .i64 a3] w fun e w' => e = .returned (.int .i64 r) ∧ Drawn0 w w' := by
  have HR1 := Aside0.mk hr1
  have HC1 := Aside0.mk hc1
  clear hr1 hc1
  have H : (if 0 ≤ a2 then (if a2 < (l1.length : Int) then (if a2 > 0 then (if 0 ≤ (wrap64 (a2 - 1)) then (if (wrap64 (a2 - 1)) < (l1.length : Int) then (parquetryref13_one.j0 k a0 l1 a2 a3 (rd l1 a2) (rd l1 (wrap64 (a2 - 1))) (-1)) else (none)) else (none)) else (parquetryref13_one.j0 k a0 l1 a2 a3 (rd l1 a2) (-1) (-1))) else (none)) else (none)) = some r := h
  clear h
  by_cases c5 : 0 ≤ a2
  · rw [if_pos c5] at H
    have c5b0 : decide (0 ≤ a2) = true := decide_eq_true c5
    clear c5
    by_cases c6 : a2 < (l1.length : Int)
    · rw [if_pos c6] at H
      have c6b0 : decide (a2 < (l1.length : Int)) = true := decide_eq_true c6
      clear c6
      have HC7 := Aside0.mk H
      clear H
      have p135 : 0 ≤ (a2 : Int) := of_decide_eq_true (by first | (with_reducible assumption) | assumption)
      have q135 : a2 < (l1.length : Int) := of_decide_eq_true (by first | (with_reducible assumption) | assumption)
      obtain ⟨ad135, e135, hx135_0⟩ := Kd.at_int HR1.out a2 p135 q135
      cases e135
      replace p135 := eq_true p135
      replace q135 := eq_true q135
      go_enter Tryd.func73, Tryd.ntmps73
      go_upto_if 17 with (fail)
      go_cut [10] (fun v10 wc => ∃ (kq : Nat) (x10_6 : Int), v10 = .int .i64 x10_6 ∧ Aside0 (parquetryref13_one.j0 kq a0 l1 a2 a3 (rd l1 a2) x10_6 (-1) = some r) ∧ Aside0 (kq ≤ k) ∧ Drawn0 w wc)
      case first => as_aux_lemma =>
        have H := HC7.out
        clear HC7
        by_cases c8 : a2 > 0
        · rw [if_pos c8] at H
          have c8b0 : decide (0 < a2) = true := decide_eq_true c8
          clear c8
          (first | rw [c8b0] | (simp only [i64_w, i32_w]; rw [c8b0]) | skip)
          obtain ⟨ji9, hji9⟩ : ∃ j_ : Int, (wrap64 (a2 - 1)) = j_ := ⟨_, rfl⟩
          replace H : (if 0 ≤ (ji9) then (if (ji9) < (l1.length : Int) then (parquetryref13_one.j0 k a0 l1 a2 a3 (rd l1 a2) (rd l1 (ji9)) (-1)) else (none)) else (none)) = some r := by first | (rw [hji9] at H; exact H) | (simp only [hji9] at H ⊢; exact H)
          have hji9w : (IntKind.i64.wrap (a2 - 1)) = ji9 := (i64_w _).trans hji9
          by_cases c10 : 0 ≤ (ji9)
          · rw [if_pos c10] at H
            have c10b0 : decide (0 ≤ (ji9)) = true := decide_eq_true c10
            clear c10
            by_cases c11 : (ji9) < (l1.length : Int)
            · rw [if_pos c11] at H
              have c11b0 : decide ((ji9) < (l1.length : Int)) = true := decide_eq_true c11
              clear c11
              have H' := Aside0.mk H
              clear H
              have p136 : 0 ≤ ((ji9) : Int) := of_decide_eq_true (by first | (with_reducible assumption) | assumption)
              have q136 : (ji9) < (l1.length : Int) := of_decide_eq_true (by first | (with_reducible assumption) | assumption)
              obtain ⟨ad136, e136, hx136_0⟩ := Kd.at_int HR1.out (ji9) p136 q136
              obtain rfl : ad135 = ad136 := (by injection e136)
              replace p136 := eq_true p136
              replace q136 := eq_true q136
              go_wp2
              go_meet
              case rel => exact ⟨_, (rd l1 (ji9)), (by first | rfl | (simp; done) | (simp only [← hji9] <;> (first | rfl | simp)) | (simp [*]; done)), H', ⟨by first | omega | exact Nat.le_refl _⟩, by repeat (first | exact Drawn0.refl _ | apply Drawn0.step)⟩
            · rw [if_neg c11] at H
              exact absurd H (by simp)
          · rw [if_neg c10] at H
            exact absurd H (by simp)
        · rw [if_neg c8] at H
          have c8b0 : decide (0 < a2) = false := decide_eq_false c8
          clear c8
          (first | rw [c8b0] | (simp only [i64_w, i32_w]; rw [c8b0]) | skip)
          have H' := Aside0.mk H
          clear H
          go_wp2
          go_meet
          case rel => exact ⟨_, ((-1)), (by first | rfl | (simp; done) | (simp [*]; done)), H', ⟨by first | omega | exact Nat.le_refl _⟩, by repeat (first | exact Drawn0.refl _ | apply Drawn0.step)⟩
      case rest => as_aux_lemma =>
        clear HC7
        try clear c1
        try clear p1
        try clear q1
        try clear hx1
        try clear p2
        try clear c5
        try clear c5b0
        try clear c6
        try clear c6b0
        try clear p6
        try clear c7
        try clear c8
        try clear c8b0
        try clear c10
        try clear c10b0
        try clear c11
        try clear c11b0
        try clear hx135_0
        try clear hx136_0
        try clear p135
        try clear p136
        try clear q135
        try clear q136
        obtain ⟨kq, x10_6, rfl, HA, HJ6, ⟨mc6, rfl⟩⟩ := hcut
        cases kq with
        | zero => exact absurd HA.out (by simp [parquetryref13_one.j0])
        | succ kj6 =>
          have H := HA.out
          clear HA
          simp only [parquetryref13_one.j0] at H
          have HC12 := Aside0.mk H
          clear H
          go_upto_if 27 with (fail)
          go_cut [11] (fun v11 wc => ∃ (kq : Nat) (x11_11 : Int), v11 = .int .i64 x11_11 ∧ Aside0 (parquetryref13_one.j1 kq a0 l1 a2 a3 (rd l1 a2) x10_6 x11_11 = some r) ∧ Aside0 (kq ≤ kj6) ∧ Drawn0 w wc)
          case first => as_aux_lemma =>
            have H := HC12.out
            clear HC12
            by_cases c13 : (wrap64 (a2 + 1)) < (l1.length : Int)
            · rw [if_pos c13] at H
              have c13b0 : decide ((wrap64 (a2 + 1)) < (l1.length : Int)) = true := decide_eq_true c13
              clear c13
              (first | rw [c13b0] | (simp only [i64_w, i32_w]; rw [c13b0]) | skip)
              obtain ⟨ji14, hji14⟩ : ∃ j_ : Int, (wrap64 (a2 + 1)) = j_ := ⟨_, rfl⟩
              replace H : (if 0 ≤ (ji14) then (parquetryref13_one.j1 kj6 a0 l1 a2 a3 (rd l1 a2) x10_6 (rd l1 (ji14))) else (none)) = some r := by first | (rw [hji14] at H; exact H) | (simp only [hji14] at H ⊢; exact H)
              (try rw [hji14] at c13b0)
              have hji14w : (IntKind.i64.wrap (a2 + 1)) = ji14 := (i64_w _).trans hji14
              by_cases c15 : 0 ≤ (ji14)
              · rw [if_pos c15] at H
                have c15b0 : decide (0 ≤ (ji14)) = true := decide_eq_true c15
                clear c15
                have H' := Aside0.mk H
                clear H
                have p137 : 0 ≤ ((ji14) : Int) := of_decide_eq_true (by first | (with_reducible assumption) | assumption)
                have q137 : (ji14) < (l1.length : Int) := of_decide_eq_true (by first | (with_reducible assumption) | assumption)
                obtain ⟨ad137, e137, hx137_0⟩ := Kd.at_int HR1.out (ji14) p137 q137
                obtain rfl : ad135 = ad137 := (by injection e137)
                replace p137 := eq_true p137
                replace q137 := eq_true q137
                go_wp2
                go_meet
                case rel => exact ⟨_, (rd l1 (ji14)), (by first | rfl | (simp; done) | (simp only [← hji14] <;> (first | rfl | simp)) | (simp [*]; done)), H', ⟨by have := HJ6.out; first | omega | exact Nat.le_refl _⟩, by repeat (first | exact Drawn0.refl _ | apply Drawn0.step)⟩
              · rw [if_neg c15] at H
                exact absurd H (by simp)
            · rw [if_neg c13] at H
              have c13b0 : decide ((wrap64 (a2 + 1)) < (l1.length : Int)) = false := decide_eq_false c13
              clear c13
              (first | rw [c13b0] | (simp only [i64_w, i32_w]; rw [c13b0]) | skip)
              have H' := Aside0.mk H
              clear H
              go_wp2
              go_meet
              case rel => exact ⟨_, ((-1)), (by first | rfl | (simp; done) | (simp [*]; done)), H', ⟨by have := HJ6.out; first | omega | exact Nat.le_refl _⟩, by repeat (first | exact Drawn0.refl _ | apply Drawn0.step)⟩
          case rest => as_aux_lemma =>
            clear HC12
            try clear c1
            try clear p1
            try clear q1
            try clear hx1
            try clear p2
            try clear c5
            try clear c5b0
            try clear c6
            try clear c6b0
            try clear p6
            try clear c7
            try clear c8
            try clear c8b0
            try clear c10
            try clear c10b0
            try clear c11
            try clear c11b0
            try clear c13
            try clear c13b0
            try clear p13
            try clear q13
            try clear hx13
            try clear c15
            try clear c15b0
            try clear hx135_0
            try clear hx136_0
            try clear hx137_0
            try clear p1
            try clear p135
            try clear p136
            try clear p137
            try clear p2
            try clear p6
            try clear q1
            try clear q135
            try clear q136
            try clear q137
            obtain ⟨kq, x11_11, rfl, HA, HJ11, ⟨mc11, rfl⟩⟩ := hcut
            cases kq with
            | zero => exact absurd HA.out (by simp [parquetryref13_one.j1])
            | succ kj11 =>
              have H := HA.out
              clear HA
              simp only [parquetryref13_one.j1] at H
              have HC16 := Aside0.mk H
              clear H
              go_upto_region 7 with (fail)
              go_cut [33] (fun v33 wc => ∃ (kq : Nat) (x33_15 : Bool), v33 = .bool x33_15 ∧ Aside0 (parquetryref13_one.j2 kq a0 l1 a2 a3 (rd l1 a2) x10_6 x11_11 x33_15 = some r) ∧ Aside0 (kq ≤ kj11) ∧ Drawn0 w wc)
              case first => as_aux_lemma =>
                have H := HC16.out
                clear HC16
                by_cases c17 : a0 = 1
                · rw [if_pos c17] at H
                  have c17b0 : (a0 == 1) = true := beq_iff_eq.mpr c17
                  have c17b1 : (a0 != 1) = false := bne_eq_false_iff_eq.mpr c17
                  clear c17
                  (first | rw [c17b0] | (simp only [i64_w, i32_w]; rw [c17b0]) | skip)
                  by_cases c18 : (rd l1 a2) = 8
                  · rw [if_pos c18] at H
                    have c18b0 : ((rd l1 a2) == 8) = true := beq_iff_eq.mpr c18
                    have c18b1 : ((rd l1 a2) != 8) = false := bne_eq_false_iff_eq.mpr c18
                    clear c18
                    have H' := Aside0.mk H
                    clear H
                    go_wp2
                    go_meet
                    case rel => exact ⟨_, ((a2 == 0)), (by first | rfl | (simp; done) | (simp [*]; done)), H', ⟨by have := HJ6.out; have := HJ11.out; first | omega | exact Nat.le_refl _⟩, by repeat (first | exact Drawn0.refl _ | apply Drawn0.step)⟩
                  · rw [if_neg c18] at H
                    have c18b0 : ((rd l1 a2) == 8) = false := beq_eq_false_iff_ne.mpr c18
                    have c18b1 : ((rd l1 a2) != 8) = true := bne_iff_ne.mpr c18
                    have H' := Aside0.mk H
                    clear H
                    go_wp2
                    go_meet
                    case rel => exact ⟨_, (false), (by first | rfl | (simp; done) | (simp [*]; done)), H', ⟨by have := HJ6.out; have := HJ11.out; first | omega | exact Nat.le_refl _⟩, by repeat (first | exact Drawn0.refl _ | apply Drawn0.step)⟩
                · rw [if_neg c17] at H
                  have c17b0 : (a0 == 1) = false := beq_eq_false_iff_ne.mpr c17
                  have c17b1 : (a0 != 1) = true := bne_iff_ne.mpr c17
                  (first | rw [c17b0] | (simp only [i64_w, i32_w]; rw [c17b0]) | skip)
                  have H' := Aside0.mk H
                  clear H
                  go_wp2
                  go_meet
                  case rel => exact ⟨_, (false), (by first | rfl | (simp; done) | (simp [*]; done)), H', ⟨by have := HJ6.out; have := HJ11.out; first | omega | exact Nat.le_refl _⟩, by repeat (first | exact Drawn0.refl _ | apply Drawn0.step)⟩
              case rest => as_aux_lemma =>
                clear HC16
                try clear c1
                try clear p1
                try clear q1
                try clear hx1
                try clear p2
                try clear c5
                try clear c5b0
                try clear c6
                try clear c6b0
                try clear p6
                try clear c7
                try clear c8
                try clear c8b0
                try clear c10
                try clear c10b0
                try clear c11
                try clear c11b0
                try clear c13
                try clear c13b0
                try clear p13
                try clear q13
                try clear hx13
                try clear c15
                try clear c15b0
                try clear c17
                try clear c17b0
                try clear c17b1
                try clear c18
                try clear c18b0
                try clear c18b1
                try clear hx135_0
                try clear hx136_0
                try clear hx137_0
                try clear p1
                try clear p13
                try clear p135
                try clear p136
                try clear p137
                try clear p2
                try clear p6
                try clear q1
                try clear q13
                try clear q135
                try clear q136
                try clear q137
                obtain ⟨kq, x33_15, rfl, HA, HJ15, ⟨mc15, rfl⟩⟩ := hcut
                cases kq with
                | zero => exact absurd HA.out (by simp [parquetryref13_one.j2])
                | succ kj15 =>
                  have H := HA.out
                  clear HA
                  simp only [parquetryref13_one.j2] at H
                  by_cases c19 : x33_15 = true
                  · subst c19
                    have H1 : (some a3) = some r := by rw [if_pos rfl] at H; exact H
                    clear H
                    have H := H1
                    clear H1
                    obtain rfl := Option.some.inj H
                    go_wp2
                    go_ret
                    exact ⟨by first | rfl | (simp; done) | (simp [*]; done), by repeat (first | exact Drawn0.refl _ | apply Drawn0.step)⟩
                  · replace c19 := Bool.eq_false_iff.mpr c19
                    subst c19
                    have H1 : (if a0 = 1 then (parquetryref13_one.j3 kj15 a0 l1 a2 a3 (rd l1 a2) x10_6 x11_11 ((rd l1 a2) == 8)) else (parquetryref13_one.j3 kj15 a0 l1 a2 a3 (rd l1 a2) x10_6 x11_11 false)) = some r := by rw [if_neg (show ¬ (false = true) by decide)] at H; exact H
                    clear H
                    have H := H1
                    clear H1
                    have HC20 := Aside0.mk H
                    clear H
                    go_upto_region 9 with (fail)
                    go_cut [45] (fun v45 wc => ∃ (kq : Nat) (x45_19 : Bool), v45 = .bool x45_19 ∧ Aside0 (parquetryref13_one.j3 kq a0 l1 a2 a3 (rd l1 a2) x10_6 x11_11 x45_19 = some r) ∧ Aside0 (kq ≤ kj15) ∧ Drawn0 w wc)
                    case first => as_aux_lemma =>
                      have H := HC20.out
                      clear HC20
                      by_cases c21 : a0 = 1
                      · rw [if_pos c21] at H
                        have c21b0 : (a0 == 1) = true := beq_iff_eq.mpr c21
                        have c21b1 : (a0 != 1) = false := bne_eq_false_iff_eq.mpr c21
                        clear c21
                        (first | rw [c21b0] | (simp only [i64_w, i32_w]; rw [c21b0]) | skip)
                        have H' := Aside0.mk H
                        clear H
                        go_wp2
                        go_meet
                        case rel => exact ⟨_, (((rd l1 a2) == 8)), (by first | rfl | (simp; done) | (simp [*]; done)), H', ⟨by have := HJ6.out; have := HJ11.out; have := HJ15.out; first | omega | exact Nat.le_refl _⟩, by repeat (first | exact Drawn0.refl _ | apply Drawn0.step)⟩
                      · rw [if_neg c21] at H
                        have c21b0 : (a0 == 1) = false := beq_eq_false_iff_ne.mpr c21
                        have c21b1 : (a0 != 1) = true := bne_iff_ne.mpr c21
                        (first | rw [c21b0] | (simp only [i64_w, i32_w]; rw [c21b0]) | skip)
                        have H' := Aside0.mk H
                        clear H
                        go_wp2
                        go_meet
                        case rel => exact ⟨_, (false), (by first | rfl | (simp; done) | (simp [*]; done)), H', ⟨by have := HJ6.out; have := HJ11.out; have := HJ15.out; first | omega | exact Nat.le_refl _⟩, by repeat (first | exact Drawn0.refl _ | apply Drawn0.step)⟩
                    case rest => as_aux_lemma =>
                      clear HC20
                      try clear c1
                      try clear p1
                      try clear q1
                      try clear hx1
                      try clear c2
                      try clear p2
                      try clear c5
                      try clear c5b0
                      try clear c6
                      try clear c6b0
                      try clear p6
                      try clear c7
                      try clear c8
                      try clear c8b0
                      try clear c10
                      try clear c10b0
                      try clear c11
                      try clear c11b0
                      try clear c13
                      try clear c13b0
                      try clear p13
                      try clear q13
                      try clear hx13
                      try clear c15
                      try clear c15b0
                      try clear c17
                      try clear c17b0
                      try clear c17b1
                      try clear c18
                      try clear c18b0
                      try clear c18b1
                      try clear c19
                      try clear c21
                      try clear c21b0
                      try clear c21b1
                      try clear hx135_0
                      try clear hx136_0
                      try clear hx137_0
                      try clear p1
                      try clear p13
                      try clear p135
                      try clear p136
                      try clear p137
                      try clear p2
                      try clear p6
                      try clear q1
                      try clear q13
                      try clear q135
                      try clear q136
                      try clear q137
                      obtain ⟨kq, x45_19, rfl, HA, HJ19, ⟨mc19, rfl⟩⟩ := hcut
                      cases kq with
                      | zero => exact absurd HA.out (by simp [parquetryref13_one.j3])
                      | succ kj19 =>
                        have H := HA.out
                        clear HA
                        simp only [parquetryref13_one.j3] at H
                        by_cases c22 : x45_19 = true
                        · subst c22
                          have H1 : (if x10_6 = 19 then (some 13) else (if x10_6 = 20 then (some 13) else (if x10_6 = 21 then (some 13) else (if x10_6 = 22 then (some 13) else (some x10_6))))) = some r := by rw [if_pos rfl] at H; exact H
                          clear H
                          have H := H1
                          clear H1
                          by_cases c23 : x10_6 = 19
                          · rw [if_pos c23] at H
                            have c23b0 : (x10_6 == 19) = true := beq_iff_eq.mpr c23
                            have c23b1 : (x10_6 != 19) = false := bne_eq_false_iff_eq.mpr c23
                            clear c23
                            obtain rfl := Option.some.inj H
                            go_wp2
                            go_ret
                            exact ⟨by first | rfl | (simp; done) | (simp [*]; done), by repeat (first | exact Drawn0.refl _ | apply Drawn0.step)⟩
                          · rw [if_neg c23] at H
                            have c23b0 : (x10_6 == 19) = false := beq_eq_false_iff_ne.mpr c23
                            have c23b1 : (x10_6 != 19) = true := bne_iff_ne.mpr c23
                            by_cases c24 : x10_6 = 20
                            · rw [if_pos c24] at H
                              have c24b0 : (x10_6 == 20) = true := beq_iff_eq.mpr c24
                              have c24b1 : (x10_6 != 20) = false := bne_eq_false_iff_eq.mpr c24
                              clear c24
                              obtain rfl := Option.some.inj H
                              go_wp2
                              go_ret
                              exact ⟨by first | rfl | (simp; done) | (simp [*]; done), by repeat (first | exact Drawn0.refl _ | apply Drawn0.step)⟩
                            · rw [if_neg c24] at H
                              have c24b0 : (x10_6 == 20) = false := beq_eq_false_iff_ne.mpr c24
                              have c24b1 : (x10_6 != 20) = true := bne_iff_ne.mpr c24
                              by_cases c25 : x10_6 = 21
                              · rw [if_pos c25] at H
                                have c25b0 : (x10_6 == 21) = true := beq_iff_eq.mpr c25
                                have c25b1 : (x10_6 != 21) = false := bne_eq_false_iff_eq.mpr c25
                                clear c25
                                obtain rfl := Option.some.inj H
                                go_wp2
                                go_ret
                                exact ⟨by first | rfl | (simp; done) | (simp [*]; done), by repeat (first | exact Drawn0.refl _ | apply Drawn0.step)⟩
                              · rw [if_neg c25] at H
                                have c25b0 : (x10_6 == 21) = false := beq_eq_false_iff_ne.mpr c25
                                have c25b1 : (x10_6 != 21) = true := bne_iff_ne.mpr c25
                                by_cases c26 : x10_6 = 22
                                · rw [if_pos c26] at H
                                  have c26b0 : (x10_6 == 22) = true := beq_iff_eq.mpr c26
                                  have c26b1 : (x10_6 != 22) = false := bne_eq_false_iff_eq.mpr c26
                                  clear c26
                                  obtain rfl := Option.some.inj H
                                  go_wp2
                                  go_ret
                                  exact ⟨by first | rfl | (simp; done) | (simp [*]; done), by repeat (first | exact Drawn0.refl _ | apply Drawn0.step)⟩
                                · rw [if_neg c26] at H
                                  have c26b0 : (x10_6 == 22) = false := beq_eq_false_iff_ne.mpr c26
                                  have c26b1 : (x10_6 != 22) = true := bne_iff_ne.mpr c26
                                  obtain rfl := Option.some.inj H
                                  go_wp2
                                  go_ret
                                  exact ⟨by first | rfl | (simp; done) | (simp [*]; done), by repeat (first | exact Drawn0.refl _ | apply Drawn0.step)⟩
                        · replace c22 := Bool.eq_false_iff.mpr c22
                          subst c22
                          have H1 : (if a0 = 2 then (if (rd l1 a2) = 3 then ((parquetryref13_letter.f kj19 l1 a2 a3).bind fun t138 => (parquetryref13_one.j4 kj19 a0 l1 a2 a3 (rd l1 a2) x10_6 x11_11 (t138 == 2))) else (parquetryref13_one.j4 kj19 a0 l1 a2 a3 (rd l1 a2) x10_6 x11_11 false)) else (parquetryref13_one.j4 kj19 a0 l1 a2 a3 (rd l1 a2) x10_6 x11_11 false)) = some r := by rw [if_neg (show ¬ (false = true) by decide)] at H; exact H
                          clear H
                          have H := H1
                          clear H1
                          have HC27 := Aside0.mk H
                          clear H
                          go_upto_region 13 with (fail)
                          go_cut [67] (fun v67 wc => ∃ (kq : Nat) (x67_26 : Bool), v67 = .bool x67_26 ∧ Aside0 (parquetryref13_one.j4 kq a0 l1 a2 a3 (rd l1 a2) x10_6 x11_11 x67_26 = some r) ∧ Aside0 (kq ≤ kj19) ∧ Drawn0 w wc)
                          case first => as_aux_lemma =>
                            have H := HC27.out
                            clear HC27
                            by_cases c28 : a0 = 2
                            · rw [if_pos c28] at H
                              have c28b0 : (a0 == 2) = true := beq_iff_eq.mpr c28
                              have c28b1 : (a0 != 2) = false := bne_eq_false_iff_eq.mpr c28
                              clear c28
                              (first | rw [c28b0] | (simp only [i64_w, i32_w]; rw [c28b0]) | skip)
                              by_cases c29 : (rd l1 a2) = 3
                              · rw [if_pos c29] at H
                                have c29b0 : ((rd l1 a2) == 3) = true := beq_iff_eq.mpr c29
                                have c29b1 : ((rd l1 a2) != 3) = false := bne_eq_false_iff_eq.mpr c29
                                clear c29
                                replace H := Option.bind_eq_some_iff.mp H
                                obtain ⟨t138, A300, H⟩ := H
                                replace H : (parquetryref13_one.j4 kj19 a0 l1 a2 a3 (rd l1 a2) x10_6 x11_11 (t138 == 2)) = some r := H
                                have A30 := Aside0.mk A300
                                clear A300
                                have H' := Aside0.mk H
                                clear H
                                go_wp2_with (first | (go_at_call 82; (with_reducible refine (parquetryref13_letter.calls kj19 _ _ l1 a2 a3 t138 _ ?side1 ?side2 A30.out).mono ?_); (case side1 => repeat (first | exact HR1.out | (with_reducible refine Kd.C_alloc ?_ _) | (with_reducible refine Kd.C_drewN ?_ _) | (with_reducible refine Kd.C_drew ?_))); (case side2 => exact HC1.out); rintro e w' ⟨rfl, ⟨nd, rfl⟩⟩))
                                go_meet
                                case rel => exact ⟨_, ((t138 == 2)), (by first | rfl | (simp; done) | (simp [*]; done)), H', ⟨by have := HJ6.out; have := HJ11.out; have := HJ15.out; have := HJ19.out; first | omega | exact Nat.le_refl _⟩, by repeat (first | exact Drawn0.refl _ | apply Drawn0.step)⟩
                              · rw [if_neg c29] at H
                                have c29b0 : ((rd l1 a2) == 3) = false := beq_eq_false_iff_ne.mpr c29
                                have c29b1 : ((rd l1 a2) != 3) = true := bne_iff_ne.mpr c29
                                have H' := Aside0.mk H
                                clear H
                                go_wp2
                                go_meet
                                case rel => exact ⟨_, (false), (by first | rfl | (simp; done) | (simp [*]; done)), H', ⟨by have := HJ6.out; have := HJ11.out; have := HJ15.out; have := HJ19.out; first | omega | exact Nat.le_refl _⟩, by repeat (first | exact Drawn0.refl _ | apply Drawn0.step)⟩
                            · rw [if_neg c28] at H
                              have c28b0 : (a0 == 2) = false := beq_eq_false_iff_ne.mpr c28
                              have c28b1 : (a0 != 2) = true := bne_iff_ne.mpr c28
                              (first | rw [c28b0] | (simp only [i64_w, i32_w]; rw [c28b0]) | skip)
                              have H' := Aside0.mk H
                              clear H
                              go_wp2
                              go_meet
                              case rel => exact ⟨_, (false), (by first | rfl | (simp; done) | (simp [*]; done)), H', ⟨by have := HJ6.out; have := HJ11.out; have := HJ15.out; have := HJ19.out; first | omega | exact Nat.le_refl _⟩, by repeat (first | exact Drawn0.refl _ | apply Drawn0.step)⟩
                          case rest => as_aux_lemma =>
                            clear HC27
                            try clear c1
                            try clear p1
                            try clear q1
                            try clear hx1
                            try clear c2
                            try clear p2
                            try clear c5
                            try clear c5b0
                            try clear c6
                            try clear c6b0
                            try clear p6
                            try clear c7
                            try clear c8
                            try clear c8b0
                            try clear c10
                            try clear c10b0
                            try clear c11
                            try clear c11b0
                            try clear c13
                            try clear c13b0
                            try clear p13
                            try clear q13
                            try clear hx13
                            try clear c15
                            try clear c15b0
                            try clear c17
                            try clear c17b0
                            try clear c17b1
                            try clear c18
                            try clear c18b0
                            try clear c18b1
                            try clear c19
                            try clear c21
                            try clear c21b0
                            try clear c21b1
                            try clear c22
                            try clear c23
                            try clear c23b0
                            try clear c23b1
                            try clear c24
                            try clear c24b0
                            try clear c24b1
                            try clear c25
                            try clear c25b0
                            try clear c25b1
                            try clear c26
                            try clear c26b0
                            try clear c26b1
                            try clear c28
                            try clear c28b0
                            try clear c28b1
                            try clear c29
                            try clear c29b0
                            try clear c29b1
                            try clear hx135_0
                            try clear hx136_0
                            try clear hx137_0
                            try clear p1
                            try clear p13
                            try clear p135
                            try clear p136
                            try clear p137
                            try clear p2
                            try clear p6
                            try clear q1
                            try clear q13
                            try clear q135
                            try clear q136
                            try clear q137
                            obtain ⟨kq, x67_26, rfl, HA, HJ26, ⟨mc26, rfl⟩⟩ := hcut
                            cases kq with
                            | zero => exact absurd HA.out (by simp [parquetryref13_one.j4])
                            | succ kj26 =>
                              have H := HA.out
                              clear HA
                              simp only [parquetryref13_one.j4] at H
                              by_cases c31 : x67_26 = true
                              · subst c31
                                have H1 : (some 6) = some r := by rw [if_pos rfl] at H; exact H
                                clear H
                                have H := H1
                                clear H1
                                obtain rfl := Option.some.inj H
                                go_wp2
                                go_ret
                                exact ⟨by first | rfl | (simp; done) | (simp [*]; done), by repeat (first | exact Drawn0.refl _ | apply Drawn0.step)⟩
                              · replace c31 := Bool.eq_false_iff.mpr c31
                                subst c31
                                have H1 : (if a0 = 3 then (parquetryref13_one.j5 kj26 a0 l1 a2 a3 (rd l1 a2) x10_6 x11_11 ((rd l1 a2) == 2)) else (parquetryref13_one.j5 kj26 a0 l1 a2 a3 (rd l1 a2) x10_6 x11_11 false)) = some r := by rw [if_neg (show ¬ (false = true) by decide)] at H; exact H
                                clear H
                                have H := H1
                                clear H1
                                have HC32 := Aside0.mk H
                                clear H
                                go_upto_region 15 with (fail)
                                go_cut [81] (fun v81 wc => ∃ (kq : Nat) (x81_31 : Bool), v81 = .bool x81_31 ∧ Aside0 (parquetryref13_one.j5 kq a0 l1 a2 a3 (rd l1 a2) x10_6 x11_11 x81_31 = some r) ∧ Aside0 (kq ≤ kj26) ∧ Drawn0 w wc)
                                case first => as_aux_lemma =>
                                  have H := HC32.out
                                  clear HC32
                                  by_cases c33 : a0 = 3
                                  · rw [if_pos c33] at H
                                    have c33b0 : (a0 == 3) = true := beq_iff_eq.mpr c33
                                    have c33b1 : (a0 != 3) = false := bne_eq_false_iff_eq.mpr c33
                                    clear c33
                                    (first | rw [c33b0] | (simp only [i64_w, i32_w]; rw [c33b0]) | skip)
                                    have H' := Aside0.mk H
                                    clear H
                                    go_wp2
                                    go_meet
                                    case rel => exact ⟨_, (((rd l1 a2) == 2)), (by first | rfl | (simp; done) | (simp [*]; done)), H', ⟨by have := HJ6.out; have := HJ11.out; have := HJ15.out; have := HJ19.out; have := HJ26.out; first | omega | exact Nat.le_refl _⟩, by repeat (first | exact Drawn0.refl _ | apply Drawn0.step)⟩
                                  · rw [if_neg c33] at H
                                    have c33b0 : (a0 == 3) = false := beq_eq_false_iff_ne.mpr c33
                                    have c33b1 : (a0 != 3) = true := bne_iff_ne.mpr c33
                                    (first | rw [c33b0] | (simp only [i64_w, i32_w]; rw [c33b0]) | skip)
                                    have H' := Aside0.mk H
                                    clear H
                                    go_wp2
                                    go_meet
                                    case rel => exact ⟨_, (false), (by first | rfl | (simp; done) | (simp [*]; done)), H', ⟨by have := HJ6.out; have := HJ11.out; have := HJ15.out; have := HJ19.out; have := HJ26.out; first | omega | exact Nat.le_refl _⟩, by repeat (first | exact Drawn0.refl _ | apply Drawn0.step)⟩
                                case rest => as_aux_lemma =>
                                  clear HC32
                                  try clear c1
                                  try clear p1
                                  try clear q1
                                  try clear hx1
                                  try clear c2
                                  try clear p2
                                  try clear c3
                                  try clear c5
                                  try clear c5b0
                                  try clear c6
                                  try clear c6b0
                                  try clear p6
                                  try clear c7
                                  try clear c8
                                  try clear c8b0
                                  try clear c10
                                  try clear c10b0
                                  try clear c11
                                  try clear c11b0
                                  try clear c13
                                  try clear c13b0
                                  try clear p13
                                  try clear q13
                                  try clear hx13
                                  try clear c15
                                  try clear c15b0
                                  try clear c17
                                  try clear c17b0
                                  try clear c17b1
                                  try clear c18
                                  try clear c18b0
                                  try clear c18b1
                                  try clear c19
                                  try clear c21
                                  try clear c21b0
                                  try clear c21b1
                                  try clear c22
                                  try clear c23
                                  try clear c23b0
                                  try clear c23b1
                                  try clear c24
                                  try clear c24b0
                                  try clear c24b1
                                  try clear c25
                                  try clear c25b0
                                  try clear c25b1
                                  try clear c26
                                  try clear c26b0
                                  try clear c26b1
                                  try clear c28
                                  try clear c28b0
                                  try clear c28b1
                                  try clear c29
                                  try clear c29b0
                                  try clear c29b1
                                  try clear c31
                                  try clear c33
                                  try clear c33b0
                                  try clear c33b1
                                  try clear hx135_0
                                  try clear hx136_0
                                  try clear hx137_0
                                  try clear p1
                                  try clear p13
                                  try clear p135
                                  try clear p136
                                  try clear p137
                                  try clear p2
                                  try clear p6
                                  try clear q1
                                  try clear q13
                                  try clear q135
                                  try clear q136
                                  try clear q137
                                  obtain ⟨kq, x81_31, rfl, HA, HJ31, ⟨mc31, rfl⟩⟩ := hcut
                                  cases kq with
                                  | zero => exact absurd HA.out (by simp [parquetryref13_one.j5])
                                  | succ kj31 =>
                                    have H := HA.out
                                    clear HA
                                    simp only [parquetryref13_one.j5] at H
                                    by_cases c34 : x81_31 = true
                                    · subst c34
                                      have H1 : (some 1) = some r := by rw [if_pos rfl] at H; exact H
                                      clear H
                                      have H := H1
                                      clear H1
                                      obtain rfl := Option.some.inj H
                                      go_wp2
                                      go_ret
                                      exact ⟨by first | rfl | (simp; done) | (simp [*]; done), by repeat (first | exact Drawn0.refl _ | apply Drawn0.step)⟩
                                    · replace c34 := Bool.eq_false_iff.mpr c34
                                      subst c34
                                      have H1 : (if a0 = 4 then (if (rd l1 a2) = 4 then (if x10_6 = 3 then (parquetryref13_one.j6 kj31 a0 l1 a2 a3 (rd l1 a2) x10_6 x11_11 (x11_11 == 3)) else (parquetryref13_one.j6 kj31 a0 l1 a2 a3 (rd l1 a2) x10_6 x11_11 false)) else (parquetryref13_one.j6 kj31 a0 l1 a2 a3 (rd l1 a2) x10_6 x11_11 false)) else (parquetryref13_one.j6 kj31 a0 l1 a2 a3 (rd l1 a2) x10_6 x11_11 false)) = some r := by rw [if_neg (show ¬ (false = true) by decide)] at H; exact H
                                      clear H
                                      have H := H1
                                      clear H1
                                      have HC35 := Aside0.mk H
                                      clear H
                                      go_upto_region 17 with (fail)
                                      go_cut [88] (fun v88 wc => ∃ (kq : Nat) (x88_34 : Bool), v88 = .bool x88_34 ∧ Aside0 (parquetryref13_one.j6 kq a0 l1 a2 a3 (rd l1 a2) x10_6 x11_11 x88_34 = some r) ∧ Aside0 (kq ≤ kj31) ∧ Drawn0 w wc)
                                      case first => as_aux_lemma =>
                                        have H := HC35.out
                                        clear HC35
                                        by_cases c36 : a0 = 4
                                        · rw [if_pos c36] at H
                                          have c36b0 : (a0 == 4) = true := beq_iff_eq.mpr c36
                                          have c36b1 : (a0 != 4) = false := bne_eq_false_iff_eq.mpr c36
                                          clear c36
                                          (first | rw [c36b0] | (simp only [i64_w, i32_w]; rw [c36b0]) | skip)
                                          by_cases c37 : (rd l1 a2) = 4
                                          · rw [if_pos c37] at H
                                            have c37b0 : ((rd l1 a2) == 4) = true := beq_iff_eq.mpr c37
                                            have c37b1 : ((rd l1 a2) != 4) = false := bne_eq_false_iff_eq.mpr c37
                                            clear c37
                                            by_cases c38 : x10_6 = 3
                                            · rw [if_pos c38] at H
                                              have c38b0 : (x10_6 == 3) = true := beq_iff_eq.mpr c38
                                              have c38b1 : (x10_6 != 3) = false := bne_eq_false_iff_eq.mpr c38
                                              clear c38
                                              have H' := Aside0.mk H
                                              clear H
                                              go_wp2
                                              go_meet
                                              case rel => exact ⟨_, ((x11_11 == 3)), (by first | rfl | (simp; done) | (simp [*]; done)), H', ⟨by have := HJ6.out; have := HJ11.out; have := HJ15.out; have := HJ19.out; have := HJ26.out; have := HJ31.out; first | omega | exact Nat.le_refl _⟩, by repeat (first | exact Drawn0.refl _ | apply Drawn0.step)⟩
                                            · rw [if_neg c38] at H
                                              have c38b0 : (x10_6 == 3) = false := beq_eq_false_iff_ne.mpr c38
                                              have c38b1 : (x10_6 != 3) = true := bne_iff_ne.mpr c38
                                              have H' := Aside0.mk H
                                              clear H
                                              go_wp2
                                              go_meet
                                              case rel => exact ⟨_, (false), (by first | rfl | (simp; done) | (simp [*]; done)), H', ⟨by have := HJ6.out; have := HJ11.out; have := HJ15.out; have := HJ19.out; have := HJ26.out; have := HJ31.out; first | omega | exact Nat.le_refl _⟩, by repeat (first | exact Drawn0.refl _ | apply Drawn0.step)⟩
                                          · rw [if_neg c37] at H
                                            have c37b0 : ((rd l1 a2) == 4) = false := beq_eq_false_iff_ne.mpr c37
                                            have c37b1 : ((rd l1 a2) != 4) = true := bne_iff_ne.mpr c37
                                            have H' := Aside0.mk H
                                            clear H
                                            go_wp2
                                            go_meet
                                            case rel => exact ⟨_, (false), (by first | rfl | (simp; done) | (simp [*]; done)), H', ⟨by have := HJ6.out; have := HJ11.out; have := HJ15.out; have := HJ19.out; have := HJ26.out; have := HJ31.out; first | omega | exact Nat.le_refl _⟩, by repeat (first | exact Drawn0.refl _ | apply Drawn0.step)⟩
                                        · rw [if_neg c36] at H
                                          have c36b0 : (a0 == 4) = false := beq_eq_false_iff_ne.mpr c36
                                          have c36b1 : (a0 != 4) = true := bne_iff_ne.mpr c36
                                          (first | rw [c36b0] | (simp only [i64_w, i32_w]; rw [c36b0]) | skip)
                                          have H' := Aside0.mk H
                                          clear H
                                          go_wp2
                                          go_meet
                                          case rel => exact ⟨_, (false), (by first | rfl | (simp; done) | (simp [*]; done)), H', ⟨by have := HJ6.out; have := HJ11.out; have := HJ15.out; have := HJ19.out; have := HJ26.out; have := HJ31.out; first | omega | exact Nat.le_refl _⟩, by repeat (first | exact Drawn0.refl _ | apply Drawn0.step)⟩
                                      case rest => as_aux_lemma =>
                                        clear HC35
                                        try clear c1
                                        try clear p1
                                        try clear q1
                                        try clear hx1
                                        try clear c2
                                        try clear p2
                                        try clear c3
                                        try clear c5
                                        try clear c5b0
                                        try clear c6
                                        try clear c6b0
                                        try clear p6
                                        try clear c7
                                        try clear c8
                                        try clear c8b0
                                        try clear c10
                                        try clear c10b0
                                        try clear c11
                                        try clear c11b0
                                        try clear c13
                                        try clear c13b0
                                        try clear p13
                                        try clear q13
                                        try clear hx13
                                        try clear c15
                                        try clear c15b0
                                        try clear c17
                                        try clear c17b0
                                        try clear c17b1
                                        try clear c18
                                        try clear c18b0
                                        try clear c18b1
                                        try clear c19
                                        try clear c21
                                        try clear c21b0
                                        try clear c21b1
                                        try clear c22
                                        try clear c23
                                        try clear c23b0
                                        try clear c23b1
                                        try clear c24
                                        try clear c24b0
                                        try clear c24b1
                                        try clear c25
                                        try clear c25b0
                                        try clear c25b1
                                        try clear c26
                                        try clear c26b0
                                        try clear c26b1
                                        try clear c28
                                        try clear c28b0
                                        try clear c28b1
                                        try clear c29
                                        try clear c29b0
                                        try clear c29b1
                                        try clear c31
                                        try clear c33
                                        try clear c33b0
                                        try clear c33b1
                                        try clear c34
                                        try clear c36
                                        try clear c36b0
                                        try clear c36b1
                                        try clear c37
                                        try clear c37b0
                                        try clear c37b1
                                        try clear c38
                                        try clear c38b0
                                        try clear c38b1
                                        try clear hx135_0
                                        try clear hx136_0
                                        try clear hx137_0
                                        try clear p1
                                        try clear p13
                                        try clear p135
                                        try clear p136
                                        try clear p137
                                        try clear p2
                                        try clear p6
                                        try clear q1
                                        try clear q13
                                        try clear q135
                                        try clear q136
                                        try clear q137
                                        obtain ⟨kq, x88_34, rfl, HA, HJ34, ⟨mc34, rfl⟩⟩ := hcut
                                        cases kq with
                                        | zero => exact absurd HA.out (by simp [parquetryref13_one.j6])
                                        | succ kj34 =>
                                          have H := HA.out
                                          clear HA
                                          simp only [parquetryref13_one.j6] at H
                                          by_cases c39 : x88_34 = true
                                          · subst c39
                                            have H1 : (some 3) = some r := by rw [if_pos rfl] at H; exact H
                                            clear H
                                            have H := H1
                                            clear H1
                                            obtain rfl := Option.some.inj H
                                            go_wp2
                                            go_ret
                                            exact ⟨by first | rfl | (simp; done) | (simp [*]; done), by repeat (first | exact Drawn0.refl _ | apply Drawn0.step)⟩
                                          · replace c39 := Bool.eq_false_iff.mpr c39
                                            subst c39
                                            have H1 : (if a0 = 4 then (if (rd l1 a2) = 7 then (if x10_6 = x11_11 then (if x10_6 = 3 then (parquetryref13_one.j7 kj34 a0 l1 a2 a3 (rd l1 a2) x10_6 true) else (parquetryref13_one.j7 kj34 a0 l1 a2 a3 (rd l1 a2) x10_6 (x10_6 == 6))) else (parquetryref13_one.j7 kj34 a0 l1 a2 a3 (rd l1 a2) x10_6 false)) else (parquetryref13_one.j7 kj34 a0 l1 a2 a3 (rd l1 a2) x10_6 false)) else (parquetryref13_one.j7 kj34 a0 l1 a2 a3 (rd l1 a2) x10_6 false)) = some r := by rw [if_neg (show ¬ (false = true) by decide)] at H; exact H
                                            clear H
                                            have H := H1
                                            clear H1
                                            have HC40 := Aside0.mk H
                                            clear H
                                            go_upto_region 19 with (fail)
                                            go_cut [103] (fun v103 wc => ∃ (kq : Nat) (x103_39 : Bool), v103 = .bool x103_39 ∧ Aside0 (parquetryref13_one.j7 kq a0 l1 a2 a3 (rd l1 a2) x10_6 x103_39 = some r) ∧ Aside0 (kq ≤ kj34) ∧ Drawn0 w wc)
                                            case first => as_aux_lemma =>
                                              have H := HC40.out
                                              clear HC40
                                              by_cases c41 : a0 = 4
                                              · rw [if_pos c41] at H
                                                have c41b0 : (a0 == 4) = true := beq_iff_eq.mpr c41
                                                have c41b1 : (a0 != 4) = false := bne_eq_false_iff_eq.mpr c41
                                                clear c41
                                                (first | rw [c41b0] | (simp only [i64_w, i32_w]; rw [c41b0]) | skip)
                                                by_cases c42 : (rd l1 a2) = 7
                                                · rw [if_pos c42] at H
                                                  have c42b0 : ((rd l1 a2) == 7) = true := beq_iff_eq.mpr c42
                                                  have c42b1 : ((rd l1 a2) != 7) = false := bne_eq_false_iff_eq.mpr c42
                                                  clear c42
                                                  by_cases c43 : x10_6 = x11_11
                                                  · rw [if_pos c43] at H
                                                    have c43b0 : (x10_6 == x11_11) = true := beq_iff_eq.mpr c43
                                                    have c43b1 : (x10_6 != x11_11) = false := bne_eq_false_iff_eq.mpr c43
                                                    clear c43
                                                    by_cases c44 : x10_6 = 3
                                                    · rw [if_pos c44] at H
                                                      have c44b0 : (x10_6 == 3) = true := beq_iff_eq.mpr c44
                                                      have c44b1 : (x10_6 != 3) = false := bne_eq_false_iff_eq.mpr c44
                                                      clear c44
                                                      have H' := Aside0.mk H
                                                      clear H
                                                      go_wp2
                                                      go_meet
                                                      case rel => exact ⟨_, (true), (by first | rfl | (simp; done) | (simp [*]; done)), H', ⟨by have := HJ6.out; have := HJ11.out; have := HJ15.out; have := HJ19.out; have := HJ26.out; have := HJ31.out; have := HJ34.out; first | omega | exact Nat.le_refl _⟩, by repeat (first | exact Drawn0.refl _ | apply Drawn0.step)⟩
                                                    · rw [if_neg c44] at H
                                                      have c44b0 : (x10_6 == 3) = false := beq_eq_false_iff_ne.mpr c44
                                                      have c44b1 : (x10_6 != 3) = true := bne_iff_ne.mpr c44
                                                      have H' := Aside0.mk H
                                                      clear H
                                                      go_wp2
                                                      go_meet
                                                      case rel => exact ⟨_, ((x10_6 == 6)), (by first | rfl | (simp; done) | (simp [*]; done)), H', ⟨by have := HJ6.out; have := HJ11.out; have := HJ15.out; have := HJ19.out; have := HJ26.out; have := HJ31.out; have := HJ34.out; first | omega | exact Nat.le_refl _⟩, by repeat (first | exact Drawn0.refl _ | apply Drawn0.step)⟩
                                                  · rw [if_neg c43] at H
                                                    have c43b0 : (x10_6 == x11_11) = false := beq_eq_false_iff_ne.mpr c43
                                                    have c43b1 : (x10_6 != x11_11) = true := bne_iff_ne.mpr c43
                                                    have H' := Aside0.mk H
                                                    clear H
                                                    go_wp2
                                                    go_meet
                                                    case rel => exact ⟨_, (false), (by first | rfl | (simp; done) | (simp [*]; done)), H', ⟨by have := HJ6.out; have := HJ11.out; have := HJ15.out; have := HJ19.out; have := HJ26.out; have := HJ31.out; have := HJ34.out; first | omega | exact Nat.le_refl _⟩, by repeat (first | exact Drawn0.refl _ | apply Drawn0.step)⟩
                                                · rw [if_neg c42] at H
                                                  have c42b0 : ((rd l1 a2) == 7) = false := beq_eq_false_iff_ne.mpr c42
                                                  have c42b1 : ((rd l1 a2) != 7) = true := bne_iff_ne.mpr c42
                                                  have H' := Aside0.mk H
                                                  clear H
                                                  go_wp2
                                                  go_meet
                                                  case rel => exact ⟨_, (false), (by first | rfl | (simp; done) | (simp [*]; done)), H', ⟨by have := HJ6.out; have := HJ11.out; have := HJ15.out; have := HJ19.out; have := HJ26.out; have := HJ31.out; have := HJ34.out; first | omega | exact Nat.le_refl _⟩, by repeat (first | exact Drawn0.refl _ | apply Drawn0.step)⟩
                                              · rw [if_neg c41] at H
                                                have c41b0 : (a0 == 4) = false := beq_eq_false_iff_ne.mpr c41
                                                have c41b1 : (a0 != 4) = true := bne_iff_ne.mpr c41
                                                (first | rw [c41b0] | (simp only [i64_w, i32_w]; rw [c41b0]) | skip)
                                                have H' := Aside0.mk H
                                                clear H
                                                go_wp2
                                                go_meet
                                                case rel => exact ⟨_, (false), (by first | rfl | (simp; done) | (simp [*]; done)), H', ⟨by have := HJ6.out; have := HJ11.out; have := HJ15.out; have := HJ19.out; have := HJ26.out; have := HJ31.out; have := HJ34.out; first | omega | exact Nat.le_refl _⟩, by repeat (first | exact Drawn0.refl _ | apply Drawn0.step)⟩
                                            case rest => as_aux_lemma =>
                                              clear HC40
                                              try clear c1
                                              try clear p1
                                              try clear q1
                                              try clear hx1
                                              try clear c2
                                              try clear p2
                                              try clear c3
                                              try clear c4
                                              try clear c5
                                              try clear c5b0
                                              try clear c6
                                              try clear c6b0
                                              try clear p6
                                              try clear c7
                                              try clear c8
                                              try clear c8b0
                                              try clear c10
                                              try clear c10b0
                                              try clear c11
                                              try clear c11b0
                                              try clear c13
                                              try clear c13b0
                                              try clear p13
                                              try clear q13
                                              try clear hx13
                                              try clear c15
                                              try clear c15b0
                                              try clear c17
                                              try clear c17b0
                                              try clear c17b1
                                              try clear c18
                                              try clear c18b0
                                              try clear c18b1
                                              try clear c19
                                              try clear c21
                                              try clear c21b0
                                              try clear c21b1
                                              try clear c22
                                              try clear c23
                                              try clear c23b0
                                              try clear c23b1
                                              try clear c24
                                              try clear c24b0
                                              try clear c24b1
                                              try clear c25
                                              try clear c25b0
                                              try clear c25b1
                                              try clear c26
                                              try clear c26b0
                                              try clear c26b1
                                              try clear c28
                                              try clear c28b0
                                              try clear c28b1
                                              try clear c29
                                              try clear c29b0
                                              try clear c29b1
                                              try clear c31
                                              try clear c33
                                              try clear c33b0
                                              try clear c33b1
                                              try clear c34
                                              try clear c36
                                              try clear c36b0
                                              try clear c36b1
                                              try clear c37
                                              try clear c37b0
                                              try clear c37b1
                                              try clear c38
                                              try clear c38b0
                                              try clear c38b1
                                              try clear c39
                                              try clear c41
                                              try clear c41b0
                                              try clear c41b1
                                              try clear c42
                                              try clear c42b0
                                              try clear c42b1
                                              try clear c43
                                              try clear c43b0
                                              try clear c43b1
                                              try clear c44
                                              try clear c44b0
                                              try clear c44b1
                                              try clear hx135_0
                                              try clear hx136_0
                                              try clear hx137_0
                                              try clear p1
                                              try clear p13
                                              try clear p135
                                              try clear p136
                                              try clear p137
                                              try clear p2
                                              try clear p6
                                              try clear q1
                                              try clear q13
                                              try clear q135
                                              try clear q136
                                              try clear q137
                                              obtain ⟨kq, x103_39, rfl, HA, HJ39, ⟨mc39, rfl⟩⟩ := hcut
                                              cases kq with
                                              | zero => exact absurd HA.out (by simp [parquetryref13_one.j7])
                                              | succ kj39 =>
                                                have H := HA.out
                                                clear HA
                                                simp only [parquetryref13_one.j7] at H
                                                by_cases c45 : x103_39 = true
                                                · subst c45
                                                  have H1 : (some x10_6) = some r := by rw [if_pos rfl] at H; exact H
                                                  clear H
                                                  have H := H1
                                                  clear H1
                                                  obtain rfl := Option.some.inj H
                                                  go_wp2
                                                  go_ret
                                                  exact ⟨by first | rfl | (simp; done) | (simp [*]; done), by repeat (first | exact Drawn0.refl _ | apply Drawn0.step)⟩
                                                · replace c45 := Bool.eq_false_iff.mpr c45
                                                  subst c45
                                                  have H1 : (if a0 = 5 then (if (rd l1 a2) = 5 then ((parquetryref13_number.f kj39 l1 a2).bind fun t139 => (parquetryref13_one.j8 kj39 a0 l1 a2 a3 (rd l1 a2) t139)) else (parquetryref13_one.j8 kj39 a0 l1 a2 a3 (rd l1 a2) false)) else (parquetryref13_one.j8 kj39 a0 l1 a2 a3 (rd l1 a2) false)) = some r := by rw [if_neg (show ¬ (false = true) by decide)] at H; exact H
                                                  clear H
                                                  have H := H1
                                                  clear H1
                                                  have HC46 := Aside0.mk H
                                                  clear H
                                                  go_upto_region 21 with (fail)
                                                  go_cut [124] (fun v124 wc => ∃ (kq : Nat) (x124_45 : Bool), v124 = .bool x124_45 ∧ Aside0 (parquetryref13_one.j8 kq a0 l1 a2 a3 (rd l1 a2) x124_45 = some r) ∧ Aside0 (kq ≤ kj39) ∧ Drawn0 w wc)
                                                  case first => as_aux_lemma =>
                                                    have H := HC46.out
                                                    clear HC46
                                                    by_cases c47 : a0 = 5
                                                    · rw [if_pos c47] at H
                                                      have c47b0 : (a0 == 5) = true := beq_iff_eq.mpr c47
                                                      have c47b1 : (a0 != 5) = false := bne_eq_false_iff_eq.mpr c47
                                                      clear c47
                                                      (first | rw [c47b0] | (simp only [i64_w, i32_w]; rw [c47b0]) | skip)
                                                      by_cases c48 : (rd l1 a2) = 5
                                                      · rw [if_pos c48] at H
                                                        have c48b0 : ((rd l1 a2) == 5) = true := beq_iff_eq.mpr c48
                                                        have c48b1 : ((rd l1 a2) != 5) = false := bne_eq_false_iff_eq.mpr c48
                                                        clear c48
                                                        replace H := Option.bind_eq_some_iff.mp H
                                                        obtain ⟨t139, A490, H⟩ := H
                                                        replace H : (parquetryref13_one.j8 kj39 a0 l1 a2 a3 (rd l1 a2) t139) = some r := H
                                                        have A49 := Aside0.mk A490
                                                        clear A490
                                                        have H' := Aside0.mk H
                                                        clear H
                                                        go_wp2_with (first | (go_at_call 83; (with_reducible refine (parquetryref13_number.calls kj39 _ _ l1 a2 t139 _ ?side1 ?side2 A49.out).mono ?_); (case side1 => repeat (first | exact HR1.out | (with_reducible refine Kd.C_alloc ?_ _) | (with_reducible refine Kd.C_drewN ?_ _) | (with_reducible refine Kd.C_drew ?_))); (case side2 => exact HC1.out); rintro e w' ⟨rfl, ⟨nd, rfl⟩⟩))
                                                        go_meet
                                                        case rel => exact ⟨_, (t139), (by first | rfl | (simp; done) | (simp [*]; done)), H', ⟨by have := HJ6.out; have := HJ11.out; have := HJ15.out; have := HJ19.out; have := HJ26.out; have := HJ31.out; have := HJ34.out; have := HJ39.out; first | omega | exact Nat.le_refl _⟩, by repeat (first | exact Drawn0.refl _ | apply Drawn0.step)⟩
                                                      · rw [if_neg c48] at H
                                                        have c48b0 : ((rd l1 a2) == 5) = false := beq_eq_false_iff_ne.mpr c48
                                                        have c48b1 : ((rd l1 a2) != 5) = true := bne_iff_ne.mpr c48
                                                        have H' := Aside0.mk H
                                                        clear H
                                                        go_wp2
                                                        go_meet
                                                        case rel => exact ⟨_, (false), (by first | rfl | (simp; done) | (simp [*]; done)), H', ⟨by have := HJ6.out; have := HJ11.out; have := HJ15.out; have := HJ19.out; have := HJ26.out; have := HJ31.out; have := HJ34.out; have := HJ39.out; first | omega | exact Nat.le_refl _⟩, by repeat (first | exact Drawn0.refl _ | apply Drawn0.step)⟩
                                                    · rw [if_neg c47] at H
                                                      have c47b0 : (a0 == 5) = false := beq_eq_false_iff_ne.mpr c47
                                                      have c47b1 : (a0 != 5) = true := bne_iff_ne.mpr c47
                                                      (first | rw [c47b0] | (simp only [i64_w, i32_w]; rw [c47b0]) | skip)
                                                      have H' := Aside0.mk H
                                                      clear H
                                                      go_wp2
                                                      go_meet
                                                      case rel => exact ⟨_, (false), (by first | rfl | (simp; done) | (simp [*]; done)), H', ⟨by have := HJ6.out; have := HJ11.out; have := HJ15.out; have := HJ19.out; have := HJ26.out; have := HJ31.out; have := HJ34.out; have := HJ39.out; first | omega | exact Nat.le_refl _⟩, by repeat (first | exact Drawn0.refl _ | apply Drawn0.step)⟩
                                                  case rest => as_aux_lemma =>
                                                    clear HC46
                                                    try clear c1
                                                    try clear p1
                                                    try clear q1
                                                    try clear hx1
                                                    try clear c2
                                                    try clear p2
                                                    try clear c3
                                                    try clear c4
                                                    try clear c5
                                                    try clear c5b0
                                                    try clear c6
                                                    try clear c6b0
                                                    try clear p6
                                                    try clear c7
                                                    try clear c8
                                                    try clear c8b0
                                                    try clear c10
                                                    try clear c10b0
                                                    try clear c11
                                                    try clear c11b0
                                                    try clear c13
                                                    try clear c13b0
                                                    try clear p13
                                                    try clear q13
                                                    try clear hx13
                                                    try clear c15
                                                    try clear c15b0
                                                    try clear c17
                                                    try clear c17b0
                                                    try clear c17b1
                                                    try clear c18
                                                    try clear c18b0
                                                    try clear c18b1
                                                    try clear c19
                                                    try clear c21
                                                    try clear c21b0
                                                    try clear c21b1
                                                    try clear c22
                                                    try clear c23
                                                    try clear c23b0
                                                    try clear c23b1
                                                    try clear c24
                                                    try clear c24b0
                                                    try clear c24b1
                                                    try clear c25
                                                    try clear c25b0
                                                    try clear c25b1
                                                    try clear c26
                                                    try clear c26b0
                                                    try clear c26b1
                                                    try clear c28
                                                    try clear c28b0
                                                    try clear c28b1
                                                    try clear c29
                                                    try clear c29b0
                                                    try clear c29b1
                                                    try clear c31
                                                    try clear c33
                                                    try clear c33b0
                                                    try clear c33b1
                                                    try clear c34
                                                    try clear c36
                                                    try clear c36b0
                                                    try clear c36b1
                                                    try clear c37
                                                    try clear c37b0
                                                    try clear c37b1
                                                    try clear c38
                                                    try clear c38b0
                                                    try clear c38b1
                                                    try clear c39
                                                    try clear c41
                                                    try clear c41b0
                                                    try clear c41b1
                                                    try clear c42
                                                    try clear c42b0
                                                    try clear c42b1
                                                    try clear c43
                                                    try clear c43b0
                                                    try clear c43b1
                                                    try clear c44
                                                    try clear c44b0
                                                    try clear c44b1
                                                    try clear c45
                                                    try clear c47
                                                    try clear c47b0
                                                    try clear c47b1
                                                    try clear c48
                                                    try clear c48b0
                                                    try clear c48b1
                                                    try clear hx135_0
                                                    try clear hx136_0
                                                    try clear hx137_0
                                                    try clear p1
                                                    try clear p13
                                                    try clear p135
                                                    try clear p136
                                                    try clear p137
                                                    try clear p2
                                                    try clear p6
                                                    try clear q1
                                                    try clear q13
                                                    try clear q135
                                                    try clear q136
                                                    try clear q137
                                                    obtain ⟨kq, x124_45, rfl, HA, HJ45, ⟨mc45, rfl⟩⟩ := hcut
                                                    cases kq with
                                                    | zero => exact absurd HA.out (by simp [parquetryref13_one.j8])
                                                    | succ kj45 =>
                                                      have H := HA.out
                                                      clear HA
                                                      simp only [parquetryref13_one.j8] at H
                                                      by_cases c50 : x124_45 = true
                                                      · subst c50
                                                        have H1 : (some 3) = some r := by rw [if_pos rfl] at H; exact H
                                                        clear H
                                                        have H := H1
                                                        clear H1
                                                        obtain rfl := Option.some.inj H
                                                        go_wp2
                                                        go_ret
                                                        exact ⟨by first | rfl | (simp; done) | (simp [*]; done), by repeat (first | exact Drawn0.refl _ | apply Drawn0.step)⟩
                                                      · replace c50 := Bool.eq_false_iff.mpr c50
                                                        subst c50
                                                        have H1 : (if a0 = 6 then (if (rd l1 a2) = 4 then (parquetryref13_one.j9 kj45 a0 l1 a2 a3 (rd l1 a2) true) else (if (rd l1 a2) = 5 then (parquetryref13_one.j9 kj45 a0 l1 a2 a3 (rd l1 a2) true) else (parquetryref13_one.j9 kj45 a0 l1 a2 a3 (rd l1 a2) ((rd l1 a2) == 7)))) else (parquetryref13_one.j9 kj45 a0 l1 a2 a3 (rd l1 a2) false)) = some r := by rw [if_neg (show ¬ (false = true) by decide)] at H; exact H
                                                        clear H
                                                        have H := H1
                                                        clear H1
                                                        have HC51 := Aside0.mk H
                                                        clear H
                                                        go_upto_region 23 with (fail)
                                                        go_cut [136] (fun v136 wc => ∃ (kq : Nat) (x136_50 : Bool), v136 = .bool x136_50 ∧ Aside0 (parquetryref13_one.j9 kq a0 l1 a2 a3 (rd l1 a2) x136_50 = some r) ∧ Aside0 (kq ≤ kj45) ∧ Drawn0 w wc)
                                                        case first => as_aux_lemma =>
                                                          have H := HC51.out
                                                          clear HC51
                                                          by_cases c52 : a0 = 6
                                                          · rw [if_pos c52] at H
                                                            have c52b0 : (a0 == 6) = true := beq_iff_eq.mpr c52
                                                            have c52b1 : (a0 != 6) = false := bne_eq_false_iff_eq.mpr c52
                                                            clear c52
                                                            (first | rw [c52b0] | (simp only [i64_w, i32_w]; rw [c52b0]) | skip)
                                                            by_cases c53 : (rd l1 a2) = 4
                                                            · rw [if_pos c53] at H
                                                              have c53b0 : ((rd l1 a2) == 4) = true := beq_iff_eq.mpr c53
                                                              have c53b1 : ((rd l1 a2) != 4) = false := bne_eq_false_iff_eq.mpr c53
                                                              clear c53
                                                              have H' := Aside0.mk H
                                                              clear H
                                                              go_wp2
                                                              go_meet
                                                              case rel => exact ⟨_, (true), (by first | rfl | (simp; done) | (simp [*]; done)), H', ⟨by have := HJ6.out; have := HJ11.out; have := HJ15.out; have := HJ19.out; have := HJ26.out; have := HJ31.out; have := HJ34.out; have := HJ39.out; have := HJ45.out; first | omega | exact Nat.le_refl _⟩, by repeat (first | exact Drawn0.refl _ | apply Drawn0.step)⟩
                                                            · rw [if_neg c53] at H
                                                              have c53b0 : ((rd l1 a2) == 4) = false := beq_eq_false_iff_ne.mpr c53
                                                              have c53b1 : ((rd l1 a2) != 4) = true := bne_iff_ne.mpr c53
                                                              by_cases c54 : (rd l1 a2) = 5
                                                              · rw [if_pos c54] at H
                                                                have c54b0 : ((rd l1 a2) == 5) = true := beq_iff_eq.mpr c54
                                                                have c54b1 : ((rd l1 a2) != 5) = false := bne_eq_false_iff_eq.mpr c54
                                                                clear c54
                                                                have H' := Aside0.mk H
                                                                clear H
                                                                go_wp2
                                                                go_meet
                                                                case rel => exact ⟨_, (true), (by first | rfl | (simp; done) | (simp [*]; done)), H', ⟨by have := HJ6.out; have := HJ11.out; have := HJ15.out; have := HJ19.out; have := HJ26.out; have := HJ31.out; have := HJ34.out; have := HJ39.out; have := HJ45.out; first | omega | exact Nat.le_refl _⟩, by repeat (first | exact Drawn0.refl _ | apply Drawn0.step)⟩
                                                              · rw [if_neg c54] at H
                                                                have c54b0 : ((rd l1 a2) == 5) = false := beq_eq_false_iff_ne.mpr c54
                                                                have c54b1 : ((rd l1 a2) != 5) = true := bne_iff_ne.mpr c54
                                                                have H' := Aside0.mk H
                                                                clear H
                                                                go_wp2
                                                                go_meet
                                                                case rel => exact ⟨_, (((rd l1 a2) == 7)), (by first | rfl | (simp; done) | (simp [*]; done)), H', ⟨by have := HJ6.out; have := HJ11.out; have := HJ15.out; have := HJ19.out; have := HJ26.out; have := HJ31.out; have := HJ34.out; have := HJ39.out; have := HJ45.out; first | omega | exact Nat.le_refl _⟩, by repeat (first | exact Drawn0.refl _ | apply Drawn0.step)⟩
                                                          · rw [if_neg c52] at H
                                                            have c52b0 : (a0 == 6) = false := beq_eq_false_iff_ne.mpr c52
                                                            have c52b1 : (a0 != 6) = true := bne_iff_ne.mpr c52
                                                            (first | rw [c52b0] | (simp only [i64_w, i32_w]; rw [c52b0]) | skip)
                                                            have H' := Aside0.mk H
                                                            clear H
                                                            go_wp2
                                                            go_meet
                                                            case rel => exact ⟨_, (false), (by first | rfl | (simp; done) | (simp [*]; done)), H', ⟨by have := HJ6.out; have := HJ11.out; have := HJ15.out; have := HJ19.out; have := HJ26.out; have := HJ31.out; have := HJ34.out; have := HJ39.out; have := HJ45.out; first | omega | exact Nat.le_refl _⟩, by repeat (first | exact Drawn0.refl _ | apply Drawn0.step)⟩
                                                        case rest => as_aux_lemma =>
                                                          clear HC51
                                                          try clear c1
                                                          try clear p1
                                                          try clear q1
                                                          try clear hx1
                                                          try clear c2
                                                          try clear p2
                                                          try clear c3
                                                          try clear c4
                                                          try clear c5
                                                          try clear c5b0
                                                          try clear c6
                                                          try clear c6b0
                                                          try clear p6
                                                          try clear c7
                                                          try clear c8
                                                          try clear c8b0
                                                          try clear c10
                                                          try clear c10b0
                                                          try clear c11
                                                          try clear c11b0
                                                          try clear c13
                                                          try clear c13b0
                                                          try clear p13
                                                          try clear q13
                                                          try clear hx13
                                                          try clear c15
                                                          try clear c15b0
                                                          try clear c17
                                                          try clear c17b0
                                                          try clear c17b1
                                                          try clear c18
                                                          try clear c18b0
                                                          try clear c18b1
                                                          try clear c19
                                                          try clear c21
                                                          try clear c21b0
                                                          try clear c21b1
                                                          try clear c22
                                                          try clear c23
                                                          try clear c23b0
                                                          try clear c23b1
                                                          try clear c24
                                                          try clear c24b0
                                                          try clear c24b1
                                                          try clear c25
                                                          try clear c25b0
                                                          try clear c25b1
                                                          try clear c26
                                                          try clear c26b0
                                                          try clear c26b1
                                                          try clear c28
                                                          try clear c28b0
                                                          try clear c28b1
                                                          try clear c29
                                                          try clear c29b0
                                                          try clear c29b1
                                                          try clear c31
                                                          try clear c33
                                                          try clear c33b0
                                                          try clear c33b1
                                                          try clear c34
                                                          try clear c36
                                                          try clear c36b0
                                                          try clear c36b1
                                                          try clear c37
                                                          try clear c37b0
                                                          try clear c37b1
                                                          try clear c38
                                                          try clear c38b0
                                                          try clear c38b1
                                                          try clear c39
                                                          try clear c41
                                                          try clear c41b0
                                                          try clear c41b1
                                                          try clear c42
                                                          try clear c42b0
                                                          try clear c42b1
                                                          try clear c43
                                                          try clear c43b0
                                                          try clear c43b1
                                                          try clear c44
                                                          try clear c44b0
                                                          try clear c44b1
                                                          try clear c45
                                                          try clear c47
                                                          try clear c47b0
                                                          try clear c47b1
                                                          try clear c48
                                                          try clear c48b0
                                                          try clear c48b1
                                                          try clear c50
                                                          try clear c52
                                                          try clear c52b0
                                                          try clear c52b1
                                                          try clear c53
                                                          try clear c53b0
                                                          try clear c53b1
                                                          try clear c54
                                                          try clear c54b0
                                                          try clear c54b1
                                                          try clear hx135_0
                                                          try clear hx136_0
                                                          try clear hx137_0
                                                          try clear p1
                                                          try clear p13
                                                          try clear p135
                                                          try clear p136
                                                          try clear p137
                                                          try clear p2
                                                          try clear p6
                                                          try clear q1
                                                          try clear q13
                                                          try clear q135
                                                          try clear q136
                                                          try clear q137
                                                          obtain ⟨kq, x136_50, rfl, HA, HJ50, ⟨mc50, rfl⟩⟩ := hcut
                                                          cases kq with
                                                          | zero => exact absurd HA.out (by simp [parquetryref13_one.j9])
                                                          | succ kj50 =>
                                                            have H := HA.out
                                                            clear HA
                                                            simp only [parquetryref13_one.j9] at H
                                                            by_cases c55 : x136_50 = true
                                                            · subst c55
                                                              have H1 : (some 13) = some r := by rw [if_pos rfl] at H; exact H
                                                              clear H
                                                              have H := H1
                                                              clear H1
                                                              obtain rfl := Option.some.inj H
                                                              go_wp2
                                                              go_ret
                                                              exact ⟨by first | rfl | (simp; done) | (simp [*]; done), by repeat (first | exact Drawn0.refl _ | apply Drawn0.step)⟩
                                                            · replace c55 := Bool.eq_false_iff.mpr c55
                                                              subst c55
                                                              have H1 : (if a0 = 7 then (if (rd l1 a2) = 3 then ((parquetryref13_letter.f kj50 l1 a2 a3).bind fun t140 => (if t140 = 0 then (some 0) else (some (rd l1 a2)))) else (some (rd l1 a2))) else (some (rd l1 a2))) = some r := by rw [if_neg (show ¬ (false = true) by decide)] at H; exact H
                                                              clear H
                                                              have H := H1
                                                              clear H1
                                                              by_cases c56 : a0 = 7
                                                              · rw [if_pos c56] at H
                                                                have c56b0 : (a0 == 7) = true := beq_iff_eq.mpr c56
                                                                have c56b1 : (a0 != 7) = false := bne_eq_false_iff_eq.mpr c56
                                                                clear c56
                                                                by_cases c57 : (rd l1 a2) = 3
                                                                · rw [if_pos c57] at H
                                                                  have c57b0 : ((rd l1 a2) == 3) = true := beq_iff_eq.mpr c57
                                                                  have c57b1 : ((rd l1 a2) != 3) = false := bne_eq_false_iff_eq.mpr c57
                                                                  clear c57
                                                                  replace H := Option.bind_eq_some_iff.mp H
                                                                  obtain ⟨t140, A580, H⟩ := H
                                                                  replace H : (if t140 = 0 then (some 0) else (some (rd l1 a2))) = some r := H
                                                                  have A58 := Aside0.mk A580
                                                                  clear A580
                                                                  by_cases c59 : t140 = 0
                                                                  · rw [if_pos c59] at H
                                                                    have c59b0 : (t140 == 0) = true := beq_iff_eq.mpr c59
                                                                    have c59b1 : (t140 != 0) = false := bne_eq_false_iff_eq.mpr c59
                                                                    clear c59
                                                                    obtain rfl := Option.some.inj H
                                                                    go_wp2_with (first | (go_at_call 82; (with_reducible refine (parquetryref13_letter.calls kj50 _ _ l1 a2 a3 t140 _ ?side1 ?side2 A58.out).mono ?_); (case side1 => repeat (first | exact HR1.out | (with_reducible refine Kd.C_alloc ?_ _) | (with_reducible refine Kd.C_drewN ?_ _) | (with_reducible refine Kd.C_drew ?_))); (case side2 => exact HC1.out); rintro e w' ⟨rfl, ⟨nd, rfl⟩⟩))
                                                                    go_ret
                                                                    exact ⟨by first | rfl | (simp; done) | (simp [*]; done), by repeat (first | exact Drawn0.refl _ | apply Drawn0.step)⟩
                                                                  · rw [if_neg c59] at H
                                                                    have c59b0 : (t140 == 0) = false := beq_eq_false_iff_ne.mpr c59
                                                                    have c59b1 : (t140 != 0) = true := bne_iff_ne.mpr c59
                                                                    obtain rfl := Option.some.inj H
                                                                    go_wp2_with (first | (go_at_call 82; (with_reducible refine (parquetryref13_letter.calls kj50 _ _ l1 a2 a3 t140 _ ?side1 ?side2 A58.out).mono ?_); (case side1 => repeat (first | exact HR1.out | (with_reducible refine Kd.C_alloc ?_ _) | (with_reducible refine Kd.C_drewN ?_ _) | (with_reducible refine Kd.C_drew ?_))); (case side2 => exact HC1.out); rintro e w' ⟨rfl, ⟨nd, rfl⟩⟩))
                                                                    go_ret
                                                                    exact ⟨by first | rfl | (simp; done) | (simp [*]; done), by repeat (first | exact Drawn0.refl _ | apply Drawn0.step)⟩
                                                                · rw [if_neg c57] at H
                                                                  have c57b0 : ((rd l1 a2) == 3) = false := beq_eq_false_iff_ne.mpr c57
                                                                  have c57b1 : ((rd l1 a2) != 3) = true := bne_iff_ne.mpr c57
                                                                  obtain rfl := Option.some.inj H
                                                                  go_wp2
                                                                  go_ret
                                                                  exact ⟨by first | rfl | (simp; done) | (simp [*]; done), by repeat (first | exact Drawn0.refl _ | apply Drawn0.step)⟩
                                                              · rw [if_neg c56] at H
                                                                have c56b0 : (a0 == 7) = false := beq_eq_false_iff_ne.mpr c56
                                                                have c56b1 : (a0 != 7) = true := bne_iff_ne.mpr c56
                                                                obtain rfl := Option.some.inj H
                                                                go_wp2
                                                                go_ret
                                                                exact ⟨by first | rfl | (simp; done) | (simp [*]; done), by repeat (first | exact Drawn0.refl _ | apply Drawn0.step)⟩
    · rw [if_neg c6] at H
      exact absurd H (by simp)
  · rw [if_neg c5] at H
    exact absurd H (by simp)

end Go.Proofs.YtfpibigfhhoiiaaDoor.PW
