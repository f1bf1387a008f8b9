-- Written by a program of this session (wip/myprint.py, over the kit's print). Not trusted: Lean checks it.
import Derived.Test.YtdpifkhkemeclaaGreatPZx0
import Derived.Test.YtdpifkhkemeclaaGreatZo
import Derived.Test.YtdpifkhkemeclaaGreatPZk
namespace Go.Proofs.YtdpifkhkemeclaaGreat.PZ
open Go.RowKit Go.Proofs.YtdpifkhkemeclaaGreatW.PrintWords Go.Proofs.YtdpifkhkemeclaaGreatW.PrintLast Go.Proofs.YtdpifkhkemeclaaGreatW.PrintMore
attribute [local go_sem] max2_int min2_int max_two min_two max_three min_three max_four min_four   -- for this text's walks alone
set_option linter.unusedVariables false
set_option linter.unusedSimpArgs false

/-! ### parquetryref03_inRows: function 90 -/
mutual
def parquetryref03_inRows.l0 : Nat → List Int → Int → Int → Option (Int × Int)
 | 0, _, _, _ => none
 | k + 1, x0, x1, x6 => if x6 < (x0.length : Int) then (if 0 ≤ x6 then (parquetryref03_inRows.l1 k x0 x1 x6 (rd x0 x6)) else (none)) else (some (0, 0))
def parquetryref03_inRows.l1 : Nat → List Int → Int → Int → Int → Option (Int × Int)
 | 0, _, _, _, _ => none
 | k + 1, x0, x1, x6, x7 => if 0 ≤ (wrap64 (x6 + 1)) then (if (wrap64 (x6 + 1)) < (x0.length : Int) then (if x7 < (rd x0 (wrap64 (x6 + 1))) then (if x1 = x7 then (some (1, wrap64 (x7 + 1))) else (if x1 = (wrap64 (x7 + 1)) then (some (2, x7)) else (parquetryref03_inRows.l1 k x0 x1 x6 (wrap64 (x7 + 2))))) else (parquetryref03_inRows.l0 k x0 x1 (wrap64 (x6 + 2)))) else (none)) else (none)
end
def parquetryref03_inRows.f (k : Nat) (l0 : List Int) (a1 : Int) : Option (Int × Int) := parquetryref03_inRows.l0 k l0 a1 0
theorem parquetryref03_inRows.mono_l : ∀ k, (∀ y0 y1 y2, LeO (parquetryref03_inRows.l0 k y0 y1 y2) (parquetryref03_inRows.l0 (k + 1) y0 y1 y2)) ∧ (∀ y0 y1 y2 y3, LeO (parquetryref03_inRows.l1 k y0 y1 y2 y3) (parquetryref03_inRows.l1 (k + 1) y0 y1 y2 y3))
 | 0 => ⟨fun _ _ _ r h => by simp [parquetryref03_inRows.l0] at h, fun _ _ _ _ r h => by simp [parquetryref03_inRows.l1] at h⟩
 | k + 1 => by
  obtain ⟨ih0, ih1⟩ := parquetryref03_inRows.mono_l k
  refine ⟨?_, ?_⟩
  ·intro y0 y1 y2
   unfold parquetryref03_inRows.l0
   repeat' first
   | (with_reducible exact ih0 _ _ _)
   | (with_reducible exact ih1 _ _ _ _)
   | (with_reducible exact LeO.refl _)
   | (with_reducible exact LeO.none _)
   | (with_reducible refine LeO.ite ?_ ?_)
   | (with_reducible refine LeO.bind ?_ (fun _ => ?_))
   | exact ih0 _ _ _
   | exact ih1 _ _ _ _
   | exact LeO.none _
   | refine LeO.ite ?_ ?_
   | refine LeO.bind ?_ (fun _ => ?_)
  ·intro y0 y1 y2 y3
   unfold parquetryref03_inRows.l1
   repeat' first
   | (with_reducible exact ih0 _ _ _)
   | (with_reducible exact ih1 _ _ _ _)
   | (with_reducible exact LeO.refl _)
   | (with_reducible exact LeO.none _)
   | (with_reducible refine LeO.ite ?_ ?_)
   | (with_reducible refine LeO.bind ?_ (fun _ => ?_))
   | exact ih0 _ _ _
   | exact ih1 _ _ _ _
   | exact LeO.none _
   | refine LeO.ite ?_ ?_
   | refine LeO.bind ?_ (fun _ => ?_)
theorem parquetryref03_inRows.mono : ∀ a0 a1 k, LeO (parquetryref03_inRows.f k a0 a1) (parquetryref03_inRows.f (k + 1) a0 a1) := by
 intro a0 a1 k
 obtain ⟨ih0, ih1⟩ := parquetryref03_inRows.mono_l k
 unfold parquetryref03_inRows.f
 repeat' first
   | (with_reducible exact ih0 _ _ _)
   | (with_reducible exact ih1 _ _ _ _)
   | (with_reducible exact LeO.refl _)
   | (with_reducible exact LeO.none _)
   | (with_reducible refine LeO.ite ?_ ?_)
   | (with_reducible refine LeO.bind ?_ (fun _ => ?_))
   | exact ih0 _ _ _
   | exact ih1 _ _ _ _
   | exact LeO.none _
   | refine LeO.ite ?_ ?_
   | refine LeO.bind ?_ (fun _ => ?_)
set_option maxHeartbeats 8000000 in
set_option maxRecDepth 100000 in
theorem parquetryref03_inRows.calls (k : Nat) (A0 : Option Addr) (c0 : Nat) (l0 : List Int) (a1 : Int) (r1 : Int) (r2 : Int) (w : World) (hr0 : Kd.C (Kd.int .i64) w A0 l0.length l0) (hc0 : l0.length ≤ c0) (h : parquetryref03_inRows.f k l0 a1 = some (r1, r2)) :
  Calls Tryz.prog 90 #[.slice A0 l0.length c0, .int .i64 a1] w fun e w' => e = .returned (.tuple #[.int .i64 r1, .int .i64 r2]) ∧ Drawn0 w w' := by
 have HR0 := Aside0.mk hr0
 have HC0 := Aside0.mk hc0
 clear hr0 hc0
 have H : (parquetryref03_inRows.l0 k l0 a1 0) = some (r1, r2) := h
 clear h
 have H' := Aside0.mk H
 clear H
 go_enter Tryz.func90, Tryz.ntmps90
 go_wp2
 go_loopg [6] k (fun kq v6 w' => ∃ (x6_1 : Int), v6 = .int .i64 x6_1 ∧ Aside0 (parquetryref03_inRows.l0 kq l0 a1 x6_1 = some (r1, r2)) ∧ Aside0 (kq ≤ k) ∧ Drawn0 w w')
 case atStart => exact ⟨(0), (by first | rfl | (simp; done) | (simp [*]; done)), H', ⟨Nat.le_refl _⟩, by repeat (first | exact Drawn0.refl _ | apply Drawn0.step)⟩
 case round =>
  clear H'
  try clear p2
  obtain ⟨x6_1, rfl, HA, HK1, ⟨m1, rfl⟩⟩ := hrel
  cases gk with
  | zero => exact absurd HA.out (by simp [parquetryref03_inRows.l0])
  | succ k1 =>
   have H := HA.out
   clear HA
   simp only [parquetryref03_inRows.l0] at H
   by_cases c3 : x6_1 < (l0.length : Int)
   ·rw [if_pos c3] at H
    have c3b0 : decide (x6_1 < (l0.length : Int)) = true := decide_eq_true c3
    clear c3
    by_cases c4 : 0 ≤ x6_1
    ·rw [if_pos c4] at H
     have c4b0 : decide (0 ≤ x6_1) = true := decide_eq_true c4
     clear c4
     have H' := Aside0.mk H
     clear H
     have p418 : 0 ≤ (x6_1 : Int) := of_decide_eq_true (by first | (with_reducible assumption) | assumption)
     have q418 : x6_1 < (l0.length : Int) := of_decide_eq_true (by first | (with_reducible assumption) | assumption)
     obtain ⟨ad418, e418, hx418_0⟩ := Kd.at_int HR0.out x6_1 p418 q418
     cases e418
     replace p418 := eq_true p418
     replace q418 := eq_true q418
     go_wp2
     go_loopg [7] k1 (fun kq v7 w' => ∃ (x7_2 : Int), v7 = .int .i64 x7_2 ∧ Aside0 (parquetryref03_inRows.l1 kq l0 a1 x6_1 x7_2 = some (r1, r2)) ∧ Aside0 (kq ≤ k1) ∧ Drawn0 w w')
     case atStart => exact ⟨(rd l0 x6_1), (by first | rfl | (simp; done) | (simp [*]; done)), H', ⟨Nat.le_refl _⟩, by repeat (first | exact Drawn0.refl _ | apply Drawn0.step)⟩
     case round =>
      clear H'
      try clear p2
      try clear c3
      try clear c3b0
      try clear c4
      try clear c4b0
      try clear p4
      try clear q4
      try clear hx4
      try clear hx418_0
      try clear p2
      try clear p418
      try clear q418
      obtain ⟨x7_2, rfl, HA, HK2, ⟨m2, rfl⟩⟩ := hrel
      cases gk with
      | zero => exact absurd HA.out (by simp [parquetryref03_inRows.l1])
      | succ k2 =>
       have H := HA.out
       clear HA
       simp only [parquetryref03_inRows.l1] at H
       obtain ⟨ji5, hji5⟩ : ∃ j_ : Int, (wrap64 (x6_1 + 1)) = j_ := ⟨_, rfl⟩
       replace H : (if 0 ≤ (ji5) then (if (ji5) < (l0.length : Int) then (if x7_2 < (rd l0 (ji5)) then (if a1 = x7_2 then (some (1, wrap64 (x7_2 + 1))) else (if a1 = (wrap64 (x7_2 + 1)) then (some (2, x7_2)) else (parquetryref03_inRows.l1 k2 l0 a1 x6_1 (wrap64 (x7_2 + 2))))) else (parquetryref03_inRows.l0 k2 l0 a1 (wrap64 (x6_1 + 2)))) else (none)) else (none)) = some (r1, r2) := by first | (rw [hji5] at H; exact H) | (simp only [hji5] at H ⊢; exact H)
       have hji5w : (IntKind.i64.wrap (x6_1 + 1)) = ji5 := (i64_w _).trans hji5
       by_cases c6 : 0 ≤ (ji5)
       ·rw [if_pos c6] at H
        have c6b0 : decide (0 ≤ (ji5)) = true := decide_eq_true c6
        clear c6
        by_cases c7 : (ji5) < (l0.length : Int)
        ·rw [if_pos c7] at H
         have c7b0 : decide ((ji5) < (l0.length : Int)) = true := decide_eq_true c7
         clear c7
         by_cases c8 : x7_2 < (rd l0 (ji5))
         ·rw [if_pos c8] at H
          have c8b0 : decide (x7_2 < (rd l0 (ji5))) = true := decide_eq_true c8
          clear c8
          by_cases c9 : a1 = x7_2
          ·rw [if_pos c9] at H
           have c9b0 : (a1 == x7_2) = true := beq_iff_eq.mpr c9
           have c9b1 : (a1 != x7_2) = false := bne_eq_false_iff_eq.mpr c9
           clear c9
           simp only [Option.some.injEq, Prod.mk.injEq] at H
           obtain ⟨rfl, rfl⟩ := H
           have p419 : 0 ≤ ((ji5) : Int) := of_decide_eq_true (by first | (with_reducible assumption) | assumption)
           have q419 : (ji5) < (l0.length : Int) := of_decide_eq_true (by first | (with_reducible assumption) | assumption)
           obtain ⟨ad419, e419, hx419_0⟩ := Kd.at_int HR0.out (ji5) p419 q419
           obtain rfl : ad418 = ad419 := (by injection e419)
           replace p419 := eq_true p419
           replace q419 := eq_true q419
           go_wp2
           go_ret2
           exact ⟨by first | rfl | (simp; done) | (simp only [← hji5] <;> (first | rfl | simp)) | (simp [*]; done), by repeat (first | exact Drawn0.refl _ | apply Drawn0.step)⟩
          ·rw [if_neg c9] at H
           have c9b0 : (a1 == x7_2) = false := beq_eq_false_iff_ne.mpr c9
           have c9b1 : (a1 != x7_2) = true := bne_iff_ne.mpr c9
           by_cases c10 : a1 = (wrap64 (x7_2 + 1))
           ·rw [if_pos c10] at H
            have c10b0 : (a1 == (wrap64 (x7_2 + 1))) = true := beq_iff_eq.mpr c10
            have c10b1 : (a1 != (wrap64 (x7_2 + 1))) = false := bne_eq_false_iff_eq.mpr c10
            clear c10
            simp only [Option.some.injEq, Prod.mk.injEq] at H
            obtain ⟨rfl, rfl⟩ := H
            have p419 : 0 ≤ ((ji5) : Int) := of_decide_eq_true (by first | (with_reducible assumption) | assumption)
            have q419 : (ji5) < (l0.length : Int) := of_decide_eq_true (by first | (with_reducible assumption) | assumption)
            obtain ⟨ad419, e419, hx419_0⟩ := Kd.at_int HR0.out (ji5) p419 q419
            obtain rfl : ad418 = ad419 := (by injection e419)
            replace p419 := eq_true p419
            replace q419 := eq_true q419
            go_wp2
            go_ret2
            exact ⟨by first | rfl | (simp; done) | (simp only [← hji5] <;> (first | rfl | simp)) | (simp [*]; done), by repeat (first | exact Drawn0.refl _ | apply Drawn0.step)⟩
           ·rw [if_neg c10] at H
            have c10b0 : (a1 == (wrap64 (x7_2 + 1))) = false := beq_eq_false_iff_ne.mpr c10
            have c10b1 : (a1 != (wrap64 (x7_2 + 1))) = true := bne_iff_ne.mpr c10
            have H' := Aside0.mk H
            clear H
            have p419 : 0 ≤ ((ji5) : Int) := of_decide_eq_true (by first | (with_reducible assumption) | assumption)
            have q419 : (ji5) < (l0.length : Int) := of_decide_eq_true (by first | (with_reducible assumption) | assumption)
            obtain ⟨ad419, e419, hx419_0⟩ := Kd.at_int HR0.out (ji5) p419 q419
            obtain rfl : ad418 = ad419 := (by injection e419)
            replace p419 := eq_true p419
            replace q419 := eq_true q419
            go_wp2
            go_roundg k2
            case measure => have := HK1.out; have := HK2.out; omega
            case rel => exact ⟨(wrap64 (x7_2 + 2)), (by first | rfl | (simp; done) | (simp [*]; done)), H', ⟨by have := HK1.out; have := HK2.out; omega⟩, by repeat (first | exact Drawn0.refl _ | apply Drawn0.step)⟩
         ·rw [if_neg c8] at H
          have c8b0 : decide (x7_2 < (rd l0 (ji5))) = false := decide_eq_false c8
          clear c8
          have H' := Aside0.mk H
          clear H
          have p419 : 0 ≤ ((ji5) : Int) := of_decide_eq_true (by first | (with_reducible assumption) | assumption)
          have q419 : (ji5) < (l0.length : Int) := of_decide_eq_true (by first | (with_reducible assumption) | assumption)
          obtain ⟨ad419, e419, hx419_0⟩ := Kd.at_int HR0.out (ji5) p419 q419
          obtain rfl : ad418 = ad419 := (by injection e419)
          replace p419 := eq_true p419
          replace q419 := eq_true q419
          go_wp2
          go_roundg k2
          case measure => have := HK1.out; have := HK2.out; omega
          case rel => exact ⟨(wrap64 (x6_1 + 2)), (by first | rfl | (simp; done) | (simp [*]; done)), H', ⟨by have := HK1.out; have := HK2.out; omega⟩, by repeat (first | exact Drawn0.refl _ | apply Drawn0.step)⟩
        ·rw [if_neg c7] at H
         exact absurd H (by simp)
       ·rw [if_neg c6] at H
        exact absurd H (by simp)
    ·rw [if_neg c4] at H
     exact absurd H (by simp)
   ·rw [if_neg c3] at H
    have c3b0 : decide (x6_1 < (l0.length : Int)) = false := decide_eq_false c3
    clear c3
    simp only [Option.some.injEq, Prod.mk.injEq] at H
    obtain ⟨rfl, rfl⟩ := H
    go_wp2
    go_ret2
    exact ⟨by first | rfl | (simp; done) | (simp [*]; done), by repeat (first | exact Drawn0.refl _ | apply Drawn0.step)⟩

/-! ### parquetryref03_inPairs: function 92 -/
def parquetryref03_inPairs.l0 : Nat → List Int → Int → Int → Option (Int × Int)
 | 0, _, _, _ => none
 | k + 1, x0, x1, x6 => if x6 < (x0.length : Int) then (if 0 ≤ x6 then (if x1 = (rd x0 x6) then (if 0 ≤ (wrap64 (x6 + 1)) then (if (wrap64 (x6 + 1)) < (x0.length : Int) then (some (1, rd x0 (wrap64 (x6 + 1)))) else (none)) else (none)) else (if 0 ≤ (wrap64 (x6 + 1)) then (if (wrap64 (x6 + 1)) < (x0.length : Int) then (if x1 = (rd x0 (wrap64 (x6 + 1))) then (some (2, rd x0 x6)) else (parquetryref03_inPairs.l0 k x0 x1 (wrap64 (x6 + 2)))) else (none)) else (none))) else (none)) else (some (0, 0))
def parquetryref03_inPairs.f (k : Nat) (l0 : List Int) (a1 : Int) : Option (Int × Int) := parquetryref03_inPairs.l0 k l0 a1 0
theorem parquetryref03_inPairs.mono_l : ∀ k, (∀ y0 y1 y2, LeO (parquetryref03_inPairs.l0 k y0 y1 y2) (parquetryref03_inPairs.l0 (k + 1) y0 y1 y2))
 | 0 => fun _ _ _ r h => by simp [parquetryref03_inPairs.l0] at h
 | k + 1 => by
  have ih0 := parquetryref03_inPairs.mono_l k
  ·intro y0 y1 y2
   unfold parquetryref03_inPairs.l0
   repeat' first
   | (with_reducible exact ih0 _ _ _)
   | (with_reducible exact LeO.refl _)
   | (with_reducible exact LeO.none _)
   | (with_reducible refine LeO.ite ?_ ?_)
   | (with_reducible refine LeO.bind ?_ (fun _ => ?_))
   | exact ih0 _ _ _
   | exact LeO.none _
   | refine LeO.ite ?_ ?_
   | refine LeO.bind ?_ (fun _ => ?_)
theorem parquetryref03_inPairs.mono : ∀ a0 a1 k, LeO (parquetryref03_inPairs.f k a0 a1) (parquetryref03_inPairs.f (k + 1) a0 a1) := by
 intro a0 a1 k
 have ih0 := parquetryref03_inPairs.mono_l k
 unfold parquetryref03_inPairs.f
 repeat' first
   | (with_reducible exact ih0 _ _ _)
   | (with_reducible exact LeO.refl _)
   | (with_reducible exact LeO.none _)
   | (with_reducible refine LeO.ite ?_ ?_)
   | (with_reducible refine LeO.bind ?_ (fun _ => ?_))
   | exact ih0 _ _ _
   | exact LeO.none _
   | refine LeO.ite ?_ ?_
   | refine LeO.bind ?_ (fun _ => ?_)
set_option maxHeartbeats 8000000 in
set_option maxRecDepth 100000 in
theorem parquetryref03_inPairs.calls (k : Nat) (A0 : Option Addr) (c0 : Nat) (l0 : List Int) (a1 : Int) (r1 : Int) (r2 : Int) (w : World) (hr0 : Kd.C (Kd.int .i64) w A0 l0.length l0) (hc0 : l0.length ≤ c0) (h : parquetryref03_inPairs.f k l0 a1 = some (r1, r2)) :
  Calls Tryz.prog 92 #[.slice A0 l0.length c0, .int .i64 a1] w fun e w' => e = .returned (.tuple #[.int .i64 r1, .int .i64 r2]) ∧ Drawn0 w w' := by
 have HR0 := Aside0.mk hr0
 have HC0 := Aside0.mk hc0
 clear hr0 hc0
 have H : (parquetryref03_inPairs.l0 k l0 a1 0) = some (r1, r2) := h
 clear h
 have H' := Aside0.mk H
 clear H
 go_enter Tryz.func92, Tryz.ntmps92
 go_wp2
 repeat (go_quiet (fail); try go_wp2)
 go_loopg [6] k (fun kq v6 w' => ∃ (x6_1 : Int), v6 = .int .i64 x6_1 ∧ Aside0 (parquetryref03_inPairs.l0 kq l0 a1 x6_1 = some (r1, r2)) ∧ Aside0 (kq ≤ k) ∧ Drawn0 w w')
 case atStart => exact ⟨(0), (by first | rfl | (simp; done) | (simp [*]; done)), H', ⟨Nat.le_refl _⟩, by repeat (first | exact Drawn0.refl _ | apply Drawn0.step)⟩
 case round =>
  clear H'
  try clear p2
  obtain ⟨x6_1, rfl, HA, HK1, ⟨m1, rfl⟩⟩ := hrel
  cases gk with
  | zero => exact absurd HA.out (by simp [parquetryref03_inPairs.l0])
  | succ k1 =>
   have H := HA.out
   clear HA
   simp only [parquetryref03_inPairs.l0] at H
   by_cases c3 : x6_1 < (l0.length : Int)
   ·rw [if_pos c3] at H
    have c3b0 : decide (x6_1 < (l0.length : Int)) = true := decide_eq_true c3
    clear c3
    by_cases c4 : 0 ≤ x6_1
    ·rw [if_pos c4] at H
     have c4b0 : decide (0 ≤ x6_1) = true := decide_eq_true c4
     clear c4
     by_cases c5 : a1 = (rd l0 x6_1)
     ·rw [if_pos c5] at H
      have c5b0 : (a1 == (rd l0 x6_1)) = true := beq_iff_eq.mpr c5
      have c5b1 : (a1 != (rd l0 x6_1)) = false := bne_eq_false_iff_eq.mpr c5
      clear c5
      obtain ⟨ji6, hji6⟩ : ∃ j_ : Int, (wrap64 (x6_1 + 1)) = j_ := ⟨_, rfl⟩
      replace H : (if 0 ≤ (ji6) then (if (ji6) < (l0.length : Int) then (some (1, rd l0 (ji6))) else (none)) else (none)) = some (r1, r2) := by first | (rw [hji6] at H; exact H) | (simp only [hji6] at H ⊢; exact H)
      have hji6w : (IntKind.i64.wrap (x6_1 + 1)) = ji6 := (i64_w _).trans hji6
      by_cases c7 : 0 ≤ (ji6)
      ·rw [if_pos c7] at H
       have c7b0 : decide (0 ≤ (ji6)) = true := decide_eq_true c7
       clear c7
       by_cases c8 : (ji6) < (l0.length : Int)
       ·rw [if_pos c8] at H
        have c8b0 : decide ((ji6) < (l0.length : Int)) = true := decide_eq_true c8
        clear c8
        simp only [Option.some.injEq, Prod.mk.injEq] at H
        obtain ⟨rfl, rfl⟩ := H
        have p420 : 0 ≤ (x6_1 : Int) := of_decide_eq_true (by first | (with_reducible assumption) | assumption)
        have q420 : x6_1 < (l0.length : Int) := of_decide_eq_true (by first | (with_reducible assumption) | assumption)
        obtain ⟨ad420, e420, hx420_0⟩ := Kd.at_int HR0.out x6_1 p420 q420
        cases e420
        replace p420 := eq_true p420
        replace q420 := eq_true q420
        have p421 : 0 ≤ ((ji6) : Int) := of_decide_eq_true (by first | (with_reducible assumption) | assumption)
        have q421 : (ji6) < (l0.length : Int) := of_decide_eq_true (by first | (with_reducible assumption) | assumption)
        obtain ⟨ad421, e421, hx421_0⟩ := Kd.at_int HR0.out (ji6) p421 q421
        obtain rfl : ad420 = ad421 := (by injection e421)
        replace p421 := eq_true p421
        replace q421 := eq_true q421
        go_wp2
        repeat (go_quiet (fail); try go_wp2)
        go_ret2
        exact ⟨by first | rfl | (simp; done) | (simp only [← hji6] <;> (first | rfl | simp)) | (simp [*]; done), by repeat (first | exact Drawn0.refl _ | apply Drawn0.step)⟩
       ·rw [if_neg c8] at H
        exact absurd H (by simp)
      ·rw [if_neg c7] at H
       exact absurd H (by simp)
     ·rw [if_neg c5] at H
      have c5b0 : (a1 == (rd l0 x6_1)) = false := beq_eq_false_iff_ne.mpr c5
      have c5b1 : (a1 != (rd l0 x6_1)) = true := bne_iff_ne.mpr c5
      obtain ⟨ji9, hji9⟩ : ∃ j_ : Int, (wrap64 (x6_1 + 1)) = j_ := ⟨_, rfl⟩
      replace H : (if 0 ≤ (ji9) then (if (ji9) < (l0.length : Int) then (if a1 = (rd l0 (ji9)) then (some (2, rd l0 x6_1)) else (parquetryref03_inPairs.l0 k1 l0 a1 (wrap64 (x6_1 + 2)))) else (none)) else (none)) = some (r1, r2) := by first | (rw [hji9] at H; exact H) | (simp only [hji9] at H ⊢; exact H)
      have hji9w : (IntKind.i64.wrap (x6_1 + 1)) = ji9 := (i64_w _).trans hji9
      by_cases c10 : 0 ≤ (ji9)
      ·rw [if_pos c10] at H
       have c10b0 : decide (0 ≤ (ji9)) = true := decide_eq_true c10
       clear c10
       by_cases c11 : (ji9) < (l0.length : Int)
       ·rw [if_pos c11] at H
        have c11b0 : decide ((ji9) < (l0.length : Int)) = true := decide_eq_true c11
        clear c11
        by_cases c12 : a1 = (rd l0 (ji9))
        ·rw [if_pos c12] at H
         have c12b0 : (a1 == (rd l0 (ji9))) = true := beq_iff_eq.mpr c12
         have c12b1 : (a1 != (rd l0 (ji9))) = false := bne_eq_false_iff_eq.mpr c12
         clear c12
         simp only [Option.some.injEq, Prod.mk.injEq] at H
         obtain ⟨rfl, rfl⟩ := H
         have p420 : 0 ≤ (x6_1 : Int) := of_decide_eq_true (by first | (with_reducible assumption) | assumption)
         have q420 : x6_1 < (l0.length : Int) := of_decide_eq_true (by first | (with_reducible assumption) | assumption)
         obtain ⟨ad420, e420, hx420_0⟩ := Kd.at_int HR0.out x6_1 p420 q420
         cases e420
         replace p420 := eq_true p420
         replace q420 := eq_true q420
         have p422 : 0 ≤ ((ji9) : Int) := of_decide_eq_true (by first | (with_reducible assumption) | assumption)
         have q422 : (ji9) < (l0.length : Int) := of_decide_eq_true (by first | (with_reducible assumption) | assumption)
         obtain ⟨ad422, e422, hx422_0⟩ := Kd.at_int HR0.out (ji9) p422 q422
         obtain rfl : ad420 = ad422 := (by injection e422)
         replace p422 := eq_true p422
         replace q422 := eq_true q422
         have p423 : 0 ≤ (x6_1 : Int) := of_decide_eq_true (by first | (with_reducible assumption) | assumption)
         have q423 : x6_1 < (l0.length : Int) := of_decide_eq_true (by first | (with_reducible assumption) | assumption)
         obtain ⟨ad423, e423, hx423_0⟩ := Kd.at_int HR0.out x6_1 p423 q423
         obtain rfl : ad420 = ad423 := (by injection e423)
         replace p423 := eq_true p423
         replace q423 := eq_true q423
         go_wp2
         repeat (go_quiet (fail); try go_wp2)
         go_ret2
         exact ⟨by first | rfl | (simp; done) | (simp only [← hji9] <;> (first | rfl | simp)) | (simp [*]; done), by repeat (first | exact Drawn0.refl _ | apply Drawn0.step)⟩
        ·rw [if_neg c12] at H
         have c12b0 : (a1 == (rd l0 (ji9))) = false := beq_eq_false_iff_ne.mpr c12
         have c12b1 : (a1 != (rd l0 (ji9))) = true := bne_iff_ne.mpr c12
         have H' := Aside0.mk H
         clear H
         have p420 : 0 ≤ (x6_1 : Int) := of_decide_eq_true (by first | (with_reducible assumption) | assumption)
         have q420 : x6_1 < (l0.length : Int) := of_decide_eq_true (by first | (with_reducible assumption) | assumption)
         obtain ⟨ad420, e420, hx420_0⟩ := Kd.at_int HR0.out x6_1 p420 q420
         cases e420
         replace p420 := eq_true p420
         replace q420 := eq_true q420
         have p422 : 0 ≤ ((ji9) : Int) := of_decide_eq_true (by first | (with_reducible assumption) | assumption)
         have q422 : (ji9) < (l0.length : Int) := of_decide_eq_true (by first | (with_reducible assumption) | assumption)
         obtain ⟨ad422, e422, hx422_0⟩ := Kd.at_int HR0.out (ji9) p422 q422
         obtain rfl : ad420 = ad422 := (by injection e422)
         replace p422 := eq_true p422
         replace q422 := eq_true q422
         go_wp2
         repeat (go_quiet (fail); try go_wp2)
         go_roundg k1
         case measure => have := HK1.out; omega
         case rel => exact ⟨(wrap64 (x6_1 + 2)), (by first | rfl | (simp; done) | (simp [*]; done)), H', ⟨by have := HK1.out; omega⟩, by repeat (first | exact Drawn0.refl _ | apply Drawn0.step)⟩
       ·rw [if_neg c11] at H
        exact absurd H (by simp)
      ·rw [if_neg c10] at H
       exact absurd H (by simp)
    ·rw [if_neg c4] at H
     exact absurd H (by simp)
   ·rw [if_neg c3] at H
    have c3b0 : decide (x6_1 < (l0.length : Int)) = false := decide_eq_false c3
    clear c3
    simp only [Option.some.injEq, Prod.mk.injEq] at H
    obtain ⟨rfl, rfl⟩ := H
    go_wp2
    repeat (go_quiet (fail); try go_wp2)
    go_ret2
    exact ⟨by first | rfl | (simp; done) | (simp [*]; done), by repeat (first | exact Drawn0.refl _ | apply Drawn0.step)⟩

/-! ### parquetryref03_lone: function 93 -/
def parquetryref03_lone.f (a0 : Bool) : Option (List Int) := if a0 = true then (some (([91, 93, 123, 125, 65339, 65341, 65371, 65373] : List Int))) else (some (([60, 62, 171, 187, 8249, 8250, 8712, 8715, 8713, 8716, 8714, 8717, 8764, 8765, 8866, 8867, 8912, 8913] : List Int)))
set_option maxHeartbeats 8000000 in
set_option maxRecDepth 100000 in
theorem parquetryref03_lone.calls (a0 : Bool) (r : List Int) (w : World) (h : parquetryref03_lone.f a0 = some r) :
  Calls Tryz.prog 93 #[.bool a0] w fun e w' => ∃ v0_ : Value, e = .returned (v0_) ∧ Kd.R (Kd.int .i64) 3 w' w.heap.size (fun _ => True) v0_ r ∧ Below w.heap.size w w' := by
 have HB := Aside0.mk (Below.refl w.heap.size w)
 have H : (if a0 = true then (some (([91, 93, 123, 125, 65339, 65341, 65371, 65373] : List Int))) else (some (([60, 62, 171, 187, 8249, 8250, 8712, 8715, 8713, 8716, 8714, 8717, 8764, 8765, 8866, 8867, 8912, 8913] : List Int)))) = some r := h
 clear h
 by_cases c2 : a0 = true
 ·subst c2
  have H1 : (some (([91, 93, 123, 125, 65339, 65341, 65371, 65373] : List Int))) = some r := by rw [if_pos rfl] at H; exact H
  clear H
  have H := H1
  clear H1
  obtain ⟨y424, hy424⟩ : ∃ y_ : List Int, y_ = (([91, 93, 123, 125, 65339, 65341, 65371, 65373] : List Int)) := ⟨_, rfl⟩
  replace H : (some y424) = some r := by first | (rw [hy424]; with_reducible exact H) | (have H2_ := (Option.bind_some _ _).symm.trans H; rw [hy424]; with_reducible exact H2_) | (have H2_ := (Option.bind_some _ _).symm.trans H; with_reducible exact H2_) | with_reducible exact H | (rw [hy424]; exact H) | exact H
  have Ny424 := Aside0.mk hy424
  clear hy424
  obtain rfl := Option.some.inj H
  go_enter Tryz.func93, Tryz.ntmps93
  go_wp2_with (first | ((with_reducible refine gate_dst (N := 4) rfl ?_); refine Kd.R_lit (Kd.int .i64) _ 3 ?hg (N := 4) ?hd (xs := ([91, 93, 123, 125, 65339, 65341, 65371, 65373] : List Int)) (inner := [.int .i64 91, .int .i64 93, .int .i64 123, .int .i64 125, .int .i64 65339, .int .i64 65341, .int .i64 65371, .int .i64 65373]) (ok := fun _ => True) (okp := fun _ => True) ?hr ?hp (fun _ hk => hk) trivial (Below.refl _ _) (Nat.le_refl _) (by simp) ?_; (case hd => rfl); (case hg => rfl); (case hr => first | (go_simp; done) | (go_simp; rfl)); (case hp => exact (Reps.one (show Kd.M (Kd.int .i64) _ _ _ 91 [.int .i64 91] from rfl) (Reps.one (show Kd.M (Kd.int .i64) _ _ _ 93 [.int .i64 93] from rfl) (Reps.one (show Kd.M (Kd.int .i64) _ _ _ 123 [.int .i64 123] from rfl) (Reps.one (show Kd.M (Kd.int .i64) _ _ _ 125 [.int .i64 125] from rfl) (Reps.one (show Kd.M (Kd.int .i64) _ _ _ 65339 [.int .i64 65339] from rfl) (Reps.one (show Kd.M (Kd.int .i64) _ _ _ 65341 [.int .i64 65341] from rfl) (Reps.one (show Kd.M (Kd.int .i64) _ _ _ 65371 [.int .i64 65371] from rfl) (Reps.one (show Kd.M (Kd.int .i64) _ _ _ 65373 [.int .i64 65373] from rfl) (Reps.none _ _)))))))))); intro v425 w3 ho4 hb hg_ hnew_; clear hg_ hnew_; (first | rw [← Ny424.out] at ho4 | (simp only [Int.reduceToNat] at ho4; rw [← Ny424.out] at ho4)); have n0_ := Aside0.mk (Kd.R_lower ho4 (below_size (by repeat (first | (with_reducible first | exact HB.out | apply below_alloc | apply pw_below_drewN | apply below_drew1) | exact HB.out)))); have n1_ := Aside0.mk (below_step (by repeat (first | (with_reducible first | exact HB.out | apply below_alloc | apply pw_below_drewN | apply below_drew1) | exact HB.out)) hb); clear HB; have HO426 := n0_; have HB := n1_; clear n0_ n1_; clear hb ho4))
  go_ret
  exact ⟨_, by first | rfl | (simp [errW_none, errW_some] <;> rfl) | (simp [*, errW_none, errW_some] <;> rfl), by (with_reducible repeat (first | apply Kd.R_alloc | apply Kd.R_drewN | apply Kd.R_drew)); exact HO426.out, by repeat (first | (with_reducible first | exact HB.out | apply below_alloc | apply pw_below_drewN | apply below_drew1) | exact HB.out)⟩
 ·replace c2 := Bool.eq_false_iff.mpr c2
  subst c2
  have H1 : (some (([60, 62, 171, 187, 8249, 8250, 8712, 8715, 8713, 8716, 8714, 8717, 8764, 8765, 8866, 8867, 8912, 8913] : List Int))) = some r := by rw [if_neg (show ¬ (false = true) by decide)] at H; exact H
  clear H
  have H := H1
  clear H1
  obtain ⟨y427, hy427⟩ : ∃ y_ : List Int, y_ = (([60, 62, 171, 187, 8249, 8250, 8712, 8715, 8713, 8716, 8714, 8717, 8764, 8765, 8866, 8867, 8912, 8913] : List Int)) := ⟨_, rfl⟩
  replace H : (some y427) = some r := by first | (rw [hy427]; with_reducible exact H) | (have H2_ := (Option.bind_some _ _).symm.trans H; rw [hy427]; with_reducible exact H2_) | (have H2_ := (Option.bind_some _ _).symm.trans H; with_reducible exact H2_) | with_reducible exact H | (rw [hy427]; exact H) | exact H
  have Ny427 := Aside0.mk hy427
  clear hy427
  obtain rfl := Option.some.inj H
  go_enter Tryz.func93, Tryz.ntmps93
  go_wp2_with (first | ((with_reducible refine gate_dst (N := 5) rfl ?_); refine Kd.R_lit (Kd.int .i64) _ 3 ?hg (N := 5) ?hd (xs := ([60, 62, 171, 187, 8249, 8250, 8712, 8715, 8713, 8716, 8714, 8717, 8764, 8765, 8866, 8867, 8912, 8913] : List Int)) (inner := [.int .i64 60, .int .i64 62, .int .i64 171, .int .i64 187, .int .i64 8249, .int .i64 8250, .int .i64 8712, .int .i64 8715, .int .i64 8713, .int .i64 8716, .int .i64 8714, .int .i64 8717, .int .i64 8764, .int .i64 8765, .int .i64 8866, .int .i64 8867, .int .i64 8912, .int .i64 8913]) (ok := fun _ => True) (okp := fun _ => True) ?hr ?hp (fun _ hk => hk) trivial (Below.refl _ _) (Nat.le_refl _) (by simp) ?_; (case hd => rfl); (case hg => rfl); (case hr => first | (go_simp; done) | (go_simp; rfl)); (case hp => exact (Reps.one (show Kd.M (Kd.int .i64) _ _ _ 60 [.int .i64 60] from rfl) (Reps.one (show Kd.M (Kd.int .i64) _ _ _ 62 [.int .i64 62] from rfl) (Reps.one (show Kd.M (Kd.int .i64) _ _ _ 171 [.int .i64 171] from rfl) (Reps.one (show Kd.M (Kd.int .i64) _ _ _ 187 [.int .i64 187] from rfl) (Reps.one (show Kd.M (Kd.int .i64) _ _ _ 8249 [.int .i64 8249] from rfl) (Reps.one (show Kd.M (Kd.int .i64) _ _ _ 8250 [.int .i64 8250] from rfl) (Reps.one (show Kd.M (Kd.int .i64) _ _ _ 8712 [.int .i64 8712] from rfl) (Reps.one (show Kd.M (Kd.int .i64) _ _ _ 8715 [.int .i64 8715] from rfl) (Reps.one (show Kd.M (Kd.int .i64) _ _ _ 8713 [.int .i64 8713] from rfl) (Reps.one (show Kd.M (Kd.int .i64) _ _ _ 8716 [.int .i64 8716] from rfl) (Reps.one (show Kd.M (Kd.int .i64) _ _ _ 8714 [.int .i64 8714] from rfl) (Reps.one (show Kd.M (Kd.int .i64) _ _ _ 8717 [.int .i64 8717] from rfl) (Reps.one (show Kd.M (Kd.int .i64) _ _ _ 8764 [.int .i64 8764] from rfl) (Reps.one (show Kd.M (Kd.int .i64) _ _ _ 8765 [.int .i64 8765] from rfl) (Reps.one (show Kd.M (Kd.int .i64) _ _ _ 8866 [.int .i64 8866] from rfl) (Reps.one (show Kd.M (Kd.int .i64) _ _ _ 8867 [.int .i64 8867] from rfl) (Reps.one (show Kd.M (Kd.int .i64) _ _ _ 8912 [.int .i64 8912] from rfl) (Reps.one (show Kd.M (Kd.int .i64) _ _ _ 8913 [.int .i64 8913] from rfl) (Reps.none _ _)))))))))))))))))))); intro v428 w5 ho6 hb hg_ hnew_; clear hg_ hnew_; (first | rw [← Ny427.out] at ho6 | (simp only [Int.reduceToNat] at ho6; rw [← Ny427.out] at ho6)); have n0_ := Aside0.mk (Kd.R_lower ho6 (below_size (by repeat (first | (with_reducible first | exact HB.out | apply below_alloc | apply pw_below_drewN | apply below_drew1) | exact HB.out)))); have n1_ := Aside0.mk (below_step (by repeat (first | (with_reducible first | exact HB.out | apply below_alloc | apply pw_below_drewN | apply below_drew1) | exact HB.out)) hb); clear HB; have HO429 := n0_; have HB := n1_; clear n0_ n1_; clear hb ho6))
  go_ret
  exact ⟨_, by first | rfl | (simp [errW_none, errW_some] <;> rfl) | (simp [*, errW_none, errW_some] <;> rfl), by (with_reducible repeat (first | apply Kd.R_alloc | apply Kd.R_drewN | apply Kd.R_drew)); exact HO429.out, by repeat (first | (with_reducible first | exact HB.out | apply below_alloc | apply pw_below_drewN | apply below_drew1) | exact HB.out)⟩

/-! ### parquetryref03_brackets: function 132 -/
def parquetryref03_brackets.f  : Option (List Int) := some (([40, 41, 3898, 3901, 5787, 5788, 8261, 8262, 8317, 8318, 8333, 8334, 8968, 8971, 9001, 9002, 10088, 10101, 10181, 10182, 10214, 10223, 10627, 10636, 10641, 10648, 10712, 10715, 10748, 10749, 11810, 11817, 12296, 12305, 12308, 12315, 65113, 65118, 65288, 65289, 65375, 65376, 65378, 65379] : List Int))
set_option maxHeartbeats 8000000 in
set_option maxRecDepth 100000 in
theorem parquetryref03_brackets.calls  (r : List Int) (w : World) (h : parquetryref03_brackets.f  = some r) :
  Calls Tryz.prog 132 #[] w fun e w' => ∃ v0_ : Value, e = .returned (v0_) ∧ Kd.R (Kd.int .i64) 3 w' w.heap.size (fun _ => True) v0_ r ∧ Below w.heap.size w w' := by
 have HB := Aside0.mk (Below.refl w.heap.size w)
 have H : (some (([40, 41, 3898, 3901, 5787, 5788, 8261, 8262, 8317, 8318, 8333, 8334, 8968, 8971, 9001, 9002, 10088, 10101, 10181, 10182, 10214, 10223, 10627, 10636, 10641, 10648, 10712, 10715, 10748, 10749, 11810, 11817, 12296, 12305, 12308, 12315, 65113, 65118, 65288, 65289, 65375, 65376, 65378, 65379] : List Int))) = some r := h
 clear h
 obtain ⟨y430, hy430⟩ : ∃ y_ : List Int, y_ = (([40, 41, 3898, 3901, 5787, 5788, 8261, 8262, 8317, 8318, 8333, 8334, 8968, 8971, 9001, 9002, 10088, 10101, 10181, 10182, 10214, 10223, 10627, 10636, 10641, 10648, 10712, 10715, 10748, 10749, 11810, 11817, 12296, 12305, 12308, 12315, 65113, 65118, 65288, 65289, 65375, 65376, 65378, 65379] : List Int)) := ⟨_, rfl⟩
 replace H : (some y430) = some r := by first | (rw [hy430]; with_reducible exact H) | (have H2_ := (Option.bind_some _ _).symm.trans H; rw [hy430]; with_reducible exact H2_) | (have H2_ := (Option.bind_some _ _).symm.trans H; with_reducible exact H2_) | with_reducible exact H | (rw [hy430]; exact H) | exact H
 have Ny430 := Aside0.mk hy430
 clear hy430
 obtain rfl := Option.some.inj H
 go_enter Tryz.func132, Tryz.ntmps132
 go_wp2_with (first | ((with_reducible refine gate_dst (N := 1) rfl ?_); refine Kd.R_lit (Kd.int .i64) _ 3 ?hg (N := 1) ?hd (xs := ([40, 41, 3898, 3901, 5787, 5788, 8261, 8262, 8317, 8318, 8333, 8334, 8968, 8971, 9001, 9002, 10088, 10101, 10181, 10182, 10214, 10223, 10627, 10636, 10641, 10648, 10712, 10715, 10748, 10749, 11810, 11817, 12296, 12305, 12308, 12315, 65113, 65118, 65288, 65289, 65375, 65376, 65378, 65379] : List Int)) (inner := [.int .i64 40, .int .i64 41, .int .i64 3898, .int .i64 3901, .int .i64 5787, .int .i64 5788, .int .i64 8261, .int .i64 8262, .int .i64 8317, .int .i64 8318, .int .i64 8333, .int .i64 8334, .int .i64 8968, .int .i64 8971, .int .i64 9001, .int .i64 9002, .int .i64 10088, .int .i64 10101, .int .i64 10181, .int .i64 10182, .int .i64 10214, .int .i64 10223, .int .i64 10627, .int .i64 10636, .int .i64 10641, .int .i64 10648, .int .i64 10712, .int .i64 10715, .int .i64 10748, .int .i64 10749, .int .i64 11810, .int .i64 11817, .int .i64 12296, .int .i64 12305, .int .i64 12308, .int .i64 12315, .int .i64 65113, .int .i64 65118, .int .i64 65288, .int .i64 65289, .int .i64 65375, .int .i64 65376, .int .i64 65378, .int .i64 65379]) (ok := fun _ => True) (okp := fun _ => True) ?hr ?hp (fun _ hk => hk) trivial (Below.refl _ _) (Nat.le_refl _) (by simp) ?_; (case hd => rfl); (case hg => rfl); (case hr => first | (go_simp; done) | (go_simp; rfl)); (case hp => exact (Reps.one (show Kd.M (Kd.int .i64) _ _ _ 40 [.int .i64 40] from rfl) (Reps.one (show Kd.M (Kd.int .i64) _ _ _ 41 [.int .i64 41] from rfl) (Reps.one (show Kd.M (Kd.int .i64) _ _ _ 3898 [.int .i64 3898] from rfl) (Reps.one (show Kd.M (Kd.int .i64) _ _ _ 3901 [.int .i64 3901] from rfl) (Reps.one (show Kd.M (Kd.int .i64) _ _ _ 5787 [.int .i64 5787] from rfl) (Reps.one (show Kd.M (Kd.int .i64) _ _ _ 5788 [.int .i64 5788] from rfl) (Reps.one (show Kd.M (Kd.int .i64) _ _ _ 8261 [.int .i64 8261] from rfl) (Reps.one (show Kd.M (Kd.int .i64) _ _ _ 8262 [.int .i64 8262] from rfl) (Reps.one (show Kd.M (Kd.int .i64) _ _ _ 8317 [.int .i64 8317] from rfl) (Reps.one (show Kd.M (Kd.int .i64) _ _ _ 8318 [.int .i64 8318] from rfl) (Reps.one (show Kd.M (Kd.int .i64) _ _ _ 8333 [.int .i64 8333] from rfl) (Reps.one (show Kd.M (Kd.int .i64) _ _ _ 8334 [.int .i64 8334] from rfl) (Reps.one (show Kd.M (Kd.int .i64) _ _ _ 8968 [.int .i64 8968] from rfl) (Reps.one (show Kd.M (Kd.int .i64) _ _ _ 8971 [.int .i64 8971] from rfl) (Reps.one (show Kd.M (Kd.int .i64) _ _ _ 9001 [.int .i64 9001] from rfl) (Reps.one (show Kd.M (Kd.int .i64) _ _ _ 9002 [.int .i64 9002] from rfl) (Reps.one (show Kd.M (Kd.int .i64) _ _ _ 10088 [.int .i64 10088] from rfl) (Reps.one (show Kd.M (Kd.int .i64) _ _ _ 10101 [.int .i64 10101] from rfl) (Reps.one (show Kd.M (Kd.int .i64) _ _ _ 10181 [.int .i64 10181] from rfl) (Reps.one (show Kd.M (Kd.int .i64) _ _ _ 10182 [.int .i64 10182] from rfl) (Reps.one (show Kd.M (Kd.int .i64) _ _ _ 10214 [.int .i64 10214] from rfl) (Reps.one (show Kd.M (Kd.int .i64) _ _ _ 10223 [.int .i64 10223] from rfl) (Reps.one (show Kd.M (Kd.int .i64) _ _ _ 10627 [.int .i64 10627] from rfl) (Reps.one (show Kd.M (Kd.int .i64) _ _ _ 10636 [.int .i64 10636] from rfl) (Reps.one (show Kd.M (Kd.int .i64) _ _ _ 10641 [.int .i64 10641] from rfl) (Reps.one (show Kd.M (Kd.int .i64) _ _ _ 10648 [.int .i64 10648] from rfl) (Reps.one (show Kd.M (Kd.int .i64) _ _ _ 10712 [.int .i64 10712] from rfl) (Reps.one (show Kd.M (Kd.int .i64) _ _ _ 10715 [.int .i64 10715] from rfl) (Reps.one (show Kd.M (Kd.int .i64) _ _ _ 10748 [.int .i64 10748] from rfl) (Reps.one (show Kd.M (Kd.int .i64) _ _ _ 10749 [.int .i64 10749] from rfl) (Reps.one (show Kd.M (Kd.int .i64) _ _ _ 11810 [.int .i64 11810] from rfl) (Reps.one (show Kd.M (Kd.int .i64) _ _ _ 11817 [.int .i64 11817] from rfl) (Reps.one (show Kd.M (Kd.int .i64) _ _ _ 12296 [.int .i64 12296] from rfl) (Reps.one (show Kd.M (Kd.int .i64) _ _ _ 12305 [.int .i64 12305] from rfl) (Reps.one (show Kd.M (Kd.int .i64) _ _ _ 12308 [.int .i64 12308] from rfl) (Reps.one (show Kd.M (Kd.int .i64) _ _ _ 12315 [.int .i64 12315] from rfl) (Reps.one (show Kd.M (Kd.int .i64) _ _ _ 65113 [.int .i64 65113] from rfl) (Reps.one (show Kd.M (Kd.int .i64) _ _ _ 65118 [.int .i64 65118] from rfl) (Reps.one (show Kd.M (Kd.int .i64) _ _ _ 65288 [.int .i64 65288] from rfl) (Reps.one (show Kd.M (Kd.int .i64) _ _ _ 65289 [.int .i64 65289] from rfl) (Reps.one (show Kd.M (Kd.int .i64) _ _ _ 65375 [.int .i64 65375] from rfl) (Reps.one (show Kd.M (Kd.int .i64) _ _ _ 65376 [.int .i64 65376] from rfl) (Reps.one (show Kd.M (Kd.int .i64) _ _ _ 65378 [.int .i64 65378] from rfl) (Reps.one (show Kd.M (Kd.int .i64) _ _ _ 65379 [.int .i64 65379] from rfl) (Reps.none _ _)))))))))))))))))))))))))))))))))))))))))))))); intro v431 w1 ho2 hb hg_ hnew_; clear hg_ hnew_; (first | rw [← Ny430.out] at ho2 | (simp only [Int.reduceToNat] at ho2; rw [← Ny430.out] at ho2)); have n0_ := Aside0.mk (Kd.R_lower ho2 (below_size (by repeat (first | (with_reducible first | exact HB.out | apply below_alloc | apply pw_below_drewN | apply below_drew1) | exact HB.out)))); have n1_ := Aside0.mk (below_step (by repeat (first | (with_reducible first | exact HB.out | apply below_alloc | apply pw_below_drewN | apply below_drew1) | exact HB.out)) hb); clear HB; have HO432 := n0_; have HB := n1_; clear n0_ n1_; clear hb ho2))
 go_ret
 exact ⟨_, by first | rfl | (simp [errW_none, errW_some] <;> rfl) | (simp [*, errW_none, errW_some] <;> rfl), by (with_reducible repeat (first | apply Kd.R_alloc | apply Kd.R_drewN | apply Kd.R_drew)); exact HO432.out, by repeat (first | (with_reducible first | exact HB.out | apply below_alloc | apply pw_below_drewN | apply below_drew1) | exact HB.out)⟩

/-! ### parquetryref03_Pair: function 89 -/
def parquetryref03_Pair.f (k : Nat) (a0 : Int) : Option (Int × Int) := (parquetryref03_brackets.f).bind fun t433 => ((parquetryref03_inRows.f k t433 a0).bind fun bt436 => (if bt436.1 = 0 then ((parquetryref03_lone.f true).bind fun t438 => ((parquetryref03_inPairs.f k t438 a0).bind fun bt441 => (some (bt441.1, bt441.2)))) else (some (bt436.1, bt436.2))))
theorem parquetryref03_Pair.mono : ∀ a0 k, LeO (parquetryref03_Pair.f k a0) (parquetryref03_Pair.f (k + 1) a0) := by
 intro a0 k
 unfold parquetryref03_Pair.f
 repeat' first
   | (with_reducible exact parquetryref03_inPairs.mono _ _ _)
   | (with_reducible exact parquetryref03_inRows.mono _ _ _)
   | (with_reducible exact LeO.refl _)
   | (with_reducible exact LeO.none _)
   | (with_reducible refine LeO.ite ?_ ?_)
   | (with_reducible refine LeO.bind ?_ (fun _ => ?_))
   | exact parquetryref03_inPairs.mono _ _ _
   | exact parquetryref03_inRows.mono _ _ _
   | exact LeO.none _
   | refine LeO.ite ?_ ?_
   | refine LeO.bind ?_ (fun _ => ?_)
set_option maxHeartbeats 8000000 in
set_option maxRecDepth 100000 in
theorem parquetryref03_Pair.calls (k : Nat) (a0 : Int) (r1 : Int) (r2 : Int) (w : World) (h : parquetryref03_Pair.f k a0 = some (r1, r2)) :
  Calls Tryz.prog 89 #[.int .i64 a0] w fun e w' => e = .returned (.tuple #[.int .i64 r1, .int .i64 r2]) ∧ Below w.heap.size w w' := by
 have HB := Aside0.mk (Below.refl w.heap.size w)
 have H : ((parquetryref03_brackets.f).bind fun t433 => ((parquetryref03_inRows.f k t433 a0).bind fun bt436 => (if bt436.1 = 0 then ((parquetryref03_lone.f true).bind fun t438 => ((parquetryref03_inPairs.f k t438 a0).bind fun bt441 => (some (bt441.1, bt441.2)))) else (some (bt436.1, bt436.2))))) = some (r1, r2) := h
 clear h
 replace H := Option.bind_eq_some_iff.mp H
 obtain ⟨t433, A20, H⟩ := H
 replace H : ((parquetryref03_inRows.f k t433 a0).bind fun bt436 => (if bt436.1 = 0 then ((parquetryref03_lone.f true).bind fun t438 => ((parquetryref03_inPairs.f k t438 a0).bind fun bt441 => (some (bt441.1, bt441.2)))) else (some (bt436.1, bt436.2)))) = some (r1, r2) := H
 have A2 := Aside0.mk A20
 clear A20
 replace H := Option.bind_eq_some_iff.mp H
 obtain ⟨⟨t436, t437⟩, A30, H⟩ := H
 replace H : (if t436 = 0 then ((parquetryref03_lone.f true).bind fun t438 => ((parquetryref03_inPairs.f k t438 a0).bind fun bt441 => (some (bt441.1, bt441.2)))) else (some (t436, t437))) = some (r1, r2) := H
 have A3 := Aside0.mk A30
 clear A30
 by_cases c4 : t436 = 0
 ·rw [if_pos c4] at H
  have c4b0 : (t436 == 0) = true := beq_iff_eq.mpr c4
  have c4b1 : (t436 != 0) = false := bne_eq_false_iff_eq.mpr c4
  clear c4
  replace H := Option.bind_eq_some_iff.mp H
  obtain ⟨t438, A50, H⟩ := H
  replace H : ((parquetryref03_inPairs.f k t438 a0).bind fun bt441 => (some (bt441.1, bt441.2))) = some (r1, r2) := H
  have A5 := Aside0.mk A50
  clear A50
  replace H := Option.bind_eq_some_iff.mp H
  obtain ⟨⟨t441, t442⟩, A60, H⟩ := H
  replace H : (some (t441, t442)) = some (r1, r2) := H
  have A6 := Aside0.mk A60
  clear A60
  simp only [Option.some.injEq, Prod.mk.injEq] at H
  obtain ⟨rfl, rfl⟩ := H
  go_enter Tryz.func89, Tryz.ntmps89
  go_wp2_with (first | ((with_reducible refine gate_callee (f := 132) rfl ?_); refine goesL_ (some 7) rfl rfl Tryz.func132 (by kernel_rfl) rfl #[] rfl (by (try simp only [List.map_toArray, List.map_cons, List.map_nil]); first | done | rfl | (simp only [List.length_drop, List.length_take]; rfl)) ?_; (with_reducible refine (parquetryref03_brackets.calls  t433 _ A2.out).mono ?_); rintro e w7 ⟨v434, rfl, ho0, hb⟩; refine ⟨_, rfl, ?_⟩; have n0_ := Aside0.mk (Kd.R_lower ho0 (below_size (by repeat (first | (with_reducible first | exact HB.out | apply below_alloc | apply pw_below_drewN | apply below_drew1) | exact HB.out)))); have n1_ := Aside0.mk (below_step (by repeat (first | (with_reducible first | exact HB.out | apply below_alloc | apply pw_below_drewN | apply below_drew1) | exact HB.out)) hb); clear HB; have HO435 := n0_; have HB := n1_; clear n0_ n1_; (try clear hb); (try clear hb2); (try clear hk); (try clear hi); (try clear ho0); obtain ⟨Ao8, co8, eo8⟩ := Kd.R_slice HO435.out; subst eo8) | ((with_reducible refine gate_callee (f := 90) rfl ?_); refine goesL_ (some 9) rfl rfl Tryz.func90 (by kernel_rfl) rfl #[.slice Ao8 t433.length co8, .int .i64 a0] rfl (by (try simp only [List.map_toArray, List.map_cons, List.map_nil]); first | done | rfl | (simp only [List.length_drop, List.length_take]; rfl)) ?_; (with_reducible refine (parquetryref03_inRows.calls k _ _ t433 a0 t436 t437 _ ?side1 ?side2 A3.out).mono ?_); (case side1 => repeat (first | exact (Kd.R_reads' HO435.out).2.2 | (with_reducible refine Kd.C_alloc ?_ _) | (with_reducible refine Kd.C_drewN ?_ _) | (with_reducible refine Kd.C_drew ?_))); (case side2 => exact (Kd.R_reads' HO435.out).2.1); rintro e w' ⟨rfl, ⟨nd, rfl⟩⟩; refine ⟨_, rfl, ?_⟩) | ((with_reducible refine gate_callee (f := 93) rfl ?_); refine goesL_ (some 15) rfl rfl Tryz.func93 (by kernel_rfl) rfl #[.bool true] rfl (by (try simp only [List.map_toArray, List.map_cons, List.map_nil]); first | done | rfl | (simp only [List.length_drop, List.length_take]; rfl)) ?_; (with_reducible refine (parquetryref03_lone.calls true t438 _ A5.out).mono ?_); rintro e w9 ⟨v439, rfl, ho0, hb⟩; refine ⟨_, rfl, ?_⟩; have n0_ := Aside0.mk (Kd.R_elder' (by (with_reducible repeat (first | apply Kd.R_alloc | apply Kd.R_drewN | apply Kd.R_drew)); exact HO435.out) (Kd.R_base ho0) hb); have n1_ := Aside0.mk (Kd.R_lower (Kd.R_new' ho0 (Kd.R_lt (by (with_reducible repeat (first | apply Kd.R_alloc | apply Kd.R_drewN | apply Kd.R_drew)); exact HO435.out))) (below_size (by repeat (first | (with_reducible first | exact HB.out | apply below_alloc | apply pw_below_drewN | apply below_drew1) | exact HB.out)))); have n2_ := Aside0.mk (below_step (by repeat (first | (with_reducible first | exact HB.out | apply below_alloc | apply pw_below_drewN | apply below_drew1) | exact HB.out)) hb); clear HO435; clear HB; have HO435 := n0_; have HO440 := n1_; have HB := n2_; clear n0_ n1_ n2_; (try clear hb); (try clear hb2); (try clear hk); (try clear hi); (try clear ho0); obtain ⟨Ao10, co10, eo10⟩ := Kd.R_slice HO440.out; subst eo10) | ((with_reducible refine gate_callee (f := 92) rfl ?_); refine goesL_ (some 17) rfl rfl Tryz.func92 (by kernel_rfl) rfl #[.slice Ao10 t438.length co10, .int .i64 a0] rfl (by (try simp only [List.map_toArray, List.map_cons, List.map_nil]); first | done | rfl | (simp only [List.length_drop, List.length_take]; rfl)) ?_; (with_reducible refine (parquetryref03_inPairs.calls k _ _ t438 a0 t441 t442 _ ?side1 ?side2 A6.out).mono ?_); (case side1 => repeat (first | exact (Kd.R_reads' HO440.out).2.2 | (with_reducible refine Kd.C_alloc ?_ _) | (with_reducible refine Kd.C_drewN ?_ _) | (with_reducible refine Kd.C_drew ?_))); (case side2 => exact (Kd.R_reads' HO440.out).2.1); rintro e w' ⟨rfl, ⟨nd, rfl⟩⟩; refine ⟨_, rfl, ?_⟩))
  go_ret2
  exact ⟨by first | rfl | (simp [errW_none, errW_some] <;> rfl) | (simp [*, errW_none, errW_some] <;> rfl), by repeat (first | (with_reducible first | exact HB.out | apply below_alloc | apply pw_below_drewN | apply below_drew1) | exact HB.out)⟩
 ·rw [if_neg c4] at H
  have c4b0 : (t436 == 0) = false := beq_eq_false_iff_ne.mpr c4
  have c4b1 : (t436 != 0) = true := bne_iff_ne.mpr c4
  simp only [Option.some.injEq, Prod.mk.injEq] at H
  obtain ⟨rfl, rfl⟩ := H
  go_enter Tryz.func89, Tryz.ntmps89
  go_wp2_with (first | ((with_reducible refine gate_callee (f := 132) rfl ?_); refine goesL_ (some 7) rfl rfl Tryz.func132 (by kernel_rfl) rfl #[] rfl (by (try simp only [List.map_toArray, List.map_cons, List.map_nil]); first | done | rfl | (simp only [List.length_drop, List.length_take]; rfl)) ?_; (with_reducible refine (parquetryref03_brackets.calls  t433 _ A2.out).mono ?_); rintro e w11 ⟨v434, rfl, ho0, hb⟩; refine ⟨_, rfl, ?_⟩; have n0_ := Aside0.mk (Kd.R_lower ho0 (below_size (by repeat (first | (with_reducible first | exact HB.out | apply below_alloc | apply pw_below_drewN | apply below_drew1) | exact HB.out)))); have n1_ := Aside0.mk (below_step (by repeat (first | (with_reducible first | exact HB.out | apply below_alloc | apply pw_below_drewN | apply below_drew1) | exact HB.out)) hb); clear HB; have HO435 := n0_; have HB := n1_; clear n0_ n1_; (try clear hb); (try clear hb2); (try clear hk); (try clear hi); (try clear ho0); obtain ⟨Ao12, co12, eo12⟩ := Kd.R_slice HO435.out; subst eo12) | ((with_reducible refine gate_callee (f := 90) rfl ?_); refine goesL_ (some 9) rfl rfl Tryz.func90 (by kernel_rfl) rfl #[.slice Ao12 t433.length co12, .int .i64 a0] rfl (by (try simp only [List.map_toArray, List.map_cons, List.map_nil]); first | done | rfl | (simp only [List.length_drop, List.length_take]; rfl)) ?_; (with_reducible refine (parquetryref03_inRows.calls k _ _ t433 a0 t436 t437 _ ?side1 ?side2 A3.out).mono ?_); (case side1 => repeat (first | exact (Kd.R_reads' HO435.out).2.2 | (with_reducible refine Kd.C_alloc ?_ _) | (with_reducible refine Kd.C_drewN ?_ _) | (with_reducible refine Kd.C_drew ?_))); (case side2 => exact (Kd.R_reads' HO435.out).2.1); rintro e w' ⟨rfl, ⟨nd, rfl⟩⟩; refine ⟨_, rfl, ?_⟩))
  go_ret2
  exact ⟨by first | rfl | (simp [errW_none, errW_some] <;> rfl) | (simp [*, errW_none, errW_some] <;> rfl), by repeat (first | (with_reducible first | exact HB.out | apply below_alloc | apply pw_below_drewN | apply below_drew1) | exact HB.out)⟩

/-! ### parquetryref03_others: function 91 -/
def parquetryref03_others.f  : Option (List Int) := some (([8804, 8811, 8814, 8833, 8834, 8841, 8847, 8850, 8882, 8885, 8918, 8927, 8928, 8941] : List Int))
set_option maxHeartbeats 8000000 in
set_option maxRecDepth 100000 in
theorem parquetryref03_others.calls  (r : List Int) (w : World) (h : parquetryref03_others.f  = some r) :
  Calls Tryz.prog 91 #[] w fun e w' => ∃ v0_ : Value, e = .returned (v0_) ∧ Kd.R (Kd.int .i64) 3 w' w.heap.size (fun _ => True) v0_ r ∧ Below w.heap.size w w' := by
 have HB := Aside0.mk (Below.refl w.heap.size w)
 have H : (some (([8804, 8811, 8814, 8833, 8834, 8841, 8847, 8850, 8882, 8885, 8918, 8927, 8928, 8941] : List Int))) = some r := h
 clear h
 obtain ⟨y443, hy443⟩ : ∃ y_ : List Int, y_ = (([8804, 8811, 8814, 8833, 8834, 8841, 8847, 8850, 8882, 8885, 8918, 8927, 8928, 8941] : List Int)) := ⟨_, rfl⟩
 replace H : (some y443) = some r := by first | (rw [hy443]; with_reducible exact H) | (have H2_ := (Option.bind_some _ _).symm.trans H; rw [hy443]; with_reducible exact H2_) | (have H2_ := (Option.bind_some _ _).symm.trans H; with_reducible exact H2_) | with_reducible exact H | (rw [hy443]; exact H) | exact H
 have Ny443 := Aside0.mk hy443
 clear hy443
 obtain rfl := Option.some.inj H
 go_enter Tryz.func91, Tryz.ntmps91
 go_wp2_with (first | ((with_reducible refine gate_dst (N := 1) rfl ?_); refine Kd.R_lit (Kd.int .i64) _ 3 ?hg (N := 1) ?hd (xs := ([8804, 8811, 8814, 8833, 8834, 8841, 8847, 8850, 8882, 8885, 8918, 8927, 8928, 8941] : List Int)) (inner := [.int .i64 8804, .int .i64 8811, .int .i64 8814, .int .i64 8833, .int .i64 8834, .int .i64 8841, .int .i64 8847, .int .i64 8850, .int .i64 8882, .int .i64 8885, .int .i64 8918, .int .i64 8927, .int .i64 8928, .int .i64 8941]) (ok := fun _ => True) (okp := fun _ => True) ?hr ?hp (fun _ hk => hk) trivial (Below.refl _ _) (Nat.le_refl _) (by simp) ?_; (case hd => rfl); (case hg => rfl); (case hr => first | (go_simp; done) | (go_simp; rfl)); (case hp => exact (Reps.one (show Kd.M (Kd.int .i64) _ _ _ 8804 [.int .i64 8804] from rfl) (Reps.one (show Kd.M (Kd.int .i64) _ _ _ 8811 [.int .i64 8811] from rfl) (Reps.one (show Kd.M (Kd.int .i64) _ _ _ 8814 [.int .i64 8814] from rfl) (Reps.one (show Kd.M (Kd.int .i64) _ _ _ 8833 [.int .i64 8833] from rfl) (Reps.one (show Kd.M (Kd.int .i64) _ _ _ 8834 [.int .i64 8834] from rfl) (Reps.one (show Kd.M (Kd.int .i64) _ _ _ 8841 [.int .i64 8841] from rfl) (Reps.one (show Kd.M (Kd.int .i64) _ _ _ 8847 [.int .i64 8847] from rfl) (Reps.one (show Kd.M (Kd.int .i64) _ _ _ 8850 [.int .i64 8850] from rfl) (Reps.one (show Kd.M (Kd.int .i64) _ _ _ 8882 [.int .i64 8882] from rfl) (Reps.one (show Kd.M (Kd.int .i64) _ _ _ 8885 [.int .i64 8885] from rfl) (Reps.one (show Kd.M (Kd.int .i64) _ _ _ 8918 [.int .i64 8918] from rfl) (Reps.one (show Kd.M (Kd.int .i64) _ _ _ 8927 [.int .i64 8927] from rfl) (Reps.one (show Kd.M (Kd.int .i64) _ _ _ 8928 [.int .i64 8928] from rfl) (Reps.one (show Kd.M (Kd.int .i64) _ _ _ 8941 [.int .i64 8941] from rfl) (Reps.none _ _)))))))))))))))); intro v444 w1 ho2 hb hg_ hnew_; clear hg_ hnew_; (first | rw [← Ny443.out] at ho2 | (simp only [Int.reduceToNat] at ho2; rw [← Ny443.out] at ho2)); have n0_ := Aside0.mk (Kd.R_lower ho2 (below_size (by repeat (first | (with_reducible first | exact HB.out | apply below_alloc | apply pw_below_drewN | apply below_drew1) | exact HB.out)))); have n1_ := Aside0.mk (below_step (by repeat (first | (with_reducible first | exact HB.out | apply below_alloc | apply pw_below_drewN | apply below_drew1) | exact HB.out)) hb); clear HB; have HO445 := n0_; have HB := n1_; clear n0_ n1_; clear hb ho2))
 go_ret
 exact ⟨_, by first | rfl | (simp [errW_none, errW_some] <;> rfl) | (simp [*, errW_none, errW_some] <;> rfl), by (with_reducible repeat (first | apply Kd.R_alloc | apply Kd.R_drewN | apply Kd.R_drew)); exact HO445.out, by repeat (first | (with_reducible first | exact HB.out | apply below_alloc | apply pw_below_drewN | apply below_drew1) | exact HB.out)⟩

/-! ### parquetryref03_Glyph: function 45 -/
def parquetryref03_Glyph.j0 : Nat → Int → Int → Int → Option (Int)
 | 0, _, _, _ => none
 | k + 1, x0, x3, x4 => if x3 = 0 then ((parquetryref03_lone.f false).bind fun t453 => ((parquetryref03_inPairs.f k t453 x0).bind fun bt456 => (if bt456.1 = 0 then (some x0) else (some bt456.2)))) else (some x4)
def parquetryref03_Glyph.f (k : Nat) (a0 : Int) : Option (Int) := (parquetryref03_Pair.f k a0).bind fun bt446 => (if bt446.1 = 0 then ((parquetryref03_others.f).bind fun t448 => ((parquetryref03_inRows.f k t448 a0).bind fun bt451 => (parquetryref03_Glyph.j0 k a0 bt451.1 bt451.2))) else (parquetryref03_Glyph.j0 k a0 bt446.1 bt446.2))
theorem parquetryref03_Glyph.mono_l : ∀ k, (∀ y0 y1 y2, LeO (parquetryref03_Glyph.j0 k y0 y1 y2) (parquetryref03_Glyph.j0 (k + 1) y0 y1 y2))
 | 0 => fun _ _ _ r h => by simp [parquetryref03_Glyph.j0] at h
 | k + 1 => by
  have ih0 := parquetryref03_Glyph.mono_l k
  ·intro y0 y1 y2
   unfold parquetryref03_Glyph.j0
   repeat' first
   | (with_reducible exact ih0 _ _ _)
   | (with_reducible exact parquetryref03_Pair.mono _ _)
   | (with_reducible exact parquetryref03_inPairs.mono _ _ _)
   | (with_reducible exact parquetryref03_inRows.mono _ _ _)
   | (with_reducible exact LeO.refl _)
   | (with_reducible exact LeO.none _)
   | (with_reducible refine LeO.ite ?_ ?_)
   | (with_reducible refine LeO.bind ?_ (fun _ => ?_))
   | exact ih0 _ _ _
   | exact parquetryref03_Pair.mono _ _
   | exact parquetryref03_inPairs.mono _ _ _
   | exact parquetryref03_inRows.mono _ _ _
   | exact LeO.none _
   | refine LeO.ite ?_ ?_
   | refine LeO.bind ?_ (fun _ => ?_)
theorem parquetryref03_Glyph.mono : ∀ a0 k, LeO (parquetryref03_Glyph.f k a0) (parquetryref03_Glyph.f (k + 1) a0) := by
 intro a0 k
 have ih0 := parquetryref03_Glyph.mono_l k
 unfold parquetryref03_Glyph.f
 repeat' first
   | (with_reducible exact ih0 _ _ _)
   | (with_reducible exact parquetryref03_Pair.mono _ _)
   | (with_reducible exact parquetryref03_inPairs.mono _ _ _)
   | (with_reducible exact parquetryref03_inRows.mono _ _ _)
   | (with_reducible exact LeO.refl _)
   | (with_reducible exact LeO.none _)
   | (with_reducible refine LeO.ite ?_ ?_)
   | (with_reducible refine LeO.bind ?_ (fun _ => ?_))
   | exact ih0 _ _ _
   | exact parquetryref03_Pair.mono _ _
   | exact parquetryref03_inPairs.mono _ _ _
   | exact parquetryref03_inRows.mono _ _ _
   | exact LeO.none _
   | refine LeO.ite ?_ ?_
   | refine LeO.bind ?_ (fun _ => ?_)
set_option maxHeartbeats 8000000 in
set_option maxRecDepth 100000 in
theorem parquetryref03_Glyph.calls (k : Nat) (a0 : Int) (r : Int) (w : World) (h : parquetryref03_Glyph.f k a0 = some r) :
  Calls Tryz.prog 45 #[.int .i64 a0] w fun e w' => e = .returned (.int .i64 r) ∧ Below w.heap.size w w' := by
 have HB := Aside0.mk (Below.refl w.heap.size w)
 have H : ((parquetryref03_Pair.f k a0).bind fun bt446 => (if bt446.1 = 0 then ((parquetryref03_others.f).bind fun t448 => ((parquetryref03_inRows.f k t448 a0).bind fun bt451 => (parquetryref03_Glyph.j0 k a0 bt451.1 bt451.2))) else (parquetryref03_Glyph.j0 k a0 bt446.1 bt446.2))) = some r := h
 clear h
 replace H := Option.bind_eq_some_iff.mp H
 obtain ⟨⟨t446, t447⟩, A20, H⟩ := H
 replace H : (if t446 = 0 then ((parquetryref03_others.f).bind fun t448 => ((parquetryref03_inRows.f k t448 a0).bind fun bt451 => (parquetryref03_Glyph.j0 k a0 bt451.1 bt451.2))) else (parquetryref03_Glyph.j0 k a0 t446 t447)) = some r := H
 have A2 := Aside0.mk A20
 clear A20
 have HC3 := Aside0.mk H
 clear H
 go_enter Tryz.func45, Tryz.ntmps45
 go_upto_if 11 with (first | ((with_reducible refine gate_callee (f := 89) rfl ?_); refine goesL_ (some 7) rfl rfl Tryz.func89 (by kernel_rfl) rfl #[.int .i64 a0] rfl (by (try simp only [List.map_toArray, List.map_cons, List.map_nil]); first | done | rfl | (simp only [List.length_drop, List.length_take]; rfl)) ?_; (with_reducible refine (parquetryref03_Pair.calls k a0 t446 t447 _ A2.out).mono ?_); rintro e w4 ⟨rfl, hb⟩; refine ⟨_, rfl, ?_⟩; have n0_ := Aside0.mk (below_step (by repeat (first | (with_reducible first | exact HB.out | apply below_alloc | apply pw_below_drewN | apply below_drew1) | exact HB.out)) hb); clear HB; have HB := n0_; clear n0_; (try clear hb); (try clear hb2); (try clear hk); (try clear hi)))
 (try simp only [Act.put, List.setIfInBounds_toArray, List.set_cons_zero, List.set_cons_succ])
 go_cut [3, 4] (fun v3 v4 wc => ∃ (kq : Nat) (x3_2 : Int) (x4_2 : Int), v3 = .int .i64 x3_2 ∧ v4 = .int .i64 x4_2 ∧ Aside0 (parquetryref03_Glyph.j0 kq a0 x3_2 x4_2 = some r) ∧ Aside0 (kq ≤ k) ∧ Aside0 (Below w.heap.size w wc))
 case first =>
  have H := HC3.out
  clear HC3
  by_cases c5 : t446 = 0
  ·rw [if_pos c5] at H
   have c5b0 : (t446 == 0) = true := beq_iff_eq.mpr c5
   have c5b1 : (t446 != 0) = false := bne_eq_false_iff_eq.mpr c5
   clear c5
   (first | rw [c5b0] | (simp only [i64_w, i32_w]; rw [c5b0]) | skip)
   replace H := Option.bind_eq_some_iff.mp H
   obtain ⟨t448, A60, H⟩ := H
   replace H : ((parquetryref03_inRows.f k t448 a0).bind fun bt451 => (parquetryref03_Glyph.j0 k a0 bt451.1 bt451.2)) = some r := H
   have A6 := Aside0.mk A60
   clear A60
   replace H := Option.bind_eq_some_iff.mp H
   obtain ⟨⟨t451, t452⟩, A70, H⟩ := H
   replace H : (parquetryref03_Glyph.j0 k a0 t451 t452) = some r := H
   have A7 := Aside0.mk A70
   clear A70
   have H' := Aside0.mk H
   clear H
   go_wp2_with (first | ((with_reducible refine gate_callee (f := 91) rfl ?_); refine goesL_ (some 13) rfl rfl Tryz.func91 (by kernel_rfl) rfl #[] rfl (by (try simp only [List.map_toArray, List.map_cons, List.map_nil]); first | done | rfl | (simp only [List.length_drop, List.length_take]; rfl)) ?_; (with_reducible refine (parquetryref03_others.calls  t448 _ A6.out).mono ?_); rintro e w8 ⟨v449, rfl, ho0, hb⟩; refine ⟨_, rfl, ?_⟩; have n0_ := Aside0.mk (Kd.R_lower ho0 (below_size (by repeat (first | (with_reducible first | exact HB.out | apply below_alloc | apply pw_below_drewN | apply below_drew1) | exact HB.out)))); have n1_ := Aside0.mk (below_step (by repeat (first | (with_reducible first | exact HB.out | apply below_alloc | apply pw_below_drewN | apply below_drew1) | exact HB.out)) hb); clear HB; have HO450 := n0_; have HB := n1_; clear n0_ n1_; (try clear hb); (try clear hb2); (try clear hk); (try clear hi); (try clear ho0); obtain ⟨Ao9, co9, eo9⟩ := Kd.R_slice HO450.out; subst eo9) | ((with_reducible refine gate_callee (f := 90) rfl ?_); refine goesL_ (some 15) rfl rfl Tryz.func90 (by kernel_rfl) rfl #[.slice Ao9 t448.length co9, .int .i64 a0] rfl (by (try simp only [List.map_toArray, List.map_cons, List.map_nil]); first | done | rfl | (simp only [List.length_drop, List.length_take]; rfl)) ?_; (with_reducible refine (parquetryref03_inRows.calls k _ _ t448 a0 t451 t452 _ ?side1 ?side2 A7.out).mono ?_); (case side1 => repeat (first | exact (Kd.R_reads' HO450.out).2.2 | (with_reducible refine Kd.C_alloc ?_ _) | (with_reducible refine Kd.C_drewN ?_ _) | (with_reducible refine Kd.C_drew ?_))); (case side2 => exact (Kd.R_reads' HO450.out).2.1); rintro e w' ⟨rfl, ⟨nd, rfl⟩⟩; refine ⟨_, rfl, ?_⟩))
   go_meet
   case rel => exact ⟨_, (t451), (t452), (by first | rfl | (simp; done) | (simp [*]; done)), (by first | rfl | (simp; done) | (simp [*]; done)), H', ⟨by first | omega | exact Nat.le_refl _⟩, ⟨by repeat (first | (with_reducible first | exact HB.out | apply below_alloc | apply pw_below_drewN | apply below_drew1) | exact HB.out)⟩⟩
  ·rw [if_neg c5] at H
   have c5b0 : (t446 == 0) = false := beq_eq_false_iff_ne.mpr c5
   have c5b1 : (t446 != 0) = true := bne_iff_ne.mpr c5
   (first | rw [c5b0] | (simp only [i64_w, i32_w]; rw [c5b0]) | skip)
   have H' := Aside0.mk H
   clear H
   go_wp2
   go_meet
   case rel => exact ⟨_, (t446), (t447), (by first | rfl | (simp; done) | (simp [*]; done)), (by first | rfl | (simp; done) | (simp [*]; done)), H', ⟨by first | omega | exact Nat.le_refl _⟩, ⟨by repeat (first | (with_reducible first | exact HB.out | apply below_alloc | apply pw_below_drewN | apply below_drew1) | exact HB.out)⟩⟩
 case rest =>
  clear HC3
  try clear p2
  try clear c4
  try clear c5
  try clear c5b0
  try clear c5b1
  try clear c8
  try clear c9
  obtain ⟨kq, x3_2, x4_2, rfl, rfl, HA, HJ2, HB⟩ := hcut
  cases kq with
  | zero => exact absurd HA.out (by simp [parquetryref03_Glyph.j0])
  | succ kj2 =>
   have H := HA.out
   clear HA
   simp only [parquetryref03_Glyph.j0] at H
   by_cases c10 : x3_2 = 0
   ·rw [if_pos c10] at H
    have c10b0 : (x3_2 == 0) = true := beq_iff_eq.mpr c10
    have c10b1 : (x3_2 != 0) = false := bne_eq_false_iff_eq.mpr c10
    clear c10
    replace H := Option.bind_eq_some_iff.mp H
    obtain ⟨t453, A110, H⟩ := H
    replace H : ((parquetryref03_inPairs.f kj2 t453 a0).bind fun bt456 => (if bt456.1 = 0 then (some a0) else (some bt456.2))) = some r := H
    have A11 := Aside0.mk A110
    clear A110
    replace H := Option.bind_eq_some_iff.mp H
    obtain ⟨⟨t456, t457⟩, A120, H⟩ := H
    replace H : (if t456 = 0 then (some a0) else (some t457)) = some r := H
    have A12 := Aside0.mk A120
    clear A120
    by_cases c13 : t456 = 0
    ·rw [if_pos c13] at H
     have c13b0 : (t456 == 0) = true := beq_iff_eq.mpr c13
     have c13b1 : (t456 != 0) = false := bne_eq_false_iff_eq.mpr c13
     clear c13
     obtain rfl := Option.some.inj H
     go_wp2_with (first | ((with_reducible refine gate_callee (f := 93) rfl ?_); refine goesL_ (some 21) rfl rfl Tryz.func93 (by kernel_rfl) rfl #[.bool false] rfl (by (try simp only [List.map_toArray, List.map_cons, List.map_nil]); first | done | rfl | (simp only [List.length_drop, List.length_take]; rfl)) ?_; (with_reducible refine (parquetryref03_lone.calls false t453 _ A11.out).mono ?_); rintro e w14 ⟨v454, rfl, ho0, hb⟩; refine ⟨_, rfl, ?_⟩; have n0_ := Aside0.mk (Kd.R_lower ho0 (below_size (by repeat (first | (with_reducible first | exact HB.out | apply below_alloc | apply pw_below_drewN | apply below_drew1) | exact HB.out)))); have n1_ := Aside0.mk (below_step (by repeat (first | (with_reducible first | exact HB.out | apply below_alloc | apply pw_below_drewN | apply below_drew1) | exact HB.out)) hb); clear HB; have HO455 := n0_; have HB := n1_; clear n0_ n1_; (try clear hb); (try clear hb2); (try clear hk); (try clear hi); (try clear ho0); obtain ⟨Ao15, co15, eo15⟩ := Kd.R_slice HO455.out; subst eo15) | ((with_reducible refine gate_callee (f := 92) rfl ?_); refine goesL_ (some 23) rfl rfl Tryz.func92 (by kernel_rfl) rfl #[.slice Ao15 t453.length co15, .int .i64 a0] rfl (by (try simp only [List.map_toArray, List.map_cons, List.map_nil]); first | done | rfl | (simp only [List.length_drop, List.length_take]; rfl)) ?_; (with_reducible refine (parquetryref03_inPairs.calls kj2 _ _ t453 a0 t456 t457 _ ?side1 ?side2 A12.out).mono ?_); (case side1 => repeat (first | exact (Kd.R_reads' HO455.out).2.2 | (with_reducible refine Kd.C_alloc ?_ _) | (with_reducible refine Kd.C_drewN ?_ _) | (with_reducible refine Kd.C_drew ?_))); (case side2 => exact (Kd.R_reads' HO455.out).2.1); rintro e w' ⟨rfl, ⟨nd, rfl⟩⟩; refine ⟨_, rfl, ?_⟩))
     go_ret
     exact ⟨by first | rfl | (simp [errW_none, errW_some] <;> rfl) | (simp [*, errW_none, errW_some] <;> rfl), by repeat (first | (with_reducible first | exact HB.out | apply below_alloc | apply pw_below_drewN | apply below_drew1) | exact HB.out)⟩
    ·rw [if_neg c13] at H
     have c13b0 : (t456 == 0) = false := beq_eq_false_iff_ne.mpr c13
     have c13b1 : (t456 != 0) = true := bne_iff_ne.mpr c13
     obtain rfl := Option.some.inj H
     go_wp2_with (first | ((with_reducible refine gate_callee (f := 93) rfl ?_); refine goesL_ (some 21) rfl rfl Tryz.func93 (by kernel_rfl) rfl #[.bool false] rfl (by (try simp only [List.map_toArray, List.map_cons, List.map_nil]); first | done | rfl | (simp only [List.length_drop, List.length_take]; rfl)) ?_; (with_reducible refine (parquetryref03_lone.calls false t453 _ A11.out).mono ?_); rintro e w16 ⟨v454, rfl, ho0, hb⟩; refine ⟨_, rfl, ?_⟩; have n0_ := Aside0.mk (Kd.R_lower ho0 (below_size (by repeat (first | (with_reducible first | exact HB.out | apply below_alloc | apply pw_below_drewN | apply below_drew1) | exact HB.out)))); have n1_ := Aside0.mk (below_step (by repeat (first | (with_reducible first | exact HB.out | apply below_alloc | apply pw_below_drewN | apply below_drew1) | exact HB.out)) hb); clear HB; have HO455 := n0_; have HB := n1_; clear n0_ n1_; (try clear hb); (try clear hb2); (try clear hk); (try clear hi); (try clear ho0); obtain ⟨Ao17, co17, eo17⟩ := Kd.R_slice HO455.out; subst eo17) | ((with_reducible refine gate_callee (f := 92) rfl ?_); refine goesL_ (some 23) rfl rfl Tryz.func92 (by kernel_rfl) rfl #[.slice Ao17 t453.length co17, .int .i64 a0] rfl (by (try simp only [List.map_toArray, List.map_cons, List.map_nil]); first | done | rfl | (simp only [List.length_drop, List.length_take]; rfl)) ?_; (with_reducible refine (parquetryref03_inPairs.calls kj2 _ _ t453 a0 t456 t457 _ ?side1 ?side2 A12.out).mono ?_); (case side1 => repeat (first | exact (Kd.R_reads' HO455.out).2.2 | (with_reducible refine Kd.C_alloc ?_ _) | (with_reducible refine Kd.C_drewN ?_ _) | (with_reducible refine Kd.C_drew ?_))); (case side2 => exact (Kd.R_reads' HO455.out).2.1); rintro e w' ⟨rfl, ⟨nd, rfl⟩⟩; refine ⟨_, rfl, ?_⟩))
     go_ret
     exact ⟨by first | rfl | (simp [errW_none, errW_some] <;> rfl) | (simp [*, errW_none, errW_some] <;> rfl), by repeat (first | (with_reducible first | exact HB.out | apply below_alloc | apply pw_below_drewN | apply below_drew1) | exact HB.out)⟩
   ·rw [if_neg c10] at H
    have c10b0 : (x3_2 == 0) = false := beq_eq_false_iff_ne.mpr c10
    have c10b1 : (x3_2 != 0) = true := bne_iff_ne.mpr c10
    obtain rfl := Option.some.inj H
    go_wp2
    go_ret
    exact ⟨by first | rfl | (simp [errW_none, errW_some] <;> rfl) | (simp [*, errW_none, errW_some] <;> rfl), by repeat (first | (with_reducible first | exact HB.out | apply below_alloc | apply pw_below_drewN | apply below_drew1) | exact HB.out)⟩

/-! ### parquetryref16_Shown: function 20 -/
def parquetryref16_Shown.f (k : Nat) (a0 : Int) (a1 : Int) : Option (Int) := if (Int.tmod a1 2) = 0 then (some a0) else ((parquetryref03_Glyph.f k a0).bind fun t458 => (some t458))
theorem parquetryref16_Shown.mono : ∀ a0 a1 k, LeO (parquetryref16_Shown.f k a0 a1) (parquetryref16_Shown.f (k + 1) a0 a1) := by
 intro a0 a1 k
 unfold parquetryref16_Shown.f
 repeat' first
   | (with_reducible exact parquetryref03_Glyph.mono _ _)
   | (with_reducible exact LeO.refl _)
   | (with_reducible exact LeO.none _)
   | (with_reducible refine LeO.ite ?_ ?_)
   | (with_reducible refine LeO.bind ?_ (fun _ => ?_))
   | exact parquetryref03_Glyph.mono _ _
   | exact LeO.none _
   | refine LeO.ite ?_ ?_
   | refine LeO.bind ?_ (fun _ => ?_)
set_option maxHeartbeats 8000000 in
set_option maxRecDepth 100000 in
theorem parquetryref16_Shown.calls (k : Nat) (a0 : Int) (a1 : Int) (r : Int) (w : World) (h : parquetryref16_Shown.f k a0 a1 = some r) :
  Calls Tryz.prog 20 #[.int .i64 a0, .int .i64 a1] w fun e w' => e = .returned (.int .i64 r) ∧ Below w.heap.size w w' := by
 have HB := Aside0.mk (Below.refl w.heap.size w)
 have H : (if (Int.tmod a1 2) = 0 then (some a0) else ((parquetryref03_Glyph.f k a0).bind fun t458 => (some t458))) = some r := h
 clear h
 by_cases c3 : (Int.tmod a1 2) = 0
 ·rw [if_pos c3] at H
  have c3b0 : ((Int.tmod a1 2) == 0) = true := beq_iff_eq.mpr c3
  have c3b1 : ((Int.tmod a1 2) != 0) = false := bne_eq_false_iff_eq.mpr c3
  clear c3
  obtain rfl := Option.some.inj H
  go_enter Tryz.func20, Tryz.ntmps20
  go_wp2
  go_ret
  exact ⟨by first | rfl | (simp [errW_none, errW_some] <;> rfl) | (simp [*, errW_none, errW_some] <;> rfl), by repeat (first | (with_reducible first | exact HB.out | apply below_alloc | apply pw_below_drewN | apply below_drew1) | exact HB.out)⟩
 ·rw [if_neg c3] at H
  have c3b0 : ((Int.tmod a1 2) == 0) = false := beq_eq_false_iff_ne.mpr c3
  have c3b1 : ((Int.tmod a1 2) != 0) = true := bne_iff_ne.mpr c3
  replace H := Option.bind_eq_some_iff.mp H
  obtain ⟨t458, A40, H⟩ := H
  replace H : (some t458) = some r := H
  have A4 := Aside0.mk A40
  clear A40
  obtain rfl := Option.some.inj H
  go_enter Tryz.func20, Tryz.ntmps20
  go_wp2_with (first | ((with_reducible refine gate_callee (f := 45) rfl ?_); refine goesL_ (some 9) rfl rfl Tryz.func45 (by kernel_rfl) rfl #[.int .i64 a0] rfl (by (try simp only [List.map_toArray, List.map_cons, List.map_nil]); first | done | rfl | (simp only [List.length_drop, List.length_take]; rfl)) ?_; (with_reducible refine (parquetryref03_Glyph.calls k a0 t458 _ A4.out).mono ?_); rintro e w5 ⟨rfl, hb⟩; refine ⟨_, rfl, ?_⟩; have n0_ := Aside0.mk (below_step (by repeat (first | (with_reducible first | exact HB.out | apply below_alloc | apply pw_below_drewN | apply below_drew1) | exact HB.out)) hb); clear HB; have HB := n0_; clear n0_; (try clear hb); (try clear hb2); (try clear hk); (try clear hi)))
  go_ret
  exact ⟨by first | rfl | (simp [errW_none, errW_some] <;> rfl) | (simp [*, errW_none, errW_some] <;> rfl), by repeat (first | (with_reducible first | exact HB.out | apply below_alloc | apply pw_below_drewN | apply below_drew1) | exact HB.out)⟩

/-! ### parquetrylaw16_BidiShows: function 6 -/
def parquetrylaw16_BidiShows.f (k : Nat) (a0 : Int) (a1 : Int) : Option (Bool) := (bidi_Shown.f a0 a1).bind fun t459 => ((parquetryref16_Shown.f k a0 a1).bind fun t460 => (if t459 = t460 then ((bidi_Shown.f a0 1).bind fun t461 => ((parquetryref16_Shown.f k a0 1).bind fun t462 => (if t461 = t462 then ((parquetrylaw16_awake.f k).bind fun t463 => (some t463)) else (some false)))) else (some false)))
theorem parquetrylaw16_BidiShows.mono : ∀ a0 a1 k, LeO (parquetrylaw16_BidiShows.f k a0 a1) (parquetrylaw16_BidiShows.f (k + 1) a0 a1) := by
 intro a0 a1 k
 unfold parquetrylaw16_BidiShows.f
 repeat' first
   | (with_reducible exact parquetrylaw16_awake.mono _)
   | (with_reducible exact parquetryref16_Shown.mono _ _ _)
   | (with_reducible exact LeO.refl _)
   | (with_reducible exact LeO.none _)
   | (with_reducible refine LeO.ite ?_ ?_)
   | (with_reducible refine LeO.bind ?_ (fun _ => ?_))
   | exact parquetrylaw16_awake.mono _
   | exact parquetryref16_Shown.mono _ _ _
   | exact LeO.none _
   | refine LeO.ite ?_ ?_
   | refine LeO.bind ?_ (fun _ => ?_)
set_option maxHeartbeats 8000000 in
set_option maxRecDepth 100000 in
theorem parquetrylaw16_BidiShows.calls (k : Nat) (a0 : Int) (a1 : Int) (r : Bool) (w : World) (h : parquetrylaw16_BidiShows.f k a0 a1 = some r) :
  Calls Tryz.prog 6 #[.int .i64 a0, .int .i64 a1] w fun e w' => e = .returned (.bool r) ∧ Below w.heap.size w w' := by
 have HB := Aside0.mk (Below.refl w.heap.size w)
 have H : ((bidi_Shown.f a0 a1).bind fun t459 => ((parquetryref16_Shown.f k a0 a1).bind fun t460 => (if t459 = t460 then ((bidi_Shown.f a0 1).bind fun t461 => ((parquetryref16_Shown.f k a0 1).bind fun t462 => (if t461 = t462 then ((parquetrylaw16_awake.f k).bind fun t463 => (some t463)) else (some false)))) else (some false)))) = some r := h
 clear h
 replace H := Option.bind_eq_some_iff.mp H
 obtain ⟨t459, A30, H⟩ := H
 replace H : ((parquetryref16_Shown.f k a0 a1).bind fun t460 => (if t459 = t460 then ((bidi_Shown.f a0 1).bind fun t461 => ((parquetryref16_Shown.f k a0 1).bind fun t462 => (if t461 = t462 then ((parquetrylaw16_awake.f k).bind fun t463 => (some t463)) else (some false)))) else (some false))) = some r := H
 have A3 := Aside0.mk A30
 clear A30
 replace H := Option.bind_eq_some_iff.mp H
 obtain ⟨t460, A40, H⟩ := H
 replace H : (if t459 = t460 then ((bidi_Shown.f a0 1).bind fun t461 => ((parquetryref16_Shown.f k a0 1).bind fun t462 => (if t461 = t462 then ((parquetrylaw16_awake.f k).bind fun t463 => (some t463)) else (some false)))) else (some false)) = some r := H
 have A4 := Aside0.mk A40
 clear A40
 by_cases c5 : t459 = t460
 ·rw [if_pos c5] at H
  have c5b0 : (t459 == t460) = true := beq_iff_eq.mpr c5
  have c5b1 : (t459 != t460) = false := bne_eq_false_iff_eq.mpr c5
  clear c5
  replace H := Option.bind_eq_some_iff.mp H
  obtain ⟨t461, A60, H⟩ := H
  replace H : ((parquetryref16_Shown.f k a0 1).bind fun t462 => (if t461 = t462 then ((parquetrylaw16_awake.f k).bind fun t463 => (some t463)) else (some false))) = some r := H
  have A6 := Aside0.mk A60
  clear A60
  replace H := Option.bind_eq_some_iff.mp H
  obtain ⟨t462, A70, H⟩ := H
  replace H : (if t461 = t462 then ((parquetrylaw16_awake.f k).bind fun t463 => (some t463)) else (some false)) = some r := H
  have A7 := Aside0.mk A70
  clear A70
  by_cases c8 : t461 = t462
  ·rw [if_pos c8] at H
   have c8b0 : (t461 == t462) = true := beq_iff_eq.mpr c8
   have c8b1 : (t461 != t462) = false := bne_eq_false_iff_eq.mpr c8
   clear c8
   replace H := Option.bind_eq_some_iff.mp H
   obtain ⟨t463, A90, H⟩ := H
   replace H : (some t463) = some r := H
   have A9 := Aside0.mk A90
   clear A90
   obtain rfl := Option.some.inj H
   go_enter Tryz.func6, Tryz.ntmps6
   go_wp2_with (first | ((with_reducible refine gate_callee (f := 19) rfl ?_); refine goesL_ (some 7) rfl rfl Tryz.func19 (by kernel_rfl) rfl #[.int .i64 a0, .int .i64 a1] rfl (by (try simp only [List.map_toArray, List.map_cons, List.map_nil]); first | done | rfl | (simp only [List.length_drop, List.length_take]; rfl)) ?_; (with_reducible refine (bidi_Shown.calls a0 a1 t459 _ A3.out).mono ?_); rintro e w10 ⟨rfl, hb⟩; refine ⟨_, rfl, ?_⟩; have n0_ := Aside0.mk (below_step (by repeat (first | (with_reducible first | exact HB.out | apply below_alloc | apply pw_below_drewN | apply below_drew1) | exact HB.out)) hb); clear HB; have HB := n0_; clear n0_; (try clear hb); (try clear hb2); (try clear hk); (try clear hi)) | ((with_reducible refine gate_callee (f := 20) rfl ?_); refine goesL_ (some 10) rfl rfl Tryz.func20 (by kernel_rfl) rfl #[.int .i64 a0, .int .i64 a1] rfl (by (try simp only [List.map_toArray, List.map_cons, List.map_nil]); first | done | rfl | (simp only [List.length_drop, List.length_take]; rfl)) ?_; (with_reducible refine (parquetryref16_Shown.calls k a0 a1 t460 _ A4.out).mono ?_); rintro e w11 ⟨rfl, hb⟩; refine ⟨_, rfl, ?_⟩; have n0_ := Aside0.mk (below_step (by repeat (first | (with_reducible first | exact HB.out | apply below_alloc | apply pw_below_drewN | apply below_drew1) | exact HB.out)) hb); clear HB; have HB := n0_; clear n0_; (try clear hb); (try clear hb2); (try clear hk); (try clear hi)) | (go_at_call 19; (with_reducible refine (bidi_Shown.calls a0 1 t461 _ A6.out).mono ?_); rintro e w12 ⟨rfl, hb⟩; have n0_ := Aside0.mk (below_step (by repeat (first | (with_reducible first | exact HB.out | apply below_alloc | apply pw_below_drewN | apply below_drew1) | exact HB.out)) hb); clear HB; have HB := n0_; clear n0_; (try clear hb); (try clear hb2); (try clear hk); (try clear hi)) | (go_at_call 20; (with_reducible refine (parquetryref16_Shown.calls k a0 1 t462 _ A7.out).mono ?_); rintro e w13 ⟨rfl, hb⟩; have n0_ := Aside0.mk (below_step (by repeat (first | (with_reducible first | exact HB.out | apply below_alloc | apply pw_below_drewN | apply below_drew1) | exact HB.out)) hb); clear HB; have HB := n0_; clear n0_; (try clear hb); (try clear hb2); (try clear hk); (try clear hi)) | (go_at_call 10; (with_reducible refine (parquetrylaw16_awake.calls k  t463 _ A9.out).mono ?_); rintro e w14 ⟨rfl, hb⟩; have n0_ := Aside0.mk (below_step (by repeat (first | (with_reducible first | exact HB.out | apply below_alloc | apply pw_below_drewN | apply below_drew1) | exact HB.out)) hb); clear HB; have HB := n0_; clear n0_; (try clear hb); (try clear hb2); (try clear hk); (try clear hi)))
   go_ret
   exact ⟨by first | rfl | (simp [errW_none, errW_some] <;> rfl) | (simp [*, errW_none, errW_some] <;> rfl), by repeat (first | (with_reducible first | exact HB.out | apply below_alloc | apply pw_below_drewN | apply below_drew1) | exact HB.out)⟩
  ·rw [if_neg c8] at H
   have c8b0 : (t461 == t462) = false := beq_eq_false_iff_ne.mpr c8
   have c8b1 : (t461 != t462) = true := bne_iff_ne.mpr c8
   obtain rfl := Option.some.inj H
   go_enter Tryz.func6, Tryz.ntmps6
   go_wp2_with (first | ((with_reducible refine gate_callee (f := 19) rfl ?_); refine goesL_ (some 7) rfl rfl Tryz.func19 (by kernel_rfl) rfl #[.int .i64 a0, .int .i64 a1] rfl (by (try simp only [List.map_toArray, List.map_cons, List.map_nil]); first | done | rfl | (simp only [List.length_drop, List.length_take]; rfl)) ?_; (with_reducible refine (bidi_Shown.calls a0 a1 t459 _ A3.out).mono ?_); rintro e w15 ⟨rfl, hb⟩; refine ⟨_, rfl, ?_⟩; have n0_ := Aside0.mk (below_step (by repeat (first | (with_reducible first | exact HB.out | apply below_alloc | apply pw_below_drewN | apply below_drew1) | exact HB.out)) hb); clear HB; have HB := n0_; clear n0_; (try clear hb); (try clear hb2); (try clear hk); (try clear hi)) | ((with_reducible refine gate_callee (f := 20) rfl ?_); refine goesL_ (some 10) rfl rfl Tryz.func20 (by kernel_rfl) rfl #[.int .i64 a0, .int .i64 a1] rfl (by (try simp only [List.map_toArray, List.map_cons, List.map_nil]); first | done | rfl | (simp only [List.length_drop, List.length_take]; rfl)) ?_; (with_reducible refine (parquetryref16_Shown.calls k a0 a1 t460 _ A4.out).mono ?_); rintro e w16 ⟨rfl, hb⟩; refine ⟨_, rfl, ?_⟩; have n0_ := Aside0.mk (below_step (by repeat (first | (with_reducible first | exact HB.out | apply below_alloc | apply pw_below_drewN | apply below_drew1) | exact HB.out)) hb); clear HB; have HB := n0_; clear n0_; (try clear hb); (try clear hb2); (try clear hk); (try clear hi)) | (go_at_call 19; (with_reducible refine (bidi_Shown.calls a0 1 t461 _ A6.out).mono ?_); rintro e w17 ⟨rfl, hb⟩; have n0_ := Aside0.mk (below_step (by repeat (first | (with_reducible first | exact HB.out | apply below_alloc | apply pw_below_drewN | apply below_drew1) | exact HB.out)) hb); clear HB; have HB := n0_; clear n0_; (try clear hb); (try clear hb2); (try clear hk); (try clear hi)) | (go_at_call 20; (with_reducible refine (parquetryref16_Shown.calls k a0 1 t462 _ A7.out).mono ?_); rintro e w18 ⟨rfl, hb⟩; have n0_ := Aside0.mk (below_step (by repeat (first | (with_reducible first | exact HB.out | apply below_alloc | apply pw_below_drewN | apply below_drew1) | exact HB.out)) hb); clear HB; have HB := n0_; clear n0_; (try clear hb); (try clear hb2); (try clear hk); (try clear hi)))
   go_ret
   exact ⟨by first | rfl | (simp [errW_none, errW_some] <;> rfl) | (simp [*, errW_none, errW_some] <;> rfl), by repeat (first | (with_reducible first | exact HB.out | apply below_alloc | apply pw_below_drewN | apply below_drew1) | exact HB.out)⟩
 ·rw [if_neg c5] at H
  have c5b0 : (t459 == t460) = false := beq_eq_false_iff_ne.mpr c5
  have c5b1 : (t459 != t460) = true := bne_iff_ne.mpr c5
  obtain rfl := Option.some.inj H
  go_enter Tryz.func6, Tryz.ntmps6
  go_wp2_with (first | ((with_reducible refine gate_callee (f := 19) rfl ?_); refine goesL_ (some 7) rfl rfl Tryz.func19 (by kernel_rfl) rfl #[.int .i64 a0, .int .i64 a1] rfl (by (try simp only [List.map_toArray, List.map_cons, List.map_nil]); first | done | rfl | (simp only [List.length_drop, List.length_take]; rfl)) ?_; (with_reducible refine (bidi_Shown.calls a0 a1 t459 _ A3.out).mono ?_); rintro e w19 ⟨rfl, hb⟩; refine ⟨_, rfl, ?_⟩; have n0_ := Aside0.mk (below_step (by repeat (first | (with_reducible first | exact HB.out | apply below_alloc | apply pw_below_drewN | apply below_drew1) | exact HB.out)) hb); clear HB; have HB := n0_; clear n0_; (try clear hb); (try clear hb2); (try clear hk); (try clear hi)) | ((with_reducible refine gate_callee (f := 20) rfl ?_); refine goesL_ (some 10) rfl rfl Tryz.func20 (by kernel_rfl) rfl #[.int .i64 a0, .int .i64 a1] rfl (by (try simp only [List.map_toArray, List.map_cons, List.map_nil]); first | done | rfl | (simp only [List.length_drop, List.length_take]; rfl)) ?_; (with_reducible refine (parquetryref16_Shown.calls k a0 a1 t460 _ A4.out).mono ?_); rintro e w20 ⟨rfl, hb⟩; refine ⟨_, rfl, ?_⟩; have n0_ := Aside0.mk (below_step (by repeat (first | (with_reducible first | exact HB.out | apply below_alloc | apply pw_below_drewN | apply below_drew1) | exact HB.out)) hb); clear HB; have HB := n0_; clear n0_; (try clear hb); (try clear hb2); (try clear hk); (try clear hi)))
  go_ret
  exact ⟨by first | rfl | (simp [errW_none, errW_some] <;> rfl) | (simp [*, errW_none, errW_some] <;> rfl), by repeat (first | (with_reducible first | exact HB.out | apply below_alloc | apply pw_below_drewN | apply below_drew1) | exact HB.out)⟩

/-- THE ONE PURE STATEMENT of parquetrylaw16_BidiShows: yours. -/
def parquetrylaw16_BidiShows.Pure : Prop := ∀ (a0 : Int) (a1 : Int), (Lit.int .i64 a0).wf = true → (Lit.int .i64 a1).wf = true → ∃ k, parquetrylaw16_BidiShows.f k a0 a1 = some true
theorem parquetrylaw16_BidiShows.walk (P : parquetrylaw16_BidiShows.Pure) (a0 : Int) (a1 : Int) (w : World) (w0 : (Lit.int .i64 a0).wf = true) (w1 : (Lit.int .i64 a1).wf = true) :
  Calls Tryz.prog 6 #[.int .i64 a0, .int .i64 a1] w fun e w' => e = .returned (.bool true) ∧ Below w.heap.size w w' := by
 obtain ⟨k, h⟩ := P a0 a1 w0 w1
 refine (parquetrylaw16_BidiShows.calls k a0 a1 true w h).mono ?_
 rintro e w' ⟨rfl, hd⟩
 exact ⟨rfl, hd⟩

end Go.Proofs.YtdpifkhkemeclaaGreat.PZ
