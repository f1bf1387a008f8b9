/- mirror.find, walked: a sign's counterpart, by the table. -/
import Derived.Test.YtdpifkhkemeclaaDoorMSea
import Derived.OwnWalk
import Derived.Test.YtdpifkhkemeclaaDoorWMore
import Derived.RegionTactic
import Derived.Deep.CutBlock
import Derived.Deep.DeepCutAuto
namespace Go.Proofs.YtdpifkhkemeclaaDoor
open Go.RowKit Go.Proofs.YtdpifkhkemeclaaDoorW.PrintWords
set_option linter.unusedVariables false
set_option linter.unusedSimpArgs false
/-- What a row says of a code in it. -/
def tellR (a b p : Int) (br : Bool) (code : Int) : Int × Int × Bool :=
  if 1 < p ∧ code ≠ a ∧ code ≠ b ∧ b - a = p then (0, 0, false)
  else if (code - a) / p % 2 = 0 then (1, code + p, br) else (2, code - p, br)
def findP (code : Int) : Int × Int × Bool := if hitS code = true then tellR (frS (bs code)) (toS (bs code)) (apS (bs code)) (brS (bs code)) code else (0, 0, false)
def mirror_find.f (a0 : Int) : Option (Int × Int × Bool) := some (findP a0)
theorem row_good : ∀ k, k < 38 → 0 ≤ frS k ∧ frS k ≤ toS k ∧ toS k ≤ 70000 ∧ 1 ≤ apS k ∧ apS k ≤ 100 := by
  intro k hk
  have h : (List.range 38).all (fun k => decide (0 ≤ frS k ∧ frS k ≤ toS k ∧ toS k ≤ 70000 ∧ 1 ≤ apS k ∧ apS k ≤ 100)) = true := by kernel_rfl
  exact of_decide_eq_true (List.all_eq_true.1 h k (List.mem_range.2 hk))
theorem tri3 {x y r1 r2 : Int} {z r3 : Bool} (h : (x, y, z) = (r1, r2, r3)) : Ending.returned (Value.tuple #[.int .i64 x, .int .i64 y, .bool z]) = .returned (.tuple #[.int .i64 r1, .int .i64 r2, .bool r3]) := by
  cases h; rfl
set_option maxRecDepth 100000 in
set_option maxHeartbeats 4000000 in
theorem mirror_find.calls (a0 : Int) (r1 r2 : Int) (r3 : Bool) (w : World) (h : mirror_find.f a0 = some (r1, r2, r3)) :
    Calls Tryd.prog 37 #[.int .i64 a0] w fun e w' => e = .returned (.tuple #[.int .i64 r1, .int .i64 r2, .bool r3]) ∧ Below w.heap.size w w' := by
  have h := Option.some.inj h
  have hs := search_any (w.heap.size + 1) a0 ((w.alloc (.cells rowV 79)).alloc (.cells rowV 79)) (by have := heap_alloc_new (w.alloc (.cells rowV 79)) (.cells rowV 79); simpa using this) (by simp)
  obtain ⟨RV, hRV⟩ : ∃ RV, RV = rowV := ⟨_, rfl⟩
  have Rat : Hid (∀ k, k < 38 → RV[k * 4]? = some (.int .i64 (frS k)) ∧ RV[k * 4 + 1]? = some (.int .i64 (toS k)) ∧ RV[k * 4 + 2]? = some (.int .i64 (apS k)) ∧ RV[k * 4 + 3]? = some (.bool (brS k))) := Lib.hid (by rw [hRV]; exact rowV_at)
  have Rrows : Hid (∀ w, Calls Tryd.prog 54 #[] w fun e w' => e = .returned (.agg RV) ∧ w' = w.alloc (.cells RV 79)) := Lib.hid (by rw [hRV]; exact rows_any)
  have Rsz : Hid ((Tryd.prog.info? 79).map (·.size) = some RV.size) := Lib.hid (by rw [hRV, size79]; rfl)
  have Rzs : Hid (rowZ.size = RV.size) := Lib.hid (by rw [hRV]; exact zs79)
  have Rone : Hid (RV.all (·.oneCell') = true) := Lib.hid (by rw [hRV]; exact one79)
  rw [← hRV] at hs
  clear hRV
  cases hh : hitS a0 with
  | false =>
    have Hr : Hid (r1 = 0 ∧ r2 = 0 ∧ r3 = false) := by
      unfold findP at h
      rw [hh] at h
      simp at h
      exact Lib.hid ⟨h.1.symm, h.2.1.symm, by simpa using h.2.2⟩
    rw [hh] at hs
    have Hs := Lib.hid hs
    clear hs hh h
    go_enter Tryd.func37, Tryd.ntmps37
    go_wp2_with (first
      | (go_at_call 54; with_reducible refine (Rrows.out _).mono ?_; rintro e w1 ⟨rfl, rfl⟩)
      | (refine wpList_alloc79 rfl rfl ?_)
      | (refine wpList_store_row rfl 79 (.tmp 5) (.tmp 10) rfl (w.alloc (.cells RV 79)).heap.size RV rfl rfl 79 rowZ (heap_alloc_new _ _) Rsz.out Rzs.out Rone.out ?_; rw [set_alloc])
      | (go_at_call 55; with_reducible refine Hs.out.mono ?_; rintro e w2 ⟨rfl, hb2⟩; have HB2 := Lib.hid hb2; clear hb2))
    go_ret3
    refine ⟨by rw [Hr.out.1, Hr.out.2.1, Hr.out.2.2]; rfl, ?_⟩
    exact (((Below.refl _ _).alloc (Nat.le_refl _) _).alloc (by simp) _).trans (HB2.out.mono (by simp; omega))
  | true =>
    have hk38 : bs a0 < 38 := by
      unfold hitS at hh
      simp at hh
      exact hh.1
    have hside : sideP (frS (bs a0)) (toS (bs a0)) a0 = 0 := by
      unfold hitS at hh
      simp at hh
      exact hh.2
    obtain ⟨k, hk⟩ : ∃ k, k = bs a0 := ⟨_, rfl⟩
    have hr : tellR (frS k) (toS k) (apS k) (brS k) a0 = (r1, r2, r3) := by
      rw [hk, ← h]
      unfold findP
      rw [if_pos hh]
    rw [hh, ← hk] at hs
    rw [← hk] at hk38 hside
    obtain ⟨g0, g1, g2, g3, g4⟩ := row_good k hk38
    obtain ⟨q0, q1, q2, q3⟩ := Rat.out k hk38
    have Q0 := Lib.hid q0
    have Q1 := Lib.hid q1
    have Q2 := Lib.hid q2
    have Q3 := Lib.hid q3
    clear q0 q1 q2 q3
    obtain ⟨A, hA⟩ : ∃ A, A = frS k := ⟨_, rfl⟩
    obtain ⟨B, hB⟩ : ∃ B, B = toS k := ⟨_, rfl⟩
    obtain ⟨C, hC⟩ : ∃ C, C = apS k := ⟨_, rfl⟩
    obtain ⟨D, hD⟩ : ∃ D, D = brS k := ⟨_, rfl⟩
    rw [← hA, ← hB, ← hC, ← hD] at hr
    rw [← hA] at hside g0 g1
    rw [← hB] at hside g1 g2
    rw [← hC] at g3 g4
    have hAc : A ≤ a0 ∧ a0 ≤ B := by
      unfold sideP at hside
      split at hside
      · omega
      · split at hside <;> omega
    obtain ⟨hAc1, hAc2⟩ := hAc
    have Hs := Lib.hid hs
    have Hr := Lib.hid hr
    have HA := Lib.hid hA
    have HB := Lib.hid hB
    have HC := Lib.hid hC
    have HD := Lib.hid hD
    have hk' : (k : Int) < 38 := by omega
    clear hs hh h hk hr hA hB hC hD hside
    have Hcell : Hid (∀ w2, Below ((w.alloc (.cells RV 79)).alloc (.cells RV 79)).heap.size ((w.alloc (.cells RV 79)).alloc (.cells RV 79)) w2 → w2.cell? ⟨w.heap.size + 1, k * 4, none⟩ = some (.int .i64 A) ∧ w2.cell? ⟨w.heap.size + 1, k * 4 + 1, none⟩ = some (.int .i64 B) ∧ w2.cell? ⟨w.heap.size + 1, k * 4 + 2, none⟩ = some (.int .i64 C) ∧ w2.cell? ⟨w.heap.size + 1, k * 4 + 3, none⟩ = some (.bool D)) := Lib.hid (fun w2 hb2 => by
      have hnew : ((w.alloc (.cells RV 79)).alloc (.cells RV 79)).heap[w.heap.size + 1]? = some (.cells RV 79 (0, 0)) := by have := heap_alloc_new (w.alloc (.cells RV 79)) (.cells RV 79); simpa using this
      have hlt : w.heap.size + 1 < ((w.alloc (.cells RV 79)).alloc (.cells RV 79)).heap.size := by simp
      refine ⟨?_, ?_, ?_, ?_⟩
      · rw [hb2.cell hlt, cell_of_row _ _ _ _ _ _ hnew, HA.out]; exact Q0.out
      · rw [hb2.cell hlt, cell_of_row _ _ _ _ _ _ hnew, HB.out]; exact Q1.out
      · rw [hb2.cell hlt, cell_of_row _ _ _ _ _ _ hnew, HC.out]; exact Q2.out
      · rw [hb2.cell hlt, cell_of_row _ _ _ _ _ _ hnew, HD.out]; exact Q3.out)
    have HQ1 : Hid (((a0 - A) / C).tmod 2 = (a0 - A) / C % 2) := Lib.hid (Int.tmod_eq_emod_of_nonneg (Int.ediv_nonneg (by omega) (by omega)))
    have HQ2 : Hid (((B - A) / C).tmod 2 = (B - A) / C % 2) := Lib.hid (Int.tmod_eq_emod_of_nonneg (Int.ediv_nonneg (by omega) (by omega)))
    have HQ3 : Hid (a0 - A = 0 → (a0 - A) / C % 2 = 0) := Lib.hid (fun e => by rw [e]; simp)
    have HQ4 : Hid (a0 = B → (a0 - A) / C = (B - A) / C) := Lib.hid (fun e => by rw [e])
    by_cases h1 : 1 < C
    · have b1 : decide (C > 1) = true := decide_eq_true h1
      have c0 : ¬ C = 0 := by omega
      go_enter Tryd.func37, Tryd.ntmps37
      go_upto_if 18 with (first
      | (go_at_call 54; with_reducible refine (Rrows.out _).mono ?_; rintro e w1 ⟨rfl, rfl⟩)
      | (refine wpList_alloc79 rfl rfl ?_)
      | (refine wpList_store_row rfl 79 (.tmp 5) (.tmp 10) rfl (w.alloc (.cells RV 79)).heap.size RV rfl rfl 79 rowZ (heap_alloc_new _ _) Rsz.out Rzs.out Rone.out ?_; rw [set_alloc])
      | (go_at_call 55; with_reducible refine Hs.out.mono ?_; rintro e w2 ⟨rfl, hb2⟩; obtain ⟨z0, z1, z2, z3⟩ := Hcell.out w2 hb2; have HB2 := Lib.hid hb2; clear hb2))
      clear Rat Rrows Rsz Rzs Rone Hs Hcell Q0 Q1 Q2 Q3
      go_wp2
      all_goals (try go_region)
      all_goals (try go_wp2)
      all_goals (try go_ret3)
      all_goals
        have hbw : Below w.heap.size w w2 := (((Below.refl _ _).alloc (Nat.le_refl _) _).alloc (by simp) _).trans (HB2.out.mono (by simp; omega))
        refine ⟨tri3 ?_, by repeat (first | (with_reducible first | exact hbw | apply below_alloc | apply pw_below_drewN | apply below_drew1) | exact hbw)⟩
        rw [← Hr.out]
        have hq1 := HQ1.out
        have hq2 := HQ2.out
        try simp only [bne_iff_ne, ne_eq, beq_iff_eq, beq_eq_false_iff_ne, bne_eq_false_iff_eq] at *
        unfold tellR
        rcases Classical.em (a0 - A = 0) with x1 | x1 <;> rcases Classical.em (a0 = B) with x2 | x2 <;> (try have y1 := HQ3.out x1) <;> (try have y2 := HQ4.out x2) <;>
        (repeat' split) <;> (first | rfl | (exfalso; omega) | (refine Prod.ext (by first | rfl | omega) (Prod.ext (by first | rfl | (simp only []; omega)) rfl)))
    · have b1 : decide (C > 1) = false := decide_eq_false h1
      have hC1 : C = 1 := by omega
      subst hC1
      go_enter Tryd.func37, Tryd.ntmps37
      go_upto_if 18 with (first
      | (go_at_call 54; with_reducible refine (Rrows.out _).mono ?_; rintro e w1 ⟨rfl, rfl⟩)
      | (refine wpList_alloc79 rfl rfl ?_)
      | (refine wpList_store_row rfl 79 (.tmp 5) (.tmp 10) rfl (w.alloc (.cells RV 79)).heap.size RV rfl rfl 79 rowZ (heap_alloc_new _ _) Rsz.out Rzs.out Rone.out ?_; rw [set_alloc])
      | (go_at_call 55; with_reducible refine Hs.out.mono ?_; rintro e w2 ⟨rfl, hb2⟩; obtain ⟨z0, z1, z2, z3⟩ := Hcell.out w2 hb2; have HB2 := Lib.hid hb2; clear hb2))
      clear Rat Rrows Rsz Rzs Rone Hs Hcell Q0 Q1 Q2 Q3
      go_wp2
      all_goals (try go_region)
      all_goals (try go_wp2)
      all_goals (try go_ret3)
      all_goals
        have hbw : Below w.heap.size w w2 := (((Below.refl _ _).alloc (Nat.le_refl _) _).alloc (by simp) _).trans (HB2.out.mono (by simp; omega))
        refine ⟨tri3 ?_, by repeat (first | (with_reducible first | exact hbw | apply below_alloc | apply pw_below_drewN | apply below_drew1) | exact hbw)⟩
        rw [← Hr.out]
        have hq1 := HQ1.out
        have hq2 := HQ2.out
        try simp only [bne_iff_ne, ne_eq, beq_iff_eq, beq_eq_false_iff_ne, bne_eq_false_iff_eq] at *
        unfold tellR
        rcases Classical.em (a0 - A = 0) with x1 | x1 <;> rcases Classical.em (a0 = B) with x2 | x2 <;> (try have y1 := HQ3.out x1) <;> (try have y2 := HQ4.out x2) <;>
        (repeat' split) <;> (first | rfl | (exfalso; omega) | (refine Prod.ext (by first | rfl | omega) (Prod.ext (by first | rfl | (simp only []; omega)) rfl)))
end Go.Proofs.YtdpifkhkemeclaaDoor
