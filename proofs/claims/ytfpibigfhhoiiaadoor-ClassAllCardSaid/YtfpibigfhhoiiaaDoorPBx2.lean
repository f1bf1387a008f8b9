-- Written by a program of this session (wip/myprint.py, over the kit's print). Not trusted: Lean checks it.
import Derived.Test.YtfpibigfhhoiiaaDoorPBx0
import Derived.Test.YtfpibigfhhoiiaaDoorPBx2a
import Derived.Test.YtfpibigfhhoiiaaDoorAwB
import Derived.Test.YtfpibigfhhoiiaaDoorOfB
namespace Go.Proofs.YtfpibigfhhoiiaaDoor.PB
open Go.RowKit Go.Proofs.YtfpibigfhhoiiaaDoorW.PrintWords Go.Proofs.YtfpibigfhhoiiaaDoorW.PrintLast Go.Proofs.YtfpibigfhhoiiaaDoorW.PrintMore
attribute [local go_sem] max2_int min2_int max_two min_two max_three min_three max_four min_four   -- for this text's walks alone
set_option linter.unusedVariables false
set_option linter.unusedSimpArgs false

/-! ### parquetryref02_Of: function 28 -/
mutual
def parquetryref02_Of.l0 : Nat → Int → List (S67) → Int → Option (Int)
  | 0, _, _, _ => none
  | k + 1, x0, x3, x4 => if x4 < (x3.length : Int) then (if 0 ≤ x4 then (parquetryref02_Of.l1 k x0 x3 x4 ((rd_T67 x3 x4).f1) 0) else (none)) else (some 0)
def parquetryref02_Of.l1 : Nat → Int → List (S67) → Int → List Int → Int → Option (Int)
  | 0, _, _, _, _, _ => none
  | k + 1, x0, x3, x4, x5, x6 => if (wrap64 (x6 + 1)) < (x5.length : Int) then (if 0 ≤ x6 then (if x6 < (x5.length : Int) then (if (rd x5 x6) ≤ x0 then (if 0 ≤ (wrap64 (x6 + 1)) then (if x0 ≤ (rd x5 (wrap64 (x6 + 1))) then (if 0 ≤ x4 then (if x4 < (x3.length : Int) then (some ((rd_T67 x3 x4).f0)) else (none)) else (none)) else (parquetryref02_Of.l1 k x0 x3 x4 x5 (wrap64 (x6 + 2)))) else (none)) else (parquetryref02_Of.l1 k x0 x3 x4 x5 (wrap64 (x6 + 2)))) else (none)) else (none)) else (parquetryref02_Of.l0 k x0 x3 (wrap64 (x4 + 1)))
end
def parquetryref02_Of.f (k : Nat) (a0 : Int) : Option (Int) := (parquetryref02_Table.f).bind fun t170 => (parquetryref02_Of.l0 k a0 t170 0)
theorem parquetryref02_Of.mono_l : ∀ k, (∀ y0 y1 y2, LeO (parquetryref02_Of.l0 k y0 y1 y2) (parquetryref02_Of.l0 (k + 1) y0 y1 y2)) ∧ (∀ y0 y1 y2 y3 y4, LeO (parquetryref02_Of.l1 k y0 y1 y2 y3 y4) (parquetryref02_Of.l1 (k + 1) y0 y1 y2 y3 y4))
  | 0 => ⟨fun _ _ _ r h => by simp [parquetryref02_Of.l0] at h, fun _ _ _ _ _ r h => by simp [parquetryref02_Of.l1] at h⟩
  | k + 1 => by
    obtain ⟨ih0, ih1⟩ := parquetryref02_Of.mono_l k
    refine ⟨?_, ?_⟩
    · intro y0 y1 y2
      unfold parquetryref02_Of.l0
      repeat' first
      | (with_reducible exact ih0 _ _ _)
      | (with_reducible exact ih1 _ _ _ _ _)
      | (with_reducible exact LeO.refl _)
      | (with_reducible exact LeO.none _)
      | (with_reducible refine LeO.ite ?_ ?_)
      | (with_reducible refine LeO.bind ?_ (fun _ => ?_))
      | exact ih0 _ _ _
      | exact ih1 _ _ _ _ _
      | exact LeO.none _
      | refine LeO.ite ?_ ?_
      | refine LeO.bind ?_ (fun _ => ?_)
    · intro y0 y1 y2 y3 y4
      unfold parquetryref02_Of.l1
      repeat' first
      | (with_reducible exact ih0 _ _ _)
      | (with_reducible exact ih1 _ _ _ _ _)
      | (with_reducible exact LeO.refl _)
      | (with_reducible exact LeO.none _)
      | (with_reducible refine LeO.ite ?_ ?_)
      | (with_reducible refine LeO.bind ?_ (fun _ => ?_))
      | exact ih0 _ _ _
      | exact ih1 _ _ _ _ _
      | exact LeO.none _
      | refine LeO.ite ?_ ?_
      | refine LeO.bind ?_ (fun _ => ?_)
theorem parquetryref02_Of.mono : ∀ a0 k, LeO (parquetryref02_Of.f k a0) (parquetryref02_Of.f (k + 1) a0) := by
  intro a0 k
  obtain ⟨ih0, ih1⟩ := parquetryref02_Of.mono_l k
  unfold parquetryref02_Of.f
  repeat' first
      | (with_reducible exact ih0 _ _ _)
      | (with_reducible exact ih1 _ _ _ _ _)
      | (with_reducible exact LeO.refl _)
      | (with_reducible exact LeO.none _)
      | (with_reducible refine LeO.ite ?_ ?_)
      | (with_reducible refine LeO.bind ?_ (fun _ => ?_))
      | exact ih0 _ _ _
      | exact ih1 _ _ _ _ _
      | exact LeO.none _
      | refine LeO.ite ?_ ?_
      | refine LeO.bind ?_ (fun _ => ?_)
set_option maxHeartbeats 8000000 in
set_option maxRecDepth 100000 in
theorem parquetryref02_Of.calls (k : Nat) (a0 : Int) (r : Int) (w : World) (h : parquetryref02_Of.f k a0 = some r) :
    Calls Tryd.prog 28 #[.int .i64 a0] w fun e w' => e = .returned (.int .i64 r) ∧ Below w.heap.size w w' := by
  have HB := Aside0.mk (Below.refl w.heap.size w)
  have H : ((parquetryref02_Table.f).bind fun t170 => (parquetryref02_Of.l0 k a0 t170 0)) = some r := h
  clear h
  replace H := Option.bind_eq_some_iff.mp H
  obtain ⟨t170, A20, H⟩ := H
  replace H : (parquetryref02_Of.l0 k a0 t170 0) = some r := H
  have A2 := Aside0.mk A20
  clear A20
  have H' := Aside0.mk H
  clear H
  go_enter Tryd.func28, Tryd.ntmps28
  go_wp2_with (first | ((with_reducible refine gate_callee (f := 55) rfl ?_); refine goesL_ (some 7) rfl rfl Tryd.func55 (by kernel_rfl) rfl #[] rfl (by (try simp only [List.map_toArray, List.map_cons, List.map_nil]); first | done | rfl | (simp only [List.length_drop, List.length_take]; rfl)) ?_; (with_reducible refine (parquetryref02_Table.calls  t170 _ A2.out).mono ?_); rintro e w3 ⟨v171, rfl, ho0, hb⟩; refine ⟨_, rfl, ?_⟩; have n0_ := Aside0.mk (Kd.N_lower (Kd.N_mono (ok' := fun k_ => True) ho0 (fun k_ hk_ => trivial)) (below_size (by repeat (first | (with_reducible first | exact HB.out | apply below_alloc | apply pw_below_drewN | apply below_drew1) | exact HB.out)))); have n1_ := Aside0.mk (below_step (by repeat (first | (with_reducible first | exact HB.out | apply below_alloc | apply pw_below_drewN | apply below_drew1) | exact HB.out)) hb); clear HB; have HO172 := n0_; have HB := n1_; clear n0_ n1_; (try clear hb); (try clear hb2); (try clear hk); (try clear hi); (try clear ho0)))
  go_loopg [4] k (fun kq v4 w' => ∃ (x4_1 : Int), v4 = .int .i64 x4_1 ∧ Aside0 (parquetryref02_Of.l0 kq a0 t170 x4_1 = some r) ∧ Aside0 (kq ≤ k) ∧ Aside0 (Kd.N k67 67 w' w.heap.size (fun _ => True) v171 t170) ∧ Aside0 (Below w.heap.size w w'))
  case atStart => exact ⟨(0), (by first | rfl | (simp; done) | (simp [*]; done) | (simp; cases a0.toList <;> rfl)), H', ⟨Nat.le_refl _⟩, ⟨by (with_reducible repeat (first | apply Kd.N_alloc | apply Kd.N_drewN | apply Kd.N_drew)); exact HO172.out⟩, ⟨by repeat (first | (with_reducible first | exact HB.out | apply below_alloc | apply pw_below_drewN | apply below_drew1) | exact HB.out)⟩⟩
  case round =>
    clear H'
    try clear c2
    try clear p2
    obtain ⟨x4_1, rfl, HA, HK1, HO_3, HB⟩ := hrel
    cases gk with
    | zero => exact absurd HA.out (by simp [parquetryref02_Of.l0])
    | succ k1 =>
      have H := HA.out
      clear HA
      simp only [parquetryref02_Of.l0] at H
      by_cases c4 : x4_1 < (t170.length : Int)
      · rw [if_pos c4] at H
        have c4b0 : decide (x4_1 < (t170.length : Int)) = true := decide_eq_true c4
        clear c4
        by_cases c5 : 0 ≤ x4_1
        · rw [if_pos c5] at H
          have c5b0 : decide (0 ≤ x4_1) = true := decide_eq_true c5
          clear c5
          have H' := Aside0.mk H
          clear H
          obtain ⟨Ao6, co6, eo6⟩ := Kd.N_slice HO_3.out
          subst eo6
          have p173 : 0 ≤ (x4_1 : Int) := of_decide_eq_true (by first | (with_reducible assumption) | assumption)
          have q173 : x4_1 < (t170.length : Int) := of_decide_eq_true (by first | (with_reducible assumption) | assumption)
          obtain ⟨ad173, A173_1, c173_1, e173, hx173_0, hx173_1, hl173_1, hi173_1⟩ := at_T67 (Kd.N_reads' HO_3.out).2.2 x4_1 p173 q173
          cases e173
          obtain ⟨ce173, hce173, hMe173, hcc173⟩ := Kd.N_get HO_3.out z67 x4_1 p173 (by first | exact q173 | exact of_decide_eq_true (by first | (with_reducible assumption) | assumption) | (have e_ := (Kd.N_reads' HO_3.out).1; omega))
          obtain ⟨ua173_1, uc173_1, rfl, ul173_1, ge173_1⟩ := k67_openF hMe173
          have hv173_1 := hcc173 1 _ rfl
          rw [add_field _ _ 1 (by omega)] at hv173_1
          replace hv173_1 := Option.some.inj (hv173_1.symm.trans hx173_1)
          injection hv173_1 with hva_ hvn_ hvc_
          rw [hva_] at ge173_1
          rw [hvc_] at ul173_1
          have HL173_1 := Aside0.mk (show Kd.V (Kd.int .i64) 3 _ w.heap.size _ _ ((rd_T67 t170 x4_1).f1) from Kd.V_mk ul173_1 ge173_1)
          clear hva_ hvn_ hvc_ ge173_1 ul173_1
          clear hcc173 hce173
          have HR173_1 := Aside0.mk hi173_1
          have HC173_1 := Aside0.mk hl173_1
          clear hi173_1 hl173_1
          replace p173 := eq_true p173
          replace q173 := eq_true q173
          go_wp2
          go_loopg [6] k1 (fun kq v6 w' => ∃ (x6_2 : Int), v6 = .int .i64 x6_2 ∧ Aside0 (parquetryref02_Of.l1 kq a0 t170 x4_1 ((rd_T67 t170 x4_1).f1) x6_2 = some r) ∧ Aside0 (kq ≤ k1) ∧ Aside0 (Kd.N k67 67 w' w.heap.size (fun _ => True) (.slice (some ad173) t170.length co6) t170) ∧ Aside0 (Kd.C (Kd.int .i64) w' A173_1 ((rd_T67 t170 x4_1).f1).length ((rd_T67 t170 x4_1).f1)) ∧ Aside0 (Below w.heap.size w w'))
          case atStart => exact ⟨(0), (by first | rfl | (simp; done) | (simp [*]; done) | (simp; cases a0.toList <;> rfl)), H', ⟨Nat.le_refl _⟩, ⟨by (with_reducible repeat (first | apply Kd.N_alloc | apply Kd.N_drewN | apply Kd.N_drew)); exact HO_3.out⟩, ⟨by repeat (first | (with_reducible exact HR173_1.out) | (with_reducible refine Kd.C_alloc ?_ _) | (with_reducible refine Kd.C_drewN ?_ _) | (with_reducible refine Kd.C_drew ?_) | exact HR173_1.out)⟩, ⟨by repeat (first | (with_reducible first | exact HB.out | apply below_alloc | apply pw_below_drewN | apply below_drew1) | exact HB.out)⟩⟩
          case round =>
            clear H'
            try clear c1
            try clear p1
            try clear q1
            try clear hx1
            try clear c2
            try clear p2
            try clear c4
            try clear c4b0
            try clear c5
            try clear c5b0
            try clear hx173_0
            try clear hx173_1
            try clear p173
            try clear p2
            try clear q173
            obtain ⟨x6_2, rfl, HA, HK2, HO_3, HR173_1, HB⟩ := hrel
            cases gk with
            | zero => exact absurd HA.out (by simp [parquetryref02_Of.l1])
            | succ k2 =>
              have H := HA.out
              clear HA
              simp only [parquetryref02_Of.l1] at H
              by_cases c7 : (wrap64 (x6_2 + 1)) < (((rd_T67 t170 x4_1).f1).length : Int)
              · rw [if_pos c7] at H
                have c7b0 : decide ((wrap64 (x6_2 + 1)) < (((rd_T67 t170 x4_1).f1).length : Int)) = true := decide_eq_true c7
                clear c7
                by_cases c8 : 0 ≤ x6_2
                · rw [if_pos c8] at H
                  have c8b0 : decide (0 ≤ x6_2) = true := decide_eq_true c8
                  clear c8
                  by_cases c9 : x6_2 < (((rd_T67 t170 x4_1).f1).length : Int)
                  · rw [if_pos c9] at H
                    have c9b0 : decide (x6_2 < (((rd_T67 t170 x4_1).f1).length : Int)) = true := decide_eq_true c9
                    clear c9
                    by_cases c10 : (rd ((rd_T67 t170 x4_1).f1) x6_2) ≤ a0
                    · rw [if_pos c10] at H
                      have c10b0 : decide ((rd ((rd_T67 t170 x4_1).f1) x6_2) ≤ a0) = true := decide_eq_true c10
                      clear c10
                      obtain ⟨ji11, hji11⟩ : ∃ j_ : Int, (wrap64 (x6_2 + 1)) = j_ := ⟨_, rfl⟩
                      replace H : (if 0 ≤ (ji11) then (if a0 ≤ (rd ((rd_T67 t170 x4_1).f1) (ji11)) then (if 0 ≤ x4_1 then (if x4_1 < (t170.length : Int) then (some ((rd_T67 t170 x4_1).f0)) else (none)) else (none)) else (parquetryref02_Of.l1 k2 a0 t170 x4_1 ((rd_T67 t170 x4_1).f1) (wrap64 (x6_2 + 2)))) else (none)) = some r := by first | (rw [hji11] at H; exact H) | (simp only [hji11] at H ⊢; exact H)
                      (try rw [hji11] at c7b0)
                      have hji11w : (IntKind.i64.wrap (x6_2 + 1)) = ji11 := (i64_w _).trans hji11
                      by_cases c12 : 0 ≤ (ji11)
                      · rw [if_pos c12] at H
                        have c12b0 : decide (0 ≤ (ji11)) = true := decide_eq_true c12
                        clear c12
                        by_cases c13 : a0 ≤ (rd ((rd_T67 t170 x4_1).f1) (ji11))
                        · rw [if_pos c13] at H
                          have c13b0 : decide (a0 ≤ (rd ((rd_T67 t170 x4_1).f1) (ji11))) = true := decide_eq_true c13
                          clear c13
                          by_cases c14 : 0 ≤ x4_1
                          · rw [if_pos c14] at H
                            have c14b0 : decide (0 ≤ x4_1) = true := decide_eq_true c14
                            clear c14
                            by_cases c15 : x4_1 < (t170.length : Int)
                            · rw [if_pos c15] at H
                              have c15b0 : decide (x4_1 < (t170.length : Int)) = true := decide_eq_true c15
                              clear c15
                              obtain rfl := Option.some.inj H
                              have p174 : 0 ≤ (x6_2 : Int) := of_decide_eq_true (by first | (with_reducible assumption) | assumption)
                              have q174 : x6_2 < (((rd_T67 t170 x4_1).f1).length : Int) := of_decide_eq_true (by first | (with_reducible assumption) | assumption)
                              obtain ⟨ad174, e174, hx174_0⟩ := Kd.at_int HR173_1.out x6_2 p174 q174
                              cases e174
                              try (replace hx174_0 := (HB.out.cell (World.block_lt_of_cell? w _ hx174_0)).trans hx174_0)
                              replace p174 := eq_true p174
                              replace q174 := eq_true q174
                              have p175 : 0 ≤ ((ji11) : Int) := of_decide_eq_true (by first | (with_reducible assumption) | assumption)
                              have q175 : (ji11) < (((rd_T67 t170 x4_1).f1).length : Int) := of_decide_eq_true (by first | (with_reducible assumption) | assumption)
                              obtain ⟨ad175, e175, hx175_0⟩ := Kd.at_int HR173_1.out (ji11) p175 q175
                              obtain rfl : ad174 = ad175 := (by injection e175)
                              try (replace hx175_0 := (HB.out.cell (World.block_lt_of_cell? w _ hx175_0)).trans hx175_0)
                              replace p175 := eq_true p175
                              replace q175 := eq_true q175
                              have p176 : 0 ≤ (x4_1 : Int) := of_decide_eq_true (by first | (with_reducible assumption) | assumption)
                              have q176 : x4_1 < (t170.length : Int) := of_decide_eq_true (by first | (with_reducible assumption) | assumption)
                              obtain ⟨ad176, A176_1, c176_1, e176, hx176_0, hx176_1, hl176_1, hi176_1⟩ := at_T67 (Kd.N_reads' HO_3.out).2.2 x4_1 p176 q176
                              obtain rfl : ad173 = ad176 := (by injection e176)
                              obtain ⟨ce176, hce176, hMe176, hcc176⟩ := Kd.N_get HO_3.out z67 x4_1 p176 (by first | exact q176 | exact of_decide_eq_true (by first | (with_reducible assumption) | assumption) | (have e_ := (Kd.N_reads' HO_3.out).1; omega))
                              obtain ⟨ua176_1, uc176_1, rfl, ul176_1, ge176_1⟩ := k67_openF hMe176
                              have hv176_1 := hcc176 1 _ rfl
                              rw [add_field _ _ 1 (by omega)] at hv176_1
                              replace hv176_1 := Option.some.inj (hv176_1.symm.trans hx176_1)
                              injection hv176_1 with hva_ hvn_ hvc_
                              rw [hva_] at ge176_1
                              rw [hvc_] at ul176_1
                              have HL176_1 := Aside0.mk (show Kd.V (Kd.int .i64) 3 _ w.heap.size _ _ ((rd_T67 t170 x4_1).f1) from Kd.V_mk ul176_1 ge176_1)
                              clear hva_ hvn_ hvc_ ge176_1 ul176_1
                              clear hcc176 hce176
                              have HR176_1 := Aside0.mk hi176_1
                              have HC176_1 := Aside0.mk hl176_1
                              clear hi176_1 hl176_1
                              replace p176 := eq_true p176
                              replace q176 := eq_true q176
                              go_wp2
                              go_ret
                              exact ⟨by first | rfl | (simp [errW_none, errW_some] <;> rfl) | (simp only [← hji11]; first | rfl | (simp [errW_none, errW_some] <;> rfl)) | (simp [*, errW_none, errW_some] <;> rfl), by repeat (first | (with_reducible first | exact HB.out | apply below_alloc | apply pw_below_drewN | apply below_drew1) | exact HB.out)⟩
                            · rw [if_neg c15] at H
                              exact absurd H (by simp)
                          · rw [if_neg c14] at H
                            exact absurd H (by simp)
                        · rw [if_neg c13] at H
                          have c13b0 : decide (a0 ≤ (rd ((rd_T67 t170 x4_1).f1) (ji11))) = false := decide_eq_false c13
                          clear c13
                          have H' := Aside0.mk H
                          clear H
                          have p174 : 0 ≤ (x6_2 : Int) := of_decide_eq_true (by first | (with_reducible assumption) | assumption)
                          have q174 : x6_2 < (((rd_T67 t170 x4_1).f1).length : Int) := of_decide_eq_true (by first | (with_reducible assumption) | assumption)
                          obtain ⟨ad174, e174, hx174_0⟩ := Kd.at_int HR173_1.out x6_2 p174 q174
                          cases e174
                          try (replace hx174_0 := (HB.out.cell (World.block_lt_of_cell? w _ hx174_0)).trans hx174_0)
                          replace p174 := eq_true p174
                          replace q174 := eq_true q174
                          have p175 : 0 ≤ ((ji11) : Int) := of_decide_eq_true (by first | (with_reducible assumption) | assumption)
                          have q175 : (ji11) < (((rd_T67 t170 x4_1).f1).length : Int) := of_decide_eq_true (by first | (with_reducible assumption) | assumption)
                          obtain ⟨ad175, e175, hx175_0⟩ := Kd.at_int HR173_1.out (ji11) p175 q175
                          obtain rfl : ad174 = ad175 := (by injection e175)
                          try (replace hx175_0 := (HB.out.cell (World.block_lt_of_cell? w _ hx175_0)).trans hx175_0)
                          replace p175 := eq_true p175
                          replace q175 := eq_true q175
                          go_wp2
                          go_roundg k2
                          case measure => have := HK1.out; have := HK2.out; omega
                          case rel => exact ⟨(wrap64 (x6_2 + 2)), (by first | rfl | (simp; done) | (simp [*]; done) | (simp; cases a0.toList <;> rfl)), H', ⟨by have := HK1.out; have := HK2.out; omega⟩, ⟨by (with_reducible repeat (first | apply Kd.N_alloc | apply Kd.N_drewN | apply Kd.N_drew)); exact HO_3.out⟩, ⟨by repeat (first | (with_reducible exact HR173_1.out) | (with_reducible refine Kd.C_alloc ?_ _) | (with_reducible refine Kd.C_drewN ?_ _) | (with_reducible refine Kd.C_drew ?_) | exact HR173_1.out)⟩, ⟨by repeat (first | (with_reducible first | exact HB.out | apply below_alloc | apply pw_below_drewN | apply below_drew1) | exact HB.out)⟩⟩
                      · rw [if_neg c12] at H
                        exact absurd H (by simp)
                    · rw [if_neg c10] at H
                      have c10b0 : decide ((rd ((rd_T67 t170 x4_1).f1) x6_2) ≤ a0) = false := decide_eq_false c10
                      clear c10
                      have H' := Aside0.mk H
                      clear H
                      have p174 : 0 ≤ (x6_2 : Int) := of_decide_eq_true (by first | (with_reducible assumption) | assumption)
                      have q174 : x6_2 < (((rd_T67 t170 x4_1).f1).length : Int) := of_decide_eq_true (by first | (with_reducible assumption) | assumption)
                      obtain ⟨ad174, e174, hx174_0⟩ := Kd.at_int HR173_1.out x6_2 p174 q174
                      cases e174
                      try (replace hx174_0 := (HB.out.cell (World.block_lt_of_cell? w _ hx174_0)).trans hx174_0)
                      replace p174 := eq_true p174
                      replace q174 := eq_true q174
                      go_wp2
                      go_roundg k2
                      case measure => have := HK1.out; have := HK2.out; omega
                      case rel => exact ⟨(wrap64 (x6_2 + 2)), (by first | rfl | (simp; done) | (simp [*]; done) | (simp; cases a0.toList <;> rfl)), H', ⟨by have := HK1.out; have := HK2.out; omega⟩, ⟨by (with_reducible repeat (first | apply Kd.N_alloc | apply Kd.N_drewN | apply Kd.N_drew)); exact HO_3.out⟩, ⟨by repeat (first | (with_reducible exact HR173_1.out) | (with_reducible refine Kd.C_alloc ?_ _) | (with_reducible refine Kd.C_drewN ?_ _) | (with_reducible refine Kd.C_drew ?_) | exact HR173_1.out)⟩, ⟨by repeat (first | (with_reducible first | exact HB.out | apply below_alloc | apply pw_below_drewN | apply below_drew1) | exact HB.out)⟩⟩
                  · rw [if_neg c9] at H
                    exact absurd H (by simp)
                · rw [if_neg c8] at H
                  exact absurd H (by simp)
              · rw [if_neg c7] at H
                have c7b0 : decide ((wrap64 (x6_2 + 1)) < (((rd_T67 t170 x4_1).f1).length : Int)) = false := decide_eq_false c7
                clear c7
                have H' := Aside0.mk H
                clear H
                go_wp2
                go_roundg k2
                case measure => have := HK1.out; have := HK2.out; omega
                case rel => exact ⟨(wrap64 (x4_1 + 1)), (by first | rfl | (simp; done) | (simp [*]; done) | (simp; cases a0.toList <;> rfl)), H', ⟨by have := HK1.out; have := HK2.out; omega⟩, ⟨by (with_reducible repeat (first | apply Kd.N_alloc | apply Kd.N_drewN | apply Kd.N_drew)); exact HO_3.out⟩, ⟨by repeat (first | (with_reducible first | exact HB.out | apply below_alloc | apply pw_below_drewN | apply below_drew1) | exact HB.out)⟩⟩
        · rw [if_neg c5] at H
          exact absurd H (by simp)
      · rw [if_neg c4] at H
        have c4b0 : decide (x4_1 < (t170.length : Int)) = false := decide_eq_false c4
        clear c4
        obtain rfl := Option.some.inj H
        obtain ⟨Ao16, co16, eo16⟩ := Kd.N_slice HO_3.out
        subst eo16
        go_wp2
        go_ret
        exact ⟨by first | rfl | (simp [errW_none, errW_some] <;> rfl) | (simp [*, errW_none, errW_some] <;> rfl), by repeat (first | (with_reducible first | exact HB.out | apply below_alloc | apply pw_below_drewN | apply below_drew1) | exact HB.out)⟩

/-! ### parquetrylaw02_ClassOf: function 9 -/
def parquetrylaw02_ClassOf.l0 : Nat → Int → Int → Option (Bool)
  | 0, _, _ => none
  | k + 1, x0, x3 => if x3 ≤ 2 then ((class_Of.f (wrap64 ((Go.bits .and .i64 x0 2097151) + x3))).bind fun t180 => ((parquetryref02_Of.f k (wrap64 ((Go.bits .and .i64 x0 2097151) + x3))).bind fun t181 => (if t180 = t181 then (parquetrylaw02_ClassOf.l0 k x0 (wrap64 (x3 + 1))) else (some false)))) else ((class_Of.f x0).bind fun t177 => ((parquetryref02_Of.f k x0).bind fun t178 => (if t177 = t178 then ((parquetrylaw02_awake.f).bind fun t179 => (some t179)) else (some false))))
def parquetrylaw02_ClassOf.f (k : Nat) (a0 : Int) : Option (Bool) := parquetrylaw02_ClassOf.l0 k a0 (-2)
theorem parquetrylaw02_ClassOf.mono_l : ∀ k, (∀ y0 y1, LeO (parquetrylaw02_ClassOf.l0 k y0 y1) (parquetrylaw02_ClassOf.l0 (k + 1) y0 y1))
  | 0 => fun _ _ r h => by simp [parquetrylaw02_ClassOf.l0] at h
  | k + 1 => by
    have ih0 := parquetrylaw02_ClassOf.mono_l k
    · intro y0 y1
      unfold parquetrylaw02_ClassOf.l0
      repeat' first
      | (with_reducible exact ih0 _ _)
      | (with_reducible exact parquetryref02_Of.mono _ _)
      | (with_reducible exact LeO.refl _)
      | (with_reducible exact LeO.none _)
      | (with_reducible refine LeO.ite ?_ ?_)
      | (with_reducible refine LeO.bind ?_ (fun _ => ?_))
      | exact ih0 _ _
      | exact parquetryref02_Of.mono _ _
      | exact LeO.none _
      | refine LeO.ite ?_ ?_
      | refine LeO.bind ?_ (fun _ => ?_)
theorem parquetrylaw02_ClassOf.mono : ∀ a0 k, LeO (parquetrylaw02_ClassOf.f k a0) (parquetrylaw02_ClassOf.f (k + 1) a0) := by
  intro a0 k
  have ih0 := parquetrylaw02_ClassOf.mono_l k
  unfold parquetrylaw02_ClassOf.f
  repeat' first
      | (with_reducible exact ih0 _ _)
      | (with_reducible exact parquetryref02_Of.mono _ _)
      | (with_reducible exact LeO.refl _)
      | (with_reducible exact LeO.none _)
      | (with_reducible refine LeO.ite ?_ ?_)
      | (with_reducible refine LeO.bind ?_ (fun _ => ?_))
      | exact ih0 _ _
      | exact parquetryref02_Of.mono _ _
      | exact LeO.none _
      | refine LeO.ite ?_ ?_
      | refine LeO.bind ?_ (fun _ => ?_)
set_option maxHeartbeats 8000000 in
set_option maxRecDepth 100000 in
theorem parquetrylaw02_ClassOf.calls (k : Nat) (a0 : Int) (r : Bool) (w : World) (h : parquetrylaw02_ClassOf.f k a0 = some r) :
    Calls Tryd.prog 9 #[.int .i64 a0] w fun e w' => e = .returned (.bool r) ∧ Below w.heap.size w w' := by
  have HB := Aside0.mk (Below.refl w.heap.size w)
  have H : (parquetrylaw02_ClassOf.l0 k a0 (-2)) = some r := h
  clear h
  have H' := Aside0.mk H
  clear H
  go_enter Tryd.func9, Tryd.ntmps9
  go_wp2
  go_loopg [3] k (fun kq v3 w' => ∃ (x3_1 : Int), v3 = .int .i64 x3_1 ∧ Aside0 (parquetrylaw02_ClassOf.l0 kq a0 x3_1 = some r) ∧ Aside0 (kq ≤ k) ∧ Aside0 (Below w.heap.size w w'))
  case atStart => exact ⟨((-2)), (by first | rfl | (simp; done) | (simp [*]; done) | (simp; cases a0.toList <;> rfl)), H', ⟨Nat.le_refl _⟩, ⟨by repeat (first | (with_reducible first | exact HB.out | apply below_alloc | apply pw_below_drewN | apply below_drew1) | exact HB.out)⟩⟩
  case round =>
    clear H'
    obtain ⟨x3_1, rfl, HA, HK1, HB⟩ := hrel
    cases gk with
    | zero => exact absurd HA.out (by simp [parquetrylaw02_ClassOf.l0])
    | succ k1 =>
      have H := HA.out
      clear HA
      simp only [parquetrylaw02_ClassOf.l0] at H
      by_cases c2 : x3_1 ≤ 2
      · rw [if_pos c2] at H
        have c2b0 : decide (x3_1 ≤ 2) = true := decide_eq_true c2
        clear c2
        replace H := Option.bind_eq_some_iff.mp H
        obtain ⟨t180, A30, H⟩ := H
        replace H : ((parquetryref02_Of.f k1 (wrap64 ((Go.bits .and .i64 a0 2097151) + x3_1))).bind fun t181 => (if t180 = t181 then (parquetrylaw02_ClassOf.l0 k1 a0 (wrap64 (x3_1 + 1))) else (some false))) = some r := H
        have A3 := Aside0.mk A30
        clear A30
        replace H := Option.bind_eq_some_iff.mp H
        obtain ⟨t181, A40, H⟩ := H
        replace H : (if t180 = t181 then (parquetrylaw02_ClassOf.l0 k1 a0 (wrap64 (x3_1 + 1))) else (some false)) = some r := H
        have A4 := Aside0.mk A40
        clear A40
        by_cases c5 : t180 = t181
        · rw [if_pos c5] at H
          have c5b0 : (t180 == t181) = true := beq_iff_eq.mpr c5
          have c5b1 : (t180 != t181) = false := bne_eq_false_iff_eq.mpr c5
          clear c5
          have H' := Aside0.mk H
          clear H
          go_wp2_with (first | ((with_reducible refine gate_callee (f := 27) rfl ?_); refine goesL_ (some 14) rfl rfl Tryd.func27 (by kernel_rfl) rfl #[.int .i64 (wrap64 ((Go.bits .and .i64 a0 2097151) + x3_1))] rfl (by (try simp only [List.map_toArray, List.map_cons, List.map_nil]); first | done | rfl | (simp only [List.length_drop, List.length_take]; rfl)) ?_; (with_reducible refine (class_Of.calls (wrap64 ((Go.bits .and .i64 a0 2097151) + x3_1)) t180 _ A3.out).mono ?_); rintro e w6 ⟨rfl, hb⟩; refine ⟨_, rfl, ?_⟩; have n0_ := Aside0.mk (below_step (by repeat (first | (with_reducible first | exact HB.out | apply below_alloc | apply pw_below_drewN | apply below_drew1) | exact HB.out)) hb); clear HB; have HB := n0_; clear n0_; (try clear hb); (try clear hb2); (try clear hk); (try clear hi)) | ((with_reducible refine gate_callee (f := 28) rfl ?_); refine goesL_ (some 16) rfl rfl Tryd.func28 (by kernel_rfl) rfl #[.int .i64 (wrap64 ((Go.bits .and .i64 a0 2097151) + x3_1))] rfl (by (try simp only [List.map_toArray, List.map_cons, List.map_nil]); first | done | rfl | (simp only [List.length_drop, List.length_take]; rfl)) ?_; (with_reducible refine (parquetryref02_Of.calls k1 (wrap64 ((Go.bits .and .i64 a0 2097151) + x3_1)) t181 _ A4.out).mono ?_); rintro e w7 ⟨rfl, hb⟩; refine ⟨_, rfl, ?_⟩; have n0_ := Aside0.mk (below_step (by repeat (first | (with_reducible first | exact HB.out | apply below_alloc | apply pw_below_drewN | apply below_drew1) | exact HB.out)) hb); clear HB; have HB := n0_; clear n0_; (try clear hb); (try clear hb2); (try clear hk); (try clear hi)))
          go_roundg k1
          case measure => have := HK1.out; omega
          case rel => exact ⟨(wrap64 (x3_1 + 1)), (by first | rfl | (simp; done) | (simp [*]; done) | (simp; cases a0.toList <;> rfl)), H', ⟨by have := HK1.out; omega⟩, ⟨by repeat (first | (with_reducible first | exact HB.out | apply below_alloc | apply pw_below_drewN | apply below_drew1) | exact HB.out)⟩⟩
        · rw [if_neg c5] at H
          have c5b0 : (t180 == t181) = false := beq_eq_false_iff_ne.mpr c5
          have c5b1 : (t180 != t181) = true := bne_iff_ne.mpr c5
          obtain rfl := Option.some.inj H
          go_wp2_with (first | ((with_reducible refine gate_callee (f := 27) rfl ?_); refine goesL_ (some 14) rfl rfl Tryd.func27 (by kernel_rfl) rfl #[.int .i64 (wrap64 ((Go.bits .and .i64 a0 2097151) + x3_1))] rfl (by (try simp only [List.map_toArray, List.map_cons, List.map_nil]); first | done | rfl | (simp only [List.length_drop, List.length_take]; rfl)) ?_; (with_reducible refine (class_Of.calls (wrap64 ((Go.bits .and .i64 a0 2097151) + x3_1)) t180 _ A3.out).mono ?_); rintro e w8 ⟨rfl, hb⟩; refine ⟨_, rfl, ?_⟩; have n0_ := Aside0.mk (below_step (by repeat (first | (with_reducible first | exact HB.out | apply below_alloc | apply pw_below_drewN | apply below_drew1) | exact HB.out)) hb); clear HB; have HB := n0_; clear n0_; (try clear hb); (try clear hb2); (try clear hk); (try clear hi)) | ((with_reducible refine gate_callee (f := 28) rfl ?_); refine goesL_ (some 16) rfl rfl Tryd.func28 (by kernel_rfl) rfl #[.int .i64 (wrap64 ((Go.bits .and .i64 a0 2097151) + x3_1))] rfl (by (try simp only [List.map_toArray, List.map_cons, List.map_nil]); first | done | rfl | (simp only [List.length_drop, List.length_take]; rfl)) ?_; (with_reducible refine (parquetryref02_Of.calls k1 (wrap64 ((Go.bits .and .i64 a0 2097151) + x3_1)) t181 _ A4.out).mono ?_); rintro e w9 ⟨rfl, hb⟩; refine ⟨_, rfl, ?_⟩; have n0_ := Aside0.mk (below_step (by repeat (first | (with_reducible first | exact HB.out | apply below_alloc | apply pw_below_drewN | apply below_drew1) | exact HB.out)) hb); clear HB; have HB := n0_; clear n0_; (try clear hb); (try clear hb2); (try clear hk); (try clear hi)))
          go_ret
          exact ⟨by first | rfl | (simp [errW_none, errW_some] <;> rfl) | (simp [*, errW_none, errW_some] <;> rfl), by repeat (first | (with_reducible first | exact HB.out | apply below_alloc | apply pw_below_drewN | apply below_drew1) | exact HB.out)⟩
      · rw [if_neg c2] at H
        have c2b0 : decide (x3_1 ≤ 2) = false := decide_eq_false c2
        clear c2
        replace H := Option.bind_eq_some_iff.mp H
        obtain ⟨t177, A100, H⟩ := H
        replace H : ((parquetryref02_Of.f k1 a0).bind fun t178 => (if t177 = t178 then ((parquetrylaw02_awake.f).bind fun t179 => (some t179)) else (some false))) = some r := H
        have A10 := Aside0.mk A100
        clear A100
        replace H := Option.bind_eq_some_iff.mp H
        obtain ⟨t178, A110, H⟩ := H
        replace H : (if t177 = t178 then ((parquetrylaw02_awake.f).bind fun t179 => (some t179)) else (some false)) = some r := H
        have A11 := Aside0.mk A110
        clear A110
        by_cases c12 : t177 = t178
        · rw [if_pos c12] at H
          have c12b0 : (t177 == t178) = true := beq_iff_eq.mpr c12
          have c12b1 : (t177 != t178) = false := bne_eq_false_iff_eq.mpr c12
          clear c12
          replace H := Option.bind_eq_some_iff.mp H
          obtain ⟨t179, A130, H⟩ := H
          replace H : (some t179) = some r := H
          have A13 := Aside0.mk A130
          clear A130
          obtain rfl := Option.some.inj H
          go_wp2_with (first | ((with_reducible refine gate_callee (f := 27) rfl ?_); refine goesL_ (some 19) rfl rfl Tryd.func27 (by kernel_rfl) rfl #[.int .i64 a0] rfl (by (try simp only [List.map_toArray, List.map_cons, List.map_nil]); first | done | rfl | (simp only [List.length_drop, List.length_take]; rfl)) ?_; (with_reducible refine (class_Of.calls a0 t177 _ A10.out).mono ?_); rintro e w14 ⟨rfl, hb⟩; refine ⟨_, rfl, ?_⟩; have n0_ := Aside0.mk (below_step (by repeat (first | (with_reducible first | exact HB.out | apply below_alloc | apply pw_below_drewN | apply below_drew1) | exact HB.out)) hb); clear HB; have HB := n0_; clear n0_; (try clear hb); (try clear hb2); (try clear hk); (try clear hi)) | ((with_reducible refine gate_callee (f := 28) rfl ?_); refine goesL_ (some 21) rfl rfl Tryd.func28 (by kernel_rfl) rfl #[.int .i64 a0] rfl (by (try simp only [List.map_toArray, List.map_cons, List.map_nil]); first | done | rfl | (simp only [List.length_drop, List.length_take]; rfl)) ?_; (with_reducible refine (parquetryref02_Of.calls k1 a0 t178 _ A11.out).mono ?_); rintro e w15 ⟨rfl, hb⟩; refine ⟨_, rfl, ?_⟩; have n0_ := Aside0.mk (below_step (by repeat (first | (with_reducible first | exact HB.out | apply below_alloc | apply pw_below_drewN | apply below_drew1) | exact HB.out)) hb); clear HB; have HB := n0_; clear n0_; (try clear hb); (try clear hb2); (try clear hk); (try clear hi)) | (go_at_call 29; (with_reducible refine (parquetrylaw02_awake.calls  t179 _ A13.out).mono ?_); rintro e w16 ⟨rfl, hb⟩; have n0_ := Aside0.mk (below_step (by repeat (first | (with_reducible first | exact HB.out | apply below_alloc | apply pw_below_drewN | apply below_drew1) | exact HB.out)) hb); clear HB; have HB := n0_; clear n0_; (try clear hb); (try clear hb2); (try clear hk); (try clear hi)))
          go_ret
          exact ⟨by first | rfl | (simp [errW_none, errW_some] <;> rfl) | (simp [*, errW_none, errW_some] <;> rfl), by repeat (first | (with_reducible first | exact HB.out | apply below_alloc | apply pw_below_drewN | apply below_drew1) | exact HB.out)⟩
        · rw [if_neg c12] at H
          have c12b0 : (t177 == t178) = false := beq_eq_false_iff_ne.mpr c12
          have c12b1 : (t177 != t178) = true := bne_iff_ne.mpr c12
          obtain rfl := Option.some.inj H
          go_wp2_with (first | ((with_reducible refine gate_callee (f := 27) rfl ?_); refine goesL_ (some 19) rfl rfl Tryd.func27 (by kernel_rfl) rfl #[.int .i64 a0] rfl (by (try simp only [List.map_toArray, List.map_cons, List.map_nil]); first | done | rfl | (simp only [List.length_drop, List.length_take]; rfl)) ?_; (with_reducible refine (class_Of.calls a0 t177 _ A10.out).mono ?_); rintro e w17 ⟨rfl, hb⟩; refine ⟨_, rfl, ?_⟩; have n0_ := Aside0.mk (below_step (by repeat (first | (with_reducible first | exact HB.out | apply below_alloc | apply pw_below_drewN | apply below_drew1) | exact HB.out)) hb); clear HB; have HB := n0_; clear n0_; (try clear hb); (try clear hb2); (try clear hk); (try clear hi)) | ((with_reducible refine gate_callee (f := 28) rfl ?_); refine goesL_ (some 21) rfl rfl Tryd.func28 (by kernel_rfl) rfl #[.int .i64 a0] rfl (by (try simp only [List.map_toArray, List.map_cons, List.map_nil]); first | done | rfl | (simp only [List.length_drop, List.length_take]; rfl)) ?_; (with_reducible refine (parquetryref02_Of.calls k1 a0 t178 _ A11.out).mono ?_); rintro e w18 ⟨rfl, hb⟩; refine ⟨_, rfl, ?_⟩; have n0_ := Aside0.mk (below_step (by repeat (first | (with_reducible first | exact HB.out | apply below_alloc | apply pw_below_drewN | apply below_drew1) | exact HB.out)) hb); clear HB; have HB := n0_; clear n0_; (try clear hb); (try clear hb2); (try clear hk); (try clear hi)))
          go_ret
          exact ⟨by first | rfl | (simp [errW_none, errW_some] <;> rfl) | (simp [*, errW_none, errW_some] <;> rfl), by repeat (first | (with_reducible first | exact HB.out | apply below_alloc | apply pw_below_drewN | apply below_drew1) | exact HB.out)⟩

/-- THE ONE PURE STATEMENT of parquetrylaw02_ClassOf: yours. -/
def parquetrylaw02_ClassOf.Pure : Prop := ∀ (a0 : Int), (Lit.int .i64 a0).wf = true → ∃ k, parquetrylaw02_ClassOf.f k a0 = some true
theorem parquetrylaw02_ClassOf.walk (P : parquetrylaw02_ClassOf.Pure) (a0 : Int) (w : World) (w0 : (Lit.int .i64 a0).wf = true) :
    Calls Tryd.prog 9 #[.int .i64 a0] w fun e w' => e = .returned (.bool true) ∧ Below w.heap.size w w' := by
  obtain ⟨k, h⟩ := P a0 w0
  refine (parquetrylaw02_ClassOf.calls k a0 true w h).mono ?_
  rintro e w' ⟨rfl, hd⟩
  exact ⟨rfl, hd⟩

/-! ### parquetryref02_Same: function 20 -/
def parquetryref02_Same.l0 : Nat → List Int → List Int → Int → Option (Bool)
  | 0, _, _, _ => none
  | k + 1, x0, x1, x5 => if x5 < (x0.length : Int) then (if 0 ≤ x5 then (if x5 < (x1.length : Int) then (if (rd x0 x5) = (rd x1 x5) then (parquetryref02_Same.l0 k x0 x1 (wrap64 (x5 + 1))) else (some false)) else (none)) else (none)) else (some true)
def parquetryref02_Same.f (k : Nat) (l0 : List Int) (l1 : List Int) : Option (Bool) := if (l0.length : Int) = (l1.length : Int) then (parquetryref02_Same.l0 k l0 l1 0) else (some false)
theorem parquetryref02_Same.mono_l : ∀ k, (∀ y0 y1 y2, LeO (parquetryref02_Same.l0 k y0 y1 y2) (parquetryref02_Same.l0 (k + 1) y0 y1 y2))
  | 0 => fun _ _ _ r h => by simp [parquetryref02_Same.l0] at h
  | k + 1 => by
    have ih0 := parquetryref02_Same.mono_l k
    · intro y0 y1 y2
      unfold parquetryref02_Same.l0
      repeat' first
      | (with_reducible exact ih0 _ _ _)
      | (with_reducible exact LeO.refl _)
      | (with_reducible exact LeO.none _)
      | (with_reducible refine LeO.ite ?_ ?_)
      | (with_reducible refine LeO.bind ?_ (fun _ => ?_))
      | exact ih0 _ _ _
      | exact LeO.none _
      | refine LeO.ite ?_ ?_
      | refine LeO.bind ?_ (fun _ => ?_)
theorem parquetryref02_Same.mono : ∀ a0 a1 k, LeO (parquetryref02_Same.f k a0 a1) (parquetryref02_Same.f (k + 1) a0 a1) := by
  intro a0 a1 k
  have ih0 := parquetryref02_Same.mono_l k
  unfold parquetryref02_Same.f
  repeat' first
      | (with_reducible exact ih0 _ _ _)
      | (with_reducible exact LeO.refl _)
      | (with_reducible exact LeO.none _)
      | (with_reducible refine LeO.ite ?_ ?_)
      | (with_reducible refine LeO.bind ?_ (fun _ => ?_))
      | exact ih0 _ _ _
      | exact LeO.none _
      | refine LeO.ite ?_ ?_
      | refine LeO.bind ?_ (fun _ => ?_)
set_option maxHeartbeats 8000000 in
set_option maxRecDepth 100000 in
theorem parquetryref02_Same.calls (k : Nat) (A0 : Option Addr) (c0 : Nat) (l0 : List Int) (A1 : Option Addr) (c1 : Nat) (l1 : List Int) (r : Bool) (w : World) (hr0 : Kd.C (Kd.int .i64) w A0 l0.length l0) (hc0 : l0.length ≤ c0) (hr1 : Kd.C (Kd.int .i64) w A1 l1.length l1) (hc1 : l1.length ≤ c1) (h : parquetryref02_Same.f k l0 l1 = some r) :
    Calls Tryd.prog 20 #[.slice A0 l0.length c0, .slice A1 l1.length c1] w fun e w' => e = .returned (.bool r) ∧ Drawn0 w w' := by
  have HR0 := Aside0.mk hr0
  have HC0 := Aside0.mk hc0
  clear hr0 hc0
  have HR1 := Aside0.mk hr1
  have HC1 := Aside0.mk hc1
  clear hr1 hc1
  have H : (if (l0.length : Int) = (l1.length : Int) then (parquetryref02_Same.l0 k l0 l1 0) else (some false)) = some r := h
  clear h
  by_cases c3 : (l0.length : Int) = (l1.length : Int)
  · rw [if_pos c3] at H
    have c3b0 : ((l0.length : Int) == (l1.length : Int)) = true := beq_iff_eq.mpr c3
    have c3b1 : ((l0.length : Int) != (l1.length : Int)) = false := bne_eq_false_iff_eq.mpr c3
    have c3b2 : (l0.length == l1.length) = true := by first | simpa using c3 | (simp at c3 ⊢; omega)
    clear c3
    have H' := Aside0.mk H
    clear H
    go_enter Tryd.func20, Tryd.ntmps20
    go_wp2
    repeat (go_quiet (fail); try go_wp2)
    go_loopg [5] k (fun kq v5 w' => ∃ (x5_1 : Int), v5 = .int .i64 x5_1 ∧ Aside0 (parquetryref02_Same.l0 kq l0 l1 x5_1 = some r) ∧ Aside0 (kq ≤ k) ∧ Drawn0 w w')
    case atStart => exact ⟨(0), (by first | rfl | (simp; done) | (simp [*]; done) | (simp; cases a0.toList <;> rfl)), H', ⟨Nat.le_refl _⟩, by repeat (first | exact Drawn0.refl _ | apply Drawn0.step)⟩
    case round =>
      clear H'
      try clear c1
      try clear c2
      try clear p2
      try clear c3
      try clear c3b0
      try clear c3b1
      try clear c3b2
      obtain ⟨x5_1, rfl, HA, HK1, ⟨m1, rfl⟩⟩ := hrel
      cases gk with
      | zero => exact absurd HA.out (by simp [parquetryref02_Same.l0])
      | succ k1 =>
        have H := HA.out
        clear HA
        simp only [parquetryref02_Same.l0] at H
        by_cases c4 : x5_1 < (l0.length : Int)
        · rw [if_pos c4] at H
          have c4b0 : decide (x5_1 < (l0.length : Int)) = true := decide_eq_true c4
          clear c4
          by_cases c5 : 0 ≤ x5_1
          · rw [if_pos c5] at H
            have c5b0 : decide (0 ≤ x5_1) = true := decide_eq_true c5
            clear c5
            by_cases c6 : x5_1 < (l1.length : Int)
            · rw [if_pos c6] at H
              have c6b0 : decide (x5_1 < (l1.length : Int)) = true := decide_eq_true c6
              clear c6
              by_cases c7 : (rd l0 x5_1) = (rd l1 x5_1)
              · rw [if_pos c7] at H
                have c7b0 : ((rd l0 x5_1) == (rd l1 x5_1)) = true := beq_iff_eq.mpr c7
                have c7b1 : ((rd l0 x5_1) != (rd l1 x5_1)) = false := bne_eq_false_iff_eq.mpr c7
                clear c7
                have H' := Aside0.mk H
                clear H
                have p182 : 0 ≤ (x5_1 : Int) := of_decide_eq_true (by first | (with_reducible assumption) | assumption)
                have q182 : x5_1 < (l0.length : Int) := of_decide_eq_true (by first | (with_reducible assumption) | assumption)
                obtain ⟨ad182, e182, hx182_0⟩ := Kd.at_int HR0.out x5_1 p182 q182
                cases e182
                replace p182 := eq_true p182
                replace q182 := eq_true q182
                have p183 : 0 ≤ (x5_1 : Int) := of_decide_eq_true (by first | (with_reducible assumption) | assumption)
                have q183 : x5_1 < (l1.length : Int) := of_decide_eq_true (by first | (with_reducible assumption) | assumption)
                obtain ⟨ad183, e183, hx183_0⟩ := Kd.at_int HR1.out x5_1 p183 q183
                cases e183
                replace p183 := eq_true p183
                replace q183 := eq_true q183
                go_wp2
                repeat (go_quiet (fail); try go_wp2)
                go_roundg k1
                case measure => have := HK1.out; omega
                case rel => exact ⟨(wrap64 (x5_1 + 1)), (by first | rfl | (simp; done) | (simp [*]; done) | (simp; cases a0.toList <;> rfl)), H', ⟨by have := HK1.out; omega⟩, by repeat (first | exact Drawn0.refl _ | apply Drawn0.step)⟩
              · rw [if_neg c7] at H
                have c7b0 : ((rd l0 x5_1) == (rd l1 x5_1)) = false := beq_eq_false_iff_ne.mpr c7
                have c7b1 : ((rd l0 x5_1) != (rd l1 x5_1)) = true := bne_iff_ne.mpr c7
                obtain rfl := Option.some.inj H
                have p182 : 0 ≤ (x5_1 : Int) := of_decide_eq_true (by first | (with_reducible assumption) | assumption)
                have q182 : x5_1 < (l0.length : Int) := of_decide_eq_true (by first | (with_reducible assumption) | assumption)
                obtain ⟨ad182, e182, hx182_0⟩ := Kd.at_int HR0.out x5_1 p182 q182
                cases e182
                replace p182 := eq_true p182
                replace q182 := eq_true q182
                have p183 : 0 ≤ (x5_1 : Int) := of_decide_eq_true (by first | (with_reducible assumption) | assumption)
                have q183 : x5_1 < (l1.length : Int) := of_decide_eq_true (by first | (with_reducible assumption) | assumption)
                obtain ⟨ad183, e183, hx183_0⟩ := Kd.at_int HR1.out x5_1 p183 q183
                cases e183
                replace p183 := eq_true p183
                replace q183 := eq_true q183
                go_wp2
                repeat (go_quiet (fail); try go_wp2)
                go_ret
                exact ⟨by first | rfl | (simp; done) | (simp [*]; done), by repeat (first | exact Drawn0.refl _ | apply Drawn0.step)⟩
            · rw [if_neg c6] at H
              exact absurd H (by simp)
          · rw [if_neg c5] at H
            exact absurd H (by simp)
        · rw [if_neg c4] at H
          have c4b0 : decide (x5_1 < (l0.length : Int)) = false := decide_eq_false c4
          clear c4
          obtain rfl := Option.some.inj H
          go_wp2
          repeat (go_quiet (fail); try go_wp2)
          go_ret
          exact ⟨by first | rfl | (simp; done) | (simp [*]; done), by repeat (first | exact Drawn0.refl _ | apply Drawn0.step)⟩
  · rw [if_neg c3] at H
    have c3b0 : ((l0.length : Int) == (l1.length : Int)) = false := beq_eq_false_iff_ne.mpr c3
    have c3b1 : ((l0.length : Int) != (l1.length : Int)) = true := bne_iff_ne.mpr c3
    have c3b2 : (l0.length == l1.length) = false := by first | simpa using c3 | (simp at c3 ⊢; omega)
    obtain rfl := Option.some.inj H
    go_enter Tryd.func20, Tryd.ntmps20
    go_wp2
    repeat (go_quiet (fail); try go_wp2)
    go_ret
    exact ⟨by first | rfl | (simp; done) | (simp [*]; done), by repeat (first | exact Drawn0.refl _ | apply Drawn0.step)⟩

/-! ### parquetryref02_Name: function 58 -/
def parquetryref02_Name.f (a0 : Int) : Option (ByteArray) := (some (([(⟨#[76]⟩ : ByteArray), (⟨#[82]⟩ : ByteArray), (⟨#[65, 76]⟩ : ByteArray), (⟨#[69, 78]⟩ : ByteArray), (⟨#[69, 83]⟩ : ByteArray), (⟨#[69, 84]⟩ : ByteArray), (⟨#[65, 78]⟩ : ByteArray), (⟨#[67, 83]⟩ : ByteArray), (⟨#[78, 83, 77]⟩ : ByteArray), (⟨#[66, 78]⟩ : ByteArray), (⟨#[66]⟩ : ByteArray), (⟨#[83]⟩ : ByteArray), (⟨#[87, 83]⟩ : ByteArray), (⟨#[79, 78]⟩ : ByteArray), (⟨#[76, 82, 69]⟩ : ByteArray), (⟨#[76, 82, 79]⟩ : ByteArray), (⟨#[82, 76, 69]⟩ : ByteArray), (⟨#[82, 76, 79]⟩ : ByteArray), (⟨#[80, 68, 70]⟩ : ByteArray), (⟨#[76, 82, 73]⟩ : ByteArray), (⟨#[82, 76, 73]⟩ : ByteArray), (⟨#[70, 83, 73]⟩ : ByteArray), (⟨#[80, 68, 73]⟩ : ByteArray)] : List ByteArray) : List ByteArray)).bind fun y184 => (if a0 < 0 then (some (⟨#[]⟩ : ByteArray)) else (if a0 > 22 then (some (⟨#[]⟩ : ByteArray)) else (if 0 ≤ a0 then (if a0 < (y184.length : Int) then (some (rdOf ByteArray.empty y184 a0)) else (none)) else (none))))
set_option maxHeartbeats 8000000 in
set_option maxRecDepth 100000 in
theorem parquetryref02_Name.calls (a0 : Int) (r : ByteArray) (w : World) (h : parquetryref02_Name.f a0 = some r) :
    Calls Tryd.prog 58 #[.int .i64 a0] w fun e w' => e = .returned (.string r) ∧ Below w.heap.size w w' := by
  have HB := Aside0.mk (Below.refl w.heap.size w)
  have H : ((some (([(⟨#[76]⟩ : ByteArray), (⟨#[82]⟩ : ByteArray), (⟨#[65, 76]⟩ : ByteArray), (⟨#[69, 78]⟩ : ByteArray), (⟨#[69, 83]⟩ : ByteArray), (⟨#[69, 84]⟩ : ByteArray), (⟨#[65, 78]⟩ : ByteArray), (⟨#[67, 83]⟩ : ByteArray), (⟨#[78, 83, 77]⟩ : ByteArray), (⟨#[66, 78]⟩ : ByteArray), (⟨#[66]⟩ : ByteArray), (⟨#[83]⟩ : ByteArray), (⟨#[87, 83]⟩ : ByteArray), (⟨#[79, 78]⟩ : ByteArray), (⟨#[76, 82, 69]⟩ : ByteArray), (⟨#[76, 82, 79]⟩ : ByteArray), (⟨#[82, 76, 69]⟩ : ByteArray), (⟨#[82, 76, 79]⟩ : ByteArray), (⟨#[80, 68, 70]⟩ : ByteArray), (⟨#[76, 82, 73]⟩ : ByteArray), (⟨#[82, 76, 73]⟩ : ByteArray), (⟨#[70, 83, 73]⟩ : ByteArray), (⟨#[80, 68, 73]⟩ : ByteArray)] : List ByteArray) : List ByteArray)).bind fun y184 => (if a0 < 0 then (some (⟨#[]⟩ : ByteArray)) else (if a0 > 22 then (some (⟨#[]⟩ : ByteArray)) else (if 0 ≤ a0 then (if a0 < (y184.length : Int) then (some (rdOf ByteArray.empty y184 a0)) else (none)) else (none))))) = some r := h
  clear h
  obtain ⟨y184, hy184⟩ : ∃ y_ : List ByteArray, y_ = (([(⟨#[76]⟩ : ByteArray), (⟨#[82]⟩ : ByteArray), (⟨#[65, 76]⟩ : ByteArray), (⟨#[69, 78]⟩ : ByteArray), (⟨#[69, 83]⟩ : ByteArray), (⟨#[69, 84]⟩ : ByteArray), (⟨#[65, 78]⟩ : ByteArray), (⟨#[67, 83]⟩ : ByteArray), (⟨#[78, 83, 77]⟩ : ByteArray), (⟨#[66, 78]⟩ : ByteArray), (⟨#[66]⟩ : ByteArray), (⟨#[83]⟩ : ByteArray), (⟨#[87, 83]⟩ : ByteArray), (⟨#[79, 78]⟩ : ByteArray), (⟨#[76, 82, 69]⟩ : ByteArray), (⟨#[76, 82, 79]⟩ : ByteArray), (⟨#[82, 76, 69]⟩ : ByteArray), (⟨#[82, 76, 79]⟩ : ByteArray), (⟨#[80, 68, 70]⟩ : ByteArray), (⟨#[76, 82, 73]⟩ : ByteArray), (⟨#[82, 76, 73]⟩ : ByteArray), (⟨#[70, 83, 73]⟩ : ByteArray), (⟨#[80, 68, 73]⟩ : ByteArray)] : List ByteArray)) := ⟨_, rfl⟩
  replace H : (if a0 < 0 then (some (⟨#[]⟩ : ByteArray)) else (if a0 > 22 then (some (⟨#[]⟩ : ByteArray)) else (if 0 ≤ a0 then (if a0 < (y184.length : Int) then (some (rdOf ByteArray.empty y184 a0)) else (none)) else (none)))) = some r := by first | (rw [hy184]; with_reducible exact H) | (have H2_ := (Option.bind_some _ _).symm.trans H; rw [hy184]; with_reducible exact H2_) | (have H2_ := (Option.bind_some _ _).symm.trans H; with_reducible exact H2_) | with_reducible exact H | (rw [hy184]; exact H) | exact H
  have Ny184 := Aside0.mk hy184
  clear hy184
  by_cases c2 : a0 < 0
  · rw [if_pos c2] at H
    have c2b0 : decide (a0 < 0) = true := decide_eq_true c2
    clear c2
    obtain rfl := Option.some.inj H
    go_enter Tryd.func58, Tryd.ntmps58
    go_wp2_with (first | ((with_reducible refine gate_dst (N := 4) rfl ?_); refine Kd.R_lit Kd.string _ 9 ?hg (N := 4) ?hd (xs := ([(⟨#[76]⟩ : ByteArray), (⟨#[82]⟩ : ByteArray), (⟨#[65, 76]⟩ : ByteArray), (⟨#[69, 78]⟩ : ByteArray), (⟨#[69, 83]⟩ : ByteArray), (⟨#[69, 84]⟩ : ByteArray), (⟨#[65, 78]⟩ : ByteArray), (⟨#[67, 83]⟩ : ByteArray), (⟨#[78, 83, 77]⟩ : ByteArray), (⟨#[66, 78]⟩ : ByteArray), (⟨#[66]⟩ : ByteArray), (⟨#[83]⟩ : ByteArray), (⟨#[87, 83]⟩ : ByteArray), (⟨#[79, 78]⟩ : ByteArray), (⟨#[76, 82, 69]⟩ : ByteArray), (⟨#[76, 82, 79]⟩ : ByteArray), (⟨#[82, 76, 69]⟩ : ByteArray), (⟨#[82, 76, 79]⟩ : ByteArray), (⟨#[80, 68, 70]⟩ : ByteArray), (⟨#[76, 82, 73]⟩ : ByteArray), (⟨#[82, 76, 73]⟩ : ByteArray), (⟨#[70, 83, 73]⟩ : ByteArray), (⟨#[80, 68, 73]⟩ : ByteArray)] : List ByteArray)) (inner := [.string (⟨#[76]⟩ : ByteArray), .string (⟨#[82]⟩ : ByteArray), .string (⟨#[65, 76]⟩ : ByteArray), .string (⟨#[69, 78]⟩ : ByteArray), .string (⟨#[69, 83]⟩ : ByteArray), .string (⟨#[69, 84]⟩ : ByteArray), .string (⟨#[65, 78]⟩ : ByteArray), .string (⟨#[67, 83]⟩ : ByteArray), .string (⟨#[78, 83, 77]⟩ : ByteArray), .string (⟨#[66, 78]⟩ : ByteArray), .string (⟨#[66]⟩ : ByteArray), .string (⟨#[83]⟩ : ByteArray), .string (⟨#[87, 83]⟩ : ByteArray), .string (⟨#[79, 78]⟩ : ByteArray), .string (⟨#[76, 82, 69]⟩ : ByteArray), .string (⟨#[76, 82, 79]⟩ : ByteArray), .string (⟨#[82, 76, 69]⟩ : ByteArray), .string (⟨#[82, 76, 79]⟩ : ByteArray), .string (⟨#[80, 68, 70]⟩ : ByteArray), .string (⟨#[76, 82, 73]⟩ : ByteArray), .string (⟨#[82, 76, 73]⟩ : ByteArray), .string (⟨#[70, 83, 73]⟩ : ByteArray), .string (⟨#[80, 68, 73]⟩ : ByteArray)]) (ok := fun _ => True) (okp := fun _ => True) ?hr ?hp (fun _ hk => hk) trivial (Below.refl _ _) (Nat.le_refl _) (by simp) ?_; (case hd => rfl); (case hg => rfl); (case hr => first | (go_simp; done) | (go_simp; rfl)); (case hp => exact (Reps.one (show Kd.M Kd.string _ _ _ (⟨#[76]⟩ : ByteArray) [.string (⟨#[76]⟩ : ByteArray)] from rfl) (Reps.one (show Kd.M Kd.string _ _ _ (⟨#[82]⟩ : ByteArray) [.string (⟨#[82]⟩ : ByteArray)] from rfl) (Reps.one (show Kd.M Kd.string _ _ _ (⟨#[65, 76]⟩ : ByteArray) [.string (⟨#[65, 76]⟩ : ByteArray)] from rfl) (Reps.one (show Kd.M Kd.string _ _ _ (⟨#[69, 78]⟩ : ByteArray) [.string (⟨#[69, 78]⟩ : ByteArray)] from rfl) (Reps.one (show Kd.M Kd.string _ _ _ (⟨#[69, 83]⟩ : ByteArray) [.string (⟨#[69, 83]⟩ : ByteArray)] from rfl) (Reps.one (show Kd.M Kd.string _ _ _ (⟨#[69, 84]⟩ : ByteArray) [.string (⟨#[69, 84]⟩ : ByteArray)] from rfl) (Reps.one (show Kd.M Kd.string _ _ _ (⟨#[65, 78]⟩ : ByteArray) [.string (⟨#[65, 78]⟩ : ByteArray)] from rfl) (Reps.one (show Kd.M Kd.string _ _ _ (⟨#[67, 83]⟩ : ByteArray) [.string (⟨#[67, 83]⟩ : ByteArray)] from rfl) (Reps.one (show Kd.M Kd.string _ _ _ (⟨#[78, 83, 77]⟩ : ByteArray) [.string (⟨#[78, 83, 77]⟩ : ByteArray)] from rfl) (Reps.one (show Kd.M Kd.string _ _ _ (⟨#[66, 78]⟩ : ByteArray) [.string (⟨#[66, 78]⟩ : ByteArray)] from rfl) (Reps.one (show Kd.M Kd.string _ _ _ (⟨#[66]⟩ : ByteArray) [.string (⟨#[66]⟩ : ByteArray)] from rfl) (Reps.one (show Kd.M Kd.string _ _ _ (⟨#[83]⟩ : ByteArray) [.string (⟨#[83]⟩ : ByteArray)] from rfl) (Reps.one (show Kd.M Kd.string _ _ _ (⟨#[87, 83]⟩ : ByteArray) [.string (⟨#[87, 83]⟩ : ByteArray)] from rfl) (Reps.one (show Kd.M Kd.string _ _ _ (⟨#[79, 78]⟩ : ByteArray) [.string (⟨#[79, 78]⟩ : ByteArray)] from rfl) (Reps.one (show Kd.M Kd.string _ _ _ (⟨#[76, 82, 69]⟩ : ByteArray) [.string (⟨#[76, 82, 69]⟩ : ByteArray)] from rfl) (Reps.one (show Kd.M Kd.string _ _ _ (⟨#[76, 82, 79]⟩ : ByteArray) [.string (⟨#[76, 82, 79]⟩ : ByteArray)] from rfl) (Reps.one (show Kd.M Kd.string _ _ _ (⟨#[82, 76, 69]⟩ : ByteArray) [.string (⟨#[82, 76, 69]⟩ : ByteArray)] from rfl) (Reps.one (show Kd.M Kd.string _ _ _ (⟨#[82, 76, 79]⟩ : ByteArray) [.string (⟨#[82, 76, 79]⟩ : ByteArray)] from rfl) (Reps.one (show Kd.M Kd.string _ _ _ (⟨#[80, 68, 70]⟩ : ByteArray) [.string (⟨#[80, 68, 70]⟩ : ByteArray)] from rfl) (Reps.one (show Kd.M Kd.string _ _ _ (⟨#[76, 82, 73]⟩ : ByteArray) [.string (⟨#[76, 82, 73]⟩ : ByteArray)] from rfl) (Reps.one (show Kd.M Kd.string _ _ _ (⟨#[82, 76, 73]⟩ : ByteArray) [.string (⟨#[82, 76, 73]⟩ : ByteArray)] from rfl) (Reps.one (show Kd.M Kd.string _ _ _ (⟨#[70, 83, 73]⟩ : ByteArray) [.string (⟨#[70, 83, 73]⟩ : ByteArray)] from rfl) (Reps.one (show Kd.M Kd.string _ _ _ (⟨#[80, 68, 73]⟩ : ByteArray) [.string (⟨#[80, 68, 73]⟩ : ByteArray)] from rfl) (Reps.none _ _))))))))))))))))))))))))); intro v185 w3 ho4 hb hg_ hnew_; clear hg_ hnew_; (first | rw [← Ny184.out] at ho4 | (simp only [Int.reduceToNat] at ho4; rw [← Ny184.out] at ho4)); have n0_ := Aside0.mk (Kd.R_lower ho4 (below_size (by repeat (first | (with_reducible first | exact HB.out | apply below_alloc | apply pw_below_drewN | apply below_drew1) | exact HB.out)))); have n1_ := Aside0.mk (below_step (by repeat (first | (with_reducible first | exact HB.out | apply below_alloc | apply pw_below_drewN | apply below_drew1) | exact HB.out)) hb); clear HB; have HO186 := n0_; have HB := n1_; clear n0_ n1_; clear hb ho4))
    go_ret
    exact ⟨by first | rfl | (simp [errW_none, errW_some] <;> rfl) | (simp [*, errW_none, errW_some] <;> rfl), by repeat (first | (with_reducible first | exact HB.out | apply below_alloc | apply pw_below_drewN | apply below_drew1) | exact HB.out)⟩
  · rw [if_neg c2] at H
    have c2b0 : decide (a0 < 0) = false := decide_eq_false c2
    clear c2
    by_cases c5 : a0 > 22
    · rw [if_pos c5] at H
      have c5b0 : decide (22 < a0) = true := decide_eq_true c5
      clear c5
      obtain rfl := Option.some.inj H
      go_enter Tryd.func58, Tryd.ntmps58
      go_wp2_with (first | ((with_reducible refine gate_dst (N := 4) rfl ?_); refine Kd.R_lit Kd.string _ 9 ?hg (N := 4) ?hd (xs := ([(⟨#[76]⟩ : ByteArray), (⟨#[82]⟩ : ByteArray), (⟨#[65, 76]⟩ : ByteArray), (⟨#[69, 78]⟩ : ByteArray), (⟨#[69, 83]⟩ : ByteArray), (⟨#[69, 84]⟩ : ByteArray), (⟨#[65, 78]⟩ : ByteArray), (⟨#[67, 83]⟩ : ByteArray), (⟨#[78, 83, 77]⟩ : ByteArray), (⟨#[66, 78]⟩ : ByteArray), (⟨#[66]⟩ : ByteArray), (⟨#[83]⟩ : ByteArray), (⟨#[87, 83]⟩ : ByteArray), (⟨#[79, 78]⟩ : ByteArray), (⟨#[76, 82, 69]⟩ : ByteArray), (⟨#[76, 82, 79]⟩ : ByteArray), (⟨#[82, 76, 69]⟩ : ByteArray), (⟨#[82, 76, 79]⟩ : ByteArray), (⟨#[80, 68, 70]⟩ : ByteArray), (⟨#[76, 82, 73]⟩ : ByteArray), (⟨#[82, 76, 73]⟩ : ByteArray), (⟨#[70, 83, 73]⟩ : ByteArray), (⟨#[80, 68, 73]⟩ : ByteArray)] : List ByteArray)) (inner := [.string (⟨#[76]⟩ : ByteArray), .string (⟨#[82]⟩ : ByteArray), .string (⟨#[65, 76]⟩ : ByteArray), .string (⟨#[69, 78]⟩ : ByteArray), .string (⟨#[69, 83]⟩ : ByteArray), .string (⟨#[69, 84]⟩ : ByteArray), .string (⟨#[65, 78]⟩ : ByteArray), .string (⟨#[67, 83]⟩ : ByteArray), .string (⟨#[78, 83, 77]⟩ : ByteArray), .string (⟨#[66, 78]⟩ : ByteArray), .string (⟨#[66]⟩ : ByteArray), .string (⟨#[83]⟩ : ByteArray), .string (⟨#[87, 83]⟩ : ByteArray), .string (⟨#[79, 78]⟩ : ByteArray), .string (⟨#[76, 82, 69]⟩ : ByteArray), .string (⟨#[76, 82, 79]⟩ : ByteArray), .string (⟨#[82, 76, 69]⟩ : ByteArray), .string (⟨#[82, 76, 79]⟩ : ByteArray), .string (⟨#[80, 68, 70]⟩ : ByteArray), .string (⟨#[76, 82, 73]⟩ : ByteArray), .string (⟨#[82, 76, 73]⟩ : ByteArray), .string (⟨#[70, 83, 73]⟩ : ByteArray), .string (⟨#[80, 68, 73]⟩ : ByteArray)]) (ok := fun _ => True) (okp := fun _ => True) ?hr ?hp (fun _ hk => hk) trivial (Below.refl _ _) (Nat.le_refl _) (by simp) ?_; (case hd => rfl); (case hg => rfl); (case hr => first | (go_simp; done) | (go_simp; rfl)); (case hp => exact (Reps.one (show Kd.M Kd.string _ _ _ (⟨#[76]⟩ : ByteArray) [.string (⟨#[76]⟩ : ByteArray)] from rfl) (Reps.one (show Kd.M Kd.string _ _ _ (⟨#[82]⟩ : ByteArray) [.string (⟨#[82]⟩ : ByteArray)] from rfl) (Reps.one (show Kd.M Kd.string _ _ _ (⟨#[65, 76]⟩ : ByteArray) [.string (⟨#[65, 76]⟩ : ByteArray)] from rfl) (Reps.one (show Kd.M Kd.string _ _ _ (⟨#[69, 78]⟩ : ByteArray) [.string (⟨#[69, 78]⟩ : ByteArray)] from rfl) (Reps.one (show Kd.M Kd.string _ _ _ (⟨#[69, 83]⟩ : ByteArray) [.string (⟨#[69, 83]⟩ : ByteArray)] from rfl) (Reps.one (show Kd.M Kd.string _ _ _ (⟨#[69, 84]⟩ : ByteArray) [.string (⟨#[69, 84]⟩ : ByteArray)] from rfl) (Reps.one (show Kd.M Kd.string _ _ _ (⟨#[65, 78]⟩ : ByteArray) [.string (⟨#[65, 78]⟩ : ByteArray)] from rfl) (Reps.one (show Kd.M Kd.string _ _ _ (⟨#[67, 83]⟩ : ByteArray) [.string (⟨#[67, 83]⟩ : ByteArray)] from rfl) (Reps.one (show Kd.M Kd.string _ _ _ (⟨#[78, 83, 77]⟩ : ByteArray) [.string (⟨#[78, 83, 77]⟩ : ByteArray)] from rfl) (Reps.one (show Kd.M Kd.string _ _ _ (⟨#[66, 78]⟩ : ByteArray) [.string (⟨#[66, 78]⟩ : ByteArray)] from rfl) (Reps.one (show Kd.M Kd.string _ _ _ (⟨#[66]⟩ : ByteArray) [.string (⟨#[66]⟩ : ByteArray)] from rfl) (Reps.one (show Kd.M Kd.string _ _ _ (⟨#[83]⟩ : ByteArray) [.string (⟨#[83]⟩ : ByteArray)] from rfl) (Reps.one (show Kd.M Kd.string _ _ _ (⟨#[87, 83]⟩ : ByteArray) [.string (⟨#[87, 83]⟩ : ByteArray)] from rfl) (Reps.one (show Kd.M Kd.string _ _ _ (⟨#[79, 78]⟩ : ByteArray) [.string (⟨#[79, 78]⟩ : ByteArray)] from rfl) (Reps.one (show Kd.M Kd.string _ _ _ (⟨#[76, 82, 69]⟩ : ByteArray) [.string (⟨#[76, 82, 69]⟩ : ByteArray)] from rfl) (Reps.one (show Kd.M Kd.string _ _ _ (⟨#[76, 82, 79]⟩ : ByteArray) [.string (⟨#[76, 82, 79]⟩ : ByteArray)] from rfl) (Reps.one (show Kd.M Kd.string _ _ _ (⟨#[82, 76, 69]⟩ : ByteArray) [.string (⟨#[82, 76, 69]⟩ : ByteArray)] from rfl) (Reps.one (show Kd.M Kd.string _ _ _ (⟨#[82, 76, 79]⟩ : ByteArray) [.string (⟨#[82, 76, 79]⟩ : ByteArray)] from rfl) (Reps.one (show Kd.M Kd.string _ _ _ (⟨#[80, 68, 70]⟩ : ByteArray) [.string (⟨#[80, 68, 70]⟩ : ByteArray)] from rfl) (Reps.one (show Kd.M Kd.string _ _ _ (⟨#[76, 82, 73]⟩ : ByteArray) [.string (⟨#[76, 82, 73]⟩ : ByteArray)] from rfl) (Reps.one (show Kd.M Kd.string _ _ _ (⟨#[82, 76, 73]⟩ : ByteArray) [.string (⟨#[82, 76, 73]⟩ : ByteArray)] from rfl) (Reps.one (show Kd.M Kd.string _ _ _ (⟨#[70, 83, 73]⟩ : ByteArray) [.string (⟨#[70, 83, 73]⟩ : ByteArray)] from rfl) (Reps.one (show Kd.M Kd.string _ _ _ (⟨#[80, 68, 73]⟩ : ByteArray) [.string (⟨#[80, 68, 73]⟩ : ByteArray)] from rfl) (Reps.none _ _))))))))))))))))))))))))); intro v185 w6 ho7 hb hg_ hnew_; clear hg_ hnew_; (first | rw [← Ny184.out] at ho7 | (simp only [Int.reduceToNat] at ho7; rw [← Ny184.out] at ho7)); have n0_ := Aside0.mk (Kd.R_lower ho7 (below_size (by repeat (first | (with_reducible first | exact HB.out | apply below_alloc | apply pw_below_drewN | apply below_drew1) | exact HB.out)))); have n1_ := Aside0.mk (below_step (by repeat (first | (with_reducible first | exact HB.out | apply below_alloc | apply pw_below_drewN | apply below_drew1) | exact HB.out)) hb); clear HB; have HO186 := n0_; have HB := n1_; clear n0_ n1_; clear hb ho7))
      go_ret
      exact ⟨by first | rfl | (simp [errW_none, errW_some] <;> rfl) | (simp [*, errW_none, errW_some] <;> rfl), by repeat (first | (with_reducible first | exact HB.out | apply below_alloc | apply pw_below_drewN | apply below_drew1) | exact HB.out)⟩
    · rw [if_neg c5] at H
      have c5b0 : decide (22 < a0) = false := decide_eq_false c5
      clear c5
      by_cases c8 : 0 ≤ a0
      · rw [if_pos c8] at H
        have c8b0 : decide (0 ≤ a0) = true := decide_eq_true c8
        clear c8
        by_cases c9 : a0 < (y184.length : Int)
        · rw [if_pos c9] at H
          have c9b0 : decide (a0 < (y184.length : Int)) = true := decide_eq_true c9
          clear c9
          obtain rfl := Option.some.inj H
          go_enter Tryd.func58, Tryd.ntmps58
          go_wp2_with (first | ((with_reducible refine gate_dst (N := 4) rfl ?_); refine Kd.R_lit Kd.string _ 9 ?hg (N := 4) ?hd (xs := ([(⟨#[76]⟩ : ByteArray), (⟨#[82]⟩ : ByteArray), (⟨#[65, 76]⟩ : ByteArray), (⟨#[69, 78]⟩ : ByteArray), (⟨#[69, 83]⟩ : ByteArray), (⟨#[69, 84]⟩ : ByteArray), (⟨#[65, 78]⟩ : ByteArray), (⟨#[67, 83]⟩ : ByteArray), (⟨#[78, 83, 77]⟩ : ByteArray), (⟨#[66, 78]⟩ : ByteArray), (⟨#[66]⟩ : ByteArray), (⟨#[83]⟩ : ByteArray), (⟨#[87, 83]⟩ : ByteArray), (⟨#[79, 78]⟩ : ByteArray), (⟨#[76, 82, 69]⟩ : ByteArray), (⟨#[76, 82, 79]⟩ : ByteArray), (⟨#[82, 76, 69]⟩ : ByteArray), (⟨#[82, 76, 79]⟩ : ByteArray), (⟨#[80, 68, 70]⟩ : ByteArray), (⟨#[76, 82, 73]⟩ : ByteArray), (⟨#[82, 76, 73]⟩ : ByteArray), (⟨#[70, 83, 73]⟩ : ByteArray), (⟨#[80, 68, 73]⟩ : ByteArray)] : List ByteArray)) (inner := [.string (⟨#[76]⟩ : ByteArray), .string (⟨#[82]⟩ : ByteArray), .string (⟨#[65, 76]⟩ : ByteArray), .string (⟨#[69, 78]⟩ : ByteArray), .string (⟨#[69, 83]⟩ : ByteArray), .string (⟨#[69, 84]⟩ : ByteArray), .string (⟨#[65, 78]⟩ : ByteArray), .string (⟨#[67, 83]⟩ : ByteArray), .string (⟨#[78, 83, 77]⟩ : ByteArray), .string (⟨#[66, 78]⟩ : ByteArray), .string (⟨#[66]⟩ : ByteArray), .string (⟨#[83]⟩ : ByteArray), .string (⟨#[87, 83]⟩ : ByteArray), .string (⟨#[79, 78]⟩ : ByteArray), .string (⟨#[76, 82, 69]⟩ : ByteArray), .string (⟨#[76, 82, 79]⟩ : ByteArray), .string (⟨#[82, 76, 69]⟩ : ByteArray), .string (⟨#[82, 76, 79]⟩ : ByteArray), .string (⟨#[80, 68, 70]⟩ : ByteArray), .string (⟨#[76, 82, 73]⟩ : ByteArray), .string (⟨#[82, 76, 73]⟩ : ByteArray), .string (⟨#[70, 83, 73]⟩ : ByteArray), .string (⟨#[80, 68, 73]⟩ : ByteArray)]) (ok := fun _ => True) (okp := fun _ => True) ?hr ?hp (fun _ hk => hk) trivial (Below.refl _ _) (Nat.le_refl _) (by simp) ?_; (case hd => rfl); (case hg => rfl); (case hr => first | (go_simp; done) | (go_simp; rfl)); (case hp => exact (Reps.one (show Kd.M Kd.string _ _ _ (⟨#[76]⟩ : ByteArray) [.string (⟨#[76]⟩ : ByteArray)] from rfl) (Reps.one (show Kd.M Kd.string _ _ _ (⟨#[82]⟩ : ByteArray) [.string (⟨#[82]⟩ : ByteArray)] from rfl) (Reps.one (show Kd.M Kd.string _ _ _ (⟨#[65, 76]⟩ : ByteArray) [.string (⟨#[65, 76]⟩ : ByteArray)] from rfl) (Reps.one (show Kd.M Kd.string _ _ _ (⟨#[69, 78]⟩ : ByteArray) [.string (⟨#[69, 78]⟩ : ByteArray)] from rfl) (Reps.one (show Kd.M Kd.string _ _ _ (⟨#[69, 83]⟩ : ByteArray) [.string (⟨#[69, 83]⟩ : ByteArray)] from rfl) (Reps.one (show Kd.M Kd.string _ _ _ (⟨#[69, 84]⟩ : ByteArray) [.string (⟨#[69, 84]⟩ : ByteArray)] from rfl) (Reps.one (show Kd.M Kd.string _ _ _ (⟨#[65, 78]⟩ : ByteArray) [.string (⟨#[65, 78]⟩ : ByteArray)] from rfl) (Reps.one (show Kd.M Kd.string _ _ _ (⟨#[67, 83]⟩ : ByteArray) [.string (⟨#[67, 83]⟩ : ByteArray)] from rfl) (Reps.one (show Kd.M Kd.string _ _ _ (⟨#[78, 83, 77]⟩ : ByteArray) [.string (⟨#[78, 83, 77]⟩ : ByteArray)] from rfl) (Reps.one (show Kd.M Kd.string _ _ _ (⟨#[66, 78]⟩ : ByteArray) [.string (⟨#[66, 78]⟩ : ByteArray)] from rfl) (Reps.one (show Kd.M Kd.string _ _ _ (⟨#[66]⟩ : ByteArray) [.string (⟨#[66]⟩ : ByteArray)] from rfl) (Reps.one (show Kd.M Kd.string _ _ _ (⟨#[83]⟩ : ByteArray) [.string (⟨#[83]⟩ : ByteArray)] from rfl) (Reps.one (show Kd.M Kd.string _ _ _ (⟨#[87, 83]⟩ : ByteArray) [.string (⟨#[87, 83]⟩ : ByteArray)] from rfl) (Reps.one (show Kd.M Kd.string _ _ _ (⟨#[79, 78]⟩ : ByteArray) [.string (⟨#[79, 78]⟩ : ByteArray)] from rfl) (Reps.one (show Kd.M Kd.string _ _ _ (⟨#[76, 82, 69]⟩ : ByteArray) [.string (⟨#[76, 82, 69]⟩ : ByteArray)] from rfl) (Reps.one (show Kd.M Kd.string _ _ _ (⟨#[76, 82, 79]⟩ : ByteArray) [.string (⟨#[76, 82, 79]⟩ : ByteArray)] from rfl) (Reps.one (show Kd.M Kd.string _ _ _ (⟨#[82, 76, 69]⟩ : ByteArray) [.string (⟨#[82, 76, 69]⟩ : ByteArray)] from rfl) (Reps.one (show Kd.M Kd.string _ _ _ (⟨#[82, 76, 79]⟩ : ByteArray) [.string (⟨#[82, 76, 79]⟩ : ByteArray)] from rfl) (Reps.one (show Kd.M Kd.string _ _ _ (⟨#[80, 68, 70]⟩ : ByteArray) [.string (⟨#[80, 68, 70]⟩ : ByteArray)] from rfl) (Reps.one (show Kd.M Kd.string _ _ _ (⟨#[76, 82, 73]⟩ : ByteArray) [.string (⟨#[76, 82, 73]⟩ : ByteArray)] from rfl) (Reps.one (show Kd.M Kd.string _ _ _ (⟨#[82, 76, 73]⟩ : ByteArray) [.string (⟨#[82, 76, 73]⟩ : ByteArray)] from rfl) (Reps.one (show Kd.M Kd.string _ _ _ (⟨#[70, 83, 73]⟩ : ByteArray) [.string (⟨#[70, 83, 73]⟩ : ByteArray)] from rfl) (Reps.one (show Kd.M Kd.string _ _ _ (⟨#[80, 68, 73]⟩ : ByteArray) [.string (⟨#[80, 68, 73]⟩ : ByteArray)] from rfl) (Reps.none _ _))))))))))))))))))))))))); intro v185 w10 ho11 hb hg_ hnew_; clear hg_ hnew_; (first | rw [← Ny184.out] at ho11 | (simp only [Int.reduceToNat] at ho11; rw [← Ny184.out] at ho11)); have n0_ := Aside0.mk (Kd.R_lower ho11 (below_size (by repeat (first | (with_reducible first | exact HB.out | apply below_alloc | apply pw_below_drewN | apply below_drew1) | exact HB.out)))); have n1_ := Aside0.mk (below_step (by repeat (first | (with_reducible first | exact HB.out | apply below_alloc | apply pw_below_drewN | apply below_drew1) | exact HB.out)) hb); clear HB; have HO186 := n0_; have HB := n1_; clear n0_ n1_; clear hb ho11; obtain ⟨Ao12, co12, eo12⟩ := Kd.R_slice HO186.out; subst eo12; have p187 : 0 ≤ (a0 : Int) := of_decide_eq_true (by first | (with_reducible assumption) | assumption); have q187 : a0 < (y184.length : Int) := of_decide_eq_true (by first | (with_reducible assumption) | assumption); obtain ⟨ad187, e187, hx187_0⟩ := Kd.at_string (Kd.R_reads' HO186.out).2.2 a0 p187 q187; cases e187; replace p187 := eq_true p187; replace q187 := eq_true q187))
          go_ret
          exact ⟨by first | rfl | (simp [errW_none, errW_some] <;> rfl) | (simp [*, errW_none, errW_some] <;> rfl), by repeat (first | (with_reducible first | exact HB.out | apply below_alloc | apply pw_below_drewN | apply below_drew1) | exact HB.out)⟩
        · rw [if_neg c9] at H
          exact absurd H (by simp)
      · rw [if_neg c8] at H
        exact absurd H (by simp)

end Go.Proofs.YtfpibigfhhoiiaaDoor.PB
