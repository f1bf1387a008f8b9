-- Written by a program of this session (wip/myprint.py, over the kit's print). Not trusted: Lean checks it.
import Derived.Test.YtfpibigfhhoiiaaDoorPWx0
import Derived.Test.YtfpibigfhhoiiaaDoorClsP
import Derived.Test.YtfpibigfhhoiiaaDoorClsS
import Derived.Test.YtfpibigfhhoiiaaDoorWk8
namespace Go.Proofs.YtfpibigfhhoiiaaDoor.PW
open Go.RowKit Go.Proofs.YtfpibigfhhoiiaaDoorW.PrintWords Go.Proofs.YtfpibigfhhoiiaaDoorW.PrintLast Go.Proofs.YtfpibigfhhoiiaaDoorW.PrintMore
attribute [local go_sem] max2_int min2_int max_two min_two max_three min_three max_four min_four   -- for this text's walks alone
set_option linter.unusedVariables false
set_option linter.unusedSimpArgs false

/-! ### parquetryref02_Same: function 20 -/
def parquetryref02_Same.l0 : Nat → List Int → List Int → Int → Option (Bool)
  | 0, _, _, _ => none
  | k + 1, x0, x1, x5 => if x5 < (x0.length : Int) then (if 0 ≤ x5 then (if x5 < (x1.length : Int) then (if (rd x0 x5) = (rd x1 x5) then (parquetryref02_Same.l0 k x0 x1 (wrap64 (x5 + 1))) else (some false)) else (none)) else (none)) else (some true)
def parquetryref02_Same.f (k : Nat) (l0 : List Int) (l1 : List Int) : Option (Bool) := if (l0.length : Int) = (l1.length : Int) then (parquetryref02_Same.l0 k l0 l1 0) else (some false)
theorem parquetryref02_Same.mono_l : ∀ k, (∀ y0 y1 y2, LeO (parquetryref02_Same.l0 k y0 y1 y2) (parquetryref02_Same.l0 (k + 1) y0 y1 y2))
  | 0 => fun _ _ _ r h => by simp [parquetryref02_Same.l0] at h
  | k + 1 => by
    have ih0 := parquetryref02_Same.mono_l k
    · intro y0 y1 y2
      unfold parquetryref02_Same.l0
      repeat' first
      | (with_reducible exact ih0 _ _ _)
      | (with_reducible exact LeO.refl _)
      | (with_reducible exact LeO.none _)
      | (with_reducible refine LeO.ite ?_ ?_)
      | (with_reducible refine LeO.bind ?_ (fun _ => ?_))
      | exact ih0 _ _ _
      | exact LeO.none _
      | refine LeO.ite ?_ ?_
      | refine LeO.bind ?_ (fun _ => ?_)
theorem parquetryref02_Same.mono : ∀ a0 a1 k, LeO (parquetryref02_Same.f k a0 a1) (parquetryref02_Same.f (k + 1) a0 a1) := by
  intro a0 a1 k
  have ih0 := parquetryref02_Same.mono_l k
  unfold parquetryref02_Same.f
  repeat' first
      | (with_reducible exact ih0 _ _ _)
      | (with_reducible exact LeO.refl _)
      | (with_reducible exact LeO.none _)
      | (with_reducible refine LeO.ite ?_ ?_)
      | (with_reducible refine LeO.bind ?_ (fun _ => ?_))
      | exact ih0 _ _ _
      | exact LeO.none _
      | refine LeO.ite ?_ ?_
      | refine LeO.bind ?_ (fun _ => ?_)
set_option maxHeartbeats 8000000 in
set_option maxRecDepth 100000 in
theorem parquetryref02_Same.calls (k : Nat) (A0 : Option Addr) (c0 : Nat) (l0 : List Int) (A1 : Option Addr) (c1 : Nat) (l1 : List Int) (r : Bool) (w : World) (hr0 : Kd.C (Kd.int .i64) w A0 l0.length l0) (hc0 : l0.length ≤ c0) (hr1 : Kd.C (Kd.int .i64) w A1 l1.length l1) (hc1 : l1.length ≤ c1) (h : parquetryref02_Same.f k l0 l1 = some r) :
    Calls Tryd.prog 20 #[.slice A0 l0.length c0, .slice A1 l1.length c1] w fun e w' => e = .returned (.bool r) ∧ Drawn0 w w' := by
  have HR0 := Aside0.mk hr0
  have HC0 := Aside0.mk hc0
  clear hr0 hc0
  have HR1 := Aside0.mk hr1
  have HC1 := Aside0.mk hc1
  clear hr1 hc1
  have H : (if (l0.length : Int) = (l1.length : Int) then (parquetryref02_Same.l0 k l0 l1 0) else (some false)) = some r := h
  clear h
  by_cases c3 : (l0.length : Int) = (l1.length : Int)
  · rw [if_pos c3] at H
    have c3b0 : ((l0.length : Int) == (l1.length : Int)) = true := beq_iff_eq.mpr c3
    have c3b1 : ((l0.length : Int) != (l1.length : Int)) = false := bne_eq_false_iff_eq.mpr c3
    have c3b2 : (l0.length == l1.length) = true := by first | simpa using c3 | (simp at c3 ⊢; omega)
    clear c3
    have H' := Aside0.mk H
    clear H
    go_enter Tryd.func20, Tryd.ntmps20
    go_wp2
    repeat (go_quiet (fail); try go_wp2)
    go_loopg [5] k (fun kq v5 w' => ∃ (x5_1 : Int), v5 = .int .i64 x5_1 ∧ Aside0 (parquetryref02_Same.l0 kq l0 l1 x5_1 = some r) ∧ Aside0 (kq ≤ k) ∧ Drawn0 w w')
    case atStart => exact ⟨(0), (by first | rfl | (simp; done) | (simp [*]; done)), H', ⟨Nat.le_refl _⟩, by repeat (first | exact Drawn0.refl _ | apply Drawn0.step)⟩
    case round =>
      clear H'
      try clear c1
      try clear c2
      try clear p2
      try clear c3
      try clear c3b0
      try clear c3b1
      try clear c3b2
      obtain ⟨x5_1, rfl, HA, HK1, ⟨m1, rfl⟩⟩ := hrel
      cases gk with
      | zero => exact absurd HA.out (by simp [parquetryref02_Same.l0])
      | succ k1 =>
        have H := HA.out
        clear HA
        simp only [parquetryref02_Same.l0] at H
        by_cases c4 : x5_1 < (l0.length : Int)
        · rw [if_pos c4] at H
          have c4b0 : decide (x5_1 < (l0.length : Int)) = true := decide_eq_true c4
          clear c4
          by_cases c5 : 0 ≤ x5_1
          · rw [if_pos c5] at H
            have c5b0 : decide (0 ≤ x5_1) = true := decide_eq_true c5
            clear c5
            by_cases c6 : x5_1 < (l1.length : Int)
            · rw [if_pos c6] at H
              have c6b0 : decide (x5_1 < (l1.length : Int)) = true := decide_eq_true c6
              clear c6
              by_cases c7 : (rd l0 x5_1) = (rd l1 x5_1)
              · rw [if_pos c7] at H
                have c7b0 : ((rd l0 x5_1) == (rd l1 x5_1)) = true := beq_iff_eq.mpr c7
                have c7b1 : ((rd l0 x5_1) != (rd l1 x5_1)) = false := bne_eq_false_iff_eq.mpr c7
                clear c7
                have H' := Aside0.mk H
                clear H
                have p101 : 0 ≤ (x5_1 : Int) := of_decide_eq_true (by first | (with_reducible assumption) | assumption)
                have q101 : x5_1 < (l0.length : Int) := of_decide_eq_true (by first | (with_reducible assumption) | assumption)
                obtain ⟨ad101, e101, hx101_0⟩ := Kd.at_int HR0.out x5_1 p101 q101
                cases e101
                replace p101 := eq_true p101
                replace q101 := eq_true q101
                have p102 : 0 ≤ (x5_1 : Int) := of_decide_eq_true (by first | (with_reducible assumption) | assumption)
                have q102 : x5_1 < (l1.length : Int) := of_decide_eq_true (by first | (with_reducible assumption) | assumption)
                obtain ⟨ad102, e102, hx102_0⟩ := Kd.at_int HR1.out x5_1 p102 q102
                cases e102
                replace p102 := eq_true p102
                replace q102 := eq_true q102
                go_wp2
                repeat (go_quiet (fail); try go_wp2)
                go_roundg k1
                case measure => have := HK1.out; omega
                case rel => exact ⟨(wrap64 (x5_1 + 1)), (by first | rfl | (simp; done) | (simp [*]; done)), H', ⟨by have := HK1.out; omega⟩, by repeat (first | exact Drawn0.refl _ | apply Drawn0.step)⟩
              · rw [if_neg c7] at H
                have c7b0 : ((rd l0 x5_1) == (rd l1 x5_1)) = false := beq_eq_false_iff_ne.mpr c7
                have c7b1 : ((rd l0 x5_1) != (rd l1 x5_1)) = true := bne_iff_ne.mpr c7
                obtain rfl := Option.some.inj H
                have p101 : 0 ≤ (x5_1 : Int) := of_decide_eq_true (by first | (with_reducible assumption) | assumption)
                have q101 : x5_1 < (l0.length : Int) := of_decide_eq_true (by first | (with_reducible assumption) | assumption)
                obtain ⟨ad101, e101, hx101_0⟩ := Kd.at_int HR0.out x5_1 p101 q101
                cases e101
                replace p101 := eq_true p101
                replace q101 := eq_true q101
                have p102 : 0 ≤ (x5_1 : Int) := of_decide_eq_true (by first | (with_reducible assumption) | assumption)
                have q102 : x5_1 < (l1.length : Int) := of_decide_eq_true (by first | (with_reducible assumption) | assumption)
                obtain ⟨ad102, e102, hx102_0⟩ := Kd.at_int HR1.out x5_1 p102 q102
                cases e102
                replace p102 := eq_true p102
                replace q102 := eq_true q102
                go_wp2
                repeat (go_quiet (fail); try go_wp2)
                go_ret
                exact ⟨by first | rfl | (simp; done) | (simp [*]; done), by repeat (first | exact Drawn0.refl _ | apply Drawn0.step)⟩
            · rw [if_neg c6] at H
              exact absurd H (by simp)
          · rw [if_neg c5] at H
            exact absurd H (by simp)
        · rw [if_neg c4] at H
          have c4b0 : decide (x5_1 < (l0.length : Int)) = false := decide_eq_false c4
          clear c4
          obtain rfl := Option.some.inj H
          go_wp2
          repeat (go_quiet (fail); try go_wp2)
          go_ret
          exact ⟨by first | rfl | (simp; done) | (simp [*]; done), by repeat (first | exact Drawn0.refl _ | apply Drawn0.step)⟩
  · rw [if_neg c3] at H
    have c3b0 : ((l0.length : Int) == (l1.length : Int)) = false := beq_eq_false_iff_ne.mpr c3
    have c3b1 : ((l0.length : Int) != (l1.length : Int)) = true := bne_iff_ne.mpr c3
    have c3b2 : (l0.length == l1.length) = false := by first | simpa using c3 | (simp at c3 ⊢; omega)
    obtain rfl := Option.some.inj H
    go_enter Tryd.func20, Tryd.ntmps20
    go_wp2
    repeat (go_quiet (fail); try go_wp2)
    go_ret
    exact ⟨by first | rfl | (simp; done) | (simp [*]; done), by repeat (first | exact Drawn0.refl _ | apply Drawn0.step)⟩

/-! ### parquetrylaw13_comes: function 62 -/
def parquetrylaw13_comes.f (a0 : ByteArray) (a1 : Int) (a2 : ByteArray) : Option (Bool) := (class_Read.f a0).bind fun bt103 => ((weak_Weak.f bt103.1 a1).bind fun t107 => ((class_Print.f t107).bind fun bt110 => (if bt103.2 = true then (if bt110.2 = true then (some (bt110.1.toList == a2.toList)) else (some false)) else (some false))))
set_option maxHeartbeats 8000000 in
set_option maxRecDepth 100000 in
theorem parquetrylaw13_comes.calls (a0 : ByteArray) (a1 : Int) (a2 : ByteArray) (r : Bool) (w : World) (h : parquetrylaw13_comes.f a0 a1 a2 = some r) :
    Calls Tryd.prog 62 #[.string a0, .int .i64 a1, .string a2] w fun e w' => e = .returned (.bool r) ∧ Below w.heap.size w w' := by
  have HB := Aside0.mk (Below.refl w.heap.size w)
  have H : ((class_Read.f a0).bind fun bt103 => ((weak_Weak.f bt103.1 a1).bind fun t107 => ((class_Print.f t107).bind fun bt110 => (if bt103.2 = true then (if bt110.2 = true then (some (bt110.1.toList == a2.toList)) else (some false)) else (some false))))) = some r := h
  clear h
  replace H := Option.bind_eq_some_iff.mp H
  obtain ⟨⟨t103, t104⟩, A40, H⟩ := H
  replace H : ((weak_Weak.f t103 a1).bind fun t107 => ((class_Print.f t107).bind fun bt110 => (if t104 = true then (if bt110.2 = true then (some (bt110.1.toList == a2.toList)) else (some false)) else (some false)))) = some r := H
  have A4 := Aside0.mk A40
  clear A40
  replace H := Option.bind_eq_some_iff.mp H
  obtain ⟨t107, A50, H⟩ := H
  replace H : ((class_Print.f t107).bind fun bt110 => (if t104 = true then (if bt110.2 = true then (some (bt110.1.toList == a2.toList)) else (some false)) else (some false))) = some r := H
  have A5 := Aside0.mk A50
  clear A50
  replace H := Option.bind_eq_some_iff.mp H
  obtain ⟨⟨t110, t111⟩, A60, H⟩ := H
  replace H : (if t104 = true then (if t111 = true then (some (t110.toList == a2.toList)) else (some false)) else (some false)) = some r := H
  have A6 := Aside0.mk A60
  clear A60
  by_cases c7 : t104 = true
  · subst c7
    have H1 : (if t111 = true then (some (t110.toList == a2.toList)) else (some false)) = some r := by rw [if_pos rfl] at H; exact H
    clear H
    have H := H1
    clear H1
    by_cases c8 : t111 = true
    · subst c8
      have H1 : (some (t110.toList == a2.toList)) = some r := by rw [if_pos rfl] at H; exact H
      clear H
      have H := H1
      clear H1
      obtain rfl := Option.some.inj H
      go_enter Tryd.func62, Tryd.ntmps62
      go_wp2_with (first | ((with_reducible refine gate_callee (f := 32) rfl ?_); refine goesL_ (some 13) rfl rfl Tryd.func32 (by kernel_rfl) rfl #[.string a0] rfl (by (try simp only [List.map_toArray, List.map_cons, List.map_nil]); first | done | rfl | (simp only [List.length_drop, List.length_take]; rfl)) ?_; (with_reducible refine (class_Read.calls a0 t103 true _ A4.out).mono ?_); rintro e w9 ⟨v105, rfl, ho0, hb⟩; refine ⟨_, rfl, ?_⟩; have n0_ := Aside0.mk (Kd.R_lower ho0 (below_size (by repeat (first | (with_reducible first | exact HB.out | apply below_alloc | apply pw_below_drewN | apply below_drew1) | exact HB.out)))); have n1_ := Aside0.mk (below_step (by repeat (first | (with_reducible first | exact HB.out | apply below_alloc | apply pw_below_drewN | apply below_drew1) | exact HB.out)) hb); clear HB; have HO106 := n0_; have HB := n1_; clear n0_ n1_; (try clear hb); (try clear hb2); (try clear hk); (try clear hi); (try clear ho0); obtain ⟨Ao10, co10, eo10⟩ := Kd.R_slice HO106.out; subst eo10) | ((with_reducible refine gate_callee (f := 40) rfl ?_); refine goesL_ (some 19) rfl rfl Tryd.func40 (by kernel_rfl) rfl #[.slice Ao10 t103.length co10, .int .i64 a1] rfl (by (try simp only [List.map_toArray, List.map_cons, List.map_nil]); first | done | rfl | (simp only [List.length_drop, List.length_take]; rfl)) ?_; (with_reducible refine (weak_Weak.calls _ _ t103 a1 t107 _ ?side1 ?side2 A5.out).mono ?_); (case side1 => repeat (first | exact (Kd.R_reads' HO106.out).2.2 | (with_reducible refine Kd.C_alloc ?_ _) | (with_reducible refine Kd.C_drewN ?_ _) | (with_reducible refine Kd.C_drew ?_))); (case side2 => exact (Kd.R_reads' HO106.out).2.1); rintro e w11 ⟨v108, rfl, ho0, hb⟩; refine ⟨_, rfl, ?_⟩; have n0_ := Aside0.mk (Kd.R_elder' (by (with_reducible repeat (first | apply Kd.R_alloc | apply Kd.R_drewN | apply Kd.R_drew)); exact HO106.out) (Kd.R_base ho0) hb); have n1_ := Aside0.mk (Kd.R_lower (Kd.R_new' ho0 (Kd.R_lt (by (with_reducible repeat (first | apply Kd.R_alloc | apply Kd.R_drewN | apply Kd.R_drew)); exact HO106.out))) (below_size (by repeat (first | (with_reducible first | exact HB.out | apply below_alloc | apply pw_below_drewN | apply below_drew1) | exact HB.out)))); have n2_ := Aside0.mk (below_step (by repeat (first | (with_reducible first | exact HB.out | apply below_alloc | apply pw_below_drewN | apply below_drew1) | exact HB.out)) hb); clear HO106; clear HB; have HO106 := n0_; have HO109 := n1_; have HB := n2_; clear n0_ n1_ n2_; (try clear hb); (try clear hb2); (try clear hk); (try clear hi); (try clear ho0); obtain ⟨Ao12, co12, eo12⟩ := Kd.R_slice HO109.out; subst eo12) | ((with_reducible refine gate_callee (f := 30) rfl ?_); refine goesL_ (some 20) rfl rfl Tryd.func30 (by kernel_rfl) rfl #[.slice Ao12 t107.length co12] rfl (by (try simp only [List.map_toArray, List.map_cons, List.map_nil]); first | done | rfl | (simp only [List.length_drop, List.length_take]; rfl)) ?_; (with_reducible refine (class_Print.calls _ _ t107 t110 true _ ?side1 ?side2 A6.out).mono ?_); (case side1 => repeat (first | exact (Kd.R_reads' HO109.out).2.2 | (with_reducible refine Kd.C_alloc ?_ _) | (with_reducible refine Kd.C_drewN ?_ _) | (with_reducible refine Kd.C_drew ?_))); (case side2 => exact (Kd.R_reads' HO109.out).2.1); rintro e w13 ⟨rfl, hb⟩; refine ⟨_, rfl, ?_⟩; have n0_ := Aside0.mk (Kd.R_below (by (with_reducible repeat (first | apply Kd.R_alloc | apply Kd.R_drewN | apply Kd.R_drew)); exact HO106.out) hb); have n1_ := Aside0.mk (Kd.R_below (by (with_reducible repeat (first | apply Kd.R_alloc | apply Kd.R_drewN | apply Kd.R_drew)); exact HO109.out) hb); have n2_ := Aside0.mk (below_step (by repeat (first | (with_reducible first | exact HB.out | apply below_alloc | apply pw_below_drewN | apply below_drew1) | exact HB.out)) hb); clear HO106; clear HO109; clear HB; have HO106 := n0_; have HO109 := n1_; have HB := n2_; clear n0_ n1_ n2_; (try clear hb); (try clear hb2); (try clear hk); (try clear hi)))
      go_ret
      exact ⟨by first | rfl | (simp [errW_none, errW_some] <;> rfl) | (simp [*, errW_none, errW_some] <;> rfl), by repeat (first | (with_reducible first | exact HB.out | apply below_alloc | apply pw_below_drewN | apply below_drew1) | exact HB.out)⟩
    · replace c8 := Bool.eq_false_iff.mpr c8
      subst c8
      have H1 : (some false) = some r := by rw [if_neg (show ¬ (false = true) by decide)] at H; exact H
      clear H
      have H := H1
      clear H1
      obtain rfl := Option.some.inj H
      go_enter Tryd.func62, Tryd.ntmps62
      go_wp2_with (first | ((with_reducible refine gate_callee (f := 32) rfl ?_); refine goesL_ (some 13) rfl rfl Tryd.func32 (by kernel_rfl) rfl #[.string a0] rfl (by (try simp only [List.map_toArray, List.map_cons, List.map_nil]); first | done | rfl | (simp only [List.length_drop, List.length_take]; rfl)) ?_; (with_reducible refine (class_Read.calls a0 t103 true _ A4.out).mono ?_); rintro e w14 ⟨v105, rfl, ho0, hb⟩; refine ⟨_, rfl, ?_⟩; have n0_ := Aside0.mk (Kd.R_lower ho0 (below_size (by repeat (first | (with_reducible first | exact HB.out | apply below_alloc | apply pw_below_drewN | apply below_drew1) | exact HB.out)))); have n1_ := Aside0.mk (below_step (by repeat (first | (with_reducible first | exact HB.out | apply below_alloc | apply pw_below_drewN | apply below_drew1) | exact HB.out)) hb); clear HB; have HO106 := n0_; have HB := n1_; clear n0_ n1_; (try clear hb); (try clear hb2); (try clear hk); (try clear hi); (try clear ho0); obtain ⟨Ao15, co15, eo15⟩ := Kd.R_slice HO106.out; subst eo15) | ((with_reducible refine gate_callee (f := 40) rfl ?_); refine goesL_ (some 19) rfl rfl Tryd.func40 (by kernel_rfl) rfl #[.slice Ao15 t103.length co15, .int .i64 a1] rfl (by (try simp only [List.map_toArray, List.map_cons, List.map_nil]); first | done | rfl | (simp only [List.length_drop, List.length_take]; rfl)) ?_; (with_reducible refine (weak_Weak.calls _ _ t103 a1 t107 _ ?side1 ?side2 A5.out).mono ?_); (case side1 => repeat (first | exact (Kd.R_reads' HO106.out).2.2 | (with_reducible refine Kd.C_alloc ?_ _) | (with_reducible refine Kd.C_drewN ?_ _) | (with_reducible refine Kd.C_drew ?_))); (case side2 => exact (Kd.R_reads' HO106.out).2.1); rintro e w16 ⟨v108, rfl, ho0, hb⟩; refine ⟨_, rfl, ?_⟩; have n0_ := Aside0.mk (Kd.R_elder' (by (with_reducible repeat (first | apply Kd.R_alloc | apply Kd.R_drewN | apply Kd.R_drew)); exact HO106.out) (Kd.R_base ho0) hb); have n1_ := Aside0.mk (Kd.R_lower (Kd.R_new' ho0 (Kd.R_lt (by (with_reducible repeat (first | apply Kd.R_alloc | apply Kd.R_drewN | apply Kd.R_drew)); exact HO106.out))) (below_size (by repeat (first | (with_reducible first | exact HB.out | apply below_alloc | apply pw_below_drewN | apply below_drew1) | exact HB.out)))); have n2_ := Aside0.mk (below_step (by repeat (first | (with_reducible first | exact HB.out | apply below_alloc | apply pw_below_drewN | apply below_drew1) | exact HB.out)) hb); clear HO106; clear HB; have HO106 := n0_; have HO109 := n1_; have HB := n2_; clear n0_ n1_ n2_; (try clear hb); (try clear hb2); (try clear hk); (try clear hi); (try clear ho0); obtain ⟨Ao17, co17, eo17⟩ := Kd.R_slice HO109.out; subst eo17) | ((with_reducible refine gate_callee (f := 30) rfl ?_); refine goesL_ (some 20) rfl rfl Tryd.func30 (by kernel_rfl) rfl #[.slice Ao17 t107.length co17] rfl (by (try simp only [List.map_toArray, List.map_cons, List.map_nil]); first | done | rfl | (simp only [List.length_drop, List.length_take]; rfl)) ?_; (with_reducible refine (class_Print.calls _ _ t107 t110 false _ ?side1 ?side2 A6.out).mono ?_); (case side1 => repeat (first | exact (Kd.R_reads' HO109.out).2.2 | (with_reducible refine Kd.C_alloc ?_ _) | (with_reducible refine Kd.C_drewN ?_ _) | (with_reducible refine Kd.C_drew ?_))); (case side2 => exact (Kd.R_reads' HO109.out).2.1); rintro e w18 ⟨rfl, hb⟩; refine ⟨_, rfl, ?_⟩; have n0_ := Aside0.mk (Kd.R_below (by (with_reducible repeat (first | apply Kd.R_alloc | apply Kd.R_drewN | apply Kd.R_drew)); exact HO106.out) hb); have n1_ := Aside0.mk (Kd.R_below (by (with_reducible repeat (first | apply Kd.R_alloc | apply Kd.R_drewN | apply Kd.R_drew)); exact HO109.out) hb); have n2_ := Aside0.mk (below_step (by repeat (first | (with_reducible first | exact HB.out | apply below_alloc | apply pw_below_drewN | apply below_drew1) | exact HB.out)) hb); clear HO106; clear HO109; clear HB; have HO106 := n0_; have HO109 := n1_; have HB := n2_; clear n0_ n1_ n2_; (try clear hb); (try clear hb2); (try clear hk); (try clear hi)))
      go_ret
      exact ⟨by first | rfl | (simp [errW_none, errW_some] <;> rfl) | (simp [*, errW_none, errW_some] <;> rfl), by repeat (first | (with_reducible first | exact HB.out | apply below_alloc | apply pw_below_drewN | apply below_drew1) | exact HB.out)⟩
  · replace c7 := Bool.eq_false_iff.mpr c7
    subst c7
    have H1 : (some false) = some r := by rw [if_neg (show ¬ (false = true) by decide)] at H; exact H
    clear H
    have H := H1
    clear H1
    obtain rfl := Option.some.inj H
    go_enter Tryd.func62, Tryd.ntmps62
    go_wp2_with (first | ((with_reducible refine gate_callee (f := 32) rfl ?_); refine goesL_ (some 13) rfl rfl Tryd.func32 (by kernel_rfl) rfl #[.string a0] rfl (by (try simp only [List.map_toArray, List.map_cons, List.map_nil]); first | done | rfl | (simp only [List.length_drop, List.length_take]; rfl)) ?_; (with_reducible refine (class_Read.calls a0 t103 false _ A4.out).mono ?_); rintro e w19 ⟨v105, rfl, ho0, hb⟩; refine ⟨_, rfl, ?_⟩; have n0_ := Aside0.mk (Kd.R_lower ho0 (below_size (by repeat (first | (with_reducible first | exact HB.out | apply below_alloc | apply pw_below_drewN | apply below_drew1) | exact HB.out)))); have n1_ := Aside0.mk (below_step (by repeat (first | (with_reducible first | exact HB.out | apply below_alloc | apply pw_below_drewN | apply below_drew1) | exact HB.out)) hb); clear HB; have HO106 := n0_; have HB := n1_; clear n0_ n1_; (try clear hb); (try clear hb2); (try clear hk); (try clear hi); (try clear ho0); obtain ⟨Ao20, co20, eo20⟩ := Kd.R_slice HO106.out; subst eo20) | ((with_reducible refine gate_callee (f := 40) rfl ?_); refine goesL_ (some 19) rfl rfl Tryd.func40 (by kernel_rfl) rfl #[.slice Ao20 t103.length co20, .int .i64 a1] rfl (by (try simp only [List.map_toArray, List.map_cons, List.map_nil]); first | done | rfl | (simp only [List.length_drop, List.length_take]; rfl)) ?_; (with_reducible refine (weak_Weak.calls _ _ t103 a1 t107 _ ?side1 ?side2 A5.out).mono ?_); (case side1 => repeat (first | exact (Kd.R_reads' HO106.out).2.2 | (with_reducible refine Kd.C_alloc ?_ _) | (with_reducible refine Kd.C_drewN ?_ _) | (with_reducible refine Kd.C_drew ?_))); (case side2 => exact (Kd.R_reads' HO106.out).2.1); rintro e w21 ⟨v108, rfl, ho0, hb⟩; refine ⟨_, rfl, ?_⟩; have n0_ := Aside0.mk (Kd.R_elder' (by (with_reducible repeat (first | apply Kd.R_alloc | apply Kd.R_drewN | apply Kd.R_drew)); exact HO106.out) (Kd.R_base ho0) hb); have n1_ := Aside0.mk (Kd.R_lower (Kd.R_new' ho0 (Kd.R_lt (by (with_reducible repeat (first | apply Kd.R_alloc | apply Kd.R_drewN | apply Kd.R_drew)); exact HO106.out))) (below_size (by repeat (first | (with_reducible first | exact HB.out | apply below_alloc | apply pw_below_drewN | apply below_drew1) | exact HB.out)))); have n2_ := Aside0.mk (below_step (by repeat (first | (with_reducible first | exact HB.out | apply below_alloc | apply pw_below_drewN | apply below_drew1) | exact HB.out)) hb); clear HO106; clear HB; have HO106 := n0_; have HO109 := n1_; have HB := n2_; clear n0_ n1_ n2_; (try clear hb); (try clear hb2); (try clear hk); (try clear hi); (try clear ho0); obtain ⟨Ao22, co22, eo22⟩ := Kd.R_slice HO109.out; subst eo22) | ((with_reducible refine gate_callee (f := 30) rfl ?_); refine goesL_ (some 20) rfl rfl Tryd.func30 (by kernel_rfl) rfl #[.slice Ao22 t107.length co22] rfl (by (try simp only [List.map_toArray, List.map_cons, List.map_nil]); first | done | rfl | (simp only [List.length_drop, List.length_take]; rfl)) ?_; (with_reducible refine (class_Print.calls _ _ t107 t110 t111 _ ?side1 ?side2 A6.out).mono ?_); (case side1 => repeat (first | exact (Kd.R_reads' HO109.out).2.2 | (with_reducible refine Kd.C_alloc ?_ _) | (with_reducible refine Kd.C_drewN ?_ _) | (with_reducible refine Kd.C_drew ?_))); (case side2 => exact (Kd.R_reads' HO109.out).2.1); rintro e w23 ⟨rfl, hb⟩; refine ⟨_, rfl, ?_⟩; have n0_ := Aside0.mk (Kd.R_below (by (with_reducible repeat (first | apply Kd.R_alloc | apply Kd.R_drewN | apply Kd.R_drew)); exact HO106.out) hb); have n1_ := Aside0.mk (Kd.R_below (by (with_reducible repeat (first | apply Kd.R_alloc | apply Kd.R_drewN | apply Kd.R_drew)); exact HO109.out) hb); have n2_ := Aside0.mk (below_step (by repeat (first | (with_reducible first | exact HB.out | apply below_alloc | apply pw_below_drewN | apply below_drew1) | exact HB.out)) hb); clear HO106; clear HO109; clear HB; have HO106 := n0_; have HO109 := n1_; have HB := n2_; clear n0_ n1_ n2_; (try clear hb); (try clear hb2); (try clear hk); (try clear hi)))
    go_ret
    exact ⟨by first | rfl | (simp [errW_none, errW_some] <;> rfl) | (simp [*, errW_none, errW_some] <;> rfl), by repeat (first | (with_reducible first | exact HB.out | apply below_alloc | apply pw_below_drewN | apply below_drew1) | exact HB.out)⟩

/-! ### parquetrylaw13_awake: function 39 -/
def parquetrylaw13_awake.f  : Option (Bool) := (parquetrylaw13_comes.f (⟨#[65, 76, 32, 78, 83, 77, 32, 78, 83, 77]⟩ : ByteArray) 0 (⟨#[82, 32, 82, 32, 82]⟩ : ByteArray)).bind fun t112 => (if t112 = true then ((parquetrylaw13_comes.f (⟨#[78, 83, 77]⟩ : ByteArray) 1 (⟨#[82]⟩ : ByteArray)).bind fun t113 => (if t113 = true then ((parquetrylaw13_comes.f (⟨#[82, 76, 73, 32, 78, 83, 77]⟩ : ByteArray) 0 (⟨#[82, 76, 73, 32, 79, 78]⟩ : ByteArray)).bind fun t114 => (if t114 = true then ((parquetrylaw13_comes.f (⟨#[65, 76, 32, 69, 78]⟩ : ByteArray) 0 (⟨#[82, 32, 65, 78]⟩ : ByteArray)).bind fun t115 => (if t115 = true then ((parquetrylaw13_comes.f (⟨#[76, 32, 69, 78]⟩ : ByteArray) 1 (⟨#[76, 32, 76]⟩ : ByteArray)).bind fun t116 => (if t116 = true then ((parquetrylaw13_comes.f (⟨#[69, 78]⟩ : ByteArray) 1 (⟨#[69, 78]⟩ : ByteArray)).bind fun t117 => (if t117 = true then ((parquetrylaw13_comes.f (⟨#[69, 78, 32, 69, 83, 32, 69, 78, 32, 67, 83, 32, 69, 78]⟩ : ByteArray) 1 (⟨#[69, 78, 32, 69, 78, 32, 69, 78, 32, 69, 78, 32, 69, 78]⟩ : ByteArray)).bind fun t118 => (if t118 = true then ((parquetrylaw13_comes.f (⟨#[65, 78, 32, 67, 83, 32, 65, 78]⟩ : ByteArray) 0 (⟨#[65, 78, 32, 65, 78, 32, 65, 78]⟩ : ByteArray)).bind fun t119 => (if t119 = true then ((parquetrylaw13_comes.f (⟨#[65, 78, 32, 69, 83, 32, 65, 78]⟩ : ByteArray) 1 (⟨#[65, 78, 32, 79, 78, 32, 65, 78]⟩ : ByteArray)).bind fun t120 => (if t120 = true then ((parquetrylaw13_comes.f (⟨#[69, 84, 32, 69, 84, 32, 69, 78, 32, 69, 84]⟩ : ByteArray) 1 (⟨#[69, 78, 32, 69, 78, 32, 69, 78, 32, 69, 78]⟩ : ByteArray)).bind fun t121 => (if t121 = true then ((parquetrylaw13_comes.f (⟨#[69, 84, 32, 65, 78]⟩ : ByteArray) 1 (⟨#[79, 78, 32, 65, 78]⟩ : ByteArray)).bind fun t122 => (some t122)) else (some false))) else (some false))) else (some false))) else (some false))) else (some false))) else (some false))) else (some false))) else (some false))) else (some false))) else (some false))
set_option maxHeartbeats 8000000 in
set_option maxRecDepth 100000 in
theorem parquetrylaw13_awake.calls  (r : Bool) (w : World) (h : parquetrylaw13_awake.f  = some r) :
    Calls Tryd.prog 39 #[] w fun e w' => e = .returned (.bool r) ∧ Below w.heap.size w w' := by
  have HB := Aside0.mk (Below.refl w.heap.size w)
  have H : ((parquetrylaw13_comes.f (⟨#[65, 76, 32, 78, 83, 77, 32, 78, 83, 77]⟩ : ByteArray) 0 (⟨#[82, 32, 82, 32, 82]⟩ : ByteArray)).bind fun t112 => (if t112 = true then ((parquetrylaw13_comes.f (⟨#[78, 83, 77]⟩ : ByteArray) 1 (⟨#[82]⟩ : ByteArray)).bind fun t113 => (if t113 = true then ((parquetrylaw13_comes.f (⟨#[82, 76, 73, 32, 78, 83, 77]⟩ : ByteArray) 0 (⟨#[82, 76, 73, 32, 79, 78]⟩ : ByteArray)).bind fun t114 => (if t114 = true then ((parquetrylaw13_comes.f (⟨#[65, 76, 32, 69, 78]⟩ : ByteArray) 0 (⟨#[82, 32, 65, 78]⟩ : ByteArray)).bind fun t115 => (if t115 = true then ((parquetrylaw13_comes.f (⟨#[76, 32, 69, 78]⟩ : ByteArray) 1 (⟨#[76, 32, 76]⟩ : ByteArray)).bind fun t116 => (if t116 = true then ((parquetrylaw13_comes.f (⟨#[69, 78]⟩ : ByteArray) 1 (⟨#[69, 78]⟩ : ByteArray)).bind fun t117 => (if t117 = true then ((parquetrylaw13_comes.f (⟨#[69, 78, 32, 69, 83, 32, 69, 78, 32, 67, 83, 32, 69, 78]⟩ : ByteArray) 1 (⟨#[69, 78, 32, 69, 78, 32, 69, 78, 32, 69, 78, 32, 69, 78]⟩ : ByteArray)).bind fun t118 => (if t118 = true then ((parquetrylaw13_comes.f (⟨#[65, 78, 32, 67, 83, 32, 65, 78]⟩ : ByteArray) 0 (⟨#[65, 78, 32, 65, 78, 32, 65, 78]⟩ : ByteArray)).bind fun t119 => (if t119 = true then ((parquetrylaw13_comes.f (⟨#[65, 78, 32, 69, 83, 32, 65, 78]⟩ : ByteArray) 1 (⟨#[65, 78, 32, 79, 78, 32, 65, 78]⟩ : ByteArray)).bind fun t120 => (if t120 = true then ((parquetrylaw13_comes.f (⟨#[69, 84, 32, 69, 84, 32, 69, 78, 32, 69, 84]⟩ : ByteArray) 1 (⟨#[69, 78, 32, 69, 78, 32, 69, 78, 32, 69, 78]⟩ : ByteArray)).bind fun t121 => (if t121 = true then ((parquetrylaw13_comes.f (⟨#[69, 84, 32, 65, 78]⟩ : ByteArray) 1 (⟨#[79, 78, 32, 65, 78]⟩ : ByteArray)).bind fun t122 => (some t122)) else (some false))) else (some false))) else (some false))) else (some false))) else (some false))) else (some false))) else (some false))) else (some false))) else (some false))) else (some false))) = some r := h
  clear h
  replace H := Option.bind_eq_some_iff.mp H
  obtain ⟨t112, A10, H⟩ := H
  replace H : (if t112 = true then ((parquetrylaw13_comes.f (⟨#[78, 83, 77]⟩ : ByteArray) 1 (⟨#[82]⟩ : ByteArray)).bind fun t113 => (if t113 = true then ((parquetrylaw13_comes.f (⟨#[82, 76, 73, 32, 78, 83, 77]⟩ : ByteArray) 0 (⟨#[82, 76, 73, 32, 79, 78]⟩ : ByteArray)).bind fun t114 => (if t114 = true then ((parquetrylaw13_comes.f (⟨#[65, 76, 32, 69, 78]⟩ : ByteArray) 0 (⟨#[82, 32, 65, 78]⟩ : ByteArray)).bind fun t115 => (if t115 = true then ((parquetrylaw13_comes.f (⟨#[76, 32, 69, 78]⟩ : ByteArray) 1 (⟨#[76, 32, 76]⟩ : ByteArray)).bind fun t116 => (if t116 = true then ((parquetrylaw13_comes.f (⟨#[69, 78]⟩ : ByteArray) 1 (⟨#[69, 78]⟩ : ByteArray)).bind fun t117 => (if t117 = true then ((parquetrylaw13_comes.f (⟨#[69, 78, 32, 69, 83, 32, 69, 78, 32, 67, 83, 32, 69, 78]⟩ : ByteArray) 1 (⟨#[69, 78, 32, 69, 78, 32, 69, 78, 32, 69, 78, 32, 69, 78]⟩ : ByteArray)).bind fun t118 => (if t118 = true then ((parquetrylaw13_comes.f (⟨#[65, 78, 32, 67, 83, 32, 65, 78]⟩ : ByteArray) 0 (⟨#[65, 78, 32, 65, 78, 32, 65, 78]⟩ : ByteArray)).bind fun t119 => (if t119 = true then ((parquetrylaw13_comes.f (⟨#[65, 78, 32, 69, 83, 32, 65, 78]⟩ : ByteArray) 1 (⟨#[65, 78, 32, 79, 78, 32, 65, 78]⟩ : ByteArray)).bind fun t120 => (if t120 = true then ((parquetrylaw13_comes.f (⟨#[69, 84, 32, 69, 84, 32, 69, 78, 32, 69, 84]⟩ : ByteArray) 1 (⟨#[69, 78, 32, 69, 78, 32, 69, 78, 32, 69, 78]⟩ : ByteArray)).bind fun t121 => (if t121 = true then ((parquetrylaw13_comes.f (⟨#[69, 84, 32, 65, 78]⟩ : ByteArray) 1 (⟨#[79, 78, 32, 65, 78]⟩ : ByteArray)).bind fun t122 => (some t122)) else (some false))) else (some false))) else (some false))) else (some false))) else (some false))) else (some false))) else (some false))) else (some false))) else (some false))) else (some false)) = some r := H
  have A1 := Aside0.mk A10
  clear A10
  by_cases c2 : t112 = true
  · subst c2
    have H1 : ((parquetrylaw13_comes.f (⟨#[78, 83, 77]⟩ : ByteArray) 1 (⟨#[82]⟩ : ByteArray)).bind fun t113 => (if t113 = true then ((parquetrylaw13_comes.f (⟨#[82, 76, 73, 32, 78, 83, 77]⟩ : ByteArray) 0 (⟨#[82, 76, 73, 32, 79, 78]⟩ : ByteArray)).bind fun t114 => (if t114 = true then ((parquetrylaw13_comes.f (⟨#[65, 76, 32, 69, 78]⟩ : ByteArray) 0 (⟨#[82, 32, 65, 78]⟩ : ByteArray)).bind fun t115 => (if t115 = true then ((parquetrylaw13_comes.f (⟨#[76, 32, 69, 78]⟩ : ByteArray) 1 (⟨#[76, 32, 76]⟩ : ByteArray)).bind fun t116 => (if t116 = true then ((parquetrylaw13_comes.f (⟨#[69, 78]⟩ : ByteArray) 1 (⟨#[69, 78]⟩ : ByteArray)).bind fun t117 => (if t117 = true then ((parquetrylaw13_comes.f (⟨#[69, 78, 32, 69, 83, 32, 69, 78, 32, 67, 83, 32, 69, 78]⟩ : ByteArray) 1 (⟨#[69, 78, 32, 69, 78, 32, 69, 78, 32, 69, 78, 32, 69, 78]⟩ : ByteArray)).bind fun t118 => (if t118 = true then ((parquetrylaw13_comes.f (⟨#[65, 78, 32, 67, 83, 32, 65, 78]⟩ : ByteArray) 0 (⟨#[65, 78, 32, 65, 78, 32, 65, 78]⟩ : ByteArray)).bind fun t119 => (if t119 = true then ((parquetrylaw13_comes.f (⟨#[65, 78, 32, 69, 83, 32, 65, 78]⟩ : ByteArray) 1 (⟨#[65, 78, 32, 79, 78, 32, 65, 78]⟩ : ByteArray)).bind fun t120 => (if t120 = true then ((parquetrylaw13_comes.f (⟨#[69, 84, 32, 69, 84, 32, 69, 78, 32, 69, 84]⟩ : ByteArray) 1 (⟨#[69, 78, 32, 69, 78, 32, 69, 78, 32, 69, 78]⟩ : ByteArray)).bind fun t121 => (if t121 = true then ((parquetrylaw13_comes.f (⟨#[69, 84, 32, 65, 78]⟩ : ByteArray) 1 (⟨#[79, 78, 32, 65, 78]⟩ : ByteArray)).bind fun t122 => (some t122)) else (some false))) else (some false))) else (some false))) else (some false))) else (some false))) else (some false))) else (some false))) else (some false))) else (some false))) = some r := by rw [if_pos rfl] at H; exact H
    clear H
    have H := H1
    clear H1
    replace H := Option.bind_eq_some_iff.mp H
    obtain ⟨t113, A30, H⟩ := H
    replace H : (if t113 = true then ((parquetrylaw13_comes.f (⟨#[82, 76, 73, 32, 78, 83, 77]⟩ : ByteArray) 0 (⟨#[82, 76, 73, 32, 79, 78]⟩ : ByteArray)).bind fun t114 => (if t114 = true then ((parquetrylaw13_comes.f (⟨#[65, 76, 32, 69, 78]⟩ : ByteArray) 0 (⟨#[82, 32, 65, 78]⟩ : ByteArray)).bind fun t115 => (if t115 = true then ((parquetrylaw13_comes.f (⟨#[76, 32, 69, 78]⟩ : ByteArray) 1 (⟨#[76, 32, 76]⟩ : ByteArray)).bind fun t116 => (if t116 = true then ((parquetrylaw13_comes.f (⟨#[69, 78]⟩ : ByteArray) 1 (⟨#[69, 78]⟩ : ByteArray)).bind fun t117 => (if t117 = true then ((parquetrylaw13_comes.f (⟨#[69, 78, 32, 69, 83, 32, 69, 78, 32, 67, 83, 32, 69, 78]⟩ : ByteArray) 1 (⟨#[69, 78, 32, 69, 78, 32, 69, 78, 32, 69, 78, 32, 69, 78]⟩ : ByteArray)).bind fun t118 => (if t118 = true then ((parquetrylaw13_comes.f (⟨#[65, 78, 32, 67, 83, 32, 65, 78]⟩ : ByteArray) 0 (⟨#[65, 78, 32, 65, 78, 32, 65, 78]⟩ : ByteArray)).bind fun t119 => (if t119 = true then ((parquetrylaw13_comes.f (⟨#[65, 78, 32, 69, 83, 32, 65, 78]⟩ : ByteArray) 1 (⟨#[65, 78, 32, 79, 78, 32, 65, 78]⟩ : ByteArray)).bind fun t120 => (if t120 = true then ((parquetrylaw13_comes.f (⟨#[69, 84, 32, 69, 84, 32, 69, 78, 32, 69, 84]⟩ : ByteArray) 1 (⟨#[69, 78, 32, 69, 78, 32, 69, 78, 32, 69, 78]⟩ : ByteArray)).bind fun t121 => (if t121 = true then ((parquetrylaw13_comes.f (⟨#[69, 84, 32, 65, 78]⟩ : ByteArray) 1 (⟨#[79, 78, 32, 65, 78]⟩ : ByteArray)).bind fun t122 => (some t122)) else (some false))) else (some false))) else (some false))) else (some false))) else (some false))) else (some false))) else (some false))) else (some false))) else (some false)) = some r := H
    have A3 := Aside0.mk A30
    clear A30
    by_cases c4 : t113 = true
    · subst c4
      have H1 : ((parquetrylaw13_comes.f (⟨#[82, 76, 73, 32, 78, 83, 77]⟩ : ByteArray) 0 (⟨#[82, 76, 73, 32, 79, 78]⟩ : ByteArray)).bind fun t114 => (if t114 = true then ((parquetrylaw13_comes.f (⟨#[65, 76, 32, 69, 78]⟩ : ByteArray) 0 (⟨#[82, 32, 65, 78]⟩ : ByteArray)).bind fun t115 => (if t115 = true then ((parquetrylaw13_comes.f (⟨#[76, 32, 69, 78]⟩ : ByteArray) 1 (⟨#[76, 32, 76]⟩ : ByteArray)).bind fun t116 => (if t116 = true then ((parquetrylaw13_comes.f (⟨#[69, 78]⟩ : ByteArray) 1 (⟨#[69, 78]⟩ : ByteArray)).bind fun t117 => (if t117 = true then ((parquetrylaw13_comes.f (⟨#[69, 78, 32, 69, 83, 32, 69, 78, 32, 67, 83, 32, 69, 78]⟩ : ByteArray) 1 (⟨#[69, 78, 32, 69, 78, 32, 69, 78, 32, 69, 78, 32, 69, 78]⟩ : ByteArray)).bind fun t118 => (if t118 = true then ((parquetrylaw13_comes.f (⟨#[65, 78, 32, 67, 83, 32, 65, 78]⟩ : ByteArray) 0 (⟨#[65, 78, 32, 65, 78, 32, 65, 78]⟩ : ByteArray)).bind fun t119 => (if t119 = true then ((parquetrylaw13_comes.f (⟨#[65, 78, 32, 69, 83, 32, 65, 78]⟩ : ByteArray) 1 (⟨#[65, 78, 32, 79, 78, 32, 65, 78]⟩ : ByteArray)).bind fun t120 => (if t120 = true then ((parquetrylaw13_comes.f (⟨#[69, 84, 32, 69, 84, 32, 69, 78, 32, 69, 84]⟩ : ByteArray) 1 (⟨#[69, 78, 32, 69, 78, 32, 69, 78, 32, 69, 78]⟩ : ByteArray)).bind fun t121 => (if t121 = true then ((parquetrylaw13_comes.f (⟨#[69, 84, 32, 65, 78]⟩ : ByteArray) 1 (⟨#[79, 78, 32, 65, 78]⟩ : ByteArray)).bind fun t122 => (some t122)) else (some false))) else (some false))) else (some false))) else (some false))) else (some false))) else (some false))) else (some false))) else (some false))) = some r := by rw [if_pos rfl] at H; exact H
      clear H
      have H := H1
      clear H1
      replace H := Option.bind_eq_some_iff.mp H
      obtain ⟨t114, A50, H⟩ := H
      replace H : (if t114 = true then ((parquetrylaw13_comes.f (⟨#[65, 76, 32, 69, 78]⟩ : ByteArray) 0 (⟨#[82, 32, 65, 78]⟩ : ByteArray)).bind fun t115 => (if t115 = true then ((parquetrylaw13_comes.f (⟨#[76, 32, 69, 78]⟩ : ByteArray) 1 (⟨#[76, 32, 76]⟩ : ByteArray)).bind fun t116 => (if t116 = true then ((parquetrylaw13_comes.f (⟨#[69, 78]⟩ : ByteArray) 1 (⟨#[69, 78]⟩ : ByteArray)).bind fun t117 => (if t117 = true then ((parquetrylaw13_comes.f (⟨#[69, 78, 32, 69, 83, 32, 69, 78, 32, 67, 83, 32, 69, 78]⟩ : ByteArray) 1 (⟨#[69, 78, 32, 69, 78, 32, 69, 78, 32, 69, 78, 32, 69, 78]⟩ : ByteArray)).bind fun t118 => (if t118 = true then ((parquetrylaw13_comes.f (⟨#[65, 78, 32, 67, 83, 32, 65, 78]⟩ : ByteArray) 0 (⟨#[65, 78, 32, 65, 78, 32, 65, 78]⟩ : ByteArray)).bind fun t119 => (if t119 = true then ((parquetrylaw13_comes.f (⟨#[65, 78, 32, 69, 83, 32, 65, 78]⟩ : ByteArray) 1 (⟨#[65, 78, 32, 79, 78, 32, 65, 78]⟩ : ByteArray)).bind fun t120 => (if t120 = true then ((parquetrylaw13_comes.f (⟨#[69, 84, 32, 69, 84, 32, 69, 78, 32, 69, 84]⟩ : ByteArray) 1 (⟨#[69, 78, 32, 69, 78, 32, 69, 78, 32, 69, 78]⟩ : ByteArray)).bind fun t121 => (if t121 = true then ((parquetrylaw13_comes.f (⟨#[69, 84, 32, 65, 78]⟩ : ByteArray) 1 (⟨#[79, 78, 32, 65, 78]⟩ : ByteArray)).bind fun t122 => (some t122)) else (some false))) else (some false))) else (some false))) else (some false))) else (some false))) else (some false))) else (some false))) else (some false)) = some r := H
      have A5 := Aside0.mk A50
      clear A50
      by_cases c6 : t114 = true
      · subst c6
        have H1 : ((parquetrylaw13_comes.f (⟨#[65, 76, 32, 69, 78]⟩ : ByteArray) 0 (⟨#[82, 32, 65, 78]⟩ : ByteArray)).bind fun t115 => (if t115 = true then ((parquetrylaw13_comes.f (⟨#[76, 32, 69, 78]⟩ : ByteArray) 1 (⟨#[76, 32, 76]⟩ : ByteArray)).bind fun t116 => (if t116 = true then ((parquetrylaw13_comes.f (⟨#[69, 78]⟩ : ByteArray) 1 (⟨#[69, 78]⟩ : ByteArray)).bind fun t117 => (if t117 = true then ((parquetrylaw13_comes.f (⟨#[69, 78, 32, 69, 83, 32, 69, 78, 32, 67, 83, 32, 69, 78]⟩ : ByteArray) 1 (⟨#[69, 78, 32, 69, 78, 32, 69, 78, 32, 69, 78, 32, 69, 78]⟩ : ByteArray)).bind fun t118 => (if t118 = true then ((parquetrylaw13_comes.f (⟨#[65, 78, 32, 67, 83, 32, 65, 78]⟩ : ByteArray) 0 (⟨#[65, 78, 32, 65, 78, 32, 65, 78]⟩ : ByteArray)).bind fun t119 => (if t119 = true then ((parquetrylaw13_comes.f (⟨#[65, 78, 32, 69, 83, 32, 65, 78]⟩ : ByteArray) 1 (⟨#[65, 78, 32, 79, 78, 32, 65, 78]⟩ : ByteArray)).bind fun t120 => (if t120 = true then ((parquetrylaw13_comes.f (⟨#[69, 84, 32, 69, 84, 32, 69, 78, 32, 69, 84]⟩ : ByteArray) 1 (⟨#[69, 78, 32, 69, 78, 32, 69, 78, 32, 69, 78]⟩ : ByteArray)).bind fun t121 => (if t121 = true then ((parquetrylaw13_comes.f (⟨#[69, 84, 32, 65, 78]⟩ : ByteArray) 1 (⟨#[79, 78, 32, 65, 78]⟩ : ByteArray)).bind fun t122 => (some t122)) else (some false))) else (some false))) else (some false))) else (some false))) else (some false))) else (some false))) else (some false))) = some r := by rw [if_pos rfl] at H; exact H
        clear H
        have H := H1
        clear H1
        replace H := Option.bind_eq_some_iff.mp H
        obtain ⟨t115, A70, H⟩ := H
        replace H : (if t115 = true then ((parquetrylaw13_comes.f (⟨#[76, 32, 69, 78]⟩ : ByteArray) 1 (⟨#[76, 32, 76]⟩ : ByteArray)).bind fun t116 => (if t116 = true then ((parquetrylaw13_comes.f (⟨#[69, 78]⟩ : ByteArray) 1 (⟨#[69, 78]⟩ : ByteArray)).bind fun t117 => (if t117 = true then ((parquetrylaw13_comes.f (⟨#[69, 78, 32, 69, 83, 32, 69, 78, 32, 67, 83, 32, 69, 78]⟩ : ByteArray) 1 (⟨#[69, 78, 32, 69, 78, 32, 69, 78, 32, 69, 78, 32, 69, 78]⟩ : ByteArray)).bind fun t118 => (if t118 = true then ((parquetrylaw13_comes.f (⟨#[65, 78, 32, 67, 83, 32, 65, 78]⟩ : ByteArray) 0 (⟨#[65, 78, 32, 65, 78, 32, 65, 78]⟩ : ByteArray)).bind fun t119 => (if t119 = true then ((parquetrylaw13_comes.f (⟨#[65, 78, 32, 69, 83, 32, 65, 78]⟩ : ByteArray) 1 (⟨#[65, 78, 32, 79, 78, 32, 65, 78]⟩ : ByteArray)).bind fun t120 => (if t120 = true then ((parquetrylaw13_comes.f (⟨#[69, 84, 32, 69, 84, 32, 69, 78, 32, 69, 84]⟩ : ByteArray) 1 (⟨#[69, 78, 32, 69, 78, 32, 69, 78, 32, 69, 78]⟩ : ByteArray)).bind fun t121 => (if t121 = true then ((parquetrylaw13_comes.f (⟨#[69, 84, 32, 65, 78]⟩ : ByteArray) 1 (⟨#[79, 78, 32, 65, 78]⟩ : ByteArray)).bind fun t122 => (some t122)) else (some false))) else (some false))) else (some false))) else (some false))) else (some false))) else (some false))) else (some false)) = some r := H
        have A7 := Aside0.mk A70
        clear A70
        by_cases c8 : t115 = true
        · subst c8
          have H1 : ((parquetrylaw13_comes.f (⟨#[76, 32, 69, 78]⟩ : ByteArray) 1 (⟨#[76, 32, 76]⟩ : ByteArray)).bind fun t116 => (if t116 = true then ((parquetrylaw13_comes.f (⟨#[69, 78]⟩ : ByteArray) 1 (⟨#[69, 78]⟩ : ByteArray)).bind fun t117 => (if t117 = true then ((parquetrylaw13_comes.f (⟨#[69, 78, 32, 69, 83, 32, 69, 78, 32, 67, 83, 32, 69, 78]⟩ : ByteArray) 1 (⟨#[69, 78, 32, 69, 78, 32, 69, 78, 32, 69, 78, 32, 69, 78]⟩ : ByteArray)).bind fun t118 => (if t118 = true then ((parquetrylaw13_comes.f (⟨#[65, 78, 32, 67, 83, 32, 65, 78]⟩ : ByteArray) 0 (⟨#[65, 78, 32, 65, 78, 32, 65, 78]⟩ : ByteArray)).bind fun t119 => (if t119 = true then ((parquetrylaw13_comes.f (⟨#[65, 78, 32, 69, 83, 32, 65, 78]⟩ : ByteArray) 1 (⟨#[65, 78, 32, 79, 78, 32, 65, 78]⟩ : ByteArray)).bind fun t120 => (if t120 = true then ((parquetrylaw13_comes.f (⟨#[69, 84, 32, 69, 84, 32, 69, 78, 32, 69, 84]⟩ : ByteArray) 1 (⟨#[69, 78, 32, 69, 78, 32, 69, 78, 32, 69, 78]⟩ : ByteArray)).bind fun t121 => (if t121 = true then ((parquetrylaw13_comes.f (⟨#[69, 84, 32, 65, 78]⟩ : ByteArray) 1 (⟨#[79, 78, 32, 65, 78]⟩ : ByteArray)).bind fun t122 => (some t122)) else (some false))) else (some false))) else (some false))) else (some false))) else (some false))) else (some false))) = some r := by rw [if_pos rfl] at H; exact H
          clear H
          have H := H1
          clear H1
          replace H := Option.bind_eq_some_iff.mp H
          obtain ⟨t116, A90, H⟩ := H
          replace H : (if t116 = true then ((parquetrylaw13_comes.f (⟨#[69, 78]⟩ : ByteArray) 1 (⟨#[69, 78]⟩ : ByteArray)).bind fun t117 => (if t117 = true then ((parquetrylaw13_comes.f (⟨#[69, 78, 32, 69, 83, 32, 69, 78, 32, 67, 83, 32, 69, 78]⟩ : ByteArray) 1 (⟨#[69, 78, 32, 69, 78, 32, 69, 78, 32, 69, 78, 32, 69, 78]⟩ : ByteArray)).bind fun t118 => (if t118 = true then ((parquetrylaw13_comes.f (⟨#[65, 78, 32, 67, 83, 32, 65, 78]⟩ : ByteArray) 0 (⟨#[65, 78, 32, 65, 78, 32, 65, 78]⟩ : ByteArray)).bind fun t119 => (if t119 = true then ((parquetrylaw13_comes.f (⟨#[65, 78, 32, 69, 83, 32, 65, 78]⟩ : ByteArray) 1 (⟨#[65, 78, 32, 79, 78, 32, 65, 78]⟩ : ByteArray)).bind fun t120 => (if t120 = true then ((parquetrylaw13_comes.f (⟨#[69, 84, 32, 69, 84, 32, 69, 78, 32, 69, 84]⟩ : ByteArray) 1 (⟨#[69, 78, 32, 69, 78, 32, 69, 78, 32, 69, 78]⟩ : ByteArray)).bind fun t121 => (if t121 = true then ((parquetrylaw13_comes.f (⟨#[69, 84, 32, 65, 78]⟩ : ByteArray) 1 (⟨#[79, 78, 32, 65, 78]⟩ : ByteArray)).bind fun t122 => (some t122)) else (some false))) else (some false))) else (some false))) else (some false))) else (some false))) else (some false)) = some r := H
          have A9 := Aside0.mk A90
          clear A90
          by_cases c10 : t116 = true
          · subst c10
            have H1 : ((parquetrylaw13_comes.f (⟨#[69, 78]⟩ : ByteArray) 1 (⟨#[69, 78]⟩ : ByteArray)).bind fun t117 => (if t117 = true then ((parquetrylaw13_comes.f (⟨#[69, 78, 32, 69, 83, 32, 69, 78, 32, 67, 83, 32, 69, 78]⟩ : ByteArray) 1 (⟨#[69, 78, 32, 69, 78, 32, 69, 78, 32, 69, 78, 32, 69, 78]⟩ : ByteArray)).bind fun t118 => (if t118 = true then ((parquetrylaw13_comes.f (⟨#[65, 78, 32, 67, 83, 32, 65, 78]⟩ : ByteArray) 0 (⟨#[65, 78, 32, 65, 78, 32, 65, 78]⟩ : ByteArray)).bind fun t119 => (if t119 = true then ((parquetrylaw13_comes.f (⟨#[65, 78, 32, 69, 83, 32, 65, 78]⟩ : ByteArray) 1 (⟨#[65, 78, 32, 79, 78, 32, 65, 78]⟩ : ByteArray)).bind fun t120 => (if t120 = true then ((parquetrylaw13_comes.f (⟨#[69, 84, 32, 69, 84, 32, 69, 78, 32, 69, 84]⟩ : ByteArray) 1 (⟨#[69, 78, 32, 69, 78, 32, 69, 78, 32, 69, 78]⟩ : ByteArray)).bind fun t121 => (if t121 = true then ((parquetrylaw13_comes.f (⟨#[69, 84, 32, 65, 78]⟩ : ByteArray) 1 (⟨#[79, 78, 32, 65, 78]⟩ : ByteArray)).bind fun t122 => (some t122)) else (some false))) else (some false))) else (some false))) else (some false))) else (some false))) = some r := by rw [if_pos rfl] at H; exact H
            clear H
            have H := H1
            clear H1
            replace H := Option.bind_eq_some_iff.mp H
            obtain ⟨t117, A110, H⟩ := H
            replace H : (if t117 = true then ((parquetrylaw13_comes.f (⟨#[69, 78, 32, 69, 83, 32, 69, 78, 32, 67, 83, 32, 69, 78]⟩ : ByteArray) 1 (⟨#[69, 78, 32, 69, 78, 32, 69, 78, 32, 69, 78, 32, 69, 78]⟩ : ByteArray)).bind fun t118 => (if t118 = true then ((parquetrylaw13_comes.f (⟨#[65, 78, 32, 67, 83, 32, 65, 78]⟩ : ByteArray) 0 (⟨#[65, 78, 32, 65, 78, 32, 65, 78]⟩ : ByteArray)).bind fun t119 => (if t119 = true then ((parquetrylaw13_comes.f (⟨#[65, 78, 32, 69, 83, 32, 65, 78]⟩ : ByteArray) 1 (⟨#[65, 78, 32, 79, 78, 32, 65, 78]⟩ : ByteArray)).bind fun t120 => (if t120 = true then ((parquetrylaw13_comes.f (⟨#[69, 84, 32, 69, 84, 32, 69, 78, 32, 69, 84]⟩ : ByteArray) 1 (⟨#[69, 78, 32, 69, 78, 32, 69, 78, 32, 69, 78]⟩ : ByteArray)).bind fun t121 => (if t121 = true then ((parquetrylaw13_comes.f (⟨#[69, 84, 32, 65, 78]⟩ : ByteArray) 1 (⟨#[79, 78, 32, 65, 78]⟩ : ByteArray)).bind fun t122 => (some t122)) else (some false))) else (some false))) else (some false))) else (some false))) else (some false)) = some r := H
            have A11 := Aside0.mk A110
            clear A110
            by_cases c12 : t117 = true
            · subst c12
              have H1 : ((parquetrylaw13_comes.f (⟨#[69, 78, 32, 69, 83, 32, 69, 78, 32, 67, 83, 32, 69, 78]⟩ : ByteArray) 1 (⟨#[69, 78, 32, 69, 78, 32, 69, 78, 32, 69, 78, 32, 69, 78]⟩ : ByteArray)).bind fun t118 => (if t118 = true then ((parquetrylaw13_comes.f (⟨#[65, 78, 32, 67, 83, 32, 65, 78]⟩ : ByteArray) 0 (⟨#[65, 78, 32, 65, 78, 32, 65, 78]⟩ : ByteArray)).bind fun t119 => (if t119 = true then ((parquetrylaw13_comes.f (⟨#[65, 78, 32, 69, 83, 32, 65, 78]⟩ : ByteArray) 1 (⟨#[65, 78, 32, 79, 78, 32, 65, 78]⟩ : ByteArray)).bind fun t120 => (if t120 = true then ((parquetrylaw13_comes.f (⟨#[69, 84, 32, 69, 84, 32, 69, 78, 32, 69, 84]⟩ : ByteArray) 1 (⟨#[69, 78, 32, 69, 78, 32, 69, 78, 32, 69, 78]⟩ : ByteArray)).bind fun t121 => (if t121 = true then ((parquetrylaw13_comes.f (⟨#[69, 84, 32, 65, 78]⟩ : ByteArray) 1 (⟨#[79, 78, 32, 65, 78]⟩ : ByteArray)).bind fun t122 => (some t122)) else (some false))) else (some false))) else (some false))) else (some false))) = some r := by rw [if_pos rfl] at H; exact H
              clear H
              have H := H1
              clear H1
              replace H := Option.bind_eq_some_iff.mp H
              obtain ⟨t118, A130, H⟩ := H
              replace H : (if t118 = true then ((parquetrylaw13_comes.f (⟨#[65, 78, 32, 67, 83, 32, 65, 78]⟩ : ByteArray) 0 (⟨#[65, 78, 32, 65, 78, 32, 65, 78]⟩ : ByteArray)).bind fun t119 => (if t119 = true then ((parquetrylaw13_comes.f (⟨#[65, 78, 32, 69, 83, 32, 65, 78]⟩ : ByteArray) 1 (⟨#[65, 78, 32, 79, 78, 32, 65, 78]⟩ : ByteArray)).bind fun t120 => (if t120 = true then ((parquetrylaw13_comes.f (⟨#[69, 84, 32, 69, 84, 32, 69, 78, 32, 69, 84]⟩ : ByteArray) 1 (⟨#[69, 78, 32, 69, 78, 32, 69, 78, 32, 69, 78]⟩ : ByteArray)).bind fun t121 => (if t121 = true then ((parquetrylaw13_comes.f (⟨#[69, 84, 32, 65, 78]⟩ : ByteArray) 1 (⟨#[79, 78, 32, 65, 78]⟩ : ByteArray)).bind fun t122 => (some t122)) else (some false))) else (some false))) else (some false))) else (some false)) = some r := H
              have A13 := Aside0.mk A130
              clear A130
              by_cases c14 : t118 = true
              · subst c14
                have H1 : ((parquetrylaw13_comes.f (⟨#[65, 78, 32, 67, 83, 32, 65, 78]⟩ : ByteArray) 0 (⟨#[65, 78, 32, 65, 78, 32, 65, 78]⟩ : ByteArray)).bind fun t119 => (if t119 = true then ((parquetrylaw13_comes.f (⟨#[65, 78, 32, 69, 83, 32, 65, 78]⟩ : ByteArray) 1 (⟨#[65, 78, 32, 79, 78, 32, 65, 78]⟩ : ByteArray)).bind fun t120 => (if t120 = true then ((parquetrylaw13_comes.f (⟨#[69, 84, 32, 69, 84, 32, 69, 78, 32, 69, 84]⟩ : ByteArray) 1 (⟨#[69, 78, 32, 69, 78, 32, 69, 78, 32, 69, 78]⟩ : ByteArray)).bind fun t121 => (if t121 = true then ((parquetrylaw13_comes.f (⟨#[69, 84, 32, 65, 78]⟩ : ByteArray) 1 (⟨#[79, 78, 32, 65, 78]⟩ : ByteArray)).bind fun t122 => (some t122)) else (some false))) else (some false))) else (some false))) = some r := by rw [if_pos rfl] at H; exact H
                clear H
                have H := H1
                clear H1
                replace H := Option.bind_eq_some_iff.mp H
                obtain ⟨t119, A150, H⟩ := H
                replace H : (if t119 = true then ((parquetrylaw13_comes.f (⟨#[65, 78, 32, 69, 83, 32, 65, 78]⟩ : ByteArray) 1 (⟨#[65, 78, 32, 79, 78, 32, 65, 78]⟩ : ByteArray)).bind fun t120 => (if t120 = true then ((parquetrylaw13_comes.f (⟨#[69, 84, 32, 69, 84, 32, 69, 78, 32, 69, 84]⟩ : ByteArray) 1 (⟨#[69, 78, 32, 69, 78, 32, 69, 78, 32, 69, 78]⟩ : ByteArray)).bind fun t121 => (if t121 = true then ((parquetrylaw13_comes.f (⟨#[69, 84, 32, 65, 78]⟩ : ByteArray) 1 (⟨#[79, 78, 32, 65, 78]⟩ : ByteArray)).bind fun t122 => (some t122)) else (some false))) else (some false))) else (some false)) = some r := H
                have A15 := Aside0.mk A150
                clear A150
                by_cases c16 : t119 = true
                · subst c16
                  have H1 : ((parquetrylaw13_comes.f (⟨#[65, 78, 32, 69, 83, 32, 65, 78]⟩ : ByteArray) 1 (⟨#[65, 78, 32, 79, 78, 32, 65, 78]⟩ : ByteArray)).bind fun t120 => (if t120 = true then ((parquetrylaw13_comes.f (⟨#[69, 84, 32, 69, 84, 32, 69, 78, 32, 69, 84]⟩ : ByteArray) 1 (⟨#[69, 78, 32, 69, 78, 32, 69, 78, 32, 69, 78]⟩ : ByteArray)).bind fun t121 => (if t121 = true then ((parquetrylaw13_comes.f (⟨#[69, 84, 32, 65, 78]⟩ : ByteArray) 1 (⟨#[79, 78, 32, 65, 78]⟩ : ByteArray)).bind fun t122 => (some t122)) else (some false))) else (some false))) = some r := by rw [if_pos rfl] at H; exact H
                  clear H
                  have H := H1
                  clear H1
                  replace H := Option.bind_eq_some_iff.mp H
                  obtain ⟨t120, A170, H⟩ := H
                  replace H : (if t120 = true then ((parquetrylaw13_comes.f (⟨#[69, 84, 32, 69, 84, 32, 69, 78, 32, 69, 84]⟩ : ByteArray) 1 (⟨#[69, 78, 32, 69, 78, 32, 69, 78, 32, 69, 78]⟩ : ByteArray)).bind fun t121 => (if t121 = true then ((parquetrylaw13_comes.f (⟨#[69, 84, 32, 65, 78]⟩ : ByteArray) 1 (⟨#[79, 78, 32, 65, 78]⟩ : ByteArray)).bind fun t122 => (some t122)) else (some false))) else (some false)) = some r := H
                  have A17 := Aside0.mk A170
                  clear A170
                  by_cases c18 : t120 = true
                  · subst c18
                    have H1 : ((parquetrylaw13_comes.f (⟨#[69, 84, 32, 69, 84, 32, 69, 78, 32, 69, 84]⟩ : ByteArray) 1 (⟨#[69, 78, 32, 69, 78, 32, 69, 78, 32, 69, 78]⟩ : ByteArray)).bind fun t121 => (if t121 = true then ((parquetrylaw13_comes.f (⟨#[69, 84, 32, 65, 78]⟩ : ByteArray) 1 (⟨#[79, 78, 32, 65, 78]⟩ : ByteArray)).bind fun t122 => (some t122)) else (some false))) = some r := by rw [if_pos rfl] at H; exact H
                    clear H
                    have H := H1
                    clear H1
                    replace H := Option.bind_eq_some_iff.mp H
                    obtain ⟨t121, A190, H⟩ := H
                    replace H : (if t121 = true then ((parquetrylaw13_comes.f (⟨#[69, 84, 32, 65, 78]⟩ : ByteArray) 1 (⟨#[79, 78, 32, 65, 78]⟩ : ByteArray)).bind fun t122 => (some t122)) else (some false)) = some r := H
                    have A19 := Aside0.mk A190
                    clear A190
                    by_cases c20 : t121 = true
                    · subst c20
                      have H1 : ((parquetrylaw13_comes.f (⟨#[69, 84, 32, 65, 78]⟩ : ByteArray) 1 (⟨#[79, 78, 32, 65, 78]⟩ : ByteArray)).bind fun t122 => (some t122)) = some r := by rw [if_pos rfl] at H; exact H
                      clear H
                      have H := H1
                      clear H1
                      replace H := Option.bind_eq_some_iff.mp H
                      obtain ⟨t122, A210, H⟩ := H
                      replace H : (some t122) = some r := H
                      have A21 := Aside0.mk A210
                      clear A210
                      obtain rfl := Option.some.inj H
                      go_enter Tryd.func39, Tryd.ntmps39
                      go_wp2_with (first | ((with_reducible refine gate_callee (f := 62) rfl ?_); refine goesL_ (some 1) rfl rfl Tryd.func62 (by kernel_rfl) rfl #[.string (⟨#[65, 76, 32, 78, 83, 77, 32, 78, 83, 77]⟩ : ByteArray), .int .i64 0, .string (⟨#[82, 32, 82, 32, 82]⟩ : ByteArray)] rfl (by (try simp only [List.map_toArray, List.map_cons, List.map_nil]); first | done | rfl | (simp only [List.length_drop, List.length_take]; rfl)) ?_; (with_reducible refine (parquetrylaw13_comes.calls (⟨#[65, 76, 32, 78, 83, 77, 32, 78, 83, 77]⟩ : ByteArray) 0 (⟨#[82, 32, 82, 32, 82]⟩ : ByteArray) true _ A1.out).mono ?_); rintro e w22 ⟨rfl, hb⟩; refine ⟨_, rfl, ?_⟩; have n0_ := Aside0.mk (below_step (by repeat (first | (with_reducible first | exact HB.out | apply below_alloc | apply pw_below_drewN | apply below_drew1) | exact HB.out)) hb); clear HB; have HB := n0_; clear n0_; (try clear hb); (try clear hb2); (try clear hk); (try clear hi)) | (go_at_call 62; (with_reducible refine (parquetrylaw13_comes.calls (⟨#[78, 83, 77]⟩ : ByteArray) 1 (⟨#[82]⟩ : ByteArray) true _ A3.out).mono ?_); rintro e w23 ⟨rfl, hb⟩; have n0_ := Aside0.mk (below_step (by repeat (first | (with_reducible first | exact HB.out | apply below_alloc | apply pw_below_drewN | apply below_drew1) | exact HB.out)) hb); clear HB; have HB := n0_; clear n0_; (try clear hb); (try clear hb2); (try clear hk); (try clear hi)) | (go_at_call 62; (with_reducible refine (parquetrylaw13_comes.calls (⟨#[82, 76, 73, 32, 78, 83, 77]⟩ : ByteArray) 0 (⟨#[82, 76, 73, 32, 79, 78]⟩ : ByteArray) true _ A5.out).mono ?_); rintro e w24 ⟨rfl, hb⟩; have n0_ := Aside0.mk (below_step (by repeat (first | (with_reducible first | exact HB.out | apply below_alloc | apply pw_below_drewN | apply below_drew1) | exact HB.out)) hb); clear HB; have HB := n0_; clear n0_; (try clear hb); (try clear hb2); (try clear hk); (try clear hi)) | (go_at_call 62; (with_reducible refine (parquetrylaw13_comes.calls (⟨#[65, 76, 32, 69, 78]⟩ : ByteArray) 0 (⟨#[82, 32, 65, 78]⟩ : ByteArray) true _ A7.out).mono ?_); rintro e w25 ⟨rfl, hb⟩; have n0_ := Aside0.mk (below_step (by repeat (first | (with_reducible first | exact HB.out | apply below_alloc | apply pw_below_drewN | apply below_drew1) | exact HB.out)) hb); clear HB; have HB := n0_; clear n0_; (try clear hb); (try clear hb2); (try clear hk); (try clear hi)) | (go_at_call 62; (with_reducible refine (parquetrylaw13_comes.calls (⟨#[76, 32, 69, 78]⟩ : ByteArray) 1 (⟨#[76, 32, 76]⟩ : ByteArray) true _ A9.out).mono ?_); rintro e w26 ⟨rfl, hb⟩; have n0_ := Aside0.mk (below_step (by repeat (first | (with_reducible first | exact HB.out | apply below_alloc | apply pw_below_drewN | apply below_drew1) | exact HB.out)) hb); clear HB; have HB := n0_; clear n0_; (try clear hb); (try clear hb2); (try clear hk); (try clear hi)) | (go_at_call 62; (with_reducible refine (parquetrylaw13_comes.calls (⟨#[69, 78]⟩ : ByteArray) 1 (⟨#[69, 78]⟩ : ByteArray) true _ A11.out).mono ?_); rintro e w27 ⟨rfl, hb⟩; have n0_ := Aside0.mk (below_step (by repeat (first | (with_reducible first | exact HB.out | apply below_alloc | apply pw_below_drewN | apply below_drew1) | exact HB.out)) hb); clear HB; have HB := n0_; clear n0_; (try clear hb); (try clear hb2); (try clear hk); (try clear hi)) | (go_at_call 62; (with_reducible refine (parquetrylaw13_comes.calls (⟨#[69, 78, 32, 69, 83, 32, 69, 78, 32, 67, 83, 32, 69, 78]⟩ : ByteArray) 1 (⟨#[69, 78, 32, 69, 78, 32, 69, 78, 32, 69, 78, 32, 69, 78]⟩ : ByteArray) true _ A13.out).mono ?_); rintro e w28 ⟨rfl, hb⟩; have n0_ := Aside0.mk (below_step (by repeat (first | (with_reducible first | exact HB.out | apply below_alloc | apply pw_below_drewN | apply below_drew1) | exact HB.out)) hb); clear HB; have HB := n0_; clear n0_; (try clear hb); (try clear hb2); (try clear hk); (try clear hi)) | (go_at_call 62; (with_reducible refine (parquetrylaw13_comes.calls (⟨#[65, 78, 32, 67, 83, 32, 65, 78]⟩ : ByteArray) 0 (⟨#[65, 78, 32, 65, 78, 32, 65, 78]⟩ : ByteArray) true _ A15.out).mono ?_); rintro e w29 ⟨rfl, hb⟩; have n0_ := Aside0.mk (below_step (by repeat (first | (with_reducible first | exact HB.out | apply below_alloc | apply pw_below_drewN | apply below_drew1) | exact HB.out)) hb); clear HB; have HB := n0_; clear n0_; (try clear hb); (try clear hb2); (try clear hk); (try clear hi)) | (go_at_call 62; (with_reducible refine (parquetrylaw13_comes.calls (⟨#[65, 78, 32, 69, 83, 32, 65, 78]⟩ : ByteArray) 1 (⟨#[65, 78, 32, 79, 78, 32, 65, 78]⟩ : ByteArray) true _ A17.out).mono ?_); rintro e w30 ⟨rfl, hb⟩; have n0_ := Aside0.mk (below_step (by repeat (first | (with_reducible first | exact HB.out | apply below_alloc | apply pw_below_drewN | apply below_drew1) | exact HB.out)) hb); clear HB; have HB := n0_; clear n0_; (try clear hb); (try clear hb2); (try clear hk); (try clear hi)) | (go_at_call 62; (with_reducible refine (parquetrylaw13_comes.calls (⟨#[69, 84, 32, 69, 84, 32, 69, 78, 32, 69, 84]⟩ : ByteArray) 1 (⟨#[69, 78, 32, 69, 78, 32, 69, 78, 32, 69, 78]⟩ : ByteArray) true _ A19.out).mono ?_); rintro e w31 ⟨rfl, hb⟩; have n0_ := Aside0.mk (below_step (by repeat (first | (with_reducible first | exact HB.out | apply below_alloc | apply pw_below_drewN | apply below_drew1) | exact HB.out)) hb); clear HB; have HB := n0_; clear n0_; (try clear hb); (try clear hb2); (try clear hk); (try clear hi)) | (go_at_call 62; (with_reducible refine (parquetrylaw13_comes.calls (⟨#[69, 84, 32, 65, 78]⟩ : ByteArray) 1 (⟨#[79, 78, 32, 65, 78]⟩ : ByteArray) t122 _ A21.out).mono ?_); rintro e w32 ⟨rfl, hb⟩; have n0_ := Aside0.mk (below_step (by repeat (first | (with_reducible first | exact HB.out | apply below_alloc | apply pw_below_drewN | apply below_drew1) | exact HB.out)) hb); clear HB; have HB := n0_; clear n0_; (try clear hb); (try clear hb2); (try clear hk); (try clear hi)))
                      go_ret
                      exact ⟨by first | rfl | (simp [errW_none, errW_some] <;> rfl) | (simp [*, errW_none, errW_some] <;> rfl), by repeat (first | (with_reducible first | exact HB.out | apply below_alloc | apply pw_below_drewN | apply below_drew1) | exact HB.out)⟩
                    · replace c20 := Bool.eq_false_iff.mpr c20
                      subst c20
                      have H1 : (some false) = some r := by rw [if_neg (show ¬ (false = true) by decide)] at H; exact H
                      clear H
                      have H := H1
                      clear H1
                      obtain rfl := Option.some.inj H
                      go_enter Tryd.func39, Tryd.ntmps39
                      go_wp2_with (first | ((with_reducible refine gate_callee (f := 62) rfl ?_); refine goesL_ (some 1) rfl rfl Tryd.func62 (by kernel_rfl) rfl #[.string (⟨#[65, 76, 32, 78, 83, 77, 32, 78, 83, 77]⟩ : ByteArray), .int .i64 0, .string (⟨#[82, 32, 82, 32, 82]⟩ : ByteArray)] rfl (by (try simp only [List.map_toArray, List.map_cons, List.map_nil]); first | done | rfl | (simp only [List.length_drop, List.length_take]; rfl)) ?_; (with_reducible refine (parquetrylaw13_comes.calls (⟨#[65, 76, 32, 78, 83, 77, 32, 78, 83, 77]⟩ : ByteArray) 0 (⟨#[82, 32, 82, 32, 82]⟩ : ByteArray) true _ A1.out).mono ?_); rintro e w33 ⟨rfl, hb⟩; refine ⟨_, rfl, ?_⟩; have n0_ := Aside0.mk (below_step (by repeat (first | (with_reducible first | exact HB.out | apply below_alloc | apply pw_below_drewN | apply below_drew1) | exact HB.out)) hb); clear HB; have HB := n0_; clear n0_; (try clear hb); (try clear hb2); (try clear hk); (try clear hi)) | (go_at_call 62; (with_reducible refine (parquetrylaw13_comes.calls (⟨#[78, 83, 77]⟩ : ByteArray) 1 (⟨#[82]⟩ : ByteArray) true _ A3.out).mono ?_); rintro e w34 ⟨rfl, hb⟩; have n0_ := Aside0.mk (below_step (by repeat (first | (with_reducible first | exact HB.out | apply below_alloc | apply pw_below_drewN | apply below_drew1) | exact HB.out)) hb); clear HB; have HB := n0_; clear n0_; (try clear hb); (try clear hb2); (try clear hk); (try clear hi)) | (go_at_call 62; (with_reducible refine (parquetrylaw13_comes.calls (⟨#[82, 76, 73, 32, 78, 83, 77]⟩ : ByteArray) 0 (⟨#[82, 76, 73, 32, 79, 78]⟩ : ByteArray) true _ A5.out).mono ?_); rintro e w35 ⟨rfl, hb⟩; have n0_ := Aside0.mk (below_step (by repeat (first | (with_reducible first | exact HB.out | apply below_alloc | apply pw_below_drewN | apply below_drew1) | exact HB.out)) hb); clear HB; have HB := n0_; clear n0_; (try clear hb); (try clear hb2); (try clear hk); (try clear hi)) | (go_at_call 62; (with_reducible refine (parquetrylaw13_comes.calls (⟨#[65, 76, 32, 69, 78]⟩ : ByteArray) 0 (⟨#[82, 32, 65, 78]⟩ : ByteArray) true _ A7.out).mono ?_); rintro e w36 ⟨rfl, hb⟩; have n0_ := Aside0.mk (below_step (by repeat (first | (with_reducible first | exact HB.out | apply below_alloc | apply pw_below_drewN | apply below_drew1) | exact HB.out)) hb); clear HB; have HB := n0_; clear n0_; (try clear hb); (try clear hb2); (try clear hk); (try clear hi)) | (go_at_call 62; (with_reducible refine (parquetrylaw13_comes.calls (⟨#[76, 32, 69, 78]⟩ : ByteArray) 1 (⟨#[76, 32, 76]⟩ : ByteArray) true _ A9.out).mono ?_); rintro e w37 ⟨rfl, hb⟩; have n0_ := Aside0.mk (below_step (by repeat (first | (with_reducible first | exact HB.out | apply below_alloc | apply pw_below_drewN | apply below_drew1) | exact HB.out)) hb); clear HB; have HB := n0_; clear n0_; (try clear hb); (try clear hb2); (try clear hk); (try clear hi)) | (go_at_call 62; (with_reducible refine (parquetrylaw13_comes.calls (⟨#[69, 78]⟩ : ByteArray) 1 (⟨#[69, 78]⟩ : ByteArray) true _ A11.out).mono ?_); rintro e w38 ⟨rfl, hb⟩; have n0_ := Aside0.mk (below_step (by repeat (first | (with_reducible first | exact HB.out | apply below_alloc | apply pw_below_drewN | apply below_drew1) | exact HB.out)) hb); clear HB; have HB := n0_; clear n0_; (try clear hb); (try clear hb2); (try clear hk); (try clear hi)) | (go_at_call 62; (with_reducible refine (parquetrylaw13_comes.calls (⟨#[69, 78, 32, 69, 83, 32, 69, 78, 32, 67, 83, 32, 69, 78]⟩ : ByteArray) 1 (⟨#[69, 78, 32, 69, 78, 32, 69, 78, 32, 69, 78, 32, 69, 78]⟩ : ByteArray) true _ A13.out).mono ?_); rintro e w39 ⟨rfl, hb⟩; have n0_ := Aside0.mk (below_step (by repeat (first | (with_reducible first | exact HB.out | apply below_alloc | apply pw_below_drewN | apply below_drew1) | exact HB.out)) hb); clear HB; have HB := n0_; clear n0_; (try clear hb); (try clear hb2); (try clear hk); (try clear hi)) | (go_at_call 62; (with_reducible refine (parquetrylaw13_comes.calls (⟨#[65, 78, 32, 67, 83, 32, 65, 78]⟩ : ByteArray) 0 (⟨#[65, 78, 32, 65, 78, 32, 65, 78]⟩ : ByteArray) true _ A15.out).mono ?_); rintro e w40 ⟨rfl, hb⟩; have n0_ := Aside0.mk (below_step (by repeat (first | (with_reducible first | exact HB.out | apply below_alloc | apply pw_below_drewN | apply below_drew1) | exact HB.out)) hb); clear HB; have HB := n0_; clear n0_; (try clear hb); (try clear hb2); (try clear hk); (try clear hi)) | (go_at_call 62; (with_reducible refine (parquetrylaw13_comes.calls (⟨#[65, 78, 32, 69, 83, 32, 65, 78]⟩ : ByteArray) 1 (⟨#[65, 78, 32, 79, 78, 32, 65, 78]⟩ : ByteArray) true _ A17.out).mono ?_); rintro e w41 ⟨rfl, hb⟩; have n0_ := Aside0.mk (below_step (by repeat (first | (with_reducible first | exact HB.out | apply below_alloc | apply pw_below_drewN | apply below_drew1) | exact HB.out)) hb); clear HB; have HB := n0_; clear n0_; (try clear hb); (try clear hb2); (try clear hk); (try clear hi)) | (go_at_call 62; (with_reducible refine (parquetrylaw13_comes.calls (⟨#[69, 84, 32, 69, 84, 32, 69, 78, 32, 69, 84]⟩ : ByteArray) 1 (⟨#[69, 78, 32, 69, 78, 32, 69, 78, 32, 69, 78]⟩ : ByteArray) false _ A19.out).mono ?_); rintro e w42 ⟨rfl, hb⟩; have n0_ := Aside0.mk (below_step (by repeat (first | (with_reducible first | exact HB.out | apply below_alloc | apply pw_below_drewN | apply below_drew1) | exact HB.out)) hb); clear HB; have HB := n0_; clear n0_; (try clear hb); (try clear hb2); (try clear hk); (try clear hi)))
                      go_ret
                      exact ⟨by first | rfl | (simp [errW_none, errW_some] <;> rfl) | (simp [*, errW_none, errW_some] <;> rfl), by repeat (first | (with_reducible first | exact HB.out | apply below_alloc | apply pw_below_drewN | apply below_drew1) | exact HB.out)⟩
                  · replace c18 := Bool.eq_false_iff.mpr c18
                    subst c18
                    have H1 : (some false) = some r := by rw [if_neg (show ¬ (false = true) by decide)] at H; exact H
                    clear H
                    have H := H1
                    clear H1
                    obtain rfl := Option.some.inj H
                    go_enter Tryd.func39, Tryd.ntmps39
                    go_wp2_with (first | ((with_reducible refine gate_callee (f := 62) rfl ?_); refine goesL_ (some 1) rfl rfl Tryd.func62 (by kernel_rfl) rfl #[.string (⟨#[65, 76, 32, 78, 83, 77, 32, 78, 83, 77]⟩ : ByteArray), .int .i64 0, .string (⟨#[82, 32, 82, 32, 82]⟩ : ByteArray)] rfl (by (try simp only [List.map_toArray, List.map_cons, List.map_nil]); first | done | rfl | (simp only [List.length_drop, List.length_take]; rfl)) ?_; (with_reducible refine (parquetrylaw13_comes.calls (⟨#[65, 76, 32, 78, 83, 77, 32, 78, 83, 77]⟩ : ByteArray) 0 (⟨#[82, 32, 82, 32, 82]⟩ : ByteArray) true _ A1.out).mono ?_); rintro e w43 ⟨rfl, hb⟩; refine ⟨_, rfl, ?_⟩; have n0_ := Aside0.mk (below_step (by repeat (first | (with_reducible first | exact HB.out | apply below_alloc | apply pw_below_drewN | apply below_drew1) | exact HB.out)) hb); clear HB; have HB := n0_; clear n0_; (try clear hb); (try clear hb2); (try clear hk); (try clear hi)) | (go_at_call 62; (with_reducible refine (parquetrylaw13_comes.calls (⟨#[78, 83, 77]⟩ : ByteArray) 1 (⟨#[82]⟩ : ByteArray) true _ A3.out).mono ?_); rintro e w44 ⟨rfl, hb⟩; have n0_ := Aside0.mk (below_step (by repeat (first | (with_reducible first | exact HB.out | apply below_alloc | apply pw_below_drewN | apply below_drew1) | exact HB.out)) hb); clear HB; have HB := n0_; clear n0_; (try clear hb); (try clear hb2); (try clear hk); (try clear hi)) | (go_at_call 62; (with_reducible refine (parquetrylaw13_comes.calls (⟨#[82, 76, 73, 32, 78, 83, 77]⟩ : ByteArray) 0 (⟨#[82, 76, 73, 32, 79, 78]⟩ : ByteArray) true _ A5.out).mono ?_); rintro e w45 ⟨rfl, hb⟩; have n0_ := Aside0.mk (below_step (by repeat (first | (with_reducible first | exact HB.out | apply below_alloc | apply pw_below_drewN | apply below_drew1) | exact HB.out)) hb); clear HB; have HB := n0_; clear n0_; (try clear hb); (try clear hb2); (try clear hk); (try clear hi)) | (go_at_call 62; (with_reducible refine (parquetrylaw13_comes.calls (⟨#[65, 76, 32, 69, 78]⟩ : ByteArray) 0 (⟨#[82, 32, 65, 78]⟩ : ByteArray) true _ A7.out).mono ?_); rintro e w46 ⟨rfl, hb⟩; have n0_ := Aside0.mk (below_step (by repeat (first | (with_reducible first | exact HB.out | apply below_alloc | apply pw_below_drewN | apply below_drew1) | exact HB.out)) hb); clear HB; have HB := n0_; clear n0_; (try clear hb); (try clear hb2); (try clear hk); (try clear hi)) | (go_at_call 62; (with_reducible refine (parquetrylaw13_comes.calls (⟨#[76, 32, 69, 78]⟩ : ByteArray) 1 (⟨#[76, 32, 76]⟩ : ByteArray) true _ A9.out).mono ?_); rintro e w47 ⟨rfl, hb⟩; have n0_ := Aside0.mk (below_step (by repeat (first | (with_reducible first | exact HB.out | apply below_alloc | apply pw_below_drewN | apply below_drew1) | exact HB.out)) hb); clear HB; have HB := n0_; clear n0_; (try clear hb); (try clear hb2); (try clear hk); (try clear hi)) | (go_at_call 62; (with_reducible refine (parquetrylaw13_comes.calls (⟨#[69, 78]⟩ : ByteArray) 1 (⟨#[69, 78]⟩ : ByteArray) true _ A11.out).mono ?_); rintro e w48 ⟨rfl, hb⟩; have n0_ := Aside0.mk (below_step (by repeat (first | (with_reducible first | exact HB.out | apply below_alloc | apply pw_below_drewN | apply below_drew1) | exact HB.out)) hb); clear HB; have HB := n0_; clear n0_; (try clear hb); (try clear hb2); (try clear hk); (try clear hi)) | (go_at_call 62; (with_reducible refine (parquetrylaw13_comes.calls (⟨#[69, 78, 32, 69, 83, 32, 69, 78, 32, 67, 83, 32, 69, 78]⟩ : ByteArray) 1 (⟨#[69, 78, 32, 69, 78, 32, 69, 78, 32, 69, 78, 32, 69, 78]⟩ : ByteArray) true _ A13.out).mono ?_); rintro e w49 ⟨rfl, hb⟩; have n0_ := Aside0.mk (below_step (by repeat (first | (with_reducible first | exact HB.out | apply below_alloc | apply pw_below_drewN | apply below_drew1) | exact HB.out)) hb); clear HB; have HB := n0_; clear n0_; (try clear hb); (try clear hb2); (try clear hk); (try clear hi)) | (go_at_call 62; (with_reducible refine (parquetrylaw13_comes.calls (⟨#[65, 78, 32, 67, 83, 32, 65, 78]⟩ : ByteArray) 0 (⟨#[65, 78, 32, 65, 78, 32, 65, 78]⟩ : ByteArray) true _ A15.out).mono ?_); rintro e w50 ⟨rfl, hb⟩; have n0_ := Aside0.mk (below_step (by repeat (first | (with_reducible first | exact HB.out | apply below_alloc | apply pw_below_drewN | apply below_drew1) | exact HB.out)) hb); clear HB; have HB := n0_; clear n0_; (try clear hb); (try clear hb2); (try clear hk); (try clear hi)) | (go_at_call 62; (with_reducible refine (parquetrylaw13_comes.calls (⟨#[65, 78, 32, 69, 83, 32, 65, 78]⟩ : ByteArray) 1 (⟨#[65, 78, 32, 79, 78, 32, 65, 78]⟩ : ByteArray) false _ A17.out).mono ?_); rintro e w51 ⟨rfl, hb⟩; have n0_ := Aside0.mk (below_step (by repeat (first | (with_reducible first | exact HB.out | apply below_alloc | apply pw_below_drewN | apply below_drew1) | exact HB.out)) hb); clear HB; have HB := n0_; clear n0_; (try clear hb); (try clear hb2); (try clear hk); (try clear hi)))
                    go_ret
                    exact ⟨by first | rfl | (simp [errW_none, errW_some] <;> rfl) | (simp [*, errW_none, errW_some] <;> rfl), by repeat (first | (with_reducible first | exact HB.out | apply below_alloc | apply pw_below_drewN | apply below_drew1) | exact HB.out)⟩
                · replace c16 := Bool.eq_false_iff.mpr c16
                  subst c16
                  have H1 : (some false) = some r := by rw [if_neg (show ¬ (false = true) by decide)] at H; exact H
                  clear H
                  have H := H1
                  clear H1
                  obtain rfl := Option.some.inj H
                  go_enter Tryd.func39, Tryd.ntmps39
                  go_wp2_with (first | ((with_reducible refine gate_callee (f := 62) rfl ?_); refine goesL_ (some 1) rfl rfl Tryd.func62 (by kernel_rfl) rfl #[.string (⟨#[65, 76, 32, 78, 83, 77, 32, 78, 83, 77]⟩ : ByteArray), .int .i64 0, .string (⟨#[82, 32, 82, 32, 82]⟩ : ByteArray)] rfl (by (try simp only [List.map_toArray, List.map_cons, List.map_nil]); first | done | rfl | (simp only [List.length_drop, List.length_take]; rfl)) ?_; (with_reducible refine (parquetrylaw13_comes.calls (⟨#[65, 76, 32, 78, 83, 77, 32, 78, 83, 77]⟩ : ByteArray) 0 (⟨#[82, 32, 82, 32, 82]⟩ : ByteArray) true _ A1.out).mono ?_); rintro e w52 ⟨rfl, hb⟩; refine ⟨_, rfl, ?_⟩; have n0_ := Aside0.mk (below_step (by repeat (first | (with_reducible first | exact HB.out | apply below_alloc | apply pw_below_drewN | apply below_drew1) | exact HB.out)) hb); clear HB; have HB := n0_; clear n0_; (try clear hb); (try clear hb2); (try clear hk); (try clear hi)) | (go_at_call 62; (with_reducible refine (parquetrylaw13_comes.calls (⟨#[78, 83, 77]⟩ : ByteArray) 1 (⟨#[82]⟩ : ByteArray) true _ A3.out).mono ?_); rintro e w53 ⟨rfl, hb⟩; have n0_ := Aside0.mk (below_step (by repeat (first | (with_reducible first | exact HB.out | apply below_alloc | apply pw_below_drewN | apply below_drew1) | exact HB.out)) hb); clear HB; have HB := n0_; clear n0_; (try clear hb); (try clear hb2); (try clear hk); (try clear hi)) | (go_at_call 62; (with_reducible refine (parquetrylaw13_comes.calls (⟨#[82, 76, 73, 32, 78, 83, 77]⟩ : ByteArray) 0 (⟨#[82, 76, 73, 32, 79, 78]⟩ : ByteArray) true _ A5.out).mono ?_); rintro e w54 ⟨rfl, hb⟩; have n0_ := Aside0.mk (below_step (by repeat (first | (with_reducible first | exact HB.out | apply below_alloc | apply pw_below_drewN | apply below_drew1) | exact HB.out)) hb); clear HB; have HB := n0_; clear n0_; (try clear hb); (try clear hb2); (try clear hk); (try clear hi)) | (go_at_call 62; (with_reducible refine (parquetrylaw13_comes.calls (⟨#[65, 76, 32, 69, 78]⟩ : ByteArray) 0 (⟨#[82, 32, 65, 78]⟩ : ByteArray) true _ A7.out).mono ?_); rintro e w55 ⟨rfl, hb⟩; have n0_ := Aside0.mk (below_step (by repeat (first | (with_reducible first | exact HB.out | apply below_alloc | apply pw_below_drewN | apply below_drew1) | exact HB.out)) hb); clear HB; have HB := n0_; clear n0_; (try clear hb); (try clear hb2); (try clear hk); (try clear hi)) | (go_at_call 62; (with_reducible refine (parquetrylaw13_comes.calls (⟨#[76, 32, 69, 78]⟩ : ByteArray) 1 (⟨#[76, 32, 76]⟩ : ByteArray) true _ A9.out).mono ?_); rintro e w56 ⟨rfl, hb⟩; have n0_ := Aside0.mk (below_step (by repeat (first | (with_reducible first | exact HB.out | apply below_alloc | apply pw_below_drewN | apply below_drew1) | exact HB.out)) hb); clear HB; have HB := n0_; clear n0_; (try clear hb); (try clear hb2); (try clear hk); (try clear hi)) | (go_at_call 62; (with_reducible refine (parquetrylaw13_comes.calls (⟨#[69, 78]⟩ : ByteArray) 1 (⟨#[69, 78]⟩ : ByteArray) true _ A11.out).mono ?_); rintro e w57 ⟨rfl, hb⟩; have n0_ := Aside0.mk (below_step (by repeat (first | (with_reducible first | exact HB.out | apply below_alloc | apply pw_below_drewN | apply below_drew1) | exact HB.out)) hb); clear HB; have HB := n0_; clear n0_; (try clear hb); (try clear hb2); (try clear hk); (try clear hi)) | (go_at_call 62; (with_reducible refine (parquetrylaw13_comes.calls (⟨#[69, 78, 32, 69, 83, 32, 69, 78, 32, 67, 83, 32, 69, 78]⟩ : ByteArray) 1 (⟨#[69, 78, 32, 69, 78, 32, 69, 78, 32, 69, 78, 32, 69, 78]⟩ : ByteArray) true _ A13.out).mono ?_); rintro e w58 ⟨rfl, hb⟩; have n0_ := Aside0.mk (below_step (by repeat (first | (with_reducible first | exact HB.out | apply below_alloc | apply pw_below_drewN | apply below_drew1) | exact HB.out)) hb); clear HB; have HB := n0_; clear n0_; (try clear hb); (try clear hb2); (try clear hk); (try clear hi)) | (go_at_call 62; (with_reducible refine (parquetrylaw13_comes.calls (⟨#[65, 78, 32, 67, 83, 32, 65, 78]⟩ : ByteArray) 0 (⟨#[65, 78, 32, 65, 78, 32, 65, 78]⟩ : ByteArray) false _ A15.out).mono ?_); rintro e w59 ⟨rfl, hb⟩; have n0_ := Aside0.mk (below_step (by repeat (first | (with_reducible first | exact HB.out | apply below_alloc | apply pw_below_drewN | apply below_drew1) | exact HB.out)) hb); clear HB; have HB := n0_; clear n0_; (try clear hb); (try clear hb2); (try clear hk); (try clear hi)))
                  go_ret
                  exact ⟨by first | rfl | (simp [errW_none, errW_some] <;> rfl) | (simp [*, errW_none, errW_some] <;> rfl), by repeat (first | (with_reducible first | exact HB.out | apply below_alloc | apply pw_below_drewN | apply below_drew1) | exact HB.out)⟩
              · replace c14 := Bool.eq_false_iff.mpr c14
                subst c14
                have H1 : (some false) = some r := by rw [if_neg (show ¬ (false = true) by decide)] at H; exact H
                clear H
                have H := H1
                clear H1
                obtain rfl := Option.some.inj H
                go_enter Tryd.func39, Tryd.ntmps39
                go_wp2_with (first | ((with_reducible refine gate_callee (f := 62) rfl ?_); refine goesL_ (some 1) rfl rfl Tryd.func62 (by kernel_rfl) rfl #[.string (⟨#[65, 76, 32, 78, 83, 77, 32, 78, 83, 77]⟩ : ByteArray), .int .i64 0, .string (⟨#[82, 32, 82, 32, 82]⟩ : ByteArray)] rfl (by (try simp only [List.map_toArray, List.map_cons, List.map_nil]); first | done | rfl | (simp only [List.length_drop, List.length_take]; rfl)) ?_; (with_reducible refine (parquetrylaw13_comes.calls (⟨#[65, 76, 32, 78, 83, 77, 32, 78, 83, 77]⟩ : ByteArray) 0 (⟨#[82, 32, 82, 32, 82]⟩ : ByteArray) true _ A1.out).mono ?_); rintro e w60 ⟨rfl, hb⟩; refine ⟨_, rfl, ?_⟩; have n0_ := Aside0.mk (below_step (by repeat (first | (with_reducible first | exact HB.out | apply below_alloc | apply pw_below_drewN | apply below_drew1) | exact HB.out)) hb); clear HB; have HB := n0_; clear n0_; (try clear hb); (try clear hb2); (try clear hk); (try clear hi)) | (go_at_call 62; (with_reducible refine (parquetrylaw13_comes.calls (⟨#[78, 83, 77]⟩ : ByteArray) 1 (⟨#[82]⟩ : ByteArray) true _ A3.out).mono ?_); rintro e w61 ⟨rfl, hb⟩; have n0_ := Aside0.mk (below_step (by repeat (first | (with_reducible first | exact HB.out | apply below_alloc | apply pw_below_drewN | apply below_drew1) | exact HB.out)) hb); clear HB; have HB := n0_; clear n0_; (try clear hb); (try clear hb2); (try clear hk); (try clear hi)) | (go_at_call 62; (with_reducible refine (parquetrylaw13_comes.calls (⟨#[82, 76, 73, 32, 78, 83, 77]⟩ : ByteArray) 0 (⟨#[82, 76, 73, 32, 79, 78]⟩ : ByteArray) true _ A5.out).mono ?_); rintro e w62 ⟨rfl, hb⟩; have n0_ := Aside0.mk (below_step (by repeat (first | (with_reducible first | exact HB.out | apply below_alloc | apply pw_below_drewN | apply below_drew1) | exact HB.out)) hb); clear HB; have HB := n0_; clear n0_; (try clear hb); (try clear hb2); (try clear hk); (try clear hi)) | (go_at_call 62; (with_reducible refine (parquetrylaw13_comes.calls (⟨#[65, 76, 32, 69, 78]⟩ : ByteArray) 0 (⟨#[82, 32, 65, 78]⟩ : ByteArray) true _ A7.out).mono ?_); rintro e w63 ⟨rfl, hb⟩; have n0_ := Aside0.mk (below_step (by repeat (first | (with_reducible first | exact HB.out | apply below_alloc | apply pw_below_drewN | apply below_drew1) | exact HB.out)) hb); clear HB; have HB := n0_; clear n0_; (try clear hb); (try clear hb2); (try clear hk); (try clear hi)) | (go_at_call 62; (with_reducible refine (parquetrylaw13_comes.calls (⟨#[76, 32, 69, 78]⟩ : ByteArray) 1 (⟨#[76, 32, 76]⟩ : ByteArray) true _ A9.out).mono ?_); rintro e w64 ⟨rfl, hb⟩; have n0_ := Aside0.mk (below_step (by repeat (first | (with_reducible first | exact HB.out | apply below_alloc | apply pw_below_drewN | apply below_drew1) | exact HB.out)) hb); clear HB; have HB := n0_; clear n0_; (try clear hb); (try clear hb2); (try clear hk); (try clear hi)) | (go_at_call 62; (with_reducible refine (parquetrylaw13_comes.calls (⟨#[69, 78]⟩ : ByteArray) 1 (⟨#[69, 78]⟩ : ByteArray) true _ A11.out).mono ?_); rintro e w65 ⟨rfl, hb⟩; have n0_ := Aside0.mk (below_step (by repeat (first | (with_reducible first | exact HB.out | apply below_alloc | apply pw_below_drewN | apply below_drew1) | exact HB.out)) hb); clear HB; have HB := n0_; clear n0_; (try clear hb); (try clear hb2); (try clear hk); (try clear hi)) | (go_at_call 62; (with_reducible refine (parquetrylaw13_comes.calls (⟨#[69, 78, 32, 69, 83, 32, 69, 78, 32, 67, 83, 32, 69, 78]⟩ : ByteArray) 1 (⟨#[69, 78, 32, 69, 78, 32, 69, 78, 32, 69, 78, 32, 69, 78]⟩ : ByteArray) false _ A13.out).mono ?_); rintro e w66 ⟨rfl, hb⟩; have n0_ := Aside0.mk (below_step (by repeat (first | (with_reducible first | exact HB.out | apply below_alloc | apply pw_below_drewN | apply below_drew1) | exact HB.out)) hb); clear HB; have HB := n0_; clear n0_; (try clear hb); (try clear hb2); (try clear hk); (try clear hi)))
                go_ret
                exact ⟨by first | rfl | (simp [errW_none, errW_some] <;> rfl) | (simp [*, errW_none, errW_some] <;> rfl), by repeat (first | (with_reducible first | exact HB.out | apply below_alloc | apply pw_below_drewN | apply below_drew1) | exact HB.out)⟩
            · replace c12 := Bool.eq_false_iff.mpr c12
              subst c12
              have H1 : (some false) = some r := by rw [if_neg (show ¬ (false = true) by decide)] at H; exact H
              clear H
              have H := H1
              clear H1
              obtain rfl := Option.some.inj H
              go_enter Tryd.func39, Tryd.ntmps39
              go_wp2_with (first | ((with_reducible refine gate_callee (f := 62) rfl ?_); refine goesL_ (some 1) rfl rfl Tryd.func62 (by kernel_rfl) rfl #[.string (⟨#[65, 76, 32, 78, 83, 77, 32, 78, 83, 77]⟩ : ByteArray), .int .i64 0, .string (⟨#[82, 32, 82, 32, 82]⟩ : ByteArray)] rfl (by (try simp only [List.map_toArray, List.map_cons, List.map_nil]); first | done | rfl | (simp only [List.length_drop, List.length_take]; rfl)) ?_; (with_reducible refine (parquetrylaw13_comes.calls (⟨#[65, 76, 32, 78, 83, 77, 32, 78, 83, 77]⟩ : ByteArray) 0 (⟨#[82, 32, 82, 32, 82]⟩ : ByteArray) true _ A1.out).mono ?_); rintro e w67 ⟨rfl, hb⟩; refine ⟨_, rfl, ?_⟩; have n0_ := Aside0.mk (below_step (by repeat (first | (with_reducible first | exact HB.out | apply below_alloc | apply pw_below_drewN | apply below_drew1) | exact HB.out)) hb); clear HB; have HB := n0_; clear n0_; (try clear hb); (try clear hb2); (try clear hk); (try clear hi)) | (go_at_call 62; (with_reducible refine (parquetrylaw13_comes.calls (⟨#[78, 83, 77]⟩ : ByteArray) 1 (⟨#[82]⟩ : ByteArray) true _ A3.out).mono ?_); rintro e w68 ⟨rfl, hb⟩; have n0_ := Aside0.mk (below_step (by repeat (first | (with_reducible first | exact HB.out | apply below_alloc | apply pw_below_drewN | apply below_drew1) | exact HB.out)) hb); clear HB; have HB := n0_; clear n0_; (try clear hb); (try clear hb2); (try clear hk); (try clear hi)) | (go_at_call 62; (with_reducible refine (parquetrylaw13_comes.calls (⟨#[82, 76, 73, 32, 78, 83, 77]⟩ : ByteArray) 0 (⟨#[82, 76, 73, 32, 79, 78]⟩ : ByteArray) true _ A5.out).mono ?_); rintro e w69 ⟨rfl, hb⟩; have n0_ := Aside0.mk (below_step (by repeat (first | (with_reducible first | exact HB.out | apply below_alloc | apply pw_below_drewN | apply below_drew1) | exact HB.out)) hb); clear HB; have HB := n0_; clear n0_; (try clear hb); (try clear hb2); (try clear hk); (try clear hi)) | (go_at_call 62; (with_reducible refine (parquetrylaw13_comes.calls (⟨#[65, 76, 32, 69, 78]⟩ : ByteArray) 0 (⟨#[82, 32, 65, 78]⟩ : ByteArray) true _ A7.out).mono ?_); rintro e w70 ⟨rfl, hb⟩; have n0_ := Aside0.mk (below_step (by repeat (first | (with_reducible first | exact HB.out | apply below_alloc | apply pw_below_drewN | apply below_drew1) | exact HB.out)) hb); clear HB; have HB := n0_; clear n0_; (try clear hb); (try clear hb2); (try clear hk); (try clear hi)) | (go_at_call 62; (with_reducible refine (parquetrylaw13_comes.calls (⟨#[76, 32, 69, 78]⟩ : ByteArray) 1 (⟨#[76, 32, 76]⟩ : ByteArray) true _ A9.out).mono ?_); rintro e w71 ⟨rfl, hb⟩; have n0_ := Aside0.mk (below_step (by repeat (first | (with_reducible first | exact HB.out | apply below_alloc | apply pw_below_drewN | apply below_drew1) | exact HB.out)) hb); clear HB; have HB := n0_; clear n0_; (try clear hb); (try clear hb2); (try clear hk); (try clear hi)) | (go_at_call 62; (with_reducible refine (parquetrylaw13_comes.calls (⟨#[69, 78]⟩ : ByteArray) 1 (⟨#[69, 78]⟩ : ByteArray) false _ A11.out).mono ?_); rintro e w72 ⟨rfl, hb⟩; have n0_ := Aside0.mk (below_step (by repeat (first | (with_reducible first | exact HB.out | apply below_alloc | apply pw_below_drewN | apply below_drew1) | exact HB.out)) hb); clear HB; have HB := n0_; clear n0_; (try clear hb); (try clear hb2); (try clear hk); (try clear hi)))
              go_ret
              exact ⟨by first | rfl | (simp [errW_none, errW_some] <;> rfl) | (simp [*, errW_none, errW_some] <;> rfl), by repeat (first | (with_reducible first | exact HB.out | apply below_alloc | apply pw_below_drewN | apply below_drew1) | exact HB.out)⟩
          · replace c10 := Bool.eq_false_iff.mpr c10
            subst c10
            have H1 : (some false) = some r := by rw [if_neg (show ¬ (false = true) by decide)] at H; exact H
            clear H
            have H := H1
            clear H1
            obtain rfl := Option.some.inj H
            go_enter Tryd.func39, Tryd.ntmps39
            go_wp2_with (first | ((with_reducible refine gate_callee (f := 62) rfl ?_); refine goesL_ (some 1) rfl rfl Tryd.func62 (by kernel_rfl) rfl #[.string (⟨#[65, 76, 32, 78, 83, 77, 32, 78, 83, 77]⟩ : ByteArray), .int .i64 0, .string (⟨#[82, 32, 82, 32, 82]⟩ : ByteArray)] rfl (by (try simp only [List.map_toArray, List.map_cons, List.map_nil]); first | done | rfl | (simp only [List.length_drop, List.length_take]; rfl)) ?_; (with_reducible refine (parquetrylaw13_comes.calls (⟨#[65, 76, 32, 78, 83, 77, 32, 78, 83, 77]⟩ : ByteArray) 0 (⟨#[82, 32, 82, 32, 82]⟩ : ByteArray) true _ A1.out).mono ?_); rintro e w73 ⟨rfl, hb⟩; refine ⟨_, rfl, ?_⟩; have n0_ := Aside0.mk (below_step (by repeat (first | (with_reducible first | exact HB.out | apply below_alloc | apply pw_below_drewN | apply below_drew1) | exact HB.out)) hb); clear HB; have HB := n0_; clear n0_; (try clear hb); (try clear hb2); (try clear hk); (try clear hi)) | (go_at_call 62; (with_reducible refine (parquetrylaw13_comes.calls (⟨#[78, 83, 77]⟩ : ByteArray) 1 (⟨#[82]⟩ : ByteArray) true _ A3.out).mono ?_); rintro e w74 ⟨rfl, hb⟩; have n0_ := Aside0.mk (below_step (by repeat (first | (with_reducible first | exact HB.out | apply below_alloc | apply pw_below_drewN | apply below_drew1) | exact HB.out)) hb); clear HB; have HB := n0_; clear n0_; (try clear hb); (try clear hb2); (try clear hk); (try clear hi)) | (go_at_call 62; (with_reducible refine (parquetrylaw13_comes.calls (⟨#[82, 76, 73, 32, 78, 83, 77]⟩ : ByteArray) 0 (⟨#[82, 76, 73, 32, 79, 78]⟩ : ByteArray) true _ A5.out).mono ?_); rintro e w75 ⟨rfl, hb⟩; have n0_ := Aside0.mk (below_step (by repeat (first | (with_reducible first | exact HB.out | apply below_alloc | apply pw_below_drewN | apply below_drew1) | exact HB.out)) hb); clear HB; have HB := n0_; clear n0_; (try clear hb); (try clear hb2); (try clear hk); (try clear hi)) | (go_at_call 62; (with_reducible refine (parquetrylaw13_comes.calls (⟨#[65, 76, 32, 69, 78]⟩ : ByteArray) 0 (⟨#[82, 32, 65, 78]⟩ : ByteArray) true _ A7.out).mono ?_); rintro e w76 ⟨rfl, hb⟩; have n0_ := Aside0.mk (below_step (by repeat (first | (with_reducible first | exact HB.out | apply below_alloc | apply pw_below_drewN | apply below_drew1) | exact HB.out)) hb); clear HB; have HB := n0_; clear n0_; (try clear hb); (try clear hb2); (try clear hk); (try clear hi)) | (go_at_call 62; (with_reducible refine (parquetrylaw13_comes.calls (⟨#[76, 32, 69, 78]⟩ : ByteArray) 1 (⟨#[76, 32, 76]⟩ : ByteArray) false _ A9.out).mono ?_); rintro e w77 ⟨rfl, hb⟩; have n0_ := Aside0.mk (below_step (by repeat (first | (with_reducible first | exact HB.out | apply below_alloc | apply pw_below_drewN | apply below_drew1) | exact HB.out)) hb); clear HB; have HB := n0_; clear n0_; (try clear hb); (try clear hb2); (try clear hk); (try clear hi)))
            go_ret
            exact ⟨by first | rfl | (simp [errW_none, errW_some] <;> rfl) | (simp [*, errW_none, errW_some] <;> rfl), by repeat (first | (with_reducible first | exact HB.out | apply below_alloc | apply pw_below_drewN | apply below_drew1) | exact HB.out)⟩
        · replace c8 := Bool.eq_false_iff.mpr c8
          subst c8
          have H1 : (some false) = some r := by rw [if_neg (show ¬ (false = true) by decide)] at H; exact H
          clear H
          have H := H1
          clear H1
          obtain rfl := Option.some.inj H
          go_enter Tryd.func39, Tryd.ntmps39
          go_wp2_with (first | ((with_reducible refine gate_callee (f := 62) rfl ?_); refine goesL_ (some 1) rfl rfl Tryd.func62 (by kernel_rfl) rfl #[.string (⟨#[65, 76, 32, 78, 83, 77, 32, 78, 83, 77]⟩ : ByteArray), .int .i64 0, .string (⟨#[82, 32, 82, 32, 82]⟩ : ByteArray)] rfl (by (try simp only [List.map_toArray, List.map_cons, List.map_nil]); first | done | rfl | (simp only [List.length_drop, List.length_take]; rfl)) ?_; (with_reducible refine (parquetrylaw13_comes.calls (⟨#[65, 76, 32, 78, 83, 77, 32, 78, 83, 77]⟩ : ByteArray) 0 (⟨#[82, 32, 82, 32, 82]⟩ : ByteArray) true _ A1.out).mono ?_); rintro e w78 ⟨rfl, hb⟩; refine ⟨_, rfl, ?_⟩; have n0_ := Aside0.mk (below_step (by repeat (first | (with_reducible first | exact HB.out | apply below_alloc | apply pw_below_drewN | apply below_drew1) | exact HB.out)) hb); clear HB; have HB := n0_; clear n0_; (try clear hb); (try clear hb2); (try clear hk); (try clear hi)) | (go_at_call 62; (with_reducible refine (parquetrylaw13_comes.calls (⟨#[78, 83, 77]⟩ : ByteArray) 1 (⟨#[82]⟩ : ByteArray) true _ A3.out).mono ?_); rintro e w79 ⟨rfl, hb⟩; have n0_ := Aside0.mk (below_step (by repeat (first | (with_reducible first | exact HB.out | apply below_alloc | apply pw_below_drewN | apply below_drew1) | exact HB.out)) hb); clear HB; have HB := n0_; clear n0_; (try clear hb); (try clear hb2); (try clear hk); (try clear hi)) | (go_at_call 62; (with_reducible refine (parquetrylaw13_comes.calls (⟨#[82, 76, 73, 32, 78, 83, 77]⟩ : ByteArray) 0 (⟨#[82, 76, 73, 32, 79, 78]⟩ : ByteArray) true _ A5.out).mono ?_); rintro e w80 ⟨rfl, hb⟩; have n0_ := Aside0.mk (below_step (by repeat (first | (with_reducible first | exact HB.out | apply below_alloc | apply pw_below_drewN | apply below_drew1) | exact HB.out)) hb); clear HB; have HB := n0_; clear n0_; (try clear hb); (try clear hb2); (try clear hk); (try clear hi)) | (go_at_call 62; (with_reducible refine (parquetrylaw13_comes.calls (⟨#[65, 76, 32, 69, 78]⟩ : ByteArray) 0 (⟨#[82, 32, 65, 78]⟩ : ByteArray) false _ A7.out).mono ?_); rintro e w81 ⟨rfl, hb⟩; have n0_ := Aside0.mk (below_step (by repeat (first | (with_reducible first | exact HB.out | apply below_alloc | apply pw_below_drewN | apply below_drew1) | exact HB.out)) hb); clear HB; have HB := n0_; clear n0_; (try clear hb); (try clear hb2); (try clear hk); (try clear hi)))
          go_ret
          exact ⟨by first | rfl | (simp [errW_none, errW_some] <;> rfl) | (simp [*, errW_none, errW_some] <;> rfl), by repeat (first | (with_reducible first | exact HB.out | apply below_alloc | apply pw_below_drewN | apply below_drew1) | exact HB.out)⟩
      · replace c6 := Bool.eq_false_iff.mpr c6
        subst c6
        have H1 : (some false) = some r := by rw [if_neg (show ¬ (false = true) by decide)] at H; exact H
        clear H
        have H := H1
        clear H1
        obtain rfl := Option.some.inj H
        go_enter Tryd.func39, Tryd.ntmps39
        go_wp2_with (first | ((with_reducible refine gate_callee (f := 62) rfl ?_); refine goesL_ (some 1) rfl rfl Tryd.func62 (by kernel_rfl) rfl #[.string (⟨#[65, 76, 32, 78, 83, 77, 32, 78, 83, 77]⟩ : ByteArray), .int .i64 0, .string (⟨#[82, 32, 82, 32, 82]⟩ : ByteArray)] rfl (by (try simp only [List.map_toArray, List.map_cons, List.map_nil]); first | done | rfl | (simp only [List.length_drop, List.length_take]; rfl)) ?_; (with_reducible refine (parquetrylaw13_comes.calls (⟨#[65, 76, 32, 78, 83, 77, 32, 78, 83, 77]⟩ : ByteArray) 0 (⟨#[82, 32, 82, 32, 82]⟩ : ByteArray) true _ A1.out).mono ?_); rintro e w82 ⟨rfl, hb⟩; refine ⟨_, rfl, ?_⟩; have n0_ := Aside0.mk (below_step (by repeat (first | (with_reducible first | exact HB.out | apply below_alloc | apply pw_below_drewN | apply below_drew1) | exact HB.out)) hb); clear HB; have HB := n0_; clear n0_; (try clear hb); (try clear hb2); (try clear hk); (try clear hi)) | (go_at_call 62; (with_reducible refine (parquetrylaw13_comes.calls (⟨#[78, 83, 77]⟩ : ByteArray) 1 (⟨#[82]⟩ : ByteArray) true _ A3.out).mono ?_); rintro e w83 ⟨rfl, hb⟩; have n0_ := Aside0.mk (below_step (by repeat (first | (with_reducible first | exact HB.out | apply below_alloc | apply pw_below_drewN | apply below_drew1) | exact HB.out)) hb); clear HB; have HB := n0_; clear n0_; (try clear hb); (try clear hb2); (try clear hk); (try clear hi)) | (go_at_call 62; (with_reducible refine (parquetrylaw13_comes.calls (⟨#[82, 76, 73, 32, 78, 83, 77]⟩ : ByteArray) 0 (⟨#[82, 76, 73, 32, 79, 78]⟩ : ByteArray) false _ A5.out).mono ?_); rintro e w84 ⟨rfl, hb⟩; have n0_ := Aside0.mk (below_step (by repeat (first | (with_reducible first | exact HB.out | apply below_alloc | apply pw_below_drewN | apply below_drew1) | exact HB.out)) hb); clear HB; have HB := n0_; clear n0_; (try clear hb); (try clear hb2); (try clear hk); (try clear hi)))
        go_ret
        exact ⟨by first | rfl | (simp [errW_none, errW_some] <;> rfl) | (simp [*, errW_none, errW_some] <;> rfl), by repeat (first | (with_reducible first | exact HB.out | apply below_alloc | apply pw_below_drewN | apply below_drew1) | exact HB.out)⟩
    · replace c4 := Bool.eq_false_iff.mpr c4
      subst c4
      have H1 : (some false) = some r := by rw [if_neg (show ¬ (false = true) by decide)] at H; exact H
      clear H
      have H := H1
      clear H1
      obtain rfl := Option.some.inj H
      go_enter Tryd.func39, Tryd.ntmps39
      go_wp2_with (first | ((with_reducible refine gate_callee (f := 62) rfl ?_); refine goesL_ (some 1) rfl rfl Tryd.func62 (by kernel_rfl) rfl #[.string (⟨#[65, 76, 32, 78, 83, 77, 32, 78, 83, 77]⟩ : ByteArray), .int .i64 0, .string (⟨#[82, 32, 82, 32, 82]⟩ : ByteArray)] rfl (by (try simp only [List.map_toArray, List.map_cons, List.map_nil]); first | done | rfl | (simp only [List.length_drop, List.length_take]; rfl)) ?_; (with_reducible refine (parquetrylaw13_comes.calls (⟨#[65, 76, 32, 78, 83, 77, 32, 78, 83, 77]⟩ : ByteArray) 0 (⟨#[82, 32, 82, 32, 82]⟩ : ByteArray) true _ A1.out).mono ?_); rintro e w85 ⟨rfl, hb⟩; refine ⟨_, rfl, ?_⟩; have n0_ := Aside0.mk (below_step (by repeat (first | (with_reducible first | exact HB.out | apply below_alloc | apply pw_below_drewN | apply below_drew1) | exact HB.out)) hb); clear HB; have HB := n0_; clear n0_; (try clear hb); (try clear hb2); (try clear hk); (try clear hi)) | (go_at_call 62; (with_reducible refine (parquetrylaw13_comes.calls (⟨#[78, 83, 77]⟩ : ByteArray) 1 (⟨#[82]⟩ : ByteArray) false _ A3.out).mono ?_); rintro e w86 ⟨rfl, hb⟩; have n0_ := Aside0.mk (below_step (by repeat (first | (with_reducible first | exact HB.out | apply below_alloc | apply pw_below_drewN | apply below_drew1) | exact HB.out)) hb); clear HB; have HB := n0_; clear n0_; (try clear hb); (try clear hb2); (try clear hk); (try clear hi)))
      go_ret
      exact ⟨by first | rfl | (simp [errW_none, errW_some] <;> rfl) | (simp [*, errW_none, errW_some] <;> rfl), by repeat (first | (with_reducible first | exact HB.out | apply below_alloc | apply pw_below_drewN | apply below_drew1) | exact HB.out)⟩
  · replace c2 := Bool.eq_false_iff.mpr c2
    subst c2
    have H1 : (some false) = some r := by rw [if_neg (show ¬ (false = true) by decide)] at H; exact H
    clear H
    have H := H1
    clear H1
    obtain rfl := Option.some.inj H
    go_enter Tryd.func39, Tryd.ntmps39
    go_wp2_with (first | ((with_reducible refine gate_callee (f := 62) rfl ?_); refine goesL_ (some 1) rfl rfl Tryd.func62 (by kernel_rfl) rfl #[.string (⟨#[65, 76, 32, 78, 83, 77, 32, 78, 83, 77]⟩ : ByteArray), .int .i64 0, .string (⟨#[82, 32, 82, 32, 82]⟩ : ByteArray)] rfl (by (try simp only [List.map_toArray, List.map_cons, List.map_nil]); first | done | rfl | (simp only [List.length_drop, List.length_take]; rfl)) ?_; (with_reducible refine (parquetrylaw13_comes.calls (⟨#[65, 76, 32, 78, 83, 77, 32, 78, 83, 77]⟩ : ByteArray) 0 (⟨#[82, 32, 82, 32, 82]⟩ : ByteArray) false _ A1.out).mono ?_); rintro e w87 ⟨rfl, hb⟩; refine ⟨_, rfl, ?_⟩; have n0_ := Aside0.mk (below_step (by repeat (first | (with_reducible first | exact HB.out | apply below_alloc | apply pw_below_drewN | apply below_drew1) | exact HB.out)) hb); clear HB; have HB := n0_; clear n0_; (try clear hb); (try clear hb2); (try clear hk); (try clear hi)))
    go_ret
    exact ⟨by first | rfl | (simp [errW_none, errW_some] <;> rfl) | (simp [*, errW_none, errW_some] <;> rfl), by repeat (first | (with_reducible first | exact HB.out | apply below_alloc | apply pw_below_drewN | apply below_drew1) | exact HB.out)⟩

/-! ### parquetryref13_letter: function 82 -/
def parquetryref13_letter.l0 : Nat → List Int → Int → Int → Option (Int)
  | 0, _, _, _ => none
  | k + 1, x0, x2, x7 => if x7 ≥ 0 then (if 0 ≤ x7 then (if x7 < (x0.length : Int) then (if (rd x0 x7) = 0 then (some (rd x0 x7)) else (if (rd x0 x7) = 1 then (some (rd x0 x7)) else (if (rd x0 x7) = 2 then (some (rd x0 x7)) else (parquetryref13_letter.l0 k x0 x2 (wrap64 (x7 - 1)))))) else (none)) else (none)) else (some x2)
def parquetryref13_letter.f (k : Nat) (l0 : List Int) (a1 : Int) (a2 : Int) : Option (Int) := parquetryref13_letter.l0 k l0 a2 (wrap64 (a1 - 1))
theorem parquetryref13_letter.mono_l : ∀ k, (∀ y0 y1 y2, LeO (parquetryref13_letter.l0 k y0 y1 y2) (parquetryref13_letter.l0 (k + 1) y0 y1 y2))
  | 0 => fun _ _ _ r h => by simp [parquetryref13_letter.l0] at h
  | k + 1 => by
    have ih0 := parquetryref13_letter.mono_l k
    · intro y0 y1 y2
      unfold parquetryref13_letter.l0
      repeat' first
      | (with_reducible exact ih0 _ _ _)
      | (with_reducible exact LeO.refl _)
      | (with_reducible exact LeO.none _)
      | (with_reducible refine LeO.ite ?_ ?_)
      | (with_reducible refine LeO.bind ?_ (fun _ => ?_))
      | exact ih0 _ _ _
      | exact LeO.none _
      | refine LeO.ite ?_ ?_
      | refine LeO.bind ?_ (fun _ => ?_)
theorem parquetryref13_letter.mono : ∀ a0 a1 a2 k, LeO (parquetryref13_letter.f k a0 a1 a2) (parquetryref13_letter.f (k + 1) a0 a1 a2) := by
  intro a0 a1 a2 k
  have ih0 := parquetryref13_letter.mono_l k
  unfold parquetryref13_letter.f
  repeat' first
      | (with_reducible exact ih0 _ _ _)
      | (with_reducible exact LeO.refl _)
      | (with_reducible exact LeO.none _)
      | (with_reducible refine LeO.ite ?_ ?_)
      | (with_reducible refine LeO.bind ?_ (fun _ => ?_))
      | exact ih0 _ _ _
      | exact LeO.none _
      | refine LeO.ite ?_ ?_
      | refine LeO.bind ?_ (fun _ => ?_)
set_option maxHeartbeats 8000000 in
set_option maxRecDepth 100000 in
theorem parquetryref13_letter.calls (k : Nat) (A0 : Option Addr) (c0 : Nat) (l0 : List Int) (a1 : Int) (a2 : Int) (r : Int) (w : World) (hr0 : Kd.C (Kd.int .i64) w A0 l0.length l0) (hc0 : l0.length ≤ c0) (h : parquetryref13_letter.f k l0 a1 a2 = some r) :
    Calls Tryd.prog 82 #[.slice A0 l0.length c0, .int .i64 a1, .int .i64 a2] w fun e w' => e = .returned (.int .i64 r) ∧ Drawn0 w w' := by
  have HR0 := Aside0.mk hr0
  have HC0 := Aside0.mk hc0
  clear hr0 hc0
  have H : (parquetryref13_letter.l0 k l0 a2 (wrap64 (a1 - 1))) = some r := h
  clear h
  have H' := Aside0.mk H
  clear H
  go_enter Tryd.func82, Tryd.ntmps82
  go_wp2
  go_loopg [7] k (fun kq v7 w' => ∃ (x7_1 : Int), v7 = .int .i64 x7_1 ∧ Aside0 (parquetryref13_letter.l0 kq l0 a2 x7_1 = some r) ∧ Aside0 (kq ≤ k) ∧ Drawn0 w w')
  case atStart => exact ⟨(wrap64 (a1 - 1)), (by first | rfl | (simp; done) | (simp [*]; done)), H', ⟨Nat.le_refl _⟩, by repeat (first | exact Drawn0.refl _ | apply Drawn0.step)⟩
  case round =>
    clear H'
    try clear p2
    obtain ⟨x7_1, rfl, HA, HK1, ⟨m1, rfl⟩⟩ := hrel
    cases gk with
    | zero => exact absurd HA.out (by simp [parquetryref13_letter.l0])
    | succ k1 =>
      have H := HA.out
      clear HA
      simp only [parquetryref13_letter.l0] at H
      by_cases c4 : x7_1 ≥ 0
      · rw [if_pos c4] at H
        have c4b0 : decide (0 ≤ x7_1) = true := decide_eq_true c4
        clear c4
        by_cases c5 : 0 ≤ x7_1
        · rw [if_pos c5] at H
          have c5b0 : decide (0 ≤ x7_1) = true := decide_eq_true c5
          clear c5
          by_cases c6 : x7_1 < (l0.length : Int)
          · rw [if_pos c6] at H
            have c6b0 : decide (x7_1 < (l0.length : Int)) = true := decide_eq_true c6
            clear c6
            by_cases c7 : (rd l0 x7_1) = 0
            · rw [if_pos c7] at H
              have c7b0 : ((rd l0 x7_1) == 0) = true := beq_iff_eq.mpr c7
              have c7b1 : ((rd l0 x7_1) != 0) = false := bne_eq_false_iff_eq.mpr c7
              clear c7
              obtain rfl := Option.some.inj H
              have p123 : 0 ≤ (x7_1 : Int) := of_decide_eq_true (by first | (with_reducible assumption) | assumption)
              have q123 : x7_1 < (l0.length : Int) := of_decide_eq_true (by first | (with_reducible assumption) | assumption)
              obtain ⟨ad123, e123, hx123_0⟩ := Kd.at_int HR0.out x7_1 p123 q123
              cases e123
              replace p123 := eq_true p123
              replace q123 := eq_true q123
              have p124 : 0 ≤ (x7_1 : Int) := of_decide_eq_true (by first | (with_reducible assumption) | assumption)
              have q124 : x7_1 < (l0.length : Int) := of_decide_eq_true (by first | (with_reducible assumption) | assumption)
              obtain ⟨ad124, e124, hx124_0⟩ := Kd.at_int HR0.out x7_1 p124 q124
              obtain rfl : ad123 = ad124 := (by injection e124)
              replace p124 := eq_true p124
              replace q124 := eq_true q124
              go_wp2
              go_ret
              exact ⟨by first | rfl | (simp; done) | (simp [*]; done), by repeat (first | exact Drawn0.refl _ | apply Drawn0.step)⟩
            · rw [if_neg c7] at H
              have c7b0 : ((rd l0 x7_1) == 0) = false := beq_eq_false_iff_ne.mpr c7
              have c7b1 : ((rd l0 x7_1) != 0) = true := bne_iff_ne.mpr c7
              by_cases c8 : (rd l0 x7_1) = 1
              · rw [if_pos c8] at H
                have c8b0 : ((rd l0 x7_1) == 1) = true := beq_iff_eq.mpr c8
                have c8b1 : ((rd l0 x7_1) != 1) = false := bne_eq_false_iff_eq.mpr c8
                clear c8
                obtain rfl := Option.some.inj H
                have p123 : 0 ≤ (x7_1 : Int) := of_decide_eq_true (by first | (with_reducible assumption) | assumption)
                have q123 : x7_1 < (l0.length : Int) := of_decide_eq_true (by first | (with_reducible assumption) | assumption)
                obtain ⟨ad123, e123, hx123_0⟩ := Kd.at_int HR0.out x7_1 p123 q123
                cases e123
                replace p123 := eq_true p123
                replace q123 := eq_true q123
                have p125 : 0 ≤ (x7_1 : Int) := of_decide_eq_true (by first | (with_reducible assumption) | assumption)
                have q125 : x7_1 < (l0.length : Int) := of_decide_eq_true (by first | (with_reducible assumption) | assumption)
                obtain ⟨ad125, e125, hx125_0⟩ := Kd.at_int HR0.out x7_1 p125 q125
                obtain rfl : ad123 = ad125 := (by injection e125)
                replace p125 := eq_true p125
                replace q125 := eq_true q125
                have p126 : 0 ≤ (x7_1 : Int) := of_decide_eq_true (by first | (with_reducible assumption) | assumption)
                have q126 : x7_1 < (l0.length : Int) := of_decide_eq_true (by first | (with_reducible assumption) | assumption)
                obtain ⟨ad126, e126, hx126_0⟩ := Kd.at_int HR0.out x7_1 p126 q126
                obtain rfl : ad123 = ad126 := (by injection e126)
                replace p126 := eq_true p126
                replace q126 := eq_true q126
                go_wp2
                go_ret
                exact ⟨by first | rfl | (simp; done) | (simp [*]; done), by repeat (first | exact Drawn0.refl _ | apply Drawn0.step)⟩
              · rw [if_neg c8] at H
                have c8b0 : ((rd l0 x7_1) == 1) = false := beq_eq_false_iff_ne.mpr c8
                have c8b1 : ((rd l0 x7_1) != 1) = true := bne_iff_ne.mpr c8
                by_cases c9 : (rd l0 x7_1) = 2
                · rw [if_pos c9] at H
                  have c9b0 : ((rd l0 x7_1) == 2) = true := beq_iff_eq.mpr c9
                  have c9b1 : ((rd l0 x7_1) != 2) = false := bne_eq_false_iff_eq.mpr c9
                  clear c9
                  obtain rfl := Option.some.inj H
                  have p123 : 0 ≤ (x7_1 : Int) := of_decide_eq_true (by first | (with_reducible assumption) | assumption)
                  have q123 : x7_1 < (l0.length : Int) := of_decide_eq_true (by first | (with_reducible assumption) | assumption)
                  obtain ⟨ad123, e123, hx123_0⟩ := Kd.at_int HR0.out x7_1 p123 q123
                  cases e123
                  replace p123 := eq_true p123
                  replace q123 := eq_true q123
                  have p125 : 0 ≤ (x7_1 : Int) := of_decide_eq_true (by first | (with_reducible assumption) | assumption)
                  have q125 : x7_1 < (l0.length : Int) := of_decide_eq_true (by first | (with_reducible assumption) | assumption)
                  obtain ⟨ad125, e125, hx125_0⟩ := Kd.at_int HR0.out x7_1 p125 q125
                  obtain rfl : ad123 = ad125 := (by injection e125)
                  replace p125 := eq_true p125
                  replace q125 := eq_true q125
                  have p127 : 0 ≤ (x7_1 : Int) := of_decide_eq_true (by first | (with_reducible assumption) | assumption)
                  have q127 : x7_1 < (l0.length : Int) := of_decide_eq_true (by first | (with_reducible assumption) | assumption)
                  obtain ⟨ad127, e127, hx127_0⟩ := Kd.at_int HR0.out x7_1 p127 q127
                  obtain rfl : ad123 = ad127 := (by injection e127)
                  replace p127 := eq_true p127
                  replace q127 := eq_true q127
                  have p128 : 0 ≤ (x7_1 : Int) := of_decide_eq_true (by first | (with_reducible assumption) | assumption)
                  have q128 : x7_1 < (l0.length : Int) := of_decide_eq_true (by first | (with_reducible assumption) | assumption)
                  obtain ⟨ad128, e128, hx128_0⟩ := Kd.at_int HR0.out x7_1 p128 q128
                  obtain rfl : ad123 = ad128 := (by injection e128)
                  replace p128 := eq_true p128
                  replace q128 := eq_true q128
                  go_wp2
                  go_ret
                  exact ⟨by first | rfl | (simp; done) | (simp [*]; done), by repeat (first | exact Drawn0.refl _ | apply Drawn0.step)⟩
                · rw [if_neg c9] at H
                  have c9b0 : ((rd l0 x7_1) == 2) = false := beq_eq_false_iff_ne.mpr c9
                  have c9b1 : ((rd l0 x7_1) != 2) = true := bne_iff_ne.mpr c9
                  have H' := Aside0.mk H
                  clear H
                  have p123 : 0 ≤ (x7_1 : Int) := of_decide_eq_true (by first | (with_reducible assumption) | assumption)
                  have q123 : x7_1 < (l0.length : Int) := of_decide_eq_true (by first | (with_reducible assumption) | assumption)
                  obtain ⟨ad123, e123, hx123_0⟩ := Kd.at_int HR0.out x7_1 p123 q123
                  cases e123
                  replace p123 := eq_true p123
                  replace q123 := eq_true q123
                  have p125 : 0 ≤ (x7_1 : Int) := of_decide_eq_true (by first | (with_reducible assumption) | assumption)
                  have q125 : x7_1 < (l0.length : Int) := of_decide_eq_true (by first | (with_reducible assumption) | assumption)
                  obtain ⟨ad125, e125, hx125_0⟩ := Kd.at_int HR0.out x7_1 p125 q125
                  obtain rfl : ad123 = ad125 := (by injection e125)
                  replace p125 := eq_true p125
                  replace q125 := eq_true q125
                  have p127 : 0 ≤ (x7_1 : Int) := of_decide_eq_true (by first | (with_reducible assumption) | assumption)
                  have q127 : x7_1 < (l0.length : Int) := of_decide_eq_true (by first | (with_reducible assumption) | assumption)
                  obtain ⟨ad127, e127, hx127_0⟩ := Kd.at_int HR0.out x7_1 p127 q127
                  obtain rfl : ad123 = ad127 := (by injection e127)
                  replace p127 := eq_true p127
                  replace q127 := eq_true q127
                  go_wp2
                  go_roundg k1
                  case measure => have := HK1.out; omega
                  case rel => exact ⟨(wrap64 (x7_1 - 1)), (by first | rfl | (simp; done) | (simp [*]; done)), H', ⟨by have := HK1.out; omega⟩, by repeat (first | exact Drawn0.refl _ | apply Drawn0.step)⟩
          · rw [if_neg c6] at H
            exact absurd H (by simp)
        · rw [if_neg c5] at H
          exact absurd H (by simp)
      · rw [if_neg c4] at H
        have c4b0 : decide (0 ≤ x7_1) = false := decide_eq_false c4
        clear c4
        obtain rfl := Option.some.inj H
        go_wp2
        go_ret
        exact ⟨by first | rfl | (simp; done) | (simp [*]; done), by repeat (first | exact Drawn0.refl _ | apply Drawn0.step)⟩

end Go.Proofs.YtfpibigfhhoiiaaDoor.PW
