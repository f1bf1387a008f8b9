-- Written by a program of this session (wip/myprint.py, over the kit's print). Not trusted: Lean checks it.
import Derived.Test.YtdpifkhkemeclaaGreatPZx0
import Derived.Test.YtdpifkhkemeclaaGreatZp
import Derived.Test.YtdpifkhkemeclaaGreatZo
import Derived.Test.YtdpifkhkemeclaaGreatLinG
namespace Go.Proofs.YtdpifkhkemeclaaGreat.PZ
open Go.RowKit Go.Proofs.YtdpifkhkemeclaaGreatW.PrintWords Go.Proofs.YtdpifkhkemeclaaGreatW.PrintLast Go.Proofs.YtdpifkhkemeclaaGreatW.PrintMore
attribute [local go_sem] max2_int min2_int max_two min_two max_three min_three max_four min_four   -- for this text's walks alone
set_option linter.unusedVariables false
set_option linter.unusedSimpArgs false
attribute [local go_sem high] eqA38
def lw_awake.f (k : Nat)  : Option (Bool) := (lw_of.f k (([97, 1488, 1489, 49] : List Int))).bind fun t179 => ((bidi_Resolve.f t179 0).bind fun t182 => ((parquetryref02_Same.f k t182 (([0, 1, 1, 2] : List Int))).bind fun t188 => (if t188 = true then ((lw_of.f k (([1488, 40, 97, 41] : List Int))).bind fun t192 => ((bidi_Resolve.f t192 1).bind fun t195 => ((parquetryref02_Same.f k t195 (([1, 1, 2, 1] : List Int))).bind fun t201 => (if t201 = true then ((lw_of.f k (([97, 32, 9, 1488, 32] : List Int))).bind fun t205 => ((bidi_Line.f t205 (([0, 0, 0, 1, 1] : List Int)) 0).bind fun t211 => ((parquetryref02_Same.f k t211 (([0, 0, 0, 1, 0] : List Int))).bind fun t217 => (if t217 = true then ((bidi_Order.f k (([0, 1, 1, 2, 0] : List Int))).bind fun t221 => ((parquetryref02_Same.f k t221 (([0, 3, 2, 1, 4] : List Int))).bind fun t227 => (if t227 = true then ((bidi_Order.f k (([1, 2, 2, 1] : List Int))).bind fun t231 => ((parquetryref02_Same.f k t231 (([3, 1, 2, 0] : List Int))).bind fun t237 => (if t237 = true then ((bidi_Order.f k (([2, 2] : List Int))).bind fun t241 => ((parquetryref02_Same.f k t241 (([0, 1] : List Int))).bind fun t247 => (if t247 = true then ((bidi_Shown.f 40 1).bind fun t248 => (if t248 = 41 then ((bidi_Shown.f 40 2).bind fun t249 => (some (t249 == 40))) else (some false))) else (some false)))) else (some false)))) else (some false)))) else (some false))))) else (some false))))) else (some false))))
theorem lw_awake.mono : ∀ k, LeO (lw_awake.f k ) (lw_awake.f (k + 1) ) := by
 intro  k
 unfold lw_awake.f
 repeat' first
   | (with_reducible exact bidi_Order.mono _ _)
   | (with_reducible exact lw_of.mono _ _)
   | (with_reducible exact parquetryref02_Same.mono _ _ _)
   | (with_reducible exact LeO.refl _)
   | (with_reducible exact LeO.none _)
   | (with_reducible refine LeO.ite ?_ ?_)
   | (with_reducible refine LeO.bind ?_ (fun _ => ?_))
   | exact bidi_Order.mono _ _
   | exact lw_of.mono _ _
   | exact parquetryref02_Same.mono _ _ _
   | exact LeO.none _
   | refine LeO.ite ?_ ?_
   | refine LeO.bind ?_ (fun _ => ?_)
theorem lw_awake.le : ∀ d k, LeO (lw_awake.f k) (lw_awake.f (k + d))
 | 0, k => LeO.refl _
 | d + 1, k => (lw_awake.le d k).trans (lw_awake.mono (k + d))
theorem lw_awake.run : lw_awake.f 100 = some true := by kernel_rfl
theorem lw_awake.is (k : Nat) (r : Bool) (h : lw_awake.f k = some r) : r = true := by
 have h1 := lw_awake.le 100 k r h
 have h2 := lw_awake.le k 100 true lw_awake.run
 rw [Nat.add_comm] at h2
 exact Option.some.inj (h1.symm.trans h2)
set_option maxHeartbeats 8000000 in
set_option maxRecDepth 100000 in
theorem lw_awake.calls (k : Nat)  (r : Bool) (w : World) (h : lw_awake.f k  = some r) :
  Calls Tryz.prog 10 #[] w fun e w' => e = .returned (.bool r) ∧ Below w.heap.size w w' := by
 have HB := Aside0.mk (Below.refl w.heap.size w)
 have H : ((lw_of.f k (([97, 1488, 1489, 49] : List Int))).bind fun t179 => ((bidi_Resolve.f t179 0).bind fun t182 => ((parquetryref02_Same.f k t182 (([0, 1, 1, 2] : List Int))).bind fun t188 => (if t188 = true then ((lw_of.f k (([1488, 40, 97, 41] : List Int))).bind fun t192 => ((bidi_Resolve.f t192 1).bind fun t195 => ((parquetryref02_Same.f k t195 (([1, 1, 2, 1] : List Int))).bind fun t201 => (if t201 = true then ((lw_of.f k (([97, 32, 9, 1488, 32] : List Int))).bind fun t205 => ((bidi_Line.f t205 (([0, 0, 0, 1, 1] : List Int)) 0).bind fun t211 => ((parquetryref02_Same.f k t211 (([0, 0, 0, 1, 0] : List Int))).bind fun t217 => (if t217 = true then ((bidi_Order.f k (([0, 1, 1, 2, 0] : List Int))).bind fun t221 => ((parquetryref02_Same.f k t221 (([0, 3, 2, 1, 4] : List Int))).bind fun t227 => (if t227 = true then ((bidi_Order.f k (([1, 2, 2, 1] : List Int))).bind fun t231 => ((parquetryref02_Same.f k t231 (([3, 1, 2, 0] : List Int))).bind fun t237 => (if t237 = true then ((bidi_Order.f k (([2, 2] : List Int))).bind fun t241 => ((parquetryref02_Same.f k t241 (([0, 1] : List Int))).bind fun t247 => (if t247 = true then ((bidi_Shown.f 40 1).bind fun t248 => (if t248 = 41 then ((bidi_Shown.f 40 2).bind fun t249 => (some (t249 == 40))) else (some false))) else (some false)))) else (some false)))) else (some false)))) else (some false))))) else (some false))))) else (some false))))) = some r := h
 have HR := Aside0.mk (lw_awake.is k r h)
 clear h
 obtain ⟨y176, hy176⟩ : ∃ y_ : List Int, y_ = (([97, 1488, 1489, 49] : List Int)) := ⟨_, rfl⟩
 rw [← hy176] at H
 have Ny176 := Aside0.mk hy176
 clear hy176
 replace H := Option.bind_eq_some_iff.mp H
 obtain ⟨t179, A10, H⟩ := H
 (try dsimp only at H)
 have A1 := Aside0.mk A10
 clear A10
 replace H := Option.bind_eq_some_iff.mp H
 obtain ⟨t182, A20, H⟩ := H
 (try dsimp only at H)
 have A2 := Aside0.mk A20
 clear A20
 obtain ⟨y185, hy185⟩ : ∃ y_ : List Int, y_ = (([0, 1, 1, 2] : List Int)) := ⟨_, rfl⟩
 rw [← hy185] at H
 have Ny185 := Aside0.mk hy185
 clear hy185
 replace H := Option.bind_eq_some_iff.mp H
 obtain ⟨t188, A30, H⟩ := H
 (try dsimp only at H)
 have A3 := Aside0.mk A30
 clear A30
 by_cases c4 : t188 = true
 ·subst c4
  have H1 : ((lw_of.f k (([1488, 40, 97, 41] : List Int))).bind fun t192 => ((bidi_Resolve.f t192 1).bind fun t195 => ((parquetryref02_Same.f k t195 (([1, 1, 2, 1] : List Int))).bind fun t201 => (if t201 = true then ((lw_of.f k (([97, 32, 9, 1488, 32] : List Int))).bind fun t205 => ((bidi_Line.f t205 (([0, 0, 0, 1, 1] : List Int)) 0).bind fun t211 => ((parquetryref02_Same.f k t211 (([0, 0, 0, 1, 0] : List Int))).bind fun t217 => (if t217 = true then ((bidi_Order.f k (([0, 1, 1, 2, 0] : List Int))).bind fun t221 => ((parquetryref02_Same.f k t221 (([0, 3, 2, 1, 4] : List Int))).bind fun t227 => (if t227 = true then ((bidi_Order.f k (([1, 2, 2, 1] : List Int))).bind fun t231 => ((parquetryref02_Same.f k t231 (([3, 1, 2, 0] : List Int))).bind fun t237 => (if t237 = true then ((bidi_Order.f k (([2, 2] : List Int))).bind fun t241 => ((parquetryref02_Same.f k t241 (([0, 1] : List Int))).bind fun t247 => (if t247 = true then ((bidi_Shown.f 40 1).bind fun t248 => (if t248 = 41 then ((bidi_Shown.f 40 2).bind fun t249 => (some (t249 == 40))) else (some false))) else (some false)))) else (some false)))) else (some false)))) else (some false))))) else (some false))))) = some r := by rw [if_pos rfl] at H; exact H
  clear H
  have H := H1
  clear H1
  obtain ⟨y189, hy189⟩ : ∃ y_ : List Int, y_ = (([1488, 40, 97, 41] : List Int)) := ⟨_, rfl⟩
  rw [← hy189] at H
  have Ny189 := Aside0.mk hy189
  clear hy189
  replace H := Option.bind_eq_some_iff.mp H
  obtain ⟨t192, A50, H⟩ := H
  (try dsimp only at H)
  have A5 := Aside0.mk A50
  clear A50
  replace H := Option.bind_eq_some_iff.mp H
  obtain ⟨t195, A60, H⟩ := H
  (try dsimp only at H)
  have A6 := Aside0.mk A60
  clear A60
  obtain ⟨y198, hy198⟩ : ∃ y_ : List Int, y_ = (([1, 1, 2, 1] : List Int)) := ⟨_, rfl⟩
  rw [← hy198] at H
  have Ny198 := Aside0.mk hy198
  clear hy198
  replace H := Option.bind_eq_some_iff.mp H
  obtain ⟨t201, A70, H⟩ := H
  (try dsimp only at H)
  have A7 := Aside0.mk A70
  clear A70
  by_cases c8 : t201 = true
  ·subst c8
   have H1 : ((lw_of.f k (([97, 32, 9, 1488, 32] : List Int))).bind fun t205 => ((bidi_Line.f t205 (([0, 0, 0, 1, 1] : List Int)) 0).bind fun t211 => ((parquetryref02_Same.f k t211 (([0, 0, 0, 1, 0] : List Int))).bind fun t217 => (if t217 = true then ((bidi_Order.f k (([0, 1, 1, 2, 0] : List Int))).bind fun t221 => ((parquetryref02_Same.f k t221 (([0, 3, 2, 1, 4] : List Int))).bind fun t227 => (if t227 = true then ((bidi_Order.f k (([1, 2, 2, 1] : List Int))).bind fun t231 => ((parquetryref02_Same.f k t231 (([3, 1, 2, 0] : List Int))).bind fun t237 => (if t237 = true then ((bidi_Order.f k (([2, 2] : List Int))).bind fun t241 => ((parquetryref02_Same.f k t241 (([0, 1] : List Int))).bind fun t247 => (if t247 = true then ((bidi_Shown.f 40 1).bind fun t248 => (if t248 = 41 then ((bidi_Shown.f 40 2).bind fun t249 => (some (t249 == 40))) else (some false))) else (some false)))) else (some false)))) else (some false)))) else (some false))))) = some r := by rw [if_pos rfl] at H; exact H
   clear H
   have H := H1
   clear H1
   obtain ⟨y202, hy202⟩ : ∃ y_ : List Int, y_ = (([97, 32, 9, 1488, 32] : List Int)) := ⟨_, rfl⟩
   rw [← hy202] at H
   have Ny202 := Aside0.mk hy202
   clear hy202
   replace H := Option.bind_eq_some_iff.mp H
   obtain ⟨t205, A90, H⟩ := H
   (try dsimp only at H)
   have A9 := Aside0.mk A90
   clear A90
   obtain ⟨y208, hy208⟩ : ∃ y_ : List Int, y_ = (([0, 0, 0, 1, 1] : List Int)) := ⟨_, rfl⟩
   rw [← hy208] at H
   have Ny208 := Aside0.mk hy208
   clear hy208
   replace H := Option.bind_eq_some_iff.mp H
   obtain ⟨t211, A100, H⟩ := H
   (try dsimp only at H)
   have A10 := Aside0.mk A100
   clear A100
   obtain ⟨y214, hy214⟩ : ∃ y_ : List Int, y_ = (([0, 0, 0, 1, 0] : List Int)) := ⟨_, rfl⟩
   rw [← hy214] at H
   have Ny214 := Aside0.mk hy214
   clear hy214
   replace H := Option.bind_eq_some_iff.mp H
   obtain ⟨t217, A110, H⟩ := H
   (try dsimp only at H)
   have A11 := Aside0.mk A110
   clear A110
   by_cases c12 : t217 = true
   ·subst c12
    have H1 : ((bidi_Order.f k (([0, 1, 1, 2, 0] : List Int))).bind fun t221 => ((parquetryref02_Same.f k t221 (([0, 3, 2, 1, 4] : List Int))).bind fun t227 => (if t227 = true then ((bidi_Order.f k (([1, 2, 2, 1] : List Int))).bind fun t231 => ((parquetryref02_Same.f k t231 (([3, 1, 2, 0] : List Int))).bind fun t237 => (if t237 = true then ((bidi_Order.f k (([2, 2] : List Int))).bind fun t241 => ((parquetryref02_Same.f k t241 (([0, 1] : List Int))).bind fun t247 => (if t247 = true then ((bidi_Shown.f 40 1).bind fun t248 => (if t248 = 41 then ((bidi_Shown.f 40 2).bind fun t249 => (some (t249 == 40))) else (some false))) else (some false)))) else (some false)))) else (some false)))) = some r := by rw [if_pos rfl] at H; exact H
    clear H
    have H := H1
    clear H1
    obtain ⟨y218, hy218⟩ : ∃ y_ : List Int, y_ = (([0, 1, 1, 2, 0] : List Int)) := ⟨_, rfl⟩
    rw [← hy218] at H
    have Ny218 := Aside0.mk hy218
    clear hy218
    replace H := Option.bind_eq_some_iff.mp H
    obtain ⟨t221, A130, H⟩ := H
    (try dsimp only at H)
    have A13 := Aside0.mk A130
    clear A130
    obtain ⟨y224, hy224⟩ : ∃ y_ : List Int, y_ = (([0, 3, 2, 1, 4] : List Int)) := ⟨_, rfl⟩
    rw [← hy224] at H
    have Ny224 := Aside0.mk hy224
    clear hy224
    replace H := Option.bind_eq_some_iff.mp H
    obtain ⟨t227, A140, H⟩ := H
    (try dsimp only at H)
    have A14 := Aside0.mk A140
    clear A140
    by_cases c15 : t227 = true
    ·subst c15
     have H1 : ((bidi_Order.f k (([1, 2, 2, 1] : List Int))).bind fun t231 => ((parquetryref02_Same.f k t231 (([3, 1, 2, 0] : List Int))).bind fun t237 => (if t237 = true then ((bidi_Order.f k (([2, 2] : List Int))).bind fun t241 => ((parquetryref02_Same.f k t241 (([0, 1] : List Int))).bind fun t247 => (if t247 = true then ((bidi_Shown.f 40 1).bind fun t248 => (if t248 = 41 then ((bidi_Shown.f 40 2).bind fun t249 => (some (t249 == 40))) else (some false))) else (some false)))) else (some false)))) = some r := by rw [if_pos rfl] at H; exact H
     clear H
     have H := H1
     clear H1
     obtain ⟨y228, hy228⟩ : ∃ y_ : List Int, y_ = (([1, 2, 2, 1] : List Int)) := ⟨_, rfl⟩
     rw [← hy228] at H
     have Ny228 := Aside0.mk hy228
     clear hy228
     replace H := Option.bind_eq_some_iff.mp H
     obtain ⟨t231, A160, H⟩ := H
     (try dsimp only at H)
     have A16 := Aside0.mk A160
     clear A160
     obtain ⟨y234, hy234⟩ : ∃ y_ : List Int, y_ = (([3, 1, 2, 0] : List Int)) := ⟨_, rfl⟩
     rw [← hy234] at H
     have Ny234 := Aside0.mk hy234
     clear hy234
     replace H := Option.bind_eq_some_iff.mp H
     obtain ⟨t237, A170, H⟩ := H
     (try dsimp only at H)
     have A17 := Aside0.mk A170
     clear A170
     by_cases c18 : t237 = true
     ·subst c18
      have H1 : ((bidi_Order.f k (([2, 2] : List Int))).bind fun t241 => ((parquetryref02_Same.f k t241 (([0, 1] : List Int))).bind fun t247 => (if t247 = true then ((bidi_Shown.f 40 1).bind fun t248 => (if t248 = 41 then ((bidi_Shown.f 40 2).bind fun t249 => (some (t249 == 40))) else (some false))) else (some false)))) = some r := by rw [if_pos rfl] at H; exact H
      clear H
      have H := H1
      clear H1
      obtain ⟨y238, hy238⟩ : ∃ y_ : List Int, y_ = (([2, 2] : List Int)) := ⟨_, rfl⟩
      rw [← hy238] at H
      have Ny238 := Aside0.mk hy238
      clear hy238
      replace H := Option.bind_eq_some_iff.mp H
      obtain ⟨t241, A190, H⟩ := H
      (try dsimp only at H)
      have A19 := Aside0.mk A190
      clear A190
      obtain ⟨y244, hy244⟩ : ∃ y_ : List Int, y_ = (([0, 1] : List Int)) := ⟨_, rfl⟩
      rw [← hy244] at H
      have Ny244 := Aside0.mk hy244
      clear hy244
      replace H := Option.bind_eq_some_iff.mp H
      obtain ⟨t247, A200, H⟩ := H
      (try dsimp only at H)
      have A20 := Aside0.mk A200
      clear A200
      by_cases c21 : t247 = true
      ·subst c21
       have H1 : ((bidi_Shown.f 40 1).bind fun t248 => (if t248 = 41 then ((bidi_Shown.f 40 2).bind fun t249 => (some (t249 == 40))) else (some false))) = some r := by rw [if_pos rfl] at H; exact H
       clear H
       have H := H1
       clear H1
       replace H := Option.bind_eq_some_iff.mp H
       obtain ⟨t248, A220, H⟩ := H
       replace H : (if t248 = 41 then ((bidi_Shown.f 40 2).bind fun t249 => (some (t249 == 40))) else (some false)) = some r := H
       have A22 := Aside0.mk A220
       clear A220
       by_cases c23 : t248 = 41
       ·rw [if_pos c23] at H
        have c23b0 : (t248 == 41) = true := beq_iff_eq.mpr c23
        have c23b1 : (t248 != 41) = false := bne_eq_false_iff_eq.mpr c23
        clear c23
        replace H := Option.bind_eq_some_iff.mp H
        obtain ⟨t249, A240, H⟩ := H
        replace H : (some (t249 == 40)) = some r := H
        have A24 := Aside0.mk A240
        clear A240
        obtain rfl := Option.some.inj H
        go_enter Tryz.func10, Tryz.ntmps10
        go_wp2_with (first | ((with_reducible refine gate_dst (N := 1) rfl ?_); (try (refine gate_guard (by rfl) ?_; dsimp only)); refine Kd.R_lit (Kd.int .i64) _ 3 ?hg (N := 1) ?hd (xs := ([97, 1488, 1489, 49] : List Int)) (inner := [.int .i64 97, .int .i64 1488, .int .i64 1489, .int .i64 49]) (ok := fun _ => True) (okp := fun _ => True) ?hr ?hp (fun _ hk => hk) trivial (Below.refl _ _) (Nat.le_refl _) (by simp) ?_; (case hd => rfl); (case hg => rfl); (case hr => first | (go_simp; done) | (go_simp; rfl)); (case hp => exact (Reps.one (show Kd.M (Kd.int .i64) _ _ _ 97 [.int .i64 97] from rfl) (Reps.one (show Kd.M (Kd.int .i64) _ _ _ 1488 [.int .i64 1488] from rfl) (Reps.one (show Kd.M (Kd.int .i64) _ _ _ 1489 [.int .i64 1489] from rfl) (Reps.one (show Kd.M (Kd.int .i64) _ _ _ 49 [.int .i64 49] from rfl) (Reps.none _ _)))))); intro v177 w25 ho26 hb hg_ hnew_; clear hg_ hnew_; (first | rw [← Ny176.out] at ho26 | (simp only [Int.reduceToNat] at ho26; rw [← Ny176.out] at ho26)); have n0_ := Aside0.mk (Kd.R_lower ho26 (below_size (by repeat (first | (with_reducible first | exact HB.out | apply below_alloc | apply pw_below_drewN | apply below_drew1) | exact HB.out)))); have n1_ := Aside0.mk (below_step (by repeat (first | (with_reducible first | exact HB.out | apply below_alloc | apply pw_below_drewN | apply below_drew1) | exact HB.out)) hb); clear HB; have HO178 := n0_; have HB := n1_; clear n0_ n1_; clear hb ho26; obtain ⟨Ao27, co27, eo27⟩ := Kd.R_slice HO178.out; subst eo27) | ((with_reducible refine gate_callee (f := 25) rfl ?_); refine goesL_ (some 2) rfl rfl Tryz.func25 (by kernel_rfl) rfl #[.slice Ao27 y176.length co27] rfl (by (try simp only [List.map_toArray, List.map_cons, List.map_nil]); first | done | rfl | (simp only [List.length_drop, List.length_take]; rfl)) ?_; (with_reducible refine (lw_of.calls k _ _ y176 t179 _ ?side1 ?side2 A1.out).mono ?_); (case side1 => exact (Kd.R_reads' HO178.out).2.2); (case side2 => exact (Kd.R_reads' HO178.out).2.1); rintro e w28 ⟨v180, rfl, ho0, hb⟩; refine ⟨_, rfl, ?_⟩; have n1_ := Aside0.mk (Kd.R_lower ho0 (below_size (by repeat (first | (with_reducible first | exact HB.out | apply below_alloc | apply pw_below_drewN | apply below_drew1) | exact HB.out)))); have n2_ := Aside0.mk (below_step (by repeat (first | (with_reducible first | exact HB.out | apply below_alloc | apply pw_below_drewN | apply below_drew1) | exact HB.out)) hb); clear HO178; clear HB; have HO181 := n1_; have HB := n2_; clear n1_ n2_; (try clear hb); (try clear ho0); obtain ⟨Ao29, co29, eo29⟩ := Kd.R_slice HO181.out; subst eo29) | ((with_reducible refine gate_callee (f := 12) rfl ?_); refine goesL_ (some 3) rfl rfl Tryz.func12 (by kernel_rfl) rfl #[.slice Ao29 t179.length co29, .int .i64 0] rfl (by (try simp only [List.map_toArray, List.map_cons, List.map_nil]); first | done | rfl | (simp only [List.length_drop, List.length_take]; rfl)) ?_; (with_reducible refine (bidi_Resolve.calls _ _ t179 0 t182 _ ?side1 ?side2 A2.out).mono ?_); (case side1 => exact (Kd.R_reads' HO181.out).2.2); (case side2 => exact (Kd.R_reads' HO181.out).2.1); rintro e w30 ⟨v183, rfl, ho0, hb⟩; refine ⟨_, rfl, ?_⟩; have n2_ := Aside0.mk (Kd.R_lower ho0 (below_size (by repeat (first | (with_reducible first | exact HB.out | apply below_alloc | apply pw_below_drewN | apply below_drew1) | exact HB.out)))); have n3_ := Aside0.mk (below_step (by repeat (first | (with_reducible first | exact HB.out | apply below_alloc | apply pw_below_drewN | apply below_drew1) | exact HB.out)) hb); clear HO181; clear HB; have HO184 := n2_; have HB := n3_; clear n2_ n3_; (try clear hb); (try clear ho0)) | ((with_reducible refine gate_dst (N := 4) rfl ?_); (try (refine gate_guard (by rfl) ?_; dsimp only)); refine Kd.R_lit (Kd.int .i64) _ 3 ?hg (N := 4) ?hd (xs := ([0, 1, 1, 2] : List Int)) (inner := [.int .i64 0, .int .i64 1, .int .i64 1, .int .i64 2]) (ok := fun _ => True) (okp := fun _ => True) ?hr ?hp (fun _ hk => hk) trivial (Below.refl _ _) (Nat.le_refl _) (by simp) ?_; (case hd => rfl); (case hg => rfl); (case hr => first | (go_simp; done) | (go_simp; rfl)); (case hp => exact (Reps.one (show Kd.M (Kd.int .i64) _ _ _ 0 [.int .i64 0] from rfl) (Reps.one (show Kd.M (Kd.int .i64) _ _ _ 1 [.int .i64 1] from rfl) (Reps.one (show Kd.M (Kd.int .i64) _ _ _ 1 [.int .i64 1] from rfl) (Reps.one (show Kd.M (Kd.int .i64) _ _ _ 2 [.int .i64 2] from rfl) (Reps.none _ _)))))); intro v186 w31 ho32 hb hg_ hnew_; clear hg_ hnew_; (first | rw [← Ny185.out] at ho32 | (simp only [Int.reduceToNat] at ho32; rw [← Ny185.out] at ho32)); have n2_ := Aside0.mk (Kd.R_elder' (by (with_reducible repeat (first | apply Kd.R_alloc | apply Kd.R_drewN | apply Kd.R_drew)); exact HO184.out) (Kd.R_base ho32) hb); have n3_ := Aside0.mk (Kd.R_lower (Kd.R_new' ho32 (Kd.R_lt (by (with_reducible repeat (first | apply Kd.R_alloc | apply Kd.R_drewN | apply Kd.R_drew)); exact HO184.out))) (below_size (by repeat (first | (with_reducible first | exact HB.out | apply below_alloc | apply pw_below_drewN | apply below_drew1) | exact HB.out)))); have n4_ := Aside0.mk (below_step (by repeat (first | (with_reducible first | exact HB.out | apply below_alloc | apply pw_below_drewN | apply below_drew1) | exact HB.out)) hb); clear HO184; clear HB; have HO184 := n2_; have HO187 := n3_; have HB := n4_; clear n2_ n3_ n4_; clear hb ho32; obtain ⟨Ao33, co33, eo33⟩ := Kd.R_slice HO184.out; subst eo33; obtain ⟨Ao34, co34, eo34⟩ := Kd.R_slice HO187.out; subst eo34) | ((with_reducible refine gate_callee (f := 11) rfl ?_); refine goesL_ (some 5) rfl rfl Tryz.func11 (by kernel_rfl) rfl #[.slice Ao33 t182.length co33, .slice Ao34 y185.length co34] rfl (by (try simp only [List.map_toArray, List.map_cons, List.map_nil]); first | done | rfl | (simp only [List.length_drop, List.length_take]; rfl)) ?_; (with_reducible refine (parquetryref02_Same.calls k _ _ t182 _ _ y185 true _ ?side1 ?side2 ?side3 ?side4 A3.out).mono ?_); (case side1 => exact (Kd.R_reads' HO184.out).2.2); (case side2 => exact (Kd.R_reads' HO184.out).2.1); (case side3 => exact (Kd.R_reads' HO187.out).2.2); (case side4 => exact (Kd.R_reads' HO187.out).2.1); rintro e w' ⟨rfl, ⟨nd, rfl⟩⟩; refine ⟨_, rfl, ?_⟩) | ((with_reducible refine gate_dst (N := 7) rfl ?_); (try (refine gate_guard (by rfl) ?_; dsimp only)); refine Kd.R_lit (Kd.int .i64) _ 3 ?hg (N := 7) ?hd (xs := ([1488, 40, 97, 41] : List Int)) (inner := [.int .i64 1488, .int .i64 40, .int .i64 97, .int .i64 41]) (ok := fun _ => True) (okp := fun _ => True) ?hr ?hp (fun _ hk => hk) trivial (Below.refl _ _) (Nat.le_refl _) (by simp) ?_; (case hd => rfl); (case hg => rfl); (case hr => first | (go_simp; done) | (go_simp; rfl)); (case hp => exact (Reps.one (show Kd.M (Kd.int .i64) _ _ _ 1488 [.int .i64 1488] from rfl) (Reps.one (show Kd.M (Kd.int .i64) _ _ _ 40 [.int .i64 40] from rfl) (Reps.one (show Kd.M (Kd.int .i64) _ _ _ 97 [.int .i64 97] from rfl) (Reps.one (show Kd.M (Kd.int .i64) _ _ _ 41 [.int .i64 41] from rfl) (Reps.none _ _)))))); intro v190 w35 ho36 hb hg_ hnew_; clear hg_ hnew_; (first | rw [← Ny189.out] at ho36 | (simp only [Int.reduceToNat] at ho36; rw [← Ny189.out] at ho36)); have n4_ := Aside0.mk (Kd.R_lower ho36 (below_size (by repeat (first | (with_reducible first | exact HB.out | apply below_alloc | apply pw_below_drewN | apply below_drew1) | exact HB.out)))); have n5_ := Aside0.mk (below_step (by repeat (first | (with_reducible first | exact HB.out | apply below_alloc | apply pw_below_drewN | apply below_drew1) | exact HB.out)) hb); clear HO184; clear HO187; clear HB; have HO191 := n4_; have HB := n5_; clear n4_ n5_; clear hb ho36; obtain ⟨Ao37, co37, eo37⟩ := Kd.R_slice HO191.out; subst eo37) | (go_at_call 25; (with_reducible refine (lw_of.calls k _ _ y189 t192 _ ?side1 ?side2 A5.out).mono ?_); (case side1 => exact (Kd.R_reads' HO191.out).2.2); (case side2 => exact (Kd.R_reads' HO191.out).2.1); rintro e w38 ⟨v193, rfl, ho0, hb⟩; have n5_ := Aside0.mk (Kd.R_lower ho0 (below_size (by repeat (first | (with_reducible first | exact HB.out | apply below_alloc | apply pw_below_drewN | apply below_drew1) | exact HB.out)))); have n6_ := Aside0.mk (below_step (by repeat (first | (with_reducible first | exact HB.out | apply below_alloc | apply pw_below_drewN | apply below_drew1) | exact HB.out)) hb); clear HO191; clear HB; have HO194 := n5_; have HB := n6_; clear n5_ n6_; (try clear hb); (try clear ho0); obtain ⟨Ao39, co39, eo39⟩ := Kd.R_slice HO194.out; subst eo39) | (go_at_call 12; (with_reducible refine (bidi_Resolve.calls _ _ t192 1 t195 _ ?side1 ?side2 A6.out).mono ?_); (case side1 => exact (Kd.R_reads' HO194.out).2.2); (case side2 => exact (Kd.R_reads' HO194.out).2.1); rintro e w40 ⟨v196, rfl, ho0, hb⟩; have n6_ := Aside0.mk (Kd.R_lower ho0 (below_size (by repeat (first | (with_reducible first | exact HB.out | apply below_alloc | apply pw_below_drewN | apply below_drew1) | exact HB.out)))); have n7_ := Aside0.mk (below_step (by repeat (first | (with_reducible first | exact HB.out | apply below_alloc | apply pw_below_drewN | apply below_drew1) | exact HB.out)) hb); clear HO194; clear HB; have HO197 := n6_; have HB := n7_; clear n6_ n7_; (try clear hb); (try clear ho0)) | ((with_reducible refine gate_dst (N := 10) rfl ?_); (try (refine gate_guard (by rfl) ?_; dsimp only)); refine Kd.R_lit (Kd.int .i64) _ 3 ?hg (N := 10) ?hd (xs := ([1, 1, 2, 1] : List Int)) (inner := [.int .i64 1, .int .i64 1, .int .i64 2, .int .i64 1]) (ok := fun _ => True) (okp := fun _ => True) ?hr ?hp (fun _ hk => hk) trivial (Below.refl _ _) (Nat.le_refl _) (by simp) ?_; (case hd => rfl); (case hg => rfl); (case hr => first | (go_simp; done) | (go_simp; rfl)); (case hp => exact (Reps.one (show Kd.M (Kd.int .i64) _ _ _ 1 [.int .i64 1] from rfl) (Reps.one (show Kd.M (Kd.int .i64) _ _ _ 1 [.int .i64 1] from rfl) (Reps.one (show Kd.M (Kd.int .i64) _ _ _ 2 [.int .i64 2] from rfl) (Reps.one (show Kd.M (Kd.int .i64) _ _ _ 1 [.int .i64 1] from rfl) (Reps.none _ _)))))); intro v199 w41 ho42 hb hg_ hnew_; clear hg_ hnew_; (first | rw [← Ny198.out] at ho42 | (simp only [Int.reduceToNat] at ho42; rw [← Ny198.out] at ho42)); have n6_ := Aside0.mk (Kd.R_elder' (by (with_reducible repeat (first | apply Kd.R_alloc | apply Kd.R_drewN | apply Kd.R_drew)); exact HO197.out) (Kd.R_base ho42) hb); have n7_ := Aside0.mk (Kd.R_lower (Kd.R_new' ho42 (Kd.R_lt (by (with_reducible repeat (first | apply Kd.R_alloc | apply Kd.R_drewN | apply Kd.R_drew)); exact HO197.out))) (below_size (by repeat (first | (with_reducible first | exact HB.out | apply below_alloc | apply pw_below_drewN | apply below_drew1) | exact HB.out)))); have n8_ := Aside0.mk (below_step (by repeat (first | (with_reducible first | exact HB.out | apply below_alloc | apply pw_below_drewN | apply below_drew1) | exact HB.out)) hb); clear HO197; clear HB; have HO197 := n6_; have HO200 := n7_; have HB := n8_; clear n6_ n7_ n8_; clear hb ho42; obtain ⟨Ao43, co43, eo43⟩ := Kd.R_slice HO197.out; subst eo43; obtain ⟨Ao44, co44, eo44⟩ := Kd.R_slice HO200.out; subst eo44) | (go_at_call 11; (with_reducible refine (parquetryref02_Same.calls k _ _ t195 _ _ y198 true _ ?side1 ?side2 ?side3 ?side4 A7.out).mono ?_); (case side1 => exact (Kd.R_reads' HO197.out).2.2); (case side2 => exact (Kd.R_reads' HO197.out).2.1); (case side3 => exact (Kd.R_reads' HO200.out).2.2); (case side4 => exact (Kd.R_reads' HO200.out).2.1); rintro e w' ⟨rfl, ⟨nd, rfl⟩⟩) | ((with_reducible refine gate_dst (N := 14) rfl ?_); (try (refine gate_guard (by rfl) ?_; dsimp only)); refine Kd.R_lit (Kd.int .i64) _ 3 ?hg (N := 14) ?hd (xs := ([97, 32, 9, 1488, 32] : List Int)) (inner := [.int .i64 97, .int .i64 32, .int .i64 9, .int .i64 1488, .int .i64 32]) (ok := fun _ => True) (okp := fun _ => True) ?hr ?hp (fun _ hk => hk) trivial (Below.refl _ _) (Nat.le_refl _) (by simp) ?_; (case hd => rfl); (case hg => rfl); (case hr => first | (go_simp; done) | (go_simp; rfl)); (case hp => exact (Reps.one (show Kd.M (Kd.int .i64) _ _ _ 97 [.int .i64 97] from rfl) (Reps.one (show Kd.M (Kd.int .i64) _ _ _ 32 [.int .i64 32] from rfl) (Reps.one (show Kd.M (Kd.int .i64) _ _ _ 9 [.int .i64 9] from rfl) (Reps.one (show Kd.M (Kd.int .i64) _ _ _ 1488 [.int .i64 1488] from rfl) (Reps.one (show Kd.M (Kd.int .i64) _ _ _ 32 [.int .i64 32] from rfl) (Reps.none _ _))))))); intro v203 w45 ho46 hb hg_ hnew_; clear hg_ hnew_; (first | rw [← Ny202.out] at ho46 | (simp only [Int.reduceToNat] at ho46; rw [← Ny202.out] at ho46)); have n8_ := Aside0.mk (Kd.R_lower ho46 (below_size (by repeat (first | (with_reducible first | exact HB.out | apply below_alloc | apply pw_below_drewN | apply below_drew1) | exact HB.out)))); have n9_ := Aside0.mk (below_step (by repeat (first | (with_reducible first | exact HB.out | apply below_alloc | apply pw_below_drewN | apply below_drew1) | exact HB.out)) hb); clear HO197; clear HO200; clear HB; have HO204 := n8_; have HB := n9_; clear n8_ n9_; clear hb ho46; obtain ⟨Ao47, co47, eo47⟩ := Kd.R_slice HO204.out; subst eo47) | (go_at_call 25; (with_reducible refine (lw_of.calls k _ _ y202 t205 _ ?side1 ?side2 A9.out).mono ?_); (case side1 => exact (Kd.R_reads' HO204.out).2.2); (case side2 => exact (Kd.R_reads' HO204.out).2.1); rintro e w48 ⟨v206, rfl, ho0, hb⟩; have n9_ := Aside0.mk (Kd.R_lower ho0 (below_size (by repeat (first | (with_reducible first | exact HB.out | apply below_alloc | apply pw_below_drewN | apply below_drew1) | exact HB.out)))); have n10_ := Aside0.mk (below_step (by repeat (first | (with_reducible first | exact HB.out | apply below_alloc | apply pw_below_drewN | apply below_drew1) | exact HB.out)) hb); clear HO204; clear HB; have HO207 := n9_; have HB := n10_; clear n9_ n10_; (try clear hb); (try clear ho0)) | ((with_reducible refine gate_dst (N := 16) rfl ?_); (try (refine gate_guard (by rfl) ?_; dsimp only)); refine Kd.R_lit (Kd.int .i64) _ 3 ?hg (N := 16) ?hd (xs := ([0, 0, 0, 1, 1] : List Int)) (inner := [.int .i64 0, .int .i64 0, .int .i64 0, .int .i64 1, .int .i64 1]) (ok := fun _ => True) (okp := fun _ => True) ?hr ?hp (fun _ hk => hk) trivial (Below.refl _ _) (Nat.le_refl _) (by simp) ?_; (case hd => rfl); (case hg => rfl); (case hr => first | (go_simp; done) | (go_simp; rfl)); (case hp => exact (Reps.one (show Kd.M (Kd.int .i64) _ _ _ 0 [.int .i64 0] from rfl) (Reps.one (show Kd.M (Kd.int .i64) _ _ _ 0 [.int .i64 0] from rfl) (Reps.one (show Kd.M (Kd.int .i64) _ _ _ 0 [.int .i64 0] from rfl) (Reps.one (show Kd.M (Kd.int .i64) _ _ _ 1 [.int .i64 1] from rfl) (Reps.one (show Kd.M (Kd.int .i64) _ _ _ 1 [.int .i64 1] from rfl) (Reps.none _ _))))))); intro v209 w49 ho50 hb hg_ hnew_; clear hg_ hnew_; (first | rw [← Ny208.out] at ho50 | (simp only [Int.reduceToNat] at ho50; rw [← Ny208.out] at ho50)); have n9_ := Aside0.mk (Kd.R_below (by (with_reducible repeat (first | apply Kd.R_alloc | apply Kd.R_drewN | apply Kd.R_drew)); exact HO207.out) hb); have n10_ := Aside0.mk (Kd.R_lower ho50 (below_size (by repeat (first | (with_reducible first | exact HB.out | apply below_alloc | apply pw_below_drewN | apply below_drew1) | exact HB.out)))); have n11_ := Aside0.mk (below_step (by repeat (first | (with_reducible first | exact HB.out | apply below_alloc | apply pw_below_drewN | apply below_drew1) | exact HB.out)) hb); clear HO207; clear HB; have HO207 := n9_; have HO210 := n10_; have HB := n11_; clear n9_ n10_ n11_; clear hb ho50; obtain ⟨Ao51, co51, eo51⟩ := Kd.R_slice HO207.out; subst eo51; obtain ⟨Ao52, co52, eo52⟩ := Kd.R_slice HO210.out; subst eo52) | (go_at_call 15; (with_reducible refine (bidi_Line.calls _ _ t205 _ _ y208 0 t211 _ ?side1 ?side2 ?side3 ?side4 A10.out).mono ?_); (case side1 => exact (Kd.R_reads' HO207.out).2.2); (case side2 => exact (Kd.R_reads' HO207.out).2.1); (case side3 => exact (Kd.R_reads' HO210.out).2.2); (case side4 => exact (Kd.R_reads' HO210.out).2.1); rintro e w53 ⟨v212, rfl, ho0, hb⟩; have n11_ := Aside0.mk (Kd.R_lower ho0 (below_size (by repeat (first | (with_reducible first | exact HB.out | apply below_alloc | apply pw_below_drewN | apply below_drew1) | exact HB.out)))); have n12_ := Aside0.mk (below_step (by repeat (first | (with_reducible first | exact HB.out | apply below_alloc | apply pw_below_drewN | apply below_drew1) | exact HB.out)) hb); clear HO207; clear HO210; clear HB; have HO213 := n11_; have HB := n12_; clear n11_ n12_; (try clear hb); (try clear ho0)) | ((with_reducible refine gate_dst (N := 18) rfl ?_); (try (refine gate_guard (by rfl) ?_; dsimp only)); refine Kd.R_lit (Kd.int .i64) _ 3 ?hg (N := 18) ?hd (xs := ([0, 0, 0, 1, 0] : List Int)) (inner := [.int .i64 0, .int .i64 0, .int .i64 0, .int .i64 1, .int .i64 0]) (ok := fun _ => True) (okp := fun _ => True) ?hr ?hp (fun _ hk => hk) trivial (Below.refl _ _) (Nat.le_refl _) (by simp) ?_; (case hd => rfl); (case hg => rfl); (case hr => first | (go_simp; done) | (go_simp; rfl)); (case hp => exact (Reps.one (show Kd.M (Kd.int .i64) _ _ _ 0 [.int .i64 0] from rfl) (Reps.one (show Kd.M (Kd.int .i64) _ _ _ 0 [.int .i64 0] from rfl) (Reps.one (show Kd.M (Kd.int .i64) _ _ _ 0 [.int .i64 0] from rfl) (Reps.one (show Kd.M (Kd.int .i64) _ _ _ 1 [.int .i64 1] from rfl) (Reps.one (show Kd.M (Kd.int .i64) _ _ _ 0 [.int .i64 0] from rfl) (Reps.none _ _))))))); intro v215 w54 ho55 hb hg_ hnew_; clear hg_ hnew_; (first | rw [← Ny214.out] at ho55 | (simp only [Int.reduceToNat] at ho55; rw [← Ny214.out] at ho55)); have n11_ := Aside0.mk (Kd.R_elder' (by (with_reducible repeat (first | apply Kd.R_alloc | apply Kd.R_drewN | apply Kd.R_drew)); exact HO213.out) (Kd.R_base ho55) hb); have n12_ := Aside0.mk (Kd.R_lower (Kd.R_new' ho55 (Kd.R_lt (by (with_reducible repeat (first | apply Kd.R_alloc | apply Kd.R_drewN | apply Kd.R_drew)); exact HO213.out))) (below_size (by repeat (first | (with_reducible first | exact HB.out | apply below_alloc | apply pw_below_drewN | apply below_drew1) | exact HB.out)))); have n13_ := Aside0.mk (below_step (by repeat (first | (with_reducible first | exact HB.out | apply below_alloc | apply pw_below_drewN | apply below_drew1) | exact HB.out)) hb); clear HO213; clear HB; have HO213 := n11_; have HO216 := n12_; have HB := n13_; clear n11_ n12_ n13_; clear hb ho55; obtain ⟨Ao56, co56, eo56⟩ := Kd.R_slice HO213.out; subst eo56; obtain ⟨Ao57, co57, eo57⟩ := Kd.R_slice HO216.out; subst eo57) | (go_at_call 11; (with_reducible refine (parquetryref02_Same.calls k _ _ t211 _ _ y214 true _ ?side1 ?side2 ?side3 ?side4 A11.out).mono ?_); (case side1 => exact (Kd.R_reads' HO213.out).2.2); (case side2 => exact (Kd.R_reads' HO213.out).2.1); (case side3 => exact (Kd.R_reads' HO216.out).2.2); (case side4 => exact (Kd.R_reads' HO216.out).2.1); rintro e w' ⟨rfl, ⟨nd, rfl⟩⟩) | ((with_reducible refine gate_dst (N := 22) rfl ?_); (try (refine gate_guard (by rfl) ?_; dsimp only)); refine Kd.R_lit (Kd.int .i64) _ 3 ?hg (N := 22) ?hd (xs := ([0, 1, 1, 2, 0] : List Int)) (inner := [.int .i64 0, .int .i64 1, .int .i64 1, .int .i64 2, .int .i64 0]) (ok := fun _ => True) (okp := fun _ => True) ?hr ?hp (fun _ hk => hk) trivial (Below.refl _ _) (Nat.le_refl _) (by simp) ?_; (case hd => rfl); (case hg => rfl); (case hr => first | (go_simp; done) | (go_simp; rfl)); (case hp => exact (Reps.one (show Kd.M (Kd.int .i64) _ _ _ 0 [.int .i64 0] from rfl) (Reps.one (show Kd.M (Kd.int .i64) _ _ _ 1 [.int .i64 1] from rfl) (Reps.one (show Kd.M (Kd.int .i64) _ _ _ 1 [.int .i64 1] from rfl) (Reps.one (show Kd.M (Kd.int .i64) _ _ _ 2 [.int .i64 2] from rfl) (Reps.one (show Kd.M (Kd.int .i64) _ _ _ 0 [.int .i64 0] from rfl) (Reps.none _ _))))))); intro v219 w58 ho59 hb hg_ hnew_; clear hg_ hnew_; (first | rw [← Ny218.out] at ho59 | (simp only [Int.reduceToNat] at ho59; rw [← Ny218.out] at ho59)); have n13_ := Aside0.mk (Kd.R_lower ho59 (below_size (by repeat (first | (with_reducible first | exact HB.out | apply below_alloc | apply pw_below_drewN | apply below_drew1) | exact HB.out)))); have n14_ := Aside0.mk (below_step (by repeat (first | (with_reducible first | exact HB.out | apply below_alloc | apply pw_below_drewN | apply below_drew1) | exact HB.out)) hb); clear HO213; clear HO216; clear HB; have HO220 := n13_; have HB := n14_; clear n13_ n14_; clear hb ho59; obtain ⟨Ao60, co60, eo60⟩ := Kd.R_slice HO220.out; subst eo60) | (go_at_call 17; (with_reducible refine (bidi_Order.calls k _ _ y218 t221 _ ?side1 ?side2 A13.out).mono ?_); (case side1 => exact (Kd.R_reads' HO220.out).2.2); (case side2 => exact (Kd.R_reads' HO220.out).2.1); rintro e w61 ⟨v222, rfl, ho0, hb⟩; have n14_ := Aside0.mk (Kd.R_lower ho0 (below_size (by repeat (first | (with_reducible first | exact HB.out | apply below_alloc | apply pw_below_drewN | apply below_drew1) | exact HB.out)))); have n15_ := Aside0.mk (below_step (by repeat (first | (with_reducible first | exact HB.out | apply below_alloc | apply pw_below_drewN | apply below_drew1) | exact HB.out)) hb); clear HO220; clear HB; have HO223 := n14_; have HB := n15_; clear n14_ n15_; (try clear hb); (try clear ho0)) | ((with_reducible refine gate_dst (N := 24) rfl ?_); (try (refine gate_guard (by rfl) ?_; dsimp only)); refine Kd.R_lit (Kd.int .i64) _ 3 ?hg (N := 24) ?hd (xs := ([0, 3, 2, 1, 4] : List Int)) (inner := [.int .i64 0, .int .i64 3, .int .i64 2, .int .i64 1, .int .i64 4]) (ok := fun _ => True) (okp := fun _ => True) ?hr ?hp (fun _ hk => hk) trivial (Below.refl _ _) (Nat.le_refl _) (by simp) ?_; (case hd => rfl); (case hg => rfl); (case hr => first | (go_simp; done) | (go_simp; rfl)); (case hp => exact (Reps.one (show Kd.M (Kd.int .i64) _ _ _ 0 [.int .i64 0] from rfl) (Reps.one (show Kd.M (Kd.int .i64) _ _ _ 3 [.int .i64 3] from rfl) (Reps.one (show Kd.M (Kd.int .i64) _ _ _ 2 [.int .i64 2] from rfl) (Reps.one (show Kd.M (Kd.int .i64) _ _ _ 1 [.int .i64 1] from rfl) (Reps.one (show Kd.M (Kd.int .i64) _ _ _ 4 [.int .i64 4] from rfl) (Reps.none _ _))))))); intro v225 w62 ho63 hb hg_ hnew_; clear hg_ hnew_; (first | rw [← Ny224.out] at ho63 | (simp only [Int.reduceToNat] at ho63; rw [← Ny224.out] at ho63)); have n14_ := Aside0.mk (Kd.R_elder' (by (with_reducible repeat (first | apply Kd.R_alloc | apply Kd.R_drewN | apply Kd.R_drew)); exact HO223.out) (Kd.R_base ho63) hb); have n15_ := Aside0.mk (Kd.R_lower (Kd.R_new' ho63 (Kd.R_lt (by (with_reducible repeat (first | apply Kd.R_alloc | apply Kd.R_drewN | apply Kd.R_drew)); exact HO223.out))) (below_size (by repeat (first | (with_reducible first | exact HB.out | apply below_alloc | apply pw_below_drewN | apply below_drew1) | exact HB.out)))); have n16_ := Aside0.mk (below_step (by repeat (first | (with_reducible first | exact HB.out | apply below_alloc | apply pw_below_drewN | apply below_drew1) | exact HB.out)) hb); clear HO223; clear HB; have HO223 := n14_; have HO226 := n15_; have HB := n16_; clear n14_ n15_ n16_; clear hb ho63; obtain ⟨Ao64, co64, eo64⟩ := Kd.R_slice HO223.out; subst eo64; obtain ⟨Ao65, co65, eo65⟩ := Kd.R_slice HO226.out; subst eo65) | (go_at_call 11; (with_reducible refine (parquetryref02_Same.calls k _ _ t221 _ _ y224 true _ ?side1 ?side2 ?side3 ?side4 A14.out).mono ?_); (case side1 => exact (Kd.R_reads' HO223.out).2.2); (case side2 => exact (Kd.R_reads' HO223.out).2.1); (case side3 => exact (Kd.R_reads' HO226.out).2.2); (case side4 => exact (Kd.R_reads' HO226.out).2.1); rintro e w' ⟨rfl, ⟨nd, rfl⟩⟩) | ((with_reducible refine gate_dst (N := 28) rfl ?_); (try (refine gate_guard (by rfl) ?_; dsimp only)); refine Kd.R_lit (Kd.int .i64) _ 3 ?hg (N := 28) ?hd (xs := ([1, 2, 2, 1] : List Int)) (inner := [.int .i64 1, .int .i64 2, .int .i64 2, .int .i64 1]) (ok := fun _ => True) (okp := fun _ => True) ?hr ?hp (fun _ hk => hk) trivial (Below.refl _ _) (Nat.le_refl _) (by simp) ?_; (case hd => rfl); (case hg => rfl); (case hr => first | (go_simp; done) | (go_simp; rfl)); (case hp => exact (Reps.one (show Kd.M (Kd.int .i64) _ _ _ 1 [.int .i64 1] from rfl) (Reps.one (show Kd.M (Kd.int .i64) _ _ _ 2 [.int .i64 2] from rfl) (Reps.one (show Kd.M (Kd.int .i64) _ _ _ 2 [.int .i64 2] from rfl) (Reps.one (show Kd.M (Kd.int .i64) _ _ _ 1 [.int .i64 1] from rfl) (Reps.none _ _)))))); intro v229 w66 ho67 hb hg_ hnew_; clear hg_ hnew_; (first | rw [← Ny228.out] at ho67 | (simp only [Int.reduceToNat] at ho67; rw [← Ny228.out] at ho67)); have n16_ := Aside0.mk (Kd.R_lower ho67 (below_size (by repeat (first | (with_reducible first | exact HB.out | apply below_alloc | apply pw_below_drewN | apply below_drew1) | exact HB.out)))); have n17_ := Aside0.mk (below_step (by repeat (first | (with_reducible first | exact HB.out | apply below_alloc | apply pw_below_drewN | apply below_drew1) | exact HB.out)) hb); clear HO223; clear HO226; clear HB; have HO230 := n16_; have HB := n17_; clear n16_ n17_; clear hb ho67; obtain ⟨Ao68, co68, eo68⟩ := Kd.R_slice HO230.out; subst eo68) | (go_at_call 17; (with_reducible refine (bidi_Order.calls k _ _ y228 t231 _ ?side1 ?side2 A16.out).mono ?_); (case side1 => exact (Kd.R_reads' HO230.out).2.2); (case side2 => exact (Kd.R_reads' HO230.out).2.1); rintro e w69 ⟨v232, rfl, ho0, hb⟩; have n17_ := Aside0.mk (Kd.R_lower ho0 (below_size (by repeat (first | (with_reducible first | exact HB.out | apply below_alloc | apply pw_below_drewN | apply below_drew1) | exact HB.out)))); have n18_ := Aside0.mk (below_step (by repeat (first | (with_reducible first | exact HB.out | apply below_alloc | apply pw_below_drewN | apply below_drew1) | exact HB.out)) hb); clear HO230; clear HB; have HO233 := n17_; have HB := n18_; clear n17_ n18_; (try clear hb); (try clear ho0)) | ((with_reducible refine gate_dst (N := 30) rfl ?_); (try (refine gate_guard (by rfl) ?_; dsimp only)); refine Kd.R_lit (Kd.int .i64) _ 3 ?hg (N := 30) ?hd (xs := ([3, 1, 2, 0] : List Int)) (inner := [.int .i64 3, .int .i64 1, .int .i64 2, .int .i64 0]) (ok := fun _ => True) (okp := fun _ => True) ?hr ?hp (fun _ hk => hk) trivial (Below.refl _ _) (Nat.le_refl _) (by simp) ?_; (case hd => rfl); (case hg => rfl); (case hr => first | (go_simp; done) | (go_simp; rfl)); (case hp => exact (Reps.one (show Kd.M (Kd.int .i64) _ _ _ 3 [.int .i64 3] from rfl) (Reps.one (show Kd.M (Kd.int .i64) _ _ _ 1 [.int .i64 1] from rfl) (Reps.one (show Kd.M (Kd.int .i64) _ _ _ 2 [.int .i64 2] from rfl) (Reps.one (show Kd.M (Kd.int .i64) _ _ _ 0 [.int .i64 0] from rfl) (Reps.none _ _)))))); intro v235 w70 ho71 hb hg_ hnew_; clear hg_ hnew_; (first | rw [← Ny234.out] at ho71 | (simp only [Int.reduceToNat] at ho71; rw [← Ny234.out] at ho71)); have n17_ := Aside0.mk (Kd.R_elder' (by (with_reducible repeat (first | apply Kd.R_alloc | apply Kd.R_drewN | apply Kd.R_drew)); exact HO233.out) (Kd.R_base ho71) hb); have n18_ := Aside0.mk (Kd.R_lower (Kd.R_new' ho71 (Kd.R_lt (by (with_reducible repeat (first | apply Kd.R_alloc | apply Kd.R_drewN | apply Kd.R_drew)); exact HO233.out))) (below_size (by repeat (first | (with_reducible first | exact HB.out | apply below_alloc | apply pw_below_drewN | apply below_drew1) | exact HB.out)))); have n19_ := Aside0.mk (below_step (by repeat (first | (with_reducible first | exact HB.out | apply below_alloc | apply pw_below_drewN | apply below_drew1) | exact HB.out)) hb); clear HO233; clear HB; have HO233 := n17_; have HO236 := n18_; have HB := n19_; clear n17_ n18_ n19_; clear hb ho71; obtain ⟨Ao72, co72, eo72⟩ := Kd.R_slice HO233.out; subst eo72; obtain ⟨Ao73, co73, eo73⟩ := Kd.R_slice HO236.out; subst eo73) | (go_at_call 11; (with_reducible refine (parquetryref02_Same.calls k _ _ t231 _ _ y234 true _ ?side1 ?side2 ?side3 ?side4 A17.out).mono ?_); (case side1 => exact (Kd.R_reads' HO233.out).2.2); (case side2 => exact (Kd.R_reads' HO233.out).2.1); (case side3 => exact (Kd.R_reads' HO236.out).2.2); (case side4 => exact (Kd.R_reads' HO236.out).2.1); rintro e w' ⟨rfl, ⟨nd, rfl⟩⟩) | ((with_reducible refine gate_dst (N := 34) rfl ?_); (try (refine gate_guard (by rfl) ?_; dsimp only)); refine Kd.R_lit (Kd.int .i64) _ 3 ?hg (N := 34) ?hd (xs := ([2, 2] : List Int)) (inner := [.int .i64 2, .int .i64 2]) (ok := fun _ => True) (okp := fun _ => True) ?hr ?hp (fun _ hk => hk) trivial (Below.refl _ _) (Nat.le_refl _) (by simp) ?_; (case hd => rfl); (case hg => rfl); (case hr => first | (go_simp; done) | (go_simp; rfl)); (case hp => exact (Reps.one (show Kd.M (Kd.int .i64) _ _ _ 2 [.int .i64 2] from rfl) (Reps.one (show Kd.M (Kd.int .i64) _ _ _ 2 [.int .i64 2] from rfl) (Reps.none _ _)))); intro v239 w74 ho75 hb hg_ hnew_; clear hg_ hnew_; (first | rw [← Ny238.out] at ho75 | (simp only [Int.reduceToNat] at ho75; rw [← Ny238.out] at ho75)); have n19_ := Aside0.mk (Kd.R_lower ho75 (below_size (by repeat (first | (with_reducible first | exact HB.out | apply below_alloc | apply pw_below_drewN | apply below_drew1) | exact HB.out)))); have n20_ := Aside0.mk (below_step (by repeat (first | (with_reducible first | exact HB.out | apply below_alloc | apply pw_below_drewN | apply below_drew1) | exact HB.out)) hb); clear HO233; clear HO236; clear HB; have HO240 := n19_; have HB := n20_; clear n19_ n20_; clear hb ho75; obtain ⟨Ao76, co76, eo76⟩ := Kd.R_slice HO240.out; subst eo76) | (go_at_call 17; (with_reducible refine (bidi_Order.calls k _ _ y238 t241 _ ?side1 ?side2 A19.out).mono ?_); (case side1 => exact (Kd.R_reads' HO240.out).2.2); (case side2 => exact (Kd.R_reads' HO240.out).2.1); rintro e w77 ⟨v242, rfl, ho0, hb⟩; have n20_ := Aside0.mk (Kd.R_lower ho0 (below_size (by repeat (first | (with_reducible first | exact HB.out | apply below_alloc | apply pw_below_drewN | apply below_drew1) | exact HB.out)))); have n21_ := Aside0.mk (below_step (by repeat (first | (with_reducible first | exact HB.out | apply below_alloc | apply pw_below_drewN | apply below_drew1) | exact HB.out)) hb); clear HO240; clear HB; have HO243 := n20_; have HB := n21_; clear n20_ n21_; (try clear hb); (try clear ho0)) | ((with_reducible refine gate_dst (N := 36) rfl ?_); (try (refine gate_guard (by rfl) ?_; dsimp only)); refine Kd.R_lit (Kd.int .i64) _ 3 ?hg (N := 36) ?hd (xs := ([0, 1] : List Int)) (inner := [.int .i64 0, .int .i64 1]) (ok := fun _ => True) (okp := fun _ => True) ?hr ?hp (fun _ hk => hk) trivial (Below.refl _ _) (Nat.le_refl _) (by simp) ?_; (case hd => rfl); (case hg => rfl); (case hr => first | (go_simp; done) | (go_simp; rfl)); (case hp => exact (Reps.one (show Kd.M (Kd.int .i64) _ _ _ 0 [.int .i64 0] from rfl) (Reps.one (show Kd.M (Kd.int .i64) _ _ _ 1 [.int .i64 1] from rfl) (Reps.none _ _)))); intro v245 w78 ho79 hb hg_ hnew_; clear hg_ hnew_; (first | rw [← Ny244.out] at ho79 | (simp only [Int.reduceToNat] at ho79; rw [← Ny244.out] at ho79)); have n20_ := Aside0.mk (Kd.R_elder' (by (with_reducible repeat (first | apply Kd.R_alloc | apply Kd.R_drewN | apply Kd.R_drew)); exact HO243.out) (Kd.R_base ho79) hb); have n21_ := Aside0.mk (Kd.R_lower (Kd.R_new' ho79 (Kd.R_lt (by (with_reducible repeat (first | apply Kd.R_alloc | apply Kd.R_drewN | apply Kd.R_drew)); exact HO243.out))) (below_size (by repeat (first | (with_reducible first | exact HB.out | apply below_alloc | apply pw_below_drewN | apply below_drew1) | exact HB.out)))); have n22_ := Aside0.mk (below_step (by repeat (first | (with_reducible first | exact HB.out | apply below_alloc | apply pw_below_drewN | apply below_drew1) | exact HB.out)) hb); clear HO243; clear HB; have HO243 := n20_; have HO246 := n21_; have HB := n22_; clear n20_ n21_ n22_; clear hb ho79; obtain ⟨Ao80, co80, eo80⟩ := Kd.R_slice HO243.out; subst eo80; obtain ⟨Ao81, co81, eo81⟩ := Kd.R_slice HO246.out; subst eo81) | (go_at_call 11; (with_reducible refine (parquetryref02_Same.calls k _ _ t241 _ _ y244 true _ ?side1 ?side2 ?side3 ?side4 A20.out).mono ?_); (case side1 => exact (Kd.R_reads' HO243.out).2.2); (case side2 => exact (Kd.R_reads' HO243.out).2.1); (case side3 => exact (Kd.R_reads' HO246.out).2.2); (case side4 => exact (Kd.R_reads' HO246.out).2.1); rintro e w' ⟨rfl, ⟨nd, rfl⟩⟩) | (go_at_call 19; (with_reducible refine (bidi_Shown.calls 40 1 t248 _ A22.out).mono ?_); rintro e w82 ⟨rfl, hb⟩; have n22_ := Aside0.mk (below_step (by repeat (first | (with_reducible first | exact HB.out | apply below_alloc | apply pw_below_drewN | apply below_drew1) | exact HB.out)) hb); clear HO243; clear HO246; clear HB; have HB := n22_; clear n22_; (try clear hb)) | (go_at_call 19; (with_reducible refine (bidi_Shown.calls 40 2 t249 _ A24.out).mono ?_); rintro e w83 ⟨rfl, hb⟩; have n22_ := Aside0.mk (below_step (by repeat (first | (with_reducible first | exact HB.out | apply below_alloc | apply pw_below_drewN | apply below_drew1) | exact HB.out)) hb); clear HB; have HB := n22_; clear n22_; (try clear hb)) )
        go_ret
        exact ⟨by first | rfl | (simp [errW_none, errW_some] <;> rfl) | (simp [*, errW_none, errW_some] <;> rfl), by repeat (first | (with_reducible first | exact HB.out | apply below_alloc | apply pw_below_drewN | apply below_drew1) | exact HB.out)⟩
       ·rw [if_neg c23] at H
        have c23b0 : (t248 == 41) = false := beq_eq_false_iff_ne.mpr c23
        have c23b1 : (t248 != 41) = true := bne_iff_ne.mpr c23
        obtain rfl := Option.some.inj H
        exact absurd HR.out (by decide)
      ·replace c21 := Bool.eq_false_iff.mpr c21
       subst c21
       have H1 : (some false) = some r := by rw [if_neg (show ¬ (false = true) by decide)] at H; exact H
       clear H
       have H := H1
       clear H1
       obtain rfl := Option.some.inj H
       exact absurd HR.out (by decide)
     ·replace c18 := Bool.eq_false_iff.mpr c18
      subst c18
      have H1 : (some false) = some r := by rw [if_neg (show ¬ (false = true) by decide)] at H; exact H
      clear H
      have H := H1
      clear H1
      obtain rfl := Option.some.inj H
      exact absurd HR.out (by decide)
    ·replace c15 := Bool.eq_false_iff.mpr c15
     subst c15
     have H1 : (some false) = some r := by rw [if_neg (show ¬ (false = true) by decide)] at H; exact H
     clear H
     have H := H1
     clear H1
     obtain rfl := Option.some.inj H
     exact absurd HR.out (by decide)
   ·replace c12 := Bool.eq_false_iff.mpr c12
    subst c12
    have H1 : (some false) = some r := by rw [if_neg (show ¬ (false = true) by decide)] at H; exact H
    clear H
    have H := H1
    clear H1
    obtain rfl := Option.some.inj H
    exact absurd HR.out (by decide)
  ·replace c8 := Bool.eq_false_iff.mpr c8
   subst c8
   have H1 : (some false) = some r := by rw [if_neg (show ¬ (false = true) by decide)] at H; exact H
   clear H
   have H := H1
   clear H1
   obtain rfl := Option.some.inj H
   exact absurd HR.out (by decide)
 ·replace c4 := Bool.eq_false_iff.mpr c4
  subst c4
  have H1 : (some false) = some r := by rw [if_neg (show ¬ (false = true) by decide)] at H; exact H
  clear H
  have H := H1
  clear H1
  obtain rfl := Option.some.inj H
  exact absurd HR.out (by decide)
end Go.Proofs.YtdpifkhkemeclaaGreat.PZ
