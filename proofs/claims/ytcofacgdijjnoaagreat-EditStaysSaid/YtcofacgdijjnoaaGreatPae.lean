/- sheet: more of the tests that are handed to the library: walked. sheet: more of the tests that are handed to the library: walked. sheet.around: a cell's region: walked. sheet: more of the tests that are handed to the library: walked. -/
import Derived.Test.YtcofacgdijjnoaaGreatPad
section
namespace Go.Proofs.YtcofacgdijjnoaaGreat
open PE (S31 S44 S49 k44 k49 k31)
open Go.RowKit Go.Shelf Go.Lib Go.Proofs.YtcofacgdijjnoaaGreatW.PrintWords Go.Proofs.YtcofacgdijjnoaaGreatW.PrintLast Go.Proofs.YtcofacgdijjnoaaGreatW.PrintMore
set_option linter.unusedVariables false
set_option linter.unusedSimpArgs false
set_option maxRecDepth 100000
set_option maxHeartbeats 2000000
theorem six {w : World} {B : Nat} {x : S44} (h : w.heap[B]? = some (.cells (encC x).toArray 44 (0, 0))) :
    w.cell? ⟨B, 0, none⟩ = some (.int .i64 x.f0) ∧ w.cell? ⟨B, 1, none⟩ = some (.int .i64 x.f1) ∧ w.cell? ⟨B, 2, none⟩ = some (.string x.f2) ∧ w.cell? ⟨B, 3, none⟩ = some (.int .i64 x.f3.f0) ∧
    w.cell? ⟨B, 4, none⟩ = some (.int .i64 x.f3.f1) ∧ w.cell? ⟨B, 5, none⟩ = some (.int .i64 x.f3.f2) :=
  ⟨blk_cell h 0, blk_cell h 1, blk_cell h 2, blk_cell h 3, blk_cell h 4, blk_cell h 5⟩
theorem spot_any (x : S44) (w : World) : Calls Tryz.prog 30 #[.agg (encC x).toArray] w fun e w' => e = .returned (.agg #[.int .i64 x.f0, .int .i64 x.f1]) ∧ Below w.heap.size w w' := by
  show Calls Tryz.prog 30 #[.agg #[.int .i64 x.f0, .int .i64 x.f1, .string x.f2, .int .i64 x.f3.f0, .int .i64 x.f3.f1, .int .i64 x.f3.f2]] w _
  obtain ⟨m0, m1, m2, m3, m4, m5⟩ := six (blk_new w (Obj.cells #[.int .i64 x.f0, .int .i64 x.f1, .string x.f2, .int .i64 x.f3.f0, .int .i64 x.f3.f1, .int .i64 x.f3.f2] 44 (0, 0)))
  go_enter Tryz.func30, Tryz.ntmps30
  go_wp2
  refine bodyPost_ret (results_cell_row rfl _ _ (w.heap.size + 1) 40 #[.int .i64 x.f0, .int .i64 x.f1] (0, 0) _ rfl (by have := blk_new (w.alloc (Obj.cells #[.int .i64 x.f0, .int .i64 x.f1, .string x.f2, .int .i64 x.f3.f0, .int .i64 x.f3.f1, .int .i64 x.f3.f2] 44 (0, 0))) (Obj.cells #[.int .i64 x.f0, .int .i64 x.f1] 40 (0, 0)); simpa using this) Tryz.underlying40 rfl (by kernel_rfl)) rfl ?_
  exact ⟨rfl, below_alloc (below_alloc (Below.refl _ _) _) _⟩
theorem corner_any (x : S49) (w : World) : Calls Tryz.prog 31 #[.agg (encR x).toArray] w fun e w' => e = .returned (.agg #[.int .i64 x.f0, .int .i64 x.f1]) ∧ Below w.heap.size w w' := by
  show Calls Tryz.prog 31 #[.agg #[.int .i64 x.f0, .int .i64 x.f1, .int .i64 x.f2, .int .i64 x.f3]] w _
  obtain ⟨m0, m1, m2, m3⟩ := four (blk_new w (Obj.cells #[.int .i64 x.f0, .int .i64 x.f1, .int .i64 x.f2, .int .i64 x.f3] 49 (0, 0)))
  go_enter Tryz.func31, Tryz.ntmps31
  go_wp2
  refine bodyPost_ret (results_cell_row rfl _ _ (w.heap.size + 1) 40 #[.int .i64 x.f0, .int .i64 x.f1] (0, 0) _ rfl (by have := blk_new (w.alloc (Obj.cells #[.int .i64 x.f0, .int .i64 x.f1, .int .i64 x.f2, .int .i64 x.f3] 49 (0, 0))) (Obj.cells #[.int .i64 x.f0, .int .i64 x.f1] 40 (0, 0)); simpa using this) Tryz.underlying40 rfl (by kernel_rfl)) rfl ?_
  exact ⟨rfl, below_alloc (below_alloc (Below.refl _ _) _) _⟩
theorem t27 {w : World} {V : SV} {s : Sh} (h : Rd w V s) (B : Nat) (hB : w.heap[B]? = some (.cells (shv V s) 26 (0, 0))) (l : List S49) (hl : ∀ r ∈ l, 0 ≤ r.f2 ∧ 0 ≤ r.f3) :
    Tells 27 #[.pointer (some ⟨B, 0, none⟩)] (fun x => .agg (encR x).toArray) (fun r => !hasB s.ht.length s.wd.length r) l w := by
  intro W x hx hb
  have hR := h.below hb
  have hBW := blk_below hB hb
  have hp := fun w' (hb' : Below W.heap.size W w') => has_any (hR.below hb') x (hl x hx).1 (hl x hx).2
  obtain ⟨A1, c1, A2, c2, A3, c3, A4, c4⟩ := V
  obtain ⟨rt, wd, ht, ce, me⟩ := s
  have HP := Lib.hid hp
  clear hp h hB hb hR hx hl
  show Calls Tryz.prog 27 #[.agg #[.int .i64 x.f0, .int .i64 x.f1, .int .i64 x.f2, .int .i64 x.f3], .pointer (some ⟨B, 0, none⟩)] W _
  obtain ⟨k0, k1, k2, k3, k4⟩ := five (blk_alloc hBW (Obj.cells #[.int .i64 x.f0, .int .i64 x.f1, .int .i64 x.f2, .int .i64 x.f3] 49 (0, 0)))
  have HA := Lib.hid (below_alloc (Below.refl W.heap.size W) (Obj.cells #[.int .i64 x.f0, .int .i64 x.f1, .int .i64 x.f2, .int .i64 x.f3] 49 (0, 0)))
  clear hBW
  go_enter Tryz.func27, Tryz.ntmps27
  go_wp2_with (go_at_call 24; refine (HP.out _ HA.out).mono ?_; rintro e w1 ⟨rfl, hb1⟩)
  go_ret
  exact ⟨rfl, below_then HA.out HA.out.size hb1⟩
theorem t60 {l : List S49} {w : World} {Br Bc : Nat} {i j : Int} (hr : w.cell? ⟨Br, 0, none⟩ = some (.int .i64 i)) (hc : w.cell? ⟨Bc, 0, none⟩ = some (.int .i64 j)) (hi : W6 i) (hj : W6 j) (hl : ∀ q ∈ l, WR q) :
    Tells 60 #[.pointer (some ⟨Br, 0, none⟩), .pointer (some ⟨Bc, 0, none⟩)] (fun x => .agg (encR x).toArray) (fun q => decide (Mt q (one i j))) l w := by
  intro W x hx hb
  have H := Lib.hid (fun w' => meet_any (hl x hx) (show WR (one i j) from ⟨hi, hj, by show W6 1; decide, by show W6 1; decide⟩) w')
  have H1 := Lib.hid (one_any i j)
  show Calls Tryz.prog 60 #[.agg #[.int .i64 x.f0, .int .i64 x.f1, .int .i64 x.f2, .int .i64 x.f3], .pointer (some ⟨Br, 0, none⟩), .pointer (some ⟨Bc, 0, none⟩)] W _
  have ha := below_alloc (Below.refl W.heap.size W) (Obj.cells #[.int .i64 x.f0, .int .i64 x.f1, .int .i64 x.f2, .int .i64 x.f3] 49 (0, 0))
  have k4 := pw_cell_below ha (pw_cell_below hb hr)
  have k5 := pw_cell_below ha (pw_cell_below hb hc)
  obtain ⟨k0, k1, k2, k3⟩ := four (blk_new W (Obj.cells #[.int .i64 x.f0, .int .i64 x.f1, .int .i64 x.f2, .int .i64 x.f3] 49 (0, 0)))
  have HA := Lib.hid ha
  clear ha hb hx hr hc hl hi hj
  go_enter Tryz.func60, Tryz.ntmps60
  go_wp2
  obtain ⟨W0, hW0⟩ : ∃ W0, W0 = W.alloc (Obj.cells #[.int .i64 x.f0, .int .i64 x.f1, .int .i64 x.f2, .int .i64 x.f3] 49 (0, 0)) := ⟨_, rfl⟩
  rw [← hW0] at k0 k1 k2 k3 k4 k5 HA ⊢
  clear hW0
  have KS : ∀ w', Below W0.heap.size W0 w' → (w'.cell? ⟨Br, 0, none⟩ = some (.int .i64 i) ∧ w'.cell? ⟨Bc, 0, none⟩ = some (.int .i64 j) ∧ w'.cell? ⟨W.heap.size, 0, none⟩ = some (.int .i64 x.f0) ∧ w'.cell? ⟨W.heap.size, 1, none⟩ = some (.int .i64 x.f1) ∧ w'.cell? ⟨W.heap.size, 2, none⟩ = some (.int .i64 x.f2) ∧ w'.cell? ⟨W.heap.size, 3, none⟩ = some (.int .i64 x.f3) ∧ Below W0.heap.size W0 w') := fun w' hb => ⟨pw_cell_below hb k4, pw_cell_below hb k5, pw_cell_below hb k0, pw_cell_below hb k1, pw_cell_below hb k2, pw_cell_below hb k3, hb⟩
  have HKS := Lib.hid KS
  clear KS
  go_region_held3 (fun w' => (w'.cell? ⟨Br, 0, none⟩ = some (.int .i64 i) ∧ w'.cell? ⟨Bc, 0, none⟩ = some (.int .i64 j) ∧ w'.cell? ⟨W.heap.size, 0, none⟩ = some (.int .i64 x.f0) ∧ w'.cell? ⟨W.heap.size, 1, none⟩ = some (.int .i64 x.f1) ∧ w'.cell? ⟨W.heap.size, 2, none⟩ = some (.int .i64 x.f2) ∧ w'.cell? ⟨W.heap.size, 3, none⟩ = some (.int .i64 x.f3) ∧ Below W0.heap.size W0 w'))
    (first
      | exact HKS.out _ (Below.refl _ _)
      | exact HKS.out _ (below_drew (Below.refl _ _))
      | (go_split_ands; exact HKS.out _ (below_then (by assumption) (Below.size (by assumption)) hbn))
      | (go_split_ands; exact HKS.out _ (below_drew (by assumption))))
    (first
      | (go_at_call 25; refine (H1.out _).mono ?_; rintro e w1 ⟨rfl, hbn⟩)
      | (go_at_call 29; refine (H.out _).mono ?_; rintro e w1 ⟨rfl, hbn⟩))
  go_split_ands
  go_wp2
  go_ret
  exact ⟨rfl, below_then HA.out HA.out.size (by assumption)⟩
end Go.Proofs.YtcofacgdijjnoaaGreat
end
section
namespace Go.Proofs.YtcofacgdijjnoaaGreat
open PE (S31 S44 S49 k44 k49 k31)
open Go.Proofs.YtcofacgdijjnoaaGreatW.PrintWords Go.RowKit Go.Shelf Go.Lib Go.Proofs.YtcofacgdijjnoaaGreatW.PrintWords Go.Proofs.YtcofacgdijjnoaaGreatW.PrintLast Go.Proofs.YtcofacgdijjnoaaGreatW.PrintMore
set_option linter.unusedVariables false
set_option linter.unusedSimpArgs false
set_option maxRecDepth 100000
set_option maxHeartbeats 2000000
theorem eq40 (a b c d : Int) (w : World) : Sem.run Tryz.prog (Op.equalIn 10000 40 (.agg #[.int .i64 a, .int .i64 b]) (.agg #[.int .i64 c, .int .i64 d])) w = .ok ((a == c) && (b == d)) w := by
  have hu := run_underlying (P := Tryz.prog) (w := w) Tryz.underlying40
  have h3 : ∀ x y : Int, Sem.run Tryz.prog (Op.equalIn 9999 3 (.int .i64 x) (.int .i64 y)) w = .ok (x == y) w := fun x y => run_equalIn_int (P := Tryz.prog) (w := w) 9998 3 .i64 .i64 x y Tryz.underlying3
  rw [Op.equalIn]
  simp only [Sem.run_bind, hu, Result.andThen_ok]
  have hs : (sizeOf 3).run Tryz.prog w = .ok 1 w := by kernel_rfl
  have p0 : ∀ x y : Int, (part 3 #[.int .i64 x, .int .i64 y] 0).run Tryz.prog w = .ok (.int .i64 x) w := fun x y => by simp [go_sem, part]
  have p1 : ∀ x y : Int, (part 3 #[.int .i64 x, .int .i64 y] 1).run Tryz.prog w = .ok (.int .i64 y) w := fun x y => by simp [go_sem, part]
  simp [hs, Std.Legacy.Range.forIn_eq_forIn_range', List.range', p0, p1, h3]
  by_cases h1 : a = c
  · by_cases h2 : b = d
    · simp [h1, h2]
    · simp [h1, h2]
  · simp [h1]
theorem t35 {l : List S44} {w : World} {B : Nat} {r : S49} (hB : w.heap[B]? = some (.cells (encR r).toArray 49 (0, 0))) :
    Tells 35 #[.pointer (some ⟨B, 0, none⟩)] (fun x => .agg (encC x).toArray) (fun c => decide (c.f0 = r.f0) && decide (c.f1 = r.f1)) l w := by
  intro W x hx hb
  have H0 := Lib.hid (spot_any x)
  have H1 := Lib.hid (corner_any r)
  show Calls Tryz.prog 35 #[.agg #[.int .i64 x.f0, .int .i64 x.f1, .string x.f2, .int .i64 x.f3.f0, .int .i64 x.f3.f1, .int .i64 x.f3.f2], .pointer (some ⟨B, 0, none⟩)] W _
  obtain ⟨m0, m1, m2, m3, m4, m5⟩ := six (blk_new W (Obj.cells #[.int .i64 x.f0, .int .i64 x.f1, .string x.f2, .int .i64 x.f3.f0, .int .i64 x.f3.f1, .int .i64 x.f3.f2] 44 (0, 0)))
  obtain ⟨k0, k1, k2, k3⟩ := four (blk_alloc (blk_below hB hb) (Obj.cells #[.int .i64 x.f0, .int .i64 x.f1, .string x.f2, .int .i64 x.f3.f0, .int .i64 x.f3.f1, .int .i64 x.f3.f2] 44 (0, 0)))
  have HA := Lib.hid (below_alloc (Below.refl W.heap.size W) (Obj.cells #[.int .i64 x.f0, .int .i64 x.f1, .string x.f2, .int .i64 x.f3.f0, .int .i64 x.f3.f1, .int .i64 x.f3.f2] 44 (0, 0)))
  have HE := Lib.hid (show ((x.f0 == r.f0) && (x.f1 == r.f1)) = (decide (x.f0 = r.f0) && decide (x.f1 = r.f1)) from rfl)
  have heq := eq40 x.f0 x.f1 r.f0 r.f1
  obtain ⟨bb, hbb⟩ : ∃ bb, bb = ((x.f0 == r.f0) && (x.f1 == r.f1)) := ⟨_, rfl⟩
  rw [← hbb] at heq HE
  clear hb hx hB hbb
  go_enter Tryz.func35, Tryz.ntmps35
  go_wp2
  obtain ⟨W0, hW0⟩ : ∃ W0, W0 = W.alloc (Obj.cells #[.int .i64 x.f0, .int .i64 x.f1, .string x.f2, .int .i64 x.f3.f0, .int .i64 x.f3.f1, .int .i64 x.f3.f2] 44 (0, 0)) := ⟨_, rfl⟩
  rw [← hW0] at k0 k1 k2 k3 m0 m1 m2 m3 m4 m5 HA ⊢
  clear hW0
  have KS : ∀ w', Below W0.heap.size W0 w' → (w'.cell? ⟨W.heap.size, 0, none⟩ = some (.int .i64 x.f0) ∧ w'.cell? ⟨W.heap.size, 1, none⟩ = some (.int .i64 x.f1) ∧ w'.cell? ⟨W.heap.size, 2, none⟩ = some (.string x.f2) ∧ w'.cell? ⟨W.heap.size, 3, none⟩ = some (.int .i64 x.f3.f0) ∧ w'.cell? ⟨W.heap.size, 4, none⟩ = some (.int .i64 x.f3.f1) ∧ w'.cell? ⟨W.heap.size, 5, none⟩ = some (.int .i64 x.f3.f2) ∧ w'.cell? ⟨B, 0, none⟩ = some (.int .i64 r.f0) ∧ w'.cell? ⟨B, 1, none⟩ = some (.int .i64 r.f1) ∧ w'.cell? ⟨B, 2, none⟩ = some (.int .i64 r.f2) ∧ w'.cell? ⟨B, 3, none⟩ = some (.int .i64 r.f3) ∧ Below W0.heap.size W0 w') := fun w' hb => ⟨pw_cell_below hb m0, pw_cell_below hb m1, pw_cell_below hb m2, pw_cell_below hb m3, pw_cell_below hb m4, pw_cell_below hb m5, pw_cell_below hb k0, pw_cell_below hb k1, pw_cell_below hb k2, pw_cell_below hb k3, hb⟩
  have HKS := Lib.hid KS
  clear KS
  go_region_held3 (fun w' => (w'.cell? ⟨W.heap.size, 0, none⟩ = some (.int .i64 x.f0) ∧ w'.cell? ⟨W.heap.size, 1, none⟩ = some (.int .i64 x.f1) ∧ w'.cell? ⟨W.heap.size, 2, none⟩ = some (.string x.f2) ∧ w'.cell? ⟨W.heap.size, 3, none⟩ = some (.int .i64 x.f3.f0) ∧ w'.cell? ⟨W.heap.size, 4, none⟩ = some (.int .i64 x.f3.f1) ∧ w'.cell? ⟨W.heap.size, 5, none⟩ = some (.int .i64 x.f3.f2) ∧ w'.cell? ⟨B, 0, none⟩ = some (.int .i64 r.f0) ∧ w'.cell? ⟨B, 1, none⟩ = some (.int .i64 r.f1) ∧ w'.cell? ⟨B, 2, none⟩ = some (.int .i64 r.f2) ∧ w'.cell? ⟨B, 3, none⟩ = some (.int .i64 r.f3) ∧ Below W0.heap.size W0 w'))
    (first
      | exact HKS.out _ (Below.refl _ _)
      | exact HKS.out _ (below_drew (Below.refl _ _))
      | (go_split_ands; exact HKS.out _ (below_then (by assumption) (Below.size (by assumption)) hbn))
      | (go_split_ands; exact HKS.out _ (below_drew (by assumption))))
    (first
      | (go_at_call 30; refine (H0.out _).mono ?_; rintro e w1 ⟨rfl, hbn⟩)
      | (go_at_call 31; refine (H1.out _).mono ?_; rintro e w1 ⟨rfl, hbn⟩))
  go_split_ands
  go_wp2
  go_ret
  exact ⟨by rw [← HE.out]; rfl, below_then HA.out HA.out.size (by assumption)⟩
theorem t64 {l : List S49} {w : World} {B : Nat} {r : S49} (hB : w.heap[B]? = some (.cells (encR r).toArray 49 (0, 0))) (hr : WR r) (hl : ∀ q ∈ l, WR q) :
    Tells 64 #[.pointer (some ⟨B, 0, none⟩)] (fun x => .agg (encR x).toArray) (fun q => decide (Mt q r)) l w := by
  intro W x hx hb
  have H := Lib.hid (fun w' => meet_any (hl x hx) hr w')
  show Calls Tryz.prog 64 #[.agg #[.int .i64 x.f0, .int .i64 x.f1, .int .i64 x.f2, .int .i64 x.f3], .pointer (some ⟨B, 0, none⟩)] W _
  obtain ⟨k0, k1, k2, k3⟩ := four (blk_alloc (blk_below hB hb) (Obj.cells #[.int .i64 x.f0, .int .i64 x.f1, .int .i64 x.f2, .int .i64 x.f3] 49 (0, 0)))
  have HA := Lib.hid (below_alloc (Below.refl W.heap.size W) (Obj.cells #[.int .i64 x.f0, .int .i64 x.f1, .int .i64 x.f2, .int .i64 x.f3] 49 (0, 0)))
  clear hb hx hB hl hr
  go_enter Tryz.func64, Tryz.ntmps64
  go_wp2_with (go_at_call 29; refine (H.out _).mono ?_; rintro e w1 ⟨rfl, hb1⟩)
  go_ret
  exact ⟨rfl, below_then HA.out HA.out.size hb1⟩
theorem eq49 (x r : S49) (w : World) : Sem.run Tryz.prog (Op.equalIn 10000 49 (.agg (encR x).toArray) (.agg (encR r).toArray)) w = .ok (decide (sameR x r)) w := by
  have h3 : ∀ x y : Int, Sem.run Tryz.prog (Op.equalIn 9999 3 (.int .i64 x) (.int .i64 y)) w = .ok (x == y) w := fun x y => run_equalIn_int (P := Tryz.prog) (w := w) 9998 3 .i64 .i64 x y Tryz.underlying3
  have hp : ∀ (a b c d : Int), (part 3 #[.int .i64 a, .int .i64 b, .int .i64 c, .int .i64 d] 0).run Tryz.prog w = .ok (.int .i64 a) w ∧ (part 3 #[.int .i64 a, .int .i64 b, .int .i64 c, .int .i64 d] 1).run Tryz.prog w = .ok (.int .i64 b) w ∧
    (part 3 #[.int .i64 a, .int .i64 b, .int .i64 c, .int .i64 d] 2).run Tryz.prog w = .ok (.int .i64 c) w ∧ (part 3 #[.int .i64 a, .int .i64 b, .int .i64 c, .int .i64 d] 3).run Tryz.prog w = .ok (.int .i64 d) w := fun a b c d => by
      refine ⟨?_, ?_, ?_, ?_⟩ <;> simp [go_sem, part]
  have hb : decide (sameR x r) = ((x.f0 == r.f0) && ((x.f1 == r.f1) && ((x.f2 == r.f2) && (x.f3 == r.f3)))) := by
    apply Bool.eq_iff_iff.mpr
    rw [decide_eq_true_iff]
    simp only [Bool.and_eq_true, beq_iff_eq]
    exact Iff.rfl
  rw [hb]
  obtain ⟨a0, a1, a2, a3⟩ := hp x.f0 x.f1 x.f2 x.f3
  obtain ⟨c0, c1, c2, c3⟩ := hp r.f0 r.f1 r.f2 r.f3
  exact eqA_of Tryz.underlying49 (by kernel_rfl) (eqf_cons rfl a0 c0 (h3 _ _) (eqf_cons rfl a1 c1 (h3 _ _) (eqf_cons rfl a2 c2 (h3 _ _) (eqf_last rfl a3 c3 (h3 _ _)))))
theorem t70 {l : List S49} {w : World} {B : Nat} {r : S49} (hB : w.heap[B]? = some (.cells (encR r).toArray 49 (0, 0))) :
    Tells 70 #[.pointer (some ⟨B, 0, none⟩)] (fun x => .agg (encR x).toArray) (fun q => decide (sameR q r)) l w := by
  intro W x hx hb
  show Calls Tryz.prog 70 #[.agg #[.int .i64 x.f0, .int .i64 x.f1, .int .i64 x.f2, .int .i64 x.f3], .pointer (some ⟨B, 0, none⟩)] W _
  obtain ⟨m0, m1, m2, m3⟩ := four (blk_new W (Obj.cells #[.int .i64 x.f0, .int .i64 x.f1, .int .i64 x.f2, .int .i64 x.f3] 49 (0, 0)))
  obtain ⟨k0, k1, k2, k3⟩ := four (blk_alloc (blk_below hB hb) (Obj.cells #[.int .i64 x.f0, .int .i64 x.f1, .int .i64 x.f2, .int .i64 x.f3] 49 (0, 0)))
  have HA := Lib.hid (below_alloc (Below.refl W.heap.size W) (Obj.cells #[.int .i64 x.f0, .int .i64 x.f1, .int .i64 x.f2, .int .i64 x.f3] 49 (0, 0)))
  have HS : Hid (sameR x r ↔ (x.f0 = r.f0 ∧ x.f1 = r.f1 ∧ x.f2 = r.f2 ∧ x.f3 = r.f3)) := Lib.hid Iff.rfl
  have heq := eq49 x r
  show Calls Tryz.prog 70 _ W fun e w' => e = .returned (.bool (decide (sameR x r))) ∧ Below W.heap.size W w'
  obtain ⟨bb, hbb⟩ : ∃ bb, bb = decide (sameR x r) := ⟨_, rfl⟩
  rw [← hbb] at heq ⊢
  simp only [encR] at heq
  clear hb hx hB hbb
  go_enter Tryz.func70, Tryz.ntmps70
  go_wp2
  go_ret
  exact ⟨rfl, HA.out⟩
end Go.Proofs.YtcofacgdijjnoaaGreat
end
section
namespace Go.Proofs.YtcofacgdijjnoaaGreat
open PE (S31 S44 S49 k44 k49 k31)
open Go.RowKit Go.Shelf Go.Lib Go.Proofs.YtcofacgdijjnoaaGreatW.PrintWords Go.Proofs.YtcofacgdijjnoaaGreatW.PrintLast Go.Proofs.YtcofacgdijjnoaaGreatW.PrintMore
set_option linter.unusedVariables false
set_option linter.unusedSimpArgs false
set_option maxRecDepth 100000
set_option maxHeartbeats 2000000
theorem ixF_find {α : Type} (p : α → Bool) : ∀ (l : List α) (i : Nat), (ixF p l i = -1 ∧ l.find? p = none) ∨ ∃ j, ∃ h : j < l.length, ixF p l i = (i + j : Nat) ∧ l.find? p = some l[j]
  | [], i => .inl ⟨rfl, rfl⟩
  | x :: l, i => by
      rw [ixF, List.find?_cons]
      cases hq : p x with
      | true => exact .inr ⟨0, by simp, by simp, by simp⟩
      | false =>
          rcases ixF_find p l (i + 1) with ⟨h1, h2⟩ | ⟨j, hj, h1, h2⟩
          · exact .inl ⟨by simpa using h1, by simpa using h2⟩
          · refine .inr ⟨j + 1, by simpa using hj, ?_, by simpa using h2⟩
            simp only [Bool.false_eq_true, if_false, h1]
            congr 1; omega
theorem four_allocs (w : World) (o1 o2 o3 o4 : Obj) : ((((w.alloc o1).alloc o2).alloc o3).alloc o4).heap[w.heap.size]? = some o1 ∧ ((((w.alloc o1).alloc o2).alloc o3).alloc o4).heap[w.heap.size + 1]? = some o2 ∧
    ((((w.alloc o1).alloc o2).alloc o3).alloc o4).heap[w.heap.size + 1 + 1]? = some o3 ∧ ((((w.alloc o1).alloc o2).alloc o3).alloc o4).heap[w.heap.size + 1 + 1 + 1]? = some o4 := by
  have e1 : (w.alloc o1).heap.size = w.heap.size + 1 := by simp
  have e2 : ((w.alloc o1).alloc o2).heap.size = w.heap.size + 1 + 1 := by simp
  have e3 : (((w.alloc o1).alloc o2).alloc o3).heap.size = w.heap.size + 1 + 1 + 1 := by simp
  refine ⟨?_, ?_, ?_, ?_⟩
  · exact blk_alloc (blk_alloc (blk_alloc (blk_new w o1) _) _) _
  · have := blk_new (w.alloc o1) o2
    rw [e1] at this
    exact blk_alloc (blk_alloc this _) _
  · have := blk_new ((w.alloc o1).alloc o2) o3
    rw [e2] at this
    exact blk_alloc this _
  · have := blk_new (((w.alloc o1).alloc o2).alloc o3) o4
    rw [e3] at this
    exact this
theorem cell1 {w : World} {B : Nat} {v : Value} {t : TypeId} (h : w.heap[B]? = some (.cells #[v] t (0, 0))) : w.cell? ⟨B, 0, none⟩ = some v := blk_cell h 0
/-- a rect's cells, to be written -/
theorem zero4 {w : World} {B : Nat} (h : w.heap[B]? = some (.cells #[.int .i64 0, .int .i64 0, .int .i64 0, .int .i64 0] 49 (0, 0))) :
    w.cell? ⟨B, 0, none⟩ = some (.int .i64 0) ∧ w.cell? ⟨B, 1, none⟩ = some (.int .i64 0) ∧ w.cell? ⟨B, 2, none⟩ = some (.int .i64 0) ∧ w.cell? ⟨B, 3, none⟩ = some (.int .i64 0) ∧
    w.frozen? ⟨B, 0, none⟩ = false ∧ w.frozen? ⟨B, 1, none⟩ = false ∧ w.frozen? ⟨B, 2, none⟩ = false ∧ w.frozen? ⟨B, 3, none⟩ = false :=
  ⟨blk_cell h 0, blk_cell h 1, blk_cell h 2, blk_cell h 3, blk_frozen h 0, blk_frozen h 1, blk_frozen h 2, blk_frozen h 3⟩
theorem put4 {w : World} {B : Nat} {a b c d : Int} {r : S49} (h : w.heap[B]? = some (.cells #[.int .i64 a, .int .i64 b, .int .i64 c, .int .i64 d] 49 (0, 0))) :
    ((((w.setCell ⟨B, 0, none⟩ (.int .i64 r.f0)).setCell ⟨B, 1, none⟩ (.int .i64 r.f1)).setCell ⟨B, 2, none⟩ (.int .i64 r.f2)).setCell ⟨B, 3, none⟩ (.int .i64 r.f3)).heap[B]? = some (.cells (encR r).toArray 49 (0, 0)) :=
  blk_put (blk_put (blk_put (blk_put h 0 _ rfl) 1 _ rfl) 2 _ rfl) 3 _ rfl
theorem around_any {w : World} {V : SV} {s : Sh} (h : Rd w V s) {i j : Int} (hi : W6 i) (hj : W6 j) (hl : ∀ q ∈ s.me, WR q) :
    Calls Tryz.prog 32 #[.agg (shv V s), .int .i64 i, .int .i64 j] w fun e w' => e = .returned (.agg (encR (aro s.me i j)).toArray) ∧ Below w.heap.size w w' := by
  obtain ⟨A1, c1, A2, c2, A3, c3, A4, c4⟩ := V
  obtain ⟨rt, wd, ht, ce, me⟩ := s
  show Calls Tryz.prog 32 #[.agg #[.int .i64 rt, .slice A1 wd.length c1, .slice A2 ht.length c2, .slice A3 ce.length c3, .slice A4 me.length c4], .int .i64 i, .int .i64 j] w _
  have hb0 : Below w.heap.size w ((((w.alloc (Obj.cells #[.int .i64 rt, .slice A1 wd.length c1, .slice A2 ht.length c2, .slice A3 ce.length c3, .slice A4 me.length c4] 26 (0, 0))).alloc (Obj.cells #[.int .i64 i] 3 (0, 0))).alloc (Obj.cells #[.int .i64 j] 3 (0, 0))).alloc (Obj.cells #[.int .i64 0, .int .i64 0, .int .i64 0, .int .i64 0] 49 (0, 0))) := below_alloc (below_alloc (below_alloc (below_alloc (Below.refl _ w) _) _) _) _
  obtain ⟨b1, b2, b3, b4⟩ := four_allocs w (Obj.cells #[.int .i64 rt, .slice A1 wd.length c1, .slice A2 ht.length c2, .slice A3 ce.length c3, .slice A4 me.length c4] 26 (0, 0)) (Obj.cells #[.int .i64 i] 3 (0, 0)) (Obj.cells #[.int .i64 j] 3 (0, 0)) (Obj.cells #[.int .i64 0, .int .i64 0, .int .i64 0, .int .i64 0] 49 (0, 0))
  have hcall := idxR A4 me.length c4 me (fun q => decide (Mt q (one i j))) 60 #[.pointer (some ⟨w.heap.size + 1, 0, none⟩), .pointer (some ⟨w.heap.size + 1 + 1, 0, none⟩)] (enters_of Tryz.func60 (by kernel_rfl) rfl) ((((w.alloc (Obj.cells #[.int .i64 rt, .slice A1 wd.length c1, .slice A2 ht.length c2, .slice A3 ce.length c3, .slice A4 me.length c4] 26 (0, 0))).alloc (Obj.cells #[.int .i64 i] 3 (0, 0))).alloc (Obj.cells #[.int .i64 j] 3 (0, 0))).alloc (Obj.cells #[.int .i64 0, .int .i64 0, .int .i64 0, .int .i64 0] 49 (0, 0))) (Kd.C_below h.h4 hb0)
    (t60 (cell1 b2) (cell1 b3) hi hj hl)
  have H1 := Lib.hid (one_any i j)
  have HC := Lib.hid hcall
  have HB := Lib.hid hb0
  have H4 := Lib.hid (show Kd.C k49 w A4 me.length me from h.h4)
  have HB1 := Lib.hid b1
  have HB2 := Lib.hid b2
  have HB3 := Lib.hid b3
  have HB4 := Lib.hid b4
  have HX := Lib.hid (ixF_find (fun q => decide (Mt q (one i j))) me 0)
  have HA := Lib.hid (show aro me i j = (me.find? fun r => decide (Mt r (one i j))).getD (one i j) from rfl)
  have hlen := h.h4.1
  obtain ⟨x, hx⟩ : ∃ x, x = ixF (fun q => decide (Mt q (one i j))) me 0 := ⟨_, rfl⟩
  rw [← hx] at HC HX
  have hk := k49.C
  clear hx hcall hb0 b1 b2 b3 b4 h hl hi hj hlen hk
  rcases HX.out with ⟨hx, hf⟩ | ⟨k, hk, hx, hf⟩
  · subst hx
    have HA2 := Lib.hid (show aro me i j = one i j by rw [HA.out, hf]; rfl)
    clear HX hf
    obtain ⟨r, hr⟩ : ∃ r, r = one i j := ⟨_, rfl⟩
    rw [← hr] at H1 HA2
    clear hr
    simp only [encR] at H1
    go_enter Tryz.func32, Tryz.ntmps32
    go_wp2_with (first
      | (go_at_call 58; refine HC.out.mono ?_; rintro e w5 ⟨rfl, hb5⟩; obtain ⟨z0, z1, z2, z3, f0, f1, f2, f3⟩ := zero4 (blk_below HB4.out hb5); have y2 := cell1 (blk_below HB2.out hb5); have y3 := cell1 (blk_below HB3.out hb5); have HB5 := Lib.hid hb5; clear hb5)
      | (go_at_call 25; refine (H1.out _).mono ?_; rintro e w6 ⟨rfl, hb6⟩; obtain ⟨z0, z1, z2, z3, f0, f1, f2, f3⟩ := zero4 (blk_below (blk_below HB4.out HB5.out) hb6); have HB6 := Lib.hid hb6; clear hb6))
    refine bodyPost_ret (results_cell_row rfl _ _ (w.heap.size + 1 + 1 + 1) 49 (encR r).toArray (0, 0) _ rfl (put4 (blk_below (blk_below HB4.out HB5.out) HB6.out)) Tryz.underlying49 rfl (by kernel_rfl)) rfl ?_
    refine ⟨by rw [HA2.out], ?_⟩
    exact below_set (below_set (below_set (below_set (below_then (below_then HB.out HB.out.size HB5.out) (Nat.le_trans HB.out.size HB5.out.size) HB6.out) (by omega)) (by omega)) (by omega)) (by omega)
  · rw [Nat.zero_add] at hx
    subst hx
    have HA2 := Lib.hid (show aro me i j = me[k] by rw [HA.out, hf]; rfl)
    obtain ⟨ad, rfl, e0, e1, e2, e3⟩ := PE.at_T49 H4.out (k : Int) (by omega) (by omega)
    have hrd : PE.rd_T49 me (k : Int) = me[k] := by
      unfold PE.rd_T49
      rw [Int.toNat_natCast, List.getD_eq_getElem?_getD, List.getElem?_eq_getElem hk]; rfl
    rw [Int.toNat_natCast, hrd] at e0 e1 e2 e3
    have hki : (k : Int) < (me.length : Int) := by omega
    obtain ⟨r, hr⟩ : ∃ r, r = me[k] := ⟨_, rfl⟩
    rw [← hr] at e0 e1 e2 e3 HA2
    have HE := Lib.hid (And.intro e0 (And.intro e1 (And.intro e2 e3)))
    clear hr hrd HX hf e0 e1 e2 e3
    have hz : ¬ (k : Int) < 0 := by omega
    go_enter Tryz.func32, Tryz.ntmps32
    go_wp2_with (first
      | (go_at_call 58; refine HC.out.mono ?_; rintro e w5 ⟨rfl, hb5⟩; obtain ⟨z0, z1, z2, z3, f0, f1, f2, f3⟩ := zero4 (blk_below HB4.out hb5); obtain ⟨_, _, _, _, y4⟩ := five (V := ⟨A1, c1, A2, c2, A3, c3, some ad, c4⟩) (s := ⟨rt, wd, ht, ce, me⟩) (blk_below HB1.out hb5); have e0 := pw_cell_below hb5 (pw_cell_below HB.out HE.out.1); have e1 := pw_cell_below hb5 (pw_cell_below HB.out HE.out.2.1); have e2 := pw_cell_below hb5 (pw_cell_below HB.out HE.out.2.2.1); have e3 := pw_cell_below hb5 (pw_cell_below HB.out HE.out.2.2.2); have HB5 := Lib.hid hb5; clear hb5))
    refine bodyPost_ret (results_cell_row rfl _ _ (w.heap.size + 1 + 1 + 1) 49 (encR r).toArray (0, 0) _ rfl (put4 (blk_below HB4.out HB5.out)) Tryz.underlying49 rfl (by kernel_rfl)) rfl ?_
    refine ⟨by rw [HA2.out], ?_⟩
    exact below_set (below_set (below_set (below_set (below_then HB.out HB.out.size HB5.out) (by omega)) (by omega)) (by omega)) (by omega)
end Go.Proofs.YtcofacgdijjnoaaGreat
end
section
namespace Go.Proofs.YtcofacgdijjnoaaGreat
open PE (S31 S44 S49 k44 k49 k31)
open Go.RowKit Go.Shelf Go.Lib Go.Proofs.YtcofacgdijjnoaaGreatW.PrintWords Go.Proofs.YtcofacgdijjnoaaGreatW.PrintLast Go.Proofs.YtcofacgdijjnoaaGreatW.PrintMore
set_option linter.unusedVariables false
set_option linter.unusedSimpArgs false
set_option maxRecDepth 100000
set_option maxHeartbeats 2000000
attribute [local go_sem] max2_int min2_int max_two min_two
theorem over_any {A : Option Addr} {c : Nat} {l : List Int} {w : World} (h : Kd.C (Kd.int .i64) w A l.length l) (many : Nat) (hm : many ≤ 1000) (most : Int) (mI : Int) (hmI : mI = (many : Int)) :
    Calls Tryz.prog 51 #[.slice A l.length c, .int .i64 mI, .int .i64 most] w fun e w' => e = .returned (.bool (ovr l many most)) ∧ Below w.heap.size w w' := by
  subst hmI
  have hlen := h.2.1
  have hA := below_alloc (Below.refl w.heap.size w) (Obj.cells #[.int .i64 most] 3 (0, 0))
  have hcall := anyI A l.length c l (fun n => decide (most < n)) 76 #[.pointer (some ⟨w.heap.size, 0, none⟩)] (enters_of Tryz.func76 (by kernel_rfl) rfl) _ (Kd.C_below h hA) (t76 l _ _ most (cell1 (blk_new w _)))
  have HC := Lib.hid hcall
  have HA := Lib.hid hA
  have HO := Lib.hid (show ovr l many most = (decide (many < l.length) || l.any fun n => decide (most < n)) from rfl)
  obtain ⟨x, hx⟩ : ∃ x, x = l.any fun n => decide (most < n) := ⟨_, rfl⟩
  rw [← hx] at HC HO
  clear hx hcall hA h
  by_cases h1 : many < l.length
  · have h1' : (many : Int) < (l.length : Int) := by omega
    rw [decide_eq_true h1] at HO
    clear h1
    go_enter Tryz.func51, Tryz.ntmps51
    go_wp2
    go_ret
    exact ⟨by rw [HO.out]; rfl, HA.out⟩
  · have h1' : ¬ (many : Int) < (l.length : Int) := by omega
    rw [decide_eq_false h1] at HO
    clear h1
    go_enter Tryz.func51, Tryz.ntmps51
    go_wp2_with (go_at_call 75; refine HC.out.mono ?_; rintro e w1 ⟨rfl, hb1⟩)
    go_ret
    exact ⟨by rw [HO.out]; rfl, below_then HA.out HA.out.size hb1⟩
def mnF (m : Int) : List Int → Int
  | [] => m
  | x :: l => mnF (if x < m then x else m) l
theorem mnF_ge : ∀ (l : List Int) (m : Int), decide (mnF m l ≥ 1) = (decide (1 ≤ m) && l.all fun n => decide (1 ≤ n))
  | [], m => by simp [mnF]
  | x :: l, m => by
      rw [mnF, mnF_ge l]
      rw [List.all_cons, ← Bool.and_assoc]
      congr 1
      split
      · rename_i h
        rw [← Bool.decide_and]; apply decide_eq_decide.mpr; omega
      · rename_i h
        rw [← Bool.decide_and]; apply decide_eq_decide.mpr; omega
theorem mnF_drop (l : List Int) (m : Int) (i : Nat) (hi : i < l.length) : mnF m (l.drop i) = mnF (if l[i] < m then l[i] else m) (l.drop (i + 1)) := by
  rw [List.drop_eq_getElem_cons hi]; rfl
theorem min_any {A : Option Addr} {c : Nat} {x : Int} {l : List Int} {w : World} (h : Kd.C (Kd.int .i64) w A (x :: l).length (x :: l)) :
    Calls Tryz.prog 77 #[.slice A (x :: l).length c] w fun e w' => e = .returned (.int .i64 (mnF x l)) ∧ Below w.heap.size w w' := by
  have hlen := h.2.1
  obtain ⟨ad, rfl, c0⟩ := at_int h 0 (by simp)
  have HC := Lib.hid h
  obtain ⟨L, hL⟩ : ∃ L, L = x :: l := ⟨_, rfl⟩
  have HM := Lib.hid (show mnF x l = mnF x (L.drop 1) by rw [hL]; rfl)
  rw [← hL] at HC hlen ⊢
  have h0 : ¬ (L.length : Int) < 1 := by rw [hL]; simp only [List.length_cons]; omega
  have h01 : 0 < L.length := by rw [hL]; simp
  have c0' : w.cell? ad = some (.int .i64 x) := c0
  clear h hL
  go_enter Tryz.func77, Tryz.ntmps77
  go_wp2
  have HMI := Lib.hid (mnF_drop L)
  go_loopg [3, 4] L.length (fun gg v3 v4 wr => ∃ (i : Nat) (m : Int), 1 ≤ i ∧ i ≤ L.length ∧ gg = L.length + 1 - i ∧ v3 = .int .i64 m ∧ v4 = .int .i64 i ∧ wr = w ∧ Hid (mnF m (L.drop i) = mnF x l))
  case atStart => exact ⟨1, x, by omega, by omega, by omega, rfl, rfl, rfl, Lib.hid HM.out.symm⟩
  case round =>
    obtain ⟨i, m, hi1, hi, hg, rfl, rfl, rfl, I⟩ := hrel
    have Hg := Lib.hid hg
    clear hg
    by_cases hlt : i < L.length
    · have hlz : (i : Int) < (L.length : Int) := by omega
      obtain ⟨ad', e, c1⟩ := at_int HC.out i hlt
      cases e
      have hI := I.out
      rw [mnF_drop L m i hlt] at hI
      obtain ⟨y, hy⟩ : ∃ y, y = L[i] := ⟨_, rfl⟩
      rw [← hy] at c1 hI
      clear hy HMI
      by_cases hym : y < m
      · rw [if_pos hym] at hI
        have HI := Lib.hid hI
        clear hI
        go_wp2
        go_roundg (L.length + 1 - (i + 1))
        case measure => have := Hg.out; omega
        case rel => exact ⟨i + 1, y, by omega, by omega, rfl, rfl, by go_num, rfl, HI⟩
      · rw [if_neg hym] at hI
        have HI := Lib.hid hI
        clear hI
        go_wp2
        go_roundg (L.length + 1 - (i + 1))
        case measure => have := Hg.out; omega
        case rel => exact ⟨i + 1, m, by omega, by omega, rfl, rfl, by go_num, rfl, HI⟩
    · have hlz : ¬ (i : Int) < (L.length : Int) := by omega
      have hI := I.out
      rw [List.drop_of_length_le (by omega)] at hI
      have HI := Lib.hid (show m = mnF x l from hI)
      clear hI I HMI
      go_wp2
      go_ret
      exact ⟨by rw [← HI.out]; rfl, Below.refl _ _⟩
theorem sizes_any {A : Option Addr} {c : Nat} {l : List Int} {w : World} (h : Kd.C (Kd.int .i64) w A l.length l) :
    Calls Tryz.prog 52 #[.slice A l.length c] w fun e w' => e = .returned (.bool (siz l)) ∧ Below w.heap.size w w' := by
  have hlen := h.2.1
  cases l with
  | nil =>
      clear h
      go_enter Tryz.func52, Tryz.ntmps52
      go_wp2
      go_ret
      exact ⟨rfl, Below.refl _ _⟩
  | cons x l =>
      have HC := Lib.hid (min_any (c := c) h)
      have HO := Lib.hid (show siz (x :: l) = decide (mnF x l ≥ 1) by rw [mnF_ge]; unfold siz; simp)
      obtain ⟨m, hm⟩ : ∃ m, m = mnF x l := ⟨_, rfl⟩
      rw [← hm] at HC HO
      obtain ⟨L, hL⟩ : ∃ L, L = x :: l := ⟨_, rfl⟩
      have h0 : 0 < (L.length : Int) := by rw [hL]; simp only [List.length_cons]; omega
      rw [← hL] at HC HO hlen ⊢
      clear h hm hL
      go_enter Tryz.func52, Tryz.ntmps52
      go_wp2_with (go_at_call 77; refine HC.out.mono ?_; rintro e w1 ⟨rfl, hb1⟩)
      go_ret
      exact ⟨by rw [HO.out]; rfl, hb1⟩
end Go.Proofs.YtcofacgdijjnoaaGreat
end
