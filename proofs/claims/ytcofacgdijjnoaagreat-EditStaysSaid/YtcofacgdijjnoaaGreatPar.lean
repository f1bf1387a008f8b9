/- slices.BinarySearchFunc at cells: walked. sheet: more of the tests that are handed to the library: walked. sheet: more of the tests that are handed to the library: walked. sheet: more of the tests that are handed to the library: walked. -/
import Derived.Test.YtcofacgdijjnoaaGreatPaq
import Derived.Laws.EntriesVeiled
section
namespace Go.Proofs.YtcofacgdijjnoaaGreat
open PE (S31 S44 S49 k44 k49 k31)
open Go.RowKit Go.Shelf Go.Lib Go.Proofs.YtcofacgdijjnoaaGreatW.PrintWords Go.Proofs.YtcofacgdijjnoaaGreatW.PrintLast Go.Proofs.YtcofacgdijjnoaaGreatW.PrintMore
set_option linter.unusedVariables false
set_option linter.unusedSimpArgs false
set_option maxRecDepth 100000
set_option maxHeartbeats 2000000
open Go.Sort Go.Lib
theorem cmp80 (x y : S44) (W : World) : Calls Tryz.prog 80 #[.agg (encC x).toArray, .agg (encC y).toArray] W fun e w' => e = .returned (.int .i64 (kyI x.f0 x.f1 y.f0 y.f1)) ∧ Gr W w' := by
  obtain ⟨b, hb⟩ : ∃ b, b = kyI x.f0 x.f1 y.f0 y.f1 := ⟨_, rfl⟩
  rw [← hb]
  have hor := fun (W' : World) => or_any (w := (W'.alloc (.cells #[.int .i64 (cmpI x.f0 y.f0), .int .i64 (cmpI x.f1 y.f1)] 3 (0, 0))).drew) (b := W'.heap.size) (x := cmpI x.f0 y.f0) (y := cmpI x.f1 y.f1) (blk_drew (blk_new W' _))
  rw [show (if cmpI x.f0 y.f0 = 0 then cmpI x.f1 y.f1 else cmpI x.f0 y.f0) = kyI x.f0 x.f1 y.f0 y.f1 from rfl, ← hb] at hor
  have HO := Lib.hid hor
  clear hor hb
  obtain ⟨x0, x1, x2, ⟨x3, x4, x5⟩⟩ := x
  obtain ⟨y0, y1, y2, ⟨y3, y4, y5⟩⟩ := y
  simp only [encC] at *
  go_enter Tryz.func80, Tryz.ntmps80
  go_wp2
  obtain ⟨W0, hW0⟩ : ∃ W0, W0 = (W.alloc (.cells #[.int .i64 x0, .int .i64 x1, .string x2, .int .i64 x3, .int .i64 x4, .int .i64 x5] 44 (0, 0))).alloc (.cells #[.int .i64 y0, .int .i64 y1, .string y2, .int .i64 y3, .int .i64 y4, .int .i64 y5] 44 (0, 0)) := ⟨_, rfl⟩
  have hx := blk_below (blk_new W (.cells #[.int .i64 x0, .int .i64 x1, .string x2, .int .i64 x3, .int .i64 x4, .int .i64 x5] 44 (0, 0))) (below_alloc (Below.refl _ _) (.cells #[.int .i64 y0, .int .i64 y1, .string y2, .int .i64 y3, .int .i64 y4, .int .i64 y5] 44 (0, 0)))
  have hy := blk_new (W.alloc (.cells #[.int .i64 x0, .int .i64 x1, .string x2, .int .i64 x3, .int .i64 x4, .int .i64 x5] 44 (0, 0))) (.cells #[.int .i64 y0, .int .i64 y1, .string y2, .int .i64 y3, .int .i64 y4, .int .i64 y5] 44 (0, 0))
  rw [← hW0] at hx hy ⊢
  rw [show (W.alloc (.cells #[.int .i64 x0, .int .i64 x1, .string x2, .int .i64 x3, .int .i64 x4, .int .i64 x5] 44 (0, 0))).heap.size = W.heap.size + 1 from Array.size_push ..] at hy
  have hA := Lib.hid (show Gr W W0 by rw [hW0]; exact ((Gr.refl W).alloc _).alloc _)
  clear hW0
  obtain ⟨p0, p1, p2, p3, p4, p5⟩ := six (x := ⟨x0, x1, x2, ⟨x3, x4, x5⟩⟩) hx
  obtain ⟨q0, q1, q2, q3, q4, q5⟩ := six (x := ⟨y0, y1, y2, ⟨y3, y4, y5⟩⟩) hy
  simp only [] at p0 p1 p2 p3 p4 p5 q0 q1 q2 q3 q4 q5
  clear hx hy
  have KS : ∀ w', Gr W0 w' → (w'.cell? ⟨W.heap.size, 0, none⟩ = some (.int .i64 x0) ∧ w'.cell? ⟨W.heap.size, 1, none⟩ = some (.int .i64 x1) ∧ w'.cell? ⟨W.heap.size + 1, 0, none⟩ = some (.int .i64 y0) ∧ w'.cell? ⟨W.heap.size + 1, 1, none⟩ = some (.int .i64 y1) ∧ Gr W0 w') := fun w' hb => ⟨pw_cell_below hb.below p0, pw_cell_below hb.below p1, pw_cell_below hb.below q0, pw_cell_below hb.below q1, hb⟩
  have HKS := Lib.hid KS
  clear KS
  go_region_held3 (fun w' => (w'.cell? ⟨W.heap.size, 0, none⟩ = some (.int .i64 x0) ∧ w'.cell? ⟨W.heap.size, 1, none⟩ = some (.int .i64 x1) ∧ w'.cell? ⟨W.heap.size + 1, 0, none⟩ = some (.int .i64 y0) ∧ w'.cell? ⟨W.heap.size + 1, 1, none⟩ = some (.int .i64 y1) ∧ Gr W0 w'))
    ((go_split_ands; refine HKS.out _ ?_; repeat (first | exact Gr.refl _ | assumption | refine Gr.drew ?_ | refine Gr.alloc ?_ _)))
  (first
      | (go_at_call 82; refine (cmp82 _ _ _).mono ?_; rintro e w1 ⟨rfl, rfl⟩)
      | (go_at_call 81; go_split_ands; refine (HO.out _).mono ?_; rintro e w1 ⟨rfl, rfl⟩))
  go_split_ands
  go_wp2
  go_ret
  exact ⟨rfl, hA.out.trans (by assumption)⟩
theorem kyI_zero (a b c d : Int) : kyI a b c d = 0 ↔ a = c ∧ b = d := by
  unfold kyI
  split
  · rename_i h
    rw [cmpI_zero] at h ⊢
    exact ⟨fun k => ⟨h, k⟩, fun k => k.2⟩
  · rename_i h
    constructor
    · intro k; exact absurd k h
    · intro k; rw [cmpI_zero] at h; exact absurd k.1 h
theorem bsC_any {w : World} {B c : Nat} {A : Option Addr} {l : List S44} (x : S44) (h : OwC w B (.slice A l.length c) l) (hl : l.length ≤ 1000) (hS : l.Pairwise LtC) :
    Calls Tryz.prog 79 #[.slice A l.length c, .agg (encC x).toArray, .func (.func 80) #[] #[]] w fun e w' => ∃ (i : Nat) (b : Bool), e = .returned (.tuple #[.int .i64 i, .bool b]) ∧ i ≤ l.length ∧ (∀ q, ∀ h : q < l.length, q < i → LtC l[q] x) ∧ (∀ q, ∀ h : q < l.length, i ≤ q → ¬ LtC l[q] x) ∧ (b = true ↔ ∃ y, l[i]? = some y ∧ y.f0 = x.f0 ∧ y.f1 = x.f1) ∧ Below w.heap.size w w' := by
  have hC := fun (y : S44) (W : World) => cmp80 y x W
  have hke : ∀ y : S44, kyI y.f0 y.f1 x.f0 x.f1 < 0 ↔ LtC y x := fun y => kyI_neg ..
  show Calls Tryz.prog 79 #[.slice A l.length c, .agg #[.int .i64 x.f0, .int .i64 x.f1, .string x.f2, .int .i64 x.f3.f0, .int .i64 x.f3.f1, .int .i64 x.f3.f2], .func (.func 80) #[] #[]] w _
  have HC := Lib.hid hC
  have HO := Lib.hid h
  have HS := Lib.hid hS
  have HK := Lib.hid hke
  clear hC h hS hke
  have hb1 := below_alloc (Below.refl w.heap.size w) (Obj.cells #[.int .i64 x.f0, .int .i64 x.f1, .string x.f2, .int .i64 x.f3.f0, .int .i64 x.f3.f1, .int .i64 x.f3.f2] 44 (0, 0))
  have HB1 := Lib.hid hb1
  have HX := Lib.hid (blk_new w (Obj.cells #[.int .i64 x.f0, .int .i64 x.f1, .string x.f2, .int .i64 x.f3.f0, .int .i64 x.f3.f1, .int .i64 x.f3.f2] 44 (0, 0)))
  clear hb1
  go_enter Tryz.func79, Tryz.ntmps79
  go_wp2
  obtain ⟨W0, hW0⟩ : ∃ W0, W0 = w.alloc (Obj.cells #[.int .i64 x.f0, .int .i64 x.f1, .string x.f2, .int .i64 x.f3.f0, .int .i64 x.f3.f1, .int .i64 x.f3.f2] 44 (0, 0)) := ⟨_, rfl⟩
  rw [← hW0] at HB1 HX ⊢
  have HW : Hid (w.heap.size < W0.heap.size) := Lib.hid (by rw [hW0]; show _ < (w.heap.push _).size; simp)
  clear hW0
  go_loopg [9, 10] l.length (fun gg v9 v10 wr => ∃ lo hi : Nat, v9 = .int .i64 lo ∧ v10 = .int .i64 hi ∧ lo ≤ hi ∧ hi ≤ l.length ∧ hi - lo ≤ gg ∧ Hid (Below W0.heap.size W0 wr) ∧ Hid ((∀ q, ∀ h : q < l.length, q < lo → LtC l[q] x) ∧ (∀ q, ∀ h : q < l.length, hi ≤ q → ¬ LtC l[q] x)))
  case atStart => exact ⟨0, l.length, by first | rfl | go_num, rfl, by omega, Nat.le_refl _, by omega, Lib.hid (Below.refl _ _), Lib.hid ⟨fun q _ h => by omega, fun q h1 h2 => by omega⟩⟩
  case round =>
    obtain ⟨lo, hi, rfl, rfl, hlh, hin, hg, HB, HI⟩ := hrel
    have Hg := Lib.hid hg
    clear hg
    obtain ⟨m0, m1, m2, m3, m4, m5⟩ := six (x := x) (blk_below HX.out HB.out)
    by_cases hlt : lo < hi
    · have hm : (lo + hi) / 2 < l.length := by omega
      obtain ⟨g, _, hA, _⟩ := own_form HO.out (by omega)
      subst hA
      obtain ⟨p0, p1, p2, p3, p4, p5, f0, f1, f2, f3, f4, f5⟩ := ocells6 (Ow.below (Ow.below HO.out HB1.out) HB.out) (List.getElem?_eq_getElem hm)
      obtain ⟨y, hy⟩ : ∃ y, y = l[(lo + hi) / 2] := ⟨_, rfl⟩
      rw [← hy] at p0 p1 p2 p3 p4 p5
      have Y := Lib.hid hy
      clear hy f0 f1 f2 f3 f4 f5
      obtain ⟨kk, hkk⟩ : ∃ kk, kk = kyI y.f0 y.f1 x.f0 x.f1 := ⟨_, rfl⟩
      have hcy := HC.out y
      have hky := HK.out y
      rw [← hkk] at hcy hky
      have HCY := Lib.hid hcy
      have HS' := HS
      have hsep : ∀ q (h1 : q < l.length), q < (lo + hi) / 2 → LtC l[q] y := fun q h1 h2 => by
        rw [Y.out]
        exact List.pairwise_iff_getElem.1 HS.out q _ h1 hm h2
      have hsep2 : ∀ q (h1 : q < l.length), (lo + hi) / 2 < q → LtC y l[q] := fun q h1 h2 => by
        rw [Y.out]
        exact List.pairwise_iff_getElem.1 HS.out _ q hm h1 h2
      have HP := Lib.hid (And.intro hsep hsep2)
      clear hcy hkk hsep hsep2
      by_cases hyx : LtC y x
      · have hk0 : kk < 0 := hky.2 hyx
        have HYX := Lib.hid hyx
        clear hky hyx
        have hmz : ((lo : Int) + (hi : Int)) / 2 < (l.length : Int) := by omega
        have hm0 : (0 : Int) ≤ ((lo : Int) + (hi : Int)) / 2 := by omega
        have hmt : (((lo : Int) + (hi : Int)) / 2).toNat = (lo + hi) / 2 := by omega
        go_wp2_with fail
        have KS : ∀ w', Below wr.heap.size wr w' → (w'.cell? ⟨g, (lo + hi) / 2 * 6, none⟩ = some (.int .i64 y.f0) ∧ w'.cell? ⟨g, (lo + hi) / 2 * 6 + 1, none⟩ = some (.int .i64 y.f1) ∧ w'.cell? ⟨g, (lo + hi) / 2 * 6 + 2, none⟩ = some (.string y.f2) ∧ w'.cell? ⟨g, (lo + hi) / 2 * 6 + 3, none⟩ = some (.int .i64 y.f3.f0) ∧ w'.cell? ⟨g, (lo + hi) / 2 * 6 + 4, none⟩ = some (.int .i64 y.f3.f1) ∧ w'.cell? ⟨g, (lo + hi) / 2 * 6 + 5, none⟩ = some (.int .i64 y.f3.f2) ∧ w'.cell? ⟨w.heap.size, 0, none⟩ = some (.int .i64 x.f0) ∧ w'.cell? ⟨w.heap.size, 1, none⟩ = some (.int .i64 x.f1) ∧ w'.cell? ⟨w.heap.size, 2, none⟩ = some (.string x.f2) ∧ w'.cell? ⟨w.heap.size, 3, none⟩ = some (.int .i64 x.f3.f0) ∧ w'.cell? ⟨w.heap.size, 4, none⟩ = some (.int .i64 x.f3.f1) ∧ w'.cell? ⟨w.heap.size, 5, none⟩ = some (.int .i64 x.f3.f2) ∧ Below wr.heap.size wr w') := fun w' hb => ⟨pw_cell_below hb p0, pw_cell_below hb p1, pw_cell_below hb p2, pw_cell_below hb p3, pw_cell_below hb p4, pw_cell_below hb p5, pw_cell_below hb m0, pw_cell_below hb m1, pw_cell_below hb m2, pw_cell_below hb m3, pw_cell_below hb m4, pw_cell_below hb m5, hb⟩
        have HKS := Lib.hid KS
        clear KS
        go_region_held3 (fun w' => (w'.cell? ⟨g, (lo + hi) / 2 * 6, none⟩ = some (.int .i64 y.f0) ∧ w'.cell? ⟨g, (lo + hi) / 2 * 6 + 1, none⟩ = some (.int .i64 y.f1) ∧ w'.cell? ⟨g, (lo + hi) / 2 * 6 + 2, none⟩ = some (.string y.f2) ∧ w'.cell? ⟨g, (lo + hi) / 2 * 6 + 3, none⟩ = some (.int .i64 y.f3.f0) ∧ w'.cell? ⟨g, (lo + hi) / 2 * 6 + 4, none⟩ = some (.int .i64 y.f3.f1) ∧ w'.cell? ⟨g, (lo + hi) / 2 * 6 + 5, none⟩ = some (.int .i64 y.f3.f2) ∧ w'.cell? ⟨w.heap.size, 0, none⟩ = some (.int .i64 x.f0) ∧ w'.cell? ⟨w.heap.size, 1, none⟩ = some (.int .i64 x.f1) ∧ w'.cell? ⟨w.heap.size, 2, none⟩ = some (.string x.f2) ∧ w'.cell? ⟨w.heap.size, 3, none⟩ = some (.int .i64 x.f3.f0) ∧ w'.cell? ⟨w.heap.size, 4, none⟩ = some (.int .i64 x.f3.f1) ∧ w'.cell? ⟨w.heap.size, 5, none⟩ = some (.int .i64 x.f3.f2) ∧ Below wr.heap.size wr w'))
          (first
            | exact HKS.out _ (Below.refl _ _)
            | exact HKS.out _ (below_drew (Below.refl _ _))
            | (go_split_ands; exact HKS.out _ (below_then (by assumption) (Below.size (by assumption)) hbn))
            | (go_split_ands; exact HKS.out _ (below_drew (by assumption)))
            | (go_split_ands; exact HKS.out _ (by assumption)))
          (first
            | (go_at_call 80; go_split_ands; refine (HCY.out _).mono ?_; rintro e w1 ⟨rfl, hg1⟩; have hbn := hg1.below; clear hg1))
        go_split_ands
        have HG1 : Hid (Below wr.heap.size wr _) := Lib.hid (by assumption)
        go_wp2
        go_roundg (hi - ((lo + hi) / 2 + 1))
        case measure => have := Hg.out; omega
        case rel =>
          refine ⟨(lo + hi) / 2 + 1, hi, by rw [show ((lo : Int) + (hi : Int)) / 2 + 1 = (((lo + hi) / 2 + 1 : Nat) : Int) by omega], rfl, by omega, hin, Nat.le_refl _, Lib.hid (below_trans HB.out (below_mono HG1.out HB.out.size)), Lib.hid ⟨fun q h1 h2 => ?_, HI.out.2⟩⟩
          rcases Nat.lt_or_ge q ((lo + hi) / 2) with h3 | h3
          · exact LtC.tr _ _ _ (HP.out.1 q h1 h3) HYX.out
          · obtain rfl : q = (lo + hi) / 2 := by omega
            rw [← Y.out]; exact HYX.out
      · have hk0 : ¬ kk < 0 := fun h => hyx (hky.1 h)
        have HYX := Lib.hid hyx
        clear hky hyx
        have hmz : ((lo : Int) + (hi : Int)) / 2 < (l.length : Int) := by omega
        have hm0 : (0 : Int) ≤ ((lo : Int) + (hi : Int)) / 2 := by omega
        have hmt : (((lo : Int) + (hi : Int)) / 2).toNat = (lo + hi) / 2 := by omega
        go_wp2_with fail
        have KS : ∀ w', Below wr.heap.size wr w' → (w'.cell? ⟨g, (lo + hi) / 2 * 6, none⟩ = some (.int .i64 y.f0) ∧ w'.cell? ⟨g, (lo + hi) / 2 * 6 + 1, none⟩ = some (.int .i64 y.f1) ∧ w'.cell? ⟨g, (lo + hi) / 2 * 6 + 2, none⟩ = some (.string y.f2) ∧ w'.cell? ⟨g, (lo + hi) / 2 * 6 + 3, none⟩ = some (.int .i64 y.f3.f0) ∧ w'.cell? ⟨g, (lo + hi) / 2 * 6 + 4, none⟩ = some (.int .i64 y.f3.f1) ∧ w'.cell? ⟨g, (lo + hi) / 2 * 6 + 5, none⟩ = some (.int .i64 y.f3.f2) ∧ w'.cell? ⟨w.heap.size, 0, none⟩ = some (.int .i64 x.f0) ∧ w'.cell? ⟨w.heap.size, 1, none⟩ = some (.int .i64 x.f1) ∧ w'.cell? ⟨w.heap.size, 2, none⟩ = some (.string x.f2) ∧ w'.cell? ⟨w.heap.size, 3, none⟩ = some (.int .i64 x.f3.f0) ∧ w'.cell? ⟨w.heap.size, 4, none⟩ = some (.int .i64 x.f3.f1) ∧ w'.cell? ⟨w.heap.size, 5, none⟩ = some (.int .i64 x.f3.f2) ∧ Below wr.heap.size wr w') := fun w' hb => ⟨pw_cell_below hb p0, pw_cell_below hb p1, pw_cell_below hb p2, pw_cell_below hb p3, pw_cell_below hb p4, pw_cell_below hb p5, pw_cell_below hb m0, pw_cell_below hb m1, pw_cell_below hb m2, pw_cell_below hb m3, pw_cell_below hb m4, pw_cell_below hb m5, hb⟩
        have HKS := Lib.hid KS
        clear KS
        go_region_held3 (fun w' => (w'.cell? ⟨g, (lo + hi) / 2 * 6, none⟩ = some (.int .i64 y.f0) ∧ w'.cell? ⟨g, (lo + hi) / 2 * 6 + 1, none⟩ = some (.int .i64 y.f1) ∧ w'.cell? ⟨g, (lo + hi) / 2 * 6 + 2, none⟩ = some (.string y.f2) ∧ w'.cell? ⟨g, (lo + hi) / 2 * 6 + 3, none⟩ = some (.int .i64 y.f3.f0) ∧ w'.cell? ⟨g, (lo + hi) / 2 * 6 + 4, none⟩ = some (.int .i64 y.f3.f1) ∧ w'.cell? ⟨g, (lo + hi) / 2 * 6 + 5, none⟩ = some (.int .i64 y.f3.f2) ∧ w'.cell? ⟨w.heap.size, 0, none⟩ = some (.int .i64 x.f0) ∧ w'.cell? ⟨w.heap.size, 1, none⟩ = some (.int .i64 x.f1) ∧ w'.cell? ⟨w.heap.size, 2, none⟩ = some (.string x.f2) ∧ w'.cell? ⟨w.heap.size, 3, none⟩ = some (.int .i64 x.f3.f0) ∧ w'.cell? ⟨w.heap.size, 4, none⟩ = some (.int .i64 x.f3.f1) ∧ w'.cell? ⟨w.heap.size, 5, none⟩ = some (.int .i64 x.f3.f2) ∧ Below wr.heap.size wr w'))
          (first
            | exact HKS.out _ (Below.refl _ _)
            | exact HKS.out _ (below_drew (Below.refl _ _))
            | (go_split_ands; exact HKS.out _ (below_then (by assumption) (Below.size (by assumption)) hbn))
            | (go_split_ands; exact HKS.out _ (below_drew (by assumption)))
            | (go_split_ands; exact HKS.out _ (by assumption)))
          (first
            | (go_at_call 80; go_split_ands; refine (HCY.out _).mono ?_; rintro e w1 ⟨rfl, hg1⟩; have hbn := hg1.below; clear hg1))
        go_split_ands
        have HG1 : Hid (Below wr.heap.size wr _) := Lib.hid (by assumption)
        go_wp2
        go_roundg ((lo + hi) / 2 - lo)
        case measure => have := Hg.out; omega
        case rel =>
          refine ⟨lo, (lo + hi) / 2, rfl, by rw [show ((lo : Int) + (hi : Int)) / 2 = (((lo + hi) / 2 : Nat) : Int) by omega], by omega, by omega, Nat.le_refl _, Lib.hid (below_trans HB.out (below_mono HG1.out HB.out.size)), Lib.hid ⟨HI.out.1, fun q h1 h2 h3 => ?_⟩⟩
          rcases Nat.lt_or_ge ((lo + hi) / 2) q with h4 | h4
          · exact HYX.out (LtC.tr _ _ _ (HP.out.2 q h1 h4) h3)
          · obtain rfl : q = (lo + hi) / 2 := by omega
            rw [← Y.out] at h3; exact HYX.out h3
    · have hlo : hi = lo := by omega
      subst hlo
      by_cases hn : hi < l.length
      · obtain ⟨g, _, hA, _⟩ := own_form HO.out (by omega)
        subst hA
        obtain ⟨p0, p1, p2, p3, p4, p5, f0, f1, f2, f3, f4, f5⟩ := ocells6 (Ow.below (Ow.below HO.out HB1.out) HB.out) (List.getElem?_eq_getElem hn)
        have hy1 : l[hi]? = some l[hi] := List.getElem?_eq_getElem hn
        obtain ⟨y, hy⟩ : ∃ y, y = l[hi] := ⟨_, rfl⟩
        rw [← hy] at p0 p1 p2 p3 p4 p5 hy1
        have Y := Lib.hid hy1
        obtain ⟨kk, hkk⟩ : ∃ kk, kk = kyI y.f0 y.f1 x.f0 x.f1 := ⟨_, rfl⟩
        have hcy := HC.out y
        have hk0 := kyI_zero y.f0 y.f1 x.f0 x.f1
        rw [← hkk] at hcy hk0
        have HCY := Lib.hid hcy
        have HK0 := Lib.hid hk0
        clear hy f0 f1 f2 f3 f4 f5 hcy hkk hk0 hy1
        go_wp2_with fail
        have KS : ∀ w', Below wr.heap.size wr w' → (w'.cell? ⟨g, hi * 6, none⟩ = some (.int .i64 y.f0) ∧ w'.cell? ⟨g, hi * 6 + 1, none⟩ = some (.int .i64 y.f1) ∧ w'.cell? ⟨g, hi * 6 + 2, none⟩ = some (.string y.f2) ∧ w'.cell? ⟨g, hi * 6 + 3, none⟩ = some (.int .i64 y.f3.f0) ∧ w'.cell? ⟨g, hi * 6 + 4, none⟩ = some (.int .i64 y.f3.f1) ∧ w'.cell? ⟨g, hi * 6 + 5, none⟩ = some (.int .i64 y.f3.f2) ∧ w'.cell? ⟨w.heap.size, 0, none⟩ = some (.int .i64 x.f0) ∧ w'.cell? ⟨w.heap.size, 1, none⟩ = some (.int .i64 x.f1) ∧ w'.cell? ⟨w.heap.size, 2, none⟩ = some (.string x.f2) ∧ w'.cell? ⟨w.heap.size, 3, none⟩ = some (.int .i64 x.f3.f0) ∧ w'.cell? ⟨w.heap.size, 4, none⟩ = some (.int .i64 x.f3.f1) ∧ w'.cell? ⟨w.heap.size, 5, none⟩ = some (.int .i64 x.f3.f2) ∧ Below wr.heap.size wr w') := fun w' hb => ⟨pw_cell_below hb p0, pw_cell_below hb p1, pw_cell_below hb p2, pw_cell_below hb p3, pw_cell_below hb p4, pw_cell_below hb p5, pw_cell_below hb m0, pw_cell_below hb m1, pw_cell_below hb m2, pw_cell_below hb m3, pw_cell_below hb m4, pw_cell_below hb m5, hb⟩
        have HKS := Lib.hid KS
        clear KS
        go_region_held3 (fun w' => (w'.cell? ⟨g, hi * 6, none⟩ = some (.int .i64 y.f0) ∧ w'.cell? ⟨g, hi * 6 + 1, none⟩ = some (.int .i64 y.f1) ∧ w'.cell? ⟨g, hi * 6 + 2, none⟩ = some (.string y.f2) ∧ w'.cell? ⟨g, hi * 6 + 3, none⟩ = some (.int .i64 y.f3.f0) ∧ w'.cell? ⟨g, hi * 6 + 4, none⟩ = some (.int .i64 y.f3.f1) ∧ w'.cell? ⟨g, hi * 6 + 5, none⟩ = some (.int .i64 y.f3.f2) ∧ w'.cell? ⟨w.heap.size, 0, none⟩ = some (.int .i64 x.f0) ∧ w'.cell? ⟨w.heap.size, 1, none⟩ = some (.int .i64 x.f1) ∧ w'.cell? ⟨w.heap.size, 2, none⟩ = some (.string x.f2) ∧ w'.cell? ⟨w.heap.size, 3, none⟩ = some (.int .i64 x.f3.f0) ∧ w'.cell? ⟨w.heap.size, 4, none⟩ = some (.int .i64 x.f3.f1) ∧ w'.cell? ⟨w.heap.size, 5, none⟩ = some (.int .i64 x.f3.f2) ∧ Below wr.heap.size wr w'))
          (first
            | exact HKS.out _ (Below.refl _ _)
            | exact HKS.out _ (below_drew (Below.refl _ _))
            | (go_split_ands; exact HKS.out _ (below_then (by assumption) (Below.size (by assumption)) hbn))
            | (go_split_ands; exact HKS.out _ (below_drew (by assumption)))
            | (go_split_ands; exact HKS.out _ (by assumption)))
          (first
            | (go_at_call 80; go_split_ands; refine (HCY.out _).mono ?_; rintro e w1 ⟨rfl, hg1⟩; have hbn := hg1.below; clear hg1))
        go_split_ands
        have HG1 : Hid (Below wr.heap.size wr _) := Lib.hid (by assumption)
        go_wp2
        go_ret2
        refine ⟨hi, decide (kk = 0), by first | rfl | simp [*], by omega, HI.out.1, HI.out.2, ?_, below_trans HB1.out (below_mono (below_trans HB.out (below_mono HG1.out HB.out.size)) (by have := HW.out; omega))⟩
        rw [decide_eq_true_eq, HK0.out]
        rw [Y.out]
        constructor
        · rintro ⟨h1, h2⟩; exact ⟨y, rfl, h1, h2⟩
        · rintro ⟨z, hz, h1, h2⟩; cases hz; exact ⟨h1, h2⟩
      · have hnz : ¬ ((hi : Int) < (l.length : Int)) := by omega
        go_wp2_with fail
        go_region
        go_wp2
        go_ret2
        refine ⟨hi, false, by first | rfl | simp [*], by omega, HI.out.1, HI.out.2, ?_, below_trans HB1.out (below_mono (below_drew HB.out) (Nat.le_of_lt HW.out))⟩
        rw [List.getElem?_eq_none (by omega)]
        simp
end Go.Proofs.YtcofacgdijjnoaaGreat
end
section
namespace Go.Proofs.YtcofacgdijjnoaaGreat
open PE (S31 S44 S49 k44 k49 k31)
open Go.RowKit Go.Shelf Go.Lib Go.Proofs.YtcofacgdijjnoaaGreatW.PrintWords Go.Proofs.YtcofacgdijjnoaaGreatW.PrintLast Go.Proofs.YtcofacgdijjnoaaGreatW.PrintMore
set_option linter.unusedVariables false
set_option linter.unusedSimpArgs false
set_option maxRecDepth 100000
set_option maxHeartbeats 2000000
theorem in_ce {w w2 : World} {B D : Nat} {rt : Int} {wd ht : List Int} {ce ce' : List S44} {me me' : List S49} {A1 A2 A3 A4 : Option Addr} {c1 c2 c3 c4 : Nat} {ce2 : List S44} (hh : w.heap[D]? = some (.cells (shv ⟨A1, c1, A2, c2, A3, c3, A4, c4⟩ ⟨rt, wd, ht, ce, me⟩) 53 (0, 0))) (o1 : OwI w B (.slice A1 wd.length c1) wd) (o2 : OwI w B (.slice A2 ht.length c2) ht) (o3 : OwC w B (.slice A3 ce.length c3) ce') (o4 : OwR w B (.slice A4 me.length c4) me') (hB : B ≤ D) (ho : OwC w2 B (.slice A3 ce.length c3) ce2) (hg : w.grownBy w2 (Value.slice A3 ce.length c3).ownBlock) :
    w2.heap[D]? = some (.cells (shv ⟨A1, c1, A2, c2, A3, c3, A4, c4⟩ ⟨rt, wd, ht, ce, me⟩) 53 (0, 0)) ∧ OwI w2 B (.slice A1 wd.length c1) wd ∧ OwI w2 B (.slice A2 ht.length c2) ht ∧ OwC w2 B (.slice A3 ce.length c3) ce2 ∧ OwR w2 B (.slice A4 me.length c4) me' ∧ Below B w w2 := by
  have hlt := blk_lt hh
  exact ⟨blk_grown hh hg (own_ne o3 hh (by decide)), own_other o1 hg (own_apart o1 o3 (by decide)), own_other o2 hg (own_apart o2 o3 (by decide)), ho, own_other o4 hg (own_apart o4 o3 (by decide)), (Below.refl B w).grown hg (by omega) (own_base o3)⟩
theorem in_me {w w2 : World} {B D : Nat} {rt : Int} {wd ht : List Int} {ce ce' : List S44} {me me' : List S49} {A1 A2 A3 A4 : Option Addr} {c1 c2 c3 c4 : Nat} {me2 : List S49} (hh : w.heap[D]? = some (.cells (shv ⟨A1, c1, A2, c2, A3, c3, A4, c4⟩ ⟨rt, wd, ht, ce, me⟩) 53 (0, 0))) (o1 : OwI w B (.slice A1 wd.length c1) wd) (o2 : OwI w B (.slice A2 ht.length c2) ht) (o3 : OwC w B (.slice A3 ce.length c3) ce') (o4 : OwR w B (.slice A4 me.length c4) me') (hB : B ≤ D) (ho : OwR w2 B (.slice A4 me.length c4) me2) (hg : w.grownBy w2 (Value.slice A4 me.length c4).ownBlock) :
    w2.heap[D]? = some (.cells (shv ⟨A1, c1, A2, c2, A3, c3, A4, c4⟩ ⟨rt, wd, ht, ce, me⟩) 53 (0, 0)) ∧ OwI w2 B (.slice A1 wd.length c1) wd ∧ OwI w2 B (.slice A2 ht.length c2) ht ∧ OwC w2 B (.slice A3 ce.length c3) ce' ∧ OwR w2 B (.slice A4 me.length c4) me2 ∧ Below B w w2 := by
  have hlt := blk_lt hh
  exact ⟨blk_grown hh hg (own_ne o4 hh (by decide)), own_other o1 hg (own_apart o1 o4 (by decide)), own_other o2 hg (own_apart o2 o4 (by decide)), own_other o3 hg (own_apart o3 o4 (by decide)), ho, (Below.refl B w).grown hg (by omega) (own_base o4)⟩
/-- cells and merges lie apart -/
def Dst (s : Sh) : Prop := (s.ce.Pairwise fun a b => LtC a b ∨ LtC b a) ∧ (s.me.Pairwise fun a b => LtR a b ∨ LtR b a) ∧ s.ce.length ≤ 100000 ∧ s.me.length ≤ 100000
theorem sort_open {w : World} {B D : Nat} {rt : Int} {wd ht : List Int} {ce : List S44} {me : List S49} {A1 A2 A3 A4 : Option Addr} {c1 c2 c3 c4 : Nat}
    (hh : w.heap[D]? = some (.cells (shv ⟨A1, c1, A2, c2, A3, c3, A4, c4⟩ ⟨rt, wd, ht, ce, me⟩) 53 (0, 0))) (o1 : OwI w B (.slice A1 wd.length c1) wd) (o2 : OwI w B (.slice A2 ht.length c2) ht) (o3 : OwC w B (.slice A3 ce.length c3) ce) (o4 : OwR w B (.slice A4 me.length c4) me) (hB : B ≤ D) (hd : Dst ⟨rt, wd, ht, ce, me⟩) :
    Calls Tryz.prog 66 #[.pointer (some ⟨D, 0, none⟩)] w fun e w' => e = .returned (.tuple #[]) ∧ w'.heap[D]? = some (.cells (shv ⟨A1, c1, A2, c2, A3, c3, A4, c4⟩ ⟨rt, wd, ht, ce, me⟩) 53 (0, 0)) ∧ OwI w' B (.slice A1 wd.length c1) wd ∧ OwI w' B (.slice A2 ht.length c2) ht ∧ OwC w' B (.slice A3 ce.length c3) (srtC ce) ∧ OwR w' B (.slice A4 me.length c4) (srtR me) ∧ Below B w w' ∧
      ∃ w1, w.grownBy w1 (Value.slice A3 ce.length c3).ownBlock ∧ w1.grownBy w' (Value.slice A4 me.length c4).ownBlock := by
  obtain ⟨p0, p1, p2, p3, p4, f0, f1, f2, f3, f4⟩ := ed5 hh
  obtain ⟨d1, d2, d3, d4⟩ := hd
  try simp only [] at p0 p1 p2 p3 p4
  try simp only [] at d1 d2 d3 d4
  have H1 := Lib.hid (sortC_any o3 d3 d1)
  have HIN := Lib.hid (fun (w2 : World) ce2 => @in_ce w w2 B D rt wd ht ce ce me me A1 A2 A3 A4 c1 c2 c3 c4 ce2 hh o1 o2 o3 o4 hB)
  have HIM := Lib.hid (fun (w1 w2 : World) me2 => @in_me w1 w2 B D rt wd ht ce (srtC ce) me me A1 A2 A3 A4 c1 c2 c3 c4 me2)
  have H2 := Lib.hid (fun (W : World) (o : OwR W B (.slice A4 me.length c4) me) => sortR_any o d4 d2)
  obtain ⟨ce2, ec⟩ : ∃ x, x = srtC ce := ⟨_, rfl⟩
  obtain ⟨me2, em⟩ : ∃ x, x = srtR me := ⟨_, rfl⟩
  try simp only [] at H1 H2
  rw [← ec] at H1 HIM ⊢
  rw [← em] at H2 ⊢
  clear ec em hh o1 o2 o3 o4 d1 d2 d3 d4
  go_enter Tryz.func66, Tryz.ntmps66
  go_wp2_with (first
    | (go_at_call 85; refine H1.out.mono ?_; rintro e w1 ⟨rfl, hov, hgv⟩; obtain ⟨hh1, a1, a2, a3, a4, hb1⟩ := HIN.out _ _ hov hgv; have HH1 := Lib.hid hh1; have HA1 := Lib.hid a1; have HA2 := Lib.hid a2; have HA3 := Lib.hid a3; have HA4 := Lib.hid a4; have HB1 := Lib.hid hb1; have HG1 := Lib.hid hgv; obtain ⟨p0, p1, p2, p3, p4, f0, f1, f2, f3, f4⟩ := ed5 hh1; (try simp only [] at p0 p1 p2 p3 p4); clear hh1 a1 a2 a3 a4 hb1 hov hgv)
    | (go_at_call 87; refine (H2.out _ HA4.out).mono ?_; rintro e w2 ⟨rfl, hov, hgv⟩; have HF := Lib.hid (HIM.out _ _ _ HH1.out HA1.out HA2.out HA3.out HA4.out hB hov hgv); have HG2 := Lib.hid hgv; clear hov hgv))
  go_end0
  obtain ⟨a, b, c, d, e, f⟩ := HF.out
  exact ⟨rfl, a, b, c, d, e, below_trans HB1.out f, _, HG1.out, HG2.out⟩
theorem sort_any {w : World} {B D : Nat} {s : Sh} (hE : Ed w B D s) (hd : Dst s) :
    Calls Tryz.prog 66 #[.pointer (some ⟨D, 0, none⟩)] w fun e w' => e = .returned (.tuple #[]) ∧ Ed w' B D { s with ce := srtC s.ce, me := srtR s.me } ∧ Below B w w' := by
  obtain ⟨⟨A1, c1, A2, c2, A3, c3, A4, c4⟩, hh, o1, o2, o3, o4, hne, hB, hR⟩ := hE.open
  obtain ⟨rt, wd, ht, ce, me⟩ := s
  refine (sort_open hh o1 o2 o3 o4 hB hd).mono ?_
  rintro e w' ⟨rfl, a, b, c, d, f, g, _⟩
  exact ⟨rfl, ⟨_, _, _, _, a, b, c, d, f, hne, hB⟩, g⟩
end Go.Proofs.YtcofacgdijjnoaaGreat
end
section
namespace Go.Proofs.YtcofacgdijjnoaaGreat
open PE (S31 S44 S49 k44 k49 k31)
open Go.RowKit Go.Shelf Go.Lib Go.Proofs.YtcofacgdijjnoaaGreatW.PrintWords Go.Proofs.YtcofacgdijjnoaaGreatW.PrintLast Go.Proofs.YtcofacgdijjnoaaGreatW.PrintMore
set_option linter.unusedVariables false
set_option linter.unusedSimpArgs false
set_option maxRecDepth 100000
set_option maxHeartbeats 2000000
def gon (r : S49) (c : S44) : Bool := decide ((c.f0 ≠ r.f0 ∨ c.f1 ≠ r.f1) ∧ Mt ⟨c.f0, c.f1, 1, 1⟩ r)
theorem t68 {l : List S44} {w : World} {B M : Nat} {r : S49} (hB : w.heap[B]? = some (.cells (encR r).toArray 49 (0, 0))) (hM : w.heap[M]? = some (.cells #[.func (.func 64) #[] #[.pointer (some ⟨B, 0, none⟩)]] 65 (0, 0))) (hr : WR r) (hl : ∀ c ∈ l, WC c) :
    Tells 68 #[.pointer (some ⟨B, 0, none⟩), .pointer (some ⟨M, 0, none⟩)] (fun x => .agg (encC x).toArray) (gon r) l w := by
  intro W x hx hb
  have hBB := blk_alloc (blk_below hB hb) (Obj.cells #[.int .i64 x.f0, .int .i64 x.f1, .string x.f2, .int .i64 x.f3.f0, .int .i64 x.f3.f1, .int .i64 x.f3.f2] 44 (0, 0))
  have hMM := blk_alloc (blk_below hM hb) (Obj.cells #[.int .i64 x.f0, .int .i64 x.f1, .string x.f2, .int .i64 x.f3.f0, .int .i64 x.f3.f1, .int .i64 x.f3.f2] 44 (0, 0))
  obtain ⟨k0, k1, k2, k3⟩ := four hBB
  have km : (W.alloc (Obj.cells #[.int .i64 x.f0, .int .i64 x.f1, .string x.f2, .int .i64 x.f3.f0, .int .i64 x.f3.f1, .int .i64 x.f3.f2] 44 (0, 0))).cell? ⟨M, 0, none⟩ = some (.func (.func 64) #[] #[.pointer (some ⟨B, 0, none⟩)]) := by unfold World.cell?; rw [hMM]; rfl
  obtain ⟨m0, m1, m2, m3, m4, m5⟩ := six (blk_new W (Obj.cells #[.int .i64 x.f0, .int .i64 x.f1, .string x.f2, .int .i64 x.f3.f0, .int .i64 x.f3.f1, .int .i64 x.f3.f2] 44 (0, 0)))
  have hwc := hl x hx
  have hq : WR ⟨x.f0, x.f1, 1, 1⟩ := by unfold WC at hwc; exact ⟨hwc.1, hwc.2, show W6 1 by unfold W6; omega, show W6 1 by unfold W6; omega⟩
  have ht := t64 (l := [⟨x.f0, x.f1, 1, 1⟩]) hBB hr (fun q hq' => by rw [List.mem_singleton] at hq'; rw [hq']; exact hq) (W.alloc (Obj.cells #[.int .i64 x.f0, .int .i64 x.f1, .string x.f2, .int .i64 x.f3.f0, .int .i64 x.f3.f1, .int .i64 x.f3.f2] 44 (0, 0))) ⟨x.f0, x.f1, 1, 1⟩ (List.mem_singleton.mpr rfl) (Below.refl _ _)
  simp only [encR] at ht
  have HA := Lib.hid (below_alloc (Below.refl W.heap.size W) (Obj.cells #[.int .i64 x.f0, .int .i64 x.f1, .string x.f2, .int .i64 x.f3.f0, .int .i64 x.f3.f1, .int .i64 x.f3.f2] 44 (0, 0)))
  obtain ⟨bm, hbm⟩ : ∃ bm, bm = decide (Mt ⟨x.f0, x.f1, 1, 1⟩ r) := ⟨_, rfl⟩
  rw [← hbm] at ht
  have HT := Lib.hid ht
  have HG : Hid (gon r x = (decide (x.f0 ≠ r.f0 ∨ x.f1 ≠ r.f1) && bm)) := Lib.hid (by unfold gon; rw [hbm, Bool.decide_and])
  obtain ⟨g, hg⟩ : ∃ g, g = gon r x := ⟨_, rfl⟩
  show Calls Tryz.prog 68 #[.agg #[.int .i64 x.f0, .int .i64 x.f1, .string x.f2, .int .i64 x.f3.f0, .int .i64 x.f3.f1, .int .i64 x.f3.f2], .pointer (some ⟨B, 0, none⟩), .pointer (some ⟨M, 0, none⟩)] W fun e w' => e = .returned (.bool (gon r x)) ∧ Below W.heap.size W w'
  rw [← hg] at HG ⊢
  clear ht hbm hg hq hwc hBB hMM hB hM hr hl hx hb
  by_cases h0 : x.f0 = r.f0
  · by_cases h1 : x.f1 = r.f1
    · have b0 : (x.f0 != r.f0) = false := by simpa using h0
      have b1 : (x.f1 != r.f1) = false := by simpa using h1
      have HR : Hid (g = false) := Lib.hid (by rw [HG.out, decide_eq_false (by simp [h0, h1])]; rfl)
      clear h0 h1 HG
      go_enter Tryz.func68, Tryz.ntmps68
      go_wp2_with fail
      go_ret
      exact ⟨by rw [HR.out]; rfl, HA.out⟩
    · have b0 : (x.f0 != r.f0) = false := by simpa using h0
      have b1 : (x.f1 != r.f1) = true := by simpa using h1
      have HR : Hid (g = bm) := Lib.hid (by rw [HG.out, decide_eq_true (.inr h1)]; rfl)
      clear h0 h1 HG
      go_enter Tryz.func68, Tryz.ntmps68
      go_wp2_with (go_at_call 64; refine HT.out.mono ?_; rintro e w1 ⟨rfl, hb1⟩)
      go_ret
      exact ⟨by rw [HR.out]; rfl, below_then HA.out HA.out.size hb1⟩
  · have b0 : (x.f0 != r.f0) = true := by simpa using h0
    have HR : Hid (g = bm) := Lib.hid (by rw [HG.out, decide_eq_true (.inl h0)]; rfl)
    clear h0 HG
    go_enter Tryz.func68, Tryz.ntmps68
    go_wp2_with (go_at_call 64; refine HT.out.mono ?_; rintro e w1 ⟨rfl, hb1⟩)
    go_ret
    exact ⟨by rw [HR.out]; rfl, below_then HA.out HA.out.size hb1⟩
/-- a number of rows from one on, below: as the code tells it -/
def wtB (a m b : Int) : Bool := decide (withinF a m b)
theorem within_any {a m b : Int} (ha : W6 a) (hm : W6 m) (hm1 : 1 ≤ m) (hb : 0 ≤ b ∧ b ≤ 1000) (w : World) : Calls Tryz.prog 65 #[.int .i64 a, .int .i64 m, .int .i64 b] w fun e w' => e = .returned (.bool (wtB a m b)) ∧ Below w.heap.size w w' := by
  refine (PE.edit_within.calls a m b (wtB a m b) w ?_).mono fun e w' h => ⟨h.1, h.2.below⟩
  show (if a ≥ 0 then (if m ≤ b then (some (decide (a ≤ (wrap64 (b - m))))) else (some false)) else (some false)) = some (wtB a m b)
  have hw : wrap64 (b - m) = b - m := by unfold W6 at hm; unfold wrap64; omega
  rw [hw]
  unfold wtB withinF
  by_cases h1 : 0 ≤ a
  · rw [if_pos h1]
    by_cases h2 : m ≤ b
    · rw [if_pos h2]; congr 1; exact decide_eq_decide.mpr ⟨fun h => ⟨h1, h2, h⟩, fun h => h.2.2⟩
    · rw [if_neg h2]; congr 1; exact (decide_eq_false fun h => h2 h.2.1).symm
  · rw [if_neg h1]; congr 1; exact (decide_eq_false fun h => h1 h.1).symm
end Go.Proofs.YtcofacgdijjnoaaGreat
end
section
namespace Go.Proofs.YtcofacgdijjnoaaGreat
open PE (S31 S44 S49 k44 k49 k31)
open Go.RowKit Go.Shelf Go.Lib Go.Proofs.YtcofacgdijjnoaaGreatW.PrintWords Go.Proofs.YtcofacgdijjnoaaGreatW.PrintLast Go.Proofs.YtcofacgdijjnoaaGreatW.PrintMore
set_option linter.unusedVariables false
set_option linter.unusedSimpArgs false
set_option maxRecDepth 100000
set_option maxHeartbeats 2000000
theorem rise_len {n : Int} : ∀ (l : List Int) (m : Int), m ≤ n → l.Pairwise (· < ·) → (∀ x ∈ l, m ≤ x ∧ x < n) → (l.length : Int) ≤ n - m
  | [], m, h, _, _ => by simp; omega
  | x :: l, m, h, p, hb => by
      have p' := List.pairwise_cons.mp p
      have hx := hb x (List.mem_cons_self ..)
      have ih := rise_len l (x + 1) (by omega) p'.2 (fun y hy => ⟨by have := p'.1 y hy; omega, (hb y (List.mem_cons_of_mem _ hy)).2⟩)
      simp only [List.length_cons]; omega
theorem cen {s : Sh} (h : OkS s) : s.ce.length ≤ 384 := by
  have h1 : (s.ce.map fun c => c.f0 * 16 + c.f1).Pairwise (· < ·) := by
    rw [List.pairwise_map]
    refine List.Pairwise.imp_of_mem (fun {a b} ha hb k => ?_) h.ceS
    have ea := h.ceE a ha; have eb := h.ceE b hb
    have := h.htn; have := h.wdn
    have := ea.r0; have := ea.r1; have := ea.c0; have := ea.c1; have := eb.r0; have := eb.r1; have := eb.c0; have := eb.c1
    unfold LtC at k; omega
  have h2 := rise_len (n := 384) _ 0 (by omega) h1 (fun x hx => by
    obtain ⟨c, hc, rfl⟩ := List.mem_map.mp hx
    have e := h.ceE c hc
    have := h.htn; have := h.wdn
    have := e.r0; have := e.r1; have := e.c0; have := e.c1
    omega)
  rw [List.length_map] at h2
  omega
theorem step_appR {w : World} {ops : Array Oper} {o : Oper} {a : Act} {Q : Exit → Act → World → Prop} {K : Act → World → Prop} {E : Prop} (hgd : o.guard = none) (s x : Operand)
    (ho : o.op = .call { callee := .builtin .append, args := #[s, x], argTypes := #[24, 24] }) {B c g : Nat} {A : Option Addr} {l : List S49} {r : S49}
    (hs : a.eval s = .slice A l.length c) (hx : a.eval x = .slice (some ⟨g, 0, none⟩) 1 1) (hg : w.heap[g]? = some (.cells (encR r).toArray 49 (0, 0))) (hown : OwR w B (.slice A l.length c) l) (hl : l.length ≤ 1000) (hbase : B ≤ w.heap.size)
    (h : ∀ A' c' w', OwR w' B (.slice A' (l.length + 1) c') (l ++ [r]) → w.grownBy w' (Value.slice A l.length c).ownBlock → ((Value.slice A' (l.length + 1) c').ownBlock = (Value.slice A l.length c).ownBlock ∨ (Value.slice A' (l.length + 1) c').ownBlock = some w.heap.size) → K (a.put o.dst (.slice A' (l.length + 1) c')) w') :
    if Region.wanted o (yielded ops a.tmps) = true then Oper.wp Tryz.prog o a w K Q else E := by
  have hw : Region.wanted o (yielded ops a.tmps) = true := by simp [Region.wanted, hgd]
  rw [if_pos hw]
  obtain ⟨i0, hi0, hz0, hz1, hz2⟩ := info_parts PE.info49
  obtain ⟨v', w', hr, h2, h3, h4, h5⟩ := run_append_own_at (P := Tryz.prog) w B 24 o.type 49 i0 _ 4 32 Tryz.underlying24 hi0 hz0 hz1 hz2 rfl (by decide) _ _ _ hown ⟨g, 0, none⟩ 1 1 (encR r) rfl
    (fun j u hj => by
      rw [Addr.add_lit, cell_of_row _ _ _ _ _ _ hg, Nat.zero_add]
      simpa using hj)
    (fun u hu => by simp [encR] at hu; rcases hu with rfl | rfl | rfl | rfl <;> rfl)
    (by have : (1001 : Nat) ≤ maxLen := by decide
        omega) (by omega) hbase
  have hO : OwR w' B v' (l ++ [r]) := by
    show w'.ownsRow B 49 4 v' (l ++ [r]).length (flt encR (l ++ [r]))
    rw [flt_app, List.length_append]
    exact (by simpa [flt] using h2)
  obtain ⟨A', c', rfl⟩ := ow_slice hO
  rw [List.length_append] at hO hr h5
  unfold Oper.wp execOp
  simp only [ho, resolve, invoke, builtin, Sem.run_bind, Sem.run_pure, Result.andThen_ok, List.map_toArray, List.map_cons, List.map_nil, hs, hx, hr]
  exact h A' c' w' hO h3 h5
/-- cells and merges of a sheet that may be, and one merge more -/
theorem dst_mrg {s : Sh} (h : OkS s) {r : S49} (hm : ∀ q ∈ s.me, ¬ Mt q r) (h2 : 1 ≤ r.f2) (h3 : 1 ≤ r.f3) : Dst { s with me := s.me ++ [r] } := by
  refine ⟨h.ceS.imp fun {a b} k => .inl k, ?_, ?_, ?_⟩
  · show (s.me ++ [r]).Pairwise _
    rw [List.pairwise_append]
    refine ⟨h.meS.imp fun {a b} k => .inl k, by simp, fun a ha b hb => ?_⟩
    rw [List.mem_singleton] at hb; subst hb
    have ne : a.f0 ≠ b.f0 ∨ a.f1 ≠ b.f1 := by
      rcases Classical.em (a.f0 ≠ b.f0 ∨ a.f1 ≠ b.f1) with k | k
      · exact k
      · exfalso
        have := h.meE a ha
        exact hm a ha ⟨⟨this.m, h2, by omega, by have := this.m; omega⟩, ⟨this.n, h3, by omega, by have := this.n; omega⟩⟩
    unfold LtR; omega
  · show s.ce.length ≤ 100000
    exact Nat.le_trans (cen h) (by decide)
  · show (s.me ++ [r]).length ≤ 100000
    rw [List.length_append]
    have := h.men
    simp only [List.length_singleton]; omega
end Go.Proofs.YtcofacgdijjnoaaGreat
end
