/- sheet: more of the tests that are handed to the library: walked. -/
import Derived.Test.YtcofacgdijjnoaaGreatPag
namespace Go.Proofs.YtcofacgdijjnoaaGreat
open PE (S31 S44 S49 k44 k49 k31)
open Go.RowKit Go.Shelf Go.Lib Go.Proofs.YtcofacgdijjnoaaGreatW.PrintWords Go.Proofs.YtcofacgdijjnoaaGreatW.PrintLast Go.Proofs.YtcofacgdijjnoaaGreatW.PrintMore
set_option linter.unusedVariables false
set_option linter.unusedSimpArgs false
set_option maxRecDepth 100000
set_option maxHeartbeats 2000000
theorem order_any {w : World} {V : SV} {s : Sh} (h : Rd w V s) : Calls Tryz.prog 21 #[.agg (shv V s)] w fun e w' => e = .returned (.bool (ordB s)) ∧ Below w.heap.size w w' := by
  have hn := blk_new w (Obj.cells (shv V s) 26 (0, 0))
  have hA := below_alloc (Below.refl w.heap.size w) (Obj.cells (shv V s) 26 (0, 0))
  have hR := h.below hA
  have c1' := fun W' (hb : Below _ (w.alloc (Obj.cells (shv V s) 26 (0, 0))) W') => sizes_any (c := V.c1) (hR.below hb).h1
  have c2' := fun W' (hb : Below _ (w.alloc (Obj.cells (shv V s) 26 (0, 0))) W') => sizes_any (c := V.c2) (hR.below hb).h2
  have c3' := fun W' (hb : Below _ (w.alloc (Obj.cells (shv V s) 26 (0, 0))) W') => riseC_any (c := V.c3) (hR.below hb).h3
  have c4' := fun W' (hb : Below _ (w.alloc (Obj.cells (shv V s) 26 (0, 0))) W') => riseR_any (c := V.c4) (hR.below hb).h4
  have c5' := fun W' (hb : Below _ (w.alloc (Obj.cells (shv V s) 26 (0, 0))) W') => anyC V.A3 s.ce.length V.c3 s.ce badC 55 #[] (enters_of Tryz.func55 (by kernel_rfl) rfl) W' (hR.below hb).h3 (t55 s.ce W')
  have c6' := fun W' (hb : Below _ (w.alloc (Obj.cells (shv V s) 26 (0, 0))) W') => anyR V.A4 s.me.length V.c4 s.me smlR 57 #[] (enters_of Tryz.func57 (by kernel_rfl) rfl) W' (hR.below hb).h4 (t57 s.me W')
  have hL : ordB s = (decide (0 ≤ s.rt) && decide (s.rt ≤ 1) && siz s.wd && siz s.ht && chn LtC s.ce && chn LtR s.me && !s.ce.any badC && !s.me.any smlR) := rfl
  obtain ⟨b1, hb1⟩ : ∃ b, b = siz s.wd := ⟨_, rfl⟩
  rw [← hb1] at c1' hL
  obtain ⟨b2, hb2⟩ : ∃ b, b = siz s.ht := ⟨_, rfl⟩
  rw [← hb2] at c2' hL
  obtain ⟨b3, hb3⟩ : ∃ b, b = chn LtC s.ce := ⟨_, rfl⟩
  rw [← hb3] at c3' hL
  obtain ⟨b4, hb4⟩ : ∃ b, b = chn LtR s.me := ⟨_, rfl⟩
  rw [← hb4] at c4' hL
  obtain ⟨b5, hb5⟩ : ∃ b, b = s.ce.any badC := ⟨_, rfl⟩
  rw [← hb5] at c5' hL
  obtain ⟨b6, hb6⟩ : ∃ b, b = s.me.any smlR := ⟨_, rfl⟩
  rw [← hb6] at c6' hL
  have HL := Lib.hid hL
  clear h hR hL hb1 hb2 hb3 hb4 hb5 hb6
  obtain ⟨A1, c1, A2, c2, A3, c3, A4, c4⟩ := V
  obtain ⟨rt, wd, ht, ce, me⟩ := s
  simp only [shv] at hA hn c1' c2' c3' c4' c5' c6'
  have H1 := Lib.hid c1'
  have H2 := Lib.hid c2'
  have H3 := Lib.hid c3'
  have H4 := Lib.hid c4'
  have H5 := Lib.hid c5'
  have H6 := Lib.hid c6'
  have HA := Lib.hid hA
  have HB0 := Lib.hid (Below.refl (w.alloc (Obj.cells #[.int .i64 rt, .slice A1 wd.length c1, .slice A2 ht.length c2, .slice A3 ce.length c3, .slice A4 me.length c4] 26 (0, 0))).heap.size (w.alloc (Obj.cells #[.int .i64 rt, .slice A1 wd.length c1, .slice A2 ht.length c2, .slice A3 ce.length c3, .slice A4 me.length c4] 26 (0, 0))))
  obtain ⟨y0, y1, y2, y3, y4⟩ := five (V := ⟨A1, c1, A2, c2, A3, c3, A4, c4⟩) (s := ⟨rt, wd, ht, ce, me⟩) hn
  have HN0 : Hid ((w.alloc (Obj.cells #[.int .i64 rt, .slice A1 wd.length c1, .slice A2 ht.length c2, .slice A3 ce.length c3, .slice A4 me.length c4] 26 (0, 0))).heap[w.heap.size]? = some (.cells (shv ⟨A1, c1, A2, c2, A3, c3, A4, c4⟩ ⟨rt, wd, ht, ce, me⟩) 26 (0, 0))) := Lib.hid hn
  clear hA hn c1' c2' c3' c4' c5' c6'
  show Calls Tryz.prog 21 #[.agg #[.int .i64 rt, .slice A1 wd.length c1, .slice A2 ht.length c2, .slice A3 ce.length c3, .slice A4 me.length c4]] w _
  by_cases h0 : rt < 0
  · have HL := Lib.hid (show ordB ⟨rt, wd, ht, ce, me⟩ = false by rw [HL.out, decide_eq_false (show ¬ (0 ≤ rt) by omega)]; rfl)
    go_enter Tryz.func21, Tryz.ntmps21
    go_wp2_with (first
      | (go_at_call 52; with_reducible refine (H1.out _ HB0.out).mono ?_; rintro e w1 ⟨rfl, hbn⟩; obtain ⟨_, y1, y2, y3, y4⟩ := five (blk_below HN0.out hbn); have HN1 := Lib.hid (blk_below HN0.out hbn); have HB1 := Lib.hid (below_then HB0.out HB0.out.size hbn); clear hbn)
      | (go_at_call 52; with_reducible refine (H2.out _ HB1.out).mono ?_; rintro e w2 ⟨rfl, hbn⟩; obtain ⟨_, y1, y2, y3, y4⟩ := five (blk_below HN1.out hbn); have HN2 := Lib.hid (blk_below HN1.out hbn); have HB2 := Lib.hid (below_then HB1.out HB1.out.size hbn); clear hbn)
      | (go_at_call 53; with_reducible refine (H3.out _ HB2.out).mono ?_; rintro e w3 ⟨rfl, hbn⟩; obtain ⟨_, y1, y2, y3, y4⟩ := five (blk_below HN2.out hbn); have HN3 := Lib.hid (blk_below HN2.out hbn); have HB3 := Lib.hid (below_then HB2.out HB2.out.size hbn); clear hbn)
      | (go_at_call 54; with_reducible refine (H4.out _ HB3.out).mono ?_; rintro e w4 ⟨rfl, hbn⟩; obtain ⟨_, y1, y2, y3, y4⟩ := five (blk_below HN3.out hbn); have HN4 := Lib.hid (blk_below HN3.out hbn); have HB4 := Lib.hid (below_then HB3.out HB3.out.size hbn); clear hbn)
      | (go_at_call 22; with_reducible refine (H5.out _ HB4.out).mono ?_; rintro e w5 ⟨rfl, hbn⟩; obtain ⟨_, y1, y2, y3, y4⟩ := five (blk_below HN4.out hbn); have HN5 := Lib.hid (blk_below HN4.out hbn); have HB5 := Lib.hid (below_then HB4.out HB4.out.size hbn); clear hbn)
      | (go_at_call 26; with_reducible refine (H6.out _ HB5.out).mono ?_; rintro e w6 ⟨rfl, hbn⟩; obtain ⟨_, y1, y2, y3, y4⟩ := five (blk_below HN5.out hbn); have HN6 := Lib.hid (blk_below HN5.out hbn); have HB6 := Lib.hid (below_then HB5.out HB5.out.size hbn); clear hbn))
    go_ret
    exact ⟨by rw [HL.out]; rfl, HA.out⟩
  by_cases h1 : rt > 1
  · have HL := Lib.hid (show ordB ⟨rt, wd, ht, ce, me⟩ = false by rw [HL.out, decide_eq_false (show ¬ (rt ≤ 1) by omega), Bool.and_false]; rfl)
    go_enter Tryz.func21, Tryz.ntmps21
    go_wp2_with (first
      | (go_at_call 52; with_reducible refine (H1.out _ HB0.out).mono ?_; rintro e w1 ⟨rfl, hbn⟩; obtain ⟨_, y1, y2, y3, y4⟩ := five (blk_below HN0.out hbn); have HN1 := Lib.hid (blk_below HN0.out hbn); have HB1 := Lib.hid (below_then HB0.out HB0.out.size hbn); clear hbn)
      | (go_at_call 52; with_reducible refine (H2.out _ HB1.out).mono ?_; rintro e w2 ⟨rfl, hbn⟩; obtain ⟨_, y1, y2, y3, y4⟩ := five (blk_below HN1.out hbn); have HN2 := Lib.hid (blk_below HN1.out hbn); have HB2 := Lib.hid (below_then HB1.out HB1.out.size hbn); clear hbn)
      | (go_at_call 53; with_reducible refine (H3.out _ HB2.out).mono ?_; rintro e w3 ⟨rfl, hbn⟩; obtain ⟨_, y1, y2, y3, y4⟩ := five (blk_below HN2.out hbn); have HN3 := Lib.hid (blk_below HN2.out hbn); have HB3 := Lib.hid (below_then HB2.out HB2.out.size hbn); clear hbn)
      | (go_at_call 54; with_reducible refine (H4.out _ HB3.out).mono ?_; rintro e w4 ⟨rfl, hbn⟩; obtain ⟨_, y1, y2, y3, y4⟩ := five (blk_below HN3.out hbn); have HN4 := Lib.hid (blk_below HN3.out hbn); have HB4 := Lib.hid (below_then HB3.out HB3.out.size hbn); clear hbn)
      | (go_at_call 22; with_reducible refine (H5.out _ HB4.out).mono ?_; rintro e w5 ⟨rfl, hbn⟩; obtain ⟨_, y1, y2, y3, y4⟩ := five (blk_below HN4.out hbn); have HN5 := Lib.hid (blk_below HN4.out hbn); have HB5 := Lib.hid (below_then HB4.out HB4.out.size hbn); clear hbn)
      | (go_at_call 26; with_reducible refine (H6.out _ HB5.out).mono ?_; rintro e w6 ⟨rfl, hbn⟩; obtain ⟨_, y1, y2, y3, y4⟩ := five (blk_below HN5.out hbn); have HN6 := Lib.hid (blk_below HN5.out hbn); have HB6 := Lib.hid (below_then HB5.out HB5.out.size hbn); clear hbn))
    go_ret
    exact ⟨by rw [HL.out]; rfl, HA.out⟩
  replace HL := Lib.hid (show ordB ⟨rt, wd, ht, ce, me⟩ = (b1 && b2 && b3 && b4 && !b5 && !b6) by rw [HL.out, decide_eq_true (show 0 ≤ rt by omega), decide_eq_true (show rt ≤ 1 by omega), Bool.true_and, Bool.true_and])
  cases b1 with
  | false =>
    replace HL := Lib.hid (show ordB ⟨rt, wd, ht, ce, me⟩ = false by rw [HL.out]; simp)
    go_enter Tryz.func21, Tryz.ntmps21
    go_wp2_with (first
      | (go_at_call 52; with_reducible refine (H1.out _ HB0.out).mono ?_; rintro e w1 ⟨rfl, hbn⟩; obtain ⟨_, y1, y2, y3, y4⟩ := five (blk_below HN0.out hbn); have HN1 := Lib.hid (blk_below HN0.out hbn); have HB1 := Lib.hid (below_then HB0.out HB0.out.size hbn); clear hbn)
      | (go_at_call 52; with_reducible refine (H2.out _ HB1.out).mono ?_; rintro e w2 ⟨rfl, hbn⟩; obtain ⟨_, y1, y2, y3, y4⟩ := five (blk_below HN1.out hbn); have HN2 := Lib.hid (blk_below HN1.out hbn); have HB2 := Lib.hid (below_then HB1.out HB1.out.size hbn); clear hbn)
      | (go_at_call 53; with_reducible refine (H3.out _ HB2.out).mono ?_; rintro e w3 ⟨rfl, hbn⟩; obtain ⟨_, y1, y2, y3, y4⟩ := five (blk_below HN2.out hbn); have HN3 := Lib.hid (blk_below HN2.out hbn); have HB3 := Lib.hid (below_then HB2.out HB2.out.size hbn); clear hbn)
      | (go_at_call 54; with_reducible refine (H4.out _ HB3.out).mono ?_; rintro e w4 ⟨rfl, hbn⟩; obtain ⟨_, y1, y2, y3, y4⟩ := five (blk_below HN3.out hbn); have HN4 := Lib.hid (blk_below HN3.out hbn); have HB4 := Lib.hid (below_then HB3.out HB3.out.size hbn); clear hbn)
      | (go_at_call 22; with_reducible refine (H5.out _ HB4.out).mono ?_; rintro e w5 ⟨rfl, hbn⟩; obtain ⟨_, y1, y2, y3, y4⟩ := five (blk_below HN4.out hbn); have HN5 := Lib.hid (blk_below HN4.out hbn); have HB5 := Lib.hid (below_then HB4.out HB4.out.size hbn); clear hbn)
      | (go_at_call 26; with_reducible refine (H6.out _ HB5.out).mono ?_; rintro e w6 ⟨rfl, hbn⟩; obtain ⟨_, y1, y2, y3, y4⟩ := five (blk_below HN5.out hbn); have HN6 := Lib.hid (blk_below HN5.out hbn); have HB6 := Lib.hid (below_then HB5.out HB5.out.size hbn); clear hbn))
    go_ret
    exact ⟨by rw [HL.out]; rfl, below_then HA.out HA.out.size HB1.out⟩
  | true =>
    cases b2 with
    | false =>
      replace HL := Lib.hid (show ordB ⟨rt, wd, ht, ce, me⟩ = false by rw [HL.out]; simp)
      go_enter Tryz.func21, Tryz.ntmps21
      go_wp2_with (first
      | (go_at_call 52; with_reducible refine (H1.out _ HB0.out).mono ?_; rintro e w1 ⟨rfl, hbn⟩; obtain ⟨_, y1, y2, y3, y4⟩ := five (blk_below HN0.out hbn); have HN1 := Lib.hid (blk_below HN0.out hbn); have HB1 := Lib.hid (below_then HB0.out HB0.out.size hbn); clear hbn)
      | (go_at_call 52; with_reducible refine (H2.out _ HB1.out).mono ?_; rintro e w2 ⟨rfl, hbn⟩; obtain ⟨_, y1, y2, y3, y4⟩ := five (blk_below HN1.out hbn); have HN2 := Lib.hid (blk_below HN1.out hbn); have HB2 := Lib.hid (below_then HB1.out HB1.out.size hbn); clear hbn)
      | (go_at_call 53; with_reducible refine (H3.out _ HB2.out).mono ?_; rintro e w3 ⟨rfl, hbn⟩; obtain ⟨_, y1, y2, y3, y4⟩ := five (blk_below HN2.out hbn); have HN3 := Lib.hid (blk_below HN2.out hbn); have HB3 := Lib.hid (below_then HB2.out HB2.out.size hbn); clear hbn)
      | (go_at_call 54; with_reducible refine (H4.out _ HB3.out).mono ?_; rintro e w4 ⟨rfl, hbn⟩; obtain ⟨_, y1, y2, y3, y4⟩ := five (blk_below HN3.out hbn); have HN4 := Lib.hid (blk_below HN3.out hbn); have HB4 := Lib.hid (below_then HB3.out HB3.out.size hbn); clear hbn)
      | (go_at_call 22; with_reducible refine (H5.out _ HB4.out).mono ?_; rintro e w5 ⟨rfl, hbn⟩; obtain ⟨_, y1, y2, y3, y4⟩ := five (blk_below HN4.out hbn); have HN5 := Lib.hid (blk_below HN4.out hbn); have HB5 := Lib.hid (below_then HB4.out HB4.out.size hbn); clear hbn)
      | (go_at_call 26; with_reducible refine (H6.out _ HB5.out).mono ?_; rintro e w6 ⟨rfl, hbn⟩; obtain ⟨_, y1, y2, y3, y4⟩ := five (blk_below HN5.out hbn); have HN6 := Lib.hid (blk_below HN5.out hbn); have HB6 := Lib.hid (below_then HB5.out HB5.out.size hbn); clear hbn))
      go_ret
      exact ⟨by rw [HL.out]; rfl, below_then HA.out HA.out.size HB2.out⟩
    | true =>
      cases b3 with
      | false =>
        replace HL := Lib.hid (show ordB ⟨rt, wd, ht, ce, me⟩ = false by rw [HL.out]; simp)
        go_enter Tryz.func21, Tryz.ntmps21
        go_wp2_with (first
      | (go_at_call 52; with_reducible refine (H1.out _ HB0.out).mono ?_; rintro e w1 ⟨rfl, hbn⟩; obtain ⟨_, y1, y2, y3, y4⟩ := five (blk_below HN0.out hbn); have HN1 := Lib.hid (blk_below HN0.out hbn); have HB1 := Lib.hid (below_then HB0.out HB0.out.size hbn); clear hbn)
      | (go_at_call 52; with_reducible refine (H2.out _ HB1.out).mono ?_; rintro e w2 ⟨rfl, hbn⟩; obtain ⟨_, y1, y2, y3, y4⟩ := five (blk_below HN1.out hbn); have HN2 := Lib.hid (blk_below HN1.out hbn); have HB2 := Lib.hid (below_then HB1.out HB1.out.size hbn); clear hbn)
      | (go_at_call 53; with_reducible refine (H3.out _ HB2.out).mono ?_; rintro e w3 ⟨rfl, hbn⟩; obtain ⟨_, y1, y2, y3, y4⟩ := five (blk_below HN2.out hbn); have HN3 := Lib.hid (blk_below HN2.out hbn); have HB3 := Lib.hid (below_then HB2.out HB2.out.size hbn); clear hbn)
      | (go_at_call 54; with_reducible refine (H4.out _ HB3.out).mono ?_; rintro e w4 ⟨rfl, hbn⟩; obtain ⟨_, y1, y2, y3, y4⟩ := five (blk_below HN3.out hbn); have HN4 := Lib.hid (blk_below HN3.out hbn); have HB4 := Lib.hid (below_then HB3.out HB3.out.size hbn); clear hbn)
      | (go_at_call 22; with_reducible refine (H5.out _ HB4.out).mono ?_; rintro e w5 ⟨rfl, hbn⟩; obtain ⟨_, y1, y2, y3, y4⟩ := five (blk_below HN4.out hbn); have HN5 := Lib.hid (blk_below HN4.out hbn); have HB5 := Lib.hid (below_then HB4.out HB4.out.size hbn); clear hbn)
      | (go_at_call 26; with_reducible refine (H6.out _ HB5.out).mono ?_; rintro e w6 ⟨rfl, hbn⟩; obtain ⟨_, y1, y2, y3, y4⟩ := five (blk_below HN5.out hbn); have HN6 := Lib.hid (blk_below HN5.out hbn); have HB6 := Lib.hid (below_then HB5.out HB5.out.size hbn); clear hbn))
        go_ret
        exact ⟨by rw [HL.out]; rfl, below_then HA.out HA.out.size HB3.out⟩
      | true =>
        cases b4 with
        | false =>
          replace HL := Lib.hid (show ordB ⟨rt, wd, ht, ce, me⟩ = false by rw [HL.out]; simp)
          go_enter Tryz.func21, Tryz.ntmps21
          go_wp2_with (first
      | (go_at_call 52; with_reducible refine (H1.out _ HB0.out).mono ?_; rintro e w1 ⟨rfl, hbn⟩; obtain ⟨_, y1, y2, y3, y4⟩ := five (blk_below HN0.out hbn); have HN1 := Lib.hid (blk_below HN0.out hbn); have HB1 := Lib.hid (below_then HB0.out HB0.out.size hbn); clear hbn)
      | (go_at_call 52; with_reducible refine (H2.out _ HB1.out).mono ?_; rintro e w2 ⟨rfl, hbn⟩; obtain ⟨_, y1, y2, y3, y4⟩ := five (blk_below HN1.out hbn); have HN2 := Lib.hid (blk_below HN1.out hbn); have HB2 := Lib.hid (below_then HB1.out HB1.out.size hbn); clear hbn)
      | (go_at_call 53; with_reducible refine (H3.out _ HB2.out).mono ?_; rintro e w3 ⟨rfl, hbn⟩; obtain ⟨_, y1, y2, y3, y4⟩ := five (blk_below HN2.out hbn); have HN3 := Lib.hid (blk_below HN2.out hbn); have HB3 := Lib.hid (below_then HB2.out HB2.out.size hbn); clear hbn)
      | (go_at_call 54; with_reducible refine (H4.out _ HB3.out).mono ?_; rintro e w4 ⟨rfl, hbn⟩; obtain ⟨_, y1, y2, y3, y4⟩ := five (blk_below HN3.out hbn); have HN4 := Lib.hid (blk_below HN3.out hbn); have HB4 := Lib.hid (below_then HB3.out HB3.out.size hbn); clear hbn)
      | (go_at_call 22; with_reducible refine (H5.out _ HB4.out).mono ?_; rintro e w5 ⟨rfl, hbn⟩; obtain ⟨_, y1, y2, y3, y4⟩ := five (blk_below HN4.out hbn); have HN5 := Lib.hid (blk_below HN4.out hbn); have HB5 := Lib.hid (below_then HB4.out HB4.out.size hbn); clear hbn)
      | (go_at_call 26; with_reducible refine (H6.out _ HB5.out).mono ?_; rintro e w6 ⟨rfl, hbn⟩; obtain ⟨_, y1, y2, y3, y4⟩ := five (blk_below HN5.out hbn); have HN6 := Lib.hid (blk_below HN5.out hbn); have HB6 := Lib.hid (below_then HB5.out HB5.out.size hbn); clear hbn))
          go_ret
          exact ⟨by rw [HL.out]; rfl, below_then HA.out HA.out.size HB4.out⟩
        | true =>
          replace HL := Lib.hid (show ordB ⟨rt, wd, ht, ce, me⟩ = (!b5 && !b6) by rw [HL.out]; rfl)
          cases b5 with
          | true =>
            go_enter Tryz.func21, Tryz.ntmps21
            go_wp2_with (first
      | (go_at_call 52; with_reducible refine (H1.out _ HB0.out).mono ?_; rintro e w1 ⟨rfl, hbn⟩; obtain ⟨_, y1, y2, y3, y4⟩ := five (blk_below HN0.out hbn); have HN1 := Lib.hid (blk_below HN0.out hbn); have HB1 := Lib.hid (below_then HB0.out HB0.out.size hbn); clear hbn)
      | (go_at_call 52; with_reducible refine (H2.out _ HB1.out).mono ?_; rintro e w2 ⟨rfl, hbn⟩; obtain ⟨_, y1, y2, y3, y4⟩ := five (blk_below HN1.out hbn); have HN2 := Lib.hid (blk_below HN1.out hbn); have HB2 := Lib.hid (below_then HB1.out HB1.out.size hbn); clear hbn)
      | (go_at_call 53; with_reducible refine (H3.out _ HB2.out).mono ?_; rintro e w3 ⟨rfl, hbn⟩; obtain ⟨_, y1, y2, y3, y4⟩ := five (blk_below HN2.out hbn); have HN3 := Lib.hid (blk_below HN2.out hbn); have HB3 := Lib.hid (below_then HB2.out HB2.out.size hbn); clear hbn)
      | (go_at_call 54; with_reducible refine (H4.out _ HB3.out).mono ?_; rintro e w4 ⟨rfl, hbn⟩; obtain ⟨_, y1, y2, y3, y4⟩ := five (blk_below HN3.out hbn); have HN4 := Lib.hid (blk_below HN3.out hbn); have HB4 := Lib.hid (below_then HB3.out HB3.out.size hbn); clear hbn)
      | (go_at_call 22; with_reducible refine (H5.out _ HB4.out).mono ?_; rintro e w5 ⟨rfl, hbn⟩; obtain ⟨_, y1, y2, y3, y4⟩ := five (blk_below HN4.out hbn); have HN5 := Lib.hid (blk_below HN4.out hbn); have HB5 := Lib.hid (below_then HB4.out HB4.out.size hbn); clear hbn)
      | (go_at_call 26; with_reducible refine (H6.out _ HB5.out).mono ?_; rintro e w6 ⟨rfl, hbn⟩; obtain ⟨_, y1, y2, y3, y4⟩ := five (blk_below HN5.out hbn); have HN6 := Lib.hid (blk_below HN5.out hbn); have HB6 := Lib.hid (below_then HB5.out HB5.out.size hbn); clear hbn))
            go_ret
            exact ⟨by rw [HL.out]; rfl, below_then HA.out HA.out.size HB6.out⟩
          | false =>
            go_enter Tryz.func21, Tryz.ntmps21
            go_wp2_with (first
      | (go_at_call 52; with_reducible refine (H1.out _ HB0.out).mono ?_; rintro e w1 ⟨rfl, hbn⟩; obtain ⟨_, y1, y2, y3, y4⟩ := five (blk_below HN0.out hbn); have HN1 := Lib.hid (blk_below HN0.out hbn); have HB1 := Lib.hid (below_then HB0.out HB0.out.size hbn); clear hbn)
      | (go_at_call 52; with_reducible refine (H2.out _ HB1.out).mono ?_; rintro e w2 ⟨rfl, hbn⟩; obtain ⟨_, y1, y2, y3, y4⟩ := five (blk_below HN1.out hbn); have HN2 := Lib.hid (blk_below HN1.out hbn); have HB2 := Lib.hid (below_then HB1.out HB1.out.size hbn); clear hbn)
      | (go_at_call 53; with_reducible refine (H3.out _ HB2.out).mono ?_; rintro e w3 ⟨rfl, hbn⟩; obtain ⟨_, y1, y2, y3, y4⟩ := five (blk_below HN2.out hbn); have HN3 := Lib.hid (blk_below HN2.out hbn); have HB3 := Lib.hid (below_then HB2.out HB2.out.size hbn); clear hbn)
      | (go_at_call 54; with_reducible refine (H4.out _ HB3.out).mono ?_; rintro e w4 ⟨rfl, hbn⟩; obtain ⟨_, y1, y2, y3, y4⟩ := five (blk_below HN3.out hbn); have HN4 := Lib.hid (blk_below HN3.out hbn); have HB4 := Lib.hid (below_then HB3.out HB3.out.size hbn); clear hbn)
      | (go_at_call 22; with_reducible refine (H5.out _ HB4.out).mono ?_; rintro e w5 ⟨rfl, hbn⟩; obtain ⟨_, y1, y2, y3, y4⟩ := five (blk_below HN4.out hbn); have HN5 := Lib.hid (blk_below HN4.out hbn); have HB5 := Lib.hid (below_then HB4.out HB4.out.size hbn); clear hbn)
      | (go_at_call 26; with_reducible refine (H6.out _ HB5.out).mono ?_; rintro e w6 ⟨rfl, hbn⟩; obtain ⟨_, y1, y2, y3, y4⟩ := five (blk_below HN5.out hbn); have HN6 := Lib.hid (blk_below HN5.out hbn); have HB6 := Lib.hid (below_then HB5.out HB5.out.size hbn); clear hbn))
            go_ret
            exact ⟨by rw [HL.out]; rfl, below_then HA.out HA.out.size HB6.out⟩
end Go.Proofs.YtcofacgdijjnoaaGreat
