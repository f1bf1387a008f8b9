/- sheet: more of the tests that are handed to the library: walked. -/
import Derived.Test.YtcofacgdijjnoaaGreatPai
namespace Go.Proofs.YtcofacgdijjnoaaGreat
open PE (S31 S44 S49 k44 k49 k31)
open Go.RowKit Go.Shelf Go.Lib Go.Proofs.YtcofacgdijjnoaaGreatW.PrintWords Go.Proofs.YtcofacgdijjnoaaGreatW.PrintLast Go.Proofs.YtcofacgdijjnoaaGreatW.PrintMore
set_option linter.unusedVariables false
set_option linter.unusedSimpArgs false
set_option maxRecDepth 100000
set_option maxHeartbeats 2000000
theorem region_any {w : World} {V : SV} {s : Sh} (h : Rd w V s) (hw : WS s) {i j : Int} (hi : W6 i) (hj : W6 j) :
    Calls Tryz.prog 33 #[.agg (shv V s), .int .i64 i, .int .i64 j] w fun e w' => e = .returned (.tuple #[.agg (encR (reg s i j).1).toArray, .int .i64 (reg s i j).2]) ∧ Below w.heap.size w w' := by
  have hn := blk_new w (Obj.cells (shv V s) 26 (0, 0))
  have hA := below_alloc (Below.refl w.heap.size w) (Obj.cells (shv V s) 26 (0, 0))
  have hR := h.below hA
  have c1' := fun W' (hb : Below (w.alloc (Obj.cells (shv V s) 26 (0, 0))).heap.size (w.alloc (Obj.cells (shv V s) 26 (0, 0))) W') => check_any (hR.below hb) hw
  have c2' := fun W' (hb : Below (w.alloc (Obj.cells (shv V s) 26 (0, 0))).heap.size (w.alloc (Obj.cells (shv V s) 26 (0, 0))) W') => one_any i j W'
  have c3' := fun W' (hb : Below (w.alloc (Obj.cells (shv V s) 26 (0, 0))).heap.size (w.alloc (Obj.cells (shv V s) 26 (0, 0))) W') => has_any (hR.below hb) (one i j) (by show (0:Int) ≤ 1; decide) (by show (0:Int) ≤ 1; decide)
  have c4' := fun W' (hb : Below (w.alloc (Obj.cells (shv V s) 26 (0, 0))).heap.size (w.alloc (Obj.cells (shv V s) 26 (0, 0))) W') => around_any (hR.below hb) hi hj hw.2
  have hL : reg s i j = if chk s ≠ 0 then (PE.z49, 1) else if hasB s.ht.length s.wd.length (one i j) = false then (PE.z49, 4) else (aro s.me i j, 0) := rfl
  obtain ⟨x1, hx1⟩ : ∃ b, b = chk s := ⟨_, rfl⟩
  obtain ⟨r1, hr1⟩ : ∃ b, b = one i j := ⟨_, rfl⟩
  rw [← hr1] at c2' c3' hL
  obtain ⟨b3, hb3⟩ : ∃ b, b = hasB s.ht.length s.wd.length r1 := ⟨_, rfl⟩
  obtain ⟨r4, hr4⟩ : ∃ b, b = aro s.me i j := ⟨_, rfl⟩
  rw [← hx1] at c1' hL
  rw [← hb3] at c3' hL
  rw [← hr4] at c4' hL
  obtain ⟨rr, hrr⟩ : ∃ b, b = reg s i j := ⟨_, rfl⟩
  rw [← hrr] at hL ⊢
  have HL := Lib.hid hL
  clear h hR hL hx1 hr1 hb3 hr4 hw hi hj hrr
  obtain ⟨A1, c1, A2, c2, A3, c3, A4, c4⟩ := V
  obtain ⟨rt, wd, ht, ce, me⟩ := s
  simp only [shv, encR] at hA hn c1' c2' c3' c4'
  have H1 := Lib.hid c1'
  have H2 := Lib.hid c2'
  have H3 := Lib.hid c3'
  have H4 := Lib.hid c4'
  have HA := Lib.hid hA
  have HB0 := Lib.hid (below_alloc (Below.refl (w.alloc (Obj.cells #[.int .i64 rt, .slice A1 wd.length c1, .slice A2 ht.length c2, .slice A3 ce.length c3, .slice A4 me.length c4] 26 (0, 0))).heap.size (w.alloc (Obj.cells #[.int .i64 rt, .slice A1 wd.length c1, .slice A2 ht.length c2, .slice A3 ce.length c3, .slice A4 me.length c4] 26 (0, 0)))) (Obj.cells #[.int .i64 0, .int .i64 0, .int .i64 0, .int .i64 0] 49 (0, 0)))
  have hn2 := blk_alloc hn (Obj.cells #[.int .i64 0, .int .i64 0, .int .i64 0, .int .i64 0] 49 (0, 0))
  have hz := blk_new (w.alloc (Obj.cells #[.int .i64 rt, .slice A1 wd.length c1, .slice A2 ht.length c2, .slice A3 ce.length c3, .slice A4 me.length c4] 26 (0, 0))) (Obj.cells #[.int .i64 0, .int .i64 0, .int .i64 0, .int .i64 0] 49 (0, 0))
  have hsz : (w.alloc (Obj.cells #[.int .i64 rt, .slice A1 wd.length c1, .slice A2 ht.length c2, .slice A3 ce.length c3, .slice A4 me.length c4] 26 (0, 0))).heap.size = w.heap.size + 1 := by simp
  rw [hsz] at hz
  obtain ⟨y0, y1, y2, y3, y4⟩ := five (V := ⟨A1, c1, A2, c2, A3, c3, A4, c4⟩) (s := ⟨rt, wd, ht, ce, me⟩) hn2
  obtain ⟨z0, z1, z2, z3, f0, f1, f2, f3⟩ := zero4 hz
  have HN0 : Hid (((w.alloc (Obj.cells #[.int .i64 rt, .slice A1 wd.length c1, .slice A2 ht.length c2, .slice A3 ce.length c3, .slice A4 me.length c4] 26 (0, 0))).alloc (Obj.cells #[.int .i64 0, .int .i64 0, .int .i64 0, .int .i64 0] 49 (0, 0))).heap[w.heap.size]? = some (.cells (shv ⟨A1, c1, A2, c2, A3, c3, A4, c4⟩ ⟨rt, wd, ht, ce, me⟩) 26 (0, 0))) := Lib.hid hn2
  have HZ0 := Lib.hid hz
  clear hA hn hn2 hz hsz c1' c2' c3' c4'
  show Calls Tryz.prog 33 #[.agg #[.int .i64 rt, .slice A1 wd.length c1, .slice A2 ht.length c2, .slice A3 ce.length c3, .slice A4 me.length c4], .int .i64 i, .int .i64 j] w _
  by_cases h1 : x1 = 0
  · subst h1
    cases b3 with
    | false =>
      have HR : Hid (rr = (PE.z49, 4)) := Lib.hid (by rw [HL.out, if_neg (by decide), if_pos rfl])
      go_enter Tryz.func33, Tryz.ntmps33
      go_wp2_with (first
      | (go_at_call 11; with_reducible refine (H1.out _ HB0.out).mono ?_; rintro e w1 ⟨rfl, hbn⟩; obtain ⟨y0, y1, y2, y3, y4⟩ := five (blk_below HN0.out hbn); obtain ⟨z0, z1, z2, z3, f0, f1, f2, f3⟩ := zero4 (blk_below HZ0.out hbn); have HN1 := Lib.hid (blk_below HN0.out hbn); have HZ1 := Lib.hid (blk_below HZ0.out hbn); have HB1 := Lib.hid (below_then HB0.out HB0.out.size hbn); clear hbn)
      | (go_at_call 25; with_reducible refine (H2.out _ HB1.out).mono ?_; rintro e w2 ⟨rfl, hbn⟩; obtain ⟨y0, y1, y2, y3, y4⟩ := five (blk_below HN1.out hbn); obtain ⟨z0, z1, z2, z3, f0, f1, f2, f3⟩ := zero4 (blk_below HZ1.out hbn); have HN2 := Lib.hid (blk_below HN1.out hbn); have HZ2 := Lib.hid (blk_below HZ1.out hbn); have HB2 := Lib.hid (below_then HB1.out HB1.out.size hbn); clear hbn)
      | (go_at_call 24; with_reducible refine (H3.out _ HB2.out).mono ?_; rintro e w3 ⟨rfl, hbn⟩; obtain ⟨y0, y1, y2, y3, y4⟩ := five (blk_below HN2.out hbn); obtain ⟨z0, z1, z2, z3, f0, f1, f2, f3⟩ := zero4 (blk_below HZ2.out hbn); have HN3 := Lib.hid (blk_below HN2.out hbn); have HZ3 := Lib.hid (blk_below HZ2.out hbn); have HB3 := Lib.hid (below_then HB2.out HB2.out.size hbn); clear hbn)
      | (go_at_call 32; with_reducible refine (H4.out _ HB3.out).mono ?_; rintro e w4 ⟨rfl, hbn⟩; obtain ⟨y0, y1, y2, y3, y4⟩ := five (blk_below HN3.out hbn); obtain ⟨z0, z1, z2, z3, f0, f1, f2, f3⟩ := zero4 (blk_below HZ3.out hbn); have HN4 := Lib.hid (blk_below HN3.out hbn); have HZ4 := Lib.hid (blk_below HZ3.out hbn); have HB4 := Lib.hid (below_then HB3.out HB3.out.size hbn); clear hbn))
      have KS : ∀ w', Below w1.heap.size w1 w' → (w'.cell? ⟨w.heap.size, 0, none⟩ = some (.int .i64 rt) ∧ w'.cell? ⟨w.heap.size, 1, none⟩ = some (.slice A1 wd.length c1) ∧ w'.cell? ⟨w.heap.size, 2, none⟩ = some (.slice A2 ht.length c2) ∧ w'.cell? ⟨w.heap.size, 3, none⟩ = some (.slice A3 ce.length c3) ∧ w'.cell? ⟨w.heap.size, 4, none⟩ = some (.slice A4 me.length c4) ∧ Below w1.heap.size w1 w') := fun w' hb => ⟨pw_cell_below hb y0, pw_cell_below hb y1, pw_cell_below hb y2, pw_cell_below hb y3, pw_cell_below hb y4, hb⟩
      have HKS := Lib.hid KS
      clear KS
      go_region_held3 (fun w' => (w'.cell? ⟨w.heap.size, 0, none⟩ = some (.int .i64 rt) ∧ w'.cell? ⟨w.heap.size, 1, none⟩ = some (.slice A1 wd.length c1) ∧ w'.cell? ⟨w.heap.size, 2, none⟩ = some (.slice A2 ht.length c2) ∧ w'.cell? ⟨w.heap.size, 3, none⟩ = some (.slice A3 ce.length c3) ∧ w'.cell? ⟨w.heap.size, 4, none⟩ = some (.slice A4 me.length c4) ∧ Below w1.heap.size w1 w'))
        (first
          | exact HKS.out _ (Below.refl _ _)
          | exact HKS.out _ (below_drew (Below.refl _ _))
          | (go_split_ands; exact HKS.out _ (below_then (by assumption) (Below.size (by assumption)) hbn))
          | (go_split_ands; exact HKS.out _ (below_drew (by assumption))))
        (first
          | (go_at_call 25; refine (H2.out _ (below_then HB1.out HB1.out.size (by first | assumption | exact Below.refl _ _ | exact below_drew (Below.refl _ _)))).mono ?_; rintro e wh ⟨rfl, hbn⟩)
          | (go_at_call 24; go_split_ands; refine (H3.out _ (below_then HB1.out HB1.out.size (by assumption))).mono ?_; rintro e wh ⟨rfl, hbn⟩))
      go_split_ands
      have hbh : Below w1.heap.size w1 wh := by assumption
      obtain ⟨v0, v1, v2, v3, v4⟩ := five (blk_below HN1.out hbh)
      obtain ⟨z0, z1, z2, z3, f0, f1, f2, f3⟩ := zero4 (blk_below HZ1.out hbh)
      have HNh := Lib.hid (blk_below HN1.out hbh)
      have HZh := Lib.hid (blk_below HZ1.out hbh)
      have HBh := Lib.hid (below_then HB1.out HB1.out.size hbh)
      clear hbh
      go_wp2
      refine bodyPost_ret (results_ct rfl _ _ (w.heap.size + 1) 49 (encR PE.z49).toArray (0, 0) _ rfl (put4 (r := PE.z49) HZh.out) Tryz.underlying49 rfl (by kernel_rfl)) rfl ?_
      exact ⟨by rw [HR.out]; first | rfl | trace_state, below_set (below_set (below_set (below_set (below_then HA.out HA.out.size HBh.out) (by omega)) (by omega)) (by omega)) (by omega)⟩
    | true =>
      have HR : Hid (rr = (r4, 0)) := Lib.hid (by rw [HL.out, if_neg (by decide), if_neg (by decide)])
      go_enter Tryz.func33, Tryz.ntmps33
      go_wp2_with (first
      | (go_at_call 11; with_reducible refine (H1.out _ HB0.out).mono ?_; rintro e w1 ⟨rfl, hbn⟩; obtain ⟨y0, y1, y2, y3, y4⟩ := five (blk_below HN0.out hbn); obtain ⟨z0, z1, z2, z3, f0, f1, f2, f3⟩ := zero4 (blk_below HZ0.out hbn); have HN1 := Lib.hid (blk_below HN0.out hbn); have HZ1 := Lib.hid (blk_below HZ0.out hbn); have HB1 := Lib.hid (below_then HB0.out HB0.out.size hbn); clear hbn)
      | (go_at_call 25; with_reducible refine (H2.out _ HB1.out).mono ?_; rintro e w2 ⟨rfl, hbn⟩; obtain ⟨y0, y1, y2, y3, y4⟩ := five (blk_below HN1.out hbn); obtain ⟨z0, z1, z2, z3, f0, f1, f2, f3⟩ := zero4 (blk_below HZ1.out hbn); have HN2 := Lib.hid (blk_below HN1.out hbn); have HZ2 := Lib.hid (blk_below HZ1.out hbn); have HB2 := Lib.hid (below_then HB1.out HB1.out.size hbn); clear hbn)
      | (go_at_call 24; with_reducible refine (H3.out _ HB2.out).mono ?_; rintro e w3 ⟨rfl, hbn⟩; obtain ⟨y0, y1, y2, y3, y4⟩ := five (blk_below HN2.out hbn); obtain ⟨z0, z1, z2, z3, f0, f1, f2, f3⟩ := zero4 (blk_below HZ2.out hbn); have HN3 := Lib.hid (blk_below HN2.out hbn); have HZ3 := Lib.hid (blk_below HZ2.out hbn); have HB3 := Lib.hid (below_then HB2.out HB2.out.size hbn); clear hbn)
      | (go_at_call 32; with_reducible refine (H4.out _ HB3.out).mono ?_; rintro e w4 ⟨rfl, hbn⟩; obtain ⟨y0, y1, y2, y3, y4⟩ := five (blk_below HN3.out hbn); obtain ⟨z0, z1, z2, z3, f0, f1, f2, f3⟩ := zero4 (blk_below HZ3.out hbn); have HN4 := Lib.hid (blk_below HN3.out hbn); have HZ4 := Lib.hid (blk_below HZ3.out hbn); have HB4 := Lib.hid (below_then HB3.out HB3.out.size hbn); clear hbn))
      have KS : ∀ w', Below w1.heap.size w1 w' → (w'.cell? ⟨w.heap.size, 0, none⟩ = some (.int .i64 rt) ∧ w'.cell? ⟨w.heap.size, 1, none⟩ = some (.slice A1 wd.length c1) ∧ w'.cell? ⟨w.heap.size, 2, none⟩ = some (.slice A2 ht.length c2) ∧ w'.cell? ⟨w.heap.size, 3, none⟩ = some (.slice A3 ce.length c3) ∧ w'.cell? ⟨w.heap.size, 4, none⟩ = some (.slice A4 me.length c4) ∧ Below w1.heap.size w1 w') := fun w' hb => ⟨pw_cell_below hb y0, pw_cell_below hb y1, pw_cell_below hb y2, pw_cell_below hb y3, pw_cell_below hb y4, hb⟩
      have HKS := Lib.hid KS
      clear KS
      go_region_held3 (fun w' => (w'.cell? ⟨w.heap.size, 0, none⟩ = some (.int .i64 rt) ∧ w'.cell? ⟨w.heap.size, 1, none⟩ = some (.slice A1 wd.length c1) ∧ w'.cell? ⟨w.heap.size, 2, none⟩ = some (.slice A2 ht.length c2) ∧ w'.cell? ⟨w.heap.size, 3, none⟩ = some (.slice A3 ce.length c3) ∧ w'.cell? ⟨w.heap.size, 4, none⟩ = some (.slice A4 me.length c4) ∧ Below w1.heap.size w1 w'))
        (first
          | exact HKS.out _ (Below.refl _ _)
          | exact HKS.out _ (below_drew (Below.refl _ _))
          | (go_split_ands; exact HKS.out _ (below_then (by assumption) (Below.size (by assumption)) hbn))
          | (go_split_ands; exact HKS.out _ (below_drew (by assumption))))
        (first
          | (go_at_call 25; refine (H2.out _ (below_then HB1.out HB1.out.size (by first | assumption | exact Below.refl _ _ | exact below_drew (Below.refl _ _)))).mono ?_; rintro e wh ⟨rfl, hbn⟩)
          | (go_at_call 24; go_split_ands; refine (H3.out _ (below_then HB1.out HB1.out.size (by assumption))).mono ?_; rintro e wh ⟨rfl, hbn⟩))
      go_split_ands
      have hbh : Below w1.heap.size w1 wh := by assumption
      obtain ⟨v0, v1, v2, v3, v4⟩ := five (blk_below HN1.out hbh)
      obtain ⟨z0, z1, z2, z3, f0, f1, f2, f3⟩ := zero4 (blk_below HZ1.out hbh)
      have HNh := Lib.hid (blk_below HN1.out hbh)
      have HZh := Lib.hid (blk_below HZ1.out hbh)
      have HBh := Lib.hid (below_then HB1.out HB1.out.size hbh)
      clear hbh
      go_wp2_with (go_at_call 32; refine (H4.out _ HBh.out).mono ?_; rintro e w5 ⟨rfl, hbn⟩; obtain ⟨z0, z1, z2, z3, f0, f1, f2, f3⟩ := zero4 (blk_below HZh.out hbn); have HZ5 := Lib.hid (blk_below HZh.out hbn); have HB5 := Lib.hid (below_then HBh.out HBh.out.size hbn); clear hbn)
      refine bodyPost_ret (results_ct rfl _ _ (w.heap.size + 1) 49 (encR r4).toArray (0, 0) _ rfl (put4 (r := r4) HZ5.out) Tryz.underlying49 rfl (by kernel_rfl)) rfl ?_
      exact ⟨by rw [HR.out]; first | rfl | trace_state, below_set (below_set (below_set (below_set (below_then HA.out HA.out.size HB5.out) (by omega)) (by omega)) (by omega)) (by omega)⟩
  · have h1b : (x1 == 0) = false := by simpa using h1
    have HR : Hid (rr = (PE.z49, 1)) := Lib.hid (by rw [HL.out, if_pos h1])
    go_enter Tryz.func33, Tryz.ntmps33
    go_wp2_with (first
      | (go_at_call 11; with_reducible refine (H1.out _ HB0.out).mono ?_; rintro e w1 ⟨rfl, hbn⟩; obtain ⟨y0, y1, y2, y3, y4⟩ := five (blk_below HN0.out hbn); obtain ⟨z0, z1, z2, z3, f0, f1, f2, f3⟩ := zero4 (blk_below HZ0.out hbn); have HN1 := Lib.hid (blk_below HN0.out hbn); have HZ1 := Lib.hid (blk_below HZ0.out hbn); have HB1 := Lib.hid (below_then HB0.out HB0.out.size hbn); clear hbn)
      | (go_at_call 25; with_reducible refine (H2.out _ HB1.out).mono ?_; rintro e w2 ⟨rfl, hbn⟩; obtain ⟨y0, y1, y2, y3, y4⟩ := five (blk_below HN1.out hbn); obtain ⟨z0, z1, z2, z3, f0, f1, f2, f3⟩ := zero4 (blk_below HZ1.out hbn); have HN2 := Lib.hid (blk_below HN1.out hbn); have HZ2 := Lib.hid (blk_below HZ1.out hbn); have HB2 := Lib.hid (below_then HB1.out HB1.out.size hbn); clear hbn)
      | (go_at_call 24; with_reducible refine (H3.out _ HB2.out).mono ?_; rintro e w3 ⟨rfl, hbn⟩; obtain ⟨y0, y1, y2, y3, y4⟩ := five (blk_below HN2.out hbn); obtain ⟨z0, z1, z2, z3, f0, f1, f2, f3⟩ := zero4 (blk_below HZ2.out hbn); have HN3 := Lib.hid (blk_below HN2.out hbn); have HZ3 := Lib.hid (blk_below HZ2.out hbn); have HB3 := Lib.hid (below_then HB2.out HB2.out.size hbn); clear hbn)
      | (go_at_call 32; with_reducible refine (H4.out _ HB3.out).mono ?_; rintro e w4 ⟨rfl, hbn⟩; obtain ⟨y0, y1, y2, y3, y4⟩ := five (blk_below HN3.out hbn); obtain ⟨z0, z1, z2, z3, f0, f1, f2, f3⟩ := zero4 (blk_below HZ3.out hbn); have HN4 := Lib.hid (blk_below HN3.out hbn); have HZ4 := Lib.hid (blk_below HZ3.out hbn); have HB4 := Lib.hid (below_then HB3.out HB3.out.size hbn); clear hbn))
    refine bodyPost_ret (results_ct rfl _ _ (w.heap.size + 1) 49 (encR PE.z49).toArray (0, 0) _ rfl (put4 (r := PE.z49) HZ1.out) Tryz.underlying49 rfl (by kernel_rfl)) rfl ?_
    exact ⟨by rw [HR.out]; first | rfl | trace_state, below_set (below_set (below_set (below_set (below_then HA.out HA.out.size HB1.out) (by omega)) (by omega)) (by omega)) (by omega)⟩
end Go.Proofs.YtcofacgdijjnoaaGreat
