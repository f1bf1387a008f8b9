/- sheet: more of the tests that are handed to the library: walked. -/
import Derived.Test.YtcofacgdijjnoaaGreatPah
namespace Go.Proofs.YtcofacgdijjnoaaGreat
open PE (S31 S44 S49 k44 k49 k31)
open Go.RowKit Go.Shelf Go.Lib Go.Proofs.YtcofacgdijjnoaaGreatW.PrintWords Go.Proofs.YtcofacgdijjnoaaGreatW.PrintLast Go.Proofs.YtcofacgdijjnoaaGreatW.PrintMore
set_option linter.unusedVariables false
set_option linter.unusedSimpArgs false
set_option maxRecDepth 100000
set_option maxHeartbeats 2000000
def WS (s : Sh) : Prop := (∀ c ∈ s.ce, WC c) ∧ ∀ r ∈ s.me, WR r
theorem C_take {α : Type} {d : Kd α} {w : World} {A : Option Addr} {n : Nat} {xs : List α} (h : d.C w A n xs) (i : Nat) (hi : i ≤ n) : d.C w A i (xs.take i) := by
  obtain ⟨h1, h2, h3⟩ := h
  refine ⟨by rw [List.length_take]; omega, by omega, fun hp => ?_⟩
  obtain ⟨ad, e, hc⟩ := h3 (by omega)
  refine ⟨ad, e, fun j p hj => hc j p ?_⟩
  rw [List.getElem?_take] at hj
  split at hj
  · exact hj
  · cases hj
theorem ovB_drop (me : List S49) (i : Nat) (h : i < me.length) : ovB (me.take i) (me.drop i) = (((me.take i).any fun q => decide (Mt q me[i])) || ovB (me.take (i + 1)) (me.drop (i + 1))) := by
  rw [List.drop_eq_getElem_cons h, ovB, List.take_succ_eq_append_getElem h]
def undC (me : List S49) (c : S44) : Bool := !(decide (c.f0 = (aro me c.f0 c.f1).f0) && decide (c.f1 = (aro me c.f0 c.f1).f1))
theorem check_any {w : World} {V : SV} {s : Sh} (h : Rd w V s) (hw : WS s) : Calls Tryz.prog 11 #[.agg (shv V s)] w fun e w' => e = .returned (.int .i64 (chk s)) ∧ Below w.heap.size w w' := by
  have hn := blk_new w (Obj.cells (shv V s) 26 (0, 0))
  have hA := below_alloc (Below.refl w.heap.size w) (Obj.cells (shv V s) 26 (0, 0))
  have hR := h.below hA
  have c1' := fun W' (hb : Below _ (w.alloc (Obj.cells (shv V s) 26 (0, 0))) W') => limits_any (hR.below hb)
  have c2' := fun W' (hb : Below _ (w.alloc (Obj.cells (shv V s) 26 (0, 0))) W') => order_any (hR.below hb)
  have c3' := fun W' (hb : Below _ (w.alloc (Obj.cells (shv V s) 26 (0, 0))) W') => anyC V.A3 s.ce.length V.c3 s.ce (fun c => !hasB s.ht.length s.wd.length (one c.f0 c.f1)) 23 #[.pointer (some ⟨w.heap.size, 0, none⟩)] (enters_of Tryz.func23 (by kernel_rfl) rfl) W' (hR.below hb).h3 (t23 (hR.below hb) w.heap.size (blk_below hn hb) s.ce)
  have c4' := fun (hO : ordB s = true) W' (hb : Below _ (w.alloc (Obj.cells (shv V s) 26 (0, 0))) W') => anyR V.A4 s.me.length V.c4 s.me (fun r => !hasB s.ht.length s.wd.length r) 27 #[.pointer (some ⟨w.heap.size, 0, none⟩)] (enters_of Tryz.func27 (by kernel_rfl) rfl) W' (hR.below hb).h4 (t27 (hR.below hb) w.heap.size (blk_below hn hb) s.me (fun r hr => by have := (ord_iff.mp hO).2.2.2.2.2.2 r hr; omega))
  have hL : chk s = if limB s = false then 3 else if ordB s = false then 1 else if ((s.ce.any fun c => !hasB s.ht.length s.wd.length (one c.f0 c.f1)) || s.me.any fun r => !hasB s.ht.length s.wd.length r) = true then 4 else if ovB [] s.me = true then 5 else if undB s = true then 6 else 0 := rfl
  obtain ⟨b1, hb1⟩ : ∃ b, b = limB s := ⟨_, rfl⟩
  rw [← hb1] at c1' hL
  obtain ⟨b2, hb2⟩ : ∃ b, b = ordB s := ⟨_, rfl⟩
  rw [← hb2] at c2' hL
  obtain ⟨b3, hb3⟩ : ∃ b, b = s.ce.any fun c => !hasB s.ht.length s.wd.length (one c.f0 c.f1) := ⟨_, rfl⟩
  rw [← hb3] at c3' hL
  obtain ⟨b4, hb4⟩ : ∃ b, b = s.me.any fun r => !hasB s.ht.length s.wd.length r := ⟨_, rfl⟩
  rw [← hb4] at c4' hL
  rw [← hb2] at c4'
  have HL := Lib.hid hL
  have HR := Lib.hid hR
  have HW := Lib.hid hw
  have hl3 := h.h3.2.1
  have hl4 := h.h4.2.1
  clear h hR hL hb1 hb2 hb3 hb4 hw
  obtain ⟨A1, c1, A2, c2, A3, c3, A4, c4⟩ := V
  obtain ⟨rt, wd, ht, ce, me⟩ := s
  simp only [shv] at hA hn c1' c2' c3'
  have H1 := Lib.hid c1'
  have H2 := Lib.hid c2'
  have H3 := Lib.hid c3'
  have HA := Lib.hid hA
  have HB0 := Lib.hid (Below.refl (w.alloc (Obj.cells #[.int .i64 rt, .slice A1 wd.length c1, .slice A2 ht.length c2, .slice A3 ce.length c3, .slice A4 me.length c4] 26 (0, 0))).heap.size (w.alloc (Obj.cells #[.int .i64 rt, .slice A1 wd.length c1, .slice A2 ht.length c2, .slice A3 ce.length c3, .slice A4 me.length c4] 26 (0, 0))))
  obtain ⟨y0, y1, y2, y3, y4⟩ := five (V := ⟨A1, c1, A2, c2, A3, c3, A4, c4⟩) (s := ⟨rt, wd, ht, ce, me⟩) hn
  have HN0 : Hid ((w.alloc (Obj.cells #[.int .i64 rt, .slice A1 wd.length c1, .slice A2 ht.length c2, .slice A3 ce.length c3, .slice A4 me.length c4] 26 (0, 0))).heap[w.heap.size]? = some (.cells (shv ⟨A1, c1, A2, c2, A3, c3, A4, c4⟩ ⟨rt, wd, ht, ce, me⟩) 26 (0, 0))) := Lib.hid hn
  clear hA hn c1' c2' c3'
  show Calls Tryz.prog 11 #[.agg #[.int .i64 rt, .slice A1 wd.length c1, .slice A2 ht.length c2, .slice A3 ce.length c3, .slice A4 me.length c4]] w _
  cases b1 with
  | false =>
    go_enter Tryz.func11, Tryz.ntmps11
    go_wp2_with (first
      | (go_at_call 20; with_reducible refine (H1.out _ HB0.out).mono ?_; rintro e w1 ⟨rfl, hbn⟩; obtain ⟨_, y1, y2, y3, y4⟩ := five (blk_below HN0.out hbn); have HN1 := Lib.hid (blk_below HN0.out hbn); have HB1 := Lib.hid (below_then HB0.out HB0.out.size hbn); clear hbn)
      | (go_at_call 21; with_reducible refine (H2.out _ HB1.out).mono ?_; rintro e w2 ⟨rfl, hbn⟩; obtain ⟨_, y1, y2, y3, y4⟩ := five (blk_below HN1.out hbn); have HN2 := Lib.hid (blk_below HN1.out hbn); have HB2 := Lib.hid (below_then HB1.out HB1.out.size hbn); clear hbn)
      | (go_at_call 22; with_reducible refine (H3.out _ HB2.out).mono ?_; rintro e w3 ⟨rfl, hbn⟩; obtain ⟨_, y1, y2, y3, y4⟩ := five (blk_below HN2.out hbn); have HN3 := Lib.hid (blk_below HN2.out hbn); have HB3 := Lib.hid (below_then HB2.out HB2.out.size hbn); clear hbn)
      | (go_at_call 26; with_reducible refine (H4.out _ HB3.out).mono ?_; rintro e w4 ⟨rfl, hbn⟩; obtain ⟨_, y1, y2, y3, y4⟩ := five (blk_below HN3.out hbn); have HN4 := Lib.hid (blk_below HN3.out hbn); have HB4 := Lib.hid (below_then HB3.out HB3.out.size hbn); clear hbn))
    go_ret
    exact ⟨by rw [HL.out]; rfl, below_then HA.out HA.out.size HB1.out⟩
  | true =>
  cases b2 with
  | false =>
    go_enter Tryz.func11, Tryz.ntmps11
    go_wp2_with (first
      | (go_at_call 20; with_reducible refine (H1.out _ HB0.out).mono ?_; rintro e w1 ⟨rfl, hbn⟩; obtain ⟨_, y1, y2, y3, y4⟩ := five (blk_below HN0.out hbn); have HN1 := Lib.hid (blk_below HN0.out hbn); have HB1 := Lib.hid (below_then HB0.out HB0.out.size hbn); clear hbn)
      | (go_at_call 21; with_reducible refine (H2.out _ HB1.out).mono ?_; rintro e w2 ⟨rfl, hbn⟩; obtain ⟨_, y1, y2, y3, y4⟩ := five (blk_below HN1.out hbn); have HN2 := Lib.hid (blk_below HN1.out hbn); have HB2 := Lib.hid (below_then HB1.out HB1.out.size hbn); clear hbn)
      | (go_at_call 22; with_reducible refine (H3.out _ HB2.out).mono ?_; rintro e w3 ⟨rfl, hbn⟩; obtain ⟨_, y1, y2, y3, y4⟩ := five (blk_below HN2.out hbn); have HN3 := Lib.hid (blk_below HN2.out hbn); have HB3 := Lib.hid (below_then HB2.out HB2.out.size hbn); clear hbn)
      | (go_at_call 26; with_reducible refine (H4.out _ HB3.out).mono ?_; rintro e w4 ⟨rfl, hbn⟩; obtain ⟨_, y1, y2, y3, y4⟩ := five (blk_below HN3.out hbn); have HN4 := Lib.hid (blk_below HN3.out hbn); have HB4 := Lib.hid (below_then HB3.out HB3.out.size hbn); clear hbn))
    go_ret
    exact ⟨by rw [HL.out]; rfl, below_then HA.out HA.out.size HB2.out⟩
  | true =>
  have H4 := Lib.hid (c4' rfl)
  clear c4'
  simp only [shv] at H4
  cases b3 with
  | true =>
    go_enter Tryz.func11, Tryz.ntmps11
    go_wp2_with (first
      | (go_at_call 20; with_reducible refine (H1.out _ HB0.out).mono ?_; rintro e w1 ⟨rfl, hbn⟩; obtain ⟨_, y1, y2, y3, y4⟩ := five (blk_below HN0.out hbn); have HN1 := Lib.hid (blk_below HN0.out hbn); have HB1 := Lib.hid (below_then HB0.out HB0.out.size hbn); clear hbn)
      | (go_at_call 21; with_reducible refine (H2.out _ HB1.out).mono ?_; rintro e w2 ⟨rfl, hbn⟩; obtain ⟨_, y1, y2, y3, y4⟩ := five (blk_below HN1.out hbn); have HN2 := Lib.hid (blk_below HN1.out hbn); have HB2 := Lib.hid (below_then HB1.out HB1.out.size hbn); clear hbn)
      | (go_at_call 22; with_reducible refine (H3.out _ HB2.out).mono ?_; rintro e w3 ⟨rfl, hbn⟩; obtain ⟨_, y1, y2, y3, y4⟩ := five (blk_below HN2.out hbn); have HN3 := Lib.hid (blk_below HN2.out hbn); have HB3 := Lib.hid (below_then HB2.out HB2.out.size hbn); clear hbn)
      | (go_at_call 26; with_reducible refine (H4.out _ HB3.out).mono ?_; rintro e w4 ⟨rfl, hbn⟩; obtain ⟨_, y1, y2, y3, y4⟩ := five (blk_below HN3.out hbn); have HN4 := Lib.hid (blk_below HN3.out hbn); have HB4 := Lib.hid (below_then HB3.out HB3.out.size hbn); clear hbn))
    go_ret
    exact ⟨by rw [HL.out]; rfl, below_then HA.out HA.out.size HB3.out⟩
  | false =>
  cases b4 with
  | true =>
    go_enter Tryz.func11, Tryz.ntmps11
    go_wp2_with (first
      | (go_at_call 20; with_reducible refine (H1.out _ HB0.out).mono ?_; rintro e w1 ⟨rfl, hbn⟩; obtain ⟨_, y1, y2, y3, y4⟩ := five (blk_below HN0.out hbn); have HN1 := Lib.hid (blk_below HN0.out hbn); have HB1 := Lib.hid (below_then HB0.out HB0.out.size hbn); clear hbn)
      | (go_at_call 21; with_reducible refine (H2.out _ HB1.out).mono ?_; rintro e w2 ⟨rfl, hbn⟩; obtain ⟨_, y1, y2, y3, y4⟩ := five (blk_below HN1.out hbn); have HN2 := Lib.hid (blk_below HN1.out hbn); have HB2 := Lib.hid (below_then HB1.out HB1.out.size hbn); clear hbn)
      | (go_at_call 22; with_reducible refine (H3.out _ HB2.out).mono ?_; rintro e w3 ⟨rfl, hbn⟩; obtain ⟨_, y1, y2, y3, y4⟩ := five (blk_below HN2.out hbn); have HN3 := Lib.hid (blk_below HN2.out hbn); have HB3 := Lib.hid (below_then HB2.out HB2.out.size hbn); clear hbn)
      | (go_at_call 26; with_reducible refine (H4.out _ HB3.out).mono ?_; rintro e w4 ⟨rfl, hbn⟩; obtain ⟨_, y1, y2, y3, y4⟩ := five (blk_below HN3.out hbn); have HN4 := Lib.hid (blk_below HN3.out hbn); have HB4 := Lib.hid (below_then HB3.out HB3.out.size hbn); clear hbn))
    go_ret
    exact ⟨by rw [HL.out]; rfl, below_then HA.out HA.out.size HB4.out⟩
  | false =>
  replace HL := Lib.hid (show chk ⟨rt, wd, ht, ce, me⟩ = if ovB [] me = true then 5 else if undB ⟨rt, wd, ht, ce, me⟩ = true then 6 else 0 by rw [HL.out]; simp)
  go_enter Tryz.func11, Tryz.ntmps11
  go_wp2_with (first
      | (go_at_call 20; with_reducible refine (H1.out _ HB0.out).mono ?_; rintro e w1 ⟨rfl, hbn⟩; obtain ⟨_, y1, y2, y3, y4⟩ := five (blk_below HN0.out hbn); have HN1 := Lib.hid (blk_below HN0.out hbn); have HB1 := Lib.hid (below_then HB0.out HB0.out.size hbn); clear hbn)
      | (go_at_call 21; with_reducible refine (H2.out _ HB1.out).mono ?_; rintro e w2 ⟨rfl, hbn⟩; obtain ⟨_, y1, y2, y3, y4⟩ := five (blk_below HN1.out hbn); have HN2 := Lib.hid (blk_below HN1.out hbn); have HB2 := Lib.hid (below_then HB1.out HB1.out.size hbn); clear hbn)
      | (go_at_call 22; with_reducible refine (H3.out _ HB2.out).mono ?_; rintro e w3 ⟨rfl, hbn⟩; obtain ⟨_, y1, y2, y3, y4⟩ := five (blk_below HN2.out hbn); have HN3 := Lib.hid (blk_below HN2.out hbn); have HB3 := Lib.hid (below_then HB2.out HB2.out.size hbn); clear hbn)
      | (go_at_call 26; with_reducible refine (H4.out _ HB3.out).mono ?_; rintro e w4 ⟨rfl, hbn⟩; obtain ⟨_, y1, y2, y3, y4⟩ := five (blk_below HN3.out hbn); have HN4 := Lib.hid (blk_below HN3.out hbn); have HB4 := Lib.hid (below_then HB3.out HB3.out.size hbn); clear hbn))
  clear H1 H2 H3 H4
  go_loopg [30] me.length (fun gg v30 wr => ∃ i : Nat, i ≤ me.length ∧ gg = me.length - i ∧ v30 = .int .i64 i ∧ Hid (Below (w.alloc (Obj.cells #[.int .i64 rt, .slice A1 wd.length c1, .slice A2 ht.length c2, .slice A3 ce.length c3, .slice A4 me.length c4] 26 (0, 0))).heap.size (w.alloc (Obj.cells #[.int .i64 rt, .slice A1 wd.length c1, .slice A2 ht.length c2, .slice A3 ce.length c3, .slice A4 me.length c4] 26 (0, 0))) wr) ∧ Hid (ovB (me.take i) (me.drop i) = ovB [] me))
  case atStart => exact ⟨0, Nat.zero_le _, rfl, rfl, HB4, Lib.hid rfl⟩
  case round =>
    obtain ⟨i, hi, hg, rfl, BW, I⟩ := hrel
    have Hg := Lib.hid hg
    clear hg
    by_cases hlt : i < me.length
    · have hlz : (i : Int) < (me.length : Int) := by omega
      obtain ⟨ad, hA4, e0, e1, e2, e3⟩ := PE.at_T49 (HR.out.below BW.out).h4 (i : Int) (by omega) hlz
      have hA4' : A4 = some ad := hA4
      subst hA4'
      have hrd : PE.rd_T49 me (i : Int) = me[i] := by
        unfold PE.rd_T49
        rw [Int.toNat_natCast, List.getD_eq_getElem?_getD, List.getElem?_eq_getElem hlt]; rfl
      rw [Int.toNat_natCast, hrd] at e0 e1 e2 e3
      have hI := I.out
      rw [ovB_drop me i hlt] at hI
      have hwr := HW.out.2 me[i] (List.getElem_mem hlt)
      obtain ⟨r, hr⟩ : ∃ r, r = me[i] := ⟨_, rfl⟩
      rw [← hr] at e0 e1 e2 e3 hI hwr
      have HI := Lib.hid hI
      have HWR := Lib.hid hwr
      have hi0 : (0 : Int) ≤ (i : Int) := by omega
      have hc4 : (i : Int) ≤ (c4 : Int) := by have := HR.out.l4; simp only at this; omega
      clear hI hwr hr hrd y1 y2 y3 y4
      have hbx := blk_alloc (blk_below HN0.out BW.out) (Obj.cells (encR r).toArray 49 (0, 0))
      obtain ⟨_, _, _, _, y4'⟩ := five (V := ⟨A1, c1, A2, c2, A3, c3, some ad, c4⟩) (s := ⟨rt, wd, ht, ce, me⟩) hbx
      have hnew := blk_new wr (Obj.cells (encR r).toArray 49 (0, 0))
      have hba := below_alloc (Below.refl wr.heap.size wr) (Obj.cells (encR r).toArray 49 (0, 0))
      have hb4 := below_then BW.out BW.out.size hba
      have hcall := anyR (some ad) i c4 (me.take i) (fun q => decide (Mt q r)) 28 #[.pointer (some ⟨wr.heap.size, 0, none⟩)] (enters_of Tryz.func28 (by kernel_rfl) rfl) _ (C_take (HR.out.below hb4).h4 i hi) (t28 hnew HWR.out (fun q hq => HW.out.2 q (List.mem_of_mem_take hq)))
      obtain ⟨b, hb⟩ : ∃ b, b = (me.take i).any fun q => decide (Mt q r) := ⟨_, rfl⟩
      rw [← hb] at hcall HI
      have HC := Lib.hid hcall
      have HX4 := Lib.hid hb4
      clear hcall hb hb4 hba hnew hbx
      simp only [encR] at y4' HC HX4
      cases b with
      | true =>
        have HO : Hid (ovB [] me = true) := Lib.hid (by rw [← HI.out]; rfl)
        rw [HO.out] at HL
        clear HI I
        go_wp2_with (go_at_call 26; refine HC.out.mono ?_; rintro e w5 ⟨rfl, hb5⟩)
        go_ret
        exact ⟨by rw [HL.out]; rfl, below_then HA.out HA.out.size (below_then HX4.out HX4.out.size hb5)⟩
      | false =>
        have HO : Hid (ovB (me.take (i + 1)) (me.drop (i + 1)) = ovB [] me) := Lib.hid (by rw [← HI.out]; rfl)
        clear HI I
        go_wp2_with (go_at_call 26; refine HC.out.mono ?_; rintro e w5 ⟨rfl, hb5⟩)
        go_roundg (me.length - (i + 1))
        case measure => have := Hg.out; omega
        case rel => exact ⟨i + 1, by omega, rfl, by go_num, Lib.hid (below_then HX4.out HX4.out.size hb5), HO⟩
    · have hlz : ¬ (i : Int) < (me.length : Int) := by omega
      have HO : Hid (ovB [] me = false) := Lib.hid (by rw [← I.out, List.drop_of_length_le (by omega)]; rfl)
      rw [HO.out, if_neg (by decide)] at HL
      obtain ⟨_, _, _, y3', y4'⟩ := five (V := ⟨A1, c1, A2, c2, A3, c3, A4, c4⟩) (s := ⟨rt, wd, ht, ce, me⟩) (blk_below HN0.out BW.out)
      clear I y1 y2 y3 y4
      go_wp2
      clear y3' y4'
      go_loopg [45] ce.length (fun gg v45 wr => ∃ j : Nat, j ≤ ce.length ∧ gg = ce.length - j ∧ v45 = .int .i64 j ∧ Hid (Below (w.alloc (Obj.cells #[.int .i64 rt, .slice A1 wd.length c1, .slice A2 ht.length c2, .slice A3 ce.length c3, .slice A4 me.length c4] 26 (0, 0))).heap.size (w.alloc (Obj.cells #[.int .i64 rt, .slice A1 wd.length c1, .slice A2 ht.length c2, .slice A3 ce.length c3, .slice A4 me.length c4] 26 (0, 0))) wr) ∧ Hid ((ce.drop j).any (undC me) = undB ⟨rt, wd, ht, ce, me⟩))
      case atStart => exact ⟨0, Nat.zero_le _, rfl, rfl, BW, Lib.hid rfl⟩
      case round =>
        clear BW
        obtain ⟨j, hj, hg, rfl, BW, I⟩ := hrel
        have Hg := Lib.hid hg
        clear hg
        by_cases hlt2 : j < ce.length
        · have hlz2 : (j : Int) < (ce.length : Int) := by omega
          obtain ⟨ad, hA3, e0, e1, e2, e3, e4, e5⟩ := PE.at_T44 (HR.out.below BW.out).h3 (j : Int) (by omega) hlz2
          have hA3' : A3 = some ad := hA3
          subst hA3'
          have hrd : PE.rd_T44 ce (j : Int) = ce[j] := by
            unfold PE.rd_T44
            rw [Int.toNat_natCast, List.getD_eq_getElem?_getD, List.getElem?_eq_getElem hlt2]; rfl
          rw [Int.toNat_natCast, hrd] at e0 e1 e2 e3 e4 e5
          have hI := I.out
          rw [List.drop_eq_getElem_cons hlt2, List.any_cons] at hI
          have hwc := HW.out.1 ce[j] (List.getElem_mem hlt2)
          obtain ⟨x, hx⟩ : ∃ x, x = ce[j] := ⟨_, rfl⟩
          rw [← hx] at e0 e1 e2 e3 e4 e5 hI hwc
          clear hx hrd
          have hbx := blk_alloc (blk_below HN0.out BW.out) (Obj.cells (encC x).toArray 44 (0, 0))
          obtain ⟨z0, z1, z2, z3, z4⟩ := five (V := ⟨A1, c1, A2, c2, some ad, c3, A4, c4⟩) (s := ⟨rt, wd, ht, ce, me⟩) hbx
          obtain ⟨m0, m1, m2, m3, m4, m5⟩ := six (blk_new wr (Obj.cells (encC x).toArray 44 (0, 0)))
          have hba := below_alloc (Below.refl wr.heap.size wr) (Obj.cells (encC x).toArray 44 (0, 0))
          have hb4 := below_then BW.out BW.out.size hba
          have hR4 := HR.out.below hb4
          have hX1 := fun W' (hb : Below _ (wr.alloc (Obj.cells (encC x).toArray 44 (0, 0))) W') => around_any (hR4.below hb) hwc.1 hwc.2 (fun q hq => HW.out.2 q hq)
          obtain ⟨r, hr⟩ : ∃ r, r = aro me x.f0 x.f1 := ⟨_, rfl⟩
          have hU : undC me x = !((x.f0 == r.f0) && (x.f1 == r.f1)) := by rw [hr]; rfl
          rw [← hr] at hX1
          have heq := eq40 x.f0 x.f1 r.f0 r.f1
          obtain ⟨bb, hbb⟩ : ∃ bb, bb = ((x.f0 == r.f0) && (x.f1 == r.f1)) := ⟨_, rfl⟩
          rw [← hbb] at heq hU
          rw [hU] at hI
          have HI := Lib.hid hI
          have HX0 := Lib.hid (spot_any x)
          have HX2 := Lib.hid (corner_any r)
          have HX4 := Lib.hid hb4
          simp only [shv, encC] at hX1 m0 m1 m2 m3 m4 m5 z0 z1 z2 z3 z4 HX4
          have HX1 := Lib.hid hX1
          clear hr hbb hI hU hwc hbx hba hb4 hR4 hX1 I
          go_wp2
          obtain ⟨W0, hW0⟩ : ∃ W0, W0 = wr.alloc (Obj.cells #[.int .i64 x.f0, .int .i64 x.f1, .string x.f2, .int .i64 x.f3.f0, .int .i64 x.f3.f1, .int .i64 x.f3.f2] 44 (0, 0)) := ⟨_, rfl⟩
          rw [← hW0] at m0 m1 m2 m3 m4 m5 z0 z1 z2 z3 z4 HX1 HX4 ⊢
          clear hW0
          have KS : ∀ w', Below W0.heap.size W0 w' → (w'.cell? ⟨wr.heap.size, 0, none⟩ = some (.int .i64 x.f0) ∧ w'.cell? ⟨wr.heap.size, 1, none⟩ = some (.int .i64 x.f1) ∧ w'.cell? ⟨wr.heap.size, 2, none⟩ = some (.string x.f2) ∧ w'.cell? ⟨wr.heap.size, 3, none⟩ = some (.int .i64 x.f3.f0) ∧ w'.cell? ⟨wr.heap.size, 4, none⟩ = some (.int .i64 x.f3.f1) ∧ w'.cell? ⟨wr.heap.size, 5, none⟩ = some (.int .i64 x.f3.f2) ∧ w'.cell? ⟨w.heap.size, 0, none⟩ = some (.int .i64 rt) ∧ w'.cell? ⟨w.heap.size, 1, none⟩ = some (.slice A1 wd.length c1) ∧ w'.cell? ⟨w.heap.size, 2, none⟩ = some (.slice A2 ht.length c2) ∧ w'.cell? ⟨w.heap.size, 3, none⟩ = some (.slice (some ad) ce.length c3) ∧ w'.cell? ⟨w.heap.size, 4, none⟩ = some (.slice A4 me.length c4) ∧ Below W0.heap.size W0 w') := fun w' hb => ⟨pw_cell_below hb m0, pw_cell_below hb m1, pw_cell_below hb m2, pw_cell_below hb m3, pw_cell_below hb m4, pw_cell_below hb m5, pw_cell_below hb z0, pw_cell_below hb z1, pw_cell_below hb z2, pw_cell_below hb z3, pw_cell_below hb z4, hb⟩
          have HKS := Lib.hid KS
          clear KS
          go_region_held3 (fun w' => (w'.cell? ⟨wr.heap.size, 0, none⟩ = some (.int .i64 x.f0) ∧ w'.cell? ⟨wr.heap.size, 1, none⟩ = some (.int .i64 x.f1) ∧ w'.cell? ⟨wr.heap.size, 2, none⟩ = some (.string x.f2) ∧ w'.cell? ⟨wr.heap.size, 3, none⟩ = some (.int .i64 x.f3.f0) ∧ w'.cell? ⟨wr.heap.size, 4, none⟩ = some (.int .i64 x.f3.f1) ∧ w'.cell? ⟨wr.heap.size, 5, none⟩ = some (.int .i64 x.f3.f2) ∧ w'.cell? ⟨w.heap.size, 0, none⟩ = some (.int .i64 rt) ∧ w'.cell? ⟨w.heap.size, 1, none⟩ = some (.slice A1 wd.length c1) ∧ w'.cell? ⟨w.heap.size, 2, none⟩ = some (.slice A2 ht.length c2) ∧ w'.cell? ⟨w.heap.size, 3, none⟩ = some (.slice (some ad) ce.length c3) ∧ w'.cell? ⟨w.heap.size, 4, none⟩ = some (.slice A4 me.length c4) ∧ Below W0.heap.size W0 w'))
            (first
              | exact HKS.out _ (Below.refl _ _)
              | exact HKS.out _ (below_drew (Below.refl _ _))
              | (go_split_ands; exact HKS.out _ (below_then (by assumption) (Below.size (by assumption)) hbn))
              | (go_split_ands; exact HKS.out _ (below_drew (by assumption))))
            (first
              | (go_at_call 30; refine (HX0.out _).mono ?_; rintro e w1 ⟨rfl, hbn⟩)
              | (go_at_call 32; go_split_ands; refine (HX1.out _ (by assumption)).mono ?_; rintro e w1 ⟨rfl, hbn⟩)
              | (go_at_call 31; refine (HX2.out _).mono ?_; rintro e w1 ⟨rfl, hbn⟩))
          go_split_ands
          have BW2 := Lib.hid (below_then HX4.out HX4.out.size (show Below W0.heap.size W0 w1 by assumption))
          cases bb with
          | false =>
            have HO : Hid (undB ⟨rt, wd, ht, ce, me⟩ = true) := Lib.hid (by rw [← HI.out]; rfl)
            rw [HO.out, if_pos rfl] at HL
            clear HI HX0 HX1 HX2
            go_wp2
            go_ret
            exact ⟨by rw [HL.out]; rfl, below_then HA.out HA.out.size BW2.out⟩
          | true =>
            have HO : Hid ((ce.drop (j + 1)).any (undC me) = undB ⟨rt, wd, ht, ce, me⟩) := Lib.hid (by rw [← HI.out]; rfl)
            clear HI HX0 HX1 HX2
            go_wp2
            go_roundg (ce.length - (j + 1))
            case measure => have := Hg.out; omega
            case rel => exact ⟨j + 1, by omega, rfl, by go_num, BW2, HO⟩
        · have hlz2 : ¬ (j : Int) < (ce.length : Int) := by omega
          have HO : Hid (undB ⟨rt, wd, ht, ce, me⟩ = false) := Lib.hid (by rw [← I.out, List.drop_of_length_le (by omega)]; rfl)
          rw [HO.out, if_neg (by decide)] at HL
          clear I
          go_wp2
          go_ret
          exact ⟨by rw [HL.out]; rfl, below_then HA.out HA.out.size BW.out⟩
end Go.Proofs.YtcofacgdijjnoaaGreat
