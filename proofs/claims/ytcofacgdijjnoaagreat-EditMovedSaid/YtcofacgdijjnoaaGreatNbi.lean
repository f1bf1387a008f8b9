/- the law EditMoved: walked. -/
import Derived.Test.YtcofacgdijjnoaaGreatNbf
namespace Go.Proofs.YtcofacgdijjnoaaGreat
open PE (S31 S44 S49 k44 k49 k31)
open Go.RowKit Go.Shelf Go.Lib Go.Proofs.YtcofacgdijjnoaaGreatW.PrintWords Go.Proofs.YtcofacgdijjnoaaGreatW.PrintLast Go.Proofs.YtcofacgdijjnoaaGreatW.PrintMore
set_option linter.unusedVariables false
set_option linter.unusedSimpArgs false
set_option maxHeartbeats 8000000
set_option maxRecDepth 100000
theorem w6_wrap (x : Int) : W6 (IntKind.wrap .i64 x) := by
  rw [IntKind.wrap_i64]
  unfold W6
  omega
theorem w6_mv {a n i : Int} (h : W6 i) : W6 (mvI a n i) := by
  unfold mvI
  split
  · exact w6_wrap _
  · exact h
theorem ws_do {t : Sh} {e : Int} (h1 : e = 0 → OkS t) (h2 : e ≠ 0 → t = zSh) : WS t := by
  rcases Classical.em (e = 0) with h | h
  · exact ws_ok (h1 h)
  · rw [h2 h]
    exact ⟨fun c hc => (List.not_mem_nil hc).elim, fun c hc => (List.not_mem_nil hc).elim⟩
theorem moved_any {w : World} {V : SV} {s : Sh} {a n z : Int} (h : Rd w V s) (hw : WS s) (ha : W6 a) (hn : W6 n) (hz : W6 z) :
    Calls Tryz.prog 6 #[.agg (shv V s), .int .i64 a, .int .i64 n, .int .i64 z] w fun e w' => e = .returned (.bool true) ∧ Below w.heap.size w w' := by
  have hb0 := below_alloc (Below.refl w.heap.size w) (Obj.cells (shv V s) 26 (0, 0))
  have hx0 := blk_new w (Obj.cells (shv V s) 26 (0, 0))
  obtain ⟨gb, hgc, hgf⟩ := great_any (x := stN 0 0 0 0 0) h
  have hck := fun (W : World) (hb : Below w.heap.size w W) => check_any (h.below hb) hw
  have hcf := @chk_iff s
  obtain ⟨A1, c1, A2, c2, A3, c3, A4, c4⟩ := V
  obtain ⟨rt, wd, ht, ce, me⟩ := s
  obtain ⟨s0, s1, s2, s3, s4⟩ := five hx0
  simp only [] at s0 s1 s2 s3 s4
  have HAW := Lib.hid (fun W => awake_any W)
  have HB0 := Lib.hid hb0
  have HX0 := Lib.hid hx0
  have HR := Lib.hid h
  have HWS := Lib.hid hw
  have HGC := Lib.hid hgc
  have HGF := Lib.hid hgf
  have HCK := Lib.hid hck
  have HCF := Lib.hid hcf
  clear h hw hb0 hx0 hgc hgf hck hcf
  cases gb with
  | true =>
    go_enter Tryz.func6, Tryz.ntmps6
    go_wp2_with (first | (go_at_call 8; refine (HGC.out _ HB0.out).mono ?_; rintro e w1 ⟨rfl, hb1⟩; have HB1 := Lib.hid hb1; clear hb1) | (go_at_call 7; refine (HAW.out _).mono ?_; rintro e w2 ⟨rfl, hb2⟩; have HB2 := Lib.hid hb2; clear hb2))
    go_ret
    exact ⟨rfl, below_trans HB0.out (below_mono (below_trans HB1.out (below_mono HB2.out HB1.out.size)) HB0.out.size)⟩
  | false =>
    by_cases hq : chk ⟨rt, wd, ht, ce, me⟩ = 0
    · have HOK := Lib.hid (HCF.out.mp hq)
      have hgg : Few ⟨rt, wd, ht, ce, me⟩ := by first | exact (HGF.out trivial).1 | exact (HGF.out rfl).1
      have HFW := Lib.hid hgg
      have hck := HCK.out
      rw [hq] at hck
      have HCH := Lib.hid hck
      clear hck HCK HCF hgg hq HGF
      go_enter Tryz.func6, Tryz.ntmps6
      go_upto_region 3 with (first | (go_at_call 8; refine (HGC.out _ HB0.out).mono ?_; rintro e w1 ⟨rfl, hb1⟩; have hb2 := below_trans HB0.out (below_mono hb1 HB0.out.size); have hx2 := blk_below HX0.out hb1; obtain ⟨s0, s1, s2, s3, s4⟩ := five hx2; simp only [] at s0 s1 s2 s3 s4; have HB2 := Lib.hid hb2; have HX2 := Lib.hid hx2; clear hb1 hb2 hx2) | (go_at_call 11; refine (HCH.out _ HB2.out).mono ?_; rintro e w4 ⟨rfl, hb4⟩; have hb5 := below_trans HB2.out (below_mono hb4 HB2.out.size); have hx5 := blk_below HX2.out hb4; have HB5 := Lib.hid hb5; have HX5 := Lib.hid hx5; clear hb4 hb5 hx5))
      clear HCH HB0 HX0 HB2 HX2
      obtain ⟨s0, s1, s2, s3, s4⟩ := five HX5.out
      simp only [] at s0 s1 s2 s3 s4
      have hdo := fun (W : World) (hb : Below w4.heap.size w4 W) => do_any (V := ⟨A1, c1, A2, c2, A3, c3, A4, c4⟩) (s := ⟨rt, wd, ht, ce, me⟩) (x := (stN 5 a 0 n z)) (HR.out.below (below_trans HB5.out (below_mono hb HB5.out.size))) HWS.out HFW.out ⟨ha, w60, w60, w60, hn, hz, tx0⟩ steps_any
      have hmv := @rows_got ⟨rt, wd, ht, ce, me⟩ a 0 n z HOK.out
      have hbd := @do_bad ⟨rt, wd, ht, ce, me⟩ (stN 5 a 0 n z)
      generalize doF ⟨rt, wd, ht, ce, me⟩ (stN 5 a 0 n z) = dd at hdo hmv hbd
      obtain ⟨⟨dr, dwd, dht, dce, dme⟩, de⟩ := dd
      simp only [] at hdo hmv hbd
      have HDO := Lib.hid hdo
      have HMV := Lib.hid hmv
      have HZ1 := Lib.hid hbd
      clear hdo hmv hbd
      go_cut [9, 10] (fun va vb wx => ∃ bt A5 c5 A6 c6 A7 c7 A8 c8, va = .pointer (some ⟨bt, 0, none⟩) ∧ vb = .int .i64 de ∧ w4.heap.size ≤ bt ∧ Hid (Below w4.heap.size w4 wx) ∧ Hid (wx.heap[bt]? = some (Obj.cells #[.int .i64 dr, .slice A5 dwd.length c5, .slice A6 dht.length c6, .slice A7 dce.length c7, .slice A8 dme.length c8] 26 (0, 0))) ∧ Hid (OwI wx w4.heap.size (.slice A5 dwd.length c5) dwd ∧ OwI wx w4.heap.size (.slice A6 dht.length c6) dht ∧ OwC wx w4.heap.size (.slice A7 dce.length c7) dce ∧ OwR wx w4.heap.size (.slice A8 dme.length c8) dme))
      case first =>
        go_wp2_with (go_at_call 9; refine (HDO.out _ (Below.refl _ _)).mono ?_; rintro e wh ⟨v1, v2, v3, v4, rfl, o1, o2, o3, o4, hne, hbn⟩; obtain ⟨A5, c5, rfl⟩ := ow_slice o1; obtain ⟨A6, c6, rfl⟩ := ow_slice o2; obtain ⟨A7, c7, rfl⟩ := ow_slice o3; obtain ⟨A8, c8, rfl⟩ := ow_slice o4;)
        go_meet
        have hba := below_alloc (Below.refl wh.heap.size wh) (Obj.cells #[.int .i64 dr, .slice A5 dwd.length c5, .slice A6 dht.length c6, .slice A7 dce.length c7, .slice A8 dme.length c8] 26 (0, 0))
        exact ⟨_, _, _, _, _, _, _, _, _, rfl, rfl, hbn.size, Lib.hid (below_alloc hbn _), Lib.hid (blk_new wh (Obj.cells #[.int .i64 dr, .slice A5 dwd.length c5, .slice A6 dht.length c6, .slice A7 dce.length c7, .slice A8 dme.length c8] 26 (0, 0))), Lib.hid ⟨Ow.below o1 hba, Ow.below o2 hba, Ow.below o3 hba, Ow.below o4 hba⟩⟩
      case rest =>
        obtain ⟨bt, A5, c5, A6, c6, A7, c7, A8, c8, rfl, rfl, hge, HBc, HBb, HOW⟩ := hcut
        obtain ⟨wT, hwT⟩ : ∃ x, x = wc := ⟨_, rfl⟩
        subst hwT
        have HBT := Lib.hid (below_trans HB5.out (below_mono HBc.out HB5.out.size))
        have HXT := Lib.hid (blk_below HX5.out HBc.out)
        have HRT := Lib.hid (rd_ow HOW.out.1 HOW.out.2.1 HOW.out.2.2.1 HOW.out.2.2.2 (rt := dr))
        clear s0 s1 s2 s3 s4 HDO HX5
        obtain ⟨s0, s1, s2, s3, s4⟩ := five HXT.out
        simp only [] at s0 s1 s2 s3 s4
        have hdo := fun (W : World) (hb : Below wT.heap.size wT W) => do_any (V := ⟨A1, c1, A2, c2, A3, c3, A4, c4⟩) (s := ⟨rt, wd, ht, ce, me⟩) (x := (stN 7 0 a n z)) (HR.out.below (below_trans HBT.out (below_mono hb HBT.out.size))) HWS.out HFW.out ⟨w60, ha, w60, w60, hn, hz, tx0⟩ steps_any
        have hmv := @cols_got ⟨rt, wd, ht, ce, me⟩ 0 a n z HOK.out
        have hbd := @do_bad ⟨rt, wd, ht, ce, me⟩ (stN 7 0 a n z)
        generalize doF ⟨rt, wd, ht, ce, me⟩ (stN 7 0 a n z) = dd at hdo hmv hbd
        obtain ⟨⟨er, ewd, eht, ece, eme⟩, ee⟩ := dd
        simp only [] at hdo hmv hbd
        have HDO := Lib.hid hdo
        have HMU := Lib.hid hmv
        have HZ2 := Lib.hid hbd
        clear hdo hmv hbd
        go_upto_region 4 with (fail)
        go_cut [11, 12] (fun va vb wx => ∃ bu A9 c9 Aa ca Ab cb Ac cc, va = .pointer (some ⟨bu, 0, none⟩) ∧ vb = .int .i64 ee ∧ wT.heap.size ≤ bu ∧ Hid (Below wT.heap.size wT wx) ∧ Hid (wx.heap[bu]? = some (Obj.cells #[.int .i64 er, .slice A9 ewd.length c9, .slice Aa eht.length ca, .slice Ab ece.length cb, .slice Ac eme.length cc] 26 (0, 0))) ∧ Hid (OwI wx wT.heap.size (.slice A9 ewd.length c9) ewd ∧ OwI wx wT.heap.size (.slice Aa eht.length ca) eht ∧ OwC wx wT.heap.size (.slice Ab ece.length cb) ece ∧ OwR wx wT.heap.size (.slice Ac eme.length cc) eme))
        case first =>
          go_wp2_with (go_at_call 9; refine (HDO.out _ (Below.refl _ _)).mono ?_; rintro e wh ⟨v1, v2, v3, v4, rfl, o1, o2, o3, o4, hne, hbn⟩; obtain ⟨A9, c9, rfl⟩ := ow_slice o1; obtain ⟨Aa, ca, rfl⟩ := ow_slice o2; obtain ⟨Ab, cb, rfl⟩ := ow_slice o3; obtain ⟨Ac, cc, rfl⟩ := ow_slice o4;)
          go_meet
          have hba := below_alloc (Below.refl wh.heap.size wh) (Obj.cells #[.int .i64 er, .slice A9 ewd.length c9, .slice Aa eht.length ca, .slice Ab ece.length cb, .slice Ac eme.length cc] 26 (0, 0))
          exact ⟨_, _, _, _, _, _, _, _, _, rfl, rfl, hbn.size, Lib.hid (below_alloc hbn _), Lib.hid (blk_new wh (Obj.cells #[.int .i64 er, .slice A9 ewd.length c9, .slice Aa eht.length ca, .slice Ab ece.length cb, .slice Ac eme.length cc] 26 (0, 0))), Lib.hid ⟨Ow.below o1 hba, Ow.below o2 hba, Ow.below o3 hba, Ow.below o4 hba⟩⟩
        case rest =>
          obtain ⟨bu, A9, c9, Aa, ca, Ab, cb, Ac, cc, rfl, rfl, hgf, HBd, HBu, HOX⟩ := hcut
          obtain ⟨wU, hwU⟩ : ∃ x, x = wc := ⟨_, rfl⟩
          subst hwU
          have HBU := Lib.hid (below_trans HBT.out (below_mono HBd.out HBT.out.size))
          have HXU := Lib.hid (blk_below HXT.out HBd.out)
          have HTU := Lib.hid (blk_below HBb.out HBd.out)
          have HRt := Lib.hid (HRT.out.below HBd.out)
          have HRu := Lib.hid (rd_ow HOX.out.1 HOX.out.2.1 HOX.out.2.2.1 HOX.out.2.2.2 (rt := er))
          have HWt := Lib.hid (ws_do (fun e => (HMV.out e).1) HZ1.out)
          have HWu := Lib.hid (ws_do (fun e => (HMU.out e).1) HZ2.out)
          clear s0 s1 s2 s3 s4 HDO HXT HRT HBb
          go_wp2_with fail
          go_loopg [13] ce.length (fun gg v13 wr => ∃ j : Nat, j ≤ ce.length ∧ gg = ce.length - j ∧ v13 = .int .i64 j ∧ Hid (Below wU.heap.size wU wr))
          case atStart => exact ⟨0, Nat.zero_le _, rfl, rfl, Lib.hid (Below.refl _ _)⟩
          case round =>
            obtain ⟨j, hj, hg, rfl, HB⟩ := hrel
            have Hg := Lib.hid hg
            clear hg
            obtain ⟨s0, s1, s2, s3, s4⟩ := five (blk_below HXU.out HB.out)
            simp only [] at s0 s1 s2 s3 s4
            have hfw := HFW.out.2.2.1
            simp only [] at hfw
            by_cases hlt : j < ce.length
            · have hlz : (j : Int) < (ce.length : Int) := by omega
              obtain ⟨ad, rfl, p0, p1, p2, p3, p4, p5⟩ := PE.at_T44 ((HR.out.below (below_trans HBU.out (below_mono HB.out HBU.out.size))).h3) (j : Int) (by omega) hlz
              have hxx : PE.rd_T44 ce (j : Int) = ce[j] := by
                unfold PE.rd_T44
                rw [Int.toNat_natCast, List.getD_eq_getElem?_getD, List.getElem?_eq_getElem hlt]; rfl
              rw [Int.toNat_natCast] at p0 p1 p2 p3 p4 p5
              have hmem : PE.rd_T44 ce (j : Int) ∈ ce := by rw [hxx]; exact List.getElem_mem hlt
              clear hxx
              have HM := Lib.hid (fun e => (HMV.out e).2.2.2.2.2 _ hmem)
              have HN := Lib.hid (fun e => (HMU.out e).2.2.2.2.2 _ hmem)
              have hwc := HWS.out.1 _ hmem
              generalize PE.rd_T44 ce (j : Int) = x at p0 p1 p2 p3 p4 p5 HM HN hwc
              obtain ⟨x0, x1, x2, y0, y1, y2⟩ := x
              simp only [] at p0 p1 p2 p3 p4 p5
              have HWc := Lib.hid hwc
              have HLT := Lib.hid hlt
              clear hmem hwc hlt
              have hoc := blk_new wr (Obj.cells #[.int .i64 x0, .int .i64 x1, .string x2, .int .i64 y0, .int .i64 y1, .int .i64 y2] 44 (0, 0))
              obtain ⟨q0, q1, q2, q3, q4, q5, _, _, _, _, _, _⟩ := got6 hoc
              have HOC := Lib.hid hoc
              have HBA := Lib.hid (below_alloc (Below.refl wr.heap.size wr) (Obj.cells #[.int .i64 x0, .int .i64 x1, .string x2, .int .i64 y0, .int .i64 y1, .int .i64 y2] 44 (0, 0)))
              clear hoc
              go_upto_region 9 with (fail)
              have hx0 : W6 x0 := HWc.out.1
              have hx1 : W6 x1 := HWc.out.2
              go_quiet (fail)
              go_upto_if 66 with (fail)
              go_cut [15] (fun v15 wx => v15 = .int .i64 (mvI a n x0) ∧ Hid (Below wr.heap.size wr wx) ∧ Hid (wx.heap[wr.heap.size]? = some (Obj.cells #[.int .i64 x0, .int .i64 x1, .string x2, .int .i64 y0, .int .i64 y1, .int .i64 y2] 44 (0, 0))))
              case first =>
                rcases Classical.em (a ≤ x0) with hax | hax
                · have HM1 := Lib.hid (show mvI a n x0 = _ from if_pos hax)
                  go_wp2_with fail
                  go_meet
                  exact ⟨(by rw [HM1.out]; try rw [IntWalk.i64_left]), Lib.hid (pw_below_drewN HBA.out _), Lib.hid HOC.out⟩
                · have HM1 := Lib.hid (show mvI a n x0 = _ from if_neg hax)
                  go_wp2_with fail
                  go_meet
                  exact ⟨(by rw [HM1.out]; try rw [IntWalk.i64_left]), Lib.hid (pw_below_drewN HBA.out _), Lib.hid HOC.out⟩
              case rest =>
                obtain ⟨rfl, HBA', HOC'⟩ := hcut
                obtain ⟨wA, hwA⟩ : ∃ x, x = wc := ⟨_, rfl⟩
                subst hwA
                clear q0 q1 q2 q3 q4 q5 HBA HOC
                go_upto_if 72 with (fail)
                go_cut [16] (fun v16 wx => v16 = .int .i64 (mvI a n x1) ∧ wA = wx)
                case first =>
                  rcases Classical.em (a ≤ x1) with hax | hax
                  · have HM1 := Lib.hid (show mvI a n x1 = _ from if_pos hax)
                    go_wp2_with fail
                    go_meet
                    exact ⟨(by rw [HM1.out]; try rw [IntWalk.i64_left]), rfl⟩
                  · have HM1 := Lib.hid (show mvI a n x1 = _ from if_neg hax)
                    go_wp2_with fail
                    go_meet
                    exact ⟨(by rw [HM1.out]; try rw [IntWalk.i64_left]), rfl⟩
                case rest =>
                  obtain ⟨rfl, rfl⟩ := hcut
                  have HBA2 := Lib.hid (below_trans HB.out (below_mono HBA'.out HB.out.size))
                  obtain ⟨q0, q1, q2, q3, q4, q5, _, _, _, _, _, _⟩ := got6 HOC'.out
                  obtain ⟨t0, t1, t2, t3, t4⟩ := five (V := ⟨A5, c5, A6, c6, A7, c7, A8, c8⟩) (s := ⟨dr, dwd, dht, dce, dme⟩) (blk_below HTU.out HBA2.out)
                  simp only [] at t0 t1 t2 t3 t4
                  have hget := fun (W : World) (hb : Below wA.heap.size wA W) => get_any (V := ⟨A5, c5, A6, c6, A7, c7, A8, c8⟩) (s := ⟨dr, dwd, dht, dce, dme⟩) ((HRt.out.below HBA2.out).below hb) HWt.out (w6_mv (a := a) (n := n) hx0) hx1
                  have hm := HM.out
                  generalize get ⟨dr, dwd, dht, dce, dme⟩ (mvI a n x0) x1 = gg at hget hm
                  obtain ⟨⟨g0, g1, g2, g3, g4, g5⟩, gq⟩ := gg
                  have HGT : Hid (∀ W, Below wA.heap.size wA W → Calls Tryz.prog 13 #[.agg (shv ⟨A5, c5, A6, c6, A7, c7, A8, c8⟩ ⟨dr, dwd, dht, dce, dme⟩), .int .i64 (mvI a n x0), .int .i64 x1] W fun e w' => e = .returned (.tuple #[.agg #[.int .i64 g0, .int .i64 g1, .string g2, .int .i64 g3, .int .i64 g4, .int .i64 g5], .int .i64 gq]) ∧ Below W.heap.size W w') := Lib.hid hget
                  have HGM := Lib.hid hm
                  clear hget hm s0 s1 s2 s3 s4 HM
                  go_upto_region 14 with (fail)
                  go_cut [17, 18] (fun va vb wx => ∃ bg, va = .pointer (some ⟨bg, 0, none⟩) ∧ vb = .int .i64 gq ∧ Hid (Below wA.heap.size wA wx) ∧ Hid (wx.heap[bg]? = some (Obj.cells #[.int .i64 g0, .int .i64 g1, .string g2, .int .i64 g3, .int .i64 g4, .int .i64 g5] 44 (0, 0))))
                  case first =>
                    go_wp2_with (go_at_call 13; refine (HGT.out _ (Below.refl _ _)).mono ?_; rintro e wh ⟨rfl, hbn⟩)
                    go_meet
                    exact ⟨_, rfl, rfl, Lib.hid (below_alloc hbn _), Lib.hid (blk_new wh (Obj.cells #[.int .i64 g0, .int .i64 g1, .string g2, .int .i64 g3, .int .i64 g4, .int .i64 g5] 44 (0, 0)))⟩
                  case rest =>
                    obtain ⟨bg, rfl, rfl, HBe, HOG⟩ := hcut
                    obtain ⟨wB, hwB⟩ : ∃ x, x = wc := ⟨_, rfl⟩
                    subst hwB
                    clear t0 t1 t2 t3 t4 q0 q1 q2 q3 q4 q5 HGT
                    have HBB := Lib.hid (below_trans HBA2.out (below_mono HBe.out HBA2.out.size))
                    have HOC2 := Lib.hid (blk_below HOC'.out HBe.out)
                    obtain ⟨q0, q1, q2, q3, q4, q5, _, _, _, _, _, _⟩ := got6 HOC2.out
                    obtain ⟨u0, u1, u2, u3, u4⟩ := five (V := ⟨A9, c9, Aa, ca, Ab, cb, Ac, cc⟩) (s := ⟨er, ewd, eht, ece, eme⟩) (blk_below HBu.out HBB.out)
                    simp only [] at u0 u1 u2 u3 u4
                    have hget := fun (W : World) (hb : Below wB.heap.size wB W) => get_any (V := ⟨A9, c9, Aa, ca, Ab, cb, Ac, cc⟩) (s := ⟨er, ewd, eht, ece, eme⟩) ((HRu.out.below HBB.out).below hb) HWu.out hx0 (w6_mv (a := a) (n := n) hx1)
                    have hm := HN.out
                    generalize get ⟨er, ewd, eht, ece, eme⟩ x0 (mvI a n x1) = gg at hget hm
                    obtain ⟨⟨h0, h1, h2, h3, h4, h5⟩, hq⟩ := gg
                    have HGT : Hid (∀ W, Below wB.heap.size wB W → Calls Tryz.prog 13 #[.agg (shv ⟨A9, c9, Aa, ca, Ab, cb, Ac, cc⟩ ⟨er, ewd, eht, ece, eme⟩), .int .i64 x0, .int .i64 (mvI a n x1)] W fun e w' => e = .returned (.tuple #[.agg #[.int .i64 h0, .int .i64 h1, .string h2, .int .i64 h3, .int .i64 h4, .int .i64 h5], .int .i64 hq]) ∧ Below W.heap.size W w') := Lib.hid hget
                    have HHM := Lib.hid hm
                    clear hget hm HN
                    go_upto_region 15 with (fail)
                    go_cut [19, 20] (fun va vb wx => ∃ bh, va = .pointer (some ⟨bh, 0, none⟩) ∧ vb = .int .i64 hq ∧ Hid (Below wB.heap.size wB wx) ∧ Hid (wx.heap[bh]? = some (Obj.cells #[.int .i64 h0, .int .i64 h1, .string h2, .int .i64 h3, .int .i64 h4, .int .i64 h5] 44 (0, 0))))
                    case first =>
                      go_wp2_with (go_at_call 13; refine (HGT.out _ (Below.refl _ _)).mono ?_; rintro e wh ⟨rfl, hbn⟩)
                      go_meet
                      exact ⟨_, rfl, rfl, Lib.hid (below_alloc hbn _), Lib.hid (blk_new wh (Obj.cells #[.int .i64 h0, .int .i64 h1, .string h2, .int .i64 h3, .int .i64 h4, .int .i64 h5] 44 (0, 0)))⟩
                    case rest =>
                      obtain ⟨bh, rfl, rfl, HBf, HOH⟩ := hcut
                      obtain ⟨wC, hwC⟩ : ∃ x, x = wc := ⟨_, rfl⟩
                      subst hwC
                      clear u0 u1 u2 u3 u4 q0 q1 q2 q3 q4 q5 HGT
                      have HBC := Lib.hid (below_trans HBB.out (below_mono HBf.out HBB.out.size))
                      obtain ⟨q0, q1, q2, q3, q4, q5, _, _, _, _, _, _⟩ := got6 (blk_below HOC2.out HBf.out)
                      obtain ⟨k0, k1, k2, k3, k4, k5, _, _, _, _, _, _⟩ := got6 (blk_below HOG.out HBf.out)
                      obtain ⟨l0, l1, l2, l3, l4, l5, _, _, _, _, _, _⟩ := got6 HOH.out
                      rcases Classical.em (de = 0) with hde | hde
                      · cases HGM.out hde
                        rcases Classical.em (ee = 0) with hee | hee
                        · cases HHM.out hee
                          subst hde hee
                          go_wp2_with fail
                          go_roundg (ce.length - (j + 1))
                          case measure => have := Hg.out; have := HLT.out; omega
                          case rel => exact ⟨j + 1, HLT.out, rfl, by go_num, HBC⟩
                        · have heb : (ee == 0) = false := by simpa using hee
                          subst hde
                          go_wp2_with fail
                          go_roundg (ce.length - (j + 1))
                          case measure => have := Hg.out; have := HLT.out; omega
                          case rel => exact ⟨j + 1, HLT.out, rfl, by go_num, HBC⟩
                      · have hdb : (de == 0) = false := by simpa using hde
                        rcases Classical.em (ee = 0) with hee | hee
                        · cases HHM.out hee
                          subst hee
                          go_wp2_with fail
                          go_roundg (ce.length - (j + 1))
                          case measure => have := Hg.out; have := HLT.out; omega
                          case rel => exact ⟨j + 1, HLT.out, rfl, by go_num, HBC⟩
                        · have heb : (ee == 0) = false := by simpa using hee
                          go_wp2_with fail
                          go_roundg (ce.length - (j + 1))
                          case measure => have := Hg.out; have := HLT.out; omega
                          case rel => exact ⟨j + 1, HLT.out, rfl, by go_num, HBC⟩
            · have hjl : j = ce.length := by omega
              subst hjl
              have HBW := Lib.hid (below_trans HBU.out (below_mono HB.out HBU.out.size))
              obtain ⟨t0, t1, t2, t3, t4⟩ := five (V := ⟨A5, c5, A6, c6, A7, c7, A8, c8⟩) (s := ⟨dr, dwd, dht, dce, dme⟩) (blk_below HTU.out HB.out)
              obtain ⟨u0, u1, u2, u3, u4⟩ := five (V := ⟨A9, c9, Aa, ca, Ab, cb, Ac, cc⟩) (s := ⟨er, ewd, eht, ece, eme⟩) (blk_below HBu.out HB.out)
              simp only [] at t0 t1 t2 t3 t4 u0 u1 u2 u3 u4
              have hj := HOK.out.htn
              have hj' := HOK.out.wdn
              simp only [] at hj hj'
              rcases Classical.em (de = 0) with hde | hde
              · obtain ⟨_, hl1, hl2, n1, n2, _⟩ := HMV.out hde
                rcases Classical.em (ee = 0) with hee | hee
                · obtain ⟨_, hl3, hl4, _, n3, _⟩ := HMU.out hee
                  subst hde hee
                  go_wp2_with (go_at_call 7; refine (HAW.out _).mono ?_; rintro e w9 ⟨rfl, hb9⟩; have HB9 := Lib.hid hb9; clear hb9)
                  go_ret
                  exact ⟨rfl, below_trans HBW.out (below_mono HB9.out HBW.out.size)⟩
                · have heb : (ee != 0) = true := by simpa using hee
                  subst hde
                  go_wp2_with (go_at_call 7; refine (HAW.out _).mono ?_; rintro e w9 ⟨rfl, hb9⟩; have HB9 := Lib.hid hb9; clear hb9)
                  go_ret
                  exact ⟨rfl, below_trans HBW.out (below_mono HB9.out HBW.out.size)⟩
              · have hdb : (de != 0) = true := by simpa using hde
                rcases Classical.em (ee = 0) with hee | hee
                · obtain ⟨_, hl3, hl4, n1, n3, _⟩ := HMU.out hee
                  subst hee
                  go_wp2_with (go_at_call 7; refine (HAW.out _).mono ?_; rintro e w9 ⟨rfl, hb9⟩; have HB9 := Lib.hid hb9; clear hb9)
                  go_ret
                  exact ⟨rfl, below_trans HBW.out (below_mono HB9.out HBW.out.size)⟩
                · have heb : (ee != 0) = true := by simpa using hee
                  go_wp2_with (go_at_call 7; refine (HAW.out _).mono ?_; rintro e w9 ⟨rfl, hb9⟩; have HB9 := Lib.hid hb9; clear hb9)
                  go_ret
                  exact ⟨rfl, below_trans HBW.out (below_mono HB9.out HBW.out.size)⟩
    · generalize chk ⟨rt, wd, ht, ce, me⟩ = q at HCK HCF hq
      have hqz : (q != 0) = true := by simpa using hq
      go_enter Tryz.func6, Tryz.ntmps6
      go_wp2_with (first | (go_at_call 8; refine (HGC.out _ HB0.out).mono ?_; rintro e w1 ⟨rfl, hb1⟩; have hb2 := below_trans HB0.out (below_mono hb1 HB0.out.size); have hx2 := blk_below HX0.out hb1; obtain ⟨s0, s1, s2, s3, s4⟩ := five hx2; simp only [] at s0 s1 s2 s3 s4; have HB2 := Lib.hid hb2; clear hb1 hb2 hx2) | (go_at_call 11; refine (HCK.out _ HB2.out).mono ?_; rintro e w4 ⟨rfl, hb4⟩; have hb5 := below_trans HB2.out (below_mono hb4 HB2.out.size); have HB5 := Lib.hid hb5; clear hb4 hb5) | (go_at_call 7; refine (HAW.out _).mono ?_; rintro e w6 ⟨rfl, hb6⟩; have HB6 := Lib.hid hb6; clear hb6))
      go_ret
      exact ⟨rfl, below_trans HB5.out (below_mono HB6.out HB5.out.size)⟩
end Go.Proofs.YtcofacgdijjnoaaGreat
