/- the law EditBack: walked. -/
import Derived.Test.YtcofacgdijjnoaaGreatNbf
namespace Go.Proofs.YtcofacgdijjnoaaGreat
open PE (S31 S44 S49 k44 k49 k31)
open Go.RowKit Go.Shelf Go.Lib Go.Proofs.YtcofacgdijjnoaaGreatW.PrintWords Go.Proofs.YtcofacgdijjnoaaGreatW.PrintLast Go.Proofs.YtcofacgdijjnoaaGreatW.PrintMore
set_option linter.unusedVariables false
set_option linter.unusedSimpArgs false
set_option maxHeartbeats 8000000
set_option maxRecDepth 100000
theorem back_any {w : World} {V : SV} {s : Sh} {a n z : Int} (h : Rd w V s) (hw : WS s) (ha : W6 a) (hn : W6 n) (hz : W6 z) :
    Calls Tryz.prog 4 #[.agg (shv V s), .int .i64 a, .int .i64 n, .int .i64 z] w fun e w' => e = .returned (.bool true) ∧ Below w.heap.size w w' := by
  have hb0 := below_alloc (Below.refl w.heap.size w) (Obj.cells (shv V s) 26 (0, 0))
  have hx0 := blk_new w (Obj.cells (shv V s) 26 (0, 0))
  obtain ⟨gb, hgc, hgf⟩ := great_any (x := stN 0 0 0 0 0) h
  have hck := fun (W : World) (hb : Below w.heap.size w W) => check_any (h.below hb) hw
  have hcf := @chk_iff s
  obtain ⟨A1, c1, A2, c2, A3, c3, A4, c4⟩ := V
  obtain ⟨rt, wd, ht, ce, me⟩ := s
  obtain ⟨s0, s1, s2, s3, s4⟩ := five hx0
  simp only [] at s0 s1 s2 s3 s4
  have HAW := Lib.hid (fun W => awake_any W)
  have HB0 := Lib.hid hb0
  have HX0 := Lib.hid hx0
  have HR := Lib.hid h
  have HWS := Lib.hid hw
  have HGC := Lib.hid hgc
  have HGF := Lib.hid hgf
  have HCK := Lib.hid hck
  have HCF := Lib.hid hcf
  clear h hw hb0 hx0 hgc hgf hck hcf
  cases gb with
  | true =>
    go_enter Tryz.func4, Tryz.ntmps4
    go_wp2_with (first | (go_at_call 8; refine (HGC.out _ HB0.out).mono ?_; rintro e w1 ⟨rfl, hb1⟩; have HB1 := Lib.hid hb1; clear hb1) | (go_at_call 7; refine (HAW.out _).mono ?_; rintro e w2 ⟨rfl, hb2⟩; have HB2 := Lib.hid hb2; clear hb2))
    go_ret
    exact ⟨rfl, below_trans HB0.out (below_mono (below_trans HB1.out (below_mono HB2.out HB1.out.size)) HB0.out.size)⟩
  | false =>
    by_cases hq : chk ⟨rt, wd, ht, ce, me⟩ = 0
    · have HOK := Lib.hid (HCF.out.mp hq)
      have hgg : Few ⟨rt, wd, ht, ce, me⟩ := by first | exact (HGF.out trivial).1 | exact (HGF.out rfl).1
      have HFW := Lib.hid hgg
      have hck := HCK.out
      rw [hq] at hck
      have HCH := Lib.hid hck
      clear hck HCK HCF hgg hq HGF
      go_enter Tryz.func4, Tryz.ntmps4
      go_wp2_with (first | (go_at_call 8; refine (HGC.out _ HB0.out).mono ?_; rintro e w1 ⟨rfl, hb1⟩; have hb2 := below_trans HB0.out (below_mono hb1 HB0.out.size); have hx2 := blk_below HX0.out hb1; obtain ⟨s0, s1, s2, s3, s4⟩ := five hx2; simp only [] at s0 s1 s2 s3 s4; have HB2 := Lib.hid hb2; have HX2 := Lib.hid hx2; clear hb1 hb2 hx2) | (go_at_call 11; refine (HCH.out _ HB2.out).mono ?_; rintro e w4 ⟨rfl, hb4⟩; have hb5 := below_trans HB2.out (below_mono hb4 HB2.out.size); have hx5 := blk_below HX2.out hb4; have HB5 := Lib.hid hb5; have HX5 := Lib.hid hx5; clear hb4 hb5 hx5))
      clear HCH HB0 HX0 HB2 HX2
      go_loopg [29] 2 (fun gg v29 wr => ∃ j : Int, 0 ≤ j ∧ j ≤ 2 ∧ gg = (2 - j).toNat ∧ v29 = .int .i64 j ∧ Hid (Below w.heap.size w wr) ∧ Hid (wr.heap[w.heap.size]? = some (.cells (shv ⟨A1, c1, A2, c2, A3, c3, A4, c4⟩ ⟨rt, wd, ht, ce, me⟩) 26 (0, 0))))
      case atStart => exact ⟨0, by decide, by decide, rfl, rfl, HB5, HX5⟩
      case round =>
        obtain ⟨j, hj0, hj, hg, rfl, HB, HX⟩ := hrel
        obtain ⟨s0, s1, s2, s3, s4⟩ := five HX.out
        simp only [] at s0 s1 s2 s3 s4
        by_cases hlt : j < 2
        · have hlz : j < 2 := by omega
          go_upto_region 5 with (fail)
          go_cut [10] (fun v10 wx => v10 = .int .i64 (5 + 2 * j) ∧ wr = wx)
          case first =>
            rcases (show j = 0 ∨ j = 1 by omega) with rfl | rfl
            · go_wp2_with fail
              have hix : ∀ W, Sem.run Tryz.prog (Instr.index 40 (Value.agg #[Value.int IntKind.i64 5, Value.int IntKind.i64 7]) (Value.int IntKind.i64 0)) W = Result.ok (Value.int IntKind.i64 5) W := fun W => rfl
              rw [hix]
              go_wp2_with fail
              go_meet
              exact ⟨rfl, rfl⟩
            · go_wp2_with fail
              have hix : ∀ W, Sem.run Tryz.prog (Instr.index 40 (Value.agg #[Value.int IntKind.i64 5, Value.int IntKind.i64 7]) (Value.int IntKind.i64 1)) W = Result.ok (Value.int IntKind.i64 7) W := fun W => rfl
              rw [hix]
              go_wp2_with fail
              go_meet
              exact ⟨rfl, rfl⟩
          case rest =>
            obtain ⟨rfl, rfl⟩ := hcut
            have hk57 : 5 + 2 * j = 5 ∨ 5 + 2 * j = 7 := by omega
            generalize hkd : 5 + 2 * j = kd at hk57 ⊢
            have hdo := fun (W : World) (hb : Below wr.heap.size wr W) => do_any (V := ⟨A1, c1, A2, c2, A3, c3, A4, c4⟩) (s := ⟨rt, wd, ht, ce, me⟩) (x := stN kd a a n z) (HR.out.below (below_trans HB.out (below_mono hb HB.out.size))) HWS.out HFW.out ⟨ha, ha, w60, w60, hn, hz, tx0⟩ steps_any
            have hkb : (doF ⟨rt, wd, ht, ce, me⟩ (stN kd a a n z)).2 = 0 → doF (doF ⟨rt, wd, ht, ce, me⟩ (stN kd a a n z)).1 (stN (kd + 1) a a n 0) = (⟨rt, wd, ht, ce, me⟩, 0) ∧ (doF ⟨rt, wd, ht, ce, me⟩ (stN kd a a n z)).1 ≠ ⟨rt, wd, ht, ce, me⟩ := by
              rcases hk57 with rfl | rfl
              · exact back_rows HOK.out
              · exact back_cols HOK.out
            have hok := @ok_doF ⟨rt, wd, ht, ce, me⟩ (stN kd a a n z)
            generalize doF ⟨rt, wd, ht, ce, me⟩ (stN kd a a n z) = dd at hdo hkb hok
            obtain ⟨⟨dr, dwd, dht, dce, dme⟩, de⟩ := dd
            simp only [] at hdo hkb hok
            have HDO := Lib.hid hdo
            have HKB := Lib.hid hkb
            have HOKD := Lib.hid hok
            clear hdo hkb hok
            go_upto_region 6 with (fail)
            go_cut [11, 12] (fun va vb wx => ∃ bt A5 c5 A6 c6 A7 c7 A8 c8, va = .pointer (some ⟨bt, 0, none⟩) ∧ vb = .int .i64 de ∧ wr.heap.size ≤ bt ∧ Hid (Below wr.heap.size wr wx) ∧ Hid (wx.heap[bt]? = some (Obj.cells #[.int .i64 dr, .slice A5 dwd.length c5, .slice A6 dht.length c6, .slice A7 dce.length c7, .slice A8 dme.length c8] 26 (0, 0))) ∧ Hid (OwI wx wr.heap.size (.slice A5 dwd.length c5) dwd ∧ OwI wx wr.heap.size (.slice A6 dht.length c6) dht ∧ OwC wx wr.heap.size (.slice A7 dce.length c7) dce ∧ OwR wx wr.heap.size (.slice A8 dme.length c8) dme))
            case first =>
              go_wp2_with (go_at_call 9; refine (HDO.out _ (Below.refl _ _)).mono ?_; rintro e wh ⟨v1, v2, v3, v4, rfl, o1, o2, o3, o4, hne, hbn⟩; obtain ⟨A5, c5, rfl⟩ := ow_slice o1; obtain ⟨A6, c6, rfl⟩ := ow_slice o2; obtain ⟨A7, c7, rfl⟩ := ow_slice o3; obtain ⟨A8, c8, rfl⟩ := ow_slice o4;)
              go_meet
              have hba := below_alloc (Below.refl wh.heap.size wh) (Obj.cells #[.int .i64 dr, .slice A5 dwd.length c5, .slice A6 dht.length c6, .slice A7 dce.length c7, .slice A8 dme.length c8] 26 (0, 0))
              exact ⟨_, _, _, _, _, _, _, _, _, rfl, rfl, hbn.size, Lib.hid (below_alloc hbn _), Lib.hid (blk_new wh (Obj.cells #[.int .i64 dr, .slice A5 dwd.length c5, .slice A6 dht.length c6, .slice A7 dce.length c7, .slice A8 dme.length c8] 26 (0, 0))), Lib.hid ⟨Ow.below o1 hba, Ow.below o2 hba, Ow.below o3 hba, Ow.below o4 hba⟩⟩
            case rest =>
              obtain ⟨bt, A5, c5, A6, c6, A7, c7, A8, c8, rfl, rfl, hge, HBc, HBb, HOW⟩ := hcut
              obtain ⟨wT, hwT⟩ : ∃ x, x = wc := ⟨_, rfl⟩
              subst hwT
              have HBT := Lib.hid (below_trans HB.out (below_mono HBc.out HB.out.size))
              have HXT := Lib.hid (blk_below HX.out HBc.out)
              have hRT := rd_ow HOW.out.1 HOW.out.2.1 HOW.out.2.2.1 HOW.out.2.2.2 (rt := dr)
              have HRT := Lib.hid hRT
              clear s0 s1 s2 s3 s4 hRT
              by_cases hde : de = 0
              · subst hde
                obtain ⟨hk1, hk2⟩ := HKB.out rfl
                have hok := HOKD.out rfl
                have hkw : (IntKind.i64.wrap (kd + 1)) = kd + 1 := by rcases hk57 with rfl | rfl <;> rfl
                have hdo := fun (W : World) (hb : Below wT.heap.size wT W) => do_any (V := ⟨A5, c5, A6, c6, A7, c7, A8, c8⟩) (s := ⟨dr, dwd, dht, dce, dme⟩) (x := stN (kd + 1) a a n 0) (HRT.out.below hb) (ws_ok hok) (few_ok hok) ⟨ha, ha, w60, w60, hn, w60, tx0⟩ steps_any
                rw [hk1] at hdo
                simp only [] at hdo
                have HDO2 := Lib.hid hdo
                have HNE := Lib.hid hk2
                have HOKT := Lib.hid hok
                clear hdo hk1 hk2 hok HDO HKB HOKD
                obtain ⟨t0, t1, t2, t3, t4⟩ := five (V := ⟨A5, c5, A6, c6, A7, c7, A8, c8⟩) (s := ⟨dr, dwd, dht, dce, dme⟩) HBb.out
                simp only [] at t0 t1 t2 t3 t4
                go_upto_region 8 with (fail)
                go_cut [13, 14] (fun va vb wx => ∃ bu A9 c9 Aa ca Ab cb Ac cc, va = .pointer (some ⟨bu, 0, none⟩) ∧ vb = .int .i64 0 ∧ wT.heap.size ≤ bu ∧ Hid (Below wT.heap.size wT wx) ∧ Hid (wx.heap[bu]? = some (Obj.cells #[.int .i64 rt, .slice A9 wd.length c9, .slice Aa ht.length ca, .slice Ab ce.length cb, .slice Ac me.length cc] 26 (0, 0))) ∧ Hid (OwI wx wT.heap.size (.slice A9 wd.length c9) wd ∧ OwI wx wT.heap.size (.slice Aa ht.length ca) ht ∧ OwC wx wT.heap.size (.slice Ab ce.length cb) ce ∧ OwR wx wT.heap.size (.slice Ac me.length cc) me))
                case first =>
                  go_wp2_with (go_at_call 9; refine (HDO2.out _ (Below.refl _ _)).mono ?_; rintro e wh ⟨v1, v2, v3, v4, rfl, o1, o2, o3, o4, hne, hbn⟩; obtain ⟨A9, c9, rfl⟩ := ow_slice o1; obtain ⟨Aa, ca, rfl⟩ := ow_slice o2; obtain ⟨Ab, cb, rfl⟩ := ow_slice o3; obtain ⟨Ac, cc, rfl⟩ := ow_slice o4;)
                  go_meet
                  have hba := below_alloc (Below.refl wh.heap.size wh) (Obj.cells #[.int .i64 rt, .slice A9 wd.length c9, .slice Aa ht.length ca, .slice Ab ce.length cb, .slice Ac me.length cc] 26 (0, 0))
                  exact ⟨_, _, _, _, _, _, _, _, _, rfl, rfl, hbn.size, Lib.hid (below_alloc hbn _), Lib.hid (blk_new wh (Obj.cells #[.int .i64 rt, .slice A9 wd.length c9, .slice Aa ht.length ca, .slice Ab ce.length cb, .slice Ac me.length cc] 26 (0, 0))), Lib.hid ⟨Ow.below o1 hba, Ow.below o2 hba, Ow.below o3 hba, Ow.below o4 hba⟩⟩
                case rest =>
                  obtain ⟨bu, A9, c9, Aa, ca, Ab, cb, Ac, cc, rfl, rfl, hgf, HBd, HBu, HOX⟩ := hcut
                  obtain ⟨wU, hwU⟩ : ∃ x, x = wc := ⟨_, rfl⟩
                  subst hwU
                  have HBU := Lib.hid (below_trans HBT.out (below_mono HBd.out HBT.out.size))
                  have HXU := Lib.hid (blk_below HXT.out HBd.out)
                  have HTU := Lib.hid (blk_below HBb.out HBd.out)
                  have HRU := Lib.hid (rd_ow HOX.out.1 HOX.out.2.1 HOX.out.2.2.1 HOX.out.2.2.2 (rt := rt))
                  clear t0 t1 t2 t3 t4
                  obtain ⟨s0, s1, s2, s3, s4⟩ := five HXU.out
                  obtain ⟨t0, t1, t2, t3, t4⟩ := five (V := ⟨A5, c5, A6, c6, A7, c7, A8, c8⟩) (s := ⟨dr, dwd, dht, dce, dme⟩) HTU.out
                  obtain ⟨u0, u1, u2, u3, u4⟩ := five (V := ⟨A9, c9, Aa, ca, Ab, cb, Ac, cc⟩) (s := ⟨rt, wd, ht, ce, me⟩) HBu.out
                  simp only [] at s0 s1 s2 s3 s4 t0 t1 t2 t3 t4 u0 u1 u2 u3 u4
                  have hf := HFW.out
                  have HF := Lib.hid (show wd.length ≤ 1000000 ∧ ht.length ≤ 1000000 ∧ ce.length ≤ 1000000 ∧ me.length ≤ 1000000 from ⟨Nat.le_trans hf.1 (by decide), Nat.le_trans hf.2.1 (by decide), Nat.le_trans hf.2.2.1 (by decide), Nat.le_trans hf.2.2.2 (by decide)⟩)
                  clear hf
                  go_wp2_with (go_at_call 10; first | (have hq7 := HB7.out; clear hq7; have hfw := few_ok HOKT.out; obtain ⟨b, hsm, hsb⟩ := same_any ((HRT.out.below HBd.out).below HB7.out) (HR.out.below HB8.out) ⟨Nat.le_trans hfw.1 (by decide), Nat.le_trans hfw.2.1 (by decide), Nat.le_trans hfw.2.2.1 (by decide), Nat.le_trans hfw.2.2.2 (by decide)⟩; refine hsm.mono ?_; rintro e w9 ⟨rfl, hb9⟩; obtain rfl : b = false := (by cases b; rfl; exact absurd (hsb.mp rfl) HNE.out); have HB9 := Lib.hid hb9; clear hsm hsb hb9) | (obtain ⟨b, hsm, hsb⟩ := same_any HRU.out (HR.out.below HBU.out) HF.out; refine hsm.mono ?_; rintro e w7 ⟨rfl, hb7⟩; obtain rfl : b = true := hsb.mpr rfl; have hb8 := below_trans HBU.out (below_mono hb7 HBU.out.size); obtain ⟨s0, s1, s2, s3, s4⟩ := five (blk_below HXU.out hb7); obtain ⟨t0, t1, t2, t3, t4⟩ := five (V := ⟨A5, c5, A6, c6, A7, c7, A8, c8⟩) (s := ⟨dr, dwd, dht, dce, dme⟩) (blk_below HTU.out hb7); simp only [] at s0 s1 s2 s3 s4 t0 t1 t2 t3 t4; have HB7 := Lib.hid hb7; have HB8 := Lib.hid hb8; clear hsm hsb hb7 hb8))
                  go_roundg (2 - (j + 1)).toNat
                  case measure => omega
                  case rel => exact ⟨j + 1, by omega, by omega, rfl, by go_num, Lib.hid (below_trans HB8.out (below_mono HB9.out HB8.out.size)), Lib.hid (blk_below (blk_below HXU.out HB7.out) HB9.out)⟩
              · have hdb : (de != 0) = true := by simpa using hde
                go_wp2_with fail
                go_roundg (2 - (j + 1)).toNat
                case measure => omega
                case rel => exact ⟨j + 1, by omega, by omega, rfl, by go_num, HBT, HXT⟩
        · have hj2 : j = 2 := by omega
          subst hj2
          have hdo := fun (W : World) (hb : Below wr.heap.size wr W) => do_any (V := ⟨A1, c1, A2, c2, A3, c3, A4, c4⟩) (s := ⟨rt, wd, ht, ce, me⟩) (x := stN 11 0 0 0 0) (HR.out.below (below_trans HB.out (below_mono hb HB.out.size))) HWS.out HFW.out ⟨w60, w60, w60, w60, w60, w60, tx0⟩ steps_any
          rw [flip_is HOK.out rfl] at hdo
          simp only [] at hdo
          have hok := ok_flip HOK.out
          have hfl : (1 - rt != rt) = true := by have := HOK.out.rt; simp only [bne_iff_ne, ne_eq]; simp only [] at this; omega
          have HDO := Lib.hid hdo
          clear hdo
          go_upto_region 12 with (fail)
          go_cut [15, 16] (fun va vb wx => ∃ bt A5 c5 A6 c6 A7 c7 A8 c8, va = .pointer (some ⟨bt, 0, none⟩) ∧ vb = .int .i64 0 ∧ wr.heap.size ≤ bt ∧ Hid (Below wr.heap.size wr wx) ∧ Hid (wx.heap[bt]? = some (Obj.cells #[.int .i64 (1 - rt), .slice A5 wd.length c5, .slice A6 ht.length c6, .slice A7 ce.length c7, .slice A8 me.length c8] 26 (0, 0))) ∧ Hid (OwI wx wr.heap.size (.slice A5 wd.length c5) wd ∧ OwI wx wr.heap.size (.slice A6 ht.length c6) ht ∧ OwC wx wr.heap.size (.slice A7 ce.length c7) ce ∧ OwR wx wr.heap.size (.slice A8 me.length c8) me))
          case first =>
            go_wp2_with (go_at_call 9; refine (HDO.out _ (Below.refl _ _)).mono ?_; rintro e wh ⟨v1, v2, v3, v4, rfl, o1, o2, o3, o4, hne, hbn⟩; obtain ⟨A5, c5, rfl⟩ := ow_slice o1; obtain ⟨A6, c6, rfl⟩ := ow_slice o2; obtain ⟨A7, c7, rfl⟩ := ow_slice o3; obtain ⟨A8, c8, rfl⟩ := ow_slice o4;)
            go_meet
            have hba := below_alloc (Below.refl wh.heap.size wh) (Obj.cells #[.int .i64 (1 - rt), .slice A5 wd.length c5, .slice A6 ht.length c6, .slice A7 ce.length c7, .slice A8 me.length c8] 26 (0, 0))
            exact ⟨_, _, _, _, _, _, _, _, _, rfl, rfl, hbn.size, Lib.hid (below_alloc hbn _), Lib.hid (blk_new wh (Obj.cells #[.int .i64 (1 - rt), .slice A5 wd.length c5, .slice A6 ht.length c6, .slice A7 ce.length c7, .slice A8 me.length c8] 26 (0, 0))), Lib.hid ⟨Ow.below o1 hba, Ow.below o2 hba, Ow.below o3 hba, Ow.below o4 hba⟩⟩
          case rest =>
            obtain ⟨bt, A5, c5, A6, c6, A7, c7, A8, c8, rfl, rfl, hge, HBc, HBb, HOW⟩ := hcut
            obtain ⟨wT, hwT⟩ : ∃ x, x = wc := ⟨_, rfl⟩
            subst hwT
            have HBT := Lib.hid (below_trans HB.out (below_mono HBc.out HB.out.size))
            have HXT := Lib.hid (blk_below HX.out HBc.out)
            have HRT := Lib.hid (rd_ow HOW.out.1 HOW.out.2.1 HOW.out.2.2.1 HOW.out.2.2.2 (rt := 1 - rt))
            clear s0 s1 s2 s3 s4
            have hdo := fun (W : World) (hb : Below wT.heap.size wT W) => do_any (V := ⟨A5, c5, A6, c6, A7, c7, A8, c8⟩) (s := ⟨1 - rt, wd, ht, ce, me⟩) (x := stN 11 0 0 0 0) (HRT.out.below hb) (ws_ok hok) (few_ok hok) ⟨w60, w60, w60, w60, w60, w60, tx0⟩ steps_any
            rw [show doF ⟨1 - rt, wd, ht, ce, me⟩ (stN 11 0 0 0 0) = (⟨rt, wd, ht, ce, me⟩, 0) from flip_two HOK.out rfl] at hdo
            simp only [] at hdo
            have HDO2 := Lib.hid hdo
            clear hdo hok HDO
            obtain ⟨t0, t1, t2, t3, t4⟩ := five (V := ⟨A5, c5, A6, c6, A7, c7, A8, c8⟩) (s := ⟨1 - rt, wd, ht, ce, me⟩) HBb.out
            simp only [] at t0 t1 t2 t3 t4
            go_upto_region 13 with (fail)
            go_cut [17, 18] (fun va vb wx => ∃ bu A9 c9 Aa ca Ab cb Ac cc, va = .pointer (some ⟨bu, 0, none⟩) ∧ vb = .int .i64 0 ∧ wT.heap.size ≤ bu ∧ Hid (Below wT.heap.size wT wx) ∧ Hid (wx.heap[bu]? = some (Obj.cells #[.int .i64 rt, .slice A9 wd.length c9, .slice Aa ht.length ca, .slice Ab ce.length cb, .slice Ac me.length cc] 26 (0, 0))) ∧ Hid (OwI wx wT.heap.size (.slice A9 wd.length c9) wd ∧ OwI wx wT.heap.size (.slice Aa ht.length ca) ht ∧ OwC wx wT.heap.size (.slice Ab ce.length cb) ce ∧ OwR wx wT.heap.size (.slice Ac me.length cc) me))
            case first =>
              go_wp2_with (go_at_call 9; refine (HDO2.out _ (Below.refl _ _)).mono ?_; rintro e wh ⟨v1, v2, v3, v4, rfl, o1, o2, o3, o4, hne, hbn⟩; obtain ⟨A9, c9, rfl⟩ := ow_slice o1; obtain ⟨Aa, ca, rfl⟩ := ow_slice o2; obtain ⟨Ab, cb, rfl⟩ := ow_slice o3; obtain ⟨Ac, cc, rfl⟩ := ow_slice o4;)
              go_meet
              have hba := below_alloc (Below.refl wh.heap.size wh) (Obj.cells #[.int .i64 rt, .slice A9 wd.length c9, .slice Aa ht.length ca, .slice Ab ce.length cb, .slice Ac me.length cc] 26 (0, 0))
              exact ⟨_, _, _, _, _, _, _, _, _, rfl, rfl, hbn.size, Lib.hid (below_alloc hbn _), Lib.hid (blk_new wh (Obj.cells #[.int .i64 rt, .slice A9 wd.length c9, .slice Aa ht.length ca, .slice Ab ce.length cb, .slice Ac me.length cc] 26 (0, 0))), Lib.hid ⟨Ow.below o1 hba, Ow.below o2 hba, Ow.below o3 hba, Ow.below o4 hba⟩⟩
            case rest =>
              obtain ⟨bu, A9, c9, Aa, ca, Ab, cb, Ac, cc, rfl, rfl, hgf, HBd, HBu, HOX⟩ := hcut
              obtain ⟨wU, hwU⟩ : ∃ x, x = wc := ⟨_, rfl⟩
              subst hwU
              have HBU := Lib.hid (below_trans HBT.out (below_mono HBd.out HBT.out.size))
              have HXU := Lib.hid (blk_below HXT.out HBd.out)
              have HTU := Lib.hid (blk_below HBb.out HBd.out)
              have HRU := Lib.hid (rd_ow HOX.out.1 HOX.out.2.1 HOX.out.2.2.1 HOX.out.2.2.2 (rt := rt))
              clear t0 t1 t2 t3 t4
              obtain ⟨s0, s1, s2, s3, s4⟩ := five HXU.out
              obtain ⟨t0, t1, t2, t3, t4⟩ := five (V := ⟨A5, c5, A6, c6, A7, c7, A8, c8⟩) (s := ⟨1 - rt, wd, ht, ce, me⟩) HTU.out
              obtain ⟨u0, u1, u2, u3, u4⟩ := five (V := ⟨A9, c9, Aa, ca, Ab, cb, Ac, cc⟩) (s := ⟨rt, wd, ht, ce, me⟩) HBu.out
              simp only [] at s0 s1 s2 s3 s4 t0 t1 t2 t3 t4 u0 u1 u2 u3 u4
              have hf := HFW.out
              have HF := Lib.hid (show wd.length ≤ 1000000 ∧ ht.length ≤ 1000000 ∧ ce.length ≤ 1000000 ∧ me.length ≤ 1000000 from ⟨Nat.le_trans hf.1 (by decide), Nat.le_trans hf.2.1 (by decide), Nat.le_trans hf.2.2.1 (by decide), Nat.le_trans hf.2.2.2 (by decide)⟩)
              clear hf
              go_wp2_with (first | (go_at_call 10; obtain ⟨b, hsm, hsb⟩ := same_any HRU.out (HR.out.below HBU.out) HF.out; refine hsm.mono ?_; rintro e w7 ⟨rfl, hb7⟩; obtain rfl : b = true := hsb.mpr rfl; have hb8 := below_trans HBU.out (below_mono hb7 HBU.out.size); have HB8 := Lib.hid hb8; clear hsm hsb hb7 hb8) | (go_at_call 7; refine (HAW.out _).mono ?_; rintro e w9 ⟨rfl, hb9⟩; have HB9 := Lib.hid hb9; clear hb9))
              go_ret
              exact ⟨rfl, below_trans HB8.out (below_mono HB9.out HB8.out.size)⟩
    · generalize chk ⟨rt, wd, ht, ce, me⟩ = q at HCK HCF hq
      have hqz : (q != 0) = true := by simpa using hq
      go_enter Tryz.func4, Tryz.ntmps4
      go_wp2_with (first | (go_at_call 8; refine (HGC.out _ HB0.out).mono ?_; rintro e w1 ⟨rfl, hb1⟩; have hb2 := below_trans HB0.out (below_mono hb1 HB0.out.size); have hx2 := blk_below HX0.out hb1; obtain ⟨s0, s1, s2, s3, s4⟩ := five hx2; simp only [] at s0 s1 s2 s3 s4; have HB2 := Lib.hid hb2; clear hb1 hb2 hx2) | (go_at_call 11; refine (HCK.out _ HB2.out).mono ?_; rintro e w4 ⟨rfl, hb4⟩; have hb5 := below_trans HB2.out (below_mono hb4 HB2.out.size); have HB5 := Lib.hid hb5; clear hb4 hb5) | (go_at_call 7; refine (HAW.out _).mono ?_; rintro e w6 ⟨rfl, hb6⟩; have HB6 := Lib.hid hb6; clear hb6))
      go_ret
      exact ⟨rfl, below_trans HB5.out (below_mono HB6.out HB5.out.size)⟩
end Go.Proofs.YtcofacgdijjnoaaGreat
