/- the law EditStays: walked. -/
import Derived.Test.YtcofacgdijjnoaaGreatPbh
namespace Go.Proofs.YtcofacgdijjnoaaGreat
open PE (S31 S44 S49 k44 k49 k31)
open Go.RowKit Go.Shelf Go.Lib Go.Proofs.YtcofacgdijjnoaaGreatW.PrintWords Go.Proofs.YtcofacgdijjnoaaGreatW.PrintLast Go.Proofs.YtcofacgdijjnoaaGreatW.PrintMore
set_option linter.unusedVariables false
set_option linter.unusedSimpArgs false
set_option maxHeartbeats 8000000
set_option maxRecDepth 100000
theorem elevX {w : World} {B : Nat} {x : St} (h : w.heap[B]? = some (.cells (stv x) 33 (0, 0))) :
    w.cell? ⟨B, 0, none⟩ = some (.int .i64 x.kind) ∧ w.cell? ⟨B, 1, none⟩ = some (.int .i64 x.row) ∧ w.cell? ⟨B, 2, none⟩ = some (.int .i64 x.col) ∧ w.cell? ⟨B, 3, none⟩ = some (.int .i64 x.rows) ∧ w.cell? ⟨B, 4, none⟩ = some (.int .i64 x.cols) ∧ w.cell? ⟨B, 5, none⟩ = some (.int .i64 x.n) ∧ w.cell? ⟨B, 6, none⟩ = some (.int .i64 x.size) ∧ w.cell? ⟨B, 7, none⟩ = some (.string x.text) ∧ w.cell? ⟨B, 8, none⟩ = some (.int .i64 x.style.f0) ∧ w.cell? ⟨B, 9, none⟩ = some (.int .i64 x.style.f1) ∧ w.cell? ⟨B, 10, none⟩ = some (.int .i64 x.style.f2) :=
  ⟨blk_cell h 0, blk_cell h 1, blk_cell h 2, blk_cell h 3, blk_cell h 4, blk_cell h 5, blk_cell h 6, blk_cell h 7, blk_cell h 8, blk_cell h 9, blk_cell h 10⟩
theorem rd_nil {w : World} {V : SV} {s : Sh} (h : Rd w V s) : Rd w ⟨V.A1, V.c1, V.A2, V.c2, none, 0, V.A4, V.c4⟩ { s with ce := [] } := ⟨h.h1, h.l1, h.h2, h.l2, Kd.C_nil _ _, Nat.le_refl _, h.h4, h.l4⟩
theorem OwS.set1 {w : World} {B C i : Nat} {V : SV} {s : Sh} {v : Value} {cs : Array Value} (h : OwS w B V s) (hb : w.heap[C]? = some (.cells cs 26 (0, 0))) : OwS (w.setCell ⟨C, i, none⟩ v) B V s :=
  ⟨own_setCell (p := ⟨C, i, none⟩) h.o1 (own_ne h.o1 hb (by decide)) v, own_setCell (p := ⟨C, i, none⟩) h.o2 (own_ne h.o2 hb (by decide)) v, own_setCell (p := ⟨C, i, none⟩) h.o3 (own_ne h.o3 hb (by decide)) v, own_setCell (p := ⟨C, i, none⟩) h.o4 (own_ne h.o4 hb (by decide)) v⟩
theorem stays_any {w : World} {V : SV} {s : Sh} {x : St} (h : Rd w V s) (hw : WS s) (hty : TyS x) :
    Calls Tryz.prog 5 #[.agg (shv V s), .agg (stv x)] w fun e w' => e = .returned (.bool true) ∧ Below w.heap.size w w' := by
  have hb0 := below_alloc (below_alloc (Below.refl w.heap.size w) (Obj.cells (shv V s) 26 (0, 0))) (Obj.cells (stv x) 33 (0, 0))
  have hx0 := blk_below (blk_new w (Obj.cells (shv V s) 26 (0, 0))) (below_alloc (Below.refl (w.alloc (Obj.cells (shv V s) 26 (0, 0))).heap.size (w.alloc (Obj.cells (shv V s) 26 (0, 0)))) (Obj.cells (stv x) 33 (0, 0)))
  have hy0 := blk_new (w.alloc (Obj.cells (shv V s) 26 (0, 0))) (Obj.cells (stv x) 33 (0, 0))
  rw [show (w.alloc (Obj.cells (shv V s) 26 (0, 0))).heap.size = w.heap.size + 1 by simp] at hy0
  obtain ⟨gb, hgc, hgf⟩ := great_any (x := x) h
  have hck := fun (W : World) (hb : Below w.heap.size w W) => check_any (h.below hb) hw
  have hcf := @chk_iff s
  obtain ⟨A1, c1, A2, c2, A3, c3, A4, c4⟩ := V
  obtain ⟨rt, wd, ht, ce, me⟩ := s
  obtain ⟨kd, x1, x2, x3, x4, x5, x6, tx, y0, y1, y2⟩ := x
  generalize chk ⟨rt, wd, ht, ce, me⟩ = q at hck hcf
  have HAW := Lib.hid (fun W => awake_any W)
  have HB0 := Lib.hid hb0
  have HX0 := Lib.hid hx0
  have HY0 := Lib.hid hy0
  have HR := Lib.hid h
  have HWS := Lib.hid hw
  have HTY := Lib.hid hty
  have HGC := Lib.hid hgc
  have HGF := Lib.hid hgf
  have HCK := Lib.hid hck
  have HCF := Lib.hid hcf
  obtain ⟨s0, s1, s2, s3, s4⟩ := five (V := ⟨A1, c1, A2, c2, A3, c3, A4, c4⟩) (s := ⟨rt, wd, ht, ce, me⟩) hx0
  obtain ⟨k0, k1, k2, k3, k4, k5, k6, k7, k8, k9, k10⟩ := elevX (x := ⟨kd, x1, x2, x3, x4, x5, x6, tx, ⟨y0, y1, y2⟩⟩) hy0
  simp only [] at s0 s1 s2 s3 s4 k0 k1 k2 k3 k4 k5 k6 k7 k8 k9 k10
  clear h hw hty hb0 hx0 hy0 hgc hgf hck hcf
  cases gb with
  | true =>
    go_enter Tryz.func5, Tryz.ntmps5
    go_wp2_with (first | (go_at_call 8; refine (HGC.out _ HB0.out).mono ?_; rintro e w1 ⟨rfl, hb⟩; have HB1 := Lib.hid (below_trans HB0.out (below_mono hb HB0.out.size)); have HX1 := Lib.hid (blk_below HX0.out hb); have HY1 := Lib.hid (blk_below HY0.out hb); obtain ⟨s0, s1, s2, s3, s4⟩ := five (V := ⟨A1, c1, A2, c2, A3, c3, A4, c4⟩) (s := ⟨rt, wd, ht, ce, me⟩) HX1.out; obtain ⟨k0, k1, k2, k3, k4, k5, k6, k7, k8, k9, k10⟩ := elevX (x := ⟨kd, x1, x2, x3, x4, x5, x6, tx, ⟨y0, y1, y2⟩⟩) HY1.out; simp only [] at s0 s1 s2 s3 s4 k0 k1 k2 k3 k4 k5 k6 k7 k8 k9 k10; clear hb) | (go_at_call 7; refine (HAW.out _).mono ?_; rintro e w9 ⟨rfl, hb9⟩; have HB9 := Lib.hid (below_trans HB1.out (below_mono hb9 HB1.out.size)); clear hb9))
    go_ret
    exact ⟨rfl, HB9.out⟩
  | false =>
    by_cases hq : q = 0
    · by_cases hk : kd = 1 ∨ kd = 2
      · have HOK := Lib.hid (HCF.out.mp hq)
        subst hq
        have hgg : Few ⟨rt, wd, ht, ce, me⟩ ∧ tx.size ≤ 2000 := by first | exact HGF.out trivial | exact HGF.out rfl
        have HFW := Lib.hid hgg.1
        have HTX := Lib.hid hgg.2
        clear hgg HGF HCF
        have HKD := Lib.hid hk
        clear hk
        go_enter Tryz.func5, Tryz.ntmps5
        go_upto_region 1 with (fail)
        go_cut [32] (fun v22 wx => v22 = .bool false ∧ Hid (Below w.heap.size w wx) ∧ Hid (wx.heap[w.heap.size]? = some (.cells (shv ⟨A1, c1, A2, c2, A3, c3, A4, c4⟩ ⟨rt, wd, ht, ce, me⟩) 26 (0, 0))) ∧ Hid (wx.heap[w.heap.size + 1]? = some (.cells (stv ⟨kd, x1, x2, x3, x4, x5, x6, tx, ⟨y0, y1, y2⟩⟩) 33 (0, 0))))
        case first =>
          rcases HKD.out with hkz | hkz
          · have hk1 : (kd != 1) = false := by simp [hkz]
            have HKZ := Lib.hid hkz
            clear hkz
            go_wp2_with (first | (go_at_call 8; refine (HGC.out _ HB0.out).mono ?_; rintro e w1 ⟨rfl, hb⟩; have HB1 := Lib.hid (below_trans HB0.out (below_mono hb HB0.out.size)); have HX1 := Lib.hid (blk_below HX0.out hb); have HY1 := Lib.hid (blk_below HY0.out hb); obtain ⟨s0, s1, s2, s3, s4⟩ := five (V := ⟨A1, c1, A2, c2, A3, c3, A4, c4⟩) (s := ⟨rt, wd, ht, ce, me⟩) HX1.out; obtain ⟨k0, k1, k2, k3, k4, k5, k6, k7, k8, k9, k10⟩ := elevX (x := ⟨kd, x1, x2, x3, x4, x5, x6, tx, ⟨y0, y1, y2⟩⟩) HY1.out; simp only [] at s0 s1 s2 s3 s4 k0 k1 k2 k3 k4 k5 k6 k7 k8 k9 k10; clear hb) | (go_at_call 11; refine (HCK.out _ HB1.out).mono ?_; rintro e w2 ⟨rfl, hb⟩; have HB2 := Lib.hid (below_trans HB1.out (below_mono hb HB1.out.size)); have HX2 := Lib.hid (blk_below HX1.out hb); have HY2 := Lib.hid (blk_below HY1.out hb); obtain ⟨s0, s1, s2, s3, s4⟩ := five (V := ⟨A1, c1, A2, c2, A3, c3, A4, c4⟩) (s := ⟨rt, wd, ht, ce, me⟩) HX2.out; obtain ⟨k0, k1, k2, k3, k4, k5, k6, k7, k8, k9, k10⟩ := elevX (x := ⟨kd, x1, x2, x3, x4, x5, x6, tx, ⟨y0, y1, y2⟩⟩) HY2.out; simp only [] at s0 s1 s2 s3 s4 k0 k1 k2 k3 k4 k5 k6 k7 k8 k9 k10; clear hb))
            go_meet
            exact ⟨rfl, HB2, HX2, HY2⟩
          · have hk1 : (kd != 1) = true := by simp [hkz]
            have hk2 : (kd != 2) = false := by simp [hkz]
            have HKZ := Lib.hid hkz
            clear hkz
            go_wp2_with (first | (go_at_call 8; refine (HGC.out _ HB0.out).mono ?_; rintro e w1 ⟨rfl, hb⟩; have HB1 := Lib.hid (below_trans HB0.out (below_mono hb HB0.out.size)); have HX1 := Lib.hid (blk_below HX0.out hb); have HY1 := Lib.hid (blk_below HY0.out hb); obtain ⟨s0, s1, s2, s3, s4⟩ := five (V := ⟨A1, c1, A2, c2, A3, c3, A4, c4⟩) (s := ⟨rt, wd, ht, ce, me⟩) HX1.out; obtain ⟨k0, k1, k2, k3, k4, k5, k6, k7, k8, k9, k10⟩ := elevX (x := ⟨kd, x1, x2, x3, x4, x5, x6, tx, ⟨y0, y1, y2⟩⟩) HY1.out; simp only [] at s0 s1 s2 s3 s4 k0 k1 k2 k3 k4 k5 k6 k7 k8 k9 k10; clear hb) | (go_at_call 11; refine (HCK.out _ HB1.out).mono ?_; rintro e w2 ⟨rfl, hb⟩; have HB2 := Lib.hid (below_trans HB1.out (below_mono hb HB1.out.size)); have HX2 := Lib.hid (blk_below HX1.out hb); have HY2 := Lib.hid (blk_below HY1.out hb); obtain ⟨s0, s1, s2, s3, s4⟩ := five (V := ⟨A1, c1, A2, c2, A3, c3, A4, c4⟩) (s := ⟨rt, wd, ht, ce, me⟩) HX2.out; obtain ⟨k0, k1, k2, k3, k4, k5, k6, k7, k8, k9, k10⟩ := elevX (x := ⟨kd, x1, x2, x3, x4, x5, x6, tx, ⟨y0, y1, y2⟩⟩) HY2.out; simp only [] at s0 s1 s2 s3 s4 k0 k1 k2 k3 k4 k5 k6 k7 k8 k9 k10; clear hb))
            go_meet
            exact ⟨rfl, HB2, HX2, HY2⟩
        case rest =>
          obtain ⟨rfl, HB3, HX3, HY3⟩ := hcut
          obtain ⟨w3, hw3⟩ : ∃ x, x = wc := ⟨_, rfl⟩
          subst hw3
          clear s0 s1 s2 s3 s4 k0 k1 k2 k3 k4 k5 k6 k7 k8 k9 k10 HB0 HX0 HY0 HGC HCK
          obtain ⟨s0, s1, s2, s3, s4⟩ := five (V := ⟨A1, c1, A2, c2, A3, c3, A4, c4⟩) (s := ⟨rt, wd, ht, ce, me⟩) HX3.out
          obtain ⟨k0, k1, k2, k3, k4, k5, k6, k7, k8, k9, k10⟩ := elevX (x := ⟨kd, x1, x2, x3, x4, x5, x6, tx, ⟨y0, y1, y2⟩⟩) HY3.out
          simp only [] at s0 s1 s2 s3 s4 k0 k1 k2 k3 k4 k5 k6 k7 k8 k9 k10
          have hdo := fun (W : World) (hb : Below w3.heap.size w3 W) => do_any (V := ⟨A1, c1, A2, c2, A3, c3, A4, c4⟩) (s := ⟨rt, wd, ht, ce, me⟩) (x := ⟨kd, x1, x2, x3, x4, x5, x6, tx, ⟨y0, y1, y2⟩⟩) (HR.out.below (below_trans HB3.out (below_mono hb HB3.out.size))) HWS.out HFW.out ⟨HTY.out.1, HTY.out.2.1, HTY.out.2.2.1, HTY.out.2.2.2.1, HTY.out.2.2.2.2.1, HTY.out.2.2.2.2.2, HTX.out⟩ steps_any
          by_cases hz : (doF ⟨rt, wd, ht, ce, me⟩ ⟨kd, x1, x2, x3, x4, x5, x6, tx, ⟨y0, y1, y2⟩⟩).2 = 0
          · obtain ⟨lc, hl, hget⟩ := set_is HOK.out HKD.out hz
            have hdd : doF ⟨rt, wd, ht, ce, me⟩ ⟨kd, x1, x2, x3, x4, x5, x6, tx, ⟨y0, y1, y2⟩⟩ = (⟨rt, wd, ht, lc, me⟩, 0) := Prod.ext hl hz
            have hok := ok_doF hz
            rw [hdd] at hdo hok
            simp only [] at hdo hok hget
            have HDO := Lib.hid hdo
            have HOT := Lib.hid hok
            have HGET := Lib.hid hget
            clear hdo hl hget hdd hok hz
            go_upto_region 3 with (fail)
            go_cut [5, 6] (fun va vb wx => ∃ bt A5 c5 A6 c6 A7 c7 A8 c8, va = .pointer (some ⟨bt, 0, none⟩) ∧ vb = .int .i64 0 ∧ w3.heap.size ≤ bt ∧ Hid (Below w3.heap.size w3 wx) ∧ Hid (wx.heap[bt]? = some (Obj.cells #[.int .i64 rt, .slice A5 wd.length c5, .slice A6 ht.length c6, .slice A7 lc.length c7, .slice A8 me.length c8] 26 (0, 0))) ∧ Hid (OwI wx w3.heap.size (.slice A5 wd.length c5) wd ∧ OwI wx w3.heap.size (.slice A6 ht.length c6) ht ∧ OwC wx w3.heap.size (.slice A7 lc.length c7) lc ∧ OwR wx w3.heap.size (.slice A8 me.length c8) me))
            case first =>
              go_wp2_with (go_at_call 9; refine (HDO.out _ (Below.refl _ _)).mono ?_; rintro e wh ⟨v1, v2, v3, v4, rfl, o1, o2, o3, o4, hne, hbn⟩; obtain ⟨A5, c5, rfl⟩ := ow_slice o1; obtain ⟨A6, c6, rfl⟩ := ow_slice o2; obtain ⟨A7, c7, rfl⟩ := ow_slice o3; obtain ⟨A8, c8, rfl⟩ := ow_slice o4;)
              go_meet
              have hba := below_alloc (Below.refl wh.heap.size wh) (Obj.cells #[.int .i64 rt, .slice A5 wd.length c5, .slice A6 ht.length c6, .slice A7 lc.length c7, .slice A8 me.length c8] 26 (0, 0))
              exact ⟨_, _, _, _, _, _, _, _, _, rfl, rfl, hbn.size, Lib.hid (below_alloc hbn _), Lib.hid (blk_new wh (Obj.cells #[.int .i64 rt, .slice A5 wd.length c5, .slice A6 ht.length c6, .slice A7 lc.length c7, .slice A8 me.length c8] 26 (0, 0))), Lib.hid ⟨Ow.below o1 hba, Ow.below o2 hba, Ow.below o3 hba, Ow.below o4 hba⟩⟩
            case rest =>
              obtain ⟨bt, A5, c5, A6, c6, A7, c7, A8, c8, rfl, rfl, hge, HBc, HBb, HOW⟩ := hcut
              obtain ⟨wT, hwT⟩ : ∃ x, x = wc := ⟨_, rfl⟩
              subst hwT
              have HBT := Lib.hid (below_trans HB3.out (below_mono HBc.out HB3.out.size))
              have HXT := Lib.hid (blk_below HX3.out HBc.out)
              have HYT := Lib.hid (blk_below HY3.out HBc.out)
              have HRT := Lib.hid (rd_ow HOW.out.1 HOW.out.2.1 HOW.out.2.2.1 HOW.out.2.2.2 (rt := rt))
              clear s0 s1 s2 s3 s4 k0 k1 k2 k3 k4 k5 k6 k7 k8 k9 k10 HDO HX3 HY3
              obtain ⟨s0, s1, s2, s3, s4⟩ := five (V := ⟨A1, c1, A2, c2, A3, c3, A4, c4⟩) (s := ⟨rt, wd, ht, ce, me⟩) HXT.out
              obtain ⟨t0, t1, t2, t3, t4⟩ := five (V := ⟨A5, c5, A6, c6, A7, c7, A8, c8⟩) (s := ⟨rt, wd, ht, lc, me⟩) HBb.out
              simp only [] at s0 s1 s2 s3 s4 t0 t1 t2 t3 t4
              go_upto_region 6 with (fail)
              go_cut [7, 8] (fun v7 v8 wx => ∃ g7 g8 V7 V8, v7 = .pointer (some ⟨g7, 0, none⟩) ∧ v8 = .pointer (some ⟨g8, 0, none⟩) ∧ g7 ≠ g8 ∧ wT.heap.size ≤ g7 ∧ wT.heap.size ≤ g8 ∧ Hid (Below wT.heap.size wT wx) ∧ Hid (wx.heap[g7]? = some (.cells (shv V7 ⟨rt, wd, ht, lc, me⟩) 26 (0, 0))) ∧ Hid (wx.heap[g8]? = some (.cells (shv V8 ⟨rt, wd, ht, ce, me⟩) 26 (0, 0))) ∧ Hid (OwS wx wT.heap.size V7 ⟨rt, wd, ht, lc, me⟩ ∧ OwS wx wT.heap.size V8 ⟨rt, wd, ht, ce, me⟩))
              case first =>
                refine wp_region_noPanic ?_
                refine start_ (n := 8) (S := fun w' => w'.cell? ⟨bt, 0, none⟩ = some (.int .i64 rt) ∧ w'.cell? ⟨bt, 1, none⟩ = some (.slice A5 wd.length c5) ∧ w'.cell? ⟨bt, 2, none⟩ = some (.slice A6 ht.length c6) ∧ w'.cell? ⟨bt, 3, none⟩ = some (.slice A7 lc.length c7) ∧ w'.cell? ⟨bt, 4, none⟩ = some (.slice A8 me.length c8) ∧ w'.cell? ⟨w.heap.size, 0, none⟩ = some (.int .i64 rt) ∧ w'.cell? ⟨w.heap.size, 1, none⟩ = some (.slice A1 wd.length c1) ∧ w'.cell? ⟨w.heap.size, 2, none⟩ = some (.slice A2 ht.length c2) ∧ w'.cell? ⟨w.heap.size, 3, none⟩ = some (.slice A3 ce.length c3) ∧ w'.cell? ⟨w.heap.size, 4, none⟩ = some (.slice A4 me.length c4)) (ds := []) (bb 8 0) (by kernel_rfl) rfl rfl ⟨t0, t1, t2, t3, t4, s0, s1, s2, s3, s4⟩ (fun hHeld => ?_)
                refine ta_ 0 43 8 1 hHeld ?_
                refine ta_ 2 45 8 5 hHeld ?_
                have HBZ : Hid (∀ W, Below wT.drew.heap.size wT.drew W → Below wT.heap.size wT W) := Lib.hid fun W hb => below_then (below_drew (Below.refl _ _)) (Nat.le_refl _) hb
                have hsz : wT.heap.size = wT.drew.heap.size := rfl
                generalize wT.drew = wz at hHeld HBZ hsz ⊢
                have HS : Hid (∀ w', Below wz.heap.size wz w' → w'.cell? ⟨bt, 0, none⟩ = some (.int .i64 rt) ∧ w'.cell? ⟨bt, 1, none⟩ = some (.slice A5 wd.length c5) ∧ w'.cell? ⟨bt, 2, none⟩ = some (.slice A6 ht.length c6) ∧ w'.cell? ⟨bt, 3, none⟩ = some (.slice A7 lc.length c7) ∧ w'.cell? ⟨bt, 4, none⟩ = some (.slice A8 me.length c8) ∧ w'.cell? ⟨w.heap.size, 0, none⟩ = some (.int .i64 rt) ∧ w'.cell? ⟨w.heap.size, 1, none⟩ = some (.slice A1 wd.length c1) ∧ w'.cell? ⟨w.heap.size, 2, none⟩ = some (.slice A2 ht.length c2) ∧ w'.cell? ⟨w.heap.size, 3, none⟩ = some (.slice A3 ce.length c3) ∧ w'.cell? ⟨w.heap.size, 4, none⟩ = some (.slice A4 me.length c4)) := by
                  obtain ⟨p0, p1, p2, p3, p4, p5, p6, p7, p8, p9⟩ := hHeld
                  exact Lib.hid fun w' hb => ⟨pw_cell_below hb p0, pw_cell_below hb p1, pw_cell_below hb p2, pw_cell_below hb p3, pw_cell_below hb p4, pw_cell_below hb p5, pw_cell_below hb p6, pw_cell_below hb p7, pw_cell_below hb p8, pw_cell_below hb p9⟩
                refine anyI_ (Iv := (fun l a wx => ∃ x44 x46 x7 x8, a = { tmps := #[.agg (shv ⟨A1, c1, A2, c2, A3, c3, A4, c4⟩ ⟨rt, wd, ht, ce, me⟩), .agg (stv ⟨kd, x1, x2, x3, x4, x5, x6, tx, ⟨y0, y1, y2⟩⟩), .pointer (some ⟨w.heap.size, 0, none⟩), .pointer (some ⟨w.heap.size + 1, 0, none⟩), .bool false, .pointer (some ⟨bt, 0, none⟩), .int .i64 0, x7, x8, undef, undef, undef, undef, undef, undef, u15, u16, u17, u18, u19, u20, u21, u22, u23, u24, u25, u26, u27, u28, u29, u30, u31, u32, u33, u34, u35, u36, u37, u38, u39, .int .i64 0, .bool false, u42, .agg #[.int .i64 rt, .slice A5 wd.length c5, .slice A6 ht.length c6, .slice A7 lc.length c7, .slice A8 me.length c8], x44, .agg #[.int .i64 rt, .slice A1 wd.length c1, .slice A2 ht.length c2, .slice A3 ce.length c3, .slice A4 me.length c4], x46, u47, u48, u49, u50, u51, u52, u53, u54, u55, u56, u57, u58, u59, u60, u61, u62, u63, u64, u65, u66, u67, u68, u69, u70, u71, u72, u73, u74, u75, u76, u77, u78, u79, u80, u81, u82, u83, u84, u85, u86, u87, u88, u89, u90, u91, u92, u93, u94, u95, u96, u97, u98, u99, u100, u101, u102, u103, u104, u105, u106, u107, u108, u109, u110, u111], defers := [] } ∧ I6 wz ⟨rt, wd, ht, lc, me⟩ ⟨rt, wd, ht, ce, me⟩ l wx x44 x46 x7 x8)) ?hend ?hstep _ _ _ _ (Nat.le_of_eq (by kernel_rfl)) ?h0
                case h0 => exact ⟨_, _, _, _, rfl, ⟨rfl, by decide, by decide, Below.refl _ _, fun k => absurd k (by decide), fun k => absurd k (by decide), fun k => absurd k (by decide), fun k => absurd k (by decide), fun k => absurd k (by decide), fun k => absurd k (by decide), fun k => absurd k (by decide)⟩⟩
                case hstep =>
                  rintro l a wx i ⟨x44, x46, x7, x8, rfl, h⟩ hi
                  obtain ⟨hu, o, ho, hall⟩ := mem_ready.mp hi
                  have hlt : i < 8 := (Array.getElem?_eq_some_iff.1 ho).1
                  rcases (show i = 0 ∨ i = 1 ∨ i = 2 ∨ i = 3 ∨ i = 4 ∨ i = 5 ∨ i = 6 ∨ i = 7 by omega) with rfl | rfl | rfl | rfl | rfl | rfl | rfl | rfl
                  · exact absurd h.p0 (by rw [gdf hu]; simp)
                  · cases ho
                    have hst := ownS_any (w := wx) (V := ⟨A5, c5, A6, c6, A7, c7, A8, c8⟩) (s := ⟨rt, wd, ht, lc, me⟩) (HRT.out.below (HBZ.out _ h.be)) (few_ok HOT.out)
                    exact wpOp_step rfl (fun K' hK => goes_ Tryz.func12 (by kernel_rfl) rfl #[.agg (shv ⟨A5, c5, A6, c6, A7, c7, A8, c8⟩ ⟨rt, wd, ht, lc, me⟩)] rfl rfl rfl (by first | rfl | kernel_rfl | (simp [Act.eval]; done) | (simp [Act.eval]; rfl)) (hst.mono fun e w' hh => by
                      obtain ⟨V', he, ho', hb⟩ := hh
                      have h' := h.s1 hu hb ⟨V', rfl, ho'.weaken h.be.size⟩
                      exact ⟨_, he, hK _ _ ⟨fun _ _ => HS.out _ h'.be, ⟨_, x46, x7, x8, rfl, h'⟩⟩⟩))
                  · exact absurd h.p2 (by rw [gdf hu]; simp)
                  · cases ho
                    have hst := ownS_any (w := wx) (V := ⟨A1, c1, A2, c2, A3, c3, A4, c4⟩) (s := ⟨rt, wd, ht, ce, me⟩) ((HR.out.below HBT.out).below (HBZ.out _ h.be)) HFW.out
                    exact wpOp_step rfl (fun K' hK => goes_ Tryz.func12 (by kernel_rfl) rfl #[.agg (shv ⟨A1, c1, A2, c2, A3, c3, A4, c4⟩ ⟨rt, wd, ht, ce, me⟩)] rfl rfl rfl (by first | rfl | kernel_rfl | (simp [Act.eval]; done) | (simp [Act.eval]; rfl)) (hst.mono fun e w' hh => by
                      obtain ⟨V', he, ho', hb⟩ := hh
                      have h' := h.s3 hu hb ⟨V', rfl, ho'.weaken h.be.size⟩
                      exact ⟨_, he, hK _ _ ⟨fun _ _ => HS.out _ h'.be, ⟨x44, _, x7, x8, rfl, h'⟩⟩⟩))
                  · cases ho
                    have h' := h.s4 hu
                    exact wpOp_step rfl (fun K' hK => value_ (v := .pointer (some ⟨wx.heap.size, 0, none⟩)) (w1 := wx.alloc (.cells #[.int .i64 0, .slice none 0 0, .slice none 0 0, .slice none 0 0, .slice none 0 0] 26 (0, 0))) rfl rfl (by first | (go_simp; done) | (go_simp; rfl)) (hK _ _ ⟨fun _ _ => HS.out _ h'.be, ⟨x44, x46, _, x8, rfl, h'⟩⟩))
                  · cases ho
                    have h' := h.s5 hu
                    exact wpOp_step rfl (fun K' hK => value_ (v := .pointer (some ⟨wx.heap.size, 0, none⟩)) (w1 := wx.alloc (.cells #[.int .i64 0, .slice none 0 0, .slice none 0 0, .slice none 0 0, .slice none 0 0] 26 (0, 0))) rfl rfl (by first | (go_simp; done) | (go_simp; rfl)) (hK _ _ ⟨fun _ _ => HS.out _ h'.be, ⟨x44, x46, x7, _, rfl, h'⟩⟩))
                  · cases ho
                    have hp : ∀ j ∈ [1, 3, 4, 5], l.getD j false = true := by
                      intro j hj
                      simp at hj
                      rcases hj with rfl | rfl | rfl | rfl
                      · exact hall ⟨1, .data⟩ (by simp) rfl
                      · exact hall ⟨3, .chain⟩ (by simp) rfl
                      · exact hall ⟨4, .data⟩ (by simp) rfl
                      · exact hall ⟨5, .phase⟩ (by simp) rfl
                    obtain ⟨⟨B0, k0, B1, k1, B2, k2, B3, k3⟩, rfl, _⟩ := h.c1 (hp 1 (by simp))
                    obtain ⟨g, rfl, hg, hl, hz, _⟩ := h.a4 (hp 4 (by simp))
                    have hz0 := hz (gdf hu)
                    have h' := h.s6 hu hp hz0 hg hl
                    obtain ⟨z0, z1, z2, z3, z4, f0, f1, f2, f3, f4⟩ := zero5 hz0
                    exact wpOp_step rfl (fun K' hK => skip_ rfl rfl (by simp only [shv]; first | (go_simp; done) | (go_simp; rfl)) (hK _ _ ⟨fun _ _ => HS.out _ h'.be, ⟨_, x46, _, x8, rfl, h'⟩⟩))
                  · cases ho
                    have hp : ∀ j ∈ [1, 3, 4, 5, 6], l.getD j false = true := by
                      intro j hj
                      simp at hj
                      rcases hj with rfl | rfl | rfl | rfl | rfl
                      · exact hall ⟨1, .phase⟩ (by simp) rfl
                      · exact hall ⟨3, .data⟩ (by simp) rfl
                      · exact hall ⟨4, .phase⟩ (by simp) rfl
                      · exact hall ⟨5, .data⟩ (by simp) rfl
                      · exact hall ⟨6, .chain⟩ (by simp) rfl
                    obtain ⟨⟨B0, k0, B1, k1, B2, k2, B3, k3⟩, rfl, _⟩ := h.c3 (hp 3 (by simp))
                    obtain ⟨g, rfl, hg, hl, hz, _⟩ := h.a5 (hp 5 (by simp))
                    have hz0 := hz (gdf hu)
                    have h' := h.s7 hu hp hz0 hg hl
                    obtain ⟨z0, z1, z2, z3, z4, f0, f1, f2, f3, f4⟩ := zero5 hz0
                    exact wpOp_step rfl (fun K' hK => skip_ rfl rfl (by simp only [shv]; first | (go_simp; done) | (go_simp; rfl)) (hK _ _ ⟨fun _ _ => HS.out _ h'.be, ⟨x44, _, x7, _, rfl, h'⟩⟩))
                case hend =>
                  rintro l a wx ⟨x44, x46, x7, x8, rfl, h⟩ hr
                  have d4 := none_ready hr (i := 4) (by rw [h.sz]; decide) rfl (by simp)
                  have d5 := none_ready hr (i := 5) (by rw [h.sz]; decide) rfl (by simp)
                  have d1 := none_ready hr (i := 1) (by rw [h.sz]; decide) rfl (by intro e he _; simp at he; subst he; exact h.p0)
                  have d3 := none_ready hr (i := 3) (by rw [h.sz]; decide) rfl (by intro e he _; simp at he; rcases he with rfl | rfl; exact h.p2; exact d1)
                  have hp : ∀ j, j < 6 → l.getD j false = true := by
                    intro j hj
                    rcases (show j = 0 ∨ j = 1 ∨ j = 2 ∨ j = 3 ∨ j = 4 ∨ j = 5 by omega) with rfl | rfl | rfl | rfl | rfl | rfl
                    · exact h.p0
                    · exact d1
                    · exact h.p2
                    · exact d3
                    · exact d4
                    · exact d5
                  have d6 := none_ready hr (i := 6) (by rw [h.sz]; decide) rfl (fun e he _ => hp e.on (by revert e; decide))
                  have hp7 : ∀ j, j < 7 → l.getD j false = true := by
                    intro j hj
                    rcases (show j < 6 ∨ j = 6 by omega) with k | rfl
                    · exact hp j k
                    · exact d6
                  have d7 := none_ready hr (i := 7) (by rw [h.sz]; decide) rfl (fun e he _ => hp7 e.on (by revert e; decide))
                  obtain ⟨V7, rfl, oT⟩ := h.c1 d1
                  obtain ⟨V8, rfl, oS⟩ := h.c3 d3
                  have hne := h.ne d4 d5
                  obtain ⟨g7, rfl, hg7, _, _, hy7⟩ := h.a4 d4
                  obtain ⟨g8, rfl, hg8, _, _, hy8⟩ := h.a5 d5
                  have hy7 := Lib.hid (hy7 d6 V7 rfl)
                  have hy8 := Lib.hid (hy8 d7 V8 rfl)
                  have hbe := Lib.hid (HBZ.out _ h.be)
                  have hoo := Lib.hid (And.intro oT oS)
                  clear oT oS h hr d1 d3 d4 d5 d6 d7 hp hp7
                  refine NoPanic.normal ?_
                  go_wp2_with fail
                  go_meet
                  exact ⟨g7, g8, V7, V8, rfl, rfl, fun e => hne (by rw [e]), by rw [hsz]; exact hg7, by rw [hsz]; exact hg8, hbe, hy7, hy8, by rw [hsz]; exact hoo⟩
              case rest =>
                obtain ⟨g7, g8, V7, V8, rfl, rfl, hne, hg7, hg8, HBd, HY7, HY8, HOO⟩ := hcut
                obtain ⟨wV, hwV⟩ : ∃ x, x = wc := ⟨_, rfl⟩
                subst hwV
                obtain ⟨B0, k0, B1, k1, B2, k2, B3, k3⟩ := V7
                obtain ⟨C0, m0, C1, m1, C2, m2, C3, m3⟩ := V8
                clear s0 s1 s2 s3 s4 t0 t1 t2 t3 t4
                obtain ⟨s0, s1, s2, s3, s4⟩ := five (V := ⟨B0, k0, B1, k1, B2, k2, B3, k3⟩) (s := ⟨rt, wd, ht, lc, me⟩) HY7.out
                obtain ⟨t0, t1, t2, t3, t4⟩ := five (V := ⟨C0, m0, C1, m1, C2, m2, C3, m3⟩) (s := ⟨rt, wd, ht, ce, me⟩) HY8.out
                have f7 := blk_frozen HY7.out 3
                have f8 := blk_frozen HY8.out 3
                simp only [] at s0 s1 s2 s3 s4 t0 t1 t2 t3 t4
                have hne' : g8 ≠ g7 := fun e => hne e.symm
                go_upto_region 7 with (fail)
                go_cut [47] (fun v47 wx => Hid (Below wT.heap.size wT wx) ∧ Hid (wx.heap[g7]? = some (.cells (shv ⟨B0, k0, B1, k1, none, 0, B3, k3⟩ ⟨rt, wd, ht, [], me⟩) 26 (0, 0))) ∧ Hid (wx.heap[g8]? = some (.cells (shv ⟨C0, m0, C1, m1, none, 0, C3, m3⟩ ⟨rt, wd, ht, [], me⟩) 26 (0, 0))) ∧ Hid (Rd wx ⟨B0, k0, B1, k1, none, 0, B3, k3⟩ ⟨rt, wd, ht, [], me⟩) ∧ Hid (Rd wx ⟨C0, m0, C1, m1, none, 0, C3, m3⟩ ⟨rt, wd, ht, [], me⟩))
                case first =>
                  go_wp2_with fail
                  go_meet
                  have z7 : (wV.setCell ⟨g7, 3, none⟩ (.slice none 0 0)).heap[g7]? = some (.cells #[.int .i64 rt, .slice B0 wd.length k0, .slice B1 ht.length k1, .slice none 0 0, .slice B3 me.length k3] 26 (0, 0)) := blk_put HY7.out 3 _ rfl
                  have z8 : (wV.setCell ⟨g7, 3, none⟩ (.slice none 0 0)).heap[g8]? = wV.heap[g8]? := Below.heap_setCell _ _ _ _ hne'
                  have z8' := z8.trans HY8.out
                  have y8 : ((wV.setCell ⟨g7, 3, none⟩ (.slice none 0 0)).setCell ⟨g8, 3, none⟩ (.slice none 0 0)).heap[g8]? = some (.cells #[.int .i64 rt, .slice C0 wd.length m0, .slice C1 ht.length m1, .slice none 0 0, .slice C3 me.length m3] 26 (0, 0)) := blk_put z8' 3 _ rfl
                  have y7 : ((wV.setCell ⟨g7, 3, none⟩ (.slice none 0 0)).setCell ⟨g8, 3, none⟩ (.slice none 0 0)).heap[g7]? = (wV.setCell ⟨g7, 3, none⟩ (.slice none 0 0)).heap[g7]? := Below.heap_setCell _ _ _ _ hne
                  have o7 := (HOO.out.1.set1 (i := 3) (v := .slice none 0 0) HY7.out).set1 (i := 3) (v := .slice none 0 0) z8'
                  have o8 := (HOO.out.2.set1 (i := 3) (v := .slice none 0 0) HY7.out).set1 (i := 3) (v := .slice none 0 0) z8'
                  exact ⟨Lib.hid (below_set (below_set HBd.out hg7) hg8), Lib.hid (y7.trans z7), Lib.hid y8, Lib.hid (rd_nil o7.rd), Lib.hid (rd_nil o8.rd)⟩
                case rest =>
                  obtain ⟨HBs, HZ7, HZ8, HQ7, HQ8⟩ := hcut
                  obtain ⟨wS, hwS⟩ : ∃ x, x = wc := ⟨_, rfl⟩
                  subst hwS
                  clear s0 s1 s2 s3 s4 t0 t1 t2 t3 t4 f7 f8 HY7 HY8 HOO HBd
                  obtain ⟨s0, s1, s2, s3, s4⟩ := five (V := ⟨B0, k0, B1, k1, none, 0, B3, k3⟩) (s := ⟨rt, wd, ht, [], me⟩) HZ7.out
                  obtain ⟨t0, t1, t2, t3, t4⟩ := five (V := ⟨C0, m0, C1, m1, none, 0, C3, m3⟩) (s := ⟨rt, wd, ht, [], me⟩) HZ8.out
                  simp only [] at s0 s1 s2 s3 s4 t0 t1 t2 t3 t4
                  have hf := HFW.out
                  have HF := Lib.hid (show wd.length ≤ 1000000 ∧ ht.length ≤ 1000000 ∧ ([] : List S44).length ≤ 1000000 ∧ me.length ≤ 1000000 from ⟨Nat.le_trans hf.1 (by decide), Nat.le_trans hf.2.1 (by decide), by decide, Nat.le_trans hf.2.2.2 (by decide)⟩)
                  clear hf
                  go_upto_region 10 with (go_at_call 10; obtain ⟨b, hsm, hsb⟩ := same_any HQ7.out HQ8.out HF.out; refine hsm.mono ?_; rintro e w7 ⟨rfl, hb7⟩; obtain rfl : b = true := hsb.mpr rfl; have HB7 := Lib.hid (below_trans HBs.out (below_mono hb7 HBs.out.size)); clear hsm hsb hb7)
                  have HRs := Lib.hid (HR.out.below HBT.out)
                  clear s0 s1 s2 s3 s4 t0 t1 t2 t3 t4 HZ7 HZ8 HQ7 HQ8 HF
                  go_wp2_with fail
                  go_loopg [9] ht.length (fun gg v9 wr => ∃ j : Nat, j ≤ ht.length ∧ gg = ht.length - j ∧ v9 = .int .i64 j ∧ Hid (Below wT.heap.size wT wr))
                  case atStart => exact ⟨0, Nat.zero_le _, rfl, rfl, HB7⟩
                  case round =>
                    obtain ⟨j, hj, hg, rfl, HB⟩ := hrel
                    have Hg := Lib.hid hg
                    clear hg
                    obtain ⟨s0, s1, s2, s3, s4⟩ := five (V := ⟨A1, c1, A2, c2, A3, c3, A4, c4⟩) (s := ⟨rt, wd, ht, ce, me⟩) (blk_below HXT.out HB.out)
                    simp only [] at s0 s1 s2 s3 s4
                    have hfh : ht.length ≤ 1000 := HFW.out.2.1
                    have hfw : wd.length ≤ 1000 := HFW.out.1
                    by_cases hlt : j < ht.length
                    · have hlz : (j : Int) < (ht.length : Int) := by omega
                      have HLT := Lib.hid hlt
                      clear hlt
                      go_wp2_with fail
                      go_loopg [10] wd.length (fun gg v10 wi => ∃ k : Nat, k ≤ wd.length ∧ gg = wd.length - k ∧ v10 = .int .i64 k ∧ Hid (Below wT.heap.size wT wi))
                      case atStart => exact ⟨0, Nat.zero_le _, rfl, rfl, HB⟩
                      case round =>
                        obtain ⟨k, hk, hgk, rfl, HBi⟩ := hrel
                        have HgK := Lib.hid hgk
                        clear hgk s0 s1 s2 s3 s4
                        obtain ⟨wi, hwi⟩ : ∃ x, x = wr := ⟨_, rfl⟩
                        subst hwi
                        obtain ⟨s0, s1, s2, s3, s4⟩ := five (V := ⟨A1, c1, A2, c2, A3, c3, A4, c4⟩) (s := ⟨rt, wd, ht, ce, me⟩) (blk_below HXT.out HBi.out)
                        simp only [] at s0 s1 s2 s3 s4
                        by_cases hkt : k < wd.length
                        · have hkz : (k : Int) < (wd.length : Int) := by omega
                          have HKT := Lib.hid hkt
                          clear hkt
                          have hgt := HGET.out (j : Int) (k : Int) (by omega) (by have := HLT.out; omega) (by omega) (by have := HKT.out; omega)
                          have hwj : W6 (j : Int) := by unfold W6; have := HLT.out; omega
                          have hwk : W6 (k : Int) := by unfold W6; have := HKT.out; omega
                          have hga := fun (W : World) (hb : Below wi.heap.size wi W) => get_any (V := ⟨A1, c1, A2, c2, A3, c3, A4, c4⟩) (s := ⟨rt, wd, ht, ce, me⟩) ((HRs.out.below HBi.out).below hb) HWS.out hwj hwk
                          have hgb := fun (W : World) (hb : Below wT.heap.size wT W) => get_any (V := ⟨A5, c5, A6, c6, A7, c7, A8, c8⟩) (s := ⟨rt, wd, ht, lc, me⟩) (HRT.out.below hb) (ws_ok HOT.out) hwj hwk
                          rw [hgt.1] at hga
                          rw [hgt.2] at hgb
                          clear hgt
                          generalize atK ce (aro me (j : Int) (k : Int)) = a0 at hga hgb
                          obtain ⟨g0, g1, g2, g3, g4, g5⟩ := a0
                          simp only [] at hga hgb
                          obtain ⟨b0, hb0⟩ : ∃ b0, b0 = (if g0 = x1 ∧ g1 = x2 then put44 kd ⟨kd, x1, x2, x3, x4, x5, x6, tx, ⟨y0, y1, y2⟩⟩ ⟨g0, g1, g2, g3, g4, g5⟩ else ⟨g0, g1, g2, g3, g4, g5⟩) := ⟨_, rfl⟩
                          rw [← hb0] at hgb
                          obtain ⟨d0, d1, d2, d3, d4, d5⟩ := b0
                          have HGA : Hid (∀ W, Below wi.heap.size wi W → Calls Tryz.prog 13 #[.agg (shv ⟨A1, c1, A2, c2, A3, c3, A4, c4⟩ ⟨rt, wd, ht, ce, me⟩), .int .i64 (j : Int), .int .i64 (k : Int)] W fun e w' => e = .returned (.tuple #[.agg #[.int .i64 g0, .int .i64 g1, .string g2, .int .i64 g3, .int .i64 g4, .int .i64 g5], .int .i64 0]) ∧ Below W.heap.size W w') := Lib.hid hga
                          have HGB : Hid (∀ W, Below wT.heap.size wT W → Calls Tryz.prog 13 #[.agg (shv ⟨A5, c5, A6, c6, A7, c7, A8, c8⟩ ⟨rt, wd, ht, lc, me⟩), .int .i64 (j : Int), .int .i64 (k : Int)] W fun e w' => e = .returned (.tuple #[.agg #[.int .i64 d0, .int .i64 d1, .string d2, .int .i64 d3, .int .i64 d4, .int .i64 d5], .int .i64 0]) ∧ Below W.heap.size W w') := Lib.hid hgb
                          have HB0' := Lib.hid hb0
                          clear hga hgb hb0
                          go_upto_region 16 with (fail)
                          go_cut [11, 12] (fun va vb wx => ∃ bg, va = .pointer (some ⟨bg, 0, none⟩) ∧ vb = .int .i64 0 ∧ wi.heap.size ≤ bg ∧ Hid (Below wi.heap.size wi wx) ∧ Hid (wx.heap[bg]? = some (Obj.cells #[.int .i64 g0, .int .i64 g1, .string g2, .int .i64 g3, .int .i64 g4, .int .i64 g5] 44 (0, 0))))
                          case first =>
                            go_wp2_with (go_at_call 13; refine (HGA.out _ (Below.refl _ _)).mono ?_; rintro e wh ⟨rfl, hbn⟩)
                            go_meet
                            exact ⟨_, rfl, rfl, hbn.size, Lib.hid (below_alloc hbn _), Lib.hid (blk_new wh (Obj.cells #[.int .i64 g0, .int .i64 g1, .string g2, .int .i64 g3, .int .i64 g4, .int .i64 g5] 44 (0, 0)))⟩
                          case rest =>
                            obtain ⟨bg, rfl, rfl, hgbg, HBe, HOG⟩ := hcut
                            obtain ⟨wA, hwA⟩ : ∃ x, x = wc := ⟨_, rfl⟩
                            subst hwA
                            clear s0 s1 s2 s3 s4 HGA
                            have HBA := Lib.hid (below_trans HBi.out (below_mono HBe.out HBi.out.size))
                            have HGC2 : Hid (∀ W, Below wA.heap.size wA W → Calls Tryz.prog 13 #[.agg (shv ⟨A5, c5, A6, c6, A7, c7, A8, c8⟩ ⟨rt, wd, ht, lc, me⟩), .int .i64 (j : Int), .int .i64 (k : Int)] W fun e w' => e = .returned (.tuple #[.agg #[.int .i64 d0, .int .i64 d1, .string d2, .int .i64 d3, .int .i64 d4, .int .i64 d5], .int .i64 0]) ∧ Below W.heap.size W w') := Lib.hid fun W hb => HGB.out W (below_trans HBA.out (below_mono hb HBA.out.size))
                            obtain ⟨t0, t1, t2, t3, t4⟩ := five (V := ⟨A5, c5, A6, c6, A7, c7, A8, c8⟩) (s := ⟨rt, wd, ht, lc, me⟩) (blk_below HBb.out HBA.out)
                            simp only [] at t0 t1 t2 t3 t4
                            clear HGB
                            go_upto_region 17 with (fail)
                            go_cut [13, 14] (fun va vb wx => ∃ bh, va = .pointer (some ⟨bh, 0, none⟩) ∧ vb = .int .i64 0 ∧ wA.heap.size ≤ bh ∧ Hid (Below wA.heap.size wA wx) ∧ Hid (wx.heap[bh]? = some (Obj.cells #[.int .i64 d0, .int .i64 d1, .string d2, .int .i64 d3, .int .i64 d4, .int .i64 d5] 44 (0, 0))))
                            case first =>
                              go_wp2_with (go_at_call 13; refine (HGC2.out _ (Below.refl _ _)).mono ?_; rintro e wh ⟨rfl, hbn⟩)
                              go_meet
                              exact ⟨_, rfl, rfl, hbn.size, Lib.hid (below_alloc hbn _), Lib.hid (blk_new wh (Obj.cells #[.int .i64 d0, .int .i64 d1, .string d2, .int .i64 d3, .int .i64 d4, .int .i64 d5] 44 (0, 0)))⟩
                            case rest =>
                              obtain ⟨bh, rfl, rfl, hgbh, HBf, HOH⟩ := hcut
                              obtain ⟨wB, hwB⟩ : ∃ x, x = wc := ⟨_, rfl⟩
                              subst hwB
                              clear t0 t1 t2 t3 t4 HGC2
                              have HBB := Lib.hid (below_trans HBA.out (below_mono HBf.out HBA.out.size))
                              have hbg : wT.heap.size ≤ bg := Nat.le_trans HBi.out.size hgbg
                              have HOG2 := Lib.hid (blk_below HOG.out HBf.out)
                              obtain ⟨q0, q1, q2, q3, q4, q5, f0, f1, f2, f3, f4, f5⟩ := got6 HOG2.out
                              obtain ⟨l0, l1, l2, l3, l4, l5, _, _, _, _, _, _⟩ := got6 HOH.out
                              have hnh : bg ≠ bh := by
                                have := HOG.out
                                intro e
                                subst e
                                have hlt := (Array.getElem?_eq_some_iff.1 this).1
                                omega
                              obtain ⟨k0, k1, k2, k3, k4, k5, k6, k7, k8, k9, k10⟩ := elevX (x := ⟨kd, x1, x2, x3, x4, x5, x6, tx, ⟨y0, y1, y2⟩⟩) (blk_below HYT.out HBB.out)
                              simp only [] at k0 k1 k2 k3 k4 k5 k6 k7 k8 k9 k10
                              rcases Classical.em (g0 = x1) with hg0 | hg0
                              · rcases Classical.em (g1 = x2) with hg1 | hg1
                                · have hb1 := HB0'.out
                                  rw [if_pos ⟨hg0, hg1⟩] at hb1
                                  rcases HKD.out with hkz | hkz
                                  · unfold put44 at hb1
                                    rw [if_pos hkz] at hb1
                                    cases hb1
                                    have hkd1 : (kd == 1) = true := by simp [hkz]
                                    have HKZ := Lib.hid hkz
                                    clear hkz
                                    subst hg0 hg1
                                    go_wp2_with fail
                                    go_roundg (wd.length - (k + 1))
                                    case measure => have := HgK.out; have := HKT.out; omega
                                    case rel => exact ⟨k + 1, HKT.out, rfl, by go_num, Lib.hid (below_set HBB.out hbg)⟩
                                  · unfold put44 at hb1
                                    rw [if_neg (by omega)] at hb1
                                    cases hb1
                                    have hkd1 : (kd == 1) = false := by simp [hkz]
                                    have HKZ := Lib.hid hkz
                                    clear hkz
                                    subst hg0 hg1
                                    go_wp2_with fail
                                    go_roundg (wd.length - (k + 1))
                                    case measure => have := HgK.out; have := HKT.out; omega
                                    case rel => exact ⟨k + 1, HKT.out, rfl, by go_num, Lib.hid (below_set (below_set (below_set HBB.out hbg) hbg) hbg)⟩
                                · have hb1 := HB0'.out
                                  rw [if_neg (fun e => hg1 e.2)] at hb1
                                  cases hb1
                                  have hgn : (g1 == x2) = false := by simpa using hg1
                                  subst hg0
                                  go_wp2_with fail
                                  go_roundg (wd.length - (k + 1))
                                  case measure => have := HgK.out; have := HKT.out; omega
                                  case rel => exact ⟨k + 1, HKT.out, rfl, by go_num, Lib.hid (HBB.out)⟩
                              · have hb1 := HB0'.out
                                rw [if_neg (fun e => hg0 e.1)] at hb1
                                cases hb1
                                have hgn : (g0 == x1) = false := by simpa using hg0
                                go_wp2_with fail
                                go_roundg (wd.length - (k + 1))
                                case measure => have := HgK.out; have := HKT.out; omega
                                case rel => exact ⟨k + 1, HKT.out, rfl, by go_num, Lib.hid (HBB.out)⟩
                        · have hkl : k = wd.length := by omega
                          subst hkl
                          go_wp2_with fail
                          go_roundg (ht.length - (j + 1))
                          case measure => have := Hg.out; have := HLT.out; omega
                          case rel => exact ⟨j + 1, HLT.out, rfl, by go_num, HBi⟩
                    · have hjl : j = ht.length := by omega
                      subst hjl
                      go_wp2_with (go_at_call 7; refine (HAW.out _).mono ?_; rintro e w9 ⟨rfl, hb9⟩; have HB9 := Lib.hid (below_trans HB.out (below_mono hb9 HB.out.size)); clear hb9)
                      go_ret
                      exact ⟨rfl, below_trans HBT.out (below_mono HB9.out HBT.out.size)⟩
          · generalize doF ⟨rt, wd, ht, ce, me⟩ ⟨kd, x1, x2, x3, x4, x5, x6, tx, ⟨y0, y1, y2⟩⟩ = dd at hdo hz
            obtain ⟨⟨dr, dwd, dht, dce, dme⟩, de⟩ := dd
            simp only [] at hdo hz
            have HDO := Lib.hid hdo
            have hdb : (de != 0) = true := by simpa using hz
            clear hdo
            go_upto_region 3 with (fail)
            go_cut [5, 6] (fun va vb wx => ∃ bt A5 c5 A6 c6 A7 c7 A8 c8, va = .pointer (some ⟨bt, 0, none⟩) ∧ vb = .int .i64 de ∧ w3.heap.size ≤ bt ∧ Hid (Below w3.heap.size w3 wx) ∧ Hid (wx.heap[bt]? = some (Obj.cells #[.int .i64 dr, .slice A5 dwd.length c5, .slice A6 dht.length c6, .slice A7 dce.length c7, .slice A8 dme.length c8] 26 (0, 0))) ∧ Hid (OwI wx w3.heap.size (.slice A5 dwd.length c5) dwd ∧ OwI wx w3.heap.size (.slice A6 dht.length c6) dht ∧ OwC wx w3.heap.size (.slice A7 dce.length c7) dce ∧ OwR wx w3.heap.size (.slice A8 dme.length c8) dme))
            case first =>
              go_wp2_with (go_at_call 9; refine (HDO.out _ (Below.refl _ _)).mono ?_; rintro e wh ⟨v1, v2, v3, v4, rfl, o1, o2, o3, o4, hne, hbn⟩; obtain ⟨A5, c5, rfl⟩ := ow_slice o1; obtain ⟨A6, c6, rfl⟩ := ow_slice o2; obtain ⟨A7, c7, rfl⟩ := ow_slice o3; obtain ⟨A8, c8, rfl⟩ := ow_slice o4;)
              go_meet
              have hba := below_alloc (Below.refl wh.heap.size wh) (Obj.cells #[.int .i64 dr, .slice A5 dwd.length c5, .slice A6 dht.length c6, .slice A7 dce.length c7, .slice A8 dme.length c8] 26 (0, 0))
              exact ⟨_, _, _, _, _, _, _, _, _, rfl, rfl, hbn.size, Lib.hid (below_alloc hbn _), Lib.hid (blk_new wh (Obj.cells #[.int .i64 dr, .slice A5 dwd.length c5, .slice A6 dht.length c6, .slice A7 dce.length c7, .slice A8 dme.length c8] 26 (0, 0))), Lib.hid ⟨Ow.below o1 hba, Ow.below o2 hba, Ow.below o3 hba, Ow.below o4 hba⟩⟩
            case rest =>
              obtain ⟨bt, A5, c5, A6, c6, A7, c7, A8, c8, rfl, rfl, hge, HBc, HBb, HOW⟩ := hcut
              go_wp2_with (go_at_call 7; refine (HAW.out _).mono ?_; rintro e w9 ⟨rfl, hb9⟩; have HB9 := Lib.hid (below_trans HBc.out (below_mono hb9 HBc.out.size)); clear hb9)
              go_ret
              exact ⟨rfl, below_trans HB3.out (below_mono HB9.out HB3.out.size)⟩
      · have hk1 : (kd != 1) = true := by simp; omega
        have hk2 : (kd != 2) = true := by simp; omega
        clear hk
        subst hq
        go_enter Tryz.func5, Tryz.ntmps5
        go_wp2_with (first | (go_at_call 8; refine (HGC.out _ HB0.out).mono ?_; rintro e w1 ⟨rfl, hb⟩; have HB1 := Lib.hid (below_trans HB0.out (below_mono hb HB0.out.size)); have HX1 := Lib.hid (blk_below HX0.out hb); have HY1 := Lib.hid (blk_below HY0.out hb); obtain ⟨s0, s1, s2, s3, s4⟩ := five (V := ⟨A1, c1, A2, c2, A3, c3, A4, c4⟩) (s := ⟨rt, wd, ht, ce, me⟩) HX1.out; obtain ⟨k0, k1, k2, k3, k4, k5, k6, k7, k8, k9, k10⟩ := elevX (x := ⟨kd, x1, x2, x3, x4, x5, x6, tx, ⟨y0, y1, y2⟩⟩) HY1.out; simp only [] at s0 s1 s2 s3 s4 k0 k1 k2 k3 k4 k5 k6 k7 k8 k9 k10; clear hb) | (go_at_call 11; refine (HCK.out _ HB1.out).mono ?_; rintro e w2 ⟨rfl, hb⟩; have HB2 := Lib.hid (below_trans HB1.out (below_mono hb HB1.out.size)); have HX2 := Lib.hid (blk_below HX1.out hb); have HY2 := Lib.hid (blk_below HY1.out hb); obtain ⟨s0, s1, s2, s3, s4⟩ := five (V := ⟨A1, c1, A2, c2, A3, c3, A4, c4⟩) (s := ⟨rt, wd, ht, ce, me⟩) HX2.out; obtain ⟨k0, k1, k2, k3, k4, k5, k6, k7, k8, k9, k10⟩ := elevX (x := ⟨kd, x1, x2, x3, x4, x5, x6, tx, ⟨y0, y1, y2⟩⟩) HY2.out; simp only [] at s0 s1 s2 s3 s4 k0 k1 k2 k3 k4 k5 k6 k7 k8 k9 k10; clear hb) | (go_at_call 7; refine (HAW.out _).mono ?_; rintro e w9 ⟨rfl, hb9⟩; have HB9 := Lib.hid (below_trans HB2.out (below_mono hb9 HB2.out.size)); clear hb9))
        go_ret
        exact ⟨rfl, HB9.out⟩
    · have hqz : (q != 0) = true := by simpa using hq
      go_enter Tryz.func5, Tryz.ntmps5
      go_wp2_with (first | (go_at_call 8; refine (HGC.out _ HB0.out).mono ?_; rintro e w1 ⟨rfl, hb⟩; have HB1 := Lib.hid (below_trans HB0.out (below_mono hb HB0.out.size)); have HX1 := Lib.hid (blk_below HX0.out hb); have HY1 := Lib.hid (blk_below HY0.out hb); obtain ⟨s0, s1, s2, s3, s4⟩ := five (V := ⟨A1, c1, A2, c2, A3, c3, A4, c4⟩) (s := ⟨rt, wd, ht, ce, me⟩) HX1.out; obtain ⟨k0, k1, k2, k3, k4, k5, k6, k7, k8, k9, k10⟩ := elevX (x := ⟨kd, x1, x2, x3, x4, x5, x6, tx, ⟨y0, y1, y2⟩⟩) HY1.out; simp only [] at s0 s1 s2 s3 s4 k0 k1 k2 k3 k4 k5 k6 k7 k8 k9 k10; clear hb) | (go_at_call 11; refine (HCK.out _ HB1.out).mono ?_; rintro e w2 ⟨rfl, hb⟩; have HB2 := Lib.hid (below_trans HB1.out (below_mono hb HB1.out.size)); have HX2 := Lib.hid (blk_below HX1.out hb); have HY2 := Lib.hid (blk_below HY1.out hb); obtain ⟨s0, s1, s2, s3, s4⟩ := five (V := ⟨A1, c1, A2, c2, A3, c3, A4, c4⟩) (s := ⟨rt, wd, ht, ce, me⟩) HX2.out; obtain ⟨k0, k1, k2, k3, k4, k5, k6, k7, k8, k9, k10⟩ := elevX (x := ⟨kd, x1, x2, x3, x4, x5, x6, tx, ⟨y0, y1, y2⟩⟩) HY2.out; simp only [] at s0 s1 s2 s3 s4 k0 k1 k2 k3 k4 k5 k6 k7 k8 k9 k10; clear hb) | (go_at_call 7; refine (HAW.out _).mono ?_; rintro e w9 ⟨rfl, hb9⟩; have HB9 := Lib.hid (below_trans HB2.out (below_mono hb9 HB2.out.size)); clear hb9))
      go_ret
      exact ⟨rfl, HB9.out⟩
end Go.Proofs.YtcofacgdijjnoaaGreat
