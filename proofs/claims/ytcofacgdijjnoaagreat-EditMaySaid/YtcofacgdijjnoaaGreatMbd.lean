/- the law EditMay: walked. -/
import Derived.Test.YtcofacgdijjnoaaGreatMaa
import Derived.Test.YtcofacgdijjnoaaGreatMbc
namespace Go.Proofs.YtcofacgdijjnoaaGreat
open PE (S31 S44 S49 k44 k49 k31)
open Go.RowKit Go.Shelf Go.Lib Go.Proofs.YtcofacgdijjnoaaGreatW.PrintWords Go.Proofs.YtcofacgdijjnoaaGreatW.PrintLast Go.Proofs.YtcofacgdijjnoaaGreatW.PrintMore
set_option linter.unusedVariables false
set_option linter.unusedSimpArgs false
set_option maxRecDepth 100000
set_option maxHeartbeats 8000000
/-- a row of steps, as it lies -/
def RdS (w : World) (A : Option Addr) (l : List St) : Prop := ∀ j x, l[j]? = some x → ∃ ad, A = some ad ∧ w.cell? (ad.add (j * 11)) = some (.int .i64 x.kind) ∧ w.cell? ⟨(ad.add (j * 11)).block, (ad.add (j * 11)).off + 1, none⟩ = some (.int .i64 x.row) ∧ w.cell? ⟨(ad.add (j * 11)).block, (ad.add (j * 11)).off + 2, none⟩ = some (.int .i64 x.col) ∧ w.cell? ⟨(ad.add (j * 11)).block, (ad.add (j * 11)).off + 3, none⟩ = some (.int .i64 x.rows) ∧ w.cell? ⟨(ad.add (j * 11)).block, (ad.add (j * 11)).off + 4, none⟩ = some (.int .i64 x.cols) ∧ w.cell? ⟨(ad.add (j * 11)).block, (ad.add (j * 11)).off + 5, none⟩ = some (.int .i64 x.n) ∧ w.cell? ⟨(ad.add (j * 11)).block, (ad.add (j * 11)).off + 6, none⟩ = some (.int .i64 x.size) ∧ w.cell? ⟨(ad.add (j * 11)).block, (ad.add (j * 11)).off + 7, none⟩ = some (.string x.text) ∧ w.cell? ⟨(ad.add (j * 11)).block, (ad.add (j * 11)).off + 8, none⟩ = some (.int .i64 x.style.f0) ∧ w.cell? ⟨(ad.add (j * 11)).block, (ad.add (j * 11)).off + 9, none⟩ = some (.int .i64 x.style.f1) ∧ w.cell? ⟨(ad.add (j * 11)).block, (ad.add (j * 11)).off + 10, none⟩ = some (.int .i64 x.style.f2)
def TyS (x : St) : Prop := W6 x.row ∧ W6 x.col ∧ W6 x.rows ∧ W6 x.cols ∧ W6 x.n ∧ W6 x.size
theorem RdS.below {w W : World} {A : Option Addr} {l : List St} (h : RdS w A l) (hb : Below w.heap.size w W) : RdS W A l := fun j x hx => by
  obtain ⟨ad, e, h0, h1, h2, h3, h4, h5, h6, h7, h8, h9, h10⟩ := h j x hx
  exact ⟨ad, e, pw_cell_below hb h0, pw_cell_below hb h1, pw_cell_below hb h2, pw_cell_below hb h3, pw_cell_below hb h4, pw_cell_below hb h5, pw_cell_below hb h6, pw_cell_below hb h7, pw_cell_below hb h8, pw_cell_below hb h9, pw_cell_below hb h10⟩
theorem great_any {w : World} {V : SV} {s : Sh} {x : St} (h : Rd w V s) : ∃ b, (∀ W, Below w.heap.size w W → Calls Tryz.prog 8 #[.agg (shv V s), .agg (stv x)] W fun e w' => e = .returned (.bool b) ∧ Below W.heap.size W w') ∧ (b = false → Few s ∧ x.text.size ≤ 2000) := by
  obtain ⟨rt, wd, ht, ce, me⟩ := s
  obtain ⟨kd, x2, x3, x4, x5, x6, x7, tx, ⟨y1, y2, y3⟩⟩ := x
  obtain ⟨k, b, hb, hf⟩ := great_is rt wd ht ce me kd x2 x3 x4 x5 x6 x7 tx y1 y2 y3
  refine ⟨b, fun W hbl => ?_, hf⟩
  have hR := h.below hbl
  exact PE.parquetrylaw22_great.calls k rt V.A1 V.c1 wd V.A2 V.c2 ht V.A3 V.c3 ce V.A4 V.c4 me kd x2 x3 x4 x5 x6 x7 tx y1 y2 y3 b W hR.h1 hR.l1 hR.h2 hR.l2 hR.h3 hR.l3 hR.h4 hR.l4 hb
theorem rd_ow {w : World} {B : Nat} {rt : Int} {wd ht : List Int} {ce : List S44} {me : List S49} {A1 A2 A3 A4 : Option Addr} {c1 c2 c3 c4 : Nat} (o1 : OwI w B (.slice A1 wd.length c1) wd) (o2 : OwI w B (.slice A2 ht.length c2) ht) (o3 : OwC w B (.slice A3 ce.length c3) ce) (o4 : OwR w B (.slice A4 me.length c4) me) :
    Rd w ⟨A1, c1, A2, c2, A3, c3, A4, c4⟩ ⟨rt, wd, ht, ce, me⟩ := by
  obtain ⟨_, _, e1, l1, r1⟩ := Ow.reads rfl lenI kI o1
  obtain ⟨_, _, e2, l2, r2⟩ := Ow.reads rfl lenI kI o2
  obtain ⟨_, _, e3, l3, r3⟩ := Ow.reads rfl lenC kC o3
  obtain ⟨_, _, e4, l4, r4⟩ := Ow.reads rfl lenR kR o4
  injection e1 with a1 _ b1; injection e2 with a2 _ b2; injection e3 with a3 _ b3; injection e4 with a4 _ b4
  subst a1 b1 a2 b2 a3 b3 a4 b4
  exact ⟨r1, l1, r2, l2, r3, l3, r4, l4⟩
theorem same_any {w : World} {V V' : SV} {s t : Sh} (h : Rd w V s) (h' : Rd w V' t) (hf : s.wd.length ≤ 1000000 ∧ s.ht.length ≤ 1000000 ∧ s.ce.length ≤ 1000000 ∧ s.me.length ≤ 1000000) : ∃ b, (Calls Tryz.prog 10 #[.agg (shv V s), .agg (shv V' t)] w fun e w' => e = .returned (.bool b) ∧ Below w.heap.size w w') ∧ (b = true ↔ s = t) := by
  obtain ⟨rt, wd, ht, ce, me⟩ := s
  obtain ⟨rt', wd', ht', ce', me'⟩ := t
  obtain ⟨k, b, hb, hq⟩ := same_is (a0 := rt) (b0 := rt') (m1 := wd') (m2 := ht') (l' := ce') (m4 := me') hf.1 hf.2.1 hf.2.2.1 hf.2.2.2
  exact ⟨b, PE.parquetryref21_Same.calls k rt V.A1 V.c1 wd V.A2 V.c2 ht V.A3 V.c3 ce V.A4 V.c4 me rt' V'.A1 V'.c1 wd' V'.A2 V'.c2 ht' V'.A3 V'.c3 ce' V'.A4 V'.c4 me' b w h.h1 h.l1 h.h2 h.l2 h.h3 h.l3 h.h4 h.l4 h'.h1 h'.l1 h'.h2 h'.l2 h'.h3 h'.l3 h'.h4 h'.l4 hb, hq⟩
theorem may_any {w : World} {V : SV} {s : Sh} {A : Option Addr} {c : Nat} {l : List St} (h : Rd w V s) (hw : WS s) (hl : RdS w A l) (ht : ∀ x ∈ l, TyS x) (hn : l.length ≤ 9223372036854775807) :
    Calls Tryz.prog 3 #[.agg (shv V s), .slice A l.length c] w fun e w' => e = .returned (.bool true) ∧ Below w.heap.size w w' := by
  have hb0 := below_alloc (Below.refl w.heap.size w) (Obj.cells (shv V s) 26 (0, 0))
  have hx0 := blk_new w (Obj.cells (shv V s) 26 (0, 0))
  have HAW := Lib.hid (fun W => awake_any W)
  have HB0 := Lib.hid hb0
  have HX0 := Lib.hid hx0
  have HR := Lib.hid h
  have HWS := Lib.hid hw
  have HL := Lib.hid hl
  have HT := Lib.hid ht
  clear h hw hl ht hb0 hx0
  by_cases h30 : 30 < l.length
  · have h30z : (30 : Int) < (l.length : Int) := by omega
    go_enter Tryz.func3, Tryz.ntmps3
    go_wp2_with (go_at_call 7; refine (HAW.out _).mono ?_; rintro e w1 ⟨rfl, hb1⟩; have HB1 := Lib.hid hb1; clear hb1)
    go_ret
    exact ⟨rfl, below_trans HB0.out (below_mono HB1.out HB0.out.size)⟩
  · have h30z : ¬ (30 : Int) < (l.length : Int) := by omega
    go_enter Tryz.func3, Tryz.ntmps3
    go_wp2_with fail
    go_loopg [5] l.length (fun gg v5 wr => ∃ (j : Nat) (Vi : SV) (si : Sh), j ≤ l.length ∧ gg = l.length - j ∧ v5 = .int .i64 j ∧ Hid (Below w.heap.size w wr) ∧ Hid (wr.heap[w.heap.size]? = some (.cells (shv Vi si) 26 (0, 0))) ∧ Hid (Rd wr Vi si) ∧ Hid (WS si))
    case atStart => exact ⟨0, V, s, Nat.zero_le _, rfl, rfl, HB0, HX0, Lib.hid (HR.out.below HB0.out), HWS⟩
    case round =>
      obtain ⟨j, Vi, si, hj, hg, rfl, HB, HX, HRi, HWi⟩ := hrel
      have Hg := Lib.hid hg
      clear hg
      by_cases hlt : j < l.length
      · have hxj : l[j]? = some l[j] := List.getElem?_eq_getElem hlt
        have hty := HT.out _ (List.getElem_mem hlt)
        obtain ⟨x, hx⟩ : ∃ x, x = l[j] := ⟨_, rfl⟩
        rw [← hx] at hxj hty
        obtain ⟨ad, hA, h0, h1, h2, h3, h4, h5, h6, h7, h8, h9, h10⟩ := (HL.out.below HB.out) j x hxj
        subst hA
        obtain ⟨gb, hgc, hgf⟩ := great_any (x := x) HRi.out
        obtain ⟨A1, c1, A2, c2, A3, c3, A4, c4⟩ := Vi
        obtain ⟨rt, wd, ht, ce, me⟩ := si
        obtain ⟨s0, s1, s2, s3, s4⟩ := five HX.out
        simp only [] at s0 s1 s2 s3 s4
        have HKT : Hid (∀ W, Below wr.heap.size wr W → (W.cell? ⟨w.heap.size, 0, none⟩ = some (.int .i64 rt) ∧ W.cell? ⟨w.heap.size, 1, none⟩ = some (.slice A1 wd.length c1) ∧ W.cell? ⟨w.heap.size, 2, none⟩ = some (.slice A2 ht.length c2) ∧ W.cell? ⟨w.heap.size, 3, none⟩ = some (.slice A3 ce.length c3) ∧ W.cell? ⟨w.heap.size, 4, none⟩ = some (.slice A4 me.length c4) ∧ W.cell? (ad.add (j * 11)) = some (.int .i64 x.kind) ∧ W.cell? ⟨(ad.add (j * 11)).block, (ad.add (j * 11)).off + 1, none⟩ = some (.int .i64 x.row) ∧ W.cell? ⟨(ad.add (j * 11)).block, (ad.add (j * 11)).off + 2, none⟩ = some (.int .i64 x.col) ∧ W.cell? ⟨(ad.add (j * 11)).block, (ad.add (j * 11)).off + 3, none⟩ = some (.int .i64 x.rows) ∧ W.cell? ⟨(ad.add (j * 11)).block, (ad.add (j * 11)).off + 4, none⟩ = some (.int .i64 x.cols) ∧ W.cell? ⟨(ad.add (j * 11)).block, (ad.add (j * 11)).off + 5, none⟩ = some (.int .i64 x.n) ∧ W.cell? ⟨(ad.add (j * 11)).block, (ad.add (j * 11)).off + 6, none⟩ = some (.int .i64 x.size) ∧ W.cell? ⟨(ad.add (j * 11)).block, (ad.add (j * 11)).off + 7, none⟩ = some (.string x.text) ∧ W.cell? ⟨(ad.add (j * 11)).block, (ad.add (j * 11)).off + 8, none⟩ = some (.int .i64 x.style.f0) ∧ W.cell? ⟨(ad.add (j * 11)).block, (ad.add (j * 11)).off + 9, none⟩ = some (.int .i64 x.style.f1) ∧ W.cell? ⟨(ad.add (j * 11)).block, (ad.add (j * 11)).off + 10, none⟩ = some (.int .i64 x.style.f2))) := Lib.hid (fun W hb => ⟨pw_cell_below hb s0, pw_cell_below hb s1, pw_cell_below hb s2, pw_cell_below hb s3, pw_cell_below hb s4, pw_cell_below hb h0, pw_cell_below hb h1, pw_cell_below hb h2, pw_cell_below hb h3, pw_cell_below hb h4, pw_cell_below hb h5, pw_cell_below hb h6, pw_cell_below hb h7, pw_cell_below hb h8, pw_cell_below hb h9, pw_cell_below hb h10⟩)
        have HGC := Lib.hid hgc
        have HGF := Lib.hid hgf
        have HTY := Lib.hid hty
        have HXJ := Lib.hid hx
        have HLT := Lib.hid hlt
        have hlz : (j : Int) < (l.length : Int) := by omega
        have hl30 : l.length ≤ 30 := by omega
        clear hgf hgc hty hx hxj h0 h1 h2 h3 h4 h5 h6 h7 h8 h9 h10 s0 s1 s2 s3 s4 h30z h30
        cases gb with
        | true =>
          go_wp2_with fail
          refine wp_region_noPanic ?_
          refine start_ (n := 6) (S := (fun w' => w'.cell? ⟨w.heap.size, 0, none⟩ = some (.int .i64 rt) ∧ w'.cell? ⟨w.heap.size, 1, none⟩ = some (.slice A1 wd.length c1) ∧ w'.cell? ⟨w.heap.size, 2, none⟩ = some (.slice A2 ht.length c2) ∧ w'.cell? ⟨w.heap.size, 3, none⟩ = some (.slice A3 ce.length c3) ∧ w'.cell? ⟨w.heap.size, 4, none⟩ = some (.slice A4 me.length c4) ∧ w'.cell? (ad.add (j * 11)) = some (.int .i64 x.kind) ∧ w'.cell? ⟨(ad.add (j * 11)).block, (ad.add (j * 11)).off + 1, none⟩ = some (.int .i64 x.row) ∧ w'.cell? ⟨(ad.add (j * 11)).block, (ad.add (j * 11)).off + 2, none⟩ = some (.int .i64 x.col) ∧ w'.cell? ⟨(ad.add (j * 11)).block, (ad.add (j * 11)).off + 3, none⟩ = some (.int .i64 x.rows) ∧ w'.cell? ⟨(ad.add (j * 11)).block, (ad.add (j * 11)).off + 4, none⟩ = some (.int .i64 x.cols) ∧ w'.cell? ⟨(ad.add (j * 11)).block, (ad.add (j * 11)).off + 5, none⟩ = some (.int .i64 x.n) ∧ w'.cell? ⟨(ad.add (j * 11)).block, (ad.add (j * 11)).off + 6, none⟩ = some (.int .i64 x.size) ∧ w'.cell? ⟨(ad.add (j * 11)).block, (ad.add (j * 11)).off + 7, none⟩ = some (.string x.text) ∧ w'.cell? ⟨(ad.add (j * 11)).block, (ad.add (j * 11)).off + 8, none⟩ = some (.int .i64 x.style.f0) ∧ w'.cell? ⟨(ad.add (j * 11)).block, (ad.add (j * 11)).off + 9, none⟩ = some (.int .i64 x.style.f1) ∧ w'.cell? ⟨(ad.add (j * 11)).block, (ad.add (j * 11)).off + 10, none⟩ = some (.int .i64 x.style.f2))) (ds := []) (bb 6 0) (by kernel_rfl) rfl rfl (HKT.out _ (below_drew (Below.refl _ _))) (fun hHeld => ?_)
          refine ta_ 0 18 6 1 hHeld ?_
          refine pu_ 1 19 6 3 ?_
          refine pu_ 2 20 6 7 ?_
          refine pu_ 3 21 6 15 ?_
          refine ta_ 4 22 6 31 hHeld ?_
          refine one_ (i := 5) (N := some 23) (bb 6 63) rfl rfl (by kernel_rfl) (by decide) (fun K hK => ?_)
          go_simp
          go_at_call 8
          refine (HGC.out _ (below_drew (Below.refl _ _))).mono ?_
          rintro e w1 ⟨rfl, hb1⟩
          have HB1 : Hid (Below wr.heap.size wr w1) := Lib.hid (below_then (below_drew (Below.refl wr.heap.size wr)) (Nat.le_refl _) hb1)
          clear hb1
          try go_wp2_with fail
          refine hK.out _ _ (HKT.out _ HB1.out) (fun hHeld => ?_)
          clear hK K
          refine nm_ (some 23) ?_
          refine done_ (by kernel_rfl) ?_
          refine NoPanic.normal ?_
          go_wp2_with (go_at_call 7; refine (HAW.out _).mono ?_; rintro e w2 ⟨rfl, hb2⟩; have HB2 := Lib.hid hb2; clear hb2)
          go_ret
          exact ⟨rfl, below_trans HB.out (below_mono (below_trans HB1.out (below_mono HB2.out HB1.out.size)) HB.out.size)⟩
        | false =>
          go_wp2_with fail
          refine wp_region_noPanic ?_
          refine start_ (n := 6) (S := (fun w' => w'.cell? ⟨w.heap.size, 0, none⟩ = some (.int .i64 rt) ∧ w'.cell? ⟨w.heap.size, 1, none⟩ = some (.slice A1 wd.length c1) ∧ w'.cell? ⟨w.heap.size, 2, none⟩ = some (.slice A2 ht.length c2) ∧ w'.cell? ⟨w.heap.size, 3, none⟩ = some (.slice A3 ce.length c3) ∧ w'.cell? ⟨w.heap.size, 4, none⟩ = some (.slice A4 me.length c4) ∧ w'.cell? (ad.add (j * 11)) = some (.int .i64 x.kind) ∧ w'.cell? ⟨(ad.add (j * 11)).block, (ad.add (j * 11)).off + 1, none⟩ = some (.int .i64 x.row) ∧ w'.cell? ⟨(ad.add (j * 11)).block, (ad.add (j * 11)).off + 2, none⟩ = some (.int .i64 x.col) ∧ w'.cell? ⟨(ad.add (j * 11)).block, (ad.add (j * 11)).off + 3, none⟩ = some (.int .i64 x.rows) ∧ w'.cell? ⟨(ad.add (j * 11)).block, (ad.add (j * 11)).off + 4, none⟩ = some (.int .i64 x.cols) ∧ w'.cell? ⟨(ad.add (j * 11)).block, (ad.add (j * 11)).off + 5, none⟩ = some (.int .i64 x.n) ∧ w'.cell? ⟨(ad.add (j * 11)).block, (ad.add (j * 11)).off + 6, none⟩ = some (.int .i64 x.size) ∧ w'.cell? ⟨(ad.add (j * 11)).block, (ad.add (j * 11)).off + 7, none⟩ = some (.string x.text) ∧ w'.cell? ⟨(ad.add (j * 11)).block, (ad.add (j * 11)).off + 8, none⟩ = some (.int .i64 x.style.f0) ∧ w'.cell? ⟨(ad.add (j * 11)).block, (ad.add (j * 11)).off + 9, none⟩ = some (.int .i64 x.style.f1) ∧ w'.cell? ⟨(ad.add (j * 11)).block, (ad.add (j * 11)).off + 10, none⟩ = some (.int .i64 x.style.f2))) (ds := []) (bb 6 0) (by kernel_rfl) rfl rfl (HKT.out _ (below_drew (Below.refl _ _))) (fun hHeld => ?_)
          refine ta_ 0 18 6 1 hHeld ?_
          refine pu_ 1 19 6 3 ?_
          refine pu_ 2 20 6 7 ?_
          refine pu_ 3 21 6 15 ?_
          refine ta_ 4 22 6 31 hHeld ?_
          refine one_ (i := 5) (N := some 23) (bb 6 63) rfl rfl (by kernel_rfl) (by decide) (fun K hK => ?_)
          go_simp
          go_at_call 8
          refine (HGC.out _ (below_drew (Below.refl _ _))).mono ?_
          rintro e w1 ⟨rfl, hb1⟩
          have HB1 : Hid (Below wr.heap.size wr w1) := Lib.hid (below_then (below_drew (Below.refl wr.heap.size wr)) (Nat.le_refl _) hb1)
          clear hb1
          try go_wp2_with fail
          refine hK.out _ _ (HKT.out _ HB1.out) (fun hHeld => ?_)
          clear hK K
          refine nm_ (some 23) ?_
          refine done_ (by kernel_rfl) ?_
          refine NoPanic.normal ?_
          go_wp2_with fail
          obtain ⟨s0, s1, s2, s3, s4, h0, h1, h2, h3, h4, h5, h6, h7, h8, h9, h10⟩ := HKT.out _ HB1.out
          have hgg : Few ⟨rt, wd, ht, ce, me⟩ ∧ x.text.size ≤ 2000 := by first | exact HGF.out trivial | exact HGF.out rfl
          obtain ⟨hfew, htxs⟩ := hgg
          have hdo := fun (W : World) (hb : Below w1.heap.size w1 W) => do_any (V := ⟨A1, c1, A2, c2, A3, c3, A4, c4⟩) (s := ⟨rt, wd, ht, ce, me⟩) (x := x) (HRi.out.below (below_trans HB1.out (below_mono hb HB1.out.size))) HWi.out hfew ⟨HTY.out.1, HTY.out.2.1, HTY.out.2.2.1, HTY.out.2.2.2.1, HTY.out.2.2.2.2.1, HTY.out.2.2.2.2.2, htxs⟩ steps_any
          have hbad := @do_bad ⟨rt, wd, ht, ce, me⟩ x
          have hok := @ok_doF ⟨rt, wd, ht, ce, me⟩ x
          generalize doF ⟨rt, wd, ht, ce, me⟩ x = dd at hdo hbad hok
          obtain ⟨⟨dr, dwd, dht, dce, dme⟩, de⟩ := dd
          simp only [] at hdo hbad hok
          have HDO := Lib.hid hdo
          have HBAD := Lib.hid hbad
          have HOKD := Lib.hid hok
          clear hdo hbad hok hfew htxs hHeld
          go_cut [6, 7] (fun v6 v7 wx => ∃ bt A5 c5 A6 c6 A7 c7 A8 c8, v6 = .pointer (some ⟨bt, 0, none⟩) ∧ v7 = .int .i64 de ∧ w1.heap.size ≤ bt ∧ Hid (Below w1.heap.size w1 wx) ∧ Hid (wx.heap[bt]? = some (Obj.cells #[.int .i64 dr, .slice A5 dwd.length c5, .slice A6 dht.length c6, .slice A7 dce.length c7, .slice A8 dme.length c8] 26 (0, 0))) ∧ Hid (OwI wx w1.heap.size (.slice A5 dwd.length c5) dwd ∧ OwI wx w1.heap.size (.slice A6 dht.length c6) dht ∧ OwC wx w1.heap.size (.slice A7 dce.length c7) dce ∧ OwR wx w1.heap.size (.slice A8 dme.length c8) dme))
          case first =>
            have KS : ∀ w', Below w1.heap.size w1 w' → (w'.cell? ⟨w.heap.size, 0, none⟩ = some (.int .i64 rt) ∧ w'.cell? ⟨w.heap.size, 1, none⟩ = some (.slice A1 wd.length c1) ∧ w'.cell? ⟨w.heap.size, 2, none⟩ = some (.slice A2 ht.length c2) ∧ w'.cell? ⟨w.heap.size, 3, none⟩ = some (.slice A3 ce.length c3) ∧ w'.cell? ⟨w.heap.size, 4, none⟩ = some (.slice A4 me.length c4) ∧ w'.cell? (ad.add (j * 11)) = some (.int .i64 x.kind) ∧ w'.cell? ⟨(ad.add (j * 11)).block, (ad.add (j * 11)).off + 1, none⟩ = some (.int .i64 x.row) ∧ w'.cell? ⟨(ad.add (j * 11)).block, (ad.add (j * 11)).off + 2, none⟩ = some (.int .i64 x.col) ∧ w'.cell? ⟨(ad.add (j * 11)).block, (ad.add (j * 11)).off + 3, none⟩ = some (.int .i64 x.rows) ∧ w'.cell? ⟨(ad.add (j * 11)).block, (ad.add (j * 11)).off + 4, none⟩ = some (.int .i64 x.cols) ∧ w'.cell? ⟨(ad.add (j * 11)).block, (ad.add (j * 11)).off + 5, none⟩ = some (.int .i64 x.n) ∧ w'.cell? ⟨(ad.add (j * 11)).block, (ad.add (j * 11)).off + 6, none⟩ = some (.int .i64 x.size) ∧ w'.cell? ⟨(ad.add (j * 11)).block, (ad.add (j * 11)).off + 7, none⟩ = some (.string x.text) ∧ w'.cell? ⟨(ad.add (j * 11)).block, (ad.add (j * 11)).off + 8, none⟩ = some (.int .i64 x.style.f0) ∧ w'.cell? ⟨(ad.add (j * 11)).block, (ad.add (j * 11)).off + 9, none⟩ = some (.int .i64 x.style.f1) ∧ w'.cell? ⟨(ad.add (j * 11)).block, (ad.add (j * 11)).off + 10, none⟩ = some (.int .i64 x.style.f2) ∧ Below w1.heap.size w1 w') := fun w' hb => ⟨pw_cell_below hb s0, pw_cell_below hb s1, pw_cell_below hb s2, pw_cell_below hb s3, pw_cell_below hb s4, pw_cell_below hb h0, pw_cell_below hb h1, pw_cell_below hb h2, pw_cell_below hb h3, pw_cell_below hb h4, pw_cell_below hb h5, pw_cell_below hb h6, pw_cell_below hb h7, pw_cell_below hb h8, pw_cell_below hb h9, pw_cell_below hb h10, hb⟩
            have HKS := Lib.hid KS
            clear KS
            go_region_held3 (fun w' => (w'.cell? ⟨w.heap.size, 0, none⟩ = some (.int .i64 rt) ∧ w'.cell? ⟨w.heap.size, 1, none⟩ = some (.slice A1 wd.length c1) ∧ w'.cell? ⟨w.heap.size, 2, none⟩ = some (.slice A2 ht.length c2) ∧ w'.cell? ⟨w.heap.size, 3, none⟩ = some (.slice A3 ce.length c3) ∧ w'.cell? ⟨w.heap.size, 4, none⟩ = some (.slice A4 me.length c4) ∧ w'.cell? (ad.add (j * 11)) = some (.int .i64 x.kind) ∧ w'.cell? ⟨(ad.add (j * 11)).block, (ad.add (j * 11)).off + 1, none⟩ = some (.int .i64 x.row) ∧ w'.cell? ⟨(ad.add (j * 11)).block, (ad.add (j * 11)).off + 2, none⟩ = some (.int .i64 x.col) ∧ w'.cell? ⟨(ad.add (j * 11)).block, (ad.add (j * 11)).off + 3, none⟩ = some (.int .i64 x.rows) ∧ w'.cell? ⟨(ad.add (j * 11)).block, (ad.add (j * 11)).off + 4, none⟩ = some (.int .i64 x.cols) ∧ w'.cell? ⟨(ad.add (j * 11)).block, (ad.add (j * 11)).off + 5, none⟩ = some (.int .i64 x.n) ∧ w'.cell? ⟨(ad.add (j * 11)).block, (ad.add (j * 11)).off + 6, none⟩ = some (.int .i64 x.size) ∧ w'.cell? ⟨(ad.add (j * 11)).block, (ad.add (j * 11)).off + 7, none⟩ = some (.string x.text) ∧ w'.cell? ⟨(ad.add (j * 11)).block, (ad.add (j * 11)).off + 8, none⟩ = some (.int .i64 x.style.f0) ∧ w'.cell? ⟨(ad.add (j * 11)).block, (ad.add (j * 11)).off + 9, none⟩ = some (.int .i64 x.style.f1) ∧ w'.cell? ⟨(ad.add (j * 11)).block, (ad.add (j * 11)).off + 10, none⟩ = some (.int .i64 x.style.f2) ∧ Below w1.heap.size w1 w'))
              (first
                | with_reducible exact HKS.out _ hfin
                | with_reducible exact HKS.out _ (Below.refl _ _)
                | with_reducible exact HKS.out _ (below_drew (Below.refl _ _))
                | (go_split_ands; with_reducible exact HKS.out _ (below_then (by assumption) (Below.size (by assumption)) hbn))
                | (go_split_ands; with_reducible exact HKS.out _ (below_drew (by assumption)))
                | (go_split_ands; with_reducible exact HKS.out _ (by assumption))
                | with_reducible exact HKS.out _ (below_alloc (Below.refl _ _) _)
                | with_reducible exact HKS.out _ (below_drew (below_alloc (Below.refl _ _) _))
                | with_reducible exact HKS.out _ (below_then (below_drew (Below.refl w1.heap.size w1)) (Nat.le_refl _) hbn)
                | with_reducible exact HKS.out _ (below_then (below_drew (below_alloc (Below.refl w1.heap.size w1) _)) (by simp) hbn)
                | with_reducible exact HKS.out _ (below_alloc (below_then (below_drew (Below.refl w1.heap.size w1)) (Nat.le_refl _) hbn) _))
              (first
                | (go_at_call 9; first | (refine (HDO.out _ (below_drew (Below.refl _ _))).mono ?_; rintro e wh ⟨v1, v2, v3, v4, rfl, o1, o2, o3, o4, hne, hbn⟩; obtain ⟨A5, c5, rfl⟩ := ow_slice o1; obtain ⟨A6, c6, rfl⟩ := ow_slice o2; obtain ⟨A7, c7, rfl⟩ := ow_slice o3; obtain ⟨A8, c8, rfl⟩ := ow_slice o4; obtain ⟨z0, z1, z2, z3, z4, f0x, f1x, f2x, f3x, f4x⟩ := zero5 (blk_new wh (Obj.cells #[.int .i64 0, .slice none 0 0, .slice none 0 0, .slice none 0 0, .slice none 0 0] 26 (0, 0))); have hfin := below_alloc (below_then (below_drew (Below.refl w1.heap.size w1)) (Nat.le_refl _) hbn) (Obj.cells #[.int .i64 dr, .slice A5 dwd.length c5, .slice A6 dht.length c6, .slice A7 dce.length c7, .slice A8 dme.length c8] 26 (0, 0)); have hordA := True.intro) | (refine (HDO.out _ (below_drew (below_alloc (Below.refl _ _) _))).mono ?_; rintro e wh ⟨v1, v2, v3, v4, rfl, o1, o2, o3, o4, hne, hbn⟩; obtain ⟨A5, c5, rfl⟩ := ow_slice o1; obtain ⟨A6, c6, rfl⟩ := ow_slice o2; obtain ⟨A7, c7, rfl⟩ := ow_slice o3; obtain ⟨A8, c8, rfl⟩ := ow_slice o4; have hzz := blk_below (blk_drew (blk_new w1 (Obj.cells #[.int .i64 0, .slice none 0 0, .slice none 0 0, .slice none 0 0, .slice none 0 0] 26 (0, 0)))) hbn; obtain ⟨z0, z1, z2, z3, z4, f0x, f1x, f2x, f3x, f4x⟩ := zero5 hzz; have hb0 := below_then (below_drew (below_alloc (Below.refl w1.heap.size w1) (Obj.cells #[.int .i64 0, .slice none 0 0, .slice none 0 0, .slice none 0 0, .slice none 0 0] 26 (0, 0)))) (by simp) hbn; have hle := Nat.le_refl w1.heap.size; have hfin := below_set (below_set (below_set (below_set (below_set hb0 hle (j := 0) (v := .int .i64 dr)) hle (j := 1) (v := .slice A5 dwd.length c5)) hle (j := 2) (v := .slice A6 dht.length c6)) hle (j := 3) (v := .slice A7 dce.length c7)) hle (j := 4) (v := .slice A8 dme.length c8); clear hb0; have hordB := True.intro)))
            go_split_ands
            all_goals
              go_wp2_with fail
              go_meet
              first
                | (have hq := hordA; (have hblk := blk_new wh (Obj.cells #[.int .i64 dr, .slice A5 dwd.length c5, .slice A6 dht.length c6, .slice A7 dce.length c7, .slice A8 dme.length c8] 26 (0, 0)); have hge : w1.heap.size ≤ wh.heap.size := hbn.size; have hba := below_alloc (Below.refl wh.heap.size wh) (Obj.cells #[.int .i64 dr, .slice A5 dwd.length c5, .slice A6 dht.length c6, .slice A7 dce.length c7, .slice A8 dme.length c8] 26 (0, 0)); exact ⟨_, _, _, _, _, _, _, _, _, rfl, rfl, hge, Lib.hid hfin, Lib.hid hblk, Lib.hid ⟨Ow.below o1 hba, Ow.below o2 hba, Ow.below o3 hba, Ow.below o4 hba⟩⟩))
                | (have hq := hordB; (have hwk : w1.heap.size ≤ ((w1.alloc (Obj.cells #[.int .i64 0, .slice none 0 0, .slice none 0 0, .slice none 0 0, .slice none 0 0] 26 (0, 0))).drew).heap.size := (by simp); exact ⟨_, _, _, _, _, _, _, _, _, rfl, rfl, hle, Lib.hid hfin, Lib.hid (put5 hzz), Lib.hid ⟨Ow.weaken (Ow.set5 o1 hzz (by decide)) hwk, Ow.weaken (Ow.set5 o2 hzz (by decide)) hwk, Ow.weaken (Ow.set5 o3 hzz (by decide)) hwk, Ow.weaken (Ow.set5 o4 hzz (by decide)) hwk⟩⟩))
          case rest =>
            obtain ⟨bt, A5, c5, A6, c6, A7, c7, A8, c8, rfl, rfl, hge, HBc, HBb, HOW⟩ := hcut
            have hct : wc.heap[bt]? = some (.cells (shv ⟨A5, c5, A6, c6, A7, c7, A8, c8⟩ ⟨dr, dwd, dht, dce, dme⟩) 26 (0, 0)) := HBb.out
            have hBw : Below wr.heap.size wr wc := below_trans HB1.out (below_mono HBc.out HB1.out.size)
            have hbs := blk_below HX.out hBw
            obtain ⟨t0, t1, t2, t3, t4⟩ := five hct
            simp only [] at t0 t1 t2 t3 t4
            have HRT : Hid (Rd wc ⟨A5, c5, A6, c6, A7, c7, A8, c8⟩ ⟨dr, dwd, dht, dce, dme⟩) := Lib.hid (rd_ow HOW.out.1 HOW.out.2.1 HOW.out.2.2.1 HOW.out.2.2.2)
            have HBW := Lib.hid hBw
            have HBS := Lib.hid hbs
            have HGE := Lib.hid hge
            clear hct hBw hbs s0 s1 s2 s3 s4 h0 h1 h2 h3 h4 h5 h6 h7 h8 h9 h10 hge
            by_cases hde : de = 0
            · subst hde
              have hOk := HOKD.out rfl
              have hck : chk ⟨dr, dwd, dht, dce, dme⟩ = 0 := chk_iff.mpr hOk
              have hch := fun (W : World) (hb : Below wc.heap.size wc W) => check_any (HRT.out.below hb) (ws_ok hOk)
              rw [hck] at hch
              have HCH := Lib.hid hch
              have HWO := Lib.hid (ws_ok hOk)
              clear hOk hck hch t0 t1 t2 t3 t4
              obtain ⟨t0, t1, t2, t3, t4⟩ := five (show wc.heap[bt]? = some (.cells (shv ⟨A5, c5, A6, c6, A7, c7, A8, c8⟩ ⟨dr, dwd, dht, dce, dme⟩) 26 (0, 0)) from HBb.out)
              simp only [] at t0 t1 t2 t3 t4
              go_wp2_with (go_at_call 11; refine (HCH.out _ (Below.refl _ _)).mono ?_; rintro e w4 ⟨rfl, hb4⟩; have HB4 := Lib.hid hb4; obtain ⟨t0, t1, t2, t3, t4⟩ := five (blk_below (show wc.heap[bt]? = some (.cells (shv ⟨A5, c5, A6, c6, A7, c7, A8, c8⟩ ⟨dr, dwd, dht, dce, dme⟩) 26 (0, 0)) from HBb.out) hb4); (try simp only [] at t0 t1 t2 t3 t4); obtain ⟨s0, s1, s2, s3, s4⟩ := five (blk_below HBS.out hb4); (try simp only [] at s0 s1 s2 s3 s4); have hfz := fun i => blk_frozen (blk_below HBS.out hb4) i; have f0 := hfz 0; have f1 := hfz 1; have f2 := hfz 2; have f3 := hfz 3; have f4 := hfz 4; clear hfz hb4)
              go_roundg (l.length - (j + 1))
              case measure => have := Hg.out; have := HLT.out; omega
              case rel =>
                have hlt := HLT.out
                have hb6 : Below w.heap.size w w4 := below_trans HB.out (below_mono (below_trans HBW.out (below_mono HB4.out HBW.out.size)) HB.out.size)
                have hbs4 := blk_below HBS.out HB4.out
                have o1 := (Ow.below HOW.out.1 HB4.out).set5 (v0 := .int .i64 dr) (v1 := .slice A5 dwd.length c5) (v2 := .slice A6 dht.length c6) (v3 := .slice A7 dce.length c7) (v4 := .slice A8 dme.length c8) hbs4 (by decide)
                have o2 := (Ow.below HOW.out.2.1 HB4.out).set5 (v0 := .int .i64 dr) (v1 := .slice A5 dwd.length c5) (v2 := .slice A6 dht.length c6) (v3 := .slice A7 dce.length c7) (v4 := .slice A8 dme.length c8) hbs4 (by decide)
                have o3 := (Ow.below HOW.out.2.2.1 HB4.out).set5 (v0 := .int .i64 dr) (v1 := .slice A5 dwd.length c5) (v2 := .slice A6 dht.length c6) (v3 := .slice A7 dce.length c7) (v4 := .slice A8 dme.length c8) hbs4 (by decide)
                have o4 := (Ow.below HOW.out.2.2.2 HB4.out).set5 (v0 := .int .i64 dr) (v1 := .slice A5 dwd.length c5) (v2 := .slice A6 dht.length c6) (v3 := .slice A7 dce.length c7) (v4 := .slice A8 dme.length c8) hbs4 (by decide)
                have hle := Nat.le_refl w.heap.size
                exact ⟨j + 1, ⟨A5, c5, A6, c6, A7, c7, A8, c8⟩, ⟨dr, dwd, dht, dce, dme⟩, hlt, rfl, by go_num, Lib.hid (below_set (below_set (below_set (below_set (below_set hb6 hle (j := 0) (v := .int .i64 dr)) hle (j := 1) (v := .slice A5 dwd.length c5)) hle (j := 2) (v := .slice A6 dht.length c6)) hle (j := 3) (v := .slice A7 dce.length c7)) hle (j := 4) (v := .slice A8 dme.length c8)), Lib.hid (put5 hbs4), Lib.hid (rd_ow o1 o2 o3 o4), HWO⟩
            · have hz := HBAD.out hde
              injection hz with z0 z1 z2 z3 z4
              subst z0 z1 z2 z3 z4
              have hdb : (de != 0) = true := by simpa using hde
              obtain ⟨b, hsm, hsb⟩ := same_any (t := zSh) (V' := ⟨none, 0, none, 0, none, 0, none, 0⟩) HRT.out ⟨Kd.C_nil _ _, Nat.le_refl _, Kd.C_nil _ _, Nat.le_refl _, Kd.C_nil _ _, Nat.le_refl _, Kd.C_nil _ _, Nat.le_refl _⟩ ⟨by decide, by decide, by decide, by decide⟩
              have hbt : b = true := hsb.mpr rfl
              subst hbt
              have HSM := Lib.hid hsm
              clear hsm hsb hde
              go_wp2_with (go_at_call 10; refine HSM.out.mono ?_; rintro e w4 ⟨rfl, hb4⟩; have HB4 := Lib.hid hb4; clear hb4)
              go_roundg (l.length - (j + 1))
              case measure => have := Hg.out; have := HLT.out; omega
              case rel =>
                have hlt := HLT.out
                have hb6 : Below wr.heap.size wr w4 := below_trans HBW.out (below_mono HB4.out HBW.out.size)
                exact ⟨j + 1, ⟨A1, c1, A2, c2, A3, c3, A4, c4⟩, ⟨rt, wd, ht, ce, me⟩, hlt, rfl, by go_num, Lib.hid (below_trans HB.out (below_mono hb6 HB.out.size)), Lib.hid (blk_below HX.out hb6), Lib.hid (HRi.out.below hb6), HWi⟩
      · have hjl : j = l.length := by omega
        subst hjl
        have hnz : ¬ ((l.length : Int) < (l.length : Int)) := by omega
        go_wp2_with (go_at_call 7; refine (HAW.out _).mono ?_; rintro e w2 ⟨rfl, hb2⟩; have HB2 := Lib.hid hb2; clear hb2)
        go_ret
        exact ⟨rfl, below_trans HB.out (below_mono HB2.out HB.out.size)⟩
end Go.Proofs.YtcofacgdijjnoaaGreat
