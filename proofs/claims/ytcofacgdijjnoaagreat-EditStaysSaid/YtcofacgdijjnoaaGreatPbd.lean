/- the law EditMay: walked. -/
import Derived.Test.YtcofacgdijjnoaaGreatPaa
import Derived.Test.YtcofacgdijjnoaaGreatPbc
namespace Go.Proofs.YtcofacgdijjnoaaGreat
open PE (S31 S44 S49 k44 k49 k31)
open Go.RowKit Go.Shelf Go.Lib Go.Proofs.YtcofacgdijjnoaaGreatW.PrintWords Go.Proofs.YtcofacgdijjnoaaGreatW.PrintLast Go.Proofs.YtcofacgdijjnoaaGreatW.PrintMore
set_option linter.unusedVariables false
set_option linter.unusedSimpArgs false
set_option maxRecDepth 100000
set_option maxHeartbeats 8000000
/-- a row of steps, as it lies -/
def RdS (w : World) (A : Option Addr) (l : List St) : Prop := ∀ j x, l[j]? = some x → ∃ ad, A = some ad ∧ w.cell? (ad.add (j * 11)) = some (.int .i64 x.kind) ∧ w.cell? ⟨(ad.add (j * 11)).block, (ad.add (j * 11)).off + 1, none⟩ = some (.int .i64 x.row) ∧ w.cell? ⟨(ad.add (j * 11)).block, (ad.add (j * 11)).off + 2, none⟩ = some (.int .i64 x.col) ∧ w.cell? ⟨(ad.add (j * 11)).block, (ad.add (j * 11)).off + 3, none⟩ = some (.int .i64 x.rows) ∧ w.cell? ⟨(ad.add (j * 11)).block, (ad.add (j * 11)).off + 4, none⟩ = some (.int .i64 x.cols) ∧ w.cell? ⟨(ad.add (j * 11)).block, (ad.add (j * 11)).off + 5, none⟩ = some (.int .i64 x.n) ∧ w.cell? ⟨(ad.add (j * 11)).block, (ad.add (j * 11)).off + 6, none⟩ = some (.int .i64 x.size) ∧ w.cell? ⟨(ad.add (j * 11)).block, (ad.add (j * 11)).off + 7, none⟩ = some (.string x.text) ∧ w.cell? ⟨(ad.add (j * 11)).block, (ad.add (j * 11)).off + 8, none⟩ = some (.int .i64 x.style.f0) ∧ w.cell? ⟨(ad.add (j * 11)).block, (ad.add (j * 11)).off + 9, none⟩ = some (.int .i64 x.style.f1) ∧ w.cell? ⟨(ad.add (j * 11)).block, (ad.add (j * 11)).off + 10, none⟩ = some (.int .i64 x.style.f2)
def TyS (x : St) : Prop := W6 x.row ∧ W6 x.col ∧ W6 x.rows ∧ W6 x.cols ∧ W6 x.n ∧ W6 x.size
theorem RdS.below {w W : World} {A : Option Addr} {l : List St} (h : RdS w A l) (hb : Below w.heap.size w W) : RdS W A l := fun j x hx => by
  obtain ⟨ad, e, h0, h1, h2, h3, h4, h5, h6, h7, h8, h9, h10⟩ := h j x hx
  exact ⟨ad, e, pw_cell_below hb h0, pw_cell_below hb h1, pw_cell_below hb h2, pw_cell_below hb h3, pw_cell_below hb h4, pw_cell_below hb h5, pw_cell_below hb h6, pw_cell_below hb h7, pw_cell_below hb h8, pw_cell_below hb h9, pw_cell_below hb h10⟩
theorem great_any {w : World} {V : SV} {s : Sh} {x : St} (h : Rd w V s) : ∃ b, (∀ W, Below w.heap.size w W → Calls Tryz.prog 8 #[.agg (shv V s), .agg (stv x)] W fun e w' => e = .returned (.bool b) ∧ Below W.heap.size W w') ∧ (b = false → Few s ∧ x.text.size ≤ 2000) := by
  obtain ⟨rt, wd, ht, ce, me⟩ := s
  obtain ⟨kd, x2, x3, x4, x5, x6, x7, tx, ⟨y1, y2, y3⟩⟩ := x
  obtain ⟨k, b, hb, hf⟩ := great_is rt wd ht ce me kd x2 x3 x4 x5 x6 x7 tx y1 y2 y3
  refine ⟨b, fun W hbl => ?_, hf⟩
  have hR := h.below hbl
  exact PE.parquetrylaw22_great.calls k rt V.A1 V.c1 wd V.A2 V.c2 ht V.A3 V.c3 ce V.A4 V.c4 me kd x2 x3 x4 x5 x6 x7 tx y1 y2 y3 b W hR.h1 hR.l1 hR.h2 hR.l2 hR.h3 hR.l3 hR.h4 hR.l4 hb
theorem rd_ow {w : World} {B : Nat} {rt : Int} {wd ht : List Int} {ce : List S44} {me : List S49} {A1 A2 A3 A4 : Option Addr} {c1 c2 c3 c4 : Nat} (o1 : OwI w B (.slice A1 wd.length c1) wd) (o2 : OwI w B (.slice A2 ht.length c2) ht) (o3 : OwC w B (.slice A3 ce.length c3) ce) (o4 : OwR w B (.slice A4 me.length c4) me) :
    Rd w ⟨A1, c1, A2, c2, A3, c3, A4, c4⟩ ⟨rt, wd, ht, ce, me⟩ := by
  obtain ⟨_, _, e1, l1, r1⟩ := Ow.reads rfl lenI kI o1
  obtain ⟨_, _, e2, l2, r2⟩ := Ow.reads rfl lenI kI o2
  obtain ⟨_, _, e3, l3, r3⟩ := Ow.reads rfl lenC kC o3
  obtain ⟨_, _, e4, l4, r4⟩ := Ow.reads rfl lenR kR o4
  injection e1 with a1 _ b1; injection e2 with a2 _ b2; injection e3 with a3 _ b3; injection e4 with a4 _ b4
  subst a1 b1 a2 b2 a3 b3 a4 b4
  exact ⟨r1, l1, r2, l2, r3, l3, r4, l4⟩
theorem same_any {w : World} {V V' : SV} {s t : Sh} (h : Rd w V s) (h' : Rd w V' t) (hf : s.wd.length ≤ 1000000 ∧ s.ht.length ≤ 1000000 ∧ s.ce.length ≤ 1000000 ∧ s.me.length ≤ 1000000) : ∃ b, (Calls Tryz.prog 10 #[.agg (shv V s), .agg (shv V' t)] w fun e w' => e = .returned (.bool b) ∧ Below w.heap.size w w') ∧ (b = true ↔ s = t) := by
  obtain ⟨rt, wd, ht, ce, me⟩ := s
  obtain ⟨rt', wd', ht', ce', me'⟩ := t
  obtain ⟨k, b, hb, hq⟩ := same_is (a0 := rt) (b0 := rt') (m1 := wd') (m2 := ht') (l' := ce') (m4 := me') hf.1 hf.2.1 hf.2.2.1 hf.2.2.2
  exact ⟨b, PE.parquetryref21_Same.calls k rt V.A1 V.c1 wd V.A2 V.c2 ht V.A3 V.c3 ce V.A4 V.c4 me rt' V'.A1 V'.c1 wd' V'.A2 V'.c2 ht' V'.A3 V'.c3 ce' V'.A4 V'.c4 me' b w h.h1 h.l1 h.h2 h.l2 h.h3 h.l3 h.h4 h.l4 h'.h1 h'.l1 h'.h2 h'.l2 h'.h3 h'.l3 h'.h4 h'.l4 hb, hq⟩
end Go.Proofs.YtcofacgdijjnoaaGreat
