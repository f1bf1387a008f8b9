/- sheet: more of the tests that are handed to the library: walked. -/
import Derived.Test.YtcofacgdijjnoaaGreatPak
import Derived.Test.YtcofacgdijjnoaaGreatPal
namespace Go.Proofs.YtcofacgdijjnoaaGreat
open PE (S31 S44 S49 k44 k49 k31)
open Go.RowKit Go.Shelf Go.Lib Go.Proofs.YtcofacgdijjnoaaGreatW.PrintWords Go.Proofs.YtcofacgdijjnoaaGreatW.PrintLast Go.Proofs.YtcofacgdijjnoaaGreatW.PrintMore
set_option linter.unusedVariables false
set_option linter.unusedSimpArgs false
set_option maxRecDepth 100000
set_option maxHeartbeats 2000000
/-- a sheet that is turned into another one: a block of the call's own, with its rows -/
def Ed (w : World) (B D : Nat) (s : Sh) : Prop := ∃ v1 v2 v3 v4, w.heap[D]? = some (.cells #[.int .i64 s.rt, v1, v2, v3, v4] 53 (0, 0)) ∧ OwI w B v1 s.wd ∧ OwI w B v2 s.ht ∧ OwC w B v3 s.ce ∧ OwR w B v4 s.me ∧ NeRow v1 v2 ∧ B ≤ D
/-- a step's value -/
def stv (x : St) : Array Value := #[.int .i64 x.kind, .int .i64 x.row, .int .i64 x.col, .int .i64 x.rows, .int .i64 x.cols, .int .i64 x.n, .int .i64 x.size, .string x.text, .int .i64 x.style.f0, .int .i64 x.style.f1, .int .i64 x.style.f2]
def WSt (x : St) : Prop := W6 x.row ∧ W6 x.col ∧ W6 x.rows ∧ W6 x.cols ∧ W6 x.n ∧ W6 x.size ∧ x.text.size ≤ 2000
/-- what is asked of a step -/
def StepC (fn : Nat) (f : Sh → St → Sh × Int) : Prop := ∀ (w : World) (B D : Nat) (s : Sh) (x : St), Ed w B D s → OkS s → WSt x →
  Calls Tryz.prog fn #[.pointer (some ⟨D, 0, none⟩), .agg (stv x)] w fun e w' => e = .returned (.int .i64 (f s x).2) ∧ ((f s x).2 = 0 → Ed w' B D (f s x).1) ∧ Below B w w'
theorem ws_ok {s : Sh} (h : OkS s) : WS s := by
  have hl := h.htn; have hw := h.wdn
  refine ⟨fun c hc => ?_, fun r hr => ?_⟩
  · obtain ⟨_, _, _, a, b, c', d⟩ := h.ceE c hc
    unfold WC W6; omega
  · obtain ⟨a, b, _, c', d, e, f⟩ := h.meE r hr
    unfold WR W6; omega
theorem do_eq (s : Sh) (x : St) : doF s x = if chk s ≠ 0 ∨ ¬ (1 ≤ x.kind ∧ x.kind ≤ 11) then (zSh, 1) else if (stepF x.kind.toNat s x).2 ≠ 0 then (zSh, (stepF x.kind.toNat s x).2) else ((stepF x.kind.toNat s x).1, 0) := by
  unfold doF
  by_cases h : chk s ≠ 0 ∨ x.kind < 1 ∨ 11 < x.kind
  · exact (if_pos h).trans (if_pos (h.elim Or.inl fun h => .inr (by omega))).symm
  · exact (if_neg h).trans (if_neg fun k => h (k.elim Or.inl fun k => .inr (by omega))).symm
theorem below_trans {B : Nat} {w w1 w2 : World} (h : Below B w w1) (k : Below B w1 w2) : Below B w w2 :=
  ⟨k.os.trans h.os, k.tape.trans h.tape, k.output.trans h.output, Nat.le_trans h.size k.size, fun i hi => (k.block i hi).trans (h.block i hi)⟩
theorem below_mono {B B' : Nat} {w w1 : World} (h : Below B w w1) (hB : B' ≤ B) : Below B' w w1 := ⟨h.os, h.tape, h.output, h.size, fun i hi => h.block i (Nat.lt_of_lt_of_le hi hB)⟩
theorem five53 {w : World} {B : Nat} {v0 v1 v2 v3 v4 : Value} (h : w.heap[B]? = some (.cells #[v0, v1, v2, v3, v4] 53 (0, 0))) :
    w.cell? ⟨B, 0, none⟩ = some v0 ∧ w.cell? ⟨B, 1, none⟩ = some v1 ∧ w.cell? ⟨B, 2, none⟩ = some v2 ∧ w.cell? ⟨B, 3, none⟩ = some v3 ∧ w.cell? ⟨B, 4, none⟩ = some v4 :=
  ⟨blk_cell h 0, blk_cell h 1, blk_cell h 2, blk_cell h 3, blk_cell h 4⟩
theorem Ow.weaken {α : Type} {enc : α → List Value} {e k : Nat} {w : World} {B B' : Nat} {v : Value} {l : List α} (h : Ow enc e k w B v l) (hB : B' ≤ B) : Ow enc e k w B' v l := own_weaken h hB
theorem does_any2 (w : World) (D : Nat) : Calls Tryz.prog 17 #[.pointer (some ⟨D, 0, none⟩)] w fun e w' => e = .returned (.map (some w.heap.size)) ∧ w'.heap[w.heap.size]? = some (.map (dent D 11) 11) ∧ Below w.heap.size w w' :=
  (does_any w D).mono (by rintro e w' ⟨rfl, rfl⟩; exact ⟨rfl, blk_new _ _, below_alloc (Below.refl _ _) _⟩)
def lkV (D : Nat) (x : Int) : Value := if 1 ≤ x ∧ x ≤ 11 then dfn D x.toNat else .nilFunc
def lkB (x : Int) : Bool := decide (1 ≤ x ∧ x ≤ 11)
theorem look_any (D g : Nat) (x : Int) (W : World) (hg : W.heap[g]? = some (.map (dent D 11) 11)) :
    (Instr.lookup 55 (.map (some g)) (.int .i64 x) true).run Tryz.prog W = .ok (.tuple #[lkV D x, .bool (lkB x)]) W := by
  by_cases h : 1 ≤ x ∧ x ≤ 11
  · rw [lkV, if_pos h, lkB, decide_eq_true h]; exact look_hit D g x h.1 h.2 W hg
  · rw [lkV, if_neg h, lkB, decide_eq_false h]; exact look_miss D g x (by omega) W hg
theorem eleven {w : World} {B : Nat} {x : St} (h : w.heap[B]? = some (.cells (stv x) 33 (0, 0))) :
    w.cell? ⟨B, 0, none⟩ = some (.int .i64 x.kind) ∧ w.cell? ⟨B, 1, none⟩ = some (.int .i64 x.row) ∧ w.cell? ⟨B, 2, none⟩ = some (.int .i64 x.col) ∧ w.cell? ⟨B, 3, none⟩ = some (.int .i64 x.rows) ∧ w.cell? ⟨B, 4, none⟩ = some (.int .i64 x.cols) ∧ w.cell? ⟨B, 5, none⟩ = some (.int .i64 x.n) ∧ w.cell? ⟨B, 6, none⟩ = some (.int .i64 x.size) ∧
    w.cell? ⟨B, 7, none⟩ = some (.string x.text) ∧ w.cell? ⟨B, 8, none⟩ = some (.int .i64 x.style.f0) ∧ w.cell? ⟨B, 9, none⟩ = some (.int .i64 x.style.f1) ∧ w.cell? ⟨B, 10, none⟩ = some (.int .i64 x.style.f2) :=
  ⟨blk_cell h 0, blk_cell h 1, blk_cell h 2, blk_cell h 3, blk_cell h 4, blk_cell h 5, blk_cell h 6, blk_cell h 7, blk_cell h 8, blk_cell h 9, blk_cell h 10⟩
theorem do_any {w : World} {V : SV} {s : Sh} {x : St} (h : Rd w V s) (hw : WS s) (hf : Few s) (hx : WSt x) (hs : ∀ k, 1 ≤ k → k ≤ 11 → StepC (38 + k) (stepF k)) :
    Calls Tryz.prog 9 #[.agg (shv V s), .agg (stv x)] w fun e w' => ∃ v1 v2 v3 v4, e = .returned (.tuple #[.agg #[.int .i64 (doF s x).1.rt, v1, v2, v3, v4], .int .i64 (doF s x).2]) ∧
    OwI w' w.heap.size v1 (doF s x).1.wd ∧ OwI w' w.heap.size v2 (doF s x).1.ht ∧ OwC w' w.heap.size v3 (doF s x).1.ce ∧ OwR w' w.heap.size v4 (doF s x).1.me ∧ NeRow v1 v2 ∧ Below w.heap.size w w' := by
  obtain ⟨A1, c1, A2, c2, A3, c3, A4, c4⟩ := V
  obtain ⟨rt, wd, ht, ce, me⟩ := s
  obtain ⟨kd, x2, x3, x4, x5, x6, x7, tx, y1, y2, y3⟩ := x
  have hn1 := blk_new w (Obj.cells #[.int .i64 rt, .slice A1 wd.length c1, .slice A2 ht.length c2, .slice A3 ce.length c3, .slice A4 me.length c4] 26 (0, 0))
  have hn2 := blk_new (w.alloc (Obj.cells #[.int .i64 rt, .slice A1 wd.length c1, .slice A2 ht.length c2, .slice A3 ce.length c3, .slice A4 me.length c4] 26 (0, 0))) (Obj.cells #[.int .i64 kd, .int .i64 x2, .int .i64 x3, .int .i64 x4, .int .i64 x5, .int .i64 x6, .int .i64 x7, .string tx, .int .i64 y1, .int .i64 y2, .int .i64 y3] 33 (0, 0))
  have hn3 := blk_new ((w.alloc (Obj.cells #[.int .i64 rt, .slice A1 wd.length c1, .slice A2 ht.length c2, .slice A3 ce.length c3, .slice A4 me.length c4] 26 (0, 0))).alloc (Obj.cells #[.int .i64 kd, .int .i64 x2, .int .i64 x3, .int .i64 x4, .int .i64 x5, .int .i64 x6, .int .i64 x7, .string tx, .int .i64 y1, .int .i64 y2, .int .i64 y3] 33 (0, 0))) (Obj.cells #[.int .i64 0, .slice none 0 0, .slice none 0 0, .slice none 0 0, .slice none 0 0] 26 (0, 0))
  have e1 : (w.alloc (Obj.cells #[.int .i64 rt, .slice A1 wd.length c1, .slice A2 ht.length c2, .slice A3 ce.length c3, .slice A4 me.length c4] 26 (0, 0))).heap.size = w.heap.size + 1 := by simp
  have e2 : ((w.alloc (Obj.cells #[.int .i64 rt, .slice A1 wd.length c1, .slice A2 ht.length c2, .slice A3 ce.length c3, .slice A4 me.length c4] 26 (0, 0))).alloc (Obj.cells #[.int .i64 kd, .int .i64 x2, .int .i64 x3, .int .i64 x4, .int .i64 x5, .int .i64 x6, .int .i64 x7, .string tx, .int .i64 y1, .int .i64 y2, .int .i64 y3] 33 (0, 0))).heap.size = w.heap.size + 1 + 1 := by simp
  rw [e1] at hn2
  rw [e2] at hn3
  have k1 := blk_alloc (blk_alloc hn1 (Obj.cells #[.int .i64 kd, .int .i64 x2, .int .i64 x3, .int .i64 x4, .int .i64 x5, .int .i64 x6, .int .i64 x7, .string tx, .int .i64 y1, .int .i64 y2, .int .i64 y3] 33 (0, 0))) (Obj.cells #[.int .i64 0, .slice none 0 0, .slice none 0 0, .slice none 0 0, .slice none 0 0] 26 (0, 0))
  have k2 := blk_alloc hn2 (Obj.cells #[.int .i64 0, .slice none 0 0, .slice none 0 0, .slice none 0 0, .slice none 0 0] 26 (0, 0))
  have hA := below_alloc (below_alloc (below_alloc (Below.refl w.heap.size w) (Obj.cells #[.int .i64 rt, .slice A1 wd.length c1, .slice A2 ht.length c2, .slice A3 ce.length c3, .slice A4 me.length c4] 26 (0, 0))) (Obj.cells #[.int .i64 kd, .int .i64 x2, .int .i64 x3, .int .i64 x4, .int .i64 x5, .int .i64 x6, .int .i64 x7, .string tx, .int .i64 y1, .int .i64 y2, .int .i64 y3] 33 (0, 0))) (Obj.cells #[.int .i64 0, .slice none 0 0, .slice none 0 0, .slice none 0 0, .slice none 0 0] 26 (0, 0))
  obtain ⟨W3, hW3⟩ : ∃ W3, W3 = ((w.alloc (Obj.cells #[.int .i64 rt, .slice A1 wd.length c1, .slice A2 ht.length c2, .slice A3 ce.length c3, .slice A4 me.length c4] 26 (0, 0))).alloc (Obj.cells #[.int .i64 kd, .int .i64 x2, .int .i64 x3, .int .i64 x4, .int .i64 x5, .int .i64 x6, .int .i64 x7, .string tx, .int .i64 y1, .int .i64 y2, .int .i64 y3] 33 (0, 0))).alloc (Obj.cells #[.int .i64 0, .slice none 0 0, .slice none 0 0, .slice none 0 0, .slice none 0 0] 26 (0, 0)) := ⟨_, rfl⟩
  rw [← hW3] at k1 k2 hn3 hA
  have hR := h.below hA
  obtain ⟨p0, p1, p2, p3, p4⟩ := five (V := ⟨A1, c1, A2, c2, A3, c3, A4, c4⟩) (s := ⟨rt, wd, ht, ce, me⟩) k1
  obtain ⟨q0, q1, q2, q3, q4, q5, q6, q7, q8, q9, q10⟩ := eleven (x := ⟨kd, x2, x3, x4, x5, x6, x7, tx, y1, y2, y3⟩) k2
  have HO := Lib.hid (own_any hR hf)
  have HR := Lib.hid hR
  have HA := Lib.hid hA
  have HK1 := Lib.hid k1
  have HK2 := Lib.hid k2
  have HK3 := Lib.hid hn3
  have HW := Lib.hid hw
  have HX := Lib.hid hx
  have HS := Lib.hid hs
  clear h hw hx hs hf hn1 hn2 hn3 e1 e2 k1 k2 hA hR
  have HDO := Lib.hid (do_eq ⟨rt, wd, ht, ce, me⟩ ⟨kd, x2, x3, x4, x5, x6, x7, tx, y1, y2, y3⟩)
  obtain ⟨dd, hdd⟩ : ∃ dd, dd = doF ⟨rt, wd, ht, ce, me⟩ ⟨kd, x2, x3, x4, x5, x6, x7, tx, y1, y2, y3⟩ := ⟨_, rfl⟩
  rw [← hdd] at HDO ⊢
  clear hdd
  show Calls Tryz.prog 9 #[.agg #[.int .i64 rt, .slice A1 wd.length c1, .slice A2 ht.length c2, .slice A3 ce.length c3, .slice A4 me.length c4], .agg #[.int .i64 kd, .int .i64 x2, .int .i64 x3, .int .i64 x4, .int .i64 x5, .int .i64 x6, .int .i64 x7, .string tx, .int .i64 y1, .int .i64 y2, .int .i64 y3]] w _
  go_enter Tryz.func9, Tryz.ntmps9
  go_wp2_with fail
  rw [← hW3]
  clear hW3
  refine HO.out.mono ?_
  rintro e w1 ⟨v1, v2, v3, v4, rfl, o1, o2, o3, o4, hne, hb1⟩
  obtain ⟨B1, d1, rfl, _, _⟩ := Ow.reads rfl lenI kI o1
  obtain ⟨B2, d2, rfl, _, _⟩ := Ow.reads rfl lenI kI o2
  obtain ⟨B3, d3, rfl, _, _⟩ := Ow.reads rfl lenC kC o3
  obtain ⟨B4, d4, rfl, _, _⟩ := Ow.reads rfl lenR kR o4
  have HO1 := Lib.hid o1
  have HO2 := Lib.hid o2
  have HO3 := Lib.hid o3
  have HO4 := Lib.hid o4
  have HNE := Lib.hid hne
  have HB1 := Lib.hid hb1
  clear o1 o2 o3 o4 hne hb1 p0 p1 p2 p3 p4 q0 q1 q2 q3 q4 q5 q6 q7 q8 q9 q10 HO
  go_wp2_with fail
  have hd := blk_new w1 (Obj.cells #[.int .i64 rt, .slice B1 wd.length d1, .slice B2 ht.length d2, .slice B3 ce.length d3, .slice B4 me.length d4] 53 (0, 0))
  have hba := below_alloc HB1.out (Obj.cells #[.int .i64 rt, .slice B1 wd.length d1, .slice B2 ht.length d2, .slice B3 ce.length d3, .slice B4 me.length d4] 53 (0, 0))
  obtain ⟨W4, hW4⟩ : ∃ W4, W4 = w1.alloc (Obj.cells #[.int .i64 rt, .slice B1 wd.length d1, .slice B2 ht.length d2, .slice B3 ce.length d3, .slice B4 me.length d4] 53 (0, 0)) := ⟨_, rfl⟩
  rw [← hW4] at hd hba ⊢
  have hB14 : Below w1.heap.size w1 W4 := by rw [hW4]; exact below_alloc (Below.refl _ _) _
  have HD := Lib.hid hd
  have HB3 := Lib.hid hba
  have HB14 := Lib.hid hB14
  obtain ⟨q0, _, _, _, _, _, _, _, _, _, _⟩ := eleven (x := ⟨kd, x2, x3, x4, x5, x6, x7, tx, y1, y2, y3⟩) (blk_below HK2.out hba)
  clear hd hba hW4 hB14
  obtain ⟨fv, hfv⟩ : ∃ fv, fv = lkV w1.heap.size kd := ⟨_, rfl⟩
  obtain ⟨fb, hfb⟩ : ∃ fb, fb = lkB kd := ⟨_, rfl⟩
  have hlk := fun g W (hg : W.heap[g]? = some (.map (dent w1.heap.size 11) 11)) => look_any w1.heap.size g kd W hg
  rw [← hfv, ← hfb] at hlk
  have HLK := Lib.hid hlk
  have HFV := Lib.hid hfv
  have HFB := Lib.hid hfb
  clear hlk hfv hfb
  have KS : ∀ w', Below W4.heap.size W4 w' → (w'.cell? ⟨w.heap.size + 1, 0, none⟩ = some (.int .i64 kd) ∧ Below W4.heap.size W4 w') := fun w' hb => ⟨pw_cell_below hb q0, hb⟩
  have HKS := Lib.hid KS
  clear KS
  go_region_held3 (fun w' => (w'.cell? ⟨w.heap.size + 1, 0, none⟩ = some (.int .i64 kd) ∧ Below W4.heap.size W4 w'))
    (first
      | exact HKS.out _ (Below.refl _ _)
      | exact HKS.out _ (below_drew (Below.refl _ _))
      | (go_split_ands; exact HKS.out _ (below_then (by assumption) (Below.size (by assumption)) hbn))
      | (go_split_ands; exact HKS.out _ (below_drew (by assumption)))
      | (go_split_ands; exact HKS.out _ (by assumption)))
    (first
      | (go_at_call 17; refine (does_any2 _ _).mono ?_; rintro e wh ⟨rfl, hgm, hbn⟩; have hlk := HLK.out W4.heap.size _ hgm; clear hgm))
  go_split_ands
  have hbh : Below W4.heap.size W4 wh := by assumption
  have hB3h := below_then HB3.out HB3.out.size hbh
  obtain ⟨p0, p1, p2, p3, p4⟩ := five (V := ⟨A1, c1, A2, c2, A3, c3, A4, c4⟩) (s := ⟨rt, wd, ht, ce, me⟩) (blk_below HK1.out hB3h)
  obtain ⟨z0, z1, z2, z3, z4, f0, f1, f2, f3, f4⟩ := zero5 (blk_below HK3.out hB3h)
  have HBh := Lib.hid hB3h
  have HD1 := Lib.hid (below_then HB14.out HB14.out.size hbh)
  have hck := fun W (hb : Below W3.heap.size W3 W) => check_any (HR.out.below hb) HW.out
  obtain ⟨x1, hx1⟩ : ∃ x1, x1 = chk ⟨rt, wd, ht, ce, me⟩ := ⟨_, rfl⟩
  rw [← hx1] at hck
  simp only [shv] at hck
  have HCK := Lib.hid hck
  have HX1 := Lib.hid hx1
  rw [← hx1] at HDO
  clear hck hx1 hB3h
  have HBH := Lib.hid hbh
  clear hbh
  by_cases h1 : x1 = 0
  · subst h1
    cases fb with
    | false =>
      have hkd : ¬ (1 ≤ kd ∧ kd ≤ 11) := of_decide_eq_false HFB.out.symm
      have HR2 : Hid (dd = (zSh, 1)) := Lib.hid (by rw [HDO.out, if_pos (.inr hkd)])
      clear hkd
      go_wp2_with (go_at_call 11; refine (HCK.out _ HBh.out).mono ?_; rintro e wk ⟨rfl, hbk⟩; have hB3k := below_then HBh.out HBh.out.size hbk; obtain ⟨z0, z1, z2, z3, z4, f0, f1, f2, f3, f4⟩ := zero5 (blk_below HK3.out hB3k); obtain ⟨q0, q1, q2, q3, q4, q5, q6, q7, q8, q9, q10⟩ := eleven (x := ⟨kd, x2, x3, x4, x5, x6, x7, tx, y1, y2, y3⟩) (blk_below HK2.out hB3k); have HBk := Lib.hid hB3k; have HDk := Lib.hid (below_then HD1.out HD1.out.size hbk); have HDk4 := below_then HBH.out HBH.out.size hbk; clear hbk hB3k)
      refine bodyPost_ret (results_ct rfl _ _ (w.heap.size + 1 + 1) 26 #[.int .i64 0, .slice none 0 0, .slice none 0 0, .slice none 0 0, .slice none 0 0] (0, 0) _ rfl (put5 (blk_below HK3.out HBk.out)) Tryz.underlying26 rfl (by kernel_rfl)) rfl ?_; exact ⟨.slice none 0 0, .slice none 0 0, .slice none 0 0, .slice none 0 0, by rw [HR2.out]; rfl, by rw [HR2.out]; exact own_nil _ _ _ _, by rw [HR2.out]; exact own_nil _ _ _ _, by rw [HR2.out]; exact own_nil _ _ _ _, by rw [HR2.out]; exact own_nil _ _ _ _, ne_nil _, below_set (below_set (below_set (below_set (below_set (below_then HA.out HA.out.size HBk.out) (by omega)) (by omega)) (by omega)) (by omega)) (by omega)⟩
    | true =>
      have hkd : 1 ≤ kd ∧ kd ≤ 11 := of_decide_eq_true HFB.out.symm
      have hOK : OkS ⟨rt, wd, ht, ce, me⟩ := chk_iff.mp HX1.out.symm
      have hfv : fv = .func (.func (38 + kd.toNat)) #[.pointer (some ⟨w1.heap.size, 0, none⟩)] #[] := by rw [HFV.out, lkV, if_pos hkd]; rfl
      have hk1 : 1 ≤ kd.toNat := by omega
      have hk2 : kd.toNat ≤ 11 := by omega
      have hst := fun W hE => HS.out kd.toNat hk1 hk2 W W3.heap.size w1.heap.size ⟨rt, wd, ht, ce, me⟩ ⟨kd, x2, x3, x4, x5, x6, x7, tx, y1, y2, y3⟩ hE hOK HX.out
      have hdo : dd = if (stepF kd.toNat ⟨rt, wd, ht, ce, me⟩ ⟨kd, x2, x3, x4, x5, x6, x7, tx, y1, y2, y3⟩).2 ≠ 0 then (zSh, (stepF kd.toNat ⟨rt, wd, ht, ce, me⟩ ⟨kd, x2, x3, x4, x5, x6, x7, tx, y1, y2, y3⟩).2) else ((stepF kd.toNat ⟨rt, wd, ht, ce, me⟩ ⟨kd, x2, x3, x4, x5, x6, x7, tx, y1, y2, y3⟩).1, 0) := by
        rw [HDO.out]; exact if_neg (fun k => k.elim (fun k => k rfl) (fun k => k hkd))
      have eg : ∀ args W, (callFunc (38 + kd.toNat) args).run Tryz.prog W = .ok (.enter (38 + kd.toNat) args) W := by
        have hcs : kd.toNat = 1 ∨ kd.toNat = 2 ∨ kd.toNat = 3 ∨ kd.toNat = 4 ∨ kd.toNat = 5 ∨ kd.toNat = 6 ∨ kd.toNat = 7 ∨ kd.toNat = 8 ∨ kd.toNat = 9 ∨ kd.toNat = 10 ∨ kd.toNat = 11 := by omega
        rcases hcs with h | h | h | h | h | h | h | h | h | h | h <;> rw [h]
        · exact enters_of Tryz.func39 (by kernel_rfl) rfl
        · exact enters_of Tryz.func40 (by kernel_rfl) rfl
        · exact enters_of Tryz.func41 (by kernel_rfl) rfl
        · exact enters_of Tryz.func42 (by kernel_rfl) rfl
        · exact enters_of Tryz.func43 (by kernel_rfl) rfl
        · exact enters_of Tryz.func44 (by kernel_rfl) rfl
        · exact enters_of Tryz.func45 (by kernel_rfl) rfl
        · exact enters_of Tryz.func46 (by kernel_rfl) rfl
        · exact enters_of Tryz.func47 (by kernel_rfl) rfl
        · exact enters_of Tryz.func48 (by kernel_rfl) rfl
        · exact enters_of Tryz.func49 (by kernel_rfl) rfl
      obtain ⟨st, hste⟩ : ∃ st, st = stepF kd.toNat ⟨rt, wd, ht, ce, me⟩ ⟨kd, x2, x3, x4, x5, x6, x7, tx, y1, y2, y3⟩ := ⟨_, rfl⟩
      rw [← hste] at hst hdo
      obtain ⟨g, hg⟩ : ∃ g, g = 38 + kd.toNat := ⟨_, rfl⟩
      rw [← hg] at hst hfv eg
      obtain ⟨⟨rt', wd', ht', ce', me'⟩, r2⟩ := st
      simp only [stv] at hst hdo
      have HST := Lib.hid hst
      have HDD := Lib.hid hdo
      have HLT := Lib.hid (blk_lt HK3.out)
      subst hfv
      clear hkd hOK hk1 hk2 hst hdo hste hg HDO HX1 HFV HFB HS
      by_cases hr : r2 = 0
      · subst hr
        have HR2 : Hid (dd = (⟨rt', wd', ht', ce', me'⟩, 0)) := Lib.hid (by rw [HDD.out]; rfl)
        clear HDD
        go_wp2_with (first
          | (go_at_call 11; refine (HCK.out _ HBh.out).mono ?_; rintro e wk ⟨rfl, hbk⟩; have hB3k := below_then HBh.out HBh.out.size hbk; obtain ⟨z0, z1, z2, z3, z4, f0, f1, f2, f3, f4⟩ := zero5 (blk_below HK3.out hB3k); obtain ⟨q0, q1, q2, q3, q4, q5, q6, q7, q8, q9, q10⟩ := eleven (x := ⟨kd, x2, x3, x4, x5, x6, x7, tx, y1, y2, y3⟩) (blk_below HK2.out hB3k); have HBk := Lib.hid hB3k; have HDk := Lib.hid (below_then HD1.out HD1.out.size hbk); have HDk4 := below_then HBH.out HBH.out.size hbk; clear hbk hB3k)
          | (go_at_fn g; refine (HST.out _ ⟨_, _, _, _, blk_below HD.out HDk4, Ow.below HO1.out HDk.out, Ow.below HO2.out HDk.out, Ow.below HO3.out HDk.out, Ow.below HO4.out HDk.out, HNE.out, HB1.out.size⟩).mono ?_; rintro e w5 ⟨rfl, hE5, hb5⟩; obtain ⟨u1, u2, u3, u4, hh, o1, o2, o3, o4, hne, _⟩ := hE5 (by simp); obtain ⟨E1, e1, rfl, _, _⟩ := Ow.reads rfl lenI kI o1; obtain ⟨E2, e2, rfl, _, _⟩ := Ow.reads rfl lenI kI o2; obtain ⟨E3, e3, rfl, _, _⟩ := Ow.reads rfl lenC kC o3; obtain ⟨E4, e4, rfl, _, _⟩ := Ow.reads rfl lenR kR o4; obtain ⟨t0, t1, t2, t3, t4⟩ := five53 hh; have hz5 := (hb5.block _ HLT.out).trans (blk_below HK3.out HBk.out); obtain ⟨z0, z1, z2, z3, z4, f0, f1, f2, f3, f4⟩ := zero5 hz5; have HZ5 := Lib.hid hz5; have HB5 := Lib.hid hb5; have HO1 := Lib.hid o1; have HO2 := Lib.hid o2; have HO3 := Lib.hid o3; have HO4 := Lib.hid o4; have HNE := Lib.hid hne; clear hz5 hb5 o1 o2 o3 o4 hne hh hE5))
        refine bodyPost_ret (results_ct rfl _ _ (w.heap.size + 1 + 1) 26 #[.int .i64 rt', .slice E1 wd'.length e1, .slice E2 ht'.length e2, .slice E3 ce'.length e3, .slice E4 me'.length e4] (0, 0) _ rfl (put5 HZ5.out) Tryz.underlying26 rfl (by kernel_rfl)) rfl ?_
        exact ⟨.slice E1 wd'.length e1, .slice E2 ht'.length e2, .slice E3 ce'.length e3, .slice E4 me'.length e4, by rw [HR2.out]; rfl, by rw [HR2.out]; exact (HO1.out.weaken HA.out.size).set5 HZ5.out (by decide), by rw [HR2.out]; exact (HO2.out.weaken HA.out.size).set5 HZ5.out (by decide), by rw [HR2.out]; exact (HO3.out.weaken HA.out.size).set5 HZ5.out (by decide), by rw [HR2.out]; exact (HO4.out.weaken HA.out.size).set5 HZ5.out (by decide), HNE.out,
          below_set (below_set (below_set (below_set (below_set (below_trans (below_then HA.out HA.out.size HBk.out) (below_mono HB5.out HA.out.size)) (by omega)) (by omega)) (by omega)) (by omega)) (by omega)⟩
      · have hrb : (r2 == 0) = false := by simpa using hr
        have HR2 : Hid (dd = (zSh, r2)) := Lib.hid (by rw [HDD.out, if_pos hr])
        clear HDD
        go_wp2_with (first
          | (go_at_call 11; refine (HCK.out _ HBh.out).mono ?_; rintro e wk ⟨rfl, hbk⟩; have hB3k := below_then HBh.out HBh.out.size hbk; obtain ⟨z0, z1, z2, z3, z4, f0, f1, f2, f3, f4⟩ := zero5 (blk_below HK3.out hB3k); obtain ⟨q0, q1, q2, q3, q4, q5, q6, q7, q8, q9, q10⟩ := eleven (x := ⟨kd, x2, x3, x4, x5, x6, x7, tx, y1, y2, y3⟩) (blk_below HK2.out hB3k); have HBk := Lib.hid hB3k; have HDk := Lib.hid (below_then HD1.out HD1.out.size hbk); have HDk4 := below_then HBH.out HBH.out.size hbk; clear hbk hB3k)
          | (go_at_fn g; refine (HST.out _ ⟨_, _, _, _, blk_below HD.out HDk4, Ow.below HO1.out HDk.out, Ow.below HO2.out HDk.out, Ow.below HO3.out HDk.out, Ow.below HO4.out HDk.out, HNE.out, HB1.out.size⟩).mono ?_; rintro e w5 ⟨rfl, _, hb5⟩; have hz5 := (hb5.block _ HLT.out).trans (blk_below HK3.out HBk.out); obtain ⟨z0, z1, z2, z3, z4, f0, f1, f2, f3, f4⟩ := zero5 hz5; have HZ5 := Lib.hid hz5; have HB5 := Lib.hid hb5; clear hz5 hb5))
        refine bodyPost_ret (results_ct rfl _ _ (w.heap.size + 1 + 1) 26 #[.int .i64 0, .slice none 0 0, .slice none 0 0, .slice none 0 0, .slice none 0 0] (0, 0) _ rfl (put5 HZ5.out) Tryz.underlying26 rfl (by kernel_rfl)) rfl ?_
        exact ⟨.slice none 0 0, .slice none 0 0, .slice none 0 0, .slice none 0 0, by rw [HR2.out]; rfl, by rw [HR2.out]; exact own_nil _ _ _ _, by rw [HR2.out]; exact own_nil _ _ _ _, by rw [HR2.out]; exact own_nil _ _ _ _, by rw [HR2.out]; exact own_nil _ _ _ _, ne_nil _,
          below_set (below_set (below_set (below_set (below_set (below_trans (below_then HA.out HA.out.size HBk.out) (below_mono HB5.out HA.out.size)) (by omega)) (by omega)) (by omega)) (by omega)) (by omega)⟩
  · have h1b : (x1 == 0) = false := by simpa using h1
    have HR2 : Hid (dd = (zSh, 1)) := Lib.hid (by rw [HDO.out, if_pos (.inl h1)])
    go_wp2_with (go_at_call 11; refine (HCK.out _ HBh.out).mono ?_; rintro e wk ⟨rfl, hbk⟩; have hB3k := below_then HBh.out HBh.out.size hbk; obtain ⟨z0, z1, z2, z3, z4, f0, f1, f2, f3, f4⟩ := zero5 (blk_below HK3.out hB3k); obtain ⟨q0, q1, q2, q3, q4, q5, q6, q7, q8, q9, q10⟩ := eleven (x := ⟨kd, x2, x3, x4, x5, x6, x7, tx, y1, y2, y3⟩) (blk_below HK2.out hB3k); have HBk := Lib.hid hB3k; have HDk := Lib.hid (below_then HD1.out HD1.out.size hbk); have HDk4 := below_then HBH.out HBH.out.size hbk; clear hbk hB3k)
    refine bodyPost_ret (results_ct rfl _ _ (w.heap.size + 1 + 1) 26 #[.int .i64 0, .slice none 0 0, .slice none 0 0, .slice none 0 0, .slice none 0 0] (0, 0) _ rfl (put5 (blk_below HK3.out HBk.out)) Tryz.underlying26 rfl (by kernel_rfl)) rfl ?_; exact ⟨.slice none 0 0, .slice none 0 0, .slice none 0 0, .slice none 0 0, by rw [HR2.out]; rfl, by rw [HR2.out]; exact own_nil _ _ _ _, by rw [HR2.out]; exact own_nil _ _ _ _, by rw [HR2.out]; exact own_nil _ _ _ _, by rw [HR2.out]; exact own_nil _ _ _ _, ne_nil _, below_set (below_set (below_set (below_set (below_set (below_then HA.out HA.out.size HBk.out) (by omega)) (by omega)) (by omega)) (by omega)) (by omega)⟩
end Go.Proofs.YtcofacgdijjnoaaGreat
