/- edit.set: walked. sheet.Check as the print wants it; edit.styled. edit.style: walked. one cell of a row of one's own, written; edit.turn. -/
import Derived.Test.YtcofacgdijjnoaaGreatPas
section
namespace Go.Proofs.YtcofacgdijjnoaaGreat
open PE (S31 S44 S49 k44 k49 k31)
open Go.RowKit Go.Shelf Go.Lib Go.Proofs.YtcofacgdijjnoaaGreatW.PrintWords Go.Proofs.YtcofacgdijjnoaaGreatW.PrintLast Go.Proofs.YtcofacgdijjnoaaGreatW.PrintMore
set_option linter.unusedVariables false
set_option linter.unusedSimpArgs false
set_option maxRecDepth 100000
set_option maxHeartbeats 12000000
theorem got6 {w : World} {B : Nat} {v0 v1 v2 v3 v4 v5 : Value} (h : w.heap[B]? = some (.cells #[v0, v1, v2, v3, v4, v5] 44 (0, 0))) :
    w.cell? ⟨B, 0, none⟩ = some v0 ∧ w.cell? ⟨B, 1, none⟩ = some v1 ∧ w.cell? ⟨B, 2, none⟩ = some v2 ∧ w.cell? ⟨B, 3, none⟩ = some v3 ∧ w.cell? ⟨B, 4, none⟩ = some v4 ∧ w.cell? ⟨B, 5, none⟩ = some v5 ∧
    w.frozen? ⟨B, 0, none⟩ = false ∧ w.frozen? ⟨B, 1, none⟩ = false ∧ w.frozen? ⟨B, 2, none⟩ = false ∧ w.frozen? ⟨B, 3, none⟩ = false ∧ w.frozen? ⟨B, 4, none⟩ = false ∧ w.frozen? ⟨B, 5, none⟩ = false :=
  ⟨blk_cell h 0, blk_cell h 1, blk_cell h 2, blk_cell h 3, blk_cell h 4, blk_cell h 5, blk_frozen h 0, blk_frozen h 1, blk_frozen h 2, blk_frozen h 3, blk_frozen h 4, blk_frozen h 5⟩
theorem set_any : StepC 39 (stepF 1) := by
  intro w B D s x hE hO hx
  obtain ⟨rt, wd, ht, ce, me⟩ := s
  obtain ⟨kd, x2, x3, x4, x5, x6, x7, tx, ⟨y1, y2, y3⟩⟩ := x
  have hE1 := hE.below (below_alloc (Below.refl w.heap.size w) (Obj.cells #[.int .i64 kd, .int .i64 x2, .int .i64 x3, .int .i64 x4, .int .i64 x5, .int .i64 x6, .int .i64 x7, .string tx, .int .i64 y1, .int .i64 y2, .int .i64 y3] 33 (0, 0)))
  have hBw := hE.le
  obtain ⟨⟨A1, c1, A2, c2, A3, c3, A4, c4⟩, hh, o1, o2, o3, o4, hne, hB, hR⟩ := hE1.open
  obtain ⟨p0, p1, p2, p3, p4, f0, f1, f2, f3, f4⟩ := ed5 hh
  have hxb := blk_new w (Obj.cells #[.int .i64 kd, .int .i64 x2, .int .i64 x3, .int .i64 x4, .int .i64 x5, .int .i64 x6, .int .i64 x7, .string tx, .int .i64 y1, .int .i64 y2, .int .i64 y3] 33 (0, 0))
  obtain ⟨q0, q1, q2, q3, q4, q5, q6, q7, q8, q9, q10⟩ := eleven (x := ⟨kd, x2, x3, x4, x5, x6, x7, tx, ⟨y1, y2, y3⟩⟩) hxb
  have hA := below_mono (below_alloc (Below.refl w.heap.size w) (Obj.cells #[.int .i64 kd, .int .i64 x2, .int .i64 x3, .int .i64 x4, .int .i64 x5, .int .i64 x6, .int .i64 x7, .string tx, .int .i64 y1, .int .i64 y2, .int .i64 y3] 33 (0, 0))) hBw
  simp only [] at p0 p1 p2 p3 p4 q0 q1 q2 q3 q4 q5 q6 q7 q8 q9 q10
  have hst : stepF 1 ⟨rt, wd, ht, ce, me⟩ ⟨kd, x2, x3, x4, x5, x6, x7, tx, ⟨y1, y2, y3⟩⟩ = if hereF ⟨rt, wd, ht, ce, me⟩ x2 x3 ≠ 0 then (⟨rt, wd, ht, ce, me⟩, hereF ⟨rt, wd, ht, ce, me⟩ x2 x3) else if 1024 < tx.size then (⟨rt, wd, ht, ce, me⟩, 3) else ({ (⟨rt, wd, ht, ce, me⟩ : Sh) with ce := lay { (get ⟨rt, wd, ht, ce, me⟩ x2 x3).1 with f2 := tx } ce }, 0) := rfl
  have hhe := fun (W : World) (hb : Below (w.alloc (Obj.cells #[.int .i64 kd, .int .i64 x2, .int .i64 x3, .int .i64 x4, .int .i64 x5, .int .i64 x6, .int .i64 x7, .string tx, .int .i64 y1, .int .i64 y2, .int .i64 y3] 33 (0, 0))).heap.size (w.alloc (Obj.cells #[.int .i64 kd, .int .i64 x2, .int .i64 x3, .int .i64 x4, .int .i64 x5, .int .i64 x6, .int .i64 x7, .string tx, .int .i64 y1, .int .i64 y2, .int .i64 y3] 33 (0, 0))) W) => here_any (hE1.below hb) hO hx.1 hx.2.1
  have hge := fun (W : World) (hb : Below (w.alloc (Obj.cells #[.int .i64 kd, .int .i64 x2, .int .i64 x3, .int .i64 x4, .int .i64 x5, .int .i64 x6, .int .i64 x7, .string tx, .int .i64 y1, .int .i64 y2, .int .i64 y3] 33 (0, 0))).heap.size (w.alloc (Obj.cells #[.int .i64 kd, .int .i64 x2, .int .i64 x3, .int .i64 x4, .int .i64 x5, .int .i64 x6, .int .i64 x7, .string tx, .int .i64 y1, .int .i64 y2, .int .i64 y3] 33 (0, 0))) W) => get_any (hR.below hb) (ws_ok hO) hx.1 hx.2.1
  have hly := fun (W : World) (c : S44) (hE : Ed W B D ⟨rt, wd, ht, ce, me⟩) => lay_any (c := c) hE hO
  obtain ⟨st, hste⟩ : ∃ st, st = stepF 1 ⟨rt, wd, ht, ce, me⟩ ⟨kd, x2, x3, x4, x5, x6, x7, tx, ⟨y1, y2, y3⟩⟩ := ⟨_, rfl⟩
  rw [← hste] at hst ⊢
  clear hste
  simp only [] at hhe hge
  generalize hereF ⟨rt, wd, ht, ce, me⟩ x2 x3 = he at hhe hst
  generalize get ⟨rt, wd, ht, ce, me⟩ x2 x3 = gt at hge hst
  obtain ⟨⟨g0, g1, g2, ⟨g3, g4, g5⟩⟩, ge⟩ := gt
  simp only [shv, encC] at hge
  have HHE := Lib.hid hhe
  have HGE := Lib.hid hge
  have HLY := Lib.hid hly
  have HST := Lib.hid hst
  have HE1 := Lib.hid hE1
  have HA := Lib.hid hA
  have HX := Lib.hid hxb
  have HH := Lib.hid hh
  clear hst hhe hge hly hE hE1 hA hxb hh o1 o2 o3 o4 hne hR hO hx q0 q3 q4 q5 q6 q8 q9 q10
  show Calls Tryz.prog 39 #[.pointer (some ⟨D, 0, none⟩), .agg #[.int .i64 kd, .int .i64 x2, .int .i64 x3, .int .i64 x4, .int .i64 x5, .int .i64 x6, .int .i64 x7, .string tx, .int .i64 y1, .int .i64 y2, .int .i64 y3]] w fun e w' => e = .returned (.int .i64 st.2) ∧ (st.2 = 0 → Ed w' B D st.1) ∧ Below B w w'
  by_cases h0 : he = 0
  · have h0b : (he != 0) = false := by simpa using h0
    subst h0
    have hsz : ((w.alloc (Obj.cells #[.int .i64 kd, .int .i64 x2, .int .i64 x3, .int .i64 x4, .int .i64 x5, .int .i64 x6, .int .i64 x7, .string tx, .int .i64 y1, .int .i64 y2, .int .i64 y3] 33 (0, 0)))).heap.size = w.heap.size + 1 := Array.size_push ..
    have HSB : Hid (B ≤ ((w.alloc (Obj.cells #[.int .i64 kd, .int .i64 x2, .int .i64 x3, .int .i64 x4, .int .i64 x5, .int .i64 x6, .int .i64 x7, .string tx, .int .i64 y1, .int .i64 y2, .int .i64 y3] 33 (0, 0)))).heap.size) := Lib.hid (by rw [hsz]; omega)
    clear hsz
    by_cases hl : 1024 < tx.size
    · have hlz : (1024 : Int) < (tx.size : Int) := by omega
      have HQ : Hid (st = (⟨rt, wd, ht, ce, me⟩, 3)) := Lib.hid (by rw [HST.out, if_neg (by simp), if_pos hl])
      clear HST HGE HLY
      go_enter Tryz.func39, Tryz.ntmps39
      go_wp2_with (go_at_call 61; refine (HHE.out _ (Below.refl _ _)).mono ?_; rintro e w1 ⟨rfl, hb1⟩; have HB1 := Lib.hid hb1; obtain ⟨q0, q1, q2, q3, q4, q5, q6, q7, q8, q9, q10⟩ := eleven (x := ⟨kd, x2, x3, x4, x5, x6, x7, tx, ⟨y1, y2, y3⟩⟩) (blk_below HX.out hb1); clear hb1)
      go_ret
      exact ⟨by rw [HQ.out]; rfl, fun h => by rw [HQ.out] at h; exact absurd h (show ¬ ((3 : Int) = 0) by decide), below_trans HA.out (below_mono HB1.out HSB.out)⟩
    · have hlz : ¬ (1024 : Int) < (tx.size : Int) := by omega
      have HQ : Hid (st = (⟨rt, wd, ht, lay ⟨g0, g1, tx, ⟨g3, g4, g5⟩⟩ ce, me⟩, 0)) := Lib.hid (by rw [HST.out, if_neg (by simp), if_neg hl])
      clear HST
      go_enter Tryz.func39, Tryz.ntmps39
      go_wp2_with (go_at_call 61; refine (HHE.out _ (Below.refl _ _)).mono ?_; rintro e W0 ⟨rfl, hb1⟩; have HB1 := Lib.hid hb1; obtain ⟨q0, q1, q2, q3, q4, q5, q6, q7, q8, q9, q10⟩ := eleven (x := ⟨kd, x2, x3, x4, x5, x6, x7, tx, ⟨y1, y2, y3⟩⟩) (blk_below HX.out hb1); clear hb1)
      have HGE2 : Hid (∀ W : World, Below W0.heap.size W0 W → _) := Lib.hid (fun W hb => HGE.out W (below_trans HB1.out (below_mono hb HB1.out.size)))
      have HED : Hid (∀ W : World, Below W0.heap.size W0 W → Ed W B D ⟨rt, wd, ht, ce, me⟩) := Lib.hid (fun W hb => HE1.out.below (below_trans HB1.out (below_mono hb HB1.out.size)))
      have HXB : Hid (∀ W : World, Below W0.heap.size W0 W → W.cell? ⟨w.heap.size, 7, none⟩ = some (.string tx)) := Lib.hid (fun W hb => pw_cell_below hb q7)
      clear HGE p0 p1 p2 p3 p4 f0 f1 f2 f3 f4 q0 q3 q4 q5 q6 q7 q8 q9 q10
      obtain ⟨p0, p1, p2, p3, p4, f0, f1, f2, f3, f4⟩ := ed5 (blk_below HH.out HB1.out)
      (try simp only [] at p0 p1 p2 p3 p4 q1 q2)
      clear f0 f1 f2 f3 f4
      have HGE := HGE2
      clear HGE2
      go_cut [6, 7] from 6 (fun v6 v7 wx => ∃ b, v6 = .pointer (some ⟨b, 0, none⟩) ∧ v7 = .int .i64 ge ∧ W0.heap.size ≤ b ∧ Hid (Below W0.heap.size W0 wx) ∧ Hid (wx.heap[b]? = some (.cells #[.int .i64 g0, .int .i64 g1, .string g2, .int .i64 g3, .int .i64 g4, .int .i64 g5] 44 (0, 0))))
      case first =>
        have KS : ∀ w', Below W0.heap.size W0 w' → (w'.cell? ⟨D, 0, none⟩ = some (.int .i64 rt) ∧ w'.cell? ⟨D, 1, none⟩ = some (.slice A1 wd.length c1) ∧ w'.cell? ⟨D, 2, none⟩ = some (.slice A2 ht.length c2) ∧ w'.cell? ⟨D, 3, none⟩ = some (.slice A3 ce.length c3) ∧ w'.cell? ⟨D, 4, none⟩ = some (.slice A4 me.length c4) ∧ w'.cell? ⟨w.heap.size, 1, none⟩ = some (.int .i64 x2) ∧ w'.cell? ⟨w.heap.size, 2, none⟩ = some (.int .i64 x3) ∧ Below W0.heap.size W0 w') := fun w' hb => ⟨pw_cell_below hb p0, pw_cell_below hb p1, pw_cell_below hb p2, pw_cell_below hb p3, pw_cell_below hb p4, pw_cell_below hb q1, pw_cell_below hb q2, hb⟩
        have HKS := Lib.hid KS
        clear KS
        go_region_held3 (fun w' => (w'.cell? ⟨D, 0, none⟩ = some (.int .i64 rt) ∧ w'.cell? ⟨D, 1, none⟩ = some (.slice A1 wd.length c1) ∧ w'.cell? ⟨D, 2, none⟩ = some (.slice A2 ht.length c2) ∧ w'.cell? ⟨D, 3, none⟩ = some (.slice A3 ce.length c3) ∧ w'.cell? ⟨D, 4, none⟩ = some (.slice A4 me.length c4) ∧ w'.cell? ⟨w.heap.size, 1, none⟩ = some (.int .i64 x2) ∧ w'.cell? ⟨w.heap.size, 2, none⟩ = some (.int .i64 x3) ∧ Below W0.heap.size W0 w'))
          (first
            | exact HKS.out _ hfin
            | exact HKS.out _ (Below.refl _ _)
            | exact HKS.out _ (below_drew (Below.refl _ _))
            | (go_split_ands; exact HKS.out _ (below_then (by assumption) (Below.size (by assumption)) hbn))
            | (go_split_ands; exact HKS.out _ (below_drew (by assumption)))
            | (go_split_ands; exact HKS.out _ (by assumption))
            | exact HKS.out _ (below_alloc (Below.refl _ _) _)
            | exact HKS.out _ (below_drew (below_alloc (Below.refl _ _) _))
            | exact HKS.out _ (below_then (below_drew (Below.refl W0.heap.size W0)) (Nat.le_refl _) hbn)
            | exact HKS.out _ (below_then (below_drew (below_alloc (Below.refl W0.heap.size W0) _)) (by simp) hbn)
            | exact HKS.out _ hfin
            | exact HKS.out _ (below_alloc (below_then (below_drew (Below.refl W0.heap.size W0)) (Nat.le_refl _) hbn) _))
          (first
            | (go_at_call 13; first | (refine (HGE.out _ (below_drew (Below.refl _ _))).mono ?_; rintro e wh ⟨rfl, hbn⟩; obtain ⟨z0, z1, z2, z3, z4, z5, f0x, f1x, f2x, f3x, f4x, f5x⟩ := zero6 (blk_new wh (Obj.cells #[.int .i64 0, .int .i64 0, .string ⟨#[]⟩, .int .i64 0, .int .i64 0, .int .i64 0] 44 (0, 0))); have hfin := below_alloc (below_then (below_drew (Below.refl W0.heap.size W0)) (Nat.le_refl _) hbn) (Obj.cells #[.int .i64 g0, .int .i64 g1, .string g2, .int .i64 g3, .int .i64 g4, .int .i64 g5] 44 (0, 0)); have hblk := blk_new wh (Obj.cells #[.int .i64 g0, .int .i64 g1, .string g2, .int .i64 g3, .int .i64 g4, .int .i64 g5] 44 (0, 0)); have hge : W0.heap.size ≤ wh.heap.size := hbn.size) | (refine (HGE.out _ (below_drew (below_alloc (Below.refl _ _) _))).mono ?_; rintro e wh ⟨rfl, hbn⟩; have hzz := blk_below (blk_drew (blk_new W0 (Obj.cells #[.int .i64 0, .int .i64 0, .string ⟨#[]⟩, .int .i64 0, .int .i64 0, .int .i64 0] 44 (0, 0)))) hbn; obtain ⟨z0, z1, z2, z3, z4, z5, f0x, f1x, f2x, f3x, f4x, f5x⟩ := zero6 hzz; have hfin := below6 (v0 := .int .i64 g0) (v1 := .int .i64 g1) (v2 := .string g2) (v3 := .int .i64 g3) (v4 := .int .i64 g4) (v5 := .int .i64 g5) (below_then (below_drew (below_alloc (Below.refl W0.heap.size W0) (Obj.cells #[.int .i64 0, .int .i64 0, .string ⟨#[]⟩, .int .i64 0, .int .i64 0, .int .i64 0] 44 (0, 0)))) (by simp) hbn) (Nat.le_refl W0.heap.size); have hblk := put6 (x := ⟨g0, g1, g2, ⟨g3, g4, g5⟩⟩) hzz; have hge := Nat.le_refl W0.heap.size)))
        go_split_ands
        all_goals
          go_wp2_with fail
          go_meet
          exact ⟨_, rfl, rfl, hge, Lib.hid hfin, Lib.hid hblk⟩
      case rest =>
        obtain ⟨b, rfl, rfl, hge, HBc, HBb⟩ := hcut
        have q7 := HXB.out _ HBc.out
        obtain ⟨m0, m1, m2, m3, m4, m5, n0, n1, n2, n3, n4, n5⟩ := got6 HBb.out
        have hbs : Below W0.heap.size W0 (wc.setCell ⟨b, 2, none⟩ (.string tx)) := below_set HBc.out hge
        clear p0 p1 p2 p3 p4 q1 q2
        have HBS := Lib.hid hbs
        clear hbs
        go_wp2_with (go_at_call 62; refine (HLY.out _ ⟨g0, g1, tx, ⟨g3, g4, g5⟩⟩ (HED.out _ (by first | exact HBS.out | exact below_drew HBS.out))).mono ?_; rintro e w9 ⟨rfl, hE9, hb9⟩; have HE9 := Lib.hid hE9; have HB9 := Lib.hid hb9; clear hE9 hb9)
        go_ret
        exact ⟨by rw [HQ.out]; rfl, fun _ => by rw [HQ.out]; exact HE9.out, below_trans HA.out (below_trans (below_mono HB1.out HSB.out) (below_trans (below_mono HBS.out (Nat.le_trans HSB.out HB1.out.size)) HB9.out))⟩
  · have h0b : (he != 0) = true := by simpa using h0
    have HQ : Hid (st = (⟨rt, wd, ht, ce, me⟩, he)) := Lib.hid (by rw [HST.out, if_pos h0])
    clear HST HGE HLY
    go_enter Tryz.func39, Tryz.ntmps39
    go_wp2_with (go_at_call 61; refine (HHE.out _ (Below.refl _ _)).mono ?_; rintro e w1 ⟨rfl, hb1⟩; have HB1 := Lib.hid hb1; clear hb1)
    go_ret
    exact ⟨by rw [HQ.out]; rfl, fun h => by rw [HQ.out] at h; exact absurd h h0, below_trans HA.out (below_mono HB1.out (by rw [show ((w.alloc (Obj.cells #[.int .i64 kd, .int .i64 x2, .int .i64 x3, .int .i64 x4, .int .i64 x5, .int .i64 x6, .int .i64 x7, .string tx, .int .i64 y1, .int .i64 y2, .int .i64 y3] 33 (0, 0)))).heap.size = w.heap.size + 1 from Array.size_push ..]; omega))⟩
end Go.Proofs.YtcofacgdijjnoaaGreat
end
section
namespace Go.Proofs.YtcofacgdijjnoaaGreat
open PE (S31 S44 S49 k44 k49 k31)
open Go.RowKit Go.Shelf Go.Lib Go.Proofs.YtcofacgdijjnoaaGreatW.PrintWords Go.Proofs.YtcofacgdijjnoaaGreatW.PrintLast Go.Proofs.YtcofacgdijjnoaaGreatW.PrintMore
set_option linter.unusedVariables false
set_option linter.unusedSimpArgs false
set_option maxRecDepth 100000
set_option maxHeartbeats 2000000
instance (s : Sh) : Decidable (WS s) := by unfold WS; infer_instance
def sheet_Check.f (a0 : Int) (l1 l2 : List Int) (l3 : List S44) (l4 : List S49) : Option Int := if WS ⟨a0, l1, l2, l3, l4⟩ then some (chk ⟨a0, l1, l2, l3, l4⟩) else none
theorem sheet_Check.calls (a0_0 : Int) (A0_1 : Option Addr) (c0_1 : Nat) (l0_1 : List Int) (A0_2 : Option Addr) (c0_2 : Nat) (l0_2 : List Int) (A0_3 : Option Addr) (c0_3 : Nat) (l0_3 : List (S44)) (A0_4 : Option Addr) (c0_4 : Nat) (l0_4 : List (S49)) (r : Int) (w : World) (hr0_1 : Kd.C (Kd.int .i64) w A0_1 l0_1.length l0_1) (hc0_1 : l0_1.length ≤ c0_1) (hr0_2 : Kd.C (Kd.int .i64) w A0_2 l0_2.length l0_2) (hc0_2 : l0_2.length ≤ c0_2) (hr0_3 : Kd.C k44 w A0_3 l0_3.length l0_3) (hc0_3 : l0_3.length ≤ c0_3) (hr0_4 : Kd.C k49 w A0_4 l0_4.length l0_4) (hc0_4 : l0_4.length ≤ c0_4) (h : sheet_Check.f a0_0 l0_1 l0_2 l0_3 l0_4 = some r) :
    Calls Tryz.prog 11 #[.agg #[.int .i64 a0_0, .slice A0_1 l0_1.length c0_1, .slice A0_2 l0_2.length c0_2, .slice A0_3 l0_3.length c0_3, .slice A0_4 l0_4.length c0_4]] w fun e w' => e = .returned (.int .i64 r) ∧ Below w.heap.size w w' := by
  unfold sheet_Check.f at h
  split at h
  · rename_i hw
    cases h
    exact check_any (V := ⟨A0_1, c0_1, A0_2, c0_2, A0_3, c0_3, A0_4, c0_4⟩) ⟨hr0_1, hc0_1, hr0_2, hc0_2, hr0_3, hc0_3, hr0_4, hc0_4⟩ hw
  · cases h
end Go.Proofs.YtcofacgdijjnoaaGreat
namespace Go.Proofs.YtcofacgdijjnoaaGreat.PE
open Go.RowKit Go.Proofs.YtcofacgdijjnoaaGreatW.PrintWords Go.Proofs.YtcofacgdijjnoaaGreatW.PrintLast Go.Proofs.YtcofacgdijjnoaaGreatW.PrintMore
set_option linter.unusedVariables false
set_option linter.unusedSimpArgs false
/-! ### edit_styled: function 63 -/
def edit_styled.f (a0_0 : Int) (a0_1 : Int) (a0_2 : Int) : Option (Bool) := (sheet_Check.f 0 (([1] : List Int)) (([1] : List Int)) (([(⟨0, 0, (⟨#[97]⟩ : ByteArray), (⟨a0_0, a0_1, a0_2⟩ : S31)⟩ : S44)] : List (S44))) ([] : List (S49))).bind fun t152 => (some (t152 == 0))
set_option maxHeartbeats 8000000 in
set_option maxRecDepth 100000 in
theorem edit_styled.calls (a0_0 : Int) (a0_1 : Int) (a0_2 : Int) (r : Bool) (w : World) (h : edit_styled.f a0_0 a0_1 a0_2 = some r) :
    Calls Tryz.prog 63 #[.agg #[.int .i64 a0_0, .int .i64 a0_1, .int .i64 a0_2]] w fun e w' => e = .returned (.bool r) ∧ Below w.heap.size w w' := by
  have hu31 := Tryz.underlying31
  have hu44 := Tryz.underlying44
  have hu26 := Tryz.underlying26
  have HB := Aside0.mk (Below.refl w.heap.size w)
  have H : ((sheet_Check.f 0 (([1] : List Int)) (([1] : List Int)) (([(⟨0, 0, (⟨#[97]⟩ : ByteArray), (⟨a0_0, a0_1, a0_2⟩ : S31)⟩ : S44)] : List (S44))) ([] : List (S49))).bind fun t152 => (some (t152 == 0))) = some r := h
  clear h
  obtain ⟨y143, hy143⟩ : ∃ y_ : List Int, y_ = (([1] : List Int)) := ⟨_, rfl⟩
  replace H : ((sheet_Check.f 0 y143 (([1] : List Int)) (([(⟨0, 0, (⟨#[97]⟩ : ByteArray), (⟨a0_0, a0_1, a0_2⟩ : S31)⟩ : S44)] : List (S44))) ([] : List (S49))).bind fun t152 => (some (t152 == 0))) = some r := by first | (rw [hy143]; with_reducible exact H) | (have H2_ := (Option.bind_some _ _).symm.trans H; rw [hy143]; with_reducible exact H2_) | (have H2_ := (Option.bind_some _ _).symm.trans H; with_reducible exact H2_) | with_reducible exact H | (rw [hy143]; exact H) | exact H
  have Ny143 := Aside0.mk hy143
  clear hy143
  obtain ⟨y146, hy146⟩ : ∃ y_ : List Int, y_ = (([1] : List Int)) := ⟨_, rfl⟩
  replace H : ((sheet_Check.f 0 y143 y146 (([(⟨0, 0, (⟨#[97]⟩ : ByteArray), (⟨a0_0, a0_1, a0_2⟩ : S31)⟩ : S44)] : List (S44))) ([] : List (S49))).bind fun t152 => (some (t152 == 0))) = some r := by first | (rw [hy146]; with_reducible exact H) | (have H2_ := (Option.bind_some _ _).symm.trans H; rw [hy146]; with_reducible exact H2_) | (have H2_ := (Option.bind_some _ _).symm.trans H; with_reducible exact H2_) | with_reducible exact H | (rw [hy146]; exact H) | exact H
  have Ny146 := Aside0.mk hy146
  clear hy146
  obtain ⟨y149, hy149⟩ : ∃ y_ : List (S44), y_ = (([(⟨0, 0, (⟨#[97]⟩ : ByteArray), (⟨a0_0, a0_1, a0_2⟩ : S31)⟩ : S44)] : List (S44))) := ⟨_, rfl⟩
  replace H : ((sheet_Check.f 0 y143 y146 y149 ([] : List (S49))).bind fun t152 => (some (t152 == 0))) = some r := by first | (rw [hy149]; with_reducible exact H) | (have H2_ := (Option.bind_some _ _).symm.trans H; rw [hy149]; with_reducible exact H2_) | (have H2_ := (Option.bind_some _ _).symm.trans H; with_reducible exact H2_) | with_reducible exact H | (rw [hy149]; exact H) | exact H
  have Ny149 := Aside0.mk hy149
  clear hy149
  replace H := Option.bind_eq_some_iff.mp H
  obtain ⟨t152, A20, H⟩ := H
  replace H : (some (t152 == 0)) = some r := H
  have A2 := Aside0.mk A20
  clear A20
  obtain rfl := Option.some.inj H
  go_enter Tryz.func63, Tryz.ntmps63
  go_wp2_with (first | ((with_reducible refine gate_dst (N := 1) rfl ?_); refine box_event ?hg (N := 1) ?hd (cs := #[.int .i64 a0_0, .int .i64 a0_1, .int .i64 a0_2]) (t := 31) ?hr ?_; (case hd => rfl); (case hg => rfl); (case hr => first | (go_simp; done) | (go_simp; rfl)); intro gb142 hg w3 hbox hb; have n0_ := Aside0.mk (below_step (by repeat (first | (with_reducible first | exact HB.out | apply below_alloc | apply pw_below_drewN | apply below_drew1) | exact HB.out)) hb); have n1_ := Aside0.mk (hbox); have n2_ := Aside0.mk ((by rw [hg]; exact (below_size (by repeat (first | (with_reducible first | exact HB.out | apply below_alloc | apply pw_below_drewN | apply below_drew1) | exact HB.out))) : w.heap.size ≤ gb142)); have n3_ := Aside0.mk ((by rw [hg]; exact (below_size (by repeat (first | (with_reducible first | exact HB.out | apply below_alloc | apply pw_below_drewN | apply below_drew1) | exact HB.out))) : w.heap.size ≤ gb142)); clear HB; have HB := n0_; have BK142 := n1_; have GW142 := n2_; have GE142 := n3_; clear n0_ n1_ n2_ n3_; clear hb hbox hg) | ((with_reducible refine gate_dst (N := 3) rfl ?_); refine Kd.R_lit (Kd.int .i64) _ 3 ?hg (N := 3) ?hd (xs := ([1] : List Int)) (inner := [.int .i64 1]) (ok := fun _ => True) (okp := fun _ => True) ?hr ?hp (fun _ hk => hk) trivial (Below.refl _ _) (Nat.le_refl _) (by simp) ?_; (case hd => rfl); (case hg => rfl); (case hr => first | (go_simp; done) | (go_simp; rfl)); (case hp => exact (Reps.one (show Kd.M (Kd.int .i64) _ _ _ 1 [.int .i64 1] from rfl) (Reps.none _ _))); intro v144 w4 ho5 hb hg_ hnew_; clear hg_ hnew_; (first | rw [← Ny143.out] at ho5 | (simp only [Int.reduceToNat] at ho5; rw [← Ny143.out] at ho5)); have n0_ := Aside0.mk (Kd.R_lower ho5 (below_size (by repeat (first | (with_reducible first | exact HB.out | apply below_alloc | apply pw_below_drewN | apply below_drew1 | refine below_set ?_ GE142.out) | exact HB.out)))); have n1_ := Aside0.mk (blk_below (g := gb142) (o := .cells #[.int .i64 a0_0, .int .i64 a0_1, .int .i64 a0_2] 31 (0, 0)) (by (with_reducible repeat (first | refine blk_drewN ?_ _ | refine blk_drew ?_ | refine blk_alloc ?_ _)); exact BK142.out) hb); have n2_ := Aside0.mk (below_step (by repeat (first | (with_reducible first | exact HB.out | apply below_alloc | apply pw_below_drewN | apply below_drew1 | refine below_set ?_ GE142.out) | exact HB.out)) hb); clear BK142; clear HB; have HO145 := n0_; have BK142 := n1_; have HB := n2_; clear n0_ n1_ n2_; clear hb ho5) | ((with_reducible refine gate_dst (N := 4) rfl ?_); refine Kd.R_lit (Kd.int .i64) _ 3 ?hg (N := 4) ?hd (xs := ([1] : List Int)) (inner := [.int .i64 1]) (ok := fun _ => True) (okp := fun _ => True) ?hr ?hp (fun _ hk => hk) trivial (Below.refl _ _) (Nat.le_refl _) (by simp) ?_; (case hd => rfl); (case hg => rfl); (case hr => first | (go_simp; done) | (go_simp; rfl)); (case hp => exact (Reps.one (show Kd.M (Kd.int .i64) _ _ _ 1 [.int .i64 1] from rfl) (Reps.none _ _))); intro v147 w6 ho7 hb hg_ hnew_; clear hg_ hnew_; (first | rw [← Ny146.out] at ho7 | (simp only [Int.reduceToNat] at ho7; rw [← Ny146.out] at ho7)); have n0_ := Aside0.mk (Kd.R_elder' (by (with_reducible repeat (first | apply Kd.R_alloc | apply Kd.R_drewN | apply Kd.R_drew)); exact HO145.out) (Kd.R_base ho7) hb); have n1_ := Aside0.mk (Kd.R_lower (Kd.R_new' ho7 (Kd.R_lt (by (with_reducible repeat (first | apply Kd.R_alloc | apply Kd.R_drewN | apply Kd.R_drew)); exact HO145.out))) (below_size (by repeat (first | (with_reducible first | exact HB.out | apply below_alloc | apply pw_below_drewN | apply below_drew1 | refine below_set ?_ GE142.out) | exact HB.out)))); have n2_ := Aside0.mk (blk_below (g := gb142) (o := .cells #[.int .i64 a0_0, .int .i64 a0_1, .int .i64 a0_2] 31 (0, 0)) (by (with_reducible repeat (first | refine blk_drewN ?_ _ | refine blk_drew ?_ | refine blk_alloc ?_ _)); exact BK142.out) hb); have n3_ := Aside0.mk (below_step (by repeat (first | (with_reducible first | exact HB.out | apply below_alloc | apply pw_below_drewN | apply below_drew1 | refine below_set ?_ GE142.out) | exact HB.out)) hb); clear HO145; clear BK142; clear HB; have HO145 := n0_; have HO148 := n1_; have BK142 := n2_; have HB := n3_; clear n0_ n1_ n2_ n3_; clear hb ho7; have hcz8_0 : w6.cell? ⟨gb142, 0, none⟩ = some (.int .i64 a0_0) := (blk_cell BK142.out 0).trans rfl; have hcz8_1 : w6.cell? ⟨gb142, 1, none⟩ = some (.int .i64 a0_1) := (blk_cell BK142.out 1).trans rfl; have hcz8_2 : w6.cell? ⟨gb142, 2, none⟩ = some (.int .i64 a0_2) := (blk_cell BK142.out 2).trans rfl; have hfz8_0 := blk_frozen BK142.out 0; have hfz8_1 := blk_frozen BK142.out 1; have hfz8_2 := blk_frozen BK142.out 2) | ((with_reducible refine gate_dst (N := 7) rfl ?_); refine Kd.R_lit k44 _ 44 ?hg (N := 7) ?hd (xs := ([(⟨0, 0, (⟨#[97]⟩ : ByteArray), (⟨a0_0, a0_1, a0_2⟩ : S31)⟩ : S44)] : List (S44))) (inner := [.int .i64 0, .int .i64 0, .string (⟨#[97]⟩ : ByteArray), .int .i64 a0_0, .int .i64 a0_1, .int .i64 a0_2]) (ok := fun _ => True) (okp := fun _ => True) ?hr ?hp (fun _ hk => hk) trivial (Below.refl _ _) (Nat.le_refl _) (by simp) ?_; (case hd => rfl); (case hg => rfl); (case hr => first | (go_simp; done) | (go_simp; rfl)); (case hp => exact (Reps.c6 (show Kd.M k44 _ _ _ (⟨0, 0, (⟨#[97]⟩ : ByteArray), (⟨a0_0, a0_1, a0_2⟩ : S31)⟩ : S44) [.int .i64 0, .int .i64 0, .string (⟨#[97]⟩ : ByteArray), .int .i64 a0_0, .int .i64 a0_1, .int .i64 a0_2] from (k44_mkM _ _ _ (⟨0, 0, (⟨#[97]⟩ : ByteArray), (⟨a0_0, a0_1, a0_2⟩ : S31)⟩ : S44) )) (Reps.none _ _))); intro v150 w9 ho10 hb hg_ hnew_; clear hg_ hnew_; (first | rw [← Ny149.out] at ho10 | (simp only [Int.reduceToNat] at ho10; rw [← Ny149.out] at ho10)); have n0_ := Aside0.mk (Kd.R_below (by (with_reducible repeat (first | apply Kd.R_alloc | apply Kd.R_drewN | apply Kd.R_drew)); exact HO145.out) hb); have n1_ := Aside0.mk (Kd.R_below (by (with_reducible repeat (first | apply Kd.R_alloc | apply Kd.R_drewN | apply Kd.R_drew)); exact HO148.out) hb); have n2_ := Aside0.mk (Kd.R_lower ho10 (below_size (by repeat (first | (with_reducible first | exact HB.out | apply below_alloc | apply pw_below_drewN | apply below_drew1 | refine below_set ?_ GE142.out) | exact HB.out)))); have n3_ := Aside0.mk (blk_below (g := gb142) (o := .cells #[.int .i64 a0_0, .int .i64 a0_1, .int .i64 a0_2] 31 (0, 0)) (by (with_reducible repeat (first | refine blk_drewN ?_ _ | refine blk_drew ?_ | refine blk_alloc ?_ _)); exact BK142.out) hb); have n4_ := Aside0.mk (below_step (by repeat (first | (with_reducible first | exact HB.out | apply below_alloc | apply pw_below_drewN | apply below_drew1 | refine below_set ?_ GE142.out) | exact HB.out)) hb); clear HO145; clear HO148; clear BK142; clear HB; have HO145 := n0_; have HO148 := n1_; have HO151 := n2_; have BK142 := n3_; have HB := n4_; clear n0_ n1_ n2_ n3_ n4_; clear hb ho10; obtain ⟨Ao11, co11, eo11⟩ := Kd.R_slice HO151.out; subst eo11; obtain ⟨Ao12, co12, eo12⟩ := Kd.R_slice HO148.out; subst eo12; obtain ⟨Ao13, co13, eo13⟩ := Kd.R_slice HO145.out; subst eo13) | ((with_reducible refine gate_callee (f := 11) rfl ?_); refine goesL_ (some 9) rfl rfl Tryz.func11 (by kernel_rfl) rfl #[.agg #[.int .i64 0, .slice Ao13 y143.length co13, .slice Ao12 y146.length co12, .slice Ao11 y149.length co11, .slice none 0 0]] rfl (by (try simp only [List.map_toArray, List.map_cons, List.map_nil]); first | done | rfl | (simp only [List.length_drop, List.length_take]; rfl)) ?_; (refine (sheet_Check.calls 0 _ _ y143 _ _ y146 _ _ y149 _ _ ([] : List (S49)) t152 _ ?side1 ?side2 ?side3 ?side4 ?side5 ?side6 ?side7 ?side8 A2.out).mono ?_); (case side1 => repeat (first | exact (Kd.R_reads' HO145.out).2.2 | (with_reducible refine Kd.C_alloc ?_ _) | (with_reducible refine Kd.C_drewN ?_ _) | (with_reducible refine Kd.C_drew ?_))); (case side2 => exact (Kd.R_reads' HO145.out).2.1); (case side3 => repeat (first | exact (Kd.R_reads' HO148.out).2.2 | (with_reducible refine Kd.C_alloc ?_ _) | (with_reducible refine Kd.C_drewN ?_ _) | (with_reducible refine Kd.C_drew ?_))); (case side4 => exact (Kd.R_reads' HO148.out).2.1); (case side5 => repeat (first | exact (Kd.R_reads' HO151.out).2.2 | (with_reducible refine Kd.C_alloc ?_ _) | (with_reducible refine Kd.C_drewN ?_ _) | (with_reducible refine Kd.C_drew ?_))); (case side6 => exact (Kd.R_reads' HO151.out).2.1); (case side7 => exact Kd.C_nil _ _); (case side8 => exact Nat.le_refl _); rintro e w14 ⟨rfl, hb⟩; refine ⟨_, rfl, ?_⟩; have n0_ := Aside0.mk (Kd.R_below (by (with_reducible repeat (first | apply Kd.R_alloc | apply Kd.R_drewN | apply Kd.R_drew)); exact HO145.out) hb); have n1_ := Aside0.mk (Kd.R_below (by (with_reducible repeat (first | apply Kd.R_alloc | apply Kd.R_drewN | apply Kd.R_drew)); exact HO148.out) hb); have n2_ := Aside0.mk (Kd.R_below (by (with_reducible repeat (first | apply Kd.R_alloc | apply Kd.R_drewN | apply Kd.R_drew)); exact HO151.out) hb); have n3_ := Aside0.mk (blk_below (g := gb142) (o := .cells #[.int .i64 a0_0, .int .i64 a0_1, .int .i64 a0_2] 31 (0, 0)) (by (with_reducible repeat (first | refine blk_drewN ?_ _ | refine blk_drew ?_ | refine blk_alloc ?_ _)); exact BK142.out) hb); have n4_ := Aside0.mk (below_step (by repeat (first | (with_reducible first | exact HB.out | apply below_alloc | apply pw_below_drewN | apply below_drew1 | refine below_set ?_ GE142.out) | exact HB.out)) hb); clear HO145; clear HO148; clear HO151; clear BK142; clear HB; have HO145 := n0_; have HO148 := n1_; have HO151 := n2_; have BK142 := n3_; have HB := n4_; clear n0_ n1_ n2_ n3_ n4_; (try clear hb); (try clear hb2); (try clear hk); (try clear hi)))
  go_ret
  exact ⟨by first | rfl | (simp [errW_none, errW_some] <;> rfl) | (simp [*, errW_none, errW_some] <;> rfl), by repeat (first | (with_reducible first | exact HB.out | apply below_alloc | apply pw_below_drewN | apply below_drew1 | refine below_set ?_ GE142.out) | exact HB.out)⟩
end Go.Proofs.YtcofacgdijjnoaaGreat.PE
namespace Go.Proofs.YtcofacgdijjnoaaGreat
open PE (S31 S44 S49 k44 k49 k31)
open Go.RowKit Go.Shelf Go.Lib
theorem styled_st (a b c : Int) : PE.edit_styled.f a b c = some (decide (Stl ⟨a, b, c⟩)) := by
  have hw : WS ⟨0, [1], [1], [⟨0, 0, ⟨#[97]⟩, ⟨a, b, c⟩⟩], []⟩ := by
    refine ⟨fun x hx => ?_, fun x hx => by cases hx⟩
    rw [List.mem_singleton] at hx; subst hx
    exact ⟨by show W6 0; decide, by show W6 0; decide⟩
  have hq : chk ⟨0, [1], [1], [⟨0, 0, ⟨#[97]⟩, ⟨a, b, c⟩⟩], []⟩ = 0 ↔ Stl ⟨a, b, c⟩ := by
    rw [chk_iff]
    constructor
    · intro h; exact (h.ceE _ (List.mem_singleton.2 rfl)).st
    · intro h
      refine ⟨.inl rfl, by simp, by simp, by simp, by simp, by simp, by simp, by simp, ?_, by simp, by simp, by simp, by simp, by simp⟩
      intro x hx
      rw [List.mem_singleton] at hx; subst hx
      exact ⟨by show (1 : Nat) ≤ 1024; decide, h, fun hn => absurd hn.1 (by show ¬ (1 : Nat) = 0; decide), Int.le_refl 0, by simp, Int.le_refl 0, by simp⟩
  unfold PE.edit_styled.f sheet_Check.f
  rw [if_pos hw]
  show some (chk _ == 0) = _
  congr 1
  apply Bool.eq_iff_iff.mpr
  rw [decide_eq_true_eq, beq_iff_eq]
  exact hq
theorem styled_any (a b c : Int) (w : World) : Calls Tryz.prog 63 #[.agg #[.int .i64 a, .int .i64 b, .int .i64 c]] w fun e w' => e = .returned (.bool (decide (Stl ⟨a, b, c⟩))) ∧ Below w.heap.size w w' :=
  PE.edit_styled.calls a b c _ w (styled_st a b c)
end Go.Proofs.YtcofacgdijjnoaaGreat
end
section
namespace Go.Proofs.YtcofacgdijjnoaaGreat
open PE (S31 S44 S49 k44 k49 k31)
open Go.RowKit Go.Shelf Go.Lib Go.Proofs.YtcofacgdijjnoaaGreatW.PrintWords Go.Proofs.YtcofacgdijjnoaaGreatW.PrintLast Go.Proofs.YtcofacgdijjnoaaGreatW.PrintMore
set_option linter.unusedVariables false
set_option linter.unusedSimpArgs false
set_option maxRecDepth 100000
set_option maxHeartbeats 12000000
theorem style_any : StepC 40 (stepF 2) := by
  intro w B D s x hE hO hx
  obtain ⟨rt, wd, ht, ce, me⟩ := s
  obtain ⟨kd, x2, x3, x4, x5, x6, x7, tx, ⟨y1, y2, y3⟩⟩ := x
  have hE1 := hE.below (below_alloc (Below.refl w.heap.size w) (Obj.cells #[.int .i64 kd, .int .i64 x2, .int .i64 x3, .int .i64 x4, .int .i64 x5, .int .i64 x6, .int .i64 x7, .string tx, .int .i64 y1, .int .i64 y2, .int .i64 y3] 33 (0, 0)))
  have hBw := hE.le
  obtain ⟨⟨A1, c1, A2, c2, A3, c3, A4, c4⟩, hh, o1, o2, o3, o4, hne, hB, hR⟩ := hE1.open
  obtain ⟨p0, p1, p2, p3, p4, f0, f1, f2, f3, f4⟩ := ed5 hh
  have hxb := blk_new w (Obj.cells #[.int .i64 kd, .int .i64 x2, .int .i64 x3, .int .i64 x4, .int .i64 x5, .int .i64 x6, .int .i64 x7, .string tx, .int .i64 y1, .int .i64 y2, .int .i64 y3] 33 (0, 0))
  obtain ⟨q0, q1, q2, q3, q4, q5, q6, q7, q8, q9, q10⟩ := eleven (x := ⟨kd, x2, x3, x4, x5, x6, x7, tx, ⟨y1, y2, y3⟩⟩) hxb
  have hA := below_mono (below_alloc (Below.refl w.heap.size w) (Obj.cells #[.int .i64 kd, .int .i64 x2, .int .i64 x3, .int .i64 x4, .int .i64 x5, .int .i64 x6, .int .i64 x7, .string tx, .int .i64 y1, .int .i64 y2, .int .i64 y3] 33 (0, 0))) hBw
  simp only [] at p0 p1 p2 p3 p4 q0 q1 q2 q3 q4 q5 q6 q7 q8 q9 q10
  have hst : stepF 2 ⟨rt, wd, ht, ce, me⟩ ⟨kd, x2, x3, x4, x5, x6, x7, tx, ⟨y1, y2, y3⟩⟩ = if ¬ Stl ⟨y1, y2, y3⟩ then (⟨rt, wd, ht, ce, me⟩, 1) else if hereF ⟨rt, wd, ht, ce, me⟩ x2 x3 ≠ 0 then (⟨rt, wd, ht, ce, me⟩, hereF ⟨rt, wd, ht, ce, me⟩ x2 x3) else ({ (⟨rt, wd, ht, ce, me⟩ : Sh) with ce := lay { (get ⟨rt, wd, ht, ce, me⟩ x2 x3).1 with f3 := ⟨y1, y2, y3⟩ } ce }, 0) := rfl
  have hsy := fun (W : World) => styled_any y1 y2 y3 W
  have hhe := fun (W : World) (hb : Below (w.alloc (Obj.cells #[.int .i64 kd, .int .i64 x2, .int .i64 x3, .int .i64 x4, .int .i64 x5, .int .i64 x6, .int .i64 x7, .string tx, .int .i64 y1, .int .i64 y2, .int .i64 y3] 33 (0, 0))).heap.size (w.alloc (Obj.cells #[.int .i64 kd, .int .i64 x2, .int .i64 x3, .int .i64 x4, .int .i64 x5, .int .i64 x6, .int .i64 x7, .string tx, .int .i64 y1, .int .i64 y2, .int .i64 y3] 33 (0, 0))) W) => here_any (hE1.below hb) hO hx.1 hx.2.1
  have hge := fun (W : World) (hb : Below (w.alloc (Obj.cells #[.int .i64 kd, .int .i64 x2, .int .i64 x3, .int .i64 x4, .int .i64 x5, .int .i64 x6, .int .i64 x7, .string tx, .int .i64 y1, .int .i64 y2, .int .i64 y3] 33 (0, 0))).heap.size (w.alloc (Obj.cells #[.int .i64 kd, .int .i64 x2, .int .i64 x3, .int .i64 x4, .int .i64 x5, .int .i64 x6, .int .i64 x7, .string tx, .int .i64 y1, .int .i64 y2, .int .i64 y3] 33 (0, 0))) W) => get_any (hR.below hb) (ws_ok hO) hx.1 hx.2.1
  have hly := fun (W : World) (c : S44) (hE : Ed W B D ⟨rt, wd, ht, ce, me⟩) => lay_any (c := c) hE hO
  obtain ⟨st, hste⟩ : ∃ st, st = stepF 2 ⟨rt, wd, ht, ce, me⟩ ⟨kd, x2, x3, x4, x5, x6, x7, tx, ⟨y1, y2, y3⟩⟩ := ⟨_, rfl⟩
  rw [← hste] at hst ⊢
  clear hste
  simp only [] at hhe hge
  generalize hereF ⟨rt, wd, ht, ce, me⟩ x2 x3 = he at hhe hst
  generalize get ⟨rt, wd, ht, ce, me⟩ x2 x3 = gt at hge hst
  obtain ⟨⟨g0, g1, g2, ⟨g3, g4, g5⟩⟩, ge⟩ := gt
  simp only [shv, encC] at hge
  have HHE := Lib.hid hhe
  have HGE := Lib.hid hge
  have HLY := Lib.hid hly
  have HST := Lib.hid hst
  have HE1 := Lib.hid hE1
  have HA := Lib.hid hA
  have HX := Lib.hid hxb
  have HH := Lib.hid hh
  clear hst hhe hge hly hE hE1 hA hxb hh o1 o2 o3 o4 hne hR hO hx q0 q3 q4 q5 q6 q7
  show Calls Tryz.prog 40 #[.pointer (some ⟨D, 0, none⟩), .agg #[.int .i64 kd, .int .i64 x2, .int .i64 x3, .int .i64 x4, .int .i64 x5, .int .i64 x6, .int .i64 x7, .string tx, .int .i64 y1, .int .i64 y2, .int .i64 y3]] w fun e w' => e = .returned (.int .i64 st.2) ∧ (st.2 = 0 → Ed w' B D st.1) ∧ Below B w w'
  have HSY := Lib.hid hsy
  clear hsy
  have hsz : ((w.alloc (Obj.cells #[.int .i64 kd, .int .i64 x2, .int .i64 x3, .int .i64 x4, .int .i64 x5, .int .i64 x6, .int .i64 x7, .string tx, .int .i64 y1, .int .i64 y2, .int .i64 y3] 33 (0, 0)))).heap.size = w.heap.size + 1 := Array.size_push ..
  have HSB : Hid (B ≤ ((w.alloc (Obj.cells #[.int .i64 kd, .int .i64 x2, .int .i64 x3, .int .i64 x4, .int .i64 x5, .int .i64 x6, .int .i64 x7, .string tx, .int .i64 y1, .int .i64 y2, .int .i64 y3] 33 (0, 0)))).heap.size) := Lib.hid (by rw [hsz]; omega)
  clear hsz
  by_cases hs : Stl ⟨y1, y2, y3⟩
  · rw [decide_eq_true hs] at HSY
    have HS := Lib.hid hs
    clear hs
    by_cases h0 : he = 0
    · subst h0
      have HQ : Hid (st = (⟨rt, wd, ht, lay ⟨g0, g1, g2, ⟨y1, y2, y3⟩⟩ ce, me⟩, 0)) := Lib.hid (by rw [HST.out, if_neg (fun h => h HS.out), if_neg (by simp)])
      clear HST
      go_enter Tryz.func40, Tryz.ntmps40
      go_wp2_with (first | (go_at_call 63; refine (HSY.out _).mono ?_; rintro e W5 ⟨rfl, hb1⟩; have HB5 := Lib.hid hb1; obtain ⟨q0, q1, q2, q3, q4, q5, q6, q7, q8, q9, q10⟩ := eleven (x := ⟨kd, x2, x3, x4, x5, x6, x7, tx, ⟨y1, y2, y3⟩⟩) (blk_below HX.out HB5.out); clear hb1) | (go_at_call 61; refine (HHE.out _ HB5.out).mono ?_; rintro e W0 ⟨rfl, hb1⟩; have HB1 := Lib.hid (below_trans HB5.out (below_mono hb1 HB5.out.size)); obtain ⟨q0, q1, q2, q3, q4, q5, q6, q7, q8, q9, q10⟩ := eleven (x := ⟨kd, x2, x3, x4, x5, x6, x7, tx, ⟨y1, y2, y3⟩⟩) (blk_below HX.out HB1.out); clear hb1))
      have HGE2 : Hid (∀ W : World, Below W0.heap.size W0 W → _) := Lib.hid (fun W hb => HGE.out W (below_trans HB1.out (below_mono hb HB1.out.size)))
      have HED : Hid (∀ W : World, Below W0.heap.size W0 W → Ed W B D ⟨rt, wd, ht, ce, me⟩) := Lib.hid (fun W hb => HE1.out.below (below_trans HB1.out (below_mono hb HB1.out.size)))
      have HXB : Hid (∀ W : World, Below W0.heap.size W0 W → W.cell? ⟨w.heap.size, 8, none⟩ = some (.int .i64 y1) ∧ W.cell? ⟨w.heap.size, 9, none⟩ = some (.int .i64 y2) ∧ W.cell? ⟨w.heap.size, 10, none⟩ = some (.int .i64 y3)) := Lib.hid (fun W hb => ⟨pw_cell_below hb q8, pw_cell_below hb q9, pw_cell_below hb q10⟩)
      clear HGE p0 p1 p2 p3 p4 f0 f1 f2 f3 f4 q0 q3 q4 q5 q6 q7 q8 q9 q10
      obtain ⟨p0, p1, p2, p3, p4, f0, f1, f2, f3, f4⟩ := ed5 (blk_below HH.out HB1.out)
      (try simp only [] at p0 p1 p2 p3 p4 q1 q2)
      clear f0 f1 f2 f3 f4
      have HGE := HGE2
      clear HGE2
      go_cut [6, 7] from 6 (fun v6 v7 wx => ∃ b, v6 = .pointer (some ⟨b, 0, none⟩) ∧ v7 = .int .i64 ge ∧ W0.heap.size ≤ b ∧ Hid (Below W0.heap.size W0 wx) ∧ Hid (wx.heap[b]? = some (.cells #[.int .i64 g0, .int .i64 g1, .string g2, .int .i64 g3, .int .i64 g4, .int .i64 g5] 44 (0, 0))))
      case first =>
        have KS : ∀ w', Below W0.heap.size W0 w' → (w'.cell? ⟨D, 0, none⟩ = some (.int .i64 rt) ∧ w'.cell? ⟨D, 1, none⟩ = some (.slice A1 wd.length c1) ∧ w'.cell? ⟨D, 2, none⟩ = some (.slice A2 ht.length c2) ∧ w'.cell? ⟨D, 3, none⟩ = some (.slice A3 ce.length c3) ∧ w'.cell? ⟨D, 4, none⟩ = some (.slice A4 me.length c4) ∧ w'.cell? ⟨w.heap.size, 1, none⟩ = some (.int .i64 x2) ∧ w'.cell? ⟨w.heap.size, 2, none⟩ = some (.int .i64 x3) ∧ Below W0.heap.size W0 w') := fun w' hb => ⟨pw_cell_below hb p0, pw_cell_below hb p1, pw_cell_below hb p2, pw_cell_below hb p3, pw_cell_below hb p4, pw_cell_below hb q1, pw_cell_below hb q2, hb⟩
        have HKS := Lib.hid KS
        clear KS
        go_region_held3 (fun w' => (w'.cell? ⟨D, 0, none⟩ = some (.int .i64 rt) ∧ w'.cell? ⟨D, 1, none⟩ = some (.slice A1 wd.length c1) ∧ w'.cell? ⟨D, 2, none⟩ = some (.slice A2 ht.length c2) ∧ w'.cell? ⟨D, 3, none⟩ = some (.slice A3 ce.length c3) ∧ w'.cell? ⟨D, 4, none⟩ = some (.slice A4 me.length c4) ∧ w'.cell? ⟨w.heap.size, 1, none⟩ = some (.int .i64 x2) ∧ w'.cell? ⟨w.heap.size, 2, none⟩ = some (.int .i64 x3) ∧ Below W0.heap.size W0 w'))
          (first
            | exact HKS.out _ hfin
            | exact HKS.out _ (Below.refl _ _)
            | exact HKS.out _ (below_drew (Below.refl _ _))
            | (go_split_ands; exact HKS.out _ (below_then (by assumption) (Below.size (by assumption)) hbn))
            | (go_split_ands; exact HKS.out _ (below_drew (by assumption)))
            | (go_split_ands; exact HKS.out _ (by assumption))
            | exact HKS.out _ (below_alloc (Below.refl _ _) _)
            | exact HKS.out _ (below_drew (below_alloc (Below.refl _ _) _))
            | exact HKS.out _ (below_then (below_drew (Below.refl W0.heap.size W0)) (Nat.le_refl _) hbn)
            | exact HKS.out _ (below_then (below_drew (below_alloc (Below.refl W0.heap.size W0) _)) (by simp) hbn)
            | exact HKS.out _ hfin
            | exact HKS.out _ (below_alloc (below_then (below_drew (Below.refl W0.heap.size W0)) (Nat.le_refl _) hbn) _))
          (first
            | (go_at_call 13; first | (refine (HGE.out _ (below_drew (Below.refl _ _))).mono ?_; rintro e wh ⟨rfl, hbn⟩; obtain ⟨z0, z1, z2, z3, z4, z5, f0x, f1x, f2x, f3x, f4x, f5x⟩ := zero6 (blk_new wh (Obj.cells #[.int .i64 0, .int .i64 0, .string ⟨#[]⟩, .int .i64 0, .int .i64 0, .int .i64 0] 44 (0, 0))); have hfin := below_alloc (below_then (below_drew (Below.refl W0.heap.size W0)) (Nat.le_refl _) hbn) (Obj.cells #[.int .i64 g0, .int .i64 g1, .string g2, .int .i64 g3, .int .i64 g4, .int .i64 g5] 44 (0, 0)); have hblk := blk_new wh (Obj.cells #[.int .i64 g0, .int .i64 g1, .string g2, .int .i64 g3, .int .i64 g4, .int .i64 g5] 44 (0, 0)); have hge : W0.heap.size ≤ wh.heap.size := hbn.size) | (refine (HGE.out _ (below_drew (below_alloc (Below.refl _ _) _))).mono ?_; rintro e wh ⟨rfl, hbn⟩; have hzz := blk_below (blk_drew (blk_new W0 (Obj.cells #[.int .i64 0, .int .i64 0, .string ⟨#[]⟩, .int .i64 0, .int .i64 0, .int .i64 0] 44 (0, 0)))) hbn; obtain ⟨z0, z1, z2, z3, z4, z5, f0x, f1x, f2x, f3x, f4x, f5x⟩ := zero6 hzz; have hfin := below6 (v0 := .int .i64 g0) (v1 := .int .i64 g1) (v2 := .string g2) (v3 := .int .i64 g3) (v4 := .int .i64 g4) (v5 := .int .i64 g5) (below_then (below_drew (below_alloc (Below.refl W0.heap.size W0) (Obj.cells #[.int .i64 0, .int .i64 0, .string ⟨#[]⟩, .int .i64 0, .int .i64 0, .int .i64 0] 44 (0, 0)))) (by simp) hbn) (Nat.le_refl W0.heap.size); have hblk := put6 (x := ⟨g0, g1, g2, ⟨g3, g4, g5⟩⟩) hzz; have hge := Nat.le_refl W0.heap.size)))
        go_split_ands
        all_goals
          go_wp2_with fail
          go_meet
          exact ⟨_, rfl, rfl, hge, Lib.hid hfin, Lib.hid hblk⟩
      case rest =>
        obtain ⟨b, rfl, rfl, hge, HBc, HBb⟩ := hcut
        obtain ⟨q8, q9, q10⟩ := HXB.out _ HBc.out
        obtain ⟨m0, m1, m2, m3, m4, m5, n0, n1, n2, n3, n4, n5⟩ := got6 HBb.out
        have hbs : Below W0.heap.size W0 (((wc.setCell ⟨b, 3, none⟩ (.int .i64 y1)).setCell ⟨b, 4, none⟩ (.int .i64 y2)).setCell ⟨b, 5, none⟩ (.int .i64 y3)) := below_set (below_set (below_set HBc.out hge) hge) hge
        clear p0 p1 p2 p3 p4 q1 q2
        have HBS := Lib.hid hbs
        clear hbs
        go_wp2_with (go_at_call 62; refine (HLY.out _ ⟨g0, g1, g2, ⟨y1, y2, y3⟩⟩ (HED.out _ (by first | exact HBS.out | exact below_drew HBS.out))).mono ?_; rintro e w9 ⟨rfl, hE9, hb9⟩; have HE9 := Lib.hid hE9; have HB9 := Lib.hid hb9; clear hE9 hb9)
        go_ret
        exact ⟨by rw [HQ.out]; rfl, fun _ => by rw [HQ.out]; exact HE9.out, below_trans HA.out (below_trans (below_mono HB1.out HSB.out) (below_trans (below_mono HBS.out (Nat.le_trans HSB.out HB1.out.size)) HB9.out))⟩
    · have h0b : (he != 0) = true := by simpa using h0
      have HQ : Hid (st = (⟨rt, wd, ht, ce, me⟩, he)) := Lib.hid (by rw [HST.out, if_neg (fun h => h HS.out), if_pos h0])
      clear HST HGE HLY
      go_enter Tryz.func40, Tryz.ntmps40
      go_wp2_with (first | (go_at_call 63; refine (HSY.out _).mono ?_; rintro e W5 ⟨rfl, hb1⟩; have HB5 := Lib.hid hb1; obtain ⟨q0, q1, q2, q3, q4, q5, q6, q7, q8, q9, q10⟩ := eleven (x := ⟨kd, x2, x3, x4, x5, x6, x7, tx, ⟨y1, y2, y3⟩⟩) (blk_below HX.out HB5.out); clear hb1) | (go_at_call 61; refine (HHE.out _ HB5.out).mono ?_; rintro e W0 ⟨rfl, hb1⟩; have HB1 := Lib.hid (below_trans HB5.out (below_mono hb1 HB5.out.size)); obtain ⟨q0, q1, q2, q3, q4, q5, q6, q7, q8, q9, q10⟩ := eleven (x := ⟨kd, x2, x3, x4, x5, x6, x7, tx, ⟨y1, y2, y3⟩⟩) (blk_below HX.out HB1.out); clear hb1))
      go_ret
      exact ⟨by rw [HQ.out]; rfl, fun h => by rw [HQ.out] at h; exact absurd h h0, below_trans HA.out (below_mono HB1.out HSB.out)⟩
  · rw [decide_eq_false hs] at HSY
    have HQ : Hid (st = (⟨rt, wd, ht, ce, me⟩, 1)) := Lib.hid (by rw [HST.out, if_pos hs])
    clear HST HGE HLY hs
    go_enter Tryz.func40, Tryz.ntmps40
    go_wp2_with (first | (go_at_call 63; refine (HSY.out _).mono ?_; rintro e W5 ⟨rfl, hb1⟩; have HB5 := Lib.hid hb1; obtain ⟨q0, q1, q2, q3, q4, q5, q6, q7, q8, q9, q10⟩ := eleven (x := ⟨kd, x2, x3, x4, x5, x6, x7, tx, ⟨y1, y2, y3⟩⟩) (blk_below HX.out HB5.out); clear hb1))
    go_ret
    exact ⟨by rw [HQ.out]; rfl, fun h => by rw [HQ.out] at h; exact absurd h (show ¬ ((1 : Int) = 0) by decide), below_trans HA.out (below_mono HB5.out HSB.out)⟩
end Go.Proofs.YtcofacgdijjnoaaGreat
end
section
namespace Go.Proofs.YtcofacgdijjnoaaGreat
open PE (S31 S44 S49 k44 k49 k31)
open Go.RowKit Go.Shelf Go.Lib Go.Proofs.YtcofacgdijjnoaaGreatW.PrintWords Go.Proofs.YtcofacgdijjnoaaGreatW.PrintLast Go.Proofs.YtcofacgdijjnoaaGreatW.PrintMore
set_option linter.unusedVariables false
set_option linter.unusedSimpArgs false
set_option maxRecDepth 100000
set_option maxHeartbeats 2000000
theorem flt_one1 {α : Type} {enc : α → List Value} {k : Nat} (hk : ∀ x, (enc x).length = k) (l : List α) (j : Nat) (hj : j < l.length) (r : Nat) (hr : r < k) (u : Value) (x' : α) (hx : enc x' = (enc l[j]).set r u) :
    (flt enc l).set (j * k + r) u = flt enc (l.set j x') := by
  rw [flt_set hk l j x' hj, hx]
  have h0 : flt enc l = (flt enc l).take (j * k) ++ enc l[j] ++ (flt enc l).drop ((j + 1) * k) := by
    have := flt_set hk l j l[j] hj
    rwa [List.set_getElem_self] at this
  have hlen := flt_len hk l
  have e1 : (j + 1) * k ≤ l.length * k := Nat.mul_le_mul_right _ hj
  have e2 : (j + 1) * k = j * k + k := Nat.succ_mul ..
  have hl1 : ((flt enc l).take (j * k)).length = j * k := by rw [List.length_take]; omega
  conv => lhs; rw [h0]
  rw [List.append_assoc, List.set_append, if_neg (by omega), List.set_append, hl1, Nat.add_sub_cancel_left, if_pos (by rw [hk]; exact hr), List.append_assoc]
theorem Ow.put1 {α : Type} {enc : α → List Value} {e k : Nat} (hk : ∀ x, (enc x).length = k) {w : World} {B c g n : Nat} {l : List α} (hn : n = l.length) (h : Ow enc e k w B (.slice (some ⟨g, 0, none⟩) n c) l) (j : Nat) (hj : j < l.length) (r : Nat) (hr : r < k) (u : Value) (x' : α) (hx : enc x' = (enc l[j]).set r u) :
    Ow enc e k (w.setCell ⟨g, j * k + r, none⟩ u) B (.slice (some ⟨g, 0, none⟩) n c) (l.set j x') := by
  subst hn
  unfold Ow
  rw [List.length_set, ← flt_one1 hk l j hj r hr u x' hx]
  exact own_setW h (j * k + r) u
theorem grown_set1 {g : Nat} (w : World) (o : Nat) (v : Value) : w.grownBy (w.setCell ⟨g, o, none⟩ v) (some g) := grown_setCells [v] o w
end Go.Proofs.YtcofacgdijjnoaaGreat
end
