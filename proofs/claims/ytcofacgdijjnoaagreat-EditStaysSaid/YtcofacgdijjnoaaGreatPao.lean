/- sheet: more of the tests that are handed to the library: walked. sheet: more of the tests that are handed to the library: walked. rows of a call of one's own: made longer, copied into: plain laws of no program. -/
import Derived.Test.YtcofacgdijjnoaaGreatPan
import Derived.Lib.AppendZerosOnto
import Derived.Lib.Overlaps
section
namespace Go.Proofs.YtcofacgdijjnoaaGreat
open PE (S31 S44 S49 k44 k49 k31)
open Go.RowKit Go.Shelf Go.Lib Go.Proofs.YtcofacgdijjnoaaGreatW.PrintWords Go.Proofs.YtcofacgdijjnoaaGreatW.PrintLast Go.Proofs.YtcofacgdijjnoaaGreatW.PrintMore
set_option linter.unusedVariables false
set_option linter.unusedSimpArgs false
set_option maxRecDepth 100000
set_option maxHeartbeats 2000000
theorem below_set4 {w W : World} {B : Nat} {v0 v1 v2 v3 : Value} (h : Below w.heap.size w W) (hB : w.heap.size ≤ B) :
    Below w.heap.size w ((((W.setCell ⟨B, 0, none⟩ v0).setCell ⟨B, 1, none⟩ v1).setCell ⟨B, 2, none⟩ v2).setCell ⟨B, 3, none⟩ v3) :=
  below_set (below_set (below_set (below_set h hB) hB) hB) hB
theorem ow_slice {α : Type} {enc : α → List Value} {e k : Nat} {w : World} {B : Nat} {v : Value} {l : List α} (h : Ow enc e k w B v l) : ∃ A c, v = .slice A l.length c := by
  obtain ⟨_, ⟨rfl, h0⟩ | ⟨g, cap, cur, rfl, _⟩⟩ := h
  · exact ⟨_, _, by rw [h0]⟩
  · exact ⟨_, _, rfl⟩
theorem ed_me {w w2 : World} {B D : Nat} {rt : Int} {wd ht : List Int} {ce : List S44} {me me' : List S49} {A1 A2 A3 A4 : Option Addr} {c1 c2 c3 c4 : Nat} {v : Value}
    (hh : w.heap[D]? = some (.cells (shv ⟨A1, c1, A2, c2, A3, c3, A4, c4⟩ ⟨rt, wd, ht, ce, me⟩) 53 (0, 0))) (o1 : OwI w B (.slice A1 wd.length c1) wd) (o2 : OwI w B (.slice A2 ht.length c2) ht) (o3 : OwC w B (.slice A3 ce.length c3) ce) (o4 : OwR w B (.slice A4 me.length c4) me)
    (hne : NeRow (.slice A1 wd.length c1) (.slice A2 ht.length c2)) (hB : B ≤ D) (ho : OwR w2 B v me') (hg : w.grownBy w2 (Value.slice A4 me.length c4).ownBlock) :
    Ed (w2.setCell ⟨D, 4, none⟩ v) B D ⟨rt, wd, ht, ce, me'⟩ ∧ Below B w (w2.setCell ⟨D, 4, none⟩ v) := by
  have h2 := blk_grown hh hg (own_ne o4 hh (by decide))
  have q1 : OwI w2 B _ wd := own_other o1 hg (own_apart o1 o4 (by decide))
  have q2 : OwI w2 B _ ht := own_other o2 hg (own_apart o2 o4 (by decide))
  have q3 : OwC w2 B _ ce := own_other o3 hg (own_apart o3 o4 (by decide))
  refine ⟨⟨_, _, _, _, blk_put h2 4 _ rfl, q1.set h2 (by decide), q2.set h2 (by decide), q3.set h2 (by decide), ho.set h2 (by decide), hne, hB⟩, ?_⟩
  have hlt := blk_lt hh
  exact ((Below.refl B w).grown hg (by omega) (own_base o4)).setCell (p := ⟨D, 4, none⟩) hB _
theorem ed_ce {w w2 : World} {B D : Nat} {rt : Int} {wd ht : List Int} {ce ce' : List S44} {me : List S49} {A1 A2 A3 A4 : Option Addr} {c1 c2 c3 c4 : Nat} {v : Value}
    (hh : w.heap[D]? = some (.cells (shv ⟨A1, c1, A2, c2, A3, c3, A4, c4⟩ ⟨rt, wd, ht, ce, me⟩) 53 (0, 0))) (o1 : OwI w B (.slice A1 wd.length c1) wd) (o2 : OwI w B (.slice A2 ht.length c2) ht) (o3 : OwC w B (.slice A3 ce.length c3) ce) (o4 : OwR w B (.slice A4 me.length c4) me)
    (hne : NeRow (.slice A1 wd.length c1) (.slice A2 ht.length c2)) (hB : B ≤ D) (ho : OwC w2 B v ce') (hg : w.grownBy w2 (Value.slice A3 ce.length c3).ownBlock) :
    Ed (w2.setCell ⟨D, 3, none⟩ v) B D ⟨rt, wd, ht, ce', me⟩ ∧ Below B w (w2.setCell ⟨D, 3, none⟩ v) := by
  have h2 := blk_grown hh hg (own_ne o3 hh (by decide))
  have q1 : OwI w2 B _ wd := own_other o1 hg (own_apart o1 o3 (by decide))
  have q2 : OwI w2 B _ ht := own_other o2 hg (own_apart o2 o3 (by decide))
  have q4 : OwR w2 B _ me := own_other o4 hg (own_apart o4 o3 (by decide))
  refine ⟨⟨_, _, _, _, blk_put h2 3 _ rfl, q1.set h2 (by decide), q2.set h2 (by decide), ho.set h2 (by decide), q4.set h2 (by decide), hne, hB⟩, ?_⟩
  have hlt := blk_lt hh
  exact ((Below.refl B w).grown hg (by omega) (own_base o3)).setCell (p := ⟨D, 3, none⟩) hB _
theorem unmerge_any : StepC 42 (stepF 4) := by
  intro w B D s x hE hO hx
  obtain ⟨rt, wd, ht, ce, me⟩ := s
  obtain ⟨kd, x2, x3, x4, x5, x6, x7, tx, ⟨y1, y2, y3⟩⟩ := x
  have hE1 := hE.below (below_alloc (Below.refl w.heap.size w) (Obj.cells #[.int .i64 kd, .int .i64 x2, .int .i64 x3, .int .i64 x4, .int .i64 x5, .int .i64 x6, .int .i64 x7, .string tx, .int .i64 y1, .int .i64 y2, .int .i64 y3] 33 (0, 0)))
  have hBw := hE.le
  obtain ⟨⟨A1, c1, A2, c2, A3, c3, A4, c4⟩, hh, o1, o2, o3, o4, hne, hB, hR⟩ := hE1.open
  obtain ⟨p0, p1, p2, p3, p4, f0, f1, f2, f3, f4⟩ := ed5 hh
  have hxb := blk_new w (Obj.cells #[.int .i64 kd, .int .i64 x2, .int .i64 x3, .int .i64 x4, .int .i64 x5, .int .i64 x6, .int .i64 x7, .string tx, .int .i64 y1, .int .i64 y2, .int .i64 y3] 33 (0, 0))
  obtain ⟨q0, q1, q2, q3, q4, q5, q6, q7, q8, q9, q10⟩ := eleven (x := ⟨kd, x2, x3, x4, x5, x6, x7, tx, ⟨y1, y2, y3⟩⟩) hxb
  have hA := below_mono (below_alloc (Below.refl w.heap.size w) (Obj.cells #[.int .i64 kd, .int .i64 x2, .int .i64 x3, .int .i64 x4, .int .i64 x5, .int .i64 x6, .int .i64 x7, .string tx, .int .i64 y1, .int .i64 y2, .int .i64 y3] 33 (0, 0))) hBw
  simp only [] at p0 p1 p2 p3 p4 q0 q1 q2 q3 q4 q5 q6 q7 q8 q9 q10
  have hrg := fun W (hb : Below (w.alloc (Obj.cells #[.int .i64 kd, .int .i64 x2, .int .i64 x3, .int .i64 x4, .int .i64 x5, .int .i64 x6, .int .i64 x7, .string tx, .int .i64 y1, .int .i64 y2, .int .i64 y3] 33 (0, 0))).heap.size (w.alloc (Obj.cells #[.int .i64 kd, .int .i64 x2, .int .i64 x3, .int .i64 x4, .int .i64 x5, .int .i64 x6, .int .i64 x7, .string tx, .int .i64 y1, .int .i64 y2, .int .i64 y3] 33 (0, 0))) W) => region_any (hR.below hb) (ws_ok hO) hx.1 hx.2.1
  obtain ⟨rg, hrge⟩ : ∃ rg, rg = reg ⟨rt, wd, ht, ce, me⟩ x2 x3 := ⟨_, rfl⟩
  have hst : stepF 4 ⟨rt, wd, ht, ce, me⟩ ⟨kd, x2, x3, x4, x5, x6, x7, tx, ⟨y1, y2, y3⟩⟩ = if rg.2 ≠ 0 then (⟨rt, wd, ht, ce, me⟩, rg.2) else if rg.1.f2 = 1 ∧ rg.1.f3 = 1 then (⟨rt, wd, ht, ce, me⟩, 7) else (unm rg.1 ⟨rt, wd, ht, ce, me⟩, 0) := by rw [hrge]; rfl
  simp only [] at hrg
  rw [← hrge] at hrg
  obtain ⟨⟨r0, r1, r2, r3⟩, e1⟩ := rg
  obtain ⟨st, hste⟩ : ∃ st, st = stepF 4 ⟨rt, wd, ht, ce, me⟩ ⟨kd, x2, x3, x4, x5, x6, x7, tx, ⟨y1, y2, y3⟩⟩ := ⟨_, rfl⟩
  rw [← hste] at hst ⊢
  simp only [shv, encR] at hrg hst
  have HRG := Lib.hid hrg
  have HST := Lib.hid hst
  have HE1 := Lib.hid hE1
  have HHD := Lib.hid hh
  have HO1 := Lib.hid o1
  have HO2 := Lib.hid o2
  have HO3 := Lib.hid o3
  have HO4 := Lib.hid o4
  have HNE := Lib.hid hne
  have HA := Lib.hid hA
  have HOK := Lib.hid hO
  clear hE hO hx hE1 hh o1 o2 o3 o4 hne hR hxb hA hrg hrge hst hste
  show Calls Tryz.prog 42 #[.pointer (some ⟨D, 0, none⟩), .agg #[.int .i64 kd, .int .i64 x2, .int .i64 x3, .int .i64 x4, .int .i64 x5, .int .i64 x6, .int .i64 x7, .string tx, .int .i64 y1, .int .i64 y2, .int .i64 y3]] w fun e w' => e = .returned (.int .i64 st.2) ∧ (st.2 = 0 → Ed w' B D st.1) ∧ Below B w w'
  go_enter Tryz.func42, Tryz.ntmps42
  go_wp2_with fail
  obtain ⟨W0, hW0⟩ : ∃ W0, W0 = (w.alloc (Obj.cells #[.int .i64 kd, .int .i64 x2, .int .i64 x3, .int .i64 x4, .int .i64 x5, .int .i64 x6, .int .i64 x7, .string tx, .int .i64 y1, .int .i64 y2, .int .i64 y3] 33 (0, 0))) := ⟨_, rfl⟩
  have HWS : Hid (w.heap.size ≤ W0.heap.size) := Lib.hid (by rw [hW0]; simp)
  rw [← hW0] at p0 p1 p2 p3 p4 q1 q2 HRG HHD HO1 HO2 HO3 HO4 HA HE1 ⊢
  clear hW0
  go_cut [5, 6] from 5 (fun v5 v6 wx => ∃ b, v5 = .pointer (some ⟨b, 0, none⟩) ∧ v6 = .int .i64 e1 ∧ W0.heap.size ≤ b ∧ Hid (Below W0.heap.size W0 wx) ∧ Hid (wx.heap[b]? = some (.cells #[.int .i64 r0, .int .i64 r1, .int .i64 r2, .int .i64 r3] 49 (0, 0))))
  case first =>
    have KS : ∀ w', Below W0.heap.size W0 w' → (w'.cell? ⟨D, 0, none⟩ = some (.int .i64 rt) ∧ w'.cell? ⟨D, 1, none⟩ = some (.slice A1 wd.length c1) ∧ w'.cell? ⟨D, 2, none⟩ = some (.slice A2 ht.length c2) ∧ w'.cell? ⟨D, 3, none⟩ = some (.slice A3 ce.length c3) ∧ w'.cell? ⟨D, 4, none⟩ = some (.slice A4 me.length c4) ∧ w'.cell? ⟨w.heap.size, 1, none⟩ = some (.int .i64 x2) ∧ w'.cell? ⟨w.heap.size, 2, none⟩ = some (.int .i64 x3) ∧ Below W0.heap.size W0 w') := fun w' hb => ⟨pw_cell_below hb p0, pw_cell_below hb p1, pw_cell_below hb p2, pw_cell_below hb p3, pw_cell_below hb p4, pw_cell_below hb q1, pw_cell_below hb q2, hb⟩
    have HKS := Lib.hid KS
    clear KS
    go_region_held3 (fun w' => (w'.cell? ⟨D, 0, none⟩ = some (.int .i64 rt) ∧ w'.cell? ⟨D, 1, none⟩ = some (.slice A1 wd.length c1) ∧ w'.cell? ⟨D, 2, none⟩ = some (.slice A2 ht.length c2) ∧ w'.cell? ⟨D, 3, none⟩ = some (.slice A3 ce.length c3) ∧ w'.cell? ⟨D, 4, none⟩ = some (.slice A4 me.length c4) ∧ w'.cell? ⟨w.heap.size, 1, none⟩ = some (.int .i64 x2) ∧ w'.cell? ⟨w.heap.size, 2, none⟩ = some (.int .i64 x3) ∧ Below W0.heap.size W0 w'))
      (first
        | exact HKS.out _ (Below.refl _ _)
        | exact HKS.out _ (below_drew (Below.refl _ _))
        | (go_split_ands; exact HKS.out _ (below_then (by assumption) (Below.size (by assumption)) hbn))
        | (go_split_ands; exact HKS.out _ (below_drew (by assumption)))
        | (go_split_ands; exact HKS.out _ (by assumption))
        | exact HKS.out _ (below_alloc (Below.refl _ _) _)
        | exact HKS.out _ (below_drew (below_alloc (Below.refl _ _) _))
        | exact HKS.out _ (below_then (below_drew (Below.refl W0.heap.size W0)) (Nat.le_refl _) hbn)
        | exact HKS.out _ (below_then (below_drew (below_alloc (Below.refl W0.heap.size W0) _)) (by simp) hbn)
        | exact HKS.out _ hfin
        | exact HKS.out _ (below_alloc (below_then (below_drew (Below.refl W0.heap.size W0)) (Nat.le_refl _) hbn) _))
      (first
        | (go_at_call 33; first | (refine (HRG.out _ (below_drew (Below.refl _ _))).mono ?_; rintro e wh ⟨rfl, hbn⟩; obtain ⟨z0, z1, z2, z3, f0x, f1x, f2x, f3x⟩ := zero4 (blk_new wh (Obj.cells #[.int .i64 0, .int .i64 0, .int .i64 0, .int .i64 0] 49 (0, 0))); have hfin := below_alloc (below_then (below_drew (Below.refl W0.heap.size W0)) (Nat.le_refl _) hbn) (Obj.cells #[.int .i64 r0, .int .i64 r1, .int .i64 r2, .int .i64 r3] 49 (0, 0)); have hblk := blk_new wh (Obj.cells #[.int .i64 r0, .int .i64 r1, .int .i64 r2, .int .i64 r3] 49 (0, 0)); have hge : W0.heap.size ≤ wh.heap.size := hbn.size) | (refine (HRG.out _ (below_drew (below_alloc (Below.refl _ _) _))).mono ?_; rintro e wh ⟨rfl, hbn⟩; have hzz := blk_below (blk_drew (blk_new W0 (Obj.cells #[.int .i64 0, .int .i64 0, .int .i64 0, .int .i64 0] 49 (0, 0)))) hbn; obtain ⟨z0, z1, z2, z3, f0x, f1x, f2x, f3x⟩ := zero4 hzz; have hfin := below_set4 (v0 := .int .i64 r0) (v1 := .int .i64 r1) (v2 := .int .i64 r2) (v3 := .int .i64 r3) (below_then (below_drew (below_alloc (Below.refl W0.heap.size W0) (Obj.cells #[.int .i64 0, .int .i64 0, .int .i64 0, .int .i64 0] 49 (0, 0)))) (by simp) hbn) (Nat.le_refl W0.heap.size); have hblk := put4 (r := ⟨r0, r1, r2, r3⟩) hzz; have hge := Nat.le_refl W0.heap.size)))
    go_split_ands
    all_goals
      go_wp2_with fail
      go_meet
      exact ⟨_, rfl, rfl, hge, Lib.hid hfin, Lib.hid hblk⟩
  case rest =>
    obtain ⟨b, rfl, rfl, hge, HBc, HBb⟩ := hcut
    have hB1 : Below B w wc := below_trans HA.out (below_mono HBc.out (Nat.le_trans hBw HWS.out))
    have hEc := HE1.out.below HBc.out
    have hbk := HBb.out
    obtain ⟨m0, m1, m2, m3⟩ := four (r := ⟨r0, r1, r2, r3⟩) hbk
    have HB1 := Lib.hid hB1
    clear hB1 p0 p1 p2 p3 p4 q1 q2
    by_cases h1 : e1 = 0
    · subst h1
      by_cases h2 : r2 = 1 ∧ r3 = 1
      · obtain ⟨rfl, rfl⟩ := h2
        have HR : Hid (st = (⟨rt, wd, ht, ce, me⟩, 7)) := Lib.hid (by rw [HST.out, if_neg (by decide), if_pos ⟨rfl, rfl⟩])
        clear HST
        go_wp2_with fail
        go_ret
        exact ⟨by rw [HR.out]; rfl, fun h => by rw [HR.out] at h; exact absurd h (show ¬ ((7 : Int) = 0) by decide), HB1.out⟩
      · have HR : Hid (st = (unm ⟨r0, r1, r2, r3⟩ ⟨rt, wd, ht, ce, me⟩, 0)) := Lib.hid (by rw [HST.out, if_neg (by decide), if_neg h2])
        clear HST
        have hl : me.length ≤ 1000 := Nat.le_trans HOK.out.men (by decide)
        have hhd := blk_below HHD.out HBc.out
        have o4 := Ow.below HO4.out HBc.out
        have HO1c := Lib.hid (Ow.below HO1.out HBc.out)
        have HO2c := Lib.hid (Ow.below HO2.out HBc.out)
        have HO3c := Lib.hid (Ow.below HO3.out HBc.out)
        have HO4c := Lib.hid o4
        obtain ⟨p0, p1, p2, p3, p4, f0, f1, f2, f3, f4⟩ := ed5 hhd
        have hnb : some b ≠ (Value.slice A4 me.length c4).ownBlock := fun e => by have := own_lt HO4.out b e.symm; omega
        have htl : TellsG 70 #[.pointer (some ⟨b, 0, none⟩)] (fun x => .agg (encR x).toArray) (fun q => decide (sameR q ⟨r0, r1, r2, r3⟩)) me wc (Value.slice A4 me.length c4).ownBlock := fun W' x hx hgr =>
          t70 (l := me) (r := ⟨r0, r1, r2, r3⟩) (blk_grown hbk hgr hnb) W' x hx (Below.refl _ _)
        have hdl := deleR_any (fun q => decide (sameR q ⟨r0, r1, r2, r3⟩)) 70 #[.pointer (some ⟨b, 0, none⟩)] (enters_of Tryz.func70 (by kernel_rfl) rfl) o4 hl htl
        have HHc := Lib.hid hhd
        have hme : (unm ⟨r0, r1, r2, r3⟩ ⟨rt, wd, ht, ce, me⟩).me = me.filter (fun q => !decide (sameR q ⟨r0, r1, r2, r3⟩)) := by
          show me.filter _ = _; congr 1; funext q; rw [decide_not]
        generalize me.filter (fun q => !decide (sameR q ⟨r0, r1, r2, r3⟩)) = me2 at hdl hme
        have HDL := Lib.hid hdl
        have HME := Lib.hid hme
        clear htl hnb hbk hhd o4 hdl hme
        have HFIN := Lib.hid (fun w2 v me' => @ed_me wc w2 B D rt wd ht ce me me' A1 A2 A3 A4 c1 c2 c3 c4 v HHc.out HO1c.out HO2c.out HO3c.out HO4c.out HNE.out hB)
        go_wp2_with (go_at_call 69; refine HDL.out.mono ?_; rintro e w2 ⟨v, rfl, hov, hgv, hvb⟩; obtain ⟨Av, cv, rfl⟩ := ow_slice hov; obtain ⟨p0, p1, p2, p3, p4, f0, f1, f2, f3, f4⟩ := ed5 (blk_grown HHc.out hgv (own_ne HO4c.out HHc.out (by decide))); have HV := Lib.hid (HFIN.out _ _ _ hov hgv); clear hov hgv hvb)
        all_goals
          go_ret
          exact ⟨by rw [HR.out]; rfl, fun _ => by rw [HR.out]; show Ed _ B D ⟨rt, wd, ht, ce, (unm ⟨r0, r1, r2, r3⟩ ⟨rt, wd, ht, ce, me⟩).me⟩; rw [HME.out]; exact HV.out.1, below_trans HB1.out HV.out.2⟩
    · have HR : Hid (st = (⟨rt, wd, ht, ce, me⟩, e1)) := Lib.hid (by rw [HST.out, if_pos h1])
      have h1b : (e1 == 0) = false := by simpa using h1
      clear HST
      go_wp2_with fail
      go_ret
      exact ⟨by rw [HR.out]; rfl, fun h => by rw [HR.out] at h; exact absurd h h1, HB1.out⟩
end Go.Proofs.YtcofacgdijjnoaaGreat
end
section
namespace Go.Proofs.YtcofacgdijjnoaaGreat
open PE (S31 S44 S49 k44 k49 k31)
open Go.RowKit Go.Shelf Go.Lib Go.Proofs.YtcofacgdijjnoaaGreatW.PrintWords Go.Proofs.YtcofacgdijjnoaaGreatW.PrintLast Go.Proofs.YtcofacgdijjnoaaGreatW.PrintMore
set_option linter.unusedVariables false
set_option linter.unusedSimpArgs false
set_option maxRecDepth 100000
set_option maxHeartbeats 2000000
theorem here_any {W0 : World} {B D : Nat} {s : Sh} {i j : Int} (hE : Ed W0 B D s) (hO : OkS s) (hi : W6 i) (hj : W6 j) :
    Calls Tryz.prog 61 #[.pointer (some ⟨D, 0, none⟩), .int .i64 i, .int .i64 j] W0 fun e w' => e = .returned (.int .i64 (hereF s i j)) ∧ Below W0.heap.size W0 w' := by
  obtain ⟨⟨A1, c1, A2, c2, A3, c3, A4, c4⟩, hh, o1, o2, o3, o4, hne, hB, hR⟩ := hE.open
  obtain ⟨rt, wd, ht, ce, me⟩ := s
  obtain ⟨p0, p1, p2, p3, p4, f0, f1, f2, f3, f4⟩ := ed5 hh
  simp only [] at p0 p1 p2 p3 p4
  have hrg := fun W (hb : Below W0.heap.size W0 W) => region_any (hR.below hb) (ws_ok hO) hi hj
  have hst : hereF ⟨rt, wd, ht, ce, me⟩ i j = if (reg ⟨rt, wd, ht, ce, me⟩ i j).2 = 0 ∧ ((reg ⟨rt, wd, ht, ce, me⟩ i j).1.f0 ≠ i ∨ (reg ⟨rt, wd, ht, ce, me⟩ i j).1.f1 ≠ j) then 6 else (reg ⟨rt, wd, ht, ce, me⟩ i j).2 := rfl
  generalize reg ⟨rt, wd, ht, ce, me⟩ i j = rg at hrg hst
  obtain ⟨⟨r0, r1, r2, r3⟩, e1⟩ := rg
  generalize hereF ⟨rt, wd, ht, ce, me⟩ i j = st at hst ⊢
  simp only [shv, encR] at hrg hst
  have HRG := Lib.hid hrg
  have HST := Lib.hid hst
  clear hE hO hi hj hh o1 o2 o3 o4 hne hR hrg hst
  go_enter Tryz.func61, Tryz.ntmps61
  by_cases h1 : e1 = 0
  · subst h1
    by_cases h2 : r0 = i
    · subst h2
      by_cases h3 : r1 = j
      · subst h3
        have HR : Hid (st = 0) := Lib.hid (by rw [HST.out, if_neg (by simp)])
        clear HST
        go_wp2_with (go_at_call 33; refine (HRG.out _ (Below.refl _ _)).mono ?_; rintro e wh ⟨rfl, hbn⟩; obtain ⟨z0, z1, z2, z3, f0x, f1x, f2x, f3x⟩ := zero4 (blk_new wh (Obj.cells #[.int .i64 0, .int .i64 0, .int .i64 0, .int .i64 0] 49 (0, 0))); obtain ⟨m0, m1, m2, m3⟩ := four (r := ⟨r0, r1, r2, r3⟩) (blk_new wh (Obj.cells #[.int .i64 r0, .int .i64 r1, .int .i64 r2, .int .i64 r3] 49 (0, 0))); have hfin := below_alloc hbn (Obj.cells #[.int .i64 r0, .int .i64 r1, .int .i64 r2, .int .i64 r3] 49 (0, 0)))
        all_goals (go_ret; exact ⟨by rw [HR.out]; rfl, hfin⟩)
      · have HR : Hid (st = 6) := Lib.hid (by rw [HST.out, if_pos ⟨rfl, .inr h3⟩])
        have h3b : (r1 == j) = false := by simpa using h3
        clear HST
        go_wp2_with (go_at_call 33; refine (HRG.out _ (Below.refl _ _)).mono ?_; rintro e wh ⟨rfl, hbn⟩; obtain ⟨z0, z1, z2, z3, f0x, f1x, f2x, f3x⟩ := zero4 (blk_new wh (Obj.cells #[.int .i64 0, .int .i64 0, .int .i64 0, .int .i64 0] 49 (0, 0))); obtain ⟨m0, m1, m2, m3⟩ := four (r := ⟨r0, r1, r2, r3⟩) (blk_new wh (Obj.cells #[.int .i64 r0, .int .i64 r1, .int .i64 r2, .int .i64 r3] 49 (0, 0))); have hfin := below_alloc hbn (Obj.cells #[.int .i64 r0, .int .i64 r1, .int .i64 r2, .int .i64 r3] 49 (0, 0)))
        all_goals (go_ret; exact ⟨by rw [HR.out]; rfl, hfin⟩)
    · have HR : Hid (st = 6) := Lib.hid (by rw [HST.out, if_pos ⟨rfl, .inl h2⟩])
      have h3b : (r0 == i) = false := by simpa using h2
      clear HST
      go_wp2_with (go_at_call 33; refine (HRG.out _ (Below.refl _ _)).mono ?_; rintro e wh ⟨rfl, hbn⟩; obtain ⟨z0, z1, z2, z3, f0x, f1x, f2x, f3x⟩ := zero4 (blk_new wh (Obj.cells #[.int .i64 0, .int .i64 0, .int .i64 0, .int .i64 0] 49 (0, 0))); obtain ⟨m0, m1, m2, m3⟩ := four (r := ⟨r0, r1, r2, r3⟩) (blk_new wh (Obj.cells #[.int .i64 r0, .int .i64 r1, .int .i64 r2, .int .i64 r3] 49 (0, 0))); have hfin := below_alloc hbn (Obj.cells #[.int .i64 r0, .int .i64 r1, .int .i64 r2, .int .i64 r3] 49 (0, 0)))
      all_goals (go_ret; exact ⟨by rw [HR.out]; rfl, hfin⟩)
  · have HR : Hid (st = e1) := Lib.hid (by rw [HST.out, if_neg (fun h => h1 h.1)])
    have h1b : (e1 == 0) = false := by simpa using h1
    clear HST
    go_wp2_with (go_at_call 33; refine (HRG.out _ (Below.refl _ _)).mono ?_; rintro e wh ⟨rfl, hbn⟩; obtain ⟨z0, z1, z2, z3, f0x, f1x, f2x, f3x⟩ := zero4 (blk_new wh (Obj.cells #[.int .i64 0, .int .i64 0, .int .i64 0, .int .i64 0] 49 (0, 0))); obtain ⟨m0, m1, m2, m3⟩ := four (r := ⟨r0, r1, r2, r3⟩) (blk_new wh (Obj.cells #[.int .i64 r0, .int .i64 r1, .int .i64 r2, .int .i64 r3] 49 (0, 0))); have hfin := below_alloc hbn (Obj.cells #[.int .i64 r0, .int .i64 r1, .int .i64 r2, .int .i64 r3] 49 (0, 0)))
    all_goals (go_ret; exact ⟨by rw [HR.out]; rfl, hfin⟩)
end Go.Proofs.YtcofacgdijjnoaaGreat
end
section
namespace Go.Proofs.YtcofacgdijjnoaaGreat
open PE (S31 S44 S49 k44 k49 k31)
open Go.RowKit Go.Shelf Go.Lib Go.Proofs.YtcofacgdijjnoaaGreatW.PrintWords Go.Proofs.YtcofacgdijjnoaaGreatW.PrintLast Go.Proofs.YtcofacgdijjnoaaGreatW.PrintMore
set_option linter.unusedVariables false
set_option linter.unusedSimpArgs false
set_option maxRecDepth 100000
set_option maxHeartbeats 2000000
/-- a row of the call's own, cut to more of its capacity -/
theorem own_ext {base : Nat} {e : TypeId} {k n g cap : Nat} {w : World} {xs : List Value} (h : w.ownsRow base e k (.slice (some ⟨g, 0, none⟩) n cap) n xs) (n' : Nat) (h1 : n ≤ n') (h2 : n' ≤ cap) :
    ∃ ys, ys.length = (n' - n) * k ∧ w.ownsRow base e k (.slice (some ⟨g, 0, none⟩) n' cap) n' (xs ++ ys) := by
  obtain ⟨hl, h⟩ := h
  rcases h with ⟨hv, _⟩ | ⟨g', cap', cur, hv, hB, hg, hle, hm, hs, htk⟩
  · cases hv
  · injection hv with e1 e2 e3
    injection e1 with e1
    injection e1 with e1
    subst e1 e3
    have hnk : n * k ≤ n' * k := Nat.mul_le_mul_right _ h1
    have hnc : n' * k ≤ cap * k := Nat.mul_le_mul_right _ h2
    have hcl : cur.toList.length = cap * k := by simpa using hs
    have e2 : (n' - n) * k + n * k = n' * k := by rw [← Nat.add_mul]; congr 1; omega
    have e3 : xs ++ (cur.toList.take (n' * k)).drop (n * k) = cur.toList.take (n' * k) := by
      rw [← htk]
      have := List.take_append_drop (n * k) (cur.toList.take (n' * k))
      rwa [List.take_take, Nat.min_eq_left hnk] at this
    refine ⟨(cur.toList.take (n' * k)).drop (n * k), by rw [List.length_drop, List.length_take]; omega, ?_⟩
    rw [e3]
    exact ⟨by rw [List.length_take]; omega, .inr ⟨g, cap, cur, rfl, hB, hg, h2, hm, hs, rfl⟩⟩
/-- a row of the call's own, read -/
theorem own_src {base : Nat} {e : TypeId} {k n g cap : Nat} {w : World} {xs : List Value} (h : w.ownsRow base e k (.slice (some ⟨g, 0, none⟩) n cap) n xs) : ∀ j u, xs[j]? = some u → w.cell? ⟨g, j, none⟩ = some u := by
  intro j u hu
  obtain ⟨hl, h⟩ := h
  rcases h with ⟨hv, _⟩ | ⟨g', cap', cur, hv, hB, hg, hle, hm, hs, htk⟩
  · cases hv
  · injection hv with e1 e2 e3
    injection e1 with e1
    injection e1 with e1
    subst e1 e3
    rw [cell_of_row _ _ _ _ _ _ hg]
    rw [← htk, List.getElem?_take] at hu
    split at hu
    · simpa using hu
    · cases hu
theorem own_blk {base : Nat} {e : TypeId} {k n g cap : Nat} {w : World} {xs : List Value} (h : w.ownsRow base e k (.slice (some ⟨g, 0, none⟩) n cap) n xs) :
    ∃ cur : Array Value, w.heap[g]? = some (.cells cur e (0, 0)) ∧ n ≤ cap ∧ cur.size = cap * k ∧ base ≤ g ∧ cap ≤ maxLen := by
  obtain ⟨hl, h⟩ := h
  rcases h with ⟨hv, _⟩ | ⟨g', cap', cur, hv, hB, hg, hle, hm, hs, htk⟩
  · cases hv
  · injection hv with e1 e2 e3
    injection e1 with e1
    injection e1 with e1
    subst e1 e3
    exact ⟨cur, hg, hle, hs, hB, hm⟩
/-- copy, of elements of more cells than one -/
theorem copy_runK (w : World) (dT sT ty elem : TypeId) (k b o dLen dCap : Nat) (a : Addr) (sLen sCap m : Nat) (cs : List Value)
    (hu : Tryz.prog.underlying dT = some (.slice elem)) (hs : (Tryz.prog.info? elem).map (·.size) = some k) (hm : Nat.min sLen dLen = m) (hn : cs.length = m * k)
    (hsrc : ∀ j v, cs[j]? = some v → w.cell? (a.add j) = some v) (hc : ∀ j, j < cs.length → (w.cell? ⟨b, o + j, none⟩).isSome = true) (hf : ∀ j, j < cs.length → w.frozen? ⟨b, o + j, none⟩ = false) (h1 : ∀ v ∈ cs, v.oneCell' = true) :
    (Builtin.copy_ #[dT, sT] ty #[.slice (some ⟨b, o, none⟩) dLen dCap, .slice (some a) sLen sCap]).run Tryz.prog w = .ok (goInt m) (w.setCells b o cs) := by
  have hl := run_loadCells_list (P := Tryz.prog) w a cs hsrc
  have hst := run_storeCells_cells (P := Tryz.prog) b o cs 0 w (by simpa using hc) (by simpa using hf) h1
  cases hq : Tryz.prog.info? elem with
  | none => simp [hq] at hs
  | some i =>
    have hi : i.size = k := by simpa [hq] using hs
    simp [Builtin.copy_, run_underlying hu, Builtin.lenOf, Builtin.firstCells, sizeOf, typeInfo, hq, hi, hm, ← hn, hl, hst]
/-- copy into a row of the call's own -/
theorem copy_own {base : Nat} {elem : TypeId} {k n g cap : Nat} {w : World} {xs : List Value} (h : w.ownsRow base elem k (.slice (some ⟨g, 0, none⟩) n cap) n xs) (dT sT : TypeId) (o m : Nat) (a : Addr) (cs : List Value)
    (hu : Tryz.prog.underlying dT = some (.slice elem)) (hs : (Tryz.prog.info? elem).map (·.size) = some k) (hn : cs.length = m * k) (hfit : o + m ≤ n)
    (hsrc : ∀ j v, cs[j]? = some v → w.cell? (a.add j) = some v) (h1 : ∀ v ∈ cs, v.oneCell' = true) :
    (∀ ty dLen dCap sLen sCap, Nat.min sLen dLen = m → (Builtin.copy_ #[dT, sT] ty #[.slice (some ⟨g, o * k, none⟩) dLen dCap, .slice (some a) sLen sCap]).run Tryz.prog w = .ok (goInt m) (w.setCells g (o * k) cs)) ∧
    (w.setCells g (o * k) cs).ownsRow base elem k (.slice (some ⟨g, 0, none⟩) n cap) n (xs.take (o * k) ++ cs ++ xs.drop ((o + m) * k)) ∧ w.grownBy (w.setCells g (o * k) cs) (some g) := by
  have hl := h.1
  have e1 : (o + m) * k = o * k + m * k := Nat.add_mul ..
  have e2 : (o + m) * k ≤ n * k := Nat.mul_le_mul_right _ hfit
  obtain ⟨cur, hg, _, _, _, _⟩ := own_blk h
  refine ⟨fun ty dLen dCap sLen sCap hm => copy_runK w dT sT ty elem k g (o * k) dLen dCap a sLen sCap m cs hu hs hm hn hsrc ?_ (fun j hj => blk_frozen hg _) h1, ?_, grown_setCells cs (o * k) w⟩
  · intro j hj
    have hlt : o * k + j < xs.length := by omega
    rw [own_src h _ _ (List.getElem?_eq_getElem hlt)]; rfl
  · rw [e1, ← hn]
    exact own_setCells cs (o * k) h (by omega)
/-- the operation, where its run is known -/
theorem wp_copy_is (w : World) {o : Oper} {a : Act} {K : Act → World → Prop} {Q : Exit → Act → World → Prop} (d s : Operand) (t t' : TypeId)
    (ho : o.op = .call { callee := .builtin .copy, args := #[d, s], argTypes := #[t, t'] }) (v u : Value) (hd : a.eval d = v) (hs : a.eval s = u) {v' : Value} {w' : World}
    (hr : (Builtin.copy_ #[t, t'] o.type #[v, u]).run Tryz.prog w = .ok v' w') (h : K (a.put o.dst v') w') : o.wp Tryz.prog a w K Q := by
  unfold Oper.wp execOp
  simp only [ho, resolve, invoke, builtin, Sem.run_bind, Sem.run_pure, Result.andThen_ok, List.map_toArray, List.map_cons, List.map_nil, hd, hs, hr]
  exact h
theorem wpList_copy_is (w : World) {ops : Array Oper} {rest : List Oper} {o : Oper} {a : Act} {Q : Exit → Act → World → Prop} (hgd : o.guard = none) (d s : Operand) (t t' : TypeId)
    (ho : o.op = .call { callee := .builtin .copy, args := #[d, s], argTypes := #[t, t'] }) (v u : Value) (hd : a.eval d = v) (hs : a.eval s = u) {v' : Value} {w' : World}
    (hr : (Builtin.copy_ #[t, t'] o.type #[v, u]).run Tryz.prog w = .ok v' w') (h : wpList Tryz.prog ops Q rest (a.put o.dst v') w') : wpList Tryz.prog ops Q (o :: rest) a w :=
  wpList_plain hgd fun _ hK => wp_copy_is w d s t t' ho v u hd hs hr (hK _ _ h)
theorem step_copy_is {ops : Array Oper} {o : Oper} {a : Act} {w : World} {K : Act → World → Prop} {Q : Exit → Act → World → Prop} {E : Prop}
    (hg : o.guard = none) (d x : Operand) (dT sT : TypeId) (hop : o.op = Op.call { callee := Callee.builtin Builtin.copy, args := #[d, x], argTypes := #[dT, sT] })
    (v u : Value) (hd : a.eval d = v) (hx : a.eval x = u) {v' : Value} {w' : World} (hr : (Builtin.copy_ #[dT, sT] o.type #[v, u]).run Tryz.prog w = .ok v' w') (hK : K (a.put o.dst v') w') :
    if Region.wanted o (yielded ops a.tmps) = true then Oper.wp Tryz.prog o a w K Q else E := by
  have hw : Region.wanted o (yielded ops a.tmps) = true := by simp [Region.wanted, hg]
  rw [if_pos hw]
  exact wp_copy_is w d x dT sT hop v u hd hx hr hK
/-- the library's overlaps, of rows in two blocks -/
theorem overlaps_own {base base2 : Nat} {e : TypeId} {k n g cap n2 g2 cap2 : Nat} {w : World} {xs ys : List Value} (h : w.ownsRow base e k (.slice (some ⟨g, 0, none⟩) n cap) n xs) (h2 : w.ownsRow base2 e k (.slice (some ⟨g2, 0, none⟩) n2 cap2) n2 ys)
    (hne : g2 ≠ g) (tS tR : TypeId) (ht : Tryz.prog.underlying tS = some (.slice e)) (hz : ∀ w, (Go.sizeOf e).run Tryz.prog w = .ok k w) (hpos : 0 < n) (hk : 0 < k) (o la lb cb : Nat) :
    (Extern.SlicesOverlaps.overlaps #[tS, tS] #[tR] #[.slice (some ⟨g2, 0, none⟩) la cap2, .slice (some ⟨g, o, none⟩) lb cb]).run Tryz.prog w = .ok (.bool false) w := by
  obtain ⟨cur, hg, hle, hs, _, _⟩ := own_blk h
  obtain ⟨cur2, hg2, _, _, _, _⟩ := own_blk h2
  have hc : cur.size ≠ 0 := by
    rw [hs]
    have : 0 < cap * k := Nat.mul_pos (by omega) hk
    omega
  exact Lib.run_overlaps_apart w tS tR e ht k hz ⟨g2, 0, none⟩ ⟨g, o, none⟩ la cap2 lb cb hne e e cur2.size cur.size (by unfold World.shape?; rw [hg2]) (by unfold World.shape?; rw [hg]) hc (blk_frozen hg2 _) (blk_frozen hg2 _)
end Go.Proofs.YtcofacgdijjnoaaGreat
end
