/- sheet: more of the tests that are handed to the library: walked. -/
import Derived.Test.YtcofacgdijjnoaaGreatPar
import Derived.Test.YtcofacgdijjnoaaGreatPaa
namespace Go.Proofs.YtcofacgdijjnoaaGreat
open PE (S31 S44 S49 k44 k49 k31)
open Go.RowKit Go.Shelf Go.Lib Go.Proofs.YtcofacgdijjnoaaGreatW.PrintWords Go.Proofs.YtcofacgdijjnoaaGreatW.PrintLast Go.Proofs.YtcofacgdijjnoaaGreatW.PrintMore
set_option linter.unusedVariables false
set_option linter.unusedSimpArgs false
set_option maxRecDepth 100000
set_option maxHeartbeats 40000000
theorem merge_any : StepC 41 (stepF 3) := by
  intro w B D s x hE hO hx
  obtain ⟨rt, wd, ht, ce, me⟩ := s
  obtain ⟨kd, x2, x3, x4, x5, x6, x7, tx, ⟨y1, y2, y3⟩⟩ := x
  have hE1 := hE.below (below_alloc (Below.refl w.heap.size w) (Obj.cells #[.int .i64 kd, .int .i64 x2, .int .i64 x3, .int .i64 x4, .int .i64 x5, .int .i64 x6, .int .i64 x7, .string tx, .int .i64 y1, .int .i64 y2, .int .i64 y3] 33 (0, 0)))
  have hBw := hE.le
  obtain ⟨⟨A1, c1, A2, c2, A3, c3, A4, c4⟩, hh, o1, o2, o3, o4, hne, hB, hR⟩ := hE1.open
  obtain ⟨p0, p1, p2, p3, p4, f0, f1, f2, f3, f4⟩ := ed5 hh
  have hxb := blk_new w (Obj.cells #[.int .i64 kd, .int .i64 x2, .int .i64 x3, .int .i64 x4, .int .i64 x5, .int .i64 x6, .int .i64 x7, .string tx, .int .i64 y1, .int .i64 y2, .int .i64 y3] 33 (0, 0))
  obtain ⟨q0, q1, q2, q3, q4, q5, q6, q7, q8, q9, q10⟩ := eleven (x := ⟨kd, x2, x3, x4, x5, x6, x7, tx, ⟨y1, y2, y3⟩⟩) hxb
  have hA := below_mono (below_alloc (Below.refl w.heap.size w) (Obj.cells #[.int .i64 kd, .int .i64 x2, .int .i64 x3, .int .i64 x4, .int .i64 x5, .int .i64 x6, .int .i64 x7, .string tx, .int .i64 y1, .int .i64 y2, .int .i64 y3] 33 (0, 0))) hBw
  simp only [] at p0 p1 p2 p3 p4 q0 q1 q2 q3 q4 q5 q6 q7 q8 q9 q10
  obtain ⟨st, hste⟩ : ∃ st, st = stepF 3 ⟨rt, wd, ht, ce, me⟩ ⟨kd, x2, x3, x4, x5, x6, x7, tx, ⟨y1, y2, y3⟩⟩ := ⟨_, rfl⟩
  rw [← hste]
  have HST := Lib.hid hste
  have HE1 := Lib.hid hE1
  have HA := Lib.hid hA
  have HOK := Lib.hid hO
  have HX := Lib.hid hx
  clear hste hE1 hA hO hx hE hh o1 o2 o3 o4 hne hR hxb p0 p1 p2 p3 p4 f0 f1 f2 f3 f4 q0 q5 q6 q7 q8 q9 q10 hB A1 c1 A2 c2 A3 c3 A4 c4
  show Calls Tryz.prog 41 #[.pointer (some ⟨D, 0, none⟩), .agg #[.int .i64 kd, .int .i64 x2, .int .i64 x3, .int .i64 x4, .int .i64 x5, .int .i64 x6, .int .i64 x7, .string tx, .int .i64 y1, .int .i64 y2, .int .i64 y3]] w fun e w' => e = .returned (.int .i64 st.2) ∧ (st.2 = 0 → Ed w' B D st.1) ∧ Below B w w'
  have hsz1 : (w.alloc (Obj.cells #[.int .i64 kd, .int .i64 x2, .int .i64 x3, .int .i64 x4, .int .i64 x5, .int .i64 x6, .int .i64 x7, .string tx, .int .i64 y1, .int .i64 y2, .int .i64 y3] 33 (0, 0))).heap.size = w.heap.size + 1 := Array.size_push ..
  have hsz2 : ((w.alloc (Obj.cells #[.int .i64 kd, .int .i64 x2, .int .i64 x3, .int .i64 x4, .int .i64 x5, .int .i64 x6, .int .i64 x7, .string tx, .int .i64 y1, .int .i64 y2, .int .i64 y3] 33 (0, 0))).alloc (Obj.cells #[.int .i64 x2, .int .i64 x3, .int .i64 x4, .int .i64 x5] 49 (0, 0))).heap.size = w.heap.size + 1 + 1 := by rw [← hsz1]; exact Array.size_push ..
  have hm : (((w.alloc (Obj.cells #[.int .i64 kd, .int .i64 x2, .int .i64 x3, .int .i64 x4, .int .i64 x5, .int .i64 x6, .int .i64 x7, .string tx, .int .i64 y1, .int .i64 y2, .int .i64 y3] 33 (0, 0))).alloc (Obj.cells #[.int .i64 x2, .int .i64 x3, .int .i64 x4, .int .i64 x5] 49 (0, 0))).alloc (.cells #[.func (.func 64) #[] #[.pointer (some ⟨w.heap.size + 1, 0, none⟩)]] 65 (0, 0))).heap[w.heap.size + 1 + 1]? = some (.cells #[.func (.func 64) #[] #[.pointer (some ⟨w.heap.size + 1, 0, none⟩)]] 65 (0, 0)) := by have hn := blk_new ((w.alloc (Obj.cells #[.int .i64 kd, .int .i64 x2, .int .i64 x3, .int .i64 x4, .int .i64 x5, .int .i64 x6, .int .i64 x7, .string tx, .int .i64 y1, .int .i64 y2, .int .i64 y3] 33 (0, 0))).alloc (Obj.cells #[.int .i64 x2, .int .i64 x3, .int .i64 x4, .int .i64 x5] 49 (0, 0))) (.cells #[.func (.func 64) #[] #[.pointer (some ⟨w.heap.size + 1, 0, none⟩)]] 65 (0, 0)); rw [hsz2] at hn; exact hn
  have hb3 : Below (w.alloc (Obj.cells #[.int .i64 kd, .int .i64 x2, .int .i64 x3, .int .i64 x4, .int .i64 x5, .int .i64 x6, .int .i64 x7, .string tx, .int .i64 y1, .int .i64 y2, .int .i64 y3] 33 (0, 0))).heap.size (w.alloc (Obj.cells #[.int .i64 kd, .int .i64 x2, .int .i64 x3, .int .i64 x4, .int .i64 x5, .int .i64 x6, .int .i64 x7, .string tx, .int .i64 y1, .int .i64 y2, .int .i64 y3] 33 (0, 0))) (((w.alloc (Obj.cells #[.int .i64 kd, .int .i64 x2, .int .i64 x3, .int .i64 x4, .int .i64 x5, .int .i64 x6, .int .i64 x7, .string tx, .int .i64 y1, .int .i64 y2, .int .i64 y3] 33 (0, 0))).alloc (Obj.cells #[.int .i64 x2, .int .i64 x3, .int .i64 x4, .int .i64 x5] 49 (0, 0))).alloc (.cells #[.func (.func 64) #[] #[.pointer (some ⟨w.heap.size + 1, 0, none⟩)]] 65 (0, 0))) := below_alloc (below_alloc (Below.refl _ _) _) _
  have hb2 : Below ((w.alloc (Obj.cells #[.int .i64 kd, .int .i64 x2, .int .i64 x3, .int .i64 x4, .int .i64 x5, .int .i64 x6, .int .i64 x7, .string tx, .int .i64 y1, .int .i64 y2, .int .i64 y3] 33 (0, 0))).alloc (Obj.cells #[.int .i64 x2, .int .i64 x3, .int .i64 x4, .int .i64 x5] 49 (0, 0))).heap.size ((w.alloc (Obj.cells #[.int .i64 kd, .int .i64 x2, .int .i64 x3, .int .i64 x4, .int .i64 x5, .int .i64 x6, .int .i64 x7, .string tx, .int .i64 y1, .int .i64 y2, .int .i64 y3] 33 (0, 0))).alloc (Obj.cells #[.int .i64 x2, .int .i64 x3, .int .i64 x4, .int .i64 x5] 49 (0, 0))) (((w.alloc (Obj.cells #[.int .i64 kd, .int .i64 x2, .int .i64 x3, .int .i64 x4, .int .i64 x5, .int .i64 x6, .int .i64 x7, .string tx, .int .i64 y1, .int .i64 y2, .int .i64 y3] 33 (0, 0))).alloc (Obj.cells #[.int .i64 x2, .int .i64 x3, .int .i64 x4, .int .i64 x5] 49 (0, 0))).alloc (.cells #[.func (.func 64) #[] #[.pointer (some ⟨w.heap.size + 1, 0, none⟩)]] 65 (0, 0))) := below_alloc (Below.refl _ _) _
  have hs3 : (((w.alloc (Obj.cells #[.int .i64 kd, .int .i64 x2, .int .i64 x3, .int .i64 x4, .int .i64 x5, .int .i64 x6, .int .i64 x7, .string tx, .int .i64 y1, .int .i64 y2, .int .i64 y3] 33 (0, 0))).alloc (Obj.cells #[.int .i64 x2, .int .i64 x3, .int .i64 x4, .int .i64 x5] 49 (0, 0))).alloc (.cells #[.func (.func 64) #[] #[.pointer (some ⟨w.heap.size + 1, 0, none⟩)]] 65 (0, 0))).heap.size = w.heap.size + 1 + 1 + 1 := by rw [← hsz2]; exact Array.size_push ..
  have hr : (((w.alloc (Obj.cells #[.int .i64 kd, .int .i64 x2, .int .i64 x3, .int .i64 x4, .int .i64 x5, .int .i64 x6, .int .i64 x7, .string tx, .int .i64 y1, .int .i64 y2, .int .i64 y3] 33 (0, 0))).alloc (Obj.cells #[.int .i64 x2, .int .i64 x3, .int .i64 x4, .int .i64 x5] 49 (0, 0))).alloc (.cells #[.func (.func 64) #[] #[.pointer (some ⟨w.heap.size + 1, 0, none⟩)]] 65 (0, 0))).heap[w.heap.size + 1]? = some (Obj.cells #[.int .i64 x2, .int .i64 x3, .int .i64 x4, .int .i64 x5] 49 (0, 0)) := blk_below (by have := blk_new (w.alloc (Obj.cells #[.int .i64 kd, .int .i64 x2, .int .i64 x3, .int .i64 x4, .int .i64 x5, .int .i64 x6, .int .i64 x7, .string tx, .int .i64 y1, .int .i64 y2, .int .i64 y3] 33 (0, 0))) (Obj.cells #[.int .i64 x2, .int .i64 x3, .int .i64 x4, .int .i64 x5] 49 (0, 0)); rw [hsz1] at this; exact this) hb2
  obtain ⟨m0, m1, m2, m3⟩ := four (r := ⟨x2, x3, x4, x5⟩) hr
  simp only [] at m0 m1 m2 m3
  have HM := Lib.hid hm
  have HB3 := Lib.hid hb3
  have HR := Lib.hid hr
  have HA3 := Lib.hid (below_trans HA.out (below_mono hb3 (show B ≤ (w.alloc (Obj.cells #[.int .i64 kd, .int .i64 x2, .int .i64 x3, .int .i64 x4, .int .i64 x5, .int .i64 x6, .int .i64 x7, .string tx, .int .i64 y1, .int .i64 y2, .int .i64 y3] 33 (0, 0))).heap.size by rw [hsz1]; omega)))
  clear hsz2 hm hb3 hb2 hr
  by_cases k1 : x4 < 1
  · have kb : decide (x4 < 1) = true := decide_eq_true k1
    have HQ : Hid (st = (⟨rt, wd, ht, ce, me⟩, 1)) := Lib.hid (by rw [HST.out]; show mrgF _ _ = _; unfold mrgF; rw [if_pos (.inl k1)])
    clear HST
    go_enter Tryz.func41, Tryz.ntmps41
    go_wp2_with fail
    go_ret
    exact ⟨by rw [HQ.out]; rfl, fun h => by rw [HQ.out] at h; exact absurd h (show ¬ ((1 : Int) = 0) by decide), HA3.out⟩
  · have kb : decide (x4 < 1) = false := decide_eq_false k1
    by_cases k2 : x5 < 1
    · have kb2 : decide (x5 < 1) = true := decide_eq_true k2
      have HQ : Hid (st = (⟨rt, wd, ht, ce, me⟩, 1)) := Lib.hid (by rw [HST.out]; show mrgF _ _ = _; unfold mrgF; rw [if_pos (.inr (.inl k2))])
      clear HST
      go_enter Tryz.func41, Tryz.ntmps41
      go_wp2_with fail
      go_ret
      exact ⟨by rw [HQ.out]; rfl, fun h => by rw [HQ.out] at h; exact absurd h (show ¬ ((1 : Int) = 0) by decide), HA3.out⟩
    · have kb2 : decide (x5 < 1) = false := decide_eq_false k2
      have p4 : 1 ≤ x4 := by omega
      have p5 : 1 ≤ x5 := by omega
      by_cases k3 : x4 = 1 ∧ x5 = 1
      · have kb3 : (x4 == 1) = true := by simpa using k3.1
        have kb4 : (x5 == 1) = true := by simpa using k3.2
        have HQ : Hid (st = (⟨rt, wd, ht, ce, me⟩, 1)) := Lib.hid (by rw [HST.out]; show mrgF _ _ = _; unfold mrgF; rw [if_pos (.inr (.inr k3))])
        clear HST k3
        go_enter Tryz.func41, Tryz.ntmps41
        go_wp2_with fail
        go_ret
        exact ⟨by rw [HQ.out]; rfl, fun h => by rw [HQ.out] at h; exact absurd h (show ¬ ((1 : Int) = 0) by decide), HA3.out⟩
      · go_enter Tryz.func41, Tryz.ntmps41
        have K3 := Lib.hid k3
        have kor : ((x4 == 1) = false) ∨ ((x4 == 1) = true ∧ (x5 == 1) = false) := by
          by_cases h : x4 = 1
          · exact .inr ⟨by simpa using h, by simpa using fun h2 => k3 ⟨h, h2⟩⟩
          · exact .inl (by simpa using h)
        clear k1 k2 k3
        have HUP := Lib.hid (⟨p4, p5⟩ : 1 ≤ x4 ∧ 1 ≤ x5)
        clear p4 p5
        rcases kor with kb3 | ⟨kb3, kb4⟩
        · go_wp2_with fail
          obtain ⟨W0, hW0⟩ : ∃ W0, W0 = ((w.alloc (Obj.cells #[.int .i64 kd, .int .i64 x2, .int .i64 x3, .int .i64 x4, .int .i64 x5, .int .i64 x6, .int .i64 x7, .string tx, .int .i64 y1, .int .i64 y2, .int .i64 y3] 33 (0, 0))).alloc (Obj.cells #[.int .i64 x2, .int .i64 x3, .int .i64 x4, .int .i64 x5] 49 (0, 0))).alloc (.cells #[.func (.func 64) #[] #[.pointer (some ⟨w.heap.size + 1, 0, none⟩)]] 65 (0, 0)) := ⟨_, rfl⟩
          rw [← hW0] at m0 m1 m2 m3 HM HB3 HR ⊢
          have hs0 : W0.heap.size = w.heap.size + 1 + 1 + 1 := by rw [hW0]; exact hs3
          have HA0 : Hid (Below B w W0) := Lib.hid (by rw [hW0]; exact HA3.out)
          clear hW0 hs3 HA3 q1 q2 q3 q4
          have HS0 := Lib.hid hs0
          clear hs0
          have HBW : Hid (B ≤ W0.heap.size) := Lib.hid (by rw [HS0.out]; omega)
          obtain ⟨⟨A1, c1, A2, c2, A3, c3, A4, c4⟩, hh1, u1, u2, u3, u4, hne, hB, hR1⟩ := HE1.out.open
          simp only [] at hh1 u1 u2 u3 u4 hne
          have HA4 : Hid (∀ k, (Value.slice A4 me.length c4).ownBlock = some k → k < w.heap.size + 1) := Lib.hid (fun k hk => by have := own_lt u4 k hk; rw [hsz1] at this; exact this)
          have HA3b : Hid (∀ k, (Value.slice A3 ce.length c3).ownBlock = some k → k < w.heap.size + 1) := Lib.hid (fun k hk => by have := own_lt u3 k hk; rw [hsz1] at this; exact this)
          have hh := blk_below hh1 HB3.out
          have o1 := Ow.below u1 HB3.out
          have o2 := Ow.below u2 HB3.out
          have o3 := Ow.below u3 HB3.out
          have o4 := Ow.below u4 HB3.out
          have hR := hR1.below HB3.out
          clear hh1 u1 u2 u3 u4 hR1
          obtain ⟨p0, p1, p2, p3, p4, f0, f1, f2, f3, f4⟩ := ed5 hh
          simp only [] at p0 p1 p2 p3 p4
          have mm : W0.cell? ⟨w.heap.size + 1 + 1, 0, none⟩ = some (.func (.func 64) #[] #[.pointer (some ⟨w.heap.size + 1, 0, none⟩)]) := by have hm := HM.out; unfold World.cell?; rw [hm]; rfl
          have hwr : WR ⟨x2, x3, x4, x5⟩ := ⟨HX.out.1, HX.out.2.1, HX.out.2.2.1, HX.out.2.2.2.1⟩
          have han := fun W (hb : Below W0.heap.size W0 W) => anyR A4 me.length c4 me (fun q => decide (Mt q ⟨x2, x3, x4, x5⟩)) 64 #[.pointer (some ⟨w.heap.size + 1, 0, none⟩)] (enters_of Tryz.func64 (by kernel_rfl) rfl) W (hR.below hb).h4 (t64 (blk_below HR.out hb) hwr (ws_ok HOK.out).2)
          obtain ⟨an, han0⟩ : ∃ an, an = me.any (fun q => decide (Mt q ⟨x2, x3, x4, x5⟩)) := ⟨_, rfl⟩
          rw [← han0] at han
          have HAN := Lib.hid han
          have HWR := Lib.hid hwr
          have hl1 : (ht.length : Int) ≤ 1000 := by have := HOK.out.htn; simp only [] at this; omega
          have hl2 : (wd.length : Int) ≤ 1000 := by have := HOK.out.wdn; simp only [] at this; omega
          have HST2 : Hid (st = if ¬ (wtB x2 x4 ht.length = true ∧ wtB x3 x5 wd.length = true) then (⟨rt, wd, ht, ce, me⟩, 4) else if an = true then (⟨rt, wd, ht, ce, me⟩, 5) else if me.length = 12 then (⟨rt, wd, ht, ce, me⟩, 3) else (mrg ⟨x2, x3, x4, x5⟩ ⟨rt, wd, ht, ce, me⟩, 0)) := Lib.hid (by
            rw [HST.out, han0]
            show mrgF _ _ = _
            unfold mrgF wtB
            simp only [decide_eq_true_eq]
            rw [if_neg (by have := HUP.out; have := K3.out; show ¬ (x4 < 1 ∨ x5 < 1 ∨ x4 = 1 ∧ x5 = 1); omega)]
            rfl)
          have HHH := Lib.hid hh
          have HO1 := Lib.hid o1
          have HO2 := Lib.hid o2
          have HO3 := Lib.hid o3
          have HO4 := Lib.hid o4
          have HNE := Lib.hid hne
          clear hh o1 o2 o3 o4 hne hR hwr han HST
          have HAZ := Lib.hid han0
          clear han0
          obtain ⟨t1, ht1⟩ : ∃ b, b = wtB x2 x4 ht.length := ⟨_, rfl⟩
          obtain ⟨t2, ht2⟩ : ∃ b, b = wtB x3 x5 wd.length := ⟨_, rfl⟩
          have HWT : Hid (∀ (a m b : Int) (r : Bool), (a = x2 ∧ m = x4 ∧ b = ht.length ∧ r = t1 ∨ a = x3 ∧ m = x5 ∧ b = wd.length ∧ r = t2) → ∀ W, Calls Tryz.prog 65 #[.int .i64 a, .int .i64 m, .int .i64 b] W fun e w' => e = .returned (.bool r) ∧ Below W.heap.size W w') := Lib.hid (by
            rintro a m b r (⟨rfl, rfl, rfl, rfl⟩ | ⟨rfl, rfl, rfl, rfl⟩) W
            · rw [ht1]; exact within_any HX.out.1 HX.out.2.2.1 HUP.out.1 ⟨by omega, hl1⟩ W
            · rw [ht2]; exact within_any HX.out.2.1 HX.out.2.2.2.1 HUP.out.2 ⟨by omega, hl2⟩ W)
          rw [← ht1, ← ht2] at HST2
          clear ht1 ht2 HX hl1 hl2
          cases t1 with
          | false =>
            have HQ : Hid (st = (⟨rt, wd, ht, ce, me⟩, 4)) := Lib.hid (by rw [HST2.out, if_pos (by simp)])
            clear HST2 HAN
            have KS : ∀ w', Below W0.heap.size W0 w' → (w'.cell? ⟨D, 1, none⟩ = some (.slice A1 wd.length c1) ∧ w'.cell? ⟨D, 2, none⟩ = some (.slice A2 ht.length c2) ∧ w'.cell? ⟨D, 4, none⟩ = some (.slice A4 me.length c4) ∧ w'.cell? ⟨w.heap.size + 1, 0, none⟩ = some (.int .i64 x2) ∧ w'.cell? ⟨w.heap.size + 1, 1, none⟩ = some (.int .i64 x3) ∧ w'.cell? ⟨w.heap.size + 1, 2, none⟩ = some (.int .i64 x4) ∧ w'.cell? ⟨w.heap.size + 1, 3, none⟩ = some (.int .i64 x5) ∧ w'.cell? ⟨w.heap.size + 1 + 1, 0, none⟩ = some (.func (.func 64) #[] #[.pointer (some ⟨w.heap.size + 1, 0, none⟩)]) ∧ Below W0.heap.size W0 w') := fun w' hb => ⟨pw_cell_below hb p1, pw_cell_below hb p2, pw_cell_below hb p4, pw_cell_below hb m0, pw_cell_below hb m1, pw_cell_below hb m2, pw_cell_below hb m3, pw_cell_below hb mm, hb⟩
            have HKS := Lib.hid KS
            clear KS
            refine wp_region_noPanic ?_
            refine start_ (n := 27) (S := (fun w' => (w'.cell? ⟨D, 1, none⟩ = some (.slice A1 wd.length c1) ∧ w'.cell? ⟨D, 2, none⟩ = some (.slice A2 ht.length c2) ∧ w'.cell? ⟨D, 4, none⟩ = some (.slice A4 me.length c4) ∧ w'.cell? ⟨w.heap.size + 1, 0, none⟩ = some (.int .i64 x2) ∧ w'.cell? ⟨w.heap.size + 1, 1, none⟩ = some (.int .i64 x3) ∧ w'.cell? ⟨w.heap.size + 1, 2, none⟩ = some (.int .i64 x4) ∧ w'.cell? ⟨w.heap.size + 1, 3, none⟩ = some (.int .i64 x5) ∧ w'.cell? ⟨w.heap.size + 1 + 1, 0, none⟩ = some (.func (.func 64) #[] #[.pointer (some ⟨w.heap.size + 1, 0, none⟩)]) ∧ Below W0.heap.size W0 w'))) (ds := []) (bb 27 0) (by kernel_rfl) rfl rfl (HKS.out _ (below_drew (Below.refl _ _))) (fun hHeld => ?_)
            refine pu_ 0 37 27 1 ?_
            refine ta_ 1 38 27 3 hHeld ?_
            refine pu_ 2 39 27 7 ?_
            refine ta_ 3 40 27 15 hHeld ?_
            refine pu_ 4 41 27 31 ?_
            refine pu_ 5 42 27 63 ?_
            refine pu_ 6 43 27 127 ?_
            refine pu_ 7 44 27 255 ?_
            refine ta_ 8 45 27 511 hHeld ?_
            refine pu_ 9 46 27 1023 ?_
            refine one_ (i := 10) (N := some 47) (bb 27 2047) rfl rfl (by kernel_rfl) (by decide) (fun K hK => ?_)
            go_simp
            go_at_call 65; refine (HWT.out _ _ _ _ (by first | exact .inl ⟨rfl, rfl, rfl, rfl⟩ | exact .inr ⟨rfl, rfl, rfl, rfl⟩) _).mono ?_; rintro e w1 ⟨rfl, hbn⟩
            try go_wp2_with fail
            refine hK.out _ _ ?_ (fun hHeld => ?_)
            · (try dsimp only at hHeld); go_split_ands; exact HKS.out _ (below_then (by assumption) (Below.size (by assumption)) hbn)
            clear hK K
            refine nm_ (some 47) ?_
            refine pu_ 11 48 27 4095 ?_
            refine pu_ 12 49 27 8191 ?_
            refine un_ 13 50 27 16383 ?_
            refine un_ 14 51 27 32767 ?_
            refine un_ 15 52 27 65535 ?_
            refine un_ 16 53 27 131071 ?_
            refine un_ 17 54 27 262143 ?_
            refine un_ 18 55 27 524287 ?_
            refine un_ 19 56 27 1048575 ?_
            refine un_ 20 57 27 2097151 ?_
            refine un_ 21 58 27 4194303 ?_
            refine un_ 22 59 27 8388607 ?_
            refine un_ 23 60 27 16777215 ?_
            refine un_ 24 61 27 33554431 ?_
            refine pu_ 25 62 27 67108863 ?_
            refine pu_ 26 36 27 134217727 ?_
            refine done_ (by kernel_rfl) ?_
            refine NoPanic.normal ?_
            (try dsimp only at hHeld)
            go_split_ands
            go_wp2_with fail
            go_ret
            exact ⟨by rw [HQ.out]; rfl, fun h => by rw [HQ.out] at h; simp at h, below_trans HA0.out (below_mono (by assumption) HBW.out)⟩
          | true =>
            cases t2 with
            | false =>
              have HQ : Hid (st = (⟨rt, wd, ht, ce, me⟩, 4)) := Lib.hid (by rw [HST2.out, if_pos (by simp)])
              clear HST2 HAN
              have KS : ∀ w', Below W0.heap.size W0 w' → (w'.cell? ⟨D, 1, none⟩ = some (.slice A1 wd.length c1) ∧ w'.cell? ⟨D, 2, none⟩ = some (.slice A2 ht.length c2) ∧ w'.cell? ⟨D, 4, none⟩ = some (.slice A4 me.length c4) ∧ w'.cell? ⟨w.heap.size + 1, 0, none⟩ = some (.int .i64 x2) ∧ w'.cell? ⟨w.heap.size + 1, 1, none⟩ = some (.int .i64 x3) ∧ w'.cell? ⟨w.heap.size + 1, 2, none⟩ = some (.int .i64 x4) ∧ w'.cell? ⟨w.heap.size + 1, 3, none⟩ = some (.int .i64 x5) ∧ w'.cell? ⟨w.heap.size + 1 + 1, 0, none⟩ = some (.func (.func 64) #[] #[.pointer (some ⟨w.heap.size + 1, 0, none⟩)]) ∧ Below W0.heap.size W0 w') := fun w' hb => ⟨pw_cell_below hb p1, pw_cell_below hb p2, pw_cell_below hb p4, pw_cell_below hb m0, pw_cell_below hb m1, pw_cell_below hb m2, pw_cell_below hb m3, pw_cell_below hb mm, hb⟩
              have HKS := Lib.hid KS
              clear KS
              go_region_held3 (fun w' => (w'.cell? ⟨D, 1, none⟩ = some (.slice A1 wd.length c1) ∧ w'.cell? ⟨D, 2, none⟩ = some (.slice A2 ht.length c2) ∧ w'.cell? ⟨D, 4, none⟩ = some (.slice A4 me.length c4) ∧ w'.cell? ⟨w.heap.size + 1, 0, none⟩ = some (.int .i64 x2) ∧ w'.cell? ⟨w.heap.size + 1, 1, none⟩ = some (.int .i64 x3) ∧ w'.cell? ⟨w.heap.size + 1, 2, none⟩ = some (.int .i64 x4) ∧ w'.cell? ⟨w.heap.size + 1, 3, none⟩ = some (.int .i64 x5) ∧ w'.cell? ⟨w.heap.size + 1 + 1, 0, none⟩ = some (.func (.func 64) #[] #[.pointer (some ⟨w.heap.size + 1, 0, none⟩)]) ∧ Below W0.heap.size W0 w'))
                (first
                  | exact HKS.out _ (Below.refl _ _)
                  | exact HKS.out _ (below_drew (Below.refl _ _))
                  | (go_split_ands; exact HKS.out _ (below_then (by assumption) (Below.size (by assumption)) hbn))
                  | (go_split_ands; exact HKS.out _ (below_drew (by assumption)))
                  | (go_split_ands; exact HKS.out _ (by assumption)))
                (first
                  | (go_at_call 65; refine (HWT.out _ _ _ _ (by first | exact .inl ⟨rfl, rfl, rfl, rfl⟩ | exact .inr ⟨rfl, rfl, rfl, rfl⟩) _).mono ?_; rintro e w1 ⟨rfl, hbn⟩))
              go_split_ands
              go_wp2_with fail
              go_ret
              exact ⟨by rw [HQ.out]; rfl, fun h => by rw [HQ.out] at h; simp at h, below_trans HA0.out (below_mono (by assumption) HBW.out)⟩
            | true =>
              rw [if_neg (by simp)] at HST2
              cases an with
              | true =>
                have HQ : Hid (st = (⟨rt, wd, ht, ce, me⟩, 5)) := Lib.hid (by rw [HST2.out, if_pos rfl])
                clear HST2
                have KS : ∀ w', Below W0.heap.size W0 w' → (w'.cell? ⟨D, 1, none⟩ = some (.slice A1 wd.length c1) ∧ w'.cell? ⟨D, 2, none⟩ = some (.slice A2 ht.length c2) ∧ w'.cell? ⟨D, 4, none⟩ = some (.slice A4 me.length c4) ∧ w'.cell? ⟨w.heap.size + 1, 0, none⟩ = some (.int .i64 x2) ∧ w'.cell? ⟨w.heap.size + 1, 1, none⟩ = some (.int .i64 x3) ∧ w'.cell? ⟨w.heap.size + 1, 2, none⟩ = some (.int .i64 x4) ∧ w'.cell? ⟨w.heap.size + 1, 3, none⟩ = some (.int .i64 x5) ∧ w'.cell? ⟨w.heap.size + 1 + 1, 0, none⟩ = some (.func (.func 64) #[] #[.pointer (some ⟨w.heap.size + 1, 0, none⟩)]) ∧ Below W0.heap.size W0 w') := fun w' hb => ⟨pw_cell_below hb p1, pw_cell_below hb p2, pw_cell_below hb p4, pw_cell_below hb m0, pw_cell_below hb m1, pw_cell_below hb m2, pw_cell_below hb m3, pw_cell_below hb mm, hb⟩
                have HKS := Lib.hid KS
                clear KS
                go_region_held3 (fun w' => (w'.cell? ⟨D, 1, none⟩ = some (.slice A1 wd.length c1) ∧ w'.cell? ⟨D, 2, none⟩ = some (.slice A2 ht.length c2) ∧ w'.cell? ⟨D, 4, none⟩ = some (.slice A4 me.length c4) ∧ w'.cell? ⟨w.heap.size + 1, 0, none⟩ = some (.int .i64 x2) ∧ w'.cell? ⟨w.heap.size + 1, 1, none⟩ = some (.int .i64 x3) ∧ w'.cell? ⟨w.heap.size + 1, 2, none⟩ = some (.int .i64 x4) ∧ w'.cell? ⟨w.heap.size + 1, 3, none⟩ = some (.int .i64 x5) ∧ w'.cell? ⟨w.heap.size + 1 + 1, 0, none⟩ = some (.func (.func 64) #[] #[.pointer (some ⟨w.heap.size + 1, 0, none⟩)]) ∧ Below W0.heap.size W0 w'))
                  (first
                    | exact HKS.out _ (Below.refl _ _)
                    | exact HKS.out _ (below_drew (Below.refl _ _))
                    | (go_split_ands; exact HKS.out _ (below_then (by assumption) (Below.size (by assumption)) hbn))
                    | (go_split_ands; exact HKS.out _ (below_drew (by assumption)))
                    | (go_split_ands; exact HKS.out _ (by assumption)))
                  (first
                    | (go_at_call 65; refine (HWT.out _ _ _ _ (by first | exact .inl ⟨rfl, rfl, rfl, rfl⟩ | exact .inr ⟨rfl, rfl, rfl, rfl⟩) _).mono ?_; rintro e w1 ⟨rfl, hbn⟩))
                go_split_ands
                go_wp2_with fail
                go_region_held3 (fun w' => (w'.cell? ⟨D, 1, none⟩ = some (.slice A1 wd.length c1) ∧ w'.cell? ⟨D, 2, none⟩ = some (.slice A2 ht.length c2) ∧ w'.cell? ⟨D, 4, none⟩ = some (.slice A4 me.length c4) ∧ w'.cell? ⟨w.heap.size + 1, 0, none⟩ = some (.int .i64 x2) ∧ w'.cell? ⟨w.heap.size + 1, 1, none⟩ = some (.int .i64 x3) ∧ w'.cell? ⟨w.heap.size + 1, 2, none⟩ = some (.int .i64 x4) ∧ w'.cell? ⟨w.heap.size + 1, 3, none⟩ = some (.int .i64 x5) ∧ w'.cell? ⟨w.heap.size + 1 + 1, 0, none⟩ = some (.func (.func 64) #[] #[.pointer (some ⟨w.heap.size + 1, 0, none⟩)]) ∧ Below W0.heap.size W0 w'))
                  (first
                    | exact HKS.out _ (Below.refl _ _)
                    | exact HKS.out _ (below_drew (Below.refl _ _))
                    | (go_split_ands; exact HKS.out _ (below_then (by assumption) (Below.size (by assumption)) hbn))
                    | (go_split_ands; exact HKS.out _ (below_drew (by assumption)))
                    | (go_split_ands; exact HKS.out _ (by assumption))
                    | skip)
                  (first
                    | (go_at_call 26; go_split_ands; refine (HAN.out _ (by assumption)).mono ?_; rintro e w1 ⟨rfl, hbn⟩))
                go_split_ands
                go_wp2_with fail
                go_ret
                exact ⟨by rw [HQ.out]; rfl, fun h => by rw [HQ.out] at h; simp at h, below_trans HA0.out (below_mono (by assumption) HBW.out)⟩
              | false =>
                rw [if_neg (by simp)] at HST2
                by_cases hz : me.length = 12
                · have hzb : ((me.length : Int) == 12) = true := by simpa using (show (me.length : Int) = 12 by omega)
                  have HQ : Hid (st = (⟨rt, wd, ht, ce, me⟩, 3)) := Lib.hid (by rw [HST2.out, if_pos hz])
                  clear HST2 hz
                  have KS : ∀ w', Below W0.heap.size W0 w' → (w'.cell? ⟨D, 1, none⟩ = some (.slice A1 wd.length c1) ∧ w'.cell? ⟨D, 2, none⟩ = some (.slice A2 ht.length c2) ∧ w'.cell? ⟨D, 4, none⟩ = some (.slice A4 me.length c4) ∧ w'.cell? ⟨w.heap.size + 1, 0, none⟩ = some (.int .i64 x2) ∧ w'.cell? ⟨w.heap.size + 1, 1, none⟩ = some (.int .i64 x3) ∧ w'.cell? ⟨w.heap.size + 1, 2, none⟩ = some (.int .i64 x4) ∧ w'.cell? ⟨w.heap.size + 1, 3, none⟩ = some (.int .i64 x5) ∧ w'.cell? ⟨w.heap.size + 1 + 1, 0, none⟩ = some (.func (.func 64) #[] #[.pointer (some ⟨w.heap.size + 1, 0, none⟩)]) ∧ Below W0.heap.size W0 w') := fun w' hb => ⟨pw_cell_below hb p1, pw_cell_below hb p2, pw_cell_below hb p4, pw_cell_below hb m0, pw_cell_below hb m1, pw_cell_below hb m2, pw_cell_below hb m3, pw_cell_below hb mm, hb⟩
                  have HKS := Lib.hid KS
                  clear KS
                  go_region_held3 (fun w' => (w'.cell? ⟨D, 1, none⟩ = some (.slice A1 wd.length c1) ∧ w'.cell? ⟨D, 2, none⟩ = some (.slice A2 ht.length c2) ∧ w'.cell? ⟨D, 4, none⟩ = some (.slice A4 me.length c4) ∧ w'.cell? ⟨w.heap.size + 1, 0, none⟩ = some (.int .i64 x2) ∧ w'.cell? ⟨w.heap.size + 1, 1, none⟩ = some (.int .i64 x3) ∧ w'.cell? ⟨w.heap.size + 1, 2, none⟩ = some (.int .i64 x4) ∧ w'.cell? ⟨w.heap.size + 1, 3, none⟩ = some (.int .i64 x5) ∧ w'.cell? ⟨w.heap.size + 1 + 1, 0, none⟩ = some (.func (.func 64) #[] #[.pointer (some ⟨w.heap.size + 1, 0, none⟩)]) ∧ Below W0.heap.size W0 w'))
                    (first
                      | exact HKS.out _ (Below.refl _ _)
                      | exact HKS.out _ (below_drew (Below.refl _ _))
                      | (go_split_ands; exact HKS.out _ (below_then (by assumption) (Below.size (by assumption)) hbn))
                      | (go_split_ands; exact HKS.out _ (below_drew (by assumption)))
                      | (go_split_ands; exact HKS.out _ (by assumption)))
                    (first
                      | (go_at_call 65; refine (HWT.out _ _ _ _ (by first | exact .inl ⟨rfl, rfl, rfl, rfl⟩ | exact .inr ⟨rfl, rfl, rfl, rfl⟩) _).mono ?_; rintro e w1 ⟨rfl, hbn⟩))
                  go_split_ands
                  go_wp2_with fail
                  go_region_held3 (fun w' => (w'.cell? ⟨D, 1, none⟩ = some (.slice A1 wd.length c1) ∧ w'.cell? ⟨D, 2, none⟩ = some (.slice A2 ht.length c2) ∧ w'.cell? ⟨D, 4, none⟩ = some (.slice A4 me.length c4) ∧ w'.cell? ⟨w.heap.size + 1, 0, none⟩ = some (.int .i64 x2) ∧ w'.cell? ⟨w.heap.size + 1, 1, none⟩ = some (.int .i64 x3) ∧ w'.cell? ⟨w.heap.size + 1, 2, none⟩ = some (.int .i64 x4) ∧ w'.cell? ⟨w.heap.size + 1, 3, none⟩ = some (.int .i64 x5) ∧ w'.cell? ⟨w.heap.size + 1 + 1, 0, none⟩ = some (.func (.func 64) #[] #[.pointer (some ⟨w.heap.size + 1, 0, none⟩)]) ∧ Below W0.heap.size W0 w'))
                    (first
                      | exact HKS.out _ (Below.refl _ _)
                      | exact HKS.out _ (below_drew (Below.refl _ _))
                      | (go_split_ands; exact HKS.out _ (below_then (by assumption) (Below.size (by assumption)) hbn))
                      | (go_split_ands; exact HKS.out _ (below_drew (by assumption)))
                      | (go_split_ands; exact HKS.out _ (by assumption))
                      | skip)
                    (first
                      | (go_at_call 26; go_split_ands; refine (HAN.out _ (by assumption)).mono ?_; rintro e w1 ⟨rfl, hbn⟩))
                  go_split_ands
                  go_wp2_with fail
                  go_ret
                  exact ⟨by rw [HQ.out]; rfl, fun h => by rw [HQ.out] at h; simp at h, below_trans HA0.out (below_mono (by assumption) HBW.out)⟩
                · have hzb : ((me.length : Int) == 12) = false := by simpa using (show ¬ (me.length : Int) = 12 by omega)
                  have HQ : Hid (st = (mrg ⟨x2, x3, x4, x5⟩ ⟨rt, wd, ht, ce, me⟩, 0)) := Lib.hid (by rw [HST2.out, if_neg hz])
                  clear HST2
                  have HZ := Lib.hid hz
                  clear hz
                  have KS : ∀ w', Below W0.heap.size W0 w' → (w'.cell? ⟨D, 1, none⟩ = some (.slice A1 wd.length c1) ∧ w'.cell? ⟨D, 2, none⟩ = some (.slice A2 ht.length c2) ∧ w'.cell? ⟨D, 4, none⟩ = some (.slice A4 me.length c4) ∧ w'.cell? ⟨w.heap.size + 1, 0, none⟩ = some (.int .i64 x2) ∧ w'.cell? ⟨w.heap.size + 1, 1, none⟩ = some (.int .i64 x3) ∧ w'.cell? ⟨w.heap.size + 1, 2, none⟩ = some (.int .i64 x4) ∧ w'.cell? ⟨w.heap.size + 1, 3, none⟩ = some (.int .i64 x5) ∧ w'.cell? ⟨w.heap.size + 1 + 1, 0, none⟩ = some (.func (.func 64) #[] #[.pointer (some ⟨w.heap.size + 1, 0, none⟩)]) ∧ Below W0.heap.size W0 w') := fun w' hb => ⟨pw_cell_below hb p1, pw_cell_below hb p2, pw_cell_below hb p4, pw_cell_below hb m0, pw_cell_below hb m1, pw_cell_below hb m2, pw_cell_below hb m3, pw_cell_below hb mm, hb⟩
                  have HKS := Lib.hid KS
                  clear KS
                  go_region_held3 (fun w' => (w'.cell? ⟨D, 1, none⟩ = some (.slice A1 wd.length c1) ∧ w'.cell? ⟨D, 2, none⟩ = some (.slice A2 ht.length c2) ∧ w'.cell? ⟨D, 4, none⟩ = some (.slice A4 me.length c4) ∧ w'.cell? ⟨w.heap.size + 1, 0, none⟩ = some (.int .i64 x2) ∧ w'.cell? ⟨w.heap.size + 1, 1, none⟩ = some (.int .i64 x3) ∧ w'.cell? ⟨w.heap.size + 1, 2, none⟩ = some (.int .i64 x4) ∧ w'.cell? ⟨w.heap.size + 1, 3, none⟩ = some (.int .i64 x5) ∧ w'.cell? ⟨w.heap.size + 1 + 1, 0, none⟩ = some (.func (.func 64) #[] #[.pointer (some ⟨w.heap.size + 1, 0, none⟩)]) ∧ Below W0.heap.size W0 w'))
                    (first
                      | exact HKS.out _ (Below.refl _ _)
                      | exact HKS.out _ (below_drew (Below.refl _ _))
                      | (go_split_ands; exact HKS.out _ (below_then (by assumption) (Below.size (by assumption)) hbn))
                      | (go_split_ands; exact HKS.out _ (below_drew (by assumption)))
                      | (go_split_ands; exact HKS.out _ (by assumption)))
                    (first
                      | (go_at_call 65; refine (HWT.out _ _ _ _ (by first | exact .inl ⟨rfl, rfl, rfl, rfl⟩ | exact .inr ⟨rfl, rfl, rfl, rfl⟩) _).mono ?_; rintro e w1 ⟨rfl, hbn⟩))
                  go_split_ands
                  go_wp2_with fail
                  go_region_held3 (fun w' => (w'.cell? ⟨D, 1, none⟩ = some (.slice A1 wd.length c1) ∧ w'.cell? ⟨D, 2, none⟩ = some (.slice A2 ht.length c2) ∧ w'.cell? ⟨D, 4, none⟩ = some (.slice A4 me.length c4) ∧ w'.cell? ⟨w.heap.size + 1, 0, none⟩ = some (.int .i64 x2) ∧ w'.cell? ⟨w.heap.size + 1, 1, none⟩ = some (.int .i64 x3) ∧ w'.cell? ⟨w.heap.size + 1, 2, none⟩ = some (.int .i64 x4) ∧ w'.cell? ⟨w.heap.size + 1, 3, none⟩ = some (.int .i64 x5) ∧ w'.cell? ⟨w.heap.size + 1 + 1, 0, none⟩ = some (.func (.func 64) #[] #[.pointer (some ⟨w.heap.size + 1, 0, none⟩)]) ∧ Below W0.heap.size W0 w'))
                    (first
                      | exact HKS.out _ (Below.refl _ _)
                      | exact HKS.out _ (below_drew (Below.refl _ _))
                      | (go_split_ands; exact HKS.out _ (below_then (by assumption) (Below.size (by assumption)) hbn))
                      | (go_split_ands; exact HKS.out _ (below_drew (by assumption)))
                      | (go_split_ands; exact HKS.out _ (by assumption))
                      | skip)
                    (first
                      | (go_at_call 26; go_split_ands; refine (HAN.out _ (by assumption)).mono ?_; rintro e w1 ⟨rfl, hbn⟩))
                  go_split_ands
                  go_wp2_with fail
                  have hbd : Below W0.heap.size W0 w1.drew := below_drew (by assumption)
                  have HBD := Lib.hid hbd
                  have HKT : Hid (∀ W, Below W0.heap.size W0 W → (W.cell? ⟨D, 1, none⟩ = some (.slice A1 wd.length c1) ∧ W.cell? ⟨D, 2, none⟩ = some (.slice A2 ht.length c2) ∧ W.cell? ⟨D, 4, none⟩ = some (.slice A4 me.length c4) ∧ W.cell? ⟨w.heap.size + 1, 0, none⟩ = some (.int .i64 x2) ∧ W.cell? ⟨w.heap.size + 1, 1, none⟩ = some (.int .i64 x3) ∧ W.cell? ⟨w.heap.size + 1, 2, none⟩ = some (.int .i64 x4) ∧ W.cell? ⟨w.heap.size + 1, 3, none⟩ = some (.int .i64 x5) ∧ W.cell? ⟨w.heap.size + 1 + 1, 0, none⟩ = some (.func (.func 64) #[] #[.pointer (some ⟨w.heap.size + 1, 0, none⟩)]))) := Lib.hid (fun W hb => by have h := HKS.out W hb; go_split_ands; exact ⟨by assumption, by assumption, by assumption, by assumption, by assumption, by assumption, by assumption, by assumption⟩)
                  obtain ⟨me2, hme2⟩ : ∃ m, m = me ++ [⟨x2, x3, x4, x5⟩] := ⟨_, rfl⟩
                  have hml : me.length + 1 = me2.length := by rw [hme2, List.length_append]; rfl
                  have hmel : me.length ≤ 1000 := Nat.le_trans HOK.out.men (by decide)
                  have HME2 := Lib.hid hme2
                  clear HAN hme2
                  refine wp_region_noPanic ?_
                  refine start_ (n := 13) (S := (fun w' => w'.cell? ⟨D, 1, none⟩ = some (.slice A1 wd.length c1) ∧ w'.cell? ⟨D, 2, none⟩ = some (.slice A2 ht.length c2) ∧ w'.cell? ⟨D, 4, none⟩ = some (.slice A4 me.length c4) ∧ w'.cell? ⟨w.heap.size + 1, 0, none⟩ = some (.int .i64 x2) ∧ w'.cell? ⟨w.heap.size + 1, 1, none⟩ = some (.int .i64 x3) ∧ w'.cell? ⟨w.heap.size + 1, 2, none⟩ = some (.int .i64 x4) ∧ w'.cell? ⟨w.heap.size + 1, 3, none⟩ = some (.int .i64 x5) ∧ w'.cell? ⟨w.heap.size + 1 + 1, 0, none⟩ = some (.func (.func 64) #[] #[.pointer (some ⟨w.heap.size + 1, 0, none⟩)]))) (ds := [12]) (bb 13 0) (by kernel_rfl) rfl rfl (HKT.out _ HBD.out) (fun hHeld => ?_)
                  refine pu_ 0 79 13 1 ?_
                  refine pu_ 1 80 13 3 ?_
                  refine pu_ 2 81 13 7 ?_
                  refine pu_ 3 82 13 15 ?_
                  refine pu_ 4 83 13 31 ?_
                  refine ta_ 5 84 13 63 hHeld ?_
                  refine ta_ 6 85 13 127 hHeld ?_
                  refine one_ (i := 7) (N := some 86) (bb 13 255) rfl rfl (by kernel_rfl) (by decide) (fun K hK => ?_)
                  go_simp
                  refine hK.out _ _ (HKT.out _ (below_alloc HBD.out _)) (fun hHeld => ?_)
                  clear hK K
                  refine nm_ (some 86) ?_
                  refine one_ (i := 8) (N := some 87) (bb 13 511) rfl rfl (by kernel_rfl) (by decide) (fun K hK => ?_)
                  refine step_appR rfl (.tmp 84) (.tmp 86) rfl (B := B) (g := w1.drew.heap.size) (r := ⟨x2, x3, x4, x5⟩) rfl rfl (blk_new _ _) (Ow.below HO4.out (below_alloc HBD.out _)) hmel (Nat.le_trans HBW.out (below_alloc HBD.out _).size) ?_
                  intro A5 c5 w2 hov hgv hob
                  rw [← HME2.out, hml] at hov
                  rw [hml] at hob ⊢
                  have hq := below_alloc HBD.out (Obj.cells #[.int .i64 x2, .int .i64 x3, .int .i64 x4, .int .i64 x5] 49 (0, 0))
                  have hDn := own_ne (Ow.below HO4.out hq) (blk_below HHH.out hq) (by decide)
                  have hh2 := blk_grown (blk_below HHH.out hq) hgv hDn
                  have hrn : some (w.heap.size + 1) ≠ (Value.slice A4 me.length c4).ownBlock := fun e => by have := HA4.out _ e.symm; omega
                  have hmn : some (w.heap.size + 1 + 1) ≠ (Value.slice A4 me.length c4).ownBlock := fun e => by have := HA4.out _ e.symm; omega
                  have hr2 := blk_grown (blk_below HR.out hq) hgv hrn
                  have hm2 := blk_grown (blk_below HM.out hq) hgv hmn
                  have HO1b := Lib.hid (own_other (Ow.below HO1.out hq) hgv (own_apart (Ow.below HO1.out hq) (Ow.below HO4.out hq) (by decide)))
                  have HO2b := Lib.hid (own_other (Ow.below HO2.out hq) hgv (own_apart (Ow.below HO2.out hq) (Ow.below HO4.out hq) (by decide)))
                  have HO3b := Lib.hid (own_other (Ow.below HO3.out hq) hgv (own_apart (Ow.below HO3.out hq) (Ow.below HO4.out hq) (by decide)))
                  have HO4b := Lib.hid hov
                  have HHb := Lib.hid hh2
                  have HRb := Lib.hid hr2
                  have HMb := Lib.hid hm2
                  have HBb : Hid (Below B w w2) := Lib.hid (below_trans HA0.out ((below_mono hq HBW.out).grown hgv (Nat.le_trans HBW.out hq.size) (own_base (Ow.below HO4.out hq))))
                  obtain ⟨p0, p1, p2, p3, p4, f0, f1, f2, f3, f4⟩ := ed5 hh2
                  (try simp only [] at p0 p1 p2 p3 p4)
                  obtain ⟨m0, m1, m2, m3⟩ := four (r := ⟨x2, x3, x4, x5⟩) hr2
                  have mm : w2.cell? ⟨w.heap.size + 1 + 1, 0, none⟩ = some (.func (.func 64) #[] #[.pointer (some ⟨w.heap.size + 1, 0, none⟩)]) := by unfold World.cell?; rw [hm2]; rfl
                  have HOB := Lib.hid hob
                  clear hq hDn hh2 hrn hmn hr2 hm2 hov hob hgv
                  have HPF := Lib.hid (⟨p4, f4⟩ : _ ∧ _)
                  refine hK.out _ _ ⟨p1, p2, p4, m0, m1, m2, m3, mm⟩ (fun hHeld => ?_)
                  clear hHeld p0 p1 p2 p3 p4 f0 f1 f2 f3 f4 m0 m1 m2 m3 mm
                  clear hK K
                  refine nm_ (some 87) ?_
                  refine pu_ 9 88 13 1023 ?_
                  refine pu_ 10 89 13 2047 ?_
                  refine pu_ 11 90 13 4095 ?_
                  refine last_ (i := 12) (N := none) (bb 13 8191) rfl rfl (by kernel_rfl) (by decide) (fun K hK => ?_)
                  obtain ⟨p4, f4⟩ := HPF.out
                  go_simp
                  refine hK.out _ _ ?_
                  refine done_ (by kernel_rfl) ?_
                  refine NoPanic.normal ?_
                  have hn5 : ∀ k, (Value.slice A5 me2.length c5).ownBlock = some k → k ≠ w.heap.size + 1 ∧ k ≠ w.heap.size + 1 + 1 := fun k hk => by
                    rcases HOB.out with e | e
                    · have := HA4.out k (e ▸ hk); omega
                    · rw [hk] at e
                      have e' := Option.some.inj e
                      have h1 := HS0.out
                      have h2 := (below_alloc HBD.out (Obj.cells #[.int .i64 x2, .int .i64 x3, .int .i64 x4, .int .i64 x5] 49 (0, 0))).size
                      have h3 : (w1.alloc (Obj.cells #[.int .i64 x2, .int .i64 x3, .int .i64 x4, .int .i64 x5] 49 (0, 0))).drew.heap.size = w1.heap.size + 1 := Array.size_push ..
                      have h4 : W0.heap.size ≤ w1.heap.size := HBD.out.size
                      rw [h3] at e'
                      omega
                  have HN5 := Lib.hid hn5
                  have h3 : (w2.setCell ⟨D, 4, none⟩ (.slice A5 me2.length c5)).heap[D]? = some (.cells (shv ⟨A1, c1, A2, c2, A3, c3, A5, c5⟩ ⟨rt, wd, ht, ce, me2⟩) 53 (0, 0)) := blk_put HHb.out 4 _ rfl
                  have k1 := (show OwI w2 B _ wd from HO1b.out).set (i := 4) (v := .slice A5 me2.length c5) HHb.out (by decide)
                  have k2 := (show OwI w2 B _ ht from HO2b.out).set (i := 4) (v := .slice A5 me2.length c5) HHb.out (by decide)
                  have k3 := (show OwC w2 B _ ce from HO3b.out).set (i := 4) (v := .slice A5 me2.length c5) HHb.out (by decide)
                  have k4 := HO4b.out.set (i := 4) (v := .slice A5 me2.length c5) HHb.out (by decide)
                  have HRc := Lib.hid (blk_far HRb.out (p := ⟨D, 4, none⟩) (blk_ne HRb.out HHb.out (by decide)) (.slice A5 me2.length c5))
                  have HMc := Lib.hid (blk_far HMb.out (p := ⟨D, 4, none⟩) (blk_ne HMb.out HHb.out (by decide)) (.slice A5 me2.length c5))
                  have HBc : Hid (Below B w (w2.setCell ⟨D, 4, none⟩ (.slice A5 me2.length c5))) := Lib.hid (HBb.out.setCell (p := ⟨D, 4, none⟩) hB _)
                  have hm0 : ∀ q ∈ me, ¬ Mt q ⟨x2, x3, x4, x5⟩ := fun q hq hm => by
                    have h := HAZ.out
                    rw [eq_comm, List.any_eq_false] at h
                    exact h q hq (by simpa using hm)
                  have hds : Dst ⟨rt, wd, ht, ce, me2⟩ := by rw [HME2.out]; exact dst_mrg HOK.out hm0 HUP.out.1 HUP.out.2
                  have hwr : WR ⟨x2, x3, x4, x5⟩ := HWR.out
                  have hce := cen HOK.out
                  have hwc := (ws_ok HOK.out).1
                  simp only [] at hce hwc
                  have H66 := Lib.hid (sort_open h3 k1 k2 k3 k4 hB hds)
                  have HCE : Hid (srtC ce = ce) := Lib.hid (srtC_id HOK.out.ceS)
                  have H67 := Lib.hid (fun (W : World) (o : OwC W B (.slice A3 ce.length c3) ce) (hr : W.heap[w.heap.size + 1]? = some (Obj.cells #[.int .i64 x2, .int .i64 x3, .int .i64 x4, .int .i64 x5] 49 (0, 0))) (hm : W.heap[w.heap.size + 1 + 1]? = some (.cells #[.func (.func 64) #[] #[.pointer (some ⟨w.heap.size + 1, 0, none⟩)]] 65 (0, 0))) =>
                    deleC_any (gon ⟨x2, x3, x4, x5⟩) 68 #[.pointer (some ⟨w.heap.size + 1, 0, none⟩), .pointer (some ⟨w.heap.size + 1 + 1, 0, none⟩)] (enters_of Tryz.func68 (by kernel_rfl) rfl) o (by omega)
                      (fun W' x hx hgr => t68 (l := ce) (blk_grown (o := (Obj.cells #[.int .i64 x2, .int .i64 x3, .int .i64 x4, .int .i64 x5] 49 (0, 0))) hr hgr (fun e => by have := HA3b.out _ e.symm; omega)) (blk_grown hm hgr (fun e => by have := HA3b.out _ e.symm; omega)) hwr hwc W' x hx (Below.refl _ _)))
                  clear h3 k1 k2 k3 k4 hm0 hds hwr hce hwc hn5
                  go_wp2_with (first
                    | (go_at_call 66; refine H66.out.mono ?_; rintro e w5 ⟨rfl, hh5, l1, l2, l3, l4, lb, wm, lg1, lg2⟩; rw [HCE.out] at l3; have hr5 := blk_grown (blk_grown HRc.out lg1 (fun e => by have := HA3b.out _ e.symm; omega)) lg2 (fun e => (HN5.out _ e.symm).1 rfl); have hm5 := blk_grown (blk_grown HMc.out lg1 (fun e => by have := HA3b.out _ e.symm; omega)) lg2 (fun e => (HN5.out _ e.symm).2 rfl); have HH5 := Lib.hid hh5; have L1 := Lib.hid l1; have L2 := Lib.hid l2; have L3 := Lib.hid l3; have L4 := Lib.hid l4; have LB := Lib.hid lb; have HR5 := Lib.hid hr5; have HM5 := Lib.hid hm5; obtain ⟨p0, p1, p2, p3, p4, f0, f1, f2, f3, f4⟩ := ed5 hh5; (try simp only [] at p0 p1 p2 p3 p4); clear hh5 l1 l2 l3 l4 lb lg1 lg2 hr5 hm5)
                    | (go_at_call 67; refine (H67.out _ L3.out HR5.out HM5.out).mono ?_; rintro e w6 ⟨v, rfl, hov, hgv, hvb⟩; obtain ⟨Av, cv, rfl⟩ := ow_slice hov; obtain ⟨p0, p1, p2, p3, p4, f0, f1, f2, f3, f4⟩ := ed5 (blk_grown HH5.out hgv (own_ne L3.out HH5.out (by decide))); (try simp only [] at p0 p1 p2 p3 p4); have HV := Lib.hid (And.intro hov hgv); clear hov hgv hvb))
                  go_ret
                  obtain ⟨hov, hgv⟩ := HV.out
                  have h6 := blk_grown HH5.out hgv (own_ne L3.out HH5.out (by decide))
                  have q1 : OwI w6 B _ wd := own_other L1.out hgv (own_apart L1.out L3.out (by decide))
                  have q2 : OwI w6 B _ ht := own_other L2.out hgv (own_apart L2.out L3.out (by decide))
                  have q4 : OwR w6 B _ (srtR me2) := own_other L4.out hgv (own_apart L4.out L3.out (by decide))
                  have hlt := blk_lt HH5.out
                  refine ⟨by rw [HQ.out]; rfl, fun _ => ?_, below_trans HBc.out (below_trans LB.out (((Below.refl B _).grown hgv (by omega) (own_base L3.out)).setCell (p := ⟨D, 3, none⟩) hB _))⟩
                  rw [HQ.out]
                  show Ed _ B D ⟨rt, wd, ht, ce.filter _, srtR (me ++ [⟨x2, x3, x4, x5⟩])⟩
                  rw [← HME2.out]
                  refine ⟨_, _, _, _, blk_put h6 3 _ rfl, q1.set h6 (by decide), q2.set h6 (by decide), ?_, q4.set h6 (by decide), HNE.out, hB⟩
                  have hfe : (fun c : S44 => decide (¬ ((c.f0 ≠ x2 ∨ c.f1 ≠ x3) ∧ Mt ⟨c.f0, c.f1, 1, 1⟩ ⟨x2, x3, x4, x5⟩))) = fun x => !gon ⟨x2, x3, x4, x5⟩ x := by
                    funext c; unfold gon; rw [decide_not]
                  show OwC _ B _ (ce.filter fun c => decide (¬ ((c.f0 ≠ x2 ∨ c.f1 ≠ x3) ∧ Mt ⟨c.f0, c.f1, 1, 1⟩ ⟨x2, x3, x4, x5⟩)))
                  rw [hfe]
                  exact hov.set h6 (by decide)
        · go_wp2_with fail
          obtain ⟨W0, hW0⟩ : ∃ W0, W0 = ((w.alloc (Obj.cells #[.int .i64 kd, .int .i64 x2, .int .i64 x3, .int .i64 x4, .int .i64 x5, .int .i64 x6, .int .i64 x7, .string tx, .int .i64 y1, .int .i64 y2, .int .i64 y3] 33 (0, 0))).alloc (Obj.cells #[.int .i64 x2, .int .i64 x3, .int .i64 x4, .int .i64 x5] 49 (0, 0))).alloc (.cells #[.func (.func 64) #[] #[.pointer (some ⟨w.heap.size + 1, 0, none⟩)]] 65 (0, 0)) := ⟨_, rfl⟩
          rw [← hW0] at m0 m1 m2 m3 HM HB3 HR ⊢
          have hs0 : W0.heap.size = w.heap.size + 1 + 1 + 1 := by rw [hW0]; exact hs3
          have HA0 : Hid (Below B w W0) := Lib.hid (by rw [hW0]; exact HA3.out)
          clear hW0 hs3 HA3 q1 q2 q3 q4
          have HS0 := Lib.hid hs0
          clear hs0
          have HBW : Hid (B ≤ W0.heap.size) := Lib.hid (by rw [HS0.out]; omega)
          obtain ⟨⟨A1, c1, A2, c2, A3, c3, A4, c4⟩, hh1, u1, u2, u3, u4, hne, hB, hR1⟩ := HE1.out.open
          simp only [] at hh1 u1 u2 u3 u4 hne
          have HA4 : Hid (∀ k, (Value.slice A4 me.length c4).ownBlock = some k → k < w.heap.size + 1) := Lib.hid (fun k hk => by have := own_lt u4 k hk; rw [hsz1] at this; exact this)
          have HA3b : Hid (∀ k, (Value.slice A3 ce.length c3).ownBlock = some k → k < w.heap.size + 1) := Lib.hid (fun k hk => by have := own_lt u3 k hk; rw [hsz1] at this; exact this)
          have hh := blk_below hh1 HB3.out
          have o1 := Ow.below u1 HB3.out
          have o2 := Ow.below u2 HB3.out
          have o3 := Ow.below u3 HB3.out
          have o4 := Ow.below u4 HB3.out
          have hR := hR1.below HB3.out
          clear hh1 u1 u2 u3 u4 hR1
          obtain ⟨p0, p1, p2, p3, p4, f0, f1, f2, f3, f4⟩ := ed5 hh
          simp only [] at p0 p1 p2 p3 p4
          have mm : W0.cell? ⟨w.heap.size + 1 + 1, 0, none⟩ = some (.func (.func 64) #[] #[.pointer (some ⟨w.heap.size + 1, 0, none⟩)]) := by have hm := HM.out; unfold World.cell?; rw [hm]; rfl
          have hwr : WR ⟨x2, x3, x4, x5⟩ := ⟨HX.out.1, HX.out.2.1, HX.out.2.2.1, HX.out.2.2.2.1⟩
          have han := fun W (hb : Below W0.heap.size W0 W) => anyR A4 me.length c4 me (fun q => decide (Mt q ⟨x2, x3, x4, x5⟩)) 64 #[.pointer (some ⟨w.heap.size + 1, 0, none⟩)] (enters_of Tryz.func64 (by kernel_rfl) rfl) W (hR.below hb).h4 (t64 (blk_below HR.out hb) hwr (ws_ok HOK.out).2)
          obtain ⟨an, han0⟩ : ∃ an, an = me.any (fun q => decide (Mt q ⟨x2, x3, x4, x5⟩)) := ⟨_, rfl⟩
          rw [← han0] at han
          have HAN := Lib.hid han
          have HWR := Lib.hid hwr
          have hl1 : (ht.length : Int) ≤ 1000 := by have := HOK.out.htn; simp only [] at this; omega
          have hl2 : (wd.length : Int) ≤ 1000 := by have := HOK.out.wdn; simp only [] at this; omega
          have HST2 : Hid (st = if ¬ (wtB x2 x4 ht.length = true ∧ wtB x3 x5 wd.length = true) then (⟨rt, wd, ht, ce, me⟩, 4) else if an = true then (⟨rt, wd, ht, ce, me⟩, 5) else if me.length = 12 then (⟨rt, wd, ht, ce, me⟩, 3) else (mrg ⟨x2, x3, x4, x5⟩ ⟨rt, wd, ht, ce, me⟩, 0)) := Lib.hid (by
            rw [HST.out, han0]
            show mrgF _ _ = _
            unfold mrgF wtB
            simp only [decide_eq_true_eq]
            rw [if_neg (by have := HUP.out; have := K3.out; show ¬ (x4 < 1 ∨ x5 < 1 ∨ x4 = 1 ∧ x5 = 1); omega)]
            rfl)
          have HHH := Lib.hid hh
          have HO1 := Lib.hid o1
          have HO2 := Lib.hid o2
          have HO3 := Lib.hid o3
          have HO4 := Lib.hid o4
          have HNE := Lib.hid hne
          clear hh o1 o2 o3 o4 hne hR hwr han HST
          have HAZ := Lib.hid han0
          clear han0
          obtain ⟨t1, ht1⟩ : ∃ b, b = wtB x2 x4 ht.length := ⟨_, rfl⟩
          obtain ⟨t2, ht2⟩ : ∃ b, b = wtB x3 x5 wd.length := ⟨_, rfl⟩
          have HWT : Hid (∀ (a m b : Int) (r : Bool), (a = x2 ∧ m = x4 ∧ b = ht.length ∧ r = t1 ∨ a = x3 ∧ m = x5 ∧ b = wd.length ∧ r = t2) → ∀ W, Calls Tryz.prog 65 #[.int .i64 a, .int .i64 m, .int .i64 b] W fun e w' => e = .returned (.bool r) ∧ Below W.heap.size W w') := Lib.hid (by
            rintro a m b r (⟨rfl, rfl, rfl, rfl⟩ | ⟨rfl, rfl, rfl, rfl⟩) W
            · rw [ht1]; exact within_any HX.out.1 HX.out.2.2.1 HUP.out.1 ⟨by omega, hl1⟩ W
            · rw [ht2]; exact within_any HX.out.2.1 HX.out.2.2.2.1 HUP.out.2 ⟨by omega, hl2⟩ W)
          rw [← ht1, ← ht2] at HST2
          clear ht1 ht2 HX hl1 hl2
          cases t1 with
          | false =>
            have HQ : Hid (st = (⟨rt, wd, ht, ce, me⟩, 4)) := Lib.hid (by rw [HST2.out, if_pos (by simp)])
            clear HST2 HAN
            have KS : ∀ w', Below W0.heap.size W0 w' → (w'.cell? ⟨D, 1, none⟩ = some (.slice A1 wd.length c1) ∧ w'.cell? ⟨D, 2, none⟩ = some (.slice A2 ht.length c2) ∧ w'.cell? ⟨D, 4, none⟩ = some (.slice A4 me.length c4) ∧ w'.cell? ⟨w.heap.size + 1, 0, none⟩ = some (.int .i64 x2) ∧ w'.cell? ⟨w.heap.size + 1, 1, none⟩ = some (.int .i64 x3) ∧ w'.cell? ⟨w.heap.size + 1, 2, none⟩ = some (.int .i64 x4) ∧ w'.cell? ⟨w.heap.size + 1, 3, none⟩ = some (.int .i64 x5) ∧ w'.cell? ⟨w.heap.size + 1 + 1, 0, none⟩ = some (.func (.func 64) #[] #[.pointer (some ⟨w.heap.size + 1, 0, none⟩)]) ∧ Below W0.heap.size W0 w') := fun w' hb => ⟨pw_cell_below hb p1, pw_cell_below hb p2, pw_cell_below hb p4, pw_cell_below hb m0, pw_cell_below hb m1, pw_cell_below hb m2, pw_cell_below hb m3, pw_cell_below hb mm, hb⟩
            have HKS := Lib.hid KS
            clear KS
            refine wp_region_noPanic ?_
            refine start_ (n := 27) (S := (fun w' => (w'.cell? ⟨D, 1, none⟩ = some (.slice A1 wd.length c1) ∧ w'.cell? ⟨D, 2, none⟩ = some (.slice A2 ht.length c2) ∧ w'.cell? ⟨D, 4, none⟩ = some (.slice A4 me.length c4) ∧ w'.cell? ⟨w.heap.size + 1, 0, none⟩ = some (.int .i64 x2) ∧ w'.cell? ⟨w.heap.size + 1, 1, none⟩ = some (.int .i64 x3) ∧ w'.cell? ⟨w.heap.size + 1, 2, none⟩ = some (.int .i64 x4) ∧ w'.cell? ⟨w.heap.size + 1, 3, none⟩ = some (.int .i64 x5) ∧ w'.cell? ⟨w.heap.size + 1 + 1, 0, none⟩ = some (.func (.func 64) #[] #[.pointer (some ⟨w.heap.size + 1, 0, none⟩)]) ∧ Below W0.heap.size W0 w'))) (ds := []) (bb 27 0) (by kernel_rfl) rfl rfl (HKS.out _ (below_drew (Below.refl _ _))) (fun hHeld => ?_)
            refine pu_ 0 37 27 1 ?_
            refine ta_ 1 38 27 3 hHeld ?_
            refine pu_ 2 39 27 7 ?_
            refine ta_ 3 40 27 15 hHeld ?_
            refine pu_ 4 41 27 31 ?_
            refine pu_ 5 42 27 63 ?_
            refine pu_ 6 43 27 127 ?_
            refine pu_ 7 44 27 255 ?_
            refine ta_ 8 45 27 511 hHeld ?_
            refine pu_ 9 46 27 1023 ?_
            refine one_ (i := 10) (N := some 47) (bb 27 2047) rfl rfl (by kernel_rfl) (by decide) (fun K hK => ?_)
            go_simp
            go_at_call 65; refine (HWT.out _ _ _ _ (by first | exact .inl ⟨rfl, rfl, rfl, rfl⟩ | exact .inr ⟨rfl, rfl, rfl, rfl⟩) _).mono ?_; rintro e w1 ⟨rfl, hbn⟩
            try go_wp2_with fail
            refine hK.out _ _ ?_ (fun hHeld => ?_)
            · (try dsimp only at hHeld); go_split_ands; exact HKS.out _ (below_then (by assumption) (Below.size (by assumption)) hbn)
            clear hK K
            refine nm_ (some 47) ?_
            refine pu_ 11 48 27 4095 ?_
            refine pu_ 12 49 27 8191 ?_
            refine un_ 13 50 27 16383 ?_
            refine un_ 14 51 27 32767 ?_
            refine un_ 15 52 27 65535 ?_
            refine un_ 16 53 27 131071 ?_
            refine un_ 17 54 27 262143 ?_
            refine un_ 18 55 27 524287 ?_
            refine un_ 19 56 27 1048575 ?_
            refine un_ 20 57 27 2097151 ?_
            refine un_ 21 58 27 4194303 ?_
            refine un_ 22 59 27 8388607 ?_
            refine un_ 23 60 27 16777215 ?_
            refine un_ 24 61 27 33554431 ?_
            refine pu_ 25 62 27 67108863 ?_
            refine pu_ 26 36 27 134217727 ?_
            refine done_ (by kernel_rfl) ?_
            refine NoPanic.normal ?_
            (try dsimp only at hHeld)
            go_split_ands
            go_wp2_with fail
            go_ret
            exact ⟨by rw [HQ.out]; rfl, fun h => by rw [HQ.out] at h; simp at h, below_trans HA0.out (below_mono (by assumption) HBW.out)⟩
          | true =>
            cases t2 with
            | false =>
              have HQ : Hid (st = (⟨rt, wd, ht, ce, me⟩, 4)) := Lib.hid (by rw [HST2.out, if_pos (by simp)])
              clear HST2 HAN
              have KS : ∀ w', Below W0.heap.size W0 w' → (w'.cell? ⟨D, 1, none⟩ = some (.slice A1 wd.length c1) ∧ w'.cell? ⟨D, 2, none⟩ = some (.slice A2 ht.length c2) ∧ w'.cell? ⟨D, 4, none⟩ = some (.slice A4 me.length c4) ∧ w'.cell? ⟨w.heap.size + 1, 0, none⟩ = some (.int .i64 x2) ∧ w'.cell? ⟨w.heap.size + 1, 1, none⟩ = some (.int .i64 x3) ∧ w'.cell? ⟨w.heap.size + 1, 2, none⟩ = some (.int .i64 x4) ∧ w'.cell? ⟨w.heap.size + 1, 3, none⟩ = some (.int .i64 x5) ∧ w'.cell? ⟨w.heap.size + 1 + 1, 0, none⟩ = some (.func (.func 64) #[] #[.pointer (some ⟨w.heap.size + 1, 0, none⟩)]) ∧ Below W0.heap.size W0 w') := fun w' hb => ⟨pw_cell_below hb p1, pw_cell_below hb p2, pw_cell_below hb p4, pw_cell_below hb m0, pw_cell_below hb m1, pw_cell_below hb m2, pw_cell_below hb m3, pw_cell_below hb mm, hb⟩
              have HKS := Lib.hid KS
              clear KS
              go_region_held3 (fun w' => (w'.cell? ⟨D, 1, none⟩ = some (.slice A1 wd.length c1) ∧ w'.cell? ⟨D, 2, none⟩ = some (.slice A2 ht.length c2) ∧ w'.cell? ⟨D, 4, none⟩ = some (.slice A4 me.length c4) ∧ w'.cell? ⟨w.heap.size + 1, 0, none⟩ = some (.int .i64 x2) ∧ w'.cell? ⟨w.heap.size + 1, 1, none⟩ = some (.int .i64 x3) ∧ w'.cell? ⟨w.heap.size + 1, 2, none⟩ = some (.int .i64 x4) ∧ w'.cell? ⟨w.heap.size + 1, 3, none⟩ = some (.int .i64 x5) ∧ w'.cell? ⟨w.heap.size + 1 + 1, 0, none⟩ = some (.func (.func 64) #[] #[.pointer (some ⟨w.heap.size + 1, 0, none⟩)]) ∧ Below W0.heap.size W0 w'))
                (first
                  | exact HKS.out _ (Below.refl _ _)
                  | exact HKS.out _ (below_drew (Below.refl _ _))
                  | (go_split_ands; exact HKS.out _ (below_then (by assumption) (Below.size (by assumption)) hbn))
                  | (go_split_ands; exact HKS.out _ (below_drew (by assumption)))
                  | (go_split_ands; exact HKS.out _ (by assumption)))
                (first
                  | (go_at_call 65; refine (HWT.out _ _ _ _ (by first | exact .inl ⟨rfl, rfl, rfl, rfl⟩ | exact .inr ⟨rfl, rfl, rfl, rfl⟩) _).mono ?_; rintro e w1 ⟨rfl, hbn⟩))
              go_split_ands
              go_wp2_with fail
              go_ret
              exact ⟨by rw [HQ.out]; rfl, fun h => by rw [HQ.out] at h; simp at h, below_trans HA0.out (below_mono (by assumption) HBW.out)⟩
            | true =>
              rw [if_neg (by simp)] at HST2
              cases an with
              | true =>
                have HQ : Hid (st = (⟨rt, wd, ht, ce, me⟩, 5)) := Lib.hid (by rw [HST2.out, if_pos rfl])
                clear HST2
                have KS : ∀ w', Below W0.heap.size W0 w' → (w'.cell? ⟨D, 1, none⟩ = some (.slice A1 wd.length c1) ∧ w'.cell? ⟨D, 2, none⟩ = some (.slice A2 ht.length c2) ∧ w'.cell? ⟨D, 4, none⟩ = some (.slice A4 me.length c4) ∧ w'.cell? ⟨w.heap.size + 1, 0, none⟩ = some (.int .i64 x2) ∧ w'.cell? ⟨w.heap.size + 1, 1, none⟩ = some (.int .i64 x3) ∧ w'.cell? ⟨w.heap.size + 1, 2, none⟩ = some (.int .i64 x4) ∧ w'.cell? ⟨w.heap.size + 1, 3, none⟩ = some (.int .i64 x5) ∧ w'.cell? ⟨w.heap.size + 1 + 1, 0, none⟩ = some (.func (.func 64) #[] #[.pointer (some ⟨w.heap.size + 1, 0, none⟩)]) ∧ Below W0.heap.size W0 w') := fun w' hb => ⟨pw_cell_below hb p1, pw_cell_below hb p2, pw_cell_below hb p4, pw_cell_below hb m0, pw_cell_below hb m1, pw_cell_below hb m2, pw_cell_below hb m3, pw_cell_below hb mm, hb⟩
                have HKS := Lib.hid KS
                clear KS
                go_region_held3 (fun w' => (w'.cell? ⟨D, 1, none⟩ = some (.slice A1 wd.length c1) ∧ w'.cell? ⟨D, 2, none⟩ = some (.slice A2 ht.length c2) ∧ w'.cell? ⟨D, 4, none⟩ = some (.slice A4 me.length c4) ∧ w'.cell? ⟨w.heap.size + 1, 0, none⟩ = some (.int .i64 x2) ∧ w'.cell? ⟨w.heap.size + 1, 1, none⟩ = some (.int .i64 x3) ∧ w'.cell? ⟨w.heap.size + 1, 2, none⟩ = some (.int .i64 x4) ∧ w'.cell? ⟨w.heap.size + 1, 3, none⟩ = some (.int .i64 x5) ∧ w'.cell? ⟨w.heap.size + 1 + 1, 0, none⟩ = some (.func (.func 64) #[] #[.pointer (some ⟨w.heap.size + 1, 0, none⟩)]) ∧ Below W0.heap.size W0 w'))
                  (first
                    | exact HKS.out _ (Below.refl _ _)
                    | exact HKS.out _ (below_drew (Below.refl _ _))
                    | (go_split_ands; exact HKS.out _ (below_then (by assumption) (Below.size (by assumption)) hbn))
                    | (go_split_ands; exact HKS.out _ (below_drew (by assumption)))
                    | (go_split_ands; exact HKS.out _ (by assumption)))
                  (first
                    | (go_at_call 65; refine (HWT.out _ _ _ _ (by first | exact .inl ⟨rfl, rfl, rfl, rfl⟩ | exact .inr ⟨rfl, rfl, rfl, rfl⟩) _).mono ?_; rintro e w1 ⟨rfl, hbn⟩))
                go_split_ands
                go_wp2_with fail
                go_region_held3 (fun w' => (w'.cell? ⟨D, 1, none⟩ = some (.slice A1 wd.length c1) ∧ w'.cell? ⟨D, 2, none⟩ = some (.slice A2 ht.length c2) ∧ w'.cell? ⟨D, 4, none⟩ = some (.slice A4 me.length c4) ∧ w'.cell? ⟨w.heap.size + 1, 0, none⟩ = some (.int .i64 x2) ∧ w'.cell? ⟨w.heap.size + 1, 1, none⟩ = some (.int .i64 x3) ∧ w'.cell? ⟨w.heap.size + 1, 2, none⟩ = some (.int .i64 x4) ∧ w'.cell? ⟨w.heap.size + 1, 3, none⟩ = some (.int .i64 x5) ∧ w'.cell? ⟨w.heap.size + 1 + 1, 0, none⟩ = some (.func (.func 64) #[] #[.pointer (some ⟨w.heap.size + 1, 0, none⟩)]) ∧ Below W0.heap.size W0 w'))
                  (first
                    | exact HKS.out _ (Below.refl _ _)
                    | exact HKS.out _ (below_drew (Below.refl _ _))
                    | (go_split_ands; exact HKS.out _ (below_then (by assumption) (Below.size (by assumption)) hbn))
                    | (go_split_ands; exact HKS.out _ (below_drew (by assumption)))
                    | (go_split_ands; exact HKS.out _ (by assumption))
                    | skip)
                  (first
                    | (go_at_call 26; go_split_ands; refine (HAN.out _ (by assumption)).mono ?_; rintro e w1 ⟨rfl, hbn⟩))
                go_split_ands
                go_wp2_with fail
                go_ret
                exact ⟨by rw [HQ.out]; rfl, fun h => by rw [HQ.out] at h; simp at h, below_trans HA0.out (below_mono (by assumption) HBW.out)⟩
              | false =>
                rw [if_neg (by simp)] at HST2
                by_cases hz : me.length = 12
                · have hzb : ((me.length : Int) == 12) = true := by simpa using (show (me.length : Int) = 12 by omega)
                  have HQ : Hid (st = (⟨rt, wd, ht, ce, me⟩, 3)) := Lib.hid (by rw [HST2.out, if_pos hz])
                  clear HST2 hz
                  have KS : ∀ w', Below W0.heap.size W0 w' → (w'.cell? ⟨D, 1, none⟩ = some (.slice A1 wd.length c1) ∧ w'.cell? ⟨D, 2, none⟩ = some (.slice A2 ht.length c2) ∧ w'.cell? ⟨D, 4, none⟩ = some (.slice A4 me.length c4) ∧ w'.cell? ⟨w.heap.size + 1, 0, none⟩ = some (.int .i64 x2) ∧ w'.cell? ⟨w.heap.size + 1, 1, none⟩ = some (.int .i64 x3) ∧ w'.cell? ⟨w.heap.size + 1, 2, none⟩ = some (.int .i64 x4) ∧ w'.cell? ⟨w.heap.size + 1, 3, none⟩ = some (.int .i64 x5) ∧ w'.cell? ⟨w.heap.size + 1 + 1, 0, none⟩ = some (.func (.func 64) #[] #[.pointer (some ⟨w.heap.size + 1, 0, none⟩)]) ∧ Below W0.heap.size W0 w') := fun w' hb => ⟨pw_cell_below hb p1, pw_cell_below hb p2, pw_cell_below hb p4, pw_cell_below hb m0, pw_cell_below hb m1, pw_cell_below hb m2, pw_cell_below hb m3, pw_cell_below hb mm, hb⟩
                  have HKS := Lib.hid KS
                  clear KS
                  go_region_held3 (fun w' => (w'.cell? ⟨D, 1, none⟩ = some (.slice A1 wd.length c1) ∧ w'.cell? ⟨D, 2, none⟩ = some (.slice A2 ht.length c2) ∧ w'.cell? ⟨D, 4, none⟩ = some (.slice A4 me.length c4) ∧ w'.cell? ⟨w.heap.size + 1, 0, none⟩ = some (.int .i64 x2) ∧ w'.cell? ⟨w.heap.size + 1, 1, none⟩ = some (.int .i64 x3) ∧ w'.cell? ⟨w.heap.size + 1, 2, none⟩ = some (.int .i64 x4) ∧ w'.cell? ⟨w.heap.size + 1, 3, none⟩ = some (.int .i64 x5) ∧ w'.cell? ⟨w.heap.size + 1 + 1, 0, none⟩ = some (.func (.func 64) #[] #[.pointer (some ⟨w.heap.size + 1, 0, none⟩)]) ∧ Below W0.heap.size W0 w'))
                    (first
                      | exact HKS.out _ (Below.refl _ _)
                      | exact HKS.out _ (below_drew (Below.refl _ _))
                      | (go_split_ands; exact HKS.out _ (below_then (by assumption) (Below.size (by assumption)) hbn))
                      | (go_split_ands; exact HKS.out _ (below_drew (by assumption)))
                      | (go_split_ands; exact HKS.out _ (by assumption)))
                    (first
                      | (go_at_call 65; refine (HWT.out _ _ _ _ (by first | exact .inl ⟨rfl, rfl, rfl, rfl⟩ | exact .inr ⟨rfl, rfl, rfl, rfl⟩) _).mono ?_; rintro e w1 ⟨rfl, hbn⟩))
                  go_split_ands
                  go_wp2_with fail
                  go_region_held3 (fun w' => (w'.cell? ⟨D, 1, none⟩ = some (.slice A1 wd.length c1) ∧ w'.cell? ⟨D, 2, none⟩ = some (.slice A2 ht.length c2) ∧ w'.cell? ⟨D, 4, none⟩ = some (.slice A4 me.length c4) ∧ w'.cell? ⟨w.heap.size + 1, 0, none⟩ = some (.int .i64 x2) ∧ w'.cell? ⟨w.heap.size + 1, 1, none⟩ = some (.int .i64 x3) ∧ w'.cell? ⟨w.heap.size + 1, 2, none⟩ = some (.int .i64 x4) ∧ w'.cell? ⟨w.heap.size + 1, 3, none⟩ = some (.int .i64 x5) ∧ w'.cell? ⟨w.heap.size + 1 + 1, 0, none⟩ = some (.func (.func 64) #[] #[.pointer (some ⟨w.heap.size + 1, 0, none⟩)]) ∧ Below W0.heap.size W0 w'))
                    (first
                      | exact HKS.out _ (Below.refl _ _)
                      | exact HKS.out _ (below_drew (Below.refl _ _))
                      | (go_split_ands; exact HKS.out _ (below_then (by assumption) (Below.size (by assumption)) hbn))
                      | (go_split_ands; exact HKS.out _ (below_drew (by assumption)))
                      | (go_split_ands; exact HKS.out _ (by assumption))
                      | skip)
                    (first
                      | (go_at_call 26; go_split_ands; refine (HAN.out _ (by assumption)).mono ?_; rintro e w1 ⟨rfl, hbn⟩))
                  go_split_ands
                  go_wp2_with fail
                  go_ret
                  exact ⟨by rw [HQ.out]; rfl, fun h => by rw [HQ.out] at h; simp at h, below_trans HA0.out (below_mono (by assumption) HBW.out)⟩
                · have hzb : ((me.length : Int) == 12) = false := by simpa using (show ¬ (me.length : Int) = 12 by omega)
                  have HQ : Hid (st = (mrg ⟨x2, x3, x4, x5⟩ ⟨rt, wd, ht, ce, me⟩, 0)) := Lib.hid (by rw [HST2.out, if_neg hz])
                  clear HST2
                  have HZ := Lib.hid hz
                  clear hz
                  have KS : ∀ w', Below W0.heap.size W0 w' → (w'.cell? ⟨D, 1, none⟩ = some (.slice A1 wd.length c1) ∧ w'.cell? ⟨D, 2, none⟩ = some (.slice A2 ht.length c2) ∧ w'.cell? ⟨D, 4, none⟩ = some (.slice A4 me.length c4) ∧ w'.cell? ⟨w.heap.size + 1, 0, none⟩ = some (.int .i64 x2) ∧ w'.cell? ⟨w.heap.size + 1, 1, none⟩ = some (.int .i64 x3) ∧ w'.cell? ⟨w.heap.size + 1, 2, none⟩ = some (.int .i64 x4) ∧ w'.cell? ⟨w.heap.size + 1, 3, none⟩ = some (.int .i64 x5) ∧ w'.cell? ⟨w.heap.size + 1 + 1, 0, none⟩ = some (.func (.func 64) #[] #[.pointer (some ⟨w.heap.size + 1, 0, none⟩)]) ∧ Below W0.heap.size W0 w') := fun w' hb => ⟨pw_cell_below hb p1, pw_cell_below hb p2, pw_cell_below hb p4, pw_cell_below hb m0, pw_cell_below hb m1, pw_cell_below hb m2, pw_cell_below hb m3, pw_cell_below hb mm, hb⟩
                  have HKS := Lib.hid KS
                  clear KS
                  go_region_held3 (fun w' => (w'.cell? ⟨D, 1, none⟩ = some (.slice A1 wd.length c1) ∧ w'.cell? ⟨D, 2, none⟩ = some (.slice A2 ht.length c2) ∧ w'.cell? ⟨D, 4, none⟩ = some (.slice A4 me.length c4) ∧ w'.cell? ⟨w.heap.size + 1, 0, none⟩ = some (.int .i64 x2) ∧ w'.cell? ⟨w.heap.size + 1, 1, none⟩ = some (.int .i64 x3) ∧ w'.cell? ⟨w.heap.size + 1, 2, none⟩ = some (.int .i64 x4) ∧ w'.cell? ⟨w.heap.size + 1, 3, none⟩ = some (.int .i64 x5) ∧ w'.cell? ⟨w.heap.size + 1 + 1, 0, none⟩ = some (.func (.func 64) #[] #[.pointer (some ⟨w.heap.size + 1, 0, none⟩)]) ∧ Below W0.heap.size W0 w'))
                    (first
                      | exact HKS.out _ (Below.refl _ _)
                      | exact HKS.out _ (below_drew (Below.refl _ _))
                      | (go_split_ands; exact HKS.out _ (below_then (by assumption) (Below.size (by assumption)) hbn))
                      | (go_split_ands; exact HKS.out _ (below_drew (by assumption)))
                      | (go_split_ands; exact HKS.out _ (by assumption)))
                    (first
                      | (go_at_call 65; refine (HWT.out _ _ _ _ (by first | exact .inl ⟨rfl, rfl, rfl, rfl⟩ | exact .inr ⟨rfl, rfl, rfl, rfl⟩) _).mono ?_; rintro e w1 ⟨rfl, hbn⟩))
                  go_split_ands
                  go_wp2_with fail
                  go_region_held3 (fun w' => (w'.cell? ⟨D, 1, none⟩ = some (.slice A1 wd.length c1) ∧ w'.cell? ⟨D, 2, none⟩ = some (.slice A2 ht.length c2) ∧ w'.cell? ⟨D, 4, none⟩ = some (.slice A4 me.length c4) ∧ w'.cell? ⟨w.heap.size + 1, 0, none⟩ = some (.int .i64 x2) ∧ w'.cell? ⟨w.heap.size + 1, 1, none⟩ = some (.int .i64 x3) ∧ w'.cell? ⟨w.heap.size + 1, 2, none⟩ = some (.int .i64 x4) ∧ w'.cell? ⟨w.heap.size + 1, 3, none⟩ = some (.int .i64 x5) ∧ w'.cell? ⟨w.heap.size + 1 + 1, 0, none⟩ = some (.func (.func 64) #[] #[.pointer (some ⟨w.heap.size + 1, 0, none⟩)]) ∧ Below W0.heap.size W0 w'))
                    (first
                      | exact HKS.out _ (Below.refl _ _)
                      | exact HKS.out _ (below_drew (Below.refl _ _))
                      | (go_split_ands; exact HKS.out _ (below_then (by assumption) (Below.size (by assumption)) hbn))
                      | (go_split_ands; exact HKS.out _ (below_drew (by assumption)))
                      | (go_split_ands; exact HKS.out _ (by assumption))
                      | skip)
                    (first
                      | (go_at_call 26; go_split_ands; refine (HAN.out _ (by assumption)).mono ?_; rintro e w1 ⟨rfl, hbn⟩))
                  go_split_ands
                  go_wp2_with fail
                  have hbd : Below W0.heap.size W0 w1.drew := below_drew (by assumption)
                  have HBD := Lib.hid hbd
                  have HKT : Hid (∀ W, Below W0.heap.size W0 W → (W.cell? ⟨D, 1, none⟩ = some (.slice A1 wd.length c1) ∧ W.cell? ⟨D, 2, none⟩ = some (.slice A2 ht.length c2) ∧ W.cell? ⟨D, 4, none⟩ = some (.slice A4 me.length c4) ∧ W.cell? ⟨w.heap.size + 1, 0, none⟩ = some (.int .i64 x2) ∧ W.cell? ⟨w.heap.size + 1, 1, none⟩ = some (.int .i64 x3) ∧ W.cell? ⟨w.heap.size + 1, 2, none⟩ = some (.int .i64 x4) ∧ W.cell? ⟨w.heap.size + 1, 3, none⟩ = some (.int .i64 x5) ∧ W.cell? ⟨w.heap.size + 1 + 1, 0, none⟩ = some (.func (.func 64) #[] #[.pointer (some ⟨w.heap.size + 1, 0, none⟩)]))) := Lib.hid (fun W hb => by have h := HKS.out W hb; go_split_ands; exact ⟨by assumption, by assumption, by assumption, by assumption, by assumption, by assumption, by assumption, by assumption⟩)
                  obtain ⟨me2, hme2⟩ : ∃ m, m = me ++ [⟨x2, x3, x4, x5⟩] := ⟨_, rfl⟩
                  have hml : me.length + 1 = me2.length := by rw [hme2, List.length_append]; rfl
                  have hmel : me.length ≤ 1000 := Nat.le_trans HOK.out.men (by decide)
                  have HME2 := Lib.hid hme2
                  clear HAN hme2
                  refine wp_region_noPanic ?_
                  refine start_ (n := 13) (S := (fun w' => w'.cell? ⟨D, 1, none⟩ = some (.slice A1 wd.length c1) ∧ w'.cell? ⟨D, 2, none⟩ = some (.slice A2 ht.length c2) ∧ w'.cell? ⟨D, 4, none⟩ = some (.slice A4 me.length c4) ∧ w'.cell? ⟨w.heap.size + 1, 0, none⟩ = some (.int .i64 x2) ∧ w'.cell? ⟨w.heap.size + 1, 1, none⟩ = some (.int .i64 x3) ∧ w'.cell? ⟨w.heap.size + 1, 2, none⟩ = some (.int .i64 x4) ∧ w'.cell? ⟨w.heap.size + 1, 3, none⟩ = some (.int .i64 x5) ∧ w'.cell? ⟨w.heap.size + 1 + 1, 0, none⟩ = some (.func (.func 64) #[] #[.pointer (some ⟨w.heap.size + 1, 0, none⟩)]))) (ds := [12]) (bb 13 0) (by kernel_rfl) rfl rfl (HKT.out _ HBD.out) (fun hHeld => ?_)
                  refine pu_ 0 79 13 1 ?_
                  refine pu_ 1 80 13 3 ?_
                  refine pu_ 2 81 13 7 ?_
                  refine pu_ 3 82 13 15 ?_
                  refine pu_ 4 83 13 31 ?_
                  refine ta_ 5 84 13 63 hHeld ?_
                  refine ta_ 6 85 13 127 hHeld ?_
                  refine one_ (i := 7) (N := some 86) (bb 13 255) rfl rfl (by kernel_rfl) (by decide) (fun K hK => ?_)
                  go_simp
                  refine hK.out _ _ (HKT.out _ (below_alloc HBD.out _)) (fun hHeld => ?_)
                  clear hK K
                  refine nm_ (some 86) ?_
                  refine one_ (i := 8) (N := some 87) (bb 13 511) rfl rfl (by kernel_rfl) (by decide) (fun K hK => ?_)
                  refine step_appR rfl (.tmp 84) (.tmp 86) rfl (B := B) (g := w1.drew.heap.size) (r := ⟨x2, x3, x4, x5⟩) rfl rfl (blk_new _ _) (Ow.below HO4.out (below_alloc HBD.out _)) hmel (Nat.le_trans HBW.out (below_alloc HBD.out _).size) ?_
                  intro A5 c5 w2 hov hgv hob
                  rw [← HME2.out, hml] at hov
                  rw [hml] at hob ⊢
                  have hq := below_alloc HBD.out (Obj.cells #[.int .i64 x2, .int .i64 x3, .int .i64 x4, .int .i64 x5] 49 (0, 0))
                  have hDn := own_ne (Ow.below HO4.out hq) (blk_below HHH.out hq) (by decide)
                  have hh2 := blk_grown (blk_below HHH.out hq) hgv hDn
                  have hrn : some (w.heap.size + 1) ≠ (Value.slice A4 me.length c4).ownBlock := fun e => by have := HA4.out _ e.symm; omega
                  have hmn : some (w.heap.size + 1 + 1) ≠ (Value.slice A4 me.length c4).ownBlock := fun e => by have := HA4.out _ e.symm; omega
                  have hr2 := blk_grown (blk_below HR.out hq) hgv hrn
                  have hm2 := blk_grown (blk_below HM.out hq) hgv hmn
                  have HO1b := Lib.hid (own_other (Ow.below HO1.out hq) hgv (own_apart (Ow.below HO1.out hq) (Ow.below HO4.out hq) (by decide)))
                  have HO2b := Lib.hid (own_other (Ow.below HO2.out hq) hgv (own_apart (Ow.below HO2.out hq) (Ow.below HO4.out hq) (by decide)))
                  have HO3b := Lib.hid (own_other (Ow.below HO3.out hq) hgv (own_apart (Ow.below HO3.out hq) (Ow.below HO4.out hq) (by decide)))
                  have HO4b := Lib.hid hov
                  have HHb := Lib.hid hh2
                  have HRb := Lib.hid hr2
                  have HMb := Lib.hid hm2
                  have HBb : Hid (Below B w w2) := Lib.hid (below_trans HA0.out ((below_mono hq HBW.out).grown hgv (Nat.le_trans HBW.out hq.size) (own_base (Ow.below HO4.out hq))))
                  obtain ⟨p0, p1, p2, p3, p4, f0, f1, f2, f3, f4⟩ := ed5 hh2
                  (try simp only [] at p0 p1 p2 p3 p4)
                  obtain ⟨m0, m1, m2, m3⟩ := four (r := ⟨x2, x3, x4, x5⟩) hr2
                  have mm : w2.cell? ⟨w.heap.size + 1 + 1, 0, none⟩ = some (.func (.func 64) #[] #[.pointer (some ⟨w.heap.size + 1, 0, none⟩)]) := by unfold World.cell?; rw [hm2]; rfl
                  have HOB := Lib.hid hob
                  clear hq hDn hh2 hrn hmn hr2 hm2 hov hob hgv
                  have HPF := Lib.hid (⟨p4, f4⟩ : _ ∧ _)
                  refine hK.out _ _ ⟨p1, p2, p4, m0, m1, m2, m3, mm⟩ (fun hHeld => ?_)
                  clear hHeld p0 p1 p2 p3 p4 f0 f1 f2 f3 f4 m0 m1 m2 m3 mm
                  clear hK K
                  refine nm_ (some 87) ?_
                  refine pu_ 9 88 13 1023 ?_
                  refine pu_ 10 89 13 2047 ?_
                  refine pu_ 11 90 13 4095 ?_
                  refine last_ (i := 12) (N := none) (bb 13 8191) rfl rfl (by kernel_rfl) (by decide) (fun K hK => ?_)
                  obtain ⟨p4, f4⟩ := HPF.out
                  go_simp
                  refine hK.out _ _ ?_
                  refine done_ (by kernel_rfl) ?_
                  refine NoPanic.normal ?_
                  have hn5 : ∀ k, (Value.slice A5 me2.length c5).ownBlock = some k → k ≠ w.heap.size + 1 ∧ k ≠ w.heap.size + 1 + 1 := fun k hk => by
                    rcases HOB.out with e | e
                    · have := HA4.out k (e ▸ hk); omega
                    · rw [hk] at e
                      have e' := Option.some.inj e
                      have h1 := HS0.out
                      have h2 := (below_alloc HBD.out (Obj.cells #[.int .i64 x2, .int .i64 x3, .int .i64 x4, .int .i64 x5] 49 (0, 0))).size
                      have h3 : (w1.alloc (Obj.cells #[.int .i64 x2, .int .i64 x3, .int .i64 x4, .int .i64 x5] 49 (0, 0))).drew.heap.size = w1.heap.size + 1 := Array.size_push ..
                      have h4 : W0.heap.size ≤ w1.heap.size := HBD.out.size
                      rw [h3] at e'
                      omega
                  have HN5 := Lib.hid hn5
                  have h3 : (w2.setCell ⟨D, 4, none⟩ (.slice A5 me2.length c5)).heap[D]? = some (.cells (shv ⟨A1, c1, A2, c2, A3, c3, A5, c5⟩ ⟨rt, wd, ht, ce, me2⟩) 53 (0, 0)) := blk_put HHb.out 4 _ rfl
                  have k1 := (show OwI w2 B _ wd from HO1b.out).set (i := 4) (v := .slice A5 me2.length c5) HHb.out (by decide)
                  have k2 := (show OwI w2 B _ ht from HO2b.out).set (i := 4) (v := .slice A5 me2.length c5) HHb.out (by decide)
                  have k3 := (show OwC w2 B _ ce from HO3b.out).set (i := 4) (v := .slice A5 me2.length c5) HHb.out (by decide)
                  have k4 := HO4b.out.set (i := 4) (v := .slice A5 me2.length c5) HHb.out (by decide)
                  have HRc := Lib.hid (blk_far HRb.out (p := ⟨D, 4, none⟩) (blk_ne HRb.out HHb.out (by decide)) (.slice A5 me2.length c5))
                  have HMc := Lib.hid (blk_far HMb.out (p := ⟨D, 4, none⟩) (blk_ne HMb.out HHb.out (by decide)) (.slice A5 me2.length c5))
                  have HBc : Hid (Below B w (w2.setCell ⟨D, 4, none⟩ (.slice A5 me2.length c5))) := Lib.hid (HBb.out.setCell (p := ⟨D, 4, none⟩) hB _)
                  have hm0 : ∀ q ∈ me, ¬ Mt q ⟨x2, x3, x4, x5⟩ := fun q hq hm => by
                    have h := HAZ.out
                    rw [eq_comm, List.any_eq_false] at h
                    exact h q hq (by simpa using hm)
                  have hds : Dst ⟨rt, wd, ht, ce, me2⟩ := by rw [HME2.out]; exact dst_mrg HOK.out hm0 HUP.out.1 HUP.out.2
                  have hwr : WR ⟨x2, x3, x4, x5⟩ := HWR.out
                  have hce := cen HOK.out
                  have hwc := (ws_ok HOK.out).1
                  simp only [] at hce hwc
                  have H66 := Lib.hid (sort_open h3 k1 k2 k3 k4 hB hds)
                  have HCE : Hid (srtC ce = ce) := Lib.hid (srtC_id HOK.out.ceS)
                  have H67 := Lib.hid (fun (W : World) (o : OwC W B (.slice A3 ce.length c3) ce) (hr : W.heap[w.heap.size + 1]? = some (Obj.cells #[.int .i64 x2, .int .i64 x3, .int .i64 x4, .int .i64 x5] 49 (0, 0))) (hm : W.heap[w.heap.size + 1 + 1]? = some (.cells #[.func (.func 64) #[] #[.pointer (some ⟨w.heap.size + 1, 0, none⟩)]] 65 (0, 0))) =>
                    deleC_any (gon ⟨x2, x3, x4, x5⟩) 68 #[.pointer (some ⟨w.heap.size + 1, 0, none⟩), .pointer (some ⟨w.heap.size + 1 + 1, 0, none⟩)] (enters_of Tryz.func68 (by kernel_rfl) rfl) o (by omega)
                      (fun W' x hx hgr => t68 (l := ce) (blk_grown (o := (Obj.cells #[.int .i64 x2, .int .i64 x3, .int .i64 x4, .int .i64 x5] 49 (0, 0))) hr hgr (fun e => by have := HA3b.out _ e.symm; omega)) (blk_grown hm hgr (fun e => by have := HA3b.out _ e.symm; omega)) hwr hwc W' x hx (Below.refl _ _)))
                  clear h3 k1 k2 k3 k4 hm0 hds hwr hce hwc hn5
                  go_wp2_with (first
                    | (go_at_call 66; refine H66.out.mono ?_; rintro e w5 ⟨rfl, hh5, l1, l2, l3, l4, lb, wm, lg1, lg2⟩; rw [HCE.out] at l3; have hr5 := blk_grown (blk_grown HRc.out lg1 (fun e => by have := HA3b.out _ e.symm; omega)) lg2 (fun e => (HN5.out _ e.symm).1 rfl); have hm5 := blk_grown (blk_grown HMc.out lg1 (fun e => by have := HA3b.out _ e.symm; omega)) lg2 (fun e => (HN5.out _ e.symm).2 rfl); have HH5 := Lib.hid hh5; have L1 := Lib.hid l1; have L2 := Lib.hid l2; have L3 := Lib.hid l3; have L4 := Lib.hid l4; have LB := Lib.hid lb; have HR5 := Lib.hid hr5; have HM5 := Lib.hid hm5; obtain ⟨p0, p1, p2, p3, p4, f0, f1, f2, f3, f4⟩ := ed5 hh5; (try simp only [] at p0 p1 p2 p3 p4); clear hh5 l1 l2 l3 l4 lb lg1 lg2 hr5 hm5)
                    | (go_at_call 67; refine (H67.out _ L3.out HR5.out HM5.out).mono ?_; rintro e w6 ⟨v, rfl, hov, hgv, hvb⟩; obtain ⟨Av, cv, rfl⟩ := ow_slice hov; obtain ⟨p0, p1, p2, p3, p4, f0, f1, f2, f3, f4⟩ := ed5 (blk_grown HH5.out hgv (own_ne L3.out HH5.out (by decide))); (try simp only [] at p0 p1 p2 p3 p4); have HV := Lib.hid (And.intro hov hgv); clear hov hgv hvb))
                  go_ret
                  obtain ⟨hov, hgv⟩ := HV.out
                  have h6 := blk_grown HH5.out hgv (own_ne L3.out HH5.out (by decide))
                  have q1 : OwI w6 B _ wd := own_other L1.out hgv (own_apart L1.out L3.out (by decide))
                  have q2 : OwI w6 B _ ht := own_other L2.out hgv (own_apart L2.out L3.out (by decide))
                  have q4 : OwR w6 B _ (srtR me2) := own_other L4.out hgv (own_apart L4.out L3.out (by decide))
                  have hlt := blk_lt HH5.out
                  refine ⟨by rw [HQ.out]; rfl, fun _ => ?_, below_trans HBc.out (below_trans LB.out (((Below.refl B _).grown hgv (by omega) (own_base L3.out)).setCell (p := ⟨D, 3, none⟩) hB _))⟩
                  rw [HQ.out]
                  show Ed _ B D ⟨rt, wd, ht, ce.filter _, srtR (me ++ [⟨x2, x3, x4, x5⟩])⟩
                  rw [← HME2.out]
                  refine ⟨_, _, _, _, blk_put h6 3 _ rfl, q1.set h6 (by decide), q2.set h6 (by decide), ?_, q4.set h6 (by decide), HNE.out, hB⟩
                  have hfe : (fun c : S44 => decide (¬ ((c.f0 ≠ x2 ∨ c.f1 ≠ x3) ∧ Mt ⟨c.f0, c.f1, 1, 1⟩ ⟨x2, x3, x4, x5⟩))) = fun x => !gon ⟨x2, x3, x4, x5⟩ x := by
                    funext c; unfold gon; rw [decide_not]
                  show OwC _ B _ (ce.filter fun c => decide (¬ ((c.f0 ≠ x2 ∨ c.f1 ≠ x3) ∧ Mt ⟨c.f0, c.f1, 1, 1⟩ ⟨x2, x3, x4, x5⟩)))
                  rw [hfe]
                  exact hov.set h6 (by decide)
end Go.Proofs.YtcofacgdijjnoaaGreat
