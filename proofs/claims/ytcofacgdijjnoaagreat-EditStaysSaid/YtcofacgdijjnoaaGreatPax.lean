/- rows and columns put in and taken out: walked. -/
import Derived.Test.YtcofacgdijjnoaaGreatPaw
namespace Go.Proofs.YtcofacgdijjnoaaGreat
open PE (S31 S44 S49 k44 k49 k31)
open Go.RowKit Go.Shelf Go.Lib Go.Proofs.YtcofacgdijjnoaaGreatW.PrintWords Go.Proofs.YtcofacgdijjnoaaGreatW.PrintLast Go.Proofs.YtcofacgdijjnoaaGreatW.PrintMore
set_option linter.unusedVariables false
set_option linter.unusedSimpArgs false
set_option maxRecDepth 100000
set_option maxHeartbeats 2000000
theorem bigS_ok {mr mc : Nat} {mh mw : Int} {s : Sh} (h : Ok mr mh mc mw s) (hm : mr ≤ 100 ∧ mc ≤ 100) (hc : s.ce.length ≤ 1000) : BigS s := by
  have h1 := h.htn
  refine ⟨⟨by omega, hc, by have := h.men; omega⟩, fun c hc => ?_, fun r hr => ?_⟩
  · have h2 := h.ceE c hc
    have h3 := h2.r0; have h4 := h2.r1
    omega
  · have h2 := h.meE r hr
    have h3 := h2.r0; have h4 := h2.r1; have h5 := h2.m
    omega
theorem dst_trn {mr mc : Nat} {mh mw : Int} {s : Sh} (h : Ok mr mh mc mw s) (hc : s.ce.length ≤ 1000) : Dst ⟨s.rt, s.ht, s.wd, s.ce.map swC, s.me.map swR⟩ := by
  have h2 := ok_trn h
  refine ⟨srt_pair h2.ceS, srt_pair h2.meS, ?_, ?_⟩
  · show (s.ce.map swC).length ≤ 100000
    rw [List.length_map]; omega
  · show (s.me.map swR).length ≤ 100000
    rw [List.length_map]; have := h.men; omega
theorem ok_insF2 {mr mc : Nat} {mh mw at' n size : Int} {s : Sh} (h : Ok mr mh mc mw s) : Ok mr mh mc mw (insF at' n size mr mh s).1 := by
  by_cases hz : (insF at' n size mr mh s).2 = 0
  · exact ok_insF h hz
  · have : (insF at' n size mr mh s).1 = s := by
      unfold insF at hz ⊢
      split <;> (try split) <;> (try split) <;> first | rfl | (exfalso; simp_all)
    rw [this]; exact h
theorem ok_delF2 {mr mc : Nat} {mh mw at' n : Int} {s : Sh} (h : Ok mr mh mc mw s) : Ok mr mh mc mw (delF at' n s).1 := by
  by_cases hz : (delF at' n s).2 = 0
  · exact ok_delF h hz
  · have : (delF at' n s).1 = s := by
      unfold delF at hz ⊢
      split <;> (try split) <;> first | rfl | (exfalso; simp_all)
    rw [this]; exact h
theorem len_insF {m0 : Nat} {m1 at' n size : Int} {s : Sh} : (insF at' n size m0 m1 s).1.ce.length = s.ce.length := by
  unfold insF
  split <;> (try split) <;> (try split) <;> first | rfl | (show (s.ce.map _).length = _; rw [List.length_map])
theorem len_delF {at' n : Int} {s : Sh} : (delF at' n s).1.ce.length ≤ s.ce.length := by
  unfold delF
  split <;> (try split) <;> first | exact Nat.le_refl _ | (show ((s.ce.filter _).map _).length ≤ _; rw [List.length_map]; exact List.length_filter_le ..)
theorem len_trn {s : Sh} : (trn s).ce.length = s.ce.length := by
  show (srtC (s.ce.map swC)).length = _
  rw [len_srtC, List.length_map]
theorem turn_ok {w : World} {B D : Nat} {s : Sh} {mr mc : Nat} {mh mw : Int} (hE : Ed w B D s) (h : Ok mr mh mc mw s) (hc : s.ce.length ≤ 1000) :
    Calls Tryz.prog 73 #[.pointer (some ⟨D, 0, none⟩)] w fun e w' => e = .returned (.tuple #[]) ∧ Ed w' B D (trn s) ∧ Below B w w' ∧ Keep w w' :=
  turn_any hE ⟨hc, by have := h.men; omega⟩ (dst_trn h hc)
theorem insertRows_any : StepC 43 (stepF 5) := by
  intro w B D s x hE hO hx
  obtain ⟨rt, wd, ht, ce, me⟩ := s
  obtain ⟨kd, x2, x3, x4, x5, x6, x7, tx, ⟨y1, y2, y3⟩⟩ := x
  have hE1 := hE.below (below_alloc (Below.refl w.heap.size w) (Obj.cells #[.int .i64 kd, .int .i64 x2, .int .i64 x3, .int .i64 x4, .int .i64 x5, .int .i64 x6, .int .i64 x7, .string tx, .int .i64 y1, .int .i64 y2, .int .i64 y3] 33 (0, 0)))
  have hBw := hE.le
  obtain ⟨⟨A1, c1, A2, c2, A3, c3, A4, c4⟩, hh, o1, o2, o3, o4, hne, hB, hR⟩ := hE1.open
  obtain ⟨p0, p1, p2, p3, p4, f0, f1, f2, f3, f4⟩ := ed5 hh
  have hxb := blk_new w (Obj.cells #[.int .i64 kd, .int .i64 x2, .int .i64 x3, .int .i64 x4, .int .i64 x5, .int .i64 x6, .int .i64 x7, .string tx, .int .i64 y1, .int .i64 y2, .int .i64 y3] 33 (0, 0))
  obtain ⟨q0, q1, q2, q3, q4, q5, q6, q7, q8, q9, q10⟩ := eleven (x := ⟨kd, x2, x3, x4, x5, x6, x7, tx, ⟨y1, y2, y3⟩⟩) hxb
  have hA := below_mono (below_alloc (Below.refl w.heap.size w) (Obj.cells #[.int .i64 kd, .int .i64 x2, .int .i64 x3, .int .i64 x4, .int .i64 x5, .int .i64 x6, .int .i64 x7, .string tx, .int .i64 y1, .int .i64 y2, .int .i64 y3] 33 (0, 0))) hBw
  simp only [] at p0 p1 p2 p3 p4 q0 q1 q2 q3 q4 q5 q6 q7 q8 q9 q10
  have HE1 := Lib.hid hE1
  have HA := Lib.hid hA
  have HOK := Lib.hid hO
  have HX := Lib.hid hx
  have HXB := Lib.hid hxb
  have hcl : ce.length ≤ 1000 := Nat.le_trans (cen hO) (by decide)
  obtain ⟨st, hst⟩ : ∃ st, st = stepF 5 ⟨rt, wd, ht, ce, me⟩ ⟨kd, x2, x3, x4, x5, x6, x7, tx, ⟨y1, y2, y3⟩⟩ := ⟨_, rfl⟩
  rw [← hst]
  have HST : Hid (st = insF x2 x6 x7 24 12 ⟨rt, wd, ht, ce, me⟩) := Lib.hid hst
  clear hst
  have HI : Hid (∀ W : World, Ed W B D ⟨rt, wd, ht, ce, me⟩ → Calls Tryz.prog 71 #[.pointer (some ⟨D, 0, none⟩), .int .i64 x2, .int .i64 x6, .int .i64 x7, .agg #[.int .i64 24, .int .i64 12]] W fun e w' => e = .returned (.int .i64 (insF x2 x6 x7 24 12 ⟨rt, wd, ht, ce, me⟩).2) ∧ Ed w' B D (insF x2 x6 x7 24 12 ⟨rt, wd, ht, ce, me⟩).1 ∧ Below B W w') := Lib.hid (fun W hE => insert_any (m0 := 24) (m1 := 12) hE (bigS_ok hO ⟨by decide, by decide⟩ hcl) (by decide))
  show Calls Tryz.prog 43 #[.pointer (some ⟨D, 0, none⟩), .agg #[.int .i64 kd, .int .i64 x2, .int .i64 x3, .int .i64 x4, .int .i64 x5, .int .i64 x6, .int .i64 x7, .string tx, .int .i64 y1, .int .i64 y2, .int .i64 y3]] w fun e w' => e = .returned (.int .i64 st.2) ∧ (st.2 = 0 → Ed w' B D st.1) ∧ Below B w w'
  clear hE1 hA hO hx hxb hE hh o1 o2 o3 o4 hne hR p0 p1 p2 p3 p4 f0 f1 f2 f3 f4 q0 q2 q3 q4 q7 q8 q9 q10
  go_enter Tryz.func43, Tryz.ntmps43
  go_wp2_with (go_at_call 71; refine (HI.out _ HE1.out).mono ?_; rintro e w5 ⟨rfl, hE5, hb5⟩; have HE5 := Lib.hid hE5; have HB5 := Lib.hid hb5; clear hE5 hb5)
  go_ret
  exact ⟨by rw [HST.out]; rfl, fun _ => by rw [HST.out]; exact HE5.out, below_trans HA.out HB5.out⟩
theorem deleteRows_any : StepC 44 (stepF 6) := by
  intro w B D s x hE hO hx
  obtain ⟨rt, wd, ht, ce, me⟩ := s
  obtain ⟨kd, x2, x3, x4, x5, x6, x7, tx, ⟨y1, y2, y3⟩⟩ := x
  have hE1 := hE.below (below_alloc (Below.refl w.heap.size w) (Obj.cells #[.int .i64 kd, .int .i64 x2, .int .i64 x3, .int .i64 x4, .int .i64 x5, .int .i64 x6, .int .i64 x7, .string tx, .int .i64 y1, .int .i64 y2, .int .i64 y3] 33 (0, 0)))
  have hBw := hE.le
  obtain ⟨⟨A1, c1, A2, c2, A3, c3, A4, c4⟩, hh, o1, o2, o3, o4, hne, hB, hR⟩ := hE1.open
  obtain ⟨p0, p1, p2, p3, p4, f0, f1, f2, f3, f4⟩ := ed5 hh
  have hxb := blk_new w (Obj.cells #[.int .i64 kd, .int .i64 x2, .int .i64 x3, .int .i64 x4, .int .i64 x5, .int .i64 x6, .int .i64 x7, .string tx, .int .i64 y1, .int .i64 y2, .int .i64 y3] 33 (0, 0))
  obtain ⟨q0, q1, q2, q3, q4, q5, q6, q7, q8, q9, q10⟩ := eleven (x := ⟨kd, x2, x3, x4, x5, x6, x7, tx, ⟨y1, y2, y3⟩⟩) hxb
  have hA := below_mono (below_alloc (Below.refl w.heap.size w) (Obj.cells #[.int .i64 kd, .int .i64 x2, .int .i64 x3, .int .i64 x4, .int .i64 x5, .int .i64 x6, .int .i64 x7, .string tx, .int .i64 y1, .int .i64 y2, .int .i64 y3] 33 (0, 0))) hBw
  simp only [] at p0 p1 p2 p3 p4 q0 q1 q2 q3 q4 q5 q6 q7 q8 q9 q10
  have HE1 := Lib.hid hE1
  have HA := Lib.hid hA
  have HOK := Lib.hid hO
  have HX := Lib.hid hx
  have HXB := Lib.hid hxb
  have hcl : ce.length ≤ 1000 := Nat.le_trans (cen hO) (by decide)
  obtain ⟨st, hst⟩ : ∃ st, st = stepF 6 ⟨rt, wd, ht, ce, me⟩ ⟨kd, x2, x3, x4, x5, x6, x7, tx, ⟨y1, y2, y3⟩⟩ := ⟨_, rfl⟩
  rw [← hst]
  have HST : Hid (st = delF x2 x6 ⟨rt, wd, ht, ce, me⟩) := Lib.hid hst
  clear hst
  have HI : Hid (∀ W : World, Ed W B D ⟨rt, wd, ht, ce, me⟩ → Calls Tryz.prog 72 #[.pointer (some ⟨D, 0, none⟩), .int .i64 x2, .int .i64 x6] W fun e w' => e = .returned (.int .i64 (delF x2 x6 ⟨rt, wd, ht, ce, me⟩).2) ∧ Ed w' B D (delF x2 x6 ⟨rt, wd, ht, ce, me⟩).1 ∧ Below B W w') := Lib.hid (fun W hE => delete_any hE hO ⟨by decide, by decide⟩ hcl hx.1 hx.2.2.2.2.1)
  show Calls Tryz.prog 44 #[.pointer (some ⟨D, 0, none⟩), .agg #[.int .i64 kd, .int .i64 x2, .int .i64 x3, .int .i64 x4, .int .i64 x5, .int .i64 x6, .int .i64 x7, .string tx, .int .i64 y1, .int .i64 y2, .int .i64 y3]] w fun e w' => e = .returned (.int .i64 st.2) ∧ (st.2 = 0 → Ed w' B D st.1) ∧ Below B w w'
  clear hE1 hA hO hx hxb hE hh o1 o2 o3 o4 hne hR p0 p1 p2 p3 p4 f0 f1 f2 f3 f4 q0 q2 q3 q4 q6 q7 q8 q9 q10
  go_enter Tryz.func44, Tryz.ntmps44
  go_wp2_with (go_at_call 72; refine (HI.out _ HE1.out).mono ?_; rintro e w5 ⟨rfl, hE5, hb5⟩; have HE5 := Lib.hid hE5; have HB5 := Lib.hid hb5; clear hE5 hb5)
  go_ret
  exact ⟨by rw [HST.out]; rfl, fun _ => by rw [HST.out]; exact HE5.out, below_trans HA.out HB5.out⟩
theorem insertCols_any : StepC 45 (stepF 7) := by
  intro w B D s x hE hO hx
  obtain ⟨rt, wd, ht, ce, me⟩ := s
  obtain ⟨kd, x2, x3, x4, x5, x6, x7, tx, ⟨y1, y2, y3⟩⟩ := x
  have hE1 := hE.below (below_alloc (Below.refl w.heap.size w) (Obj.cells #[.int .i64 kd, .int .i64 x2, .int .i64 x3, .int .i64 x4, .int .i64 x5, .int .i64 x6, .int .i64 x7, .string tx, .int .i64 y1, .int .i64 y2, .int .i64 y3] 33 (0, 0)))
  have hBw := hE.le
  obtain ⟨⟨A1, c1, A2, c2, A3, c3, A4, c4⟩, hh, o1, o2, o3, o4, hne, hB, hR⟩ := hE1.open
  obtain ⟨p0, p1, p2, p3, p4, f0, f1, f2, f3, f4⟩ := ed5 hh
  have hxb := blk_new w (Obj.cells #[.int .i64 kd, .int .i64 x2, .int .i64 x3, .int .i64 x4, .int .i64 x5, .int .i64 x6, .int .i64 x7, .string tx, .int .i64 y1, .int .i64 y2, .int .i64 y3] 33 (0, 0))
  obtain ⟨q0, q1, q2, q3, q4, q5, q6, q7, q8, q9, q10⟩ := eleven (x := ⟨kd, x2, x3, x4, x5, x6, x7, tx, ⟨y1, y2, y3⟩⟩) hxb
  have hA := below_mono (below_alloc (Below.refl w.heap.size w) (Obj.cells #[.int .i64 kd, .int .i64 x2, .int .i64 x3, .int .i64 x4, .int .i64 x5, .int .i64 x6, .int .i64 x7, .string tx, .int .i64 y1, .int .i64 y2, .int .i64 y3] 33 (0, 0))) hBw
  simp only [] at p0 p1 p2 p3 p4 q0 q1 q2 q3 q4 q5 q6 q7 q8 q9 q10
  have HE1 := Lib.hid hE1
  have HA := Lib.hid hA
  have HOK := Lib.hid hO
  have HX := Lib.hid hx
  have HXB := Lib.hid hxb
  have hcl : ce.length ≤ 1000 := Nat.le_trans (cen hO) (by decide)
  obtain ⟨st, hst⟩ : ∃ st, st = stepF 7 ⟨rt, wd, ht, ce, me⟩ ⟨kd, x2, x3, x4, x5, x6, x7, tx, ⟨y1, y2, y3⟩⟩ := ⟨_, rfl⟩
  rw [← hst]
  have HST : Hid (st = (trn (insF x3 x6 x7 16 60 (trn ⟨rt, wd, ht, ce, me⟩)).1, (insF x3 x6 x7 16 60 (trn ⟨rt, wd, ht, ce, me⟩)).2)) := Lib.hid hst
  clear hst
  have hot : Ok 16 60 24 12 (trn ⟨rt, wd, ht, ce, me⟩) := ok_trn hO
  have hlt : ((trn ⟨rt, wd, ht, ce, me⟩)).ce.length ≤ 1000 := by rw [len_trn]; exact hcl
  have HT1 := Lib.hid (fun (W : World) (hE : Ed W B D ⟨rt, wd, ht, ce, me⟩) => turn_ok hE hO hcl)
  have HT2 := Lib.hid (fun (W : World) (hE : Ed W B D (insF x3 x6 x7 16 60 (trn ⟨rt, wd, ht, ce, me⟩)).1) => turn_ok hE (ok_insF2 hot) (by rw [len_insF]; exact hlt))
  have HI : Hid (∀ W : World, Ed W B D (trn ⟨rt, wd, ht, ce, me⟩) → Calls Tryz.prog 71 #[.pointer (some ⟨D, 0, none⟩), .int .i64 x3, .int .i64 x6, .int .i64 x7, .agg #[.int .i64 16, .int .i64 60]] W fun e w' => e = .returned (.int .i64 (insF x3 x6 x7 16 60 (trn ⟨rt, wd, ht, ce, me⟩)).2) ∧ Ed w' B D (insF x3 x6 x7 16 60 (trn ⟨rt, wd, ht, ce, me⟩)).1 ∧ Below B W w') := Lib.hid (fun W hE => insert_any (m0 := 16) (m1 := 60) hE (bigS_ok hot ⟨by decide, by decide⟩ hlt) (by decide))
  obtain ⟨t1, ht1⟩ : ∃ t, t = (trn ⟨rt, wd, ht, ce, me⟩) := ⟨_, rfl⟩
  rw [← ht1] at HI HT1 HT2 HST
  clear hot hlt ht1
  obtain ⟨r1, hr1⟩ : ∃ t, t = insF x3 x6 x7 16 60 t1 := ⟨_, rfl⟩
  rw [← hr1] at HI HT2 HST
  clear hr1
  show Calls Tryz.prog 45 #[.pointer (some ⟨D, 0, none⟩), .agg #[.int .i64 kd, .int .i64 x2, .int .i64 x3, .int .i64 x4, .int .i64 x5, .int .i64 x6, .int .i64 x7, .string tx, .int .i64 y1, .int .i64 y2, .int .i64 y3]] w fun e w' => e = .returned (.int .i64 st.2) ∧ (st.2 = 0 → Ed w' B D st.1) ∧ Below B w w'
  clear hE1 hA hO hx hxb hE hh o1 o2 o3 o4 hne hR p0 p1 p2 p3 p4 f0 f1 f2 f3 f4 q0 q1 q2 q3 q4 q5 q6 q7 q8 q9 q10
  go_enter Tryz.func45, Tryz.ntmps45
  go_wp2_with (first
    | (go_at_call 73; refine (HT1.out _ HE1.out).mono ?_; rintro e w5 ⟨rfl, hE5, hb5, hk5⟩; have HE5 := Lib.hid hE5; have HB5 := Lib.hid hb5; have hx5 := hk5 _ _ HXB.out; clear hE5 hb5 hk5; obtain ⟨q0, q1, q2, q3, q4, q5, q6, q7, q8, q9, q10⟩ := eleven (x := ⟨kd, x2, x3, x4, x5, x6, x7, tx, ⟨y1, y2, y3⟩⟩) hx5; clear hx5)
    | (go_at_call 71; refine (HI.out _ HE5.out).mono ?_; rintro e w6 ⟨rfl, hE6, hb6⟩; have HE6 := Lib.hid hE6; have HB6 := Lib.hid hb6; clear hE6 hb6)
    | (go_at_call 73; refine (HT2.out _ HE6.out).mono ?_; rintro e w7 ⟨rfl, hE7, hb7, _⟩; have HE7 := Lib.hid hE7; have HB7 := Lib.hid hb7; clear hE7 hb7))
  go_ret
  exact ⟨by rw [HST.out]; rfl, fun _ => by rw [HST.out]; exact HE7.out, below_trans HA.out (below_trans HB5.out (below_trans HB6.out HB7.out))⟩
theorem deleteCols_any : StepC 46 (stepF 8) := by
  intro w B D s x hE hO hx
  obtain ⟨rt, wd, ht, ce, me⟩ := s
  obtain ⟨kd, x2, x3, x4, x5, x6, x7, tx, ⟨y1, y2, y3⟩⟩ := x
  have hE1 := hE.below (below_alloc (Below.refl w.heap.size w) (Obj.cells #[.int .i64 kd, .int .i64 x2, .int .i64 x3, .int .i64 x4, .int .i64 x5, .int .i64 x6, .int .i64 x7, .string tx, .int .i64 y1, .int .i64 y2, .int .i64 y3] 33 (0, 0)))
  have hBw := hE.le
  obtain ⟨⟨A1, c1, A2, c2, A3, c3, A4, c4⟩, hh, o1, o2, o3, o4, hne, hB, hR⟩ := hE1.open
  obtain ⟨p0, p1, p2, p3, p4, f0, f1, f2, f3, f4⟩ := ed5 hh
  have hxb := blk_new w (Obj.cells #[.int .i64 kd, .int .i64 x2, .int .i64 x3, .int .i64 x4, .int .i64 x5, .int .i64 x6, .int .i64 x7, .string tx, .int .i64 y1, .int .i64 y2, .int .i64 y3] 33 (0, 0))
  obtain ⟨q0, q1, q2, q3, q4, q5, q6, q7, q8, q9, q10⟩ := eleven (x := ⟨kd, x2, x3, x4, x5, x6, x7, tx, ⟨y1, y2, y3⟩⟩) hxb
  have hA := below_mono (below_alloc (Below.refl w.heap.size w) (Obj.cells #[.int .i64 kd, .int .i64 x2, .int .i64 x3, .int .i64 x4, .int .i64 x5, .int .i64 x6, .int .i64 x7, .string tx, .int .i64 y1, .int .i64 y2, .int .i64 y3] 33 (0, 0))) hBw
  simp only [] at p0 p1 p2 p3 p4 q0 q1 q2 q3 q4 q5 q6 q7 q8 q9 q10
  have HE1 := Lib.hid hE1
  have HA := Lib.hid hA
  have HOK := Lib.hid hO
  have HX := Lib.hid hx
  have HXB := Lib.hid hxb
  have hcl : ce.length ≤ 1000 := Nat.le_trans (cen hO) (by decide)
  obtain ⟨st, hst⟩ : ∃ st, st = stepF 8 ⟨rt, wd, ht, ce, me⟩ ⟨kd, x2, x3, x4, x5, x6, x7, tx, ⟨y1, y2, y3⟩⟩ := ⟨_, rfl⟩
  rw [← hst]
  have HST : Hid (st = (trn (delF x3 x6 (trn ⟨rt, wd, ht, ce, me⟩)).1, (delF x3 x6 (trn ⟨rt, wd, ht, ce, me⟩)).2)) := Lib.hid hst
  clear hst
  have hot : Ok 16 60 24 12 (trn ⟨rt, wd, ht, ce, me⟩) := ok_trn hO
  have hlt : ((trn ⟨rt, wd, ht, ce, me⟩)).ce.length ≤ 1000 := by rw [len_trn]; exact hcl
  have HT1 := Lib.hid (fun (W : World) (hE : Ed W B D ⟨rt, wd, ht, ce, me⟩) => turn_ok hE hO hcl)
  have HT2 := Lib.hid (fun (W : World) (hE : Ed W B D (delF x3 x6 (trn ⟨rt, wd, ht, ce, me⟩)).1) => turn_ok hE (ok_delF2 hot) (Nat.le_trans len_delF hlt))
  have HI : Hid (∀ W : World, Ed W B D (trn ⟨rt, wd, ht, ce, me⟩) → Calls Tryz.prog 72 #[.pointer (some ⟨D, 0, none⟩), .int .i64 x3, .int .i64 x6] W fun e w' => e = .returned (.int .i64 (delF x3 x6 (trn ⟨rt, wd, ht, ce, me⟩)).2) ∧ Ed w' B D (delF x3 x6 (trn ⟨rt, wd, ht, ce, me⟩)).1 ∧ Below B W w') := Lib.hid (fun W hE => delete_any hE hot ⟨by decide, by decide⟩ hlt hx.2.1 hx.2.2.2.2.1)
  obtain ⟨t1, ht1⟩ : ∃ t, t = (trn ⟨rt, wd, ht, ce, me⟩) := ⟨_, rfl⟩
  rw [← ht1] at HI HT1 HT2 HST
  clear hot hlt ht1
  obtain ⟨r1, hr1⟩ : ∃ t, t = delF x3 x6 t1 := ⟨_, rfl⟩
  rw [← hr1] at HI HT2 HST
  clear hr1
  show Calls Tryz.prog 46 #[.pointer (some ⟨D, 0, none⟩), .agg #[.int .i64 kd, .int .i64 x2, .int .i64 x3, .int .i64 x4, .int .i64 x5, .int .i64 x6, .int .i64 x7, .string tx, .int .i64 y1, .int .i64 y2, .int .i64 y3]] w fun e w' => e = .returned (.int .i64 st.2) ∧ (st.2 = 0 → Ed w' B D st.1) ∧ Below B w w'
  clear hE1 hA hO hx hxb hE hh o1 o2 o3 o4 hne hR p0 p1 p2 p3 p4 f0 f1 f2 f3 f4 q0 q1 q2 q3 q4 q5 q6 q7 q8 q9 q10
  go_enter Tryz.func46, Tryz.ntmps46
  go_wp2_with (first
    | (go_at_call 73; refine (HT1.out _ HE1.out).mono ?_; rintro e w5 ⟨rfl, hE5, hb5, hk5⟩; have HE5 := Lib.hid hE5; have HB5 := Lib.hid hb5; have hx5 := hk5 _ _ HXB.out; clear hE5 hb5 hk5; obtain ⟨q0, q1, q2, q3, q4, q5, q6, q7, q8, q9, q10⟩ := eleven (x := ⟨kd, x2, x3, x4, x5, x6, x7, tx, ⟨y1, y2, y3⟩⟩) hx5; clear hx5)
    | (go_at_call 72; refine (HI.out _ HE5.out).mono ?_; rintro e w6 ⟨rfl, hE6, hb6⟩; have HE6 := Lib.hid hE6; have HB6 := Lib.hid hb6; clear hE6 hb6)
    | (go_at_call 73; refine (HT2.out _ HE6.out).mono ?_; rintro e w7 ⟨rfl, hE7, hb7, _⟩; have HE7 := Lib.hid hE7; have HB7 := Lib.hid hb7; clear hE7 hb7))
  go_ret
  exact ⟨by rw [HST.out]; rfl, fun _ => by rw [HST.out]; exact HE7.out, below_trans HA.out (below_trans HB5.out (below_trans HB6.out HB7.out))⟩
end Go.Proofs.YtcofacgdijjnoaaGreat
