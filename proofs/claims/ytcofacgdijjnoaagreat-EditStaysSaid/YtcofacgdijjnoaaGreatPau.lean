/- edit.turn: walked. slices.Repeat of one number: walked. edit.delete: its three little functions: walked. -/
import Derived.Test.YtcofacgdijjnoaaGreatPaa
import Derived.Test.YtcofacgdijjnoaaGreatPat
section
namespace Go.Proofs.YtcofacgdijjnoaaGreat
open PE (S31 S44 S49 k44 k49 k31)
open Go.RowKit Go.Shelf Go.Lib Go.Proofs.YtcofacgdijjnoaaGreatW.PrintWords Go.Proofs.YtcofacgdijjnoaaGreatW.PrintLast Go.Proofs.YtcofacgdijjnoaaGreatW.PrintMore
set_option linter.unusedVariables false
set_option linter.unusedSimpArgs false
set_option maxRecDepth 100000
set_option maxHeartbeats 2000000
theorem grown_dr {w w' : World} {row : Option Nat} (h : w.grownBy w' row) : w.grownBy w'.drew row := ⟨h.os, h.tape, h.output, h.size, h.block⟩
def Keep (w w' : World) : Prop := ∀ (b : Nat) (o : Array Value), w.heap[b]? = some (.cells o 33 (0, 0)) → w'.heap[b]? = some (.cells o 33 (0, 0))
theorem Keep.trans {w w1 w2 : World} (h : Keep w w1) (k : Keep w1 w2) : Keep w w2 := fun b o x => k b o (h b o x)
theorem Keep.row {α : Type} {enc : α → List Value} {e k : Nat} {w w' : World} {B : Nat} {v : Value} {l : List α} (h : Ow enc e k w B v l) (he : e ≠ 33) (hg : w.grownBy w' v.ownBlock) : Keep w w' := fun b o x => blk_grown x hg (own_ne h x he)
theorem Keep.set {w w' : World} {D i : Nat} {v : Value} {cs : Array Value} (k : Keep w w') (h : w'.heap[D]? = some (.cells cs 53 (0, 0))) : Keep w (w'.setCell ⟨D, i, none⟩ v) := fun b o x => blk_far (k b o x) (p := ⟨D, i, none⟩) (blk_ne (k b o x) h (by decide)) v
theorem turn_any {w : World} {B D : Nat} {s : Sh} (hE : Ed w B D s) (hl : s.ce.length ≤ 1000 ∧ s.me.length ≤ 1000) (hd : Dst ⟨s.rt, s.ht, s.wd, s.ce.map swC, s.me.map swR⟩) :
    Calls Tryz.prog 73 #[.pointer (some ⟨D, 0, none⟩)] w fun e w' => e = .returned (.tuple #[]) ∧ Ed w' B D (trn s) ∧ Below B w w' ∧ Keep w w' := by
  obtain ⟨⟨A1, c1, A2, c2, A3, c3, A4, c4⟩, hh, o1, o2, o3, o4, hne, hB, hR⟩ := hE.open
  obtain ⟨rt, wd, ht, ce, me⟩ := s
  obtain ⟨p0, p1, p2, p3, p4, f0, f1, f2, f3, f4⟩ := ed5 hh
  simp only [] at p0 p1 p2 p3 p4 hd hl
  have HH := Lib.hid hh
  have HO1 := Lib.hid o1
  have HO2 := Lib.hid o2
  have HO3 := Lib.hid o3
  have HO4 := Lib.hid o4
  have HNE := Lib.hid hne
  have HD := Lib.hid hd
  have HL := Lib.hid hl
  clear hE hh o1 o2 o3 o4 hne hR hd hl
  show Calls Tryz.prog 73 #[.pointer (some ⟨D, 0, none⟩)] w fun e w' => e = .returned (.tuple #[]) ∧ Ed w' B D ⟨rt, ht, wd, srtC (ce.map swC), srtR (me.map swR)⟩ ∧ Below B w w' ∧ Keep w w'
  go_enter Tryz.func73, Tryz.ntmps73
  go_wp2_with fail
  refine wp_region_noPanic ?_
  refine start_ (n := 20) (S := (fun w' => w'.cell? ⟨D, 1, none⟩ = some (.slice A1 wd.length c1) ∧ w'.cell? ⟨D, 2, none⟩ = some (.slice A2 ht.length c2))) (ds := [15, 19]) (bb 20 0) (by kernel_rfl) rfl rfl (⟨p1, p2⟩) (fun hHeld => ?_)
  refine pu_ 0 6 20 1 ?_
  refine pu_ 1 7 20 3 ?_
  refine pu_ 2 8 20 7 ?_
  refine pu_ 3 9 20 15 ?_
  refine pu_ 4 10 20 31 ?_
  refine pu_ 5 11 20 63 ?_
  refine ta_ 6 12 20 127 hHeld ?_
  refine pu_ 7 13 20 255 ?_
  refine pu_ 8 14 20 511 ?_
  refine pu_ 9 15 20 1023 ?_
  refine pu_ 10 16 20 2047 ?_
  refine ta_ 11 17 20 4095 hHeld ?_
  refine pu_ 12 18 20 8191 ?_
  refine pu_ 13 19 20 16383 ?_
  refine pu_ 14 20 20 32767 ?_
  refine last_ (i := 15) (N := none) (bb 20 65535) rfl rfl (by kernel_rfl) (by decide) (fun K hK => ?_)
  go_simp
  refine hK.out _ _ ?_
  refine pu_ 16 21 20 131071 ?_
  refine pu_ 17 22 20 262143 ?_
  refine pu_ 18 23 20 524287 ?_
  refine last_ (i := 19) (N := none) (bb 20 1048575) rfl rfl (by kernel_rfl) (by decide) (fun K hK => ?_)
  go_simp
  refine hK.out _ _ ?_
  refine done_ (by kernel_rfl) ?_
  refine NoPanic.normal ?_
  obtain ⟨W1, hW1⟩ : ∃ W, W = ((w.setCell ⟨D, 1, none⟩ (.slice A2 ht.length c2)).setCell ⟨D, 2, none⟩ (.slice A1 wd.length c1)).drew := ⟨_, rfl⟩
  have a0 : (w.setCell ⟨D, 1, none⟩ (.slice A2 ht.length c2)).heap[D]? = some (.cells #[.int .i64 rt, .slice A2 ht.length c2, .slice A2 ht.length c2, .slice A3 ce.length c3, .slice A4 me.length c4] 53 (0, 0)) := blk_put HH.out 1 _ rfl
  have a1 : W1.heap[D]? = some (.cells (shv ⟨A2, c2, A1, c1, A3, c3, A4, c4⟩ ⟨rt, ht, wd, ce, me⟩) 53 (0, 0)) := by rw [hW1]; exact blk_put a0 2 _ rfl
  have q1 : OwI W1 B (.slice A1 wd.length c1) wd := by rw [hW1]; exact ((show OwI w B _ wd from HO1.out).set (i := 1) (v := .slice A2 ht.length c2) HH.out (by decide)).set (i := 2) (v := .slice A1 wd.length c1) a0 (by decide)
  have q2 : OwI W1 B (.slice A2 ht.length c2) ht := by rw [hW1]; exact ((show OwI w B _ ht from HO2.out).set (i := 1) (v := .slice A2 ht.length c2) HH.out (by decide)).set (i := 2) (v := .slice A1 wd.length c1) a0 (by decide)
  have q3 : OwC W1 B (.slice A3 ce.length c3) ce := by rw [hW1]; exact ((show OwC w B _ ce from HO3.out).set (i := 1) (v := .slice A2 ht.length c2) HH.out (by decide)).set (i := 2) (v := .slice A1 wd.length c1) a0 (by decide)
  have q4 : OwR W1 B (.slice A4 me.length c4) me := by rw [hW1]; exact ((show OwR w B _ me from HO4.out).set (i := 1) (v := .slice A2 ht.length c2) HH.out (by decide)).set (i := 2) (v := .slice A1 wd.length c1) a0 (by decide)
  have q5 : Below B w W1 := by rw [hW1]; exact below_drew (((Below.refl B w).setCell (p := ⟨D, 1, none⟩) hB _).setCell (p := ⟨D, 2, none⟩) hB _)
  have q6 : Keep w W1 := by rw [hW1]; exact (Keep.set (Keep.set (fun b o x => x) HH.out) a0)
  rw [← hW1]
  have HK1 := Lib.hid q6
  have HH1 := Lib.hid a1
  have HP1 := Lib.hid q1
  have HP2 := Lib.hid q2
  have HP3 := Lib.hid q3
  have HP4 := Lib.hid q4
  have HB1 := Lib.hid q5
  clear hW1 a0 a1 q1 q2 q3 q4 q5 q6 p0 p1 p2 p3 p4 f0 f1 f2 f3 f4 HH HO1 HO2 HO3 HO4
  obtain ⟨p0, p1, p2, p3, p4, f0, f1, f2, f3, f4⟩ := ed5 HH1.out
  simp only [] at p0 p1 p2 p3 p4
  go_wp2_with fail
  go_loopg [30] ce.length (fun gg v30 wr => ∃ (j : Nat) (R : List S44), j ≤ ce.length ∧ gg = ce.length - j ∧ v30 = .int .i64 j ∧ R.length = ce.length ∧ Hid (OwC wr B (.slice A3 ce.length c3) R) ∧ Hid (W1.grownBy wr (Value.slice A3 ce.length c3).ownBlock) ∧ Hid (R.take j = (ce.take j).map swC) ∧ Hid (R.drop j = ce.drop j))
  case atStart => exact ⟨0, ce, Nat.zero_le _, rfl, rfl, rfl, HP3, Lib.hid (World.grownBy.refl _ _), Lib.hid (by simp), Lib.hid rfl⟩
  case round =>
    obtain ⟨j, R, hj, hg, rfl, hRl, HO, HG, HT, HDr⟩ := hrel
    have Hg := Lib.hid hg
    have HRl := Lib.hid hRl
    clear hg hRl
    have HHr := Lib.hid (blk_grown HH1.out HG.out (own_ne HP3.out HH1.out (by decide)))
    clear p0 p1 p2 p3 p4 f0 f1 f2 f3 f4
    obtain ⟨p0, p1, p2, p3, p4, f0, f1, f2, f3, f4⟩ := ed5 HHr.out
    (try simp only [] at p0 p1 p2 p3 p4)
    by_cases hlt : j < ce.length
    · have hjR : j < R.length := by rw [HRl.out]; exact hlt
      have hxl : R[j] = ce[j] := by
        have := HDr.out
        rw [List.drop_eq_getElem_cons hjR, List.drop_eq_getElem_cons hlt] at this
        exact (List.cons.inj this).1
      have hdr2 : R.drop (j + 1) = ce.drop (j + 1) := by
        have := HDr.out
        rw [List.drop_eq_getElem_cons hjR, List.drop_eq_getElem_cons hlt] at this
        exact (List.cons.inj this).2
      obtain ⟨g, _, hA, _⟩ := own_form HP3.out (by omega)
      subst hA
      obtain ⟨m0, m1, m2, m3, m4, m5, n0, n1, n2, n3, n4, n5⟩ := ocells6 HO.out (List.getElem?_eq_getElem hjR)
      obtain ⟨x, hx⟩ : ∃ x, x = R[j] := ⟨_, rfl⟩
      rw [← hx] at m0 m1 m2 m3 m4 m5
      have HX := Lib.hid hx
      have HXL := Lib.hid hxl
      have HD2 := Lib.hid hdr2
      have hlz : (j : Int) < (ce.length : Int) := by omega
      have HLT := Lib.hid hlt
      have hcb := HL.out.1
      clear hx hxl hdr2 m2 m3 m4 m5 n2 n3 n4 n5 p0 p1 p2 p4 f0 f1 f2 f3 f4
      go_wp2_with fail
      refine wp_region_noPanic ?_
      refine start_ (n := 16) (S := (fun w' => w'.cell? ⟨g, j * 6 + 1, none⟩ = some (.int .i64 x.f1) ∧ w'.cell? ⟨g, j * 6, none⟩ = some (.int .i64 x.f0))) (ds := [12, 15]) (bb 16 0) (by kernel_rfl) rfl rfl (⟨m1, m0⟩) (fun hHeld => ?_)
      refine pu_ 0 40 16 1 ?_
      refine pu_ 2 42 16 5 ?_
      refine pu_ 3 43 16 13 ?_
      refine pu_ 4 44 16 29 ?_
      refine ta_ 5 45 16 61 hHeld ?_
      refine pu_ 6 46 16 125 ?_
      refine pu_ 7 47 16 253 ?_
      refine pu_ 8 48 16 509 ?_
      refine ta_ 9 49 16 1021 hHeld ?_
      refine pu_ 10 50 16 2045 ?_
      refine pu_ 11 51 16 4093 ?_
      refine pu_ 1 41 16 4095 ?_
      refine last_ (i := 12) (N := none) (bb 16 8191) rfl rfl (by kernel_rfl) (by decide) (fun K hK => ?_)
      go_simp
      refine hK.out _ _ ?_
      refine pu_ 13 52 16 16383 ?_
      refine pu_ 14 53 16 32767 ?_
      refine last_ (i := 15) (N := none) (bb 16 65535) rfl rfl (by kernel_rfl) (by decide) (fun K hK => ?_)
      go_simp
      refine hK.out _ _ ?_
      refine done_ (by kernel_rfl) ?_
      refine NoPanic.normal ?_
      go_wp2_with fail
      go_roundg (ce.length - (j + 1))
      case measure => have := Hg.out; omega
      case rel =>
        have h1 := HO.out.put1 lenC HRl.out.symm j hjR 0 (by omega) (.int .i64 x.f1) ⟨x.f1, x.f1, x.f2, x.f3⟩ (by rw [← HX.out]; rfl)
        have h2 := h1.put1 lenC (by rw [List.length_set]; exact HRl.out.symm) j (by rw [List.length_set]; exact hjR) 1 (by omega) (.int .i64 x.f0) (swC x) (by rw [List.getElem_set_self]; rfl)
        rw [List.set_set] at h2
        have hlt := HLT.out
        refine ⟨j + 1, R.set j (swC x), hlt, rfl, by go_num, by rw [List.length_set]; exact HRl.out, Lib.hid h2, Lib.hid (grown_dr ((HG.out.trans (grown_set1 wr (j * 6) _)).trans (grown_set1 _ (j * 6 + 1) _))), Lib.hid ?_, Lib.hid ?_⟩
        · rw [List.take_succ_eq_append_getElem (by rw [List.length_set]; exact hjR), List.getElem_set_self, List.take_set_of_le (Nat.le_refl j), HT.out, List.take_succ_eq_append_getElem hlt, List.map_append, HX.out, HXL.out]; rfl
        · rw [List.drop_set_of_lt (by omega)]; exact HD2.out
    · have hjl : j = ce.length := by omega
      have hRe : R = ce.map swC := by
        have h1 := HT.out
        rw [hjl, List.take_of_length_le (by rw [HRl.out]; exact Nat.le_refl _), List.take_of_length_le (Nat.le_refl _)] at h1
        exact h1
      subst hjl
      have hnz : ¬ ((ce.length : Int) < (ce.length : Int)) := by omega
      have HRe := Lib.hid hRe
      clear hRe hlt HT HDr Hg
      have HQ1 : Hid (OwI wr B (.slice A1 wd.length c1) wd) := Lib.hid (own_other HP1.out HG.out (own_apart HP1.out HP3.out (by decide)))
      have HQ2 : Hid (OwI wr B (.slice A2 ht.length c2) ht) := Lib.hid (own_other HP2.out HG.out (own_apart HP2.out HP3.out (by decide)))
      have HQ4 : Hid (OwR wr B (.slice A4 me.length c4) me) := Lib.hid (own_other HP4.out HG.out (own_apart HP4.out HP3.out (by decide)))
      have hBW : B ≤ W1.heap.size := by have := blk_lt HH1.out; omega
      have HBr : Hid (Below B w wr) := Lib.hid (below_trans HB1.out ((Below.refl B W1).grown HG.out hBW (own_base HP3.out)))
      have HKr : Hid (Keep w wr) := Lib.hid (HK1.out.trans (Keep.row HP3.out (by decide) HG.out))
      go_wp2_with fail
      obtain ⟨W2, hW2⟩ : ∃ W, W = wr := ⟨_, rfl⟩
      rw [← hW2] at HKr HHr HO HQ1 HQ2 HQ4 HBr p0 p1 p2 p3 p4 f0 f1 f2 f3 f4 ⊢
      clear hW2 HG HH1 HP1 HP2 HP3 HP4 HB1 hBW
      have HR3 := HRl
      clear HRl
      obtain ⟨R3, hR3⟩ : ∃ x, x = R := ⟨_, rfl⟩
      rw [← hR3] at HR3 HO HRe
      clear hR3 R
      go_loopg [61] me.length (fun gg v61 wx => ∃ (j : Nat) (R : List S49), j ≤ me.length ∧ gg = me.length - j ∧ v61 = .int .i64 j ∧ R.length = me.length ∧ Hid (OwR wx B (.slice A4 me.length c4) R) ∧ Hid (W2.grownBy wx (Value.slice A4 me.length c4).ownBlock) ∧ Hid (R.take j = (me.take j).map swR) ∧ Hid (R.drop j = me.drop j))
      case atStart => exact ⟨0, me, Nat.zero_le _, rfl, rfl, rfl, HQ4, Lib.hid (World.grownBy.refl _ _), Lib.hid (by simp), Lib.hid rfl⟩
      case round =>
        obtain ⟨j, R, hj, hg, rfl, hRl, HO4r, HG, HT, HDr⟩ := hrel
        have Hg := Lib.hid hg
        have HRl := Lib.hid hRl
        clear hg hRl
        have HHx := Lib.hid (blk_grown HHr.out HG.out (own_ne HQ4.out HHr.out (by decide)))
        clear p0 p1 p2 p3 p4 f0 f1 f2 f3 f4
        obtain ⟨p0, p1, p2, p3, p4, f0, f1, f2, f3, f4⟩ := ed5 HHx.out
        (try simp only [] at p0 p1 p2 p3 p4)
        by_cases hlt : j < me.length
        · have hjR : j < R.length := by rw [HRl.out]; exact hlt
          have hxl : R[j] = me[j] := by
            have := HDr.out
            rw [List.drop_eq_getElem_cons hjR, List.drop_eq_getElem_cons hlt] at this
            exact (List.cons.inj this).1
          have hdr2 : R.drop (j + 1) = me.drop (j + 1) := by
            have := HDr.out
            rw [List.drop_eq_getElem_cons hjR, List.drop_eq_getElem_cons hlt] at this
            exact (List.cons.inj this).2
          obtain ⟨g, _, hA, _⟩ := own_form HQ4.out (by omega)
          subst hA
          obtain ⟨x, hx⟩ : ∃ x, x = R[j] := ⟨_, rfl⟩
          have hba := below_alloc (Below.refl wr.heap.size wr) (Obj.cells #[.int .i64 x.f0, .int .i64 x.f1, .int .i64 x.f2, .int .i64 x.f3] 49 (0, 0))
          obtain ⟨m0, m1, m2, m3, _, _, _, _⟩ := ocells4 HO4r.out (List.getElem?_eq_getElem hjR)
          obtain ⟨k0, k1, k2, k3, n0, n1, n2, n3⟩ := ocells4 (Ow.below HO4r.out hba) (List.getElem?_eq_getElem hjR)
          obtain ⟨b0, b1, b2, b3⟩ := four (r := x) (blk_new wr (Obj.cells #[.int .i64 x.f0, .int .i64 x.f1, .int .i64 x.f2, .int .i64 x.f3] 49 (0, 0)))
          have d4 := pw_cell_below hba p4
          rw [← hx] at m0 m1 m2 m3 k0 k1 k2 k3
          have HX := Lib.hid hx
          have HXL := Lib.hid hxl
          have HD2 := Lib.hid hdr2
          have HBA := Lib.hid hba
          have hlz : (j : Int) < (me.length : Int) := by omega
          have HLT := Lib.hid hlt
          have hcb := HL.out.2
          clear hx hxl hdr2 p0 p1 p2 p3 f0 f1 f2 f3 f4 hba
          go_wp2_with fail
          refine wp_region_noPanic ?_
          refine start_ (n := 17) (S := (fun w' => w'.cell? ⟨D, 4, none⟩ = some (.slice (some ⟨g, 0, none⟩) me.length c4) ∧ w'.cell? ⟨wr.heap.size, 1, none⟩ = some (.int .i64 x.f1) ∧ w'.cell? ⟨wr.heap.size, 0, none⟩ = some (.int .i64 x.f0) ∧ w'.cell? ⟨wr.heap.size, 3, none⟩ = some (.int .i64 x.f3) ∧ w'.cell? ⟨wr.heap.size, 2, none⟩ = some (.int .i64 x.f2))) (ds := [16]) (bb 17 0) (by kernel_rfl) rfl rfl (⟨d4, b1, b0, b3, b2⟩) (fun hHeld => ?_)
          refine pu_ 0 66 17 1 ?_
          refine pu_ 1 67 17 3 ?_
          refine pu_ 2 68 17 7 ?_
          refine pu_ 3 69 17 15 ?_
          refine ta_ 4 70 17 31 hHeld ?_
          refine pu_ 5 71 17 63 ?_
          refine pu_ 6 72 17 127 ?_
          refine ta_ 7 73 17 255 hHeld ?_
          refine pu_ 8 74 17 511 ?_
          refine ta_ 9 75 17 1023 hHeld ?_
          refine pu_ 10 76 17 2047 ?_
          refine ta_ 11 77 17 4095 hHeld ?_
          refine pu_ 12 78 17 8191 ?_
          refine ta_ 13 79 17 16383 hHeld ?_
          refine pu_ 14 80 17 32767 ?_
          refine pu_ 15 81 17 65535 ?_
          refine last_ (i := 16) (N := none) (bb 17 131071) rfl rfl (by kernel_rfl) (by decide) (fun K hK => ?_)
          go_simp
          refine hK.out _ _ ?_
          refine done_ (by kernel_rfl) ?_
          refine NoPanic.normal ?_
          go_wp2_with fail
          go_roundg (me.length - (j + 1))
          case measure => have := Hg.out; omega
          case rel =>
            have hlt := HLT.out
            refine ⟨j + 1, R.set j (swR x), hlt, rfl, by go_num, by rw [List.length_set]; exact HRl.out, Lib.hid ((Ow.below HO4r.out HBA.out).put lenR HRl.out.symm j hlt (swR x)), Lib.hid (grown_dr ((HG.out.trans (grown_of_below HBA.out _)).trans (grown_setCells (encR (swR x)) (j * 4) _))), Lib.hid ?_, Lib.hid ?_⟩
            · rw [List.take_succ_eq_append_getElem (by rw [List.length_set]; exact hjR), List.getElem_set_self, List.take_set_of_le (Nat.le_refl j), HT.out, List.take_succ_eq_append_getElem hlt, List.map_append, HX.out, HXL.out]; rfl
            · rw [List.drop_set_of_lt (by omega)]; exact HD2.out
        · have hjl : j = me.length := by omega
          have hRe : R = me.map swR := by
            have h1 := HT.out
            rw [hjl, List.take_of_length_le (by rw [HRl.out]; exact Nat.le_refl _), List.take_of_length_le (Nat.le_refl _)] at h1
            exact h1
          subst hjl
          have hnz : ¬ ((me.length : Int) < (me.length : Int)) := by omega
          have h1 : OwI wr B (.slice A1 wd.length c1) wd := own_other HQ1.out HG.out (own_apart HQ1.out HQ4.out (by decide))
          have h2 : OwI wr B (.slice A2 ht.length c2) ht := own_other HQ2.out HG.out (own_apart HQ2.out HQ4.out (by decide))
          have h3 : OwC wr B (.slice A3 ce.length c3) R3 := own_other HO.out HG.out (own_apart HO.out HQ4.out (by decide))
          have h4 := HO4r.out
          have hB2 : B ≤ W2.heap.size := by have := blk_lt HHr.out; omega
          have h5 : Below B w wr := below_trans HBr.out ((Below.refl B W2).grown HG.out hB2 (own_base HQ4.out))
          have h6 : wr.heap[D]? = some (.cells (shv ⟨A2, c2, A1, c1, A3, c3, A4, c4⟩ ⟨rt, ht, wd, R3, R⟩) 53 (0, 0)) := by
            show wr.heap[D]? = some (.cells #[.int .i64 rt, .slice A2 ht.length c2, .slice A1 wd.length c1, .slice A3 R3.length c3, .slice A4 R.length c4] 53 (0, 0))
            rw [HR3.out, HRl.out]; exact HHx.out
          rw [← HR3.out] at h3
          rw [← HRl.out] at h4
          have hds : Dst ⟨rt, ht, wd, R3, R⟩ := by rw [HRe.out, hRe]; exact HD.out
          have hk5 : Keep w wr := HKr.out.trans (Keep.row HQ4.out (by decide) HG.out)
          have HKS := Lib.hid (fun (w1 w2 : World) (lg1 : wr.grownBy w1 _) (lg2 : w1.grownBy w2 _) => (hk5.trans (Keep.row h3 (by decide) lg1)).trans (Keep.row (own_other h4 lg1 (own_apart h4 h3 (by decide))) (by decide) lg2))
          have HSO := Lib.hid (sort_open h6 h2 h1 h3 h4 hB hds)
          have HB5 := Lib.hid h5
          have HRe4 := Lib.hid hRe
          clear hk5 h1 h2 h3 h4 h5 h6 hds hRe hB2 hlt HT HDr Hg
          go_wp2_with (go_at_call 66; refine HSO.out.mono ?_; rintro e w5 ⟨rfl, hh5, l1, l2, l3, l4, lb, wm, lg1, lg2⟩; have HF := Lib.hid (And.intro hh5 (And.intro l1 (And.intro l2 (And.intro l3 (And.intro l4 (And.intro lb (HKS.out _ _ lg1 lg2))))))); clear hh5 l1 l2 l3 l4 lb lg1 lg2)
          go_end0
          obtain ⟨a, b, c, d, e, f, kk⟩ := HF.out
          refine ⟨rfl, ?_, below_trans HB5.out f, kk⟩
          rw [← HRe.out, ← HRe4.out]
          exact ⟨_, _, _, _, a, b, c, d, e, ne_symm HNE.out, hB⟩
end Go.Proofs.YtcofacgdijjnoaaGreat
end
section
namespace Go.Proofs.YtcofacgdijjnoaaGreat
open PE (S31 S44 S49 k44 k49 k31)
open Go.RowKit Go.Shelf Go.Lib Go.Proofs.YtcofacgdijjnoaaGreatW.PrintWords Go.Proofs.YtcofacgdijjnoaaGreatW.PrintLast Go.Proofs.YtcofacgdijjnoaaGreatW.PrintMore
set_option linter.unusedVariables false
set_option linter.unusedSimpArgs false
set_option maxRecDepth 100000
set_option maxHeartbeats 2000000
theorem mul_any (n : Nat) (hn : n ≤ 1000) (w : World) : Calls Tryz.prog 105 #[.int .u64 1, .int .u64 n] w fun e w' => e = .returned (.tuple #[.int .u64 0, .int .u64 n]) ∧ w' = w := by
  have h := Tryz.bits_Mul 1 n (by decide) (by omega) w
  rw [Nat.one_mul, Nat.div_eq_of_lt (by omega), Nat.mod_eq_of_lt (by omega)] at h
  exact h
theorem flt_rep (x : Int) : ∀ n : Nat, flt encI (List.replicate n x) = List.replicate n (.int .i64 x)
  | 0 => rfl
  | n + 1 => by rw [List.replicate_succ, flt, flt_rep x n, List.replicate_succ]; rfl
theorem repeat_any {w : World} {b : Nat} {size : Int} {n : Nat} (hb : w.heap[b]? = some (.cells #[.int .i64 size] 3 (0, 0))) (h1 : 1 ≤ n) (hn : n ≤ 1000) :
    Calls Tryz.prog 90 #[.slice (some ⟨b, 0, none⟩) 1 1, .int .i64 n] w fun e w' => ∃ g cap, e = .returned (.slice (some ⟨g, 0, none⟩) (List.replicate n size).length cap) ∧ OwI w' w.heap.size (.slice (some ⟨g, 0, none⟩) (List.replicate n size).length cap) (List.replicate n size) ∧ Below w.heap.size w w' := by
  have HM := Lib.hid (mul_any n hn)
  have HB := Lib.hid hb
  have hnz : (0 : Int) ≤ (n : Int) := by omega
  have hnn : n ≤ maxLen := by unfold maxLen; omega
  obtain ⟨i0, hi0, hz0, hzs, hzb⟩ := info_parts PE.info3
  obtain ⟨W1, hmk, hown, hgr⟩ := run_makeSlice_full (P := Tryz.prog) w w.heap.size 22 3 i0 _ 1 Tryz.underlying22 hi0 hz0 hzs .i64 .i64 n (by omega) (by rw [hzb]; omega) hnn (Nat.le_refl _)
  have hs3 : (Tryz.prog.info? 3).map (·.size) = some 1 := by rw [hi0]; simp [hzs]
  have hsc : ∀ j v, ([.int .i64 size] : List Value)[j]? = some v → W1.cell? ((⟨b, 0, none⟩ : Addr).add j) = some v := fun j v hj => by
    rw [Addr.add_lit, Nat.zero_add]
    have hb1 := hgr.block b (blk_lt hb) (by simp)
    have h2 : W1.heap[b]? = some (.cells #[.int .i64 size] 3 (0, 0)) := by rw [hb1]; exact hb
    rw [cell_of_row _ _ _ _ _ _ h2]
    simpa using hj
  obtain ⟨hcp, ho1, hg1⟩ := copy_own hown 22 22 0 1 ⟨b, 0, none⟩ [.int .i64 size] Tryz.underlying22 hs3 rfl (by omega) hsc (by intro v hv; rw [List.mem_singleton] at hv; subst hv; rfl)
  have hcpa := fun ty => hcp ty n n 1 1 (Nat.min_eq_left (by omega))
  obtain ⟨W2, hW2⟩ : ∃ W, W = W1.setCells w.heap.size (0 * 1) [.int .i64 size] := ⟨_, rfl⟩
  rw [← hW2] at hcpa ho1 hg1
  simp only [Nat.zero_mul] at hcpa ho1
  have hbl : Below w.heap.size w W2 := by
    have h1 : Below w.heap.size w W1 := ⟨hgr.os, hgr.tape, hgr.output, hgr.size, fun k hk => hgr.block k hk (by simp)⟩
    exact h1.grown hg1 h1.size (fun k hk => by cases hk; exact Nat.le_refl _)
  have HO := Lib.hid ho1
  have HBL := Lib.hid hbl
  have HS3 := Lib.hid hs3
  rw [List.length_replicate]
  clear hb hown hgr hsc hcp ho1 hg1 hbl hs3 hW2 hi0 hz0 hzs hzb
  go_enter Tryz.func90, Tryz.ntmps90
  go_wp2_with (first
    | (go_at_call 105; refine (HM.out _).mono ?_; rintro e w1 ⟨rfl, hw1⟩; obtain rfl := hw1.symm)
    | (at_builtin; refine wpList_copy_is _ rfl _ _ 22 22 rfl _ _ rfl rfl (hcpa _) ?_))
  go_loopg [8] (n - 1) (fun gg v8 wr => ∃ (p : Nat) (xs : List Value), 1 ≤ p ∧ p ≤ n ∧ gg = n - p ∧ v8 = .int .i64 p ∧ Hid (wr.ownsRow w.heap.size 3 1 (.slice (some ⟨w.heap.size, 0, none⟩) n n) n xs) ∧ Hid (Below w.heap.size w wr) ∧ Hid (xs.take p = List.replicate p (.int .i64 size)))
  case atStart => exact ⟨1, _, Nat.le_refl _, h1, rfl, rfl, HO, HBL, Lib.hid rfl⟩
  case round =>
    obtain ⟨p, xs, hp1, hpn, hg, rfl, HX, HB2, HT⟩ := hrel
    have Hg := Lib.hid hg
    clear hg
    by_cases hlt : p < n
    · obtain ⟨m, hm⟩ : ∃ m, m = min p (n - p) := ⟨_, rfl⟩
      have hm1 : m ≤ p := by omega
      have hm2 : p + m ≤ n := by omega
      have hm3 : 1 ≤ m := by omega
      have hxl := HX.out.1
      have hml : (xs.take m).length = m * 1 := by rw [List.length_take]; omega
      have htm : xs.take m = List.replicate m (.int .i64 size) := by
        have := congrArg (List.take m) HT.out
        rwa [List.take_take, Nat.min_eq_left hm1, List.take_replicate, Nat.min_eq_left hm1] at this
      obtain ⟨hcp, ho1, hg1⟩ := copy_own (show (wr.drew).ownsRow w.heap.size 3 1 (.slice (some ⟨w.heap.size, 0, none⟩) n n) n xs from HX.out) 22 22 p m ⟨w.heap.size, 0, none⟩ (xs.take m) Tryz.underlying22 HS3.out hml hm2 (fun j v hj => by
        rw [Addr.add_lit, Nat.zero_add]
        rw [List.getElem?_take] at hj
        split at hj
        · exact own_src (w := wr) HX.out _ _ hj
        · cases hj) (by rw [htm]; intro v hv; rw [List.eq_of_mem_replicate hv]; rfl)
      have hcpa := fun ty => hcp ty (n - p) (n - p) p n hm.symm
      have htk : (xs.take (p * 1) ++ xs.take m ++ xs.drop ((p + m) * 1)).take (p + m) = List.replicate (p + m) (.int .i64 size) := by
        rw [Nat.mul_one, HT.out, htm, List.replicate_append_replicate, List.take_left' List.length_replicate]
      have HO1 := Lib.hid ho1
      have HG1 := Lib.hid hg1
      have HTK := Lib.hid htk
      simp only [Nat.mul_one] at hcpa
      have hlz : (p : Int) < (n : Int) := by omega
      have hb1 : (0 : Int) ≤ (p : Int) := by omega
      have hpz : (p : Int) ≤ (n : Int) := by omega
      have hcn : ¬ (n = p) := by omega
      have hw1 : IntKind.i64.wrap ((p : Int) + (m : Int)) = (p : Int) + (m : Int) := by rw [IntKind.wrap_i64]; omega
      have HM2 := Lib.hid hm2
      have HM3 := Lib.hid hm3
      have HLT := Lib.hid hlt
      clear hcp ho1 hg1 htk hml htm hxl hm hm1 hm2 hm3 hlt
      go_wp2_with fail
      go_region_law (refine step_copy_is rfl _ _ 22 22 rfl (.slice (some ⟨w.heap.size, p, none⟩) (n - p) (n - p)) (.slice (some ⟨w.heap.size, 0, none⟩) p n) (by simp [Act.eval, Act.put]) (by simp [Act.eval, Act.put]) (hcpa _) ?_)
      go_wp2_with fail
      go_roundg (n - (p + m))
      case measure => have := Hg.out; have := HM3.out; have := HLT.out; omega
      case rel =>
        have h1 := HO1.out
        have h2 := HG1.out
        simp only [Nat.mul_one] at h1 h2
        have h3 := HTK.out
        simp only [Nat.mul_one] at h3
        exact ⟨p + m, _, by omega, HM2.out, rfl, by go_num, Lib.hid h1, Lib.hid (HB2.out.grown (grown_drew h2) HB2.out.size (fun k hk => by cases hk; exact Nat.le_refl _)), Lib.hid h3⟩
    · obtain rfl : p = n := by omega
      have hnz : ¬ ((p : Int) < (p : Int)) := by omega
      have hxl := HX.out.1
      have hxe : xs = List.replicate p (.int .i64 size) := by
        have h2 := HT.out
        rwa [List.take_of_length_le (by omega)] at h2
      have HXE := Lib.hid hxe
      clear hxl hxe
      go_wp2_with fail
      go_ret
      refine ⟨_, _, rfl, ?_, HB2.out⟩
      show wr.ownsRow w.heap.size 3 1 _ (List.replicate p size).length (flt encI (List.replicate p size))
      rw [List.length_replicate, flt_rep, ← HXE.out]
      exact HX.out
end Go.Proofs.YtcofacgdijjnoaaGreat
end
section
namespace Go.Proofs.YtcofacgdijjnoaaGreat
open PE (S31 S44 S49 k44 k49 k31)
open Go.RowKit Go.Shelf Go.Lib Go.Proofs.YtcofacgdijjnoaaGreatW.PrintWords Go.Proofs.YtcofacgdijjnoaaGreatW.PrintLast Go.Proofs.YtcofacgdijjnoaaGreatW.PrintMore
set_option linter.unusedVariables false
set_option linter.unusedSimpArgs false
set_option maxRecDepth 100000
set_option maxHeartbeats 2000000
attribute [local go_sem] max2_int min2_int max_two min_two max_three min_three max_four min_four
theorem gone_any {w : World} {a b : Nat} {at' n row : Int} (ha : w.cell? ⟨a, 0, none⟩ = some (.int .i64 at')) (hb : w.cell? ⟨b, 0, none⟩ = some (.int .i64 n)) (h1 : 0 ≤ at' ∧ at' ≤ 1000) (h2 : 0 ≤ row ∧ row ≤ 3000) :
    Calls Tryz.prog 92 #[.int .i64 row, .pointer (some ⟨a, 0, none⟩), .pointer (some ⟨b, 0, none⟩)] w fun e w' => e = .returned (.int .i64 (gone at' n row)) ∧ Below w.heap.size w w' := by
  have hw : IntKind.i64.wrap (row - at') = row - at' := by rw [IntKind.wrap_i64]; omega
  obtain ⟨g, hg⟩ : ∃ g, g = gone at' n row := ⟨_, rfl⟩
  rw [← hg]
  have HG := Lib.hid hg
  clear hg h1 h2
  go_enter Tryz.func92, Tryz.ntmps92
  go_wp2
  all_goals
    go_ret
    refine ⟨congrArg (fun z => Ending.returned (Value.int IntKind.i64 z)) ?_, Below.refl _ _⟩
    rw [HG.out]; unfold gone
    first
      | omega
      | (repeat' split at * <;> try omega)
theorem t93g {l : List S44} {w : World} {row : Option Nat} {a b : Nat} {at' n : Int} (ha : ∀ W, w.grownBy W row → W.cell? ⟨a, 0, none⟩ = some (.int .i64 at')) (hb : ∀ W, w.grownBy W row → W.cell? ⟨b, 0, none⟩ = some (.int .i64 n)) (h1 : 0 ≤ at' ∧ at' ≤ 1000) (h2 : 0 ≤ n ∧ n ≤ 1000) :
    TellsG 93 #[.pointer (some ⟨a, 0, none⟩), .pointer (some ⟨b, 0, none⟩)] (fun x => .agg (encC x).toArray) (fun c => decide (at' ≤ c.f0 ∧ c.f0 < at' + n)) l w row := by
  intro W x hx hg
  have ka := pw_cell_below (below_alloc (Below.refl W.heap.size W) (Obj.cells #[.int .i64 x.f0, .int .i64 x.f1, .string x.f2, .int .i64 x.f3.f0, .int .i64 x.f3.f1, .int .i64 x.f3.f2] 44 (0, 0))) (ha W hg)
  have kb := pw_cell_below (below_alloc (Below.refl W.heap.size W) (Obj.cells #[.int .i64 x.f0, .int .i64 x.f1, .string x.f2, .int .i64 x.f3.f0, .int .i64 x.f3.f1, .int .i64 x.f3.f2] 44 (0, 0))) (hb W hg)
  obtain ⟨m0, m1, m2, m3, m4, m5⟩ := six (blk_new W (Obj.cells #[.int .i64 x.f0, .int .i64 x.f1, .string x.f2, .int .i64 x.f3.f0, .int .i64 x.f3.f1, .int .i64 x.f3.f2] 44 (0, 0)))
  have hw : IntKind.i64.wrap (at' + n) = at' + n := by rw [IntKind.wrap_i64]; omega
  have HA := Lib.hid (below_alloc (Below.refl W.heap.size W) (Obj.cells #[.int .i64 x.f0, .int .i64 x.f1, .string x.f2, .int .i64 x.f3.f0, .int .i64 x.f3.f1, .int .i64 x.f3.f2] 44 (0, 0)))
  obtain ⟨g, hgd⟩ : ∃ g, g = decide (at' ≤ x.f0 ∧ x.f0 < at' + n) := ⟨_, rfl⟩
  show Calls Tryz.prog 93 #[.agg #[.int .i64 x.f0, .int .i64 x.f1, .string x.f2, .int .i64 x.f3.f0, .int .i64 x.f3.f1, .int .i64 x.f3.f2], .pointer (some ⟨a, 0, none⟩), .pointer (some ⟨b, 0, none⟩)] W fun e w' => e = .returned (.bool (decide (at' ≤ x.f0 ∧ x.f0 < at' + n))) ∧ Below W.heap.size W w'
  rw [← hgd]
  have HG := Lib.hid hgd
  clear ha hb hx hg hgd h1 h2 m1 m2 m3 m4 m5
  by_cases h0 : at' ≤ x.f0
  · have HR : Hid (g = decide (x.f0 < at' + n)) := Lib.hid (by rw [HG.out]; exact decide_eq_decide.mpr ⟨fun h => h.2, fun h => ⟨h0, h⟩⟩)
    have kt : decide (at' ≤ x.f0) = true := decide_eq_true h0
    clear HG
    go_enter Tryz.func93, Tryz.ntmps93
    go_wp2
    all_goals (go_ret; exact ⟨by rw [HR.out]; first | rfl | simp_all, HA.out⟩)
  · have HR : Hid (g = false) := Lib.hid (by rw [HG.out]; exact decide_eq_false fun h => h0 h.1)
    have kt : decide (at' ≤ x.f0) = false := decide_eq_false h0
    clear HG
    go_enter Tryz.func93, Tryz.ntmps93
    go_wp2
    all_goals (go_ret; exact ⟨by rw [HR.out]; first | rfl | simp_all, HA.out⟩)
theorem t94g {l : List S49} {w : World} {row : Option Nat} (hl : ∀ x ∈ l, (-3000 ≤ x.f2 ∧ x.f2 ≤ 3000) ∧ (-3000 ≤ x.f3 ∧ x.f3 ≤ 3000)) :
    TellsG 94 #[] (fun x => .agg (encR x).toArray) (fun r => decide (r.f2 * r.f3 < 2)) l w row := by
  intro W x hx hg
  obtain ⟨m0, m1, m2, m3⟩ := four (r := x) (blk_new W (Obj.cells #[.int .i64 x.f0, .int .i64 x.f1, .int .i64 x.f2, .int .i64 x.f3] 49 (0, 0)))
  obtain ⟨⟨a1, a2⟩, ⟨a3, a4⟩⟩ := hl x hx
  have hw : IntKind.i64.wrap (x.f2 * x.f3) = x.f2 * x.f3 := by
    have h1 : x.f2 * x.f3 ≤ 9000000 := by
      have e1 : (3000 - x.f2) * (3000 + x.f3) ≥ 0 := Int.mul_nonneg (by omega) (by omega)
      have e2 : (3000 + x.f2) * (3000 - x.f3) ≥ 0 := Int.mul_nonneg (by omega) (by omega)
      have e3 : (3000 - x.f2) * (3000 + x.f3) = 9000000 + 3000 * x.f3 - 3000 * x.f2 - x.f2 * x.f3 := by rw [Int.sub_mul, Int.mul_add, Int.mul_add]; omega
      have e4 : (3000 + x.f2) * (3000 - x.f3) = 9000000 - 3000 * x.f3 + 3000 * x.f2 - x.f2 * x.f3 := by rw [Int.add_mul, Int.mul_sub, Int.mul_sub]; omega
      omega
    have h2 : -9000000 ≤ x.f2 * x.f3 := by
      have e1 : (3000 - x.f2) * (3000 - x.f3) ≥ 0 := Int.mul_nonneg (by omega) (by omega)
      have e2 : (3000 + x.f2) * (3000 + x.f3) ≥ 0 := Int.mul_nonneg (by omega) (by omega)
      have e3 : (3000 - x.f2) * (3000 - x.f3) = 9000000 - 3000 * x.f3 - 3000 * x.f2 + x.f2 * x.f3 := by rw [Int.sub_mul, Int.mul_sub, Int.mul_sub]; omega
      have e4 : (3000 + x.f2) * (3000 + x.f3) = 9000000 + 3000 * x.f3 + 3000 * x.f2 + x.f2 * x.f3 := by rw [Int.add_mul, Int.mul_add, Int.mul_add]; omega
      omega
    rw [IntKind.wrap_i64]; omega
  have HA := Lib.hid (below_alloc (Below.refl W.heap.size W) (Obj.cells #[.int .i64 x.f0, .int .i64 x.f1, .int .i64 x.f2, .int .i64 x.f3] 49 (0, 0)))
  show Calls Tryz.prog 94 #[.agg #[.int .i64 x.f0, .int .i64 x.f1, .int .i64 x.f2, .int .i64 x.f3]] W fun e w' => e = .returned (.bool (decide (x.f2 * x.f3 < 2))) ∧ Below W.heap.size W w'
  clear hx hg hl a1 a2 a3 a4 m0 m1
  go_enter Tryz.func94, Tryz.ntmps94
  go_wp2
  go_ret
  exact ⟨rfl, HA.out⟩
end Go.Proofs.YtcofacgdijjnoaaGreat
end
