/- edit.insert: walked. -/
import Derived.Test.YtcofacgdijjnoaaGreatPaa
import Derived.Test.YtcofacgdijjnoaaGreatPau
namespace Go.Proofs.YtcofacgdijjnoaaGreat
open PE (S31 S44 S49 k44 k49 k31)
open Go.RowKit Go.Shelf Go.Lib Go.Proofs.YtcofacgdijjnoaaGreatW.PrintWords Go.Proofs.YtcofacgdijjnoaaGreatW.PrintLast Go.Proofs.YtcofacgdijjnoaaGreatW.PrintMore
set_option linter.unusedVariables false
set_option linter.unusedSimpArgs false
set_option maxRecDepth 100000
set_option maxHeartbeats 16000000
def BigS (s : Sh) : Prop := (s.ht.length ≤ 100 ∧ s.ce.length ≤ 1000 ∧ s.me.length ≤ 1000) ∧ (∀ c ∈ s.ce, 0 ≤ c.f0 ∧ c.f0 ≤ 1000) ∧ (∀ r ∈ s.me, (0 ≤ r.f0 ∧ r.f0 ≤ 1000) ∧ (0 ≤ r.f2 ∧ r.f2 ≤ 1000))
theorem insert_any {w : World} {B D : Nat} {s : Sh} {at' n size m1 : Int} {m0 : Nat} (hE : Ed w B D s) (hb : BigS s) (hm0 : m0 ≤ 100) :
    Calls Tryz.prog 71 #[.pointer (some ⟨D, 0, none⟩), .int .i64 at', .int .i64 n, .int .i64 size, .agg #[.int .i64 m0, .int .i64 m1]] w fun e w' => e = .returned (.int .i64 (insF at' n size m0 m1 s).2) ∧ Ed w' B D (insF at' n size m0 m1 s).1 ∧ Below B w w' := by
  have hBw := hE.le
  have hE1 := hE.below (below_alloc (Below.refl w.heap.size w) (Obj.cells #[.int .i64 m0, .int .i64 m1] 40 (0, 0)))
  have hA := below_mono (below_alloc (Below.refl w.heap.size w) (Obj.cells #[.int .i64 m0, .int .i64 m1] 40 (0, 0))) hBw
  have hx := blk_new w (Obj.cells #[.int .i64 m0, .int .i64 m1] 40 (0, 0))
  obtain ⟨⟨A1, c1, A2, c2, A3, c3, A4, c4⟩, hh, o1, o2, o3, o4, hne, hB, hR⟩ := hE1.open
  obtain ⟨rt, wd, ht, ce, me⟩ := s
  obtain ⟨⟨hb1, hb2, hb3⟩, hb4, hb5⟩ := hb
  obtain ⟨p0, p1, p2, p3, p4, f0, f1, f2, f3, f4⟩ := ed5 hh
  have x0 : (w.alloc (Obj.cells #[.int .i64 m0, .int .i64 m1] 40 (0, 0))).cell? ⟨w.heap.size, 0, none⟩ = some (.int .i64 m0) := by unfold World.cell?; rw [hx]; rfl
  have x1 : (w.alloc (Obj.cells #[.int .i64 m0, .int .i64 m1] 40 (0, 0))).cell? ⟨w.heap.size, 1, none⟩ = some (.int .i64 m1) := by unfold World.cell?; rw [hx]; rfl
  simp only [] at p0 p1 p2 p3 p4 hh o1 o2 o3 o4 hb1 hb2 hb3 hb4 hb5
  have hsz : (w.alloc (Obj.cells #[.int .i64 m0, .int .i64 m1] 40 (0, 0))).heap.size = w.heap.size + 1 := Array.size_push ..
  obtain ⟨st, hst⟩ : ∃ st, st = insF at' n size m0 m1 ⟨rt, wd, ht, ce, me⟩ := ⟨_, rfl⟩
  rw [← hst]
  have hst2 : st = if n < 1 ∨ size < 1 then (⟨rt, wd, ht, ce, me⟩, 1) else if at' < 0 ∨ (ht.length : Int) < at' then (⟨rt, wd, ht, ce, me⟩, 4) else if (m0 : Int) - ht.length < n ∨ m1 < size then (⟨rt, wd, ht, ce, me⟩, 3) else (ins at' n size ⟨rt, wd, ht, ce, me⟩, 0) := hst
  have HST := Lib.hid hst2
  have HE1 := Lib.hid hE1
  have HA := Lib.hid hA
  have HH := Lib.hid hh
  have HO1 := Lib.hid o1
  have HO2 := Lib.hid o2
  have HO3 := Lib.hid o3
  have HO4 := Lib.hid o4
  have HNE := Lib.hid hne
  have HB4 := Lib.hid hb4
  have HB5 := Lib.hid hb5
  have HSZ := Lib.hid hsz
  have HE0 := Lib.hid hE
  clear hst hst2 hE hE1 hA hx hh o1 o2 o3 o4 hne hR hb4 hb5 hsz
  by_cases hc : n < 1
  · have HQ : Hid (st = (⟨rt, wd, ht, ce, me⟩, 1)) := Lib.hid (by rw [HST.out]; rw [if_pos (.inl hc)])
    clear HST
    go_enter Tryz.func71, Tryz.ntmps71
    go_wp2_with fail
    go_ret
    exact ⟨by rw [HQ.out]; rfl, by rw [HQ.out]; exact HE1.out, HA.out⟩
  have k1 : 1 ≤ n := by omega
  clear hc
  by_cases hc : size < 1
  · have HQ : Hid (st = (⟨rt, wd, ht, ce, me⟩, 1)) := Lib.hid (by rw [HST.out]; rw [if_pos (.inr hc)])
    clear HST
    go_enter Tryz.func71, Tryz.ntmps71
    go_wp2_with fail
    go_ret
    exact ⟨by rw [HQ.out]; rfl, by rw [HQ.out]; exact HE1.out, HA.out⟩
  have k2 : 1 ≤ size := by omega
  clear hc
  by_cases hc : at' < 0
  · have HQ : Hid (st = (⟨rt, wd, ht, ce, me⟩, 4)) := Lib.hid (by rw [HST.out]; rw [if_neg (by omega), if_pos (.inl hc)])
    clear HST
    go_enter Tryz.func71, Tryz.ntmps71
    go_wp2_with fail
    go_ret
    exact ⟨by rw [HQ.out]; rfl, by rw [HQ.out]; exact HE1.out, HA.out⟩
  have k3 : 0 ≤ at' := by omega
  clear hc
  by_cases hc : (ht.length : Int) < at'
  · have HQ : Hid (st = (⟨rt, wd, ht, ce, me⟩, 4)) := Lib.hid (by rw [HST.out]; rw [if_neg (by omega), if_pos (.inr hc)])
    clear HST
    go_enter Tryz.func71, Tryz.ntmps71
    go_wp2_with fail
    go_ret
    exact ⟨by rw [HQ.out]; rfl, by rw [HQ.out]; exact HE1.out, HA.out⟩
  have k4 : at' ≤ ht.length := by omega
  clear hc
  have hwm : IntKind.i64.wrap ((m0 : Int) - (ht.length : Int)) = (m0 : Int) - (ht.length : Int) := by rw [IntKind.wrap_i64]; omega
  by_cases hc : (m0 : Int) - ht.length < n
  · have HQ : Hid (st = (⟨rt, wd, ht, ce, me⟩, 3)) := Lib.hid (by rw [HST.out]; rw [if_neg (by omega), if_neg (by omega), if_pos (.inl hc)])
    have kb := decide_eq_true hc
    clear HST
    go_enter Tryz.func71, Tryz.ntmps71
    go_wp2_with fail
    refine wp_region_noPanic ?_
    refine start_ (n := 18) (S := (fun w' => w'.cell? ⟨w.heap.size, 0, none⟩ = some (.int .i64 m0) ∧ w'.cell? ⟨w.heap.size, 1, none⟩ = some (.int .i64 m1) ∧ w'.cell? ⟨D, 2, none⟩ = some (.slice A2 ht.length c2))) (ds := []) (bb 18 0) (by kernel_rfl) rfl rfl (⟨x0, x1, p2⟩) (fun hHeld => ?_)
    refine pu_ 0 35 18 1 ?_
    refine pu_ 1 36 18 3 ?_
    refine ta_ 2 37 18 7 hHeld ?_
    refine pu_ 3 38 18 15 ?_
    refine pu_ 4 39 18 31 ?_
    refine pu_ 5 40 18 63 ?_
    refine pu_ 6 41 18 127 ?_
    refine ta_ 7 42 18 255 hHeld ?_
    refine pu_ 8 43 18 511 ?_
    refine pu_ 9 44 18 1023 ?_
    refine pu_ 10 45 18 2047 ?_
    refine pu_ 11 46 18 4095 ?_
    refine un_ 12 47 18 8191 ?_
    refine un_ 13 48 18 16383 ?_
    refine un_ 14 49 18 32767 ?_
    refine un_ 15 50 18 65535 ?_
    refine pu_ 16 51 18 131071 ?_
    refine pu_ 17 34 18 262143 ?_
    refine done_ (by kernel_rfl) ?_
    refine NoPanic.normal ?_
    go_wp2_with fail
    go_ret
    exact ⟨by rw [HQ.out]; rfl, by rw [HQ.out]; exact HE1.out.below (below_drew (Below.refl _ _)), below_drew HA.out⟩
  have k5 : n ≤ (m0 : Int) - ht.length := by omega
  have HKB0 : Hid (n ≤ 100) := Lib.hid (by omega)
  clear hc
  have kb : decide ((m0 : Int) - (ht.length : Int) < n) = false := decide_eq_false (by omega)
  by_cases hc : m1 < size
  · have HQ : Hid (st = (⟨rt, wd, ht, ce, me⟩, 3)) := Lib.hid (by rw [HST.out]; rw [if_neg (by omega), if_neg (by omega), if_pos (.inr hc)])
    clear HST
    go_enter Tryz.func71, Tryz.ntmps71
    go_wp2_with fail
    refine wp_region_noPanic ?_
    refine start_ (n := 18) (S := (fun w' => w'.cell? ⟨w.heap.size, 0, none⟩ = some (.int .i64 m0) ∧ w'.cell? ⟨w.heap.size, 1, none⟩ = some (.int .i64 m1) ∧ w'.cell? ⟨D, 2, none⟩ = some (.slice A2 ht.length c2))) (ds := []) (bb 18 0) (by kernel_rfl) rfl rfl (⟨x0, x1, p2⟩) (fun hHeld => ?_)
    refine pu_ 0 35 18 1 ?_
    refine pu_ 1 36 18 3 ?_
    refine ta_ 2 37 18 7 hHeld ?_
    refine pu_ 3 38 18 15 ?_
    refine pu_ 4 39 18 31 ?_
    refine pu_ 5 40 18 63 ?_
    refine pu_ 6 41 18 127 ?_
    refine ta_ 7 42 18 255 hHeld ?_
    refine pu_ 8 43 18 511 ?_
    refine pu_ 9 44 18 1023 ?_
    refine pu_ 10 45 18 2047 ?_
    refine pu_ 11 46 18 4095 ?_
    refine pu_ 12 47 18 8191 ?_
    refine pu_ 13 48 18 16383 ?_
    refine ta_ 14 49 18 32767 hHeld ?_
    refine pu_ 15 50 18 65535 ?_
    refine pu_ 16 51 18 131071 ?_
    refine pu_ 17 34 18 262143 ?_
    refine done_ (by kernel_rfl) ?_
    refine NoPanic.normal ?_
    go_wp2_with fail
    go_ret
    exact ⟨by rw [HQ.out]; rfl, by rw [HQ.out]; exact HE1.out.below (below_drew (Below.refl _ _)), below_drew HA.out⟩
  have k6 : size ≤ m1 := by omega
  clear hc
  obtain ⟨k, rfl⟩ : ∃ k : Nat, n = k := ⟨n.toNat, by omega⟩
  obtain ⟨i, rfl⟩ : ∃ i : Nat, at' = i := ⟨at'.toNat, by omega⟩
  have HQ : Hid (st = (⟨rt, wd, ht.take i ++ List.replicate k size ++ ht.drop i, ce.map (inC i k), me.map (inR i k)⟩, 0)) := Lib.hid (by rw [HST.out, if_neg (by omega), if_neg (by omega), if_neg (by omega)]; rfl)
  clear HST
  go_enter Tryz.func71, Tryz.ntmps71
  go_wp2_with fail
  refine wp_region_noPanic ?_
  refine start_ (n := 18) (S := (fun w' => w'.cell? ⟨w.heap.size, 0, none⟩ = some (.int .i64 m0) ∧ w'.cell? ⟨w.heap.size, 1, none⟩ = some (.int .i64 m1) ∧ w'.cell? ⟨D, 2, none⟩ = some (.slice A2 ht.length c2))) (ds := []) (bb 18 0) (by kernel_rfl) rfl rfl (⟨x0, x1, p2⟩) (fun hHeld => ?_)
  refine pu_ 0 35 18 1 ?_
  refine pu_ 1 36 18 3 ?_
  refine ta_ 2 37 18 7 hHeld ?_
  refine pu_ 3 38 18 15 ?_
  refine pu_ 4 39 18 31 ?_
  refine pu_ 5 40 18 63 ?_
  refine pu_ 6 41 18 127 ?_
  refine ta_ 7 42 18 255 hHeld ?_
  refine pu_ 8 43 18 511 ?_
  refine pu_ 9 44 18 1023 ?_
  refine pu_ 10 45 18 2047 ?_
  refine pu_ 11 46 18 4095 ?_
  refine pu_ 12 47 18 8191 ?_
  refine pu_ 13 48 18 16383 ?_
  refine ta_ 14 49 18 32767 hHeld ?_
  refine pu_ 15 50 18 65535 ?_
  refine pu_ 16 51 18 131071 ?_
  refine pu_ 17 34 18 262143 ?_
  refine done_ (by kernel_rfl) ?_
  refine NoPanic.normal ?_
  go_wp2_with fail
  obtain ⟨W0, hW0⟩ : ∃ W, W = (w.alloc (Obj.cells #[.int .i64 m0, .int .i64 m1] 40 (0, 0))).drew := ⟨_, rfl⟩
  have HHw : Hid (W0.heap[D]? = some (.cells (shv ⟨A1, c1, A2, c2, A3, c3, A4, c4⟩ ⟨rt, wd, ht, ce, me⟩) 53 (0, 0))) := Lib.hid (by rw [hW0]; exact HH.out)
  have HO1w : Hid (OwI W0 B (.slice A1 wd.length c1) wd) := Lib.hid (by rw [hW0]; exact HO1.out)
  have HO2w : Hid (OwI W0 B (.slice A2 ht.length c2) ht) := Lib.hid (by rw [hW0]; exact HO2.out)
  have HO3w : Hid (OwC W0 B (.slice A3 ce.length c3) ce) := Lib.hid (by rw [hW0]; exact HO3.out)
  have HO4w : Hid (OwR W0 B (.slice A4 me.length c4) me) := Lib.hid (by rw [hW0]; exact HO4.out)
  have HBw : Hid (Below B w W0) := Lib.hid (by rw [hW0]; exact below_drew HA.out)
  have HSB : Hid (B ≤ W0.heap.size) := Lib.hid (Nat.le_trans hBw HBw.out.size)
  rw [← hW0]
  clear hW0 HH HO1 HO2 HO3 HO4 HA HE1 HE0 HSZ p0 p1 p2 p3 p4 f0 f1 f2 f3 f4 x0 x1 hHeld
  obtain ⟨p0, p1, p2, p3, p4, f0, f1, f2, f3, f4⟩ := ed5 HHw.out
  (try simp only [] at p2)
  have HKT : Hid (∀ W, Below W0.heap.size W0 W → W.cell? ⟨D, 2, none⟩ = some (.slice A2 ht.length c2)) := Lib.hid (fun W hb => pw_cell_below hb p2)
  clear p0 p1 p2 p3 p4 f0 f1 f2 f3 f4
  obtain ⟨rl, hrl⟩ : ∃ x, x = List.replicate k size := ⟨_, rfl⟩
  have hrll : rl.length = k := by rw [hrl]; exact List.length_replicate
  have HRL := Lib.hid hrl
  have HRN := Lib.hid hrll
  clear hrl hrll
  refine wp_region_noPanic ?_
  refine start_ (n := 16) (S := (fun w' => w'.cell? ⟨D, 2, none⟩ = some (.slice A2 ht.length c2))) (ds := [15]) (bb 16 0) (by kernel_rfl) rfl rfl (HKT.out _ (below_drew (Below.refl _ _))) (fun hHeld => ?_)
  refine pu_ 0 52 16 1 ?_
  refine pu_ 1 53 16 3 ?_
  refine pu_ 2 54 16 7 ?_
  refine pu_ 3 55 16 15 ?_
  refine pu_ 4 56 16 31 ?_
  refine ta_ 5 57 16 63 hHeld ?_
  refine pu_ 6 58 16 127 ?_
  refine pu_ 7 59 16 255 ?_
  refine pu_ 9 61 16 767 ?_
  refine one_ (i := 8) (N := some 60) (bb 16 1023) rfl rfl (by kernel_rfl) (by decide) (fun K hK => ?_)
  go_simp
  have HBA := Lib.hid (below_alloc (below_drew (Below.refl W0.heap.size W0)) (Obj.cells #[.int .i64 size] 3 (0, 0)))
  refine hK.out _ _ (HKT.out _ HBA.out) (fun hHeld => ?_)
  clear hK K
  refine nm_ (some 60) ?_
  refine one_ (i := 10) (N := some 62) (bb 16 2047) rfl rfl (by kernel_rfl) (by decide) (fun K hK => ?_)
  go_simp
  have hb0 := blk_new W0.drew (Obj.cells #[.int .i64 size] 3 (0, 0))
  have hrp := repeat_any hb0 (show 1 ≤ k by omega) (show k ≤ 1000 by omega)
  rw [← HRL.out] at hrp
  go_at_call 90
  refine hrp.mono ?_
  rintro e w5 ⟨gr, cr, rfl, hor, hbr⟩
  have HRP := Lib.hid hor
  have HBR := Lib.hid (below_trans HBA.out (below_mono hbr HBA.out.size))
  have HRB := Lib.hid hbr
  clear hor hbr hb0 hrp
  try go_wp2_with fail
  refine hK.out _ _ (HKT.out _ HBR.out) (fun hHeld => ?_)
  clear hK K
  refine nm_ (some 62) ?_
  refine one_ (i := 11) (N := some 63) (bb 16 4095) rfl rfl (by kernel_rfl) (by decide) (fun K hK => ?_)
  go_simp
  have hgr : (W0.drew.alloc (Obj.cells #[.int .i64 size] 3 (0, 0))).heap.size ≤ gr := (own_base HRP.out gr rfl)
  have hga : (W0.drew.alloc (Obj.cells #[.int .i64 size] 3 (0, 0))).heap.size = W0.heap.size + 1 := Array.size_push ..
  have hne2 : (Value.slice A2 ht.length c2).ownBlock ≠ some gr := fun e => by have := own_lt HO2w.out gr e; omega
  have hin := insI_any (i := i) (Ow.below HO2w.out HBR.out) (Nat.le_trans HSB.out HBR.out.size) HRP.out hne2 (show i ≤ ht.length by omega) (show 0 < rl.length by rw [HRN.out]; omega) (show ht.length ≤ 1000 by omega) (show rl.length ≤ 1000 by rw [HRN.out]; omega)
  obtain ⟨nl, hnl⟩ : ∃ x, x = ht.take i ++ rl ++ ht.drop i := ⟨_, rfl⟩
  rw [← HRL.out, ← hnl] at HQ
  rw [← hnl] at hin
  have hnll : nl.length ≤ 200 := by rw [hnl]; simp only [List.length_append, List.length_take, List.length_drop, HRN.out]; omega
  clear hnl
  go_at_call 89
  refine hin.mono ?_
  rintro e w6 ⟨v, rfl, hov, hgv, hvb⟩
  obtain ⟨Av, cv, rfl⟩ := ow_slice hov
  have h5 := blk_grown (blk_below HHw.out HBR.out) hgv (own_ne (Ow.below HO2w.out HBR.out) (blk_below HHw.out HBR.out) (by decide))
  have hneV : NeRow (.slice A1 wd.length c1) (.slice Av nl.length cv) := fun q hq hq2 => by
    rcases hvb with e | e
    · exact HNE.out q hq (by rw [← e]; exact hq2)
    · rw [hq2] at e
      have e2 := Option.some.inj e
      have h1 := own_lt HO1w.out q hq
      have h2 := HBR.out.size
      omega
  have HF := Lib.hid (And.intro hov (And.intro hgv hneV))
  have HH5 := Lib.hid h5
  obtain ⟨p0, p1, p2, p3, p4, f0, f1, f2, f3, f4⟩ := ed5 h5
  (try simp only [] at p0 p1 p2 p3 p4)
  have HPF := Lib.hid (And.intro p2 f2)
  clear hov hgv h5 hin hne2 hga hgr hvb hneV
  try go_wp2_with fail
  refine hK.out _ _ p2 (fun hHeld => ?_)
  clear hHeld p0 p1 p2 p3 p4 f0 f1 f2 f3 f4
  clear hK K
  refine nm_ (some 63) ?_
  refine pu_ 12 64 16 8191 ?_
  refine pu_ 13 65 16 16383 ?_
  refine pu_ 14 66 16 32767 ?_
  refine last_ (i := 15) (N := none) (bb 16 65535) rfl rfl (by kernel_rfl) (by decide) (fun K hK => ?_)
  obtain ⟨p2, f2⟩ := HPF.out
  go_simp
  refine hK.out _ _ ?_
  refine done_ (by kernel_rfl) ?_
  refine NoPanic.normal ?_
  obtain ⟨hov, hgv, hneV⟩ := HF.out
  have hbd := HBR.out
  have g2 := Ow.below HO2w.out hbd
  have q1 : OwI w6 B (.slice A1 wd.length c1) wd := own_other (Ow.below HO1w.out hbd) hgv (by
    cases hu : (Value.slice A1 wd.length c1).ownBlock with
    | none => exact .inl rfl
    | some x => exact .inr fun e => HNE.out x hu e.symm)
  have q3 : OwC w6 B (.slice A3 ce.length c3) ce := own_other (Ow.below HO3w.out hbd) hgv (own_apart (Ow.below HO3w.out hbd) g2 (by decide))
  have q4 : OwR w6 B (.slice A4 me.length c4) me := own_other (Ow.below HO4w.out hbd) hgv (own_apart (Ow.below HO4w.out hbd) g2 (by decide))
  obtain ⟨W1, hW1⟩ : ∃ W, W = w6.setCell ⟨D, 2, none⟩ (.slice Av nl.length cv) := ⟨_, rfl⟩
  have a1 : W1.heap[D]? = some (.cells (shv ⟨A1, c1, Av, cv, A3, c3, A4, c4⟩ ⟨rt, wd, nl, ce, me⟩) 53 (0, 0)) := by rw [hW1]; exact blk_put HH5.out 2 _ rfl
  have r1 : OwI W1 B (.slice A1 wd.length c1) wd := by rw [hW1]; exact q1.set HH5.out (by decide)
  have r2 : OwI W1 B (.slice Av nl.length cv) nl := by rw [hW1]; exact hov.set HH5.out (by decide)
  have r3 : OwC W1 B (.slice A3 ce.length c3) ce := by rw [hW1]; exact q3.set HH5.out (by decide)
  have r4 : OwR W1 B (.slice A4 me.length c4) me := by rw [hW1]; exact q4.set HH5.out (by decide)
  have rb : Below B w W1 := by
    rw [hW1]
    exact below_trans HBw.out (((below_mono hbd HSB.out).grown hgv (Nat.le_trans HSB.out hbd.size) (own_base HO2w.out)).setCell (p := ⟨D, 2, none⟩) hB _)
  rw [← hW1]
  have HH1 := Lib.hid a1
  have HP1 := Lib.hid r1
  have HP2 := Lib.hid r2
  have HP3 := Lib.hid r3
  have HP4 := Lib.hid r4
  have HB1 := Lib.hid rb
  have HNE1 := Lib.hid hneV
  clear hov hgv hneV hbd g2 q1 q3 q4 hW1 a1 r1 r2 r3 r4 rb HHw HO1w HO2w HO3w HO4w HBw HSB HF HH5 HBR HBA HRP HRB HPF HKT hHeld HNE
  obtain ⟨p0, p1, p2, p3, p4, f0, f1, f2, f3, f4⟩ := ed5 HH1.out
  (try simp only [] at p0 p1 p2 p3 p4)
  go_wp2_with fail
  have HM0 := Lib.hid hm0
  have HKB := HKB0
  clear hwm hm0 hnll k3 k4 k5 k6
  go_loopg [73] ce.length (fun gg v73 wr => ∃ (j : Nat) (R : List S44), j ≤ ce.length ∧ gg = ce.length - j ∧ v73 = .int .i64 j ∧ R.length = ce.length ∧ Hid (OwC wr B (.slice A3 ce.length c3) R) ∧ Hid (W1.grownBy wr (Value.slice A3 ce.length c3).ownBlock) ∧ Hid (R.take j = (ce.take j).map (inC i k)) ∧ Hid (R.drop j = ce.drop j))
  case atStart => exact ⟨0, ce, Nat.zero_le _, rfl, rfl, rfl, HP3, Lib.hid (World.grownBy.refl _ _), Lib.hid (by simp), Lib.hid rfl⟩
  case round =>
    obtain ⟨j, R, hj, hg, rfl, hRl, HO, HG, HT, HDr⟩ := hrel
    have Hg := Lib.hid hg
    have HRl := Lib.hid hRl
    clear hg hRl
    have HHr := Lib.hid (blk_grown HH1.out HG.out (own_ne HP3.out HH1.out (by decide)))
    clear p0 p1 p2 p3 p4 f0 f1 f2 f3 f4
    obtain ⟨p0, p1, p2, p3, p4, f0, f1, f2, f3, f4⟩ := ed5 HHr.out
    (try simp only [] at p0 p1 p2 p3 p4)
    by_cases hlt : j < ce.length
    · have hjR : j < R.length := by rw [HRl.out]; exact hlt
      have hxl : R[j] = ce[j] := by
        have := HDr.out
        rw [List.drop_eq_getElem_cons hjR, List.drop_eq_getElem_cons hlt] at this
        exact (List.cons.inj this).1
      have hdr2 : R.drop (j + 1) = ce.drop (j + 1) := by
        have := HDr.out
        rw [List.drop_eq_getElem_cons hjR, List.drop_eq_getElem_cons hlt] at this
        exact (List.cons.inj this).2
      obtain ⟨g, _, hA, _⟩ := own_form HP3.out (by omega)
      subst hA
      obtain ⟨m0', m1', m2', m3', m4', m5', n0, n1, n2, n3, n4, n5⟩ := ocells6 HO.out (List.getElem?_eq_getElem hjR)
      have hxm := HB4.out _ (List.getElem_mem hlt)
      rw [← hxl] at hxm
      obtain ⟨x, hx⟩ : ∃ x, x = R[j] := ⟨_, rfl⟩
      rw [← hx] at m0' m1' m2' m3' m4' m5' hxm
      have HX := Lib.hid hx
      have HXL := Lib.hid hxl
      have HD2 := Lib.hid hdr2
      have hlz : (j : Int) < (ce.length : Int) := by omega
      have HLT := Lib.hid hlt
      have HM0z := HM0.out
      have hwx : IntKind.i64.wrap (x.f0 + (k : Int)) = x.f0 + (k : Int) := by rw [IntKind.wrap_i64]; have := HKB.out; omega
      clear hx hxl hdr2 m1' m2' m3' m4' m5' n1 n2 n3 n4 n5 p0 p1 p2 p4 f0 f1 f2 f3 f4 hxm HM0z
      by_cases hge : (i : Int) ≤ x.f0
      · have HGE := Lib.hid hge
        go_wp2_with fail
        go_roundg (ce.length - (j + 1))
        case measure => have := Hg.out; omega
        case rel =>
          have h1 := HO.out.put1 lenC HRl.out.symm j hjR 0 (by omega) (.int .i64 (x.f0 + k)) (inC i k x) (by rw [← HX.out]; unfold inC; rw [if_pos (by have := HGE.out; omega)]; rfl)
          have hlt := HLT.out
          refine ⟨j + 1, R.set j (inC i k x), hlt, rfl, by go_num, by rw [List.length_set]; exact HRl.out, Lib.hid h1, Lib.hid (HG.out.trans (grown_set1 wr (j * 6) _)), Lib.hid ?_, Lib.hid ?_⟩
          · rw [List.take_succ_eq_append_getElem (by rw [List.length_set]; exact hjR), List.getElem_set_self, List.take_set_of_le (Nat.le_refl j), HT.out, List.take_succ_eq_append_getElem hlt, List.map_append, HX.out, HXL.out]; rfl
          · rw [List.drop_set_of_lt (by omega)]; exact HD2.out
      · have HGE := Lib.hid hge
        go_wp2_with fail
        go_roundg (ce.length - (j + 1))
        case measure => have := Hg.out; omega
        case rel =>
          have hlt := HLT.out
          refine ⟨j + 1, R, hlt, rfl, by go_num, HRl.out, HO, HG, Lib.hid ?_, HD2⟩
          have hin : inC i k ce[j] = ce[j] := by rw [← HXL.out, ← HX.out]; unfold inC; rw [if_neg (by have := HGE.out; omega)]
          rw [List.take_succ_eq_append_getElem hjR, HT.out, List.take_succ_eq_append_getElem hlt, List.map_append, List.map_singleton, hin, HXL.out]
    · have hjl : j = ce.length := by omega
      have hRe : R = ce.map (inC i k) := by
        have h1 := HT.out
        rw [hjl, List.take_of_length_le (by rw [HRl.out]; exact Nat.le_refl _), List.take_of_length_le (Nat.le_refl _)] at h1
        exact h1
      subst hjl
      have hnz : ¬ ((ce.length : Int) < (ce.length : Int)) := by omega
      have HRe := Lib.hid hRe
      clear hRe hlt HT HDr Hg
      have HQ1 : Hid (OwI wr B (.slice A1 wd.length c1) wd) := Lib.hid (own_other HP1.out HG.out (own_apart HP1.out HP3.out (by decide)))
      have HQ2 : Hid (OwI wr B (.slice Av nl.length cv) nl) := Lib.hid (own_other HP2.out HG.out (own_apart HP2.out HP3.out (by decide)))
      have HQ4 : Hid (OwR wr B (.slice A4 me.length c4) me) := Lib.hid (own_other HP4.out HG.out (own_apart HP4.out HP3.out (by decide)))
      have hBW : B ≤ W1.heap.size := by have := blk_lt HH1.out; omega
      have HBr : Hid (Below B w wr) := Lib.hid (below_trans HB1.out ((Below.refl B W1).grown HG.out hBW (own_base HP3.out)))
      go_wp2_with fail
      obtain ⟨W2, hW2⟩ : ∃ W, W = wr := ⟨_, rfl⟩
      rw [← hW2] at HHr HO HQ1 HQ2 HQ4 HBr p0 p1 p2 p3 p4 f0 f1 f2 f3 f4 ⊢
      clear hW2 HG HH1 HP1 HP2 HP3 HP4 HB1 hBW
      have HR3 := HRl
      clear HRl
      obtain ⟨R3, hR3⟩ : ∃ x, x = R := ⟨_, rfl⟩
      rw [← hR3] at HR3 HO HRe
      clear hR3 R
      go_loopg [107] me.length (fun gg v107 wx => ∃ (j : Nat) (R : List S49), j ≤ me.length ∧ gg = me.length - j ∧ v107 = .int .i64 j ∧ R.length = me.length ∧ Hid (OwR wx B (.slice A4 me.length c4) R) ∧ Hid (W2.grownBy wx (Value.slice A4 me.length c4).ownBlock) ∧ Hid (R.take j = (me.take j).map (inR i k)) ∧ Hid (R.drop j = me.drop j))
      case atStart => exact ⟨0, me, Nat.zero_le _, rfl, rfl, rfl, HQ4, Lib.hid (World.grownBy.refl _ _), Lib.hid (by simp), Lib.hid rfl⟩
      case round =>
        obtain ⟨j, R, hj, hg, rfl, hRl, HO4r, HG, HT, HDr⟩ := hrel
        have Hg := Lib.hid hg
        have HRl := Lib.hid hRl
        clear hg hRl
        have HHx := Lib.hid (blk_grown HHr.out HG.out (own_ne HQ4.out HHr.out (by decide)))
        clear p0 p1 p2 p3 p4 f0 f1 f2 f3 f4
        obtain ⟨p0, p1, p2, p3, p4, f0, f1, f2, f3, f4⟩ := ed5 HHx.out
        (try simp only [] at p0 p1 p2 p3 p4)
        by_cases hlt : j < me.length
        · have hjR : j < R.length := by rw [HRl.out]; exact hlt
          have hxl : R[j] = me[j] := by
            have := HDr.out
            rw [List.drop_eq_getElem_cons hjR, List.drop_eq_getElem_cons hlt] at this
            exact (List.cons.inj this).1
          have hdr2 : R.drop (j + 1) = me.drop (j + 1) := by
            have := HDr.out
            rw [List.drop_eq_getElem_cons hjR, List.drop_eq_getElem_cons hlt] at this
            exact (List.cons.inj this).2
          obtain ⟨g, _, hA, _⟩ := own_form HQ4.out (by omega)
          subst hA
          obtain ⟨m0', m1', m2', m3', n0, n1, n2, n3⟩ := ocells4 HO4r.out (List.getElem?_eq_getElem hjR)
          have hxm := HB5.out _ (List.getElem_mem hlt)
          rw [← hxl] at hxm
          obtain ⟨x, hx⟩ : ∃ x, x = R[j] := ⟨_, rfl⟩
          rw [← hx] at m0' m1' m2' m3' hxm
          have HX := Lib.hid hx
          have HXL := Lib.hid hxl
          have HD2 := Lib.hid hdr2
          have hlz : (j : Int) < (me.length : Int) := by omega
          have HLT := Lib.hid hlt
          have hwx : IntKind.i64.wrap (x.f0 + (k : Int)) = x.f0 + (k : Int) := by rw [IntKind.wrap_i64]; have := HKB.out; omega
          have hwy : IntKind.i64.wrap (x.f2 + (k : Int)) = x.f2 + (k : Int) := by rw [IntKind.wrap_i64]; have := HKB.out; omega
          have hwz : IntKind.i64.wrap (x.f0 + x.f2) = x.f0 + x.f2 := by rw [IntKind.wrap_i64]; omega
          clear hx hxl hdr2 m1' m3' n1 n3 p0 p1 p2 p3 f0 f1 f2 f3 f4 hxm
          by_cases hge : (i : Int) ≤ x.f0
          · have HGE := Lib.hid hge
            clear n2 m2'
            go_wp2_with fail
            go_roundg (me.length - (j + 1))
            case measure => have := Hg.out; omega
            case rel =>
              have h1 := HO4r.out.put1 lenR HRl.out.symm j hjR 0 (by omega) (.int .i64 (x.f0 + k)) (inR i k x) (by rw [← HX.out]; unfold inR; rw [if_pos (by have := HGE.out; omega)]; rfl)
              have hlt := HLT.out
              refine ⟨j + 1, R.set j (inR i k x), hlt, rfl, by go_num, by rw [List.length_set]; exact HRl.out, Lib.hid h1, Lib.hid (HG.out.trans (grown_set1 wr (j * 4) _)), Lib.hid ?_, Lib.hid ?_⟩
              · rw [List.take_succ_eq_append_getElem (by rw [List.length_set]; exact hjR), List.getElem_set_self, List.take_set_of_le (Nat.le_refl j), HT.out, List.take_succ_eq_append_getElem hlt, List.map_append, HX.out, HXL.out]; rfl
              · rw [List.drop_set_of_lt (by omega)]; exact HD2.out
          · have hge2 : x.f0 < (i : Int) := by omega
            have HGE := Lib.hid hge2
            clear hge
            by_cases hgf : (i : Int) < x.f0 + x.f2
            · have HGF := Lib.hid hgf
              go_wp2_with fail
              go_region
              go_wp2_with fail
              go_roundg (me.length - (j + 1))
              case measure => have := Hg.out; omega
              case rel =>
                have h1 := HO4r.out.put1 lenR HRl.out.symm j hjR 2 (by omega) (.int .i64 (x.f2 + k)) (inR i k x) (by rw [← HX.out]; unfold inR; rw [if_neg (by have := HGE.out; omega), if_pos (by have := HGF.out; omega)]; rfl)
                have hlt := HLT.out
                refine ⟨j + 1, R.set j (inR i k x), hlt, rfl, by go_num, by rw [List.length_set]; exact HRl.out, Lib.hid h1, Lib.hid ((grown_dr HG.out).trans (grown_set1 wr.drew (j * 4 + 2) _)), Lib.hid ?_, Lib.hid ?_⟩
                · rw [List.take_succ_eq_append_getElem (by rw [List.length_set]; exact hjR), List.getElem_set_self, List.take_set_of_le (Nat.le_refl j), HT.out, List.take_succ_eq_append_getElem hlt, List.map_append, HX.out, HXL.out]; rfl
                · rw [List.drop_set_of_lt (by omega)]; exact HD2.out
            · have hgf2 : x.f0 + x.f2 ≤ (i : Int) := by omega
              have HGF := Lib.hid hgf2
              clear hgf n2
              go_wp2_with fail
              go_region
              go_wp2_with fail
              go_roundg (me.length - (j + 1))
              case measure => have := Hg.out; omega
              case rel =>
                have hlt := HLT.out
                refine ⟨j + 1, R, hlt, rfl, by go_num, HRl.out, HO4r, Lib.hid (grown_dr HG.out), Lib.hid ?_, HD2⟩
                have hin : inR i k me[j] = me[j] := by rw [← HXL.out, ← HX.out]; unfold inR; rw [if_neg (by have := HGE.out; omega), if_neg (by have := HGF.out; omega)]
                rw [List.take_succ_eq_append_getElem hjR, HT.out, List.take_succ_eq_append_getElem hlt, List.map_append, List.map_singleton, hin, HXL.out]
        · have hjl : j = me.length := by omega
          have hRe : R = me.map (inR i k) := by
            have h1 := HT.out
            rw [hjl, List.take_of_length_le (by rw [HRl.out]; exact Nat.le_refl _), List.take_of_length_le (Nat.le_refl _)] at h1
            exact h1
          subst hjl
          have hnz : ¬ ((me.length : Int) < (me.length : Int)) := by omega
          have h1 : OwI wr B (.slice A1 wd.length c1) wd := own_other HQ1.out HG.out (own_apart HQ1.out HQ4.out (by decide))
          have h2 : OwI wr B (.slice Av nl.length cv) nl := own_other HQ2.out HG.out (own_apart HQ2.out HQ4.out (by decide))
          have h3 : OwC wr B (.slice A3 ce.length c3) R3 := own_other HO.out HG.out (own_apart HO.out HQ4.out (by decide))
          have h4 := HO4r.out
          have hB2 : B ≤ W2.heap.size := by have := blk_lt HHr.out; omega
          have h5 : Below B w wr := below_trans HBr.out ((Below.refl B W2).grown HG.out hB2 (own_base HQ4.out))
          have HF := Lib.hid (And.intro h1 (And.intro h2 (And.intro h3 (And.intro h4 (And.intro h5 hRe)))))
          clear h1 h2 h3 h4 h5 hRe hB2 hlt HT HDr Hg
          go_wp2_with fail
          go_ret
          obtain ⟨h1, h2, h3, h4, h5, hRe⟩ := HF.out
          refine ⟨by rw [HQ.out]; rfl, ?_, h5⟩
          rw [HQ.out]
          show Ed _ B D ⟨rt, wd, _, ce.map (inC i k), me.map (inR i k)⟩
          rw [← HRe.out, ← hRe]
          exact ⟨_, _, _, _, HHx.out, h1, h2, h3, h4, HNE1.out, hB⟩
end Go.Proofs.YtcofacgdijjnoaaGreat
