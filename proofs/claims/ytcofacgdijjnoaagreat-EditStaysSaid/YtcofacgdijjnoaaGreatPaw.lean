/- edit.delete: walked. -/
import Derived.Test.YtcofacgdijjnoaaGreatPaa
import Derived.Test.YtcofacgdijjnoaaGreatPau
import Derived.Test.YtcofacgdijjnoaaGreatPav
namespace Go.Proofs.YtcofacgdijjnoaaGreat
open PE (S31 S44 S49 k44 k49 k31)
open Go.RowKit Go.Shelf Go.Lib Go.Proofs.YtcofacgdijjnoaaGreatW.PrintWords Go.Proofs.YtcofacgdijjnoaaGreatW.PrintLast Go.Proofs.YtcofacgdijjnoaaGreatW.PrintMore
set_option linter.unusedVariables false
set_option linter.unusedSimpArgs false
set_option maxRecDepth 100000
set_option maxHeartbeats 16000000
theorem put_pair {α : Type} {R : α → α → Prop} [DecidableRel R] {x : α} : ∀ {l : List α}, (put R x l).Pairwise R → l.Pairwise R ∧ ∀ y ∈ l, R x y ∨ R y x
  | [], _ => ⟨.nil, fun y hy => by cases hy⟩
  | y :: l, h => by
      rw [put] at h
      split at h
      · rename_i hyx
        have h' := List.pairwise_cons.mp h
        obtain ⟨a, b⟩ := put_pair h'.2
        refine ⟨List.pairwise_cons.mpr ⟨fun z hz => h'.1 z (mem_put.mpr (.inr hz)), a⟩, fun z hz => ?_⟩
        rcases List.mem_cons.mp hz with rfl | hz
        · exact .inr hyx
        · exact b z hz
      · have h' := List.pairwise_cons.mp h
        exact ⟨h'.2, fun z hz => .inl (h'.1 z hz)⟩
theorem srt_pair {α : Type} {R : α → α → Prop} [DecidableRel R] : ∀ {l : List α}, (srt R l).Pairwise R → l.Pairwise fun a b => R a b ∨ R b a
  | [], _ => .nil
  | x :: l, h => by
      rw [srt] at h
      obtain ⟨a, b⟩ := put_pair h
      exact List.pairwise_cons.mpr ⟨fun y hy => b y (mem_srt.mpr hy), srt_pair a⟩
theorem delete_any {w : World} {B D : Nat} {s : Sh} {at' n : Int} {mr mc : Nat} {mh mw : Int} (hE : Ed w B D s) (hO : Ok mr mh mc mw s) (hm : mr ≤ 100 ∧ mc ≤ 100) (hcl : s.ce.length ≤ 1000) (ha : W6 at') (hn : W6 n) :
    Calls Tryz.prog 72 #[.pointer (some ⟨D, 0, none⟩), .int .i64 at', .int .i64 n] w fun e w' => e = .returned (.int .i64 (delF at' n s).2) ∧ Ed w' B D (delF at' n s).1 ∧ Below B w w' := by
  have hBw := hE.le
  have hE1 := hE.below (below_alloc (below_alloc (Below.refl w.heap.size w) (Obj.cells #[.int .i64 at'] 3 (0, 0))) (Obj.cells #[.int .i64 n] 3 (0, 0)))
  have hA := below_mono (below_alloc (below_alloc (Below.refl w.heap.size w) (Obj.cells #[.int .i64 at'] 3 (0, 0))) (Obj.cells #[.int .i64 n] 3 (0, 0))) hBw
  have hxa := blk_alloc (blk_new w (Obj.cells #[.int .i64 at'] 3 (0, 0))) (Obj.cells #[.int .i64 n] 3 (0, 0))
  have hxn := blk_new (w.alloc (Obj.cells #[.int .i64 at'] 3 (0, 0))) (Obj.cells #[.int .i64 n] 3 (0, 0))
  have hsz : (w.alloc (Obj.cells #[.int .i64 at'] 3 (0, 0))).heap.size = w.heap.size + 1 := Array.size_push ..
  have hsz2 : (((w.alloc (Obj.cells #[.int .i64 at'] 3 (0, 0))).alloc (Obj.cells #[.int .i64 n] 3 (0, 0)))).heap.size = w.heap.size + 1 + 1 := by rw [← hsz]; exact Array.size_push ..
  rw [hsz] at hxn
  obtain ⟨⟨A1, c1, A2, c2, A3, c3, A4, c4⟩, hh, o1, o2, o3, o4, hne, hB, hR⟩ := hE1.open
  obtain ⟨rt, wd, ht, ce, me⟩ := s
  obtain ⟨p0, p1, p2, p3, p4, f0, f1, f2, f3, f4⟩ := ed5 hh
  have x0 : (((w.alloc (Obj.cells #[.int .i64 at'] 3 (0, 0))).alloc (Obj.cells #[.int .i64 n] 3 (0, 0)))).cell? ⟨w.heap.size, 0, none⟩ = some (.int .i64 at') := by unfold World.cell?; rw [hxa]; rfl
  have x1 : (((w.alloc (Obj.cells #[.int .i64 at'] 3 (0, 0))).alloc (Obj.cells #[.int .i64 n] 3 (0, 0)))).cell? ⟨w.heap.size + 1, 0, none⟩ = some (.int .i64 n) := by unfold World.cell?; rw [hxn]; rfl
  simp only [] at p0 p1 p2 p3 p4 hh o1 o2 o3 o4 hcl
  have hht : ht.length ≤ 100 := Nat.le_trans hO.htn hm.1
  have hwd : wd.length ≤ 100 := Nat.le_trans hO.wdn hm.2
  obtain ⟨st, hst⟩ : ∃ st, st = delF at' n ⟨rt, wd, ht, ce, me⟩ := ⟨_, rfl⟩
  rw [← hst]
  have hst2 : st = if n < 1 ∨ (at' = 0 ∧ n = ht.length) then (⟨rt, wd, ht, ce, me⟩, 1) else if ¬ withinF at' n ht.length then (⟨rt, wd, ht, ce, me⟩, 4) else (del at' n ⟨rt, wd, ht, ce, me⟩, 0) := hst
  have HA2 : Hid (∀ k, (Value.slice A2 ht.length c2).ownBlock = some k → k < w.heap.size) := Lib.hid (fun k hk => by
    obtain ⟨v1, v2, v3, v4, hh', o1', o2', o3', o4', _, _⟩ := hE
    have hq := blk_below hh' (below_alloc (below_alloc (Below.refl w.heap.size w) (Obj.cells #[.int .i64 at'] 3 (0, 0))) (Obj.cells #[.int .i64 n] 3 (0, 0)))
    rw [hh] at hq
    have := congrArg (fun o : Option Obj => match o with | some (.cells c _ _) => c[2]? | _ => none) hq
    have h2 : v2 = .slice A2 ht.length c2 := by simpa [shv] using this.symm
    subst h2
    exact (own_lt o2' k hk))
  have HST := Lib.hid hst2
  have HE1 := Lib.hid hE1
  have HA := Lib.hid hA
  have HH := Lib.hid hh
  have HO1 := Lib.hid o1
  have HO2 := Lib.hid o2
  have HO3 := Lib.hid o3
  have HO4 := Lib.hid o4
  have HNE := Lib.hid hne
  have HOK := Lib.hid hO
  have HXA := Lib.hid hxa
  have HXN := Lib.hid hxn
  have HAN := Lib.hid (And.intro ha hn)
  clear hst hst2 hE hE1 hA hh o1 o2 o3 o4 hne hR hsz hxa hxn hO ha hn hm
  by_cases hc : n < 1
  · have HQ : Hid (st = (⟨rt, wd, ht, ce, me⟩, 1)) := Lib.hid (by rw [HST.out, if_pos (.inl hc)])
    clear HST
    have kb : decide (n < 1) = true := decide_eq_true hc
    go_enter Tryz.func72, Tryz.ntmps72
    go_wp2_with fail
    refine wp_region_noPanic ?_
    refine start_ (n := 17) (S := (fun w' => w'.cell? ⟨w.heap.size, 0, none⟩ = some (.int .i64 at') ∧ w'.cell? ⟨w.heap.size + 1, 0, none⟩ = some (.int .i64 n) ∧ w'.cell? ⟨D, 2, none⟩ = some (.slice A2 ht.length c2))) (ds := []) (bb 17 0) (by kernel_rfl) rfl rfl (⟨x0, x1, p2⟩) (fun hHeld => ?_)
    refine ta_ 0 14 17 1 hHeld ?_
    refine pu_ 1 15 17 3 ?_
    refine pu_ 2 16 17 7 ?_
    refine un_ 3 17 17 15 ?_
    refine un_ 4 18 17 31 ?_
    refine un_ 5 19 17 63 ?_
    refine un_ 6 20 17 127 ?_
    refine un_ 7 21 17 255 ?_
    refine un_ 8 22 17 511 ?_
    refine un_ 9 23 17 1023 ?_
    refine un_ 10 24 17 2047 ?_
    refine un_ 11 25 17 4095 ?_
    refine un_ 12 26 17 8191 ?_
    refine un_ 13 27 17 16383 ?_
    refine un_ 14 28 17 32767 ?_
    refine pu_ 15 29 17 65535 ?_
    refine pu_ 16 13 17 131071 ?_
    refine done_ (by kernel_rfl) ?_
    refine NoPanic.normal ?_
    go_wp2_with fail
    go_ret
    exact ⟨by rw [HQ.out]; rfl, by rw [HQ.out]; exact HE1.out.below (below_drew (Below.refl _ _)), below_drew HA.out⟩
  have k1 : 1 ≤ n := by omega
  have kb : decide (n < 1) = false := decide_eq_false hc
  clear hc
  by_cases hc : at' = 0 ∧ n = ht.length
  · have HQ : Hid (st = (⟨rt, wd, ht, ce, me⟩, 1)) := Lib.hid (by rw [HST.out, if_pos (.inr hc)])
    have kc : (at' == 0) = true := by simpa using hc.1
    have kd : (n == (ht.length : Int)) = true := by simpa using hc.2
    clear HST hc
    go_enter Tryz.func72, Tryz.ntmps72
    go_wp2_with fail
    refine wp_region_noPanic ?_
    refine start_ (n := 17) (S := (fun w' => w'.cell? ⟨w.heap.size, 0, none⟩ = some (.int .i64 at') ∧ w'.cell? ⟨w.heap.size + 1, 0, none⟩ = some (.int .i64 n) ∧ w'.cell? ⟨D, 2, none⟩ = some (.slice A2 ht.length c2))) (ds := []) (bb 17 0) (by kernel_rfl) rfl rfl (⟨x0, x1, p2⟩) (fun hHeld => ?_)
    refine ta_ 0 14 17 1 hHeld ?_
    refine pu_ 1 15 17 3 ?_
    refine pu_ 2 16 17 7 ?_
    refine ta_ 3 17 17 15 hHeld ?_
    refine pu_ 4 18 17 31 ?_
    refine pu_ 5 19 17 63 ?_
    refine ta_ 6 20 17 127 hHeld ?_
    refine pu_ 7 21 17 255 ?_
    refine pu_ 8 22 17 511 ?_
    refine pu_ 9 23 17 1023 ?_
    refine pu_ 10 24 17 2047 ?_
    refine ta_ 11 25 17 4095 hHeld ?_
    refine pu_ 12 26 17 8191 ?_
    refine pu_ 13 27 17 16383 ?_
    refine pu_ 14 28 17 32767 ?_
    refine pu_ 15 29 17 65535 ?_
    refine pu_ 16 13 17 131071 ?_
    refine done_ (by kernel_rfl) ?_
    refine NoPanic.normal ?_
    go_wp2_with fail
    go_ret
    exact ⟨by rw [HQ.out]; rfl, by rw [HQ.out]; exact HE1.out.below (below_drew (Below.refl _ _)), below_drew HA.out⟩
  have HC := Lib.hid hc
  have hor : ((at' == 0) = false) ∨ ((at' == 0) = true ∧ (n == (ht.length : Int)) = false) := by
    by_cases h : at' = 0
    · exact .inr ⟨by simpa using h, by simpa using fun h2 => hc ⟨h, h2⟩⟩
    · exact .inl (by simpa using h)
  clear hc
  go_enter Tryz.func72, Tryz.ntmps72
  go_wp2_with fail
  go_cut [13] from 13 (fun v13 wx => v13 = .bool false ∧ wx = (((w.alloc (Obj.cells #[.int .i64 at'] 3 (0, 0))).alloc (Obj.cells #[.int .i64 n] 3 (0, 0)))).drew)
  case first =>
    rcases hor with kc | ⟨kc, kd⟩
    · skip
      refine wp_region_noPanic ?_
      refine start_ (n := 17) (S := (fun w' => w'.cell? ⟨w.heap.size, 0, none⟩ = some (.int .i64 at') ∧ w'.cell? ⟨w.heap.size + 1, 0, none⟩ = some (.int .i64 n) ∧ w'.cell? ⟨D, 2, none⟩ = some (.slice A2 ht.length c2))) (ds := []) (bb 17 0) (by kernel_rfl) rfl rfl (⟨x0, x1, p2⟩) (fun hHeld => ?_)
      refine ta_ 0 14 17 1 hHeld ?_
      refine pu_ 1 15 17 3 ?_
      refine pu_ 2 16 17 7 ?_
      refine ta_ 3 17 17 15 hHeld ?_
      refine pu_ 4 18 17 31 ?_
      refine pu_ 5 19 17 63 ?_
      refine un_ 6 20 17 127 ?_
      refine un_ 7 21 17 255 ?_
      refine un_ 8 22 17 511 ?_
      refine un_ 9 23 17 1023 ?_
      refine un_ 10 24 17 2047 ?_
      refine un_ 11 25 17 4095 ?_
      refine un_ 12 26 17 8191 ?_
      refine un_ 13 27 17 16383 ?_
      refine pu_ 14 28 17 32767 ?_
      refine pu_ 15 29 17 65535 ?_
      refine pu_ 16 13 17 131071 ?_
      refine done_ (by kernel_rfl) ?_
      refine NoPanic.normal ?_
      go_wp2_with fail
      go_meet
      exact ⟨rfl, rfl⟩
    · skip
      refine wp_region_noPanic ?_
      refine start_ (n := 17) (S := (fun w' => w'.cell? ⟨w.heap.size, 0, none⟩ = some (.int .i64 at') ∧ w'.cell? ⟨w.heap.size + 1, 0, none⟩ = some (.int .i64 n) ∧ w'.cell? ⟨D, 2, none⟩ = some (.slice A2 ht.length c2))) (ds := []) (bb 17 0) (by kernel_rfl) rfl rfl (⟨x0, x1, p2⟩) (fun hHeld => ?_)
      refine ta_ 0 14 17 1 hHeld ?_
      refine pu_ 1 15 17 3 ?_
      refine pu_ 2 16 17 7 ?_
      refine ta_ 3 17 17 15 hHeld ?_
      refine pu_ 4 18 17 31 ?_
      refine pu_ 5 19 17 63 ?_
      refine ta_ 6 20 17 127 hHeld ?_
      refine pu_ 7 21 17 255 ?_
      refine pu_ 8 22 17 511 ?_
      refine pu_ 9 23 17 1023 ?_
      refine pu_ 10 24 17 2047 ?_
      refine ta_ 11 25 17 4095 hHeld ?_
      refine pu_ 12 26 17 8191 ?_
      refine pu_ 13 27 17 16383 ?_
      refine pu_ 14 28 17 32767 ?_
      refine pu_ 15 29 17 65535 ?_
      refine pu_ 16 13 17 131071 ?_
      refine done_ (by kernel_rfl) ?_
      refine NoPanic.normal ?_
      go_wp2_with fail
      go_meet
      exact ⟨rfl, rfl⟩
  case rest =>
    obtain ⟨rfl, rfl⟩ := hcut
    go_wp2_with fail
    obtain ⟨W0, hW0⟩ : ∃ W, W = (((w.alloc (Obj.cells #[.int .i64 at'] 3 (0, 0))).alloc (Obj.cells #[.int .i64 n] 3 (0, 0)))).drew := ⟨_, rfl⟩
    have HHw : Hid (W0.heap[D]? = some (.cells (shv ⟨A1, c1, A2, c2, A3, c3, A4, c4⟩ ⟨rt, wd, ht, ce, me⟩) 53 (0, 0))) := Lib.hid (by rw [hW0]; exact HH.out)
    have HO1w : Hid (OwI W0 B (.slice A1 wd.length c1) wd) := Lib.hid (by rw [hW0]; exact HO1.out)
    have HO2w : Hid (OwI W0 B (.slice A2 ht.length c2) ht) := Lib.hid (by rw [hW0]; exact HO2.out)
    have HO3w : Hid (OwC W0 B (.slice A3 ce.length c3) ce) := Lib.hid (by rw [hW0]; exact HO3.out)
    have HO4w : Hid (OwR W0 B (.slice A4 me.length c4) me) := Lib.hid (by rw [hW0]; exact HO4.out)
    have HBw : Hid (Below B w W0) := Lib.hid (by rw [hW0]; exact below_drew HA.out)
    have HEw : Hid (Ed W0 B D ⟨rt, wd, ht, ce, me⟩) := Lib.hid (by rw [hW0]; exact HE1.out.below (below_drew (Below.refl _ _)))
    have HSB : Hid (B ≤ W0.heap.size) := Lib.hid (Nat.le_trans hBw HBw.out.size)
    have HXa : Hid (W0.heap[w.heap.size]? = some (Obj.cells #[.int .i64 at'] 3 (0, 0))) := Lib.hid (by rw [hW0]; exact HXA.out)
    have HXn : Hid (W0.heap[w.heap.size + 1]? = some (Obj.cells #[.int .i64 n] 3 (0, 0))) := Lib.hid (by rw [hW0]; exact HXN.out)
    rw [← hW0] at ⊢
    clear hW0 HH HO1 HO2 HO3 HO4 HA HE1 HXA HXN p0 p1 p2 p3 p4 f0 f1 f2 f3 f4 x0 x1 kb hor
    obtain ⟨p0, p1, p2, p3, p4, f0, f1, f2, f3, f4⟩ := ed5 HHw.out
    (try simp only [] at p2)
    have x0 : W0.cell? ⟨w.heap.size, 0, none⟩ = some (.int .i64 at') := by have h := HXa.out; unfold World.cell?; rw [h]; rfl
    have x1 : W0.cell? ⟨w.heap.size + 1, 0, none⟩ = some (.int .i64 n) := by have h := HXn.out; unfold World.cell?; rw [h]; rfl
    have HKT : Hid (∀ W, Below W0.heap.size W0 W → W.cell? ⟨w.heap.size, 0, none⟩ = some (.int .i64 at') ∧ W.cell? ⟨w.heap.size + 1, 0, none⟩ = some (.int .i64 n) ∧ W.cell? ⟨D, 2, none⟩ = some (.slice A2 ht.length c2)) := Lib.hid (fun W hb => ⟨pw_cell_below hb x0, pw_cell_below hb x1, pw_cell_below hb p2⟩)
    clear p0 p1 p2 p3 p4 f0 f1 f2 f3 f4 x0 x1
    have HWI := Lib.hid (fun W => within_any HAN.out.1 HAN.out.2 k1 ⟨show (0 : Int) ≤ (ht.length : Int) by omega, show (ht.length : Int) ≤ 1000 by omega⟩ W)
    by_cases hwt : withinF at' n ht.length
    · have hwb : wtB at' n ht.length = true := decide_eq_true hwt
      rw [hwb] at HWI
      clear hwb
      refine wp_region_noPanic ?_
      refine start_ (n := 11) (S := (fun w' => w'.cell? ⟨w.heap.size, 0, none⟩ = some (.int .i64 at') ∧ w'.cell? ⟨w.heap.size + 1, 0, none⟩ = some (.int .i64 n) ∧ w'.cell? ⟨D, 2, none⟩ = some (.slice A2 ht.length c2))) (ds := []) (bb 11 0) (by kernel_rfl) rfl rfl (HKT.out _ (below_drew (Below.refl _ _))) (fun hHeld => ?_)
      refine ta_ 0 31 11 1 hHeld ?_
      refine ta_ 1 32 11 3 hHeld ?_
      refine pu_ 2 33 11 7 ?_
      refine pu_ 3 34 11 15 ?_
      refine pu_ 4 35 11 31 ?_
      refine pu_ 5 36 11 63 ?_
      refine ta_ 6 37 11 127 hHeld ?_
      refine pu_ 7 38 11 255 ?_
      refine one_ (i := 8) (N := some 39) (bb 11 511) rfl rfl (by kernel_rfl) (by decide) (fun K hK => ?_)
      go_simp
      go_at_call 65
      refine (HWI.out _).mono ?_
      rintro e w3 ⟨rfl, hb3⟩
      have HB3 : Hid (Below W0.heap.size W0 w3) := Lib.hid (below_then (below_drew (Below.refl W0.heap.size W0)) (Nat.le_refl _) hb3)
      clear hb3
      try go_wp2_with fail
      refine hK.out _ _ (HKT.out _ HB3.out) (fun hHeld => ?_)
      clear hK K
      refine nm_ (some 39) ?_
      refine pu_ 9 40 11 1023 ?_
      refine pu_ 10 30 11 2047 ?_
      refine done_ (by kernel_rfl) ?_
      refine NoPanic.normal ?_
      go_wp2_with fail
      obtain ⟨hw1, hw2, hw3⟩ := hwt
      obtain ⟨k, rfl⟩ : ∃ k : Nat, n = k := ⟨n.toNat, by omega⟩
      obtain ⟨i, rfl⟩ : ∃ i : Nat, at' = i := ⟨at'.toNat, by omega⟩
      have hHeld := hHeld
      have HKT2 : Hid (∀ W, Below w3.heap.size w3 W → (W.cell? ⟨w.heap.size, 0, none⟩ = some (.int .i64 i) ∧ W.cell? ⟨w.heap.size + 1, 0, none⟩ = some (.int .i64 k) ∧ W.cell? ⟨D, 2, none⟩ = some (.slice A2 ht.length c2))) := Lib.hid (fun W hb => HKT.out W (below_trans HB3.out (below_mono hb HB3.out.size)))
      have HHx := Lib.hid (blk_below HHw.out HB3.out)
      have HO1x := Lib.hid (Ow.below HO1w.out HB3.out)
      have HO2x := Lib.hid (Ow.below HO2w.out HB3.out)
      have HO3x := Lib.hid (Ow.below HO3w.out HB3.out)
      have HO4x := Lib.hid (Ow.below HO4w.out HB3.out)
      have HXa3 := Lib.hid (blk_below HXa.out HB3.out)
      have HXn3 := Lib.hid (blk_below HXn.out HB3.out)
      have HBx : Hid (Below B w w3) := Lib.hid (below_trans HBw.out (below_mono HB3.out HSB.out))
      have HSx : Hid (B ≤ w3.heap.size) := Lib.hid (Nat.le_trans HSB.out HB3.out.size)
      clear HHw HO1w HO2w HO3w HO4w HXa HXn HBw HSB HKT HB3 HEw HWI hHeld
      have hwi : IntKind.i64.wrap ((i : Int) + (k : Int)) = (i : Int) + (k : Int) := by rw [IntKind.wrap_i64]; omega
      have HCUT := Lib.hid (fun (W : World) (o : OwI W B (.slice A2 ht.length c2) ht) => cutI_any o (show i < i + k by omega) (show i + k ≤ ht.length by omega) (by omega))
      obtain ⟨nl, hnl⟩ : ∃ x, x = ht.take i ++ ht.drop (i + k) := ⟨_, rfl⟩
      rw [Int.natCast_add, ← hnl] at HCUT
      have HNL := Lib.hid hnl
      clear hnl
      refine wp_region_noPanic ?_
      refine start_ (n := 15) (S := (fun w' => w'.cell? ⟨w.heap.size, 0, none⟩ = some (.int .i64 i) ∧ w'.cell? ⟨w.heap.size + 1, 0, none⟩ = some (.int .i64 k) ∧ w'.cell? ⟨D, 2, none⟩ = some (.slice A2 ht.length c2))) (ds := [14]) (bb 15 0) (by kernel_rfl) rfl rfl (HKT2.out _ (below_drew (Below.refl _ _))) (fun hHeld => ?_)
      refine pu_ 0 41 15 1 ?_
      refine pu_ 1 42 15 3 ?_
      refine pu_ 2 43 15 7 ?_
      refine pu_ 3 44 15 15 ?_
      refine pu_ 4 45 15 31 ?_
      refine ta_ 5 46 15 63 hHeld ?_
      refine ta_ 6 47 15 127 hHeld ?_
      refine ta_ 7 48 15 255 hHeld ?_
      refine ta_ 8 49 15 511 hHeld ?_
      refine pu_ 9 50 15 1023 ?_
      refine one_ (i := 10) (N := some 51) (bb 15 2047) rfl rfl (by kernel_rfl) (by decide) (fun K hK => ?_)
      go_simp
      have hbd := below_drew (Below.refl w3.heap.size w3)
      go_at_call 91
      refine (HCUT.out _ (Ow.below HO2x.out hbd)).mono ?_
      rintro e w4 ⟨rfl, hov, hgv⟩
      have h5 := blk_grown (blk_below HHx.out hbd) hgv (own_ne (Ow.below HO2x.out hbd) (blk_below HHx.out hbd) (by decide))
      have hxa5 := blk_grown (blk_below HXa3.out hbd) hgv (fun e => by have h1 := HA2.out _ e.symm; omega)
      have hxn5 := blk_grown (blk_below HXn3.out hbd) hgv (fun e => by have h1 := HA2.out _ e.symm; omega)
      have HF := Lib.hid (And.intro hov (And.intro hgv hbd))
      have HH5 := Lib.hid h5
      have HXa5 := Lib.hid hxa5
      have HXn5 := Lib.hid hxn5
      obtain ⟨p0, p1, p2, p3, p4, f0, f1, f2, f3, f4⟩ := ed5 h5
      (try simp only [] at p0 p1 p2 p3 p4)
      have x0 : w4.cell? ⟨w.heap.size, 0, none⟩ = some (.int .i64 i) := by unfold World.cell?; rw [hxa5]; rfl
      have x1 : w4.cell? ⟨w.heap.size + 1, 0, none⟩ = some (.int .i64 k) := by unfold World.cell?; rw [hxn5]; rfl
      have HPF := Lib.hid (And.intro p2 f2)
      clear hov hgv hbd h5 hxa5 hxn5
      try go_wp2_with fail
      refine hK.out _ _ ⟨x0, x1, p2⟩ (fun hHeld => ?_)
      clear hHeld x0 x1 p0 p1 p2 p3 p4 f0 f1 f2 f3 f4
      clear hK K
      refine nm_ (some 51) ?_
      refine pu_ 11 52 15 4095 ?_
      refine pu_ 12 53 15 8191 ?_
      refine pu_ 13 54 15 16383 ?_
      refine last_ (i := 14) (N := none) (bb 15 32767) rfl rfl (by kernel_rfl) (by decide) (fun K hK => ?_)
      obtain ⟨p2, f2⟩ := HPF.out
      go_simp
      refine hK.out _ _ ?_
      refine done_ (by kernel_rfl) ?_
      refine NoPanic.normal ?_
      obtain ⟨hov, hgv, hbd⟩ := HF.out
      have g2 := Ow.below HO2x.out hbd
      have q1 : OwI w4 B (.slice A1 wd.length c1) wd := own_other (Ow.below HO1x.out hbd) hgv (by
        cases hu : (Value.slice A1 wd.length c1).ownBlock with
        | none => exact .inl rfl
        | some x => exact .inr fun e => HNE.out x hu e.symm)
      have q3 : OwC w4 B (.slice A3 ce.length c3) ce := own_other (Ow.below HO3x.out hbd) hgv (own_apart (Ow.below HO3x.out hbd) g2 (by decide))
      have q4 : OwR w4 B (.slice A4 me.length c4) me := own_other (Ow.below HO4x.out hbd) hgv (own_apart (Ow.below HO4x.out hbd) g2 (by decide))
      obtain ⟨W1, hW1⟩ : ∃ W, W = w4.setCell ⟨D, 2, none⟩ (.slice A2 nl.length c2) := ⟨_, rfl⟩
      have a1 : W1.heap[D]? = some (.cells (shv ⟨A1, c1, A2, c2, A3, c3, A4, c4⟩ ⟨rt, wd, nl, ce, me⟩) 53 (0, 0)) := by rw [hW1]; exact blk_put HH5.out 2 _ rfl
      have r1 : OwI W1 B (.slice A1 wd.length c1) wd := by rw [hW1]; exact q1.set HH5.out (by decide)
      have r2 : OwI W1 B (.slice A2 nl.length c2) nl := by rw [hW1]; exact hov.set HH5.out (by decide)
      have r3 : OwC W1 B (.slice A3 ce.length c3) ce := by rw [hW1]; exact q3.set HH5.out (by decide)
      have r4 : OwR W1 B (.slice A4 me.length c4) me := by rw [hW1]; exact q4.set HH5.out (by decide)
      have ra := blk_far HXa5.out (p := ⟨D, 2, none⟩) (blk_ne HXa5.out HH5.out (by decide)) (.slice A2 nl.length c2)
      have rn := blk_far HXn5.out (p := ⟨D, 2, none⟩) (blk_ne HXn5.out HH5.out (by decide)) (.slice A2 nl.length c2)
      rw [← hW1] at ra rn
      have rb : Below B w W1 := by
        rw [hW1]
        exact below_trans HBx.out (((below_mono hbd HSx.out).grown hgv (Nat.le_trans HSx.out (Nat.le_refl _)) (own_base HO2x.out)).setCell (p := ⟨D, 2, none⟩) hB _)
      rw [← hW1]
      have hneV : NeRow (.slice A1 wd.length c1) (.slice A2 nl.length c2) := fun q hq hq2 => HNE.out q hq (by cases A2 <;> exact hq2)
      have hdc := deleC_any (fun c => decide ((i : Int) ≤ c.f0 ∧ c.f0 < (i : Int) + (k : Int))) 93 #[.pointer (some ⟨w.heap.size, 0, none⟩), .pointer (some ⟨w.heap.size + 1, 0, none⟩)] (enters_of Tryz.func93 (by kernel_rfl) rfl) r3 hcl
        (t93g (fun W hg => by have h := blk_grown ra hg (own_ne r3 ra (by decide)); unfold World.cell?; rw [h]; rfl) (fun W hg => by have h := blk_grown rn hg (own_ne r3 rn (by decide)); unfold World.cell?; rw [h]; rfl) ⟨by omega, by omega⟩ ⟨by omega, by omega⟩)
      obtain ⟨cx, hcx⟩ : ∃ x, x = ce.filter (fun x => !decide ((i : Int) ≤ x.f0 ∧ x.f0 < (i : Int) + (k : Int))) := ⟨_, rfl⟩
      rw [← hcx] at hdc
      have hcxl : cx.length ≤ 1000 := by rw [hcx]; exact Nat.le_trans (List.length_filter_le ..) hcl
      have HCX := Lib.hid hcx
      have HDC := Lib.hid hdc
      have HH1 := Lib.hid a1
      have HP1 := Lib.hid r1
      have HP2 := Lib.hid r2
      have HP3 := Lib.hid r3
      have HP4 := Lib.hid r4
      have HB1 := Lib.hid rb
      have HNE1 := Lib.hid hneV
      have HXa1 := Lib.hid ra
      have HXn1 := Lib.hid rn
      have HW := Lib.hid (And.intro hw1 (And.intro hw2 hw3))
      clear hcx hdc hov hgv hneV hbd g2 q1 q3 q4 hW1 a1 r1 r2 r3 r4 rb ra rn HHx HO1x HO2x HO3x HO4x HBx HSx HF HH5 HPF HNE HXa5 HXn5 HXa3 HXn3 HA2 HCUT HKT2 hw1 hw2 hw3 hwi p2 f2 hK hHeld
      obtain ⟨p0, p1, p2, p3, p4, f0, f1, f2, f3, f4⟩ := ed5 HH1.out
      (try simp only [] at p0 p1 p2 p3 p4)
      go_wp2_with (go_at_call 67; refine HDC.out.mono ?_; rintro e w5 ⟨v, rfl, hov, hgv, hvb⟩; obtain ⟨Av, cv, rfl⟩ := ow_slice hov; obtain ⟨p0, p1, p2, p3, p4, f0, f1, f2, f3, f4⟩ := ed5 (blk_grown HH1.out hgv (own_ne HP3.out HH1.out (by decide))); (try simp only [] at p0 p1 p2 p3 p4); have HV := Lib.hid (And.intro hov (And.intro hgv hvb)); clear hov hgv hvb)
      obtain ⟨hov, hgv, hvb⟩ := HV.out
      have h5 := blk_grown HH1.out hgv (own_ne HP3.out HH1.out (by decide))
      have q1 : OwI w5 B (.slice A1 wd.length c1) wd := own_other HP1.out hgv (own_apart HP1.out HP3.out (by decide))
      have q2 : OwI w5 B (.slice A2 nl.length c2) nl := own_other HP2.out hgv (own_apart HP2.out HP3.out (by decide))
      have q4 : OwR w5 B (.slice A4 me.length c4) me := own_other HP4.out hgv (own_apart HP4.out HP3.out (by decide))
      have qa := blk_grown HXa1.out hgv (own_ne HP3.out HXa1.out (by decide))
      have qn := blk_grown HXn1.out hgv (own_ne HP3.out HXn1.out (by decide))
      obtain ⟨W2, hW2⟩ : ∃ W, W = w5.setCell ⟨D, 3, none⟩ (.slice Av cx.length cv) := ⟨_, rfl⟩
      have a1 : W2.heap[D]? = some (.cells (shv ⟨A1, c1, A2, c2, Av, cv, A4, c4⟩ ⟨rt, wd, nl, cx, me⟩) 53 (0, 0)) := by rw [hW2]; exact blk_put h5 3 _ rfl
      have r1 : OwI W2 B (.slice A1 wd.length c1) wd := by rw [hW2]; exact q1.set h5 (by decide)
      have r2 : OwI W2 B (.slice A2 nl.length c2) nl := by rw [hW2]; exact q2.set h5 (by decide)
      have r3 : OwC W2 B (.slice Av cx.length cv) cx := by rw [hW2]; exact hov.set h5 (by decide)
      have r4 : OwR W2 B (.slice A4 me.length c4) me := by rw [hW2]; exact q4.set h5 (by decide)
      have ra := blk_far qa (p := ⟨D, 3, none⟩) (blk_ne qa h5 (by decide)) (.slice Av cx.length cv)
      have rn := blk_far qn (p := ⟨D, 3, none⟩) (blk_ne qn h5 (by decide)) (.slice Av cx.length cv)
      rw [← hW2] at ra rn ⊢
      have hBW : B ≤ W1.heap.size := by have := blk_lt HH1.out; omega
      have rb : Below B w W2 := by rw [hW2]; exact below_trans HB1.out (((Below.refl B W1).grown hgv hBW (own_base HP3.out)).setCell (p := ⟨D, 3, none⟩) hB _)
      clear hW2 h5 q1 q2 q4 qa qn hov hgv hvb HV hBW HH1 HP1 HP2 HP3 HP4 HB1 HXa1 HXn1 HDC p0 p1 p2 p3 p4 f0 f1 f2 f3 f4
      have HH1 := Lib.hid a1
      have HP1 := Lib.hid r1
      have HP2 := Lib.hid r2
      have HP3 := Lib.hid r3
      have HP4 := Lib.hid r4
      have HB1 := Lib.hid rb
      have HXa1 := Lib.hid ra
      have HXn1 := Lib.hid rn
      clear a1 r1 r2 r3 r4 rb ra rn
      have HCB : Hid (∀ c ∈ cx, 0 ≤ c.f0 ∧ c.f0 ≤ 1000) := Lib.hid (fun c hc => by
        rw [HCX.out] at hc
        have h1 := HOK.out.ceE c (List.mem_filter.mp hc).1
        have h2 := h1.r0; have h3 := h1.r1
        simp only [] at h3
        omega)
      go_loopg [73] cx.length (fun gg v73 wr => ∃ (j : Nat) (R : List S44), j ≤ cx.length ∧ gg = cx.length - j ∧ v73 = .int .i64 j ∧ R.length = cx.length ∧ Hid (OwC wr B (.slice Av cx.length cv) R) ∧ Hid (W2.grownBy wr (Value.slice Av cx.length cv).ownBlock) ∧ Hid (R.take j = (cx.take j).map (dlC i k)) ∧ Hid (R.drop j = cx.drop j))
      case atStart => exact ⟨0, cx, Nat.zero_le _, rfl, rfl, rfl, HP3, Lib.hid (World.grownBy.refl _ _), Lib.hid (by simp), Lib.hid rfl⟩
      case round =>
        obtain ⟨j, R, hj, hg, rfl, hRl, HO, HG, HT, HDr⟩ := hrel
        have Hg := Lib.hid hg
        have HRl := Lib.hid hRl
        clear hg hRl
        have HHr := Lib.hid (blk_grown HH1.out HG.out (own_ne HP3.out HH1.out (by decide)))
        have HXar := Lib.hid (blk_grown HXa1.out HG.out (own_ne HP3.out HXa1.out (by decide)))
        have HXnr := Lib.hid (blk_grown HXn1.out HG.out (own_ne HP3.out HXn1.out (by decide)))
        obtain ⟨p0, p1, p2, p3, p4, f0, f1, f2, f3, f4⟩ := ed5 HHr.out
        (try simp only [] at p0 p1 p2 p3 p4)
        by_cases hlt : j < cx.length
        · have hjR : j < R.length := by rw [HRl.out]; exact hlt
          have hxl : R[j] = cx[j] := by
            have := HDr.out
            rw [List.drop_eq_getElem_cons hjR, List.drop_eq_getElem_cons hlt] at this
            exact (List.cons.inj this).1
          have hdr2 : R.drop (j + 1) = cx.drop (j + 1) := by
            have := HDr.out
            rw [List.drop_eq_getElem_cons hjR, List.drop_eq_getElem_cons hlt] at this
            exact (List.cons.inj this).2
          obtain ⟨g, _, hA, _⟩ := own_form HP3.out (by omega)
          subst hA
          obtain ⟨m0, m1, m2, m3, m4, m5, n0, n1, n2, n3, n4, n5⟩ := ocells6 HO.out (List.getElem?_eq_getElem hjR)
          have hxm := HCB.out _ (List.getElem_mem hlt)
          rw [← hxl] at hxm
          obtain ⟨x, hx⟩ : ∃ x, x = R[j] := ⟨_, rfl⟩
          rw [← hx] at m0 m1 m2 m3 m4 m5 hxm
          have HX := Lib.hid hx
          have HXL := Lib.hid hxl
          have HD2 := Lib.hid hdr2
          have hlz : (j : Int) < (cx.length : Int) := by omega
          have HLT := Lib.hid hlt
          have HJR := Lib.hid hjR
          have hgone : ∀ W, Below wr.heap.size wr W → _ := fun W hb => gone_any (w := W) (row := x.f0) (pw_cell_below hb (show wr.cell? ⟨w.heap.size, 0, none⟩ = some (.int .i64 i) by have h := HXar.out; unfold World.cell?; rw [h]; rfl)) (pw_cell_below hb (show wr.cell? ⟨w.heap.size + 1, 0, none⟩ = some (.int .i64 k) by have h := HXnr.out; unfold World.cell?; rw [h]; rfl)) ⟨by omega, by have := HW.out; omega⟩ ⟨hxm.1, by omega⟩
          obtain ⟨gv, hgv⟩ : ∃ v, v = gone i k x.f0 := ⟨_, rfl⟩
          rw [← hgv] at hgone
          have hgr : 0 ≤ gv ∧ gv ≤ 1000 := by rw [hgv]; unfold gone; have := HW.out; omega
          have hwx : IntKind.i64.wrap (x.f0 - gv) = x.f0 - gv := by rw [IntKind.wrap_i64]; omega
          have HGO := Lib.hid hgone
          have HGV := Lib.hid hgv
          have HS11 : Hid (∀ W, Below wr.heap.size wr W → W.cell? ⟨D, 3, none⟩ = some (.slice (some ⟨g, 0, none⟩) cx.length cv) ∧ W.cell? ⟨g, j * 6, none⟩ = some (.int .i64 x.f0)) := Lib.hid (fun W hb => ⟨pw_cell_below hb p3, pw_cell_below hb m0⟩)
          clear hx hxl hdr2 m0 m1 m2 m3 m4 m5 n0 n1 n2 n3 n4 n5 p0 p1 p2 p3 p4 f0 f1 f2 f3 f4 hxm hgone hgv hgr
          go_wp2_with fail
          refine wp_region_noPanic ?_
          refine start_ (n := 24) (S := (fun w' => w'.cell? ⟨D, 3, none⟩ = some (.slice (some ⟨g, 0, none⟩) cx.length cv) ∧ w'.cell? ⟨g, j * 6, none⟩ = some (.int .i64 x.f0))) (ds := [23]) (bb 24 0) (by kernel_rfl) rfl rfl (HS11.out _ (below_drew (Below.refl _ _))) (fun hHeld => ?_)
          refine pu_ 0 76 24 1 ?_
          refine pu_ 1 77 24 3 ?_
          refine pu_ 2 78 24 7 ?_
          refine pu_ 3 79 24 15 ?_
          refine ta_ 4 80 24 31 hHeld ?_
          refine pu_ 5 81 24 63 ?_
          refine pu_ 6 82 24 127 ?_
          refine pu_ 7 83 24 255 ?_
          refine ta_ 8 84 24 511 hHeld ?_
          refine pu_ 9 85 24 1023 ?_
          refine pu_ 10 86 24 2047 ?_
          refine pu_ 11 87 24 4095 ?_
          refine pu_ 12 88 24 8191 ?_
          refine pu_ 13 89 24 16383 ?_
          refine ta_ 14 90 24 32767 hHeld ?_
          refine pu_ 15 91 24 65535 ?_
          refine pu_ 16 92 24 131071 ?_
          refine pu_ 17 93 24 262143 ?_
          refine ta_ 18 94 24 524287 hHeld ?_
          refine one_ (i := 19) (N := some 95) (bb 24 1048575) rfl rfl (by kernel_rfl) (by decide) (fun K hK => ?_)
          go_simp
          go_at_call 92
          refine (HGO.out _ (below_drew (Below.refl _ _))).mono ?_
          rintro e w6 ⟨rfl, hb6⟩
          have HB6 : Hid (Below wr.heap.size wr w6) := Lib.hid (below_then (below_drew (Below.refl wr.heap.size wr)) (Nat.le_refl _) hb6)
          clear hb6
          try go_wp2_with fail
          refine hK.out _ _ (HS11.out _ HB6.out) (fun hHeld => ?_)
          clear hK K
          refine nm_ (some 95) ?_
          refine pu_ 20 96 24 2097151 ?_
          refine pu_ 21 97 24 4194303 ?_
          refine pu_ 22 98 24 8388607 ?_
          refine last_ (i := 23) (N := none) (bb 24 16777215) rfl rfl (by kernel_rfl) (by decide) (fun K hK => ?_)
          obtain ⟨u0, u1, u2, u3, u4, u5, n0, n1, n2, n3, n4, n5⟩ := ocells6 (Ow.below HO.out HB6.out) (List.getElem?_eq_getElem HJR.out)
          clear u1 u2 u3 u4 u5 n1 n2 n3 n4 n5
          go_simp
          refine hK.out _ _ ?_
          refine done_ (by kernel_rfl) ?_
          refine NoPanic.normal ?_
          go_wp2_with fail
          go_roundg (cx.length - (j + 1))
          case measure => have := Hg.out; omega
          case rel =>
            have hjR := HJR.out
            have h1 := (Ow.below HO.out HB6.out).put1 lenC HRl.out.symm j hjR 0 (by omega) (.int .i64 (x.f0 - gv)) (dlC i k x) (by rw [← HX.out, HGV.out]; rfl)
            have hlt := HLT.out
            refine ⟨j + 1, R.set j (dlC i k x), hlt, rfl, by go_num, by rw [List.length_set]; exact HRl.out, Lib.hid h1, Lib.hid ((HG.out.trans (grown_of_below HB6.out _)).trans (grown_set1 w6 (j * 6) _)), Lib.hid ?_, Lib.hid ?_⟩
            · rw [List.take_succ_eq_append_getElem (by rw [List.length_set]; exact hjR), List.getElem_set_self, List.take_set_of_le (Nat.le_refl j), HT.out, List.take_succ_eq_append_getElem hlt, List.map_append, HX.out, HXL.out]; rfl
            · rw [List.drop_set_of_lt (by omega)]; exact HD2.out
        · have hjl : j = cx.length := by omega
          have hRe : R = cx.map (dlC i k) := by
            have h1 := HT.out
            rw [hjl, List.take_of_length_le (by rw [HRl.out]; exact Nat.le_refl _), List.take_of_length_le (Nat.le_refl _)] at h1
            exact h1
          subst hjl
          have hnz : ¬ ((cx.length : Int) < (cx.length : Int)) := by omega
          have HRe := Lib.hid hRe
          clear hRe hlt HT HDr Hg
          have HQ1 : Hid (OwI wr B (.slice A1 wd.length c1) wd) := Lib.hid (own_other HP1.out HG.out (own_apart HP1.out HP3.out (by decide)))
          have HQ2 : Hid (OwI wr B (.slice A2 nl.length c2) nl) := Lib.hid (own_other HP2.out HG.out (own_apart HP2.out HP3.out (by decide)))
          have HQ4 : Hid (OwR wr B (.slice A4 me.length c4) me) := Lib.hid (own_other HP4.out HG.out (own_apart HP4.out HP3.out (by decide)))
          have hBW : B ≤ W2.heap.size := by have := blk_lt HH1.out; omega
          have HBr : Hid (Below B w wr) := Lib.hid (below_trans HB1.out ((Below.refl B W2).grown HG.out hBW (own_base HP3.out)))
          go_wp2_with fail
          obtain ⟨W3, hW3⟩ : ∃ W, W = wr := ⟨_, rfl⟩
          rw [← hW3] at HHr HXar HXnr HO HQ1 HQ2 HQ4 HBr p0 p1 p2 p3 p4 f0 f1 f2 f3 f4 ⊢
          clear hW3 HG HH1 HP1 HP2 HP3 HP4 HB1 hBW HXa1 HXn1
          have HRq := HRl
          clear HRl
          obtain ⟨Rq, hRq⟩ : ∃ x, x = R := ⟨_, rfl⟩
          rw [← hRq] at HRq HO HRe
          clear hRq R
          have HMB : Hid (∀ r ∈ me, (0 ≤ r.f0 ∧ r.f0 ≤ 100) ∧ (1 ≤ r.f2 ∧ r.f0 + r.f2 ≤ 100) ∧ (1 ≤ r.f3 ∧ r.f3 ≤ 100)) := Lib.hid (fun r hr => by
            have h1 := HOK.out.meE r hr
            have h2 := h1.r0; have h3 := h1.r1; have h4 := h1.m; have h5 := h1.n; have h6 := h1.c0; have h7 := h1.c1
            simp only [] at h3 h7
            omega)
          have hmb : me.length ≤ 1000 := by have h := HOK.out.men; simp only [] at h; omega
          go_loopg [106] me.length (fun gg v106 wx => ∃ (j : Nat) (R : List S49), j ≤ me.length ∧ gg = me.length - j ∧ v106 = .int .i64 j ∧ R.length = me.length ∧ Hid (OwR wx B (.slice A4 me.length c4) R) ∧ Hid (W3.grownBy wx (Value.slice A4 me.length c4).ownBlock) ∧ Hid (R.take j = (me.take j).map (dlR i k)) ∧ Hid (R.drop j = me.drop j))
          case atStart => exact ⟨0, me, Nat.zero_le _, rfl, rfl, rfl, HQ4, Lib.hid (World.grownBy.refl _ _), Lib.hid (by simp), Lib.hid rfl⟩
          case round =>
            obtain ⟨j, R, hj, hg, rfl, hRl, HO4r, HG, HT, HDr⟩ := hrel
            have Hg := Lib.hid hg
            have HRl := Lib.hid hRl
            clear hg hRl
            have HHx := Lib.hid (blk_grown HHr.out HG.out (own_ne HQ4.out HHr.out (by decide)))
            have HXax := Lib.hid (blk_grown HXar.out HG.out (own_ne HQ4.out HXar.out (by decide)))
            have HXnx := Lib.hid (blk_grown HXnr.out HG.out (own_ne HQ4.out HXnr.out (by decide)))
            clear p0 p1 p2 p3 p4 f0 f1 f2 f3 f4
            obtain ⟨p0, p1, p2, p3, p4, f0, f1, f2, f3, f4⟩ := ed5 HHx.out
            (try simp only [] at p0 p1 p2 p3 p4)
            by_cases hlt : j < me.length
            · have hjR : j < R.length := by rw [HRl.out]; exact hlt
              have hxl : R[j] = me[j] := by
                have := HDr.out
                rw [List.drop_eq_getElem_cons hjR, List.drop_eq_getElem_cons hlt] at this
                exact (List.cons.inj this).1
              have hdr2 : R.drop (j + 1) = me.drop (j + 1) := by
                have := HDr.out
                rw [List.drop_eq_getElem_cons hjR, List.drop_eq_getElem_cons hlt] at this
                exact (List.cons.inj this).2
              obtain ⟨g, _, hA, _⟩ := own_form HQ4.out (by omega)
              subst hA
              obtain ⟨m0, m1, m2, m3, n0, n1, n2, n3⟩ := ocells4 HO4r.out (List.getElem?_eq_getElem hjR)
              have hxm := HMB.out _ (List.getElem_mem hlt)
              rw [← hxl] at hxm
              obtain ⟨x, hx⟩ : ∃ x, x = R[j] := ⟨_, rfl⟩
              rw [← hx] at m0 m1 m2 m3 hxm
              have HX := Lib.hid hx
              have HXL := Lib.hid hxl
              have HD2 := Lib.hid hdr2
              have HJR := Lib.hid hjR
              have hlz : (j : Int) < (me.length : Int) := by omega
              have HLT := Lib.hid hlt
              have hgone : ∀ W, Below wr.heap.size wr W → ∀ row : Int, 0 ≤ row ∧ row ≤ 3000 → _ := fun W hb row hrow => gone_any (w := W) (row := row) (pw_cell_below hb (show wr.cell? ⟨w.heap.size, 0, none⟩ = some (.int .i64 i) by have h := HXax.out; unfold World.cell?; rw [h]; rfl)) (pw_cell_below hb (show wr.cell? ⟨w.heap.size + 1, 0, none⟩ = some (.int .i64 k) by have h := HXnx.out; unfold World.cell?; rw [h]; rfl)) ⟨by omega, by have := HW.out; omega⟩ hrow
              have hg1 := fun W hb => hgone W hb x.f0 ⟨by omega, by omega⟩
              have hg2 := fun W hb => hgone W hb (x.f0 + x.f2) ⟨by omega, by omega⟩
              obtain ⟨u, hu⟩ : ∃ v, v = gone i k x.f0 := ⟨_, rfl⟩
              obtain ⟨v, hv⟩ : ∃ v, v = gone i k (x.f0 + x.f2) := ⟨_, rfl⟩
              rw [← hu] at hg1
              rw [← hv] at hg2
              have hur : 0 ≤ u ∧ u ≤ 1000 := by rw [hu]; unfold gone; have := HW.out; omega
              have hvr : 0 ≤ v ∧ v ≤ 1000 := by rw [hv]; unfold gone; have := HW.out; omega
              have hwz : IntKind.i64.wrap (x.f0 + x.f2) = x.f0 + x.f2 := by rw [IntKind.wrap_i64]; omega
              have hwx : IntKind.i64.wrap (x.f0 - u) = x.f0 - u := by rw [IntKind.wrap_i64]; omega
              have hwy : IntKind.i64.wrap (x.f0 + x.f2 - v) = x.f0 + x.f2 - v := by rw [IntKind.wrap_i64]; omega
              have hww : IntKind.i64.wrap (x.f0 + x.f2 - v - (x.f0 - u)) = x.f0 + x.f2 - v - (x.f0 - u) := by rw [IntKind.wrap_i64]; omega
              have HG1 := Lib.hid hg1
              have HG2 := Lib.hid hg2
              have HU := Lib.hid hu
              have HV := Lib.hid hv
              have HS17 : Hid (∀ W, Below wr.heap.size wr W → W.cell? ⟨g, j * 4, none⟩ = some (.int .i64 x.f0) ∧ W.cell? ⟨g, j * 4 + 2, none⟩ = some (.int .i64 x.f2)) := Lib.hid (fun W hb => ⟨pw_cell_below hb m0, pw_cell_below hb m2⟩)
              clear hx hxl hdr2 m0 m1 m2 m3 n0 n1 n2 n3 p0 p1 p2 p3 f0 f1 f2 f3 f4 hxm hgone hg1 hg2 hu hv hur hvr
              go_upto_region 17 with fail
              clear p4
              refine wp_region_noPanic ?_
              refine start_ (n := 34) (S := (fun w' => w'.cell? ⟨g, j * 4, none⟩ = some (.int .i64 x.f0) ∧ w'.cell? ⟨g, j * 4 + 2, none⟩ = some (.int .i64 x.f2))) (ds := []) (bb 34 0) (by kernel_rfl) rfl rfl (HS17.out _ (below_drew (Below.refl _ _))) (fun hHeld => ?_)
              refine pu_ 0 116 34 1 ?_
              refine pu_ 1 117 34 3 ?_
              refine pu_ 2 118 34 7 ?_
              refine ta_ 3 119 34 15 hHeld ?_
              refine pu_ 4 120 34 31 ?_
              refine pu_ 5 121 34 63 ?_
              refine pu_ 6 122 34 127 ?_
              refine pu_ 7 123 34 255 ?_
              refine ta_ 8 124 34 511 hHeld ?_
              refine pu_ 11 127 34 2559 ?_
              refine pu_ 12 128 34 6655 ?_
              refine pu_ 13 129 34 14847 ?_
              refine ta_ 14 130 34 31231 hHeld ?_
              refine pu_ 15 131 34 63999 ?_
              refine pu_ 16 132 34 129535 ?_
              refine pu_ 17 133 34 260607 ?_
              refine ta_ 18 134 34 522751 hHeld ?_
              refine pu_ 19 135 34 1047039 ?_
              refine pu_ 20 136 34 2095615 ?_
              refine pu_ 21 137 34 4192767 ?_
              refine pu_ 22 138 34 8387071 ?_
              refine pu_ 23 139 34 16775679 ?_
              refine ta_ 24 140 34 33552895 hHeld ?_
              refine pu_ 25 141 34 67107327 ?_
              refine pu_ 26 142 34 134216191 ?_
              refine pu_ 27 143 34 268433919 ?_
              refine ta_ 28 144 34 536869375 hHeld ?_
              refine pu_ 29 145 34 1073740287 ?_
              refine one_ (i := 9) (N := some 125) (bb 34 1073740799) rfl rfl (by kernel_rfl) (by decide) (fun K hK => ?_)
              go_simp
              go_at_call 92
              refine (HG1.out _ (below_drew (Below.refl _ _))).mono ?_
              rintro e w6 ⟨rfl, hb6⟩
              have HB6 : Hid (Below wr.heap.size wr w6) := Lib.hid (below_then (below_drew (Below.refl wr.heap.size wr)) (Nat.le_refl _) hb6)
              clear hb6
              try go_wp2_with fail
              refine hK.out _ _ (HS17.out _ HB6.out) (fun hHeld => ?_)
              clear hK K
              refine nm_ (some 125) ?_
              refine pu_ 10 126 34 1073741823 ?_
              refine one_ (i := 30) (N := some 146) (bb 34 2147483647) rfl rfl (by kernel_rfl) (by decide) (fun K hK => ?_)
              go_simp
              go_at_call 92
              refine (HG2.out _ HB6.out).mono ?_
              rintro e w7 ⟨rfl, hb7⟩
              have HB7 : Hid (Below wr.heap.size wr w7) := Lib.hid (below_trans HB6.out (below_mono hb7 HB6.out.size))
              clear hb7
              try go_wp2_with fail
              refine hK.out _ _ (HS17.out _ HB7.out) (fun hHeld => ?_)
              clear hK K
              refine nm_ (some 146) ?_
              refine pu_ 31 147 34 4294967295 ?_
              refine pu_ 32 11 34 8589934591 ?_
              refine pu_ 33 12 34 17179869183 ?_
              refine done_ (by kernel_rfl) ?_
              refine NoPanic.normal ?_
              obtain ⟨m0, m1, m2, m3, n0, n1, n2, n3⟩ := ocells4 (Ow.below HO4r.out HB7.out) (List.getElem?_eq_getElem HJR.out)
              rw [← HX.out] at m0 m1 m2 m3
              clear m1 m3 n1 n3
              go_wp2_with fail
              go_roundg (me.length - (j + 1))
              case measure => have := Hg.out; omega
              case rel =>
                have hjR := HJR.out
                have h1 := (Ow.below HO4r.out HB7.out).put1 lenR HRl.out.symm j hjR 0 (by omega) (.int .i64 (x.f0 - u)) ⟨x.f0 - u, x.f1, x.f2, x.f3⟩ (by rw [← HX.out]; rfl)
                have h2 := h1.put1 lenR (by rw [List.length_set]; exact HRl.out.symm) j (by rw [List.length_set]; exact hjR) 2 (by omega) (.int .i64 (x.f0 + x.f2 - v - (x.f0 - u))) (dlR i k x) (by rw [List.getElem_set_self, HU.out, HV.out]; rfl)
                rw [List.set_set] at h2
                have hlt := HLT.out
                refine ⟨j + 1, R.set j (dlR i k x), hlt, rfl, by go_num, by rw [List.length_set]; exact HRl.out, Lib.hid h2, Lib.hid (((HG.out.trans (grown_of_below HB7.out _)).trans (grown_set1 w7 (j * 4) _)).trans (grown_set1 _ (j * 4 + 2) _)), Lib.hid ?_, Lib.hid ?_⟩
                · rw [List.take_succ_eq_append_getElem (by rw [List.length_set]; exact hjR), List.getElem_set_self, List.take_set_of_le (Nat.le_refl j), HT.out, List.take_succ_eq_append_getElem hlt, List.map_append, HX.out, HXL.out]; rfl
                · rw [List.drop_set_of_lt (by omega)]; exact HD2.out
            · have hjl : j = me.length := by omega
              have hRe : R = me.map (dlR i k) := by
                have h1 := HT.out
                rw [hjl, List.take_of_length_le (by rw [HRl.out]; exact Nat.le_refl _), List.take_of_length_le (Nat.le_refl _)] at h1
                exact h1
              subst hjl
              have hnz : ¬ ((me.length : Int) < (me.length : Int)) := by omega
              have h1 : OwI wr B (.slice A1 wd.length c1) wd := own_other HQ1.out HG.out (own_apart HQ1.out HQ4.out (by decide))
              have h2 : OwI wr B (.slice A2 nl.length c2) nl := own_other HQ2.out HG.out (own_apart HQ2.out HQ4.out (by decide))
              have h3 : OwC wr B (.slice Av cx.length cv) Rq := own_other HO.out HG.out (own_apart HO.out HQ4.out (by decide))
              have h4 := HO4r.out
              have hB2 : B ≤ W3.heap.size := by have := blk_lt HHr.out; omega
              have h5 : Below B w wr := below_trans HBr.out ((Below.refl B W3).grown HG.out hB2 (own_base HQ4.out))
              have h6 : wr.heap[D]? = some (.cells (shv ⟨A1, c1, A2, c2, Av, cv, A4, c4⟩ ⟨rt, wd, nl, Rq, R⟩) 53 (0, 0)) := by
                show wr.heap[D]? = some (.cells #[.int .i64 rt, .slice A1 wd.length c1, .slice A2 nl.length c2, .slice Av Rq.length cv, .slice A4 R.length c4] 53 (0, 0))
                rw [HRq.out, HRl.out]; exact HHx.out
              rw [← HRq.out] at h3
              rw [← HRl.out] at h4
              have hneC := HC.out
              have hdel : Ok mr mh mc mw (del i k ⟨rt, wd, ht, ce, me⟩) := ok_del HOK.out k1 HW.out.1 (by have := HW.out; show (i : Int) + (k : Int) ≤ (ht.length : Int); omega) hneC
              have hdc : (del i k ⟨rt, wd, ht, ce, me⟩).ce = Rq := by
                rw [HRe.out, HCX.out]
                show (ce.filter fun c => decide (¬ ((i : Int) ≤ c.f0 ∧ c.f0 < (i : Int) + (k : Int)))).map _ = _
                congr 2; funext c; rw [decide_not]
              have hdm : (del i k ⟨rt, wd, ht, ce, me⟩).me = srtR (R.filter fun r => !decide (r.f2 * r.f3 < 2)) := by
                rw [hRe]
                show srtR ((me.map (dlR i k)).filter fun r => decide (¬ r.f2 * r.f3 < 2)) = _
                congr 2; funext r; rw [decide_not]
              have hdh : (del i k ⟨rt, wd, ht, ce, me⟩).ht = nl := by rw [HNL.out]; rfl
              have hdr := deleR_any (fun r => decide (r.f2 * r.f3 < 2)) 94 #[] (enters_of Tryz.func94 (by kernel_rfl) rfl) h4 (by rw [HRl.out]; exact hmb) (t94g (fun r hr => by
                rw [hRe] at hr
                obtain ⟨q, hq, rfl⟩ := List.mem_map.mp hr
                have h1 := HMB.out q hq
                have h2 := HW.out
                unfold dlR gone
                constructor
                · simp only; omega
                · simp only; omega))
              have hds : Dst ⟨rt, wd, nl, Rq, R.filter fun r => !decide (r.f2 * r.f3 < 2)⟩ := by
                refine ⟨?_, ?_, ?_, ?_⟩
                · have h := hdel.ceS
                  rw [hdc] at h
                  exact h.imp fun {a b} k => .inl k
                · have h := hdel.meS
                  rw [hdm] at h
                  exact srt_pair h
                · show Rq.length ≤ 100000
                  rw [HRq.out]; omega
                · show (R.filter _).length ≤ 100000
                  exact Nat.le_trans (List.length_filter_le ..) (by rw [HRl.out]; omega)
              have hsc : srtC Rq = Rq := by
                have h := hdel.ceS
                rw [hdc] at h
                exact srtC_id h
              obtain ⟨mx, hmx⟩ : ∃ x, x = R.filter fun r => !decide (r.f2 * r.f3 < 2) := ⟨_, rfl⟩
              rw [← hmx] at hdm hdr hds
              have HDR := Lib.hid hdr
              have HFIN := Lib.hid (fun w8 v (ho : OwR w8 B v mx) hg => @ed_me wr w8 B D rt wd nl Rq R mx A1 A2 Av A4 c1 c2 cv c4 v h6 h1 h2 h3 h4 HNE1.out hB ho hg)
              have HSRT := Lib.hid (fun (W : World) (hE : Ed W B D ⟨rt, wd, nl, Rq, mx⟩) => sort_any hE hds)
              have HDEL : Hid (del i k ⟨rt, wd, ht, ce, me⟩ = ⟨rt, wd, nl, srtC Rq, srtR mx⟩) := Lib.hid (by
                rw [hsc, ← hdc, ← hdm, ← hdh]; rfl)
              have HB5 := Lib.hid h5
              have HH6 := Lib.hid h6
              have HP4 := Lib.hid h4
              have HQ : Hid (st = (del i k ⟨rt, wd, ht, ce, me⟩, 0)) := Lib.hid (by rw [HST.out, if_neg (fun h => h.elim (fun h => by omega) hneC), if_neg (fun h => h ⟨HW.out.1, HW.out.2.1, HW.out.2.2⟩)])
              clear h1 h2 h3 h4 h5 h6 hRe hB2 hlt HT HDr Hg hneC hdel hdc hdm hdh hdr hds hsc hmx p0 p1 p2 p3 p4 f0 f1 f2 f3 f4
              obtain ⟨p0, p1, p2, p3, p4, f0, f1, f2, f3, f4⟩ := ed5 HH6.out
              (try simp only [] at p0 p1 p2 p3 p4)
              go_wp2_with (first
                | (go_at_call 69; refine HDR.out.mono ?_; rintro e w8 ⟨vq, rfl, hov, hgv, hvb⟩; obtain ⟨Aq, cq, rfl⟩ := ow_slice hov; obtain ⟨p0, p1, p2, p3, p4, f0, f1, f2, f3, f4⟩ := ed5 (blk_grown HH6.out hgv (own_ne HP4.out HH6.out (by decide))); (try simp only [] at p0 p1 p2 p3 p4); have HVV := Lib.hid (HFIN.out _ _ hov hgv); clear hov hgv hvb)
                | (go_at_call 66; refine (HSRT.out _ HVV.out.1).mono ?_; rintro e w9 ⟨rfl, hE9, hb9⟩; have HE9 := Lib.hid hE9; have HB9 := Lib.hid hb9; clear hE9 hb9))
              go_ret
              exact ⟨by rw [HQ.out]; rfl, by rw [HQ.out]; show Ed _ B D (del i k ⟨rt, wd, ht, ce, me⟩); rw [HDEL.out]; exact HE9.out, below_trans HB5.out (below_trans HVV.out.2 HB9.out)⟩
    · have hwb : wtB at' n ht.length = false := decide_eq_false hwt
      rw [hwb] at HWI
      have HQ : Hid (st = (⟨rt, wd, ht, ce, me⟩, 4)) := Lib.hid (by rw [HST.out, if_neg (fun h => h.elim (fun h => by omega) HC.out), if_pos hwt])
      clear hwb hwt
      refine wp_region_noPanic ?_
      refine start_ (n := 11) (S := (fun w' => w'.cell? ⟨w.heap.size, 0, none⟩ = some (.int .i64 at') ∧ w'.cell? ⟨w.heap.size + 1, 0, none⟩ = some (.int .i64 n) ∧ w'.cell? ⟨D, 2, none⟩ = some (.slice A2 ht.length c2))) (ds := []) (bb 11 0) (by kernel_rfl) rfl rfl (HKT.out _ (below_drew (Below.refl _ _))) (fun hHeld => ?_)
      refine ta_ 0 31 11 1 hHeld ?_
      refine ta_ 1 32 11 3 hHeld ?_
      refine pu_ 2 33 11 7 ?_
      refine pu_ 3 34 11 15 ?_
      refine pu_ 4 35 11 31 ?_
      refine pu_ 5 36 11 63 ?_
      refine ta_ 6 37 11 127 hHeld ?_
      refine pu_ 7 38 11 255 ?_
      refine one_ (i := 8) (N := some 39) (bb 11 511) rfl rfl (by kernel_rfl) (by decide) (fun K hK => ?_)
      go_simp
      go_at_call 65
      refine (HWI.out _).mono ?_
      rintro e w3 ⟨rfl, hb3⟩
      have HB3 : Hid (Below W0.heap.size W0 w3) := Lib.hid (below_then (below_drew (Below.refl W0.heap.size W0)) (Nat.le_refl _) hb3)
      clear hb3
      try go_wp2_with fail
      refine hK.out _ _ (HKT.out _ HB3.out) (fun hHeld => ?_)
      clear hK K
      refine nm_ (some 39) ?_
      refine pu_ 9 40 11 1023 ?_
      refine pu_ 10 30 11 2047 ?_
      refine done_ (by kernel_rfl) ?_
      refine NoPanic.normal ?_
      go_wp2_with fail
      go_ret
      exact ⟨by rw [HQ.out]; rfl, by rw [HQ.out]; exact HEw.out.below HB3.out, below_trans HBw.out (below_mono HB3.out HSB.out)⟩
end Go.Proofs.YtcofacgdijjnoaaGreat
