/- edit.lay: walked. -/
import Derived.Test.YtcofacgdijjnoaaGreatPaa
import Derived.Test.YtcofacgdijjnoaaGreatPar
namespace Go.Proofs.YtcofacgdijjnoaaGreat
open PE (S31 S44 S49 k44 k49 k31)
open Go.RowKit Go.Shelf Go.Lib Go.Proofs.YtcofacgdijjnoaaGreatW.PrintWords Go.Proofs.YtcofacgdijjnoaaGreatW.PrintLast Go.Proofs.YtcofacgdijjnoaaGreatW.PrintMore
set_option linter.unusedVariables false
set_option linter.unusedSimpArgs false
set_option maxRecDepth 100000
set_option maxHeartbeats 2000000
theorem flt_split {α : Type} (p : α → Bool) : ∀ (l : List α) (i : Nat), (∀ q, ∀ h : q < l.length, q < i → p l[q] = true) → (∀ q, ∀ h : q < l.length, i ≤ q → p l[q] = false) → l.filter p = l.take i
  | [], i, _, _ => by simp
  | x :: l, 0, _, h2 => by
      rw [List.take_zero, List.filter_eq_nil_iff]
      intro y hy
      obtain ⟨q, hq, rfl⟩ := List.getElem_of_mem hy
      rw [h2 q hq (Nat.zero_le _)]; decide
  | x :: l, i + 1, h1, h2 => by
      have h0 : p x = true := h1 0 (by simp) (by omega)
      rw [List.take_succ_cons, List.filter_cons, if_pos h0, flt_split p l i (fun q h h' => h1 (q + 1) (by simpa using h) (by omega)) (fun q h h' => h2 (q + 1) (by simpa using h) (by omega))]
theorem flt_rest {α : Type} (p : α → Bool) : ∀ (l : List α) (i : Nat), (∀ q, ∀ h : q < l.length, q < i → p l[q] = false) → (∀ q, ∀ h : q < l.length, i ≤ q → p l[q] = true) → l.filter p = l.drop i
  | [], i, _, _ => by simp
  | x :: l, 0, _, h2 => by
      rw [List.drop_zero, List.filter_eq_self]
      intro y hy
      obtain ⟨q, hq, rfl⟩ := List.getElem_of_mem hy
      exact h2 q hq (Nat.zero_le _)
  | x :: l, i + 1, h1, h2 => by
      have h0 : p x = false := h1 0 (by simp) (by omega)
      rw [List.drop_succ_cons, List.filter_cons, if_neg (by rw [h0]; decide), flt_rest p l i (fun q h h' => h1 (q + 1) (by simpa using h) (by omega)) (fun q h h' => h2 (q + 1) (by simpa using h) (by omega))]
theorem lay_at {l : List S44} (hS : l.Pairwise LtC) {c : S44} {i : Nat} {b : Bool} (hi : i ≤ l.length) (h1 : ∀ q, ∀ h : q < l.length, q < i → LtC l[q] c) (h2 : ∀ q, ∀ h : q < l.length, i ≤ q → ¬ LtC l[q] c) (hb : b = true ↔ ∃ y, l[i]? = some y ∧ y.f0 = c.f0 ∧ y.f1 = c.f1) :
    lay c l = l.take i ++ (if Nil c then [] else [c]) ++ l.drop (i + if b then 1 else 0) ∧ (b = true → i < l.length) := by
  have hlt : b = true → i < l.length := fun h => by
    obtain ⟨y, hy, _⟩ := hb.1 h
    exact (List.getElem?_eq_some_iff.1 hy).1
  refine ⟨?_, hlt⟩
  unfold lay
  rw [flt_split _ l i (fun q h k => decide_eq_true (h1 q h k)) (fun q h k => decide_eq_false (h2 q h k))]
  congr 1
  cases b with
  | true =>
    have hi' := hlt rfl
    obtain ⟨y, hy, e0, e1⟩ := hb.1 rfl
    have hyi : l[i] = y := by rw [List.getElem?_eq_getElem hi'] at hy; exact Option.some.inj hy
    rw [if_pos rfl]
    refine flt_rest _ l (i + 1) (fun q h k => decide_eq_false fun hlt2 => ?_) (fun q h k => decide_eq_true ?_)
    · rcases Nat.lt_or_ge q i with k2 | k2
      · exact LtC.irr _ (LtC.tr _ _ _ (h1 q h k2) hlt2)
      · obtain rfl : q = i := by omega
        rw [hyi] at hlt2; unfold LtC at hlt2; omega
    · have := List.pairwise_iff_getElem.1 hS i q hi' h (by omega)
      rw [hyi] at this; unfold LtC at *; omega
  | false =>
    rw [if_neg (by decide), Nat.add_zero]
    refine flt_rest _ l i (fun q h k => decide_eq_false fun hlt => LtC.irr _ (LtC.tr _ _ _ (h1 q h k) hlt)) (fun q h k => decide_eq_true ?_)
    have hi' : i < l.length := by omega
    have hne : ¬ (l[i].f0 = c.f0 ∧ l[i].f1 = c.f1) := fun h => by
      have := hb.2 ⟨l[i], List.getElem?_eq_getElem hi', h.1, h.2⟩
      cases this
    have hge := h2 i hi' (Nat.le_refl _)
    have hci : LtC c l[i] := by unfold LtC at *; omega
    rcases Nat.lt_or_ge i q with k2 | k2
    · exact LtC.tr _ _ _ hci (List.pairwise_iff_getElem.1 hS i q hi' h k2)
    · obtain rfl : q = i := by omega
      exact hci
theorem eq31 (a b c a' b' c' : Int) (w : World) : Sem.run Tryz.prog (Op.equalIn 10000 31 (.agg #[.int .i64 a, .int .i64 b, .int .i64 c]) (.agg #[.int .i64 a', .int .i64 b', .int .i64 c'])) w = .ok ((a == a') && ((b == b') && (c == c'))) w := by
  have hu := run_underlying (P := Tryz.prog) (w := w) Tryz.underlying31
  have h3 : ∀ x y : Int, Sem.run Tryz.prog (Op.equalIn 9999 3 (.int .i64 x) (.int .i64 y)) w = .ok (x == y) w := fun x y => run_equalIn_int (P := Tryz.prog) (w := w) 9998 3 .i64 .i64 x y Tryz.underlying3
  rw [Op.equalIn]
  simp only [Sem.run_bind, hu, Result.andThen_ok]
  have hs : (sizeOf 3).run Tryz.prog w = .ok 1 w := by kernel_rfl
  have p0 : ∀ x y z : Int, (part 3 #[.int .i64 x, .int .i64 y, .int .i64 z] 0).run Tryz.prog w = .ok (.int .i64 x) w := fun x y z => by simp [go_sem, part]
  have p1 : ∀ x y z : Int, (part 3 #[.int .i64 x, .int .i64 y, .int .i64 z] 1).run Tryz.prog w = .ok (.int .i64 y) w := fun x y z => by simp [go_sem, part]
  have p2 : ∀ x y z : Int, (part 3 #[.int .i64 x, .int .i64 y, .int .i64 z] 2).run Tryz.prog w = .ok (.int .i64 z) w := fun x y z => by simp [go_sem, part]
  simp [hs, Std.Legacy.Range.forIn_eq_forIn_range', List.range', p0, p1, p2, h3]
  by_cases h1 : a = a'
  · by_cases h2 : b = b'
    · by_cases h4 : c = c'
      · simp [h1, h2, h4]
      · simp [h1, h2, h4]
    · simp [h1, h2]
  · simp [h1]
theorem neq31 (a b c : Int) (w : World) : (binOp .neq 31 (.agg #[.int .i64 a, .int .i64 b, .int .i64 c]) (.agg #[.int .i64 0, .int .i64 0, .int .i64 0])).run Tryz.prog w = .ok (.bool (!((a == 0) && ((b == 0) && (c == 0))))) w := by
  simp only [binOp]
  have h := eq31 a b c 0 0 0 w
  simp only [Op.equal, Op.maxDepth, Sem.run_bind, h, Result.andThen_ok, Sem.run_pure]
theorem lay_any {w : World} {B D : Nat} {s : Sh} {c : S44} (hE : Ed w B D s) (hO : OkS s) :
    Calls Tryz.prog 62 #[.pointer (some ⟨D, 0, none⟩), .agg (encC c).toArray] w fun e w' => e = .returned (.tuple #[]) ∧ Ed w' B D { s with ce := lay c s.ce } ∧ Below B w w' := by
  have hBw := hE.le
  obtain ⟨x0, x1, x2, ⟨x3, x4, x5⟩⟩ := c
  have hE1 := hE.below (below_alloc (Below.refl w.heap.size w) (Obj.cells #[.int .i64 x0, .int .i64 x1, .string x2, .int .i64 x3, .int .i64 x4, .int .i64 x5] 44 (0, 0)))
  have hA := below_mono (below_alloc (Below.refl w.heap.size w) (Obj.cells #[.int .i64 x0, .int .i64 x1, .string x2, .int .i64 x3, .int .i64 x4, .int .i64 x5] 44 (0, 0))) hBw
  have hx := blk_new w (Obj.cells #[.int .i64 x0, .int .i64 x1, .string x2, .int .i64 x3, .int .i64 x4, .int .i64 x5] 44 (0, 0))
  obtain ⟨⟨A1, c1, A2, c2, A3, c3, A4, c4⟩, hh, o1, o2, o3, o4, hne, hB, hR⟩ := hE1.open
  obtain ⟨rt, wd, ht, ce, me⟩ := s
  have hce := cen hO
  have hS : ce.Pairwise LtC := hO.ceS
  show Calls Tryz.prog 62 #[.pointer (some ⟨D, 0, none⟩), .agg #[.int .i64 x0, .int .i64 x1, .string x2, .int .i64 x3, .int .i64 x4, .int .i64 x5]] w fun e w' => e = .returned (.tuple #[]) ∧ Ed w' B D ⟨rt, wd, ht, lay ⟨x0, x1, x2, ⟨x3, x4, x5⟩⟩ ce, me⟩ ∧ Below B w w'
  simp only [] at hh o1 o2 o3 o4 hce
  obtain ⟨m0, m1, m2, m3, m4, m5⟩ := six (x := ⟨x0, x1, x2, ⟨x3, x4, x5⟩⟩) hx
  obtain ⟨p0, p1, p2, p3, p4, f0, f1, f2, f3, f4⟩ := ed5 hh
  simp only [] at p0 p1 p2 p3 p4 m0 m1 m2 m3 m4 m5
  have HA3w : Hid (∀ k, (Value.slice A3 ce.length c3).ownBlock = some k → k < w.heap.size) := Lib.hid (fun k hk => by
    obtain ⟨v1, v2, v3, v4, hh', o1', o2', o3', o4', _, _⟩ := hE
    have hq := blk_below hh' (below_alloc (Below.refl w.heap.size w) (Obj.cells #[.int .i64 x0, .int .i64 x1, .string x2, .int .i64 x3, .int .i64 x4, .int .i64 x5] 44 (0, 0)))
    rw [hh] at hq
    have := congrArg (fun o : Option Obj => match o with | some (.cells c _ _) => c[3]? | _ => none) hq
    have h3 : v3 = .slice A3 ce.length c3 := by simpa [shv] using this.symm
    subst h3
    exact (own_lt o3' k hk))
  have HBS := Lib.hid (fun W (o : OwC W B (.slice A3 ce.length c3) ce) => bsC_any ⟨x0, x1, x2, ⟨x3, x4, x5⟩⟩ o (by omega) hS)
  have HX := Lib.hid hx
  have HH := Lib.hid hh
  have HO1 := Lib.hid o1
  have HO2 := Lib.hid o2
  have HO3 := Lib.hid o3
  have HO4 := Lib.hid o4
  have HNE := Lib.hid hne
  have HA := Lib.hid hA
  have HS := Lib.hid hS
  clear hE hO hE1 hx hh o1 o2 o3 o4 hne hR hA hS
  go_enter Tryz.func62, Tryz.ntmps62
  go_wp2_with fail
  obtain ⟨W0, hW0⟩ : ∃ W0, W0 = w.alloc (Obj.cells #[.int .i64 x0, .int .i64 x1, .string x2, .int .i64 x3, .int .i64 x4, .int .i64 x5] 44 (0, 0)) := ⟨_, rfl⟩
  rw [← hW0] at HX HH HO1 HO2 HO3 HO4 HA m0 m1 m2 m3 m4 m5 p0 p1 p2 p3 p4 f0 f1 f2 f3 f4 ⊢
  have HW0 := Lib.hid hW0
  clear hW0
  have KS : ∀ w', Below W0.heap.size W0 w' → (w'.cell? ⟨D, 3, none⟩ = some (.slice A3 ce.length c3) ∧ w'.cell? ⟨w.heap.size, 0, none⟩ = some (.int .i64 x0) ∧ w'.cell? ⟨w.heap.size, 1, none⟩ = some (.int .i64 x1) ∧ w'.cell? ⟨w.heap.size, 2, none⟩ = some (.string x2) ∧ w'.cell? ⟨w.heap.size, 3, none⟩ = some (.int .i64 x3) ∧ w'.cell? ⟨w.heap.size, 4, none⟩ = some (.int .i64 x4) ∧ w'.cell? ⟨w.heap.size, 5, none⟩ = some (.int .i64 x5) ∧ Below W0.heap.size W0 w') := fun w' hb => ⟨pw_cell_below hb p3, pw_cell_below hb m0, pw_cell_below hb m1, pw_cell_below hb m2, pw_cell_below hb m3, pw_cell_below hb m4, pw_cell_below hb m5, hb⟩
  have HKS := Lib.hid KS
  clear KS
  go_region_held3 (fun w' => (w'.cell? ⟨D, 3, none⟩ = some (.slice A3 ce.length c3) ∧ w'.cell? ⟨w.heap.size, 0, none⟩ = some (.int .i64 x0) ∧ w'.cell? ⟨w.heap.size, 1, none⟩ = some (.int .i64 x1) ∧ w'.cell? ⟨w.heap.size, 2, none⟩ = some (.string x2) ∧ w'.cell? ⟨w.heap.size, 3, none⟩ = some (.int .i64 x3) ∧ w'.cell? ⟨w.heap.size, 4, none⟩ = some (.int .i64 x4) ∧ w'.cell? ⟨w.heap.size, 5, none⟩ = some (.int .i64 x5) ∧ Below W0.heap.size W0 w'))
    (first
      | exact HKS.out _ (Below.refl _ _)
      | exact HKS.out _ (below_drew (Below.refl _ _))
      | (go_split_ands; exact HKS.out _ (below_then (by assumption) (Below.size (by assumption)) hbn))
      | (go_split_ands; exact HKS.out _ (below_drew (by assumption)))
      | (go_split_ands; exact HKS.out _ (by assumption)))
    (first
      | (go_at_call 79; go_split_ands; refine (HBS.out _ (Ow.below HO3.out (by assumption))).mono ?_; rintro e w1 ⟨i, b, rfl, hi, h1, h2, hbb, hbn⟩; have HL := Lib.hid (lay_at HS.out hi h1 h2 hbb); have HI := Lib.hid hi; clear hi h1 h2 hbb))
  go_split_ands
  have HB1 : Hid (Below W0.heap.size W0 w1) := Lib.hid (by assumption)
  have HA3 : Hid (∀ k, (Value.slice A3 ce.length c3).ownBlock = some k → k < w.heap.size) := HA3w
  have HHw := Lib.hid (blk_below HH.out HB1.out)
  have HXw := Lib.hid (blk_below HX.out HB1.out)
  have HO1w := Lib.hid (Ow.below HO1.out HB1.out)
  have HO2w := Lib.hid (Ow.below HO2.out HB1.out)
  have HO3w := Lib.hid (Ow.below HO3.out HB1.out)
  have HO4w := Lib.hid (Ow.below HO4.out HB1.out)
  have HSZ : Hid (w.heap.size < W0.heap.size) := Lib.hid (by rw [HW0.out]; show _ < (w.heap.push _).size; simp)
  have HBw : Hid (Below B w w1) := Lib.hid (below_trans HA.out (below_mono HB1.out (Nat.le_trans hBw (Nat.le_of_lt HSZ.out))))
  have HSX : Hid (w.heap.size < w1.heap.size) := Lib.hid (Nat.lt_of_lt_of_le HSZ.out HB1.out.size)
  clear HH HX HO1 HO2 HO3 HO4 HA HB1 HW0 HBS hbn p0 p1 p2 p3 p4 m0 m1 m2 m3 m4 m5 f0 f1 f2 f3 f4 HKS HSZ
  cases b with
  | false =>
    have HLx : Hid (lay ⟨x0, x1, x2, ⟨x3, x4, x5⟩⟩ ce = ce.take i ++ (if Nil ⟨x0, x1, x2, ⟨x3, x4, x5⟩⟩ then [] else [⟨x0, x1, x2, ⟨x3, x4, x5⟩⟩]) ++ ce.drop i) := Lib.hid HL.out.1
    clear HL
    have HIX := HI
    have hcl := hce
    clear hce
    obtain ⟨p0, p1, p2, p3, p4, f0, f1, f2, f3, f4⟩ := ed5 HHw.out
    obtain ⟨m0, m1, m2, m3, m4, m5⟩ := six (x := ⟨x0, x1, x2, ⟨x3, x4, x5⟩⟩) HXw.out
    (try simp only [] at p0 p1 p2 p3 p4 m0 m1 m2 m3 m4 m5)
    have hs := empty_size x2
    have heq := neq31 x3 x4 x5
    by_cases hz : x2.size = 0
    · rw [decide_eq_true hz] at hs
      by_cases hst : x3 = 0 ∧ x4 = 0 ∧ x5 = 0
      · have HNL : Hid (Nil ⟨x0, x1, x2, ⟨x3, x4, x5⟩⟩) := Lib.hid ⟨hz, hst.1, hst.2.1, hst.2.2⟩
        obtain ⟨rfl, rfl, rfl⟩ := hst
        clear hz
        go_wp2_with fail
        go_end0
        rw [show lay _ _ = ce by rw [HLx.out, if_pos HNL.out, List.append_nil, List.take_append_drop]]
        exact ⟨rfl, ⟨_, _, _, _, HHw.out, HO1w.out, HO2w.out, HO3w.out, HO4w.out, HNE.out, hB⟩, HBw.out⟩
      · have HNL : Hid (¬ Nil ⟨x0, x1, x2, ⟨x3, x4, x5⟩⟩) := Lib.hid (fun h => hst h.2)
        have hq : ((x3 == 0) && ((x4 == 0) && (x5 == 0))) = false := by
          apply Bool.eq_false_iff.mpr
          simpa using fun h1 h2 h3 => hst ⟨h1, h2, h3⟩
        rw [hq] at heq
        clear hz hst hq
        go_wp2_with fail
        have HKT : Hid (∀ W, Below w1.heap.size w1 W → (W.cell? ⟨D, 3, none⟩ = some (.slice A3 ce.length c3) ∧ W.cell? ⟨w.heap.size, 0, none⟩ = some (.int .i64 x0) ∧ W.cell? ⟨w.heap.size, 1, none⟩ = some (.int .i64 x1) ∧ W.cell? ⟨w.heap.size, 2, none⟩ = some (.string x2) ∧ W.cell? ⟨w.heap.size, 3, none⟩ = some (.int .i64 x3) ∧ W.cell? ⟨w.heap.size, 4, none⟩ = some (.int .i64 x4) ∧ W.cell? ⟨w.heap.size, 5, none⟩ = some (.int .i64 x5))) := Lib.hid (fun W hb => ⟨pw_cell_below hb p3, pw_cell_below hb m0, pw_cell_below hb m1, pw_cell_below hb m2, pw_cell_below hb m3, pw_cell_below hb m4, pw_cell_below hb m5⟩)
        have HSZ := Lib.hid (show B ≤ w1.heap.size from Nat.le_trans hBw (Nat.le_of_lt HSX.out))
        clear p0 p1 p2 p3 p4 f0 f1 f2 f3 f4 m0 m1 m2 m3 m4 m5
        refine wp_region_noPanic ?_
        refine start_ (n := 14) (S := (fun w' => w'.cell? ⟨D, 3, none⟩ = some (.slice A3 ce.length c3) ∧ w'.cell? ⟨w.heap.size, 0, none⟩ = some (.int .i64 x0) ∧ w'.cell? ⟨w.heap.size, 1, none⟩ = some (.int .i64 x1) ∧ w'.cell? ⟨w.heap.size, 2, none⟩ = some (.string x2) ∧ w'.cell? ⟨w.heap.size, 3, none⟩ = some (.int .i64 x3) ∧ w'.cell? ⟨w.heap.size, 4, none⟩ = some (.int .i64 x4) ∧ w'.cell? ⟨w.heap.size, 5, none⟩ = some (.int .i64 x5))) (ds := [13]) (bb 14 0) (by kernel_rfl) rfl rfl (HKT.out _ (below_drew (Below.refl _ _))) (fun hHeld => ?_)
        refine pu_ 0 39 14 1 ?_
        refine pu_ 1 40 14 3 ?_
        refine pu_ 2 41 14 7 ?_
        refine pu_ 3 42 14 15 ?_
        refine pu_ 4 43 14 31 ?_
        refine ta_ 5 44 14 63 hHeld ?_
        refine pu_ 6 45 14 127 ?_
        refine ta_ 7 46 14 255 hHeld ?_
        refine one_ (i := 8) (N := some 47) (bb 14 511) rfl rfl (by kernel_rfl) (by decide) (fun K hK => ?_)
        go_simp
        refine hK.out _ _ (HKT.out _ (below_alloc (below_drew (Below.refl _ _)) _)) (fun hHeld => ?_)
        clear hK K
        refine nm_ (some 47) ?_
        refine one_ (i := 9) (N := some 48) (bb 14 1023) rfl rfl (by kernel_rfl) (by decide) (fun K hK => ?_)
        go_simp
        have hbd := below_alloc (below_drew (Below.refl w1.heap.size w1)) (Obj.cells #[.int .i64 x0, .int .i64 x1, .string x2, .int .i64 x3, .int .i64 x4, .int .i64 x5] 44 (0, 0))
        have hsd : (w1.drew).heap.size = w1.heap.size := rfl
        have hnb := blk_new w1.drew (Obj.cells #[.int .i64 x0, .int .i64 x1, .string x2, .int .i64 x3, .int .i64 x4, .int .i64 x5] 44 (0, 0))
        have ho2 : OwC (w1.drew.alloc (Obj.cells #[.int .i64 x0, .int .i64 x1, .string x2, .int .i64 x3, .int .i64 x4, .int .i64 x5] 44 (0, 0))) w1.heap.size (.slice (some ⟨w1.heap.size, 0, none⟩) 1 1) [⟨x0, x1, x2, ⟨x3, x4, x5⟩⟩] := ⟨rfl, .inr ⟨w1.heap.size, 1, #[.int .i64 x0, .int .i64 x1, .string x2, .int .i64 x3, .int .i64 x4, .int .i64 x5], rfl, Nat.le_refl _, hnb, Nat.le_refl _, by decide, rfl, rfl⟩⟩
        have hne2 : (Value.slice A3 ce.length c3).ownBlock ≠ some w1.heap.size := fun e => by have h1 := HA3.out _ e; have h2 := HSX.out; omega
        have hin := insC_any (i := i) (Ow.below HO3w.out hbd) (Nat.le_trans HSZ.out hbd.size) ho2 hne2 HIX.out (by simp) (by omega) (by simp)
        go_at_call 84
        refine hin.mono ?_
        rintro e w5 ⟨v, rfl, hov, hgv, hvb⟩
        obtain ⟨nl, hnl⟩ : ∃ x, x = ce.take i ++ [⟨x0, x1, x2, ⟨x3, x4, x5⟩⟩] ++ ce.drop i := ⟨_, rfl⟩
        rw [← hnl] at hov
        have HNLs := Lib.hid hnl
        clear hnl
        obtain ⟨Av, cv, rfl⟩ := ow_slice hov
        clear hin hne2 ho2 hnb hsd hvb
        have h5 := blk_grown (blk_below HHw.out hbd) hgv (own_ne (Ow.below HO3w.out hbd) (blk_below HHw.out hbd) (by decide))
        have hx5 := blk_grown (blk_below HXw.out hbd) hgv (fun e => by have h1 := HA3.out _ e.symm; omega)
        have HF := Lib.hid (And.intro hov (And.intro hgv hbd))
        have HX5 := Lib.hid hx5
        have HH5 := Lib.hid h5
        obtain ⟨p0, p1, p2, p3, p4, f0, f1, f2, f3, f4⟩ := ed5 h5
        obtain ⟨m0, m1, m2, m3, m4, m5⟩ := six (x := ⟨x0, x1, x2, ⟨x3, x4, x5⟩⟩) hx5
        (try simp only [] at p0 p1 p2 p3 p4 m0 m1 m2 m3 m4 m5)
        clear hov hgv hbd h5 hx5
        have HPF := Lib.hid (⟨p3, f3⟩ : _ ∧ _)
        try go_wp2_with fail
        refine hK.out _ _ ⟨p3, m0, m1, m2, m3, m4, m5⟩ (fun hHeld => ?_)
        clear hHeld p0 p1 p2 p3 p4 f0 f1 f2 f3 f4 m0 m1 m2 m3 m4 m5
        clear hK K
        refine nm_ (some 48) ?_
        refine pu_ 10 49 14 2047 ?_
        refine pu_ 11 50 14 4095 ?_
        refine pu_ 12 51 14 8191 ?_
        refine last_ (i := 13) (N := none) (bb 14 16383) rfl rfl (by kernel_rfl) (by decide) (fun K hK => ?_)
        obtain ⟨p3, f3⟩ := HPF.out
        go_simp
        refine hK.out _ _ ?_
        refine done_ (by kernel_rfl) ?_
        refine NoPanic.normal ?_
        go_end0
        obtain ⟨hov, hgv, hbd⟩ := HF.out
        obtain ⟨e1, e2⟩ := ed_ce (blk_below HHw.out hbd) (Ow.below HO1w.out hbd) (Ow.below HO2w.out hbd) (Ow.below HO3w.out hbd) (Ow.below HO4w.out hbd) HNE.out hB hov hgv
        refine ⟨rfl, ?_, below_trans HBw.out (below_trans (below_mono hbd HSZ.out) e2)⟩
        rw [HLx.out, if_neg HNL.out, ← HNLs.out]
        exact e1
    · have HNL : Hid (¬ Nil ⟨x0, x1, x2, ⟨x3, x4, x5⟩⟩) := Lib.hid (fun h => hz h.1)
      rw [decide_eq_false hz] at hs
      clear hz heq
      go_wp2_with fail
      have HKT : Hid (∀ W, Below w1.heap.size w1 W → (W.cell? ⟨D, 3, none⟩ = some (.slice A3 ce.length c3) ∧ W.cell? ⟨w.heap.size, 0, none⟩ = some (.int .i64 x0) ∧ W.cell? ⟨w.heap.size, 1, none⟩ = some (.int .i64 x1) ∧ W.cell? ⟨w.heap.size, 2, none⟩ = some (.string x2) ∧ W.cell? ⟨w.heap.size, 3, none⟩ = some (.int .i64 x3) ∧ W.cell? ⟨w.heap.size, 4, none⟩ = some (.int .i64 x4) ∧ W.cell? ⟨w.heap.size, 5, none⟩ = some (.int .i64 x5))) := Lib.hid (fun W hb => ⟨pw_cell_below hb p3, pw_cell_below hb m0, pw_cell_below hb m1, pw_cell_below hb m2, pw_cell_below hb m3, pw_cell_below hb m4, pw_cell_below hb m5⟩)
      have HSZ := Lib.hid (show B ≤ w1.heap.size from Nat.le_trans hBw (Nat.le_of_lt HSX.out))
      clear p0 p1 p2 p3 p4 f0 f1 f2 f3 f4 m0 m1 m2 m3 m4 m5
      refine wp_region_noPanic ?_
      refine start_ (n := 14) (S := (fun w' => w'.cell? ⟨D, 3, none⟩ = some (.slice A3 ce.length c3) ∧ w'.cell? ⟨w.heap.size, 0, none⟩ = some (.int .i64 x0) ∧ w'.cell? ⟨w.heap.size, 1, none⟩ = some (.int .i64 x1) ∧ w'.cell? ⟨w.heap.size, 2, none⟩ = some (.string x2) ∧ w'.cell? ⟨w.heap.size, 3, none⟩ = some (.int .i64 x3) ∧ w'.cell? ⟨w.heap.size, 4, none⟩ = some (.int .i64 x4) ∧ w'.cell? ⟨w.heap.size, 5, none⟩ = some (.int .i64 x5))) (ds := [13]) (bb 14 0) (by kernel_rfl) rfl rfl (HKT.out _ (below_drew (Below.refl _ _))) (fun hHeld => ?_)
      refine pu_ 0 39 14 1 ?_
      refine pu_ 1 40 14 3 ?_
      refine pu_ 2 41 14 7 ?_
      refine pu_ 3 42 14 15 ?_
      refine pu_ 4 43 14 31 ?_
      refine ta_ 5 44 14 63 hHeld ?_
      refine pu_ 6 45 14 127 ?_
      refine ta_ 7 46 14 255 hHeld ?_
      refine one_ (i := 8) (N := some 47) (bb 14 511) rfl rfl (by kernel_rfl) (by decide) (fun K hK => ?_)
      go_simp
      refine hK.out _ _ (HKT.out _ (below_alloc (below_drew (Below.refl _ _)) _)) (fun hHeld => ?_)
      clear hK K
      refine nm_ (some 47) ?_
      refine one_ (i := 9) (N := some 48) (bb 14 1023) rfl rfl (by kernel_rfl) (by decide) (fun K hK => ?_)
      go_simp
      have hbd := below_alloc (below_drew (Below.refl w1.heap.size w1)) (Obj.cells #[.int .i64 x0, .int .i64 x1, .string x2, .int .i64 x3, .int .i64 x4, .int .i64 x5] 44 (0, 0))
      have hsd : (w1.drew).heap.size = w1.heap.size := rfl
      have hnb := blk_new w1.drew (Obj.cells #[.int .i64 x0, .int .i64 x1, .string x2, .int .i64 x3, .int .i64 x4, .int .i64 x5] 44 (0, 0))
      have ho2 : OwC (w1.drew.alloc (Obj.cells #[.int .i64 x0, .int .i64 x1, .string x2, .int .i64 x3, .int .i64 x4, .int .i64 x5] 44 (0, 0))) w1.heap.size (.slice (some ⟨w1.heap.size, 0, none⟩) 1 1) [⟨x0, x1, x2, ⟨x3, x4, x5⟩⟩] := ⟨rfl, .inr ⟨w1.heap.size, 1, #[.int .i64 x0, .int .i64 x1, .string x2, .int .i64 x3, .int .i64 x4, .int .i64 x5], rfl, Nat.le_refl _, hnb, Nat.le_refl _, by decide, rfl, rfl⟩⟩
      have hne2 : (Value.slice A3 ce.length c3).ownBlock ≠ some w1.heap.size := fun e => by have h1 := HA3.out _ e; have h2 := HSX.out; omega
      have hin := insC_any (i := i) (Ow.below HO3w.out hbd) (Nat.le_trans HSZ.out hbd.size) ho2 hne2 HIX.out (by simp) (by omega) (by simp)
      go_at_call 84
      refine hin.mono ?_
      rintro e w5 ⟨v, rfl, hov, hgv, hvb⟩
      obtain ⟨nl, hnl⟩ : ∃ x, x = ce.take i ++ [⟨x0, x1, x2, ⟨x3, x4, x5⟩⟩] ++ ce.drop i := ⟨_, rfl⟩
      rw [← hnl] at hov
      have HNLs := Lib.hid hnl
      clear hnl
      obtain ⟨Av, cv, rfl⟩ := ow_slice hov
      clear hin hne2 ho2 hnb hsd hvb
      have h5 := blk_grown (blk_below HHw.out hbd) hgv (own_ne (Ow.below HO3w.out hbd) (blk_below HHw.out hbd) (by decide))
      have hx5 := blk_grown (blk_below HXw.out hbd) hgv (fun e => by have h1 := HA3.out _ e.symm; omega)
      have HF := Lib.hid (And.intro hov (And.intro hgv hbd))
      have HX5 := Lib.hid hx5
      have HH5 := Lib.hid h5
      obtain ⟨p0, p1, p2, p3, p4, f0, f1, f2, f3, f4⟩ := ed5 h5
      obtain ⟨m0, m1, m2, m3, m4, m5⟩ := six (x := ⟨x0, x1, x2, ⟨x3, x4, x5⟩⟩) hx5
      (try simp only [] at p0 p1 p2 p3 p4 m0 m1 m2 m3 m4 m5)
      clear hov hgv hbd h5 hx5
      have HPF := Lib.hid (⟨p3, f3⟩ : _ ∧ _)
      try go_wp2_with fail
      refine hK.out _ _ ⟨p3, m0, m1, m2, m3, m4, m5⟩ (fun hHeld => ?_)
      clear hHeld p0 p1 p2 p3 p4 f0 f1 f2 f3 f4 m0 m1 m2 m3 m4 m5
      clear hK K
      refine nm_ (some 48) ?_
      refine pu_ 10 49 14 2047 ?_
      refine pu_ 11 50 14 4095 ?_
      refine pu_ 12 51 14 8191 ?_
      refine last_ (i := 13) (N := none) (bb 14 16383) rfl rfl (by kernel_rfl) (by decide) (fun K hK => ?_)
      obtain ⟨p3, f3⟩ := HPF.out
      go_simp
      refine hK.out _ _ ?_
      refine done_ (by kernel_rfl) ?_
      refine NoPanic.normal ?_
      go_end0
      obtain ⟨hov, hgv, hbd⟩ := HF.out
      obtain ⟨e1, e2⟩ := ed_ce (blk_below HHw.out hbd) (Ow.below HO1w.out hbd) (Ow.below HO2w.out hbd) (Ow.below HO3w.out hbd) (Ow.below HO4w.out hbd) HNE.out hB hov hgv
      refine ⟨rfl, ?_, below_trans HBw.out (below_trans (below_mono hbd HSZ.out) e2)⟩
      rw [HLx.out, if_neg HNL.out, ← HNLs.out]
      exact e1
  | true =>
    have HLl : Hid (lay ⟨x0, x1, x2, ⟨x3, x4, x5⟩⟩ ce = ce.take i ++ (if Nil ⟨x0, x1, x2, ⟨x3, x4, x5⟩⟩ then [] else [⟨x0, x1, x2, ⟨x3, x4, x5⟩⟩]) ++ ce.drop (i + 1)) := Lib.hid HL.out.1
    have hil : i < ce.length := HL.out.2 rfl
    clear HL
    have hwi : IntKind.i64.wrap ((i : Int) + 1) = (i : Int) + 1 := by rw [IntKind.wrap_i64]; omega
    obtain ⟨p0, p1, p2, p3, p4, f0, f1, f2, f3, f4⟩ := ed5 HHw.out
    (try simp only [] at p3)
    have HKT : Hid (∀ W, Below w1.heap.size w1 W → W.cell? ⟨D, 3, none⟩ = some (.slice A3 ce.length c3)) := Lib.hid (fun W hb => pw_cell_below hb p3)
    clear p0 p1 p2 p3 p4 f0 f1 f2 f3 f4
    have HCUT := Lib.hid (fun (W : World) (o : OwC W B (.slice A3 ce.length c3) ce) => cutC_any o (show i < i + 1 by omega) hil (by omega))
    obtain ⟨cx, hcx⟩ : ∃ x, x = ce.take i ++ ce.drop (i + 1) := ⟨_, rfl⟩
    rw [← hcx] at HCUT
    have htl : (ce.take i).length = i := by rw [List.length_take]; omega
    have HT1 : Hid (cx.take i = ce.take i) := Lib.hid (by rw [hcx]; exact List.take_left' htl)
    have HT2 : Hid (cx.drop i = ce.drop (i + 1)) := Lib.hid (by rw [hcx]; exact List.drop_left' htl)
    have hcxl : cx.length ≤ 384 := by rw [hcx, List.length_append, htl, List.length_drop]; omega
    have HIX : Hid (i ≤ cx.length) := Lib.hid (by rw [hcx, List.length_append, htl]; omega)
    have HCX := Lib.hid hcx
    clear hcx htl
    go_upto_region 4 with (go_at_call 83; refine (HCUT.out _ HO3w.out).mono ?_; rintro e w2 ⟨rfl, hov, hgv⟩; have h5 := blk_grown HHw.out hgv (own_ne HO3w.out HHw.out (by decide)); have hx5 := blk_grown HXw.out hgv (fun e => by have h1 := HA3.out _ e.symm; omega); have HF := Lib.hid (And.intro hov hgv); have HX5 := Lib.hid hx5; have HH5 := Lib.hid h5; obtain ⟨p0, p1, p2, p3, p4, f0, f1, f2, f3, f4⟩ := ed5 h5; (try simp only [] at p0 p1 p2 p3 p4); clear hov hgv h5 hx5)
    obtain ⟨hov, hgv⟩ := HF.out
    have q1 : OwI w2 B _ wd := own_other HO1w.out hgv (own_apart HO1w.out HO3w.out (by decide))
    have q2 : OwI w2 B _ ht := own_other HO2w.out hgv (own_apart HO2w.out HO3w.out (by decide))
    have q4 : OwR w2 B _ me := own_other HO4w.out hgv (own_apart HO4w.out HO3w.out (by decide))
    have r1 := q1.set (i := 3) (v := .slice A3 cx.length c3) HH5.out (by decide)
    have r2 := q2.set (i := 3) (v := .slice A3 cx.length c3) HH5.out (by decide)
    have r3 := hov.set (i := 3) (v := .slice A3 cx.length c3) HH5.out (by decide)
    have r4 := q4.set (i := 3) (v := .slice A3 cx.length c3) HH5.out (by decide)
    have rh : (w2.setCell ⟨D, 3, none⟩ (.slice A3 cx.length c3)).heap[D]? = some (.cells (shv ⟨A1, c1, A2, c2, A3, c3, A4, c4⟩ ⟨rt, wd, ht, cx, me⟩) 53 (0, 0)) := blk_put HH5.out 3 _ rfl
    have rx := blk_far HX5.out (p := ⟨D, 3, none⟩) (blk_ne HX5.out HH5.out (by decide)) (.slice A3 cx.length c3)
    have hsz : B ≤ w1.heap.size := Nat.le_trans hBw (Nat.le_of_lt HSX.out)
    have rb : Below B w1 (w2.setCell ⟨D, 3, none⟩ (.slice A3 cx.length c3)) := ((Below.refl B w1).grown hgv hsz (own_base HO3w.out)).setCell (p := ⟨D, 3, none⟩) hB _
    have rs : w1.heap.size ≤ (w2.setCell ⟨D, 3, none⟩ (.slice A3 cx.length c3)).heap.size := rb.size
    obtain ⟨Wt, hWt⟩ : ∃ W, W = w2.setCell ⟨D, 3, none⟩ (.slice A3 cx.length c3) := ⟨_, rfl⟩
    rw [← hWt] at r1 r2 r3 r4 rh rx rb rs ⊢
    clear hWt
    have HBn := Lib.hid (below_trans HBw.out rb)
    have HSn := Lib.hid (Nat.lt_of_lt_of_le HSX.out rs)
    have HAn : Hid (∀ k, (Value.slice A3 cx.length c3).ownBlock = some k → k < w.heap.size) := Lib.hid (fun k hk => HA3.out k (by cases A3 <;> exact hk))
    clear hov hgv q1 q2 q4 rb rs hsz HF HX5 HH5 HKT HCUT HHw HXw HO1w HO2w HO3w HO4w HBw HA3 HSX
    have HHw := Lib.hid rh
    have HXw := Lib.hid rx
    have HO1w := Lib.hid r1
    have HO2w := Lib.hid r2
    have HO3w := Lib.hid r3
    have HO4w := Lib.hid r4
    have HBw := HBn
    have HA3 := HAn
    have HSX := HSn
    clear r1 r2 r3 r4 rh rx HBn HAn HSn
    have HLx : Hid (lay ⟨x0, x1, x2, ⟨x3, x4, x5⟩⟩ ce = cx.take i ++ (if Nil ⟨x0, x1, x2, ⟨x3, x4, x5⟩⟩ then [] else [⟨x0, x1, x2, ⟨x3, x4, x5⟩⟩]) ++ cx.drop i) := Lib.hid (by rw [HT1.out, HT2.out]; exact HLl.out)
    have hcl := hcxl
    obtain ⟨p0, p1, p2, p3, p4, f0, f1, f2, f3, f4⟩ := ed5 HHw.out
    obtain ⟨m0, m1, m2, m3, m4, m5⟩ := six (x := ⟨x0, x1, x2, ⟨x3, x4, x5⟩⟩) HXw.out
    (try simp only [] at p0 p1 p2 p3 p4 m0 m1 m2 m3 m4 m5)
    have hs := empty_size x2
    have heq := neq31 x3 x4 x5
    by_cases hz : x2.size = 0
    · rw [decide_eq_true hz] at hs
      by_cases hst : x3 = 0 ∧ x4 = 0 ∧ x5 = 0
      · have HNL : Hid (Nil ⟨x0, x1, x2, ⟨x3, x4, x5⟩⟩) := Lib.hid ⟨hz, hst.1, hst.2.1, hst.2.2⟩
        obtain ⟨rfl, rfl, rfl⟩ := hst
        clear hz
        go_wp2_with fail
        go_end0
        rw [show lay _ _ = cx by rw [HLx.out, if_pos HNL.out, List.append_nil, List.take_append_drop]]
        exact ⟨rfl, ⟨_, _, _, _, HHw.out, HO1w.out, HO2w.out, HO3w.out, HO4w.out, HNE.out, hB⟩, HBw.out⟩
      · have HNL : Hid (¬ Nil ⟨x0, x1, x2, ⟨x3, x4, x5⟩⟩) := Lib.hid (fun h => hst h.2)
        have hq : ((x3 == 0) && ((x4 == 0) && (x5 == 0))) = false := by
          apply Bool.eq_false_iff.mpr
          simpa using fun h1 h2 h3 => hst ⟨h1, h2, h3⟩
        rw [hq] at heq
        clear hz hst hq
        go_wp2_with fail
        have HKT : Hid (∀ W, Below Wt.heap.size Wt W → (W.cell? ⟨D, 3, none⟩ = some (.slice A3 cx.length c3) ∧ W.cell? ⟨w.heap.size, 0, none⟩ = some (.int .i64 x0) ∧ W.cell? ⟨w.heap.size, 1, none⟩ = some (.int .i64 x1) ∧ W.cell? ⟨w.heap.size, 2, none⟩ = some (.string x2) ∧ W.cell? ⟨w.heap.size, 3, none⟩ = some (.int .i64 x3) ∧ W.cell? ⟨w.heap.size, 4, none⟩ = some (.int .i64 x4) ∧ W.cell? ⟨w.heap.size, 5, none⟩ = some (.int .i64 x5))) := Lib.hid (fun W hb => ⟨pw_cell_below hb p3, pw_cell_below hb m0, pw_cell_below hb m1, pw_cell_below hb m2, pw_cell_below hb m3, pw_cell_below hb m4, pw_cell_below hb m5⟩)
        have HSZ := Lib.hid (show B ≤ Wt.heap.size from Nat.le_trans hBw (Nat.le_of_lt HSX.out))
        clear p0 p1 p2 p3 p4 f0 f1 f2 f3 f4 m0 m1 m2 m3 m4 m5
        refine wp_region_noPanic ?_
        refine start_ (n := 14) (S := (fun w' => w'.cell? ⟨D, 3, none⟩ = some (.slice A3 cx.length c3) ∧ w'.cell? ⟨w.heap.size, 0, none⟩ = some (.int .i64 x0) ∧ w'.cell? ⟨w.heap.size, 1, none⟩ = some (.int .i64 x1) ∧ w'.cell? ⟨w.heap.size, 2, none⟩ = some (.string x2) ∧ w'.cell? ⟨w.heap.size, 3, none⟩ = some (.int .i64 x3) ∧ w'.cell? ⟨w.heap.size, 4, none⟩ = some (.int .i64 x4) ∧ w'.cell? ⟨w.heap.size, 5, none⟩ = some (.int .i64 x5))) (ds := [13]) (bb 14 0) (by kernel_rfl) rfl rfl (HKT.out _ (below_drew (Below.refl _ _))) (fun hHeld => ?_)
        refine pu_ 0 39 14 1 ?_
        refine pu_ 1 40 14 3 ?_
        refine pu_ 2 41 14 7 ?_
        refine pu_ 3 42 14 15 ?_
        refine pu_ 4 43 14 31 ?_
        refine ta_ 5 44 14 63 hHeld ?_
        refine pu_ 6 45 14 127 ?_
        refine ta_ 7 46 14 255 hHeld ?_
        refine one_ (i := 8) (N := some 47) (bb 14 511) rfl rfl (by kernel_rfl) (by decide) (fun K hK => ?_)
        go_simp
        refine hK.out _ _ (HKT.out _ (below_alloc (below_drew (Below.refl _ _)) _)) (fun hHeld => ?_)
        clear hK K
        refine nm_ (some 47) ?_
        refine one_ (i := 9) (N := some 48) (bb 14 1023) rfl rfl (by kernel_rfl) (by decide) (fun K hK => ?_)
        go_simp
        have hbd := below_alloc (below_drew (Below.refl Wt.heap.size Wt)) (Obj.cells #[.int .i64 x0, .int .i64 x1, .string x2, .int .i64 x3, .int .i64 x4, .int .i64 x5] 44 (0, 0))
        have hsd : (Wt.drew).heap.size = Wt.heap.size := rfl
        have hnb := blk_new Wt.drew (Obj.cells #[.int .i64 x0, .int .i64 x1, .string x2, .int .i64 x3, .int .i64 x4, .int .i64 x5] 44 (0, 0))
        have ho2 : OwC (Wt.drew.alloc (Obj.cells #[.int .i64 x0, .int .i64 x1, .string x2, .int .i64 x3, .int .i64 x4, .int .i64 x5] 44 (0, 0))) Wt.heap.size (.slice (some ⟨Wt.heap.size, 0, none⟩) 1 1) [⟨x0, x1, x2, ⟨x3, x4, x5⟩⟩] := ⟨rfl, .inr ⟨Wt.heap.size, 1, #[.int .i64 x0, .int .i64 x1, .string x2, .int .i64 x3, .int .i64 x4, .int .i64 x5], rfl, Nat.le_refl _, hnb, Nat.le_refl _, by decide, rfl, rfl⟩⟩
        have hne2 : (Value.slice A3 cx.length c3).ownBlock ≠ some Wt.heap.size := fun e => by have h1 := HA3.out _ e; have h2 := HSX.out; omega
        have hin := insC_any (i := i) (Ow.below HO3w.out hbd) (Nat.le_trans HSZ.out hbd.size) ho2 hne2 HIX.out (by simp) (by omega) (by simp)
        go_at_call 84
        refine hin.mono ?_
        rintro e w5 ⟨v, rfl, hov, hgv, hvb⟩
        obtain ⟨nl, hnl⟩ : ∃ x, x = cx.take i ++ [⟨x0, x1, x2, ⟨x3, x4, x5⟩⟩] ++ cx.drop i := ⟨_, rfl⟩
        rw [← hnl] at hov
        have HNLs := Lib.hid hnl
        clear hnl
        obtain ⟨Av, cv, rfl⟩ := ow_slice hov
        clear hin hne2 ho2 hnb hsd hvb
        have h5 := blk_grown (blk_below HHw.out hbd) hgv (own_ne (Ow.below HO3w.out hbd) (blk_below HHw.out hbd) (by decide))
        have hx5 := blk_grown (blk_below HXw.out hbd) hgv (fun e => by have h1 := HA3.out _ e.symm; omega)
        have HF := Lib.hid (And.intro hov (And.intro hgv hbd))
        have HX5 := Lib.hid hx5
        have HH5 := Lib.hid h5
        obtain ⟨p0, p1, p2, p3, p4, f0, f1, f2, f3, f4⟩ := ed5 h5
        obtain ⟨m0, m1, m2, m3, m4, m5⟩ := six (x := ⟨x0, x1, x2, ⟨x3, x4, x5⟩⟩) hx5
        (try simp only [] at p0 p1 p2 p3 p4 m0 m1 m2 m3 m4 m5)
        clear hov hgv hbd h5 hx5
        have HPF := Lib.hid (⟨p3, f3⟩ : _ ∧ _)
        try go_wp2_with fail
        refine hK.out _ _ ⟨p3, m0, m1, m2, m3, m4, m5⟩ (fun hHeld => ?_)
        clear hHeld p0 p1 p2 p3 p4 f0 f1 f2 f3 f4 m0 m1 m2 m3 m4 m5
        clear hK K
        refine nm_ (some 48) ?_
        refine pu_ 10 49 14 2047 ?_
        refine pu_ 11 50 14 4095 ?_
        refine pu_ 12 51 14 8191 ?_
        refine last_ (i := 13) (N := none) (bb 14 16383) rfl rfl (by kernel_rfl) (by decide) (fun K hK => ?_)
        obtain ⟨p3, f3⟩ := HPF.out
        go_simp
        refine hK.out _ _ ?_
        refine done_ (by kernel_rfl) ?_
        refine NoPanic.normal ?_
        go_end0
        obtain ⟨hov, hgv, hbd⟩ := HF.out
        obtain ⟨e1, e2⟩ := ed_ce (blk_below HHw.out hbd) (Ow.below HO1w.out hbd) (Ow.below HO2w.out hbd) (Ow.below HO3w.out hbd) (Ow.below HO4w.out hbd) HNE.out hB hov hgv
        refine ⟨rfl, ?_, below_trans HBw.out (below_trans (below_mono hbd HSZ.out) e2)⟩
        rw [HLx.out, if_neg HNL.out, ← HNLs.out]
        exact e1
    · have HNL : Hid (¬ Nil ⟨x0, x1, x2, ⟨x3, x4, x5⟩⟩) := Lib.hid (fun h => hz h.1)
      rw [decide_eq_false hz] at hs
      clear hz heq
      go_wp2_with fail
      have HKT : Hid (∀ W, Below Wt.heap.size Wt W → (W.cell? ⟨D, 3, none⟩ = some (.slice A3 cx.length c3) ∧ W.cell? ⟨w.heap.size, 0, none⟩ = some (.int .i64 x0) ∧ W.cell? ⟨w.heap.size, 1, none⟩ = some (.int .i64 x1) ∧ W.cell? ⟨w.heap.size, 2, none⟩ = some (.string x2) ∧ W.cell? ⟨w.heap.size, 3, none⟩ = some (.int .i64 x3) ∧ W.cell? ⟨w.heap.size, 4, none⟩ = some (.int .i64 x4) ∧ W.cell? ⟨w.heap.size, 5, none⟩ = some (.int .i64 x5))) := Lib.hid (fun W hb => ⟨pw_cell_below hb p3, pw_cell_below hb m0, pw_cell_below hb m1, pw_cell_below hb m2, pw_cell_below hb m3, pw_cell_below hb m4, pw_cell_below hb m5⟩)
      have HSZ := Lib.hid (show B ≤ Wt.heap.size from Nat.le_trans hBw (Nat.le_of_lt HSX.out))
      clear p0 p1 p2 p3 p4 f0 f1 f2 f3 f4 m0 m1 m2 m3 m4 m5
      refine wp_region_noPanic ?_
      refine start_ (n := 14) (S := (fun w' => w'.cell? ⟨D, 3, none⟩ = some (.slice A3 cx.length c3) ∧ w'.cell? ⟨w.heap.size, 0, none⟩ = some (.int .i64 x0) ∧ w'.cell? ⟨w.heap.size, 1, none⟩ = some (.int .i64 x1) ∧ w'.cell? ⟨w.heap.size, 2, none⟩ = some (.string x2) ∧ w'.cell? ⟨w.heap.size, 3, none⟩ = some (.int .i64 x3) ∧ w'.cell? ⟨w.heap.size, 4, none⟩ = some (.int .i64 x4) ∧ w'.cell? ⟨w.heap.size, 5, none⟩ = some (.int .i64 x5))) (ds := [13]) (bb 14 0) (by kernel_rfl) rfl rfl (HKT.out _ (below_drew (Below.refl _ _))) (fun hHeld => ?_)
      refine pu_ 0 39 14 1 ?_
      refine pu_ 1 40 14 3 ?_
      refine pu_ 2 41 14 7 ?_
      refine pu_ 3 42 14 15 ?_
      refine pu_ 4 43 14 31 ?_
      refine ta_ 5 44 14 63 hHeld ?_
      refine pu_ 6 45 14 127 ?_
      refine ta_ 7 46 14 255 hHeld ?_
      refine one_ (i := 8) (N := some 47) (bb 14 511) rfl rfl (by kernel_rfl) (by decide) (fun K hK => ?_)
      go_simp
      refine hK.out _ _ (HKT.out _ (below_alloc (below_drew (Below.refl _ _)) _)) (fun hHeld => ?_)
      clear hK K
      refine nm_ (some 47) ?_
      refine one_ (i := 9) (N := some 48) (bb 14 1023) rfl rfl (by kernel_rfl) (by decide) (fun K hK => ?_)
      go_simp
      have hbd := below_alloc (below_drew (Below.refl Wt.heap.size Wt)) (Obj.cells #[.int .i64 x0, .int .i64 x1, .string x2, .int .i64 x3, .int .i64 x4, .int .i64 x5] 44 (0, 0))
      have hsd : (Wt.drew).heap.size = Wt.heap.size := rfl
      have hnb := blk_new Wt.drew (Obj.cells #[.int .i64 x0, .int .i64 x1, .string x2, .int .i64 x3, .int .i64 x4, .int .i64 x5] 44 (0, 0))
      have ho2 : OwC (Wt.drew.alloc (Obj.cells #[.int .i64 x0, .int .i64 x1, .string x2, .int .i64 x3, .int .i64 x4, .int .i64 x5] 44 (0, 0))) Wt.heap.size (.slice (some ⟨Wt.heap.size, 0, none⟩) 1 1) [⟨x0, x1, x2, ⟨x3, x4, x5⟩⟩] := ⟨rfl, .inr ⟨Wt.heap.size, 1, #[.int .i64 x0, .int .i64 x1, .string x2, .int .i64 x3, .int .i64 x4, .int .i64 x5], rfl, Nat.le_refl _, hnb, Nat.le_refl _, by decide, rfl, rfl⟩⟩
      have hne2 : (Value.slice A3 cx.length c3).ownBlock ≠ some Wt.heap.size := fun e => by have h1 := HA3.out _ e; have h2 := HSX.out; omega
      have hin := insC_any (i := i) (Ow.below HO3w.out hbd) (Nat.le_trans HSZ.out hbd.size) ho2 hne2 HIX.out (by simp) (by omega) (by simp)
      go_at_call 84
      refine hin.mono ?_
      rintro e w5 ⟨v, rfl, hov, hgv, hvb⟩
      obtain ⟨nl, hnl⟩ : ∃ x, x = cx.take i ++ [⟨x0, x1, x2, ⟨x3, x4, x5⟩⟩] ++ cx.drop i := ⟨_, rfl⟩
      rw [← hnl] at hov
      have HNLs := Lib.hid hnl
      clear hnl
      obtain ⟨Av, cv, rfl⟩ := ow_slice hov
      clear hin hne2 ho2 hnb hsd hvb
      have h5 := blk_grown (blk_below HHw.out hbd) hgv (own_ne (Ow.below HO3w.out hbd) (blk_below HHw.out hbd) (by decide))
      have hx5 := blk_grown (blk_below HXw.out hbd) hgv (fun e => by have h1 := HA3.out _ e.symm; omega)
      have HF := Lib.hid (And.intro hov (And.intro hgv hbd))
      have HX5 := Lib.hid hx5
      have HH5 := Lib.hid h5
      obtain ⟨p0, p1, p2, p3, p4, f0, f1, f2, f3, f4⟩ := ed5 h5
      obtain ⟨m0, m1, m2, m3, m4, m5⟩ := six (x := ⟨x0, x1, x2, ⟨x3, x4, x5⟩⟩) hx5
      (try simp only [] at p0 p1 p2 p3 p4 m0 m1 m2 m3 m4 m5)
      clear hov hgv hbd h5 hx5
      have HPF := Lib.hid (⟨p3, f3⟩ : _ ∧ _)
      try go_wp2_with fail
      refine hK.out _ _ ⟨p3, m0, m1, m2, m3, m4, m5⟩ (fun hHeld => ?_)
      clear hHeld p0 p1 p2 p3 p4 f0 f1 f2 f3 f4 m0 m1 m2 m3 m4 m5
      clear hK K
      refine nm_ (some 48) ?_
      refine pu_ 10 49 14 2047 ?_
      refine pu_ 11 50 14 4095 ?_
      refine pu_ 12 51 14 8191 ?_
      refine last_ (i := 13) (N := none) (bb 14 16383) rfl rfl (by kernel_rfl) (by decide) (fun K hK => ?_)
      obtain ⟨p3, f3⟩ := HPF.out
      go_simp
      refine hK.out _ _ ?_
      refine done_ (by kernel_rfl) ?_
      refine NoPanic.normal ?_
      go_end0
      obtain ⟨hov, hgv, hbd⟩ := HF.out
      obtain ⟨e1, e2⟩ := ed_ce (blk_below HHw.out hbd) (Ow.below HO1w.out hbd) (Ow.below HO2w.out hbd) (Ow.below HO3w.out hbd) (Ow.below HO4w.out hbd) HNE.out hB hov hgv
      refine ⟨rfl, ?_, below_trans HBw.out (below_trans (below_mono hbd HSZ.out) e2)⟩
      rw [HLx.out, if_neg HNL.out, ← HNLs.out]
      exact e1
end Go.Proofs.YtcofacgdijjnoaaGreat
