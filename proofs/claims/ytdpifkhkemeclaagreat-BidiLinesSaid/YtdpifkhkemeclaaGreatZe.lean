/- base.Match and level.Explicit where nothing embeds, overrides or isolates. level.Explicit where nothing embeds, overrides or isolates. seqs.kept over ints: its iterator's contract, for every loop body that keeps what lay below. A region that draws, in a round: the plain walk serves. -/
import Derived.Test.YtdpifkhkemeclaaGreatVMore
import Derived.Test.YtdpifkhkemeclaaGreatZb
import Derived.Test.YtdpifkhkemeclaaGreatZa
import Derived.Test.YtdpifkhkemeclaaGreatZi
import Derived.RegionTactic
import Derived.BigRegion
import Derived.Deep.LoopGhost
import Derived.Deep.RegionLaw
import Derived.Maps.AppendAt
namespace Go.Proofs.YtdpifkhkemeclaaGreat
open Go.RowKit Go.Proofs.YtdpifkhkemeclaaGreatW.PrintWords
set_option linter.unusedVariables false
set_option linter.unusedSimpArgs false

theorem made_take (n : Nat) : (madeCells #[Value.int .i64 0] n).toList.take (n * 1) = nums .i64 (List.replicate n 0) := by
  have e : (fun x : Nat => [Value.int .i64 0][x % 1]?.getD default) = fun _ => Value.int .i64 0 := by funext x; simp [Nat.mod_one]
  simp [madeCells, nums, e, List.map_const']
theorem size71 : (Tryz.prog.info? 71).map (·.size) = some 3 := by kernel_rfl
theorem info3L : (Tryz.prog.info? 3).map (fun i => (i.zero, i.size, i.bytes)) = some (some (.int .i64 0), 1, 8) := by kernel_rfl

set_option maxRecDepth 100000 in
set_option maxHeartbeats 2000000 in
theorem last_any (bx g n c : Nat) (lv ov : Int) (iso : Bool) (w : World) (hn : (n : Int) < 1048576)
    (h2 : w.cell? ⟨bx, 2, none⟩ = some (.slice (some ⟨g, 0, none⟩) (n + 1) c))
    (e0 : w.cell? ⟨g, n * 3, none⟩ = some (.int .i64 lv)) (e1 : w.cell? ⟨g, n * 3 + 1, none⟩ = some (.int .i64 ov)) (e2 : w.cell? ⟨g, n * 3 + 2, none⟩ = some (.bool iso)) :
    Calls Tryz.prog 51 #[.pointer (some ⟨bx, 0, none⟩)] w fun e w' => e = .returned (.agg #[.int .i64 lv, .int .i64 ov, .bool iso]) ∧ Below w.heap.size w w' := by
  have hb := World.block_lt_of_cell? w _ h2
  have hg := World.block_lt_of_cell? w _ e0
  go_enter Tryz.func51, Tryz.ntmps51
  go_wp2
  go_region
  go_wp2
  refine bodyPost_ret (v := .agg #[.int .i64 lv, .int .i64 ov, .bool iso]) ?_ rfl ⟨rfl, ?_⟩
  · rw [results_cell Tryz.results51]
    exact run_loadVar_row _ w.heap.size 71 71 #[.int .i64 lv, .int .i64 ov, .bool iso] (0, 0) _ (heap_alloc_new w _) Tryz.underlying71 rfl size71
  · exact pw_below_drewN (n := 1) ((Below.refl _ _).alloc (Nat.le_refl _) _)

theorem opens_any (c : Int) (hc : c < 14) (w : World) : Calls Tryz.prog 94 #[.int .i64 c] w fun e w' => e = .returned (.bool false) ∧ w' = w := by
  have b1 : (c == 19) = false := by simp; omega
  have b2 : (c == 20) = false := by simp; omega
  have b3 : (c == 21) = false := by simp; omega
  clear hc
  go_enter Tryz.func94, Tryz.ntmps94
  go_wp2
  go_ret
  exact ⟨rfl, rfl⟩

set_option maxRecDepth 100000 in
set_option maxHeartbeats 2000000 in
theorem match_any (A0 : Option Addr) (c0 : Nat) (l : List Int) (w : World) (hr0 : Kd.C (Kd.int .i64) w A0 l.length l) (hl : l.length ≤ 1048576) (hp : ∀ c ∈ l, c < 14) :
    Calls Tryz.prog 50 #[.slice A0 l.length c0] w fun e w' => ∃ v R, e = .returned v ∧ w'.ownsRow w.heap.size 3 1 v l.length (nums .i64 R) ∧ (∀ j, j < l.length → R.getD j 0 = -1) ∧ Below w.heap.size w w' := by
  have hmk := fun W : World => run_make_row' (P := Tryz.prog) 25 3 (.int .i64 0) 8 Tryz.underlying25 info3L rfl .i64 .i64 l.length (by omega) (by omega) W
  have HC := Lib.hid hr0
  have HP := Lib.hid hp
  have Hl := Lib.hid hl
  clear hr0 hp hl
  go_enter Tryz.func50, Tryz.ntmps50
  go_wp2
  have HW0 : Hid ((w.alloc (.cells (madeCells #[.int .i64 0] l.length) 3)).ownsRow w.heap.size 3 1 (.slice (some ⟨w.heap.size, 0, none⟩) l.length l.length) l.length (nums .i64 (List.replicate l.length 0)) ∧ Below w.heap.size w (w.alloc (.cells (madeCells #[.int .i64 0] l.length) 3))) := Lib.hid ⟨by
    refine ⟨by simp [nums], .inr ⟨w.heap.size, l.length, _, rfl, Nat.le_refl _, heap_alloc_new _ _, Nat.le_refl _, by have := Hl.out; unfold maxLen; omega, by simp [madeCells], ?_⟩⟩
    exact made_take l.length, (Below.refl _ _).alloc (Nat.le_refl _) _⟩
  go_loopg [13] (l.length + 1) (fun gk v13 wr => ∃ (i : Nat) (R : List Int), i ≤ l.length ∧ gk = l.length + 1 - i ∧ v13 = .int .i64 i ∧ R.length = l.length ∧ Hid (∀ j, j < i → R.getD j 0 = -1) ∧ Hid (wr.ownsRow w.heap.size 3 1 (.slice (some ⟨w.heap.size, 0, none⟩) l.length l.length) l.length (nums .i64 R) ∧ Below w.heap.size w wr))
  case atStart => exact ⟨0, List.replicate l.length 0, Nat.zero_le _, rfl, rfl, by simp, Lib.hid (fun j hj => by omega), HW0⟩
  case round =>
    obtain ⟨i, R, hi, hgk, rfl, hRl, HJ, HS⟩ := hrel
    have Hg := Lib.hid hgk
    have HRl := Lib.hid hRl
    clear hgk HW0 hmk hRl
    by_cases hlt : i < l.length
    · have hlt' : (i : Int) < (l.length : Int) := by omega
      have hib : (i : Int) < 1048576 := by have := Hl.out; omega
      obtain ⟨ad, e, hc⟩ := Kd.at_int HC.out (i : Int) (by omega) (by omega)
      cases e
      have hc' : w.cell? (ad.add i) = some (.int .i64 (l.getD i 0)) := by simpa [rd] using hc
      have hblk := World.block_lt_of_cell? w _ hc'
      obtain ⟨c, hcc⟩ : ∃ c, c = l.getD i 0 := ⟨_, rfl⟩
      have hc14 : c < 14 := HP.out c (by rw [hcc, List.getD_eq_getElem?_getD, List.getElem?_eq_getElem hlt]; exact List.getElem_mem hlt)
      have hcx : wr.cell? (ad.add i) = some (.int .i64 c) := by rw [HS.out.2.cell hblk, hcc]; exact hc'
      have hb22 : (c == 22) = false := by simp; omega
      have hob := HS.out.1.cells (g := w.heap.size) rfl i (.int .i64 (R.getD i 0)) (by simp [nums, HRl.out, hlt])
      rw [add_plain] at hob
      have hof : wr.frozen? ⟨w.heap.size, i, none⟩ = false := by
        rcases HS.out.1.2 with ⟨hv, _⟩ | ⟨g', cap', cur, hv, _, hg', _⟩
        · cases hv
        · injection hv with e1 _ _
          injection e1 with e1
          injection e1 with e1
          subst e1
          exact frozen_of_row _ _ _ _ _ hg'
      have HOp := Lib.hid (opens_any c hc14)
      have hS2 : (wr.setCell ⟨w.heap.size, i, none⟩ (.int .i64 (-1))).ownsRow w.heap.size 3 1 (.slice (some ⟨w.heap.size, 0, none⟩) l.length l.length) l.length (nums .i64 (R.set i (-1))) := by
        rw [← nums_set]; exact own_setW HS.out.1 i _
      have hB2 : Below w.heap.size w (wr.setCell ⟨w.heap.size, i, none⟩ (.int .i64 (-1))) := HS.out.2.setCell (p := ⟨w.heap.size, i, none⟩) (Nat.le_refl _) _
      have HS2 := Lib.hid (And.intro hS2 hB2)
      have HJ2 : Hid (∀ j, j < i + 1 → (R.set i (-1)).getD j 0 = -1) := Lib.hid (fun j hj => by
        have hRl := HRl.out
        rw [List.getD_eq_getElem?_getD, List.getElem?_set]
        by_cases e : i = j
        · subst e; simp [hRl, hlt]
        · rw [if_neg e, ← List.getD_eq_getElem?_getD]; exact HJ.out j (by omega))
      clear hc hc' hblk hcc hc14 hS2 hB2
      go_wp2_with (go_at_call 94; with_reducible refine (HOp.out _).mono ?_; rintro e w' ⟨rfl, hw⟩; obtain rfl := hw.symm; clear hw)
      go_roundg (l.length + 1 - (i + 1))
      case measure => have := Hg.out; omega
      case rel => exact ⟨i + 1, R.set i (-1), by omega, rfl, by go_num, by rw [List.length_set]; exact HRl.out, HJ2, HS2⟩
    · have hlt' : ¬ (i : Int) < (l.length : Int) := by omega
      go_wp2
      go_ret
      exact ⟨_, rfl, R, HS.out.1, fun j hj => HJ.out j (by omega), HS.out.2⟩
end Go.Proofs.YtdpifkhkemeclaaGreat
namespace Go.Proofs.YtdpifkhkemeclaaGreat
open Go.RowKit Go.Proofs.YtdpifkhkemeclaaGreatW.PrintWords
set_option linter.unusedVariables false
set_option linter.unusedSimpArgs false

/-- The level of a class that is none of an embedding's. -/
def lvP (para c : Int) : Int := if c = 9 then -1 else para
structure EX (w : World) (para : Int) (bx g : Nat) (v4 v5 : Value) (L1 L2 : List Int) (W : World) : Prop where
 bel : Below w.heap.size w W
 box : W.heap[bx]? = some (.cells #[.int .i64 0, .int .i64 0, .slice (some ⟨g, 0, none⟩) 1 1, .int .i64 0] 76 (0, 0))
 ent : W.heap[g]? = some (.cells #[.int .i64 para, .int .i64 (-1), .bool false] 71 (0, 0))
 r4 : Kd.R (Kd.int .i64) 3 W w.heap.size (fun k => True ∧ some k ≠ v5.ownBlock) v4 L1
 r5 : Kd.R (Kd.int .i64) 3 W w.heap.size (fun k => True ∧ some k ≠ v4.ownBlock) v5 L2
section
variable {w W W1 : World} {para x : Int} {bx g : Nat} {v4 v5 v' : Value} {L1 L2 : List Int}
theorem EX.below (h : EX w para bx g v4 v5 L1 L2 W) (hb : Below W.heap.size W W1) : EX w para bx g v4 v5 L1 L2 W1 :=
 ⟨below_step h.bel hb, (hb.block _ (lt_of_block h.box)).trans h.box, (hb.block _ (lt_of_block h.ent)).trans h.ent, Kd.R_below h.r4 hb, Kd.R_below h.r5 hb⟩
theorem EX.app4 (h : EX w para bx g v4 v5 L1 L2 W) (ho : Kd.R (Kd.int .i64) 3 W1 w.heap.size (fun k => True ∧ some k ≠ v5.ownBlock) v' (L1 ++ [x])) (hb : Below w.heap.size w W1) (hg : W.grownBy W1 v4.ownBlock) (hat : v'.ownBlock = v4.ownBlock ∨ ∃ b, v'.ownBlock = some b ∧ W.heap.size ≤ b) : EX w para bx g v' v5 (L1 ++ [x]) L2 W1 :=
 ⟨hb, blk_grown h.box hg (Kd.R_ne h.r4 h.box (by decide)), blk_grown h.ent hg (Kd.R_ne h.r4 h.ent (by decide)), ho, Kd.R_after h.r5 hg hat⟩
theorem EX.app5 (h : EX w para bx g v4 v5 L1 L2 W) (ho : Kd.R (Kd.int .i64) 3 W1 w.heap.size (fun k => True ∧ some k ≠ v4.ownBlock) v' (L2 ++ [x])) (hb : Below w.heap.size w W1) (hg : W.grownBy W1 v5.ownBlock) (hat : v'.ownBlock = v5.ownBlock ∨ ∃ b, v'.ownBlock = some b ∧ W.heap.size ≤ b) : EX w para bx g v4 v' L1 (L2 ++ [x]) W1 :=
 ⟨hb, blk_grown h.box hg (Kd.R_ne h.r5 h.box (by decide)), blk_grown h.ent hg (Kd.R_ne h.r5 h.ent (by decide)), Kd.R_after h.r4 hg hat, ho⟩
theorem EX.last (h : EX w para bx g v4 v5 L1 L2 W) : Calls Tryz.prog 51 #[.pointer (some ⟨bx, 0, none⟩)] W fun e w' => e = .returned (.agg #[.int .i64 para, .int .i64 (-1), .bool false]) ∧ EX w para bx g v4 v5 L1 L2 w' := by
 refine (last_any bx g 0 1 para (-1) false W (by decide) ?_ ?_ ?_ ?_).mono ?_
 ·rw [blk_cell h.box]; rfl
 ·rw [blk_cell h.ent]; rfl
 ·rw [blk_cell h.ent]; rfl
 ·rw [blk_cell h.ent]; rfl
 ·rintro e w' ⟨rfl, hb⟩
  exact ⟨rfl, h.below hb⟩
end
theorem take1 (l : List Int) (i : Nat) (h : i < l.length) : l.take (i + 1) = l.take i ++ [l.getD i 0] := by
 rw [List.take_succ_eq_append_getElem h, List.getD_eq_getElem?_getD, List.getElem?_eq_getElem h]
 rfl
theorem fld71_0 (a b : Int) (c : Bool) (W : World) : (Instr.field 71 (.agg #[.int .i64 a, .int .i64 b, .bool c]) 0).run Tryz.prog W = .ok (.int .i64 a) W := by kernel_rfl
theorem fld71_1 (a b : Int) (c : Bool) (W : World) : (Instr.field 71 (.agg #[.int .i64 a, .int .i64 b, .bool c]) 1).run Tryz.prog W = .ok (.int .i64 b) W := by kernel_rfl
theorem removed_any (c : Int) (hc : c < 14) (w : World) : Calls Tryz.prog 58 #[.int .i64 c] w fun e w' => e = .returned (.bool (c == 9)) ∧ w' = w := by
 have b1 : (c == 16) = false := by simp; omega
 have b2 : (c == 14) = false := by simp; omega
 have b3 : (c == 17) = false := by simp; omega
 have b4 : (c == 15) = false := by simp; omega
 have b5 : (c == 18) = false := by simp; omega
 clear hc
 by_cases h9 : c = 9
 ·subst h9
  clear b1 b2 b3 b4 b5
  go_enter Tryz.func58, Tryz.ntmps58
  go_wp2
  go_ret
  exact ⟨rfl, rfl⟩
 ·have b6 : (c == 9) = false := by simpa using h9
  rw [b6]
  clear h9
  go_enter Tryz.func58, Tryz.ntmps58
  go_wp2
  go_ret
  exact ⟨rfl, rfl⟩

set_option maxRecDepth 100000 in
set_option maxHeartbeats 2000000 in
theorem EX.seen {w W : World} {para : Int} {bx g : Nat} {v4 v5 : Value} {L1 L2 : List Int} (h : EX w para bx g v4 v5 L1 L2 W) (c : Int) : Calls Tryz.prog 55 #[.pointer (some ⟨bx, 0, none⟩), .int .i64 c] W fun e w' => e = .returned (.int .i64 c) ∧ EX w para bx g v4 v5 L1 L2 w' := by
 have HE := Lib.hid h
 have hf1 := fld71_1
 clear h
 go_enter Tryz.func55, Tryz.ntmps55
 go_wp2_with (go_at_call 51; with_reducible refine HE.out.last.mono ?_; rintro e W2 ⟨rfl, hE2⟩; have HE := Lib.hid hE2; clear hE2)
 go_ret
 exact ⟨rfl, HE.out⟩

set_option maxRecDepth 100000 in
set_option maxHeartbeats 8000000 in
theorem explicit_any (A0 : Option Addr) (c0 : Nat) (l : List Int) (para : Int) (w : World) (hr0 : Kd.C (Kd.int .i64) w A0 l.length l) (hl : l.length ≤ 1048576) (hp : ∀ c ∈ l, c < 14) (hpa : para = 0 ∨ para = 1) :
  Calls Tryz.prog 27 #[.slice A0 l.length c0, .int .i64 para] w fun e w' => ∃ v1 v2, e = .returned (.tuple #[v1, v2]) ∧ Kd.R (Kd.int .i64) 3 w' w.heap.size (fun k => True ∧ some k ≠ v2.ownBlock) v1 (l.map (lvP para)) ∧ Kd.R (Kd.int .i64) 3 w' w.heap.size (fun k => True ∧ some k ≠ v1.ownBlock) v2 l ∧ Below w.heap.size w w' := by
 have HC := Lib.hid hr0
 have HP := Lib.hid hp
 have Hl := Lib.hid hl
 have HM : ∀ W, Below w.heap.size w W → Hid (Calls Tryz.prog 50 #[.slice A0 l.length c0] W fun e w' => ∃ v R, e = .returned v ∧ w'.ownsRow W.heap.size 3 1 v l.length (nums .i64 R) ∧ (∀ j, j < l.length → R.getD j 0 = -1) ∧ Below W.heap.size W w') := fun W hb => Lib.hid (match_any A0 c0 l W (Kd.C_below HC.out hb) Hl.out HP.out)
 clear hr0 hp hl
 rcases hpa with rfl | rfl
 ·have hf0 := fld71_0
  have hf1 := fld71_1
  go_enter Tryz.func27, Tryz.ntmps27
  go_wp2_with (go_at_call 50; with_reducible refine (HM _ (((Below.refl _ w).alloc (Nat.le_refl _) (.cells #[.int .i64 0, .int .i64 (-1), .bool false] 71)).alloc (by simp) (.cells #[.int .i64 0, .int .i64 0, .slice (some ⟨w.heap.size, 0, none⟩) 1 1, .int .i64 0] 76))).out.mono ?_; rintro e w1 ⟨v7, R7, rfl, hR7, hJ7, hb7⟩; have HB7 := Lib.hid hb7; clear hR7 hJ7 hb7)
  have HE0 : Hid (EX w 0 (w.heap.size + 1) w.heap.size (.slice none 0 0) (.slice none 0 0) [] [] w1) := Lib.hid (EX.below ⟨((Below.refl _ w).alloc (Nat.le_refl _) (.cells #[.int .i64 0, .int .i64 (-1), .bool false] 71)).alloc (by simp) (.cells #[.int .i64 0, .int .i64 0, .slice (some ⟨w.heap.size, 0, none⟩) 1 1, .int .i64 0] 76), by have := heap_alloc_new (w.alloc (.cells #[.int .i64 0, .int .i64 (-1), .bool false] 71)) (.cells #[.int .i64 0, .int .i64 0, .slice (some ⟨w.heap.size, 0, none⟩) 1 1, .int .i64 0] 76); simpa using this, by rw [heap_alloc_old _ _ (by simp)]; exact heap_alloc_new _ _, Kd.R_nil _ _ _ _ _, Kd.R_nil _ _ _ _ _⟩ HB7.out)
  obtain ⟨bx, hbx⟩ : ∃ bx, bx = w.heap.size + 1 := ⟨_, rfl⟩
  obtain ⟨g, hg0⟩ : ∃ g, g = w.heap.size := ⟨_, rfl⟩
  rw [← hbx] at HE0 ⊢
  have HE00 : Hid (EX w 0 bx g (.slice none 0 0) (.slice none 0 0) [] [] w1) := by rw [hg0]; exact HE0
  clear hbx HB7 HM HE0 hg0
  go_loopg [4, 5, 29] (l.length + 1) (fun gk v4 v5 v29 wr => ∃ (i : Nat), i ≤ l.length ∧ gk = l.length + 1 - i ∧ v29 = .int .i64 i ∧ Hid (EX w 0 bx g v4 v5 ((l.take i).map (lvP 0)) (l.take i) wr))
  case atStart => exact ⟨0, Nat.zero_le _, rfl, rfl, HE00⟩
  case round =>
   obtain ⟨i, hi, hgk, rfl, HE⟩ := hrel
   have Hg := Lib.hid hgk
   clear hgk HE00
   by_cases hltN : i < l.length
   ·have hlt' : (i : Int) < (l.length : Int) := by omega
    have hib : (i : Int) < 1048576 := by have := Hl.out; omega
    obtain ⟨ad, e, hc⟩ := Kd.at_int HC.out (i : Int) (by omega) (by omega)
    cases e
    have hc' : w.cell? (ad.add i) = some (.int .i64 (l.getD i 0)) := by simpa [rd] using hc
    have hblk := World.block_lt_of_cell? w _ hc'
    obtain ⟨c, hcc⟩ : ∃ c, c = l.getD i 0 := ⟨_, rfl⟩
    have hc14 : c < 14 := HP.out c (by rw [hcc, List.getD_eq_getElem?_getD, List.getElem?_eq_getElem hltN]; exact List.getElem_mem hltN)
    have hcx : wr.cell? (ad.add i) = some (.int .i64 c) := by rw [HE.out.bel.cell hblk, hcc]; exact hc'
    have HRm := Lib.hid (removed_any c hc14)
    have Hc := Lib.hid hcc
    have d16 : (c == 16) = false := by simp; omega
    have d14 : (c == 14) = false := by simp; omega
    have d17 : (c == 17) = false := by simp; omega
    have d15 : (c == 15) = false := by simp; omega
    have d18 : (c == 18) = false := by simp; omega
    have d22 : (c == 22) = false := by simp; omega
    have d20 : (c == 20) = false := by simp; omega
    have d19 : (c == 19) = false := by simp; omega
    have d21 : (c == 21) = false := by simp; omega
    clear hc hc' hblk hcc hc14
    by_cases h9 : c = 9
    ·subst h9
     clear d16 d14 d17 d15 d18 d22 d20 d19 d21
     go_wp2_with (first | (go_at_call 55; with_reducible refine (HE.out.seen _).mono ?_; rintro e W2 ⟨rfl, hE2⟩; have HE := Lib.hid hE2; clear hE2) | (go_at_call 51; with_reducible refine HE.out.last.mono ?_; rintro e W2 ⟨rfl, hE2⟩; have HE := Lib.hid hE2; clear hE2) | (go_at_call 58; with_reducible refine (HRm.out _).mono ?_; rintro e w' ⟨rfl, hw⟩; obtain rfl := hw.symm; clear hw) | ((with_reducible refine gate_builtin (b := .append) (xs := #[.tmp 105, .tmp 107]) rfl ?_); at_builtin; refine Kd.R_append (Kd.int .i64) (w0 := w) w.heap.size rfl (.tmp 105) (.tmp 107) 25 3 (.int .i64 0) 8 rfl Tryz.underlying25 info3L rfl (by decide) (by omega) _ ((l.take i).map (lvP 0)) (-1) [.int .i64 (-1)] _ (fun _ => False) rfl rfl rfl (fun _ h => h.elim) (fun k hk => ⟨trivial, Kd.fresh' (Kd.R_lt HE.out.r5) k hk⟩) HE.out.r4 HE.out.bel HE.out.bel.size (by simp only [List.length_map, List.length_take]; have := Hl.out; omega) ?_; intro v_4 w_ ho hb hg hat; have HE := Lib.hid (HE.out.app4 ho hb hg hat); clear ho hb hg hat) | ((with_reducible refine gate_builtin (b := .append) (xs := #[.tmp 109, .tmp 111]) rfl ?_); at_builtin; refine Kd.R_append (Kd.int .i64) (w0 := w) w.heap.size rfl (.tmp 109) (.tmp 111) 25 3 (.int .i64 0) 8 rfl Tryz.underlying25 info3L rfl (by decide) (by omega) _ (l.take i) (9) [.int .i64 (9)] _ (fun _ => False) rfl rfl rfl (fun _ h => h.elim) (fun k hk => ⟨trivial, Kd.fresh' (Kd.R_lt HE.out.r4) k hk⟩) HE.out.r5 HE.out.bel HE.out.bel.size (by simp only [List.length_map, List.length_take]; have := Hl.out; omega) ?_; intro v_5 w_ ho hb hg hat; have HE := Lib.hid (HE.out.app5 ho hb hg hat); clear ho hb hg hat))
     go_roundg (l.length + 1 - (i + 1))
     case measure => have := Hg.out; omega
     case rel => exact ⟨i + 1, by omega, rfl, by go_num, by rw [take1 l i hltN, ← Hc.out, List.map_append]; simp only [List.map_cons, List.map_nil, show lvP 0 9 = -1 from rfl]; exact HE⟩
    ·have b9 : (c == 9) = false := by simpa using h9
     by_cases h10 : c = 10
     ·subst h10
      clear d16 d14 d17 d15 d18 d22 d20 d19 d21 b9
      go_wp2_with (first | (go_at_call 55; with_reducible refine (HE.out.seen _).mono ?_; rintro e W2 ⟨rfl, hE2⟩; have HE := Lib.hid hE2; clear hE2) | (go_at_call 51; with_reducible refine HE.out.last.mono ?_; rintro e W2 ⟨rfl, hE2⟩; have HE := Lib.hid hE2; clear hE2) | (go_at_call 58; with_reducible refine (HRm.out _).mono ?_; rintro e w' ⟨rfl, hw⟩; obtain rfl := hw.symm; clear hw) | ((with_reducible refine gate_builtin (b := .append) (xs := #[.tmp 105, .tmp 107]) rfl ?_); at_builtin; refine Kd.R_append (Kd.int .i64) (w0 := w) w.heap.size rfl (.tmp 105) (.tmp 107) 25 3 (.int .i64 0) 8 rfl Tryz.underlying25 info3L rfl (by decide) (by omega) _ ((l.take i).map (lvP 0)) (0) [.int .i64 (0)] _ (fun _ => False) rfl rfl rfl (fun _ h => h.elim) (fun k hk => ⟨trivial, Kd.fresh' (Kd.R_lt HE.out.r5) k hk⟩) HE.out.r4 HE.out.bel HE.out.bel.size (by simp only [List.length_map, List.length_take]; have := Hl.out; omega) ?_; intro v_4 w_ ho hb hg hat; have HE := Lib.hid (HE.out.app4 ho hb hg hat); clear ho hb hg hat) | ((with_reducible refine gate_builtin (b := .append) (xs := #[.tmp 109, .tmp 111]) rfl ?_); at_builtin; refine Kd.R_append (Kd.int .i64) (w0 := w) w.heap.size rfl (.tmp 109) (.tmp 111) 25 3 (.int .i64 0) 8 rfl Tryz.underlying25 info3L rfl (by decide) (by omega) _ (l.take i) (10) [.int .i64 (10)] _ (fun _ => False) rfl rfl rfl (fun _ h => h.elim) (fun k hk => ⟨trivial, Kd.fresh' (Kd.R_lt HE.out.r4) k hk⟩) HE.out.r5 HE.out.bel HE.out.bel.size (by simp only [List.length_map, List.length_take]; have := Hl.out; omega) ?_; intro v_5 w_ ho hb hg hat; have HE := Lib.hid (HE.out.app5 ho hb hg hat); clear ho hb hg hat))
      go_roundg (l.length + 1 - (i + 1))
      case measure => have := Hg.out; omega
      case rel => exact ⟨i + 1, by omega, rfl, by go_num, by rw [take1 l i hltN, ← Hc.out, List.map_append]; simp only [List.map_cons, List.map_nil, show lvP 0 10 = 0 from rfl]; exact HE⟩
     ·have b10 : (c == 10) = false := by simpa using h10
      have HLv : lvP 0 c = 0 := by unfold lvP; rw [if_neg h9]
      clear h9 h10
      go_wp2_with (first | (go_at_call 55; with_reducible refine (HE.out.seen _).mono ?_; rintro e W2 ⟨rfl, hE2⟩; have HE := Lib.hid hE2; clear hE2) | (go_at_call 51; with_reducible refine HE.out.last.mono ?_; rintro e W2 ⟨rfl, hE2⟩; have HE := Lib.hid hE2; clear hE2) | (go_at_call 58; with_reducible refine (HRm.out _).mono ?_; rintro e w' ⟨rfl, hw⟩; obtain rfl := hw.symm; clear hw) | ((with_reducible refine gate_builtin (b := .append) (xs := #[.tmp 105, .tmp 107]) rfl ?_); at_builtin; refine Kd.R_append (Kd.int .i64) (w0 := w) w.heap.size rfl (.tmp 105) (.tmp 107) 25 3 (.int .i64 0) 8 rfl Tryz.underlying25 info3L rfl (by decide) (by omega) _ ((l.take i).map (lvP 0)) (0) [.int .i64 (0)] _ (fun _ => False) rfl rfl rfl (fun _ h => h.elim) (fun k hk => ⟨trivial, Kd.fresh' (Kd.R_lt HE.out.r5) k hk⟩) HE.out.r4 HE.out.bel HE.out.bel.size (by simp only [List.length_map, List.length_take]; have := Hl.out; omega) ?_; intro v_4 w_ ho hb hg hat; have HE := Lib.hid (HE.out.app4 ho hb hg hat); clear ho hb hg hat) | ((with_reducible refine gate_builtin (b := .append) (xs := #[.tmp 109, .tmp 111]) rfl ?_); at_builtin; refine Kd.R_append (Kd.int .i64) (w0 := w) w.heap.size rfl (.tmp 109) (.tmp 111) 25 3 (.int .i64 0) 8 rfl Tryz.underlying25 info3L rfl (by decide) (by omega) _ (l.take i) (c) [.int .i64 (c)] _ (fun _ => False) rfl rfl rfl (fun _ h => h.elim) (fun k hk => ⟨trivial, Kd.fresh' (Kd.R_lt HE.out.r4) k hk⟩) HE.out.r5 HE.out.bel HE.out.bel.size (by simp only [List.length_map, List.length_take]; have := Hl.out; omega) ?_; intro v_5 w_ ho hb hg hat; have HE := Lib.hid (HE.out.app5 ho hb hg hat); clear ho hb hg hat))
      go_roundg (l.length + 1 - (i + 1))
      case measure => have := Hg.out; omega
      case rel => exact ⟨i + 1, by omega, rfl, by go_num, by rw [take1 l i hltN, ← Hc.out, List.map_append]; simp only [List.map_cons, List.map_nil, HLv]; exact HE⟩
   ·have hlt' : ¬ (i : Int) < (l.length : Int) := by omega
    go_wp2
    go_ret2
    have he := HE.out
    rw [List.take_of_length_le (by omega)] at he
    exact ⟨_, _, rfl, Kd.R_mono he.r4 (fun k hk => hk.2), Kd.R_mono he.r5 (fun k hk => hk.2), he.bel⟩
 ·have hf0 := fld71_0
  have hf1 := fld71_1
  go_enter Tryz.func27, Tryz.ntmps27
  go_wp2_with (go_at_call 50; with_reducible refine (HM _ (((Below.refl _ w).alloc (Nat.le_refl _) (.cells #[.int .i64 1, .int .i64 (-1), .bool false] 71)).alloc (by simp) (.cells #[.int .i64 0, .int .i64 0, .slice (some ⟨w.heap.size, 0, none⟩) 1 1, .int .i64 0] 76))).out.mono ?_; rintro e w1 ⟨v7, R7, rfl, hR7, hJ7, hb7⟩; have HB7 := Lib.hid hb7; clear hR7 hJ7 hb7)
  have HE0 : Hid (EX w 1 (w.heap.size + 1) w.heap.size (.slice none 0 0) (.slice none 0 0) [] [] w1) := Lib.hid (EX.below ⟨((Below.refl _ w).alloc (Nat.le_refl _) (.cells #[.int .i64 1, .int .i64 (-1), .bool false] 71)).alloc (by simp) (.cells #[.int .i64 0, .int .i64 0, .slice (some ⟨w.heap.size, 0, none⟩) 1 1, .int .i64 0] 76), by have := heap_alloc_new (w.alloc (.cells #[.int .i64 1, .int .i64 (-1), .bool false] 71)) (.cells #[.int .i64 0, .int .i64 0, .slice (some ⟨w.heap.size, 0, none⟩) 1 1, .int .i64 0] 76); simpa using this, by rw [heap_alloc_old _ _ (by simp)]; exact heap_alloc_new _ _, Kd.R_nil _ _ _ _ _, Kd.R_nil _ _ _ _ _⟩ HB7.out)
  obtain ⟨bx, hbx⟩ : ∃ bx, bx = w.heap.size + 1 := ⟨_, rfl⟩
  obtain ⟨g, hg0⟩ : ∃ g, g = w.heap.size := ⟨_, rfl⟩
  rw [← hbx] at HE0 ⊢
  have HE00 : Hid (EX w 1 bx g (.slice none 0 0) (.slice none 0 0) [] [] w1) := by rw [hg0]; exact HE0
  clear hbx HB7 HM HE0 hg0
  go_loopg [4, 5, 29] (l.length + 1) (fun gk v4 v5 v29 wr => ∃ (i : Nat), i ≤ l.length ∧ gk = l.length + 1 - i ∧ v29 = .int .i64 i ∧ Hid (EX w 1 bx g v4 v5 ((l.take i).map (lvP 1)) (l.take i) wr))
  case atStart => exact ⟨0, Nat.zero_le _, rfl, rfl, HE00⟩
  case round =>
   obtain ⟨i, hi, hgk, rfl, HE⟩ := hrel
   have Hg := Lib.hid hgk
   clear hgk HE00
   by_cases hltN : i < l.length
   ·have hlt' : (i : Int) < (l.length : Int) := by omega
    have hib : (i : Int) < 1048576 := by have := Hl.out; omega
    obtain ⟨ad, e, hc⟩ := Kd.at_int HC.out (i : Int) (by omega) (by omega)
    cases e
    have hc' : w.cell? (ad.add i) = some (.int .i64 (l.getD i 0)) := by simpa [rd] using hc
    have hblk := World.block_lt_of_cell? w _ hc'
    obtain ⟨c, hcc⟩ : ∃ c, c = l.getD i 0 := ⟨_, rfl⟩
    have hc14 : c < 14 := HP.out c (by rw [hcc, List.getD_eq_getElem?_getD, List.getElem?_eq_getElem hltN]; exact List.getElem_mem hltN)
    have hcx : wr.cell? (ad.add i) = some (.int .i64 c) := by rw [HE.out.bel.cell hblk, hcc]; exact hc'
    have HRm := Lib.hid (removed_any c hc14)
    have Hc := Lib.hid hcc
    have d16 : (c == 16) = false := by simp; omega
    have d14 : (c == 14) = false := by simp; omega
    have d17 : (c == 17) = false := by simp; omega
    have d15 : (c == 15) = false := by simp; omega
    have d18 : (c == 18) = false := by simp; omega
    have d22 : (c == 22) = false := by simp; omega
    have d20 : (c == 20) = false := by simp; omega
    have d19 : (c == 19) = false := by simp; omega
    have d21 : (c == 21) = false := by simp; omega
    clear hc hc' hblk hcc hc14
    by_cases h9 : c = 9
    ·subst h9
     clear d16 d14 d17 d15 d18 d22 d20 d19 d21
     go_wp2_with (first | (go_at_call 55; with_reducible refine (HE.out.seen _).mono ?_; rintro e W2 ⟨rfl, hE2⟩; have HE := Lib.hid hE2; clear hE2) | (go_at_call 51; with_reducible refine HE.out.last.mono ?_; rintro e W2 ⟨rfl, hE2⟩; have HE := Lib.hid hE2; clear hE2) | (go_at_call 58; with_reducible refine (HRm.out _).mono ?_; rintro e w' ⟨rfl, hw⟩; obtain rfl := hw.symm; clear hw) | ((with_reducible refine gate_builtin (b := .append) (xs := #[.tmp 105, .tmp 107]) rfl ?_); at_builtin; refine Kd.R_append (Kd.int .i64) (w0 := w) w.heap.size rfl (.tmp 105) (.tmp 107) 25 3 (.int .i64 0) 8 rfl Tryz.underlying25 info3L rfl (by decide) (by omega) _ ((l.take i).map (lvP 1)) (-1) [.int .i64 (-1)] _ (fun _ => False) rfl rfl rfl (fun _ h => h.elim) (fun k hk => ⟨trivial, Kd.fresh' (Kd.R_lt HE.out.r5) k hk⟩) HE.out.r4 HE.out.bel HE.out.bel.size (by simp only [List.length_map, List.length_take]; have := Hl.out; omega) ?_; intro v_4 w_ ho hb hg hat; have HE := Lib.hid (HE.out.app4 ho hb hg hat); clear ho hb hg hat) | ((with_reducible refine gate_builtin (b := .append) (xs := #[.tmp 109, .tmp 111]) rfl ?_); at_builtin; refine Kd.R_append (Kd.int .i64) (w0 := w) w.heap.size rfl (.tmp 109) (.tmp 111) 25 3 (.int .i64 0) 8 rfl Tryz.underlying25 info3L rfl (by decide) (by omega) _ (l.take i) (9) [.int .i64 (9)] _ (fun _ => False) rfl rfl rfl (fun _ h => h.elim) (fun k hk => ⟨trivial, Kd.fresh' (Kd.R_lt HE.out.r4) k hk⟩) HE.out.r5 HE.out.bel HE.out.bel.size (by simp only [List.length_map, List.length_take]; have := Hl.out; omega) ?_; intro v_5 w_ ho hb hg hat; have HE := Lib.hid (HE.out.app5 ho hb hg hat); clear ho hb hg hat))
     go_roundg (l.length + 1 - (i + 1))
     case measure => have := Hg.out; omega
     case rel => exact ⟨i + 1, by omega, rfl, by go_num, by rw [take1 l i hltN, ← Hc.out, List.map_append]; simp only [List.map_cons, List.map_nil, show lvP 1 9 = -1 from rfl]; exact HE⟩
    ·have b9 : (c == 9) = false := by simpa using h9
     by_cases h10 : c = 10
     ·subst h10
      clear d16 d14 d17 d15 d18 d22 d20 d19 d21 b9
      go_wp2_with (first | (go_at_call 55; with_reducible refine (HE.out.seen _).mono ?_; rintro e W2 ⟨rfl, hE2⟩; have HE := Lib.hid hE2; clear hE2) | (go_at_call 51; with_reducible refine HE.out.last.mono ?_; rintro e W2 ⟨rfl, hE2⟩; have HE := Lib.hid hE2; clear hE2) | (go_at_call 58; with_reducible refine (HRm.out _).mono ?_; rintro e w' ⟨rfl, hw⟩; obtain rfl := hw.symm; clear hw) | ((with_reducible refine gate_builtin (b := .append) (xs := #[.tmp 105, .tmp 107]) rfl ?_); at_builtin; refine Kd.R_append (Kd.int .i64) (w0 := w) w.heap.size rfl (.tmp 105) (.tmp 107) 25 3 (.int .i64 0) 8 rfl Tryz.underlying25 info3L rfl (by decide) (by omega) _ ((l.take i).map (lvP 1)) (1) [.int .i64 (1)] _ (fun _ => False) rfl rfl rfl (fun _ h => h.elim) (fun k hk => ⟨trivial, Kd.fresh' (Kd.R_lt HE.out.r5) k hk⟩) HE.out.r4 HE.out.bel HE.out.bel.size (by simp only [List.length_map, List.length_take]; have := Hl.out; omega) ?_; intro v_4 w_ ho hb hg hat; have HE := Lib.hid (HE.out.app4 ho hb hg hat); clear ho hb hg hat) | ((with_reducible refine gate_builtin (b := .append) (xs := #[.tmp 109, .tmp 111]) rfl ?_); at_builtin; refine Kd.R_append (Kd.int .i64) (w0 := w) w.heap.size rfl (.tmp 109) (.tmp 111) 25 3 (.int .i64 0) 8 rfl Tryz.underlying25 info3L rfl (by decide) (by omega) _ (l.take i) (10) [.int .i64 (10)] _ (fun _ => False) rfl rfl rfl (fun _ h => h.elim) (fun k hk => ⟨trivial, Kd.fresh' (Kd.R_lt HE.out.r4) k hk⟩) HE.out.r5 HE.out.bel HE.out.bel.size (by simp only [List.length_map, List.length_take]; have := Hl.out; omega) ?_; intro v_5 w_ ho hb hg hat; have HE := Lib.hid (HE.out.app5 ho hb hg hat); clear ho hb hg hat))
      go_roundg (l.length + 1 - (i + 1))
      case measure => have := Hg.out; omega
      case rel => exact ⟨i + 1, by omega, rfl, by go_num, by rw [take1 l i hltN, ← Hc.out, List.map_append]; simp only [List.map_cons, List.map_nil, show lvP 1 10 = 1 from rfl]; exact HE⟩
     ·have b10 : (c == 10) = false := by simpa using h10
      have HLv : lvP 1 c = 1 := by unfold lvP; rw [if_neg h9]
      clear h9 h10
      go_wp2_with (first | (go_at_call 55; with_reducible refine (HE.out.seen _).mono ?_; rintro e W2 ⟨rfl, hE2⟩; have HE := Lib.hid hE2; clear hE2) | (go_at_call 51; with_reducible refine HE.out.last.mono ?_; rintro e W2 ⟨rfl, hE2⟩; have HE := Lib.hid hE2; clear hE2) | (go_at_call 58; with_reducible refine (HRm.out _).mono ?_; rintro e w' ⟨rfl, hw⟩; obtain rfl := hw.symm; clear hw) | ((with_reducible refine gate_builtin (b := .append) (xs := #[.tmp 105, .tmp 107]) rfl ?_); at_builtin; refine Kd.R_append (Kd.int .i64) (w0 := w) w.heap.size rfl (.tmp 105) (.tmp 107) 25 3 (.int .i64 0) 8 rfl Tryz.underlying25 info3L rfl (by decide) (by omega) _ ((l.take i).map (lvP 1)) (1) [.int .i64 (1)] _ (fun _ => False) rfl rfl rfl (fun _ h => h.elim) (fun k hk => ⟨trivial, Kd.fresh' (Kd.R_lt HE.out.r5) k hk⟩) HE.out.r4 HE.out.bel HE.out.bel.size (by simp only [List.length_map, List.length_take]; have := Hl.out; omega) ?_; intro v_4 w_ ho hb hg hat; have HE := Lib.hid (HE.out.app4 ho hb hg hat); clear ho hb hg hat) | ((with_reducible refine gate_builtin (b := .append) (xs := #[.tmp 109, .tmp 111]) rfl ?_); at_builtin; refine Kd.R_append (Kd.int .i64) (w0 := w) w.heap.size rfl (.tmp 109) (.tmp 111) 25 3 (.int .i64 0) 8 rfl Tryz.underlying25 info3L rfl (by decide) (by omega) _ (l.take i) (c) [.int .i64 (c)] _ (fun _ => False) rfl rfl rfl (fun _ h => h.elim) (fun k hk => ⟨trivial, Kd.fresh' (Kd.R_lt HE.out.r4) k hk⟩) HE.out.r5 HE.out.bel HE.out.bel.size (by simp only [List.length_map, List.length_take]; have := Hl.out; omega) ?_; intro v_5 w_ ho hb hg hat; have HE := Lib.hid (HE.out.app5 ho hb hg hat); clear ho hb hg hat))
      go_roundg (l.length + 1 - (i + 1))
      case measure => have := Hg.out; omega
      case rel => exact ⟨i + 1, by omega, rfl, by go_num, by rw [take1 l i hltN, ← Hc.out, List.map_append]; simp only [List.map_cons, List.map_nil, HLv]; exact HE⟩
   ·have hlt' : ¬ (i : Int) < (l.length : Int) := by omega
    go_wp2
    go_ret2
    have he := HE.out
    rw [List.take_of_length_le (by omega)] at he
    exact ⟨_, _, rfl, Kd.R_mono he.r4 (fun k hk => hk.2), Kd.R_mono he.r5 (fun k hk => hk.2), he.bel⟩
end Go.Proofs.YtdpifkhkemeclaaGreat
namespace Go.Proofs.YtdpifkhkemeclaaGreat
open Go.RowKit Go.Shelf
set_option linter.unusedVariables false
set_option linter.unusedSimpArgs false
attribute [local go_sem] Oper.semAt_some
/-- What comes of the first k places: those with a level, and it. -/
def kpTo (zs : List Int) : Nat → List (Nat × Int)
  | 0 => []
  | k + 1 => kpTo zs k ++ (if 0 ≤ zs[k]?.getD 0 then [(k, zs[k]?.getD 0)] else [])
theorem kpTo_length (zs : List Int) (k : Nat) : (kpTo zs k).length ≤ k := by
  induction k with
  | zero => simp [kpTo]
  | succ k ih => simp only [kpTo]; split <;> simp <;> omega

/-- What a round keeps: the blocks below m, and the box of what is gone over. -/
def KpB (Bs m : Nat) (A B : World) : Prop := A.heap.size ≤ B.heap.size ∧ ∀ k, (k < m ∨ k = Bs) → k < A.heap.size → B.heap[k]? = A.heap[k]?
theorem KpB.refl (Bs m : Nat) (A : World) : KpB Bs m A A := ⟨Nat.le_refl _, fun _ _ _ => rfl⟩
theorem KpB.trans {Bs m : Nat} {A B C : World} (h : KpB Bs m A B) (k : KpB Bs m B C) : KpB Bs m A C := ⟨Nat.le_trans h.1 k.1, fun j hj hl => (k.2 j hj (Nat.lt_of_lt_of_le hl h.1)).trans (h.2 j hj hl)⟩
theorem KpB.cell {Bs m : Nat} {A B : World} (h : KpB Bs m A B) {p : Addr} {v : Value} (hp : p.block < m ∨ p.block = Bs) (hc : A.cell? p = some v) : B.cell? p = some v := by
  have e := h.2 p.block hp (World.block_lt_of_cell? A _ hc)
  unfold World.cell? at hc ⊢
  rw [e]
  exact hc
theorem KpB.put {Bs m : Nat} {w : World} (hB : Bs < w.heap.size) (hm : m ≤ w.heap.size) (W : World) (l : Nat) (o o' : Obj) (hl : w.heap.size ≤ l) (h : W.heap[l]? = some o) (_ : o.isCells = false) (_ : o.isWalk = false) : KpB Bs m W (W.putObj l o') :=
  ⟨(grownBy_putObj' W l o').size, fun k hk hlt => (grownBy_putObj' W l o').block k hlt (fun e => by cases e; omega)⟩

set_option maxRecDepth 100000 in
set_option maxHeartbeats 2000000 in
theorem kp1_in (F : Fence) (n : Nat) (h8 : F.fn 134) (hro : F.round = none) (hn : 1 ≤ n) (l Bs n₀ b off cap : Nat) (zs : List Int) (hreach : zs.length * 8 ≤ 140737488351232) (hb : b < n₀) (P : Nat × Int → Prop) (hP : ∀ k, k < zs.length → 0 ≤ zs[k]?.getD 0 → P (k, zs[k]?.getD 0)) (J Jx : List (Nat × Int) → World → Prop)
    (hY : ∀ pre x W, P x → J pre W → pre.length < zs.length → YieldAt F (n - 1) Tryz.prog l #[.int .i64 (x.1 : Int), .int .i64 x.2] W fun e W' =>
      (e = .returned (.bool true) ∧ J (pre ++ [x]) W' ∧ KpB Bs n₀ W W') ∨ (e = .returned (.bool false) ∧ Jx (pre ++ [x]) W'))
    (W : World) (hBs : W.cell? ⟨Bs, 0, none⟩ = some (.slice (some ⟨b, off, none⟩) zs.length cap)) (hc : ∀ j, j < zs.length → W.cell? ⟨b, off + j, none⟩ = some (.int .i64 (zs[j]?.getD 0))) (h0 : J [] W) :
    CallsIn F n Tryz.prog 134 #[.func (.yield l) #[] #[], .pointer (some ⟨Bs, 0, none⟩)] W fun e W' => (∃ v, e = .returned v) ∧
      (J (kpTo zs zs.length) W' ∨ (∃ pre, (∃ k, k ≤ zs.length ∧ pre = kpTo zs k) ∧ Jx pre W')) := by
  refine callsIn_of_wp Tryz.func134 rfl h8 ?_ hro
  simp only [Tryz.ntmps134, List.size_toArray, List.length_cons, List.length_nil, Nat.reduceAdd, Nat.reduceSub, Array.replicate_succ, Array.replicate_zero, List.push_toArray, List.append_toArray, List.nil_append, List.cons_append]
  gi_wp2
  gi_loopw [7] (fun i wr => ∃ k : Nat, k ≤ zs.length ∧ i = .int .i64 (k : Int) ∧ J (kpTo zs k) wr ∧ KpB Bs n₀ W wr)
    (fun i _ => zs.length - (intOf i).toNat)
  case atStart => exact ⟨0, Nat.zero_le _, rfl, h0, KpB.refl _ _ _⟩
  case round =>
    obtain ⟨k, hk, rfl, hJs, hnx⟩ := hrel
    by_cases hlt : k < zs.length
    · have hlt' : (k : Int) < (zs.length : Int) := by omega
      have hbs' : wr.cell? ⟨Bs, 0, none⟩ = some (.slice (some ⟨b, off, none⟩) zs.length cap) := hnx.cell (p := ⟨Bs, 0, none⟩) (.inr rfl) hBs
      obtain ⟨z, hz⟩ : ∃ z, z = zs[k]?.getD 0 := ⟨_, rfl⟩
      have hcx' : wr.cell? ⟨b, off + k, none⟩ = some (.int .i64 z) := by rw [hz]; exact hnx.cell (p := ⟨b, off + k, none⟩) (.inl hb) (hc k hlt)
      have Hz := Lib.hid hz
      have Hk := Lib.hid hk
      have Hlt := Lib.hid hlt
      clear hlt hk
      by_cases h0z : 0 ≤ z
      · obtain ⟨fn, tmps, assign, body, hy, hR⟩ := hY _ (k, z) wr (by rw [hz]; exact hP k Hlt.out (by rw [← hz]; exact h0z)) hJs (by have := kpTo_length zs k; have := Hlt.out; omega)
        clear hz
        dsimp only at hy
        have hd : decide (z ≥ 0) = true := by simpa using h0z
        gi_wp2
        refine hR.mono ?_
        rintro e W3 (⟨rfl, hJ3, hk3⟩ | ⟨rfl, hJx3⟩)
        · gi_wp2
          go_roundw
          case rel =>
            exact ⟨k + 1, by have := Hlt.out; omega, by go_num, by rw [kpTo, ← Hz.out, if_pos h0z]; exact hJ3, hnx.trans hk3⟩
          case measure => have := Hlt.out; simp [intOf]; omega
        · gi_wp2
          refine bodyPost_ret (results_none rfl _ _ _) rfl ?_
          exact ⟨⟨_, rfl⟩, .inr ⟨_, ⟨k + 1, by have := Hlt.out; omega, by rw [kpTo, ← Hz.out, if_pos h0z]⟩, hJx3⟩⟩
      · clear hz
        have hd : decide (z ≥ 0) = false := by simpa using h0z
        gi_wp2
        refine ⟨fun f hf => absurd hf (by simp), ?_⟩
        gi_wp2
        go_roundw
        case rel =>
          exact ⟨k + 1, by have := Hlt.out; omega, by go_num, by rw [kpTo, ← Hz.out, if_neg (by omega), List.append_nil]; exact hJs, hnx⟩
        case measure => have := Hlt.out; simp [intOf]; omega
    · have hlt' : ¬ (k : Int) < (zs.length : Int) := by omega
      have hke : k = zs.length := by omega
      subst hke
      gi_wp2
      go_end0
      exact ⟨⟨_, rfl⟩, .inl hJs⟩

set_option maxRecDepth 100000 in
set_option maxHeartbeats 1000000 in
/-- .. where nothing is: no round. -/
theorem kp1_none_in (F : Fence) (n : Nat) (h8 : F.fn 134) (hro : F.round = none) (l Bs : Nat) (a : Option Addr) (cap : Nat) (J : List (Nat × Int) → World → Prop) (W : World) (hBs : W.cell? ⟨Bs, 0, none⟩ = some (.slice a 0 cap)) (h0 : J [] W) :
    CallsIn F n Tryz.prog 134 #[.func (.yield l) #[] #[], .pointer (some ⟨Bs, 0, none⟩)] W fun e W' => (∃ v, e = .returned v) ∧ J [] W' := by
  refine callsIn_of_wp Tryz.func134 rfl h8 ?_ hro
  simp only [Tryz.ntmps134, List.size_toArray, List.length_cons, List.length_nil, Nat.reduceAdd, Nat.reduceSub, Array.replicate_succ, Array.replicate_zero, List.push_toArray, List.append_toArray, List.nil_append, List.cons_append]
  gi_wp2
  gi_loopw [7] (fun i wr => i = .int .i64 0 ∧ J [] wr) (fun _ _ => 0)
  case atStart => exact ⟨rfl, h0⟩
  case round =>
    obtain ⟨rfl, hJs⟩ := hrel
    gi_wp2
    go_end0
    exact ⟨⟨_, rfl⟩, hJs⟩

set_option maxHeartbeats 1000000 in
/-- seqs.kept(levels): the slice value is boxed; the function value captures the box. -/
theorem kp_in (F : Fence) (n : Nat) (h6 : F.fn 97) (hro : F.round = none) (a : Option Addr) (len cap : Nat) (w : World) :
    CallsIn F n Tryz.prog 97 #[.slice a len cap] w fun e w' => e = .returned (.func (.func 134) #[] #[.pointer (some ⟨w.heap.size, 0, none⟩)]) ∧ w' = w.alloc (.cells #[.slice a len cap] 25) := by
  refine callsIn_of_wp Tryz.func97 rfl h6 ?_ hro
  simp only [Tryz.ntmps97, List.size_toArray, List.length_cons, List.length_nil, Nat.reduceAdd, Nat.reduceSub, Array.replicate_succ, Array.replicate_zero, List.push_toArray, List.append_toArray, List.nil_append, List.cons_append]
  gi_wp2
  go_ret
  exact ⟨rfl, rfl⟩

/-- The iterator, the body being told that what comes is as P says. -/
theorem kp_stopsP (F : Fence) (n : Nat) (h8 : F.fn 134) (hro : F.round = none) (hn : 1 ≤ n) (Bs n₀ : Nat) (sv : Value) (zs : List Int) (P : Nat × Int → Prop) (hP : ∀ k, k < zs.length → 0 ≤ zs[k]?.getD 0 → P (k, zs[k]?.getD 0)) (hreach : zs.length * 8 ≤ 140737488351232) (w : World) (hBs : Bs < w.heap.size) (hn₀ : n₀ ≤ w.heap.size)
    (hc : w.cell? ⟨Bs, 0, none⟩ = some sv) (hI : IntsB n₀ w sv zs) :
    SeqStopsK F n Tryz.prog 134 #[.pointer (some ⟨Bs, 0, none⟩)] (fun x : { x : Nat × Int // P x } => #[Value.int .i64 (x.1.1 : Int), Value.int .i64 x.1.2]) (KpB Bs n₀) (fun ys => ys.map (·.1) = kpTo zs zs.length)
      (fun pre => ∃ k, k ≤ zs.length ∧ pre.map (·.1) = kpTo zs k) zs.length w := fun l J Jx W hW _ _ hY h0 => by
  have hc' := (hW.cell (p := ⟨Bs, 0, none⟩) hBs).trans hc
  have key : CallsIn F n Tryz.prog 134 #[.func (.yield l) #[] #[], .pointer (some ⟨Bs, 0, none⟩)] W fun e W' => (∃ v, e = .returned v) ∧
      ((fun (y : List (Nat × Int)) W => ∃ y', y'.map (·.1) = y ∧ J y' W) (kpTo zs zs.length) W' ∨ (∃ pre, (∃ k, k ≤ zs.length ∧ pre = kpTo zs k) ∧ (fun (y : List (Nat × Int)) W => ∃ y', y'.map (·.1) = y ∧ Jx y' W) pre W')) := by
    rcases hI.below (hW.mono hn₀) with ⟨a, cap, rfl, rfl⟩ | ⟨b, off, cap, rfl, hb, hcs⟩
    · exact (kp1_none_in F n h8 hro l Bs a cap (fun (y : List (Nat × Int)) W => ∃ y', y'.map (·.1) = y ∧ J y' W) W hc' ⟨[], rfl, h0⟩).mono fun e W' ⟨he, hj⟩ => ⟨he, .inl hj⟩
    · refine kp1_in F n h8 hro hn l Bs n₀ b off cap zs hreach hb P hP (fun (y : List (Nat × Int)) W => ∃ y', y'.map (·.1) = y ∧ J y' W) (fun (y : List (Nat × Int)) W => ∃ y', y'.map (·.1) = y ∧ Jx y' W) ?_ W hc' hcs ⟨[], rfl, h0⟩
      rintro pre x W1 hPx ⟨y', rfl, hj⟩ hlen
      obtain ⟨fn, tmps, assign, body, hy, hR⟩ := hY y' ⟨x, hPx⟩ W1 hj (by simpa using hlen)
      refine ⟨fn, tmps, assign, body, hy, hR.mono ?_⟩
      rintro e W' (⟨rfl, h1, h2⟩ | ⟨rfl, h1⟩)
      · exact .inl ⟨rfl, ⟨_, by simp, h1⟩, h2⟩
      · exact .inr ⟨rfl, ⟨_, by simp, h1⟩⟩
  refine key.mono ?_
  rintro e W' ⟨he, ⟨y', h1, h2⟩ | ⟨pre, ⟨k, hk, rfl⟩, ⟨y', h1, h2⟩⟩⟩
  · exact ⟨he, .inl ⟨y', h1, h2⟩⟩
  · exact ⟨he, .inr ⟨y', ⟨k, hk, h1⟩, h2⟩⟩
end Go.Proofs.YtdpifkhkemeclaaGreat
namespace Go.Proofs.YtdpifkhkemeclaaGreat
open Go.RowKit Go.Shelf
set_option linter.unusedVariables false
set_option linter.unusedSimpArgs false
theorem oper_round {P : Program} {Q : Exit → Act → World → Prop} (hQ : ¬ LetsOut Q) {o : Oper} (hd : ∀ c, o.op ≠ .defer c) (l n : Nat) {a : Act} {w : World} {K : Act → World → Prop}
    (h : o.wp P a w K Q) : o.wpIn (Fence.wide.inRound l) n P a w K Q := by
  unfold Oper.wpIn
  refine ⟨fun f _ => trivial, ?_⟩
  rw [show (Fence.wide.inRound l).round = some l from rfl, Oper.semAt_some l _ _ hd]
  unfold Oper.wp at h
  generalize (execOp a.eval o).run P w = r at *
  cases r with
  | ok x w' =>
    cases x <;> simp only [Oper.upon, Oper.uponIn] at h ⊢
    all_goals first
      | exact h
      | exact ⟨fun hh => by simp [Fence.wide] at hh, CallsIn.inRound l (callsIn_wide.2 h)⟩
      | exact ⟨fun hh => by simp [Fence.wide] at hh, fun c cs hroom => by
          obtain ⟨v, w2, r, st⟩ := h c cs
          exact ⟨v, w2, r, stepsIn_wide.2 st⟩⟩
  | halt x w' => cases x <;> simp only [Oper.upon, Oper.uponIn] at h ⊢ <;> exact h
theorem wpOp_round {P : Program} {Q : Exit → Act → World → Prop} (hQ : ¬ LetsOut Q) {ops : Array Oper} (hd : ∀ (i : Nat) (o : Oper), ops[i]? = some o → ∀ (c : Call), o.op ≠ Op.defer c) (l n : Nat) {i : Nat} {a : Act} {w : World} {K : Act → World → Prop}
    (h : wpOp P ops Q i K a w) : wpOpIn (Fence.wide.inRound l) n P ops Q i K a w := by
  unfold wpOp at h
  unfold wpOpIn
  cases ho : ops[i]? with
  | none => simp only [ho] at h ⊢; exact h
  | some o =>
    simp only [ho] at h ⊢
    by_cases hw : Region.wanted o (yielded ops a.tmps) = true
    · simp only [hw, if_true] at h ⊢
      rcases h with h | h
      · exact oper_round hQ (hd i o ho) l n h
      · exact (hQ h.2).elim
    · simp only [hw] at h ⊢
      exact ⟨fun f _ => trivial, h⟩
theorem wpAny_round {P : Program} {Q : Exit → Act → World → Prop} {md : Region.Mode} (hQ : ¬ LetsOut Q) {ops : Array Oper} (hd : ∀ (i : Nat) (o : Oper), ops[i]? = some o → ∀ (c : Call), o.op ≠ Op.defer c) (l n : Nat) :
    ∀ (fuel : Nat) (listed : Array Bool) (a : Act) (w : World), wpAny P md ops Q fuel listed a w → wpAnyIn (Fence.wide.inRound l) n P md ops Q fuel listed a w
  | 0, _, _, _, h => h
  | fuel + 1, listed, a, w, h => ⟨h.1, fun i hi => wpOpIn_mono (fun a w => wpAny_round hQ hd l n fuel _ a w) (wpOp_round hQ hd l n (h.2 i hi))⟩
/-- A region that draws, in a round: what the plain walk gives. -/
theorem region_round {P : Program} {Q : Exit → Act → World → Prop} {id : Nat} {ops : Array Oper} (hm : P.follows .mixedOrders = true) (hd : ops.all (fun (o : Oper) => match o.op with | Op.defer _ => false | _ => true) = true) (l n : Nat) {a : Act} {w : World} (K : Act → World → Prop)
    (h : wpAny P .any ops (fun e a w => e = .normal ∧ K a w) ops.size (Array.replicate ops.size false) a w.drew) (hK : ∀ a w, K a w → Q .normal a w) : (Code.region id ops true).wpIn (Fence.wide.inRound l) n P Q a w := by
  refine wpIn_mono (Q := fun e a w => e = .normal ∧ K a w) (wpIn_region_any hm (wpAny_round (by rintro ⟨a, w, h, _⟩; cases h) ?_ l n _ _ _ _ h)) (fun e a w h => by obtain ⟨rfl, h⟩ := h; exact hK a w h)
  intro i o ho c hc
  have := Array.all_eq_true'.1 hd o (Array.mem_of_getElem? ho)
  rw [hc] at this
  cases this
end Go.Proofs.YtdpifkhkemeclaaGreat
