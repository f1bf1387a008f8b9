/- Span of the first seat. Of of the first seat. OfB of the first seat. Settle of the first seat. SettleB of the first seat. -/
import Derived.Test.YtdpifkhkemeclaaGreatZa
import Derived.Test.YtdpifkhkemeclaaGreatProg
import Derived.Deep.LoopGhost
import Derived.Test.YtdpifkhkemeclaaGreatVMore
import Derived.WalkSpells
import Derived.WalkLawsBesides
import Derived.OneCell
import Derived.Lib.Hide
set_option linter.unusedVariables false
set_option linter.unusedSimpArgs false
namespace Go.Proofs.YtdpifkhkemeclaaGreat.Cl
open Go.RowKit
def spanL : List (Int × Int × Int) := [(0, 8, 9), (9, 9, 11), (10, 10, 10), (11, 11, 11), (12, 12, 12), (13, 13, 10), (14, 27, 9), (28, 30, 10), (31, 31, 11), (32, 32, 12), (33, 34, 13), (35, 37, 5), (38, 42, 13), (43, 43, 4), (44, 44, 7), (45, 45, 4), (46, 47, 7), (48, 57, 3), (58, 58, 7), (59, 64, 13), (91, 96, 13), (123, 126, 13), (127, 132, 9), (133, 133, 10), (134, 159, 9), (160, 160, 7), (161, 161, 13), (162, 165, 5), (166, 169, 13), (171, 172, 13), (173, 173, 9), (174, 175, 13), (176, 177, 5), (178, 179, 3), (180, 180, 13), (182, 184, 13), (185, 185, 3), (187, 191, 13), (215, 215, 13), (247, 247, 13), (768, 879, 8), (1155, 1161, 8), (1423, 1423, 5), (1424, 1424, 1), (1425, 1469, 8), (1470, 1470, 1), (1471, 1471, 8), (1472, 1472, 1), (1473, 1474, 8), (1475, 1475, 1), (1476, 1477, 8), (1478, 1478, 1), (1479, 1479, 8), (1480, 1535, 1), (1536, 1541, 6), (1542, 1543, 13), (1544, 1544, 2), (1545, 1546, 5), (1547, 1547, 2), (1548, 1548, 7), (1549, 1549, 2), (1550, 1551, 13), (1552, 1562, 8), (1563, 1610, 2), (1611, 1631, 8), (1632, 1641, 6), (1642, 1642, 5), (1643, 1644, 6), (1645, 1647, 2), (1648, 1648, 8), (1649, 1749, 2), (1750, 1756, 8), (1757, 1757, 6), (1758, 1758, 13), (1759, 1764, 8), (1765, 1766, 2), (1767, 1768, 8), (1769, 1769, 13), (1770, 1773, 8), (1774, 1775, 2), (1776, 1785, 3), (1786, 1791, 2), (1872, 1919, 2), (2274, 2274, 6), (2364, 2364, 8), (2369, 2376, 8), (2381, 2381, 8), (5760, 5760, 12), (8192, 8202, 12), (8203, 8205, 9), (8207, 8207, 1), (8208, 8231, 13), (8232, 8232, 12), (8233, 8233, 10), (8234, 8234, 14), (8235, 8235, 16), (8236, 8236, 18), (8237, 8237, 15), (8238, 8238, 17), (8239, 8239, 7), (8240, 8244, 5), (8245, 8259, 13), (8260, 8260, 7), (8261, 8286, 13), (8287, 8287, 12), (8288, 8293, 9), (8294, 8294, 19), (8295, 8295, 20), (8296, 8296, 21), (8297, 8297, 22), (8298, 8303, 9), (8304, 8304, 3), (8308, 8313, 3), (8314, 8315, 4), (8316, 8318, 13), (8320, 8329, 3), (8330, 8331, 4), (8332, 8334, 13), (8352, 8399, 5), (8400, 8432, 8), (8592, 8721, 13), (8722, 8722, 4), (8723, 8723, 5), (8724, 9013, 13), (9352, 9371, 3), (9472, 9899, 13), (9901, 10239, 13), (11904, 11929, 13), (12288, 12288, 12), (12289, 12292, 13), (12296, 12320, 13), (12330, 12333, 8), (12336, 12336, 13), (12441, 12442, 8), (64285, 64285, 1), (64286, 64286, 8), (64287, 64296, 1), (64297, 64297, 4), (64298, 64335, 1), (65024, 65039, 8), (65056, 65071, 8), (65104, 65104, 7), (65106, 65106, 7), (65109, 65109, 7), (65119, 65119, 5), (65122, 65123, 4), (65129, 65130, 5), (65136, 65278, 2), (65279, 65279, 9), (65281, 65282, 13), (65283, 65285, 5), (65286, 65290, 13), (65291, 65291, 4), (65292, 65292, 7), (65293, 65293, 4), (65294, 65295, 7), (65296, 65305, 3), (65306, 65306, 7), (65307, 65312, 13), (65339, 65344, 13), (65371, 65381, 13), (65504, 65505, 5), (65509, 65510, 5), (65529, 65533, 13), (127744, 128591, 13), (917760, 917999, 8)]
def spanC : Array Value := (spanL.flatMap fun x => [Value.int .i64 x.1, Value.int .i64 x.2.1, Value.int .i64 x.2.2]).toArray
noncomputable def spanCode : Code := Tryz.f47.body.getD .skip
noncomputable def spanOps : List Oper := (Base.straightRet spanCode).getD []
set_option maxRecDepth 1000000 in
theorem spanOps_eq : Base.straightRet spanCode = some spanOps := by kernel_rfl
set_option maxRecDepth 1000000 in
theorem span_fold (w : World) : (Base.foldOps Tryz.prog spanOps { tmps := #[] ++ Array.replicate (Tryz.f47.ntmps - 0) undef, defers := [] } w).map (fun z => (z.1.tmps.getD 0 undef, z.1.defers.isEmpty, z.2)) = some (.slice (some ⟨w.heap.size, 0, none⟩) 166 166, true, w.alloc (.cells spanC 67)) := by kernel_rfl
theorem spans_any (w : World) : Calls Tryz.prog 47 #[] w fun e w' => e = .returned (.slice (some ⟨w.heap.size, 0, none⟩) 166 166) ∧ w' = w.alloc (.cells spanC 67) :=
  Base.straight_calls (fn := Tryz.f47) (c := spanCode) (ops := spanOps) Tryz.func47 (by kernel_rfl) spanOps_eq Tryz.results47 (span_fold w)
end Go.Proofs.YtdpifkhkemeclaaGreat.Cl
namespace Go.Proofs.YtdpifkhkemeclaaGreat.Cl
open Go.RowKit
def frS (k : Nat) : Int := (spanL.getD k (0, 0, 0)).1
def toS (k : Nat) : Int := (spanL.getD k (0, 0, 0)).2.1
def clS (k : Nat) : Int := (spanL.getD k (0, 0, 0)).2.2
def sideP (a b code : Int) : Int := if b < code then -1 else if code < a then 1 else 0
theorem side_any (a b c code : Int) (w : World) : Calls Tryz.prog 49 #[.agg #[.int .i64 a, .int .i64 b, .int .i64 c], .int .i64 code] w fun e w' => e = .returned (.int .i64 (sideP a b code)) ∧ Below w.heap.size w w' := by
  by_cases h1 : b < code
  · have Hs : Hid (sideP a b code = -1) := by unfold sideP; rw [if_pos h1]; rfl
    have b1 : decide (b < code) = true := decide_eq_true h1
    go_enter Tryz.func49, Tryz.ntmps49
    go_wp2
    go_ret
    exact ⟨by rw [Hs.out]; rfl, (Below.refl _ _).alloc (Nat.le_refl _) _⟩
  · have b1 : decide (b < code) = false := decide_eq_false h1
    by_cases h2 : code < a
    · have Hs : Hid (sideP a b code = 1) := by unfold sideP; rw [if_neg h1, if_pos h2]; rfl
      have b2 : decide (code < a) = true := decide_eq_true h2
      clear h1
      go_enter Tryz.func49, Tryz.ntmps49
      go_wp2
      go_ret
      exact ⟨by rw [Hs.out]; rfl, (Below.refl _ _).alloc (Nat.le_refl _) _⟩
    · have Hs : Hid (sideP a b code = 0) := by unfold sideP; rw [if_neg h1, if_neg h2]; rfl
      have b2 : decide (code < a) = false := decide_eq_false h2
      go_enter Tryz.func49, Tryz.ntmps49
      go_wp2
      go_ret
      exact ⟨by rw [Hs.out]; rfl, (Below.refl _ _).alloc (Nat.le_refl _) _⟩
def bsGo (code : Int) : Nat → Nat → Nat → Nat
  | 0, i, _ => i
  | f + 1, i, j => if i < j then (if sideP (frS ((i + j) / 2)) (toS ((i + j) / 2)) code < 0 then bsGo code f ((i + j) / 2 + 1) j else bsGo code f i ((i + j) / 2)) else i
theorem bsGo_fuel (code : Int) : ∀ (f f' i j : Nat), j - i ≤ f → j - i ≤ f' → bsGo code f i j = bsGo code f' i j := by
  intro f
  induction f with
  | zero =>
    intro f' i j h h'
    have hij : ¬ i < j := by omega
    cases f' with
    | zero => rfl
    | succ f' => rw [bsGo, bsGo, if_neg hij]
  | succ f ih =>
    intro f' i j h h'
    by_cases hij : i < j
    · cases f' with
      | zero => omega
      | succ f' =>
        rw [bsGo, bsGo, if_pos hij, if_pos hij]
        split
        · exact ih _ _ _ (by omega) (by omega)
        · exact ih _ _ _ (by omega) (by omega)
    · rw [bsGo, if_neg hij]
      cases f' with
      | zero => rfl
      | succ f' => rw [bsGo, if_neg hij]
def bs (code : Int) : Nat := bsGo code 200 0 166
def hitS (code : Int) : Bool := decide (bs code < 166) && (sideP (frS (bs code)) (toS (bs code)) code == 0)
theorem spanC_at (k : Nat) (hk : k < 166) : spanC[k * 3]? = some (.int .i64 (frS k)) ∧ spanC[k * 3 + 1]? = some (.int .i64 (toS k)) ∧ spanC[k * 3 + 2]? = some (.int .i64 (clS k)) := by
  have gen : ∀ (l : List (Int × Int × Int)) (k : Nat), k < l.length →
      (l.flatMap fun x => [Value.int .i64 x.1, Value.int .i64 x.2.1, Value.int .i64 x.2.2])[k * 3]? = some (.int .i64 (l.getD k (0, 0, 0)).1) ∧
      (l.flatMap fun x => [Value.int .i64 x.1, Value.int .i64 x.2.1, Value.int .i64 x.2.2])[k * 3 + 1]? = some (.int .i64 (l.getD k (0, 0, 0)).2.1) ∧
      (l.flatMap fun x => [Value.int .i64 x.1, Value.int .i64 x.2.1, Value.int .i64 x.2.2])[k * 3 + 2]? = some (.int .i64 (l.getD k (0, 0, 0)).2.2) := by
    intro l
    induction l with
    | nil => intro k h; simp at h
    | cons x l ih =>
      intro k h
      cases k with
      | zero => simp
      | succ k =>
        have := ih k (by simpa using h)
        rw [show (k + 1) * 3 = k * 3 + 3 by omega]
        simpa using this
  have h := gen spanL k hk
  unfold spanC frS toS clS
  simpa using h
set_option maxRecDepth 100000 in
set_option maxHeartbeats 1000000 in
theorem search_any (g : Nat) (code : Int) (w : World) (hg : w.heap[g]? = some (.cells spanC 67 (0, 0))) (hlt : g < w.heap.size) :
    Calls Tryz.prog 48 #[.slice (some ⟨g, 0, none⟩) 166 166, .int .i64 code, .func (.func 49) #[] #[]] w fun e w' =>
      e = .returned (.tuple #[.int .i64 (bs code), .bool (hitS code)]) ∧ Below w.heap.size w w' := by
  go_enter Tryz.func48, Tryz.ntmps48
  go_wp2_with fail
  go_loopg [9, 10] 200 (fun n v9 v10 wr => ∃ i j : Nat, i ≤ j ∧ j ≤ 166 ∧ v9 = .int .i64 i ∧ v10 = .int .i64 j ∧ j - i < n ∧ Hid (bsGo code 200 i j = bs code) ∧ Below w.heap.size w wr)
  case atStart => exact ⟨0, 166, by omega, by omega, rfl, rfl, by omega, rfl, Below.refl _ _⟩
  case round =>
    obtain ⟨i, j, hij, hj, rfl, rfl, hn, hbs, hb⟩ := hrel
    by_cases hlt' : i < j
    · have t1 : (i : Int) < (j : Int) := by omega
      have hlen : (i + j) / 2 < 166 := by omega
      have hgr : wr.heap[g]? = some (.cells spanC 67 (0, 0)) := (hb.block g hlt).trans hg
      obtain ⟨q0, q1, q2⟩ := spanC_at ((i + j) / 2) hlen
      obtain ⟨A, hA⟩ : ∃ A, A = frS ((i + j) / 2) := ⟨_, rfl⟩
      obtain ⟨B, hB⟩ : ∃ B, B = toS ((i + j) / 2) := ⟨_, rfl⟩
      obtain ⟨C, hC⟩ : ∃ C, C = clS ((i + j) / 2) := ⟨_, rfl⟩
      have c0 : wr.cell? ⟨g, (i + j) / 2 * 3, none⟩ = some (.int .i64 A) := by rw [cell_of_row _ _ _ _ _ _ hgr, hA]; exact q0
      have c1 : wr.cell? ⟨g, (i + j) / 2 * 3 + 1, none⟩ = some (.int .i64 B) := by rw [cell_of_row _ _ _ _ _ _ hgr, hB]; exact q1
      have c2 : wr.cell? ⟨g, (i + j) / 2 * 3 + 2, none⟩ = some (.int .i64 C) := by rw [cell_of_row _ _ _ _ _ _ hgr, hC]; exact q2
      have b0 : 0 ≤ ((i : Int) + (j : Int)) / 2 := by omega
      have b1 : ((i : Int) + (j : Int)) / 2 < 166 := by omega
      have HA := Lib.hid hA
      have HB := Lib.hid hB
      clear hgr q0 q1 q2 hA hB hC
      have step : bsGo code 200 i j = if sideP A B code < 0 then bsGo code 200 ((i + j) / 2 + 1) j else bsGo code 200 i ((i + j) / 2) := by
        rw [HA.out, HB.out]
        have e : bsGo code 200 i j = if i < j then (if sideP (frS ((i + j) / 2)) (toS ((i + j) / 2)) code < 0 then bsGo code 199 ((i + j) / 2 + 1) j else bsGo code 199 i ((i + j) / 2)) else i := rfl
        rw [e, if_pos hlt']
        split
        · exact bsGo_fuel code _ _ _ _ (by omega) (by omega)
        · exact bsGo_fuel code _ _ _ _ (by omega) (by omega)
      by_cases hs : sideP A B code < 0
      · have Hst : Hid (bsGo code 200 ((i + j) / 2 + 1) j = bs code) := by rw [if_pos hs] at step; exact step.symm.trans hbs.out
        clear step
        go_wp2_with (go_at_call 49; refine (side_any A B C code _).mono ?_; rintro e w2 ⟨rfl, hb2⟩)
        have HB2 := Lib.hid (hb.trans (hb2.mono hb.size))
        clear hb2
        go_wp2
        go_roundg (gk - 1)
        case measure => omega
        case rel => exact ⟨(i + j) / 2 + 1, j, by omega, hj, by go_num, rfl, by omega, Hst, HB2.out⟩
      · have Hst : Hid (bsGo code 200 i ((i + j) / 2) = bs code) := by rw [if_neg hs] at step; exact step.symm.trans hbs.out
        clear step
        go_wp2_with (go_at_call 49; refine (side_any A B C code _).mono ?_; rintro e w2 ⟨rfl, hb2⟩)
        have HB2 := Lib.hid (hb.trans (hb2.mono hb.size))
        clear hb2
        go_wp2
        go_roundg (gk - 1)
        case measure => omega
        case rel => exact ⟨i, (i + j) / 2, by omega, by omega, rfl, by go_num, by omega, Hst, HB2.out⟩
    · have hije : i = j := by omega
      subst hije
      have hbi : i = bs code := by
        have := hbs.out
        have e : bsGo code 200 i i = if i < i then (if sideP (frS ((i + i) / 2)) (toS ((i + i) / 2)) code < 0 then bsGo code 199 ((i + i) / 2 + 1) i else bsGo code 199 i ((i + i) / 2)) else i := rfl
        rw [e, if_neg (by omega)] at this
        exact this
      have t1 : ¬ (i : Int) < (i : Int) := by omega
      by_cases h166 : i < 166
      · have t2 : (i : Int) < 166 := by omega
        have hgr : wr.heap[g]? = some (.cells spanC 67 (0, 0)) := (hb.block g hlt).trans hg
        obtain ⟨q0, q1, q2⟩ := spanC_at i h166
        obtain ⟨A, hA⟩ : ∃ A, A = frS i := ⟨_, rfl⟩
        obtain ⟨B, hB⟩ : ∃ B, B = toS i := ⟨_, rfl⟩
        obtain ⟨C, hC⟩ : ∃ C, C = clS i := ⟨_, rfl⟩
        have c0 : wr.cell? ⟨g, i * 3, none⟩ = some (.int .i64 A) := by rw [cell_of_row _ _ _ _ _ _ hgr, hA]; exact q0
        have c1 : wr.cell? ⟨g, i * 3 + 1, none⟩ = some (.int .i64 B) := by rw [cell_of_row _ _ _ _ _ _ hgr, hB]; exact q1
        have c2 : wr.cell? ⟨g, i * 3 + 2, none⟩ = some (.int .i64 C) := by rw [cell_of_row _ _ _ _ _ _ hgr, hC]; exact q2
        have Hhit : Hid (hitS code = (sideP A B code == 0)) := by
          have e : hitS code = (sideP A B code == 0) := by
            unfold hitS
            rw [← hbi, hA, hB, decide_eq_true h166, Bool.true_and]
          exact e
        have Hbi := Lib.hid hbi
        clear hgr q0 q1 q2 hA hB hC hbi
        go_wp2_with (go_at_call 49; refine (side_any A B C code _).mono ?_; rintro e w2 ⟨rfl, hb2⟩)
        have HB2 := Lib.hid (hb.trans (hb2.mono hb.size))
        clear hb2
        go_wp2
        go_ret2
        exact ⟨by rw [← Hbi.out, Hhit.out]; rfl, HB2.out⟩
      · have t2 : ¬ (i : Int) < 166 := by omega
        have Hhit : Hid (hitS code = false) := by
          have e : hitS code = false := by
            unfold hitS
            rw [← hbi, decide_eq_false h166, Bool.false_and]
          exact e
        have Hbi := Lib.hid hbi
        clear hbi
        go_wp2
        go_ret2
        exact ⟨by rw [← Hbi.out, Hhit.out]; rfl, hb⟩
end Go.Proofs.YtdpifkhkemeclaaGreat.Cl
namespace Go.Proofs.YtdpifkhkemeclaaGreat.Cl
open Go.RowKit
def ofP (code : Int) : Int := if hitS code = true then clS (bs code) else 0
end Go.Proofs.YtdpifkhkemeclaaGreat.Cl
namespace Go.Proofs.YtdpifkhkemeclaaGreat
open Go.RowKit Cl
def class_Of.f (a0 : Int) : Option Int := some (ofP a0)
set_option maxRecDepth 100000 in
theorem class_Of.calls (a0 : Int) (r : Int) (w : World) (h : class_Of.f a0 = some r) :
    Calls Tryz.prog 24 #[.int .i64 a0] w fun e w' => e = .returned (.int .i64 r) ∧ Below w.heap.size w w' := by
  have h := Option.some.inj h
  have hs := search_any w.heap.size a0 (w.alloc (.cells spanC 67)) (heap_alloc_new w _) (by simp)
  have hsz : (w.alloc (.cells spanC 67)).heap.size = w.heap.size + 1 := by simp
  cases hh : hitS a0 with
  | false =>
    have Hr : Hid (r = 0) := by
      rw [← h]
      unfold ofP
      rw [hh]
      rfl
    rw [hh] at hs
    have Hs := Lib.hid hs
    clear hs hh h
    go_enter Tryz.func24, Tryz.ntmps24
    go_wp2_with (first | (go_at_call 47; refine (spans_any _).mono ?_; rintro e w1 ⟨rfl, rfl⟩) | (go_at_call 48; refine Hs.out.mono ?_; rintro e w2 ⟨rfl, hb2⟩; have HB2 := Lib.hid hb2; clear hb2))
    go_ret
    refine ⟨by rw [Hr.out]; rfl, ((Below.refl _ _).alloc (Nat.le_refl _) _).trans (HB2.out.mono (by omega))⟩
  | true =>
    have hlt : bs a0 < 166 := by
      unfold hitS at hh
      simp at hh
      exact hh.1
    obtain ⟨k, hk⟩ : ∃ k, k = bs a0 := ⟨_, rfl⟩
    have Hr : Hid (r = clS k) := by
      rw [← h, hk]
      unfold ofP
      rw [hh]
      rfl
    rw [hh, ← hk] at hs
    rw [← hk] at hlt
    have Hs := Lib.hid hs
    obtain ⟨_, _, q2⟩ := spanC_at k hlt
    have Q2 := Lib.hid q2
    have hlt' : (k : Int) < 166 := by omega
    obtain ⟨C, hC⟩ : ∃ C, C = clS k := ⟨_, rfl⟩
    have HC := Lib.hid hC
    clear hs hh h hk q2 hC
    go_enter Tryz.func24, Tryz.ntmps24
    go_wp2_with (first | (go_at_call 47; refine (spans_any _).mono ?_; rintro e w1 ⟨rfl, rfl⟩) | (go_at_call 48; refine Hs.out.mono ?_; rintro e w2 ⟨rfl, hb2⟩; have c2 : w2.cell? ⟨w.heap.size, k * 3 + 2, none⟩ = some (.int .i64 C) := (by rw [hb2.cell (by show w.heap.size < _; omega), cell_of_row _ _ _ _ _ _ (heap_alloc_new w (.cells spanC 67)), HC.out]; exact Q2.out); have HB2 := Lib.hid hb2; clear hb2))
    go_ret
    refine ⟨by rw [Hr.out, ← HC.out]; rfl, ((Below.refl _ _).alloc (Nat.le_refl _) _).trans (HB2.out.mono (by omega))⟩
end Go.Proofs.YtdpifkhkemeclaaGreat
namespace Go.Proofs.YtdpifkhkemeclaaGreat.Nt
open Go.RowKit Go.Proofs.YtdpifkhkemeclaaGreatW.PrintWords
def way (level : Int) : Int := if (Go.bits .and .i64 level 1 == 1) = true then 1 else 0
theorem way_any (level : Int) (w : World) : Calls Tryz.prog 115 #[.int .i64 level] w fun e w' => e = .returned (.int .i64 (way level)) ∧ w = w' := by
  by_cases h : (Go.bits .and .i64 level 1 == 1) = true
  · have hw : Hid (way level = 1) := by unfold way; rw [if_pos h]; rfl
    go_enter Tryz.func115, Tryz.ntmps115
    go_wp2
    go_ret
    exact ⟨by rw [hw.out]; rfl, rfl⟩
  · have hw : Hid (way level = 0) := by unfold way; rw [if_neg h]; rfl
    have h' : (Go.bits .and .i64 level 1 == 1) = false := by simpa using h
    clear h
    go_enter Tryz.func115, Tryz.ntmps115
    go_wp2
    go_ret
    exact ⟨by rw [hw.out]; rfl, rfl⟩
def letter (c : Int) : Int × Bool := if c = 3 ∨ c = 6 then (1, true) else if c = 0 ∨ c = 1 then (c, true) else (0, false)
theorem letter_any (c : Int) (w : World) : Calls Tryz.prog 116 #[.int .i64 c] w fun e w' => e = .returned (.tuple #[.int .i64 (letter c).1, .bool (letter c).2]) ∧ w = w' := by
  by_cases h3 : c = 3
  · subst h3; go_enter Tryz.func116, Tryz.ntmps116
    go_wp2; go_ret2; exact ⟨rfl, rfl⟩
  by_cases h6 : c = 6
  · subst h6; go_enter Tryz.func116, Tryz.ntmps116
    go_wp2; go_ret2; exact ⟨rfl, rfl⟩
  by_cases h0 : c = 0
  · subst h0; go_enter Tryz.func116, Tryz.ntmps116
    go_wp2; go_ret2; exact ⟨rfl, rfl⟩
  by_cases h1 : c = 1
  · subst h1; go_enter Tryz.func116, Tryz.ntmps116
    go_wp2; go_ret2; exact ⟨rfl, rfl⟩
  have b3 : (c == 3) = false := by simpa using h3
  have b6 : (c == 6) = false := by simpa using h6
  have b0 : (c == 0) = false := by simpa using h0
  have b1 : (c == 1) = false := by simpa using h1
  have hl : Hid (letter c = (0, false)) := by unfold letter; rw [if_neg (by omega), if_neg (by omega)]; rfl
  clear h3 h6 h0 h1
  go_enter Tryz.func116, Tryz.ntmps116
  go_wp2; go_ret2; exact ⟨by rw [hl.out]; rfl, rfl⟩
def fillIn (xs : List Int) (i : Nat) (c : Int) : Nat → List Int
  | 0 => xs
  | d + 1 => fillIn (xs.set i c) (i + 1) c d
theorem fillIn_length (xs : List Int) (i : Nat) (c : Int) (d : Nat) : (fillIn xs i c d).length = xs.length := by
  induction d generalizing xs i with
  | zero => rfl
  | succ d ih => rw [fillIn, ih]; simp
def asOf (level ahead behind : Int) : Int := if ahead = behind then behind else way level
def BlkI (w : World) (b : Nat) (x : Int) : Prop := w.heap[b]? = some (.cells #[.int .i64 x] 3 (0, 0))
def BlkR (w : World) (b : Nat) (xs : List Int) : Prop := w.heap[b]? = some (.cells (nums .i64 xs).toArray 3 (0, 0))
structure Two (bf br : Nat) (w w' : World) : Prop where
  os : w'.os = w.os
  tape : w'.tape = w.tape
  output : w'.output = w.output
  size : w'.heap.size = w.heap.size
  block : ∀ k, k ≠ bf → k ≠ br → w'.heap[k]? = w.heap[k]?
theorem Two.refl (bf br : Nat) (w : World) : Two bf br w w := ⟨rfl, rfl, rfl, rfl, fun _ _ _ => rfl⟩
theorem Two.set {bf br : Nat} {w w' : World} (h : Two bf br w w') (a : Addr) (u : Value) (ha : a.block = bf ∨ a.block = br) : Two bf br w (w'.setCell a u) :=
  ⟨h.os, h.tape, h.output, by rw [← h.size]; simp [World.setCell], fun k h1 h2 => by rw [Below.heap_setCell _ _ _ _ (by rcases ha with e | e <;> rw [e] <;> assumption)]; exact h.block k h1 h2⟩
theorem fillIn_snoc (xs : List Int) (i : Nat) (c : Int) (d : Nat) : fillIn xs i c (d + 1) = (fillIn xs i c d).set (i + d) c := by
  induction d generalizing xs i with
  | zero => rfl
  | succ d ih => rw [fillIn, ih, fillIn]; congr 1; omega
theorem rowSet {w : World} {b : Nat} {xs : List Int} (h : BlkR w b xs) (i : Nat) (c : Int) : BlkR (w.setCell ⟨b, i, none⟩ (.int .i64 c)) b (xs.set i c) := by
  unfold BlkR at *
  have hlt := lt_of_block h
  have h' : w.heap[b] = .cells (nums .i64 xs).toArray 3 (0, 0) := by simpa [Array.getElem?_eq_getElem hlt] using h
  show (w.heap.modify b _)[b]? = _
  rw [Array.getElem?_eq_getElem (by simpa using hlt), Array.getElem_modify_self, h']
  simp [nums, List.map_set]
theorem cellRow {w : World} {b : Nat} {xs : List Int} (h : BlkR w b xs) (i : Nat) (hi : i < xs.length) : w.cell? ⟨b, i, none⟩ = some (.int .i64 (xs.getD i 0)) := by
  unfold BlkR at h
  simp [World.cell?, h, nums, List.getElem?_eq_getElem hi]
theorem freeRow {w : World} {b : Nat} {xs : List Int} (h : BlkR w b xs) (i : Nat) : w.frozen? ⟨b, i, none⟩ = false := by
  unfold BlkR at h
  simp [World.frozen?, h]
theorem blkOther {w : World} {b : Nat} {o : Option Obj} (h : w.heap[b]? = o) (a : Addr) (u : Value) (hne : b ≠ a.block) : (w.setCell a u).heap[b]? = o := by
  rw [Below.heap_setCell _ _ _ _ hne]; exact h
theorem stepFill {w wr : World} {bf br i j d : Nat} {xs : List Int} {c : Int} (n7 : bf ≠ br) (hlt : j < d) (hf1 : BlkI wr bf (i + j : Nat)) (hr1 : BlkR wr br (fillIn xs i c j)) (ht : Two bf br w wr) :
    ∃ j_1, j_1 ≤ d ∧ d + 1 - (j + 1) = d + 1 - j_1 ∧
      BlkI ((wr.setCell ⟨br, i + j, none⟩ (.int .i64 c)).setCell ⟨bf, 0, none⟩ (.int .i64 ((i : Int) + (j : Int) + 1))) bf (i + j_1 : Nat) ∧
      BlkR ((wr.setCell ⟨br, i + j, none⟩ (.int .i64 c)).setCell ⟨bf, 0, none⟩ (.int .i64 ((i : Int) + (j : Int) + 1))) br (fillIn xs i c j_1) ∧
      Two bf br w ((wr.setCell ⟨br, i + j, none⟩ (.int .i64 c)).setCell ⟨bf, 0, none⟩ (.int .i64 ((i : Int) + (j : Int) + 1))) := by
  refine ⟨j + 1, hlt, rfl, ?_, ?_, (ht.set _ _ (.inr rfl)).set _ _ (.inl rfl)⟩
  · have e : ((i + (j + 1) : Nat) : Int) = (i : Int) + (j : Int) + 1 := by omega
    rw [e]
    exact one_setCell (blkOther hf1 _ _ n7)
  · rw [fillIn_snoc]
    exact blkOther (rowSet hr1 (i + j) c) _ _ (Ne.symm n7)
set_option maxHeartbeats 1000000 in
theorem fill_any (w : World) (bl ba bf bo br cap : Nat) (level ahead hi behind : Int) (xs : List Int) (i d : Nat)
    (hl : BlkI w bl level) (ha : BlkI w ba ahead) (hf : BlkI w bf i) (ho : w.heap[bo]? = some (.cells #[.slice (some ⟨br, 0, none⟩) xs.length cap] 25 (0, 0))) (hr : BlkR w br xs)
    (n5 : bo ≠ bf) (n6 : bo ≠ br) (n7 : bf ≠ br) (hto : hi = i + d ∨ (hi < i ∧ d = 0)) (hid : i + d ≤ xs.length) (hm : xs.length ≤ 140737488355328) :
    Calls Tryz.prog 114 #[.int .i64 hi, .int .i64 behind, .pointer (some ⟨bl, 0, none⟩), .pointer (some ⟨ba, 0, none⟩), .pointer (some ⟨bf, 0, none⟩), .pointer (some ⟨bo, 0, none⟩)] w fun e w' =>
      e = .returned (.tuple #[]) ∧ BlkI w' bf (i + d : Nat) ∧ BlkR w' br (fillIn xs i (asOf level ahead behind) d) ∧ Two bf br w w' := by
  have cl := cell_of_one hl
  have ca := cell_of_one ha
  have Hto := Lib.hid hto
  clear hto
  by_cases he : ahead = behind
  · have hb : (ahead == behind) = true := by simpa using he
    have Hc : Hid (asOf level ahead behind = behind) := by unfold asOf; rw [if_pos he]; rfl
    have He := Lib.hid he
    clear he
    rw [Hc.out]
    go_enter Tryz.func114, Tryz.ntmps114
    go_wp2_with (go_at_call 115; refine (way_any _ _).mono ?_; rintro e w' ⟨rfl, rfl⟩)
    go_loopg [15] (d + 1) (fun g v15 wr => ∃ j : Nat, j ≤ d ∧ g = d + 1 - j ∧ BlkI wr bf (i + j : Nat) ∧ BlkR wr br (fillIn xs i (behind) j) ∧ Two bf br w wr)
    case atStart => exact ⟨0, Nat.zero_le _, rfl, hf, hr, Two.refl _ _ _⟩
    case round =>
      obtain ⟨j, hj, hg, hf1, hr1, ht⟩ := hrel
      have cf := cell_of_one hf1
      have ff := free_of_one hf1
      have co := cell_of_one ((ht.block bo n5 n6).trans ho)
      have Hg := Lib.hid hg
      clear hg
      by_cases hlt : j < d
      · have cr : wr.cell? ⟨br, i + j, none⟩ = some (.int .i64 ((fillIn xs i (behind) j).getD (i + j) 0)) := cellRow hr1 _ (by rw [fillIn_length]; omega)
        have fr := freeRow hr1 (i + j)
        have hb1 : ((i : Int) + (j : Int)) < (xs.length : Int) := by omega
        have hb2 : (i : Int) + (j : Int) < hi := by have := Hto.out; omega
        have hb3 : 0 ≤ (i : Int) + (j : Int) := by omega
        have Hr := Lib.hid (stepFill n7 hlt hf1 hr1 ht)
        go_wp2
        go_roundg (d + 1 - (j + 1))
        case measure => have := Hg.out; omega
        case rel => exact Hr.out
      · have hb2 : ¬ (i : Int) + (j : Int) < hi := by have := Hto.out; omega
        have hjd : j = d := by omega
        subst hjd
        go_wp2
        go_end0
        exact ⟨rfl, hf1, hr1, ht⟩
  · have hb : (ahead == behind) = false := by simpa using he
    have Hc : Hid (asOf level ahead behind = way level) := by unfold asOf; rw [if_neg he]; rfl
    clear he
    rw [Hc.out]
    go_enter Tryz.func114, Tryz.ntmps114
    go_wp2_with (go_at_call 115; refine (way_any _ _).mono ?_; rintro e w' ⟨rfl, rfl⟩)
    go_loopg [15] (d + 1) (fun g v15 wr => ∃ j : Nat, j ≤ d ∧ g = d + 1 - j ∧ BlkI wr bf (i + j : Nat) ∧ BlkR wr br (fillIn xs i (way level) j) ∧ Two bf br w wr)
    case atStart => exact ⟨0, Nat.zero_le _, rfl, hf, hr, Two.refl _ _ _⟩
    case round =>
      obtain ⟨j, hj, hg, hf1, hr1, ht⟩ := hrel
      have cf := cell_of_one hf1
      have ff := free_of_one hf1
      have co := cell_of_one ((ht.block bo n5 n6).trans ho)
      have Hg := Lib.hid hg
      clear hg
      by_cases hlt : j < d
      · have cr : wr.cell? ⟨br, i + j, none⟩ = some (.int .i64 ((fillIn xs i (way level) j).getD (i + j) 0)) := cellRow hr1 _ (by rw [fillIn_length]; omega)
        have fr := freeRow hr1 (i + j)
        have hb1 : ((i : Int) + (j : Int)) < (xs.length : Int) := by omega
        have hb2 : (i : Int) + (j : Int) < hi := by have := Hto.out; omega
        have hb3 : 0 ≤ (i : Int) + (j : Int) := by omega
        have Hr := Lib.hid (stepFill n7 hlt hf1 hr1 ht)
        go_wp2
        go_roundg (d + 1 - (j + 1))
        case measure => have := Hg.out; omega
        case rel => exact Hr.out
      · have hb2 : ¬ (i : Int) + (j : Int) < hi := by have := Hto.out; omega
        have hjd : j = d := by omega
        subst hjd
        go_wp2
        go_end0
        exact ⟨rfl, hf1, hr1, ht⟩
def stt (l : List Int) (level sos : Int) : Nat → Int × Nat × List Int
  | 0 => (sos, 0, l)
  | k + 1 =>
    if (letter (l.getD k 0)).2 = true then
      ((letter (l.getD k 0)).1, k + 1, fillIn (stt l level sos k).2.2 (stt l level sos k).2.1 (asOf level (stt l level sos k).1 (letter (l.getD k 0)).1) (k - (stt l level sos k).2.1))
    else stt l level sos k
theorem stt_length (l : List Int) (level sos : Int) (k : Nat) : (stt l level sos k).2.2.length = l.length := by
  induction k with
  | zero => rfl
  | succ k ih => unfold stt; split <;> simp [fillIn_length, ih]
theorem stt_from (l : List Int) (level sos : Int) (k : Nat) : (stt l level sos k).2.1 ≤ k := by
  induction k with
  | zero => exact Nat.le_refl _
  | succ k ih =>
    unfold stt
    split
    · exact Nat.le_refl _
    · omega
def settle (l : List Int) (level sos eos : Int) : List Int :=
  fillIn (stt l level sos l.length).2.2 (stt l level sos l.length).2.1 (asOf level (stt l level sos l.length).1 eos) (l.length - (stt l level sos l.length).2.1)
theorem info3' : (Tryz.prog.info? 3).map (fun i => (i.zero, i.size, i.bytes)) = some (some (.int .i64 0), 1, 8) := by kernel_rfl
theorem size3' : (Tryz.prog.info? 3).map (·.size) = some 1 := by kernel_rfl
theorem copy_all (W : World) (g : Nat) (A0 : Option Addr) (c0 : Nat) (l0 : List Int) (cur : Array Value) (hg : W.heap[g]? = some (.cells cur 3 (0, 0))) (hs : cur.size = l0.length)
    (hr : ∀ j, j < l0.length → ∃ ad, A0 = some ad ∧ W.cell? (ad.add j) = some (.int .i64 (l0.getD j 0))) :
    ∃ W', (Builtin.copy_ #[25, 25] 3 #[.slice (some ⟨g, 0, none⟩) l0.length l0.length, .slice A0 l0.length c0]).run Tryz.prog W = .ok (.int .i64 l0.length) W' ∧ BlkR W' g l0 ∧ Two g g W W' := by
  by_cases h0 : l0.length = 0
  · refine ⟨W, ?_, ?_, Two.refl _ _ _⟩
    · have h := run_copy_none (P := Tryz.prog) W 25 25 3 3 (some ⟨g, 0, none⟩) A0 l0.length l0.length l0.length c0 Tryz.underlying25 size3' (by simp [h0])
      rw [h, h0]; rfl
    · have : l0 = [] := List.eq_nil_of_length_eq_zero h0
      subst this
      have : cur = #[] := Array.eq_empty_of_size_eq_zero (by simpa using hs)
      subst this
      exact hg
  · obtain ⟨ad, rfl, _⟩ := hr 0 (by omega)
    have h := run_copy_row (P := Tryz.prog) W 25 25 3 3 g 0 l0.length l0.length ad l0.length c0 cur 3 (nums .i64 l0) Tryz.underlying25 size3' hg (by simp [nums])
      (by intro j v hj
          simp only [nums, List.getElem?_map] at hj
          rcases Nat.lt_or_ge j l0.length with hlt | hge
          · obtain ⟨ad', e, hc⟩ := hr j hlt
            cases e
            rw [List.getElem?_eq_getElem hlt] at hj
            simp at hj
            rw [hc, ← hj]
            simp [hlt]
          · rw [List.getElem?_eq_none (by omega)] at hj; simp at hj)
      (by simp [nums]; omega) (by intro v hv; simp only [nums, List.mem_map] at hv; obtain ⟨x, _, rfl⟩ := hv; rfl)
    refine ⟨W.setRow g (cur.toList.take 0 ++ nums .i64 l0 ++ cur.toList.drop (0 + (nums .i64 l0).length)).toArray, by rw [h]; simp [nums, goInt], ?_, ⟨rfl, rfl, rfl, by simp [World.setRow], fun k hk _ => setRow_other W g k _ hk⟩⟩
    unfold BlkR
    rw [setRow_heap W g _ _ 3 _ hg]
    simp [nums]
    omega
structure StS (w : World) (l0 : List Int) (a1 a2 : Int) (k : Nat) (wr : World) : Prop where
  lv : BlkI wr w.heap.size a1
  row : BlkR wr (w.heap.size + 1) (stt l0 a1 a2 k).2.2
  out : wr.heap[w.heap.size + 2]? = some (.cells #[.slice (some ⟨w.heap.size + 1, 0, none⟩) l0.length l0.length] 25 (0, 0))
  ahead : BlkI wr (w.heap.size + 3) (stt l0 a1 a2 k).1
  frm : BlkI wr (w.heap.size + 4) (stt l0 a1 a2 k).2.1
  bel : Below w.heap.size w wr
end Go.Proofs.YtdpifkhkemeclaaGreat.Nt
namespace Go.Proofs.YtdpifkhkemeclaaGreat.Nt
open Go.RowKit Go.Proofs.YtdpifkhkemeclaaGreatW.PrintWords
theorem stS_start {w W1 : World} {l0 : List Int} {a1 a2 : Int} {cur : Array Value}
    (hrow : BlkR W1 (w.heap.size + 1) l0)
    (ht : Two (w.heap.size + 1) (w.heap.size + 1) (((w.alloc (.cells #[.int .i64 a1] 3)).alloc (.cells cur 3)).alloc (.cells #[.slice (some ⟨w.heap.size + 1, 0, none⟩) l0.length l0.length] 25)) W1) :
    StS w l0 a1 a2 0 ((W1.alloc (.cells #[.int .i64 a2] 3)).alloc (.cells #[.int .i64 0] 3)) := by
  have hsz : W1.heap.size = w.heap.size + 3 := by rw [ht.size]; simp
  refine ⟨?_, ?_, ?_, ?_, ?_, ?_⟩
  · unfold BlkI
    rw [heap_alloc_old _ _ (by simp; omega), heap_alloc_old _ _ (by omega), ht.block _ (by omega) (by omega), heap_alloc_old _ _ (by simp; omega), heap_alloc_old _ _ (by simp), heap_alloc_new]
  · unfold BlkR
    rw [heap_alloc_old _ _ (by simp; omega), heap_alloc_old _ _ (by omega)]
    exact hrow
  · rw [heap_alloc_old _ _ (by simp; omega), heap_alloc_old _ _ (by omega), ht.block _ (by omega) (by omega)]
    have := heap_alloc_new ((w.alloc (.cells #[.int .i64 a1] 3)).alloc (.cells cur 3)) (.cells #[.slice (some ⟨w.heap.size + 1, 0, none⟩) l0.length l0.length] 25)
    simpa using this
  · unfold BlkI
    rw [heap_alloc_old _ _ (by simp; omega)]
    have := heap_alloc_new W1 (.cells #[.int .i64 a2] 3)
    rw [hsz] at this
    exact this
  · unfold BlkI
    have := heap_alloc_new (W1.alloc (.cells #[.int .i64 a2] 3)) (.cells #[.int .i64 0] 3)
    rw [show (W1.alloc (.cells #[.int .i64 a2] 3)).heap.size = w.heap.size + 4 by simp [hsz]] at this
    exact this
  · have hb0 : Below w.heap.size w (((w.alloc (.cells #[.int .i64 a1] 3)).alloc (.cells cur 3)).alloc (.cells #[.slice (some ⟨w.heap.size + 1, 0, none⟩) l0.length l0.length] 25)) :=
      (((Below.refl _ _).alloc (Nat.le_refl _) _).alloc (by simp) _).alloc (by simp; omega) _
    have hb1 : Below w.heap.size w W1 := hb0.trans ⟨ht.os, ht.tape, ht.output, by rw [ht.size]; exact Nat.le_refl _, fun k hk => ht.block k (by omega) (by omega)⟩
    exact (hb1.alloc (by omega) _).alloc (by simp; omega) _
theorem stS_skip {w wr : World} {l0 : List Int} {a1 a2 : Int} {k : Nat} (h : StS w l0 a1 a2 k wr) (hl : (letter (l0.getD k 0)).2 = false) : StS w l0 a1 a2 (k + 1) wr := by
  have e : stt l0 a1 a2 (k + 1) = stt l0 a1 a2 k := by rw [stt, if_neg (by rw [hl]; simp)]
  exact ⟨h.lv, by rw [e]; exact h.row, h.out, by rw [e]; exact h.ahead, by rw [e]; exact h.frm, h.bel⟩
theorem stS_step {w wr w' : World} {l0 : List Int} {a1 a2 : Int} {k : Nat} {x : Int} (h : StS w l0 a1 a2 k wr) (hl : (letter (l0.getD k 0)).2 = true)
    (hr : BlkR w' (w.heap.size + 1) (fillIn (stt l0 a1 a2 k).2.2 (stt l0 a1 a2 k).2.1 (asOf a1 (stt l0 a1 a2 k).1 (letter (l0.getD k 0)).1) (k - (stt l0 a1 a2 k).2.1)))
    (hf : BlkI w' (w.heap.size + 4) x) (ht : Two (w.heap.size + 4) (w.heap.size + 1) wr w') :
    StS w l0 a1 a2 (k + 1) ((w'.setCell ⟨w.heap.size + 3, 0, none⟩ (.int .i64 (letter (l0.getD k 0)).1)).setCell ⟨w.heap.size + 4, 0, none⟩ (.int .i64 ((k : Int) + 1))) := by
  have e : stt l0 a1 a2 (k + 1) = ((letter (l0.getD k 0)).1, k + 1, fillIn (stt l0 a1 a2 k).2.2 (stt l0 a1 a2 k).2.1 (asOf a1 (stt l0 a1 a2 k).1 (letter (l0.getD k 0)).1) (k - (stt l0 a1 a2 k).2.1)) := by
    rw [stt, if_pos hl]
  have ha : BlkI w' (w.heap.size + 3) (stt l0 a1 a2 k).1 := (ht.block _ (by omega) (by omega)).trans h.ahead
  refine ⟨?_, ?_, ?_, ?_, ?_, ?_⟩
  · exact blkOther (blkOther ((ht.block _ (by omega) (by omega)).trans h.lv) _ _ (by simp)) _ _ (by simp)
  · rw [e]; exact blkOther (blkOther hr _ _ (by simp)) _ _ (by simp)
  · exact blkOther (blkOther ((ht.block _ (by omega) (by omega)).trans h.out) _ _ (by simp)) _ _ (by simp)
  · rw [e]; exact blkOther (one_setCell ha) _ _ (by simp)
  · rw [e]; exact one_setCell (blkOther hf _ _ (by simp))
  · have hb1 : Below w.heap.size w w' := h.bel.trans ⟨ht.os, ht.tape, ht.output, by rw [ht.size]; exact Nat.le_refl _, fun k hk => ht.block k (by omega) (by omega)⟩
    exact (hb1.setCell (by simp) _).setCell (by simp) _
end Go.Proofs.YtdpifkhkemeclaaGreat.Nt
namespace Go.Proofs.YtdpifkhkemeclaaGreat
open Go.RowKit Go.Proofs.YtdpifkhkemeclaaGreatW.PrintWords Nt
def neutral_Settle.f (l0 : List Int) (a1 a2 a3 : Int) : Option (List Int) := if l0.length ≤ 17592186044416 then some (Nt.settle l0 a1 a2 a3) else none
set_option maxRecDepth 100000 in
set_option maxHeartbeats 1000000 in
theorem neutral_Settle.calls (A0 : Option Addr) (c0 : Nat) (l0 : List Int) (a1 a2 a3 : Int) (r : List Int) (w : World) (hr0 : Kd.C (Kd.int .i64) w A0 l0.length l0) (hc0 : l0.length ≤ c0) (h : neutral_Settle.f l0 a1 a2 a3 = some r) :
    Calls Tryz.prog 68 #[.slice A0 l0.length c0, .int .i64 a1, .int .i64 a2, .int .i64 a3] w fun e w' => ∃ v0_ : Value, e = .returned (v0_) ∧ Kd.R (Kd.int .i64) 3 w' w.heap.size (fun _ => True) v0_ r ∧ Below w.heap.size w w' := by
  unfold neutral_Settle.f at h
  by_cases hm : l0.length ≤ 17592186044416
  case neg => rw [if_neg hm] at h; cases h
  rw [if_pos hm] at h
  have h := Option.some.inj h
  have Hres := Lib.hid h
  clear h
  have hmk := fun W : World => run_make_row' (P := Tryz.prog) 25 3 (.int .i64 0) 8 Tryz.underlying25 info3' rfl .i64 .i64 l0.length (by omega) (by omega) W
  obtain ⟨W1, hcp, hrow, ht⟩ := copy_all (((w.alloc (.cells #[.int .i64 a1] 3)).alloc (.cells (madeCells #[.int .i64 0] l0.length) 3)).alloc (.cells #[.slice (some ⟨w.heap.size + 1, 0, none⟩) l0.length l0.length] 25)) (w.heap.size + 1) A0 c0 l0 (madeCells #[.int .i64 0] l0.length) (by
      rw [heap_alloc_old _ _ (by simp)]
      have := heap_alloc_new (w.alloc (.cells #[.int .i64 a1] 3)) (.cells (madeCells #[.int .i64 0] l0.length) 3)
      simpa using this) (by simp [madeCells]) (fun j hj => by
      obtain ⟨ad, e, hc⟩ := Kd.at_int hr0 (j : Int) (by omega) (by omega)
      have hlt := World.block_lt_of_cell? w _ hc
      refine ⟨ad, e, ?_⟩
      have hc' : w.cell? (ad.add j) = some (.int .i64 (l0.getD j 0)) := by simpa [rd] using hc
      have hlt' := World.block_lt_of_cell? w _ hc'
      have hb0 : Below w.heap.size w (((w.alloc (.cells #[.int .i64 a1] 3)).alloc (.cells (madeCells #[.int .i64 0] l0.length) 3)).alloc (.cells #[.slice (some ⟨w.heap.size + 1, 0, none⟩) l0.length l0.length] 25)) :=
        (((Below.refl _ _).alloc (Nat.le_refl _) _).alloc (by simp) _).alloc (by simp; omega) _
      rw [hb0.cell hlt']; exact hc')
  have hsz : W1.heap.size = w.heap.size + 1 + 1 + 1 := by rw [ht.size]; simp
  have hst := stS_start (a2 := a2) hrow ht
  have hm' : l0.length ≤ 140737488355328 := by omega
  have Hm := Lib.hid hm
  clear hm
  have HC := Aside0.mk hr0
  clear hr0
  have Ht := Lib.hid ht
  clear ht
  have Hrow := Lib.hid hrow
  clear hrow
  go_enter Tryz.func68, Tryz.ntmps68
  go_wp2
  go_loopg [27] (l0.length + 1) (fun g v27 wr => ∃ k : Nat, k ≤ l0.length ∧ g = l0.length + 1 - k ∧ v27 = .int .i64 k ∧ StS w l0 a1 a2 k wr)
  case atStart => exact ⟨0, Nat.zero_le _, rfl, rfl, hst⟩
  case round =>
    clear hcp hmk hst
    obtain ⟨k, hk, hg, rfl, hS⟩ := hrel
    have Hg := Lib.hid hg
    clear hg
    by_cases hlt : k < l0.length
    · obtain ⟨ad, e, hc⟩ := Kd.at_int HC.out (k : Int) (by omega) (by omega)
      cases e
      have hc' : w.cell? (ad.add k) = some (.int .i64 (l0.getD k 0)) := by simpa [rd] using hc
      have hblk := World.block_lt_of_cell? w _ hc'
      obtain ⟨c, hcc⟩ : ∃ c, c = l0.getD k 0 := ⟨_, rfl⟩
      have hcx : wr.cell? (ad.add k) = some (.int .i64 c) := by rw [hS.bel.cell hblk, hcc]; exact hc'
      clear hc hc' hblk
      have hlt' : (k : Int) < (l0.length : Int) := by omega
      by_cases hl : (letter c).2 = true
      · have hcc' := Lib.hid hcc
        have HS2 := fun w' x => @stS_step w wr w' l0 a1 a2 k x hS (by rw [← hcc]; exact hl)
        rw [← hcc] at HS2
        clear hcc
        have HSS := Lib.hid HS2
        clear HS2
        obtain ⟨dd, hdd⟩ : ∃ dd, dd = k - (stt l0 a1 a2 k).2.1 := ⟨_, rfl⟩
        have hfr := stt_from l0 a1 a2 k
        have hle := stt_length l0 a1 a2 k
        have FA := fun b : Int => fill_any wr w.heap.size (w.heap.size + 1 + 1 + 1) (w.heap.size + 1 + 1 + 1 + 1) (w.heap.size + 1 + 1) (w.heap.size + 1) l0.length a1 (stt l0 a1 a2 k).1 k b (stt l0 a1 a2 k).2.2 (stt l0 a1 a2 k).2.1 dd
          hS.lv hS.ahead hS.frm (by rw [hle]; exact hS.out) hS.row (by omega) (by omega) (by omega) (.inl (by omega)) (by omega) (by omega)
        rw [hdd] at FA
        have HFA := Lib.hid FA
        clear FA hfr hle
        have HSS0 := Lib.hid hS
        clear hS
        have Hdd := Lib.hid hdd
        clear hdd
        go_wp2_with (first
          | (go_at_call 116; refine (letter_any _ _).mono ?_; rintro e w' ⟨rfl, rfl⟩)
          | (go_at_call 114; refine (HFA.out _).mono ?_; rintro e w2 ⟨rfl, hf2, hr2, ht2⟩; have Hf2 := Lib.hid hf2; have Hr2 := Lib.hid hr2; have Ht2 := Lib.hid ht2; have c4 := cell_of_one hf2; have f4 := free_of_one hf2; have c3 := cell_of_one ((ht2.block _ (by omega) (by omega)).trans HSS0.out.ahead); have f3 := free_of_one ((ht2.block _ (by omega) (by omega)).trans HSS0.out.ahead); clear hf2 hr2 ht2))
        go_roundg (l0.length + 1 - (k + 1))
        case measure => have := Hg.out; omega
        case rel => exact ⟨k + 1, hlt, rfl, by go_num, HSS.out _ _ Hr2.out Hf2.out Ht2.out⟩
      · have hl' : (letter c).2 = false := by simpa using hl
        clear hl
        have HSS := Lib.hid (stS_skip hS (by rw [← hcc]; exact hl'))
        clear hcc hS
        go_wp2_with (first
          | (go_at_call 116; refine (letter_any _ _).mono ?_; rintro e w' ⟨rfl, rfl⟩))
        go_roundg (l0.length + 1 - (k + 1))
        case measure => have := Hg.out; omega
        case rel => exact ⟨k + 1, hlt, rfl, by go_num, HSS.out⟩
    · have hkl : k = l0.length := by omega
      have hlt' : ¬ (k : Int) < (l0.length : Int) := by omega
      have hfr := stt_from l0 a1 a2 k
      have hle := stt_length l0 a1 a2 k
      obtain ⟨dd, hdd⟩ : ∃ dd, dd = k - (stt l0 a1 a2 k).2.1 := ⟨_, rfl⟩
      have FA := fill_any wr w.heap.size (w.heap.size + 1 + 1 + 1) (w.heap.size + 1 + 1 + 1 + 1) (w.heap.size + 1 + 1) (w.heap.size + 1) l0.length a1 (stt l0 a1 a2 k).1 l0.length a3 (stt l0 a1 a2 k).2.2 (stt l0 a1 a2 k).2.1 dd
          hS.lv hS.ahead hS.frm (by rw [hle]; exact hS.out) hS.row (by omega) (by omega) (by omega) (.inl (by omega)) (by omega) (by omega)
      have HFA := Lib.hid FA
      have Hkl := Lib.hid hkl
      have HSS0 := Lib.hid hS
      have Hdd := Lib.hid hdd
      have Hle := Lib.hid hle
      clear FA hfr hle hkl hS hdd
      go_wp2_with (first
          | (go_at_call 114; refine HFA.out.mono ?_; rintro e w2 ⟨rfl, hf2, hr2, ht2⟩; have Hf2 := Lib.hid hf2; have Hr2 := Lib.hid hr2; have Ht2 := Lib.hid ht2; have c3 := cell_of_one ((ht2.block _ (by omega) (by omega)).trans HSS0.out.out); clear hf2 hr2 ht2))
      go_ret
      have hkl := Hkl.out
      have hle := Hle.out
      have hr2 := Hr2.out
      have ht2 := Ht2.out
      have hres : r = fillIn (stt l0 a1 a2 k).2.2 (stt l0 a1 a2 k).2.1 (asOf a1 (stt l0 a1 a2 k).1 a3) dd := by
        rw [← Hres.out, Hdd.out, hkl]; rfl
      have hlen : r.length = l0.length := by rw [hres, fillIn_length, hle]
      refine ⟨_, rfl, ?_, ?_⟩
      · refine Kd.R_of_own ?_ (fun _ _ => trivial)
        refine ⟨by simp [encs], .inr ⟨w.heap.size + 1, l0.length, (nums .i64 r).toArray, by rw [hlen]; rfl, by omega, by rw [hres]; exact hr2, by omega, by unfold maxLen; omega, by simp [nums, hlen], by rw [List.take_of_length_le (by simp [nums])]; rfl⟩⟩
      · exact HSS0.out.bel.trans ⟨ht2.os, ht2.tape, ht2.output, by rw [ht2.size]; exact Nat.le_refl _, fun j hj => ht2.block j (by omega) (by omega)⟩
end Go.Proofs.YtdpifkhkemeclaaGreat
