/- The table of brackets and mirrored signs, as the code lays it. The search in the table of brackets, walked. mirror.find, walked: a sign's counterpart, by the table. mirror.Pair, mirror.Form, mirror.Meet, walked. -/
import Derived.Test.YtdpifkhkemeclaaGreatZa
import Derived.Deep.LoopGhost
import Derived.OwnWalk
import Derived.Test.YtdpifkhkemeclaaGreatVMore
import Derived.RegionTactic
import Derived.Deep.CutBlock
import Derived.Deep.DeepCutAuto
set_option linter.unusedVariables false
set_option linter.unusedSimpArgs false
namespace Go.Proofs.YtdpifkhkemeclaaGreat
open Go.RowKit
def rowL : List (Int × Int × Int × Bool) := [(40, 41, 1, true), (60, 62, 2, false), (91, 93, 2, true), (123, 125, 2, true), (171, 187, 16, false), (3898, 3901, 1, true), (5787, 5788, 1, true), (8249, 8250, 1, false), (8261, 8262, 1, true), (8317, 8318, 1, true), (8333, 8334, 1, true), (8712, 8717, 3, false), (8764, 8765, 1, false), (8804, 8811, 1, false), (8814, 8841, 1, false), (8847, 8850, 1, false), (8866, 8867, 1, false), (8882, 8885, 1, false), (8912, 8913, 1, false), (8918, 8941, 1, false), (8968, 8971, 1, true), (9001, 9002, 1, true), (10088, 10101, 1, true), (10181, 10182, 1, true), (10214, 10223, 1, true), (10627, 10636, 1, true), (10641, 10648, 1, true), (10712, 10715, 1, true), (10748, 10749, 1, true), (11810, 11817, 1, true), (12296, 12305, 1, true), (12308, 12315, 1, true), (65113, 65118, 1, true), (65288, 65289, 1, true), (65339, 65341, 2, true), (65371, 65373, 2, true), (65375, 65376, 1, true), (65378, 65379, 1, true)]
def rowV : Array Value := (rowL.flatMap fun x => [Value.int .i64 x.1, Value.int .i64 x.2.1, Value.int .i64 x.2.2.1, Value.bool x.2.2.2]).toArray
def rowZ : Array Value := ((List.replicate 38 [Value.int .i64 0, Value.int .i64 0, Value.int .i64 0, Value.bool false]).flatten).toArray
theorem all79 (w : World) : (Instr.alloc 146 true (.tuple #[])).run Tryz.prog w = .ok (.pointer (some ⟨w.heap.size, 0, none⟩)) (w.alloc (.cells rowZ 146)) := by kernel_rfl
theorem size79 : (Tryz.prog.info? 146).map (·.size) = some 152 := by kernel_rfl
theorem one79 : rowV.all (·.oneCell') = true := by kernel_rfl
theorem zs79 : rowZ.size = rowV.size := by kernel_rfl
theorem wpList_alloc79 {ops : Array Oper} {rest : List Oper} {o : Oper} {a : Act} {w : World} {Q : Exit → Act → World → Prop} (hg : o.guard = none) (ho : o.op = .alloc 146)
    (h : wpList Tryz.prog ops Q rest (a.put o.dst (.pointer (some ⟨w.heap.size, 0, none⟩))) (w.alloc (.cells rowZ 146))) : wpList Tryz.prog ops Q (o :: rest) a w := by
  refine wpList_plain hg fun K hK => ?_
  unfold Oper.wp execOp
  simp only [ho, Sem.run_bind, all79, Result.andThen_ok, Sem.run_pure]
  exact hK _ _ h
noncomputable def rowAl : Oper := match Tryz.f129.body with
  | some (.seq (.region _ ops false) _) => ops.toList.headD default
  | _ => default
noncomputable def rowOps : List Oper := match Tryz.f129.body with
  | some (.seq _ (.seq (.region _ ops false) _)) => ops.toList
  | _ => []
noncomputable def rowBuilds : List Oper := rowOps.take 77
noncomputable def rowSt : Oper := (rowOps.drop 77).headD default
set_option maxRecDepth 1000000 in
theorem body54 : Tryz.f129.body = some (.seq (.region 0 #[rowAl] false) (.seq (.region 1 (rowBuilds ++ [rowSt]).toArray false) .ret)) := by kernel_rfl
theorem foldOps_app {P : Program} {ops : Array Oper} {Q : Exit → Act → World → Prop} (l r : List Oper) : ∀ a w z, Base.foldOps P l a w = some z → wpList P ops Q r z.1 z.2 → wpList P ops Q (l ++ r) a w := by
  induction l with
  | nil => intro a w z h q; cases h; exact q
  | cons o l ih =>
    intro a w z h q
    unfold Base.foldOps at h
    split at h
    · cases h
    · rename_i hg
      split at h
      · rename_i v w' hr
        refine wpList_plain hg fun K hK => ?_
        unfold Oper.wp
        rw [hr]
        exact hK _ _ (ih _ _ z h q)
      · rename_i w' hr
        refine wpList_plain hg fun K hK => ?_
        unfold Oper.wp
        rw [hr]
        exact hK _ _ (ih _ _ z h q)
      · cases h
set_option maxRecDepth 1000000 in
theorem row_fold (p : Value) (W : World) : (Base.foldOps Tryz.prog rowBuilds { tmps := #[p] ++ Array.replicate 77 undef, defers := [] } W).map (fun z => (z.1.tmps.getD 77 undef, z.1.tmps.getD 0 undef, z.1.defers.isEmpty, z.2)) = some (.agg rowV, p, true, W) := by kernel_rfl
set_option maxRecDepth 1000000 in
theorem rows_any (w : World) : Calls Tryz.prog 129 #[] w fun e w' => e = .returned (.agg rowV) ∧ w' = w.alloc (.cells rowV 146) := by
  refine calls_of_wp Tryz.func129 body54 ?_
  refine wp_seq (wp_region_list (wpList_alloc79 (by kernel_rfl) (by kernel_rfl) ?_))
  have hput : (({ tmps := #[] ++ Array.replicate (Tryz.f129.ntmps - (#[] : Array Value).size) undef, defers := [] } : Act).put rowAl.dst (.pointer (some ⟨w.heap.size, 0, none⟩))) = { tmps := #[.pointer (some ⟨w.heap.size, 0, none⟩)] ++ Array.replicate 77 undef, defers := [] } := by kernel_rfl
  rw [hput]
  obtain ⟨z, hz, hv⟩ := Option.map_eq_some_iff.1 (row_fold (.pointer (some ⟨w.heap.size, 0, none⟩)) (w.alloc (.cells rowZ 146)))
  simp only [Prod.mk.injEq] at hv
  obtain ⟨h1, h2, h3, h4⟩ := hv
  have hd : z.1.defers = [] := List.isEmpty_iff.1 h3
  refine wp_seq (wp_region_list ?_)
  refine foldOps_app rowBuilds [rowSt] _ _ z hz ?_
  rw [h4]
  refine wpList_store_row (by kernel_rfl) 146 (.tmp 0) (.tmp 77) (by kernel_rfl) w.heap.size rowV h2 h1 146 rowZ (heap_alloc_new w _) (by rw [size79]; rfl) zs79 one79 ?_
  rw [set_alloc]
  refine wp_ret ?_
  refine bodyPost_ret (v := .agg rowV) ?_ ?_ ⟨rfl, rfl⟩
  · rw [results_cell Tryz.results129]
    have e : (z.1.put rowSt.dst undef).tmps.getD 0 undef = .pointer (some ⟨w.heap.size, 0, none⟩) := h2
    rw [e]
    exact run_loadVar_row (w.alloc (.cells rowV 146)) w.heap.size 146 146 rowV (0, 0) _ (heap_alloc_new w _) Tryz.underlying146 rfl (by rw [size79]; rfl)
  · exact hd
end Go.Proofs.YtdpifkhkemeclaaGreat
namespace Go.Proofs.YtdpifkhkemeclaaGreat
open Go.RowKit
def frS (k : Nat) : Int := (rowL.getD k (0, 0, 0, false)).1
def toS (k : Nat) : Int := (rowL.getD k (0, 0, 0, false)).2.1
def apS (k : Nat) : Int := (rowL.getD k (0, 0, 0, false)).2.2.1
def brS (k : Nat) : Bool := (rowL.getD k (0, 0, 0, false)).2.2.2
def sideP (a b code : Int) : Int := if code < a then 1 else if b < code then -1 else 0
theorem side_any (a b c : Int) (d : Bool) (code : Int) (w : World) : Calls Tryz.prog 131 #[.agg #[.int .i64 a, .int .i64 b, .int .i64 c, .bool d], .int .i64 code] w fun e w' => e = .returned (.int .i64 (sideP a b code)) ∧ Below w.heap.size w w' := by
  by_cases h2 : code < a
  · have Hs : Hid (sideP a b code = 1) := by unfold sideP; rw [if_pos h2]; rfl
    have b2 : decide (a > code) = true := decide_eq_true h2
    go_enter Tryz.func131, Tryz.ntmps131
    go_wp2
    go_ret
    exact ⟨by rw [Hs.out]; rfl, (Below.refl _ _).alloc (Nat.le_refl _) _⟩
  · have b2 : decide (a > code) = false := decide_eq_false h2
    by_cases h1 : b < code
    · have Hs : Hid (sideP a b code = -1) := by unfold sideP; rw [if_neg h2, if_pos h1]; rfl
      have b1 : decide (b < code) = true := decide_eq_true h1
      go_enter Tryz.func131, Tryz.ntmps131
      go_wp2
      go_ret
      exact ⟨by rw [Hs.out]; rfl, (Below.refl _ _).alloc (Nat.le_refl _) _⟩
    · have Hs : Hid (sideP a b code = 0) := by unfold sideP; rw [if_neg h2, if_neg h1]; rfl
      have b1 : decide (b < code) = false := decide_eq_false h1
      go_enter Tryz.func131, Tryz.ntmps131
      go_wp2
      go_ret
      exact ⟨by rw [Hs.out]; rfl, (Below.refl _ _).alloc (Nat.le_refl _) _⟩
def bsGo (code : Int) : Nat → Nat → Nat → Nat
  | 0, i, _ => i
  | f + 1, i, j => if i < j then (if sideP (frS ((i + j) / 2)) (toS ((i + j) / 2)) code < 0 then bsGo code f ((i + j) / 2 + 1) j else bsGo code f i ((i + j) / 2)) else i
theorem bsGo_fuel (code : Int) : ∀ (f f' i j : Nat), j - i ≤ f → j - i ≤ f' → bsGo code f i j = bsGo code f' i j := by
  intro f
  induction f with
  | zero =>
    intro f' i j h h'
    have hij : ¬ i < j := by omega
    cases f' with
    | zero => rfl
    | succ f' => rw [bsGo, bsGo, if_neg hij]
  | succ f ih =>
    intro f' i j h h'
    by_cases hij : i < j
    · cases f' with
      | zero => omega
      | succ f' =>
        rw [bsGo, bsGo, if_pos hij, if_pos hij]
        split
        · exact ih _ _ _ (by omega) (by omega)
        · exact ih _ _ _ (by omega) (by omega)
    · rw [bsGo, if_neg hij]
      cases f' with
      | zero => rfl
      | succ f' => rw [bsGo, if_neg hij]
def bs (code : Int) : Nat := bsGo code 50 0 38
def hitS (code : Int) : Bool := decide (bs code < 38) && (sideP (frS (bs code)) (toS (bs code)) code == 0)
theorem rowV_at (k : Nat) (hk : k < 38) : rowV[k * 4]? = some (.int .i64 (frS k)) ∧ rowV[k * 4 + 1]? = some (.int .i64 (toS k)) ∧ rowV[k * 4 + 2]? = some (.int .i64 (apS k)) ∧ rowV[k * 4 + 3]? = some (.bool (brS k)) := by
  have gen : ∀ (l : List (Int × Int × Int × Bool)) (k : Nat), k < l.length →
      (l.flatMap fun x => [Value.int .i64 x.1, Value.int .i64 x.2.1, Value.int .i64 x.2.2.1, Value.bool x.2.2.2])[k * 4]? = some (.int .i64 (l.getD k (0, 0, 0, false)).1) ∧
      (l.flatMap fun x => [Value.int .i64 x.1, Value.int .i64 x.2.1, Value.int .i64 x.2.2.1, Value.bool x.2.2.2])[k * 4 + 1]? = some (.int .i64 (l.getD k (0, 0, 0, false)).2.1) ∧
      (l.flatMap fun x => [Value.int .i64 x.1, Value.int .i64 x.2.1, Value.int .i64 x.2.2.1, Value.bool x.2.2.2])[k * 4 + 2]? = some (.int .i64 (l.getD k (0, 0, 0, false)).2.2.1) ∧
      (l.flatMap fun x => [Value.int .i64 x.1, Value.int .i64 x.2.1, Value.int .i64 x.2.2.1, Value.bool x.2.2.2])[k * 4 + 3]? = some (.bool (l.getD k (0, 0, 0, false)).2.2.2) := by
    intro l
    induction l with
    | nil => intro k h; simp at h
    | cons x l ih =>
      intro k h
      cases k with
      | zero => simp
      | succ k =>
        have := ih k (by simpa using h)
        rw [show (k + 1) * 4 = k * 4 + 4 by omega]
        simpa using this
  have h := gen rowL k hk
  unfold rowV frS toS apS brS
  simpa using h
set_option maxRecDepth 100000 in
set_option maxHeartbeats 1000000 in
theorem search_any (g : Nat) (code : Int) (w : World) (hg : w.heap[g]? = some (.cells rowV 146 (0, 0))) (hlt : g < w.heap.size) :
    Calls Tryz.prog 130 #[.slice (some ⟨g, 0, none⟩) 38 38, .int .i64 code, .func (.func 131) #[] #[]] w fun e w' =>
      e = .returned (.tuple #[.int .i64 (bs code), .bool (hitS code)]) ∧ Below w.heap.size w w' := by
  go_enter Tryz.func130, Tryz.ntmps130
  go_wp2_with fail
  go_loopg [9, 10] 42 (fun n v9 v10 wr => ∃ i j : Nat, i ≤ j ∧ j ≤ 38 ∧ v9 = .int .i64 i ∧ v10 = .int .i64 j ∧ j - i < n ∧ Hid (bsGo code 50 i j = bs code) ∧ Below w.heap.size w wr)
  case atStart => exact ⟨0, 38, by omega, by omega, rfl, rfl, by omega, rfl, Below.refl _ _⟩
  case round =>
    obtain ⟨i, j, hij, hj, rfl, rfl, hn, hbs, hb⟩ := hrel
    by_cases hlt' : i < j
    · have t1 : (i : Int) < (j : Int) := by omega
      have hlen : (i + j) / 2 < 38 := by omega
      have hgr : wr.heap[g]? = some (.cells rowV 146 (0, 0)) := (hb.block g hlt).trans hg
      obtain ⟨q0, q1, q2, q3⟩ := rowV_at ((i + j) / 2) hlen
      obtain ⟨A, hA⟩ : ∃ A, A = frS ((i + j) / 2) := ⟨_, rfl⟩
      obtain ⟨B, hB⟩ : ∃ B, B = toS ((i + j) / 2) := ⟨_, rfl⟩
      obtain ⟨C, hC⟩ : ∃ C, C = apS ((i + j) / 2) := ⟨_, rfl⟩
      obtain ⟨D, hD⟩ : ∃ D, D = brS ((i + j) / 2) := ⟨_, rfl⟩
      have c0 : wr.cell? ⟨g, (i + j) / 2 * 4, none⟩ = some (.int .i64 A) := by rw [cell_of_row _ _ _ _ _ _ hgr, hA]; exact q0
      have c1 : wr.cell? ⟨g, (i + j) / 2 * 4 + 1, none⟩ = some (.int .i64 B) := by rw [cell_of_row _ _ _ _ _ _ hgr, hB]; exact q1
      have c2 : wr.cell? ⟨g, (i + j) / 2 * 4 + 2, none⟩ = some (.int .i64 C) := by rw [cell_of_row _ _ _ _ _ _ hgr, hC]; exact q2
      have c3 : wr.cell? ⟨g, (i + j) / 2 * 4 + 3, none⟩ = some (.bool D) := by rw [cell_of_row _ _ _ _ _ _ hgr, hD]; exact q3
      have b0 : 0 ≤ ((i : Int) + (j : Int)) / 2 := by omega
      have b1 : ((i : Int) + (j : Int)) / 2 < 38 := by omega
      have HA := Lib.hid hA
      have HB := Lib.hid hB
      clear hgr q0 q1 q2 q3 hA hB hC hD
      have step : bsGo code 50 i j = if sideP A B code < 0 then bsGo code 50 ((i + j) / 2 + 1) j else bsGo code 50 i ((i + j) / 2) := by
        rw [HA.out, HB.out]
        have e : bsGo code 50 i j = if i < j then (if sideP (frS ((i + j) / 2)) (toS ((i + j) / 2)) code < 0 then bsGo code 49 ((i + j) / 2 + 1) j else bsGo code 49 i ((i + j) / 2)) else i := rfl
        rw [e, if_pos hlt']
        split
        · exact bsGo_fuel code _ _ _ _ (by omega) (by omega)
        · exact bsGo_fuel code _ _ _ _ (by omega) (by omega)
      by_cases hs : sideP A B code < 0
      · have Hst : Hid (bsGo code 50 ((i + j) / 2 + 1) j = bs code) := by rw [if_pos hs] at step; exact step.symm.trans hbs.out
        clear step
        go_wp2_with (go_at_call 131; refine (side_any A B C D code _).mono ?_; rintro e w2 ⟨rfl, hb2⟩)
        have HB2 := Lib.hid (hb.trans (hb2.mono hb.size))
        clear hb2
        go_wp2
        go_roundg (gk - 1)
        case measure => omega
        case rel => exact ⟨(i + j) / 2 + 1, j, by omega, hj, by go_num, rfl, by omega, Hst, HB2.out⟩
      · have Hst : Hid (bsGo code 50 i ((i + j) / 2) = bs code) := by rw [if_neg hs] at step; exact step.symm.trans hbs.out
        clear step
        go_wp2_with (go_at_call 131; refine (side_any A B C D code _).mono ?_; rintro e w2 ⟨rfl, hb2⟩)
        have HB2 := Lib.hid (hb.trans (hb2.mono hb.size))
        clear hb2
        go_wp2
        go_roundg (gk - 1)
        case measure => omega
        case rel => exact ⟨i, (i + j) / 2, by omega, by omega, rfl, by go_num, by omega, Hst, HB2.out⟩
    · have hije : i = j := by omega
      subst hije
      have hbi : i = bs code := by
        have := hbs.out
        have e : bsGo code 50 i i = if i < i then (if sideP (frS ((i + i) / 2)) (toS ((i + i) / 2)) code < 0 then bsGo code 49 ((i + i) / 2 + 1) i else bsGo code 49 i ((i + i) / 2)) else i := rfl
        rw [e, if_neg (by omega)] at this
        exact this
      have t1 : ¬ (i : Int) < (i : Int) := by omega
      by_cases h38 : i < 38
      · have t2 : (i : Int) < 38 := by omega
        have hgr : wr.heap[g]? = some (.cells rowV 146 (0, 0)) := (hb.block g hlt).trans hg
        obtain ⟨q0, q1, q2, q3⟩ := rowV_at i h38
        obtain ⟨A, hA⟩ : ∃ A, A = frS i := ⟨_, rfl⟩
        obtain ⟨B, hB⟩ : ∃ B, B = toS i := ⟨_, rfl⟩
        obtain ⟨C, hC⟩ : ∃ C, C = apS i := ⟨_, rfl⟩
        obtain ⟨D, hD⟩ : ∃ D, D = brS i := ⟨_, rfl⟩
        have c0 : wr.cell? ⟨g, i * 4, none⟩ = some (.int .i64 A) := by rw [cell_of_row _ _ _ _ _ _ hgr, hA]; exact q0
        have c1 : wr.cell? ⟨g, i * 4 + 1, none⟩ = some (.int .i64 B) := by rw [cell_of_row _ _ _ _ _ _ hgr, hB]; exact q1
        have c2 : wr.cell? ⟨g, i * 4 + 2, none⟩ = some (.int .i64 C) := by rw [cell_of_row _ _ _ _ _ _ hgr, hC]; exact q2
        have c3 : wr.cell? ⟨g, i * 4 + 3, none⟩ = some (.bool D) := by rw [cell_of_row _ _ _ _ _ _ hgr, hD]; exact q3
        have Hhit : Hid (hitS code = (sideP A B code == 0)) := by
          have e : hitS code = (sideP A B code == 0) := by
            unfold hitS
            rw [← hbi, hA, hB, decide_eq_true h38, Bool.true_and]
          exact e
        have Hbi := Lib.hid hbi
        clear hgr q0 q1 q2 q3 hA hB hC hD hbi
        go_wp2_with (go_at_call 131; refine (side_any A B C D code _).mono ?_; rintro e w2 ⟨rfl, hb2⟩)
        have HB2 := Lib.hid (hb.trans (hb2.mono hb.size))
        clear hb2
        go_wp2
        go_ret2
        exact ⟨by rw [← Hbi.out, Hhit.out]; rfl, HB2.out⟩
      · have t2 : ¬ (i : Int) < 38 := by omega
        have Hhit : Hid (hitS code = false) := by
          have e : hitS code = false := by
            unfold hitS
            rw [← hbi, decide_eq_false h38, Bool.false_and]
          exact e
        have Hbi := Lib.hid hbi
        clear hbi
        go_wp2
        go_ret2
        exact ⟨by rw [← Hbi.out, Hhit.out]; rfl, hb⟩
end Go.Proofs.YtdpifkhkemeclaaGreat
namespace Go.Proofs.YtdpifkhkemeclaaGreat
open Go.RowKit Go.Proofs.YtdpifkhkemeclaaGreatW.PrintWords
def tellR (a b p : Int) (br : Bool) (code : Int) : Int × Int × Bool :=
  if 1 < p ∧ code ≠ a ∧ code ≠ b ∧ b - a = p then (0, 0, false)
  else if (code - a) / p % 2 = 0 then (1, code + p, br) else (2, code - p, br)
def findP (code : Int) : Int × Int × Bool := if hitS code = true then tellR (frS (bs code)) (toS (bs code)) (apS (bs code)) (brS (bs code)) code else (0, 0, false)
def mirror_find.f (a0 : Int) : Option (Int × Int × Bool) := some (findP a0)
theorem row_good : ∀ k, k < 38 → 0 ≤ frS k ∧ frS k ≤ toS k ∧ toS k ≤ 70000 ∧ 1 ≤ apS k ∧ apS k ≤ 100 := by
  intro k hk
  have h : (List.range 38).all (fun k => decide (0 ≤ frS k ∧ frS k ≤ toS k ∧ toS k ≤ 70000 ∧ 1 ≤ apS k ∧ apS k ≤ 100)) = true := by kernel_rfl
  exact of_decide_eq_true (List.all_eq_true.1 h k (List.mem_range.2 hk))
theorem tri3 {x y r1 r2 : Int} {z r3 : Bool} (h : (x, y, z) = (r1, r2, r3)) : Ending.returned (Value.tuple #[.int .i64 x, .int .i64 y, .bool z]) = .returned (.tuple #[.int .i64 r1, .int .i64 r2, .bool r3]) := by
  cases h; rfl
set_option maxRecDepth 100000 in
set_option maxHeartbeats 4000000 in
theorem mirror_find.calls (a0 : Int) (r1 r2 : Int) (r3 : Bool) (w : World) (h : mirror_find.f a0 = some (r1, r2, r3)) :
    Calls Tryz.prog 88 #[.int .i64 a0] w fun e w' => e = .returned (.tuple #[.int .i64 r1, .int .i64 r2, .bool r3]) ∧ Below w.heap.size w w' := by
  have h := Option.some.inj h
  have hs := search_any (w.heap.size + 1) a0 ((w.alloc (.cells rowV 146)).alloc (.cells rowV 146)) (by have := heap_alloc_new (w.alloc (.cells rowV 146)) (.cells rowV 146); simpa using this) (by simp)
  obtain ⟨RV, hRV⟩ : ∃ RV, RV = rowV := ⟨_, rfl⟩
  have Rat : Hid (∀ k, k < 38 → RV[k * 4]? = some (.int .i64 (frS k)) ∧ RV[k * 4 + 1]? = some (.int .i64 (toS k)) ∧ RV[k * 4 + 2]? = some (.int .i64 (apS k)) ∧ RV[k * 4 + 3]? = some (.bool (brS k))) := Lib.hid (by rw [hRV]; exact rowV_at)
  have Rrows : Hid (∀ w, Calls Tryz.prog 129 #[] w fun e w' => e = .returned (.agg RV) ∧ w' = w.alloc (.cells RV 146)) := Lib.hid (by rw [hRV]; exact rows_any)
  have Rsz : Hid ((Tryz.prog.info? 146).map (·.size) = some RV.size) := Lib.hid (by rw [hRV, size79]; rfl)
  have Rzs : Hid (rowZ.size = RV.size) := Lib.hid (by rw [hRV]; exact zs79)
  have Rone : Hid (RV.all (·.oneCell') = true) := Lib.hid (by rw [hRV]; exact one79)
  rw [← hRV] at hs
  clear hRV
  cases hh : hitS a0 with
  | false =>
    have Hr : Hid (r1 = 0 ∧ r2 = 0 ∧ r3 = false) := by
      unfold findP at h
      rw [hh] at h
      simp at h
      exact Lib.hid ⟨h.1.symm, h.2.1.symm, by simpa using h.2.2⟩
    rw [hh] at hs
    have Hs := Lib.hid hs
    clear hs hh h
    go_enter Tryz.func88, Tryz.ntmps88
    go_wp2_with (first
      | (go_at_call 129; with_reducible refine (Rrows.out _).mono ?_; rintro e w1 ⟨rfl, rfl⟩)
      | (refine wpList_alloc79 rfl rfl ?_)
      | (refine wpList_store_row rfl 146 (.tmp 5) (.tmp 10) rfl (w.alloc (.cells RV 146)).heap.size RV rfl rfl 146 rowZ (heap_alloc_new _ _) Rsz.out Rzs.out Rone.out ?_; rw [set_alloc])
      | (go_at_call 130; with_reducible refine Hs.out.mono ?_; rintro e w2 ⟨rfl, hb2⟩; have HB2 := Lib.hid hb2; clear hb2))
    go_ret3
    refine ⟨by rw [Hr.out.1, Hr.out.2.1, Hr.out.2.2]; rfl, ?_⟩
    exact (((Below.refl _ _).alloc (Nat.le_refl _) _).alloc (by simp) _).trans (HB2.out.mono (by simp; omega))
  | true =>
    have hk38 : bs a0 < 38 := by
      unfold hitS at hh
      simp at hh
      exact hh.1
    have hside : sideP (frS (bs a0)) (toS (bs a0)) a0 = 0 := by
      unfold hitS at hh
      simp at hh
      exact hh.2
    obtain ⟨k, hk⟩ : ∃ k, k = bs a0 := ⟨_, rfl⟩
    have hr : tellR (frS k) (toS k) (apS k) (brS k) a0 = (r1, r2, r3) := by
      rw [hk, ← h]
      unfold findP
      rw [if_pos hh]
    rw [hh, ← hk] at hs
    rw [← hk] at hk38 hside
    obtain ⟨g0, g1, g2, g3, g4⟩ := row_good k hk38
    obtain ⟨q0, q1, q2, q3⟩ := Rat.out k hk38
    have Q0 := Lib.hid q0
    have Q1 := Lib.hid q1
    have Q2 := Lib.hid q2
    have Q3 := Lib.hid q3
    clear q0 q1 q2 q3
    obtain ⟨A, hA⟩ : ∃ A, A = frS k := ⟨_, rfl⟩
    obtain ⟨B, hB⟩ : ∃ B, B = toS k := ⟨_, rfl⟩
    obtain ⟨C, hC⟩ : ∃ C, C = apS k := ⟨_, rfl⟩
    obtain ⟨D, hD⟩ : ∃ D, D = brS k := ⟨_, rfl⟩
    rw [← hA, ← hB, ← hC, ← hD] at hr
    rw [← hA] at hside g0 g1
    rw [← hB] at hside g1 g2
    rw [← hC] at g3 g4
    have hAc : A ≤ a0 ∧ a0 ≤ B := by
      unfold sideP at hside
      split at hside
      · omega
      · split at hside <;> omega
    obtain ⟨hAc1, hAc2⟩ := hAc
    have Hs := Lib.hid hs
    have Hr := Lib.hid hr
    have HA := Lib.hid hA
    have HB := Lib.hid hB
    have HC := Lib.hid hC
    have HD := Lib.hid hD
    have hk' : (k : Int) < 38 := by omega
    clear hs hh h hk hr hA hB hC hD hside
    have Hcell : Hid (∀ w2, Below ((w.alloc (.cells RV 146)).alloc (.cells RV 146)).heap.size ((w.alloc (.cells RV 146)).alloc (.cells RV 146)) w2 → w2.cell? ⟨w.heap.size + 1, k * 4, none⟩ = some (.int .i64 A) ∧ w2.cell? ⟨w.heap.size + 1, k * 4 + 1, none⟩ = some (.int .i64 B) ∧ w2.cell? ⟨w.heap.size + 1, k * 4 + 2, none⟩ = some (.int .i64 C) ∧ w2.cell? ⟨w.heap.size + 1, k * 4 + 3, none⟩ = some (.bool D)) := Lib.hid (fun w2 hb2 => by
      have hnew : ((w.alloc (.cells RV 146)).alloc (.cells RV 146)).heap[w.heap.size + 1]? = some (.cells RV 146 (0, 0)) := by have := heap_alloc_new (w.alloc (.cells RV 146)) (.cells RV 146); simpa using this
      have hlt : w.heap.size + 1 < ((w.alloc (.cells RV 146)).alloc (.cells RV 146)).heap.size := by simp
      refine ⟨?_, ?_, ?_, ?_⟩
      · rw [hb2.cell hlt, cell_of_row _ _ _ _ _ _ hnew, HA.out]; exact Q0.out
      · rw [hb2.cell hlt, cell_of_row _ _ _ _ _ _ hnew, HB.out]; exact Q1.out
      · rw [hb2.cell hlt, cell_of_row _ _ _ _ _ _ hnew, HC.out]; exact Q2.out
      · rw [hb2.cell hlt, cell_of_row _ _ _ _ _ _ hnew, HD.out]; exact Q3.out)
    have HQ1 : Hid (((a0 - A) / C).tmod 2 = (a0 - A) / C % 2) := Lib.hid (Int.tmod_eq_emod_of_nonneg (Int.ediv_nonneg (by omega) (by omega)))
    have HQ2 : Hid (((B - A) / C).tmod 2 = (B - A) / C % 2) := Lib.hid (Int.tmod_eq_emod_of_nonneg (Int.ediv_nonneg (by omega) (by omega)))
    have HQ3 : Hid (a0 - A = 0 → (a0 - A) / C % 2 = 0) := Lib.hid (fun e => by rw [e]; simp)
    have HQ4 : Hid (a0 = B → (a0 - A) / C = (B - A) / C) := Lib.hid (fun e => by rw [e])
    by_cases h1 : 1 < C
    · have b1 : decide (C > 1) = true := decide_eq_true h1
      have c0 : ¬ C = 0 := by omega
      go_enter Tryz.func88, Tryz.ntmps88
      go_upto_if 18 with (first
      | (go_at_call 129; with_reducible refine (Rrows.out _).mono ?_; rintro e w1 ⟨rfl, rfl⟩)
      | (refine wpList_alloc79 rfl rfl ?_)
      | (refine wpList_store_row rfl 146 (.tmp 5) (.tmp 10) rfl (w.alloc (.cells RV 146)).heap.size RV rfl rfl 146 rowZ (heap_alloc_new _ _) Rsz.out Rzs.out Rone.out ?_; rw [set_alloc])
      | (go_at_call 130; with_reducible refine Hs.out.mono ?_; rintro e w2 ⟨rfl, hb2⟩; obtain ⟨z0, z1, z2, z3⟩ := Hcell.out w2 hb2; have HB2 := Lib.hid hb2; clear hb2))
      clear Rat Rrows Rsz Rzs Rone Hs Hcell Q0 Q1 Q2 Q3
      go_wp2
      all_goals (try go_region)
      all_goals (try go_wp2)
      all_goals (try go_ret3)
      all_goals
        have hbw : Below w.heap.size w w2 := (((Below.refl _ _).alloc (Nat.le_refl _) _).alloc (by simp) _).trans (HB2.out.mono (by simp; omega))
        refine ⟨tri3 ?_, by repeat (first | (with_reducible first | exact hbw | apply below_alloc | apply pw_below_drewN | apply below_drew1) | exact hbw)⟩
        rw [← Hr.out]
        have hq1 := HQ1.out
        have hq2 := HQ2.out
        try simp only [bne_iff_ne, ne_eq, beq_iff_eq, beq_eq_false_iff_ne, bne_eq_false_iff_eq] at *
        unfold tellR
        rcases Classical.em (a0 - A = 0) with x1 | x1 <;> rcases Classical.em (a0 = B) with x2 | x2 <;> (try have y1 := HQ3.out x1) <;> (try have y2 := HQ4.out x2) <;>
        (repeat' split) <;> (first | rfl | (exfalso; omega) | (refine Prod.ext (by first | rfl | omega) (Prod.ext (by first | rfl | (simp only []; omega)) rfl)))
    · have b1 : decide (C > 1) = false := decide_eq_false h1
      have hC1 : C = 1 := by omega
      subst hC1
      go_enter Tryz.func88, Tryz.ntmps88
      go_upto_if 18 with (first
      | (go_at_call 129; with_reducible refine (Rrows.out _).mono ?_; rintro e w1 ⟨rfl, rfl⟩)
      | (refine wpList_alloc79 rfl rfl ?_)
      | (refine wpList_store_row rfl 146 (.tmp 5) (.tmp 10) rfl (w.alloc (.cells RV 146)).heap.size RV rfl rfl 146 rowZ (heap_alloc_new _ _) Rsz.out Rzs.out Rone.out ?_; rw [set_alloc])
      | (go_at_call 130; with_reducible refine Hs.out.mono ?_; rintro e w2 ⟨rfl, hb2⟩; obtain ⟨z0, z1, z2, z3⟩ := Hcell.out w2 hb2; have HB2 := Lib.hid hb2; clear hb2))
      clear Rat Rrows Rsz Rzs Rone Hs Hcell Q0 Q1 Q2 Q3
      go_wp2
      all_goals (try go_region)
      all_goals (try go_wp2)
      all_goals (try go_ret3)
      all_goals
        have hbw : Below w.heap.size w w2 := (((Below.refl _ _).alloc (Nat.le_refl _) _).alloc (by simp) _).trans (HB2.out.mono (by simp; omega))
        refine ⟨tri3 ?_, by repeat (first | (with_reducible first | exact hbw | apply below_alloc | apply pw_below_drewN | apply below_drew1) | exact hbw)⟩
        rw [← Hr.out]
        have hq1 := HQ1.out
        have hq2 := HQ2.out
        try simp only [bne_iff_ne, ne_eq, beq_iff_eq, beq_eq_false_iff_ne, bne_eq_false_iff_eq] at *
        unfold tellR
        rcases Classical.em (a0 - A = 0) with x1 | x1 <;> rcases Classical.em (a0 = B) with x2 | x2 <;> (try have y1 := HQ3.out x1) <;> (try have y2 := HQ4.out x2) <;>
        (repeat' split) <;> (first | rfl | (exfalso; omega) | (refine Prod.ext (by first | rfl | omega) (Prod.ext (by first | rfl | (simp only []; omega)) rfl)))
end Go.Proofs.YtdpifkhkemeclaaGreat
namespace Go.Proofs.YtdpifkhkemeclaaGreat
open Go.RowKit
def pairP (code : Int) : Int × Int := if (findP code).2.2 = true then ((findP code).1, (findP code).2.1) else (0, 0)
def formP (code : Int) : Int := if code = 9001 ∨ code = 9002 then code - 9001 + 12296 else code
def meetP (a b : Int) : Bool := decide ((pairP a).1 = 1) && (decide ((pairP b).1 = 2) && decide (formP (pairP a).2 = formP b))
def mirror_Pair.f (a0 : Int) : Option (Int × Int) := some (pairP a0)
theorem mirror_Pair.calls (a0 : Int) (r1 r2 : Int) (w : World) (h : mirror_Pair.f a0 = some (r1, r2)) :
    Calls Tryz.prog 138 #[.int .i64 a0] w fun e w' => e = .returned (.tuple #[.int .i64 r1, .int .i64 r2]) ∧ Below w.heap.size w w' := by
  have h := Option.some.inj h
  have HF := Lib.hid (mirror_find.calls a0 (findP a0).1 (findP a0).2.1 (findP a0).2.2 w rfl)
  obtain ⟨k, hk⟩ : ∃ k, k = (findP a0).1 := ⟨_, rfl⟩
  obtain ⟨o, ho⟩ : ∃ o, o = (findP a0).2.1 := ⟨_, rfl⟩
  obtain ⟨b, hb⟩ : ∃ b, b = (findP a0).2.2 := ⟨_, rfl⟩
  unfold pairP at h
  rw [← hk, ← ho, ← hb] at h HF
  cases b with
  | true =>
    have hr : k = r1 ∧ o = r2 := by rw [if_pos rfl] at h; exact ⟨congrArg Prod.fst h, congrArg Prod.snd h⟩
    obtain ⟨rfl, rfl⟩ := hr
    clear h hk ho hb
    go_enter Tryz.func138, Tryz.ntmps138
    go_wp2_with (go_at_call 88; with_reducible refine HF.out.mono ?_; rintro e w' ⟨rfl, hT⟩; have HT := Lib.hid hT; clear hT)
    all_goals (try go_ret2)
    all_goals exact ⟨rfl, HT.out⟩
  | false =>
    have hr : 0 = r1 ∧ 0 = r2 := by rw [if_neg (by decide)] at h; exact ⟨congrArg Prod.fst h, congrArg Prod.snd h⟩
    obtain ⟨rfl, rfl⟩ := hr
    clear h hk ho hb
    go_enter Tryz.func138, Tryz.ntmps138
    go_wp2_with (go_at_call 88; with_reducible refine HF.out.mono ?_; rintro e w' ⟨rfl, hT⟩; have HT := Lib.hid hT; clear hT)
    go_ret2
    exact ⟨rfl, HT.out⟩
def mirror_Form.f (a0 : Int) : Option Int := some (formP a0)
theorem form_any (a0 : Int) (w : World) : Calls Tryz.prog 154 #[.int .i64 a0] w fun e w' => e = .returned (.int .i64 (formP a0)) ∧ w' = w := by
  by_cases h1 : a0 = 9001
  · subst h1
    go_enter Tryz.func154, Tryz.ntmps154
    go_wp2
    go_ret
    exact ⟨rfl, rfl⟩
  · by_cases h2 : a0 = 9002
    · subst h2
      go_enter Tryz.func154, Tryz.ntmps154
      go_wp2
      go_ret
      exact ⟨rfl, rfl⟩
    · have HR : Hid (formP a0 = a0) := Lib.hid (by unfold formP; rw [if_neg (by omega)])
      have b1 : (a0 == 9001) = false := by simpa using h1
      have b2 : (a0 == 9002) = false := by simpa using h2
      go_enter Tryz.func154, Tryz.ntmps154
      go_wp2
      go_ret
      exact ⟨by rw [HR.out]; rfl, rfl⟩
def mirror_Meet.f (a0 a1 : Int) : Option Bool := some (meetP a0 a1)
theorem mirror_Meet.calls (a0 a1 : Int) (r : Bool) (w : World) (h : mirror_Meet.f a0 a1 = some r) :
    Calls Tryz.prog 140 #[.int .i64 a0, .int .i64 a1] w fun e w' => e = .returned (.bool r) ∧ Below w.heap.size w w' := by
  have h := Option.some.inj h
  have HA : Hid (∀ W, Calls Tryz.prog 138 #[.int .i64 a0] W fun e w' => e = .returned (.tuple #[.int .i64 (pairP a0).1, .int .i64 (pairP a0).2]) ∧ Below W.heap.size W w') := Lib.hid (fun W => mirror_Pair.calls a0 _ _ W rfl)
  have HB : Hid (∀ W, Calls Tryz.prog 138 #[.int .i64 a1] W fun e w' => e = .returned (.tuple #[.int .i64 (pairP a1).1, .int .i64 (pairP a1).2]) ∧ Below W.heap.size W w') := Lib.hid (fun W => mirror_Pair.calls a1 _ _ W rfl)
  unfold meetP at h
  obtain ⟨x, hx⟩ : ∃ x, x = (pairP a0).1 := ⟨_, rfl⟩
  obtain ⟨o, ho⟩ : ∃ o, o = (pairP a0).2 := ⟨_, rfl⟩
  obtain ⟨y, hy⟩ : ∃ y, y = (pairP a1).1 := ⟨_, rfl⟩
  obtain ⟨q, hq⟩ : ∃ q, q = (pairP a1).2 := ⟨_, rfl⟩
  rw [← hx, ← ho] at HA
  rw [← hy, ← hq] at HB
  rw [← hx, ← ho, ← hy] at h
  clear hx ho hy hq
  have HF : Hid (∀ u W, Calls Tryz.prog 154 #[.int .i64 u] W fun e w' => e = .returned (.int .i64 (formP u)) ∧ w' = W) := Lib.hid form_any
  by_cases h1 : x = 1
  · by_cases h2 : y = 2
    · subst h1 h2
      obtain ⟨u, hu⟩ : ∃ u, u = formP o := ⟨_, rfl⟩
      obtain ⟨v, hv⟩ : ∃ v, v = formP a1 := ⟨_, rfl⟩
      have hF1 : Hid (∀ W, Calls Tryz.prog 154 #[.int .i64 o] W fun e w' => e = .returned (.int .i64 u) ∧ w' = W) := Lib.hid (by rw [hu]; exact form_any o)
      have hF2 : Hid (∀ W, Calls Tryz.prog 154 #[.int .i64 a1] W fun e w' => e = .returned (.int .i64 v) ∧ w' = W) := Lib.hid (by rw [hv]; exact form_any a1)
      rw [← hu, ← hv] at h
      have Hr : Hid (decide (u = v) = r) := Lib.hid (by simpa using h)
      clear hu hv h HF
      by_cases huv : u = v
      · have hb : (u == v) = true := by simpa using huv
        have Hr2 : Hid (r = true) := Lib.hid (by rw [← Hr.out]; exact decide_eq_true huv)
        clear huv Hr
        go_enter Tryz.func140, Tryz.ntmps140
        go_wp2_with (first
          | (go_at_call 138; with_reducible refine (HA.out _).mono ?_; rintro e w1 ⟨rfl, hT⟩; have HT := Lib.hid hT; clear hT)
          | (go_at_call 138; with_reducible refine (HB.out _).mono ?_; rintro e w2 ⟨rfl, hS⟩; have HS := Lib.hid hS; clear hS)
          | (go_at_call 154; with_reducible refine (hF1.out _).mono ?_; rintro e w' ⟨rfl, hw⟩; obtain rfl := hw.symm; clear hw)
          | (go_at_call 154; with_reducible refine (hF2.out _).mono ?_; rintro e w' ⟨rfl, hw⟩; obtain rfl := hw.symm; clear hw))
        go_ret
        exact ⟨by rw [Hr2.out]; rfl, HT.out.trans (HS.out.mono HT.out.size)⟩
      · have hb : (u == v) = false := by simpa using huv
        have Hr2 : Hid (r = false) := Lib.hid (by rw [← Hr.out]; exact decide_eq_false huv)
        clear huv Hr
        go_enter Tryz.func140, Tryz.ntmps140
        go_wp2_with (first
          | (go_at_call 138; with_reducible refine (HA.out _).mono ?_; rintro e w1 ⟨rfl, hT⟩; have HT := Lib.hid hT; clear hT)
          | (go_at_call 138; with_reducible refine (HB.out _).mono ?_; rintro e w2 ⟨rfl, hS⟩; have HS := Lib.hid hS; clear hS)
          | (go_at_call 154; with_reducible refine (hF1.out _).mono ?_; rintro e w' ⟨rfl, hw⟩; obtain rfl := hw.symm; clear hw)
          | (go_at_call 154; with_reducible refine (hF2.out _).mono ?_; rintro e w' ⟨rfl, hw⟩; obtain rfl := hw.symm; clear hw))
        go_ret
        exact ⟨by rw [Hr2.out]; rfl, HT.out.trans (HS.out.mono HT.out.size)⟩
    · have hb : (y == 2) = false := by simpa using h2
      have Hr2 : Hid (r = false) := Lib.hid (by rw [← h]; simp [h2])
      subst h1
      clear h h2
      go_enter Tryz.func140, Tryz.ntmps140
      go_wp2_with (first
        | (go_at_call 138; with_reducible refine (HA.out _).mono ?_; rintro e w1 ⟨rfl, hT⟩; have HT := Lib.hid hT; clear hT)
        | (go_at_call 138; with_reducible refine (HB.out _).mono ?_; rintro e w2 ⟨rfl, hS⟩; have HS := Lib.hid hS; clear hS))
      go_ret
      exact ⟨by rw [Hr2.out]; rfl, HT.out.trans (HS.out.mono HT.out.size)⟩
  · have hb : (x == 1) = false := by simpa using h1
    have Hr2 : Hid (r = false) := Lib.hid (by rw [← h]; simp [h1])
    clear h h1
    go_enter Tryz.func140, Tryz.ntmps140
    go_wp2_with (first
      | (go_at_call 138; with_reducible refine (HA.out _).mono ?_; rintro e w1 ⟨rfl, hT⟩; have HT := Lib.hid hT; clear hT)
      | (go_at_call 138; with_reducible refine (HB.out _).mono ?_; rintro e w2 ⟨rfl, hS⟩; have HS := Lib.hid hS; clear hS))
    go_ret
    exact ⟨by rw [Hr2.out]; rfl, HT.out.trans (HS.out.mono HT.out.size)⟩
end Go.Proofs.YtdpifkhkemeclaaGreat
