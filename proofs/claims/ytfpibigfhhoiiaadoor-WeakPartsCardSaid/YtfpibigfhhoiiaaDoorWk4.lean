/- The weak rule 'marks', walked: marks follow what stands ahead of them. -/
import Derived.Test.YtfpibigfhhoiiaaDoorWk2
import Derived.Deep.RegionWith
namespace Go.Proofs.YtfpibigfhhoiiaaDoor
open Go.RowKit Go.Proofs.YtfpibigfhhoiiaaDoorW.PrintWords
set_option linter.unusedVariables false
set_option linter.unusedSimpArgs false

theorem StW.drewN {w wr : World} {B : Nat} {v : Value} {sos : Int} {R : List Int} (h : StW w B v sos R wr) (n : Nat) : StW w B v sos R (wr.drewN n) :=
  ⟨h.own, h.box, ⟨h.gr.os, h.gr.tape, h.gr.output, h.gr.size, h.gr.block⟩⟩
theorem StW.drew {w wr : World} {B : Nat} {v : Value} {sos : Int} {R : List Int} (h : StW w B v sos R wr) : StW w B v sos R wr.drew :=
  ⟨h.own, h.box, ⟨h.gr.os, h.gr.tape, h.gr.output, h.gr.size, h.gr.block⟩⟩
theorem StW.alloc {w wr : World} {B : Nat} {v : Value} {sos : Int} {R : List Int} (h : StW w B v sos R wr) (o : Obj) : StW w B v sos R (wr.alloc o) :=
  ⟨h.own.alloc _, by rw [heap_alloc_old _ _ (lt_of_block h.box)]; exact h.box, ⟨h.gr.os, h.gr.tape, h.gr.output, by have := h.gr.size; simp; omega, fun k hk hne => by rw [heap_alloc_old _ _ (by have := h.gr.size; omega)]; exact h.gr.block k hk hne⟩⟩
theorem at_St {w W : World} {B : Nat} {v : Value} {sos : Int} {R : List Int} (h : StW w B v sos R W) (hl : R.length ≤ 1048576) (i : Int) :
    Calls Tryd.prog 80 #[.agg #[v, .int .i64 sos], .int .i64 i] W fun e W' => e = .returned (.int .i64 (atW R sos i)) ∧ StW w B v sos R W' :=
  (at_any W B v R sos i h.own hl).mono (by rintro e W' ⟨rfl, rfl⟩; exact ⟨rfl, h.alloc _⟩)
theorem StW.cell {w W : World} {B g cp : Nat} {sos : Int} {R : List Int} {n : Nat} (h : StW w B (.slice (some ⟨g, 0, none⟩) n cp) sos R W) (hn : R.length = n) {i : Nat} (hi : i < n) : W.cell? ⟨g, i, none⟩ = some (.int .i64 (R.getD i 0)) ∧ W.frozen? ⟨g, i, none⟩ = false ∧ W.cell? ⟨w.heap.size, 0, none⟩ = some (.slice (some ⟨g, 0, none⟩) n cp) ∧ W.cell? ⟨w.heap.size, 1, none⟩ = some (.int .i64 sos) := by
  subst hn
  refine ⟨?_, ?_, by rw [cell_of_row _ _ _ _ _ _ h.box]; rfl, by rw [cell_of_row _ _ _ _ _ _ h.box]; rfl⟩
  · have := h.own.cells (g := g) rfl i (.int .i64 (R.getD i 0)) (by simp [nums, hi])
    rwa [add_plain] at this
  · rcases h.own.2 with ⟨hv, _⟩ | ⟨g', cap', cur, hv, _, hg', _⟩
    · cases hv
    · injection hv with e1 _ _
      injection e1 with e1
      injection e1 with e1
      subst e1
      exact frozen_of_row _ _ _ _ _ hg'
theorem StW.set' {w wr : World} {B : Nat} {g cap n : Nat} {sos : Int} {R : List Int} (h : StW w B (.slice (some ⟨g, 0, none⟩) n cap) sos R wr) (hn : R.length = n) (hg : g < w.heap.size) (i : Nat) (x : Int) :
    StW w B (.slice (some ⟨g, 0, none⟩) n cap) sos (R.set i x) (wr.setCell ⟨g, i, none⟩ (.int .i64 x)) := by
  subst hn
  exact h.set hg i x

def mkOf (p : Int) (b : Bool) : Int := if b = true ∧ 19 ≤ p ∧ p ≤ 22 then 13 else p
def mkGo : Int → Bool → List Int → List Int
  | _, _, [] => []
  | p, b, c :: r => (if c = 8 then mkOf p b else c) :: mkGo (if c = 8 then mkOf p b else c) true r
theorem at_prev {R : List Int} {sos : Int} {i : Nat} (hi : i < R.length) : atW R sos (((i + 1 : Nat) : Int) - 1) = R.getD i 0 := by
  unfold atW
  rw [if_neg (by omega), if_neg (by omega)]
  congr 1
  omega
theorem at_ahead {R R' : List Int} {sos : Int} {i : Nat} (hl : R'.length = R.length) (h : ∀ j, j < i → R'.getD j 0 = R.getD j 0) : atW R' sos ((i : Int) - 1) = atW R sos ((i : Int) - 1) := by
  unfold atW
  by_cases h0 : (i : Int) - 1 < 0
  · rw [if_pos h0, if_pos h0]
  · rw [if_neg h0, if_neg h0, hl]
    split
    · rfl
    · exact h _ (by omega)

set_option maxRecDepth 100000 in
set_option maxHeartbeats 2000000 in
theorem marks_any (w : World) (B : Nat) (v : Value) (l : List Int) (sos : Int) (h : w.ownsRow B 3 1 v l.length (nums .i64 l)) (hl : l.length ≤ 1048576) :
    Calls Tryd.prog 64 #[.agg #[v, .int .i64 sos]] w fun e w' => e = .returned (.tuple #[]) ∧ w'.ownsRow B 3 1 v l.length (nums .i64 (mkGo sos false l)) ∧ w.grownBy w' v.ownBlock := by
  have hst := StW.start sos h
  obtain ⟨A, cp, hv, hc⟩ := own_nums h
  subst hv
  have HC := Lib.hid hc
  clear hc h
  go_enter Tryd.func64, Tryd.ntmps64
  go_wp2
  go_loopg [7] (l.length + 1) (fun g v7 wr => ∃ (i : Nat) (p : Int) (R : List Int), i ≤ l.length ∧ g = l.length + 1 - i ∧ v7 = .int .i64 i ∧ StW w B (.slice A l.length cp) sos R wr ∧ Hid (DoneW l R i (mkGo p (decide (0 < i))) (mkGo sos false l) ∧ p = atW R sos ((i : Int) - 1)))
  case atStart => exact ⟨0, sos, l, Nat.zero_le _, rfl, rfl, hst, Lib.hid ⟨⟨rfl, rfl, rfl⟩, rfl⟩⟩
  case round =>
    clear hst
    obtain ⟨i, p, R, hi, hg, rfl, hS, hDp⟩ := hrel
    have hD : Hid (DoneW l R i (mkGo p (decide (0 < i))) (mkGo sos false l)) := Lib.hid hDp.out.1
    have hp : Hid (p = atW R sos ((i : Int) - 1)) := Lib.hid hDp.out.2
    have Hg := Lib.hid hg
    clear hg hDp
    have hRl : R.length = l.length := hD.out.1
    by_cases hlt : i < l.length
    · obtain ⟨g, rfl, hgw, _, _, _⟩ := HC.out i hlt
      obtain ⟨c, hcc⟩ : ∃ c, c = l.getD i 0 := ⟨_, rfl⟩
      have hxr : R.getD i 0 = c := by rw [hcc]; exact hD.out.here hlt
      obtain ⟨hcell, hfree, hb0, hb1⟩ := hS.cell hRl hlt
      rw [hxr] at hcell
      have hlt' : (i : Int) < (l.length : Int) := by omega
      have HS := Lib.hid hS
      have Hcc := Lib.hid hcc
      have Hxr := Lib.hid hxr
      have HRl := Lib.hid hRl
      clear hS hxr hcc
      by_cases h8 : c = 8
      · subst h8
        have Hw : Hid (IntKind.i64.wrap ((i : Int) - 1) = (i : Int) - 1) := Lib.hid (by unfold IntKind.wrap; simp [IntKind.signed, IntKind.bits]; omega)
        go_wp2
        go_region_with (go_at_call 80; rw [Hw.out]; refine (at_St HS.out.drew (Nat.le_trans (Nat.le_of_eq HRl.out) hl) _).mono ?_; rintro e W2 ⟨rfl, hS2⟩; obtain ⟨m1, m2, m3, m4⟩ := hS2.cell HRl.out hlt; have HS2 := Lib.hid hS2; rw [← hp.out]; clear hS2)
        all_goals
          have HS5 : Hid (StW w B (.slice (some ⟨g, 0, none⟩) l.length cp) sos (R.set i p) (W2.setCell ⟨g, i, none⟩ (.int .i64 p))) := Lib.hid (HS2.out.set' HRl.out hgw i p)
          have HR5 : Hid ((R.set i p).length = l.length) := Lib.hid (by rw [List.length_set]; exact HRl.out)
          obtain ⟨W5, hW5⟩ : ∃ W5, W5 = W2.setCell ⟨g, i, none⟩ (.int .i64 p) := ⟨_, rfl⟩
          rw [← hW5] at HS5 ⊢
          obtain ⟨q1, q2, q3, q4⟩ := HS5.out.cell HR5.out hlt
          have hgp : (R.set i p).getD i 0 = p := by
            rw [List.getD_eq_getElem?_getD, List.getElem?_set_self (by rw [HRl.out]; exact hlt)]; rfl
          rw [hgp] at q1
          have Hgp := Lib.hid hgp
          clear hW5 m1 m2 m3 m4 hgp hcell hfree hb0 hb1
          by_cases h0 : 0 < i
          · have t1 : (0 : Int) < (i : Int) := by omega
            have t1b : decide ((i : Int) > 0) = true := decide_eq_true t1
            by_cases h1 : 19 ≤ p
            · have t2 : decide (p ≥ 19) = true := decide_eq_true h1
              have t2b : decide (19 ≤ p) = true := decide_eq_true h1
              by_cases h2 : p ≤ 22
              · have t3 : decide (p ≤ 22) = true := decide_eq_true h2
                have HS6 : Hid (StW w B (.slice (some ⟨g, 0, none⟩) l.length cp) sos (R.set i 13) (W5.setCell ⟨g, i, none⟩ (.int .i64 13))) := Lib.hid (by have := HS5.out.set' HR5.out hgw i 13; rwa [List.set_set] at this)
                have HT : Hid (mkOf p (decide (0 < i)) = 13) := Lib.hid (by unfold mkOf; rw [if_pos ⟨decide_eq_true h0, h1, h2⟩])
                clear h0 h1 h2
                go_wp2
                go_roundg (l.length + 1 - (i + 1))
                case measure => have := Hg.out; omega
                case rel => exact ⟨i + 1, 13, R.set i 13, by omega, rfl, by go_num, HS6.out, Lib.hid ⟨hD.out.put hlt (by rw [← Hcc.out]; simp only [mkGo]; rw [if_pos trivial, HT.out, show decide (0 < i + 1) = true from decide_eq_true (by omega)]), by rw [at_prev (by rw [List.length_set, HRl.out]; exact hlt), List.getD_eq_getElem?_getD, List.getElem?_set_self (by rw [HRl.out]; exact hlt)]; rfl⟩⟩
              · have t3 : decide (p ≤ 22) = false := decide_eq_false h2
                have HT : Hid (mkOf p (decide (0 < i)) = p) := Lib.hid (by unfold mkOf; rw [if_neg (fun h => h2 h.2.2)])
                clear h0 h1 h2
                go_wp2
                go_roundg (l.length + 1 - (i + 1))
                case measure => have := Hg.out; omega
                case rel => exact ⟨i + 1, p, R.set i p, by omega, rfl, by go_num, HS5.out, Lib.hid ⟨hD.out.put hlt (by rw [← Hcc.out]; simp only [mkGo]; rw [if_pos trivial, HT.out, show decide (0 < i + 1) = true from decide_eq_true (by omega)]), by rw [at_prev (by rw [List.length_set, HRl.out]; exact hlt)]; exact Hgp.out.symm⟩⟩
            · have t2 : decide (p ≥ 19) = false := decide_eq_false h1
              have t2b : decide (19 ≤ p) = false := decide_eq_false h1
              have HT : Hid (mkOf p (decide (0 < i)) = p) := Lib.hid (by unfold mkOf; rw [if_neg (fun h => h1 h.2.1)])
              clear h0 h1
              go_wp2
              go_roundg (l.length + 1 - (i + 1))
              case measure => have := Hg.out; omega
              case rel => exact ⟨i + 1, p, R.set i p, by omega, rfl, by go_num, HS5.out, Lib.hid ⟨hD.out.put hlt (by rw [← Hcc.out]; simp only [mkGo]; rw [if_pos trivial, HT.out, show decide (0 < i + 1) = true from decide_eq_true (by omega)]), by rw [at_prev (by rw [List.length_set, HRl.out]; exact hlt)]; exact Hgp.out.symm⟩⟩
          · have t1 : ¬ (0 : Int) < (i : Int) := by omega
            have t1b : decide ((i : Int) > 0) = false := decide_eq_false t1
            have HT : Hid (mkOf p (decide (0 < i)) = p) := Lib.hid (by unfold mkOf; rw [if_neg (fun h => h0 (of_decide_eq_true h.1))])
            clear h0
            go_wp2
            go_roundg (l.length + 1 - (i + 1))
            case measure => have := Hg.out; omega
            case rel => exact ⟨i + 1, p, R.set i p, by omega, rfl, by go_num, HS5.out, Lib.hid ⟨hD.out.put hlt (by rw [← Hcc.out]; simp only [mkGo]; rw [if_pos trivial, HT.out, show decide (0 < i + 1) = true from decide_eq_true (by omega)]), by rw [at_prev (by rw [List.length_set, HRl.out]; exact hlt)]; exact Hgp.out.symm⟩⟩
      · have n8 : (c == 8) = false := by simpa using h8
        have n8' : (c != 8) = true := by simpa using h8
        have H8 := Lib.hid h8
        clear h8
        go_wp2
        go_roundg (l.length + 1 - (i + 1))
        case measure => have := Hg.out; omega
        case rel => exact ⟨i + 1, c, R, by omega, rfl, by go_num, HS.out, Lib.hid ⟨hD.out.keep hlt (by rw [← Hcc.out]; simp only [mkGo]; rw [if_neg H8.out, show decide (0 < i + 1) = true from decide_eq_true (by omega)]), by rw [at_prev (by rw [HRl.out]; exact hlt)]; exact Hxr.out.symm⟩⟩
    · have hlt' : ¬ (i : Int) < (l.length : Int) := by omega
      have hR := hD.out.all hlt rfl
      have HS := Lib.hid hS
      have HR := Lib.hid hR
      clear hS hR
      go_wp2
      go_end0
      have ho := HS.out.own
      rw [hRl, HR.out] at ho
      exact ⟨rfl, ho, HS.out.gr⟩
end Go.Proofs.YtfpibigfhhoiiaaDoor
