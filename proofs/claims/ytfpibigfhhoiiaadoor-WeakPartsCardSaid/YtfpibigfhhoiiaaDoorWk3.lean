/- The weak rule 'turn', walked: one class for others. -/
import Derived.Test.YtfpibigfhhoiiaaDoorWk2
import Derived.Test.YtfpibigfhhoiiaaDoorShelf
namespace Go.Proofs.YtfpibigfhhoiiaaDoor
open Go.RowKit Go.Proofs.YtfpibigfhhoiiaaDoorW.PrintWords
set_option linter.unusedVariables false
set_option linter.unusedSimpArgs false

def turnW (tt : Int) (fs : List Int) (l : List Int) : List Int := l.map fun c => if fs.contains c = true then tt else c
set_option maxRecDepth 100000 in
set_option maxHeartbeats 2000000 in
theorem turn_any (w : World) (B : Nat) (v : Value) (l : List Int) (sos tt : Int) (q cq : Nat) (fs : List Int) (h : w.ownsRow B 3 1 v l.length (nums .i64 l)) (hl : l.length ≤ 1048576)
    (hf : fs.length ≤ 1000) (hq : w.heap[q]? = some (.cells (nums .i64 fs).toArray 3 (0, 0))) (hqv : some q ≠ v.ownBlock) :
    Calls Tryd.prog 68 #[.agg #[v, .int .i64 sos], .int .i64 tt, .slice (some ⟨q, 0, none⟩) fs.length cq] w fun e w' => e = .returned (.tuple #[]) ∧ w'.ownsRow B 3 1 v l.length (nums .i64 (turnW tt fs l)) ∧ w.grownBy w' v.ownBlock := by
  have hst := StW.start sos h
  have hqw : q < w.heap.size := lt_of_block hq
  obtain ⟨A, cp, hv, hc⟩ := own_nums h
  subst hv
  have HC := Lib.hid hc
  have HQ := Lib.hid hq
  have HQV := Lib.hid hqv
  clear hc h hq hqv
  go_enter Tryd.func68, Tryd.ntmps68
  go_wp2
  go_loopg [11] (l.length + 1) (fun g v11 wr => ∃ (i : Nat) (R : List Int), i ≤ l.length ∧ g = l.length + 1 - i ∧ v11 = .int .i64 i ∧ StW w B (.slice A l.length cp) sos R wr ∧ Hid (DoneW l R i (turnW tt fs) (turnW tt fs l)))
  case atStart => exact ⟨0, l, Nat.zero_le _, rfl, rfl, hst, Lib.hid ⟨rfl, rfl, rfl⟩⟩
  case round =>
    clear hst
    obtain ⟨i, R, hi, hg, rfl, hS, hD⟩ := hrel
    have Hg := Lib.hid hg
    clear hg
    have hRl : R.length = l.length := hD.out.1
    by_cases hlt : i < l.length
    · obtain ⟨g, rfl, hgw, _, _, _⟩ := HC.out i hlt
      obtain ⟨c, hcc⟩ : ∃ c, c = l.getD i 0 := ⟨_, rfl⟩
      have hxr : R.getD i 0 = c := by rw [hcc]; exact hD.out.here hlt
      have hown := hS.own
      rw [hRl] at hown
      have hcell : wr.cell? ⟨g, i, none⟩ = some (.int .i64 c) := by
        have := hown.cells (g := g) rfl i (.int .i64 c) (by simp [nums, ← hxr, hRl, hlt])
        rwa [add_plain] at this
      have hfree : wr.frozen? ⟨g, i, none⟩ = false := by
        rcases hown.2 with ⟨hv, _⟩ | ⟨g', cap', cur, hv, _, hg', _⟩
        · cases hv
        · injection hv with e1 _ _
          injection e1 with e1
          injection e1 with e1
          subst e1
          exact frozen_of_row _ _ _ _ _ hg'
      have hb0 : wr.cell? ⟨w.heap.size, 0, none⟩ = some (.slice (some ⟨g, 0, none⟩) l.length cp) := by rw [cell_of_row _ _ _ _ _ _ hS.box]; rfl
      have hlt' : (i : Int) < (l.length : Int) := by omega
      have hqr : wr.heap[q]? = some (.cells (nums .i64 fs).toArray 3 (0, 0)) := by rw [hS.gr.block q hqw HQV.out]; exact HQ.out
      have hct := Tryd.slices_Contains_int q 0 fs.length cq fs c wr (Nat.le_refl _) (by omega) (fun j hj => by
        rw [cell_of_row _ _ _ _ _ _ hqr, Nat.zero_add]
        simp [nums, hj])
      rw [List.take_length] at hct
      have HS := Lib.hid hS
      have Hcc := Lib.hid hcc
      obtain ⟨b, hb⟩ : ∃ b, b = fs.contains c := ⟨_, rfl⟩
      rw [← hb] at hct
      have Hb := Lib.hid hb
      have Hct := Lib.hid hct
      clear hS hown hxr hcc hb hct hqr
      cases b with
      | true =>
        have HS2 : Hid (StW w B (.slice (some ⟨g, 0, none⟩) l.length cp) sos (R.set i tt) (wr.setCell ⟨g, i, none⟩ (.int .i64 tt))) := Lib.hid (by have := HS.out; rw [← hRl] at this ⊢; exact this.set hgw i tt)
        go_wp2_with (go_at_call 81; with_reducible refine Hct.out.mono ?_; rintro e w' ⟨rfl, hw⟩; obtain rfl := hw.symm; clear hw)
        go_roundg (l.length + 1 - (i + 1))
        case measure => have := Hg.out; omega
        case rel => exact ⟨i + 1, R.set i tt, by omega, rfl, by go_num, HS2.out, Lib.hid (hD.out.put hlt (by rw [← Hcc.out]; unfold turnW; rw [List.map_cons, if_pos Hb.out.symm]))⟩
      | false =>
        go_wp2_with (go_at_call 81; with_reducible refine Hct.out.mono ?_; rintro e w' ⟨rfl, hw⟩; obtain rfl := hw.symm; clear hw)
        go_roundg (l.length + 1 - (i + 1))
        case measure => have := Hg.out; omega
        case rel => exact ⟨i + 1, R, by omega, rfl, by go_num, HS.out, Lib.hid (hD.out.keep hlt (by rw [← Hcc.out]; unfold turnW; rw [List.map_cons, if_neg (by rw [← Hb.out]; decide)]))⟩
    · have hlt' : ¬ (i : Int) < (l.length : Int) := by omega
      have hR := hD.out.all hlt rfl
      have HS := Lib.hid hS
      have HR := Lib.hid hR
      clear hS hR
      go_wp2
      go_end0
      have ho := HS.out.own
      rw [hRl, HR.out] at ho
      exact ⟨rfl, ho, HS.out.gr⟩
end Go.Proofs.YtfpibigfhhoiiaaDoor
