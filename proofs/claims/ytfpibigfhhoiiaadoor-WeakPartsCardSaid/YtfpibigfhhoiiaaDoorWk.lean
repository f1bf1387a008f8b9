/- The weak rules' look at a place of a sequence (method 'at'), walked. -/
import Derived.Test.YtfpibigfhhoiiaaDoorProg
import Derived.Test.YtfpibigfhhoiiaaDoorBase
import Derived.Test.YtfpibigfhhoiiaaDoorWWords
namespace Go.Proofs.YtfpibigfhhoiiaaDoor
open Go.RowKit Go.Proofs.YtfpibigfhhoiiaaDoorW.PrintWords
set_option linter.unusedVariables false
set_option linter.unusedSimpArgs false

/-- A class; ahead of the first one the direction there, behind the last one none. -/
def atW (l : List Int) (sos i : Int) : Int := if i < 0 then sos else if (l.length : Int) ≤ i then -1 else l.getD i.toNat 0
theorem own_nums {w : World} {B : Nat} {v : Value} {l : List Int} (h : w.ownsRow B 3 1 v l.length (nums .i64 l)) : ∃ A c, v = .slice A l.length c ∧ ∀ j, j < l.length → ∃ g, A = some ⟨g, 0, none⟩ ∧ g < w.heap.size ∧ B ≤ g ∧ w.cell? ⟨g, j, none⟩ = some (.int .i64 (l.getD j 0)) ∧ w.frozen? ⟨g, j, none⟩ = false := by
  rcases h.2 with ⟨rfl, h0⟩ | ⟨g, cap, cur, rfl, hB, hg, hle, _, _, htake⟩
  · exact ⟨none, 0, by rw [h0], fun j hj => by omega⟩
  · refine ⟨_, cap, rfl, fun j hj => ⟨g, rfl, lt_of_block hg, hB, ?_, frozen_of_row _ _ _ _ _ hg⟩⟩
    have := h.cells (g := g) rfl j (.int .i64 (l.getD j 0)) (by simp [nums, hj])
    rwa [add_plain] at this
theorem at_any (w : World) (B : Nat) (v : Value) (l : List Int) (sos i : Int) (h : w.ownsRow B 3 1 v l.length (nums .i64 l)) (hl : l.length ≤ 1048576) :
    Calls Tryd.prog 80 #[.agg #[v, .int .i64 sos], .int .i64 i] w fun e w' => e = .returned (.int .i64 (atW l sos i)) ∧ w' = w.alloc (.cells #[v, .int .i64 sos] 80) := by
  obtain ⟨A, c, rfl, hc⟩ := own_nums h
  by_cases h0 : i < 0
  · have Ha : Hid (atW l sos i = sos) := by unfold atW; rw [if_pos h0]; rfl
    have b0 : decide (i < 0) = true := decide_eq_true h0
    clear hc h
    go_enter Tryd.func80, Tryd.ntmps80
    go_wp2
    go_ret
    exact ⟨by rw [Ha.out]; rfl, rfl⟩
  · have b0 : decide (i < 0) = false := decide_eq_false h0
    by_cases h1 : (l.length : Int) ≤ i
    · have Ha : Hid (atW l sos i = -1) := by unfold atW; rw [if_neg h0, if_pos h1]; rfl
      have b1 : decide (i ≥ (l.length : Int)) = true := decide_eq_true h1
      have b2 : decide ((l.length : Int) ≤ i) = true := decide_eq_true h1
      clear hc h
      go_enter Tryd.func80, Tryd.ntmps80
      go_wp2
      go_ret
      exact ⟨by rw [Ha.out]; rfl, rfl⟩
    · obtain ⟨j, rfl⟩ := Int.eq_ofNat_of_zero_le (show 0 ≤ i by omega)
      have hj : j < l.length := by omega
      have Ha : Hid (atW l sos (j : Int) = l.getD j 0) := by unfold atW; rw [if_neg h0, if_neg h1, Int.toNat_natCast]; rfl
      obtain ⟨g, rfl, hg, _, hcell, _⟩ := hc j hj
      obtain ⟨x, hx⟩ : ∃ x, x = l.getD j 0 := ⟨_, rfl⟩
      rw [← hx] at hcell
      have Hx := Lib.hid hx
      have hcell' : (w.alloc (.cells #[.slice (some ⟨g, 0, none⟩) l.length c, .int .i64 sos] 80)).cell? ⟨g, j, none⟩ = some (.int .i64 x) := by rw [show (w.alloc (.cells #[.slice (some ⟨g, 0, none⟩) l.length c, .int .i64 sos] 80)).cell? ⟨g, j, none⟩ = w.cell? ⟨g, j, none⟩ from ((Below.refl w.heap.size w).alloc (Nat.le_refl _) _).cell hg]; exact hcell
      have b1 : decide ((j : Int) ≥ (l.length : Int)) = false := decide_eq_false h1
      have b2 : decide ((l.length : Int) ≤ (j : Int)) = false := decide_eq_false h1
      have b3 : (j : Int) < (l.length : Int) := by omega
      clear hc h hx
      go_enter Tryd.func80, Tryd.ntmps80
      go_wp2
      go_ret
      exact ⟨by rw [Ha.out, Hx.out]; rfl, rfl⟩
end Go.Proofs.YtfpibigfhhoiiaaDoor
