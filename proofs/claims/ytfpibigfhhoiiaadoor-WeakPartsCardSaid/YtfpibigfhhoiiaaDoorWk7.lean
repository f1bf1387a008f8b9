/- The weak rules that are literals: each calls a rule on the sequence in its box. -/
import Derived.Test.YtfpibigfhhoiiaaDoorWk6
import Derived.Test.YtfpibigfhhoiiaaDoorWk3
namespace Go.Proofs.YtfpibigfhhoiiaaDoor
open Go.RowKit Go.Proofs.YtfpibigfhhoiiaaDoorW.PrintWords
set_option linter.unusedVariables false
set_option linter.unusedSimpArgs false

theorem turn_lit (w : World) (B : Nat) (v : Value) (l : List Int) (sos : Int) (h : w.ownsRow B 3 1 v l.length (nums .i64 l)) (hl : l.length ≤ 1048576) (t : Int) (fs : List Int) (hf : fs.length ≤ 1000) : Calls Tryd.prog 68 #[.agg #[v, .int .i64 sos], .int .i64 t, .slice (some ⟨w.heap.size, 0, none⟩) fs.length fs.length] (w.alloc (.cells (nums .i64 fs).toArray 3)) fun e w' => e = .returned (.tuple #[]) ∧ w'.ownsRow B 3 1 v l.length (nums .i64 (turnW t fs l)) ∧ w.grownBy w' v.ownBlock :=
  (turn_any (w.alloc (.cells (nums .i64 fs).toArray 3)) B v l sos t w.heap.size fs.length fs (h.alloc _) hl hf (heap_alloc_new _ _) (fun e => by have := (h.lt _ e.symm).2; omega)).mono (by
    rintro e w' ⟨rfl, h1, h2⟩
    exact ⟨rfl, h1, (World.grownBy_alloc w _ _).trans h2⟩)
section
variable (w : World) (B : Nat) (v : Value) (l : List Int) (sos : Int) (b : Nat) (h : w.ownsRow B 3 1 v l.length (nums .i64 l)) (hl : l.length ≤ 1048576)
  (hb : w.heap[b]? = some (.cells #[v, .int .i64 sos] 80 (0, 0)))
include h hl hb
theorem c65_any : Calls Tryd.prog 65 #[.pointer (some ⟨b, 0, none⟩)] w fun e w' => e = .returned (.tuple #[]) ∧ w'.ownsRow B 3 1 v l.length (nums .i64 (aftGo 2 6 sos l)) ∧ w.grownBy w' v.ownBlock := by
  have c0 : w.cell? ⟨b, 0, none⟩ = some v := by rw [cell_of_row _ _ _ _ _ _ hb]; rfl
  have c1 : w.cell? ⟨b, 1, none⟩ = some (.int .i64 sos) := by rw [cell_of_row _ _ _ _ _ _ hb]; rfl
  have HA := Lib.hid (after_any w B v l sos 2 6 h hl)
  clear h hb hl
  go_enter Tryd.func65, Tryd.ntmps65
  go_wp2_with (go_at_call 66; with_reducible refine HA.out.mono ?_; rintro e w' ⟨rfl, hT⟩; have HT := Lib.hid hT; clear hT)
  go_end0
  exact ⟨rfl, HT.out⟩
theorem c72_any : Calls Tryd.prog 72 #[.pointer (some ⟨b, 0, none⟩)] w fun e w' => e = .returned (.tuple #[]) ∧ w'.ownsRow B 3 1 v l.length (nums .i64 (aftGo 0 0 sos l)) ∧ w.grownBy w' v.ownBlock := by
  have c0 : w.cell? ⟨b, 0, none⟩ = some v := by rw [cell_of_row _ _ _ _ _ _ hb]; rfl
  have c1 : w.cell? ⟨b, 1, none⟩ = some (.int .i64 sos) := by rw [cell_of_row _ _ _ _ _ _ hb]; rfl
  have HA := Lib.hid (after_any w B v l sos 0 0 h hl)
  clear h hb hl
  go_enter Tryd.func72, Tryd.ntmps72
  go_wp2_with (go_at_call 66; with_reducible refine HA.out.mono ?_; rintro e w' ⟨rfl, hT⟩; have HT := Lib.hid hT; clear hT)
  go_end0
  exact ⟨rfl, HT.out⟩
theorem c67_any : Calls Tryd.prog 67 #[.pointer (some ⟨b, 0, none⟩)] w fun e w' => e = .returned (.tuple #[]) ∧ w'.ownsRow B 3 1 v l.length (nums .i64 (turnW 1 [2] l)) ∧ w.grownBy w' v.ownBlock := by
  have c0 : w.cell? ⟨b, 0, none⟩ = some v := by rw [cell_of_row _ _ _ _ _ _ hb]; rfl
  have c1 : w.cell? ⟨b, 1, none⟩ = some (.int .i64 sos) := by rw [cell_of_row _ _ _ _ _ _ hb]; rfl
  have HA : Hid (Calls Tryd.prog 68 #[.agg #[v, .int .i64 sos], .int .i64 1, .slice (some ⟨w.heap.size, 0, none⟩) 1 1] (w.alloc (.cells #[.int .i64 2] 3)) fun e w' => e = .returned (.tuple #[]) ∧ w'.ownsRow B 3 1 v l.length (nums .i64 (turnW 1 [2] l)) ∧ w.grownBy w' v.ownBlock) := Lib.hid (turn_lit w B v l sos h hl 1 [2] (by decide))
  clear h hb hl
  go_enter Tryd.func67, Tryd.ntmps67
  go_wp2_with (go_at_call 68; with_reducible refine HA.out.mono ?_; rintro e w' ⟨rfl, hT⟩; have HT := Lib.hid hT; clear hT)
  go_end0
  exact ⟨rfl, HT.out⟩
theorem c71_any : Calls Tryd.prog 71 #[.pointer (some ⟨b, 0, none⟩)] w fun e w' => e = .returned (.tuple #[]) ∧ w'.ownsRow B 3 1 v l.length (nums .i64 (turnW 13 [4, 5, 7] l)) ∧ w.grownBy w' v.ownBlock := by
  have c0 : w.cell? ⟨b, 0, none⟩ = some v := by rw [cell_of_row _ _ _ _ _ _ hb]; rfl
  have c1 : w.cell? ⟨b, 1, none⟩ = some (.int .i64 sos) := by rw [cell_of_row _ _ _ _ _ _ hb]; rfl
  have HA : Hid (Calls Tryd.prog 68 #[.agg #[v, .int .i64 sos], .int .i64 13, .slice (some ⟨w.heap.size, 0, none⟩) 3 3] (w.alloc (.cells #[.int .i64 4, .int .i64 5, .int .i64 7] 3)) fun e w' => e = .returned (.tuple #[]) ∧ w'.ownsRow B 3 1 v l.length (nums .i64 (turnW 13 [4, 5, 7] l)) ∧ w.grownBy w' v.ownBlock) := Lib.hid (turn_lit w B v l sos h hl 13 [4, 5, 7] (by decide))
  clear h hb hl
  go_enter Tryd.func71, Tryd.ntmps71
  go_wp2_with (go_at_call 68; with_reducible refine HA.out.mono ?_; rintro e w' ⟨rfl, hT⟩; have HT := Lib.hid hT; clear hT)
  go_end0
  exact ⟨rfl, HT.out⟩
end
end Go.Proofs.YtfpibigfhhoiiaaDoor
