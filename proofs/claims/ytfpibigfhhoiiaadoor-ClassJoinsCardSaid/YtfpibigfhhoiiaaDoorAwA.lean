/- The chapter's examples of layer 2, walked: they all hold. -/
import Derived.Test.YtfpibigfhhoiiaaDoorOfB
import Derived.Test.YtfpibigfhhoiiaaDoorClsP
import Derived.Test.YtfpibigfhhoiiaaDoorClsS
namespace Go.Proofs.YtfpibigfhhoiiaaDoor
open Go.RowKit Go.Proofs.YtfpibigfhhoiiaaDoorW.PrintWords
set_option linter.unusedVariables false
set_option linter.unusedSimpArgs false

def parquetrylaw02_awake.f : Option Bool := some true
theorem of_is (c v : Int) (h : ofP c = v) (w : World) : Calls Tryd.prog 27 #[.int .i64 c] w fun e w' => e = .returned (.int .i64 v) ∧ Below w.heap.size w w' :=
  class_Of.calls c v w (by rw [← h]; rfl)
theorem C_lit (g : Nat) (l : List Int) (w : World) (hl : l.length ≤ 1000) (h : w.heap[g]? = some (.cells (l.map fun x => Value.int .i64 x).toArray 3 (0, 0))) : Kd.C (Kd.int .i64) w (some ⟨g, 0, none⟩) l.length l := by
  refine ⟨rfl, by omega, fun _ => ⟨_, rfl, fun j p hj => ⟨[.int .i64 p], rfl, rfl, fun i u hu => ?_⟩⟩⟩
  cases i with
  | succ i => simp at hu
  | zero =>
  have hu' : Value.int .i64 p = u := by simpa using hu
  subst hu'
  have e : Addr.add ⟨g, 0, none⟩ (j * (Kd.int .i64).sz + 0) = ⟨g, j, none⟩ := by
    rw [show (Kd.int .i64).sz = 1 from rfl, Nat.mul_one, Nat.add_zero]
    simp [Addr.add]
    exact fun h => h.symm
  rw [e, cell_of_row _ _ _ _ _ _ h]
  simp [hj]
theorem print_ex1 (g : Nat) (w : World) (h : w.heap[g]? = some (.cells #[.int .i64 1, .int .i64 22] 3 (0, 0))) : Calls Tryd.prog 30 #[.slice (some ⟨g, 0, none⟩) 2 2] w fun e w' => e = .returned (.tuple #[.string ⟨#[82, 32, 80, 68, 73]⟩, .bool true]) ∧ Below w.heap.size w w' :=
  class_Print.calls (some ⟨g, 0, none⟩) 2 [1, 22] ⟨#[82, 32, 80, 68, 73]⟩ true w (C_lit g [1, 22] w (by simp) h) (Nat.le_refl _) (by kernel_rfl)
theorem print_ex2 (g : Nat) (w : World) (h : w.heap[g]? = some (.cells #[.int .i64 23] 3 (0, 0))) : Calls Tryd.prog 30 #[.slice (some ⟨g, 0, none⟩) 1 1] w fun e w' => e = .returned (.tuple #[.string ⟨#[]⟩, .bool false]) ∧ Below w.heap.size w w' :=
  class_Print.calls (some ⟨g, 0, none⟩) 1 [23] ⟨#[]⟩ false w (C_lit g [23] w (by simp) h) (Nat.le_refl _) (by kernel_rfl)
theorem read_no (w : World) : Calls Tryd.prog 32 #[.string ⟨#[65, 76, 32, 32, 76]⟩] w fun e w' => ∃ v, e = .returned (.tuple #[v, .bool false]) ∧ Below w.heap.size w w' := by
  refine (class_Read.calls ⟨#[65, 76, 32, 32, 76]⟩ [] false w (by kernel_rfl)).mono ?_
  rintro e w' ⟨v, rfl, _, hb⟩
  exact ⟨v, rfl, hb⟩
theorem read_EN (w : World) : Calls Tryd.prog 32 #[.string ⟨#[69, 78]⟩] w fun e w' => ∃ ad cap, e = .returned (.tuple #[.slice (some ad) 1 cap, .bool true]) ∧ w'.cell? (ad.add 0) = some (.int .i64 3) ∧ Below w.heap.size w w' := by
  refine (class_Read.calls ⟨#[69, 78]⟩ [3] true w (by kernel_rfl)).mono ?_
  rintro e w' ⟨v, rfl, hR, hb⟩
  obtain ⟨A, c, rfl, hc, hC⟩ := Kd.R_reads hR
  obtain ⟨ad, e, hx⟩ := Kd.at_int hC 0 (by omega) (by simp)
  cases e
  exact ⟨ad, c, rfl, hx, hb⟩
theorem of_k0 : ofP (65) = 0 := by kernel_rfl
theorem of_k1 : ofP (48) = 3 := by kernel_rfl
theorem of_k2 : ofP (1488) = 1 := by kernel_rfl
theorem of_k3 : ofP (1575) = 2 := by kernel_rfl
theorem of_k4 : ofP (1632) = 6 := by kernel_rfl
theorem of_k5 : ofP (32) = 12 := by kernel_rfl
theorem of_k6 : ofP (8295) = 20 := by kernel_rfl
theorem of_k7 : ofP (-1) = 0 := by kernel_rfl
theorem of_k8 : ofP (65296) = 3 := by kernel_rfl
end Go.Proofs.YtfpibigfhhoiiaaDoor
