/- pairs.Find in the print's form: the pairs of two rows, in order; rows of unequal lengths have none. -/
import Derived.Test.YtdpifkhkemeclaaDoorPF
import Derived.Test.YtdpifkhkemeclaaDoorPFs
import Derived.Test.YtdpifkhkemeclaaDoorPQx0
namespace Go.Proofs.YtdpifkhkemeclaaDoor
open Go.RowKit Go.Shelf Go.Proofs.YtdpifkhkemeclaaDoorW.PrintWords
set_option linter.unusedVariables false
set_option linter.unusedSimpArgs false
attribute [local go_sem] Oper.semAt_some

def s31 (p : Nat × Nat) : PQ.S31 := ⟨(p.1 : Int), (p.2 : Int)⟩
def pairsW (types codes : List Int) : List (Nat × Nat) := sortP (findGo types codes types.length 0 [] [])
def pairs_Find.f (l0 l1 : List Int) : Option (List PQ.S31) :=
  if l0.length = l1.length then (if l0.length ≤ 1048576 then some ((pairsW l0 l1).map s31) else none) else some []

theorem pcells_append (a b : List (Nat × Nat)) : pcells (a ++ b) = pcells a ++ pcells b := by simp [pcells]
theorem reps_pairs (R : PQ.S31 → List Value → Prop) (hR : ∀ x : PQ.S31, R x [.int .i64 x.f0, .int .i64 x.f1]) : ∀ out : List (Nat × Nat), Reps R 2 (out.map s31) (pcells out) := by
  intro out
  induction out with
  | nil => exact Reps.none _ _
  | cons p r ih =>
    have h1 : Reps R 2 [s31 p] (pcells [p]) := by
      have := Reps.snoc (Reps.none R 2) (hR (s31 p)) rfl
      exact this
    have := Kd.reps_append h1 ih
    rw [← pcells_append] at this
    exact this

theorem cells_at {w : World} {A : Option Addr} {l : List Int} (hr : Kd.C (Kd.int .i64) w A l.length l) : ∀ j : Nat, j < l.length → ∃ ad, A = some ad ∧ w.cell? (ad.add j) = some (.int .i64 (l.getD j 0)) := fun j hj => by
  obtain ⟨ad, e, hc⟩ := Kd.at_int hr (j : Int) (by omega) (by omega)
  exact ⟨ad, e, by simpa [rd] using hc⟩

set_option maxRecDepth 100000 in
set_option maxHeartbeats 8000000 in
theorem find_unequal (A0 A1 : Option Addr) (m0 m1 c0 c1 : Nat) (h : ¬ m0 = m1) (w : World) :
    Calls Tryd.prog 10 #[.slice A0 m0 c0, .slice A1 m1 c1] w fun e w' => e = .returned (.slice none 0 0) ∧ Below w.heap.size w w' := by
  have hi : ¬ (m0 : Int) = (m1 : Int) := by omega
  go_enter Tryd.func10, Tryd.ntmps10
  go_wp2
  refine wp_scope_straight ?_
  go_wp2
  show bodyPost Tryd.prog Tryd.f10 (fun e w' => e = Ending.returned (Value.slice none 0 0) ∧ Below w.heap.size w w') Exit.ret _ _
  refine bodyPost_ret (results_tmp Tryd.results10 _ _ _) rfl ⟨rfl, ?_⟩
  exact (Below.refl _ _).alloc (Nat.le_refl _) _

theorem pairs_Find.calls (A0 : Option Addr) (c0 : Nat) (l0 : List Int) (A1 : Option Addr) (c1 : Nat) (l1 : List Int) (r : List PQ.S31) (w : World) (hr0 : Kd.C (Kd.int .i64) w A0 l0.length l0) (hc0 : l0.length ≤ c0) (hr1 : Kd.C (Kd.int .i64) w A1 l1.length l1) (hc1 : l1.length ≤ c1) (h : pairs_Find.f l0 l1 = some r) :
    Calls Tryd.prog 10 #[.slice A0 l0.length c0, .slice A1 l1.length c1] w fun e w' => ∃ v0_ : Value, e = .returned (v0_) ∧ Kd.R PQ.k31 31 w' w.heap.size (fun _ => True) v0_ r ∧ Below w.heap.size w w' := by
  unfold pairs_Find.f at h
  by_cases he : l0.length = l1.length
  · rw [if_pos he] at h
    by_cases hm : l0.length ≤ 1048576
    case neg => rw [if_neg hm] at h; cases h
    rw [if_pos hm] at h
    obtain rfl := Option.some.inj h
    have hF := callsIn_wide.1 (find_in 5 (Nat.le_refl _) A0 A1 l0.length c0 c1 l0 l1 hm rfl he.symm w (cells_at hr0) (he ▸ cells_at hr1))
    rw [← he]
    refine hF.mono ?_
    rintro e W' ⟨v, out', rfl, hp, hs, ho, hb⟩
    have hn := findGo_nodup l0 l1 l0.length 0 [] [] List.nodup_nil (by simp)
    obtain rfl := sorted_is hp hs hn
    refine ⟨v, rfl, ⟨fun _ _ => trivial, pcells _, ?_, reps_pairs _ (fun x => PQ.k31_mkM _ _ _ x) _⟩, hb⟩
    rw [List.length_map]
    exact ho
  · rw [if_neg he] at h
    obtain rfl := Option.some.inj h
    refine (find_unequal A0 A1 l0.length l1.length c0 c1 he w).mono ?_
    rintro e w' ⟨rfl, hb⟩
    exact ⟨_, rfl, Kd.R_nil _ _ _ _ _, hb⟩
end Go.Proofs.YtdpifkhkemeclaaDoor
