/- The chapter's examples of layer 2, walked: they all hold. -/
import Derived.Test.YtfpibigfhhoiiaaDoorAwA
namespace Go.Proofs.YtfpibigfhhoiiaaDoor
open Go.RowKit Go.Proofs.YtfpibigfhhoiiaaDoorW.PrintWords
set_option linter.unusedVariables false
set_option linter.unusedSimpArgs false

set_option maxRecDepth 100000 in
set_option maxHeartbeats 4000000 in
theorem parquetrylaw02_awake.calls (r : Bool) (w : World) (h : parquetrylaw02_awake.f = some r) :
    Calls Tryd.prog 29 #[] w fun e w' => e = .returned (.bool r) ∧ Below w.heap.size w w' := by
  obtain rfl := Option.some.inj h
  clear h
  have HB := Aside0.mk (Below.refl w.heap.size w)
  go_enter Tryd.func29, Tryd.ntmps29
  go_wp2_with (first
    | (go_at_call 30; with_reducible refine (print_ex1 _ _ (heap_alloc_new _ _)).mono ?_; rintro e w1 ⟨rfl, hb⟩; have n1_ := Aside0.mk (below_step (by repeat (first | (with_reducible first | exact HB.out | apply below_alloc) | exact HB.out)) hb); clear HB hb; have HB := n1_; clear n1_)
    | (go_at_call 30; with_reducible refine (print_ex2 _ _ (heap_alloc_new _ _)).mono ?_; rintro e w1 ⟨rfl, hb⟩; have n1_ := Aside0.mk (below_step (by repeat (first | (with_reducible first | exact HB.out | apply below_alloc) | exact HB.out)) hb); clear HB hb; have HB := n1_; clear n1_)
    | (go_at_call 32; with_reducible refine (read_no _).mono ?_; rintro e w1 ⟨vN, rfl, hb⟩; have n1_ := Aside0.mk (below_step (by repeat (first | (with_reducible first | exact HB.out | apply below_alloc) | exact HB.out)) hb); clear HB hb; have HB := n1_; clear n1_)
    | (go_at_call 32; with_reducible refine (read_EN _).mono ?_; rintro e w1 ⟨ad, cap, rfl, hcell, hb⟩; have n1_ := Aside0.mk (below_step (by repeat (first | (with_reducible first | exact HB.out | apply below_alloc) | exact HB.out)) hb); have HC := Aside0.mk hcell; clear HB hb hcell; have HB := n1_; clear n1_)
    | (go_at_call 27; with_reducible refine (of_is (65) 0 of_k0 _).mono ?_; rintro e w1 ⟨rfl, hb⟩; have n1_ := Aside0.mk (below_step (by repeat (first | (with_reducible first | exact HB.out | apply below_alloc) | exact HB.out)) hb); have n2_ := Aside0.mk ((hb.cell (World.block_lt_of_cell? _ _ HC.out)).trans HC.out); clear HB hb HC; have HB := n1_; have HC := n2_; clear n1_ n2_)
    | (go_at_call 27; with_reducible refine (of_is (48) 3 of_k1 _).mono ?_; rintro e w1 ⟨rfl, hb⟩; have n1_ := Aside0.mk (below_step (by repeat (first | (with_reducible first | exact HB.out | apply below_alloc) | exact HB.out)) hb); have n2_ := Aside0.mk ((hb.cell (World.block_lt_of_cell? _ _ HC.out)).trans HC.out); clear HB hb HC; have HB := n1_; have HC := n2_; clear n1_ n2_)
    | (go_at_call 27; with_reducible refine (of_is (1488) 1 of_k2 _).mono ?_; rintro e w1 ⟨rfl, hb⟩; have n1_ := Aside0.mk (below_step (by repeat (first | (with_reducible first | exact HB.out | apply below_alloc) | exact HB.out)) hb); have n2_ := Aside0.mk ((hb.cell (World.block_lt_of_cell? _ _ HC.out)).trans HC.out); clear HB hb HC; have HB := n1_; have HC := n2_; clear n1_ n2_)
    | (go_at_call 27; with_reducible refine (of_is (1575) 2 of_k3 _).mono ?_; rintro e w1 ⟨rfl, hb⟩; have n1_ := Aside0.mk (below_step (by repeat (first | (with_reducible first | exact HB.out | apply below_alloc) | exact HB.out)) hb); have n2_ := Aside0.mk ((hb.cell (World.block_lt_of_cell? _ _ HC.out)).trans HC.out); clear HB hb HC; have HB := n1_; have HC := n2_; clear n1_ n2_)
    | (go_at_call 27; with_reducible refine (of_is (1632) 6 of_k4 _).mono ?_; rintro e w1 ⟨rfl, hb⟩; have n1_ := Aside0.mk (below_step (by repeat (first | (with_reducible first | exact HB.out | apply below_alloc) | exact HB.out)) hb); have n2_ := Aside0.mk ((hb.cell (World.block_lt_of_cell? _ _ HC.out)).trans HC.out); clear HB hb HC; have HB := n1_; have HC := n2_; clear n1_ n2_)
    | (go_at_call 27; with_reducible refine (of_is (32) 12 of_k5 _).mono ?_; rintro e w1 ⟨rfl, hb⟩; have n1_ := Aside0.mk (below_step (by repeat (first | (with_reducible first | exact HB.out | apply below_alloc) | exact HB.out)) hb); have n2_ := Aside0.mk ((hb.cell (World.block_lt_of_cell? _ _ HC.out)).trans HC.out); clear HB hb HC; have HB := n1_; have HC := n2_; clear n1_ n2_)
    | (go_at_call 27; with_reducible refine (of_is (8295) 20 of_k6 _).mono ?_; rintro e w1 ⟨rfl, hb⟩; have n1_ := Aside0.mk (below_step (by repeat (first | (with_reducible first | exact HB.out | apply below_alloc) | exact HB.out)) hb); have n2_ := Aside0.mk ((hb.cell (World.block_lt_of_cell? _ _ HC.out)).trans HC.out); clear HB hb HC; have HB := n1_; have HC := n2_; clear n1_ n2_)
    | (go_at_call 27; with_reducible refine (of_is (-1) 0 of_k7 _).mono ?_; rintro e w1 ⟨rfl, hb⟩; have n1_ := Aside0.mk (below_step (by repeat (first | (with_reducible first | exact HB.out | apply below_alloc) | exact HB.out)) hb); have n2_ := Aside0.mk ((hb.cell (World.block_lt_of_cell? _ _ HC.out)).trans HC.out); clear HB hb HC; have HB := n1_; have HC := n2_; clear n1_ n2_)
    | (go_at_call 37; skip))
  with_reducible refine (of_is (65296) 3 of_k8 _).mono ?_
  rintro e w1 ⟨rfl, hb⟩
  have n1_ := Aside0.mk (below_step (by repeat (first | (with_reducible first | exact HB.out | apply below_alloc) | exact HB.out)) hb)
  have n2_ := Aside0.mk ((hb.cell (World.block_lt_of_cell? _ _ HC.out)).trans HC.out)
  clear HB hb HC
  have HB := n1_
  have hc0 : w1.cell? ad = some (.int .i64 3) := n2_.out
  have hc1 : w1.cell? (ad.add 0) = some (.int .i64 3) := n2_.out
  clear n1_ n2_
  go_wp2
  go_ret
  exact ⟨rfl, HB.out⟩
end Go.Proofs.YtfpibigfhhoiiaaDoor
