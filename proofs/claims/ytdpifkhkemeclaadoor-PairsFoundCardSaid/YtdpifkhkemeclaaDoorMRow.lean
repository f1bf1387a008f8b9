/- The table of brackets and mirrored signs, as the code lays it. -/
import Derived.Test.YtdpifkhkemeclaaDoorFold
import Derived.Test.YtdpifkhkemeclaaDoorCls
namespace Go.Proofs.YtdpifkhkemeclaaDoor
open Go.RowKit
set_option linter.unusedVariables false
def rowL : List (Int × Int × Int × Bool) := [(40, 41, 1, true), (60, 62, 2, false), (91, 93, 2, true), (123, 125, 2, true), (171, 187, 16, false), (3898, 3901, 1, true), (5787, 5788, 1, true), (8249, 8250, 1, false), (8261, 8262, 1, true), (8317, 8318, 1, true), (8333, 8334, 1, true), (8712, 8717, 3, false), (8764, 8765, 1, false), (8804, 8811, 1, false), (8814, 8841, 1, false), (8847, 8850, 1, false), (8866, 8867, 1, false), (8882, 8885, 1, false), (8912, 8913, 1, false), (8918, 8941, 1, false), (8968, 8971, 1, true), (9001, 9002, 1, true), (10088, 10101, 1, true), (10181, 10182, 1, true), (10214, 10223, 1, true), (10627, 10636, 1, true), (10641, 10648, 1, true), (10712, 10715, 1, true), (10748, 10749, 1, true), (11810, 11817, 1, true), (12296, 12305, 1, true), (12308, 12315, 1, true), (65113, 65118, 1, true), (65288, 65289, 1, true), (65339, 65341, 2, true), (65371, 65373, 2, true), (65375, 65376, 1, true), (65378, 65379, 1, true)]
def rowV : Array Value := (rowL.flatMap fun x => [Value.int .i64 x.1, Value.int .i64 x.2.1, Value.int .i64 x.2.2.1, Value.bool x.2.2.2]).toArray
def rowZ : Array Value := ((List.replicate 38 [Value.int .i64 0, Value.int .i64 0, Value.int .i64 0, Value.bool false]).flatten).toArray
theorem all79 (w : World) : (Instr.alloc 79 true (.tuple #[])).run Tryd.prog w = .ok (.pointer (some ⟨w.heap.size, 0, none⟩)) (w.alloc (.cells rowZ 79)) := by kernel_rfl
theorem size79 : (Tryd.prog.info? 79).map (·.size) = some 152 := by kernel_rfl
theorem one79 : rowV.all (·.oneCell') = true := by kernel_rfl
theorem zs79 : rowZ.size = rowV.size := by kernel_rfl
theorem wpList_alloc79 {ops : Array Oper} {rest : List Oper} {o : Oper} {a : Act} {w : World} {Q : Exit → Act → World → Prop} (hg : o.guard = none) (ho : o.op = .alloc 79)
    (h : wpList Tryd.prog ops Q rest (a.put o.dst (.pointer (some ⟨w.heap.size, 0, none⟩))) (w.alloc (.cells rowZ 79))) : wpList Tryd.prog ops Q (o :: rest) a w := by
  refine wpList_plain hg fun K hK => ?_
  unfold Oper.wp execOp
  simp only [ho, Sem.run_bind, all79, Result.andThen_ok, Sem.run_pure]
  exact hK _ _ h
noncomputable def rowAl : Oper := match Tryd.f54.body with
  | some (.seq (.region _ ops false) _) => ops.toList.headD default
  | _ => default
noncomputable def rowOps : List Oper := match Tryd.f54.body with
  | some (.seq _ (.seq (.region _ ops false) _)) => ops.toList
  | _ => []
noncomputable def rowBuilds : List Oper := rowOps.take 77
noncomputable def rowSt : Oper := (rowOps.drop 77).headD default
set_option maxRecDepth 1000000 in
theorem body54 : Tryd.f54.body = some (.seq (.region 0 #[rowAl] false) (.seq (.region 1 (rowBuilds ++ [rowSt]).toArray false) .ret)) := by kernel_rfl
theorem foldOps_app {P : Program} {ops : Array Oper} {Q : Exit → Act → World → Prop} (l r : List Oper) : ∀ a w z, Base.foldOps P l a w = some z → wpList P ops Q r z.1 z.2 → wpList P ops Q (l ++ r) a w := by
  induction l with
  | nil => intro a w z h q; cases h; exact q
  | cons o l ih =>
    intro a w z h q
    unfold Base.foldOps at h
    split at h
    · cases h
    · rename_i hg
      split at h
      · rename_i v w' hr
        refine wpList_plain hg fun K hK => ?_
        unfold Oper.wp
        rw [hr]
        exact hK _ _ (ih _ _ z h q)
      · rename_i w' hr
        refine wpList_plain hg fun K hK => ?_
        unfold Oper.wp
        rw [hr]
        exact hK _ _ (ih _ _ z h q)
      · cases h
set_option maxRecDepth 1000000 in
theorem row_fold (p : Value) (W : World) : (Base.foldOps Tryd.prog rowBuilds { tmps := #[p] ++ Array.replicate 77 undef, defers := [] } W).map (fun z => (z.1.tmps.getD 77 undef, z.1.tmps.getD 0 undef, z.1.defers.isEmpty, z.2)) = some (.agg rowV, p, true, W) := by kernel_rfl
set_option maxRecDepth 1000000 in
theorem rows_any (w : World) : Calls Tryd.prog 54 #[] w fun e w' => e = .returned (.agg rowV) ∧ w' = w.alloc (.cells rowV 79) := by
  refine calls_of_wp Tryd.func54 body54 ?_
  refine wp_seq (wp_region_list (wpList_alloc79 (by kernel_rfl) (by kernel_rfl) ?_))
  have hput : (({ tmps := #[] ++ Array.replicate (Tryd.f54.ntmps - (#[] : Array Value).size) undef, defers := [] } : Act).put rowAl.dst (.pointer (some ⟨w.heap.size, 0, none⟩))) = { tmps := #[.pointer (some ⟨w.heap.size, 0, none⟩)] ++ Array.replicate 77 undef, defers := [] } := by kernel_rfl
  rw [hput]
  obtain ⟨z, hz, hv⟩ := Option.map_eq_some_iff.1 (row_fold (.pointer (some ⟨w.heap.size, 0, none⟩)) (w.alloc (.cells rowZ 79)))
  simp only [Prod.mk.injEq] at hv
  obtain ⟨h1, h2, h3, h4⟩ := hv
  have hd : z.1.defers = [] := List.isEmpty_iff.1 h3
  refine wp_seq (wp_region_list ?_)
  refine foldOps_app rowBuilds [rowSt] _ _ z hz ?_
  rw [h4]
  refine wpList_store_row (by kernel_rfl) 79 (.tmp 0) (.tmp 77) (by kernel_rfl) w.heap.size rowV h2 h1 79 rowZ (heap_alloc_new w _) (by rw [size79]; rfl) zs79 one79 ?_
  rw [set_alloc]
  refine wp_ret ?_
  refine bodyPost_ret (v := .agg rowV) ?_ ?_ ⟨rfl, rfl⟩
  · rw [results_cell Tryd.results54]
    have e : (z.1.put rowSt.dst undef).tmps.getD 0 undef = .pointer (some ⟨w.heap.size, 0, none⟩) := h2
    rw [e]
    exact run_loadVar_row (w.alloc (.cells rowV 79)) w.heap.size 79 79 rowV (0, 0) _ (heap_alloc_new w _) Tryd.underlying79 rfl (by rw [size79]; rfl)
  · exact hd
end Go.Proofs.YtdpifkhkemeclaaDoor
