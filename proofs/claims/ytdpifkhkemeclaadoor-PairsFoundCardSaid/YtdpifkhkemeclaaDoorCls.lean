/- class.names, walked (as in the first seat). -/
import Derived.Test.YtdpifkhkemeclaaDoorWMore
import Derived.Test.YtdpifkhkemeclaaDoorProg
import Derived.WalkSpells
import Derived.WalkLawsBesides
import Derived.OneCell
import Derived.Lib.Hide
namespace Go.Proofs.YtdpifkhkemeclaaDoor
open Go.RowKit Go.Proofs.YtdpifkhkemeclaaDoorW.PrintWords
set_option linter.unusedVariables false
set_option linter.unusedSimpArgs false
def nameL : List ByteArray := [⟨#[76]⟩, ⟨#[82]⟩, ⟨#[65, 76]⟩, ⟨#[69, 78]⟩, ⟨#[69, 83]⟩, ⟨#[69, 84]⟩, ⟨#[65, 78]⟩, ⟨#[67, 83]⟩, ⟨#[78, 83, 77]⟩, ⟨#[66, 78]⟩, ⟨#[66]⟩, ⟨#[83]⟩, ⟨#[87, 83]⟩, ⟨#[79, 78]⟩, ⟨#[76, 82, 69]⟩, ⟨#[76, 82, 79]⟩, ⟨#[82, 76, 69]⟩, ⟨#[82, 76, 79]⟩, ⟨#[80, 68, 70]⟩, ⟨#[76, 82, 73]⟩, ⟨#[82, 76, 73]⟩, ⟨#[70, 83, 73]⟩, ⟨#[80, 68, 73]⟩]
def nameV : Array Value := (nameL.map Value.string).toArray
def zeroV : Array Value := (List.replicate 23 (Value.string ByteArray.empty)).toArray
theorem all69 (w : World) : (Instr.alloc 69 true (.tuple #[])).run Tryd.prog w = .ok (.pointer (some ⟨w.heap.size, 0, none⟩)) (w.alloc (.cells zeroV 69)) := by kernel_rfl
theorem size69 : (Tryd.prog.info? 69).map (·.size) = some 23 := by kernel_rfl
theorem wpList_alloc69 {ops : Array Oper} {rest : List Oper} {o : Oper} {a : Act} {w : World} {Q : Exit → Act → World → Prop} (hg : o.guard = none) (ho : o.op = .alloc 69)
    (h : wpList Tryd.prog ops Q rest (a.put o.dst (.pointer (some ⟨w.heap.size, 0, none⟩))) (w.alloc (.cells zeroV 69))) : wpList Tryd.prog ops Q (o :: rest) a w := by
  refine wpList_plain hg fun K hK => ?_
  unfold Oper.wp execOp
  simp only [ho, Sem.run_bind, all69, Result.andThen_ok, Sem.run_pure]
  exact hK _ _ h
theorem wpList_build_is {P : Program} {ops : Array Oper} {rest : List Oper} {o : Oper} {a : Act} {w : World} {Q : Exit → Act → World → Prop} (hg : o.guard = none) (t : TypeId) (parts : Array (Nat × Operand)) (ho : o.op = .build t parts) (cells : Array Value)
    (hf : P.built t (parts.map fun (i, x) => (i, a.eval x)).toList = some cells)
    (h : wpList P ops Q rest (a.put o.dst (.agg cells)) w) : wpList P ops Q (o :: rest) a w :=
  wpList_build hg t parts ho (by rw [hf]; rfl) (by rw [hf]; exact h)
theorem one69 : nameV.all (·.oneCell') = true := by kernel_rfl
theorem zs69 : zeroV.size = nameV.size := by kernel_rfl
theorem results_cell {fn : Func} {p : Tmp} {ty : TypeId} (h : fn.results = #[.cell p ty]) (tmps : Array Value) (P : Program) (w : World) :
    (results fn tmps).run P w = ((asAddr (tmps.getD p undef)).run P w).andThen fun a w₁ => (loadVar ty a).run P w₁ := by
  simp only [results, h]
  simp [Sem.run_bind, Result.andThen]
theorem set_alloc (w : World) (o : Array Value) (t : TypeId) (cs : Array Value) : (w.alloc (.cells o t)).setRow w.heap.size cs = w.alloc (.cells cs t) := by
  have h : ∀ k : Nat, ((w.alloc (.cells o t)).setRow w.heap.size cs).heap[k]? = (w.alloc (.cells cs t)).heap[k]? := by
    intro k
    by_cases hk : k = w.heap.size
    · subst hk
      rw [setRow_heap _ _ _ _ t _ (heap_alloc_new w _), heap_alloc_new]
    · rw [setRow_other _ _ _ _ hk]
      show (w.heap.push _)[k]? = (w.heap.push _)[k]?
      rw [Array.getElem?_push, Array.getElem?_push, if_neg hk, if_neg hk]
  have e : ((w.alloc (.cells o t)).setRow w.heap.size cs).heap = (w.alloc (.cells cs t)).heap := Array.ext_getElem? (fun k => h k)
  show World.mk _ _ _ _ _ = World.mk _ _ _ _ _
  congr 1
set_option maxRecDepth 100000 in
set_option maxHeartbeats 1000000 in
theorem names_any (w : World) : Calls Tryd.prog 50 #[] w fun e w' => e = .returned (.agg nameV) ∧ w' = w.alloc (.cells nameV 69) := by
  go_enter Tryd.func50, Tryd.ntmps50
  go_wp2_with (first | (refine wpList_alloc69 rfl rfl ?_) | (refine wpList_build_is rfl 69 _ rfl nameV (by kernel_rfl) ?_) | (refine wpList_store_row rfl 69 _ _ rfl w.heap.size nameV rfl rfl 69 zeroV (heap_alloc_new w _) size69 zs69 one69 ?_))
  rw [set_alloc]
  refine bodyPost_ret (v := .agg nameV) ?_ rfl ⟨rfl, rfl⟩
  rw [results_cell Tryd.results50]
  exact run_loadVar_row (w.alloc (.cells nameV 69)) w.heap.size 69 69 nameV (0, 0) _ (heap_alloc_new w _) Tryd.underlying69 rfl size69
end Go.Proofs.YtdpifkhkemeclaaDoor
