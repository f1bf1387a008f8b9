/- Small laws of walks that the texts of this seat use. -/
import Derived.WalkKit
import Derived.KernelRfl
namespace Go.Proofs.Base
open Go
/-- The operations of a text without tests and loops, run one behind the other. -/
def straight : Code → Option (List Oper)
  | .region _ ops false => some ops.toList
  | .skip => some []
  | .seq x y => (straight x).bind fun a => (straight y).map fun b => a ++ b
  | _ => none
def straightRet : Code → Option (List Oper)
  | .seq x y => (straight x).bind fun a => (straightRet y).map fun b => a ++ b
  | .ret => some []
  | _ => none
def foldOps (P : Program) : List Oper → Act → World → Option (Act × World)
  | [], a, w => some (a, w)
  | o :: r, a, w => match o.guard with
    | some _ => none
    | none => match (execOp a.eval o).run P w with
      | .ok (.value v) w' => foldOps P r (a.put o.dst v) w'
      | .ok .skip w' => foldOps P r (a.put o.dst undef) w'
      | _ => none
theorem foldOps_append (P : Program) (x y : List Oper) : ∀ a w, foldOps P (x ++ y) a w = (foldOps P x a w).bind fun z => foldOps P y z.1 z.2 := by
  induction x with
  | nil => intro a w; rfl
  | cons o r ih =>
    intro a w
    rw [List.cons_append]
    simp only [foldOps.eq_2]
    cases o.guard with
    | some g => rfl
    | none =>
      simp only
      split
      · exact ih _ _
      · exact ih _ _
      · rfl
theorem foldOps_list {P : Program} {ops : Array Oper} {Q : Exit → Act → World → Prop} (l : List Oper) : ∀ a w z, foldOps P l a w = some z → Q .normal z.1 z.2 → wpList P ops Q l a w := by
  induction l with
  | nil => intro a w z h q; cases h; exact q
  | cons o r ih =>
    intro a w z h q
    unfold foldOps at h
    split at h
    · cases h
    · rename_i hg
      split at h
      · rename_i v w' hr
        refine wpList_plain hg fun K hK => ?_
        unfold Oper.wp
        rw [hr]
        exact hK _ _ (ih _ _ z h q)
      · rename_i w' hr
        refine wpList_plain hg fun K hK => ?_
        unfold Oper.wp
        rw [hr]
        exact hK _ _ (ih _ _ z h q)
      · cases h
theorem straight_wp {P : Program} {Q : Exit → Act → World → Prop} (c : Code) : ∀ ops a w z, straight c = some ops → foldOps P ops a w = some z → Q .normal z.1 z.2 → c.wp P Q a w := by
  induction c generalizing Q with
  | region i ops d =>
    intro l a w z h hz q
    cases d with
    | true => cases h
    | false =>
      cases h
      exact wp_region_list (foldOps_list _ a w z hz q)
  | skip => intro l a w z h hz q; cases h; cases hz; exact wp_skip q
  | seq x y ihx ihy =>
    intro l a w z h hz q
    simp only [straight, Option.bind_eq_some_iff, Option.map_eq_some_iff] at h
    obtain ⟨lx, hx, ly, hy, rfl⟩ := h
    rw [foldOps_append, Option.bind_eq_some_iff] at hz
    obtain ⟨m, hm, hz⟩ := hz
    exact wp_seq (ihx lx a w m hx hm (ihy ly m.1 m.2 z hy hz q))
  | _ => intro l a w z h; cases h
theorem straightRet_wp {P : Program} {Q : Exit → Act → World → Prop} (c : Code) : ∀ ops a w z, straightRet c = some ops → foldOps P ops a w = some z → Q .ret z.1 z.2 → c.wp P Q a w := by
  induction c generalizing Q with
  | ret => intro l a w z h hz q; cases h; cases hz; exact wp_ret q
  | seq x y ihx ihy =>
    intro l a w z h hz q
    simp only [straightRet, Option.bind_eq_some_iff, Option.map_eq_some_iff] at h
    obtain ⟨lx, hx, ly, hy, rfl⟩ := h
    rw [foldOps_append, Option.bind_eq_some_iff] at hz
    obtain ⟨m, hm, hz⟩ := hz
    exact wp_seq (straight_wp x lx a w m hx hm (ihy ly m.1 m.2 z hy hz q))
  | _ => intro l a w z h; cases h
/-- A function without tests, loops and calls, whose one result stands in a slot: what it comes to, by a closed reckoning. -/
theorem straight_calls {P : Program} {f : FuncId} {fn : Func} {c : Code} {args : Array Value} {w w' : World} {ops : List Oper} {t : Tmp} {v : Value}
    (hf : P.funcs[f]? = some fn) (hb : fn.body = some c) (hs : straightRet c = some ops) (hres : fn.results = #[.tmp t])
    (h : (foldOps P ops { tmps := args ++ Array.replicate (fn.ntmps - args.size) undef, defers := [] } w).map (fun z => (z.1.tmps.getD t undef, z.1.defers.isEmpty, z.2)) = some (v, true, w')) :
    Calls P f args w fun e w'' => e = .returned v ∧ w'' = w' := by
  obtain ⟨z, hz, hv⟩ := Option.map_eq_some_iff.1 h
  simp only [Prod.mk.injEq] at hv
  obtain ⟨h1, h2, h3⟩ := hv
  refine calls_of_wp hf hb (straightRet_wp c ops _ w z hs hz ?_)
  have hd : z.1.defers = [] := List.isEmpty_iff.1 h2
  refine ⟨hd, z.1.tmps.getD t undef, results_tmp hres _ _ _, by rw [h1], h3⟩
end Go.Proofs.Base
