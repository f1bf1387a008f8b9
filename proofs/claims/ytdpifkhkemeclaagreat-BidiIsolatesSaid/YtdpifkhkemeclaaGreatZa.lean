/- Small laws of walks that the texts of this seat use. Small laws of walks that the texts of this seat use. Large literals: a build, a store, a cell's result. -/
import Derived.WalkKit
import Derived.WalkSpells
import Derived.WalkLawsBesides
import Derived.OneCell
import Derived.Lib.Hide
import Derived.KernelRfl
import Derived.Test.YtdpifkhkemeclaaGreatVMore
import Derived.Test.YtdpifkhkemeclaaGreatProg
namespace Go.Proofs.Base
open Go.RowKit
theorem wpList_append_one {P : Program} {wr : World} {ops : Array Oper} {rest : List Oper} {o : Oper} {a : Act} {Q : Exit → Act → World → Prop} (hgd : o.guard = none) (s x : Operand) (t : TypeId)
    (ho : o.op = .call { callee := .builtin .append, args := #[s, x], argTypes := #[t, t] })
    (base : Nat) (e : TypeId) (z : Value) (bytes : Nat) (ht : P.underlying t = some (.slice e)) (hinfo : (P.info? e).map (fun i => (i.zero, i.size, i.bytes)) = some (some z, 1, bytes)) (hzs : z.cells.size = 1)
    (v : Value) (n : Nat) (xs : List Value) (hs : a.eval s = v) (hown : wr.ownsRow base e 1 v n xs)
    (u : Value) (hu : u.oneCell' = true) (c : Nat) (hx : a.eval x = .slice (some ⟨wr.heap.size, 0, none⟩) 1 c)
    (h63 : n + 1 ≤ maxLen) (hbytes : (n + 1) * bytes ≤ 140737488355328) (hbase : base ≤ wr.heap.size)
    (h : ∀ v' w1, w1.ownsRow base e 1 v' (n + 1) (xs ++ [u]) → (wr.alloc (.cells #[u] e)).grownBy w1 v.ownBlock → wpList P ops Q rest (a.put o.dst v') w1) :
    wpList P ops Q (o :: rest) a (wr.alloc (.cells #[u] e)) := by
  obtain ⟨i, hi, hz, hsize, hby⟩ := info_parts hinfo
  refine wpList_append_own (wr.alloc (.cells #[u] e)) hgd s x t ho base e i z 1 bytes ht hi hz hsize hby hzs (by decide) v n xs hs (hown.alloc _) ⟨wr.heap.size, 0, none⟩ 1 c [u] hx rfl ?_ ?_ h63 hbytes (by simp; omega) fun v' w' h2 h3 _ => h v' w' h2 h3
  · intro j y hj
    match j, hj with
    | 0, hj =>
      simp at hj
      subst hj
      have h2 : (⟨wr.heap.size, 0, none⟩ : Addr).add 0 = ⟨wr.heap.size, 0, none⟩ := rfl
      rw [h2, cell_of_row _ _ _ _ _ _ (heap_alloc_new wr (.cells #[u] e))]
      rfl
  · intro y hy
    simp at hy
    subst hy
    exact hu
end Go.Proofs.Base
namespace Go.Proofs.Base
open Go
def straight : Code → Option (List Oper)
  | .region _ ops false => some ops.toList
  | .skip => some []
  | .seq x y => (straight x).bind fun a => (straight y).map fun b => a ++ b
  | _ => none
def straightRet : Code → Option (List Oper)
  | .seq x y => (straight x).bind fun a => (straightRet y).map fun b => a ++ b
  | .ret => some []
  | _ => none
def foldOps (P : Program) : List Oper → Act → World → Option (Act × World)
  | [], a, w => some (a, w)
  | o :: r, a, w => match o.guard with
    | some _ => none
    | none => match (execOp a.eval o).run P w with
      | .ok (.value v) w' => foldOps P r (a.put o.dst v) w'
      | .ok .skip w' => foldOps P r (a.put o.dst undef) w'
      | _ => none
theorem foldOps_append (P : Program) (x y : List Oper) : ∀ a w, foldOps P (x ++ y) a w = (foldOps P x a w).bind fun z => foldOps P y z.1 z.2 := by
  induction x with
  | nil => intro a w; rfl
  | cons o r ih =>
    intro a w
    rw [List.cons_append]
    simp only [foldOps.eq_2]
    cases o.guard with
    | some g => rfl
    | none =>
      simp only
      split
      · exact ih _ _
      · exact ih _ _
      · rfl
theorem foldOps_list {P : Program} {ops : Array Oper} {Q : Exit → Act → World → Prop} (l : List Oper) : ∀ a w z, foldOps P l a w = some z → Q .normal z.1 z.2 → wpList P ops Q l a w := by
  induction l with
  | nil => intro a w z h q; cases h; exact q
  | cons o r ih =>
    intro a w z h q
    unfold foldOps at h
    split at h
    · cases h
    · rename_i hg
      split at h
      · rename_i v w' hr
        refine wpList_plain hg fun K hK => ?_
        unfold Oper.wp
        rw [hr]
        exact hK _ _ (ih _ _ z h q)
      · rename_i w' hr
        refine wpList_plain hg fun K hK => ?_
        unfold Oper.wp
        rw [hr]
        exact hK _ _ (ih _ _ z h q)
      · cases h
theorem straight_wp {P : Program} {Q : Exit → Act → World → Prop} (c : Code) : ∀ ops a w z, straight c = some ops → foldOps P ops a w = some z → Q .normal z.1 z.2 → c.wp P Q a w := by
  induction c generalizing Q with
  | region i ops d =>
    intro l a w z h hz q
    cases d with
    | true => cases h
    | false =>
      cases h
      exact wp_region_list (foldOps_list _ a w z hz q)
  | skip => intro l a w z h hz q; cases h; cases hz; exact wp_skip q
  | seq x y ihx ihy =>
    intro l a w z h hz q
    simp only [straight, Option.bind_eq_some_iff, Option.map_eq_some_iff] at h
    obtain ⟨lx, hx, ly, hy, rfl⟩ := h
    rw [foldOps_append, Option.bind_eq_some_iff] at hz
    obtain ⟨m, hm, hz⟩ := hz
    exact wp_seq (ihx lx a w m hx hm (ihy ly m.1 m.2 z hy hz q))
  | _ => intro l a w z h; cases h
theorem straightRet_wp {P : Program} {Q : Exit → Act → World → Prop} (c : Code) : ∀ ops a w z, straightRet c = some ops → foldOps P ops a w = some z → Q .ret z.1 z.2 → c.wp P Q a w := by
  induction c generalizing Q with
  | ret => intro l a w z h hz q; cases h; cases hz; exact wp_ret q
  | seq x y ihx ihy =>
    intro l a w z h hz q
    simp only [straightRet, Option.bind_eq_some_iff, Option.map_eq_some_iff] at h
    obtain ⟨lx, hx, ly, hy, rfl⟩ := h
    rw [foldOps_append, Option.bind_eq_some_iff] at hz
    obtain ⟨m, hm, hz⟩ := hz
    exact wp_seq (straight_wp x lx a w m hx hm (ihy ly m.1 m.2 z hy hz q))
  | _ => intro l a w z h; cases h
theorem straight_calls {P : Program} {f : FuncId} {fn : Func} {c : Code} {args : Array Value} {w w' : World} {ops : List Oper} {t : Tmp} {v : Value}
    (hf : P.funcs[f]? = some fn) (hb : fn.body = some c) (hs : straightRet c = some ops) (hres : fn.results = #[.tmp t])
    (h : (foldOps P ops { tmps := args ++ Array.replicate (fn.ntmps - args.size) undef, defers := [] } w).map (fun z => (z.1.tmps.getD t undef, z.1.defers.isEmpty, z.2)) = some (v, true, w')) :
    Calls P f args w fun e w'' => e = .returned v ∧ w'' = w' := by
  obtain ⟨z, hz, hv⟩ := Option.map_eq_some_iff.1 h
  simp only [Prod.mk.injEq] at hv
  obtain ⟨h1, h2, h3⟩ := hv
  refine calls_of_wp hf hb (straightRet_wp c ops _ w z hs hz ?_)
  have hd : z.1.defers = [] := List.isEmpty_iff.1 h2
  refine ⟨hd, z.1.tmps.getD t undef, results_tmp hres _ _ _, by rw [h1], h3⟩
end Go.Proofs.Base
namespace Go.Proofs.YtdpifkhkemeclaaGreat
open Go.RowKit Go.Proofs.YtdpifkhkemeclaaGreatW.PrintWords
set_option linter.unusedVariables false
set_option linter.unusedSimpArgs false
theorem results_cell {fn : Func} {p : Tmp} {ty : TypeId} (h : fn.results = #[.cell p ty]) (tmps : Array Value) (P : Program) (w : World) :
    (results fn tmps).run P w = ((asAddr (tmps.getD p undef)).run P w).andThen fun a w₁ => (loadVar ty a).run P w₁ := by
  simp only [results, h]
  simp [Sem.run_bind, Result.andThen]
theorem set_alloc (w : World) (o : Array Value) (t : TypeId) (cs : Array Value) : (w.alloc (.cells o t)).setRow w.heap.size cs = w.alloc (.cells cs t) := by
  have h : ∀ k : Nat, ((w.alloc (.cells o t)).setRow w.heap.size cs).heap[k]? = (w.alloc (.cells cs t)).heap[k]? := by
    intro k
    by_cases hk : k = w.heap.size
    · subst hk
      rw [setRow_heap _ _ _ _ t _ (heap_alloc_new w _), heap_alloc_new]
    · rw [setRow_other _ _ _ _ hk]
      show (w.heap.push _)[k]? = (w.heap.push _)[k]?
      rw [Array.getElem?_push, Array.getElem?_push, if_neg hk, if_neg hk]
  have e : ((w.alloc (.cells o t)).setRow w.heap.size cs).heap = (w.alloc (.cells cs t)).heap := Array.ext_getElem? (fun k => h k)
  show World.mk _ _ _ _ _ = World.mk _ _ _ _ _
  congr 1
end Go.Proofs.YtdpifkhkemeclaaGreat
