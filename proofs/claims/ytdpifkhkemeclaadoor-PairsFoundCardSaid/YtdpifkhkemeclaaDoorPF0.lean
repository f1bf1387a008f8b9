/- pairs.Find: its plain words; the state of its walk. -/
import Derived.Test.YtdpifkhkemeclaaDoorIns
import Derived.Test.YtdpifkhkemeclaaDoorMir
import Derived.RangeFuncNested
import Derived.RangeFuncBox
import Derived.Maps.AppendAt
namespace Go.Proofs.YtdpifkhkemeclaaDoor
open Go.RowKit Go.Proofs.YtdpifkhkemeclaaDoorW.PrintWords
set_option linter.unusedVariables false
set_option linter.unusedSimpArgs false

def zInts (op : List Nat) : List Int := op.map Int.ofNat
/-- The bracket that is open and meets, from the last one down: its place in the stack, its place in the text. -/
def popF (codes : List Int) (op : List Nat) (c : Int) : Option (Nat × Int) := (bwTo (zInts op) op.length).find? fun x => meetP (codes.getD x.2.toNat 0) c
/-- The pairs by their ends. -/
def findGo (types codes : List Int) : Nat → Nat → List Nat → List (Nat × Nat) → List (Nat × Nat)
  | 0, _, _, out => out
  | d + 1, i, op, out =>
    if types.getD i 0 ≠ 13 ∨ (pairP (codes.getD i 0)).1 = 0 then findGo types codes d (i + 1) op out
    else if (pairP (codes.getD i 0)).1 = 1 then (if op.length = 63 then out else findGo types codes d (i + 1) (op ++ [i]) out)
    else match popF codes op (codes.getD i 0) with
      | none => findGo types codes d (i + 1) op out
      | some x => findGo types codes d (i + 1) (op.take x.1) (out ++ [(x.2.toNat, i)])

def icells (op : List Nat) : List Value := op.map fun i : Nat => Value.int .i64 (i : Int)
def pcells (out : List (Nat × Nat)) : List Value := out.flatMap fun p => [Value.int .i64 (p.1 : Int), Value.int .i64 (p.2 : Int)]
theorem pcells_len (out : List (Nat × Nat)) : (pcells out).length = out.length * 2 := by
  induction out with
  | nil => rfl
  | cons p r ih => simp only [pcells, List.flatMap_cons, List.length_append] at *; rw [ih]; simp; omega
theorem icells_snoc (op : List Nat) (i : Nat) : icells (op ++ [i]) = icells op ++ [.int .i64 (i : Int)] := by simp [icells]
theorem pcells_snoc (out : List (Nat × Nat)) (a b : Nat) : pcells (out ++ [(a, b)]) = pcells out ++ [.int .i64 (a : Int), .int .i64 (b : Int)] := by simp [pcells]

/-- Where the walk stands: the boxes of codes, of what is found, of what is open; the rows of the last two. -/
structure FS (w : World) (cv vO vP : Value) (op : List Nat) (out : List (Nat × Nat)) (W : World) : Prop where
  bel : Below w.heap.size w W
  bC : Boxed W w.heap.size 22 cv
  bO : Boxed W (w.heap.size + 1) 25 vO
  bP : Boxed W (w.heap.size + 1 + 1) 22 vP
  rO : W.ownsRow w.heap.size 31 2 vO out.length (pcells out)
  rP : W.ownsRow w.heap.size 3 1 vP op.length (icells op)
section
variable {w W W' : World} {cv vO vP : Value} {op : List Nat} {out : List (Nat × Nat)}
theorem FS.below (h : FS w cv vO vP op out W) (hb : Below W.heap.size W W') : FS w cv vO vP op out W' :=
  ⟨h.bel.trans (hb.mono h.bel.size), (hb.block _ h.bC.lt).trans h.bC, (hb.block _ h.bO.lt).trans h.bO, (hb.block _ h.bP.lt).trans h.bP, pw_own_below h.rO hb, pw_own_below h.rP hb⟩
theorem FS.alloc (h : FS w cv vO vP op out W) (o : Obj) : FS w cv vO vP op out (W.alloc o) := h.below ((Below.refl _ _).alloc (Nat.le_refl _) _)
/-- One more is open. -/
theorem FS.push (h : FS w cv vO vP op out W) (o : Obj) (i : Nat) {v' : Value} (hr : W'.ownsRow w.heap.size 3 1 v' (op.length + 1) (icells op ++ [.int .i64 (i : Int)])) (hg : (W.alloc o).grownBy W' vP.ownBlock) :
    FS w cv vO v' (op ++ [i]) out (W'.setCell ⟨w.heap.size + 1 + 1, 0, none⟩ v') := by
  have h1 := h.alloc o
  have nC := h1.bC.kept hg (by have := own_ne h1.rP h1.bC (by decide); exact this)
  have nO := h1.bO.kept hg (own_ne h1.rP h1.bO (by decide))
  have nP := h1.bP.kept hg (own_ne h1.rP h1.bP (by decide))
  have nrO := own_other h1.rO hg (own_type_ne h1.rO h1.rP (by decide))
  have hb : Below w.heap.size w W' := h1.bel.grown hg h1.bel.size (fun k hk => own_base h1.rP k hk)
  refine ⟨hb.setCell (p := ⟨w.heap.size + 1 + 1, 0, none⟩) (by simp; omega) _, nC.other (by omega) _, nO.other (by omega) _, nP.set v', own_setCell nrO (show some (w.heap.size + 1 + 1) ≠ vO.ownBlock from own_ne nrO nP (by decide)) _, ?_⟩
  rw [icells_snoc, List.length_append]
  exact own_setCell hr (show some (w.heap.size + 1 + 1) ≠ v'.ownBlock from own_ne hr nP (by decide)) _
/-- One more is found. -/
theorem FS.emit (h : FS w cv vO vP op out W) (o : Obj) (a b : Nat) {v' : Value} (hr : W'.ownsRow w.heap.size 31 2 v' (out.length + 1) (pcells out ++ [.int .i64 (a : Int), .int .i64 (b : Int)])) (hg : (W.alloc o).grownBy W' vO.ownBlock) :
    FS w cv v' vP op (out ++ [(a, b)]) (W'.setCell ⟨w.heap.size + 1, 0, none⟩ v') := by
  have h1 := h.alloc o
  have nC := h1.bC.kept hg (own_ne h1.rO h1.bC (by decide))
  have nO := h1.bO.kept hg (own_ne h1.rO h1.bO (by decide))
  have nP := h1.bP.kept hg (own_ne h1.rO h1.bP (by decide))
  have nrP := own_other h1.rP hg (own_type_ne h1.rP h1.rO (by decide))
  have hb : Below w.heap.size w W' := h1.bel.grown hg h1.bel.size (fun k hk => own_base h1.rO k hk)
  refine ⟨hb.setCell (p := ⟨w.heap.size + 1, 0, none⟩) (by simp) _, nC.other (by omega) _, nO.set v', nP.other (by omega) _, ?_, own_setCell nrP (show some (w.heap.size + 1) ≠ vP.ownBlock from own_ne nrP nO (by decide)) _⟩
  rw [pcells_snoc, List.length_append]
  exact own_setCell hr (show some (w.heap.size + 1) ≠ v'.ownBlock from own_ne hr nO (by decide)) _
/-- The stack is cut. -/
theorem FS.cut {a : Option Addr} {n cp : Nat} (h : FS w cv vO (.slice a n cp) op out W) (k : Nat) (hk : k ≤ op.length) :
    FS w cv vO (.slice a k cp) (op.take k) out (W.setCell ⟨w.heap.size + 1 + 1, 0, none⟩ (.slice a k cp)) := by
  have hr : W.ownsRow w.heap.size 3 1 (.slice a k cp) (op.take k).length (icells (op.take k)) := by
    have hl : (op.take k).length = k := by simp; omega
    refine ⟨by simp [icells], ?_⟩
    rcases h.rP.2 with ⟨hv, h0⟩ | ⟨g, cap, cur, hv, hB, hg, hle, hm, hs, ht⟩
    · injection hv with e1 e2 e3
      subst e1 e3
      refine .inl ⟨?_, by rw [hl]; omega⟩
      rw [show k = 0 by omega]
    · injection hv with e1 e2 e3
      subst e1 e2 e3
      refine .inr ⟨g, cp, cur, by rw [hl], hB, hg, by rw [hl]; omega, hm, hs, ?_⟩
      rw [hl]
      have : (cur.toList.take (op.length * 1)).take k = (icells op).take k := by rw [ht]
      rw [List.take_take, show min k (op.length * 1) = k * 1 by omega] at this
      rw [this]
      simp [icells, List.map_take]
  exact ⟨h.bel.setCell (p := ⟨w.heap.size + 1 + 1, 0, none⟩) (by simp; omega) _, h.bC.other (by omega) _, h.bO.other (by omega) _, h.bP.set _, own_setCell h.rO (show some (w.heap.size + 1 + 1) ≠ vO.ownBlock from own_ne h.rO h.bP (by decide)) _, own_setCell hr (show some (w.heap.size + 1 + 1) ≠ (Value.slice a k cp).ownBlock from own_ne hr h.bP (by decide)) _⟩
end

/-- The marks that loops over iterators have left among the deferred calls. -/
def Marks (B : Nat) (ds : List Deferred) (W : World) : Prop := ds.Nodup ∧ ∀ d ∈ ds, ∃ D, d = { target := .collected D, args := #[] } ∧ B ≤ D ∧ W.heap[D]? = some (.deferred (some []))
theorem Marks.below {B : Nat} {ds : List Deferred} {W W' : World} (h : Marks B ds W) (hb : Below W.heap.size W W') : Marks B ds W' :=
  ⟨h.1, fun d hd => by obtain ⟨D, e, hB, hD⟩ := h.2 d hd; exact ⟨D, e, hB, (hb.block D (Array.getElem?_eq_some_iff.1 hD).1).trans hD⟩⟩
theorem Marks.keep {B : Nat} {ds : List Deferred} {W W' : World} (h : Marks B ds W) (hk : KeepsOthers W W') : Marks B ds W' :=
  ⟨h.1, fun d hd => by obtain ⟨D, e, hB, hD⟩ := h.2 d hd; exact ⟨D, e, hB, hk.same D _ hD rfl⟩⟩
theorem Marks.more {B : Nat} {ds : List Deferred} {W0 W : World} (h : Marks B ds W) (h0 : Marks B ds W0) {D : Nat} (hlt : W0.heap.size ≤ D) (hB : B ≤ D) (hD : W.heap[D]? = some (.deferred (some []))) : Marks B ({ target := .collected D, args := #[] } :: ds) W := by
  refine ⟨List.nodup_cons.2 ⟨fun hm => ?_, h.1⟩, fun d hd => ?_⟩
  · obtain ⟨D', e, _, hD'⟩ := h0.2 _ hm
    injection e with e1 _
    injection e1 with e1
    have := (Array.getElem?_eq_some_iff.1 hD').1
    omega
  · rcases List.mem_cons.1 hd with rfl | hd
    · exact ⟨D, rfl, hB, hD⟩
    · exact h.2 d hd
/-- What is kept where the marks are taken up: whatever holds cells. -/
def Takes (B : Nat) (W W' : World) : Prop := Below B W W' ∧ ∀ (k : Nat) (o : Obj), W.heap[k]? = some o → o.isCells = true → W'.heap[k]? = some o
theorem leaves_marks {n B : Nat} {fn : Func} {tmps : Array Value} {R : Ending → World → Prop} : ∀ (ds : List Deferred) (W : World), B ≤ W.heap.size → Marks B ds W →
    (∀ W', Takes B W W' → ∃ v, (results fn tmps).run Tryd.prog W' = .ok v W' ∧ R (.returned v) W') → LeavesInM Fence.wide n Tryd.prog fn tmps R ds .returning W
  | [], W, _, _, h => by
    obtain ⟨v, h1, h2⟩ := h W ⟨Below.refl _ _, fun _ _ h _ => h⟩
    exact ⟨v, h1, h2⟩
  | d :: ds, W, hBW, hm, h => by
    obtain ⟨D, rfl, hB, hD⟩ := hm.2 d (by simp)
    refine ⟨by simp, .inl ⟨D, _, rfl, run_takeDeferred hD, ?_⟩⟩
    have hT : Takes B W (W.putObj D (.deferred none)) := by
      refine ⟨(Below.refl B W).grown (grownBy_putObj' W D _) hBW (fun k e => by cases e; exact hB), fun k o hk hc => ?_⟩
      have hne : k ≠ D := by
        intro e
        subst e
        rw [hD] at hk
        injection hk with hk
        subst hk
        cases hc
      exact ((grownBy_putObj' W D (.deferred none)).block k (Array.getElem?_eq_some_iff.1 hk).1 (fun e => hne (by cases e; rfl))).trans hk
    have hnd := List.nodup_cons.1 hm.1
    refine leaves_marks ds _ (Nat.le_trans hBW (grownBy_putObj' W D (.deferred none)).size) ⟨hnd.2, fun d hd => ?_⟩ (fun W' hT' => h W' ⟨hT.1.trans hT'.1, fun k o hk hc => hT'.2 k o (hT.2 k o hk hc) hc⟩)
    obtain ⟨D', rfl, hB', hD'⟩ := hm.2 d (by simp [hd])
    have hne : D' ≠ D := by
      intro e
      subst e
      exact hnd.1 hd
    exact ⟨D', rfl, hB', ((grownBy_putObj' W D (.deferred none)).block D' (Array.getElem?_eq_some_iff.1 hD').1 (fun e => hne (by cases e; rfl))).trans hD'⟩
end Go.Proofs.YtdpifkhkemeclaaDoor
