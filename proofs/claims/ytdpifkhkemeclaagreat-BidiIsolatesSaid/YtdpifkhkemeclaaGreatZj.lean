/- pairs.Find: its plain words; the state of its walk. The pairs put in order by what opens: slices.SortFunc at them. pairs.Find: the inner range over what is open: its invariant. pairs.Find, walked. pairs.Find's plain words: what is open and what is found differ; the order. The pairs of two rows, in order. -/
import Derived.Test.YtdpifkhkemeclaaGreatZi
import Derived.Test.YtdpifkhkemeclaaGreatZm
import Derived.RangeFuncNested
import Derived.RangeFuncBox
import Derived.Maps.AppendAt
import Derived.Test.YtdpifkhkemeclaaGreatShelf
import Derived.Scope
import Derived.Test.YtdpifkhkemeclaaGreatVMore
set_option linter.unusedVariables false
set_option linter.unusedSimpArgs false
namespace Go.Proofs.YtdpifkhkemeclaaGreat
open Go.RowKit Go.Proofs.YtdpifkhkemeclaaGreatW.PrintWords
def zInts (op : List Nat) : List Int := op.map Int.ofNat
def popF (codes : List Int) (op : List Nat) (c : Int) : Option (Nat × Int) := (bwTo (zInts op) op.length).find? fun x => meetP (codes.getD x.2.toNat 0) c
def findGo (types codes : List Int) : Nat → Nat → List Nat → List (Nat × Nat) → List (Nat × Nat)
  | 0, _, _, out => out
  | d + 1, i, op, out =>
    if types.getD i 0 ≠ 13 ∨ (pairP (codes.getD i 0)).1 = 0 then findGo types codes d (i + 1) op out
    else if (pairP (codes.getD i 0)).1 = 1 then (if op.length = 63 then out else findGo types codes d (i + 1) (op ++ [i]) out)
    else match popF codes op (codes.getD i 0) with
      | none => findGo types codes d (i + 1) op out
      | some x => findGo types codes d (i + 1) (op.take x.1) (out ++ [(x.2.toNat, i)])
def icells (op : List Nat) : List Value := op.map fun i : Nat => Value.int .i64 (i : Int)
def pcells (out : List (Nat × Nat)) : List Value := out.flatMap fun p => [Value.int .i64 (p.1 : Int), Value.int .i64 (p.2 : Int)]
theorem pcells_len (out : List (Nat × Nat)) : (pcells out).length = out.length * 2 := by
  induction out with
  | nil => rfl
  | cons p r ih => simp only [pcells, List.flatMap_cons, List.length_append] at *; rw [ih]; simp; omega
theorem icells_snoc (op : List Nat) (i : Nat) : icells (op ++ [i]) = icells op ++ [.int .i64 (i : Int)] := by simp [icells]
theorem pcells_snoc (out : List (Nat × Nat)) (a b : Nat) : pcells (out ++ [(a, b)]) = pcells out ++ [.int .i64 (a : Int), .int .i64 (b : Int)] := by simp [pcells]
structure FS (w : World) (cv vO vP : Value) (op : List Nat) (out : List (Nat × Nat)) (W : World) : Prop where
  bel : Below w.heap.size w W
  bC : Boxed W w.heap.size 25 cv
  bO : Boxed W (w.heap.size + 1) 102 vO
  bP : Boxed W (w.heap.size + 1 + 1) 25 vP
  rO : W.ownsRow w.heap.size 106 2 vO out.length (pcells out)
  rP : W.ownsRow w.heap.size 3 1 vP op.length (icells op)
section
variable {w W W' : World} {cv vO vP : Value} {op : List Nat} {out : List (Nat × Nat)}
theorem FS.below (h : FS w cv vO vP op out W) (hb : Below W.heap.size W W') : FS w cv vO vP op out W' :=
  ⟨h.bel.trans (hb.mono h.bel.size), (hb.block _ h.bC.lt).trans h.bC, (hb.block _ h.bO.lt).trans h.bO, (hb.block _ h.bP.lt).trans h.bP, pw_own_below h.rO hb, pw_own_below h.rP hb⟩
theorem FS.alloc (h : FS w cv vO vP op out W) (o : Obj) : FS w cv vO vP op out (W.alloc o) := h.below ((Below.refl _ _).alloc (Nat.le_refl _) _)
theorem FS.push (h : FS w cv vO vP op out W) (o : Obj) (i : Nat) {v' : Value} (hr : W'.ownsRow w.heap.size 3 1 v' (op.length + 1) (icells op ++ [.int .i64 (i : Int)])) (hg : (W.alloc o).grownBy W' vP.ownBlock) :
    FS w cv vO v' (op ++ [i]) out (W'.setCell ⟨w.heap.size + 1 + 1, 0, none⟩ v') := by
  have h1 := h.alloc o
  have nC := h1.bC.kept hg (by have := own_ne h1.rP h1.bC (by decide); exact this)
  have nO := h1.bO.kept hg (own_ne h1.rP h1.bO (by decide))
  have nP := h1.bP.kept hg (own_ne h1.rP h1.bP (by decide))
  have nrO := own_other h1.rO hg (own_type_ne h1.rO h1.rP (by decide))
  have hb : Below w.heap.size w W' := h1.bel.grown hg h1.bel.size (fun k hk => own_base h1.rP k hk)
  refine ⟨hb.setCell (p := ⟨w.heap.size + 1 + 1, 0, none⟩) (by simp; omega) _, nC.other (by omega) _, nO.other (by omega) _, nP.set v', own_setCell nrO (show some (w.heap.size + 1 + 1) ≠ vO.ownBlock from own_ne nrO nP (by decide)) _, ?_⟩
  rw [icells_snoc, List.length_append]
  exact own_setCell hr (show some (w.heap.size + 1 + 1) ≠ v'.ownBlock from own_ne hr nP (by decide)) _
theorem FS.emit (h : FS w cv vO vP op out W) (o : Obj) (a b : Nat) {v' : Value} (hr : W'.ownsRow w.heap.size 106 2 v' (out.length + 1) (pcells out ++ [.int .i64 (a : Int), .int .i64 (b : Int)])) (hg : (W.alloc o).grownBy W' vO.ownBlock) :
    FS w cv v' vP op (out ++ [(a, b)]) (W'.setCell ⟨w.heap.size + 1, 0, none⟩ v') := by
  have h1 := h.alloc o
  have nC := h1.bC.kept hg (own_ne h1.rO h1.bC (by decide))
  have nO := h1.bO.kept hg (own_ne h1.rO h1.bO (by decide))
  have nP := h1.bP.kept hg (own_ne h1.rO h1.bP (by decide))
  have nrP := own_other h1.rP hg (own_type_ne h1.rP h1.rO (by decide))
  have hb : Below w.heap.size w W' := h1.bel.grown hg h1.bel.size (fun k hk => own_base h1.rO k hk)
  refine ⟨hb.setCell (p := ⟨w.heap.size + 1, 0, none⟩) (by simp) _, nC.other (by omega) _, nO.set v', nP.other (by omega) _, ?_, own_setCell nrP (show some (w.heap.size + 1) ≠ vP.ownBlock from own_ne nrP nO (by decide)) _⟩
  rw [pcells_snoc, List.length_append]
  exact own_setCell hr (show some (w.heap.size + 1) ≠ v'.ownBlock from own_ne hr nO (by decide)) _
theorem FS.cut {a : Option Addr} {n cp : Nat} (h : FS w cv vO (.slice a n cp) op out W) (k : Nat) (hk : k ≤ op.length) :
    FS w cv vO (.slice a k cp) (op.take k) out (W.setCell ⟨w.heap.size + 1 + 1, 0, none⟩ (.slice a k cp)) := by
  have hr : W.ownsRow w.heap.size 3 1 (.slice a k cp) (op.take k).length (icells (op.take k)) := by
    have hl : (op.take k).length = k := by simp; omega
    refine ⟨by simp [icells], ?_⟩
    rcases h.rP.2 with ⟨hv, h0⟩ | ⟨g, cap, cur, hv, hB, hg, hle, hm, hs, ht⟩
    · injection hv with e1 e2 e3
      subst e1 e3
      refine .inl ⟨?_, by rw [hl]; omega⟩
      rw [show k = 0 by omega]
    · injection hv with e1 e2 e3
      subst e1 e2 e3
      refine .inr ⟨g, cp, cur, by rw [hl], hB, hg, by rw [hl]; omega, hm, hs, ?_⟩
      rw [hl]
      have : (cur.toList.take (op.length * 1)).take k = (icells op).take k := by rw [ht]
      rw [List.take_take, show min k (op.length * 1) = k * 1 by omega] at this
      rw [this]
      simp [icells, List.map_take]
  exact ⟨h.bel.setCell (p := ⟨w.heap.size + 1 + 1, 0, none⟩) (by simp; omega) _, h.bC.other (by omega) _, h.bO.other (by omega) _, h.bP.set _, own_setCell h.rO (show some (w.heap.size + 1 + 1) ≠ vO.ownBlock from own_ne h.rO h.bP (by decide)) _, own_setCell hr (show some (w.heap.size + 1 + 1) ≠ (Value.slice a k cp).ownBlock from own_ne hr h.bP (by decide)) _⟩
end
def Marks (B : Nat) (ds : List Deferred) (W : World) : Prop := ds.Nodup ∧ ∀ d ∈ ds, ∃ D, d = { target := .collected D, args := #[] } ∧ B ≤ D ∧ W.heap[D]? = some (.deferred (some []))
theorem Marks.below {B : Nat} {ds : List Deferred} {W W' : World} (h : Marks B ds W) (hb : Below W.heap.size W W') : Marks B ds W' :=
  ⟨h.1, fun d hd => by obtain ⟨D, e, hB, hD⟩ := h.2 d hd; exact ⟨D, e, hB, (hb.block D (Array.getElem?_eq_some_iff.1 hD).1).trans hD⟩⟩
theorem Marks.keep {B : Nat} {ds : List Deferred} {W W' : World} (h : Marks B ds W) (hk : KeepsOthers W W') : Marks B ds W' :=
  ⟨h.1, fun d hd => by obtain ⟨D, e, hB, hD⟩ := h.2 d hd; exact ⟨D, e, hB, hk.same D _ hD rfl⟩⟩
theorem Marks.more {B : Nat} {ds : List Deferred} {W0 W : World} (h : Marks B ds W) (h0 : Marks B ds W0) {D : Nat} (hlt : W0.heap.size ≤ D) (hB : B ≤ D) (hD : W.heap[D]? = some (.deferred (some []))) : Marks B ({ target := .collected D, args := #[] } :: ds) W := by
  refine ⟨List.nodup_cons.2 ⟨fun hm => ?_, h.1⟩, fun d hd => ?_⟩
  · obtain ⟨D', e, _, hD'⟩ := h0.2 _ hm
    injection e with e1 _
    injection e1 with e1
    have := (Array.getElem?_eq_some_iff.1 hD').1
    omega
  · rcases List.mem_cons.1 hd with rfl | hd
    · exact ⟨D, rfl, hB, hD⟩
    · exact h.2 d hd
def Takes (B : Nat) (W W' : World) : Prop := Below B W W' ∧ ∀ (k : Nat) (o : Obj), W.heap[k]? = some o → o.isCells = true → W'.heap[k]? = some o
theorem leaves_marks {n B : Nat} {fn : Func} {tmps : Array Value} {R : Ending → World → Prop} : ∀ (ds : List Deferred) (W : World), B ≤ W.heap.size → Marks B ds W →
    (∀ W', Takes B W W' → ∃ v, (results fn tmps).run Tryz.prog W' = .ok v W' ∧ R (.returned v) W') → LeavesInM Fence.wide n Tryz.prog fn tmps R ds .returning W
  | [], W, _, _, h => by
    obtain ⟨v, h1, h2⟩ := h W ⟨Below.refl _ _, fun _ _ h _ => h⟩
    exact ⟨v, h1, h2⟩
  | d :: ds, W, hBW, hm, h => by
    obtain ⟨D, rfl, hB, hD⟩ := hm.2 d (by simp)
    refine ⟨by simp, .inl ⟨D, _, rfl, run_takeDeferred hD, ?_⟩⟩
    have hT : Takes B W (W.putObj D (.deferred none)) := by
      refine ⟨(Below.refl B W).grown (grownBy_putObj' W D _) hBW (fun k e => by cases e; exact hB), fun k o hk hc => ?_⟩
      have hne : k ≠ D := by
        intro e
        subst e
        rw [hD] at hk
        injection hk with hk
        subst hk
        cases hc
      exact ((grownBy_putObj' W D (.deferred none)).block k (Array.getElem?_eq_some_iff.1 hk).1 (fun e => hne (by cases e; rfl))).trans hk
    have hnd := List.nodup_cons.1 hm.1
    refine leaves_marks ds _ (Nat.le_trans hBW (grownBy_putObj' W D (.deferred none)).size) ⟨hnd.2, fun d hd => ?_⟩ (fun W' hT' => h W' ⟨hT.1.trans hT'.1, fun k o hk hc => hT'.2 k o (hT.2 k o hk hc) hc⟩)
    obtain ⟨D', rfl, hB', hD'⟩ := hm.2 d (by simp [hd])
    have hne : D' ≠ D := by
      intro e
      subst e
      exact hnd.1 hd
    exact ⟨D', rfl, hB', ((grownBy_putObj' W D (.deferred none)).block D' (Array.getElem?_eq_some_iff.1 hD').1 (fun e => hne (by cases e; rfl))).trans hD'⟩
end Go.Proofs.YtdpifkhkemeclaaGreat
namespace Go.Proofs.YtdpifkhkemeclaaGreat
open Go.RowKit Go.Shelf Go.Lib Go.Sort
def encP (x : Nat × Nat) : List Value := [.int .i64 (x.1 : Int), .int .i64 (x.2 : Int)]
def cmpP (x y : Nat × Nat) : Int := Lib.compareInt (x.1 : Int) (y.1 : Int)
set_option maxHeartbeats 1000000 in
theorem closure24 (x y : Nat × Nat) (W : World) : Calls Tryz.prog 142 #[.agg #[.int .i64 (x.1 : Int), .int .i64 (x.2 : Int)], .agg #[.int .i64 (y.1 : Int), .int .i64 (y.2 : Int)]] W fun e w' => e = .returned (.int .i64 (cmpP x y)) ∧ ∃ q os', w' = grow (W.drewN q) os' := by
  have hcon := fun W' => AnyG.cmp_Compare_int Tryz.cmpInt (x.1 : Int) (y.1 : Int) W'
  change ∀ W', Calls Tryz.prog 143 _ _ _ at hcon
  unfold cmpP
  generalize Lib.compareInt (x.1 : Int) (y.1 : Int) = r at hcon ⊢
  have HC := Lib.hid hcon
  clear hcon
  go_enter Tryz.func142, Tryz.ntmps142
  go_wp2_with (go_at_call 143; refine (HC.out _).mono ?_; rintro e w' ⟨rfl, rfl⟩)
  go_ret
  exact ⟨rfl, 0, _, by rw [alloc_eq_grow, alloc_eq_grow, grow_grow]; rfl⟩
theorem cmpLays24 (blk off size : Nat) (w : World) : CmpLays Tryz.prog 142 #[] encP 2 cmpP blk off size w :=
  fun _ _ _ _ x y => closure24 x y _
theorem ltP (x y : Nat × Nat) : ltOf cmpP x y = decide (x.1 < y.1) := by
  unfold ltOf cmpP Lib.compareInt
  by_cases h1 : (x.1 : Int) < (y.1 : Int)
  · have h1' : x.1 < y.1 := by omega
    simp [h1']
  · have h1' : ¬ x.1 < y.1 := by omega
    by_cases h2 : (y.1 : Int) < (x.1 : Int)
    · have h2' : y.1 < x.1 := by omega
      simp [h1', h2']
    · have h2' : ¬ y.1 < x.1 := by omega
      simp [h1', h2']
theorem swoP : SWO (ltOf cmpP) where
  irrefl x := by rw [ltP]; simp
  trans x y z h1 h2 := by rw [ltP] at *; simp at *; omega
  ntrans x y z h1 h2 := by rw [ltP] at *; simp at *; omega
theorem pcells_get : ∀ (out : List (Nat × Nat)) (j : Nat), j < out.length * 2 → (pcells out)[j]? = some ((encP (out.getD (j / 2) (0, 0)))[j % 2]!)
  | [], j, h => by simp at h
  | p :: r, j, h => by
    rcases j with _ | _ | j
    · rfl
    · rfl
    · have ih := pcells_get r j (by simp at h; omega)
      have e1 : (j + 1 + 1) / 2 = j / 2 + 1 := by omega
      have e2 : (j + 1 + 1) % 2 = j % 2 := by omega
      rw [e1, e2]
      simpa [pcells] using ih
theorem sort_any (W : World) (B : Nat) (vO : Value) (out : List (Nat × Nat)) (hsz : out.length ≤ 1048576) (hr : W.ownsRow B 106 2 vO out.length (pcells out)) :
    Calls Tryz.prog 141 #[vO, .func (.func 142) #[] #[]] W fun e W' => e = .returned (.tuple #[]) ∧ ∃ out', out'.Perm out ∧ out'.Pairwise (fun a b => a.1 ≤ b.1) ∧ W'.ownsRow B 106 2 vO out'.length (pcells out') ∧ W.grownBy W' vO.ownBlock := by
  rcases hr.2 with ⟨rfl, h0⟩ | ⟨g, cap, cur, rfl, hB, hg, hle, hm, hs, htk⟩
  · have : out = [] := List.eq_nil_of_length_eq_zero h0
    subst this
    exact (AnyF.slices_SortFunc_none Tryz.sortPairs none 0 _ W).mono (by rintro e W' ⟨rfl, rfl⟩; exact ⟨rfl, [], List.Perm.refl _, List.Pairwise.nil, hr, World.grownBy.refl _ _⟩)
  · have hcell : ∀ j, j < out.length * 2 → cur[j]? = some ((encP (out.getD (j / 2) (0, 0)))[j % 2]!) := by
      intro j hj
      rw [← pcells_get out j hj, ← htk, List.getElem?_take, if_pos hj]
      simp
    have hd : ∀ i, (out.toArray)[i]! = out.getD i (0, 0) := by
      intro i
      rw [List.getD_eq_getElem?_getD]
      simp
      rfl
    have hH : HoldsK encP 2 W g 0 out.toArray := by
      intro j hj
      have hj' : j < out.length * 2 := by simpa using hj
      refine ⟨?_, frozen_of_row _ _ _ _ _ hg⟩
      rw [cell_of_row _ _ _ _ _ _ hg, Nat.zero_add, hcell j hj', get_flatK encP 2 _ j (by simpa using hj'), hd]
      rfl
    have hcon := AnyQ.slices_SortFunc Tryz.sortPairs 2 Tryz.isAgg106 Tryz.sizeOf106 encP (fun _ => rfl) (fun x v hv => by simp [encP] at hv; rcases hv with rfl | rfl <;> rfl) cmpP swoP 142 #[] g 0 cap out.toArray W (enters_of Tryz.func142 (by kernel_rfl) rfl) (cmpLays24 g 0 _ W) hH (lt_of_block hg) (by simp; omega)
    change Calls Tryz.prog 141 _ _ _ at hcon
    rw [List.size_toArray] at hcon
    refine hcon.mono ?_
    rintro e W' ⟨rfl, d', n, os, hp, hso, rfl⟩
    have hds : d'.size = out.length := by simpa using hp.1
    have hperm : d'.toList.Perm out := by
      have := hp.2.2
      rw [show out.toArray.extract 0 out.length = out.toArray by simp, show d'.extract 0 out.length = d' by rw [← hds]; simp] at this
      simpa using this
    refine ⟨rfl, d'.toList, hperm, ?_, ?_, ?_⟩
    · rw [List.pairwise_iff_getElem]
      intro i j hi hj hij
      have h1 := hso i j (Nat.zero_le _) hij (by simpa [hds] using hj)
      rw [ltP] at h1
      have hi' : i < d'.size := by simpa using hi
      have hj' : j < d'.size := by simpa using hj
      rw [getElem!_pos d' j hj', getElem!_pos d' i hi'] at h1
      simp at h1
      simpa using h1
    · have hblk : (sortWorldK encP 2 W g 0 n d' os).heap[g]? = some (.cells (putCells id 0 (flatK encP 2 d') cur) 106 (0, 0)) := by
        have h1 : (mapBlock (Sort.ahead W n) g (putCells id 0 (flatK encP 2 d'))).heap[g]? = some (.cells (putCells id 0 (flatK encP 2 d') cur) 106 (0, 0)) := by
          show (W.heap.modify g _)[g]? = _
          rw [Array.getElem?_modify, if_pos rfl, hg]
          rfl
        show ((mapBlock (Sort.ahead W n) g (putCells id 0 (flatK encP 2 d'))).heap ++ os)[g]? = _
        rw [Array.getElem?_append_left (lt_of_block h1)]
        exact h1
      refine ⟨pcells_len _, .inr ⟨g, cap, _, by simp [hds], hB, hblk, by simp [hds]; exact hle, hm, by simp [putCells, hs], ?_⟩⟩
      apply List.ext_getElem?
      intro j
      rw [List.getElem?_take]
      by_cases hj : j < d'.toList.length * 2
      · rw [if_pos hj, pcells_get _ j hj]
        have hj2 : j < d'.size * 2 := by simpa using hj
        have hjc : j < cur.size := by
          have : out.length * 2 ≤ cap * 2 := by omega
          omega
        rw [Array.getElem?_toList]
        unfold putCells
        rw [Array.getElem?_mapIdx, Array.getElem?_eq_getElem hjc, Option.map_some, if_pos ⟨Nat.zero_le _, by simp; omega⟩, Nat.sub_zero, get_flatK encP 2 d' j hj2]
        have hdd : d'[j / 2]! = d'.toList.getD (j / 2) (0, 0) := by
          have hlt : j / 2 < d'.size := by omega
          rw [getElem!_pos d' _ hlt, List.getD_eq_getElem?_getD, Array.getElem?_toList, Array.getElem?_eq_getElem hlt]
          rfl
        rw [hdd]
        rfl
      · rw [if_neg hj, List.getElem?_eq_none (by rw [pcells_len]; omega)]
    · refine ⟨rfl, rfl, rfl, ?_, fun k hk hne => ?_⟩
      · show W.heap.size ≤ ((mapBlock (Sort.ahead W n) g (putCells id 0 (flatK encP 2 d'))).heap ++ os).size
        rw [Array.size_append]
        simp [mapBlock, Sort.ahead]
      · have hkg : g ≠ k := by
          intro e
          subst e
          exact hne rfl
        show ((W.heap.modify g _) ++ os)[k]? = W.heap[k]?
        rw [Array.getElem?_append_left (by simpa using hk), Array.getElem?_modify, if_neg hkg]
end Go.Proofs.YtdpifkhkemeclaaGreat
namespace Go.Proofs.YtdpifkhkemeclaaGreat
open Go.RowKit Go.Shelf
theorem bw_calls (a : Option Addr) (len cap : Nat) (w : World) : Calls Tryz.prog 139 #[.slice a len cap] w fun e w' => e = .returned (.func (.func 153) #[] #[.pointer (some ⟨w.heap.size, 0, none⟩)]) ∧ w' = w.alloc (.cells #[.slice a len cap] 25) :=
  callsIn_wide.1 (bw_in Fence.wide 1 trivial rfl a len cap w)
def set4 (tm : Array Value) (k at_ : Value) : Act := { tmps := (((tm.setIfInBounds 57 k).setIfInBounds 58 at_).setIfInBounds 11 k).setIfInBounds 12 at_, defers := [] }
theorem range_a {n : Nat} (h1 : 1 ≤ n) {α : Type} {assign body : Code} {Q : Exit → Act → World → Prop} {a : Act} {w : World} {lb : Array Value} (e1 e2 : α → Value) (hg : a.eval (.tmp 56) = .func (.func 153) #[] lb)
    {Kp : World → World → Prop} {S Sp : List α → Prop} {N : Nat} {w0 : World} (hseq : SeqStopsK Fence.wide (n - 1) Tryz.prog 153 lb (fun x => #[e1 x, e2 x]) Kp S Sp N w0)
    (hKt : ∀ {A B C : World}, Kp A B → Kp B C → Kp A C) (hKb : ∀ (W : World) (l : Nat) (o o' : Obj), w.heap.size ≤ l → W.heap[l]? = some o → o.isCells = false → o.isWalk = false → Kp W (W.putObj l o')) (hb0 : Below w0.heap.size w0 w)
    (I : List α → World → Prop) (Ix : Code → List α → World → Prop) (hI : OwnFrom w.heap.size I) (hIx : ∀ c, OwnFrom w.heap.size (Ix c)) (h0 : I [] w)
    (hassign : ∀ (l : Nat) (x : α) (W : World) (K : Act → World → Prop), K (set4 a.tmps (e1 x) (e2 x)) W →
      assign.wpIn (Fence.wide.inRound l) (n - 1 - 1) Tryz.prog (Exit.then K (fun _ _ _ => False)) { tmps := (a.tmps.setIfInBounds 57 (e1 x)).setIfInBounds 58 (e2 x), defers := [] } W)
    (hbody : ∀ (l : Nat) (pre : List α) (x : α) (W : World), I pre W → pre.length < N → body.wpIn (Fence.wide.inRound l) (n - 1 - 1) Tryz.prog (ownPostG w.heap.size Kp I Ix (pre ++ [x]) W) (set4 a.tmps (e1 x) (e2 x)) W)
    (hdone : ∀ (D : Nat) (xs : List α) (W : World), w.heap.size ≤ D → S xs → I xs W → W.heap[D]? = some (.deferred (some [])) → Q .normal { a with defers := { target := .collected D, args := #[] } :: a.defers } W)
    (hstop : ∀ (D : Nat) (c : Code) (pre : List α) (W : World), w.heap.size ≤ D → Sp pre → Ix c pre W → W.heap[D]? = some (.deferred (some [])) → c.wp Tryz.prog Q { a with defers := { target := .collected D, args := #[] } :: a.defers } W) :
    (Code.rangeFunc (.tmp 56) #[57, 58] assign body).wp Tryz.prog Q a w :=
  wpIn_wide.1 (wpIn_rangeFunc_ownG (F := Fence.wide) (n := n) rfl h1 hg trivial (enters_of Tryz.func153 (by kernel_rfl) rfl) hseq hKt hKb hb0 (fun _ => rfl) I Ix hI hIx h0 (fun x => set4 a.tmps (e1 x) (e2 x)) (fun l x W K hK => by
      have h := hassign l x W K hK
      have e : (#[57, 58] : Array Tmp).zip #[e1 x, e2 x] = #[(57, e1 x), (58, e2 x)] := by simp
      rw [e]
      exact h) hbody hdone
    (fun D c pre W hD hS hI hK => wpIn_wide.2 (hstop D c pre W hD hS hI hK)))
def PX (op : List Nat) (i : Nat) (x : Nat × Int) : Prop := x.1 < op.length ∧ ∃ p : Nat, x.2 = (p : Int) ∧ p < i
theorem PX_of {op : List Nat} {i : Nat} (h : ∀ p ∈ op, p < i) (k : Nat) (hk : k < (zInts op).length) : PX op i (bwF (zInts op) k) := by
  have hl : (zInts op).length = op.length := by simp [zInts]
  have hlt : (zInts op).length - 1 - k < op.length := by omega
  obtain ⟨j, hj⟩ : ∃ j, j = (zInts op).length - 1 - k := ⟨_, rfl⟩
  rw [← hj] at hlt
  unfold bwF
  rw [← hj]
  refine ⟨hlt, op[j], ?_, h _ (List.getElem_mem hlt)⟩
  unfold zInts
  rw [List.getElem?_map, List.getElem?_eq_getElem hlt]
  rfl
abbrev XT (op : List Nat) (i : Nat) := { x : Nat × Int // PX op i x }
section
variable (w : World) (cv vO vP : Value) (op : List Nat) (out : List (Nat × Nat)) (ds : List Deferred) (b i : Nat) (c : Int) (codes : List Int) (B0 : Nat)
def IR (pre : List (XT op i)) (W : World) : Prop :=
  (∀ y ∈ pre, meetP (codes.getD y.1.2.toNat 0) c = false) ∧ FS w cv vO vP op out W ∧ Boxed W b 3 (.int .i64 (i : Int)) ∧ Boxed W (b + 1) 3 (.int .i64 c) ∧ Marks w.heap.size ds W ∧ B0 ≤ W.heap.size
def IXR (cd : Code) (pre : List (XT op i)) (W : World) : Prop :=
  cd = .exit 3 ∧ ∃ (ini : List (XT op i)) (last : XT op i) (vO' vP' : Value), pre = ini ++ [last] ∧ (∀ y ∈ ini, meetP (codes.getD y.1.2.toNat 0) c = false) ∧ meetP (codes.getD last.1.2.toNat 0) c = true ∧ FS w cv vO' vP' (op.take last.1.1) (out ++ [(last.1.2.toNat, i)]) W ∧ Marks w.heap.size ds W
end
theorem FS.own {w W W' : World} {cv vO vP : Value} {op : List Nat} {out : List (Nat × Nat)} (h : FS w cv vO vP op out W) {row : Option Nat} (hg : W.grownBy W' row) {B : Nat} (hB : w.heap.size ≤ B) (hr : ∀ (r : Nat), row = some r → B ≤ r ∧ ∃ o, W.heap[r]? = some o ∧ o.isCells = false) : FS w cv vO vP op out W' := by
  have hbx : ∀ {k : Nat} {t : TypeId} {v : Value}, Boxed W k t v → Boxed W' k t v := fun {k t v} hb => hb.kept hg (fun e => by
    obtain ⟨_, o, ho, hc⟩ := hr k e.symm
    rw [show W.heap[k]? = _ from hb] at ho
    cases ho
    cases hc)
  have hrw : ∀ {base : Nat} {e : TypeId} {size n : Nat} {v : Value} {xs : List Value}, W.ownsRow base e size v n xs → W'.ownsRow base e size v n xs := fun {base e size n v xs} ho => by
    refine ho.kept hg ?_
    rcases ho.2 with ⟨rfl, _⟩ | ⟨g, cap, cur, rfl, _, hh, _⟩
    · exact .inl rfl
    · refine .inr (fun e2 => ?_)
      obtain ⟨_, o, ho', hc⟩ := hr g e2.symm
      rw [hh] at ho'
      cases ho'
      cases hc
  exact ⟨h.bel.grown hg h.bel.size (fun k e => Nat.le_trans hB (hr k e).1), hbx h.bC, hbx h.bO, hbx h.bP, hrw h.rO, hrw h.rP⟩
theorem Marks.own {B B0 : Nat} {ds : List Deferred} {W0 W W' : World} (h0 : Marks B ds W0) (hle : W0.heap.size ≤ B0) (h : Marks B ds W) {row : Option Nat} (hg : W.grownBy W' row) (hr : ∀ (r : Nat), row = some r → B0 ≤ r ∧ ∃ o, W.heap[r]? = some o ∧ o.isCells = false) : Marks B ds W' :=
  ⟨h.1, fun d hd => by
    obtain ⟨D, rfl, hB, hD⟩ := h.2 d hd
    obtain ⟨D', e, _, hD'⟩ := h0.2 _ hd
    injection e with e1 _
    injection e1 with e1
    subst e1
    have hlt := (Array.getElem?_eq_some_iff.1 hD').1
    exact ⟨D, rfl, hB, (hg.block D (Array.getElem?_eq_some_iff.1 hD).1 (fun e => by have := (hr D e.symm).1; omega)).trans hD⟩⟩
theorem boxed_grown {W W' : World} {k : Nat} {t : TypeId} {v : Value} (hb : Boxed W k t v) {row : Option Nat} (hg : W.grownBy W' row) {B0 : Nat} (hr : ∀ (r : Nat), row = some r → B0 ≤ r ∧ ∃ o, W.heap[r]? = some o ∧ o.isCells = false) : Boxed W' k t v := hb.kept hg (fun e => by
    obtain ⟨_, o, ho, hc⟩ := hr k e.symm
    rw [show W.heap[k]? = _ from hb] at ho
    cases ho
    cases hc)
theorem IR_own {w : World} {cv vO vP : Value} {op : List Nat} {out : List (Nat × Nat)} {ds : List Deferred} {b i : Nat} {c : Int} {codes : List Int} {B0 : Nat} {W0 : World} (hB : w.heap.size ≤ B0) (h0 : Marks w.heap.size ds W0) (hle : W0.heap.size ≤ B0) : OwnFrom B0 (IR w cv vO vP op out ds b i c codes B0) :=
  fun s W W' row hs hg hr => ⟨hs.1, hs.2.1.own hg hB hr, boxed_grown hs.2.2.1 hg hr, boxed_grown hs.2.2.2.1 hg hr, Marks.own h0 hle hs.2.2.2.2.1 hg hr, Nat.le_trans hs.2.2.2.2.2 hg.size⟩
theorem IXR_own {w : World} {cv : Value} {op : List Nat} {out : List (Nat × Nat)} {ds : List Deferred} {i : Nat} {c : Int} {codes : List Int} {B0 : Nat} {W0 : World} (hB : w.heap.size ≤ B0) (h0 : Marks w.heap.size ds W0) (hle : W0.heap.size ≤ B0) (cd : Code) : OwnFrom B0 (IXR w cv op out ds i c codes cd) :=
  fun s W W' row hs hg hr => by
    obtain ⟨e, ini, last, vO', vP', h1, h2, h3, h4, h5⟩ := hs
    exact ⟨e, ini, last, vO', vP', h1, h2, h3, h4.own hg hB hr, Marks.own h0 hle h5 hg hr⟩
theorem popF_none {codes : List Int} {op : List Nat} {c : Int} {i : Nat} {ys : List (XT op i)} (h : ys.map (·.1) = bwTo (zInts op) (zInts op).length) (hn : ∀ y ∈ ys, meetP (codes.getD y.1.2.toNat 0) c = false) : popF codes op c = none := by
  unfold popF
  rw [show op.length = (zInts op).length by simp [zInts], ← h, List.find?_eq_none]
  intro x hx
  obtain ⟨y, hy, rfl⟩ := List.mem_map.1 hx
  rw [hn y hy]
  decide
theorem bwTo_add (zs : List Int) (k d : Nat) : ∃ r, bwTo zs (k + d) = bwTo zs k ++ r := by
  induction d with
  | zero => exact ⟨[], by simp⟩
  | succ d ih => obtain ⟨r, hr⟩ := ih; exact ⟨r ++ [bwF zs (k + d)], by rw [← Nat.add_assoc, bwTo_succ, hr]; simp⟩
theorem popF_some {codes : List Int} {op : List Nat} {c : Int} {i : Nat} {ini : List (XT op i)} {last : XT op i} {k : Nat} (hk : k ≤ (zInts op).length) (h : (ini ++ [last]).map (·.1) = bwTo (zInts op) k) (hn : ∀ y ∈ ini, meetP (codes.getD y.1.2.toNat 0) c = false) (hl : meetP (codes.getD last.1.2.toNat 0) c = true) : popF codes op c = some last.1 := by
  unfold popF
  obtain ⟨r, hr⟩ := bwTo_add (zInts op) k ((zInts op).length - k)
  rw [show op.length = k + ((zInts op).length - k) by have : (zInts op).length = op.length := by simp [zInts]
                                                      omega, hr, ← h, List.map_append, List.append_assoc, List.find?_append]
  have h1 : (ini.map (·.1)).find? (fun x => meetP (codes.getD x.2.toNat 0) c) = none := by
    rw [List.find?_eq_none]
    intro x hx
    obtain ⟨y, hy, rfl⟩ := List.mem_map.1 hx
    rw [hn y hy]
    decide
  rw [h1, Option.none_or]
  show List.find? _ (last.1 :: r) = _
  exact List.find?_cons_of_pos hl
theorem cells_new (w : World) (x y : Value) (t : TypeId) : ∀ j u, [x, y][j]? = some u → (w.alloc (.cells #[x, y] t)).cell? ((⟨w.heap.size, 0, none⟩ : Addr).add j) = some u := by
  intro j u hj
  have h := heap_alloc_new w (.cells #[x, y] t)
  match j, hj with
  | 0, hj => rw [show (⟨w.heap.size, 0, none⟩ : Addr).add 0 = ⟨w.heap.size, 0, none⟩ from rfl, cell_of_row _ _ _ _ _ _ h]; exact hj
  | 1, hj => rw [show (⟨w.heap.size, 0, none⟩ : Addr).add 1 = ⟨w.heap.size, 1, none⟩ from rfl, cell_of_row _ _ _ _ _ _ h]; exact hj
theorem boxed_below {W W' : World} {k : Nat} {t : TypeId} {v : Value} (h : Boxed W k t v) (hb : Below W.heap.size W W') : Boxed W' k t v := (hb.block _ h.lt).trans h
theorem keeps_below {W W' : World} (h : Below W.heap.size W W') : KeepsOthers W W' := ⟨h.size, fun k o hk _ => (h.block k (Array.getElem?_eq_some_iff.1 hk).1).trans hk⟩
theorem info31q : (Tryz.prog.info? 106).map (fun i => (i.zero, i.size, i.bytes)) = some (some (.agg #[.int .i64 0, .int .i64 0]), 2, 16) := by kernel_rfl
end Go.Proofs.YtdpifkhkemeclaaGreat
namespace Go.Proofs.YtdpifkhkemeclaaGreat
open Go.RowKit Go.Shelf
attribute [local go_sem] Oper.semAt_some
theorem round_facts {w W W2 : World} {cv vO vP : Value} {op : List Nat} {out : List (Nat × Nat)} {ds : List Deferred} (hF : FS w cv vO vP op out W) (hM : Marks w.heap.size ds W) (i : Nat) (c : Int)
  (hb : Below ((W.alloc (.cells #[.int .i64 (i : Int)] 3)).alloc (.cells #[.int .i64 c] 3)).heap.size ((W.alloc (.cells #[.int .i64 (i : Int)] 3)).alloc (.cells #[.int .i64 c] 3)) W2) :
  FS w cv vO vP op out W2 ∧ Marks w.heap.size ds W2 ∧ Boxed W2 W.heap.size 3 (.int .i64 (i : Int)) ∧ Boxed W2 (W.heap.size + 1) 3 (.int .i64 c) ∧ W.heap.size + 2 ≤ W2.heap.size := by
 have b1 : Boxed ((W.alloc (.cells #[.int .i64 (i : Int)] 3)).alloc (.cells #[.int .i64 c] 3)) W.heap.size 3 (.int .i64 (i : Int)) := (Boxed.new W 3 _).alloc _
 have b2 : Boxed ((W.alloc (.cells #[.int .i64 (i : Int)] 3)).alloc (.cells #[.int .i64 c] 3)) (W.heap.size + 1) 3 (.int .i64 c) := by
  have := Boxed.new (W.alloc (.cells #[.int .i64 (i : Int)] 3)) 3 (.int .i64 c)
  rwa [World.size_alloc] at this
 have hs : ((W.alloc (.cells #[.int .i64 (i : Int)] 3)).alloc (.cells #[.int .i64 c] 3)).heap.size = W.heap.size + 2 := by simp
 exact ⟨((hF.alloc _).alloc _).below hb, ((hM.below ((Below.refl _ _).alloc (Nat.le_refl _) _)).below ((Below.refl _ _).alloc (Nat.le_refl _) _)).below hb, (hb.block _ b1.lt).trans b1, (hb.block _ b2.lt).trans b2, by rw [← hs]; exact hb.size⟩
theorem info3q : (Tryz.prog.info? 3).map (fun i => (i.zero, i.size, i.bytes)) = some (some (.int .i64 0), 1, 8) := by kernel_rfl
theorem own_isCells {W : World} {base : Nat} {e : TypeId} {size n : Nat} {v : Value} {xs : List Value} (h : W.ownsRow base e size v n xs) : ∀ (j : Nat) (o : Obj), v.ownBlock = some j → W.heap[j]? = some o → o.isCells = true := by
 intro j o hj ho
 rcases h.2 with ⟨rfl, _⟩ | ⟨g, cap, cur, rfl, _, hg, _⟩
 ·simp [Value.ownBlock] at hj
 ·simp [Value.ownBlock] at hj
  subst hj
  rw [hg] at ho
  injection ho with ho
  subst ho
  rfl
theorem own_takes {B : Nat} {W W' : World} (hT : Takes B W W') {base : Nat} {e : TypeId} {size n : Nat} {v : Value} {xs : List Value} (h : W.ownsRow base e size v n xs) : W'.ownsRow base e size v n xs := by
 refine ⟨h.1, ?_⟩
 rcases h.2 with h2 | ⟨g, cap, cur, rfl, hB, hg, r⟩
 ·exact .inl h2
 ·exact .inr ⟨g, cap, cur, rfl, hB, hT.2 _ _ hg rfl, r⟩
theorem intsB_of {w W : World} {aP : Option Addr} {n cP : Nat} {op : List Nat} (h : W.ownsRow w.heap.size 3 1 (.slice aP n cP) op.length (icells op)) : IntsB W.heap.size W (.slice aP n cP) (zInts op) := by
 rcases h.2 with ⟨hv, h0⟩ | ⟨g, cap, cur, hv, hB, hg, hle, hm, hs, ht⟩
 ·injection hv with e1 e2 e3
  subst e1 e2 e3
  exact .inl ⟨none, 0, rfl, by rw [List.eq_nil_of_length_eq_zero h0]; rfl⟩
 ·injection hv with e1 e2 e3
  subst e1 e2 e3
  refine .inr ⟨g, 0, cP, by simp [zInts], lt_of_block hg, fun j hj => ?_⟩
  have hj' : j < op.length := by simpa [zInts] using hj
  rw [cell_of_row _ _ _ _ _ _ hg, Nat.zero_add]
  have : (icells op)[j]? = cur[j]? := by
   rw [← ht, List.getElem?_take, if_pos (by omega)]
   simp
  rw [← this]
  simp [icells, zInts, hj']
set_option maxRecDepth 100000 in
set_option maxHeartbeats 8000000 in
theorem find_in (n : Nat) (hn : 5 ≤ n) (A0 A1 : Option Addr) (m c0 c1 : Nat) (types codes : List Int) (hm : m ≤ 1048576) (ht : types.length = m) (hc : codes.length = m) (w : World)
  (hT : ∀ j, j < m → ∃ ad, A0 = some ad ∧ w.cell? (ad.add j) = some (.int .i64 (types.getD j 0))) (hC : ∀ j, j < m → ∃ ad, A1 = some ad ∧ w.cell? (ad.add j) = some (.int .i64 (codes.getD j 0))) :
  CallsIn Fence.wide n Tryz.prog 109 #[.slice A0 m c0, .slice A1 m c1] w fun e W' => ∃ v out', e = .returned v ∧ out'.Perm (findGo types codes m 0 [] []) ∧ out'.Pairwise (fun a b => a.1 ≤ b.1) ∧ W'.ownsRow w.heap.size 106 2 v out'.length (pcells out') ∧ Below w.heap.size w W' := by
 have hro : (Fence.wide).round = none := rfl
 have HT := Lib.hid hT
 have HC := Lib.hid hC
 have Ht := Lib.hid ht
 have Hc := Lib.hid hc
 clear hT hC ht hc
 refine callsIn_of_wp_marks Tryz.func109 rfl trivial ?_ hro
 simp only [Tryz.ntmps109, List.size_toArray, List.length_cons, List.length_nil, Nat.reduceAdd, Nat.reduceSub, Array.replicate_succ, Array.replicate_zero, List.push_toArray, List.append_toArray, List.nil_append, List.cons_append]
 refine wpIn_wide.2 ?_
 go_wp2
 refine wp_scope_straight ?_
 go_wp2
 refine wp_label ?_
 go_wp2
 rename_i Q' K hK
 have hKfin : ∀ (tm : Array Value) (ds : List Deferred) (vO vP : Value) (op : List Nat) (out : List (Nat × Nat)) (W : World), tm = #[.slice A0 m c0, .slice A1 m c1, undef, .pointer (some ⟨w.heap.size, 0, none⟩), .slice none 0 0, .pointer (some ⟨w.heap.size + 1, 0, none⟩), .pointer (some ⟨w.heap.size + 1 + 1, 0, none⟩), tm.getD 7 undef, tm.getD 8 undef, tm.getD 9 undef, tm.getD 10 undef, tm.getD 11 undef, tm.getD 12 undef, .slice A0 m c0, .int .i64 (m : Int), .slice A1 m c1, .int .i64 (m : Int), .bool false, .slice A1 m c1, .int .i64 (m : Int), tm.getD 20 undef, tm.getD 21 undef, tm.getD 22 undef, tm.getD 23 undef, tm.getD 24 undef, tm.getD 25 undef, tm.getD 26 undef, tm.getD 27 undef, tm.getD 28 undef, tm.getD 29 undef, tm.getD 30 undef, tm.getD 31 undef, tm.getD 32 undef, tm.getD 33 undef, tm.getD 34 undef, tm.getD 35 undef, tm.getD 36 undef, tm.getD 37 undef, tm.getD 38 undef, tm.getD 39 undef, tm.getD 40 undef, tm.getD 41 undef, tm.getD 42 undef, tm.getD 43 undef, tm.getD 44 undef, tm.getD 45 undef, tm.getD 46 undef, tm.getD 47 undef, tm.getD 48 undef, tm.getD 49 undef, tm.getD 50 undef, tm.getD 51 undef, tm.getD 52 undef, tm.getD 53 undef, tm.getD 54 undef, tm.getD 55 undef, tm.getD 56 undef, tm.getD 57 undef, tm.getD 58 undef, tm.getD 59 undef, tm.getD 60 undef, tm.getD 61 undef, tm.getD 62 undef, tm.getD 63 undef, tm.getD 64 undef, tm.getD 65 undef, tm.getD 66 undef, tm.getD 67 undef, tm.getD 68 undef, tm.getD 69 undef, tm.getD 70 undef, tm.getD 71 undef, tm.getD 72 undef, tm.getD 73 undef, tm.getD 74 undef, undef, undef, undef] → FS w (.slice A1 m c1) vO vP op out W → Marks w.heap.size ds W → findGo types codes m 0 [] [] = out → out.length ≤ 1048576 →
   K { tmps := tm, defers := ds } W := by
  intro tm ds vO vP op out W htm hF hM hout hol
  refine hK _ _ ?_
  obtain ⟨u, hu⟩ : ∃ u : Nat → Value, u = fun k => tm.getD k undef := ⟨_, rfl⟩
  obtain ⟨t20, ht20⟩ : ∃ t, t = tm.getD 20 undef := ⟨_, rfl⟩
  have ha2 : tm = #[.slice A0 m c0, .slice A1 m c1, undef, .pointer (some ⟨w.heap.size, 0, none⟩), .slice none 0 0, .pointer (some ⟨w.heap.size + 1, 0, none⟩), .pointer (some ⟨w.heap.size + 1 + 1, 0, none⟩), u 7, u 8, u 9, u 10, u 11, u 12, .slice A0 m c0, .int .i64 (m : Int), .slice A1 m c1, .int .i64 (m : Int), .bool false, .slice A1 m c1, .int .i64 (m : Int), t20, u 21, u 22, u 23, u 24, u 25, u 26, u 27, u 28, u 29, u 30, u 31, u 32, u 33, u 34, u 35, u 36, u 37, u 38, u 39, u 40, u 41, u 42, u 43, u 44, u 45, u 46, u 47, u 48, u 49, u 50, u 51, u 52, u 53, u 54, u 55, u 56, u 57, u 58, u 59, u 60, u 61, u 62, u 63, u 64, u 65, u 66, u 67, u 68, u 69, u 70, u 71, u 72, u 73, u 74, undef, undef, undef] := by rw [hu, ht20]; exact htm
  clear hu ht20 htm
  subst ha2
  obtain ⟨aO, cO, rfl⟩ := YtdpifkhkemeclaaGreatW.PrintWords.own_slice hF.rO
  have c5 := hF.bO.cell
  have HS := Lib.hid (sort_any W w.heap.size _ out hol hF.rO)
  have HFh := Lib.hid hF
  have HMh := Lib.hid hM
  have Hout := Lib.hid hout
  clear hF hM hout hol hK
  go_wp2_with (go_at_call 141; with_reducible refine HS.out.mono ?_; rintro e W2 ⟨rfl, out', hp, hso, hr', hg'⟩; have c5' := (HFh.out.bO.kept hg' (HFh.out.bO.not_row (by decide) HFh.out.rO)).cell; have Hp := Lib.hid hp; have Hso := Lib.hid hso; have Hr := Lib.hid hr'; have Hg := Lib.hid hg'; clear hp hso hr' hg')
  have hM2 : Marks w.heap.size ds W2 := HMh.out.keep (KeepsOthers.of_grownBy Hg.out (fun j o hj ho => own_isCells HFh.out.rO j o hj ho))
  have hB2 : Below w.heap.size w W2 := HFh.out.bel.grown Hg.out HFh.out.bel.size (fun k hk => (HFh.out.rO.lt k hk).1)
  refine leaves_marks ds W2 hB2.size hM2 ?_
  rintro W' hTk
  refine ⟨.slice aO out.length cO, ?_, _, out', rfl, by rw [Hout.out]; exact Hp.out, Hso.out, own_takes hTk Hr.out, hB2.trans hTk.1⟩
  exact results_tmp Tryz.results109 _ _ _
 have HKfin := Lib.hid hKfin
 clear hKfin hK
 refine wp_loop (fun a' W => ∃ (i : Nat) (vO vP : Value) (op : List Nat) (out : List (Nat × Nat)), (i ≤ m ∧ FS w (.slice A1 m c1) vO vP op out W ∧ Marks w.heap.size a'.defers W ∧ Hid (findGo types codes (m - i) i op out = findGo types codes m 0 [] [] ∧ op.length ≤ i ∧ out.length ≤ i ∧ ∀ p ∈ op, p < i)) ∧ a'.tmps = #[.slice A0 m c0, .slice A1 m c1, undef, .pointer (some ⟨w.heap.size, 0, none⟩), .slice none 0 0, .pointer (some ⟨w.heap.size + 1, 0, none⟩), .pointer (some ⟨w.heap.size + 1 + 1, 0, none⟩), a'.tmps.getD 7 undef, a'.tmps.getD 8 undef, a'.tmps.getD 9 undef, a'.tmps.getD 10 undef, a'.tmps.getD 11 undef, a'.tmps.getD 12 undef, .slice A0 m c0, .int .i64 (m : Int), .slice A1 m c1, .int .i64 (m : Int), .bool false, .slice A1 m c1, .int .i64 (m : Int), .int .i64 (i : Int), a'.tmps.getD 21 undef, a'.tmps.getD 22 undef, a'.tmps.getD 23 undef, a'.tmps.getD 24 undef, a'.tmps.getD 25 undef, a'.tmps.getD 26 undef, a'.tmps.getD 27 undef, a'.tmps.getD 28 undef, a'.tmps.getD 29 undef, a'.tmps.getD 30 undef, a'.tmps.getD 31 undef, a'.tmps.getD 32 undef, a'.tmps.getD 33 undef, a'.tmps.getD 34 undef, a'.tmps.getD 35 undef, a'.tmps.getD 36 undef, a'.tmps.getD 37 undef, a'.tmps.getD 38 undef, a'.tmps.getD 39 undef, a'.tmps.getD 40 undef, a'.tmps.getD 41 undef, a'.tmps.getD 42 undef, a'.tmps.getD 43 undef, a'.tmps.getD 44 undef, a'.tmps.getD 45 undef, a'.tmps.getD 46 undef, a'.tmps.getD 47 undef, a'.tmps.getD 48 undef, a'.tmps.getD 49 undef, a'.tmps.getD 50 undef, a'.tmps.getD 51 undef, a'.tmps.getD 52 undef, a'.tmps.getD 53 undef, a'.tmps.getD 54 undef, a'.tmps.getD 55 undef, a'.tmps.getD 56 undef, a'.tmps.getD 57 undef, a'.tmps.getD 58 undef, a'.tmps.getD 59 undef, a'.tmps.getD 60 undef, a'.tmps.getD 61 undef, a'.tmps.getD 62 undef, a'.tmps.getD 63 undef, a'.tmps.getD 64 undef, a'.tmps.getD 65 undef, a'.tmps.getD 66 undef, a'.tmps.getD 67 undef, a'.tmps.getD 68 undef, a'.tmps.getD 69 undef, a'.tmps.getD 70 undef, a'.tmps.getD 71 undef, a'.tmps.getD 72 undef, a'.tmps.getD 73 undef, a'.tmps.getD 74 undef, undef, undef, undef])
  (fun a' _ => m - (intOf (a'.tmps.getD 20 undef)).toNat) ?start ?round
 case start =>
  obtain ⟨h1, h2, h3⟩ := three_allocs w (.cells #[.slice A1 m c1] 25) (.cells #[.slice none 0 0] 102) (.cells #[.slice none 0 0] 25)
  exact ⟨0, .slice none 0 0, .slice none 0 0, [], [], ⟨Nat.zero_le _, ⟨(((Below.refl _ w).alloc (Nat.le_refl _) _).alloc (by simp) _).alloc (by simp; omega) _, h1, h2, h3, World.ownsRow_nil _ _ _ _, World.ownsRow_nil _ _ _ _⟩, ⟨List.nodup_nil, fun d hd => by simp at hd⟩, Lib.hid ⟨rfl, Nat.le_refl _, Nat.le_refl _, fun p hp => by simp at hp⟩⟩, rfl⟩
 case round =>
  rintro ⟨tm, ds⟩ W ⟨i, vO, vP, op, out, ⟨hi, hF, hM, hG⟩, ha⟩
  have hfs : findGo types codes m 0 [] [] = findGo types codes (m - i) i op out := hG.out.1.symm
  obtain ⟨u, hu⟩ : ∃ u : Nat → Value, u = fun k => tm.getD k undef := ⟨_, rfl⟩
  have ha2 : tm = #[.slice A0 m c0, .slice A1 m c1, undef, .pointer (some ⟨w.heap.size, 0, none⟩), .slice none 0 0, .pointer (some ⟨w.heap.size + 1, 0, none⟩), .pointer (some ⟨w.heap.size + 1 + 1, 0, none⟩), u 7, u 8, u 9, u 10, u 11, u 12, .slice A0 m c0, .int .i64 (m : Int), .slice A1 m c1, .int .i64 (m : Int), .bool false, .slice A1 m c1, .int .i64 (m : Int), .int .i64 (i : Int), u 21, u 22, u 23, u 24, u 25, u 26, u 27, u 28, u 29, u 30, u 31, u 32, u 33, u 34, u 35, u 36, u 37, u 38, u 39, u 40, u 41, u 42, u 43, u 44, u 45, u 46, u 47, u 48, u 49, u 50, u 51, u 52, u 53, u 54, u 55, u 56, u 57, u 58, u 59, u 60, u 61, u 62, u 63, u 64, u 65, u 66, u 67, u 68, u 69, u 70, u 71, u 72, u 73, u 74, undef, undef, undef] := by rw [hu]; exact ha
  clear hu ha
  subst ha2
  have hmu : (intOf ((#[.slice A0 m c0, .slice A1 m c1, undef, .pointer (some ⟨w.heap.size, 0, none⟩), .slice none 0 0, .pointer (some ⟨w.heap.size + 1, 0, none⟩), .pointer (some ⟨w.heap.size + 1 + 1, 0, none⟩), u 7, u 8, u 9, u 10, u 11, u 12, .slice A0 m c0, .int .i64 (m : Int), .slice A1 m c1, .int .i64 (m : Int), .bool false, .slice A1 m c1, .int .i64 (m : Int), .int .i64 (i : Int), u 21, u 22, u 23, u 24, u 25, u 26, u 27, u 28, u 29, u 30, u 31, u 32, u 33, u 34, u 35, u 36, u 37, u 38, u 39, u 40, u 41, u 42, u 43, u 44, u 45, u 46, u 47, u 48, u 49, u 50, u 51, u 52, u 53, u 54, u 55, u 56, u 57, u 58, u 59, u 60, u 61, u 62, u 63, u 64, u 65, u 66, u 67, u 68, u 69, u 70, u 71, u 72, u 73, u 74, undef, undef, undef] : Array Value).getD 20 undef)).toNat = i := rfl
  by_cases hlt : i < m
  ·obtain ⟨aP, cP, rfl⟩ := YtdpifkhkemeclaaGreatW.PrintWords.own_slice hF.rP
   obtain ⟨adT, eT, hcT⟩ := HT.out i hlt
   obtain ⟨adC, eC, hcC⟩ := HC.out i hlt
   cases eT
   cases eC
   obtain ⟨x, hx⟩ : ∃ x, x = types.getD i 0 := ⟨_, rfl⟩
   obtain ⟨c, hc⟩ : ∃ c, c = codes.getD i 0 := ⟨_, rfl⟩
   rw [← hx] at hcT
   rw [← hc] at hcC
   have hbT := World.block_lt_of_cell? w _ hcT
   have hbC := World.block_lt_of_cell? w _ hcC
   have hcC' : W.cell? (adC.add i) = some (.int .i64 c) := by rw [hF.bel.cell hbC]; exact hcC
   obtain ⟨kd, hkd⟩ : ∃ kd, kd = (pairP c).1 := ⟨_, rfl⟩
   obtain ⟨ot, hot⟩ : ∃ ot, ot = (pairP c).2 := ⟨_, rfl⟩
   have hp : mirror_Pair.f c = some (kd, ot) := by rw [hkd, hot]; rfl
   have hstep : findGo types codes m 0 [] [] = if x ≠ 13 ∨ kd = 0 then findGo types codes (m - (i + 1)) (i + 1) op out
     else if kd = 1 then (if op.length = 63 then out else findGo types codes (m - (i + 1)) (i + 1) (op ++ [i]) out)
     else match popF codes op c with
      | none => findGo types codes (m - (i + 1)) (i + 1) op out
      | some y => findGo types codes (m - (i + 1)) (i + 1) (op.take y.1) (out ++ [(y.2.toNat, i)]) := by
    rw [hfs, show m - i = (m - (i + 1)) + 1 by omega]
    simp only [findGo]
    rw [← hx, ← hc, ← hkd]
    try rfl
   have HTx : Hid (∀ W2, Below w.heap.size w W2 → W2.cell? (adT.add i) = some (.int .i64 x)) := Lib.hid (fun W2 hb => by rw [hb.cell hbT]; exact hcT)
   have HP := Lib.hid hp
   have HFh := Lib.hid hF
   have HMh := Lib.hid hM
   have Hstep := Lib.hid hstep
   have hlt' : (i : Int) < (m : Int) := by omega
   have Hkd := Lib.hid hkd
   have Hx := Lib.hid hx
   have Hcc := Lib.hid hc
   clear hfs hcT hcC hbT hbC hp hkd hot hF hM hstep hx hc hmu
   by_cases h13 : x = 13
   case neg =>
    have b13 : (x != 13) = true := by simpa using h13
    have HG2 : Hid (findGo types codes (m - (i + 1)) (i + 1) op out = findGo types codes m 0 [] [] ∧ op.length ≤ i + 1 ∧ out.length ≤ i + 1 ∧ ∀ p ∈ op, p < i + 1) := Lib.hid ⟨by rw [Hstep.out, if_pos (.inl h13)], by have := hG.out.2.1; omega, by have := hG.out.2.2.1; omega, fun p hp => by have := hG.out.2.2.2 p hp; omega⟩
    clear h13
    go_wp2_with (go_at_call 138; with_reducible refine (mirror_Pair.calls c kd ot _ HP.out).mono ?_; rintro e W2 ⟨rfl, hb2⟩; obtain ⟨hF2, hM2, hbi, hbc, hsz⟩ := round_facts HFh.out HMh.out i c hb2; have htx := HTx.out W2 hF2.bel; have hci := hbi.cell; have hcc := hbc.cell; have hcp := hF2.bP.cell; have HF2 := Lib.hid hF2; have HM2 := Lib.hid hM2; have HBI := Lib.hid hbi; have HBC := Lib.hid hbc; have HSZ := Lib.hid hsz; clear hb2 hF2 hM2 hbi hbc hsz)
    refine ⟨⟨i + 1, _, _, _, _, ⟨by omega, HF2.out, HM2.out, HG2⟩, rfl⟩, ?_⟩
    show m - (i + 1) < m - i
    omega
   case pos =>
    have b13 : (x != 13) = false := by simp [h13]
    by_cases hk0 : kd = 0
    ·have bk0 : (kd == 0) = true := by simpa using hk0
     have HG2 : Hid (findGo types codes (m - (i + 1)) (i + 1) op out = findGo types codes m 0 [] [] ∧ op.length ≤ i + 1 ∧ out.length ≤ i + 1 ∧ ∀ p ∈ op, p < i + 1) := Lib.hid ⟨by rw [Hstep.out, if_pos (.inr hk0)], by have := hG.out.2.1; omega, by have := hG.out.2.2.1; omega, fun p hp => by have := hG.out.2.2.2 p hp; omega⟩
     clear h13 hk0
     go_wp2_with (go_at_call 138; with_reducible refine (mirror_Pair.calls c kd ot _ HP.out).mono ?_; rintro e W2 ⟨rfl, hb2⟩; obtain ⟨hF2, hM2, hbi, hbc, hsz⟩ := round_facts HFh.out HMh.out i c hb2; have htx := HTx.out W2 hF2.bel; have hci := hbi.cell; have hcc := hbc.cell; have hcp := hF2.bP.cell; have HF2 := Lib.hid hF2; have HM2 := Lib.hid hM2; have HBI := Lib.hid hbi; have HBC := Lib.hid hbc; have HSZ := Lib.hid hsz; clear hb2 hF2 hM2 hbi hbc hsz)
     refine ⟨⟨i + 1, _, _, _, _, ⟨by omega, HF2.out, HM2.out, HG2⟩, rfl⟩, ?_⟩
     show m - (i + 1) < m - i
     omega
    ·have bk0 : (kd == 0) = false := by simpa using hk0
     have hn0 : ¬ (x ≠ 13 ∨ kd = 0) := by rintro (h | h); exact h h13; exact hk0 h
     by_cases hk1 : kd = 1
     ·have bk1 : (kd == 1) = true := by simpa using hk1
      by_cases h63 : op.length = 63
      ·have b63 : ((op.length : Int) == 63) = true := by simp; omega
       have Hout : Hid (findGo types codes m 0 [] [] = out) := Lib.hid (by rw [Hstep.out, if_neg hn0, if_pos hk1, if_pos h63])
       clear h13 hk0 hk1 h63 hn0
       go_wp2_with (go_at_call 138; with_reducible refine (mirror_Pair.calls c kd ot _ HP.out).mono ?_; rintro e W2 ⟨rfl, hb2⟩; obtain ⟨hF2, hM2, hbi, hbc, hsz⟩ := round_facts HFh.out HMh.out i c hb2; have htx := HTx.out W2 hF2.bel; have hci := hbi.cell; have hcc := hbc.cell; have hcp := hF2.bP.cell; have HF2 := Lib.hid hF2; have HM2 := Lib.hid hM2; have HBI := Lib.hid hbi; have HBC := Lib.hid hbc; have HSZ := Lib.hid hsz; clear hb2 hF2 hM2 hbi hbc hsz)
       exact HKfin.out _ _ _ _ _ _ _ rfl HF2.out HM2.out Hout.out (by have := hG.out.2.2.1; omega)
      ·have b63 : ((op.length : Int) == 63) = false := by simp; omega
       have HG2 : Hid (findGo types codes (m - (i + 1)) (i + 1) (op ++ [i]) out = findGo types codes m 0 [] [] ∧ (op ++ [i]).length ≤ i + 1 ∧ out.length ≤ i + 1 ∧ ∀ p ∈ op ++ [i], p < i + 1) := Lib.hid ⟨by rw [Hstep.out, if_neg hn0, if_pos hk1, if_neg h63], by have := hG.out.2.1; simp; omega, by have := hG.out.2.2.1; omega, fun p hp => by
        rcases List.mem_append.1 hp with h | h
        ·have := hG.out.2.2.2 p h; omega
        ·simp at h; omega⟩
       have hs63 : op.length + 1 ≤ maxLen := by have := hG.out.2.1; unfold maxLen; omega
       have hsb : (op.length + 1) * 8 ≤ 140737488355328 := by have := hG.out.2.1; omega
       clear h13 hk0 hk1 h63 hn0
       go_wp2_with (first
        | (go_at_call 138; with_reducible refine (mirror_Pair.calls c kd ot _ HP.out).mono ?_; rintro e W2 ⟨rfl, hb2⟩; obtain ⟨hF2, hM2, hbi, hbc, hsz⟩ := round_facts HFh.out HMh.out i c hb2; have htx := HTx.out W2 hF2.bel; have hci := hbi.cell; have hcc := hbc.cell; have hcp := hF2.bP.cell; have HF2 := Lib.hid hF2; have HM2 := Lib.hid hM2; have HBI := Lib.hid hbi; have HBC := Lib.hid hbc; have HSZ := Lib.hid hsz; clear hb2 hF2 hM2 hbi hbc hsz)
        | (at_builtin; refine Base.wpList_append_one rfl _ _ 25 rfl w.heap.size 3 (.int .i64 0) 8 Tryz.underlying25 info3q rfl _ _ _ rfl HF2.out.rP _ rfl 1 rfl hs63 hsb HF2.out.bel.size ?_; intro v' w1 hown' hgrow; obtain ⟨g', cap', rfl⟩ := ownsRow_succ hown'; have hbP := (HF2.out.alloc (.cells #[.int .i64 (i : Int)] 3)).bP.kept hgrow (HF2.out.bP.not_row (by decide) HF2.out.rP); have cP1 := hbP.cell; have fP1 := hbP.frozen; have HF3 := Lib.hid (HF2.out.push _ i hown' hgrow); have HM3 := Lib.hid (((HM2.out.below ((Below.refl _ _).alloc (Nat.le_refl _) (.cells #[.int .i64 (i : Int)] 3))).keep (KeepsOthers.of_grownBy hgrow (fun j o hj ho => own_isCells (HF2.out.alloc (.cells #[.int .i64 (i : Int)] 3)).rP j o hj ho))).keep (KeepsOthers.setCell _ ⟨w.heap.size + 1 + 1, 0, none⟩ (.slice (some ⟨g', 0, none⟩) (op.length + 1) cap'))); clear hown' hgrow hbP))
       refine ⟨⟨i + 1, _, _, _, _, ⟨by omega, HF3.out, HM3.out, HG2⟩, rfl⟩, ?_⟩
       show m - (i + 1) < m - i
       omega
     ·have bk1 : (kd == 1) = false := by simpa using hk1
      have HD : Hid (findGo types codes m 0 [] [] = match popF codes op c with
       | none => findGo types codes (m - (i + 1)) (i + 1) op out
       | some y => findGo types codes (m - (i + 1)) (i + 1) (op.take y.1) (out ++ [(y.2.toNat, i)])) := Lib.hid (by rw [Hstep.out, if_neg hn0, if_neg hk1])
      clear h13 hk0 hk1 hn0
      obtain ⟨aO, cO, rfl⟩ := YtdpifkhkemeclaaGreatW.PrintWords.own_slice HFh.out.rO
      go_wp2_with (first
       | (go_at_call 138; with_reducible refine (mirror_Pair.calls c kd ot _ HP.out).mono ?_; rintro e W2 ⟨rfl, hb2⟩; obtain ⟨hF2, hM2, hbi, hbc, hsz⟩ := round_facts HFh.out HMh.out i c hb2; have htx := HTx.out W2 hF2.bel; have hci := hbi.cell; have hcc := hbc.cell; have hcp := hF2.bP.cell; have HF2 := Lib.hid hF2; have HM2 := Lib.hid hM2; have HBI := Lib.hid hbi; have HBC := Lib.hid hbc; have HSZ := Lib.hid hsz; clear hb2 hF2 hM2 hbi hbc hsz)
       | (go_at_call 139; with_reducible refine (bw_calls _ _ _ _).mono ?_; rintro e w' ⟨rfl, rfl⟩))
      have HW3 : Hid (W2.heap.size + 1 = (W2.alloc (.cells #[.slice aP op.length cP] 25)).heap.size) := Lib.hid (by simp)
      have hN : Boxed (W2.alloc (.cells #[.slice aP op.length cP] 25)) W2.heap.size 25 (.slice aP op.length cP) := Boxed.new W2 25 _
      have HF3 := Lib.hid (HF2.out.alloc (.cells #[.slice aP op.length cP] 25))
      have HM3 := Lib.hid (HM2.out.below ((Below.refl _ _).alloc (Nat.le_refl _) (.cells #[.slice aP op.length cP] 25)))
      have HBI3 := Lib.hid (HBI.out.alloc (.cells #[.slice aP op.length cP] 25))
      have HBC3 := Lib.hid (HBC.out.alloc (.cells #[.slice aP op.length cP] 25))
      have HN := Lib.hid hN
      have hI3 : IntsB (W2.alloc (.cells #[.slice aP op.length cP] 25)).heap.size (W2.alloc (.cells #[.slice aP op.length cP] 25)) (.slice aP op.length cP) (zInts op) := intsB_of (HF3.out.rP)
      have HI3 := Lib.hid hI3
      clear htx hci hcc hcp hN hI3
      obtain ⟨W3, hW3⟩ : ∃ W3, W3 = W2.alloc (.cells #[.slice aP op.length cP] 25) := ⟨_, rfl⟩
      rw [← hW3] at HW3 HF3 HM3 HBI3 HBC3 HN HI3 ⊢
      clear hW3
      refine range_a (n := n) (by omega) (α := XT op i) (lb := #[.pointer (some ⟨W2.heap.size, 0, none⟩)]) (fun x => .int .i64 (x.1.1 : Int)) (fun x => .int .i64 x.1.2) rfl
       (bw_stopsP Fence.wide (n - 1) trivial rfl (by omega) W2.heap.size W3.heap.size _ (zInts op) (PX op i) (PX_of hG.out.2.2.2) (by have := hG.out.2.1; simp [zInts]; omega) W3 (by have := HW3.out; omega) (Nat.le_refl _) HN.out.cell HI3.out)
       belowK_t (belowK_b (Nat.le_refl _)) (Below.refl _ _)
       (IR w (.slice (some adC) m c1) (.slice aO out.length cO) (.slice aP op.length cP) op out ds W.heap.size i c codes W3.heap.size) (IXR w (.slice (some adC) m c1) op out ds i c codes)
       (IR_own HF3.out.bel.size HM3.out (Nat.le_refl _)) (IXR_own HF3.out.bel.size HM3.out (Nat.le_refl _)) ⟨by simp, HF3.out, HBI3.out, HBC3.out, HM3.out, Nat.le_refl _⟩ ?assign ?body ?done ?stop
      case assign =>
       intro l x Wa Ka hK
       unfold set4 at hK
       simp only [List.setIfInBounds_toArray, List.set_cons_succ, List.set_cons_zero] at hK ⊢
       gi_wp2
       exact hK
      case body =>
       rintro l pre ⟨⟨kx, ax⟩, hkx, p, hpe, hpi⟩ Wb ⟨hno, hF4, hbi4, hbc4, hM4, hsz4⟩ hlen
       dsimp only at hpe hkx
       subst hpe
       obtain ⟨adp, ep, hcp⟩ := HC.out p (by omega)
       obtain rfl : adC = adp := by injection ep
       obtain ⟨y, hy⟩ : ∃ y, y = codes.getD p 0 := ⟨_, rfl⟩
       rw [← hy] at hcp
       have hbp := World.block_lt_of_cell? w _ hcp
       have hcp' : Wb.cell? (adC.add p) = some (.int .i64 y) := by rw [hF4.bel.cell hbp]; exact hcp
       have q1 := hF4.bC.cell
       have q2 := hbc4.cell
       have hpm : (p : Int) < (m : Int) := by omega
       have hn1 : 1 ≤ n - 1 - 1 := by omega
       have mixed : Tryz.prog.follows Departure.mixedOrders = true := by kernel_rfl
       obtain ⟨gP, rfl, hcPo⟩ : ∃ gP, aP = some ⟨gP, 0, none⟩ ∧ op.length ≤ cP := by
        rcases hF4.rP.2 with ⟨hv, h0⟩ | ⟨g, cap, cur, hv, _, _, hle, _⟩
        ·omega
        ·injection hv with e1 e2 e3
         subst e1 e3
         exact ⟨g, rfl, hle⟩
       have HF5 := Lib.hid hF4
       have HB5 := Lib.hid hbi4
       have HC5 := Lib.hid hbc4
       have HM5 := Lib.hid hM4
       have Hno := Lib.hid hno
       have Hy := Lib.hid hy
       have HSz := Lib.hid hsz4
       clear hF4 hbi4 hbc4 hM4 hno hy hcp hbp ep hsz4
       cases hr : meetP y c with
       | false =>
        have HMt : Hid (mirror_Meet.f y c = some false) := Lib.hid (by rw [← hr]; rfl)
        have Hr := Lib.hid hr
        clear hr
        unfold set4
        simp only [List.setIfInBounds_toArray, List.set_cons_succ, List.set_cons_zero]
        gi_wp2
        gi_region_with_o (refine ⟨trivial, ?_⟩; gi_at_call 140; refine (CallsIn.inRound l (callsIn_wide.2 (mirror_Meet.calls y c false _ HMt.out))).mono ?_; rintro e W5 ⟨rfl, hb5⟩; have HB6 := Lib.hid hb5; clear hb5)
        all_goals gi_wp2
        all_goals
         have hw : Below Wb.heap.size Wb W5 := ((Below.refl Wb.heap.size Wb).drew).trans HB6.out
         refine ⟨(keeps_below hw).from _, hw.mono HSz.out, ⟨fun z hz => ?_, HF5.out.below hw, boxed_below HB5.out hw, boxed_below HC5.out hw, HM5.out.below hw, Nat.le_trans HSz.out hw.size⟩⟩
         rcases List.mem_append.1 hz with h | h
         ·exact Hno.out z h
         ·have e : z = ⟨(kx, (p : Int)), hkx, p, rfl, hpi⟩ := by simpa using h
          subst e
          show meetP (codes.getD (p : Int).toNat 0) c = false
          rw [Int.toNat_natCast, ← Hy.out]
          exact Hr.out
       | true =>
        have HMt : Hid (mirror_Meet.f y c = some true) := Lib.hid (by rw [← hr]; rfl)
        have Hr := Lib.hid hr
        have hkc : (kx : Int) ≤ (cP : Int) := by omega
        obtain ⟨i31, hi31, hz0, hz1, hz2⟩ := info_parts info31q
        have hb1 : out.length + 1 ≤ maxLen := by have := hG.out.2.2.1; unfold maxLen; omega
        have hb2' : (out.length + 1) * 16 ≤ 140737488355328 := by have := hG.out.2.2.1; omega
        clear hr
        unfold set4
        simp only [List.setIfInBounds_toArray, List.set_cons_succ, List.set_cons_zero]
        gi_wp2
        gi_region_with_o (refine ⟨trivial, ?_⟩; gi_at_call 140; refine (CallsIn.inRound l (callsIn_wide.2 (mirror_Meet.calls y c true _ HMt.out))).mono ?_; rintro e W5 ⟨rfl, hb5⟩; have hw : Below Wb.heap.size Wb W5 := ((Below.refl Wb.heap.size Wb).drew).trans hb5; have f5 := HF5.out.below hw; have r1 := f5.bO.cell; have r2 := f5.bP.cell; have r3 := (boxed_below HB5.out hw).cell; have F5 := Lib.hid f5; have M5 := Lib.hid (HM5.out.below hw); have K5 := Lib.hid (keeps_below hw); clear hb5 hw f5)
        all_goals gi_wp2_with (gi_at_builtin; refine wpListIn_append_own _ rfl _ _ 102 rfl w.heap.size 106 i31 (.agg #[.int .i64 0, .int .i64 0]) 2 16 Tryz.underlying102 hi31 hz0 hz1 hz2 rfl (by decide) _ _ _ rfl (F5.out.rO.alloc _) ⟨W5.heap.size, 0, none⟩ 1 1 [.int .i64 (p : Int), .int .i64 (i : Int)] rfl rfl (cells_new _ _ _ _) (by intro u hu; simp at hu; rcases hu with rfl | rfl <;> rfl) hb1 hb2' (by have := F5.out.bel.size; simp; omega) ?_; intro v' w1 hown' hgrow _; obtain ⟨g', cap', rfl⟩ := ownsRow_succ hown'; have hbO1 := (F5.out.alloc (.cells #[.int .i64 (p : Int), .int .i64 (i : Int)] 106)).bO.kept hgrow (F5.out.bO.not_row (by decide) F5.out.rO); have s1 := hbO1.cell; have s2 := hbO1.frozen; have F6 := Lib.hid (F5.out.emit _ p i hown' hgrow); have s3 := F6.out.bP.cell; have s4 := F6.out.bP.frozen; have K6 := Lib.hid (((K5.out.trans (KeepsOthers.alloc _ (.cells #[.int .i64 (p : Int), .int .i64 (i : Int)] 106))).trans (KeepsOthers.of_grownBy hgrow (fun j o hj ho => own_isCells (F5.out.alloc (.cells #[.int .i64 (p : Int), .int .i64 (i : Int)] 106)).rO j o hj ho))).trans (KeepsOthers.setCell w1 ⟨w.heap.size + 1, 0, none⟩ (.slice (some ⟨g', 0, none⟩) (out.length + 1) cap'))); clear hown' hgrow hbO1)
        all_goals
         have hk7 : KeepsOthers Wb _ := K6.out.trans (KeepsOthers.setCell _ ⟨w.heap.size + 1 + 1, 0, none⟩ (.slice (some ⟨gP, 0, none⟩) kx cP))
         refine ⟨hk7.from _, rfl, pre, ⟨(kx, (p : Int)), hkx, p, rfl, hpi⟩, _, _, rfl, Hno.out, ?_, F6.out.cut kx (by show kx ≤ op.length; omega), HM5.out.keep hk7⟩
         show meetP (codes.getD (p : Int).toNat 0) c = true
         rw [Int.toNat_natCast, ← Hy.out]
         exact Hr.out
      case done =>
       rintro D ys Wd hD hS ⟨hno, hF4, hbi4, hbc4, hM4, _⟩ hK
       have hpop := popF_none hS hno
       have HG2 : Hid (findGo types codes (m - (i + 1)) (i + 1) op out = findGo types codes m 0 [] [] ∧ op.length ≤ i + 1 ∧ out.length ≤ i + 1 ∧ ∀ p ∈ op, p < i + 1) := Lib.hid ⟨by rw [HD.out, hpop], by have := hG.out.2.1; omega, by have := hG.out.2.2.1; omega, fun p hp => by have := hG.out.2.2.2 p hp; omega⟩
       have HF5 := Lib.hid hF4
       have HM5 := Lib.hid (hM4.more HM3.out hD (Nat.le_trans HF3.out.bel.size hD) hK)
       clear hno hF4 hbi4 hbc4 hM4 hpop hS hK
       go_wp2
       refine ⟨⟨i + 1, _, _, _, _, ⟨by omega, HF5.out, HM5.out, HG2⟩, rfl⟩, ?_⟩
       show m - (i + 1) < m - i
       omega
      case stop =>
       rintro D cd pre Wd hD ⟨k, hk, hS⟩ ⟨rfl, ini, last, vO', vP', rfl, hno, hyes, hF4, hM4⟩ hK
       have hpop := popF_some hk hS hno hyes
       obtain ⟨p, hpe, hpi⟩ := last.2.2
       have HG2 : Hid (findGo types codes (m - (i + 1)) (i + 1) (op.take last.1.1) (out ++ [(last.1.2.toNat, i)]) = findGo types codes m 0 [] [] ∧ (op.take last.1.1).length ≤ i + 1 ∧ (out ++ [(last.1.2.toNat, i)]).length ≤ i + 1 ∧ ∀ p ∈ op.take last.1.1, p < i + 1) := Lib.hid ⟨by rw [HD.out, hpop], by have := hG.out.2.1; simp; omega, by have := hG.out.2.2.1; simp; omega, fun p hp => by have := hG.out.2.2.2 p (List.mem_of_mem_take hp); omega⟩
       have HF5 := Lib.hid hF4
       have HM5 := Lib.hid (hM4.more HM3.out hD (Nat.le_trans HF3.out.bel.size hD) hK)
       clear hno hF4 hM4 hpop hS hK hyes hpe
       go_wp2
       refine ⟨⟨i + 1, _, _, _, _, ⟨by omega, HF5.out, HM5.out, HG2⟩, rfl⟩, ?_⟩
       show m - (i + 1) < m - i
       omega
  ·have hlt' : ¬ (i : Int) < (m : Int) := by omega
   have hout : findGo types codes m 0 [] [] = out := by rw [hfs, show m - i = 0 by omega]; rfl
   have HF := Lib.hid hF
   have HM := Lib.hid hM
   have Hout := Lib.hid hout
   clear hfs hF hM hout hmu
   go_wp2
   exact HKfin.out _ _ _ _ _ _ _ rfl HF.out HM.out Hout.out (by have := hG.out.2.2.1; omega)
end Go.Proofs.YtdpifkhkemeclaaGreat
namespace Go.Proofs.YtdpifkhkemeclaaGreat
open Go.RowKit
theorem mem_bwTo {zs : List Int} : ∀ {k : Nat} {x : Nat × Int}, x ∈ bwTo zs k → ∃ j, j < k ∧ x = bwF zs j := by
  intro k x h
  unfold bwTo at h
  obtain ⟨j, hj, e⟩ := List.mem_map.1 h
  exact ⟨j, List.mem_range.1 hj, e.symm⟩
theorem popF_mem {codes : List Int} {op : List Nat} {c : Int} {x : Nat × Int} (h : popF codes op c = some x) : ∃ hk : x.1 < op.length, x.2 = ((op[x.1] : Nat) : Int) ∧ meetP (codes.getD x.2.toNat 0) c = true := by
  unfold popF at h
  have hm := List.mem_of_find?_eq_some h
  have hp := List.find?_some h
  obtain ⟨j, hj, rfl⟩ := mem_bwTo hm
  have hl : (zInts op).length = op.length := by simp [zInts]
  have hlt : (bwF (zInts op) j).1 < op.length := by unfold bwF; simp only; omega
  refine ⟨hlt, ?_, by simpa using hp⟩
  have gen : ∀ (q : Nat) (hq : q < op.length), (zInts op)[q]?.getD 0 = ((op[q] : Nat) : Int) := by
    intro q hq
    unfold zInts
    rw [List.getElem?_map, List.getElem?_eq_getElem hq]
    rfl
  exact gen _ hlt
theorem findGo_nodup (types codes : List Int) : ∀ (d i : Nat) (op : List Nat) (out : List (Nat × Nat)), (op ++ out.map (·.1)).Nodup → (∀ p ∈ op ++ out.map (·.1), p < i) → ((findGo types codes d i op out).map (·.1)).Nodup
  | 0, i, op, out, h, _ => (List.nodup_append.1 h).2.1
  | d + 1, i, op, out, h, hl => by
    have hl' : ∀ p ∈ op ++ out.map (·.1), p < i + 1 := fun p hp => by have := hl p hp; omega
    unfold findGo
    split
    · exact findGo_nodup types codes d (i + 1) op out h hl'
    · split
      · split
        · exact (List.nodup_append.1 h).2.1
        · refine findGo_nodup types codes d (i + 1) (op ++ [i]) out ?_ ?_
          · have hi : i ∉ op ++ out.map (·.1) := fun hm => by have := hl i hm; omega
            have hp : (op ++ [i] ++ out.map (·.1)).Perm (i :: (op ++ out.map (·.1))) := by
              rw [List.append_assoc]
              exact List.perm_middle
            exact hp.nodup_iff.2 (List.nodup_cons.2 ⟨hi, h⟩)
          · intro p hp
            simp only [List.mem_append, List.mem_singleton] at hp
            rcases hp with (hp | rfl) | hp
            · exact hl' p (by simp [hp])
            · omega
            · exact hl' p (List.mem_append.2 (.inr hp))
      · split
        · exact findGo_nodup types codes d (i + 1) op out h hl'
        · rename_i x hx
          obtain ⟨hk, hx2, _⟩ := popF_mem hx
          have hn : x.2.toNat = op[x.1] := by rw [hx2]; rfl
          have hop : op = op.take x.1 ++ op[x.1] :: op.drop (x.1 + 1) := by
            rw [← List.drop_eq_getElem_cons hk, List.take_append_drop]
          have hsub : (op.take x.1 ++ (out ++ [(x.2.toNat, i)]).map (·.1)).Perm (op.take x.1 ++ [op[x.1]] ++ out.map (·.1)) := by
            rw [List.map_append, List.append_assoc]
            refine List.Perm.append_left _ ?_
            rw [hn]
            exact List.perm_append_comm
          refine findGo_nodup types codes d (i + 1) _ _ (hsub.nodup_iff.2 ?_) ?_
          · refine List.Sublist.nodup ?_ h
            refine List.Sublist.append ?_ (List.Sublist.refl _)
            conv => rhs; rw [hop]
            refine List.Sublist.append (List.Sublist.refl _) ?_
            exact List.Sublist.cons_cons _ (List.nil_sublist _)
          · intro p hp
            have hp2 := (hsub.mem_iff).1 hp
            simp only [List.mem_append, List.mem_singleton] at hp2
            rcases hp2 with (hp2 | rfl) | hp2
            · exact hl' p (List.mem_append.2 (.inl (List.mem_of_mem_take hp2)))
            · exact hl' _ (List.mem_append.2 (.inl (List.getElem_mem hk)))
            · exact hl' p (List.mem_append.2 (.inr hp2))
def insP (x : Nat × Nat) : List (Nat × Nat) → List (Nat × Nat)
  | [] => [x]
  | y :: r => if x.1 ≤ y.1 then x :: y :: r else y :: insP x r
def sortP : List (Nat × Nat) → List (Nat × Nat)
  | [] => []
  | x :: r => insP x (sortP r)
theorem insP_perm (x : Nat × Nat) : ∀ l, (insP x l).Perm (x :: l)
  | [] => List.Perm.refl _
  | y :: r => by
    unfold insP
    split
    · exact List.Perm.refl _
    · exact ((insP_perm x r).cons y).trans (List.Perm.swap x y r)
theorem sortP_perm : ∀ l, (sortP l).Perm l
  | [] => List.Perm.refl _
  | x :: r => (insP_perm x _).trans ((sortP_perm r).cons x)
theorem insP_sorted (x : Nat × Nat) : ∀ l : List (Nat × Nat), l.Pairwise (fun a b => a.1 ≤ b.1) → (insP x l).Pairwise (fun a b => a.1 ≤ b.1)
  | [], _ => by simp [insP]
  | y :: r, h => by
    have h' := List.pairwise_cons.1 h
    unfold insP
    split
    · rename_i hx
      refine List.pairwise_cons.2 ⟨fun z hz => ?_, h⟩
      rcases List.mem_cons.1 hz with rfl | hz
      · exact hx
      · exact Nat.le_trans hx (h'.1 z hz)
    · refine List.pairwise_cons.2 ⟨fun z hz => ?_, insP_sorted x r h'.2⟩
      rcases List.mem_cons.1 ((insP_perm x r).mem_iff.1 hz) with rfl | hz
      · omega
      · exact h'.1 z hz
theorem sortP_sorted : ∀ l, (sortP l).Pairwise (fun a b => a.1 ≤ b.1)
  | [] => List.Pairwise.nil
  | x :: r => insP_sorted x _ (sortP_sorted r)
theorem fst_inj {l : List (Nat × Nat)} (hn : (l.map (·.1)).Nodup) : ∀ {a b : Nat × Nat}, a ∈ l → b ∈ l → a.1 = b.1 → a = b := by
  induction l with
  | nil => intro a b h; simp at h
  | cons x r ih =>
    intro a b ha hb e
    rw [List.map_cons, List.nodup_cons] at hn
    rcases List.mem_cons.1 ha with ea | ha'
    · rcases List.mem_cons.1 hb with eb | hb'
      · rw [ea, eb]
      · exact absurd (List.mem_map.2 ⟨b, hb', by rw [← e, ea]⟩) hn.1
    · rcases List.mem_cons.1 hb with eb | hb'
      · exact absurd (List.mem_map.2 ⟨a, ha', by rw [e, eb]⟩) hn.1
      · exact ih hn.2 ha' hb' e
theorem sorted_one : ∀ (l m : List (Nat × Nat)), l.Perm m → l.Pairwise (fun a b => a.1 ≤ b.1) → m.Pairwise (fun a b => a.1 ≤ b.1) → (l.map (·.1)).Nodup → l = m
  | [], m, h, _, _, _ => (List.Perm.nil_eq h)
  | a :: t, [], h, _, _, _ => absurd h.length_eq (by simp)
  | a :: t, b :: s, h, hl, hm, hn => by
    have hl' := List.pairwise_cons.1 hl
    have hm' := List.pairwise_cons.1 hm
    have hab : a.1 ≤ b.1 := by
      rcases List.mem_cons.1 (h.mem_iff.2 (List.mem_cons_self)) with e | hb
      · rw [e]; exact Nat.le_refl _
      · exact hl'.1 b hb
    have hba : b.1 ≤ a.1 := by
      rcases List.mem_cons.1 (h.mem_iff.1 (List.mem_cons_self)) with e | ha
      · rw [e]; exact Nat.le_refl _
      · exact hm'.1 a ha
    have e : a = b := fst_inj hn (List.mem_cons_self) (h.mem_iff.2 (List.mem_cons_self)) (by omega)
    subst e
    rw [List.map_cons, List.nodup_cons] at hn
    rw [sorted_one t s (List.Perm.cons_inv h) hl'.2 hm'.2 hn.2]
theorem sorted_is {out l : List (Nat × Nat)} (hp : out.Perm l) (hs : out.Pairwise (fun a b => a.1 ≤ b.1)) (hn : (l.map (·.1)).Nodup) : out = sortP l :=
  sorted_one out (sortP l) (hp.trans (sortP_perm l).symm) hs (sortP_sorted l) ((hp.map _).nodup_iff.2 hn)
end Go.Proofs.YtdpifkhkemeclaaGreat
namespace Go.Proofs.YtdpifkhkemeclaaGreat
open Go.RowKit Go.Shelf Go.Proofs.YtdpifkhkemeclaaGreatW.PrintWords
def pairsW (types codes : List Int) : List (Nat × Nat) := sortP (findGo types codes types.length 0 [] [])
theorem cells_at {w : World} {A : Option Addr} {l : List Int} (hr : Kd.C (Kd.int .i64) w A l.length l) : ∀ j : Nat, j < l.length → ∃ ad, A = some ad ∧ w.cell? (ad.add j) = some (.int .i64 (l.getD j 0)) := fun j hj => by
  obtain ⟨ad, e, hc⟩ := Kd.at_int hr (j : Int) (by omega) (by omega)
  exact ⟨ad, e, by simpa [rd] using hc⟩
end Go.Proofs.YtdpifkhkemeclaaGreat
