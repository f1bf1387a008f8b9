/- pairs.Find: the inner range over what is open: its invariant. -/
import Derived.Test.YtdpifkhkemeclaaDoorPSort
namespace Go.Proofs.YtdpifkhkemeclaaDoor
open Go.RowKit Go.Shelf
set_option linter.unusedVariables false
set_option linter.unusedSimpArgs false

theorem bw_calls (a : Option Addr) (len cap : Nat) (w : World) : Calls Tryd.prog 22 #[.slice a len cap] w fun e w' => e = .returned (.func (.func 38) #[] #[.pointer (some ⟨w.heap.size, 0, none⟩)]) ∧ w' = w.alloc (.cells #[.slice a len cap] 22) :=
  callsIn_wide.1 (bw_in Fence.wide 1 trivial rfl a len cap w)
def set4 (tm : Array Value) (k at_ : Value) : Act := { tmps := (((tm.setIfInBounds 57 k).setIfInBounds 58 at_).setIfInBounds 11 k).setIfInBounds 12 at_, defers := [] }
theorem range_a {n : Nat} (h1 : 1 ≤ n) {α : Type} {assign body : Code} {Q : Exit → Act → World → Prop} {a : Act} {w : World} {lb : Array Value} (e1 e2 : α → Value) (hg : a.eval (.tmp 56) = .func (.func 38) #[] lb)
    {Kp : World → World → Prop} {S Sp : List α → Prop} {N : Nat} {w0 : World} (hseq : SeqStopsK Fence.wide (n - 1) Tryd.prog 38 lb (fun x => #[e1 x, e2 x]) Kp S Sp N w0)
    (hKt : ∀ {A B C : World}, Kp A B → Kp B C → Kp A C) (hKb : ∀ (W : World) (l : Nat) (o o' : Obj), w.heap.size ≤ l → W.heap[l]? = some o → o.isCells = false → o.isWalk = false → Kp W (W.putObj l o')) (hb0 : Below w0.heap.size w0 w)
    (I : List α → World → Prop) (Ix : Code → List α → World → Prop) (hI : OwnFrom w.heap.size I) (hIx : ∀ c, OwnFrom w.heap.size (Ix c)) (h0 : I [] w)
    (hassign : ∀ (l : Nat) (x : α) (W : World) (K : Act → World → Prop), K (set4 a.tmps (e1 x) (e2 x)) W →
      assign.wpIn (Fence.wide.inRound l) (n - 1 - 1) Tryd.prog (Exit.then K (fun _ _ _ => False)) { tmps := (a.tmps.setIfInBounds 57 (e1 x)).setIfInBounds 58 (e2 x), defers := [] } W)
    (hbody : ∀ (l : Nat) (pre : List α) (x : α) (W : World), I pre W → pre.length < N → body.wpIn (Fence.wide.inRound l) (n - 1 - 1) Tryd.prog (ownPostG w.heap.size Kp I Ix (pre ++ [x]) W) (set4 a.tmps (e1 x) (e2 x)) W)
    (hdone : ∀ (D : Nat) (xs : List α) (W : World), w.heap.size ≤ D → S xs → I xs W → W.heap[D]? = some (.deferred (some [])) → Q .normal { a with defers := { target := .collected D, args := #[] } :: a.defers } W)
    (hstop : ∀ (D : Nat) (c : Code) (pre : List α) (W : World), w.heap.size ≤ D → Sp pre → Ix c pre W → W.heap[D]? = some (.deferred (some [])) → c.wp Tryd.prog Q { a with defers := { target := .collected D, args := #[] } :: a.defers } W) :
    (Code.rangeFunc (.tmp 56) #[57, 58] assign body).wp Tryd.prog Q a w :=
  wpIn_wide.1 (wpIn_rangeFunc_ownG (F := Fence.wide) (n := n) rfl h1 hg trivial (enters_of Tryd.func38 (by kernel_rfl) rfl) hseq hKt hKb hb0 (fun _ => rfl) I Ix hI hIx h0 (fun x => set4 a.tmps (e1 x) (e2 x)) (fun l x W K hK => by
      have h := hassign l x W K hK
      have e : (#[57, 58] : Array Tmp).zip #[e1 x, e2 x] = #[(57, e1 x), (58, e2 x)] := by simp
      rw [e]
      exact h) hbody hdone
    (fun D c pre W hD hS hI hK => wpIn_wide.2 (hstop D c pre W hD hS hI hK)))

def PX (op : List Nat) (i : Nat) (x : Nat × Int) : Prop := x.1 < op.length ∧ ∃ p : Nat, x.2 = (p : Int) ∧ p < i
theorem PX_of {op : List Nat} {i : Nat} (h : ∀ p ∈ op, p < i) (k : Nat) (hk : k < (zInts op).length) : PX op i (bwF (zInts op) k) := by
  have hl : (zInts op).length = op.length := by simp [zInts]
  have hlt : (zInts op).length - 1 - k < op.length := by omega
  obtain ⟨j, hj⟩ : ∃ j, j = (zInts op).length - 1 - k := ⟨_, rfl⟩
  rw [← hj] at hlt
  unfold bwF
  rw [← hj]
  refine ⟨hlt, op[j], ?_, h _ (List.getElem_mem hlt)⟩
  unfold zInts
  rw [List.getElem?_map, List.getElem?_eq_getElem hlt]
  rfl
abbrev XT (op : List Nat) (i : Nat) := { x : Nat × Int // PX op i x }
section
variable (w : World) (cv vO vP : Value) (op : List Nat) (out : List (Nat × Nat)) (ds : List Deferred) (b i : Nat) (c : Int) (codes : List Int) (B0 : Nat)
def IR (pre : List (XT op i)) (W : World) : Prop :=
  (∀ y ∈ pre, meetP (codes.getD y.1.2.toNat 0) c = false) ∧ FS w cv vO vP op out W ∧ Boxed W b 3 (.int .i64 (i : Int)) ∧ Boxed W (b + 1) 3 (.int .i64 c) ∧ Marks w.heap.size ds W ∧ B0 ≤ W.heap.size
def IXR (cd : Code) (pre : List (XT op i)) (W : World) : Prop :=
  cd = .exit 3 ∧ ∃ (ini : List (XT op i)) (last : XT op i) (vO' vP' : Value), pre = ini ++ [last] ∧ (∀ y ∈ ini, meetP (codes.getD y.1.2.toNat 0) c = false) ∧ meetP (codes.getD last.1.2.toNat 0) c = true ∧ FS w cv vO' vP' (op.take last.1.1) (out ++ [(last.1.2.toNat, i)]) W ∧ Marks w.heap.size ds W
end
theorem FS.own {w W W' : World} {cv vO vP : Value} {op : List Nat} {out : List (Nat × Nat)} (h : FS w cv vO vP op out W) {row : Option Nat} (hg : W.grownBy W' row) {B : Nat} (hB : w.heap.size ≤ B) (hr : ∀ (r : Nat), row = some r → B ≤ r ∧ ∃ o, W.heap[r]? = some o ∧ o.isCells = false) : FS w cv vO vP op out W' := by
  have hbx : ∀ {k : Nat} {t : TypeId} {v : Value}, Boxed W k t v → Boxed W' k t v := fun {k t v} hb => hb.kept hg (fun e => by
    obtain ⟨_, o, ho, hc⟩ := hr k e.symm
    rw [show W.heap[k]? = _ from hb] at ho
    cases ho
    cases hc)
  have hrw : ∀ {base : Nat} {e : TypeId} {size n : Nat} {v : Value} {xs : List Value}, W.ownsRow base e size v n xs → W'.ownsRow base e size v n xs := fun {base e size n v xs} ho => by
    refine ho.kept hg ?_
    rcases ho.2 with ⟨rfl, _⟩ | ⟨g, cap, cur, rfl, _, hh, _⟩
    · exact .inl rfl
    · refine .inr (fun e2 => ?_)
      obtain ⟨_, o, ho', hc⟩ := hr g e2.symm
      rw [hh] at ho'
      cases ho'
      cases hc
  exact ⟨h.bel.grown hg h.bel.size (fun k e => Nat.le_trans hB (hr k e).1), hbx h.bC, hbx h.bO, hbx h.bP, hrw h.rO, hrw h.rP⟩
theorem Marks.own {B B0 : Nat} {ds : List Deferred} {W0 W W' : World} (h0 : Marks B ds W0) (hle : W0.heap.size ≤ B0) (h : Marks B ds W) {row : Option Nat} (hg : W.grownBy W' row) (hr : ∀ (r : Nat), row = some r → B0 ≤ r ∧ ∃ o, W.heap[r]? = some o ∧ o.isCells = false) : Marks B ds W' :=
  ⟨h.1, fun d hd => by
    obtain ⟨D, rfl, hB, hD⟩ := h.2 d hd
    obtain ⟨D', e, _, hD'⟩ := h0.2 _ hd
    injection e with e1 _
    injection e1 with e1
    subst e1
    have hlt := (Array.getElem?_eq_some_iff.1 hD').1
    exact ⟨D, rfl, hB, (hg.block D (Array.getElem?_eq_some_iff.1 hD).1 (fun e => by have := (hr D e.symm).1; omega)).trans hD⟩⟩
theorem boxed_grown {W W' : World} {k : Nat} {t : TypeId} {v : Value} (hb : Boxed W k t v) {row : Option Nat} (hg : W.grownBy W' row) {B0 : Nat} (hr : ∀ (r : Nat), row = some r → B0 ≤ r ∧ ∃ o, W.heap[r]? = some o ∧ o.isCells = false) : Boxed W' k t v := hb.kept hg (fun e => by
    obtain ⟨_, o, ho, hc⟩ := hr k e.symm
    rw [show W.heap[k]? = _ from hb] at ho
    cases ho
    cases hc)
theorem IR_own {w : World} {cv vO vP : Value} {op : List Nat} {out : List (Nat × Nat)} {ds : List Deferred} {b i : Nat} {c : Int} {codes : List Int} {B0 : Nat} {W0 : World} (hB : w.heap.size ≤ B0) (h0 : Marks w.heap.size ds W0) (hle : W0.heap.size ≤ B0) : OwnFrom B0 (IR w cv vO vP op out ds b i c codes B0) :=
  fun s W W' row hs hg hr => ⟨hs.1, hs.2.1.own hg hB hr, boxed_grown hs.2.2.1 hg hr, boxed_grown hs.2.2.2.1 hg hr, Marks.own h0 hle hs.2.2.2.2.1 hg hr, Nat.le_trans hs.2.2.2.2.2 hg.size⟩
theorem IXR_own {w : World} {cv : Value} {op : List Nat} {out : List (Nat × Nat)} {ds : List Deferred} {i : Nat} {c : Int} {codes : List Int} {B0 : Nat} {W0 : World} (hB : w.heap.size ≤ B0) (h0 : Marks w.heap.size ds W0) (hle : W0.heap.size ≤ B0) (cd : Code) : OwnFrom B0 (IXR w cv op out ds i c codes cd) :=
  fun s W W' row hs hg hr => by
    obtain ⟨e, ini, last, vO', vP', h1, h2, h3, h4, h5⟩ := hs
    exact ⟨e, ini, last, vO', vP', h1, h2, h3, h4.own hg hB hr, Marks.own h0 hle h5 hg hr⟩
theorem popF_none {codes : List Int} {op : List Nat} {c : Int} {i : Nat} {ys : List (XT op i)} (h : ys.map (·.1) = bwTo (zInts op) (zInts op).length) (hn : ∀ y ∈ ys, meetP (codes.getD y.1.2.toNat 0) c = false) : popF codes op c = none := by
  unfold popF
  rw [show op.length = (zInts op).length by simp [zInts], ← h, List.find?_eq_none]
  intro x hx
  obtain ⟨y, hy, rfl⟩ := List.mem_map.1 hx
  rw [hn y hy]
  decide
theorem bwTo_add (zs : List Int) (k d : Nat) : ∃ r, bwTo zs (k + d) = bwTo zs k ++ r := by
  induction d with
  | zero => exact ⟨[], by simp⟩
  | succ d ih => obtain ⟨r, hr⟩ := ih; exact ⟨r ++ [bwF zs (k + d)], by rw [← Nat.add_assoc, bwTo_succ, hr]; simp⟩
theorem popF_some {codes : List Int} {op : List Nat} {c : Int} {i : Nat} {ini : List (XT op i)} {last : XT op i} {k : Nat} (hk : k ≤ (zInts op).length) (h : (ini ++ [last]).map (·.1) = bwTo (zInts op) k) (hn : ∀ y ∈ ini, meetP (codes.getD y.1.2.toNat 0) c = false) (hl : meetP (codes.getD last.1.2.toNat 0) c = true) : popF codes op c = some last.1 := by
  unfold popF
  obtain ⟨r, hr⟩ := bwTo_add (zInts op) k ((zInts op).length - k)
  rw [show op.length = k + ((zInts op).length - k) by have : (zInts op).length = op.length := by simp [zInts]
                                                      omega, hr, ← h, List.map_append, List.append_assoc, List.find?_append]
  have h1 : (ini.map (·.1)).find? (fun x => meetP (codes.getD x.2.toNat 0) c) = none := by
    rw [List.find?_eq_none]
    intro x hx
    obtain ⟨y, hy, rfl⟩ := List.mem_map.1 hx
    rw [hn y hy]
    decide
  rw [h1, Option.none_or]
  show List.find? _ (last.1 :: r) = _
  exact List.find?_cons_of_pos hl
theorem cells_new (w : World) (x y : Value) (t : TypeId) : ∀ j u, [x, y][j]? = some u → (w.alloc (.cells #[x, y] t)).cell? ((⟨w.heap.size, 0, none⟩ : Addr).add j) = some u := by
  intro j u hj
  have h := heap_alloc_new w (.cells #[x, y] t)
  match j, hj with
  | 0, hj => rw [show (⟨w.heap.size, 0, none⟩ : Addr).add 0 = ⟨w.heap.size, 0, none⟩ from rfl, cell_of_row _ _ _ _ _ _ h]; exact hj
  | 1, hj => rw [show (⟨w.heap.size, 0, none⟩ : Addr).add 1 = ⟨w.heap.size, 1, none⟩ from rfl, cell_of_row _ _ _ _ _ _ h]; exact hj
theorem boxed_below {W W' : World} {k : Nat} {t : TypeId} {v : Value} (h : Boxed W k t v) (hb : Below W.heap.size W W') : Boxed W' k t v := (hb.block _ h.lt).trans h
theorem keeps_below {W W' : World} (h : Below W.heap.size W W') : KeepsOthers W W' := ⟨h.size, fun k o hk _ => (h.block k (Array.getElem?_eq_some_iff.1 hk).1).trans hk⟩
theorem info31q : (Tryd.prog.info? 31).map (fun i => (i.zero, i.size, i.bytes)) = some (some (.agg #[.int .i64 0, .int .i64 0]), 2, 16) := by kernel_rfl
end Go.Proofs.YtdpifkhkemeclaaDoor
