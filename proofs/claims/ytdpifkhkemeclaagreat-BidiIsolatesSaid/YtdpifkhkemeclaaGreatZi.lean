/- slices.Backward over ints: its iterator's contract, for every loop body that keeps what lay below. pairs: a class as a letter, and the direction ahead of a place, walked. pairs: what stands between two brackets, and a bracket's settling, walked. -/
import Derived.RangeFuncNested
import Derived.RangeFuncBound
import Derived.RangeFuncCalls
import Derived.RangeFuncLeaves
import Derived.Shelf.Abstract
import Derived.Shelf.RegionOpen
import Derived.WalkKit
import Derived.OwnWalkIn
import Derived.TacticsInMore
import Derived.LoopNIn
import Derived.LoopIn
import Derived.Lib.Hide
import Derived.Test.YtdpifkhkemeclaaGreatProg
import Derived.Test.YtdpifkhkemeclaaGreatZa
import Derived.Test.YtdpifkhkemeclaaGreatVMore
import Derived.Deep.LoopGhost
import Derived.Maps.AppendAt
set_option linter.unusedVariables false
set_option linter.unusedSimpArgs false
namespace Go.Proofs.YtdpifkhkemeclaaGreat
open Go.RowKit Go.Shelf
attribute [local go_sem] Oper.semAt_some
def bwF (zs : List Int) (j : Nat) : Nat × Int := (zs.length - 1 - j, zs[zs.length - 1 - j]?.getD 0)
def bwTo (zs : List Int) (k : Nat) : List (Nat × Int) := (List.range k).map (bwF zs)
theorem bwTo_succ (zs : List Int) (k : Nat) : bwTo zs (k + 1) = bwTo zs k ++ [bwF zs k] := by simp [bwTo, List.range_succ]
theorem bwTo_length (zs : List Int) (k : Nat) : (bwTo zs k).length = k := by simp [bwTo]
set_option maxRecDepth 100000 in
set_option maxHeartbeats 2000000 in
theorem bw1_in (F : Fence) (n : Nat) (h8 : F.fn 153) (hro : F.round = none) (hn : 1 ≤ n) (l Bs n₀ b off cap : Nat) (zs : List Int) (hreach : zs.length * 8 ≤ 140737488351232) (hb : b < n₀) (P : Nat × Int → Prop) (hP : ∀ k, k < zs.length → P (bwF zs k)) (J Jx : List (Nat × Int) → World → Prop)
    (hY : ∀ pre x W, P x → J pre W → pre.length < zs.length → YieldAt F (n - 1) Tryz.prog l #[.int .i64 (x.1 : Int), .int .i64 x.2] W fun e W' =>
      (e = .returned (.bool true) ∧ J (pre ++ [x]) W' ∧ Below n₀ W W') ∨ (e = .returned (.bool false) ∧ Jx (pre ++ [x]) W'))
    (W : World) (hBs : W.cell? ⟨Bs, 0, none⟩ = some (.slice (some ⟨b, off, none⟩) zs.length cap)) (hBlt : Bs < n₀) (hc : ∀ j, j < zs.length → W.cell? ⟨b, off + j, none⟩ = some (.int .i64 (zs[j]?.getD 0))) (h0 : J [] W) :
    CallsIn F n Tryz.prog 153 #[.func (.yield l) #[] #[], .pointer (some ⟨Bs, 0, none⟩)] W fun e W' => (∃ v, e = .returned v) ∧
      (J (bwTo zs zs.length) W' ∨ (∃ pre, (∃ k, k ≤ zs.length ∧ pre = bwTo zs k) ∧ Jx pre W')) := by
  refine callsIn_of_wp Tryz.func153 rfl h8 ?_ hro
  simp only [Tryz.ntmps153, List.size_toArray, List.length_cons, List.length_nil, Nat.reduceAdd, Nat.reduceSub, Array.replicate_succ, Array.replicate_zero, List.push_toArray, List.append_toArray, List.nil_append, List.cons_append]
  gi_wp2
  gi_loopw [3] (fun i wr => ∃ k : Nat, k ≤ zs.length ∧ ((k < zs.length ∧ i = .int .i64 ((zs.length - 1 - k : Nat) : Int)) ∨ (k = zs.length ∧ i = .int .i64 (-1))) ∧ J (bwTo zs k) wr ∧ Below n₀ W wr)
    (fun i _ => (intOf i + 1).toNat)
  case atStart =>
    refine ⟨0, Nat.zero_le _, ?_, h0, Below.refl _ _⟩
    rcases Nat.eq_zero_or_pos zs.length with h | h
    · exact .inr ⟨h.symm, by rw [h]; rfl⟩
    · exact .inl ⟨h, by congr 1; omega⟩
  case round =>
    obtain ⟨k, hk, hi, hJs, hnx⟩ := hrel
    rcases hi with ⟨hlt, rfl⟩ | ⟨hke, rfl⟩
    · obtain ⟨m, hm⟩ : ∃ m, m = zs.length - 1 - k := ⟨_, rfl⟩
      have hx : bwF zs k = (m, zs[m]?.getD 0) := by unfold bwF; rw [hm]
      have hcx' : wr.cell? ⟨b, off + m, none⟩ = some (.int .i64 (zs[m]?.getD 0)) := (hnx.cell (p := ⟨b, off + m, none⟩) hb).trans (hc m (by omega))
      have hbs' : wr.cell? ⟨Bs, 0, none⟩ = some (.slice (some ⟨b, off, none⟩) zs.length cap) := (hnx.cell (p := ⟨Bs, 0, none⟩) hBlt).trans hBs
      obtain ⟨fn, tmps, assign, body, hy, hR⟩ := hY _ (m, zs[m]?.getD 0) wr (by rw [← hx]; exact hP k hlt) hJs (by rw [bwTo_length]; exact hlt)
      dsimp only at hy
      rw [← hm]
      have hml : (m : Int) < (zs.length : Int) := by omega
      have Hm := Lib.hid hm
      have Hx := Lib.hid hx
      clear hm hx
      gi_wp2
      refine hR.mono ?_
      rintro e W3 (⟨rfl, hJ3, hk3⟩ | ⟨rfl, hJx3⟩)
      · gi_wp2
        go_roundw
        case rel =>
          refine ⟨k + 1, by omega, ?_, by rw [bwTo_succ, Hx.out]; exact hJ3, hnx.trans hk3⟩
          rcases Nat.eq_zero_or_pos m with h | h
          · exact .inr ⟨by have := Hm.out; omega, by subst h; rfl⟩
          · exact .inl ⟨by have := Hm.out; omega, by have := Hm.out; congr 1; omega⟩
        case measure => simp [intOf] <;> omega
      · gi_wp2
        refine bodyPost_ret (results_none rfl _ _ _) rfl ?_
        exact ⟨⟨_, rfl⟩, .inr ⟨_, ⟨k + 1, by omega, by rw [bwTo_succ, Hx.out]⟩, hJx3⟩⟩
    · subst hke
      gi_wp2
      go_end0
      exact ⟨⟨_, rfl⟩, .inl hJs⟩
set_option maxRecDepth 100000 in
set_option maxHeartbeats 1000000 in
theorem bw1_none_in (F : Fence) (n : Nat) (h8 : F.fn 153) (hro : F.round = none) (l Bs : Nat) (a : Option Addr) (cap : Nat) (J : List (Nat × Int) → World → Prop) (W : World) (hBs : W.cell? ⟨Bs, 0, none⟩ = some (.slice a 0 cap)) (h0 : J [] W) :
    CallsIn F n Tryz.prog 153 #[.func (.yield l) #[] #[], .pointer (some ⟨Bs, 0, none⟩)] W fun e W' => (∃ v, e = .returned v) ∧ J [] W' := by
  refine callsIn_of_wp Tryz.func153 rfl h8 ?_ hro
  simp only [Tryz.ntmps153, List.size_toArray, List.length_cons, List.length_nil, Nat.reduceAdd, Nat.reduceSub, Array.replicate_succ, Array.replicate_zero, List.push_toArray, List.append_toArray, List.nil_append, List.cons_append]
  gi_wp2
  gi_loopw [3] (fun i wr => i = .int .i64 (-1) ∧ J [] wr) (fun _ _ => 0)
  case atStart => exact ⟨rfl, h0⟩
  case round =>
    obtain ⟨rfl, hJs⟩ := hrel
    gi_wp2
    go_end0
    exact ⟨⟨_, rfl⟩, hJs⟩
set_option maxHeartbeats 1000000 in
theorem bw_in (F : Fence) (n : Nat) (h6 : F.fn 139) (hro : F.round = none) (a : Option Addr) (len cap : Nat) (w : World) :
    CallsIn F n Tryz.prog 139 #[.slice a len cap] w fun e w' => e = .returned (.func (.func 153) #[] #[.pointer (some ⟨w.heap.size, 0, none⟩)]) ∧ w' = w.alloc (.cells #[.slice a len cap] 25) := by
  refine callsIn_of_wp Tryz.func139 rfl h6 ?_ hro
  simp only [Tryz.ntmps139, List.size_toArray, List.length_cons, List.length_nil, Nat.reduceAdd, Nat.reduceSub, Array.replicate_succ, Array.replicate_zero, List.push_toArray, List.append_toArray, List.nil_append, List.cons_append]
  gi_wp2
  go_ret
  exact ⟨rfl, rfl⟩
def IntsB (n₀ : Nat) (W : World) (sv : Value) (zs : List Int) : Prop :=
  (∃ a cap, sv = .slice a 0 cap ∧ zs = []) ∨ ∃ b off cap, sv = .slice (some ⟨b, off, none⟩) zs.length cap ∧ b < n₀ ∧ ∀ j, j < zs.length → W.cell? ⟨b, off + j, none⟩ = some (.int .i64 (zs[j]?.getD 0))
theorem IntsB.below {n₀ : Nat} {A B : World} (h : Below n₀ A B) {sv : Value} {zs : List Int} : IntsB n₀ A sv zs → IntsB n₀ B sv zs
  | .inl e => .inl e
  | .inr ⟨b, off, cap, e, hb, hc⟩ => .inr ⟨b, off, cap, e, hb, fun j hj => (h.cell (p := ⟨b, off + j, none⟩) hb).trans (hc j hj)⟩
theorem bw_stops (F : Fence) (n : Nat) (h8 : F.fn 153) (hro : F.round = none) (hn : 1 ≤ n) (Bs n₀ : Nat) (sv : Value) (zs : List Int) (hreach : zs.length * 8 ≤ 140737488351232) (w : World) (hBs : Bs < n₀) (hn₀ : n₀ ≤ w.heap.size)
    (hc : w.cell? ⟨Bs, 0, none⟩ = some sv) (hI : IntsB n₀ w sv zs) :
    SeqStopsK F n Tryz.prog 153 #[.pointer (some ⟨Bs, 0, none⟩)] (fun x : Nat × Int => #[Value.int .i64 (x.1 : Int), Value.int .i64 x.2]) (Below n₀) (fun ys => ys = bwTo zs zs.length)
      (fun pre => ∃ k, k ≤ zs.length ∧ pre = bwTo zs k) zs.length w := fun l J Jx W hW _ _ hY h0 => by
  have hc' := (hW.cell (p := ⟨Bs, 0, none⟩) (show Bs < w.heap.size by omega)).trans hc
  rcases hI.below (hW.mono hn₀) with ⟨a, cap, rfl, rfl⟩ | ⟨b, off, cap, rfl, hb, hcs⟩
  · exact (bw1_none_in F n h8 hro l Bs a cap J W hc' h0).mono fun e W' ⟨he, hj⟩ => ⟨he, .inl ⟨_, rfl, hj⟩⟩
  · exact (bw1_in F n h8 hro hn l Bs n₀ b off cap zs hreach hb (fun _ => True) (fun _ _ => trivial) J Jx (fun pre x W _ => hY pre x W) W hc' hBs hcs h0).mono fun e W' ⟨he, hj⟩ => ⟨he, hj.elim (fun h => .inl ⟨_, rfl, h⟩) (fun ⟨pre, h1, h2⟩ => .inr ⟨pre, h1, h2⟩)⟩
theorem bw_stopsP (F : Fence) (n : Nat) (h8 : F.fn 153) (hro : F.round = none) (hn : 1 ≤ n) (Bs n₀ : Nat) (sv : Value) (zs : List Int) (P : Nat × Int → Prop) (hP : ∀ k, k < zs.length → P (bwF zs k)) (hreach : zs.length * 8 ≤ 140737488351232) (w : World) (hBs : Bs < n₀) (hn₀ : n₀ ≤ w.heap.size)
    (hc : w.cell? ⟨Bs, 0, none⟩ = some sv) (hI : IntsB n₀ w sv zs) :
    SeqStopsK F n Tryz.prog 153 #[.pointer (some ⟨Bs, 0, none⟩)] (fun x : { x : Nat × Int // P x } => #[Value.int .i64 (x.1.1 : Int), Value.int .i64 x.1.2]) (Below n₀) (fun ys => ys.map (·.1) = bwTo zs zs.length)
      (fun pre => ∃ k, k ≤ zs.length ∧ pre.map (·.1) = bwTo zs k) zs.length w := fun l J Jx W hW _ _ hY h0 => by
  have hc' := (hW.cell (p := ⟨Bs, 0, none⟩) (show Bs < w.heap.size by omega)).trans hc
  have key : CallsIn F n Tryz.prog 153 #[.func (.yield l) #[] #[], .pointer (some ⟨Bs, 0, none⟩)] W fun e W' => (∃ v, e = .returned v) ∧
      ((fun (y : List (Nat × Int)) W => ∃ y', y'.map (·.1) = y ∧ J y' W) (bwTo zs zs.length) W' ∨ (∃ pre, (∃ k, k ≤ zs.length ∧ pre = bwTo zs k) ∧ (fun (y : List (Nat × Int)) W => ∃ y', y'.map (·.1) = y ∧ Jx y' W) pre W')) := by
    rcases hI.below (hW.mono hn₀) with ⟨a, cap, rfl, rfl⟩ | ⟨b, off, cap, rfl, hb, hcs⟩
    · exact (bw1_none_in F n h8 hro l Bs a cap (fun (y : List (Nat × Int)) W => ∃ y', y'.map (·.1) = y ∧ J y' W) W hc' ⟨[], rfl, h0⟩).mono fun e W' ⟨he, hj⟩ => ⟨he, .inl hj⟩
    · refine bw1_in F n h8 hro hn l Bs n₀ b off cap zs hreach hb P hP (fun (y : List (Nat × Int)) W => ∃ y', y'.map (·.1) = y ∧ J y' W) (fun (y : List (Nat × Int)) W => ∃ y', y'.map (·.1) = y ∧ Jx y' W) ?_ W hc' hBs hcs ⟨[], rfl, h0⟩
      rintro pre x W1 hPx ⟨y', rfl, hj⟩ hlen
      obtain ⟨fn, tmps, assign, body, hy, hR⟩ := hY y' ⟨x, hPx⟩ W1 hj (by simpa using hlen)
      refine ⟨fn, tmps, assign, body, hy, hR.mono ?_⟩
      rintro e W' (⟨rfl, h1, h2⟩ | ⟨rfl, h1⟩)
      · exact .inl ⟨rfl, ⟨_, by simp, h1⟩, h2⟩
      · exact .inr ⟨rfl, ⟨_, by simp, h1⟩⟩
  refine key.mono ?_
  rintro e W' ⟨he, ⟨y', h1, h2⟩ | ⟨pre, ⟨k, hk, rfl⟩, ⟨y', h1, h2⟩⟩⟩
  · exact ⟨he, .inl ⟨y', h1, h2⟩⟩
  · exact ⟨he, .inr ⟨y', ⟨k, hk, h1⟩, h2⟩⟩
end Go.Proofs.YtdpifkhkemeclaaGreat
namespace Go.Proofs.YtdpifkhkemeclaaGreat
open Go.RowKit Go.Shelf
def letterP (c : Int) : Int × Bool := if c = 0 then (0, true) else if c = 1 ∨ c = 3 ∨ c = 6 then (1, true) else (0, false)
theorem letter_any (c : Int) (w : World) : Calls Tryz.prog 144 #[.int .i64 c] w fun e w' => e = .returned (.tuple #[.int .i64 (letterP c).1, .bool (letterP c).2]) ∧ w' = w := by
  by_cases h0 : c = 0
  · subst h0
    go_enter Tryz.func144, Tryz.ntmps144
    go_wp2
    go_ret2
    exact ⟨rfl, rfl⟩
  by_cases h1 : c = 1
  · subst h1
    go_enter Tryz.func144, Tryz.ntmps144
    go_wp2
    go_ret2
    exact ⟨rfl, rfl⟩
  by_cases h3 : c = 3
  · subst h3
    go_enter Tryz.func144, Tryz.ntmps144
    go_wp2
    go_ret2
    exact ⟨rfl, rfl⟩
  by_cases h6 : c = 6
  · subst h6
    go_enter Tryz.func144, Tryz.ntmps144
    go_wp2
    go_ret2
    exact ⟨rfl, rfl⟩
  have Hs : Hid (letterP c = (0, false)) := by unfold letterP; rw [if_neg h0, if_neg (by omega)]; rfl
  have b0 : (c == 0) = false := by simpa using h0
  have b1 : (c == 1) = false := by simpa using h1
  have b3 : (c == 3) = false := by simpa using h3
  have b6 : (c == 6) = false := by simpa using h6
  go_enter Tryz.func144, Tryz.ntmps144
  go_wp2
  go_ret2
  exact ⟨by rw [Hs.out]; rfl, rfl⟩
def firstL : List Int → Option Int
  | [] => none
  | c :: r => if (letterP c).2 = true then some (letterP c).1 else firstL r
def aheadP (l : List Int) (sos : Int) : Int := (firstL l.reverse).getD sos
theorem bwTo_snd (zs : List Int) : ∀ k, k ≤ zs.length → (bwTo zs k).map (·.2) = zs.reverse.take k := by
  intro k
  induction k with
  | zero => intro _; rfl
  | succ k ih =>
    intro hk
    rw [bwTo_succ, List.map_append, ih (by omega), List.take_succ_eq_append_getElem (by simp; omega)]
    simp only [List.map_cons, List.map_nil, bwF]
    rw [List.getElem_reverse, List.getElem?_eq_getElem (by omega)]
    rfl
theorem firstL_none {l : List Int} (h : ∀ c ∈ l, (letterP c).2 = false) : firstL l = none := by
  induction l with
  | nil => rfl
  | cons c r ih => unfold firstL; rw [h c (by simp)]; exact ih (fun d hd => h d (by simp [hd]))
theorem firstL_some {a b : List Int} {c : Int} (h : ∀ c ∈ a, (letterP c).2 = false) (hc : (letterP c).2 = true) : firstL (a ++ c :: b) = some (letterP c).1 := by
  induction a with
  | nil => simp [firstL, hc]
  | cons d r ih => rw [List.cons_append]; unfold firstL; rw [h d (by simp)]; exact ih (fun e he => h e (by simp [he]))
theorem three_allocs (w : World) (o1 o2 o3 : Obj) : (((w.alloc o1).alloc o2).alloc o3).heap[w.heap.size]? = some o1 ∧ (((w.alloc o1).alloc o2).alloc o3).heap[w.heap.size + 1]? = some o2 ∧ (((w.alloc o1).alloc o2).alloc o3).heap[w.heap.size + 1 + 1]? = some o3 := by
  have e1 : (w.alloc o1).heap.size = w.heap.size + 1 := by simp
  have e2 : ((w.alloc o1).alloc o2).heap.size = w.heap.size + 1 + 1 := by simp
  refine ⟨?_, ?_, ?_⟩
  · exact (heap_alloc_old _ o3 _ (by omega)).trans ((heap_alloc_old _ o2 _ (by omega)).trans (heap_alloc_new w o1))
  · refine (heap_alloc_old _ o3 _ (by omega)).trans ?_
    have := heap_alloc_new (w.alloc o1) o2
    rwa [e1] at this
  · have := heap_alloc_new ((w.alloc o1).alloc o2) o3
    rwa [e2] at this
attribute [local go_sem] Oper.semAt_some
set_option maxRecDepth 100000 in
set_option maxHeartbeats 4000000 in
theorem ahead_in (n : Nat) (hn : 3 ≤ n) (A : Option Addr) (m c at_ : Nat) (hat : at_ ≤ m) (hmc : m ≤ c) (way sos : Int) (zs : List Int) (hzs : zs.length = at_) (hreach : zs.length * 8 ≤ 140737488351232) (w : World) (hI : IntsB w.heap.size w (.slice A at_ c) zs) :
    CallsIn Fence.wide n Tryz.prog 111 #[.agg #[.slice A m c, .int .i64 way, .int .i64 sos], .int .i64 (at_ : Int)] w fun e W' => e = .returned (.int .i64 (aheadP zs sos)) ∧ Below w.heap.size w W' := by
  have h1 : 1 ≤ n := by omega
  have hro : (Fence.wide).round = none := rfl
  refine callsIn_of_wp_marks Tryz.func111 rfl trivial ?_ hro
  simp only [Tryz.ntmps111, List.size_toArray, List.length_cons, List.length_nil, Nat.reduceAdd, Nat.reduceSub, Array.replicate_succ, Array.replicate_zero, List.push_toArray, List.append_toArray, List.nil_append, List.cons_append]
  gi_wp2_with (refine ⟨trivial, ?_⟩; gi_at_call 139; refine (bw_in Fence.wide (n - 1) trivial hro _ _ _ _).mono ?_; rintro e w' ⟨rfl, rfl⟩)
  obtain ⟨cS, cR, cN0⟩ := three_allocs w (.cells #[.slice A m c, .int .i64 way, .int .i64 sos] 130) (.cells #[.int .i64 0] 3) (.cells #[.slice A at_ c] 25)
  have cN : (((w.alloc (.cells #[.slice A m c, .int .i64 way, .int .i64 sos] 130)).alloc (.cells #[.int .i64 0] 3)).alloc (.cells #[.slice A at_ c] 25)).cell? ⟨w.heap.size + 1 + 1, 0, none⟩ = some (.slice A at_ c) := by
    rw [cell_of_row _ _ _ _ _ _ cN0]
    rfl
  have hB0 : Below w.heap.size w (((w.alloc (.cells #[.slice A m c, .int .i64 way, .int .i64 sos] 130)).alloc (.cells #[.int .i64 0] 3)).alloc (.cells #[.slice A at_ c] 25)) := (((Below.refl _ w).alloc (Nat.le_refl _) _).alloc (by simp) _).alloc (by simp; omega) _
  obtain ⟨W0, hW0⟩ : ∃ W0, W0 = (((w.alloc (.cells #[.slice A m c, .int .i64 way, .int .i64 sos] 130)).alloc (.cells #[.int .i64 0] 3)).alloc (.cells #[.slice A at_ c] 25)) := ⟨_, rfl⟩
  have hsz : W0.heap.size = w.heap.size + 3 := by rw [hW0]; simp
  rw [← hW0] at cR cS cN hB0 ⊢
  have hI0 : IntsB (w.heap.size + 3) W0 (.slice A at_ c) zs := by
    rcases hI.below hB0 with h | ⟨b, off, cap, e, hb, hcs⟩
    · exact .inl h
    · exact .inr ⟨b, off, cap, e, by omega, hcs⟩
  clear hW0
  refine wpIn_rangeFunc_ownG hro h1 (gf := 153) (lb := #[.pointer (some ⟨w.heap.size + 1 + 1, 0, none⟩)]) rfl trivial (enters_of Tryz.func153 (by kernel_rfl) rfl)
    (bw_stops Fence.wide (n - 1) trivial hro (by omega) (w.heap.size + 1 + 1) (w.heap.size + 3) _ zs hreach W0 (by omega) (by omega) cN hI0) belowK_t (belowK_b (by omega)) (Below.refl _ _) (fun _ => rfl)
    (fun pre W => ((∀ p ∈ pre, (letterP p.2).2 = false) ∧ W.cell? ⟨w.heap.size + 1, 0, none⟩ = some (.int .i64 0) ∧ W.frozen? ⟨w.heap.size + 1, 0, none⟩ = false ∧ W.cell? ⟨w.heap.size, 2, none⟩ = some (.int .i64 sos)) ∧ Below w.heap.size w W)
    (fun cd pre W => (cd = .ret ∧ ∃ ini last, pre = ini ++ [last] ∧ (∀ p ∈ ini, (letterP p.2).2 = false) ∧ (letterP last.2).2 = true ∧ W.cell? ⟨w.heap.size + 1, 0, none⟩ = some (.int .i64 (letterP last.2).1)) ∧ Below w.heap.size w W)
    (OwnFrom.and (Own.from (fun s A B row hs hg hr => ⟨hs.1, cell_kept hs.2.1 hg hr, (frozen_kept hs.2.1 hg hr).trans hs.2.2.1, cell_kept hs.2.2.2 hg hr⟩) _) (ownFrom_below (Nat.le_refl _) (by omega)))
    (fun cd => OwnFrom.and (Own.from (fun s A B row hs hg hr => by obtain ⟨hc, ini, last, e1, e2, e3, e4⟩ := hs; exact ⟨hc, ini, last, e1, e2, e3, cell_kept e4 hg hr⟩) _) (ownFrom_below (Nat.le_refl _) (by omega)))
    ⟨⟨by simp, by rw [cell_of_row _ _ _ _ _ _ cR]; rfl, frozen_of_row _ _ _ _ _ cR, by rw [cell_of_row _ _ _ _ _ _ cS]; rfl⟩, hB0⟩
    (fun x => { tmps := #[.agg #[.slice A m c, .int .i64 way, .int .i64 sos], .int .i64 (at_ : Int), .pointer (some ⟨w.heap.size, 0, none⟩), undef, .pointer (some ⟨w.heap.size + 1, 0, none⟩), undef, .int .i64 x.2, undef, undef, .pointer (some ⟨w.heap.size, 0, none⟩), .slice A m c, .int .i64 (at_ : Int), .slice A at_ c, .func (.func 153) #[] #[.pointer (some ⟨w.heap.size + 1 + 1, 0, none⟩)], .int .i64 (x.1 : Int), .int .i64 x.2, undef, undef, undef, undef, undef, undef, undef, undef, undef], defers := [] }) ?assign ?body ?done ?stop
  case assign =>
    intro l x W K hK
    gi_wp2
    exact hK
  case body =>
    rintro l pre x W ⟨⟨hp, hcr, hfr, hcs⟩, hB⟩ _
    have hlet := letter_any x.2
    cases hb : (letterP x.2).2 with
    | true =>
      rw [hb] at hlet
      obtain ⟨v, hv⟩ : ∃ v, v = (letterP x.2).1 := ⟨_, rfl⟩
      rw [← hv] at hlet
      have HL := Lib.hid hlet
      have Hb := Lib.hid hb
      have Hv := Lib.hid hv
      clear hlet hb hv
      gi_wp2_with (refine ⟨trivial, fun _ => by omega, ?_⟩; gi_at_call 144; refine (CallsIn.inRound l (callsIn_wide.2 (HL.out _))).mono ?_; rintro e w' ⟨rfl, hw⟩; obtain rfl := hw.symm; clear hw)
      exact ⟨(KeepsOthers.setCell _ _ _).from _, ⟨rfl, pre, x, rfl, hp, Hb.out, by rw [← Hv.out]; exact World.cell?_setCell_same' _ _ _ (by rw [hcr]; rfl)⟩, hB.setCell (p := ⟨w.heap.size + 1, 0, none⟩) (by simp) _⟩
    | false =>
      rw [hb] at hlet
      have HL := Lib.hid hlet
      have Hb := Lib.hid hb
      clear hlet hb
      gi_wp2_with (refine ⟨trivial, fun _ => by omega, ?_⟩; gi_at_call 144; refine (CallsIn.inRound l (callsIn_wide.2 (HL.out _))).mono ?_; rintro e w' ⟨rfl, hw⟩; obtain rfl := hw.symm; clear hw)
      exact ⟨KeepsFrom.refl _ _, Below.refl _ _, ⟨fun p hp' => (List.mem_append.1 hp').elim (hp p) (fun e => by simp at e; subst e; exact Hb.out), hcr, hfr, hcs⟩, hB⟩
  case done =>
    rintro D ys W hD rfl ⟨⟨hne, hcr, hfr, hcs⟩, hB⟩ hK
    gi_wp2
    have hK' := (KeepsOthers.setCell W ⟨w.heap.size + 1, 0, none⟩ (.int .i64 sos)).same D _ hK rfl
    refine ⟨by simp, .inl ⟨_, _, rfl, run_takeDeferred hK', ?_⟩⟩
    have hc5 := cell_kept (World.cell?_setCell_same' W ⟨w.heap.size + 1, 0, none⟩ (.int .i64 sos) (by rw [hcr]; rfl)) (grownBy_putObj' _ D (.deferred none)) (fun r e => by cases e; exact ⟨_, hK', rfl⟩)
    have hres : aheadP zs sos = sos := by
      unfold aheadP
      rw [firstL_none]
      · rfl
      · intro d hd
        have h2 := bwTo_snd zs zs.length (Nat.le_refl _)
        rw [List.take_of_length_le (by simp)] at h2
        rw [← h2] at hd
        obtain ⟨p, hp1, rfl⟩ := List.mem_map.1 hd
        exact hne p hp1
    refine ⟨.int .i64 sos, ?_, by rw [hres], (hB.setCell (p := ⟨w.heap.size + 1, 0, none⟩) (by simp) _).trans (belowK_b (w := w) (Nat.le_refl _) _ D _ _ (by omega) hK' rfl rfl)⟩
    simp [results, Tryz.f111, go_sem, hc5]
  case stop =>
    rintro D cd pre W hD ⟨k, hk, rfl⟩ ⟨⟨rfl, ini, last, e1, e2, e3, hcr⟩, hB⟩ hK
    gi_wp2
    refine ⟨by simp, .inl ⟨_, _, rfl, run_takeDeferred hK, ?_⟩⟩
    have hc5 := cell_kept hcr (grownBy_putObj' _ D (.deferred none)) (fun r e => by cases e; exact ⟨_, hK, rfl⟩)
    have hres : aheadP zs sos = (letterP last.2).1 := by
      have h2 := bwTo_snd zs k hk
      rw [e1, List.map_append] at h2
      have h3 : zs.reverse = ini.map (·.2) ++ last.2 :: zs.reverse.drop k := by
        conv => lhs; rw [← List.take_append_drop k zs.reverse, ← h2]
        simp
      unfold aheadP
      rw [h3, firstL_some (fun d hd => by obtain ⟨p, hp1, rfl⟩ := List.mem_map.1 hd; exact e2 p hp1) e3]
      rfl
    refine ⟨.int .i64 (letterP last.2).1, ?_, by rw [hres], hB.trans (belowK_b (w := w) (Nat.le_refl _) W D _ _ (by omega) hK rfl rfl)⟩
    simp [results, Tryz.f111, go_sem, hc5]
end Go.Proofs.YtdpifkhkemeclaaGreat
namespace Go.Proofs.YtdpifkhkemeclaaGreat
open Go.RowKit Go.Proofs.YtdpifkhkemeclaaGreatW.PrintWords
theorem own_nums {w : World} {B : Nat} {v : Value} {l : List Int} (h : w.ownsRow B 3 1 v l.length (nums .i64 l)) : ∃ A c, v = .slice A l.length c ∧ l.length ≤ c ∧ ∀ j, j < l.length → ∃ g, A = some ⟨g, 0, none⟩ ∧ g < w.heap.size ∧ B ≤ g ∧ w.cell? ⟨g, j, none⟩ = some (.int .i64 (l.getD j 0)) ∧ w.frozen? ⟨g, j, none⟩ = false := by
  rcases h.2 with ⟨rfl, h0⟩ | ⟨g, cap, cur, rfl, hB, hg, hle, _, _, htake⟩
  · exact ⟨none, 0, by rw [h0], by omega, fun j hj => by omega⟩
  · refine ⟨_, cap, rfl, hle, fun j hj => ⟨g, rfl, lt_of_block hg, hB, ?_, frozen_of_row _ _ _ _ _ hg⟩⟩
    have := h.cells (g := g) rfl j (.int .i64 (l.getD j 0)) (by simp [nums, hj])
    rwa [add_plain] at this
def insGo (W : Int) : Int → Bool → List Int → Int × Bool
  | y, f, [] => (y, f)
  | y, f, c :: r => if (letterP c).2 = true then (if (letterP c).1 = W then ((letterP c).1, true) else insGo W (letterP c).1 true r) else insGo W y f r
def partL (T : List Int) (o c : Nat) : List Int := (T.drop (o + 1)).take (c - (o + 1))
theorem partL_get (T : List Int) (o c j : Nat) (h : o + 1 + j < c) : (partL T o c)[j]? = T[o + 1 + j]? := by
  unfold partL
  rw [List.getElem?_take, if_pos (by omega), List.getElem?_drop]
theorem partL_len (T : List Int) (o c : Nat) (h : c ≤ T.length) : (partL T o c).length = c - (o + 1) := by unfold partL; simp; omega
theorem dropAt (l : List Int) (i : Nat) (h : i < l.length) : l.drop i = l.getD i 0 :: l.drop (i + 1) := by
  rw [List.drop_eq_getElem_cons h, List.getD_eq_getElem?_getD, List.getElem?_eq_getElem h]; rfl
set_option maxRecDepth 100000 in
set_option maxHeartbeats 2000000 in
theorem inside_any (w : World) (B : Nat) (v : Value) (T : List Int) (W sos : Int) (o c : Nat) (h : w.ownsRow B 3 1 v T.length (nums .i64 T)) (hl : T.length ≤ 1048576) (hoc : o < c) (hcT : c < T.length) :
    Calls Tryz.prog 110 #[.agg #[v, .int .i64 W, .int .i64 sos], .agg #[.int .i64 o, .int .i64 c]] w fun e w' => e = .returned (.tuple #[.int .i64 (insGo W 0 false (partL T o c)).1, .bool (insGo W 0 false (partL T o c)).2]) ∧ w' = (w.alloc (.cells #[v, .int .i64 W, .int .i64 sos] 130)).alloc (.cells #[.int .i64 o, .int .i64 c] 106) := by
  obtain ⟨A, cp, rfl, hcp, hc⟩ := own_nums h
  obtain ⟨g, rfl, hg, _, _, _⟩ := hc 0 (by omega)
  obtain ⟨L, hL⟩ : ∃ L, L = partL T o c := ⟨_, rfl⟩
  have hLl : L.length = c - (o + 1) := by rw [hL]; exact partL_len T o c (by omega)
  obtain ⟨m, hm⟩ : ∃ m, m = c - (o + 1) := ⟨_, rfl⟩
  have hcell : Hid (∀ j, j < m → ((w.alloc (.cells #[.slice (some ⟨g, 0, none⟩) T.length cp, .int .i64 W, .int .i64 sos] 130)).alloc (.cells #[.int .i64 o, .int .i64 c] 106)).cell? ⟨g, o + 1 + j, none⟩ = some (.int .i64 (L.getD j 0))) := Lib.hid (fun j hj => by
    have hb : Below w.heap.size w ((w.alloc (.cells #[.slice (some ⟨g, 0, none⟩) T.length cp, .int .i64 W, .int .i64 sos] 130)).alloc (.cells #[.int .i64 o, .int .i64 c] 106)) := ((Below.refl _ w).alloc (Nat.le_refl _) _).alloc (by simp) _
    obtain ⟨g', e, _, _, hc', _⟩ := hc (o + 1 + j) (by omega)
    cases e
    rw [hb.cell (p := ⟨g, o + 1 + j, none⟩) hg, hc', hL, List.getD_eq_getElem?_getD, List.getD_eq_getElem?_getD, partL_get T o c j (by omega)])
  have b1 : (o : Int) + 1 ≤ (c : Int) := by omega
  have b2 : (c : Int) ≤ (cp : Int) := by omega
  rw [← hL]
  have hmI : (c : Int) - ((o : Int) + 1) = (m : Int) := by omega
  have hmN : c - (o + 1) = m := hm.symm
  have HmI := Lib.hid hmI
  have HmN := Lib.hid hmN
  clear hmI hmN
  have HL := Lib.hid hL
  have Hm := Lib.hid (hLl.trans hm.symm)
  clear hL hLl hm hc h
  go_enter Tryz.func110, Tryz.ntmps110
  go_wp2
  obtain ⟨W0, hW0⟩ : ∃ W0, W0 = ((w.alloc (.cells #[.slice (some ⟨g, 0, none⟩) T.length cp, .int .i64 W, .int .i64 sos] 130)).alloc (.cells #[.int .i64 o, .int .i64 c] 106)) := ⟨_, rfl⟩
  have cW : W0.cell? ⟨w.heap.size, 1, none⟩ = some (.int .i64 W) := by
    have h1 : ((w.alloc (.cells #[.slice (some ⟨g, 0, none⟩) T.length cp, .int .i64 W, .int .i64 sos] 130)).alloc (.cells #[.int .i64 o, .int .i64 c] 106)).heap[w.heap.size]? = some (.cells #[.slice (some ⟨g, 0, none⟩) T.length cp, .int .i64 W, .int .i64 sos] 130 (0, 0)) :=
      (heap_alloc_old _ _ _ (by simp)).trans (heap_alloc_new w _)
    rw [hW0, cell_of_row _ _ _ _ _ _ h1]; rfl
  rw [← hW0] at hcell ⊢
  have HW0 := Lib.hid hW0
  clear hW0
  go_loopg [6, 7, 21] (m + 1) (fun gk v6 v7 v21 wr => ∃ (i : Nat) (y : Int) (f : Bool), i ≤ m ∧ gk = m + 1 - i ∧ v6 = .int .i64 y ∧ v7 = .bool f ∧ v21 = .int .i64 i ∧ wr = W0 ∧ Hid (insGo W y f (L.drop i) = insGo W 0 false L))
  case atStart => exact ⟨0, 0, false, Nat.zero_le _, rfl, rfl, rfl, rfl, rfl, Lib.hid rfl⟩
  case round =>
    obtain ⟨i, y, f, hi, hgk, rfl, rfl, rfl, rfl, hI⟩ := hrel
    have Hg := Lib.hid hgk
    clear hgk
    by_cases hlt : i < m
    · have hcx := hcell.out i hlt
      obtain ⟨x, hx⟩ : ∃ x, x = L.getD i 0 := ⟨_, rfl⟩
      rw [← hx] at hcx
      have hstep : insGo W y f (L.drop i) = if (letterP x).2 = true then (if (letterP x).1 = W then ((letterP x).1, true) else insGo W (letterP x).1 true (L.drop (i + 1))) else insGo W y f (L.drop (i + 1)) := by
        rw [dropAt L i (by rw [Hm.out]; exact hlt), ← hx]; rfl
      have hlt' : (i : Int) < (m : Int) := by omega
      have hlm : (i : Int) < (c : Int) - ((o : Int) + 1) := by rw [HmI.out]; exact hlt'
      have hlet := letter_any x wr
      have Hx := Lib.hid hx
      clear hx
      cases hb : (letterP x).2 with
      | false =>
        rw [hb] at hlet hstep
        have HI2 : Hid (insGo W y f (L.drop (i + 1)) = insGo W 0 false L) := Lib.hid (by rw [← hI.out, hstep]; rfl)
        have HL := Lib.hid hlet
        clear hlet hstep hb
        go_wp2_with (go_at_call 144; with_reducible refine HL.out.mono ?_; rintro e w' ⟨rfl, hw⟩; obtain rfl := hw.symm; clear hw)
        go_roundg (m + 1 - (i + 1))
        case measure => have := Hg.out; omega
        case rel => exact ⟨i + 1, y, f, by omega, rfl, rfl, rfl, by go_num, rfl, HI2⟩
      | true =>
        rw [hb] at hlet hstep
        obtain ⟨z, hz⟩ : ∃ z, z = (letterP x).1 := ⟨_, rfl⟩
        rw [← hz] at hlet hstep
        have HL := Lib.hid hlet
        clear hlet hz hb
        by_cases hzW : z = W
        · have hzb : (z == W) = true := by simpa using hzW
          have Hres : Hid (insGo W 0 false L = (z, true)) := Lib.hid (by rw [← hI.out, hstep, if_pos rfl, if_pos hzW])
          clear hzW hstep
          go_wp2_with (go_at_call 144; with_reducible refine HL.out.mono ?_; rintro e w' ⟨rfl, hw⟩; obtain rfl := hw.symm; clear hw)
          go_ret2
          exact ⟨by rw [Hres.out]; rfl, HW0.out⟩
        · have hzb : (z == W) = false := by simpa using hzW
          have HI2 : Hid (insGo W z true (L.drop (i + 1)) = insGo W 0 false L) := Lib.hid (by rw [← hI.out, hstep, if_pos rfl, if_neg hzW])
          clear hzW hstep
          go_wp2_with (go_at_call 144; with_reducible refine HL.out.mono ?_; rintro e w' ⟨rfl, hw⟩; obtain rfl := hw.symm; clear hw)
          go_roundg (m + 1 - (i + 1))
          case measure => have := Hg.out; omega
          case rel => exact ⟨i + 1, z, true, by omega, rfl, rfl, rfl, by go_num, rfl, HI2⟩
    · have hlt' : ¬ (i : Int) < (m : Int) := by omega
      have hlm : ¬ (i : Int) < (c : Int) - ((o : Int) + 1) := by rw [HmI.out]; exact hlt'
      have Hres : Hid (insGo W 0 false L = (y, f)) := Lib.hid (by rw [← hI.out, List.drop_of_length_le (by rw [Hm.out]; omega)]; rfl)
      go_wp2
      go_ret2
      exact ⟨by rw [Hres.out]; rfl, HW0.out⟩
theorem own_setW {w : World} {base : Nat} {e : TypeId} {size n g cap : Nat} {xs : List Value} (h : w.ownsRow base e size (.slice (some ⟨g, 0, none⟩) n cap) n xs) (j : Nat) (u : Value) :
    (w.setCell ⟨g, j, none⟩ u).ownsRow base e size (.slice (some ⟨g, 0, none⟩) n cap) n (xs.set j u) := by
  obtain ⟨h1, h2⟩ := h
  refine ⟨by rw [List.length_set]; exact h1, ?_⟩
  rcases h2 with ⟨hv, _⟩ | ⟨g', cap', cur, hv, hb, hg, hn, hc, hs, ht⟩
  · cases hv
  · injection hv with e1 e2 e3
    injection e1 with e1
    injection e1 with e1
    subst e1 e3
    refine .inr ⟨g, cap, cur.setIfInBounds j u, rfl, hb, blk_set hg j u, hn, hc, by simpa using hs, ?_⟩
    rw [Array.toList_setIfInBounds, List.take_set, ht]
theorem grown_setW {w wr : World} {g : Nat} (h : w.grownBy wr (some g)) (j : Nat) (u : Value) : w.grownBy (wr.setCell ⟨g, j, none⟩ u) (some g) :=
  ⟨h.os, h.tape, h.output, by simpa [World.setCell] using h.size, fun k hk hne => by rw [Below.heap_setCell _ _ _ _ (by intro e; exact hne (by rw [e]))]; exact h.block k hk hne⟩
theorem nums_set (l : List Int) (i : Nat) (x : Int) : (nums .i64 l).set i (.int .i64 x) = nums .i64 (l.set i x) := by simp [nums, List.map_set]
structure StQ (w : World) (B g n cp : Nat) (bx : Array Value) (R : List Int) (wr : World) : Prop where
  len : R.length = n
  own : wr.ownsRow B 3 1 (.slice (some ⟨g, 0, none⟩) n cp) n (nums .i64 R)
  box : wr.heap[w.heap.size]? = some (.cells bx 130 (0, 0))
  gr : w.grownBy wr (some g)
theorem StQ.set {w wr : World} {B g n cp : Nat} {bx : Array Value} {R : List Int} (h : StQ w B g n cp bx R wr) (hg : g < w.heap.size) (i : Nat) (x : Int) :
    StQ w B g n cp bx (R.set i x) (wr.setCell ⟨g, i, none⟩ (.int .i64 x)) :=
  ⟨by rw [List.length_set]; exact h.len, by rw [← nums_set]; exact own_setW h.own i _, by rw [Below.heap_setCell _ _ _ _ (show w.heap.size ≠ g by omega)]; exact h.box, grown_setW h.gr i _⟩
theorem StQ.cell {w wr : World} {B g n cp : Nat} {bx : Array Value} {R : List Int} (h : StQ w B g n cp bx R wr) {i : Nat} (hi : i < n) : wr.cell? ⟨g, i, none⟩ = some (.int .i64 (R.getD i 0)) ∧ wr.frozen? ⟨g, i, none⟩ = false := by
  refine ⟨?_, ?_⟩
  · have := h.own.cells (g := g) rfl i (.int .i64 (R.getD i 0)) (by simp [nums, h.len, hi])
    rwa [add_plain] at this
  · rcases h.own.2 with ⟨hv, _⟩ | ⟨g', cap', cur, hv, _, hg', _⟩
    · cases hv
    · injection hv with e1 _ _
      injection e1 with e1
      injection e1 with e1
      subst e1
      exact frozen_of_row _ _ _ _ _ hg'
def setGo (ow : List Int) (way : Int) : Nat → Nat → List Int → List Int
  | 0, _, T => T
  | d + 1, i, T => if i < ow.length ∧ ow.getD i 0 = 8 then setGo ow way d (i + 1) (T.set i way) else T
def setP (ow : List Int) (at_ : Nat) (way : Int) (T : List Int) : List Int := setGo ow way (ow.length + 1 - (at_ + 1)) (at_ + 1) (T.set at_ way)
theorem setGo_len (ow : List Int) (way : Int) : ∀ d i T, (setGo ow way d i T).length = T.length
  | 0, _, _ => rfl
  | d + 1, i, T => by
    unfold setGo
    split
    · rw [setGo_len ow way d]; simp
    · rfl
theorem setP_len (ow : List Int) (a : Nat) (way : Int) (T : List Int) : (setP ow a way T).length = T.length := by unfold setP; rw [setGo_len]; simp
set_option maxRecDepth 100000 in
set_option maxHeartbeats 2000000 in
theorem settle_any (w : World) (B g cp : Nat) (T : List Int) (W sos : Int) (at_ : Nat) (way : Int) (A2 : Option Addr) (c2 : Nat) (ow : List Int) (h : w.ownsRow B 3 1 (.slice (some ⟨g, 0, none⟩) T.length cp) T.length (nums .i64 T)) (hl : T.length ≤ 1048576)
    (hat : at_ < T.length) (hol : ow.length = T.length) (hor : ∀ j, j < ow.length → ∃ ad, A2 = some ad ∧ ad.block ≠ g ∧ w.cell? (ad.add j) = some (.int .i64 (ow.getD j 0))) :
    Calls Tryz.prog 112 #[.agg #[.slice (some ⟨g, 0, none⟩) T.length cp, .int .i64 W, .int .i64 sos], .int .i64 at_, .int .i64 way, .slice A2 ow.length c2] w fun e w' => e = .returned (.tuple #[]) ∧ w'.ownsRow B 3 1 (.slice (some ⟨g, 0, none⟩) T.length cp) T.length (nums .i64 (setP ow at_ way T)) ∧ w.grownBy w' (some g) := by
  have hgw : g < w.heap.size := by
    rcases h.2 with ⟨hv, _⟩ | ⟨g', cap', cur, hv, _, hg', _⟩
    · cases hv
    · injection hv with e1 _ _
      injection e1 with e1
      injection e1 with e1
      subst e1
      exact lt_of_block hg'
  have hst : StQ w B g T.length cp #[.slice (some ⟨g, 0, none⟩) T.length cp, .int .i64 W, .int .i64 sos] T (w.alloc (.cells #[.slice (some ⟨g, 0, none⟩) T.length cp, .int .i64 W, .int .i64 sos] 130)) :=
    ⟨rfl, h.alloc _, heap_alloc_new _ _, World.grownBy_alloc _ _ _⟩
  obtain ⟨_, hf0⟩ := hst.cell hat
  obtain ⟨hc0, _⟩ := hst.cell hat
  have hst1 : StQ w B g T.length cp #[.slice (some ⟨g, 0, none⟩) T.length cp, .int .i64 W, .int .i64 sos] (T.set at_ way) ((w.setCell ⟨g, at_, none⟩ (.int .i64 way)).alloc (.cells #[.slice (some ⟨g, 0, none⟩) T.length cp, .int .i64 W, .int .i64 sos] 130)) := by
    have e : (w.setCell ⟨g, at_, none⟩ (.int .i64 way)).heap.size = w.heap.size := by simp [World.setCell]
    refine ⟨by simp, ?_, ?_, ?_⟩
    · have := own_setW h at_ (.int .i64 way)
      rw [nums_set] at this
      exact this.alloc _
    · have := heap_alloc_new (w.setCell ⟨g, at_, none⟩ (.int .i64 way)) (.cells #[.slice (some ⟨g, 0, none⟩) T.length cp, .int .i64 W, .int .i64 sos] 130)
      rwa [e] at this
    · exact (grown_setW (World.grownBy.refl w (some g)) at_ _).trans (World.grownBy_alloc _ _ _)
  have HO := Lib.hid hor
  have Hol := Lib.hid hol
  have Hat : Hid (at_ < T.length) := Lib.hid hat
  have hat' : (at_ : Int) < (T.length : Int) := by omega
  have hatb : (at_ : Int) < 1048576 := by omega
  have HS1 := Lib.hid hst1
  have Hl := Lib.hid hl
  clear hst hst1 hor hol h hl
  go_enter Tryz.func112, Tryz.ntmps112
  go_wp2
  go_loopg [8] (ow.length + 1 - (at_ + 1)) (fun gk v8 wr => ∃ (i : Nat) (R : List Int), at_ + 1 ≤ i ∧ i ≤ ow.length ∧ gk = ow.length + 1 - i ∧ v8 = .int .i64 i ∧ StQ w B g T.length cp #[.slice (some ⟨g, 0, none⟩) T.length cp, .int .i64 W, .int .i64 sos] R wr ∧ Hid (setGo ow way (ow.length + 1 - i) i R = setP ow at_ way T))
  case atStart => exact ⟨at_ + 1, T.set at_ way, Nat.le_refl _, by rw [Hol.out]; exact hat, rfl, by go_num, HS1.out, Lib.hid rfl⟩
  case round =>
    clear HS1
    obtain ⟨i, R, hi0, hi1, hgk, rfl, hS, hI⟩ := hrel
    have Hg := Lib.hid hgk
    clear hgk
    have hfu : ow.length + 1 - i = (ow.length - i) + 1 := by omega
    by_cases hlt : i < ow.length
    · obtain ⟨ad, e, hne, hc⟩ := HO.out i hlt
      cases e
      obtain ⟨x, hx⟩ : ∃ x, x = ow.getD i 0 := ⟨_, rfl⟩
      rw [← hx] at hc
      have hcx : wr.cell? (ad.add i) = some (.int .i64 x) := by
        have hb := World.block_lt_of_cell? w _ hc
        rw [← hc]
        exact World.cell?_of_block (hS.gr.block _ hb (by intro e2; injection e2 with e2; unfold Addr.add at e2; split at e2 <;> exact hne e2))
      have hstep : setGo ow way (ow.length + 1 - i) i R = if x = 8 then setGo ow way (ow.length - i) (i + 1) (R.set i way) else R := by
        rw [hfu]
        simp only [setGo]
        rw [← hx]
        by_cases h8 : x = 8
        · rw [if_pos ⟨hlt, h8⟩, if_pos h8]
        · rw [if_neg (fun a => h8 a.2), if_neg h8]
      have hlt' : (i : Int) < (ow.length : Int) := by omega
      have hltT : i < T.length := by rw [← Hol.out]; exact hlt
      have hltT' : (i : Int) < (T.length : Int) := by omega
      obtain ⟨hcw, hfw⟩ := hS.cell hltT
      have hbx : wr.cell? ⟨w.heap.size, 0, none⟩ = some (.slice (some ⟨g, 0, none⟩) T.length cp) := by rw [cell_of_row _ _ _ _ _ _ hS.box]; rfl
      have hib : (i : Int) < 1048576 := by have := Hl.out; omega
      have HS2 : Hid (StQ w B g T.length cp #[.slice (some ⟨g, 0, none⟩) T.length cp, .int .i64 W, .int .i64 sos] (R.set i way) (wr.setCell ⟨g, i, none⟩ (.int .i64 way))) := Lib.hid (hS.set hgw i way)
      have HS := Lib.hid hS
      clear hc hx hS
      by_cases h8 : x = 8
      · subst h8
        have HI2 : Hid (setGo ow way (ow.length + 1 - (i + 1)) (i + 1) (R.set i way) = setP ow at_ way T) := Lib.hid (by rw [← hI.out, hstep, if_pos rfl, show ow.length + 1 - (i + 1) = ow.length - i by omega])
        clear hstep hfu
        go_wp2
        go_roundg (ow.length + 1 - (i + 1))
        case measure => have := Hg.out; omega
        case rel => exact ⟨i + 1, R.set i way, by omega, by omega, rfl, by go_num, HS2.out, HI2⟩
      · have b8 : (x == 8) = false := by simpa using h8
        have HR : Hid (R = setP ow at_ way T) := Lib.hid (by rw [← hI.out, hstep, if_neg h8])
        clear hstep hfu h8
        go_wp2
        go_end0
        exact ⟨rfl, by rw [← HR.out]; exact HS.out.own, HS.out.gr⟩
    · have hlt' : ¬ (i : Int) < (ow.length : Int) := by omega
      have HR : Hid (R = setP ow at_ way T) := Lib.hid (by rw [← hI.out, hfu]; simp only [setGo]; rw [if_neg (fun a => hlt a.1)])
      have HS := Lib.hid hS
      clear hfu hS
      go_wp2
      go_end0
      exact ⟨rfl, by rw [← HR.out]; exact HS.out.own, HS.out.gr⟩
end Go.Proofs.YtdpifkhkemeclaaGreat
