/- slices.Backward over ints: its iterator's contract, for every loop body that keeps what lay below. -/
import Derived.RangeFuncNested
import Derived.RangeFuncBound
import Derived.RangeFuncCalls
import Derived.RangeFuncLeaves
import Derived.Shelf.Abstract
import Derived.Shelf.RegionOpen
import Derived.WalkKit
import Derived.OwnWalkIn
import Derived.TacticsInMore
import Derived.LoopNIn
import Derived.LoopIn
import Derived.Lib.Hide
import Derived.Test.YtdpifkhkemeclaaDoorProg
namespace Go.Proofs.YtdpifkhkemeclaaDoor
open Go.RowKit Go.Shelf
set_option linter.unusedVariables false
set_option linter.unusedSimpArgs false
attribute [local go_sem] Oper.semAt_some
/-- What comes, from the last one on: its place, its value. -/
def bwF (zs : List Int) (j : Nat) : Nat × Int := (zs.length - 1 - j, zs[zs.length - 1 - j]?.getD 0)
def bwTo (zs : List Int) (k : Nat) : List (Nat × Int) := (List.range k).map (bwF zs)
theorem bwTo_succ (zs : List Int) (k : Nat) : bwTo zs (k + 1) = bwTo zs k ++ [bwF zs k] := by simp [bwTo, List.range_succ]
theorem bwTo_length (zs : List Int) (k : Nat) : (bwTo zs k).length = k := by simp [bwTo]

set_option maxRecDepth 100000 in
set_option maxHeartbeats 2000000 in
theorem bw1_in (F : Fence) (n : Nat) (h8 : F.fn 38) (hro : F.round = none) (hn : 1 ≤ n) (l Bs n₀ b off cap : Nat) (zs : List Int) (hreach : zs.length * 8 ≤ 140737488351232) (hb : b < n₀) (P : Nat × Int → Prop) (hP : ∀ k, k < zs.length → P (bwF zs k)) (J Jx : List (Nat × Int) → World → Prop)
    (hY : ∀ pre x W, P x → J pre W → pre.length < zs.length → YieldAt F (n - 1) Tryd.prog l #[.int .i64 (x.1 : Int), .int .i64 x.2] W fun e W' =>
      (e = .returned (.bool true) ∧ J (pre ++ [x]) W' ∧ Below n₀ W W') ∨ (e = .returned (.bool false) ∧ Jx (pre ++ [x]) W'))
    (W : World) (hBs : W.cell? ⟨Bs, 0, none⟩ = some (.slice (some ⟨b, off, none⟩) zs.length cap)) (hBlt : Bs < n₀) (hc : ∀ j, j < zs.length → W.cell? ⟨b, off + j, none⟩ = some (.int .i64 (zs[j]?.getD 0))) (h0 : J [] W) :
    CallsIn F n Tryd.prog 38 #[.func (.yield l) #[] #[], .pointer (some ⟨Bs, 0, none⟩)] W fun e W' => (∃ v, e = .returned v) ∧
      (J (bwTo zs zs.length) W' ∨ (∃ pre, (∃ k, k ≤ zs.length ∧ pre = bwTo zs k) ∧ Jx pre W')) := by
  refine callsIn_of_wp Tryd.func38 rfl h8 ?_ hro
  simp only [Tryd.ntmps38, List.size_toArray, List.length_cons, List.length_nil, Nat.reduceAdd, Nat.reduceSub, Array.replicate_succ, Array.replicate_zero, List.push_toArray, List.append_toArray, List.nil_append, List.cons_append]
  gi_wp2
  gi_loopw [3] (fun i wr => ∃ k : Nat, k ≤ zs.length ∧ ((k < zs.length ∧ i = .int .i64 ((zs.length - 1 - k : Nat) : Int)) ∨ (k = zs.length ∧ i = .int .i64 (-1))) ∧ J (bwTo zs k) wr ∧ Below n₀ W wr)
    (fun i _ => (intOf i + 1).toNat)
  case atStart =>
    refine ⟨0, Nat.zero_le _, ?_, h0, Below.refl _ _⟩
    rcases Nat.eq_zero_or_pos zs.length with h | h
    · exact .inr ⟨h.symm, by rw [h]; rfl⟩
    · exact .inl ⟨h, by congr 1; omega⟩
  case round =>
    obtain ⟨k, hk, hi, hJs, hnx⟩ := hrel
    rcases hi with ⟨hlt, rfl⟩ | ⟨hke, rfl⟩
    · obtain ⟨m, hm⟩ : ∃ m, m = zs.length - 1 - k := ⟨_, rfl⟩
      have hx : bwF zs k = (m, zs[m]?.getD 0) := by unfold bwF; rw [hm]
      have hcx' : wr.cell? ⟨b, off + m, none⟩ = some (.int .i64 (zs[m]?.getD 0)) := (hnx.cell (p := ⟨b, off + m, none⟩) hb).trans (hc m (by omega))
      have hbs' : wr.cell? ⟨Bs, 0, none⟩ = some (.slice (some ⟨b, off, none⟩) zs.length cap) := (hnx.cell (p := ⟨Bs, 0, none⟩) hBlt).trans hBs
      obtain ⟨fn, tmps, assign, body, hy, hR⟩ := hY _ (m, zs[m]?.getD 0) wr (by rw [← hx]; exact hP k hlt) hJs (by rw [bwTo_length]; exact hlt)
      dsimp only at hy
      rw [← hm]
      have hml : (m : Int) < (zs.length : Int) := by omega
      have Hm := Lib.hid hm
      have Hx := Lib.hid hx
      clear hm hx
      gi_wp2
      refine hR.mono ?_
      rintro e W3 (⟨rfl, hJ3, hk3⟩ | ⟨rfl, hJx3⟩)
      · gi_wp2
        go_roundw
        case rel =>
          refine ⟨k + 1, by omega, ?_, by rw [bwTo_succ, Hx.out]; exact hJ3, hnx.trans hk3⟩
          rcases Nat.eq_zero_or_pos m with h | h
          · exact .inr ⟨by have := Hm.out; omega, by subst h; rfl⟩
          · exact .inl ⟨by have := Hm.out; omega, by have := Hm.out; congr 1; omega⟩
        case measure => simp [intOf] <;> omega
      · gi_wp2
        refine bodyPost_ret (results_none rfl _ _ _) rfl ?_
        exact ⟨⟨_, rfl⟩, .inr ⟨_, ⟨k + 1, by omega, by rw [bwTo_succ, Hx.out]⟩, hJx3⟩⟩
    · subst hke
      gi_wp2
      go_end0
      exact ⟨⟨_, rfl⟩, .inl hJs⟩

set_option maxRecDepth 100000 in
set_option maxHeartbeats 1000000 in
/-- .. where nothing is: no round. -/
theorem bw1_none_in (F : Fence) (n : Nat) (h8 : F.fn 38) (hro : F.round = none) (l Bs : Nat) (a : Option Addr) (cap : Nat) (J : List (Nat × Int) → World → Prop) (W : World) (hBs : W.cell? ⟨Bs, 0, none⟩ = some (.slice a 0 cap)) (h0 : J [] W) :
    CallsIn F n Tryd.prog 38 #[.func (.yield l) #[] #[], .pointer (some ⟨Bs, 0, none⟩)] W fun e W' => (∃ v, e = .returned v) ∧ J [] W' := by
  refine callsIn_of_wp Tryd.func38 rfl h8 ?_ hro
  simp only [Tryd.ntmps38, List.size_toArray, List.length_cons, List.length_nil, Nat.reduceAdd, Nat.reduceSub, Array.replicate_succ, Array.replicate_zero, List.push_toArray, List.append_toArray, List.nil_append, List.cons_append]
  gi_wp2
  gi_loopw [3] (fun i wr => i = .int .i64 (-1) ∧ J [] wr) (fun _ _ => 0)
  case atStart => exact ⟨rfl, h0⟩
  case round =>
    obtain ⟨rfl, hJs⟩ := hrel
    gi_wp2
    go_end0
    exact ⟨⟨_, rfl⟩, hJs⟩

set_option maxHeartbeats 1000000 in
/-- slices.Backward(s): the slice value is boxed; the function value captures the box. -/
theorem bw_in (F : Fence) (n : Nat) (h6 : F.fn 22) (hro : F.round = none) (a : Option Addr) (len cap : Nat) (w : World) :
    CallsIn F n Tryd.prog 22 #[.slice a len cap] w fun e w' => e = .returned (.func (.func 38) #[] #[.pointer (some ⟨w.heap.size, 0, none⟩)]) ∧ w' = w.alloc (.cells #[.slice a len cap] 22) := by
  refine callsIn_of_wp Tryd.func22 rfl h6 ?_ hro
  simp only [Tryd.ntmps22, List.size_toArray, List.length_cons, List.length_nil, Nat.reduceAdd, Nat.reduceSub, Array.replicate_succ, Array.replicate_zero, List.push_toArray, List.append_toArray, List.nil_append, List.cons_append]
  gi_wp2
  go_ret
  exact ⟨rfl, rfl⟩

/-- The slice value holds the ints zs, in a block below n₀; or there are none. -/
def IntsB (n₀ : Nat) (W : World) (sv : Value) (zs : List Int) : Prop :=
  (∃ a cap, sv = .slice a 0 cap ∧ zs = []) ∨ ∃ b off cap, sv = .slice (some ⟨b, off, none⟩) zs.length cap ∧ b < n₀ ∧ ∀ j, j < zs.length → W.cell? ⟨b, off + j, none⟩ = some (.int .i64 (zs[j]?.getD 0))
theorem IntsB.below {n₀ : Nat} {A B : World} (h : Below n₀ A B) {sv : Value} {zs : List Int} : IntsB n₀ A sv zs → IntsB n₀ B sv zs
  | .inl e => .inl e
  | .inr ⟨b, off, cap, e, hb, hc⟩ => .inr ⟨b, off, cap, e, hb, fun j hj => (h.cell (p := ⟨b, off + j, none⟩) hb).trans (hc j hj)⟩
theorem bw_stops (F : Fence) (n : Nat) (h8 : F.fn 38) (hro : F.round = none) (hn : 1 ≤ n) (Bs n₀ : Nat) (sv : Value) (zs : List Int) (hreach : zs.length * 8 ≤ 140737488351232) (w : World) (hBs : Bs < n₀) (hn₀ : n₀ ≤ w.heap.size)
    (hc : w.cell? ⟨Bs, 0, none⟩ = some sv) (hI : IntsB n₀ w sv zs) :
    SeqStopsK F n Tryd.prog 38 #[.pointer (some ⟨Bs, 0, none⟩)] (fun x : Nat × Int => #[Value.int .i64 (x.1 : Int), Value.int .i64 x.2]) (Below n₀) (fun ys => ys = bwTo zs zs.length)
      (fun pre => ∃ k, k ≤ zs.length ∧ pre = bwTo zs k) zs.length w := fun l J Jx W hW _ _ hY h0 => by
  have hc' := (hW.cell (p := ⟨Bs, 0, none⟩) (show Bs < w.heap.size by omega)).trans hc
  rcases hI.below (hW.mono hn₀) with ⟨a, cap, rfl, rfl⟩ | ⟨b, off, cap, rfl, hb, hcs⟩
  · exact (bw1_none_in F n h8 hro l Bs a cap J W hc' h0).mono fun e W' ⟨he, hj⟩ => ⟨he, .inl ⟨_, rfl, hj⟩⟩
  · exact (bw1_in F n h8 hro hn l Bs n₀ b off cap zs hreach hb (fun _ => True) (fun _ _ => trivial) J Jx (fun pre x W _ => hY pre x W) W hc' hBs hcs h0).mono fun e W' ⟨he, hj⟩ => ⟨he, hj.elim (fun h => .inl ⟨_, rfl, h⟩) (fun ⟨pre, h1, h2⟩ => .inr ⟨pre, h1, h2⟩)⟩

/-- The same, the body being told that what comes is as P says. -/
theorem bw_stopsP (F : Fence) (n : Nat) (h8 : F.fn 38) (hro : F.round = none) (hn : 1 ≤ n) (Bs n₀ : Nat) (sv : Value) (zs : List Int) (P : Nat × Int → Prop) (hP : ∀ k, k < zs.length → P (bwF zs k)) (hreach : zs.length * 8 ≤ 140737488351232) (w : World) (hBs : Bs < n₀) (hn₀ : n₀ ≤ w.heap.size)
    (hc : w.cell? ⟨Bs, 0, none⟩ = some sv) (hI : IntsB n₀ w sv zs) :
    SeqStopsK F n Tryd.prog 38 #[.pointer (some ⟨Bs, 0, none⟩)] (fun x : { x : Nat × Int // P x } => #[Value.int .i64 (x.1.1 : Int), Value.int .i64 x.1.2]) (Below n₀) (fun ys => ys.map (·.1) = bwTo zs zs.length)
      (fun pre => ∃ k, k ≤ zs.length ∧ pre.map (·.1) = bwTo zs k) zs.length w := fun l J Jx W hW _ _ hY h0 => by
  have hc' := (hW.cell (p := ⟨Bs, 0, none⟩) (show Bs < w.heap.size by omega)).trans hc
  have key : CallsIn F n Tryd.prog 38 #[.func (.yield l) #[] #[], .pointer (some ⟨Bs, 0, none⟩)] W fun e W' => (∃ v, e = .returned v) ∧
      ((fun (y : List (Nat × Int)) W => ∃ y', y'.map (·.1) = y ∧ J y' W) (bwTo zs zs.length) W' ∨ (∃ pre, (∃ k, k ≤ zs.length ∧ pre = bwTo zs k) ∧ (fun (y : List (Nat × Int)) W => ∃ y', y'.map (·.1) = y ∧ Jx y' W) pre W')) := by
    rcases hI.below (hW.mono hn₀) with ⟨a, cap, rfl, rfl⟩ | ⟨b, off, cap, rfl, hb, hcs⟩
    · exact (bw1_none_in F n h8 hro l Bs a cap (fun (y : List (Nat × Int)) W => ∃ y', y'.map (·.1) = y ∧ J y' W) W hc' ⟨[], rfl, h0⟩).mono fun e W' ⟨he, hj⟩ => ⟨he, .inl hj⟩
    · refine bw1_in F n h8 hro hn l Bs n₀ b off cap zs hreach hb P hP (fun (y : List (Nat × Int)) W => ∃ y', y'.map (·.1) = y ∧ J y' W) (fun (y : List (Nat × Int)) W => ∃ y', y'.map (·.1) = y ∧ Jx y' W) ?_ W hc' hBs hcs ⟨[], rfl, h0⟩
      rintro pre x W1 hPx ⟨y', rfl, hj⟩ hlen
      obtain ⟨fn, tmps, assign, body, hy, hR⟩ := hY y' ⟨x, hPx⟩ W1 hj (by simpa using hlen)
      refine ⟨fn, tmps, assign, body, hy, hR.mono ?_⟩
      rintro e W' (⟨rfl, h1, h2⟩ | ⟨rfl, h1⟩)
      · exact .inl ⟨rfl, ⟨_, by simp, h1⟩, h2⟩
      · exact .inr ⟨rfl, ⟨_, by simp, h1⟩⟩
  refine key.mono ?_
  rintro e W' ⟨he, ⟨y', h1, h2⟩ | ⟨pre, ⟨k, hk, rfl⟩, ⟨y', h1, h2⟩⟩⟩
  · exact ⟨he, .inl ⟨y', h1, h2⟩⟩
  · exact ⟨he, .inr ⟨y', ⟨k, hk, h1⟩, h2⟩⟩
end Go.Proofs.YtdpifkhkemeclaaDoor
