/- seqs.kept over ints: its iterator's contract, for every loop body that keeps what lay below. A region that draws, in a round: the plain walk serves. seqs.runs: a region that draws, in a round; small words. seqs.runs of any levels: its runs, the state of its walk. seqs.runs: the region that lays a place behind a run's, in a round, at any run. seqs.runs, of any levels. -/
import Derived.Test.YtdpifkhkemeclaaGreatZc
import Derived.Deep.RegionLaw
import Derived.Maps.AppendAt
import Derived.Test.YtdpifkhkemeclaaGreatVLast
import Derived.Test.YtdpifkhkemeclaaGreatVApart
set_option linter.unusedVariables false
set_option linter.unusedSimpArgs false
namespace Go.Proofs.YtdpifkhkemeclaaGreat
open Go.RowKit Go.Shelf
attribute [local go_sem] Oper.semAt_some
def kpTo (zs : List Int) : Nat → List (Nat × Int)
  | 0 => []
  | k + 1 => kpTo zs k ++ (if 0 ≤ zs[k]?.getD 0 then [(k, zs[k]?.getD 0)] else [])
theorem kpTo_length (zs : List Int) (k : Nat) : (kpTo zs k).length ≤ k := by
  induction k with
  | zero => simp [kpTo]
  | succ k ih => simp only [kpTo]; split <;> simp <;> omega
def KpB (Bs m : Nat) (A B : World) : Prop := A.heap.size ≤ B.heap.size ∧ ∀ k, (k < m ∨ k = Bs) → k < A.heap.size → B.heap[k]? = A.heap[k]?
theorem KpB.refl (Bs m : Nat) (A : World) : KpB Bs m A A := ⟨Nat.le_refl _, fun _ _ _ => rfl⟩
theorem KpB.trans {Bs m : Nat} {A B C : World} (h : KpB Bs m A B) (k : KpB Bs m B C) : KpB Bs m A C := ⟨Nat.le_trans h.1 k.1, fun j hj hl => (k.2 j hj (Nat.lt_of_lt_of_le hl h.1)).trans (h.2 j hj hl)⟩
theorem KpB.cell {Bs m : Nat} {A B : World} (h : KpB Bs m A B) {p : Addr} {v : Value} (hp : p.block < m ∨ p.block = Bs) (hc : A.cell? p = some v) : B.cell? p = some v := by
  have e := h.2 p.block hp (World.block_lt_of_cell? A _ hc)
  unfold World.cell? at hc ⊢
  rw [e]
  exact hc
theorem KpB.put {Bs m : Nat} {w : World} (hB : Bs < w.heap.size) (hm : m ≤ w.heap.size) (W : World) (l : Nat) (o o' : Obj) (hl : w.heap.size ≤ l) (h : W.heap[l]? = some o) (_ : o.isCells = false) (_ : o.isWalk = false) : KpB Bs m W (W.putObj l o') :=
  ⟨(grownBy_putObj' W l o').size, fun k hk hlt => (grownBy_putObj' W l o').block k hlt (fun e => by cases e; omega)⟩
set_option maxRecDepth 100000 in
set_option maxHeartbeats 2000000 in
theorem kp1_in (F : Fence) (n : Nat) (h8 : F.fn 134) (hro : F.round = none) (hn : 1 ≤ n) (l Bs n₀ b off cap : Nat) (zs : List Int) (hreach : zs.length * 8 ≤ 140737488351232) (hb : b < n₀) (P : Nat × Int → Prop) (hP : ∀ k, k < zs.length → 0 ≤ zs[k]?.getD 0 → P (k, zs[k]?.getD 0)) (J Jx : List (Nat × Int) → World → Prop)
    (hY : ∀ pre x W, P x → J pre W → pre.length < zs.length → YieldAt F (n - 1) Tryz.prog l #[.int .i64 (x.1 : Int), .int .i64 x.2] W fun e W' =>
      (e = .returned (.bool true) ∧ J (pre ++ [x]) W' ∧ KpB Bs n₀ W W') ∨ (e = .returned (.bool false) ∧ Jx (pre ++ [x]) W'))
    (W : World) (hBs : W.cell? ⟨Bs, 0, none⟩ = some (.slice (some ⟨b, off, none⟩) zs.length cap)) (hc : ∀ j, j < zs.length → W.cell? ⟨b, off + j, none⟩ = some (.int .i64 (zs[j]?.getD 0))) (h0 : J [] W) :
    CallsIn F n Tryz.prog 134 #[.func (.yield l) #[] #[], .pointer (some ⟨Bs, 0, none⟩)] W fun e W' => (∃ v, e = .returned v) ∧
      (J (kpTo zs zs.length) W' ∨ (∃ pre, (∃ k, k ≤ zs.length ∧ pre = kpTo zs k) ∧ Jx pre W')) := by
  refine callsIn_of_wp Tryz.func134 rfl h8 ?_ hro
  simp only [Tryz.ntmps134, List.size_toArray, List.length_cons, List.length_nil, Nat.reduceAdd, Nat.reduceSub, Array.replicate_succ, Array.replicate_zero, List.push_toArray, List.append_toArray, List.nil_append, List.cons_append]
  gi_wp2
  gi_loopw [7] (fun i wr => ∃ k : Nat, k ≤ zs.length ∧ i = .int .i64 (k : Int) ∧ J (kpTo zs k) wr ∧ KpB Bs n₀ W wr)
    (fun i _ => zs.length - (intOf i).toNat)
  case atStart => exact ⟨0, Nat.zero_le _, rfl, h0, KpB.refl _ _ _⟩
  case round =>
    obtain ⟨k, hk, rfl, hJs, hnx⟩ := hrel
    by_cases hlt : k < zs.length
    · have hlt' : (k : Int) < (zs.length : Int) := by omega
      have hbs' : wr.cell? ⟨Bs, 0, none⟩ = some (.slice (some ⟨b, off, none⟩) zs.length cap) := hnx.cell (p := ⟨Bs, 0, none⟩) (.inr rfl) hBs
      obtain ⟨z, hz⟩ : ∃ z, z = zs[k]?.getD 0 := ⟨_, rfl⟩
      have hcx' : wr.cell? ⟨b, off + k, none⟩ = some (.int .i64 z) := by rw [hz]; exact hnx.cell (p := ⟨b, off + k, none⟩) (.inl hb) (hc k hlt)
      have Hz := Lib.hid hz
      have Hk := Lib.hid hk
      have Hlt := Lib.hid hlt
      clear hlt hk
      by_cases h0z : 0 ≤ z
      · obtain ⟨fn, tmps, assign, body, hy, hR⟩ := hY _ (k, z) wr (by rw [hz]; exact hP k Hlt.out (by rw [← hz]; exact h0z)) hJs (by have := kpTo_length zs k; have := Hlt.out; omega)
        clear hz
        dsimp only at hy
        have hd : decide (z ≥ 0) = true := by simpa using h0z
        gi_wp2
        refine hR.mono ?_
        rintro e W3 (⟨rfl, hJ3, hk3⟩ | ⟨rfl, hJx3⟩)
        · gi_wp2
          go_roundw
          case rel =>
            exact ⟨k + 1, by have := Hlt.out; omega, by go_num, by rw [kpTo, ← Hz.out, if_pos h0z]; exact hJ3, hnx.trans hk3⟩
          case measure => have := Hlt.out; simp [intOf]; omega
        · gi_wp2
          refine bodyPost_ret (results_none rfl _ _ _) rfl ?_
          exact ⟨⟨_, rfl⟩, .inr ⟨_, ⟨k + 1, by have := Hlt.out; omega, by rw [kpTo, ← Hz.out, if_pos h0z]⟩, hJx3⟩⟩
      · clear hz
        have hd : decide (z ≥ 0) = false := by simpa using h0z
        gi_wp2
        refine ⟨fun f hf => absurd hf (by simp), ?_⟩
        gi_wp2
        go_roundw
        case rel =>
          exact ⟨k + 1, by have := Hlt.out; omega, by go_num, by rw [kpTo, ← Hz.out, if_neg (by omega), List.append_nil]; exact hJs, hnx⟩
        case measure => have := Hlt.out; simp [intOf]; omega
    · have hlt' : ¬ (k : Int) < (zs.length : Int) := by omega
      have hke : k = zs.length := by omega
      subst hke
      gi_wp2
      go_end0
      exact ⟨⟨_, rfl⟩, .inl hJs⟩
set_option maxRecDepth 100000 in
set_option maxHeartbeats 1000000 in
theorem kp1_none_in (F : Fence) (n : Nat) (h8 : F.fn 134) (hro : F.round = none) (l Bs : Nat) (a : Option Addr) (cap : Nat) (J : List (Nat × Int) → World → Prop) (W : World) (hBs : W.cell? ⟨Bs, 0, none⟩ = some (.slice a 0 cap)) (h0 : J [] W) :
    CallsIn F n Tryz.prog 134 #[.func (.yield l) #[] #[], .pointer (some ⟨Bs, 0, none⟩)] W fun e W' => (∃ v, e = .returned v) ∧ J [] W' := by
  refine callsIn_of_wp Tryz.func134 rfl h8 ?_ hro
  simp only [Tryz.ntmps134, List.size_toArray, List.length_cons, List.length_nil, Nat.reduceAdd, Nat.reduceSub, Array.replicate_succ, Array.replicate_zero, List.push_toArray, List.append_toArray, List.nil_append, List.cons_append]
  gi_wp2
  gi_loopw [7] (fun i wr => i = .int .i64 0 ∧ J [] wr) (fun _ _ => 0)
  case atStart => exact ⟨rfl, h0⟩
  case round =>
    obtain ⟨rfl, hJs⟩ := hrel
    gi_wp2
    go_end0
    exact ⟨⟨_, rfl⟩, hJs⟩
set_option maxHeartbeats 1000000 in
theorem kp_in (F : Fence) (n : Nat) (h6 : F.fn 97) (hro : F.round = none) (a : Option Addr) (len cap : Nat) (w : World) :
    CallsIn F n Tryz.prog 97 #[.slice a len cap] w fun e w' => e = .returned (.func (.func 134) #[] #[.pointer (some ⟨w.heap.size, 0, none⟩)]) ∧ w' = w.alloc (.cells #[.slice a len cap] 25) := by
  refine callsIn_of_wp Tryz.func97 rfl h6 ?_ hro
  simp only [Tryz.ntmps97, List.size_toArray, List.length_cons, List.length_nil, Nat.reduceAdd, Nat.reduceSub, Array.replicate_succ, Array.replicate_zero, List.push_toArray, List.append_toArray, List.nil_append, List.cons_append]
  gi_wp2
  go_ret
  exact ⟨rfl, rfl⟩
theorem kp_stopsP (F : Fence) (n : Nat) (h8 : F.fn 134) (hro : F.round = none) (hn : 1 ≤ n) (Bs n₀ : Nat) (sv : Value) (zs : List Int) (P : Nat × Int → Prop) (hP : ∀ k, k < zs.length → 0 ≤ zs[k]?.getD 0 → P (k, zs[k]?.getD 0)) (hreach : zs.length * 8 ≤ 140737488351232) (w : World) (hBs : Bs < w.heap.size) (hn₀ : n₀ ≤ w.heap.size)
    (hc : w.cell? ⟨Bs, 0, none⟩ = some sv) (hI : IntsB n₀ w sv zs) :
    SeqStopsK F n Tryz.prog 134 #[.pointer (some ⟨Bs, 0, none⟩)] (fun x : { x : Nat × Int // P x } => #[Value.int .i64 (x.1.1 : Int), Value.int .i64 x.1.2]) (KpB Bs n₀) (fun ys => ys.map (·.1) = kpTo zs zs.length)
      (fun pre => ∃ k, k ≤ zs.length ∧ pre.map (·.1) = kpTo zs k) zs.length w := fun l J Jx W hW _ _ hY h0 => by
  have hc' := (hW.cell (p := ⟨Bs, 0, none⟩) hBs).trans hc
  have key : CallsIn F n Tryz.prog 134 #[.func (.yield l) #[] #[], .pointer (some ⟨Bs, 0, none⟩)] W fun e W' => (∃ v, e = .returned v) ∧
      ((fun (y : List (Nat × Int)) W => ∃ y', y'.map (·.1) = y ∧ J y' W) (kpTo zs zs.length) W' ∨ (∃ pre, (∃ k, k ≤ zs.length ∧ pre = kpTo zs k) ∧ (fun (y : List (Nat × Int)) W => ∃ y', y'.map (·.1) = y ∧ Jx y' W) pre W')) := by
    rcases hI.below (hW.mono hn₀) with ⟨a, cap, rfl, rfl⟩ | ⟨b, off, cap, rfl, hb, hcs⟩
    · exact (kp1_none_in F n h8 hro l Bs a cap (fun (y : List (Nat × Int)) W => ∃ y', y'.map (·.1) = y ∧ J y' W) W hc' ⟨[], rfl, h0⟩).mono fun e W' ⟨he, hj⟩ => ⟨he, .inl hj⟩
    · refine kp1_in F n h8 hro hn l Bs n₀ b off cap zs hreach hb P hP (fun (y : List (Nat × Int)) W => ∃ y', y'.map (·.1) = y ∧ J y' W) (fun (y : List (Nat × Int)) W => ∃ y', y'.map (·.1) = y ∧ Jx y' W) ?_ W hc' hcs ⟨[], rfl, h0⟩
      rintro pre x W1 hPx ⟨y', rfl, hj⟩ hlen
      obtain ⟨fn, tmps, assign, body, hy, hR⟩ := hY y' ⟨x, hPx⟩ W1 hj (by simpa using hlen)
      refine ⟨fn, tmps, assign, body, hy, hR.mono ?_⟩
      rintro e W' (⟨rfl, h1, h2⟩ | ⟨rfl, h1⟩)
      · exact .inl ⟨rfl, ⟨_, by simp, h1⟩, h2⟩
      · exact .inr ⟨rfl, ⟨_, by simp, h1⟩⟩
  refine key.mono ?_
  rintro e W' ⟨he, ⟨y', h1, h2⟩ | ⟨pre, ⟨k, hk, rfl⟩, ⟨y', h1, h2⟩⟩⟩
  · exact ⟨he, .inl ⟨y', h1, h2⟩⟩
  · exact ⟨he, .inr ⟨y', ⟨k, hk, h1⟩, h2⟩⟩
end Go.Proofs.YtdpifkhkemeclaaGreat
namespace Go.Proofs.YtdpifkhkemeclaaGreat
open Go.RowKit Go.Shelf
theorem oper_round {P : Program} {Q : Exit → Act → World → Prop} (hQ : ¬ LetsOut Q) {o : Oper} (hd : ∀ c, o.op ≠ .defer c) (l n : Nat) {a : Act} {w : World} {K : Act → World → Prop}
    (h : o.wp P a w K Q) : o.wpIn (Fence.wide.inRound l) n P a w K Q := by
  unfold Oper.wpIn
  refine ⟨fun f _ => trivial, ?_⟩
  rw [show (Fence.wide.inRound l).round = some l from rfl, Oper.semAt_some l _ _ hd]
  unfold Oper.wp at h
  generalize (execOp a.eval o).run P w = r at *
  cases r with
  | ok x w' =>
    cases x <;> simp only [Oper.upon, Oper.uponIn] at h ⊢
    all_goals first
      | exact h
      | exact ⟨fun hh => by simp [Fence.wide] at hh, CallsIn.inRound l (callsIn_wide.2 h)⟩
      | exact ⟨fun hh => by simp [Fence.wide] at hh, fun c cs hroom => by
          obtain ⟨v, w2, r, st⟩ := h c cs
          exact ⟨v, w2, r, stepsIn_wide.2 st⟩⟩
  | halt x w' => cases x <;> simp only [Oper.upon, Oper.uponIn] at h ⊢ <;> exact h
theorem wpOp_round {P : Program} {Q : Exit → Act → World → Prop} (hQ : ¬ LetsOut Q) {ops : Array Oper} (hd : ∀ (i : Nat) (o : Oper), ops[i]? = some o → ∀ (c : Call), o.op ≠ Op.defer c) (l n : Nat) {i : Nat} {a : Act} {w : World} {K : Act → World → Prop}
    (h : wpOp P ops Q i K a w) : wpOpIn (Fence.wide.inRound l) n P ops Q i K a w := by
  unfold wpOp at h
  unfold wpOpIn
  cases ho : ops[i]? with
  | none => simp only [ho] at h ⊢; exact h
  | some o =>
    simp only [ho] at h ⊢
    by_cases hw : Region.wanted o (yielded ops a.tmps) = true
    · simp only [hw, if_true] at h ⊢
      rcases h with h | h
      · exact oper_round hQ (hd i o ho) l n h
      · exact (hQ h.2).elim
    · simp only [hw] at h ⊢
      exact ⟨fun f _ => trivial, h⟩
theorem wpAny_round {P : Program} {Q : Exit → Act → World → Prop} {md : Region.Mode} (hQ : ¬ LetsOut Q) {ops : Array Oper} (hd : ∀ (i : Nat) (o : Oper), ops[i]? = some o → ∀ (c : Call), o.op ≠ Op.defer c) (l n : Nat) :
    ∀ (fuel : Nat) (listed : Array Bool) (a : Act) (w : World), wpAny P md ops Q fuel listed a w → wpAnyIn (Fence.wide.inRound l) n P md ops Q fuel listed a w
  | 0, _, _, _, h => h
  | fuel + 1, listed, a, w, h => ⟨h.1, fun i hi => wpOpIn_mono (fun a w => wpAny_round hQ hd l n fuel _ a w) (wpOp_round hQ hd l n (h.2 i hi))⟩
theorem region_round {P : Program} {Q : Exit → Act → World → Prop} {id : Nat} {ops : Array Oper} (hm : P.follows .mixedOrders = true) (hd : ops.all (fun (o : Oper) => match o.op with | Op.defer _ => false | _ => true) = true) (l n : Nat) {a : Act} {w : World} (K : Act → World → Prop)
    (h : wpAny P .any ops (fun e a w => e = .normal ∧ K a w) ops.size (Array.replicate ops.size false) a w.drew) (hK : ∀ a w, K a w → Q .normal a w) : (Code.region id ops true).wpIn (Fence.wide.inRound l) n P Q a w := by
  refine wpIn_mono (Q := fun e a w => e = .normal ∧ K a w) (wpIn_region_any hm (wpAny_round (by rintro ⟨a, w, h, _⟩; cases h) ?_ l n _ _ _ _ h)) (fun e a w h => by obtain ⟨rfl, h⟩ := h; exact hK a w h)
  intro i o ho c hc
  have := Array.all_eq_true'.1 hd o (Array.mem_of_getElem? ho)
  rw [hc] at this
  cases this
end Go.Proofs.YtdpifkhkemeclaaGreat
namespace Go.Proofs.YtdpifkhkemeclaaGreat
open Go.RowKit Go.Shelf Go.Proofs.YtdpifkhkemeclaaGreatW.PrintWords Go.Proofs.YtdpifkhkemeclaaGreatW.PrintLast
theorem region_last {P : Program} {ops : Array Oper} {Q : Exit → Act → World → Prop} {S : World → Prop} {ds : List Nat} {id m : Nat} {a : Act} {w : World} (l : Array Bool) (hm : P.follows .mixedOrders = true) (hd : ops.all (fun (o : Oper) => match o.op with | Op.defer _ => false | _ => true) = true) (k n : Nat) (hn : ops.size = m) (hl : Array.replicate m false = l) (hS : S w.drew) (K : Act → World → Prop)
    (h : S w.drew → wpAnyLast P .any ops (fun e a w => e = .normal ∧ K a w) S ds m l a w.drew) (hK : ∀ a w, K a w → Q .normal a w) : (Code.region id ops true).wpIn (Fence.wide.inRound k) n P Q a w := by
  subst hn
  subst hl
  exact region_round hm hd k n K (wpAny_of_last _ _ _ _ (h hS)) hK
theorem info3r : (Tryz.prog.info? 3).map (fun i => (i.zero, i.size, i.bytes)) = some (some (.int .i64 0), 1, 8) := by kernel_rfl
theorem info85r : (Tryz.prog.info? 85).map (fun i => (i.zero, i.size, i.bytes)) = some (some (.agg #[.int .i64 0, .int .i64 0, .int .i64 0, .slice none 0 0]), 4, 48) := by kernel_rfl
theorem cells_new4 (w : World) (x y z u : Value) (t : TypeId) : ∀ j v, [x, y, z, u][j]? = some v → (w.alloc (.cells #[x, y, z, u] t)).cell? ((⟨w.heap.size, 0, none⟩ : Addr).add j) = some v := by
  intro j v hj
  have h := heap_alloc_new w (.cells #[x, y, z, u] t)
  match j, hj with
  | 0, hj => rw [show (⟨w.heap.size, 0, none⟩ : Addr).add 0 = ⟨w.heap.size, 0, none⟩ from rfl, cell_of_row _ _ _ _ _ _ h]; exact hj
  | 1, hj => rw [show (⟨w.heap.size, 0, none⟩ : Addr).add 1 = ⟨w.heap.size, 1, none⟩ from rfl, cell_of_row _ _ _ _ _ _ h]; exact hj
  | 2, hj => rw [show (⟨w.heap.size, 0, none⟩ : Addr).add 2 = ⟨w.heap.size, 2, none⟩ from rfl, cell_of_row _ _ _ _ _ _ h]; exact hj
  | 3, hj => rw [show (⟨w.heap.size, 0, none⟩ : Addr).add 3 = ⟨w.heap.size, 3, none⟩ from rfl, cell_of_row _ _ _ _ _ _ h]; exact hj
end Go.Proofs.YtdpifkhkemeclaaGreat
namespace Go.Proofs.YtdpifkhkemeclaaGreat
open Go.RowKit Go.Shelf Go.Proofs.YtdpifkhkemeclaaGreatW.PrintWords
structure RunR where
  lv : Int
  fr : Int
  en : Int
  at_ : List Int
instance : Inhabited RunR := ⟨⟨0, 0, 0, []⟩⟩
def dRun : Kd RunR := Kd.iso (Kd.pair (Kd.int .i64) (Kd.pair (Kd.int .i64) (Kd.pair (Kd.int .i64) (Kd.slice 3 (Kd.int .i64))))) (fun r => (r.lv, r.fr, r.en, r.at_))
theorem dRun_E : dRun.E = [3] := rfl
theorem dRun_sz : dRun.sz = 4 := rfl
theorem dRun_M {W : World} {base : Nat} {ok : Nat → Prop} {r : RunR} {cs : List Value} (h : dRun.M W base ok r cs) : ∃ v, cs = [.int .i64 r.lv, .int .i64 r.fr, .int .i64 r.en, v] ∧ (Kd.int .i64).R 3 W base ok v r.at_ := by
  obtain ⟨c0, c1, rfl, rfl, c2, c3, rfl, rfl, c4, c5, rfl, rfl, v, rfl, hv⟩ := h
  exact ⟨v, rfl, hv⟩
theorem dRun_mk {W : World} {base : Nat} {ok : Nat → Prop} {r : RunR} {v : Value} (hv : (Kd.int .i64).R 3 W base ok v r.at_) : dRun.M W base ok r [.int .i64 r.lv, .int .i64 r.fr, .int .i64 r.en, v] :=
  ⟨_, _, rfl, rfl, _, _, rfl, rfl, _, _, rfl, rfl, v, rfl, hv⟩
structure RG (w : World) (lv : Value) (rs : List RunR) (vO : Value) (W : World) : Prop where
  bel : Below w.heap.size w W
  bO : Boxed W w.heap.size 81 vO
  bS : Boxed W (w.heap.size + 1) 25 lv
  rR : Kd.S dRun 85 W w.heap.size (fun _ => True) vO rs
section
variable {w W W' : World} {lv : Value} {vO : Value} {rs : List RunR}
theorem RG.below (h : RG w lv rs vO W) (hb : Below W.heap.size W W') : RG w lv rs vO W' :=
  ⟨h.bel.trans (hb.mono h.bel.size), (hb.block _ h.bO.lt).trans h.bO, (hb.block _ h.bS.lt).trans h.bS, Kd.S_below h.rR hb⟩
theorem RG.alloc (h : RG w lv rs vO W) (o : Obj) : RG w lv rs vO (W.alloc o) := h.below ((Below.refl _ _).alloc (Nat.le_refl _) _)
theorem RG.drew (h : RG w lv rs vO W) : RG w lv rs vO W.drew := h.below (Below.refl _ _).drew
theorem RG.rT (h : RG w lv rs vO W) : Kd.S dRun 85 W w.heap.size (fun k => True ∧ w.heap.size ≤ k ∧ k < W.heap.size ∧ ∃ q, q ∈ 85 :: dRun.E ∧ ∃ cells, W.heap[k]? = some (.cells cells q (0, 0))) vO rs := Kd.S_bound h.rR
theorem RG.own {B : Nat} (hB : w.heap.size ≤ B) (h : RG w lv rs vO W) {row : Option Nat} (hg : W.grownBy W' row) (hr : ∀ (r : Nat), row = some r → B ≤ r ∧ ∃ o, W.heap[r]? = some o ∧ o.isCells = false) : RG w lv rs vO W' := by
  have hbx : ∀ {k : Nat} {t : TypeId} {v : Value}, Boxed W k t v → Boxed W' k t v := fun {k t v} hb => hb.kept hg (fun e => by
    obtain ⟨_, o, ho, hc⟩ := hr k e.symm
    rw [show W.heap[k]? = _ from hb] at ho
    cases ho
    cases hc)
  refine ⟨h.bel.grown hg h.bel.size (fun k e => Nat.le_trans hB (hr k e).1), hbx h.bO, hbx h.bS, ?_⟩
  refine Kd.S_mono (Kd.S_grown h.rT hg ?_) (fun _ _ => trivial)
  rintro k ⟨_, _, _, q, _, cells, hc⟩ e
  obtain ⟨_, o, ho, hoc⟩ := hr k e.symm
  rw [hc] at ho
  cases ho
  cases hoc
theorem RG.form (h : RG w lv rs vO W) (hn : rs ≠ []) : ∃ g c, vO = .slice (some ⟨g, 0, none⟩) rs.length c ∧ w.heap.size ≤ g ∧ g < W.heap.size ∧ ∃ cells, W.heap[g]? = some (.cells cells 85 (0, 0)) :=
  Kd.S_form h.rR (List.length_pos_iff.2 hn)
theorem RG.ne {g : Nat} (h : RG w lv rs vO W) {cells : Array Value} (hg : W.heap[g]? = some (.cells cells 85 (0, 0))) : g ≠ w.heap.size ∧ g ≠ w.heap.size + 1 := by
  refine ⟨fun e => ?_, fun e => ?_⟩
  · subst e
    have := h.bO
    unfold Boxed at this
    rw [hg] at this
    cases this
  · subst e
    have := h.bS
    unfold Boxed at this
    rw [hg] at this
    cases this
theorem RG.elem {g n c : Nat} (h : RG w lv rs (.slice (some ⟨g, 0, none⟩) n c) W) (k : Nat) (hk : k < rs.length) :
    ∃ (oki : Nat → Prop) (v : Value), (Kd.int .i64).R 3 W w.heap.size oki v (rs.getD k default).at_ ∧
      W.cell? ⟨g, k * 4, none⟩ = some (.int .i64 (rs.getD k default).lv) ∧ W.cell? ⟨g, k * 4 + 1, none⟩ = some (.int .i64 (rs.getD k default).fr) ∧ W.cell? ⟨g, k * 4 + 2, none⟩ = some (.int .i64 (rs.getD k default).en) ∧ W.cell? ⟨g, k * 4 + 3, none⟩ = some v ∧
      (∀ j, W.frozen? ⟨g, k * 4 + j, none⟩ = false) ∧ (∀ q, oki q → q ≠ g) ∧
      Kd.H dRun 85 W w.heap.size (fun _ => True) (.slice (some ⟨g, 0, none⟩) n c) rs (k : Int) oki [.int .i64 (rs.getD k default).lv, .int .i64 (rs.getD k default).fr, .int .i64 (rs.getD k default).en, v] := by
  have hn := (Kd.S_reads' h.rR).1
  obtain ⟨oki, cs, hcl, hM, hcc, hfr, hoki, hH⟩ := Kd.S_elem h.rR default (k : Int) (by omega) (by omega)
  simp only [Int.toNat_natCast] at hM hcc hfr hH
  obtain ⟨v, rfl, hv⟩ := dRun_M hM
  exact ⟨oki, v, hv, hcc 0 _ rfl, hcc 1 _ rfl, hcc 2 _ rfl, hcc 3 _ rfl, hfr, fun q hq => (hoki q hq).2, hH⟩
theorem RG.q0 {g n c : Nat} (h : RG w lv rs (.slice (some ⟨g, 0, none⟩) n c) W) (k : Nat) (hk : k < rs.length) : W.cell? ⟨g, k * 4, none⟩ = some (.int .i64 (rs.getD k default).lv) := by obtain ⟨_, _, _, q, _⟩ := h.elem k hk; exact q
theorem RG.q1 {g n c : Nat} (h : RG w lv rs (.slice (some ⟨g, 0, none⟩) n c) W) (k : Nat) (hk : k < rs.length) : W.cell? ⟨g, k * 4 + 1, none⟩ = some (.int .i64 (rs.getD k default).fr) := by obtain ⟨_, _, _, _, q, _⟩ := h.elem k hk; exact q
theorem RG.q2 {g n c : Nat} (h : RG w lv rs (.slice (some ⟨g, 0, none⟩) n c) W) (k : Nat) (hk : k < rs.length) : W.cell? ⟨g, k * 4 + 2, none⟩ = some (.int .i64 (rs.getD k default).en) := by obtain ⟨_, _, _, _, _, q, _⟩ := h.elem k hk; exact q
theorem RG.fz {g n c : Nat} (h : RG w lv rs (.slice (some ⟨g, 0, none⟩) n c) W) (k : Nat) (hk : k < rs.length) (j : Nat) : W.frozen? ⟨g, k * 4 + j, none⟩ = false := by obtain ⟨_, _, _, _, _, _, _, q, _⟩ := h.elem k hk; exact q j
theorem RG.put {g n c : Nat} (h : RG w lv rs (.slice (some ⟨g, 0, none⟩) n c) W) {rs' : List RunR} (hS : Kd.S dRun 85 W' w.heap.size (fun _ => True) (.slice (some ⟨g, 0, none⟩) n c) rs') (hg : W.grownBy W' (some g)) : RG w lv rs' (.slice (some ⟨g, 0, none⟩) n c) W' := by
  obtain ⟨cells, hc⟩ := Kd.S_typed h.rR g (by simp [Value.ownBlock])
  have hne := h.ne hc
  exact ⟨h.bel.grown hg h.bel.size (fun k e => by cases e; exact Kd.S_base h.rR g (by simp [Value.ownBlock])), h.bO.kept hg (fun e => by cases e; exact hne.1 rfl), h.bS.kept hg (fun e => by injection e with e; exact hne.2 e.symm), hS⟩
theorem RG.setTo {g n c : Nat} (h : RG w lv rs (.slice (some ⟨g, 0, none⟩) n c) W) (k : Nat) (hk : k < rs.length) (x : Int) :
    RG w lv (rs.set k { rs.getD k default with en := x }) (.slice (some ⟨g, 0, none⟩) n c) (W.setCell ⟨g, k * 4 + 2, none⟩ (.int .i64 x)) ∧ KeepsOthers W (W.setCell ⟨g, k * 4 + 2, none⟩ (.int .i64 x)) := by
  have hn := (Kd.S_reads' h.rR).1
  obtain ⟨oki, v, hv, _, _, _, _, _, _, hH⟩ := h.elem k hk
  have hH' : Kd.H dRun 85 W w.heap.size (fun q => True ∧ ¬ (fun _ : Nat => False) q) (.slice (some ⟨g, 0, none⟩) n c) rs (k : Int) oki [.int .i64 (rs.getD k default).lv, .int .i64 (rs.getD k default).fr, .int .i64 (rs.getD k default).en, v] := Kd.H_mono hH (fun _ _ => ⟨trivial, id⟩)
  have key := Kd.S_seg (okp := oki) (okg := fun _ => False) (seg := [.int .i64 x]) (j := 2) (x' := { rs.getD k default with en := x }) hH' (by omega) (by omega) (show 2 + 1 ≤ 4 by decide) (dRun_mk (r := { rs.getD k default with en := x }) hv) (fun q hq => .inl hq) (fun q hq => hq.elim)
  simp only [Int.toNat_natCast] at key
  exact ⟨h.put key.1 key.2, KeepsOthers.setCell _ _ _⟩
theorem RG.mid {g n c : Nat} (h : RG w lv rs (.slice (some ⟨g, 0, none⟩) n c) W) {ok : Nat → Prop} {v : Value} {xs : List Int} (hv : (Kd.int .i64).R 3 W w.heap.size ok v xs) (hg : W.grownBy W' v.ownBlock) :
    Boxed W' w.heap.size 81 (.slice (some ⟨g, 0, none⟩) n c) ∧ (∀ j, W'.cell? ⟨g, j, none⟩ = W.cell? ⟨g, j, none⟩) ∧ ∀ j, W'.frozen? ⟨g, j, none⟩ = false := by
  obtain ⟨cells, hc⟩ := Kd.S_typed h.rR g (by simp [Value.ownBlock])
  have hvne : ∀ b t (cs : Array Value), W.heap[b]? = some (.cells cs t (0, 0)) → 3 ≠ t → some b ≠ v.ownBlock := by
    intro b t cs hbx ht e
    obtain ⟨cells', hc'⟩ := Kd.R_typed hv b e.symm
    rw [hbx] at hc'
    injection hc' with hc'
    injection hc' with _ hc'
    exact ht hc'.symm
  have hb := hg.block g (lt_of_block hc) (hvne _ _ _ hc (by decide))
  exact ⟨h.bO.kept hg (hvne _ _ _ h.bO (by decide)), fun j => by unfold World.cell?; rw [hb], fun j => frozen_of_row _ _ _ _ _ (hb.trans hc)⟩
theorem RG.addAt {g n c : Nat} (h : RG w lv rs (.slice (some ⟨g, 0, none⟩) n c) W) (k : Nat) (hk : k < rs.length) {oki : Nat → Prop} {v v' : Value} {x : Int}
    (hH : Kd.H dRun 85 W w.heap.size (fun _ => True) (.slice (some ⟨g, 0, none⟩) n c) rs (k : Int) (fun q => oki q ∨ True ∧ W.heap.size ≤ q) [.int .i64 (rs.getD k default).lv, .int .i64 (rs.getD k default).fr, .int .i64 (rs.getD k default).en, v])
    (hoki : ∀ q, oki q → q ≠ g) (hv : (Kd.int .i64).R 3 W w.heap.size oki v (rs.getD k default).at_)
    (hr : (Kd.int .i64).R 3 W' w.heap.size (fun q => oki q ∨ True ∧ W.heap.size ≤ q) v' ((rs.getD k default).at_ ++ [x])) (hb : Below w.heap.size w W') (hg : W.grownBy W' v.ownBlock) :
    RG w lv (rs.set k { rs.getD k default with at_ := (rs.getD k default).at_ ++ [x] }) (.slice (some ⟨g, 0, none⟩) n c) (W'.setCell ⟨g, k * 4 + 3, none⟩ v') := by
  have hn := (Kd.S_reads' h.rR).1
  obtain ⟨cells, hc⟩ := Kd.S_typed h.rR g (by simp [Value.ownBlock])
  have hgl := lt_of_block hc
  have hH1 : Kd.H dRun 85 W' w.heap.size (fun q => True ∧ ¬ (fun _ : Nat => False) q) (.slice (some ⟨g, 0, none⟩) n c) rs (k : Int) (fun q => oki q ∨ True ∧ W.heap.size ≤ q) [.int .i64 (rs.getD k default).lv, .int .i64 (rs.getD k default).fr, .int .i64 (rs.getD k default).en, v] :=
    Kd.H_mono (Kd.H_grown hH hg (fun q hq => .inl (hv.1 q hq))) (fun _ _ => ⟨trivial, id⟩)
  have key := Kd.S_seg (okp := fun q => oki q ∨ True ∧ W.heap.size ≤ q) (okg := fun _ => False) (seg := [v']) (j := 3) (x' := { rs.getD k default with at_ := (rs.getD k default).at_ ++ [x] }) hH1 (by omega) (by omega) (show 3 + 1 ≤ 4 by decide) (dRun_mk (r := { rs.getD k default with at_ := (rs.getD k default).at_ ++ [x] }) hr) (fun q hq => .inl hq) (fun q hq => hq.elim)
  simp only [Int.toNat_natCast] at key
  have hne := h.ne hc
  have hvne : ∀ b t u, Boxed W b t u → 3 ≠ t → some b ≠ v.ownBlock := by
    intro b t u hbx ht e
    obtain ⟨cells', hc'⟩ := Kd.R_typed hv b e.symm
    unfold Boxed at hbx
    rw [hbx] at hc'
    injection hc' with hc'
    injection hc' with _ hc'
    exact ht hc'.symm
  have bO := (h.bO.kept hg (hvne _ _ _ h.bO (by decide))).kept key.2 (fun e => by injection e with e; exact hne.1 e.symm)
  have bS := (h.bS.kept hg (hvne _ _ _ h.bS (by decide))).kept key.2 (fun e => by injection e with e; exact hne.2 e.symm)
  exact ⟨hb.grown key.2 hb.size (fun q e => by cases e; exact Kd.S_base h.rR g (by simp [Value.ownBlock])), bO, bS, key.1⟩
end
theorem wpListIn_append_at {F : Fence} {n : Nat} {P : Program} (w : World) {ops : Array Oper} {rest : List Oper} {o : Oper} {a : Act} {Q : Exit → Act → World → Prop}
    (hg : o.guard = none) (s x : Operand) (t : TypeId) (hop : o.op = Op.call { callee := Callee.builtin Builtin.append, args := #[s, x], argTypes := #[t, t] })
    (base : Nat) (e : TypeId) (i : TypeInfo) (z : Value) (size bytes : Nat) (h1 : P.underlying t = some (.slice e)) (h2 : P.info? e = some i) (h3 : i.zero = some z) (h4 : i.size = size) (h5 : i.bytes = bytes) (h6 : z.cells.size = size) (h7 : 0 < size)
    (v : Value) (k : Nat) (xs : List Value) (hs : a.eval s = v) (hown : w.ownsRow base e size v k xs) (ad : Addr) (m c : Nat) (news : List Value) (hx : a.eval x = .slice (some ad) m c) (hn : news.length = m * size)
    (hc : ∀ j u, news[j]? = some u → w.cell? (ad.add j) = some u) (h1c : ∀ u ∈ news, u.oneCell' = true) (b1 : k + m ≤ maxLen) (b2 : (k + m) * bytes ≤ 140737488355328) (b3 : base ≤ w.heap.size)
    (hK : ∀ v' w', w'.ownsRow base e size v' (k + m) (xs ++ news) → w.grownBy w' v.ownBlock → (v'.ownBlock = v.ownBlock ∨ v'.ownBlock = some w.heap.size) → wpListIn F n P ops Q rest (a.put o.dst v') w') :
    wpListIn F n P ops Q (o :: rest) a w := by
  refine wpListIn_plain hg fun K hK' => ?_
  obtain ⟨v', w', hrun, r1, r2, r3, r4⟩ := run_append_own_at (P := P) (w := w) base t o.type e i z size bytes h1 h2 h3 h4 h5 h6 h7 v k xs hown ad m c news hn hc h1c b1 b2 b3
  unfold Oper.wpIn
  refine ⟨?_, ?_⟩
  · simp [Oper.about, hop, resolve, Target.leads, Sem.run_pure]
  · rw [Oper.semAt_plain F _ _ (by rw [hop]; intro c hc'; cases hc')]
    simp [execOp, hop, resolve, invoke, builtin, hs, hx, hrun, Result.andThen]
    exact hK' _ _ (hK v' w' r1 r2 r4)
theorem S_appended {α : Type} {d : Kd α} {e base : Nat} {ok : Nat → Prop} {W W0 w1 : World} {v v1 : Value} {xs : List α} {p : α} {inner cs : List Value} {f : Nat → Nat}
    (h0 : ∀ k, v.ownBlock = some k → ok k) (hr : Reps ((Kd.tag f d).M W base (fun k => ok k ∧ some k ≠ v.ownBlock)) d.sz xs.zipIdx inner) (hp : d.M W base (fun _ => False) p cs) (hfresh : ∀ k, W.heap.size ≤ k → ok k)
    (hown : w1.ownsRow base e d.sz v1 (xs.length + 1) (inner ++ cs)) (hg : W.grownBy w1 v.ownBlock) (hat : v1.ownBlock = v.ownBlock ∨ ∃ b, v1.ownBlock = some b ∧ W.heap.size ≤ b) : Kd.S d e w1 base ok v1 (xs ++ [p]) := by
  refine ⟨f, ?_⟩
  rw [Kd.zip_snoc]
  exact Kd.R_appended (d := Kd.tag f d) (okp := fun _ => False) h0 hr (d.M_mono (fun _ hk => hk.elim) hp) (fun _ hk => hk.elim) hfresh (by rw [List.length_zipIdx]; exact hown) hg hat
theorem info85r' : (Tryz.prog.info? 85).map (fun i => (i.zero, i.size, i.bytes)) = some (some (.agg #[.int .i64 0, .int .i64 0, .int .i64 0, .slice none 0 0]), dRun.sz, 48) := by kernel_rfl
def runNew (rs : List RunR) (k : Nat) (z : Int) : List RunR := if rs = [] ∨ (rs.getD (rs.length - 1) default).lv ≠ z then rs ++ [⟨z, k, 0, []⟩] else rs
def runTo (rs : List RunR) (k : Nat) : List RunR := rs.set (rs.length - 1) { rs.getD (rs.length - 1) default with en := (k : Int) }
def runAt (rs : List RunR) (k : Nat) : List RunR := rs.set (rs.length - 1) { rs.getD (rs.length - 1) default with at_ := (rs.getD (rs.length - 1) default).at_ ++ [(k : Int)] }
def runStep (rs : List RunR) (x : Nat × Int) : List RunR := runAt (runTo (runNew rs x.1 x.2) x.1) x.1
def runsOf (l : List (Nat × Int)) : List RunR := l.foldl runStep []
theorem runNew_ne (rs : List RunR) (k : Nat) (z : Int) : runNew rs k z ≠ [] := by
  unfold runNew
  split
  · simp
  · rename_i h
    intro e
    exact h (.inl e)
theorem runTo_len (rs : List RunR) (k : Nat) : (runTo rs k).length = rs.length := by unfold runTo; rw [List.length_set]
theorem runAt_len (rs : List RunR) (k : Nat) : (runAt rs k).length = rs.length := by unfold runAt; rw [List.length_set]
theorem runsOf_snoc (l : List (Nat × Int)) (x : Nat × Int) : runsOf (l ++ [x]) = runStep (runsOf l) x := by unfold runsOf; rw [List.foldl_append]; rfl
theorem runStep_len (rs : List RunR) (x : Nat × Int) : (runStep rs x).length ≤ rs.length + 1 := by
  unfold runStep
  rw [runAt_len, runTo_len]
  unfold runNew
  split
  · rw [List.length_append]; exact Nat.le_refl _
  · exact Nat.le_succ _
theorem snoc_ind {α : Type} {P : List α → Prop} (h0 : P []) (h1 : ∀ l x, P l → P (l ++ [x])) (l : List α) : P l := by
  have : ∀ (r : List α), P r.reverse := by
    intro r
    induction r with
    | nil => exact h0
    | cons x r ih => rw [List.reverse_cons]; exact h1 _ _ ih
  have h := this l.reverse
  rwa [List.reverse_reverse] at h
theorem runsOf_len (l : List (Nat × Int)) : (runsOf l).length ≤ l.length := by
  refine snoc_ind (P := fun l => (runsOf l).length ≤ l.length) (Nat.le_refl _) (fun l x ih => ?_) l
  rw [runsOf_snoc, List.length_append]; exact Nat.le_trans (runStep_len _ _) (Nat.succ_le_succ ih)
theorem getD_set_self {α : Type} (l : List α) (k : Nat) (x d : α) (h : k < l.length) : (l.set k x).getD k d = x := by
  rw [List.getD_eq_getElem?_getD, List.getElem?_set_self h]; rfl
theorem getD_set_other {α : Type} (l : List α) (k j : Nat) (x d : α) (h : k ≠ j) : (l.set k x).getD j d = l.getD j d := by
  rw [List.getD_eq_getElem?_getD, List.getElem?_set_ne h, List.getD_eq_getElem?_getD]
theorem runsOf_at (l : List (Nat × Int)) : ∀ j, ((runsOf l).getD j default).at_.length ≤ l.length := by
  refine snoc_ind (P := fun l => ∀ j, ((runsOf l).getD j default).at_.length ≤ l.length) (fun j => ?_) (fun l x ih => ?_) l
  · simp [runsOf, List.getD_eq_getElem?_getD, default]
  · intro j
    rw [runsOf_snoc, List.length_append]
    have hnew : ∀ j, ((runNew (runsOf l) x.1 x.2).getD j default).at_.length ≤ l.length := by
      intro j
      unfold runNew
      split
      · rw [List.getD_eq_getElem?_getD, List.getElem?_append]
        split
        · have := ih j; rw [List.getD_eq_getElem?_getD] at this; exact this
        · rcases Nat.eq_zero_or_pos (j - (runsOf l).length) with h0 | h0
          · rw [h0]; simp
          · rw [List.getElem?_eq_none (by simp; omega)]; simp [default]
      · exact ih j
    have hto : ∀ j, ((runTo (runNew (runsOf l) x.1 x.2) x.1).getD j default).at_.length ≤ l.length := by
      intro j
      unfold runTo
      by_cases hj : (runNew (runsOf l) x.1 x.2).length - 1 = j
      · subst hj
        rw [getD_set_self _ _ _ _ (by have := List.length_pos_iff.2 (runNew_ne (runsOf l) x.1 x.2); omega)]
        exact hnew _
      · rw [getD_set_other _ _ _ _ _ hj]; exact hnew j
    unfold runStep runAt
    by_cases hj : (runTo (runNew (runsOf l) x.1 x.2) x.1).length - 1 = j
    · subst hj
      rw [getD_set_self _ _ _ _ (by rw [runTo_len]; have := List.length_pos_iff.2 (runNew_ne (runsOf l) x.1 x.2); omega)]
      simp only [List.length_append]
      exact Nat.add_le_add_right (hto _) _
    · rw [getD_set_other _ _ _ _ _ hj]; exact Nat.le_trans (hto j) (Nat.le_add_right _ _)
end Go.Proofs.YtdpifkhkemeclaaGreat
namespace Go.Proofs.YtdpifkhkemeclaaGreat
open Go.RowKit Go.Shelf Go.Proofs.YtdpifkhkemeclaaGreatW.PrintWords Go.Proofs.YtdpifkhkemeclaaGreatW.PrintLast
set_option maxRecDepth 100000 in
set_option maxHeartbeats 4000000 in
theorem reg10G (l n : Nat) {w W : World} {lv : Value} {rs : List RunR} {g m c k : Nat} (i : Nat) (HT : RG w lv rs (.slice (some ⟨g, 0, none⟩) m c) W) (hk : k < rs.length) (hks : (rs.getD k default).at_.length ≤ 1048576) (hm : m ≤ 1048578) (t0 t1 t2 t5 t7 t8 t9 t10 t11 t12 t13 t14 t15 t16 t17 t18 t19 t20 t21 t22 t23 t24 t25 t26 t27 t28 t29 t30 t31 t32 t33 t34 t35 t36 t37 t38 t39 t40 t41 t42 t43 t44 t45 t46 t47 t48 t49 t50 : Value) (Q : Exit → Act → World → Prop)
    (hQ : ∀ (t38 t39 t40 t41 t42 t43 t44 t45 t46 t47 t48 t49 : Value) (W' : World), RG w lv (rs.set k { rs.getD k default with at_ := (rs.getD k default).at_ ++ [(i : Int)] }) (.slice (some ⟨g, 0, none⟩) m c) W' → KeepsOthers W W' → Q .normal { tmps := #[t0, t1, t2, .pointer (some ⟨w.heap.size, 0, none⟩), .int .i64 (i : Int), t5, .int .i64 (k : Int), t7, t8, t9, t10, t11, t12, t13, t14, t15, t16, t17, t18, t19, t20, t21, t22, t23, t24, t25, t26, t27, t28, t29, t30, t31, t32, t33, t34, t35, t36, t37, t38, t39, t40, t41, t42, t43, t44, t45, t46, t47, t48, t49, t50], defers := [] } W') :
    (Code.region 10 #[{ dst := some 38, op := Op.load 81 (Operand.tmp 3), type := 81, pos := "seqs.go:40", after := #[], guard := none }, { dst := some 39, op := Op.move (Operand.tmp 6), type := 3, pos := "seqs.go:40", after := #[], guard := none }, { dst := some 40, op := Op.load 81 (Operand.tmp 3), type := 81, pos := "seqs.go:40", after := #[], guard := none }, { dst := some 41, op := Op.move (Operand.tmp 6), type := 3, pos := "seqs.go:40", after := #[], guard := none }, { dst := some 42, op := Op.indexAddr 81 (Operand.tmp 40) (Operand.tmp 41), type := 0, pos := "seqs.go:40", after := #[{ on := 2, ground := Ground.data }, { on := 3, ground := Ground.data }], guard := none }, { dst := some 43, op := Op.fieldAddr 85 (Operand.tmp 42) 3, type := 0, pos := "seqs.go:40", after := #[{ on := 4, ground := Ground.data }], guard := none }, { dst := some 44, op := Op.load 25 (Operand.tmp 43), type := 25, pos := "seqs.go:40", after := #[{ on := 5, ground := Ground.data }], guard := none }, { dst := some 45, op := Op.move (Operand.tmp 4), type := 3, pos := "seqs.go:40", after := #[], guard := none }, { dst := some 46, op := Op.buildSlice 25 1 #[(0, Operand.tmp 45)], type := 25, pos := "seqs.go:40", after := #[{ on := 7, ground := Ground.data }], guard := none }, { dst := some 47, op := Op.call { callee := Callee.builtin Builtin.append, args := #[Operand.tmp 44, Operand.tmp 46], argTypes := #[25, 25] }, type := 25, pos := "seqs.go:40", after := #[{ on := 6, ground := Ground.data }, { on := 8, ground := Ground.data }], guard := none }, { dst := some 48, op := Op.indexAddr 81 (Operand.tmp 38) (Operand.tmp 39), type := 0, pos := "seqs.go:40", after := #[{ on := 0, ground := Ground.data }, { on := 1, ground := Ground.data }, { on := 0, ground := Ground.phase }, { on := 1, ground := Ground.phase }, { on := 2, ground := Ground.phase }, { on := 3, ground := Ground.phase }, { on := 4, ground := Ground.phase }, { on := 5, ground := Ground.phase }, { on := 6, ground := Ground.phase }, { on := 7, ground := Ground.phase }, { on := 8, ground := Ground.phase }, { on := 9, ground := Ground.phase }], guard := none }, { dst := some 49, op := Op.fieldAddr 85 (Operand.tmp 48) 3, type := 0, pos := "seqs.go:40", after := #[{ on := 10, ground := Ground.data }, { on := 0, ground := Ground.phase }, { on := 1, ground := Ground.phase }, { on := 2, ground := Ground.phase }, { on := 3, ground := Ground.phase }, { on := 4, ground := Ground.phase }, { on := 5, ground := Ground.phase }, { on := 6, ground := Ground.phase }, { on := 7, ground := Ground.phase }, { on := 8, ground := Ground.phase }, { on := 9, ground := Ground.phase }], guard := none }, { dst := none, op := Op.store 25 (Operand.tmp 49) (Operand.tmp 47), type := 0, pos := "seqs.go:40", after := #[{ on := 11, ground := Ground.data }, { on := 9, ground := Ground.data }, { on := 9, ground := Ground.chain }, { on := 0, ground := Ground.phase }, { on := 1, ground := Ground.phase }, { on := 2, ground := Ground.phase }, { on := 3, ground := Ground.phase }, { on := 4, ground := Ground.phase }, { on := 5, ground := Ground.phase }, { on := 6, ground := Ground.phase }, { on := 7, ground := Ground.phase }, { on := 8, ground := Ground.phase }, { on := 9, ground := Ground.phase }], guard := none }] true).wpIn (Fence.wide.inRound l) n Tryz.prog Q { tmps := #[t0, t1, t2, .pointer (some ⟨w.heap.size, 0, none⟩), .int .i64 (i : Int), t5, .int .i64 (k : Int), t7, t8, t9, t10, t11, t12, t13, t14, t15, t16, t17, t18, t19, t20, t21, t22, t23, t24, t25, t26, t27, t28, t29, t30, t31, t32, t33, t34, t35, t36, t37, t38, t39, t40, t41, t42, t43, t44, t45, t46, t47, t48, t49, t50], defers := [] } W := by
  have hmn := (Kd.S_reads' HT.rR).1
  have hkm : k < m := by omega
  have hkm' : (k : Int) < (m : Int) := by omega
  obtain ⟨oki, vA, hvA, _, _, _, q3, _, hoki, hH⟩ := HT.elem k hk
  have hc0 : W.drew.cell? ⟨w.heap.size, 0, none⟩ = some (.slice (some ⟨g, 0, none⟩) m c) := HT.drew.bO.cell
  have hc1 : W.drew.cell? ⟨g, k * 4 + 3, none⟩ = some vA := q3
  refine region_last (m := 13) (S := fun w' => w'.cell? ⟨w.heap.size, 0, none⟩ = some (.slice (some ⟨g, 0, none⟩) m c) ∧ w'.cell? ⟨g, k * 4 + 3, none⟩ = some vA) (ds := [12]) #[false, false, false, false, false, false, false, false, false, false, false, false, false] (by kernel_rfl) (by kernel_rfl) l n rfl rfl ⟨hc0, hc1⟩
    (fun a' W' => ∃ t38 t39 t40 t41 t42 t43 t44 t45 t46 t47 t48 t49 : Value, a' = { tmps := #[t0, t1, t2, .pointer (some ⟨w.heap.size, 0, none⟩), .int .i64 (i : Int), t5, .int .i64 (k : Int), t7, t8, t9, t10, t11, t12, t13, t14, t15, t16, t17, t18, t19, t20, t21, t22, t23, t24, t25, t26, t27, t28, t29, t30, t31, t32, t33, t34, t35, t36, t37, t38, t39, t40, t41, t42, t43, t44, t45, t46, t47, t48, t49, t50], defers := [] } ∧ RG w lv (rs.set k { rs.getD k default with at_ := (rs.getD k default).at_ ++ [(i : Int)] }) (.slice (some ⟨g, 0, none⟩) m c) W' ∧ KeepsOthers W W') (fun hHeld => ?_) (fun a' W' ⟨t38, t39, t40, t41, t42, t43, t44, t45, t46, t47, t48, t49, e, h1, h2⟩ => by subst e; exact hQ _ _ _ _ _ _ _ _ _ _ _ _ W' h1 h2)
  have HD := Lib.hid HT.drew
  have KD := Lib.hid (KeepsOthers.drew W)
  have HvA := Lib.hid (Kd.R_below hvA (Below.refl _ _).drew)
  have HH := Lib.hid (Kd.H_drew hH)
  have Hok := Lib.hid hoki
  have Hk := Lib.hid hk
  have Hks := Lib.hid hks
  clear HT hvA hH hoki q3 hk hks hmn
  generalize W.drew = w1 at hc0 hc1 hHeld HD KD HvA HH ⊢
  refine pure_ (i := 1) (N := some 39) (v := ?_) (a' := ?_) #[false, true, false, false, false, false, false, false, false, false, false, false, false] rfl rfl (by kernel_rfl) (fun _ _ _ h => by cases h.1) (Or.inl ⟨by rfl, ?_⟩) ?_ ?_
  rotate_left
  · intro w'
    go_simp
    with_reducible rfl
  rotate_left
  · simp only [Act.put, List.setIfInBounds_toArray, List.set_cons_zero, List.set_cons_succ, i64_w, i32_w]
    rfl
  refine pure_ (i := 3) (N := some 41) (v := ?_) (a' := ?_) #[false, true, false, true, false, false, false, false, false, false, false, false, false] rfl rfl (by kernel_rfl) (fun _ _ _ h => by cases h.1) (Or.inl ⟨by rfl, ?_⟩) ?_ ?_
  rotate_left
  · intro w'
    go_simp
    with_reducible rfl
  rotate_left
  · simp only [Act.put, List.setIfInBounds_toArray, List.set_cons_zero, List.set_cons_succ, i64_w, i32_w]
    rfl
  refine pure_ (i := 7) (N := some 45) (v := ?_) (a' := ?_) #[false, true, false, true, false, false, false, true, false, false, false, false, false] rfl rfl (by kernel_rfl) (fun _ _ _ h => by cases h.1) (Or.inl ⟨by rfl, ?_⟩) ?_ ?_
  rotate_left
  · intro w'
    go_simp
    with_reducible rfl
  rotate_left
  · simp only [Act.put, List.setIfInBounds_toArray, List.set_cons_zero, List.set_cons_succ, i64_w, i32_w]
    rfl
  refine take_ (i := 0) (N := some 38) (v := ?_) (a' := ?_) #[true, true, false, true, false, false, false, true, false, false, false, false, false] rfl rfl (by kernel_rfl) (fun _ _ _ h => by cases h.1) (Or.inl ⟨by rfl, ?_⟩) hHeld ?_ ?_
  rotate_left
  · rintro w' ⟨s0, s1⟩
    go_simp
    with_reducible rfl
  rotate_left
  · simp only [Act.put, List.setIfInBounds_toArray, List.set_cons_zero, List.set_cons_succ, i64_w, i32_w]
    rfl
  refine take_ (i := 2) (N := some 40) (v := ?_) (a' := ?_) #[true, true, true, true, false, false, false, true, false, false, false, false, false] rfl rfl (by kernel_rfl) (fun _ _ _ h => by cases h.1) (Or.inl ⟨by rfl, ?_⟩) hHeld ?_ ?_
  rotate_left
  · rintro w' ⟨s0, s1⟩
    go_simp
    with_reducible rfl
  rotate_left
  · simp only [Act.put, List.setIfInBounds_toArray, List.set_cons_zero, List.set_cons_succ, i64_w, i32_w]
    rfl
  refine pure_ (i := 4) (N := some 42) (v := ?_) (a' := ?_) #[true, true, true, true, true, false, false, true, false, false, false, false, false] rfl rfl (by kernel_rfl) (fun _ _ _ h => by cases h.1) (Or.inl ⟨by rfl, ?_⟩) ?_ ?_
  rotate_left
  · intro w'
    go_simp
    with_reducible rfl
  rotate_left
  · simp only [Act.put, List.setIfInBounds_toArray, List.set_cons_zero, List.set_cons_succ, i64_w, i32_w]
    rfl
  refine pure_ (i := 5) (N := some 43) (v := ?_) (a' := ?_) #[true, true, true, true, true, true, false, true, false, false, false, false, false] rfl rfl (by kernel_rfl) (fun _ _ _ h => by cases h.1) (Or.inl ⟨by rfl, ?_⟩) ?_ ?_
  rotate_left
  · intro w'
    go_simp
    with_reducible rfl
  rotate_left
  · simp only [Act.put, List.setIfInBounds_toArray, List.set_cons_zero, List.set_cons_succ, i64_w, i32_w]
    rfl
  refine take_ (i := 6) (N := some 44) (v := ?_) (a' := ?_) #[true, true, true, true, true, true, true, true, false, false, false, false, false] rfl rfl (by kernel_rfl) (fun _ _ _ h => by cases h.1) (Or.inl ⟨by rfl, ?_⟩) hHeld ?_ ?_
  rotate_left
  · rintro w' ⟨s0, s1⟩
    go_simp
    with_reducible rfl
  rotate_left
  · simp only [Act.put, List.setIfInBounds_toArray, List.set_cons_zero, List.set_cons_succ, i64_w, i32_w]
    rfl
  refine one_ (i := 8) (N := some 46) #[true, true, true, true, true, true, true, true, true, false, false, false, false] rfl rfl (by kernel_rfl) (by decide) (fun K hK => ?_)
  go_simp
  have ha0 := (HD.out.alloc (.cells #[.int .i64 (i : Int)] 3)).bO.cell
  have ha1 : (w1.alloc (.cells #[.int .i64 (i : Int)] 3)).cell? ⟨g, k * 4 + 3, none⟩ = some vA := by
    rw [(below_alloc (Below.refl _ w1) (.cells #[.int .i64 (i : Int)] 3)).cell (p := ⟨g, k * 4 + 3, none⟩) (World.block_lt_of_cell? w1 _ hc1)]
    exact hc1
  clear hc0
  refine hK.out _ _ ⟨ha0, ha1⟩ (fun hHeld => ?_)
  clear hK K
  refine one_ (i := 9) (N := some 47) #[true, true, true, true, true, true, true, true, true, true, false, false, false] rfl rfl (by kernel_rfl) (by decide) (fun K hK => ?_)
  refine Kd.R_append_step (Kd.int .i64) (w0 := w) w.heap.size (by simp [Region.wanted]) (.tmp 44) (.tmp 46) 25 3 (.int .i64 0) 8 rfl Tryz.underlying25 info3r rfl (by decide) (by decide) vA (rs.getD k default).at_ (i : Int) [.int .i64 (i : Int)] (fun q => oki q ∨ True ∧ w1.heap.size ≤ q) (fun _ => False) rfl rfl rfl (fun _ h => h.elim) (fun q hq => .inr ⟨trivial, hq⟩) (Kd.R_mono HvA.out (fun q hq => .inl hq)) HD.out.bel HD.out.bel.size (by have := Hks.out; omega) ?_
  intro v' w2 hr hb hg hat
  obtain ⟨A', m', c', rfl⟩ : ∃ A' m' c', v' = .slice A' m' c' := by obtain ⟨A', c', h⟩ := Kd.R_slice hr; exact ⟨A', _, c', h⟩
  obtain ⟨m1, m2, m3⟩ := HD.out.mid HvA.out hg
  have hb1 : w2.cell? ⟨g, k * 4 + 3, none⟩ = some vA := by rw [m2]; exact hc1
  have hfz := m3 (k * 4 + 3)
  have KG := Lib.hid (KD.out.trans (KeepsOthers.of_grownBy hg (fun j o hj ho => by
    obtain ⟨cells, hc⟩ := Kd.R_typed HvA.out j hj
    rw [hc] at ho
    injection ho with ho
    subst ho
    rfl)))
  have HG := Lib.hid (HD.out.addAt k Hk.out (Kd.H_widen HH.out) Hok.out HvA.out hr hb hg)
  clear hr hb hg hat hc1
  refine hK.out _ _ ⟨m1.cell, hb1⟩ (fun hHeld => ?_)
  clear hK K
  refine norm_ (a' := ?_) ?_ ?_
  rotate_left
  · show Act.put _ (some 47) _ = _
    simp only [Act.put, List.setIfInBounds_toArray, List.set_cons_zero, List.set_cons_succ, i64_w, i32_w]
    rfl
  refine pure_ (i := 10) (N := some 48) (v := ?_) (a' := ?_) #[true, true, true, true, true, true, true, true, true, true, true, false, false] rfl rfl (by kernel_rfl) (fun _ _ _ h => by cases h.1) (Or.inl ⟨by rfl, ?_⟩) ?_ ?_
  rotate_left
  · intro w'
    go_simp
    with_reducible rfl
  rotate_left
  · simp only [Act.put, List.setIfInBounds_toArray, List.set_cons_zero, List.set_cons_succ, i64_w, i32_w]
    rfl
  refine pure_ (i := 11) (N := some 49) (v := ?_) (a' := ?_) #[true, true, true, true, true, true, true, true, true, true, true, true, false] rfl rfl (by kernel_rfl) (fun _ _ _ h => by cases h.1) (Or.inl ⟨by rfl, ?_⟩) ?_ ?_
  rotate_left
  · intro w'
    go_simp
    with_reducible rfl
  rotate_left
  · simp only [Act.put, List.setIfInBounds_toArray, List.set_cons_zero, List.set_cons_succ, i64_w, i32_w]
    rfl
  refine last_ (i := 12) (N := none) #[true, true, true, true, true, true, true, true, true, true, true, true, true] rfl rfl (by kernel_rfl) (by decide) (fun K hK => ?_)
  go_simp
  refine hK.out _ _ ?_
  refine done_ (by kernel_rfl) ?_
  exact ⟨rfl, _, _, _, _, _, _, _, _, _, _, _, _, rfl, HG.out, KG.out.trans (KeepsOthers.setCell _ _ _)⟩
end Go.Proofs.YtdpifkhkemeclaaGreat
namespace Go.Proofs.YtdpifkhkemeclaaGreat
open Go.RowKit Go.Shelf Go.Proofs.YtdpifkhkemeclaaGreatW.PrintWords
attribute [local go_sem] Oper.semAt_some
def RIG (w : World) (lv : Value) (l : List (Nat × Int)) (W : World) : Prop := ∃ vO, RG w lv (runsOf l) vO W
theorem RIG.kp {w W W' : World} {lv : Value} {l l' : List (Nat × Int)} (h : RIG w lv l W) (h' : RIG w lv l' W') (hs : W.heap.size ≤ W'.heap.size) : KpB (w.heap.size + 1) w.heap.size W W' := by
  obtain ⟨vO, h⟩ := h
  obtain ⟨vO', h'⟩ := h'
  refine ⟨hs, fun k hk hlt => ?_⟩
  rcases hk with hk | rfl
  · rw [h'.bel.block k hk, h.bel.block k hk]
  · rw [show W'.heap[w.heap.size + 1]? = _ from h'.bS, show W.heap[w.heap.size + 1]? = _ from h.bS]
theorem RIG.own {w : World} {lv : Value} {B : Nat} (hB : w.heap.size ≤ B) {α : Type} (F : α → List (Nat × Int)) : OwnFrom B (fun (s : α) W => RIG w lv (F s) W) := by
  rintro s W W' row ⟨vO, h⟩ hg hr
  exact ⟨vO, h.own hB hg hr⟩
theorem RG.new {w W W' : World} {lv vO vO' : Value} {rs : List RunR} {z : Int} {i m : Nat} (h : RG w lv rs vO W) (hm : rs.length = m) {f : Nat → Nat} {inner : List Value}
    (h0 : ∀ k, vO.ownBlock = some k → True) (hr : Reps ((Kd.tag f dRun).M (W.alloc (.cells #[.int .i64 z, .int .i64 (i : Int), .int .i64 0, .slice none 0 0] 85)) w.heap.size (fun k => True ∧ some k ≠ vO.ownBlock)) 4 rs.zipIdx inner)
    (hown : W'.ownsRow w.heap.size 85 4 vO' (m + 1) (inner ++ [.int .i64 z, .int .i64 (i : Int), .int .i64 0, .slice none 0 0])) (hg : (W.alloc (.cells #[.int .i64 z, .int .i64 (i : Int), .int .i64 0, .slice none 0 0] 85)).grownBy W' vO.ownBlock)
    (hat : vO'.ownBlock = vO.ownBlock ∨ vO'.ownBlock = some (W.alloc (.cells #[.int .i64 z, .int .i64 (i : Int), .int .i64 0, .slice none 0 0] 85)).heap.size) :
    RG w lv (rs ++ [⟨z, i, 0, []⟩]) vO' (W'.setCell ⟨w.heap.size, 0, none⟩ vO') ∧ W'.cell? ⟨w.heap.size, 0, none⟩ = some vO ∧ W'.frozen? ⟨w.heap.size, 0, none⟩ = false ∧ KeepsOthers W (W'.setCell ⟨w.heap.size, 0, none⟩ vO') := by
  subst hm
  have hA := h.alloc (.cells #[.int .i64 z, .int .i64 (i : Int), .int .i64 0, .slice none 0 0] 85)
  have hS : Kd.S dRun 85 W' w.heap.size (fun _ => True) vO' (rs ++ [⟨z, i, 0, []⟩]) :=
    S_appended (W0 := w) (ok := fun _ => True) h0 hr (dRun_mk (r := ⟨z, i, 0, []⟩) (Kd.R_nil _ _ _ _ _)) (fun _ _ => trivial) hown hg (hat.imp id (fun e => ⟨_, e, Nat.le_refl _⟩))
  have hvne : ∀ b t u, Boxed (W.alloc (.cells #[.int .i64 z, .int .i64 (i : Int), .int .i64 0, .slice none 0 0] 85)) b t u → 85 ≠ t → some b ≠ vO.ownBlock := by
    intro b t u hbx ht e
    obtain ⟨cells', hc'⟩ := Kd.S_typed hA.rR b e.symm
    unfold Boxed at hbx
    rw [hbx] at hc'
    injection hc' with hc'
    injection hc' with _ hc'
    exact ht hc'.symm
  have b1 := hA.bO.kept hg (hvne _ _ _ hA.bO (by decide))
  have b2 := hA.bS.kept hg (hvne _ _ _ hA.bS (by decide))
  have hb1 : Below w.heap.size w W' := hA.bel.grown hg hA.bel.size (fun k e => Kd.S_base hA.rR k e)
  refine ⟨⟨hb1.setCell (p := ⟨w.heap.size, 0, none⟩) (Nat.le_refl _) _, b1.set _, b2.other (by omega) _, Kd.S_set hS b1 (by rw [dRun_E]; decide) 0 vO'⟩, b1.cell, b1.frozen, ?_⟩
  exact ((KeepsOthers.alloc W _).trans (KeepsOthers.of_grownBy hg (fun j o hj ho => by
    obtain ⟨cells, hc⟩ := Kd.S_typed hA.rR j hj
    rw [hc] at ho
    injection ho with ho
    subst ho
    rfl))).trans (KeepsOthers.setCell _ _ _)
theorem runStep_new {rs : List RunR} {i : Nat} {z : Int} (h : rs = [] ∨ (rs.getD (rs.length - 1) default).lv ≠ z) :
    runStep rs (i, z) = ((rs ++ [(⟨z, i, 0, []⟩ : RunR)]).set rs.length { (rs ++ [(⟨z, i, 0, []⟩ : RunR)]).getD rs.length default with en := (i : Int) }).set rs.length { ((rs ++ [(⟨z, i, 0, []⟩ : RunR)]).set rs.length { (rs ++ [(⟨z, i, 0, []⟩ : RunR)]).getD rs.length default with en := (i : Int) }).getD rs.length default with at_ := (((rs ++ [(⟨z, i, 0, []⟩ : RunR)]).set rs.length { (rs ++ [(⟨z, i, 0, []⟩ : RunR)]).getD rs.length default with en := (i : Int) }).getD rs.length default).at_ ++ [(i : Int)] } := by
  have e : runNew rs i z = rs ++ [(⟨z, i, 0, []⟩ : RunR)] := if_pos h
  show runAt (runTo (runNew rs i z) i) i = _
  rw [e]
  unfold runAt runTo
  simp only [List.length_set, List.length_append, List.length_singleton, Nat.add_sub_cancel]
theorem runStep_old {rs : List RunR} {i k : Nat} {z : Int} (hk : rs.length = k + 1) (h : (rs.getD k default).lv = z) :
    runStep rs (i, z) = (rs.set k { rs.getD k default with en := (i : Int) }).set k { (rs.set k { rs.getD k default with en := (i : Int) }).getD k default with at_ := ((rs.set k { rs.getD k default with en := (i : Int) }).getD k default).at_ ++ [(i : Int)] } := by
  have h' : ¬ (rs = [] ∨ (rs.getD (rs.length - 1) default).lv ≠ z) := by
    rintro (rfl | h2)
    · simp at hk
    · rw [hk, Nat.add_sub_cancel] at h2
      exact h2 h
  have e : runNew rs i z = rs := if_neg h'
  show runAt (runTo (runNew rs i z) i) i = _
  rw [e]
  unfold runAt runTo
  simp only [List.length_set, hk, Nat.add_sub_cancel]
def PB (x : Nat × Int) : Prop := x.1 < 1048576
set_option maxRecDepth 100000 in
set_option maxHeartbeats 8000000 in
theorem runs_all (n : Nat) (hn : 5 ≤ n) (lv : Value) (a : Option Addr) (len cap : Nat) (hlv : lv = .slice a len cap) (zs : List Int) (hz : zs.length ≤ 1048576) (w : World) (hI : IntsB w.heap.size w lv zs) :
    CallsIn Fence.wide n Tryz.prog 59 #[lv] w fun e W' => ∃ vO, e = .returned vO ∧ RG w lv (runsOf (kpTo zs zs.length)) vO W' := by
  have h1 : 1 ≤ n := by omega
  have hro : (Fence.wide).round = none := rfl
  have HI := Lib.hid hI
  subst hlv
  clear hI
  refine callsIn_of_wp_marks Tryz.func59 rfl trivial ?_ hro
  simp only [Tryz.ntmps59, List.size_toArray, List.length_cons, List.length_nil, Nat.reduceAdd, Nat.reduceSub, Array.replicate_succ, Array.replicate_zero, List.push_toArray, List.append_toArray, List.nil_append, List.cons_append]
  gi_wp2_with (refine ⟨trivial, ?_⟩; gi_at_call 97; refine (kp_in Fence.wide (n - 1) trivial hro _ _ _ _).mono ?_; rintro e w' ⟨rfl, rfl⟩)
  have cS : Boxed ((w.alloc (.cells #[.slice none 0 0] 81)).alloc (.cells #[.slice a len cap] 25)) (w.heap.size + 1) 25 (.slice a len cap) := by
    have := Boxed.new (w.alloc (.cells #[.slice none 0 0] 81)) 25 (.slice a len cap)
    rwa [World.size_alloc] at this
  have cO : Boxed ((w.alloc (.cells #[.slice none 0 0] 81)).alloc (.cells #[.slice a len cap] 25)) w.heap.size 81 (.slice none 0 0) := (Boxed.new w 81 _).alloc _
  have hB0 : Below w.heap.size w ((w.alloc (.cells #[.slice none 0 0] 81)).alloc (.cells #[.slice a len cap] 25)) := ((Below.refl _ w).alloc (Nat.le_refl _) _).alloc (by simp) _
  obtain ⟨W0, hW0⟩ : ∃ W0, W0 = (w.alloc (.cells #[.slice none 0 0] 81)).alloc (.cells #[.slice a len cap] 25) := ⟨_, rfl⟩
  have hsz : W0.heap.size = w.heap.size + 2 := by rw [hW0]; simp
  rw [← hW0] at cS cO hB0 ⊢
  have hI0 : IntsB w.heap.size W0 (.slice a len cap) zs := HI.out.below hB0
  clear hW0
  refine wpIn_rangeFunc_ownG hro h1 (gf := 134) (lb := #[.pointer (some ⟨w.heap.size + 1, 0, none⟩)]) rfl trivial (enters_of Tryz.func134 (by kernel_rfl) rfl)
    (kp_stopsP Fence.wide (n - 1) trivial hro (by omega) (w.heap.size + 1) w.heap.size _ zs PB (fun k hk h0 => by show k < _; omega) (by omega) W0 (by omega) (by omega) cS.cell hI0) KpB.trans (KpB.put (by omega) (by omega)) (Below.refl _ _) (fun _ => rfl)
    (fun pre W => RIG w (.slice a len cap) (pre.map (fun x => x.1)) W) (fun _ _ _ => False)
    (RIG.own (by omega) _) (fun cd s A B row h => h.elim) ⟨_, hB0, cO, cS, Kd.S_nil _ _ _ _ _⟩
    (fun x => { tmps := #[.slice a len cap, undef, .slice none 0 0, .pointer (some ⟨w.heap.size, 0, none⟩), .int .i64 (x.1.1 : Int), .int .i64 x.1.2, undef, .slice a len cap, .func (.func 134) #[] #[.pointer (some ⟨w.heap.size + 1, 0, none⟩)], .int .i64 (x.1.1 : Int), .int .i64 x.1.2, undef, undef, undef, undef, undef, undef, undef, undef, undef, undef, undef, undef, undef, undef, undef, undef, undef, undef, undef, undef, undef, undef, undef, undef, undef, undef, undef, undef, undef, undef, undef, undef, undef, undef, undef, undef, undef, undef, undef, undef], defers := [] }) ?assign ?body ?done ?stop
  case assign =>
    intro l x W K hK
    gi_wp2
    exact hK
  case body =>
    rintro l pre ⟨⟨i, z⟩, hib⟩ W hR hlen
    have Hib : Hid (i < 1048576) := Lib.hid hib
    obtain ⟨pl, hpl⟩ : ∃ pl, pl = pre.map (fun x => x.1) := ⟨_, rfl⟩
    have hpk : (pre ++ [(⟨(i, z), hib⟩ : { x : Nat × Int // PB x })]).map (fun x => x.1) = pl ++ [(i, z)] := by rw [hpl]; simp
    have hkl : pl.length ≤ 1048576 := by rw [hpl, List.length_map]; omega
    rw [← hpl] at hR
    have HR := Lib.hid hR
    have Hpk := Lib.hid hpk
    obtain ⟨vO, hG⟩ := hR
    obtain ⟨rs, hrs⟩ : ∃ rs, rs = runsOf pl := ⟨_, rfl⟩
    have Hrl : Hid (rs.length ≤ 1048576 ∧ ∀ j, (rs.getD j default).at_.length ≤ 1048576) := Lib.hid (by rw [hrs]; exact ⟨Nat.le_trans (runsOf_len pl) hkl, fun j => Nat.le_trans (runsOf_at pl j) hkl⟩)
    rw [← hrs] at hG
    have Hrs := Lib.hid hrs
    have HG := Lib.hid hG
    clear hpl hpk hrs hG hkl
    have fin : Hid (∀ vO' W', RG w (.slice a len cap) (runStep rs (i, z)) vO' W' → KeepsOthers W W' → RIG w (.slice a len cap) (pl ++ [(i, z)]) W' ∧ KpB (w.heap.size + 1) w.heap.size W W') := Lib.hid (fun vO' W' h hk => by
      have h2 : RIG w (.slice a len cap) (pl ++ [(i, z)]) W' := ⟨vO', by rw [runsOf_snoc, ← Hrs.out]; exact h⟩
      exact ⟨h2, HR.out.kp h2 hk.size⟩)
    by_cases hnew : rs = [] ∨ (rs.getD (rs.length - 1) default).lv ≠ z
    · obtain ⟨m, hm⟩ : ∃ m, rs.length = m := ⟨_, rfl⟩
      have Hm : Hid (rs.length = m ∧ m ≤ 1048576) := Lib.hid ⟨hm, by have := Hrl.out.1; omega⟩
      have Hst : Hid (runStep rs (i, z) = _) := Lib.hid (runStep_new (i := i) hnew)
      obtain ⟨A, c, rfl⟩ := Kd.S_slice HG.out.rR
      rw [hm] at HG
      obtain ⟨f, h0, inner, hown, hr⟩ := (HG.out.alloc (.cells #[.int .i64 z, .int .i64 (i : Int), .int .i64 0, .slice none 0 0] 85)).rR
      rw [List.length_zipIdx] at hown
      have H0 := Lib.hid h0
      have Hr := Lib.hid hr
      have Hown : Hid ((W.alloc (.cells #[.int .i64 z, .int .i64 (i : Int), .int .i64 0, .slice none 0 0] 85)).ownsRow w.heap.size 85 4 (.slice A m c) m inner) := Lib.hid (by rw [hm] at hown; exact hown)
      have q1 := HG.out.bO.cell
      have q1f := HG.out.bO.frozen
      obtain ⟨i85, hi85, hz0, hz1, hz2⟩ := info_parts info85r
      clear h0 hr hown
      have hcase : (m = 0) ∨ (∃ k g, m = k + 1 ∧ A = some ⟨g, 0, none⟩ ∧ ∃ y, W.cell? ⟨g, k * 4, none⟩ = some (.int .i64 y) ∧ (y != z) = true) := by
        cases m with
        | zero => exact .inl rfl
        | succ k =>
          refine .inr ?_
          have hne : rs ≠ [] := by intro e; rw [e] at hm; cases hm
          obtain ⟨g, c', e, _, _, _⟩ := HG.out.form hne
          injection e with e1 e2 e3
          subst e1
          refine ⟨k, g, rfl, rfl, _, HG.out.q0 k (by omega), ?_⟩
          rcases hnew with h | h
          · exact absurd h hne
          · rw [hm, Nat.add_sub_cancel] at h
            simpa using h
      clear hm hnew
      have HF : Hid (rs.length = m) := Lib.hid Hm.out.1
      rcases hcase with rfl | ⟨k, g, rfl, rfl, y, q2, hyz⟩
      · gi_wp2_with (gi_at_builtin; refine wpListIn_append_at _ rfl _ _ 81 rfl w.heap.size 85 i85 (.agg #[.int .i64 0, .int .i64 0, .int .i64 0, .slice none 0 0]) 4 48 Tryz.underlying81 hi85 hz0 hz1 hz2 rfl (by decide) (.slice A 0 c) 0 inner rfl Hown.out ⟨W.heap.size, 0, none⟩ 1 1 [.int .i64 z, .int .i64 (i : Int), .int .i64 0, .slice none 0 0] rfl rfl (cells_new4 _ _ _ _ _ _) (by intro u hu; simp at hu; rcases hu with rfl | rfl | rfl | rfl <;> rfl) (by have := Hm.out.2; unfold maxLen; omega) (by have := Hm.out.2; omega) (by have := HG.out.bel.size; simp; omega) ?_; intro v' w1 hown' hgrow hat; obtain ⟨g', cap', rfl⟩ := ownsRow_succ hown'; have HN := Lib.hid (HG.out.new Hm.out.1 H0.out Hr.out hown' hgrow hat); have s1 := HN.out.2.1; have s2 := HN.out.2.2.1; have s3 := HN.out.1.bO.cell; have hl7 : 0 < (rs ++ [(⟨z, i, 0, []⟩ : RunR)]).length := (by simp [Hm.out.1]); have s4 := HN.out.1.q2 0 hl7; have s6 := HN.out.1.fz 0 hl7 2; have F7 := Lib.hid (HN.out.1.setTo 0 hl7 i); clear hown' hgrow hat hl7)
        refine reg10G l _ i (k := 0) F7.out.1 (by rw [List.length_set, List.length_append, List.length_singleton, HF.out]; exact Nat.lt_succ_self _) (by rw [getD_set_self _ _ _ _ (by rw [List.length_append, List.length_singleton, HF.out]; exact Nat.lt_succ_self _), List.getD_eq_getElem?_getD, List.getElem?_append_right (Nat.le_of_eq HF.out), HF.out, Nat.sub_self]; exact Nat.zero_le _) (by have := Hm.out.2; omega) _ _ _ _ _ _ _ _ _ _ _ _ _ _ _ _ _ _ _ _ _ _ _ _ _ _ _ _ _ _ _ _ _ _ _ _ _ _ _ _ _ _ _ _ _ _ _ _ _ ?_
        intro _ _ _ _ _ _ _ _ _ _ _ _ W2 hRT hK2
        gi_wp2
        obtain ⟨e1, e2⟩ := fin.out _ W2 (by rw [Hst.out, HF.out]; exact hRT) ((HN.out.2.2.2.trans F7.out.2).trans hK2)
        exact ⟨((HN.out.2.2.2.trans F7.out.2).trans hK2).from _, e2, by show RIG w _ (List.map _ (pre ++ [_])) W2; rw [Hpk.out]; exact e1⟩
      · have hkl : k < 1048576 := by have := Hm.out.2; omega
        gi_wp2_with (gi_at_builtin; refine wpListIn_append_at _ rfl _ _ 81 rfl w.heap.size 85 i85 (.agg #[.int .i64 0, .int .i64 0, .int .i64 0, .slice none 0 0]) 4 48 Tryz.underlying81 hi85 hz0 hz1 hz2 rfl (by decide) (.slice (some ⟨g, 0, none⟩) (k + 1) c) (k + 1) inner rfl Hown.out ⟨W.heap.size, 0, none⟩ 1 1 [.int .i64 z, .int .i64 (i : Int), .int .i64 0, .slice none 0 0] rfl rfl (cells_new4 _ _ _ _ _ _) (by intro u hu; simp at hu; rcases hu with rfl | rfl | rfl | rfl <;> rfl) (by have := Hm.out.2; unfold maxLen; omega) (by have := Hm.out.2; omega) (by have := HG.out.bel.size; simp; omega) ?_; intro v' w1 hown' hgrow hat; obtain ⟨g', cap', rfl⟩ := ownsRow_succ hown'; have HN := Lib.hid (HG.out.new Hm.out.1 H0.out Hr.out hown' hgrow hat); have s1 := HN.out.2.1; have s2 := HN.out.2.2.1; have s3 := HN.out.1.bO.cell; have hl7 : (k + 1) < (rs ++ [(⟨z, i, 0, []⟩ : RunR)]).length := (by simp [Hm.out.1]); have s4 := HN.out.1.q2 (k + 1) hl7; have s6 := HN.out.1.fz (k + 1) hl7 2; have F7 := Lib.hid (HN.out.1.setTo (k + 1) hl7 i); clear hown' hgrow hat hl7)
        refine reg10G l _ i (k := k + 1) F7.out.1 (by rw [List.length_set, List.length_append, List.length_singleton, HF.out]; exact Nat.lt_succ_self _) (by rw [getD_set_self _ _ _ _ (by rw [List.length_append, List.length_singleton, HF.out]; exact Nat.lt_succ_self _), List.getD_eq_getElem?_getD, List.getElem?_append_right (Nat.le_of_eq HF.out), HF.out, Nat.sub_self]; exact Nat.zero_le _) (by have := Hm.out.2; omega) _ _ _ _ _ _ _ _ _ _ _ _ _ _ _ _ _ _ _ _ _ _ _ _ _ _ _ _ _ _ _ _ _ _ _ _ _ _ _ _ _ _ _ _ _ _ _ _ _ ?_
        intro _ _ _ _ _ _ _ _ _ _ _ _ W2 hRT hK2
        gi_wp2
        obtain ⟨e1, e2⟩ := fin.out _ W2 (by rw [Hst.out, HF.out]; exact hRT) ((HN.out.2.2.2.trans F7.out.2).trans hK2)
        exact ⟨((HN.out.2.2.2.trans F7.out.2).trans hK2).from _, e2, by show RIG w _ (List.map _ (pre ++ [_])) W2; rw [Hpk.out]; exact e1⟩
    · obtain ⟨hne, hlv⟩ : rs ≠ [] ∧ (rs.getD (rs.length - 1) default).lv = z := ⟨fun e => hnew (.inl e), Classical.byContradiction (fun e => hnew (.inr e))⟩
      obtain ⟨k, hk⟩ : ∃ k, rs.length = k + 1 := ⟨rs.length - 1, by have := List.length_pos_iff.2 hne; omega⟩
      obtain ⟨g, c, rfl, _, _, _⟩ := HG.out.form hne
      rw [hk, Nat.add_sub_cancel] at hlv
      rw [hk] at HG
      have Hst := Lib.hid (runStep_old (i := i) hk hlv)
      have hkl : k < 1048576 := by have := Hrl.out.1; omega
      have q1 := HG.out.bO.cell
      have q2 := HG.out.q0 k (by omega)
      have q3 := HG.out.q2 k (by omega)
      have q5 := HG.out.fz k (by omega) 2
      rw [hlv] at q2
      have F7 := Lib.hid (HG.out.setTo k (by omega) i)
      have Hk := Lib.hid hk
      clear hk hlv hne hnew
      gi_wp2
      refine reg10G l _ i (k := k) F7.out.1 (by rw [List.length_set, Hk.out]; exact Nat.lt_succ_self k) (by have h5 := Hrl.out.2 k; have h6 := Hk.out; rw [getD_set_self _ _ _ _ (by omega)]; exact h5) (by have := Hrl.out.1; omega) _ _ _ _ _ _ _ _ _ _ _ _ _ _ _ _ _ _ _ _ _ _ _ _ _ _ _ _ _ _ _ _ _ _ _ _ _ _ _ _ _ _ _ _ _ _ _ _ _ ?_
      intro _ _ _ _ _ _ _ _ _ _ _ _ W2 hRT hK2
      gi_wp2
      obtain ⟨e1, e2⟩ := fin.out _ W2 (by rw [Hst.out]; exact hRT) (F7.out.2.trans hK2)
      exact ⟨(F7.out.2.trans hK2).from _, e2, by show RIG w _ (List.map _ (pre ++ [_])) W2; rw [Hpk.out]; exact e1⟩
  case done =>
    rintro D ys W hD hS hR hK
    have hR2 : RIG w (.slice a len cap) (ys.map (fun x => x.1)) (W.putObj D (.deferred none)) := RIG.own (w := w) (lv := .slice a len cap) (B := W0.heap.size) (by omega) (fun (ys : List { x : Nat × Int // PB x }) => ys.map (fun x => x.1)) ys W _ (some D) hR (grownBy_putObj' W D (.deferred none)) (fun r e => by cases e; exact ⟨hD, _, hK, rfl⟩)
    have hks : ys.map (fun x => x.1) = kpTo zs zs.length := hS
    rw [hks] at hR2
    obtain ⟨vO, hG⟩ := hR2
    have q1 : W.cell? ⟨w.heap.size, 0, none⟩ = some vO := by
      obtain ⟨vO', hG'⟩ := hR
      have e1 := hG'.bO.cell
      have e2 := hG.bO.cell
      have e3 : (W.putObj D (.deferred none)).cell? ⟨w.heap.size, 0, none⟩ = W.cell? ⟨w.heap.size, 0, none⟩ := by
        unfold World.cell?
        rw [(grownBy_putObj' W D (.deferred none)).block w.heap.size (hG'.bO.lt) (fun e => by injection e with e; omega)]
      rw [← e3]
      exact e2
    have HK := Lib.hid hK
    have HG2 := Lib.hid hG
    clear hK hG hS hks hR
    gi_wp2
    refine ⟨by simp, .inl ⟨_, _, rfl, run_takeDeferred HK.out, ?_⟩⟩
    exact ⟨_, results_tmp Tryz.results59 _ _ _, vO, rfl, HG2.out⟩
  case stop =>
    rintro D cd pre W hD hS h hK
    exact h.elim
end Go.Proofs.YtdpifkhkemeclaaGreat
