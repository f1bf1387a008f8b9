/- The builtin 'clear' over a row of the call's own: another row of its own stays as it is. -/
import Derived.Test.YtdpifkhkemeclaaGreatPZx0
import Derived.Lib.SliceRun
namespace Go.Proofs.YtdpifkhkemeclaaGreat
open Go.RowKit Go.Proofs.YtdpifkhkemeclaaGreatW.PrintWords Go.Proofs.YtdpifkhkemeclaaGreat.PZ
theorem zeroOf3 (w : World) : (zeroValue 3).run Tryz.prog w = .ok (.int .i64 0) w := by kernel_rfl
theorem clear_empty (A : Option Addr) (c : Nat) (ty : TypeId) (w : World) : (Builtin.clear_ #[25] ty #[.slice A 0 c]).run Tryz.prog w = .ok (.tuple #[]) w := by
  cases A <;> simp [Builtin.clear_, run_underlying Tryz.underlying25]
theorem below_clear {B b : Nat} {a : World} (hb : B ≤ b) : ∀ (vs : List Value) (o : Nat) {w : World}, Below B a w → Below B a (w.setCells b o vs)
  | [], _, _, h => h
  | v :: r, o, _, h => below_clear hb r (o + 1) (h.setCell (p := ⟨b, o, none⟩) hb v)
theorem wpList_clear_own {ops : Array Oper} {rest : List Oper} {a : Act} {Q : Exit → Act → World → Prop} {W w : World} {x : Operand} {ty : TypeId} {pos : String} {after : Array Edge}
    {okl : Nat → Prop} {vl : Value} {tl : List Int} (hx : a.eval x = vl)
    (hl : Kd.R (Kd.int .i64) 3 W w.heap.size okl vl tl) (hb : Below w.heap.size w W)
    (h : ∀ W', (∀ (oko : Nat → Prop) (vo : Value) (lo : List Int), Kd.R (Kd.int .i64) 3 W w.heap.size oko vo lo → (∀ k, okl k → some k ≠ vo.ownBlock) → Kd.R (Kd.int .i64) 3 W' w.heap.size oko vo lo) → (∀ (oko : Nat → Prop) (vo : Value) (lo : List S38), Kd.R k38 38 W w.heap.size oko vo lo → Kd.R k38 38 W' w.heap.size oko vo lo) → Below w.heap.size w W' → wpList Tryz.prog ops Q rest a W') :
    wpList Tryz.prog ops Q ({ dst := none, op := .call { callee := .builtin .clear, args := #[x], argTypes := #[25] }, type := ty, pos := pos, after := after, guard := none } :: rest) a W := by
  have key : ∃ W', (Builtin.clear_ #[25] ty #[vl]).run Tryz.prog W = .ok (.tuple #[]) W' ∧ (∀ (oko : Nat → Prop) (vo : Value) (lo : List Int), Kd.R (Kd.int .i64) 3 W w.heap.size oko vo lo → (∀ k, okl k → some k ≠ vo.ownBlock) → Kd.R (Kd.int .i64) 3 W' w.heap.size oko vo lo) ∧ (∀ (oko : Nat → Prop) (vo : Value) (lo : List S38), Kd.R k38 38 W w.heap.size oko vo lo → Kd.R k38 38 W' w.heap.size oko vo lo) ∧ Below w.heap.size w W' := by
    by_cases h0 : tl.length = 0
    · obtain ⟨A, c, rfl⟩ := Kd.R_slice hl
      rw [h0]
      exact ⟨W, clear_empty A c ty W, fun _ _ _ h _ => h, fun _ _ _ h => h, hb⟩
    · obtain ⟨g, cap, rfl, hg1, hg2, cells, hc⟩ := Kd.R_form hl (by omega)
      have hgl : okl g := hl.1 g rfl
      have hread := (Kd.R_reads' hl).2.2
      refine ⟨W.setCells g 0 (List.replicate tl.length (.int .i64 0)), ?_, ?_, fun oko vo lo hown => ?_, below_clear hg1 _ _ hb⟩
      · refine Lib.run_clear_slice W 25 3 ty (.int .i64 0) Tryz.underlying25 zeroOf3 rfl rfl g 0 _ _ (by omega) (fun j hj => ?_) (fun j hj => frozen_of_row _ _ _ _ _ hc)
        obtain ⟨ad, e, hcell⟩ := Kd.at_int hread (j : Int) (by omega) (by omega)
        cases e
        have hz : (⟨g, 0, none⟩ : Addr).add (j : Int).toNat = ⟨g, 0 + j, none⟩ := by rw [Int.toNat_natCast, add_plain, Nat.zero_add]
        rw [← hz, hcell]
        rfl
      · -- the other row's block is another one
        intro oko vo lo hown hne
        obtain ⟨hok, hrest⟩ := hown
        have hbnd := Kd.R_bound (d := Kd.int .i64) ⟨hok, hrest⟩
        have hmv := Kd.R_move (w1 := W.setCells g 0 (List.replicate tl.length (.int .i64 0))) (d := Kd.int .i64) (ok := fun k => oko k ∧ k ≠ g) (e := 3) (base := w.heap.size) (v := vo) (xs := lo)
          ⟨fun k hk => ⟨hok k hk, fun e => hne g hgl (by rw [← e, hk])⟩, hrest⟩
          (fun k hk => setCells_far _ _ k hk.2)
        exact Kd.R_mono hmv (fun k hk => hk.1)
      · refine Kd.R_mono (Kd.R_move (Kd.R_bound hown) (fun k hk => setCells_far _ _ k (fun e => ?_))) (fun _ hk => hk.1)
        subst e
        obtain ⟨_, _, _, q, hq, cells', hc'⟩ := hk
        rw [hc] at hc'
        injection hc' with hc'
        injection hc' with _ hc'
        have : ∀ q, q ∈ 38 :: k38.E → q ≠ 3 := by decide
        exact this q hq hc'.symm
  obtain ⟨W', hrun, hR, hR2, hB⟩ := key
  refine wpList_plain rfl fun K hK => ?_
  unfold Oper.wp
  have hr : (execOp a.eval { dst := none, op := .call { callee := .builtin .clear, args := #[x], argTypes := #[25] }, type := ty, pos := pos, after := after, guard := none }).run Tryz.prog W = .ok (.value (.tuple #[])) W' := by
    rw [BigFrame.execOp_builtin, BigFrame.builtin_clear]
    have e : (#[x].map a.eval) = #[vl] := by simp [hx]
    rw [e]
    simp [hrun]
  rw [hr]
  exact hK _ _ (h W' hR hR2 hB)
end Go.Proofs.YtdpifkhkemeclaaGreat
