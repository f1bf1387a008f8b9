/- edit.Do: all its steps. edit.Do and sheet.Get as the print wants them. -/
import Derived.Test.YtcofacgdijjnoaaGreatPax
import Derived.Test.YtcofacgdijjnoaaGreatPay
section
namespace Go.Proofs.YtcofacgdijjnoaaGreat
open PE (S31 S44 S49 k44 k49 k31)
open Go.RowKit Go.Shelf Go.Lib Go.Proofs.YtcofacgdijjnoaaGreatW.PrintWords Go.Proofs.YtcofacgdijjnoaaGreatW.PrintLast Go.Proofs.YtcofacgdijjnoaaGreatW.PrintMore
set_option linter.unusedVariables false
set_option linter.unusedSimpArgs false
set_option maxRecDepth 100000
set_option maxHeartbeats 2000000
theorem steps_any : ∀ k, 1 ≤ k → k ≤ 11 → StepC (38 + k) (stepF k) := by
  intro k h1 h2
  match k, h1, h2 with
  | 1, _, _ => exact set_any
  | 2, _, _ => exact style_any
  | 3, _, _ => exact merge_any
  | 4, _, _ => exact unmerge_any
  | 5, _, _ => exact insertRows_any
  | 6, _, _ => exact deleteRows_any
  | 7, _, _ => exact insertCols_any
  | 8, _, _ => exact deleteCols_any
  | 9, _, _ => exact high_any
  | 10, _, _ => exact wide_any
  | 11, _, _ => exact flip_any
end Go.Proofs.YtcofacgdijjnoaaGreat
end
section
namespace Go.Proofs.YtcofacgdijjnoaaGreat
open PE (S31 S44 S49 k44 k49 k31)
open Go.RowKit Go.Shelf Go.Lib Go.Proofs.YtcofacgdijjnoaaGreatW.PrintWords Go.Proofs.YtcofacgdijjnoaaGreatW.PrintLast Go.Proofs.YtcofacgdijjnoaaGreatW.PrintMore
set_option linter.unusedVariables false
set_option linter.unusedSimpArgs false
set_option maxRecDepth 100000
set_option maxHeartbeats 2000000
instance (s : Sh) : Decidable (Few s) := by unfold Few; infer_instance
instance (x : St) : Decidable (WSt x) := by unfold WSt; infer_instance
def edit_Do.f (a0 : Int) (l1 l2 : List Int) (l3 : List S44) (l4 : List S49) (b0 b1 b2 b3 b4 b5 b6 : Int) (b7 : ByteArray) (b8 b9 b10 : Int) : Option (Int × List Int × List Int × List S44 × List S49 × Int) :=
  if WS ⟨a0, l1, l2, l3, l4⟩ ∧ Few ⟨a0, l1, l2, l3, l4⟩ ∧ WSt ⟨b0, b1, b2, b3, b4, b5, b6, b7, ⟨b8, b9, b10⟩⟩ then
    some ((doF ⟨a0, l1, l2, l3, l4⟩ ⟨b0, b1, b2, b3, b4, b5, b6, b7, ⟨b8, b9, b10⟩⟩).1.rt, (doF ⟨a0, l1, l2, l3, l4⟩ ⟨b0, b1, b2, b3, b4, b5, b6, b7, ⟨b8, b9, b10⟩⟩).1.wd, (doF ⟨a0, l1, l2, l3, l4⟩ ⟨b0, b1, b2, b3, b4, b5, b6, b7, ⟨b8, b9, b10⟩⟩).1.ht, (doF ⟨a0, l1, l2, l3, l4⟩ ⟨b0, b1, b2, b3, b4, b5, b6, b7, ⟨b8, b9, b10⟩⟩).1.ce, (doF ⟨a0, l1, l2, l3, l4⟩ ⟨b0, b1, b2, b3, b4, b5, b6, b7, ⟨b8, b9, b10⟩⟩).1.me, (doF ⟨a0, l1, l2, l3, l4⟩ ⟨b0, b1, b2, b3, b4, b5, b6, b7, ⟨b8, b9, b10⟩⟩).2)
  else none
theorem edit_Do.calls (a0_0 : Int) (A0_1 : Option Addr) (c0_1 : Nat) (l0_1 : List Int) (A0_2 : Option Addr) (c0_2 : Nat) (l0_2 : List Int) (A0_3 : Option Addr) (c0_3 : Nat) (l0_3 : List (S44)) (A0_4 : Option Addr) (c0_4 : Nat) (l0_4 : List (S49)) (a1_0 a1_1 a1_2 a1_3 a1_4 a1_5 a1_6 : Int) (a1_7 : ByteArray) (a1_8 a1_9 a1_10 : Int) (r1 : Int) (r2 : List Int) (r3 : List Int) (r4 : List (S44)) (r5 : List (S49)) (r6 : Int) (w : World) (hr0_1 : Kd.C (Kd.int .i64) w A0_1 l0_1.length l0_1) (hc0_1 : l0_1.length ≤ c0_1) (hr0_2 : Kd.C (Kd.int .i64) w A0_2 l0_2.length l0_2) (hc0_2 : l0_2.length ≤ c0_2) (hr0_3 : Kd.C k44 w A0_3 l0_3.length l0_3) (hc0_3 : l0_3.length ≤ c0_3) (hr0_4 : Kd.C k49 w A0_4 l0_4.length l0_4) (hc0_4 : l0_4.length ≤ c0_4)
    (h : edit_Do.f a0_0 l0_1 l0_2 l0_3 l0_4 a1_0 a1_1 a1_2 a1_3 a1_4 a1_5 a1_6 a1_7 a1_8 a1_9 a1_10 = some (r1, r2, r3, r4, r5, r6)) :
    Calls Tryz.prog 9 #[.agg #[.int .i64 a0_0, .slice A0_1 l0_1.length c0_1, .slice A0_2 l0_2.length c0_2, .slice A0_3 l0_3.length c0_3, .slice A0_4 l0_4.length c0_4], .agg #[.int .i64 a1_0, .int .i64 a1_1, .int .i64 a1_2, .int .i64 a1_3, .int .i64 a1_4, .int .i64 a1_5, .int .i64 a1_6, .string a1_7, .int .i64 a1_8, .int .i64 a1_9, .int .i64 a1_10]] w fun e w' => ∃ v1_ v2_ v3_ v4_ : Value, e = .returned (.tuple #[.agg #[.int .i64 r1, v1_, v2_, v3_, v4_], .int .i64 r6]) ∧ Kd.R (Kd.int .i64) 3 w' w.heap.size (fun k_ => some k_ ≠ (v2_ : Value).ownBlock) v1_ r2 ∧ Kd.R (Kd.int .i64) 3 w' w.heap.size (fun k_ => some k_ ≠ (v1_ : Value).ownBlock) v2_ r3 ∧ Kd.R k44 44 w' w.heap.size (fun _ => True) v3_ r4 ∧ Kd.R k49 49 w' w.heap.size (fun _ => True) v4_ r5 ∧ Below w.heap.size w w' := by
  unfold edit_Do.f at h
  split at h
  · rename_i hw
    have h' := Option.some.inj h
    obtain ⟨e1, h'⟩ := Prod.mk.inj h'
    obtain ⟨e2, h'⟩ := Prod.mk.inj h'
    obtain ⟨e3, h'⟩ := Prod.mk.inj h'
    obtain ⟨e4, h'⟩ := Prod.mk.inj h'
    obtain ⟨e5, e6⟩ := Prod.mk.inj h'
    refine (do_any (V := ⟨A0_1, c0_1, A0_2, c0_2, A0_3, c0_3, A0_4, c0_4⟩) (s := ⟨a0_0, l0_1, l0_2, l0_3, l0_4⟩) (x := ⟨a1_0, a1_1, a1_2, a1_3, a1_4, a1_5, a1_6, a1_7, ⟨a1_8, a1_9, a1_10⟩⟩) ⟨hr0_1, hc0_1, hr0_2, hc0_2, hr0_3, hc0_3, hr0_4, hc0_4⟩ hw.1 hw.2.1 hw.2.2 steps_any).mono ?_
    rintro e w' ⟨v1, v2, v3, v4, rfl, o1, o2, o3, o4, hne, hb⟩
    rw [e1, e6]
    rw [e2] at o1
    rw [e3] at o2
    rw [e4] at o3
    rw [e5] at o4
    exact ⟨v1, v2, v3, v4, rfl, Ow.toR rfl lenI (fun _ _ _ _ => rfl) o1 _ (fun k hk e => hne k hk e.symm), Ow.toR rfl lenI (fun _ _ _ _ => rfl) o2 _ (fun k hk e => ne_symm hne k hk e.symm), Ow.toR rfl lenC (fun w b ok x => PE.k44_mkM w b ok x) o3 _ (fun _ _ => trivial), Ow.toR rfl lenR (fun w b ok x => PE.k49_mkM w b ok x) o4 _ (fun _ _ => trivial), hb⟩
  · cases h
end Go.Proofs.YtcofacgdijjnoaaGreat
end
