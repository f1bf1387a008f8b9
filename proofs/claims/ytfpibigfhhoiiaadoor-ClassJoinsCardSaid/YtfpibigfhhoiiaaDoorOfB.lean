import Derived.Test.YtfpibigfhhoiiaaDoorOf
namespace Go.Proofs.YtfpibigfhhoiiaaDoor
open Go.RowKit
def ofP (code : Int) : Int := if hitS code = true then clS (bs code) else 0
def class_Of.f (a0 : Int) : Option Int := some (ofP a0)
set_option maxRecDepth 100000 in
theorem class_Of.calls (a0 : Int) (r : Int) (w : World) (h : class_Of.f a0 = some r) :
    Calls Tryd.prog 27 #[.int .i64 a0] w fun e w' => e = .returned (.int .i64 r) ∧ Below w.heap.size w w' := by
  have h := Option.some.inj h
  have hs := search_any w.heap.size a0 (w.alloc (.cells spanC 62)) (heap_alloc_new w _) (by simp)
  have hsz : (w.alloc (.cells spanC 62)).heap.size = w.heap.size + 1 := by simp
  cases hh : hitS a0 with
  | false =>
    have Hr : Hid (r = 0) := by
      rw [← h]
      unfold ofP
      rw [hh]
      rfl
    rw [hh] at hs
    have Hs := Lib.hid hs
    clear hs hh h
    go_enter Tryd.func27, Tryd.ntmps27
    go_wp2_with (first | (go_at_call 52; refine (spans_any _).mono ?_; rintro e w1 ⟨rfl, rfl⟩) | (go_at_call 53; refine Hs.out.mono ?_; rintro e w2 ⟨rfl, hb2⟩; have HB2 := Lib.hid hb2; clear hb2))
    go_ret
    refine ⟨by rw [Hr.out]; rfl, ((Below.refl _ _).alloc (Nat.le_refl _) _).trans (HB2.out.mono (by omega))⟩
  | true =>
    have hlt : bs a0 < 166 := by
      unfold hitS at hh
      simp at hh
      exact hh.1
    obtain ⟨k, hk⟩ : ∃ k, k = bs a0 := ⟨_, rfl⟩
    have Hr : Hid (r = clS k) := by
      rw [← h, hk]
      unfold ofP
      rw [hh]
      rfl
    rw [hh, ← hk] at hs
    rw [← hk] at hlt
    have Hs := Lib.hid hs
    obtain ⟨_, _, q2⟩ := spanC_at k hlt
    have Q2 := Lib.hid q2
    have hlt' : (k : Int) < 166 := by omega
    obtain ⟨C, hC⟩ : ∃ C, C = clS k := ⟨_, rfl⟩
    have HC := Lib.hid hC
    clear hs hh h hk q2 hC
    go_enter Tryd.func27, Tryd.ntmps27
    go_wp2_with (first | (go_at_call 52; refine (spans_any _).mono ?_; rintro e w1 ⟨rfl, rfl⟩) | (go_at_call 53; refine Hs.out.mono ?_; rintro e w2 ⟨rfl, hb2⟩; have c2 : w2.cell? ⟨w.heap.size, k * 3 + 2, none⟩ = some (.int .i64 C) := (by rw [hb2.cell (by show w.heap.size < _; omega), cell_of_row _ _ _ _ _ _ (heap_alloc_new w (.cells spanC 62)), HC.out]; exact Q2.out); have HB2 := Lib.hid hb2; clear hb2))
    go_ret
    refine ⟨by rw [Hr.out, ← HC.out]; rfl, ((Below.refl _ _).alloc (Nat.le_refl _) _).trans (HB2.out.mono (by omega))⟩
end Go.Proofs.YtfpibigfhhoiiaaDoor
