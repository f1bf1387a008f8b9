import Derived.Test.YtfpibigfhhoiiaaDoorSettle
namespace Go.Proofs.YtfpibigfhhoiiaaDoor
open Go.RowKit Go.Proofs.YtfpibigfhhoiiaaDoorW.PrintWords

theorem stS_start {w W1 : World} {l0 : List Int} {a1 a2 : Int} {cur : Array Value}
    (hrow : BlkR W1 (w.heap.size + 1) l0)
    (ht : Two (w.heap.size + 1) (w.heap.size + 1) (((w.alloc (.cells #[.int .i64 a1] 3)).alloc (.cells cur 3)).alloc (.cells #[.slice (some ⟨w.heap.size + 1, 0, none⟩) l0.length l0.length] 22)) W1) :
    StS w l0 a1 a2 0 ((W1.alloc (.cells #[.int .i64 a2] 3)).alloc (.cells #[.int .i64 0] 3)) := by
  have hsz : W1.heap.size = w.heap.size + 3 := by rw [ht.size]; simp
  refine ⟨?_, ?_, ?_, ?_, ?_, ?_⟩
  · unfold BlkI
    rw [heap_alloc_old _ _ (by simp; omega), heap_alloc_old _ _ (by omega), ht.block _ (by omega) (by omega), heap_alloc_old _ _ (by simp; omega), heap_alloc_old _ _ (by simp), heap_alloc_new]
  · unfold BlkR
    rw [heap_alloc_old _ _ (by simp; omega), heap_alloc_old _ _ (by omega)]
    exact hrow
  · rw [heap_alloc_old _ _ (by simp; omega), heap_alloc_old _ _ (by omega), ht.block _ (by omega) (by omega)]
    have := heap_alloc_new ((w.alloc (.cells #[.int .i64 a1] 3)).alloc (.cells cur 3)) (.cells #[.slice (some ⟨w.heap.size + 1, 0, none⟩) l0.length l0.length] 22)
    simpa using this
  · unfold BlkI
    rw [heap_alloc_old _ _ (by simp; omega)]
    have := heap_alloc_new W1 (.cells #[.int .i64 a2] 3)
    rw [hsz] at this
    exact this
  · unfold BlkI
    have := heap_alloc_new (W1.alloc (.cells #[.int .i64 a2] 3)) (.cells #[.int .i64 0] 3)
    rw [show (W1.alloc (.cells #[.int .i64 a2] 3)).heap.size = w.heap.size + 4 by simp [hsz]] at this
    exact this
  · have hb0 : Below w.heap.size w (((w.alloc (.cells #[.int .i64 a1] 3)).alloc (.cells cur 3)).alloc (.cells #[.slice (some ⟨w.heap.size + 1, 0, none⟩) l0.length l0.length] 22)) :=
      (((Below.refl _ _).alloc (Nat.le_refl _) _).alloc (by simp) _).alloc (by simp; omega) _
    have hb1 : Below w.heap.size w W1 := hb0.trans ⟨ht.os, ht.tape, ht.output, by rw [ht.size]; exact Nat.le_refl _, fun k hk => ht.block k (by omega) (by omega)⟩
    exact (hb1.alloc (by omega) _).alloc (by simp; omega) _

theorem stS_skip {w wr : World} {l0 : List Int} {a1 a2 : Int} {k : Nat} (h : StS w l0 a1 a2 k wr) (hl : (letter (l0.getD k 0)).2 = false) : StS w l0 a1 a2 (k + 1) wr := by
  have e : stt l0 a1 a2 (k + 1) = stt l0 a1 a2 k := by rw [stt, if_neg (by rw [hl]; simp)]
  exact ⟨h.lv, by rw [e]; exact h.row, h.out, by rw [e]; exact h.ahead, by rw [e]; exact h.frm, h.bel⟩

theorem stS_step {w wr w' : World} {l0 : List Int} {a1 a2 : Int} {k : Nat} {x : Int} (h : StS w l0 a1 a2 k wr) (hl : (letter (l0.getD k 0)).2 = true)
    (hr : BlkR w' (w.heap.size + 1) (fillIn (stt l0 a1 a2 k).2.2 (stt l0 a1 a2 k).2.1 (asOf a1 (stt l0 a1 a2 k).1 (letter (l0.getD k 0)).1) (k - (stt l0 a1 a2 k).2.1)))
    (hf : BlkI w' (w.heap.size + 4) x) (ht : Two (w.heap.size + 4) (w.heap.size + 1) wr w') :
    StS w l0 a1 a2 (k + 1) ((w'.setCell ⟨w.heap.size + 3, 0, none⟩ (.int .i64 (letter (l0.getD k 0)).1)).setCell ⟨w.heap.size + 4, 0, none⟩ (.int .i64 ((k : Int) + 1))) := by
  have e : stt l0 a1 a2 (k + 1) = ((letter (l0.getD k 0)).1, k + 1, fillIn (stt l0 a1 a2 k).2.2 (stt l0 a1 a2 k).2.1 (asOf a1 (stt l0 a1 a2 k).1 (letter (l0.getD k 0)).1) (k - (stt l0 a1 a2 k).2.1)) := by
    rw [stt, if_pos hl]
  have ha : BlkI w' (w.heap.size + 3) (stt l0 a1 a2 k).1 := (ht.block _ (by omega) (by omega)).trans h.ahead
  refine ⟨?_, ?_, ?_, ?_, ?_, ?_⟩
  · exact blkOther (blkOther ((ht.block _ (by omega) (by omega)).trans h.lv) _ _ (by simp)) _ _ (by simp)
  · rw [e]; exact blkOther (blkOther hr _ _ (by simp)) _ _ (by simp)
  · exact blkOther (blkOther ((ht.block _ (by omega) (by omega)).trans h.out) _ _ (by simp)) _ _ (by simp)
  · rw [e]; exact blkOther (one_setCell ha) _ _ (by simp)
  · rw [e]; exact one_setCell (blkOther hf _ _ (by simp))
  · have hb1 : Below w.heap.size w w' := h.bel.trans ⟨ht.os, ht.tape, ht.output, by rw [ht.size]; exact Nat.le_refl _, fun k hk => ht.block k (by omega) (by omega)⟩
    exact (hb1.setCell (by simp) _).setCell (by simp) _

def neutral_Settle.f (l0 : List Int) (a1 a2 a3 : Int) : Option (List Int) := if l0.length ≤ 17592186044416 then some (settle l0 a1 a2 a3) else none

set_option maxRecDepth 100000 in
set_option maxHeartbeats 1000000 in
theorem neutral_Settle.calls (A0 : Option Addr) (c0 : Nat) (l0 : List Int) (a1 a2 a3 : Int) (r : List Int) (w : World) (hr0 : Kd.C (Kd.int .i64) w A0 l0.length l0) (hc0 : l0.length ≤ c0) (h : neutral_Settle.f l0 a1 a2 a3 = some r) :
    Calls Tryd.prog 19 #[.slice A0 l0.length c0, .int .i64 a1, .int .i64 a2, .int .i64 a3] w fun e w' => ∃ v0_ : Value, e = .returned (v0_) ∧ Kd.R (Kd.int .i64) 3 w' w.heap.size (fun _ => True) v0_ r ∧ Below w.heap.size w w' := by
  unfold neutral_Settle.f at h
  by_cases hm : l0.length ≤ 17592186044416
  case neg => rw [if_neg hm] at h; cases h
  rw [if_pos hm] at h
  have h := Option.some.inj h
  have Hres := Lib.hid h
  clear h
  have hmk := fun W : World => run_make_row' (P := Tryd.prog) 22 3 (.int .i64 0) 8 Tryd.underlying22 info3' rfl .i64 .i64 l0.length (by omega) (by omega) W
  obtain ⟨W1, hcp, hrow, ht⟩ := copy_all (((w.alloc (.cells #[.int .i64 a1] 3)).alloc (.cells (madeCells #[.int .i64 0] l0.length) 3)).alloc (.cells #[.slice (some ⟨w.heap.size + 1, 0, none⟩) l0.length l0.length] 22)) (w.heap.size + 1) A0 c0 l0 (madeCells #[.int .i64 0] l0.length) (by
      rw [heap_alloc_old _ _ (by simp)]
      have := heap_alloc_new (w.alloc (.cells #[.int .i64 a1] 3)) (.cells (madeCells #[.int .i64 0] l0.length) 3)
      simpa using this) (by simp [madeCells]) (fun j hj => by
      obtain ⟨ad, e, hc⟩ := Kd.at_int hr0 (j : Int) (by omega) (by omega)
      have hlt := World.block_lt_of_cell? w _ hc
      refine ⟨ad, e, ?_⟩
      have hc' : w.cell? (ad.add j) = some (.int .i64 (l0.getD j 0)) := by simpa [rd] using hc
      have hlt' := World.block_lt_of_cell? w _ hc'
      have hb0 : Below w.heap.size w (((w.alloc (.cells #[.int .i64 a1] 3)).alloc (.cells (madeCells #[.int .i64 0] l0.length) 3)).alloc (.cells #[.slice (some ⟨w.heap.size + 1, 0, none⟩) l0.length l0.length] 22)) :=
        (((Below.refl _ _).alloc (Nat.le_refl _) _).alloc (by simp) _).alloc (by simp; omega) _
      rw [hb0.cell hlt']; exact hc')
  have hsz : W1.heap.size = w.heap.size + 1 + 1 + 1 := by rw [ht.size]; simp
  have hst := stS_start (a2 := a2) hrow ht
  have hm' : l0.length ≤ 140737488355328 := by omega
  have Hm := Lib.hid hm
  clear hm
  have HC := Aside0.mk hr0
  clear hr0
  have Ht := Lib.hid ht
  clear ht
  have Hrow := Lib.hid hrow
  clear hrow
  go_enter Tryd.func19, Tryd.ntmps19
  go_wp2
  go_loopg [27] (l0.length + 1) (fun g v27 wr => ∃ k : Nat, k ≤ l0.length ∧ g = l0.length + 1 - k ∧ v27 = .int .i64 k ∧ StS w l0 a1 a2 k wr)
  case atStart => exact ⟨0, Nat.zero_le _, rfl, rfl, hst⟩
  case round =>
    clear hcp hmk hst
    obtain ⟨k, hk, hg, rfl, hS⟩ := hrel
    have Hg := Lib.hid hg
    clear hg
    by_cases hlt : k < l0.length
    · obtain ⟨ad, e, hc⟩ := Kd.at_int HC.out (k : Int) (by omega) (by omega)
      cases e
      have hc' : w.cell? (ad.add k) = some (.int .i64 (l0.getD k 0)) := by simpa [rd] using hc
      have hblk := World.block_lt_of_cell? w _ hc'
      obtain ⟨c, hcc⟩ : ∃ c, c = l0.getD k 0 := ⟨_, rfl⟩
      have hcx : wr.cell? (ad.add k) = some (.int .i64 c) := by rw [hS.bel.cell hblk, hcc]; exact hc'
      clear hc hc' hblk
      have hlt' : (k : Int) < (l0.length : Int) := by omega
      by_cases hl : (letter c).2 = true
      · have hcc' := Lib.hid hcc
        have HS2 := fun w' x => @stS_step w wr w' l0 a1 a2 k x hS (by rw [← hcc]; exact hl)
        rw [← hcc] at HS2
        clear hcc
        have HSS := Lib.hid HS2
        clear HS2
        obtain ⟨dd, hdd⟩ : ∃ dd, dd = k - (stt l0 a1 a2 k).2.1 := ⟨_, rfl⟩
        have hfr := stt_from l0 a1 a2 k
        have hle := stt_length l0 a1 a2 k
        have FA := fun b : Int => fill_any wr w.heap.size (w.heap.size + 1 + 1 + 1) (w.heap.size + 1 + 1 + 1 + 1) (w.heap.size + 1 + 1) (w.heap.size + 1) l0.length a1 (stt l0 a1 a2 k).1 k b (stt l0 a1 a2 k).2.2 (stt l0 a1 a2 k).2.1 dd
          hS.lv hS.ahead hS.frm (by rw [hle]; exact hS.out) hS.row (by omega) (by omega) (by omega) (.inl (by omega)) (by omega) (by omega)
        rw [hdd] at FA
        have HFA := Lib.hid FA
        clear FA hfr hle
        have HSS0 := Lib.hid hS
        clear hS
        have Hdd := Lib.hid hdd
        clear hdd
        go_wp2_with (first
          | (go_at_call 48; refine (letter_any _ _).mono ?_; rintro e w' ⟨rfl, rfl⟩)
          | (go_at_call 46; refine (HFA.out _).mono ?_; rintro e w2 ⟨rfl, hf2, hr2, ht2⟩; have Hf2 := Lib.hid hf2; have Hr2 := Lib.hid hr2; have Ht2 := Lib.hid ht2; have c4 := cell_of_one hf2; have f4 := free_of_one hf2; have c3 := cell_of_one ((ht2.block _ (by omega) (by omega)).trans HSS0.out.ahead); have f3 := free_of_one ((ht2.block _ (by omega) (by omega)).trans HSS0.out.ahead); clear hf2 hr2 ht2))
        go_roundg (l0.length + 1 - (k + 1))
        case measure => have := Hg.out; omega
        case rel => exact ⟨k + 1, hlt, rfl, by go_num, HSS.out _ _ Hr2.out Hf2.out Ht2.out⟩
      · have hl' : (letter c).2 = false := by simpa using hl
        clear hl
        have HSS := Lib.hid (stS_skip hS (by rw [← hcc]; exact hl'))
        clear hcc hS
        go_wp2_with (first
          | (go_at_call 48; refine (letter_any _ _).mono ?_; rintro e w' ⟨rfl, rfl⟩))
        go_roundg (l0.length + 1 - (k + 1))
        case measure => have := Hg.out; omega
        case rel => exact ⟨k + 1, hlt, rfl, by go_num, HSS.out⟩
    · have hkl : k = l0.length := by omega
      have hlt' : ¬ (k : Int) < (l0.length : Int) := by omega
      have hfr := stt_from l0 a1 a2 k
      have hle := stt_length l0 a1 a2 k
      obtain ⟨dd, hdd⟩ : ∃ dd, dd = k - (stt l0 a1 a2 k).2.1 := ⟨_, rfl⟩
      have FA := fill_any wr w.heap.size (w.heap.size + 1 + 1 + 1) (w.heap.size + 1 + 1 + 1 + 1) (w.heap.size + 1 + 1) (w.heap.size + 1) l0.length a1 (stt l0 a1 a2 k).1 l0.length a3 (stt l0 a1 a2 k).2.2 (stt l0 a1 a2 k).2.1 dd
          hS.lv hS.ahead hS.frm (by rw [hle]; exact hS.out) hS.row (by omega) (by omega) (by omega) (.inl (by omega)) (by omega) (by omega)
      have HFA := Lib.hid FA
      have Hkl := Lib.hid hkl
      have HSS0 := Lib.hid hS
      have Hdd := Lib.hid hdd
      have Hle := Lib.hid hle
      clear FA hfr hle hkl hS hdd
      go_wp2_with (first
          | (go_at_call 46; refine HFA.out.mono ?_; rintro e w2 ⟨rfl, hf2, hr2, ht2⟩; have Hf2 := Lib.hid hf2; have Hr2 := Lib.hid hr2; have Ht2 := Lib.hid ht2; have c3 := cell_of_one ((ht2.block _ (by omega) (by omega)).trans HSS0.out.out); clear hf2 hr2 ht2))
      go_ret
      have hkl := Hkl.out
      have hle := Hle.out
      have hr2 := Hr2.out
      have ht2 := Ht2.out
      have hres : r = fillIn (stt l0 a1 a2 k).2.2 (stt l0 a1 a2 k).2.1 (asOf a1 (stt l0 a1 a2 k).1 a3) dd := by
        rw [← Hres.out, Hdd.out, hkl]; rfl
      have hlen : r.length = l0.length := by rw [hres, fillIn_length, hle]
      refine ⟨_, rfl, ?_, ?_⟩
      · refine Kd.R_of_own ?_ (fun _ _ => trivial)
        refine ⟨by simp [encs], .inr ⟨w.heap.size + 1, l0.length, (nums .i64 r).toArray, by rw [hlen]; rfl, by omega, by rw [hres]; exact hr2, by omega, by unfold maxLen; omega, by simp [nums, hlen], by rw [List.take_of_length_le (by simp [nums])]; rfl⟩⟩
      · exact HSS0.out.bel.trans ⟨ht2.os, ht2.tape, ht2.output, by rw [ht2.size]; exact Nat.le_refl _, fun j hj => ht2.block j (by omega) (by omega)⟩
#print axioms neutral_Settle.calls
end Go.Proofs.YtfpibigfhhoiiaaDoor
