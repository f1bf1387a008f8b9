/- sheet: more of the tests that are handed to the library: walked. sheet: more of the tests that are handed to the library: walked. sheet: more of the tests that are handed to the library: walked. sheet: more of the tests that are handed to the library: walked. -/
import Derived.Test.YtcofacgdijjnoaaGreatPaj
import Derived.Laws.AppendOwn
import Derived.Laws.AppendOwnNone
import Derived.Lib.SliceRun
import Derived.Carry
import Derived.MapKept
section
namespace Go.Proofs.YtcofacgdijjnoaaGreat
open PE (S31 S44 S49 k44 k49 k31)
open Go.RowKit Go.Shelf Go.Lib Go.Proofs.YtcofacgdijjnoaaGreatW.PrintWords Go.Proofs.YtcofacgdijjnoaaGreatW.PrintLast Go.Proofs.YtcofacgdijjnoaaGreatW.PrintMore
set_option linter.unusedVariables false
set_option linter.unusedSimpArgs false
set_option maxRecDepth 100000
set_option maxHeartbeats 2000000
theorem zero6 {w : World} {B : Nat} (h : w.heap[B]? = some (.cells #[.int .i64 0, .int .i64 0, .string ⟨#[]⟩, .int .i64 0, .int .i64 0, .int .i64 0] 44 (0, 0))) :
    w.cell? ⟨B, 0, none⟩ = some (.int .i64 0) ∧ w.cell? ⟨B, 1, none⟩ = some (.int .i64 0) ∧ w.cell? ⟨B, 2, none⟩ = some (.string ⟨#[]⟩) ∧ w.cell? ⟨B, 3, none⟩ = some (.int .i64 0) ∧ w.cell? ⟨B, 4, none⟩ = some (.int .i64 0) ∧ w.cell? ⟨B, 5, none⟩ = some (.int .i64 0) ∧
    w.frozen? ⟨B, 0, none⟩ = false ∧ w.frozen? ⟨B, 1, none⟩ = false ∧ w.frozen? ⟨B, 2, none⟩ = false ∧ w.frozen? ⟨B, 3, none⟩ = false ∧ w.frozen? ⟨B, 4, none⟩ = false ∧ w.frozen? ⟨B, 5, none⟩ = false :=
  ⟨blk_cell h 0, blk_cell h 1, blk_cell h 2, blk_cell h 3, blk_cell h 4, blk_cell h 5, blk_frozen h 0, blk_frozen h 1, blk_frozen h 2, blk_frozen h 3, blk_frozen h 4, blk_frozen h 5⟩
theorem put6 {w : World} {B : Nat} {x : S44} {v0 v1 v2 v3 v4 v5 : Value} (h : w.heap[B]? = some (.cells #[v0, v1, v2, v3, v4, v5] 44 (0, 0))) :
    ((((((w.setCell ⟨B, 0, none⟩ (.int .i64 x.f0)).setCell ⟨B, 1, none⟩ (.int .i64 x.f1)).setCell ⟨B, 2, none⟩ (.string x.f2)).setCell ⟨B, 3, none⟩ (.int .i64 x.f3.f0)).setCell ⟨B, 4, none⟩ (.int .i64 x.f3.f1)).setCell ⟨B, 5, none⟩ (.int .i64 x.f3.f2)).heap[B]? = some (.cells (encC x).toArray 44 (0, 0)) :=
  blk_put (blk_put (blk_put (blk_put (blk_put (blk_put h 0 _ rfl) 1 _ rfl) 2 _ rfl) 3 _ rfl) 4 _ rfl) 5 _ rfl
theorem below6 {w W : World} {B : Nat} {v0 v1 v2 v3 v4 v5 : Value} (h : Below w.heap.size w W) (hB : w.heap.size ≤ B) :
    Below w.heap.size w ((((((W.setCell ⟨B, 0, none⟩ v0).setCell ⟨B, 1, none⟩ v1).setCell ⟨B, 2, none⟩ v2).setCell ⟨B, 3, none⟩ v3).setCell ⟨B, 4, none⟩ v4).setCell ⟨B, 5, none⟩ v5) :=
  below_set (below_set (below_set (below_set (below_set (below_set h hB) hB) hB) hB) hB) hB
theorem get_any {w : World} {V : SV} {s : Sh} (h : Rd w V s) (hw : WS s) {i j : Int} (hi : W6 i) (hj : W6 j) :
    Calls Tryz.prog 13 #[.agg (shv V s), .int .i64 i, .int .i64 j] w fun e w' => e = .returned (.tuple #[.agg (encC (get s i j).1).toArray, .int .i64 (get s i j).2]) ∧ Below w.heap.size w w' := by
  have hn := blk_new w (Obj.cells (shv V s) 26 (0, 0))
  have hA := below_alloc (Below.refl w.heap.size w) (Obj.cells (shv V s) 26 (0, 0))
  have hR := h.below hA
  have hn2 := blk_alloc hn (Obj.cells #[.int .i64 0, .int .i64 0, .string ⟨#[]⟩, .int .i64 0, .int .i64 0, .int .i64 0] 44 (0, 0))
  have hz := blk_new (w.alloc (Obj.cells (shv V s) 26 (0, 0))) (Obj.cells #[.int .i64 0, .int .i64 0, .string ⟨#[]⟩, .int .i64 0, .int .i64 0, .int .i64 0] 44 (0, 0))
  have hsz : (w.alloc (Obj.cells (shv V s) 26 (0, 0))).heap.size = w.heap.size + 1 := by simp
  rw [hsz] at hz
  have hA2 := below_alloc hA (Obj.cells #[.int .i64 0, .int .i64 0, .string ⟨#[]⟩, .int .i64 0, .int .i64 0, .int .i64 0] 44 (0, 0))
  have hR2 := h.below hA2
  have hx1 := region_any hR2 hw hi hj
  have hL : get s i j = if (reg s i j).2 ≠ 0 then (PE.z44, (reg s i j).2) else (atK s.ce (reg s i j).1, 0) := rfl
  obtain ⟨gg, hgg⟩ : ∃ gg, gg = get s i j := ⟨_, rfl⟩
  rw [← hgg] at hL ⊢
  obtain ⟨rg, hrg⟩ : ∃ rg, rg = reg s i j := ⟨_, rfl⟩
  rw [← hrg] at hx1 hL
  obtain ⟨r, e1⟩ := rg
  simp only [] at hx1 hL
  have hr3 := fun W (hb : Below ((w.alloc (Obj.cells (shv V s) 26 (0, 0))).alloc (Obj.cells #[.int .i64 0, .int .i64 0, .string ⟨#[]⟩, .int .i64 0, .int .i64 0, .int .i64 0] 44 (0, 0))).heap.size ((w.alloc (Obj.cells (shv V s) 26 (0, 0))).alloc (Obj.cells #[.int .i64 0, .int .i64 0, .string ⟨#[]⟩, .int .i64 0, .int .i64 0, .int .i64 0] 44 (0, 0))) W) => (hR2.below hb).h3
  have hcall := fun W (hb : Below ((w.alloc (Obj.cells (shv V s) 26 (0, 0))).alloc (Obj.cells #[.int .i64 0, .int .i64 0, .string ⟨#[]⟩, .int .i64 0, .int .i64 0, .int .i64 0] 44 (0, 0))).heap.size ((w.alloc (Obj.cells (shv V s) 26 (0, 0))).alloc (Obj.cells #[.int .i64 0, .int .i64 0, .string ⟨#[]⟩, .int .i64 0, .int .i64 0, .int .i64 0] 44 (0, 0))) W) => idxC V.A3 s.ce.length V.c3 s.ce (fun c => decide (c.f0 = r.f0) && decide (c.f1 = r.f1)) 35 #[.pointer (some ⟨W.heap.size, 0, none⟩)] (enters_of Tryz.func35 (by kernel_rfl) rfl) (W.alloc (Obj.cells (encR r).toArray 49 (0, 0))) (hr3 _ (below_alloc hb _)) (t35 (blk_new W _))
  have HX := Lib.hid (ixF_find (fun c : S44 => decide (c.f0 = r.f0) && decide (c.f1 = r.f1)) s.ce 0)
  obtain ⟨x, hx⟩ : ∃ x, x = ixF (fun c : S44 => decide (c.f0 = r.f0) && decide (c.f1 = r.f1)) s.ce 0 := ⟨_, rfl⟩
  rw [← hx] at hcall HX
  clear h hR hR2 hn hA hsz hgg hrg hx hw hi hj
  obtain ⟨A1, c1, A2, c2, A3, c3, A4, c4⟩ := V
  obtain ⟨rt, wd, ht, ce, me⟩ := s
  have hatk : atK ce r = (ce.find? fun c => decide (c.f0 = r.f0) && decide (c.f1 = r.f1)).getD ⟨r.f0, r.f1, ByteArray.empty, PE.z31⟩ := rfl
  have HK := Lib.hid hatk
  clear hatk
  obtain ⟨y0, y1, y2, y3, y4⟩ := five (V := ⟨A1, c1, A2, c2, A3, c3, A4, c4⟩) (s := ⟨rt, wd, ht, ce, me⟩) hn2
  obtain ⟨z0, z1, z2, z3, z4, z5, f0, f1, f2, f3, f4, f5⟩ := zero6 hz
  simp only [shv, encR] at hx1 hA2 hcall hr3 hz y0 y1 y2 y3 y4 z0 z1 z2 z3 z4 z5 f0 f1 f2 f3 f4 f5
  have HN0 := Lib.hid hn2
  have HZ0 := Lib.hid hz
  have HA := Lib.hid hA2
  have HC := Lib.hid hcall
  have H3 := Lib.hid hr3
  have H1 := Lib.hid hx1
  have HL := Lib.hid hL
  clear hn2 hz hA2 hcall hr3 hx1 hL
  show Calls Tryz.prog 13 #[.agg #[.int .i64 rt, .slice A1 wd.length c1, .slice A2 ht.length c2, .slice A3 ce.length c3, .slice A4 me.length c4], .int .i64 i, .int .i64 j] w _
  by_cases h1 : e1 = 0
  · subst h1
    rcases HX.out with ⟨hx, hf⟩ | ⟨k, hk0, hx, hf⟩
    · subst hx
      have HR : Hid (gg = (⟨r.f0, r.f1, ByteArray.empty, PE.z31⟩, 0)) := Lib.hid (by rw [HL.out, if_neg (by decide), HK.out, hf]; rfl)
      clear HX hf HL HK H3
      go_enter Tryz.func13, Tryz.ntmps13
      go_wp2_with (first
        | (go_at_call 33; refine H1.out.mono ?_; rintro e w1 ⟨rfl, hb1⟩; have hba := below_alloc (Below.refl w1.heap.size w1) (Obj.cells #[.int .i64 r.f0, .int .i64 r.f1, .int .i64 r.f2, .int .i64 r.f3] 49 (0, 0)); obtain ⟨y0, y1, y2, y3, y4⟩ := five (V := ⟨A1, c1, A2, c2, A3, c3, A4, c4⟩) (s := ⟨rt, wd, ht, ce, me⟩) (blk_below (blk_below HN0.out hb1) hba); obtain ⟨z0, z1, z2, z3, z4, z5, f0, f1, f2, f3, f4, f5⟩ := zero6 (blk_below (blk_below HZ0.out hb1) hba); obtain ⟨r0, r1, r2, r3⟩ := four (r := r) (blk_new w1 (Obj.cells #[.int .i64 r.f0, .int .i64 r.f1, .int .i64 r.f2, .int .i64 r.f3] 49 (0, 0))); have HZ1 := Lib.hid (blk_below (blk_below HZ0.out hb1) hba); have HN1 := Lib.hid (blk_below (blk_below HN0.out hb1) hba); have HB1 := Lib.hid hb1; have HBA := Lib.hid hba; clear hb1 hba)
        | (go_at_call 34; refine (HC.out _ HB1.out).mono ?_; rintro e w2 ⟨rfl, hb2⟩; obtain ⟨y0, y1, y2, y3, y4⟩ := five (V := ⟨A1, c1, A2, c2, A3, c3, A4, c4⟩) (s := ⟨rt, wd, ht, ce, me⟩) (blk_below HN1.out hb2); obtain ⟨z0, z1, z2, z3, z4, z5, f0, f1, f2, f3, f4, f5⟩ := zero6 (blk_below HZ1.out hb2); obtain ⟨r0, r1, r2, r3⟩ := four (r := r) (blk_below (blk_new w1 (Obj.cells #[.int .i64 r.f0, .int .i64 r.f1, .int .i64 r.f2, .int .i64 r.f3] 49 (0, 0))) hb2); have HZ2 := Lib.hid (blk_below HZ1.out hb2); have HB2 := Lib.hid hb2; clear hb2))
      refine bodyPost_ret (results_ct rfl _ _ (w.heap.size + 1) 44 (encC ⟨r.f0, r.f1, ByteArray.empty, PE.z31⟩).toArray (0, 0) _ rfl (put6 (x := ⟨r.f0, r.f1, ByteArray.empty, PE.z31⟩) HZ2.out) Tryz.underlying44 rfl (by kernel_rfl)) rfl ?_
      exact ⟨by rw [HR.out]; rfl, below6 (below_then (below_then (below_then HA.out HA.out.size HB1.out) (Nat.le_trans HA.out.size HB1.out.size) HBA.out) (Nat.le_trans (Nat.le_trans HA.out.size HB1.out.size) HBA.out.size) HB2.out) (by omega)⟩
    · have hk : k < ce.length := hk0
      rw [Nat.zero_add] at hx
      subst hx
      have HR : Hid (gg = (ce[k], 0)) := Lib.hid (by rw [HL.out, if_neg (by decide), HK.out, hf]; rfl)
      obtain ⟨ad, hA3, q0, q1, q2, q3, q4, q5⟩ := PE.at_T44 (H3.out _ (Below.refl _ _)) (k : Int) (by omega) (by omega)
      subst hA3
      have hrd : PE.rd_T44 ce (k : Int) = ce[k] := by
        unfold PE.rd_T44
        rw [Int.toNat_natCast, List.getD_eq_getElem?_getD, List.getElem?_eq_getElem hk]; rfl
      rw [Int.toNat_natCast, hrd] at q0 q1 q2 q3 q4 q5
      have hki : (k : Int) < (ce.length : Int) := by omega
      have hz : ¬ (k : Int) < 0 := by omega
      obtain ⟨x, hx⟩ : ∃ x, x = ce[k] := ⟨_, rfl⟩
      rw [← hx] at q0 q1 q2 q3 q4 q5 HR
      have HQ := Lib.hid (And.intro q0 (And.intro q1 (And.intro q2 (And.intro q3 (And.intro q4 q5)))))
      clear hx hrd HX hf HL HK H3 q0 q1 q2 q3 q4 q5
      go_enter Tryz.func13, Tryz.ntmps13
      go_wp2_with (first
        | (go_at_call 33; refine H1.out.mono ?_; rintro e w1 ⟨rfl, hb1⟩; have hba := below_alloc (Below.refl w1.heap.size w1) (Obj.cells #[.int .i64 r.f0, .int .i64 r.f1, .int .i64 r.f2, .int .i64 r.f3] 49 (0, 0)); obtain ⟨y0, y1, y2, y3, y4⟩ := five (V := ⟨A1, c1, A2, c2, some ad, c3, A4, c4⟩) (s := ⟨rt, wd, ht, ce, me⟩) (blk_below (blk_below HN0.out hb1) hba); obtain ⟨z0, z1, z2, z3, z4, z5, f0, f1, f2, f3, f4, f5⟩ := zero6 (blk_below (blk_below HZ0.out hb1) hba); obtain ⟨r0, r1, r2, r3⟩ := four (r := r) (blk_new w1 (Obj.cells #[.int .i64 r.f0, .int .i64 r.f1, .int .i64 r.f2, .int .i64 r.f3] 49 (0, 0))); have HZ1 := Lib.hid (blk_below (blk_below HZ0.out hb1) hba); have HN1 := Lib.hid (blk_below (blk_below HN0.out hb1) hba); have HB1 := Lib.hid hb1; have HBA := Lib.hid hba; clear hb1 hba)
        | (go_at_call 34; refine (HC.out _ HB1.out).mono ?_; rintro e w2 ⟨rfl, hb2⟩; obtain ⟨y0, y1, y2, y3, y4⟩ := five (V := ⟨A1, c1, A2, c2, some ad, c3, A4, c4⟩) (s := ⟨rt, wd, ht, ce, me⟩) (blk_below HN1.out hb2); obtain ⟨z0, z1, z2, z3, z4, z5, f0, f1, f2, f3, f4, f5⟩ := zero6 (blk_below HZ1.out hb2); obtain ⟨r0, r1, r2, r3⟩ := four (r := r) (blk_below (blk_new w1 (Obj.cells #[.int .i64 r.f0, .int .i64 r.f1, .int .i64 r.f2, .int .i64 r.f3] 49 (0, 0))) hb2); have HZ2 := Lib.hid (blk_below HZ1.out hb2); have HB2 := Lib.hid hb2; have q0 := pw_cell_below hb2 (pw_cell_below HBA.out (pw_cell_below HB1.out HQ.out.1)); have q1 := pw_cell_below hb2 (pw_cell_below HBA.out (pw_cell_below HB1.out HQ.out.2.1)); have q2 := pw_cell_below hb2 (pw_cell_below HBA.out (pw_cell_below HB1.out HQ.out.2.2.1)); have q3 := pw_cell_below hb2 (pw_cell_below HBA.out (pw_cell_below HB1.out HQ.out.2.2.2.1)); have q4 := pw_cell_below hb2 (pw_cell_below HBA.out (pw_cell_below HB1.out HQ.out.2.2.2.2.1)); have q5 := pw_cell_below hb2 (pw_cell_below HBA.out (pw_cell_below HB1.out HQ.out.2.2.2.2.2)); clear hb2))
      refine bodyPost_ret (results_ct rfl _ _ (w.heap.size + 1) 44 (encC x).toArray (0, 0) _ rfl (put6 (x := x) HZ2.out) Tryz.underlying44 rfl (by kernel_rfl)) rfl ?_
      exact ⟨by rw [HR.out]; rfl, below6 (below_then (below_then (below_then HA.out HA.out.size HB1.out) (Nat.le_trans HA.out.size HB1.out.size) HBA.out) (Nat.le_trans (Nat.le_trans HA.out.size HB1.out.size) HBA.out.size) HB2.out) (by omega)⟩
  · have h1b : (e1 == 0) = false := by simpa using h1
    have HR : Hid (gg = (PE.z44, e1)) := Lib.hid (by rw [HL.out, if_pos h1])
    clear HL HX HK H3
    go_enter Tryz.func13, Tryz.ntmps13
    go_wp2_with (go_at_call 33; refine H1.out.mono ?_; rintro e w1 ⟨rfl, hb1⟩; have hba := below_alloc (Below.refl w1.heap.size w1) (Obj.cells #[.int .i64 r.f0, .int .i64 r.f1, .int .i64 r.f2, .int .i64 r.f3] 49 (0, 0)); obtain ⟨y0, y1, y2, y3, y4⟩ := five (V := ⟨A1, c1, A2, c2, A3, c3, A4, c4⟩) (s := ⟨rt, wd, ht, ce, me⟩) (blk_below (blk_below HN0.out hb1) hba); obtain ⟨z0, z1, z2, z3, z4, z5, f0, f1, f2, f3, f4, f5⟩ := zero6 (blk_below (blk_below HZ0.out hb1) hba); obtain ⟨r0, r1, r2, r3⟩ := four (r := r) (blk_new w1 (Obj.cells #[.int .i64 r.f0, .int .i64 r.f1, .int .i64 r.f2, .int .i64 r.f3] 49 (0, 0))); have HZ1 := Lib.hid (blk_below (blk_below HZ0.out hb1) hba); have HN1 := Lib.hid (blk_below (blk_below HN0.out hb1) hba); have HB1 := Lib.hid hb1; have HBA := Lib.hid hba; clear hb1 hba)
    refine bodyPost_ret (results_ct rfl _ _ (w.heap.size + 1) 44 (encC PE.z44).toArray (0, 0) _ rfl (put6 (x := PE.z44) HZ1.out) Tryz.underlying44 rfl (by kernel_rfl)) rfl ?_
    exact ⟨by rw [HR.out]; rfl, below6 (below_then (below_then HA.out HA.out.size HB1.out) (Nat.le_trans HA.out.size HB1.out.size) HBA.out) (by omega)⟩
end Go.Proofs.YtcofacgdijjnoaaGreat
end
section
namespace Go.Proofs.YtcofacgdijjnoaaGreat
open PE (S31 S44 S49 k44 k49 k31)
open Go.RowKit Go.Shelf Go.Lib Go.Proofs.YtcofacgdijjnoaaGreatW.PrintWords Go.Proofs.YtcofacgdijjnoaaGreatW.PrintLast Go.Proofs.YtcofacgdijjnoaaGreatW.PrintMore
set_option linter.unusedVariables false
set_option linter.unusedSimpArgs false
set_option maxRecDepth 100000
set_option maxHeartbeats 2000000
/-! ## rows of the call's own: cells, rects, numbers -/
def flt {α : Type} (enc : α → List Value) : List α → List Value
  | [] => []
  | x :: l => enc x ++ flt enc l
theorem flt_len {α : Type} {enc : α → List Value} {k : Nat} (hk : ∀ x, (enc x).length = k) : ∀ l : List α, (flt enc l).length = l.length * k
  | [] => by simp [flt]
  | x :: l => by rw [flt, List.length_append, hk, flt_len hk l, List.length_cons, Nat.succ_mul, Nat.add_comm]
theorem flt_app {α : Type} (enc : α → List Value) : ∀ l m : List α, flt enc (l ++ m) = flt enc l ++ flt enc m
  | [], m => rfl
  | x :: l, m => by rw [List.cons_append, flt, flt_app enc l m, flt, List.append_assoc]
theorem flt_drop {α : Type} {enc : α → List Value} {k : Nat} (hk : ∀ x, (enc x).length = k) : ∀ (l : List α) (i : Nat), (flt enc l).drop (i * k) = flt enc (l.drop i)
  | l, 0 => by simp
  | [], i + 1 => by simp [flt]
  | x :: l, i + 1 => by
      rw [flt, Nat.succ_mul, Nat.add_comm, List.drop_append, hk]
      rw [List.drop_of_length_le (by rw [hk]; omega), Nat.add_sub_cancel_left, List.nil_append, flt_drop hk l i, List.drop_succ_cons]
theorem flt_take {α : Type} {enc : α → List Value} {k : Nat} (hk : ∀ x, (enc x).length = k) : ∀ (l : List α) (i : Nat), (flt enc l).take (i * k) = flt enc (l.take i)
  | l, 0 => by simp [flt]
  | [], i + 1 => by simp [flt]
  | x :: l, i + 1 => by
      rw [flt, Nat.succ_mul, Nat.add_comm, List.take_append, hk]
      rw [List.take_of_length_le (by rw [hk]; omega), Nat.add_sub_cancel_left, flt_take hk l i, List.take_succ_cons, flt]
theorem flt_at {α : Type} {enc : α → List Value} {k : Nat} (hk : ∀ x, (enc x).length = k) {l : List α} {i : Nat} {x : α} (h : l[i]? = some x) : ((flt enc l).drop (i * k)).take k = enc x := by
  have hi := (List.getElem?_eq_some_iff.1 h).1
  rw [flt_drop hk, List.drop_eq_getElem_cons hi, flt, (List.getElem?_eq_some_iff.1 h).2, List.take_append_of_le_length (by rw [hk]; omega), List.take_of_length_le (by rw [hk]; omega)]
theorem flt_get {α : Type} {enc : α → List Value} {k : Nat} (hk : ∀ x, (enc x).length = k) {l : List α} {i r : Nat} {x : α} {u : Value} (h : l[i]? = some x) (hu : (enc x)[r]? = some u) : (flt enc l)[i * k + r]? = some u := by
  have hr := (List.getElem?_eq_some_iff.1 hu).1
  rw [hk] at hr
  have := flt_at hk h
  rw [← this, List.getElem?_take, if_pos hr, List.getElem?_drop] at hu
  exact hu
theorem flt_inv {α : Type} {enc : α → List Value} {k : Nat} (hk : ∀ x, (enc x).length = k) {l : List α} {j : Nat} {u : Value} (h : (flt enc l)[j]? = some u) : ∃ x, l[j / k]? = some x ∧ (enc x)[j % k]? = some u := by
  have hj := (List.getElem?_eq_some_iff.1 h).1
  rw [flt_len hk] at hj
  have hk0 : 0 < k := by
    rcases Nat.eq_zero_or_pos k with h0 | h0
    · rw [h0] at hj; omega
    · exact h0
  have hi : j / k < l.length := (Nat.div_lt_iff_lt_mul hk0).mpr hj
  refine ⟨l[j / k], List.getElem?_eq_getElem hi, ?_⟩
  have hx := flt_at hk (List.getElem?_eq_getElem hi)
  rw [← hx, List.getElem?_take, if_pos (Nat.mod_lt _ hk0), List.getElem?_drop]
  rw [show j / k * k + j % k = j by rw [Nat.mul_comm]; exact Nat.div_add_mod j k]
  exact h
def encI (x : Int) : List Value := [.int .i64 x]
theorem lenC (x : S44) : (encC x).length = 6 := rfl
theorem lenR (x : S49) : (encR x).length = 4 := rfl
theorem lenI (x : Int) : (encI x).length = 1 := rfl
theorem oneC (x : S44) : ∀ u ∈ encC x, u.oneCell' = true := by
  intro u hu; simp only [encC, List.mem_cons, List.not_mem_nil, or_false] at hu
  rcases hu with rfl | rfl | rfl | rfl | rfl | rfl <;> rfl
theorem oneR (x : S49) : ∀ u ∈ encR x, u.oneCell' = true := by
  intro u hu; simp only [encR, List.mem_cons, List.not_mem_nil, or_false] at hu
  rcases hu with rfl | rfl | rfl | rfl <;> rfl
theorem oneI (x : Int) : ∀ u ∈ encI x, u.oneCell' = true := by
  intro u hu; simp only [encI, List.mem_cons, List.not_mem_nil, or_false] at hu
  subst hu; rfl
theorem flt_one {α : Type} {enc : α → List Value} (h : ∀ x, ∀ u ∈ enc x, u.oneCell' = true) : ∀ (l : List α), ∀ u ∈ flt enc l, u.oneCell' = true
  | [], u, hu => by simp [flt] at hu
  | x :: l, u, hu => by
      rw [flt, List.mem_append] at hu
      rcases hu with hu | hu
      · exact h x u hu
      · exact flt_one h l u hu
/-- a row of the call's own -/
def Ow {α : Type} (enc : α → List Value) (e k : Nat) (w : World) (B : Nat) (v : Value) (l : List α) : Prop := w.ownsRow B e k v l.length (flt enc l)
abbrev OwC := Ow encC 44 6
abbrev OwR := Ow encR 49 4
abbrev OwI := Ow encI 3 1
theorem kC (w : World) (x : S44) : k44.K w x (encC x) := PE.k44_mk w x
theorem kR (w : World) (x : S49) : k49.K w x (encR x) := PE.k49_mk w x
theorem kI (w : World) (x : Int) : (Kd.int .i64).K w x (encI x) := rfl
theorem Ow.reads {α : Type} {enc : α → List Value} {e k : Nat} {d : Kd α} (hd : d.sz = k) (hk : ∀ x, (enc x).length = k) (hK : ∀ w x, d.K w x (enc x)) {w : World} {B : Nat} {v : Value} {l : List α} (h : Ow enc e k w B v l) :
    ∃ A c, v = .slice A l.length c ∧ l.length ≤ c ∧ d.C w A l.length l := by
  subst hd
  obtain ⟨A, c, rfl, hr⟩ := own_reads_row (R := d.K w) h ⟨flt_len hk l, fun j p hj => by rw [flt_at hk hj]; exact hK w p⟩ rfl
  exact ⟨A, c, rfl, own_le h, hr⟩
theorem Ow.toR {α : Type} {enc : α → List Value} {e k : Nat} {d : Kd α} (hd : d.sz = k) (hk : ∀ x, (enc x).length = k) (hM : ∀ w b ok x, d.M w b ok x (enc x)) {w : World} {B : Nat} {v : Value} {l : List α} (h : Ow enc e k w B v l) (ok : Nat → Prop) (hok : ∀ k, v.ownBlock = some k → ok k) :
    d.R e w B ok v l := by
  subst hd
  exact ⟨hok, _, h, flt_len hk l, fun j p hj => by rw [flt_at hk hj]; exact hM w B _ p⟩
theorem Ow.below {α : Type} {enc : α → List Value} {e k : Nat} {w W : World} {B : Nat} {v : Value} {l : List α} (h : Ow enc e k w B v l) (hb : Below w.heap.size w W) : Ow enc e k W B v l := pw_own_below h hb
theorem C_src {α : Type} {enc : α → List Value} {d : Kd α} {k : Nat} (hd : d.sz = k) (hk : ∀ x, (enc x).length = k) (hK : ∀ w x c, d.K w x c → c = enc x) {w : World} {ad : Addr} {n : Nat} {l : List α} (h : d.C w (some ad) n l) :
    ∀ j u, (flt enc l)[j]? = some u → w.cell? (ad.add j) = some u := by
  intro j u hu
  subst hd
  obtain ⟨x, hx, hux⟩ := flt_inv hk hu
  have hj := (List.getElem?_eq_some_iff.1 hu).1
  rw [flt_len hk] at hj
  have hn : 0 < n := by
    have h1 := (List.getElem?_eq_some_iff.1 hx).1
    rw [h.1] at h1
    exact Nat.lt_of_le_of_lt (Nat.zero_le _) h1
  obtain ⟨ad', e, hc⟩ := h.2.2 hn
  cases e
  obtain ⟨c, hcl, hKc, hcc⟩ := hc _ _ hx
  obtain rfl := hK w x c hKc
  have := hcc _ _ hux
  rwa [show j / d.sz * d.sz + j % d.sz = j by rw [Nat.mul_comm]; exact Nat.div_add_mod j d.sz] at this
theorem uC (w : World) (x : S44) (c : List Value) (h : k44.K w x c) : c = encC x := PE.k44_open h
theorem uR (w : World) (x : S49) (c : List Value) (h : k49.K w x c) : c = encR x := PE.k49_open h
theorem uI (w : World) (x : Int) (c : List Value) (h : (Kd.int .i64).K w x c) : c = encI x := h
theorem cloneI_any {A : Option Addr} {c : Nat} {l : List Int} {w : World} (h : Kd.C (Kd.int .i64) w A l.length l) (hc : l.length ≤ c) (hl : l.length ≤ 1000) :
    Calls Tryz.prog 36 #[.slice A l.length c] w fun e w' => ∃ v, e = .returned v ∧ Ow encI 3 1 w' w.heap.size v l ∧ Below w.heap.size w w' := by
  cases A with
  | none =>
      have h0 : l = [] := by
        rcases Nat.eq_zero_or_pos l.length with h0 | h0
        · exact List.eq_nil_of_length_eq_zero h0
        · obtain ⟨ad, e, _⟩ := h.2.2 h0
          cases e
      subst h0
      clear h
      have q22 : ∀ (w : World) (a : Option Addr) (n c n' c' : Nat), (binOp .eql 22 (.slice a n c) (.slice none n' c')).run Tryz.prog w = .ok (.bool a.isNone) w := fun w a n c n' c' => Lib.run_eql_slice_nil w _ _ a n c n' c' Tryz.underlying22
      go_enter Tryz.func36, Tryz.ntmps36
      go_wp2
      go_ret
      exact ⟨_, rfl, own_nil _ _ _ _, Below.refl _ _⟩
  | some ad =>
      have HS := Lib.hid (C_src (enc := encI) rfl lenI uI h)
      obtain ⟨i0, hi0, hz0, hz1, hz2⟩ := info_parts PE.info3
      have hlen := flt_len lenI l
      clear h
      obtain ⟨n, hn⟩ : ∃ n, n = l.length := ⟨_, rfl⟩
      obtain ⟨L, hL⟩ : ∃ L, L = flt encI l := ⟨_, rfl⟩
      have h1 : ∀ u ∈ L, u.oneCell' = true := by rw [hL]; exact flt_one oneI l
      rw [← hn] at hl hc hlen
      rw [← hL] at HS hlen
      show Calls Tryz.prog 36 #[.slice (some ad) l.length c] w fun e w' => ∃ v, e = .returned v ∧ w'.ownsRow w.heap.size 3 1 v l.length (flt encI l) ∧ Below w.heap.size w w'
      rw [← hn, ← hL]
      have H1 := Lib.hid h1
      have HLn := Lib.hid hlen
      clear hn hL h1 hlen
      have q22 : ∀ (w : World) (a : Option Addr) (n c n' c' : Nat), (binOp .eql 22 (.slice a n c) (.slice none n' c')).run Tryz.prog w = .ok (.bool a.isNone) w := fun w a n c n' c' => Lib.run_eql_slice_nil w _ _ a n c n' c' Tryz.underlying22
      go_enter Tryz.func36, Tryz.ntmps36
      go_wp2_with (at_builtin; refine wpList_append_own _ rfl _ _ 22 rfl w.heap.size 3 i0 _ 1 8 Tryz.underlying22 hi0 hz0 hz1 hz2 rfl (by decide) _ _ _ rfl (World.ownsRow_made w #[] 0 (Nat.le_refl _) (Nat.zero_le _) (by simp)) ad n c L rfl ?qc1 ?qc2 ?qc3 ?qc4 ?qc5 ?qc6 ?_)
      case qc1 => exact HLn.out
      case qc2 =>
        intro j u hj
        exact Lib.cell?_alloc_some _ (HS.out j u hj)
      case qc3 => exact H1.out
      case qc4 => rw [Nat.zero_add]; have : (1000 : Nat) ≤ maxLen := by decide
                  omega
      case qc5 => omega
      case qc6 => simp
      intro v' w1 hown hgrow hnil
      go_wp2
      go_ret
      exact ⟨v', rfl, by simpa using hown, ((Below.refl _ w).alloc (Nat.le_refl _) _).grown hgrow (by simp) (by intro k hk; simp [Value.ownBlock] at hk; omega)⟩
theorem cloneC_any {A : Option Addr} {c : Nat} {l : List S44} {w : World} (h : Kd.C k44 w A l.length l) (hc : l.length ≤ c) (hl : l.length ≤ 1000) :
    Calls Tryz.prog 37 #[.slice A l.length c] w fun e w' => ∃ v, e = .returned v ∧ Ow encC 44 6 w' w.heap.size v l ∧ Below w.heap.size w w' := by
  cases A with
  | none =>
      have h0 : l = [] := by
        rcases Nat.eq_zero_or_pos l.length with h0 | h0
        · exact List.eq_nil_of_length_eq_zero h0
        · obtain ⟨ad, e, _⟩ := h.2.2 h0
          cases e
      subst h0
      clear h
      have q22 : ∀ (w : World) (a : Option Addr) (n c n' c' : Nat), (binOp .eql 23 (.slice a n c) (.slice none n' c')).run Tryz.prog w = .ok (.bool a.isNone) w := fun w a n c n' c' => Lib.run_eql_slice_nil w _ _ a n c n' c' Tryz.underlying23
      go_enter Tryz.func37, Tryz.ntmps37
      go_wp2
      go_ret
      exact ⟨_, rfl, own_nil _ _ _ _, Below.refl _ _⟩
  | some ad =>
      have HS := Lib.hid (C_src (enc := encC) rfl lenC uC h)
      obtain ⟨i0, hi0, hz0, hz1, hz2⟩ := info_parts PE.info44
      have hlen := flt_len lenC l
      clear h
      obtain ⟨n, hn⟩ : ∃ n, n = l.length := ⟨_, rfl⟩
      obtain ⟨L, hL⟩ : ∃ L, L = flt encC l := ⟨_, rfl⟩
      have h1 : ∀ u ∈ L, u.oneCell' = true := by rw [hL]; exact flt_one oneC l
      rw [← hn] at hl hc hlen
      rw [← hL] at HS hlen
      show Calls Tryz.prog 37 #[.slice (some ad) l.length c] w fun e w' => ∃ v, e = .returned v ∧ w'.ownsRow w.heap.size 44 6 v l.length (flt encC l) ∧ Below w.heap.size w w'
      rw [← hn, ← hL]
      have H1 := Lib.hid h1
      have HLn := Lib.hid hlen
      clear hn hL h1 hlen
      have q22 : ∀ (w : World) (a : Option Addr) (n c n' c' : Nat), (binOp .eql 23 (.slice a n c) (.slice none n' c')).run Tryz.prog w = .ok (.bool a.isNone) w := fun w a n c n' c' => Lib.run_eql_slice_nil w _ _ a n c n' c' Tryz.underlying23
      go_enter Tryz.func37, Tryz.ntmps37
      go_wp2_with (at_builtin; refine wpList_append_own _ rfl _ _ 23 rfl w.heap.size 44 i0 _ 6 56 Tryz.underlying23 hi0 hz0 hz1 hz2 rfl (by decide) _ _ _ rfl (World.ownsRow_made w #[] 0 (Nat.le_refl _) (Nat.zero_le _) (by simp)) ad n c L rfl ?qc1 ?qc2 ?qc3 ?qc4 ?qc5 ?qc6 ?_)
      case qc1 => exact HLn.out
      case qc2 =>
        intro j u hj
        exact Lib.cell?_alloc_some _ (HS.out j u hj)
      case qc3 => exact H1.out
      case qc4 => rw [Nat.zero_add]; have : (1000 : Nat) ≤ maxLen := by decide
                  omega
      case qc5 => omega
      case qc6 => simp
      intro v' w1 hown hgrow hnil
      go_wp2
      go_ret
      exact ⟨v', rfl, by simpa using hown, ((Below.refl _ w).alloc (Nat.le_refl _) _).grown hgrow (by simp) (by intro k hk; simp [Value.ownBlock] at hk; omega)⟩
theorem cloneR_any {A : Option Addr} {c : Nat} {l : List S49} {w : World} (h : Kd.C k49 w A l.length l) (hc : l.length ≤ c) (hl : l.length ≤ 1000) :
    Calls Tryz.prog 38 #[.slice A l.length c] w fun e w' => ∃ v, e = .returned v ∧ Ow encR 49 4 w' w.heap.size v l ∧ Below w.heap.size w w' := by
  cases A with
  | none =>
      have h0 : l = [] := by
        rcases Nat.eq_zero_or_pos l.length with h0 | h0
        · exact List.eq_nil_of_length_eq_zero h0
        · obtain ⟨ad, e, _⟩ := h.2.2 h0
          cases e
      subst h0
      clear h
      have q22 : ∀ (w : World) (a : Option Addr) (n c n' c' : Nat), (binOp .eql 24 (.slice a n c) (.slice none n' c')).run Tryz.prog w = .ok (.bool a.isNone) w := fun w a n c n' c' => Lib.run_eql_slice_nil w _ _ a n c n' c' Tryz.underlying24
      go_enter Tryz.func38, Tryz.ntmps38
      go_wp2
      go_ret
      exact ⟨_, rfl, own_nil _ _ _ _, Below.refl _ _⟩
  | some ad =>
      have HS := Lib.hid (C_src (enc := encR) rfl lenR uR h)
      obtain ⟨i0, hi0, hz0, hz1, hz2⟩ := info_parts PE.info49
      have hlen := flt_len lenR l
      clear h
      obtain ⟨n, hn⟩ : ∃ n, n = l.length := ⟨_, rfl⟩
      obtain ⟨L, hL⟩ : ∃ L, L = flt encR l := ⟨_, rfl⟩
      have h1 : ∀ u ∈ L, u.oneCell' = true := by rw [hL]; exact flt_one oneR l
      rw [← hn] at hl hc hlen
      rw [← hL] at HS hlen
      show Calls Tryz.prog 38 #[.slice (some ad) l.length c] w fun e w' => ∃ v, e = .returned v ∧ w'.ownsRow w.heap.size 49 4 v l.length (flt encR l) ∧ Below w.heap.size w w'
      rw [← hn, ← hL]
      have H1 := Lib.hid h1
      have HLn := Lib.hid hlen
      clear hn hL h1 hlen
      have q22 : ∀ (w : World) (a : Option Addr) (n c n' c' : Nat), (binOp .eql 24 (.slice a n c) (.slice none n' c')).run Tryz.prog w = .ok (.bool a.isNone) w := fun w a n c n' c' => Lib.run_eql_slice_nil w _ _ a n c n' c' Tryz.underlying24
      go_enter Tryz.func38, Tryz.ntmps38
      go_wp2_with (at_builtin; refine wpList_append_own _ rfl _ _ 24 rfl w.heap.size 49 i0 _ 4 32 Tryz.underlying24 hi0 hz0 hz1 hz2 rfl (by decide) _ _ _ rfl (World.ownsRow_made w #[] 0 (Nat.le_refl _) (Nat.zero_le _) (by simp)) ad n c L rfl ?qc1 ?qc2 ?qc3 ?qc4 ?qc5 ?qc6 ?_)
      case qc1 => exact HLn.out
      case qc2 =>
        intro j u hj
        exact Lib.cell?_alloc_some _ (HS.out j u hj)
      case qc3 => exact H1.out
      case qc4 => rw [Nat.zero_add]; have : (1000 : Nat) ≤ maxLen := by decide
                  omega
      case qc5 => omega
      case qc6 => simp
      intro v' w1 hown hgrow hnil
      go_wp2
      go_ret
      exact ⟨v', rfl, by simpa using hown, ((Below.refl _ w).alloc (Nat.le_refl _) _).grown hgrow (by simp) (by intro k hk; simp [Value.ownBlock] at hk; omega)⟩
end Go.Proofs.YtcofacgdijjnoaaGreat
end
section
namespace Go.Proofs.YtcofacgdijjnoaaGreat
open PE (S31 S44 S49 k44 k49 k31)
open Go.RowKit Go.Shelf Go.Lib Go.Proofs.YtcofacgdijjnoaaGreatW.PrintWords Go.Proofs.YtcofacgdijjnoaaGreatW.PrintLast Go.Proofs.YtcofacgdijjnoaaGreatW.PrintMore
set_option linter.unusedVariables false
set_option linter.unusedSimpArgs false
set_option maxRecDepth 100000
set_option maxHeartbeats 2000000
theorem set_five1 {w : World} {B : Nat} {a b c d e u v : Value} {t : TypeId} (h : w.heap[B]? = some (.cells #[a, b, c, d, e] t (0, 0))) :
    ((w.setCell ⟨B, 1, none⟩ u).setCell ⟨B, 2, none⟩ v).heap[B]? = some (.cells #[a, u, v, d, e] t (0, 0)) := blk_put (blk_put h 1 _ rfl) 2 _ rfl
theorem set_five3 {w : World} {B : Nat} {a b c d e u v : Value} {t : TypeId} (h : w.heap[B]? = some (.cells #[a, b, c, d, e] t (0, 0))) :
    ((w.setCell ⟨B, 3, none⟩ u).setCell ⟨B, 4, none⟩ v).heap[B]? = some (.cells #[a, b, c, u, v] t (0, 0)) := blk_put (blk_put h 3 _ rfl) 4 _ rfl
theorem set_far {w : World} {B C i j : Nat} {u v : Value} {o : Obj} (h : w.heap[C]? = some o) (hne : C ≠ B) : ((w.setCell ⟨B, i, none⟩ u).setCell ⟨B, j, none⟩ v).heap[C]? = some o := by
  rw [Below.heap_setCell _ _ _ _ hne, Below.heap_setCell _ _ _ _ hne]; exact h
theorem Ow.set2 {α : Type} {enc : α → List Value} {e k : Nat} {w : World} {B C i j t : Nat} {u v0 v1 : Value} {l : List α} {cs : Array Value} (h : Ow enc e k w B u l) (hb : w.heap[C]? = some (.cells cs t (0, 0))) (ht : e ≠ t) :
    Ow enc e k ((w.setCell ⟨C, i, none⟩ v0).setCell ⟨C, j, none⟩ v1) B u l := by
  have h1 := own_setCell (p := ⟨C, i, none⟩) h (own_ne h hb ht) v0
  exact own_setCell (p := ⟨C, j, none⟩) h1 (own_ne h hb ht) v1
theorem ne_own {α β : Type} {enc : α → List Value} {enc2 : β → List Value} {e k e2 k2 : Nat} {w w1 : World} {B : Nat} {u v : Value} {l : List α} {m : List β} (h : Ow enc e k w B u l) (h2 : Ow enc2 e2 k2 w1 w.heap.size v m) : NeRow u v := by
  intro x hx hx2
  have := own_lt h x hx
  have := own_base h2 x hx2
  omega
def Mid1 (w : World) (rt : Int) (wd ht : List Int) (v3 v4 z : Value) (oz : Obj) (wx : World) : Prop := ∃ A5 c5 A6 c6, OwI wx w.heap.size (.slice A5 wd.length c5) wd ∧ OwI wx w.heap.size (.slice A6 ht.length c6) ht ∧ NeRow (.slice A5 wd.length c5) (.slice A6 ht.length c6) ∧
  Below w.heap.size w wx ∧ wx.heap[w.heap.size]? = some (.cells #[.int .i64 rt, .slice A5 wd.length c5, .slice A6 ht.length c6, v3, v4] 26 (0, 0)) ∧ wx.heap[w.heap.size + 1]? = some oz
theorem mid1_of {w W0 w1 w2 : World} {rt : Int} {wd ht : List Int} {v3 v4 a b : Value} {oz : Obj} {A5 A6 : Option Addr} {c5 c6 : Nat} (hA : Below w.heap.size w W0) (hN : W0.heap[w.heap.size]? = some (.cells #[.int .i64 rt, a, b, v3, v4] 26 (0, 0))) (hZ : W0.heap[w.heap.size + 1]? = some oz)
    (ho1 : OwI w1 W0.heap.size (.slice A5 wd.length c5) wd) (hb1 : Below W0.heap.size W0 w1) (ho2 : OwI w2 w1.heap.size (.slice A6 ht.length c6) ht) (hb2 : Below w1.heap.size w1 w2) :
    Mid1 w rt wd ht v3 v4 a oz ((w2.setCell ⟨w.heap.size, 1, none⟩ (.slice A5 wd.length c5)).setCell ⟨w.heap.size, 2, none⟩ (.slice A6 ht.length c6)) := by
  have n2 := blk_below (blk_below hN hb1) hb2
  have z2 := blk_below (blk_below hZ hb1) hb2
  have o1 : OwI w2 w.heap.size (.slice A5 wd.length c5) wd := own_weaken (Ow.below ho1 hb2) hA.size
  have o2 : OwI w2 w.heap.size (.slice A6 ht.length c6) ht := own_weaken ho2 (Nat.le_trans hA.size hb1.size)
  exact ⟨A5, c5, A6, c6, o1.set2 n2 (by decide), o2.set2 n2 (by decide), ne_own ho1 ho2, below_set (below_set (below_then (below_then hA hA.size hb1) (Nat.le_trans hA.size hb1.size) hb2) (Nat.le_refl _)) (Nat.le_refl _), set_five1 n2, set_far z2 (by omega)⟩
def Mid2 (w : World) (s : Sh) (oz : Obj) (wx : World) : Prop := ∃ A5 c5 A6 c6 A7 c7 A8 c8, OwI wx w.heap.size (.slice A5 s.wd.length c5) s.wd ∧ OwI wx w.heap.size (.slice A6 s.ht.length c6) s.ht ∧ OwC wx w.heap.size (.slice A7 s.ce.length c7) s.ce ∧ OwR wx w.heap.size (.slice A8 s.me.length c8) s.me ∧
  NeRow (.slice A5 s.wd.length c5) (.slice A6 s.ht.length c6) ∧ Below w.heap.size w wx ∧ wx.heap[w.heap.size]? = some (.cells #[.int .i64 s.rt, .slice A5 s.wd.length c5, .slice A6 s.ht.length c6, .slice A7 s.ce.length c7, .slice A8 s.me.length c8] 26 (0, 0)) ∧ wx.heap[w.heap.size + 1]? = some oz
theorem mid2_of {w W0 w1 w2 : World} {rt : Int} {wd ht : List Int} {ce : List S44} {me : List S49} {v3 v4 : Value} {oz : Obj} {A5 A6 A7 A8 : Option Addr} {c5 c6 c7 c8 : Nat} (hA : Below w.heap.size w W0)
    (hN : W0.heap[w.heap.size]? = some (.cells #[.int .i64 rt, .slice A5 wd.length c5, .slice A6 ht.length c6, v3, v4] 26 (0, 0))) (hZ : W0.heap[w.heap.size + 1]? = some oz)
    (o5 : OwI W0 w.heap.size (.slice A5 wd.length c5) wd) (o6 : OwI W0 w.heap.size (.slice A6 ht.length c6) ht) (hne : NeRow (.slice A5 wd.length c5) (.slice A6 ht.length c6))
    (ho1 : OwC w1 W0.heap.size (.slice A7 ce.length c7) ce) (hb1 : Below W0.heap.size W0 w1) (ho2 : OwR w2 w1.heap.size (.slice A8 me.length c8) me) (hb2 : Below w1.heap.size w1 w2) :
    Mid2 w ⟨rt, wd, ht, ce, me⟩ oz ((w2.setCell ⟨w.heap.size, 3, none⟩ (.slice A7 ce.length c7)).setCell ⟨w.heap.size, 4, none⟩ (.slice A8 me.length c8)) := by
  have n2 := blk_below (blk_below hN hb1) hb2
  have z2 := blk_below (blk_below hZ hb1) hb2
  have p5 := Ow.below (Ow.below o5 hb1) hb2
  have p6 := Ow.below (Ow.below o6 hb1) hb2
  have p7 : OwC w2 w.heap.size (.slice A7 ce.length c7) ce := own_weaken (Ow.below ho1 hb2) hA.size
  have p8 : OwR w2 w.heap.size (.slice A8 me.length c8) me := own_weaken ho2 (Nat.le_trans hA.size hb1.size)
  exact ⟨A5, c5, A6, c6, A7, c7, A8, c8, p5.set2 n2 (by decide), p6.set2 n2 (by decide), p7.set2 n2 (by decide), p8.set2 n2 (by decide), hne, below_set (below_set (below_then (below_then hA hA.size hb1) (Nat.le_trans hA.size hb1.size) hb2) (Nat.le_refl _)) (Nat.le_refl _), set_five3 n2, set_far z2 (by omega)⟩
theorem put5 {w : World} {B : Nat} {u0 u1 u2 u3 u4 v0 v1 v2 v3 v4 : Value} (h : w.heap[B]? = some (.cells #[v0, v1, v2, v3, v4] 26 (0, 0))) :
    (((((w.setCell ⟨B, 0, none⟩ u0).setCell ⟨B, 1, none⟩ u1).setCell ⟨B, 2, none⟩ u2).setCell ⟨B, 3, none⟩ u3).setCell ⟨B, 4, none⟩ u4).heap[B]? = some (.cells #[u0, u1, u2, u3, u4] 26 (0, 0)) :=
  blk_put (blk_put (blk_put (blk_put (blk_put h 0 _ rfl) 1 _ rfl) 2 _ rfl) 3 _ rfl) 4 _ rfl
theorem Ow.set5 {α : Type} {enc : α → List Value} {e k : Nat} {w : World} {B C t : Nat} {u v0 v1 v2 v3 v4 : Value} {l : List α} {cs : Array Value} (h : Ow enc e k w B u l) (hb : w.heap[C]? = some (.cells cs t (0, 0))) (ht : e ≠ t) :
    Ow enc e k (((((w.setCell ⟨C, 0, none⟩ v0).setCell ⟨C, 1, none⟩ v1).setCell ⟨C, 2, none⟩ v2).setCell ⟨C, 3, none⟩ v3).setCell ⟨C, 4, none⟩ v4) B u l := by
  have hn := own_ne h hb ht
  exact own_setCell (p := ⟨C, 4, none⟩) (own_setCell (p := ⟨C, 3, none⟩) (own_setCell (p := ⟨C, 2, none⟩) (own_setCell (p := ⟨C, 1, none⟩) (own_setCell (p := ⟨C, 0, none⟩) h hn v0) hn v1) hn v2) hn v3) hn v4
theorem zero5 {w : World} {B : Nat} (h : w.heap[B]? = some (.cells #[.int .i64 0, .slice none 0 0, .slice none 0 0, .slice none 0 0, .slice none 0 0] 26 (0, 0))) :
    w.cell? ⟨B, 0, none⟩ = some (.int .i64 0) ∧ w.cell? ⟨B, 1, none⟩ = some (.slice none 0 0) ∧ w.cell? ⟨B, 2, none⟩ = some (.slice none 0 0) ∧ w.cell? ⟨B, 3, none⟩ = some (.slice none 0 0) ∧ w.cell? ⟨B, 4, none⟩ = some (.slice none 0 0) ∧
    w.frozen? ⟨B, 0, none⟩ = false ∧ w.frozen? ⟨B, 1, none⟩ = false ∧ w.frozen? ⟨B, 2, none⟩ = false ∧ w.frozen? ⟨B, 3, none⟩ = false ∧ w.frozen? ⟨B, 4, none⟩ = false :=
  ⟨blk_cell h 0, blk_cell h 1, blk_cell h 2, blk_cell h 3, blk_cell h 4, blk_frozen h 0, blk_frozen h 1, blk_frozen h 2, blk_frozen h 3, blk_frozen h 4⟩
/-- a sheet's rows are few -/
def Few (s : Sh) : Prop := s.wd.length ≤ 1000 ∧ s.ht.length ≤ 1000 ∧ s.ce.length ≤ 1000 ∧ s.me.length ≤ 1000
theorem own_any {w : World} {V : SV} {s : Sh} (h : Rd w V s) (hf : Few s) : Calls Tryz.prog 16 #[.agg (shv V s)] w fun e w' => ∃ v1 v2 v3 v4, e = .returned (.agg #[.int .i64 s.rt, v1, v2, v3, v4]) ∧
    OwI w' w.heap.size v1 s.wd ∧ OwI w' w.heap.size v2 s.ht ∧ OwC w' w.heap.size v3 s.ce ∧ OwR w' w.heap.size v4 s.me ∧ NeRow v1 v2 ∧ Below w.heap.size w w' := by
  have hn := blk_new w (Obj.cells (shv V s) 26 (0, 0))
  have hA := below_alloc (Below.refl w.heap.size w) (Obj.cells (shv V s) 26 (0, 0))
  have hR := h.below hA
  have c1' := fun W' (hb : Below w.heap.size w W') => cloneI_any (h.below hb).h1 h.l1 hf.1
  have c2' := fun W' (hb : Below w.heap.size w W') => cloneI_any (h.below hb).h2 h.l2 hf.2.1
  have c3' := fun W' (hb : Below w.heap.size w W') => cloneC_any (h.below hb).h3 h.l3 hf.2.2.1
  have c4' := fun W' (hb : Below w.heap.size w W') => cloneR_any (h.below hb).h4 h.l4 hf.2.2.2
  clear hR
  obtain ⟨A1, c1, A2, c2, A3, c3, A4, c4⟩ := V
  obtain ⟨rt, wd, ht, ce, me⟩ := s
  simp only [shv] at hA hn c1' c2' c3' c4'
  have H1 := Lib.hid c1'
  have H2 := Lib.hid c2'
  have H3 := Lib.hid c3'
  have H4 := Lib.hid c4'
  have hn2 := blk_alloc hn (Obj.cells #[.int .i64 0, .slice none 0 0, .slice none 0 0, .slice none 0 0, .slice none 0 0] 26 (0, 0))
  have hz := blk_new (w.alloc (Obj.cells #[.int .i64 rt, .slice A1 wd.length c1, .slice A2 ht.length c2, .slice A3 ce.length c3, .slice A4 me.length c4] 26 (0, 0))) (Obj.cells #[.int .i64 0, .slice none 0 0, .slice none 0 0, .slice none 0 0, .slice none 0 0] 26 (0, 0))
  have hsz : (w.alloc (Obj.cells #[.int .i64 rt, .slice A1 wd.length c1, .slice A2 ht.length c2, .slice A3 ce.length c3, .slice A4 me.length c4] 26 (0, 0))).heap.size = w.heap.size + 1 := by simp
  rw [hsz] at hz
  obtain ⟨W0, hW0⟩ : ∃ W0, W0 = (w.alloc (Obj.cells #[.int .i64 rt, .slice A1 wd.length c1, .slice A2 ht.length c2, .slice A3 ce.length c3, .slice A4 me.length c4] 26 (0, 0))).alloc (Obj.cells #[.int .i64 0, .slice none 0 0, .slice none 0 0, .slice none 0 0, .slice none 0 0] 26 (0, 0)) := ⟨_, rfl⟩
  have hA2 := below_alloc hA (Obj.cells #[.int .i64 0, .slice none 0 0, .slice none 0 0, .slice none 0 0, .slice none 0 0] 26 (0, 0))
  rw [← hW0] at hn2 hz hA2
  have HA := Lib.hid hA2
  have HN := Lib.hid hn2
  have HZ := Lib.hid hz
  obtain ⟨y0, y1, y2, y3, y4⟩ := five (V := ⟨A1, c1, A2, c2, A3, c3, A4, c4⟩) (s := ⟨rt, wd, ht, ce, me⟩) hn2
  clear hA hn hn2 hz hA2 hsz c1' c2' c3' c4' h hf
  show Calls Tryz.prog 16 #[.agg #[.int .i64 rt, .slice A1 wd.length c1, .slice A2 ht.length c2, .slice A3 ce.length c3, .slice A4 me.length c4]] w _
  go_enter Tryz.func16, Tryz.ntmps16
  go_wp2_with fail
  rw [← hW0]
  clear hW0
  have HMID := Lib.hid (fun w1 w2 A5 c5 A6 c6 => @mid1_of w W0 w1 w2 rt wd ht (.slice A3 ce.length c3) (.slice A4 me.length c4) _ _ _ A5 A6 c5 c6 HA.out HN.out HZ.out)
  go_cut [] from 3 to 21 (fun wx => Hid (Mid1 w rt wd ht (.slice A3 ce.length c3) (.slice A4 me.length c4) (.slice A1 wd.length c1) (Obj.cells #[.int .i64 0, .slice none 0 0, .slice none 0 0, .slice none 0 0, .slice none 0 0] 26 (0, 0)) wx))
  case first =>
    go_region_with (first
      | (go_at_call 36; with_reducible refine (H1.out _ (by repeat (first | exact HA.out | assumption | exact below_drew HA.out | refine below_drew ?_))).mono ?_; rintro e w1 ⟨v1, rfl, ho1, hb1⟩; obtain ⟨A5, c5, rfl, hr5, _⟩ := Ow.reads rfl lenI kI ho1; obtain ⟨x0, x1, x2, x3, x4⟩ := five (V := ⟨A1, c1, A2, c2, A3, c3, A4, c4⟩) (s := ⟨rt, wd, ht, ce, me⟩) (blk_below (blk_drew HN.out) hb1); have g1 := blk_frozen (blk_below (blk_drew HN.out) hb1) 1; have g2 := blk_frozen (blk_below (blk_drew HN.out) hb1) 2; have HO1 := Lib.hid ho1; have HC1 := Lib.hid hb1; have hB1 := below_then (below_drew HA.out) (below_drew HA.out).size hb1; clear ho1 hr5)
      | (go_at_call 36; with_reducible refine (H2.out _ (by repeat (first | exact HA.out | assumption | exact below_drew HA.out | refine below_drew ?_))).mono ?_; rintro e w2 ⟨v2, rfl, ho2, hb2⟩; obtain ⟨A6, c6, rfl, hr6, _⟩ := Ow.reads rfl lenI kI ho2; obtain ⟨x0, x1, x2, x3, x4⟩ := five (V := ⟨A1, c1, A2, c2, A3, c3, A4, c4⟩) (s := ⟨rt, wd, ht, ce, me⟩) (blk_below (blk_below (blk_drew HN.out) hb1) hb2); have g1 := blk_frozen (blk_below (blk_below (blk_drew HN.out) hb1) hb2) 1; have g2 := blk_frozen (blk_below (blk_below (blk_drew HN.out) hb1) hb2) 2; have HO2 := Lib.hid ho2; have HC2 := Lib.hid hb2; have hB2 := below_then hB1 hB1.size hb2; clear ho2 hr6))
    all_goals
      go_wp2_with fail
      go_meet
      exact Lib.hid (HMID.out _ _ _ _ _ _ HO1.out (below_then (below_drew (Below.refl _ W0)) (Nat.le_refl _) HC1.out) HO2.out HC2.out)
  case rest =>
    obtain ⟨A5, c5, A6, c6, o5, o6, hne, hB, hN, hZ⟩ := hcut.out
    obtain ⟨x0, x1, x2, x3, x4⟩ := five (V := ⟨A5, c5, A6, c6, A3, c3, A4, c4⟩) (s := ⟨rt, wd, ht, ce, me⟩) hN
    have HO5 := Lib.hid o5
    have HO6 := Lib.hid o6
    have HNE := Lib.hid hne
    have HBc := Lib.hid hB
    have HNc := Lib.hid hN
    have HZc := Lib.hid hZ
    clear hcut o5 o6 hne hB hN hZ y0 y1 y2 y3 y4
    go_wp2_with fail
    have HMID2 := Lib.hid (fun w1 w2 A7 c7 A8 c8 => @mid2_of w wc w1 w2 rt wd ht ce me _ _ _ A5 A6 A7 A8 c5 c6 c7 c8 HBc.out HNc.out HZc.out HO5.out HO6.out HNE.out)
    go_cut [] from 3 to 21 (fun wx => Hid (Mid2 w ⟨rt, wd, ht, ce, me⟩ (Obj.cells #[.int .i64 0, .slice none 0 0, .slice none 0 0, .slice none 0 0, .slice none 0 0] 26 (0, 0)) wx))
    case first =>
      go_region_with (first
        | (go_at_call 37; refine (H3.out _ (by repeat (first | exact HBc.out | assumption | exact below_drew HBc.out | refine below_drew ?_))).mono ?_; rintro e w1 ⟨v1, rfl, ho1, hb1⟩; obtain ⟨A7, c7, rfl, hr5, _⟩ := Ow.reads rfl lenC kC ho1; obtain ⟨x0, x1, x2, x3, x4⟩ := five (V := ⟨A5, c5, A6, c6, A3, c3, A4, c4⟩) (s := ⟨rt, wd, ht, ce, me⟩) (blk_below (blk_drew HNc.out) hb1); have g1 := blk_frozen (blk_below (blk_drew HNc.out) hb1) 3; have g2 := blk_frozen (blk_below (blk_drew HNc.out) hb1) 4; have HO1 := Lib.hid ho1; have HC1 := Lib.hid hb1; have hB1 := below_then (below_drew HBc.out) (below_drew HBc.out).size hb1; clear ho1 hr5)
        | (go_at_call 38; refine (H4.out _ (by repeat (first | exact HBc.out | assumption | exact below_drew HBc.out | refine below_drew ?_))).mono ?_; rintro e w2 ⟨v2, rfl, ho2, hb2⟩; obtain ⟨A8, c8, rfl, hr6, _⟩ := Ow.reads rfl lenR kR ho2; obtain ⟨x0, x1, x2, x3, x4⟩ := five (V := ⟨A5, c5, A6, c6, A3, c3, A4, c4⟩) (s := ⟨rt, wd, ht, ce, me⟩) (blk_below (blk_below (blk_drew HNc.out) hb1) hb2); have g1 := blk_frozen (blk_below (blk_below (blk_drew HNc.out) hb1) hb2) 3; have g2 := blk_frozen (blk_below (blk_below (blk_drew HNc.out) hb1) hb2) 4; have HO2 := Lib.hid ho2; have HC2 := Lib.hid hb2; have hB2 := below_then hB1 hB1.size hb2; clear ho2 hr6))
      all_goals
        go_wp2_with fail
        go_meet
        exact Lib.hid (HMID2.out _ _ _ _ _ _ HO1.out (below_then (below_drew (Below.refl _ wc)) (Nat.le_refl _) HC1.out) HO2.out HC2.out)
    case rest =>
      clear x0 x1 x2 x3 x4
      obtain ⟨A5, c5, A6, c6, A7, c7, A8, c8, o5, o6, o7, o8, hne, hB, hN, hZ⟩ := hcut.out
      obtain ⟨x0, x1, x2, x3, x4⟩ := five (V := ⟨A5, c5, A6, c6, A7, c7, A8, c8⟩) (s := ⟨rt, wd, ht, ce, me⟩) hN
      obtain ⟨z0, z1, z2, z3, z4, f0, f1, f2, f3, f4⟩ := zero5 hZ
      have HO5 := Lib.hid o5
      have HO6 := Lib.hid o6
      have HO7 := Lib.hid o7
      have HO8 := Lib.hid o8
      have HNE2 := Lib.hid hne
      have HB2 := Lib.hid hB
      have HZ2 := Lib.hid hZ
      clear hcut o5 o6 o7 o8 hne hB hN hZ
      go_wp2_with fail
      refine bodyPost_ret (results_cell_row rfl _ _ (w.heap.size + 1) 26 _ (0, 0) _ rfl (put5 HZ2.out) Tryz.underlying26 rfl (by kernel_rfl)) rfl ?_
      exact ⟨_, _, _, _, rfl, HO5.out.set5 HZ2.out (by decide), HO6.out.set5 HZ2.out (by decide), HO7.out.set5 HZ2.out (by decide), HO8.out.set5 HZ2.out (by decide), HNE2.out, below_set (below_set (below_set (below_set (below_set HB2.out (by omega)) (by omega)) (by omega)) (by omega)) (by omega)⟩
end Go.Proofs.YtcofacgdijjnoaaGreat
end
section
namespace Go.Proofs.YtcofacgdijjnoaaGreat
open PE (S31 S44 S49 k44 k49 k31)
open Go.RowKit Go.Shelf Go.Lib Go.Proofs.YtcofacgdijjnoaaGreatW.PrintWords Go.Proofs.YtcofacgdijjnoaaGreatW.PrintLast Go.Proofs.YtcofacgdijjnoaaGreatW.PrintMore
set_option linter.unusedVariables false
set_option linter.unusedSimpArgs false
set_option maxRecDepth 100000
set_option maxHeartbeats 2000000
/-- what the steps do, by their kinds: the map's entries -/
def dfn (D : Nat) (k : Nat) : Value := .func (.func (38 + k)) #[.pointer (some ⟨D, 0, none⟩)] #[]
def dent (D : Nat) : Nat → Array MapEntry
  | 0 => #[]
  | k + 1 => (dent D k).push { key := .int .i64 ((k + 1 : Nat) : Int), val := dfn D (k + 1), born := k }
theorem dent_find (D : Nat) (x : Int) : ∀ k : Nat, (x < 1 ∨ (k : Int) < x) → Instr.findNow (.int .i64) (.int .i64 x) (dent D k).toList 0 = some none := by
  have key : ∀ (l : List MapEntry) (i : Nat), (∀ e ∈ l, ∃ y : Int, e.key = .int .i64 y ∧ y ≠ x) → Instr.findNow (.int .i64) (.int .i64 x) l i = some none := by
    intro l
    induction l with
    | nil => intro i _; rfl
    | cons e l ih =>
        intro i h
        obtain ⟨y, hy, hne⟩ := h e (List.mem_cons_self ..)
        rw [Instr.findNow, hy]
        have : Instr.sameNow (.int .i64) (.int .i64 x) (.int .i64 y) = some false := by
          simp only [Instr.sameNow, if_true]
          congr 1
          simpa using fun h => hne h.symm
        rw [this]
        exact ih (i + 1) fun e he => h e (List.mem_cons_of_mem _ he)
  intro k hx
  apply key
  intro e he
  have : ∀ k : Nat, (x < 1 ∨ (k : Int) < x) → ∀ e ∈ (dent D k).toList, ∃ y : Int, e.key = .int .i64 y ∧ y ≠ x := by
    intro k
    induction k with
    | zero => intro _ e he; simp [dent] at he
    | succ k ih =>
        intro hx e he
        rw [dent, Array.toList_push, List.mem_append, List.mem_singleton] at he
        rcases he with he | rfl
        · exact ih (by omega) e he
        · exact ⟨_, rfl, by omega⟩
  exact this k hx e he
theorem upd_run (D : Nat) (w : World) (k : Nat) (x : Int) (hx : x = ((k + 1 : Nat) : Int)) (f : Nat) (hf : f = 38 + (k + 1)) :
    (Instr.mapUpdate 55 (.map (some w.heap.size)) (.int .i64 x) (.func (.func f) #[.pointer (some ⟨D, 0, none⟩)] #[])).run Tryz.prog (w.alloc (.map (dent D k) k)) = .ok () (w.alloc (.map (dent D (k + 1)) (k + 1))) := by
  subst hx hf
  have hu := run_underlying (P := Tryz.prog) (w := w.alloc (.map (dent D k) k)) Tryz.underlying55
  have hg : (w.alloc (.map (dent D k) k)).heap[w.heap.size]? = some (.map (dent D k) k) := blk_new w _
  unfold Instr.mapUpdate
  simp only [Sem.run_bind, hu, Result.andThen_ok]
  have hlt : w.heap.size < (w.alloc (.map (dent D k) k)).heap.size := blk_lt hg
  rw [Go.MapKept.run_getObj_map hg]
  simp only [Result.andThen_ok, Sem.run_bind]
  rw [Go.MapKept.run_checkKey Tryz.underlying3 (by trivial)]
  simp only [Result.andThen_ok]
  rw [Go.MapKept.run_findKey Tryz.underlying3 (dent_find D _ k (by omega))]
  simp only [Result.andThen_ok]
  rw [Go.MapKept.run_setObj_map _ hg]
  have he : (w.alloc (.map (dent D k) k)).heap.setIfInBounds w.heap.size (.map (dent D (k + 1)) (k + 1)) = (w.alloc (.map (dent D (k + 1)) (k + 1))).heap := by
    apply Array.ext_getElem?
    intro i
    rw [Array.getElem?_setIfInBounds]
    split
    · rename_i h; subst h
      first | exact (blk_new w _).symm | (rw [if_pos hlt]; exact (blk_new w _).symm)
    · rename_i h
      rcases Nat.lt_trichotomy i w.heap.size with h1 | h1 | h1
      · rw [Below.heap_alloc w _ i h1, Below.heap_alloc w _ i h1]
      · exact absurd h1.symm h
      · rw [Array.getElem?_eq_none (by simp; omega), Array.getElem?_eq_none (by simp; omega)]
  show Result.ok () { (w.alloc (.map (dent D k) k)) with heap := (w.alloc (.map (dent D k) k)).heap.setIfInBounds w.heap.size (.map (dent D (k + 1)) (k + 1)) } = _
  rw [he]; rfl
theorem dent_hit (D : Nat) (x : Int) : ∀ k : Nat, 1 ≤ x → x ≤ (k : Int) → ∃ i, Instr.findNow (.int .i64) (.int .i64 x) (dent D k).toList 0 = some (some (i, dfn D x.toNat)) := by
  have key : ∀ (l : List MapEntry) (e : MapEntry) (i : Nat), (∃ j v, Instr.findNow (.int .i64) (.int .i64 x) l i = some (some (j, v))) → Instr.findNow (.int .i64) (.int .i64 x) (l ++ [e]) i = Instr.findNow (.int .i64) (.int .i64 x) l i := by
    intro l e
    induction l with
    | nil => rintro i ⟨j, v, h⟩; simp [Instr.findNow] at h
    | cons a l ih =>
        rintro i ⟨j, v, h⟩
        rw [Instr.findNow] at h
        rw [List.cons_append, Instr.findNow, Instr.findNow]
        cases hs : Instr.sameNow (.int .i64) (.int .i64 x) a.key with
        | none => rfl
        | some b =>
            cases b with
            | true => rfl
            | false =>
                rw [hs] at h
                exact ih (i + 1) ⟨j, v, h⟩
  have key2 : ∀ (l : List MapEntry) (e : MapEntry) (i : Nat), Instr.findNow (.int .i64) (.int .i64 x) l i = some none → e.key = .int .i64 x → Instr.findNow (.int .i64) (.int .i64 x) (l ++ [e]) i = some (some (i + l.length, e.val)) := by
    intro l e
    induction l with
    | nil => intro i _ he; simp [Instr.findNow, he, Instr.sameNow]
    | cons a l ih =>
        intro i h he
        rw [Instr.findNow] at h
        rw [List.cons_append, Instr.findNow]
        cases hs : Instr.sameNow (.int .i64) (.int .i64 x) a.key with
        | none => rw [hs] at h; cases h
        | some b =>
            rw [hs] at h
            cases b with
            | true => cases h
            | false =>
                show Instr.findNow _ _ (l ++ [e]) (i + 1) = _
                rw [ih (i + 1) h he, List.length_cons]
                congr 3; omega
  intro k
  induction k with
  | zero => intro h1 h2; omega
  | succ k ih =>
      intro h1 h2
      rw [dent, Array.toList_push]
      by_cases hx : x ≤ (k : Int)
      · obtain ⟨i, hi⟩ := ih h1 hx
        exact ⟨i, by rw [key _ _ _ ⟨i, _, hi⟩]; exact hi⟩
      · have hxe : x = ((k + 1 : Nat) : Int) := by omega
        refine ⟨0 + (dent D k).toList.length, ?_⟩
        rw [key2 _ _ _ (dent_find D x k (by omega)) (by rw [hxe]), hxe]; rfl
theorem look_hit (D g : Nat) (x : Int) (h1 : 1 ≤ x) (h2 : x ≤ 11) (W : World) (hg : W.heap[g]? = some (.map (dent D 11) 11)) :
    (Instr.lookup 55 (.map (some g)) (.int .i64 x) true).run Tryz.prog W = .ok (.tuple #[dfn D x.toNat, .bool true]) W := by
  obtain ⟨i, hi⟩ := dent_hit D x 11 h1 (by simpa using h2)
  have hu := run_underlying (P := Tryz.prog) (w := W) Tryz.underlying55
  unfold Instr.lookup
  simp only [Sem.run_bind, hu, Result.andThen_ok]
  rw [Go.MapKept.run_getObj_map hg]
  simp only [Result.andThen_ok, Sem.run_bind, Sem.run_pure]
  rw [Go.MapKept.run_checkKey Tryz.underlying3 (by trivial)]
  simp only [Result.andThen_ok]
  rw [Go.MapKept.run_findKey Tryz.underlying3 hi]
  simp only [Result.andThen_ok, Sem.run_pure, Sem.run_bind, if_true]
theorem look_miss (D g : Nat) (x : Int) (h : x < 1 ∨ 11 < x) (W : World) (hg : W.heap[g]? = some (.map (dent D 11) 11)) :
    (Instr.lookup 55 (.map (some g)) (.int .i64 x) true).run Tryz.prog W = .ok (.tuple #[.nilFunc, .bool false]) W := by
  have hi := dent_find D x 11 (by simpa using h)
  have hu := run_underlying (P := Tryz.prog) (w := W) Tryz.underlying55
  have hz : (zeroValue 50).run Tryz.prog W = .ok .nilFunc W := by kernel_rfl
  unfold Instr.lookup
  simp only [Sem.run_bind, hu, Result.andThen_ok]
  rw [Go.MapKept.run_getObj_map hg]
  simp only [Result.andThen_ok, Sem.run_bind, Sem.run_pure]
  rw [Go.MapKept.run_checkKey Tryz.underlying3 (by trivial)]
  simp only [Result.andThen_ok]
  rw [Go.MapKept.run_findKey Tryz.underlying3 hi]
  simp only [Result.andThen_ok, Sem.run_pure, Sem.run_bind, hz, if_true]
theorem does_any (w : World) (D : Nat) : Calls Tryz.prog 17 #[.pointer (some ⟨D, 0, none⟩)] w fun e w' => e = .returned (.map (some w.heap.size)) ∧ w' = w.alloc (.map (dent D 11) 11) := by
  have hm : (Instr.makeMap 55 none).run Tryz.prog w = .ok (.map (some w.heap.size)) (w.alloc (.map (dent D 0) 0)) := run_makeMap 55 w
  have u1 := upd_run D w 0 1 (by rfl) 39 (by rfl)
  have u2 := upd_run D w 1 2 (by rfl) 40 (by rfl)
  have u3 := upd_run D w 2 3 (by rfl) 41 (by rfl)
  have u4 := upd_run D w 3 4 (by rfl) 42 (by rfl)
  have u5 := upd_run D w 4 5 (by rfl) 43 (by rfl)
  have u6 := upd_run D w 5 6 (by rfl) 44 (by rfl)
  have u7 := upd_run D w 6 7 (by rfl) 45 (by rfl)
  have u8 := upd_run D w 7 8 (by rfl) 46 (by rfl)
  have u9 := upd_run D w 8 9 (by rfl) 47 (by rfl)
  have u10 := upd_run D w 9 10 (by rfl) 48 (by rfl)
  have u11 := upd_run D w 10 11 (by rfl) 49 (by rfl)
  simp only [Nat.zero_add, Nat.reduceAdd] at u1 u2 u3 u4 u5 u6 u7 u8 u9 u10 u11
  go_enter Tryz.func17, Tryz.ntmps17
  go_wp2
  go_ret
  exact ⟨rfl, rfl⟩
end Go.Proofs.YtcofacgdijjnoaaGreat
end
