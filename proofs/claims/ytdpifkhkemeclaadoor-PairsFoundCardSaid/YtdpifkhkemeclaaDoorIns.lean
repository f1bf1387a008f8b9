/- pairs: what stands between two brackets, and a bracket's settling, walked. -/
import Derived.Test.YtdpifkhkemeclaaDoorAhd
import Derived.Deep.LoopGhost
import Derived.Maps.AppendAt
namespace Go.Proofs.YtdpifkhkemeclaaDoor
open Go.RowKit Go.Proofs.YtdpifkhkemeclaaDoorW.PrintWords
set_option linter.unusedVariables false
set_option linter.unusedSimpArgs false

theorem own_nums {w : World} {B : Nat} {v : Value} {l : List Int} (h : w.ownsRow B 3 1 v l.length (nums .i64 l)) : ∃ A c, v = .slice A l.length c ∧ l.length ≤ c ∧ ∀ j, j < l.length → ∃ g, A = some ⟨g, 0, none⟩ ∧ g < w.heap.size ∧ B ≤ g ∧ w.cell? ⟨g, j, none⟩ = some (.int .i64 (l.getD j 0)) ∧ w.frozen? ⟨g, j, none⟩ = false := by
  rcases h.2 with ⟨rfl, h0⟩ | ⟨g, cap, cur, rfl, hB, hg, hle, _, _, htake⟩
  · exact ⟨none, 0, by rw [h0], by omega, fun j hj => by omega⟩
  · refine ⟨_, cap, rfl, hle, fun j hj => ⟨g, rfl, lt_of_block hg, hB, ?_, frozen_of_row _ _ _ _ _ hg⟩⟩
    have := h.cells (g := g) rfl j (.int .i64 (l.getD j 0)) (by simp [nums, hj])
    rwa [add_plain] at this

def insGo (W : Int) : Int → Bool → List Int → Int × Bool
  | y, f, [] => (y, f)
  | y, f, c :: r => if (letterP c).2 = true then (if (letterP c).1 = W then ((letterP c).1, true) else insGo W (letterP c).1 true r) else insGo W y f r
/-- What stands in a part of a row. -/
def partL (T : List Int) (o c : Nat) : List Int := (T.drop (o + 1)).take (c - (o + 1))
theorem partL_get (T : List Int) (o c j : Nat) (h : o + 1 + j < c) : (partL T o c)[j]? = T[o + 1 + j]? := by
  unfold partL
  rw [List.getElem?_take, if_pos (by omega), List.getElem?_drop]
theorem partL_len (T : List Int) (o c : Nat) (h : c ≤ T.length) : (partL T o c).length = c - (o + 1) := by unfold partL; simp; omega
theorem dropAt (l : List Int) (i : Nat) (h : i < l.length) : l.drop i = l.getD i 0 :: l.drop (i + 1) := by
  rw [List.drop_eq_getElem_cons h, List.getD_eq_getElem?_getD, List.getElem?_eq_getElem h]; rfl

set_option maxRecDepth 100000 in
set_option maxHeartbeats 2000000 in
theorem inside_any (w : World) (B : Nat) (v : Value) (T : List Int) (W sos : Int) (o c : Nat) (h : w.ownsRow B 3 1 v T.length (nums .i64 T)) (hl : T.length ≤ 1048576) (hoc : o < c) (hcT : c < T.length) :
    Calls Tryd.prog 29 #[.agg #[v, .int .i64 W, .int .i64 sos], .agg #[.int .i64 o, .int .i64 c]] w fun e w' => e = .returned (.tuple #[.int .i64 (insGo W 0 false (partL T o c)).1, .bool (insGo W 0 false (partL T o c)).2]) ∧ w' = (w.alloc (.cells #[v, .int .i64 W, .int .i64 sos] 47)).alloc (.cells #[.int .i64 o, .int .i64 c] 31) := by
  obtain ⟨A, cp, rfl, hcp, hc⟩ := own_nums h
  obtain ⟨g, rfl, hg, _, _, _⟩ := hc 0 (by omega)
  obtain ⟨L, hL⟩ : ∃ L, L = partL T o c := ⟨_, rfl⟩
  have hLl : L.length = c - (o + 1) := by rw [hL]; exact partL_len T o c (by omega)
  obtain ⟨m, hm⟩ : ∃ m, m = c - (o + 1) := ⟨_, rfl⟩
  have hcell : Hid (∀ j, j < m → ((w.alloc (.cells #[.slice (some ⟨g, 0, none⟩) T.length cp, .int .i64 W, .int .i64 sos] 47)).alloc (.cells #[.int .i64 o, .int .i64 c] 31)).cell? ⟨g, o + 1 + j, none⟩ = some (.int .i64 (L.getD j 0))) := Lib.hid (fun j hj => by
    have hb : Below w.heap.size w ((w.alloc (.cells #[.slice (some ⟨g, 0, none⟩) T.length cp, .int .i64 W, .int .i64 sos] 47)).alloc (.cells #[.int .i64 o, .int .i64 c] 31)) := ((Below.refl _ w).alloc (Nat.le_refl _) _).alloc (by simp) _
    obtain ⟨g', e, _, _, hc', _⟩ := hc (o + 1 + j) (by omega)
    cases e
    rw [hb.cell (p := ⟨g, o + 1 + j, none⟩) hg, hc', hL, List.getD_eq_getElem?_getD, List.getD_eq_getElem?_getD, partL_get T o c j (by omega)])
  have b1 : (o : Int) + 1 ≤ (c : Int) := by omega
  have b2 : (c : Int) ≤ (cp : Int) := by omega
  rw [← hL]
  have hmI : (c : Int) - ((o : Int) + 1) = (m : Int) := by omega
  have hmN : c - (o + 1) = m := hm.symm
  have HmI := Lib.hid hmI
  have HmN := Lib.hid hmN
  clear hmI hmN
  have HL := Lib.hid hL
  have Hm := Lib.hid (hLl.trans hm.symm)
  clear hL hLl hm hc h
  go_enter Tryd.func29, Tryd.ntmps29
  go_wp2
  obtain ⟨W0, hW0⟩ : ∃ W0, W0 = ((w.alloc (.cells #[.slice (some ⟨g, 0, none⟩) T.length cp, .int .i64 W, .int .i64 sos] 47)).alloc (.cells #[.int .i64 o, .int .i64 c] 31)) := ⟨_, rfl⟩
  have cW : W0.cell? ⟨w.heap.size, 1, none⟩ = some (.int .i64 W) := by
    have h1 : ((w.alloc (.cells #[.slice (some ⟨g, 0, none⟩) T.length cp, .int .i64 W, .int .i64 sos] 47)).alloc (.cells #[.int .i64 o, .int .i64 c] 31)).heap[w.heap.size]? = some (.cells #[.slice (some ⟨g, 0, none⟩) T.length cp, .int .i64 W, .int .i64 sos] 47 (0, 0)) :=
      (heap_alloc_old _ _ _ (by simp)).trans (heap_alloc_new w _)
    rw [hW0, cell_of_row _ _ _ _ _ _ h1]; rfl
  rw [← hW0] at hcell ⊢
  have HW0 := Lib.hid hW0
  clear hW0
  go_loopg [6, 7, 21] (m + 1) (fun gk v6 v7 v21 wr => ∃ (i : Nat) (y : Int) (f : Bool), i ≤ m ∧ gk = m + 1 - i ∧ v6 = .int .i64 y ∧ v7 = .bool f ∧ v21 = .int .i64 i ∧ wr = W0 ∧ Hid (insGo W y f (L.drop i) = insGo W 0 false L))
  case atStart => exact ⟨0, 0, false, Nat.zero_le _, rfl, rfl, rfl, rfl, rfl, Lib.hid rfl⟩
  case round =>
    obtain ⟨i, y, f, hi, hgk, rfl, rfl, rfl, rfl, hI⟩ := hrel
    have Hg := Lib.hid hgk
    clear hgk
    by_cases hlt : i < m
    · have hcx := hcell.out i hlt
      obtain ⟨x, hx⟩ : ∃ x, x = L.getD i 0 := ⟨_, rfl⟩
      rw [← hx] at hcx
      have hstep : insGo W y f (L.drop i) = if (letterP x).2 = true then (if (letterP x).1 = W then ((letterP x).1, true) else insGo W (letterP x).1 true (L.drop (i + 1))) else insGo W y f (L.drop (i + 1)) := by
        rw [dropAt L i (by rw [Hm.out]; exact hlt), ← hx]; rfl
      have hlt' : (i : Int) < (m : Int) := by omega
      have hlm : (i : Int) < (c : Int) - ((o : Int) + 1) := by rw [HmI.out]; exact hlt'
      have hlet := letter_any x wr
      have Hx := Lib.hid hx
      clear hx
      cases hb : (letterP x).2 with
      | false =>
        rw [hb] at hlet hstep
        have HI2 : Hid (insGo W y f (L.drop (i + 1)) = insGo W 0 false L) := Lib.hid (by rw [← hI.out, hstep]; rfl)
        have HL := Lib.hid hlet
        clear hlet hstep hb
        go_wp2_with (go_at_call 47; with_reducible refine HL.out.mono ?_; rintro e w' ⟨rfl, hw⟩; obtain rfl := hw.symm; clear hw)
        go_roundg (m + 1 - (i + 1))
        case measure => have := Hg.out; omega
        case rel => exact ⟨i + 1, y, f, by omega, rfl, rfl, rfl, by go_num, rfl, HI2⟩
      | true =>
        rw [hb] at hlet hstep
        obtain ⟨z, hz⟩ : ∃ z, z = (letterP x).1 := ⟨_, rfl⟩
        rw [← hz] at hlet hstep
        have HL := Lib.hid hlet
        clear hlet hz hb
        by_cases hzW : z = W
        · have hzb : (z == W) = true := by simpa using hzW
          have Hres : Hid (insGo W 0 false L = (z, true)) := Lib.hid (by rw [← hI.out, hstep, if_pos rfl, if_pos hzW])
          clear hzW hstep
          go_wp2_with (go_at_call 47; with_reducible refine HL.out.mono ?_; rintro e w' ⟨rfl, hw⟩; obtain rfl := hw.symm; clear hw)
          go_ret2
          exact ⟨by rw [Hres.out]; rfl, HW0.out⟩
        · have hzb : (z == W) = false := by simpa using hzW
          have HI2 : Hid (insGo W z true (L.drop (i + 1)) = insGo W 0 false L) := Lib.hid (by rw [← hI.out, hstep, if_pos rfl, if_neg hzW])
          clear hzW hstep
          go_wp2_with (go_at_call 47; with_reducible refine HL.out.mono ?_; rintro e w' ⟨rfl, hw⟩; obtain rfl := hw.symm; clear hw)
          go_roundg (m + 1 - (i + 1))
          case measure => have := Hg.out; omega
          case rel => exact ⟨i + 1, z, true, by omega, rfl, rfl, rfl, by go_num, rfl, HI2⟩
    · have hlt' : ¬ (i : Int) < (m : Int) := by omega
      have hlm : ¬ (i : Int) < (c : Int) - ((o : Int) + 1) := by rw [HmI.out]; exact hlt'
      have Hres : Hid (insGo W 0 false L = (y, f)) := Lib.hid (by rw [← hI.out, List.drop_of_length_le (by rw [Hm.out]; omega)]; rfl)
      go_wp2
      go_ret2
      exact ⟨by rw [Hres.out]; rfl, HW0.out⟩

theorem own_setW {w : World} {base : Nat} {e : TypeId} {size n g cap : Nat} {xs : List Value} (h : w.ownsRow base e size (.slice (some ⟨g, 0, none⟩) n cap) n xs) (j : Nat) (u : Value) :
    (w.setCell ⟨g, j, none⟩ u).ownsRow base e size (.slice (some ⟨g, 0, none⟩) n cap) n (xs.set j u) := by
  obtain ⟨h1, h2⟩ := h
  refine ⟨by rw [List.length_set]; exact h1, ?_⟩
  rcases h2 with ⟨hv, _⟩ | ⟨g', cap', cur, hv, hb, hg, hn, hc, hs, ht⟩
  · cases hv
  · injection hv with e1 e2 e3
    injection e1 with e1
    injection e1 with e1
    subst e1 e3
    refine .inr ⟨g, cap, cur.setIfInBounds j u, rfl, hb, blk_set hg j u, hn, hc, by simpa using hs, ?_⟩
    rw [Array.toList_setIfInBounds, List.take_set, ht]
theorem grown_setW {w wr : World} {g : Nat} (h : w.grownBy wr (some g)) (j : Nat) (u : Value) : w.grownBy (wr.setCell ⟨g, j, none⟩ u) (some g) :=
  ⟨h.os, h.tape, h.output, by simpa [World.setCell] using h.size, fun k hk hne => by rw [Below.heap_setCell _ _ _ _ (by intro e; exact hne (by rw [e]))]; exact h.block k hk hne⟩
theorem nums_set (l : List Int) (i : Nat) (x : Int) : (nums .i64 l).set i (.int .i64 x) = nums .i64 (l.set i x) := by simp [nums, List.map_set]
/-- A method's state: the row of its own, the box that holds the sequence. -/
structure StQ (w : World) (B g n cp : Nat) (bx : Array Value) (R : List Int) (wr : World) : Prop where
  len : R.length = n
  own : wr.ownsRow B 3 1 (.slice (some ⟨g, 0, none⟩) n cp) n (nums .i64 R)
  box : wr.heap[w.heap.size]? = some (.cells bx 47 (0, 0))
  gr : w.grownBy wr (some g)
theorem StQ.set {w wr : World} {B g n cp : Nat} {bx : Array Value} {R : List Int} (h : StQ w B g n cp bx R wr) (hg : g < w.heap.size) (i : Nat) (x : Int) :
    StQ w B g n cp bx (R.set i x) (wr.setCell ⟨g, i, none⟩ (.int .i64 x)) :=
  ⟨by rw [List.length_set]; exact h.len, by rw [← nums_set]; exact own_setW h.own i _, by rw [Below.heap_setCell _ _ _ _ (show w.heap.size ≠ g by omega)]; exact h.box, grown_setW h.gr i _⟩
theorem StQ.cell {w wr : World} {B g n cp : Nat} {bx : Array Value} {R : List Int} (h : StQ w B g n cp bx R wr) {i : Nat} (hi : i < n) : wr.cell? ⟨g, i, none⟩ = some (.int .i64 (R.getD i 0)) ∧ wr.frozen? ⟨g, i, none⟩ = false := by
  refine ⟨?_, ?_⟩
  · have := h.own.cells (g := g) rfl i (.int .i64 (R.getD i 0)) (by simp [nums, h.len, hi])
    rwa [add_plain] at this
  · rcases h.own.2 with ⟨hv, _⟩ | ⟨g', cap', cur, hv, _, hg', _⟩
    · cases hv
    · injection hv with e1 _ _
      injection e1 with e1
      injection e1 with e1
      subst e1
      exact frozen_of_row _ _ _ _ _ hg'

/-- Marks right behind a place become what the place does. -/
def setGo (ow : List Int) (way : Int) : Nat → Nat → List Int → List Int
  | 0, _, T => T
  | d + 1, i, T => if i < ow.length ∧ ow.getD i 0 = 8 then setGo ow way d (i + 1) (T.set i way) else T
def setP (ow : List Int) (at_ : Nat) (way : Int) (T : List Int) : List Int := setGo ow way (ow.length + 1 - (at_ + 1)) (at_ + 1) (T.set at_ way)
theorem setGo_len (ow : List Int) (way : Int) : ∀ d i T, (setGo ow way d i T).length = T.length
  | 0, _, _ => rfl
  | d + 1, i, T => by
    unfold setGo
    split
    · rw [setGo_len ow way d]; simp
    · rfl
theorem setP_len (ow : List Int) (a : Nat) (way : Int) (T : List Int) : (setP ow a way T).length = T.length := by unfold setP; rw [setGo_len]; simp

set_option maxRecDepth 100000 in
set_option maxHeartbeats 2000000 in
theorem settle_any (w : World) (B g cp : Nat) (T : List Int) (W sos : Int) (at_ : Nat) (way : Int) (A2 : Option Addr) (c2 : Nat) (ow : List Int) (h : w.ownsRow B 3 1 (.slice (some ⟨g, 0, none⟩) T.length cp) T.length (nums .i64 T)) (hl : T.length ≤ 1048576)
    (hat : at_ < T.length) (hol : ow.length = T.length) (hor : ∀ j, j < ow.length → ∃ ad, A2 = some ad ∧ ad.block ≠ g ∧ w.cell? (ad.add j) = some (.int .i64 (ow.getD j 0))) :
    Calls Tryd.prog 31 #[.agg #[.slice (some ⟨g, 0, none⟩) T.length cp, .int .i64 W, .int .i64 sos], .int .i64 at_, .int .i64 way, .slice A2 ow.length c2] w fun e w' => e = .returned (.tuple #[]) ∧ w'.ownsRow B 3 1 (.slice (some ⟨g, 0, none⟩) T.length cp) T.length (nums .i64 (setP ow at_ way T)) ∧ w.grownBy w' (some g) := by
  have hgw : g < w.heap.size := by
    rcases h.2 with ⟨hv, _⟩ | ⟨g', cap', cur, hv, _, hg', _⟩
    · cases hv
    · injection hv with e1 _ _
      injection e1 with e1
      injection e1 with e1
      subst e1
      exact lt_of_block hg'
  have hst : StQ w B g T.length cp #[.slice (some ⟨g, 0, none⟩) T.length cp, .int .i64 W, .int .i64 sos] T (w.alloc (.cells #[.slice (some ⟨g, 0, none⟩) T.length cp, .int .i64 W, .int .i64 sos] 47)) :=
    ⟨rfl, h.alloc _, heap_alloc_new _ _, World.grownBy_alloc _ _ _⟩
  obtain ⟨_, hf0⟩ := hst.cell hat
  obtain ⟨hc0, _⟩ := hst.cell hat
  have hst1 : StQ w B g T.length cp #[.slice (some ⟨g, 0, none⟩) T.length cp, .int .i64 W, .int .i64 sos] (T.set at_ way) ((w.setCell ⟨g, at_, none⟩ (.int .i64 way)).alloc (.cells #[.slice (some ⟨g, 0, none⟩) T.length cp, .int .i64 W, .int .i64 sos] 47)) := by
    have e : (w.setCell ⟨g, at_, none⟩ (.int .i64 way)).heap.size = w.heap.size := by simp [World.setCell]
    refine ⟨by simp, ?_, ?_, ?_⟩
    · have := own_setW h at_ (.int .i64 way)
      rw [nums_set] at this
      exact this.alloc _
    · have := heap_alloc_new (w.setCell ⟨g, at_, none⟩ (.int .i64 way)) (.cells #[.slice (some ⟨g, 0, none⟩) T.length cp, .int .i64 W, .int .i64 sos] 47)
      rwa [e] at this
    · exact (grown_setW (World.grownBy.refl w (some g)) at_ _).trans (World.grownBy_alloc _ _ _)
  have HO := Lib.hid hor
  have Hol := Lib.hid hol
  have Hat : Hid (at_ < T.length) := Lib.hid hat
  have hat' : (at_ : Int) < (T.length : Int) := by omega
  have hatb : (at_ : Int) < 1048576 := by omega
  have HS1 := Lib.hid hst1
  have Hl := Lib.hid hl
  clear hst hst1 hor hol h hl
  go_enter Tryd.func31, Tryd.ntmps31
  go_wp2
  go_loopg [8] (ow.length + 1 - (at_ + 1)) (fun gk v8 wr => ∃ (i : Nat) (R : List Int), at_ + 1 ≤ i ∧ i ≤ ow.length ∧ gk = ow.length + 1 - i ∧ v8 = .int .i64 i ∧ StQ w B g T.length cp #[.slice (some ⟨g, 0, none⟩) T.length cp, .int .i64 W, .int .i64 sos] R wr ∧ Hid (setGo ow way (ow.length + 1 - i) i R = setP ow at_ way T))
  case atStart => exact ⟨at_ + 1, T.set at_ way, Nat.le_refl _, by rw [Hol.out]; exact hat, rfl, by go_num, HS1.out, Lib.hid rfl⟩
  case round =>
    clear HS1
    obtain ⟨i, R, hi0, hi1, hgk, rfl, hS, hI⟩ := hrel
    have Hg := Lib.hid hgk
    clear hgk
    have hfu : ow.length + 1 - i = (ow.length - i) + 1 := by omega
    by_cases hlt : i < ow.length
    · obtain ⟨ad, e, hne, hc⟩ := HO.out i hlt
      cases e
      obtain ⟨x, hx⟩ : ∃ x, x = ow.getD i 0 := ⟨_, rfl⟩
      rw [← hx] at hc
      have hcx : wr.cell? (ad.add i) = some (.int .i64 x) := by
        have hb := World.block_lt_of_cell? w _ hc
        rw [← hc]
        exact World.cell?_of_block (hS.gr.block _ hb (by intro e2; injection e2 with e2; unfold Addr.add at e2; split at e2 <;> exact hne e2))
      have hstep : setGo ow way (ow.length + 1 - i) i R = if x = 8 then setGo ow way (ow.length - i) (i + 1) (R.set i way) else R := by
        rw [hfu]
        simp only [setGo]
        rw [← hx]
        by_cases h8 : x = 8
        · rw [if_pos ⟨hlt, h8⟩, if_pos h8]
        · rw [if_neg (fun a => h8 a.2), if_neg h8]
      have hlt' : (i : Int) < (ow.length : Int) := by omega
      have hltT : i < T.length := by rw [← Hol.out]; exact hlt
      have hltT' : (i : Int) < (T.length : Int) := by omega
      obtain ⟨hcw, hfw⟩ := hS.cell hltT
      have hbx : wr.cell? ⟨w.heap.size, 0, none⟩ = some (.slice (some ⟨g, 0, none⟩) T.length cp) := by rw [cell_of_row _ _ _ _ _ _ hS.box]; rfl
      have hib : (i : Int) < 1048576 := by have := Hl.out; omega
      have HS2 : Hid (StQ w B g T.length cp #[.slice (some ⟨g, 0, none⟩) T.length cp, .int .i64 W, .int .i64 sos] (R.set i way) (wr.setCell ⟨g, i, none⟩ (.int .i64 way))) := Lib.hid (hS.set hgw i way)
      have HS := Lib.hid hS
      clear hc hx hS
      by_cases h8 : x = 8
      · subst h8
        have HI2 : Hid (setGo ow way (ow.length + 1 - (i + 1)) (i + 1) (R.set i way) = setP ow at_ way T) := Lib.hid (by rw [← hI.out, hstep, if_pos rfl, show ow.length + 1 - (i + 1) = ow.length - i by omega])
        clear hstep hfu
        go_wp2
        go_roundg (ow.length + 1 - (i + 1))
        case measure => have := Hg.out; omega
        case rel => exact ⟨i + 1, R.set i way, by omega, by omega, rfl, by go_num, HS2.out, HI2⟩
      · have b8 : (x == 8) = false := by simpa using h8
        have HR : Hid (R = setP ow at_ way T) := Lib.hid (by rw [← hI.out, hstep, if_neg h8])
        clear hstep hfu h8
        go_wp2
        go_end0
        exact ⟨rfl, by rw [← HR.out]; exact HS.out.own, HS.out.gr⟩
    · have hlt' : ¬ (i : Int) < (ow.length : Int) := by omega
      have HR : Hid (R = setP ow at_ way T) := Lib.hid (by rw [← hI.out, hfu]; simp only [setGo]; rw [if_neg (fun a => hlt a.1)])
      have HS := Lib.hid hS
      clear hfu hS
      go_wp2
      go_end0
      exact ⟨rfl, by rw [← HR.out]; exact HS.out.own, HS.out.gr⟩
end Go.Proofs.YtdpifkhkemeclaaDoor
