/- The weak rules that write in place: 'after', walked. -/
import Derived.Test.YtfpibigfhhoiiaaDoorWk
import Derived.Deep.LoopGhost
import Derived.Maps.AppendAt
namespace Go.Proofs.YtfpibigfhhoiiaaDoor
open Go.RowKit Go.Proofs.YtfpibigfhhoiiaaDoorW.PrintWords
set_option linter.unusedVariables false
set_option linter.unusedSimpArgs false

theorem own_setW {w : World} {base : Nat} {e : TypeId} {size n g cap : Nat} {xs : List Value} (h : w.ownsRow base e size (.slice (some ⟨g, 0, none⟩) n cap) n xs) (j : Nat) (u : Value) :
    (w.setCell ⟨g, j, none⟩ u).ownsRow base e size (.slice (some ⟨g, 0, none⟩) n cap) n (xs.set j u) := by
  obtain ⟨h1, h2⟩ := h
  refine ⟨by rw [List.length_set]; exact h1, ?_⟩
  rcases h2 with ⟨hv, _⟩ | ⟨g', cap', cur, hv, hb, hg, hn, hc, hs, ht⟩
  · cases hv
  · injection hv with e1 e2 e3
    injection e1 with e1
    injection e1 with e1
    subst e1 e3
    refine .inr ⟨g, cap, cur.setIfInBounds j u, rfl, hb, blk_set hg j u, hn, hc, by simpa using hs, ?_⟩
    rw [Array.toList_setIfInBounds, List.take_set, ht]
theorem grown_setW {w wr : World} {g : Nat} (h : w.grownBy wr (some g)) (j : Nat) (u : Value) : w.grownBy (wr.setCell ⟨g, j, none⟩ u) (some g) :=
  ⟨h.os, h.tape, h.output, by simpa [World.setCell] using h.size, fun k hk hne => by rw [Below.heap_setCell _ _ _ _ (by intro e; exact hne (by rw [e]))]; exact h.block k hk hne⟩
theorem nums_set (l : List Int) (i : Nat) (x : Int) : (nums .i64 l).set i (.int .i64 x) = nums .i64 (l.set i x) := by simp [nums, List.map_set]

/-- A method's state: the row of its own, the box that holds the sequence. -/
structure StW (w : World) (B : Nat) (v : Value) (sos : Int) (R : List Int) (wr : World) : Prop where
  own : wr.ownsRow B 3 1 v R.length (nums .i64 R)
  box : wr.heap[w.heap.size]? = some (.cells #[v, .int .i64 sos] 80 (0, 0))
  gr : w.grownBy wr v.ownBlock
theorem StW.start {w : World} {B : Nat} {v : Value} {l : List Int} (sos : Int) (h : w.ownsRow B 3 1 v l.length (nums .i64 l)) : StW w B v sos l (w.alloc (.cells #[v, .int .i64 sos] 80)) :=
  ⟨h.alloc _, heap_alloc_new _ _, ⟨rfl, rfl, rfl, by simp, fun k hk _ => heap_alloc_old _ _ hk⟩⟩
theorem StW.set {w wr : World} {B : Nat} {g cap : Nat} {sos : Int} {R : List Int} (h : StW w B (.slice (some ⟨g, 0, none⟩) R.length cap) sos R wr) (hg : g < w.heap.size) (i : Nat) (x : Int) :
    StW w B (.slice (some ⟨g, 0, none⟩) R.length cap) sos (R.set i x) (wr.setCell ⟨g, i, none⟩ (.int .i64 x)) :=
  ⟨by rw [List.length_set, ← nums_set]; exact own_setW h.own i _, by rw [Below.heap_setCell _ _ _ _ (show w.heap.size ≠ g by omega)]; exact h.box, grown_setW h.gr i _⟩

def aftGo (letter cls : Int) : Int → List Int → List Int
  | _, [] => []
  | last, c :: r => if c = 0 ∨ c = 1 ∨ c = 2 then c :: aftGo letter cls c r else if c = 3 then (if last = letter then cls else c) :: aftGo letter cls last r else c :: aftGo letter cls last r
/-- What is done stands ahead, what is to do stands as it was. -/
def DoneW (l R : List Int) (i : Nat) (T : List Int → List Int) (all : List Int) : Prop := R.length = l.length ∧ R.drop i = l.drop i ∧ R.take i ++ T (l.drop i) = all
theorem drop_at (l : List Int) (i : Nat) (h : i < l.length) : l.drop i = l.getD i 0 :: l.drop (i + 1) := by
  rw [List.drop_eq_getElem_cons h, List.getD_eq_getElem?_getD, List.getElem?_eq_getElem h]; rfl
theorem DoneW.keep {l R : List Int} {i : Nat} {T T' : List Int → List Int} {all : List Int} (h : DoneW l R i T all) (hi : i < l.length) (hT : T (l.getD i 0 :: l.drop (i + 1)) = l.getD i 0 :: T' (l.drop (i + 1))) : DoneW l R (i + 1) T' all := by
  obtain ⟨h1, h2, h3⟩ := h
  have hr : R.drop i = R.getD i 0 :: R.drop (i + 1) := drop_at R i (by omega)
  rw [hr, drop_at l i hi] at h2
  injection h2 with e1 e2
  refine ⟨h1, e2, ?_⟩
  have ht : R.take (i + 1) = R.take i ++ [R.getD i 0] := by
    rw [List.take_succ_eq_append_getElem (by omega), List.getD_eq_getElem?_getD, List.getElem?_eq_getElem (by omega)]; rfl
  rw [drop_at l i hi, hT] at h3
  rw [ht, e1, ← h3]
  simp
theorem DoneW.put {l R : List Int} {i : Nat} {T T' : List Int → List Int} {all : List Int} {x : Int} (h : DoneW l R i T all) (hi : i < l.length) (hT : T (l.getD i 0 :: l.drop (i + 1)) = x :: T' (l.drop (i + 1))) : DoneW l (R.set i x) (i + 1) T' all := by
  obtain ⟨h1, h2, h3⟩ := h
  have hr : R.drop i = R.getD i 0 :: R.drop (i + 1) := drop_at R i (by omega)
  rw [hr, drop_at l i hi] at h2
  injection h2 with e1 e2
  refine ⟨by rw [List.length_set]; exact h1, by rw [List.drop_set_of_lt (by omega)]; exact e2, ?_⟩
  have hlt : i < (R.set i x).length := by rw [List.length_set]; omega
  have ht : (R.set i x).take (i + 1) = R.take i ++ [x] := by
    rw [List.take_succ_eq_append_getElem hlt, List.getElem_set_self, List.take_set_of_le (Nat.le_refl i)]
  rw [drop_at l i hi, hT] at h3
  rw [ht, ← h3]
  simp
theorem DoneW.here {l R : List Int} {i : Nat} {T : List Int → List Int} {all : List Int} (h : DoneW l R i T all) (hi : i < l.length) : R.getD i 0 = l.getD i 0 := by
  have h2 := h.2.1
  rw [drop_at R i (by have := h.1; omega), drop_at l i hi] at h2
  injection h2
theorem DoneW.all {l R : List Int} {i : Nat} {T : List Int → List Int} {all : List Int} (h : DoneW l R i T all) (hi : ¬ i < l.length) (hT : T [] = []) : R = all := by
  have h3 := h.2.2
  rw [List.drop_of_length_le (by omega), hT, List.append_nil, List.take_of_length_le (by have := h.1; omega)] at h3
  exact h3

set_option maxRecDepth 100000 in
set_option maxHeartbeats 2000000 in
theorem after_any (w : World) (B : Nat) (v : Value) (l : List Int) (sos letter cls : Int) (h : w.ownsRow B 3 1 v l.length (nums .i64 l)) (hl : l.length ≤ 1048576) :
    Calls Tryd.prog 66 #[.agg #[v, .int .i64 sos], .int .i64 letter, .int .i64 cls] w fun e w' => e = .returned (.tuple #[]) ∧ w'.ownsRow B 3 1 v l.length (nums .i64 (aftGo letter cls sos l)) ∧ w.grownBy w' v.ownBlock := by
  have hst := StW.start sos h
  obtain ⟨A, cp, hv, hc⟩ := own_nums h
  subst hv
  have HC := Lib.hid hc
  clear hc h
  go_enter Tryd.func66, Tryd.ntmps66
  go_wp2
  go_loopg [6, 14] (l.length + 1) (fun g v6 v14 wr => ∃ (i : Nat) (last : Int) (R : List Int), i ≤ l.length ∧ g = l.length + 1 - i ∧ v6 = .int .i64 last ∧ v14 = .int .i64 i ∧ StW w B (.slice A l.length cp) sos R wr ∧ Hid (DoneW l R i (aftGo letter cls last) (aftGo letter cls sos l)))
  case atStart => exact ⟨0, sos, l, Nat.zero_le _, rfl, rfl, rfl, hst, Lib.hid ⟨rfl, rfl, rfl⟩⟩
  case round =>
    clear hst
    obtain ⟨i, last, R, hi, hg, rfl, rfl, hS, hD⟩ := hrel
    have Hg := Lib.hid hg
    clear hg
    have hRl : R.length = l.length := hD.out.1
    by_cases hlt : i < l.length
    · obtain ⟨g, rfl, hgw, _, _, _⟩ := HC.out i hlt
      obtain ⟨c, hcc⟩ : ∃ c, c = l.getD i 0 := ⟨_, rfl⟩
      have hxr : R.getD i 0 = c := by rw [hcc]; exact hD.out.here hlt
      have hown := hS.own
      rw [hRl] at hown
      have hcell : wr.cell? ⟨g, i, none⟩ = some (.int .i64 c) := by
        have := hown.cells (g := g) rfl i (.int .i64 c) (by simp [nums, ← hxr, hRl, hlt])
        rwa [add_plain] at this
      have hfree : wr.frozen? ⟨g, i, none⟩ = false := by
        rcases hown.2 with ⟨hv, _⟩ | ⟨g', cap', cur, hv, _, hg', _⟩
        · cases hv
        · injection hv with e1 _ _
          injection e1 with e1
          injection e1 with e1
          subst e1
          exact frozen_of_row _ _ _ _ _ hg'
      have hb0 : wr.cell? ⟨w.heap.size, 0, none⟩ = some (.slice (some ⟨g, 0, none⟩) l.length cp) := by rw [cell_of_row _ _ _ _ _ _ hS.box]; rfl
      have hlt' : (i : Int) < (l.length : Int) := by omega
      have HS := Lib.hid hS
      have Hcc := Lib.hid hcc
      clear hS hown hxr hcc
      by_cases h0 : c = 0
      · subst h0
        go_wp2
        go_roundg (l.length + 1 - (i + 1))
        case measure => have := Hg.out; omega
        case rel => exact ⟨i + 1, 0, R, by omega, rfl, rfl, by go_num, HS.out, Lib.hid (hD.out.keep hlt (by rw [← Hcc.out]; simp [aftGo]))⟩
      by_cases h1 : c = 1
      · subst h1
        go_wp2
        go_roundg (l.length + 1 - (i + 1))
        case measure => have := Hg.out; omega
        case rel => exact ⟨i + 1, 1, R, by omega, rfl, rfl, by go_num, HS.out, Lib.hid (hD.out.keep hlt (by rw [← Hcc.out]; simp [aftGo]))⟩
      by_cases h2 : c = 2
      · subst h2
        go_wp2
        go_roundg (l.length + 1 - (i + 1))
        case measure => have := Hg.out; omega
        case rel => exact ⟨i + 1, 2, R, by omega, rfl, rfl, by go_num, HS.out, Lib.hid (hD.out.keep hlt (by rw [← Hcc.out]; simp [aftGo]))⟩
      have n0 : (c == 0) = false := by simpa using h0
      have n1 : (c == 1) = false := by simpa using h1
      have n2 : (c == 2) = false := by simpa using h2
      have Hn : Hid (¬ (c = 0 ∨ c = 1 ∨ c = 2)) := Lib.hid (by omega)
      clear h0 h1 h2
      by_cases h3 : c = 3
      · subst h3
        by_cases hL : last = letter
        · have e1 : (last == letter) = true := by simpa using hL
          have HL := Lib.hid hL
          have HT := Lib.hid (HS.out)
          have HS2 : Hid (StW w B (.slice (some ⟨g, 0, none⟩) l.length cp) sos (R.set i cls) (wr.setCell ⟨g, i, none⟩ (.int .i64 cls))) := Lib.hid (by have := HS.out; rw [← hRl] at this ⊢; exact this.set hgw i cls)
          clear hL
          go_wp2
          go_roundg (l.length + 1 - (i + 1))
          case measure => have := Hg.out; omega
          case rel => exact ⟨i + 1, last, R.set i cls, by omega, rfl, rfl, by go_num, HS2.out, Lib.hid (hD.out.put hlt (by rw [← Hcc.out]; simp [aftGo, HL.out]))⟩
        · have e1 : (last == letter) = false := by simpa using hL
          have HL := Lib.hid hL
          clear hL
          go_wp2
          go_roundg (l.length + 1 - (i + 1))
          case measure => have := Hg.out; omega
          case rel => exact ⟨i + 1, last, R, by omega, rfl, rfl, by go_num, HS.out, Lib.hid (hD.out.keep hlt (by rw [← Hcc.out]; simp only [aftGo]; rw [if_neg (by decide), if_pos trivial, if_neg HL.out]))⟩
      · have n3 : (c == 3) = false := by simpa using h3
        have H3 := Lib.hid h3
        clear h3
        go_wp2
        go_roundg (l.length + 1 - (i + 1))
        case measure => have := Hg.out; omega
        case rel => exact ⟨i + 1, last, R, by omega, rfl, rfl, by go_num, HS.out, Lib.hid (hD.out.keep hlt (by rw [← Hcc.out]; simp only [aftGo]; rw [if_neg Hn.out, if_neg H3.out]))⟩
    · have hlt' : ¬ (i : Int) < (l.length : Int) := by omega
      have hR := hD.out.all hlt rfl
      have HS := Lib.hid hS
      have HR := Lib.hid hR
      clear hS hR
      go_wp2
      go_end0
      have ho := HS.out.own
      rw [hRl, HR.out] at ho
      exact ⟨rfl, ho, HS.out.gr⟩
end Go.Proofs.YtfpibigfhhoiiaaDoor
