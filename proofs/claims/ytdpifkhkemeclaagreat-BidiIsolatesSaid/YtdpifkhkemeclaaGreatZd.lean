/- The weak rules' look at a place of a sequence (method 'at'), walked. The weak rules that write in place: 'after', walked. The weak rule 'turn', walked: one class for others. The weak rule 'marks', walked: marks follow what stands ahead of them. The weak rule 'between', walked: signs between two numbers of a kind. The weak rule 'beside', walked: runs of ET beside an EN. The weak rules that are literals: each calls a rule on the sequence in its box. weak.Weak, walked: the rules one behind the other on a copy. -/
import Derived.Test.YtdpifkhkemeclaaGreatProg
import Derived.Test.YtdpifkhkemeclaaGreatZa
import Derived.Test.YtdpifkhkemeclaaGreatVWords
import Derived.Deep.LoopGhost
import Derived.Maps.AppendAt
import Derived.Test.YtdpifkhkemeclaaGreatShelf
import Derived.Deep.RegionWith
import Derived.LoopN
import Derived.Test.YtdpifkhkemeclaaGreatZb
set_option linter.unusedVariables false
set_option linter.unusedSimpArgs false
namespace Go.Proofs.YtdpifkhkemeclaaGreat.Wk
open Go.RowKit Go.Proofs.YtdpifkhkemeclaaGreatW.PrintWords
def atW (l : List Int) (sos i : Int) : Int := if i < 0 then sos else if (l.length : Int) ≤ i then -1 else l.getD i.toNat 0
theorem own_nums {w : World} {B : Nat} {v : Value} {l : List Int} (h : w.ownsRow B 3 1 v l.length (nums .i64 l)) : ∃ A c, v = .slice A l.length c ∧ ∀ j, j < l.length → ∃ g, A = some ⟨g, 0, none⟩ ∧ g < w.heap.size ∧ B ≤ g ∧ w.cell? ⟨g, j, none⟩ = some (.int .i64 (l.getD j 0)) ∧ w.frozen? ⟨g, j, none⟩ = false := by
  rcases h.2 with ⟨rfl, h0⟩ | ⟨g, cap, cur, rfl, hB, hg, hle, _, _, htake⟩
  · exact ⟨none, 0, by rw [h0], fun j hj => by omega⟩
  · refine ⟨_, cap, rfl, fun j hj => ⟨g, rfl, lt_of_block hg, hB, ?_, frozen_of_row _ _ _ _ _ hg⟩⟩
    have := h.cells (g := g) rfl j (.int .i64 (l.getD j 0)) (by simp [nums, hj])
    rwa [add_plain] at this
theorem at_any (w : World) (B : Nat) (v : Value) (l : List Int) (sos i : Int) (h : w.ownsRow B 3 1 v l.length (nums .i64 l)) (hl : l.length ≤ 1048576) :
    Calls Tryz.prog 136 #[.agg #[v, .int .i64 sos], .int .i64 i] w fun e w' => e = .returned (.int .i64 (atW l sos i)) ∧ w' = w.alloc (.cells #[v, .int .i64 sos] 126) := by
  obtain ⟨A, c, rfl, hc⟩ := own_nums h
  by_cases h0 : i < 0
  · have Ha : Hid (atW l sos i = sos) := by unfold atW; rw [if_pos h0]; rfl
    have b0 : decide (i < 0) = true := decide_eq_true h0
    clear hc h
    go_enter Tryz.func136, Tryz.ntmps136
    go_wp2
    go_ret
    exact ⟨by rw [Ha.out]; rfl, rfl⟩
  · have b0 : decide (i < 0) = false := decide_eq_false h0
    by_cases h1 : (l.length : Int) ≤ i
    · have Ha : Hid (atW l sos i = -1) := by unfold atW; rw [if_neg h0, if_pos h1]; rfl
      have b1 : decide (i ≥ (l.length : Int)) = true := decide_eq_true h1
      have b2 : decide ((l.length : Int) ≤ i) = true := decide_eq_true h1
      clear hc h
      go_enter Tryz.func136, Tryz.ntmps136
      go_wp2
      go_ret
      exact ⟨by rw [Ha.out]; rfl, rfl⟩
    · obtain ⟨j, rfl⟩ := Int.eq_ofNat_of_zero_le (show 0 ≤ i by omega)
      have hj : j < l.length := by omega
      have Ha : Hid (atW l sos (j : Int) = l.getD j 0) := by unfold atW; rw [if_neg h0, if_neg h1, Int.toNat_natCast]; rfl
      obtain ⟨g, rfl, hg, _, hcell, _⟩ := hc j hj
      obtain ⟨x, hx⟩ : ∃ x, x = l.getD j 0 := ⟨_, rfl⟩
      rw [← hx] at hcell
      have Hx := Lib.hid hx
      have hcell' : (w.alloc (.cells #[.slice (some ⟨g, 0, none⟩) l.length c, .int .i64 sos] 126)).cell? ⟨g, j, none⟩ = some (.int .i64 x) := by rw [show (w.alloc (.cells #[.slice (some ⟨g, 0, none⟩) l.length c, .int .i64 sos] 126)).cell? ⟨g, j, none⟩ = w.cell? ⟨g, j, none⟩ from ((Below.refl w.heap.size w).alloc (Nat.le_refl _) _).cell hg]; exact hcell
      have b1 : decide ((j : Int) ≥ (l.length : Int)) = false := decide_eq_false h1
      have b2 : decide ((l.length : Int) ≤ (j : Int)) = false := decide_eq_false h1
      have b3 : (j : Int) < (l.length : Int) := by omega
      clear hc h hx
      go_enter Tryz.func136, Tryz.ntmps136
      go_wp2
      go_ret
      exact ⟨by rw [Ha.out, Hx.out]; rfl, rfl⟩
end Go.Proofs.YtdpifkhkemeclaaGreat.Wk
namespace Go.Proofs.YtdpifkhkemeclaaGreat.Wk
open Go.RowKit Go.Proofs.YtdpifkhkemeclaaGreatW.PrintWords
theorem own_setW {w : World} {base : Nat} {e : TypeId} {size n g cap : Nat} {xs : List Value} (h : w.ownsRow base e size (.slice (some ⟨g, 0, none⟩) n cap) n xs) (j : Nat) (u : Value) :
    (w.setCell ⟨g, j, none⟩ u).ownsRow base e size (.slice (some ⟨g, 0, none⟩) n cap) n (xs.set j u) := by
  obtain ⟨h1, h2⟩ := h
  refine ⟨by rw [List.length_set]; exact h1, ?_⟩
  rcases h2 with ⟨hv, _⟩ | ⟨g', cap', cur, hv, hb, hg, hn, hc, hs, ht⟩
  · cases hv
  · injection hv with e1 e2 e3
    injection e1 with e1
    injection e1 with e1
    subst e1 e3
    refine .inr ⟨g, cap, cur.setIfInBounds j u, rfl, hb, blk_set hg j u, hn, hc, by simpa using hs, ?_⟩
    rw [Array.toList_setIfInBounds, List.take_set, ht]
theorem grown_setW {w wr : World} {g : Nat} (h : w.grownBy wr (some g)) (j : Nat) (u : Value) : w.grownBy (wr.setCell ⟨g, j, none⟩ u) (some g) :=
  ⟨h.os, h.tape, h.output, by simpa [World.setCell] using h.size, fun k hk hne => by rw [Below.heap_setCell _ _ _ _ (by intro e; exact hne (by rw [e]))]; exact h.block k hk hne⟩
theorem nums_set (l : List Int) (i : Nat) (x : Int) : (nums .i64 l).set i (.int .i64 x) = nums .i64 (l.set i x) := by simp [nums, List.map_set]
structure StW (w : World) (B : Nat) (v : Value) (sos : Int) (R : List Int) (wr : World) : Prop where
  own : wr.ownsRow B 3 1 v R.length (nums .i64 R)
  box : wr.heap[w.heap.size]? = some (.cells #[v, .int .i64 sos] 126 (0, 0))
  gr : w.grownBy wr v.ownBlock
theorem StW.start {w : World} {B : Nat} {v : Value} {l : List Int} (sos : Int) (h : w.ownsRow B 3 1 v l.length (nums .i64 l)) : StW w B v sos l (w.alloc (.cells #[v, .int .i64 sos] 126)) :=
  ⟨h.alloc _, heap_alloc_new _ _, ⟨rfl, rfl, rfl, by simp, fun k hk _ => heap_alloc_old _ _ hk⟩⟩
theorem StW.set {w wr : World} {B : Nat} {g cap : Nat} {sos : Int} {R : List Int} (h : StW w B (.slice (some ⟨g, 0, none⟩) R.length cap) sos R wr) (hg : g < w.heap.size) (i : Nat) (x : Int) :
    StW w B (.slice (some ⟨g, 0, none⟩) R.length cap) sos (R.set i x) (wr.setCell ⟨g, i, none⟩ (.int .i64 x)) :=
  ⟨by rw [List.length_set, ← nums_set]; exact own_setW h.own i _, by rw [Below.heap_setCell _ _ _ _ (show w.heap.size ≠ g by omega)]; exact h.box, grown_setW h.gr i _⟩
def aftGo (letter cls : Int) : Int → List Int → List Int
  | _, [] => []
  | last, c :: r => if c = 0 ∨ c = 1 ∨ c = 2 then c :: aftGo letter cls c r else if c = 3 then (if last = letter then cls else c) :: aftGo letter cls last r else c :: aftGo letter cls last r
def DoneW (l R : List Int) (i : Nat) (T : List Int → List Int) (all : List Int) : Prop := R.length = l.length ∧ R.drop i = l.drop i ∧ R.take i ++ T (l.drop i) = all
theorem drop_at (l : List Int) (i : Nat) (h : i < l.length) : l.drop i = l.getD i 0 :: l.drop (i + 1) := by
  rw [List.drop_eq_getElem_cons h, List.getD_eq_getElem?_getD, List.getElem?_eq_getElem h]; rfl
theorem DoneW.keep {l R : List Int} {i : Nat} {T T' : List Int → List Int} {all : List Int} (h : DoneW l R i T all) (hi : i < l.length) (hT : T (l.getD i 0 :: l.drop (i + 1)) = l.getD i 0 :: T' (l.drop (i + 1))) : DoneW l R (i + 1) T' all := by
  obtain ⟨h1, h2, h3⟩ := h
  have hr : R.drop i = R.getD i 0 :: R.drop (i + 1) := drop_at R i (by omega)
  rw [hr, drop_at l i hi] at h2
  injection h2 with e1 e2
  refine ⟨h1, e2, ?_⟩
  have ht : R.take (i + 1) = R.take i ++ [R.getD i 0] := by
    rw [List.take_succ_eq_append_getElem (by omega), List.getD_eq_getElem?_getD, List.getElem?_eq_getElem (by omega)]; rfl
  rw [drop_at l i hi, hT] at h3
  rw [ht, e1, ← h3]
  simp
theorem DoneW.put {l R : List Int} {i : Nat} {T T' : List Int → List Int} {all : List Int} {x : Int} (h : DoneW l R i T all) (hi : i < l.length) (hT : T (l.getD i 0 :: l.drop (i + 1)) = x :: T' (l.drop (i + 1))) : DoneW l (R.set i x) (i + 1) T' all := by
  obtain ⟨h1, h2, h3⟩ := h
  have hr : R.drop i = R.getD i 0 :: R.drop (i + 1) := drop_at R i (by omega)
  rw [hr, drop_at l i hi] at h2
  injection h2 with e1 e2
  refine ⟨by rw [List.length_set]; exact h1, by rw [List.drop_set_of_lt (by omega)]; exact e2, ?_⟩
  have hlt : i < (R.set i x).length := by rw [List.length_set]; omega
  have ht : (R.set i x).take (i + 1) = R.take i ++ [x] := by
    rw [List.take_succ_eq_append_getElem hlt, List.getElem_set_self, List.take_set_of_le (Nat.le_refl i)]
  rw [drop_at l i hi, hT] at h3
  rw [ht, ← h3]
  simp
theorem DoneW.here {l R : List Int} {i : Nat} {T : List Int → List Int} {all : List Int} (h : DoneW l R i T all) (hi : i < l.length) : R.getD i 0 = l.getD i 0 := by
  have h2 := h.2.1
  rw [drop_at R i (by have := h.1; omega), drop_at l i hi] at h2
  injection h2
theorem DoneW.all {l R : List Int} {i : Nat} {T : List Int → List Int} {all : List Int} (h : DoneW l R i T all) (hi : ¬ i < l.length) (hT : T [] = []) : R = all := by
  have h3 := h.2.2
  rw [List.drop_of_length_le (by omega), hT, List.append_nil, List.take_of_length_le (by have := h.1; omega)] at h3
  exact h3
set_option maxRecDepth 100000 in
set_option maxHeartbeats 2000000 in
theorem after_any (w : World) (B : Nat) (v : Value) (l : List Int) (sos letter cls : Int) (h : w.ownsRow B 3 1 v l.length (nums .i64 l)) (hl : l.length ≤ 1048576) :
    Calls Tryz.prog 102 #[.agg #[v, .int .i64 sos], .int .i64 letter, .int .i64 cls] w fun e w' => e = .returned (.tuple #[]) ∧ w'.ownsRow B 3 1 v l.length (nums .i64 (aftGo letter cls sos l)) ∧ w.grownBy w' v.ownBlock := by
  have hst := StW.start sos h
  obtain ⟨A, cp, hv, hc⟩ := own_nums h
  subst hv
  have HC := Lib.hid hc
  clear hc h
  go_enter Tryz.func102, Tryz.ntmps102
  go_wp2
  go_loopg [6, 14] (l.length + 1) (fun g v6 v14 wr => ∃ (i : Nat) (last : Int) (R : List Int), i ≤ l.length ∧ g = l.length + 1 - i ∧ v6 = .int .i64 last ∧ v14 = .int .i64 i ∧ StW w B (.slice A l.length cp) sos R wr ∧ Hid (DoneW l R i (aftGo letter cls last) (aftGo letter cls sos l)))
  case atStart => exact ⟨0, sos, l, Nat.zero_le _, rfl, rfl, rfl, hst, Lib.hid ⟨rfl, rfl, rfl⟩⟩
  case round =>
    clear hst
    obtain ⟨i, last, R, hi, hg, rfl, rfl, hS, hD⟩ := hrel
    have Hg := Lib.hid hg
    clear hg
    have hRl : R.length = l.length := hD.out.1
    by_cases hlt : i < l.length
    · obtain ⟨g, rfl, hgw, _, _, _⟩ := HC.out i hlt
      obtain ⟨c, hcc⟩ : ∃ c, c = l.getD i 0 := ⟨_, rfl⟩
      have hxr : R.getD i 0 = c := by rw [hcc]; exact hD.out.here hlt
      have hown := hS.own
      rw [hRl] at hown
      have hcell : wr.cell? ⟨g, i, none⟩ = some (.int .i64 c) := by
        have := hown.cells (g := g) rfl i (.int .i64 c) (by simp [nums, ← hxr, hRl, hlt])
        rwa [add_plain] at this
      have hfree : wr.frozen? ⟨g, i, none⟩ = false := by
        rcases hown.2 with ⟨hv, _⟩ | ⟨g', cap', cur, hv, _, hg', _⟩
        · cases hv
        · injection hv with e1 _ _
          injection e1 with e1
          injection e1 with e1
          subst e1
          exact frozen_of_row _ _ _ _ _ hg'
      have hb0 : wr.cell? ⟨w.heap.size, 0, none⟩ = some (.slice (some ⟨g, 0, none⟩) l.length cp) := by rw [cell_of_row _ _ _ _ _ _ hS.box]; rfl
      have hlt' : (i : Int) < (l.length : Int) := by omega
      have HS := Lib.hid hS
      have Hcc := Lib.hid hcc
      clear hS hown hxr hcc
      by_cases h0 : c = 0
      · subst h0
        go_wp2
        go_roundg (l.length + 1 - (i + 1))
        case measure => have := Hg.out; omega
        case rel => exact ⟨i + 1, 0, R, by omega, rfl, rfl, by go_num, HS.out, Lib.hid (hD.out.keep hlt (by rw [← Hcc.out]; simp [aftGo]))⟩
      by_cases h1 : c = 1
      · subst h1
        go_wp2
        go_roundg (l.length + 1 - (i + 1))
        case measure => have := Hg.out; omega
        case rel => exact ⟨i + 1, 1, R, by omega, rfl, rfl, by go_num, HS.out, Lib.hid (hD.out.keep hlt (by rw [← Hcc.out]; simp [aftGo]))⟩
      by_cases h2 : c = 2
      · subst h2
        go_wp2
        go_roundg (l.length + 1 - (i + 1))
        case measure => have := Hg.out; omega
        case rel => exact ⟨i + 1, 2, R, by omega, rfl, rfl, by go_num, HS.out, Lib.hid (hD.out.keep hlt (by rw [← Hcc.out]; simp [aftGo]))⟩
      have n0 : (c == 0) = false := by simpa using h0
      have n1 : (c == 1) = false := by simpa using h1
      have n2 : (c == 2) = false := by simpa using h2
      have Hn : Hid (¬ (c = 0 ∨ c = 1 ∨ c = 2)) := Lib.hid (by omega)
      clear h0 h1 h2
      by_cases h3 : c = 3
      · subst h3
        by_cases hL : last = letter
        · have e1 : (last == letter) = true := by simpa using hL
          have HL := Lib.hid hL
          have HT := Lib.hid (HS.out)
          have HS2 : Hid (StW w B (.slice (some ⟨g, 0, none⟩) l.length cp) sos (R.set i cls) (wr.setCell ⟨g, i, none⟩ (.int .i64 cls))) := Lib.hid (by have := HS.out; rw [← hRl] at this ⊢; exact this.set hgw i cls)
          clear hL
          go_wp2
          go_roundg (l.length + 1 - (i + 1))
          case measure => have := Hg.out; omega
          case rel => exact ⟨i + 1, last, R.set i cls, by omega, rfl, rfl, by go_num, HS2.out, Lib.hid (hD.out.put hlt (by rw [← Hcc.out]; simp [aftGo, HL.out]))⟩
        · have e1 : (last == letter) = false := by simpa using hL
          have HL := Lib.hid hL
          clear hL
          go_wp2
          go_roundg (l.length + 1 - (i + 1))
          case measure => have := Hg.out; omega
          case rel => exact ⟨i + 1, last, R, by omega, rfl, rfl, by go_num, HS.out, Lib.hid (hD.out.keep hlt (by rw [← Hcc.out]; simp only [aftGo]; rw [if_neg (by decide), if_pos trivial, if_neg HL.out]))⟩
      · have n3 : (c == 3) = false := by simpa using h3
        have H3 := Lib.hid h3
        clear h3
        go_wp2
        go_roundg (l.length + 1 - (i + 1))
        case measure => have := Hg.out; omega
        case rel => exact ⟨i + 1, last, R, by omega, rfl, rfl, by go_num, HS.out, Lib.hid (hD.out.keep hlt (by rw [← Hcc.out]; simp only [aftGo]; rw [if_neg Hn.out, if_neg H3.out]))⟩
    · have hlt' : ¬ (i : Int) < (l.length : Int) := by omega
      have hR := hD.out.all hlt rfl
      have HS := Lib.hid hS
      have HR := Lib.hid hR
      clear hS hR
      go_wp2
      go_end0
      have ho := HS.out.own
      rw [hRl, HR.out] at ho
      exact ⟨rfl, ho, HS.out.gr⟩
end Go.Proofs.YtdpifkhkemeclaaGreat.Wk
namespace Go.Proofs.YtdpifkhkemeclaaGreat.Wk
open Go.RowKit Go.Proofs.YtdpifkhkemeclaaGreatW.PrintWords
def turnW (tt : Int) (fs : List Int) (l : List Int) : List Int := l.map fun c => if fs.contains c = true then tt else c
set_option maxRecDepth 100000 in
set_option maxHeartbeats 2000000 in
theorem turn_any (w : World) (B : Nat) (v : Value) (l : List Int) (sos tt : Int) (q cq : Nat) (fs : List Int) (h : w.ownsRow B 3 1 v l.length (nums .i64 l)) (hl : l.length ≤ 1048576)
    (hf : fs.length ≤ 1000) (hq : w.heap[q]? = some (.cells (nums .i64 fs).toArray 3 (0, 0))) (hqv : some q ≠ v.ownBlock) :
    Calls Tryz.prog 104 #[.agg #[v, .int .i64 sos], .int .i64 tt, .slice (some ⟨q, 0, none⟩) fs.length cq] w fun e w' => e = .returned (.tuple #[]) ∧ w'.ownsRow B 3 1 v l.length (nums .i64 (turnW tt fs l)) ∧ w.grownBy w' v.ownBlock := by
  have hst := StW.start sos h
  have hqw : q < w.heap.size := lt_of_block hq
  obtain ⟨A, cp, hv, hc⟩ := own_nums h
  subst hv
  have HC := Lib.hid hc
  have HQ := Lib.hid hq
  have HQV := Lib.hid hqv
  clear hc h hq hqv
  go_enter Tryz.func104, Tryz.ntmps104
  go_wp2
  go_loopg [11] (l.length + 1) (fun g v11 wr => ∃ (i : Nat) (R : List Int), i ≤ l.length ∧ g = l.length + 1 - i ∧ v11 = .int .i64 i ∧ StW w B (.slice A l.length cp) sos R wr ∧ Hid (DoneW l R i (turnW tt fs) (turnW tt fs l)))
  case atStart => exact ⟨0, l, Nat.zero_le _, rfl, rfl, hst, Lib.hid ⟨rfl, rfl, rfl⟩⟩
  case round =>
    clear hst
    obtain ⟨i, R, hi, hg, rfl, hS, hD⟩ := hrel
    have Hg := Lib.hid hg
    clear hg
    have hRl : R.length = l.length := hD.out.1
    by_cases hlt : i < l.length
    · obtain ⟨g, rfl, hgw, _, _, _⟩ := HC.out i hlt
      obtain ⟨c, hcc⟩ : ∃ c, c = l.getD i 0 := ⟨_, rfl⟩
      have hxr : R.getD i 0 = c := by rw [hcc]; exact hD.out.here hlt
      have hown := hS.own
      rw [hRl] at hown
      have hcell : wr.cell? ⟨g, i, none⟩ = some (.int .i64 c) := by
        have := hown.cells (g := g) rfl i (.int .i64 c) (by simp [nums, ← hxr, hRl, hlt])
        rwa [add_plain] at this
      have hfree : wr.frozen? ⟨g, i, none⟩ = false := by
        rcases hown.2 with ⟨hv, _⟩ | ⟨g', cap', cur, hv, _, hg', _⟩
        · cases hv
        · injection hv with e1 _ _
          injection e1 with e1
          injection e1 with e1
          subst e1
          exact frozen_of_row _ _ _ _ _ hg'
      have hb0 : wr.cell? ⟨w.heap.size, 0, none⟩ = some (.slice (some ⟨g, 0, none⟩) l.length cp) := by rw [cell_of_row _ _ _ _ _ _ hS.box]; rfl
      have hlt' : (i : Int) < (l.length : Int) := by omega
      have hqr : wr.heap[q]? = some (.cells (nums .i64 fs).toArray 3 (0, 0)) := by rw [hS.gr.block q hqw HQV.out]; exact HQ.out
      have hct := Tryz.slices_Contains_int q 0 fs.length cq fs c wr (Nat.le_refl _) (by omega) (fun j hj => by
        rw [cell_of_row _ _ _ _ _ _ hqr, Nat.zero_add]
        simp [nums, hj])
      rw [List.take_length] at hct
      have HS := Lib.hid hS
      have Hcc := Lib.hid hcc
      obtain ⟨b, hb⟩ : ∃ b, b = fs.contains c := ⟨_, rfl⟩
      rw [← hb] at hct
      have Hb := Lib.hid hb
      have Hct := Lib.hid hct
      clear hS hown hxr hcc hb hct hqr
      cases b with
      | true =>
        have HS2 : Hid (StW w B (.slice (some ⟨g, 0, none⟩) l.length cp) sos (R.set i tt) (wr.setCell ⟨g, i, none⟩ (.int .i64 tt))) := Lib.hid (by have := HS.out; rw [← hRl] at this ⊢; exact this.set hgw i tt)
        go_wp2_with (go_at_call 137; with_reducible refine Hct.out.mono ?_; rintro e w' ⟨rfl, hw⟩; obtain rfl := hw.symm; clear hw)
        go_roundg (l.length + 1 - (i + 1))
        case measure => have := Hg.out; omega
        case rel => exact ⟨i + 1, R.set i tt, by omega, rfl, by go_num, HS2.out, Lib.hid (hD.out.put hlt (by rw [← Hcc.out]; unfold turnW; rw [List.map_cons, if_pos Hb.out.symm]))⟩
      | false =>
        go_wp2_with (go_at_call 137; with_reducible refine Hct.out.mono ?_; rintro e w' ⟨rfl, hw⟩; obtain rfl := hw.symm; clear hw)
        go_roundg (l.length + 1 - (i + 1))
        case measure => have := Hg.out; omega
        case rel => exact ⟨i + 1, R, by omega, rfl, by go_num, HS.out, Lib.hid (hD.out.keep hlt (by rw [← Hcc.out]; unfold turnW; rw [List.map_cons, if_neg (by rw [← Hb.out]; decide)]))⟩
    · have hlt' : ¬ (i : Int) < (l.length : Int) := by omega
      have hR := hD.out.all hlt rfl
      have HS := Lib.hid hS
      have HR := Lib.hid hR
      clear hS hR
      go_wp2
      go_end0
      have ho := HS.out.own
      rw [hRl, HR.out] at ho
      exact ⟨rfl, ho, HS.out.gr⟩
end Go.Proofs.YtdpifkhkemeclaaGreat.Wk
namespace Go.Proofs.YtdpifkhkemeclaaGreat.Wk
open Go.RowKit Go.Proofs.YtdpifkhkemeclaaGreatW.PrintWords
theorem StW.drewN {w wr : World} {B : Nat} {v : Value} {sos : Int} {R : List Int} (h : StW w B v sos R wr) (n : Nat) : StW w B v sos R (wr.drewN n) :=
  ⟨h.own, h.box, ⟨h.gr.os, h.gr.tape, h.gr.output, h.gr.size, h.gr.block⟩⟩
theorem StW.drew {w wr : World} {B : Nat} {v : Value} {sos : Int} {R : List Int} (h : StW w B v sos R wr) : StW w B v sos R wr.drew :=
  ⟨h.own, h.box, ⟨h.gr.os, h.gr.tape, h.gr.output, h.gr.size, h.gr.block⟩⟩
theorem StW.alloc {w wr : World} {B : Nat} {v : Value} {sos : Int} {R : List Int} (h : StW w B v sos R wr) (o : Obj) : StW w B v sos R (wr.alloc o) :=
  ⟨h.own.alloc _, by rw [heap_alloc_old _ _ (lt_of_block h.box)]; exact h.box, ⟨h.gr.os, h.gr.tape, h.gr.output, by have := h.gr.size; simp; omega, fun k hk hne => by rw [heap_alloc_old _ _ (by have := h.gr.size; omega)]; exact h.gr.block k hk hne⟩⟩
theorem at_St {w W : World} {B : Nat} {v : Value} {sos : Int} {R : List Int} (h : StW w B v sos R W) (hl : R.length ≤ 1048576) (i : Int) :
    Calls Tryz.prog 136 #[.agg #[v, .int .i64 sos], .int .i64 i] W fun e W' => e = .returned (.int .i64 (atW R sos i)) ∧ StW w B v sos R W' :=
  (at_any W B v R sos i h.own hl).mono (by rintro e W' ⟨rfl, rfl⟩; exact ⟨rfl, h.alloc _⟩)
theorem StW.cell {w W : World} {B g cp : Nat} {sos : Int} {R : List Int} {n : Nat} (h : StW w B (.slice (some ⟨g, 0, none⟩) n cp) sos R W) (hn : R.length = n) {i : Nat} (hi : i < n) : W.cell? ⟨g, i, none⟩ = some (.int .i64 (R.getD i 0)) ∧ W.frozen? ⟨g, i, none⟩ = false ∧ W.cell? ⟨w.heap.size, 0, none⟩ = some (.slice (some ⟨g, 0, none⟩) n cp) ∧ W.cell? ⟨w.heap.size, 1, none⟩ = some (.int .i64 sos) := by
  subst hn
  refine ⟨?_, ?_, by rw [cell_of_row _ _ _ _ _ _ h.box]; rfl, by rw [cell_of_row _ _ _ _ _ _ h.box]; rfl⟩
  · have := h.own.cells (g := g) rfl i (.int .i64 (R.getD i 0)) (by simp [nums, hi])
    rwa [add_plain] at this
  · rcases h.own.2 with ⟨hv, _⟩ | ⟨g', cap', cur, hv, _, hg', _⟩
    · cases hv
    · injection hv with e1 _ _
      injection e1 with e1
      injection e1 with e1
      subst e1
      exact frozen_of_row _ _ _ _ _ hg'
theorem StW.set' {w wr : World} {B : Nat} {g cap n : Nat} {sos : Int} {R : List Int} (h : StW w B (.slice (some ⟨g, 0, none⟩) n cap) sos R wr) (hn : R.length = n) (hg : g < w.heap.size) (i : Nat) (x : Int) :
    StW w B (.slice (some ⟨g, 0, none⟩) n cap) sos (R.set i x) (wr.setCell ⟨g, i, none⟩ (.int .i64 x)) := by
  subst hn
  exact h.set hg i x
def mkOf (p : Int) (b : Bool) : Int := if b = true ∧ 19 ≤ p ∧ p ≤ 22 then 13 else p
def mkGo : Int → Bool → List Int → List Int
  | _, _, [] => []
  | p, b, c :: r => (if c = 8 then mkOf p b else c) :: mkGo (if c = 8 then mkOf p b else c) true r
theorem at_prev {R : List Int} {sos : Int} {i : Nat} (hi : i < R.length) : atW R sos (((i + 1 : Nat) : Int) - 1) = R.getD i 0 := by
  unfold atW
  rw [if_neg (by omega), if_neg (by omega)]
  congr 1
  omega
set_option maxRecDepth 100000 in
set_option maxHeartbeats 2000000 in
theorem marks_any (w : World) (B : Nat) (v : Value) (l : List Int) (sos : Int) (h : w.ownsRow B 3 1 v l.length (nums .i64 l)) (hl : l.length ≤ 1048576) :
    Calls Tryz.prog 100 #[.agg #[v, .int .i64 sos]] w fun e w' => e = .returned (.tuple #[]) ∧ w'.ownsRow B 3 1 v l.length (nums .i64 (mkGo sos false l)) ∧ w.grownBy w' v.ownBlock := by
  have hst := StW.start sos h
  obtain ⟨A, cp, hv, hc⟩ := own_nums h
  subst hv
  have HC := Lib.hid hc
  clear hc h
  go_enter Tryz.func100, Tryz.ntmps100
  go_wp2
  go_loopg [7] (l.length + 1) (fun g v7 wr => ∃ (i : Nat) (p : Int) (R : List Int), i ≤ l.length ∧ g = l.length + 1 - i ∧ v7 = .int .i64 i ∧ StW w B (.slice A l.length cp) sos R wr ∧ Hid (DoneW l R i (mkGo p (decide (0 < i))) (mkGo sos false l) ∧ p = atW R sos ((i : Int) - 1)))
  case atStart => exact ⟨0, sos, l, Nat.zero_le _, rfl, rfl, hst, Lib.hid ⟨⟨rfl, rfl, rfl⟩, rfl⟩⟩
  case round =>
    clear hst
    obtain ⟨i, p, R, hi, hg, rfl, hS, hDp⟩ := hrel
    have hD : Hid (DoneW l R i (mkGo p (decide (0 < i))) (mkGo sos false l)) := Lib.hid hDp.out.1
    have hp : Hid (p = atW R sos ((i : Int) - 1)) := Lib.hid hDp.out.2
    have Hg := Lib.hid hg
    clear hg hDp
    have hRl : R.length = l.length := hD.out.1
    by_cases hlt : i < l.length
    · obtain ⟨g, rfl, hgw, _, _, _⟩ := HC.out i hlt
      obtain ⟨c, hcc⟩ : ∃ c, c = l.getD i 0 := ⟨_, rfl⟩
      have hxr : R.getD i 0 = c := by rw [hcc]; exact hD.out.here hlt
      obtain ⟨hcell, hfree, hb0, hb1⟩ := hS.cell hRl hlt
      rw [hxr] at hcell
      have hlt' : (i : Int) < (l.length : Int) := by omega
      have HS := Lib.hid hS
      have Hcc := Lib.hid hcc
      have Hxr := Lib.hid hxr
      have HRl := Lib.hid hRl
      clear hS hxr hcc
      by_cases h8 : c = 8
      · subst h8
        have Hw : Hid (IntKind.i64.wrap ((i : Int) - 1) = (i : Int) - 1) := Lib.hid (by unfold IntKind.wrap; simp [IntKind.signed, IntKind.bits]; omega)
        go_wp2
        go_region_with (go_at_call 136; rw [Hw.out]; refine (at_St HS.out.drew (Nat.le_trans (Nat.le_of_eq HRl.out) hl) _).mono ?_; rintro e W2 ⟨rfl, hS2⟩; obtain ⟨m1, m2, m3, m4⟩ := hS2.cell HRl.out hlt; have HS2 := Lib.hid hS2; rw [← hp.out]; clear hS2)
        all_goals
          have HS5 : Hid (StW w B (.slice (some ⟨g, 0, none⟩) l.length cp) sos (R.set i p) (W2.setCell ⟨g, i, none⟩ (.int .i64 p))) := Lib.hid (HS2.out.set' HRl.out hgw i p)
          have HR5 : Hid ((R.set i p).length = l.length) := Lib.hid (by rw [List.length_set]; exact HRl.out)
          obtain ⟨W5, hW5⟩ : ∃ W5, W5 = W2.setCell ⟨g, i, none⟩ (.int .i64 p) := ⟨_, rfl⟩
          rw [← hW5] at HS5 ⊢
          obtain ⟨q1, q2, q3, q4⟩ := HS5.out.cell HR5.out hlt
          have hgp : (R.set i p).getD i 0 = p := by
            rw [List.getD_eq_getElem?_getD, List.getElem?_set_self (by rw [HRl.out]; exact hlt)]; rfl
          rw [hgp] at q1
          have Hgp := Lib.hid hgp
          clear hW5 m1 m2 m3 m4 hgp hcell hfree hb0 hb1
          by_cases h0 : 0 < i
          · have t1 : (0 : Int) < (i : Int) := by omega
            have t1b : decide ((i : Int) > 0) = true := decide_eq_true t1
            by_cases h1 : 19 ≤ p
            · have t2 : decide (p ≥ 19) = true := decide_eq_true h1
              have t2b : decide (19 ≤ p) = true := decide_eq_true h1
              by_cases h2 : p ≤ 22
              · have t3 : decide (p ≤ 22) = true := decide_eq_true h2
                have HS6 : Hid (StW w B (.slice (some ⟨g, 0, none⟩) l.length cp) sos (R.set i 13) (W5.setCell ⟨g, i, none⟩ (.int .i64 13))) := Lib.hid (by have := HS5.out.set' HR5.out hgw i 13; rwa [List.set_set] at this)
                have HT : Hid (mkOf p (decide (0 < i)) = 13) := Lib.hid (by unfold mkOf; rw [if_pos ⟨decide_eq_true h0, h1, h2⟩])
                clear h0 h1 h2
                go_wp2
                go_roundg (l.length + 1 - (i + 1))
                case measure => have := Hg.out; omega
                case rel => exact ⟨i + 1, 13, R.set i 13, by omega, rfl, by go_num, HS6.out, Lib.hid ⟨hD.out.put hlt (by rw [← Hcc.out]; simp only [mkGo]; rw [if_pos trivial, HT.out, show decide (0 < i + 1) = true from decide_eq_true (by omega)]), by rw [at_prev (by rw [List.length_set, HRl.out]; exact hlt), List.getD_eq_getElem?_getD, List.getElem?_set_self (by rw [HRl.out]; exact hlt)]; rfl⟩⟩
              · have t3 : decide (p ≤ 22) = false := decide_eq_false h2
                have HT : Hid (mkOf p (decide (0 < i)) = p) := Lib.hid (by unfold mkOf; rw [if_neg (fun h => h2 h.2.2)])
                clear h0 h1 h2
                go_wp2
                go_roundg (l.length + 1 - (i + 1))
                case measure => have := Hg.out; omega
                case rel => exact ⟨i + 1, p, R.set i p, by omega, rfl, by go_num, HS5.out, Lib.hid ⟨hD.out.put hlt (by rw [← Hcc.out]; simp only [mkGo]; rw [if_pos trivial, HT.out, show decide (0 < i + 1) = true from decide_eq_true (by omega)]), by rw [at_prev (by rw [List.length_set, HRl.out]; exact hlt)]; exact Hgp.out.symm⟩⟩
            · have t2 : decide (p ≥ 19) = false := decide_eq_false h1
              have t2b : decide (19 ≤ p) = false := decide_eq_false h1
              have HT : Hid (mkOf p (decide (0 < i)) = p) := Lib.hid (by unfold mkOf; rw [if_neg (fun h => h1 h.2.1)])
              clear h0 h1
              go_wp2
              go_roundg (l.length + 1 - (i + 1))
              case measure => have := Hg.out; omega
              case rel => exact ⟨i + 1, p, R.set i p, by omega, rfl, by go_num, HS5.out, Lib.hid ⟨hD.out.put hlt (by rw [← Hcc.out]; simp only [mkGo]; rw [if_pos trivial, HT.out, show decide (0 < i + 1) = true from decide_eq_true (by omega)]), by rw [at_prev (by rw [List.length_set, HRl.out]; exact hlt)]; exact Hgp.out.symm⟩⟩
          · have t1 : ¬ (0 : Int) < (i : Int) := by omega
            have t1b : decide ((i : Int) > 0) = false := decide_eq_false t1
            have HT : Hid (mkOf p (decide (0 < i)) = p) := Lib.hid (by unfold mkOf; rw [if_neg (fun h => h0 (of_decide_eq_true h.1))])
            clear h0
            go_wp2
            go_roundg (l.length + 1 - (i + 1))
            case measure => have := Hg.out; omega
            case rel => exact ⟨i + 1, p, R.set i p, by omega, rfl, by go_num, HS5.out, Lib.hid ⟨hD.out.put hlt (by rw [← Hcc.out]; simp only [mkGo]; rw [if_pos trivial, HT.out, show decide (0 < i + 1) = true from decide_eq_true (by omega)]), by rw [at_prev (by rw [List.length_set, HRl.out]; exact hlt)]; exact Hgp.out.symm⟩⟩
      · have n8 : (c == 8) = false := by simpa using h8
        have n8' : (c != 8) = true := by simpa using h8
        have H8 := Lib.hid h8
        clear h8
        go_wp2
        go_roundg (l.length + 1 - (i + 1))
        case measure => have := Hg.out; omega
        case rel => exact ⟨i + 1, c, R, by omega, rfl, by go_num, HS.out, Lib.hid ⟨hD.out.keep hlt (by rw [← Hcc.out]; simp only [mkGo]; rw [if_neg H8.out, show decide (0 < i + 1) = true from decide_eq_true (by omega)]), by rw [at_prev (by rw [HRl.out]; exact hlt)]; exact Hxr.out.symm⟩⟩
    · have hlt' : ¬ (i : Int) < (l.length : Int) := by omega
      have hR := hD.out.all hlt rfl
      have HS := Lib.hid hS
      have HR := Lib.hid hR
      clear hS hR
      go_wp2
      go_end0
      have ho := HS.out.own
      rw [hRl, HR.out] at ho
      exact ⟨rfl, ho, HS.out.gr⟩
end Go.Proofs.YtdpifkhkemeclaaGreat.Wk
namespace Go.Proofs.YtdpifkhkemeclaaGreat.Wk
open Go.RowKit Go.Proofs.YtdpifkhkemeclaaGreatW.PrintWords
def nxW : List Int → Int
  | [] => -1
  | d :: _ => d
def btOf (p n : Int) (b : Bool) (c : Int) : Int := if b = true ∧ p = n ∧ (c = 4 ∧ p = 3 ∨ c = 7 ∧ (p = 3 ∨ p = 6)) then p else c
def btGo : Int → Bool → List Int → List Int
  | _, _, [] => []
  | p, b, c :: r => btOf p (nxW r) b c :: btGo (btOf p (nxW r) b c) true r
theorem at_next {R l : List Int} {sos : Int} {i : Nat} (hl : R.length = l.length) (hd : R.drop i = l.drop i) (hi : i < l.length) : atW R sos ((i : Int) + 1) = nxW (l.drop (i + 1)) := by
  have e : R.drop (i + 1) = l.drop (i + 1) := by
    rw [drop_at R i (by omega), drop_at l i hi] at hd
    injection hd
  unfold atW
  rw [if_neg (by omega)]
  by_cases h : i + 1 < l.length
  · rw [if_neg (by omega), ← e, drop_at R (i + 1) (by omega)]
    simp only [nxW]
    congr 1
  · rw [if_pos (by omega), List.drop_of_length_le (by omega)]
    rfl
set_option maxRecDepth 100000 in
set_option maxHeartbeats 8000000 in
theorem between_any (w : World) (B : Nat) (v : Value) (l : List Int) (sos : Int) (h : w.ownsRow B 3 1 v l.length (nums .i64 l)) (hl : l.length ≤ 1048576) :
    Calls Tryz.prog 105 #[.agg #[v, .int .i64 sos]] w fun e w' => e = .returned (.tuple #[]) ∧ w'.ownsRow B 3 1 v l.length (nums .i64 (btGo sos false l)) ∧ w.grownBy w' v.ownBlock := by
  have hst := StW.start sos h
  obtain ⟨A, cp, hv, hc⟩ := own_nums h
  subst hv
  have HC := Lib.hid hc
  clear hc h
  go_enter Tryz.func105, Tryz.ntmps105
  go_wp2
  go_loopg [9] (l.length + 1) (fun g v7 wr => ∃ (i : Nat) (p : Int) (R : List Int), i ≤ l.length ∧ g = l.length + 1 - i ∧ v7 = .int .i64 i ∧ StW w B (.slice A l.length cp) sos R wr ∧ Hid (DoneW l R i (btGo p (decide (0 < i))) (btGo sos false l) ∧ p = atW R sos ((i : Int) - 1)))
  case atStart => exact ⟨0, sos, l, Nat.zero_le _, rfl, rfl, hst, Lib.hid ⟨⟨rfl, rfl, rfl⟩, rfl⟩⟩
  case round =>
    clear hst
    obtain ⟨i, p, R, hi, hg, rfl, hS, hDp⟩ := hrel
    have hD : Hid (DoneW l R i (btGo p (decide (0 < i))) (btGo sos false l)) := Lib.hid hDp.out.1
    have hp : Hid (p = atW R sos ((i : Int) - 1)) := Lib.hid hDp.out.2
    have Hg := Lib.hid hg
    clear hg hDp
    have hRl : R.length = l.length := hD.out.1
    by_cases hlt : i < l.length
    · obtain ⟨g, rfl, hgw, _, _, _⟩ := HC.out i hlt
      obtain ⟨c, hcc⟩ : ∃ c, c = l.getD i 0 := ⟨_, rfl⟩
      have hxr : R.getD i 0 = c := by rw [hcc]; exact hD.out.here hlt
      obtain ⟨n, hn⟩ : ∃ n, n = nxW (l.drop (i + 1)) := ⟨_, rfl⟩
      have hnx : Hid (n = atW R sos ((i : Int) + 1)) := Lib.hid (by rw [at_next hRl hD.out.2.1 hlt]; exact hn)
      obtain ⟨hcell, hfree, hb0, hb1⟩ := hS.cell hRl hlt
      rw [hxr] at hcell
      have hlt' : (i : Int) < (l.length : Int) := by omega
      have HS := Lib.hid hS
      have Hcc := Lib.hid hcc
      have Hxr := Lib.hid hxr
      have HRl := Lib.hid hRl
      have Hn := Lib.hid hn
      clear hS hxr hcc hn
      have Hw : Hid (IntKind.i64.wrap ((i : Int) - 1) = (i : Int) - 1) := Lib.hid (by unfold IntKind.wrap; simp [IntKind.signed, IntKind.bits]; omega)
      have Hw2 : Hid (IntKind.i64.wrap ((i : Int) + 1) = (i : Int) + 1) := Lib.hid (by unfold IntKind.wrap; simp [IntKind.signed, IntKind.bits]; omega)
      go_wp2
      go_region_with (first
        | (go_at_call 136; rw [Hw.out]; with_reducible refine (at_St HS2.out (Nat.le_trans (Nat.le_of_eq HRl.out) hl) _).mono ?_; rintro e W3 ⟨rfl, hS3⟩; obtain ⟨k1, k2, k3, k4⟩ := hS3.cell HRl.out hlt; have HS3 := Lib.hid hS3; rw [← hp.out]; clear hS3)
        | (go_at_call 136; rw [Hw2.out]; with_reducible refine (at_St HS2.out (Nat.le_trans (Nat.le_of_eq HRl.out) hl) _).mono ?_; rintro e W3 ⟨rfl, hS3⟩; obtain ⟨k1, k2, k3, k4⟩ := hS3.cell HRl.out hlt; have HS3 := Lib.hid hS3; rw [← hnx.out]; clear hS3)
        | (go_at_call 136; rw [Hw.out]; with_reducible refine (at_St HS.out.drew (Nat.le_trans (Nat.le_of_eq HRl.out) hl) _).mono ?_; rintro e W2 ⟨rfl, hS2⟩; obtain ⟨m1, m2, m3, m4⟩ := hS2.cell HRl.out hlt; have HS2 := Lib.hid hS2; rw [← hp.out]; clear hS2)
        | (go_at_call 136; rw [Hw2.out]; with_reducible refine (at_St HS.out.drew (Nat.le_trans (Nat.le_of_eq HRl.out) hl) _).mono ?_; rintro e W2 ⟨rfl, hS2⟩; obtain ⟨m1, m2, m3, m4⟩ := hS2.cell HRl.out hlt; have HS2 := Lib.hid hS2; rw [← hnx.out]; clear hS2))
      all_goals
        clear hcell hfree hb0 hb1 m1 m2 m3 m4
        by_cases h0 : 0 < i
        · have bh0 : decide ((i : Int) > 0) = true := decide_eq_true (by omega)
          have th0 : (0 : Int) < (i : Int) := by omega
          by_cases h1 : p = n
          · have bh1 : (p == n) = true := by simpa using h1
            by_cases h2 : c = 4
            · have bh2 : (c == 4) = true := by simpa using h2
              by_cases h3 : p = 3
              · have bh3 : (p == 3) = true := by simpa using h3
                have HS6 : Hid (StW w B (.slice (some ⟨g, 0, none⟩) l.length cp) sos (R.set i p) (W3.setCell ⟨g, i, none⟩ (.int .i64 p))) := Lib.hid (HS3.out.set' HRl.out hgw i p)
                have HT : Hid (btOf p (nxW (l.drop (i + 1))) (decide (0 < i)) c = p) := Lib.hid (by rw [← Hn.out]; unfold btOf; exact if_pos (⟨decide_eq_true h0, h1, .inl ⟨h2, h3⟩⟩))
                clear h0 h1 h2 h3
                go_wp2
                go_roundg (l.length + 1 - (i + 1))
                case measure => have := Hg.out; omega
                case rel => exact ⟨i + 1, p, R.set i p, by omega, rfl, by go_num, HS6.out, Lib.hid ⟨hD.out.put hlt (by rw [← Hcc.out]; simp only [btGo]; rw [HT.out, show decide (0 < i + 1) = true from decide_eq_true (by omega)]), by rw [at_prev (by rw [List.length_set, HRl.out]; exact hlt), List.getD_eq_getElem?_getD, List.getElem?_set_self (by rw [HRl.out]; exact hlt)]; rfl⟩⟩
              · have bh3 : (p == 3) = false := by simpa using h3
                by_cases h4 : c = 7
                · have bh4 : (c == 7) = true := by simpa using h4
                  exact absurd (h2.symm.trans h4) (by decide)
                · have bh4 : (c == 7) = false := by simpa using h4
                  have HT : Hid (btOf p (nxW (l.drop (i + 1))) (decide (0 < i)) c = c) := Lib.hid (by rw [← Hn.out]; unfold btOf; exact if_neg (fun h => h.2.2.elim (fun a => h3 a.2) (fun a => h4 a.1)))
                  clear h0 h1 h2 h3 h4
                  go_wp2
                  go_roundg (l.length + 1 - (i + 1))
                  case measure => have := Hg.out; omega
                  case rel => exact ⟨i + 1, c, R, by omega, rfl, by go_num, HS3.out, Lib.hid ⟨hD.out.keep hlt (by rw [← Hcc.out]; simp only [btGo]; rw [HT.out, show decide (0 < i + 1) = true from decide_eq_true (by omega)]), by rw [at_prev (by rw [HRl.out]; exact hlt)]; exact Hxr.out.symm⟩⟩
            · have bh2 : (c == 4) = false := by simpa using h2
              by_cases h4 : c = 7
              · have bh4 : (c == 7) = true := by simpa using h4
                by_cases h3 : p = 3
                · have bh3 : (p == 3) = true := by simpa using h3
                  have HS6 : Hid (StW w B (.slice (some ⟨g, 0, none⟩) l.length cp) sos (R.set i p) (W3.setCell ⟨g, i, none⟩ (.int .i64 p))) := Lib.hid (HS3.out.set' HRl.out hgw i p)
                  have HT : Hid (btOf p (nxW (l.drop (i + 1))) (decide (0 < i)) c = p) := Lib.hid (by rw [← Hn.out]; unfold btOf; exact if_pos (⟨decide_eq_true h0, h1, .inr ⟨h4, .inl h3⟩⟩))
                  clear h0 h1 h2 h4 h3
                  go_wp2
                  go_roundg (l.length + 1 - (i + 1))
                  case measure => have := Hg.out; omega
                  case rel => exact ⟨i + 1, p, R.set i p, by omega, rfl, by go_num, HS6.out, Lib.hid ⟨hD.out.put hlt (by rw [← Hcc.out]; simp only [btGo]; rw [HT.out, show decide (0 < i + 1) = true from decide_eq_true (by omega)]), by rw [at_prev (by rw [List.length_set, HRl.out]; exact hlt), List.getD_eq_getElem?_getD, List.getElem?_set_self (by rw [HRl.out]; exact hlt)]; rfl⟩⟩
                · have bh3 : (p == 3) = false := by simpa using h3
                  by_cases h5 : p = 6
                  · have bh5 : (p == 6) = true := by simpa using h5
                    have HS6 : Hid (StW w B (.slice (some ⟨g, 0, none⟩) l.length cp) sos (R.set i p) (W3.setCell ⟨g, i, none⟩ (.int .i64 p))) := Lib.hid (HS3.out.set' HRl.out hgw i p)
                    have HT : Hid (btOf p (nxW (l.drop (i + 1))) (decide (0 < i)) c = p) := Lib.hid (by rw [← Hn.out]; unfold btOf; exact if_pos (⟨decide_eq_true h0, h1, .inr ⟨h4, .inr h5⟩⟩))
                    clear h0 h1 h2 h4 h3 h5
                    go_wp2
                    go_roundg (l.length + 1 - (i + 1))
                    case measure => have := Hg.out; omega
                    case rel => exact ⟨i + 1, p, R.set i p, by omega, rfl, by go_num, HS6.out, Lib.hid ⟨hD.out.put hlt (by rw [← Hcc.out]; simp only [btGo]; rw [HT.out, show decide (0 < i + 1) = true from decide_eq_true (by omega)]), by rw [at_prev (by rw [List.length_set, HRl.out]; exact hlt), List.getD_eq_getElem?_getD, List.getElem?_set_self (by rw [HRl.out]; exact hlt)]; rfl⟩⟩
                  · have bh5 : (p == 6) = false := by simpa using h5
                    have HT : Hid (btOf p (nxW (l.drop (i + 1))) (decide (0 < i)) c = c) := Lib.hid (by rw [← Hn.out]; unfold btOf; exact if_neg (fun h => h.2.2.elim (fun a => h2 a.1) (fun a => a.2.elim h3 h5)))
                    clear h0 h1 h2 h4 h3 h5
                    go_wp2
                    go_roundg (l.length + 1 - (i + 1))
                    case measure => have := Hg.out; omega
                    case rel => exact ⟨i + 1, c, R, by omega, rfl, by go_num, HS3.out, Lib.hid ⟨hD.out.keep hlt (by rw [← Hcc.out]; simp only [btGo]; rw [HT.out, show decide (0 < i + 1) = true from decide_eq_true (by omega)]), by rw [at_prev (by rw [HRl.out]; exact hlt)]; exact Hxr.out.symm⟩⟩
              · have bh4 : (c == 7) = false := by simpa using h4
                have HT : Hid (btOf p (nxW (l.drop (i + 1))) (decide (0 < i)) c = c) := Lib.hid (by rw [← Hn.out]; unfold btOf; exact if_neg (fun h => h.2.2.elim (fun a => h2 a.1) (fun a => h4 a.1)))
                clear h0 h1 h2 h4
                go_wp2
                go_roundg (l.length + 1 - (i + 1))
                case measure => have := Hg.out; omega
                case rel => exact ⟨i + 1, c, R, by omega, rfl, by go_num, HS3.out, Lib.hid ⟨hD.out.keep hlt (by rw [← Hcc.out]; simp only [btGo]; rw [HT.out, show decide (0 < i + 1) = true from decide_eq_true (by omega)]), by rw [at_prev (by rw [HRl.out]; exact hlt)]; exact Hxr.out.symm⟩⟩
          · have bh1 : (p == n) = false := by simpa using h1
            have HT : Hid (btOf p (nxW (l.drop (i + 1))) (decide (0 < i)) c = c) := Lib.hid (by rw [← Hn.out]; unfold btOf; exact if_neg (fun h => h1 h.2.1))
            clear h0 h1
            go_wp2
            go_roundg (l.length + 1 - (i + 1))
            case measure => have := Hg.out; omega
            case rel => exact ⟨i + 1, c, R, by omega, rfl, by go_num, HS3.out, Lib.hid ⟨hD.out.keep hlt (by rw [← Hcc.out]; simp only [btGo]; rw [HT.out, show decide (0 < i + 1) = true from decide_eq_true (by omega)]), by rw [at_prev (by rw [HRl.out]; exact hlt)]; exact Hxr.out.symm⟩⟩
        · have bh0 : decide ((i : Int) > 0) = false := decide_eq_false (by omega)
          have th0 : ¬ ((0 : Int) < (i : Int)) := by omega
          have HT : Hid (btOf p (nxW (l.drop (i + 1))) (decide (0 < i)) c = c) := Lib.hid (by rw [← Hn.out]; unfold btOf; exact if_neg (fun h => h0 (of_decide_eq_true h.1)))
          clear h0
          go_wp2
          go_roundg (l.length + 1 - (i + 1))
          case measure => have := Hg.out; omega
          case rel => exact ⟨i + 1, c, R, by omega, rfl, by go_num, HS3.out, Lib.hid ⟨hD.out.keep hlt (by rw [← Hcc.out]; simp only [btGo]; rw [HT.out, show decide (0 < i + 1) = true from decide_eq_true (by omega)]), by rw [at_prev (by rw [HRl.out]; exact hlt)]; exact Hxr.out.symm⟩⟩
    · have hlt' : ¬ (i : Int) < (l.length : Int) := by omega
      have hR := hD.out.all hlt rfl
      have HS := Lib.hid hS
      have HR := Lib.hid hR
      clear hS hR
      go_wp2
      go_end0
      have ho := HS.out.own
      rw [hRl, HR.out] at ho
      exact ⟨rfl, ho, HS.out.gr⟩
end Go.Proofs.YtdpifkhkemeclaaGreat.Wk
namespace Go.Proofs.YtdpifkhkemeclaaGreat.Wk
open Go.RowKit Go.Proofs.YtdpifkhkemeclaaGreatW.PrintWords
def runNx : List Int → Int
 | [] => -1
 | c :: r => if c = 5 then runNx r else c
def bsOf (p n : Int) (b : Bool) (c : Int) : Int := if c = 5 ∧ (b = true ∧ p = 3 ∨ n = 3) then 3 else c
def bsGo : Int → Bool → List Int → List Int
 | _, _, [] => []
 | p, b, c :: r => bsOf p (runNx r) b c :: bsGo (bsOf p (runNx r) b c) true r
theorem done_get {l R : List Int} {i k : Nat} (h : R.drop i = l.drop i) (hk : i ≤ k) : R.getD k 0 = l.getD k 0 := by
 have e := congrArg (fun t => t.getD (k - i) 0) h
 simp only [List.getD_eq_getElem?_getD, List.getElem?_drop] at e
 rw [show i + (k - i) = k by omega] at e
 simpa [List.getD_eq_getElem?_getD] using e
theorem at_here {l R : List Int} {sos : Int} {i k : Nat} (hl : R.length = l.length) (h : R.drop i = l.drop i) (hk : i ≤ k) : atW R sos (k : Int) = if k < l.length then l.getD k 0 else -1 := by
 unfold atW
 rw [if_neg (by omega), hl]
 by_cases hh : k < l.length
 ·rw [if_neg (by omega), if_pos hh, Int.toNat_natCast, done_get h hk]
 ·rw [if_pos (by omega), if_neg hh]
theorem run_at {l : List Int} {k : Nat} {n : Int} (hk : k ≤ l.length) (hn : n = if k < l.length then l.getD k 0 else -1) (h5 : n ≠ 5) : ∀ (d m : Nat), m + d = k → (∀ j, m ≤ j → j < k → l.getD j 0 = 5) → runNx (l.drop m) = n
 | 0, m, hm, _ => by
  have : m = k := by omega
  subst this
  by_cases hh : m < l.length
  ·rw [if_pos hh] at hn
   rw [drop_at l m hh]
   simp only [runNx]
   rw [← hn, if_neg h5]
  ·rw [if_neg hh] at hn
   rw [List.drop_of_length_le (by omega)]
   exact hn.symm
 | d + 1, m, hm, ha => by
  rw [drop_at l m (by omega)]
  simp only [runNx]
  rw [if_pos (ha m (Nat.le_refl _) (by omega))]
  exact run_at hk hn h5 d (m + 1) (by omega) (fun j h1 h2 => ha j (by omega) h2)
def stB (R : List Int) (sos : Int) (m : Nat) : List Int → List Int := bsGo (atW R sos ((m : Int) - 1)) (decide (0 < m))
theorem stB_fin {l R all : List Int} {sos n : Int} {k : Nat} (h : DoneW l R k (stB R sos k) all) (hk : k ≤ l.length) (hn : n = if k < l.length then l.getD k 0 else -1) (h5 : n ≠ 5) : DoneW l R (k + 1) (stB R sos (k + 1)) all := by
 by_cases hh : k < l.length
 ·rw [if_pos hh] at hn
  refine h.keep hh ?_
  unfold stB
  simp only [bsGo]
  have e : ∀ m, bsOf (atW R sos ((k : Int) - 1)) m (decide (0 < k)) (l.getD k 0) = l.getD k 0 := by
   intro m; unfold bsOf; rw [if_neg (by omega)]
  rw [e, at_prev (by rw [h.1]; exact hh), h.here hh, show decide (0 < k + 1) = true from decide_eq_true (by omega)]
 ·obtain ⟨h1, h2, h3⟩ := h
  refine ⟨h1, ?_, ?_⟩
  ·rw [List.drop_of_length_le (by omega), List.drop_of_length_le (by omega)]
  ·rw [List.drop_of_length_le (by omega)] at h3 ⊢
   rw [List.take_of_length_le (by omega)] at h3 ⊢
   exact h3
theorem stB_put {l R all : List Int} {sos n : Int} {m : Nat} (h : DoneW l R m (stB R sos m) all) (hm : m < l.length) (hr : runNx (l.drop (m + 1)) = n) (h5 : l.getD m 0 = 5) (hc : 0 < m ∧ atW R sos ((m : Int) - 1) = 3 ∨ n = 3) :
  DoneW l (R.set m 3) (m + 1) (stB (R.set m 3) sos (m + 1)) all := by
 have e : atW (R.set m 3) sos (((m + 1 : Nat) : Int) - 1) = 3 := by
  rw [at_prev (by rw [List.length_set, h.1]; exact hm), List.getD_eq_getElem?_getD, List.getElem?_set_self (by rw [h.1]; exact hm)]; rfl
 refine h.put hm ?_
 unfold stB
 rw [e, h5, show decide (0 < m + 1) = true from decide_eq_true (by omega)]
 simp only [bsGo]
 have e2 : bsOf (atW R sos ((m : Int) - 1)) (runNx (l.drop (m + 1))) (decide (0 < m)) 5 = 3 := by
  unfold bsOf
  refine if_pos ⟨rfl, ?_⟩
  rcases hc with ⟨a, b⟩ | a
  ·exact .inl ⟨decide_eq_true a, b⟩
  ·exact .inr (by rw [hr]; exact a)
 rw [e2]
theorem stB_put_at {l R : List Int} {sos : Int} {m : Nat} (hl : R.length = l.length) (hm : m < l.length) : atW (R.set m 3) sos (((m + 1 : Nat) : Int) - 1) = 3 := by
 rw [at_prev (by rw [List.length_set, hl]; exact hm), List.getD_eq_getElem?_getD, List.getElem?_set_self (by rw [hl]; exact hm)]; rfl
theorem stB_keep {l R all : List Int} {sos n : Int} {i k : Nat} (hk : k ≤ l.length) (hn : n = if k < l.length then l.getD k 0 else -1) (h5 : n ≠ 5) (h3 : n ≠ 3)
  (ha : ∀ j, i ≤ j → j < k → l.getD j 0 = 5) (hp : ¬ (0 < i ∧ atW R sos ((i : Int) - 1) = 3)) (h : DoneW l R i (stB R sos i) all) : ∀ (d : Nat), i + d ≤ k → DoneW l R (i + d) (stB R sos (i + d)) all ∧ ¬ (0 < i + d ∧ atW R sos (((i + d : Nat) : Int) - 1) = 3)
 | 0, _ => ⟨h, hp⟩
 | d + 1, hd => by
  obtain ⟨g1, g2⟩ := stB_keep hk hn h5 h3 ha hp h d (by omega)
  have hlt : i + d < l.length := by omega
  have c5 := ha (i + d) (by omega) (by omega)
  have hx : R.getD (i + d) 0 = 5 := by rw [g1.here hlt, c5]
  have ea : atW R sos (((i + d + 1 : Nat) : Int) - 1) = 5 := by rw [at_prev (by rw [g1.1]; exact hlt), hx]
  refine ⟨?_, by rw [show i + (d + 1) = i + d + 1 by omega, ea]; omega⟩
  show DoneW l R (i + d + 1) (stB R sos (i + d + 1)) all
  refine g1.keep hlt ?_
  unfold stB
  rw [ea, c5, show decide (0 < i + d + 1) = true from decide_eq_true (by omega)]
  simp only [bsGo]
  have e2 : bsOf (atW R sos (((i + d : Nat) : Int) - 1)) (runNx (l.drop (i + d + 1))) (decide (0 < i + d)) 5 = 5 := by
   unfold bsOf
   rw [if_neg]
   rintro ⟨_, ⟨a, b⟩ | a⟩
   ·exact g2 ⟨of_decide_eq_true a, b⟩
   ·rw [run_at hk hn h5 (k - (i + d + 1)) (i + d + 1) (by omega) (fun j h1 h2 => ha j (by omega) h2)] at a
    exact h3 a
  rw [e2]
set_option maxRecDepth 100000 in
set_option maxHeartbeats 8000000 in
theorem beside_any (w : World) (B : Nat) (v : Value) (l : List Int) (sos : Int) (h : w.ownsRow B 3 1 v l.length (nums .i64 l)) (hl : l.length ≤ 1048576) :
  Calls Tryz.prog 106 #[.agg #[v, .int .i64 sos]] w fun e w' => e = .returned (.tuple #[]) ∧ w'.ownsRow B 3 1 v l.length (nums .i64 (bsGo sos false l)) ∧ w.grownBy w' v.ownBlock := by
 have hst := StW.start sos h
 obtain ⟨A, cp, hv, hc⟩ := own_nums h
 subst hv
 have HC := Lib.hid hc
 clear hc h
 go_enter Tryz.func106, Tryz.ntmps106
 go_wp2
 go_loopg [2] (l.length + 2) (fun g v2 wr => ∃ (i : Nat) (R : List Int), i ≤ l.length + 1 ∧ g = l.length + 2 - i ∧ v2 = .int .i64 i ∧ StW w B (.slice A l.length cp) sos R wr ∧ Hid (DoneW l R i (stB R sos i) (bsGo sos false l)))
 case atStart => exact ⟨0, l, Nat.zero_le _, rfl, rfl, hst, Lib.hid ⟨rfl, rfl, rfl⟩⟩
 case round =>
  clear hst
  obtain ⟨i, R, hi, hg, rfl, hS, hD⟩ := hrel
  have Hg := Lib.hid hg
  clear hg
  have hRl : R.length = l.length := hD.out.1
  by_cases hlt : i < l.length
  ·obtain ⟨g, rfl, hgw, _, _, _⟩ := HC.out i hlt
   obtain ⟨hcell, hfree, hb0, hb1⟩ := hS.cell hRl hlt
   have hlt' : (i : Int) < (l.length : Int) := by omega
   have HS := Lib.hid hS
   have HRl := Lib.hid hRl
   clear hS hcell
   go_wp2
   go_loopg [2] (l.length + 1 - i) (fun g2 v2 wr2 => ∃ (k : Nat), i ≤ k ∧ k ≤ l.length ∧ g2 = l.length + 1 - k ∧ v2 = .int .i64 k ∧ StW w B (.slice (some ⟨g, 0, none⟩) l.length cp) sos R wr2 ∧ Hid (∀ j, i ≤ j → j < k → l.getD j 0 = 5))
   case atStart => exact ⟨i, Nat.le_refl _, by omega, rfl, rfl, HS.out, Lib.hid (fun j h1 h2 => by omega)⟩
   case round =>
    clear HS hfree hb0 hb1
    obtain ⟨k, hk1, hk2, hg2, rfl, hS2, hA⟩ := hrel
    have hr2 : Hid (atW R sos (k : Int) = if k < l.length then l.getD k 0 else -1) := Lib.hid (at_here HRl.out hD.out.2.1 hk1)
    obtain ⟨n, hn⟩ : ∃ n, n = atW R sos (k : Int) := ⟨_, rfl⟩
    have Hn := Lib.hid hn
    have Hg2 := Lib.hid hg2
    obtain ⟨_, _, p3, p4⟩ := hS2.cell HRl.out hlt
    have HS2 := Lib.hid hS2
    have Hnv : Hid (n = if k < l.length then l.getD k 0 else -1) := Lib.hid (by rw [hn]; exact hr2.out)
    clear hn hg2 hS2
    by_cases h5 : n = 5
    ·have bh5 : (n == 5) = true := by simpa using h5
     have hkl : k < l.length := by
      rcases Nat.lt_or_ge k l.length with hh | hh
      ·exact hh
      ·have := Hnv.out; rw [if_neg (by omega)] at this; omega
     have HA2 : Hid (∀ j, i ≤ j → j < k + 1 → l.getD j 0 = 5) := Lib.hid (fun j h1 h2 => by
      rcases Nat.lt_or_ge j k with hh | hh
      ·exact hA.out j h1 hh
      ·have : j = k := by omega
       subst this
       have := Hnv.out; rw [if_pos hkl] at this; omega)
     have H5 := Lib.hid h5
     clear h5
     go_wp2_with (go_at_call 136; with_reducible refine (at_St HS2.out (Nat.le_trans (Nat.le_of_eq HRl.out) hl) _).mono ?_; rintro e W3 ⟨rfl, hS3⟩; have HS3 := Lib.hid hS3; rw [← Hn.out]; clear hS3)
     go_roundg (l.length + 1 - (k + 1))
     case measure => have := Hg2.out; omega
     case rel => exact ⟨k + 1, by omega, by omega, rfl, by go_num, HS3.out, HA2⟩
    ·have bh5 : (n == 5) = false := by simpa using h5
     have H5 := Lib.hid h5
     clear h5
     obtain ⟨p, hp⟩ : ∃ p, p = atW R sos ((i : Int) - 1) := ⟨_, rfl⟩
     have Hp := Lib.hid hp
     have HKK : ¬ (0 < i ∧ p = 3) → n ≠ 3 → Hid (DoneW l R (k + 1) (stB R sos (k + 1)) (bsGo sos false l)) := fun a b => Lib.hid (by
      have := (stB_keep hk2 Hnv.out H5.out b hA.out (by rw [← Hp.out]; exact a) hD.out (k - i) (by omega)).1
      rw [show i + (k - i) = k by omega] at this
      exact stB_fin this hk2 Hnv.out H5.out)
     have HKK' := Lib.hid HKK
     clear hp HKK
     by_cases h0 : 0 < i
     ·have bh0 : decide ((i : Int) > 0) = true := decide_eq_true (by omega)
      have th0 : (0 : Int) < (i : Int) := by omega
      by_cases hp3 : p = 3
      ·have bp : (p == 3) = true := by simpa using hp3
       have HF : Hid (0 < i ∧ atW R sos ((i : Int) - 1) = 3 ∨ n = 3) := Lib.hid (.inl ⟨h0, by rw [← Hp.out]; exact hp3⟩)
       clear h0 hp3
       go_wp2_with (first | (go_at_call 136; with_reducible refine (at_St HS4.out (Nat.le_trans (Nat.le_of_eq HRl.out) hl) _).mono ?_; rintro e W5 ⟨rfl, hT⟩; obtain ⟨_, _, _, _⟩ := hT.cell HRl.out hlt; have HS5 := Lib.hid hT; rw [← Hn.out]; clear hT) | (go_at_call 136; with_reducible refine (at_St HS3.out (Nat.le_trans (Nat.le_of_eq HRl.out) hl) _).mono ?_; rintro e W4 ⟨rfl, hT⟩; obtain ⟨_, _, _, _⟩ := hT.cell HRl.out hlt; have HS4 := Lib.hid hT; rw [← Hp.out]; clear hT) | (go_at_call 136; with_reducible refine (at_St HS2.out (Nat.le_trans (Nat.le_of_eq HRl.out) hl) _).mono ?_; rintro e W3 ⟨rfl, hT⟩; obtain ⟨_, _, _, _⟩ := hT.cell HRl.out hlt; have HS3 := Lib.hid hT; rw [← Hn.out]; clear hT))
       go_loopg [4] (l.length + 1 - i) (fun g4 v4 wr4 => ∃ (m : Nat) (R4 : List Int), i ≤ m ∧ m ≤ k ∧ g4 = l.length + 1 - m ∧ v4 = .int .i64 m ∧ StW w B (.slice (some ⟨g, 0, none⟩) l.length cp) sos R4 wr4 ∧ Hid (DoneW l R4 m (stB R4 sos m) (bsGo sos false l) ∧ (0 < m ∧ atW R4 sos ((m : Int) - 1) = 3 ∨ n = 3)))
       case atStart => exact ⟨i, R, Nat.le_refl _, hk1, rfl, rfl, HS4.out, Lib.hid ⟨hD.out, HF.out⟩⟩
       case round =>
        obtain ⟨m, R4, hm1, hm2, hg4, rfl, hS6, hD4⟩ := hrel
        have Hg4 := Lib.hid hg4
        have hR4 : Hid (R4.length = l.length) := Lib.hid hD4.out.1.1
        by_cases hmk : m < k
        ·have hml : m < l.length := by omega
         obtain ⟨_, q2, q3, q4⟩ := hS6.cell hR4.out hml
         have HS6 := Lib.hid hS6
         have HS7 : Hid (StW w B (.slice (some ⟨g, 0, none⟩) l.length cp) sos (R4.set m 3) (wr.setCell ⟨g, m, none⟩ (.int .i64 3))) := Lib.hid (HS6.out.set' hR4.out hgw m 3)
         have HD7 : Hid (DoneW l (R4.set m 3) (m + 1) (stB (R4.set m 3) sos (m + 1)) (bsGo sos false l)) := Lib.hid (stB_put hD4.out.1 hml (run_at hk2 Hnv.out H5.out (k - (m + 1)) (m + 1) (by omega) (fun j h1 h2 => hA.out j (by omega) h2)) (hA.out m hm1 hmk) hD4.out.2)
         have HA7 : Hid (atW (R4.set m 3) sos (((m + 1 : Nat) : Int) - 1) = 3) := Lib.hid (stB_put_at hR4.out hml)
         have hmk' : (m : Int) < (k : Int) := by omega
         have hml' : (m : Int) < (l.length : Int) := by omega
         clear hg4 hS6
         go_wp2
         go_roundg (l.length + 1 - (m + 1))
         case measure => have := Hg4.out; omega
         case rel => exact ⟨m + 1, R4.set m 3, by omega, by omega, rfl, by go_num, HS7.out, Lib.hid ⟨HD7.out, .inl ⟨by omega, HA7.out⟩⟩⟩
        ·have hmk' : ¬ (m : Int) < (k : Int) := by omega
         have e : m = k := by omega
         subst e
         have HS6 := Lib.hid hS6
         clear hg4 hS6
         go_wp2
         go_roundg (l.length + 2 - (m + 1))
         case measure => have := Hg.out; omega
         case rel => exact ⟨m + 1, R4, by omega, rfl, by go_num, HS6.out, Lib.hid (stB_fin hD4.out.1 hk2 Hnv.out H5.out)⟩
      ·have bp : (p == 3) = false := by simpa using hp3
       by_cases hn3 : n = 3
       ·have bn : (n == 3) = true := by simpa using hn3
        have HF : Hid (0 < i ∧ atW R sos ((i : Int) - 1) = 3 ∨ n = 3) := Lib.hid (.inr hn3)
        clear h0 hp3 hn3
        go_wp2_with (first | (go_at_call 136; with_reducible refine (at_St HS4.out (Nat.le_trans (Nat.le_of_eq HRl.out) hl) _).mono ?_; rintro e W5 ⟨rfl, hT⟩; obtain ⟨_, _, _, _⟩ := hT.cell HRl.out hlt; have HS5 := Lib.hid hT; rw [← Hn.out]; clear hT) | (go_at_call 136; with_reducible refine (at_St HS3.out (Nat.le_trans (Nat.le_of_eq HRl.out) hl) _).mono ?_; rintro e W4 ⟨rfl, hT⟩; obtain ⟨_, _, _, _⟩ := hT.cell HRl.out hlt; have HS4 := Lib.hid hT; rw [← Hp.out]; clear hT) | (go_at_call 136; with_reducible refine (at_St HS2.out (Nat.le_trans (Nat.le_of_eq HRl.out) hl) _).mono ?_; rintro e W3 ⟨rfl, hT⟩; obtain ⟨_, _, _, _⟩ := hT.cell HRl.out hlt; have HS3 := Lib.hid hT; rw [← Hn.out]; clear hT))
        go_loopg [4] (l.length + 1 - i) (fun g4 v4 wr4 => ∃ (m : Nat) (R4 : List Int), i ≤ m ∧ m ≤ k ∧ g4 = l.length + 1 - m ∧ v4 = .int .i64 m ∧ StW w B (.slice (some ⟨g, 0, none⟩) l.length cp) sos R4 wr4 ∧ Hid (DoneW l R4 m (stB R4 sos m) (bsGo sos false l) ∧ (0 < m ∧ atW R4 sos ((m : Int) - 1) = 3 ∨ n = 3)))
        case atStart => exact ⟨i, R, Nat.le_refl _, hk1, rfl, rfl, HS5.out, Lib.hid ⟨hD.out, HF.out⟩⟩
        case round =>
         obtain ⟨m, R4, hm1, hm2, hg4, rfl, hS6, hD4⟩ := hrel
         have Hg4 := Lib.hid hg4
         have hR4 : Hid (R4.length = l.length) := Lib.hid hD4.out.1.1
         by_cases hmk : m < k
         ·have hml : m < l.length := by omega
          obtain ⟨_, q2, q3, q4⟩ := hS6.cell hR4.out hml
          have HS6 := Lib.hid hS6
          have HS7 : Hid (StW w B (.slice (some ⟨g, 0, none⟩) l.length cp) sos (R4.set m 3) (wr.setCell ⟨g, m, none⟩ (.int .i64 3))) := Lib.hid (HS6.out.set' hR4.out hgw m 3)
          have HD7 : Hid (DoneW l (R4.set m 3) (m + 1) (stB (R4.set m 3) sos (m + 1)) (bsGo sos false l)) := Lib.hid (stB_put hD4.out.1 hml (run_at hk2 Hnv.out H5.out (k - (m + 1)) (m + 1) (by omega) (fun j h1 h2 => hA.out j (by omega) h2)) (hA.out m hm1 hmk) hD4.out.2)
          have HA7 : Hid (atW (R4.set m 3) sos (((m + 1 : Nat) : Int) - 1) = 3) := Lib.hid (stB_put_at hR4.out hml)
          have hmk' : (m : Int) < (k : Int) := by omega
          have hml' : (m : Int) < (l.length : Int) := by omega
          clear hg4 hS6
          go_wp2
          go_roundg (l.length + 1 - (m + 1))
          case measure => have := Hg4.out; omega
          case rel => exact ⟨m + 1, R4.set m 3, by omega, by omega, rfl, by go_num, HS7.out, Lib.hid ⟨HD7.out, .inl ⟨by omega, HA7.out⟩⟩⟩
         ·have hmk' : ¬ (m : Int) < (k : Int) := by omega
          have e : m = k := by omega
          subst e
          have HS6 := Lib.hid hS6
          clear hg4 hS6
          go_wp2
          go_roundg (l.length + 2 - (m + 1))
          case measure => have := Hg.out; omega
          case rel => exact ⟨m + 1, R4, by omega, rfl, by go_num, HS6.out, Lib.hid (stB_fin hD4.out.1 hk2 Hnv.out H5.out)⟩
       ·have bn : (n == 3) = false := by simpa using hn3
        have HK := Lib.hid (HKK'.out (fun a => hp3 a.2) hn3).out
        clear h0 hp3 hn3
        go_wp2_with (first | (go_at_call 136; with_reducible refine (at_St HS4.out (Nat.le_trans (Nat.le_of_eq HRl.out) hl) _).mono ?_; rintro e W5 ⟨rfl, hT⟩; obtain ⟨_, _, _, _⟩ := hT.cell HRl.out hlt; have HS5 := Lib.hid hT; rw [← Hn.out]; clear hT) | (go_at_call 136; with_reducible refine (at_St HS3.out (Nat.le_trans (Nat.le_of_eq HRl.out) hl) _).mono ?_; rintro e W4 ⟨rfl, hT⟩; obtain ⟨_, _, _, _⟩ := hT.cell HRl.out hlt; have HS4 := Lib.hid hT; rw [← Hp.out]; clear hT) | (go_at_call 136; with_reducible refine (at_St HS2.out (Nat.le_trans (Nat.le_of_eq HRl.out) hl) _).mono ?_; rintro e W3 ⟨rfl, hT⟩; obtain ⟨_, _, _, _⟩ := hT.cell HRl.out hlt; have HS3 := Lib.hid hT; rw [← Hn.out]; clear hT))
        go_roundg (l.length + 2 - (k + 1))
        case measure => have := Hg.out; omega
        case rel => exact ⟨k + 1, R, by omega, rfl, by go_num, HS5.out, HK.out⟩
     ·have bh0 : decide ((i : Int) > 0) = false := decide_eq_false (by omega)
      have th0 : ¬ (0 : Int) < (i : Int) := by omega
      by_cases hn3 : n = 3
      ·have bn : (n == 3) = true := by simpa using hn3
       have HF : Hid (0 < i ∧ atW R sos ((i : Int) - 1) = 3 ∨ n = 3) := Lib.hid (.inr hn3)
       clear h0 hn3
       go_wp2_with (first | (go_at_call 136; with_reducible refine (at_St HS3.out (Nat.le_trans (Nat.le_of_eq HRl.out) hl) _).mono ?_; rintro e W4 ⟨rfl, hT⟩; obtain ⟨_, _, _, _⟩ := hT.cell HRl.out hlt; have HS4 := Lib.hid hT; rw [← Hn.out]; clear hT) | (go_at_call 136; with_reducible refine (at_St HS2.out (Nat.le_trans (Nat.le_of_eq HRl.out) hl) _).mono ?_; rintro e W3 ⟨rfl, hT⟩; obtain ⟨_, _, _, _⟩ := hT.cell HRl.out hlt; have HS3 := Lib.hid hT; rw [← Hn.out]; clear hT))
       go_loopg [4] (l.length + 1 - i) (fun g4 v4 wr4 => ∃ (m : Nat) (R4 : List Int), i ≤ m ∧ m ≤ k ∧ g4 = l.length + 1 - m ∧ v4 = .int .i64 m ∧ StW w B (.slice (some ⟨g, 0, none⟩) l.length cp) sos R4 wr4 ∧ Hid (DoneW l R4 m (stB R4 sos m) (bsGo sos false l) ∧ (0 < m ∧ atW R4 sos ((m : Int) - 1) = 3 ∨ n = 3)))
       case atStart => exact ⟨i, R, Nat.le_refl _, hk1, rfl, rfl, HS4.out, Lib.hid ⟨hD.out, HF.out⟩⟩
       case round =>
        obtain ⟨m, R4, hm1, hm2, hg4, rfl, hS6, hD4⟩ := hrel
        have Hg4 := Lib.hid hg4
        have hR4 : Hid (R4.length = l.length) := Lib.hid hD4.out.1.1
        by_cases hmk : m < k
        ·have hml : m < l.length := by omega
         obtain ⟨_, q2, q3, q4⟩ := hS6.cell hR4.out hml
         have HS6 := Lib.hid hS6
         have HS7 : Hid (StW w B (.slice (some ⟨g, 0, none⟩) l.length cp) sos (R4.set m 3) (wr.setCell ⟨g, m, none⟩ (.int .i64 3))) := Lib.hid (HS6.out.set' hR4.out hgw m 3)
         have HD7 : Hid (DoneW l (R4.set m 3) (m + 1) (stB (R4.set m 3) sos (m + 1)) (bsGo sos false l)) := Lib.hid (stB_put hD4.out.1 hml (run_at hk2 Hnv.out H5.out (k - (m + 1)) (m + 1) (by omega) (fun j h1 h2 => hA.out j (by omega) h2)) (hA.out m hm1 hmk) hD4.out.2)
         have HA7 : Hid (atW (R4.set m 3) sos (((m + 1 : Nat) : Int) - 1) = 3) := Lib.hid (stB_put_at hR4.out hml)
         have hmk' : (m : Int) < (k : Int) := by omega
         have hml' : (m : Int) < (l.length : Int) := by omega
         clear hg4 hS6
         go_wp2
         go_roundg (l.length + 1 - (m + 1))
         case measure => have := Hg4.out; omega
         case rel => exact ⟨m + 1, R4.set m 3, by omega, by omega, rfl, by go_num, HS7.out, Lib.hid ⟨HD7.out, .inl ⟨by omega, HA7.out⟩⟩⟩
        ·have hmk' : ¬ (m : Int) < (k : Int) := by omega
         have e : m = k := by omega
         subst e
         have HS6 := Lib.hid hS6
         clear hg4 hS6
         go_wp2
         go_roundg (l.length + 2 - (m + 1))
         case measure => have := Hg.out; omega
         case rel => exact ⟨m + 1, R4, by omega, rfl, by go_num, HS6.out, Lib.hid (stB_fin hD4.out.1 hk2 Hnv.out H5.out)⟩
      ·have bn : (n == 3) = false := by simpa using hn3
       have HK := Lib.hid (HKK'.out (fun a => h0 a.1) hn3).out
       clear h0 hn3
       go_wp2_with (first | (go_at_call 136; with_reducible refine (at_St HS3.out (Nat.le_trans (Nat.le_of_eq HRl.out) hl) _).mono ?_; rintro e W4 ⟨rfl, hT⟩; obtain ⟨_, _, _, _⟩ := hT.cell HRl.out hlt; have HS4 := Lib.hid hT; rw [← Hn.out]; clear hT) | (go_at_call 136; with_reducible refine (at_St HS2.out (Nat.le_trans (Nat.le_of_eq HRl.out) hl) _).mono ?_; rintro e W3 ⟨rfl, hT⟩; obtain ⟨_, _, _, _⟩ := hT.cell HRl.out hlt; have HS3 := Lib.hid hT; rw [← Hn.out]; clear hT))
       go_roundg (l.length + 2 - (k + 1))
       case measure => have := Hg.out; omega
       case rel => exact ⟨k + 1, R, by omega, rfl, by go_num, HS4.out, HK.out⟩
  ·have hlt' : ¬ (i : Int) < (l.length : Int) := by omega
   have hR := hD.out.all hlt rfl
   have HS := Lib.hid hS
   have HR := Lib.hid hR
   have HL : Hid (∃ A' c', (Value.slice A l.length cp) = .slice A' l.length c') := Lib.hid ⟨_, _, rfl⟩
   have hb0 : wr.cell? ⟨w.heap.size, 0, none⟩ = some (.slice A l.length cp) := by rw [cell_of_row _ _ _ _ _ _ hS.box]; rfl
   clear hS hR
   go_wp2
   go_end0
   have ho := HS.out.own
   rw [hRl, HR.out] at ho
   exact ⟨rfl, ho, HS.out.gr⟩
end Go.Proofs.YtdpifkhkemeclaaGreat.Wk
namespace Go.Proofs.YtdpifkhkemeclaaGreat.Wk
open Go.RowKit Go.Proofs.YtdpifkhkemeclaaGreatW.PrintWords
theorem turn_lit (w : World) (B : Nat) (v : Value) (l : List Int) (sos : Int) (h : w.ownsRow B 3 1 v l.length (nums .i64 l)) (hl : l.length ≤ 1048576) (t : Int) (fs : List Int) (hf : fs.length ≤ 1000) : Calls Tryz.prog 104 #[.agg #[v, .int .i64 sos], .int .i64 t, .slice (some ⟨w.heap.size, 0, none⟩) fs.length fs.length] (w.alloc (.cells (nums .i64 fs).toArray 3)) fun e w' => e = .returned (.tuple #[]) ∧ w'.ownsRow B 3 1 v l.length (nums .i64 (turnW t fs l)) ∧ w.grownBy w' v.ownBlock :=
  (turn_any (w.alloc (.cells (nums .i64 fs).toArray 3)) B v l sos t w.heap.size fs.length fs (h.alloc _) hl hf (heap_alloc_new _ _) (fun e => by have := (h.lt _ e.symm).2; omega)).mono (by
    rintro e w' ⟨rfl, h1, h2⟩
    exact ⟨rfl, h1, (World.grownBy_alloc w _ _).trans h2⟩)
section
variable (w : World) (B : Nat) (v : Value) (l : List Int) (sos : Int) (b : Nat)
theorem c65_any (h : w.ownsRow B 3 1 v l.length (nums .i64 l)) (hl : l.length ≤ 1048576) (hb : w.heap[b]? = some (.cells #[v, .int .i64 sos] 126 (0, 0))) : Calls Tryz.prog 101 #[.pointer (some ⟨b, 0, none⟩)] w fun e w' => e = .returned (.tuple #[]) ∧ w'.ownsRow B 3 1 v l.length (nums .i64 (aftGo 2 6 sos l)) ∧ w.grownBy w' v.ownBlock := by
  have c0 : w.cell? ⟨b, 0, none⟩ = some v := by rw [cell_of_row _ _ _ _ _ _ hb]; rfl
  have c1 : w.cell? ⟨b, 1, none⟩ = some (.int .i64 sos) := by rw [cell_of_row _ _ _ _ _ _ hb]; rfl
  have HA := Lib.hid (after_any w B v l sos 2 6 h hl)
  clear h hb hl
  go_enter Tryz.func101, Tryz.ntmps101
  go_wp2_with (go_at_call 102; with_reducible refine HA.out.mono ?_; rintro e w' ⟨rfl, hT⟩; have HT := Lib.hid hT; clear hT)
  go_end0
  exact ⟨rfl, HT.out⟩
theorem c72_any (h : w.ownsRow B 3 1 v l.length (nums .i64 l)) (hl : l.length ≤ 1048576) (hb : w.heap[b]? = some (.cells #[v, .int .i64 sos] 126 (0, 0))) : Calls Tryz.prog 108 #[.pointer (some ⟨b, 0, none⟩)] w fun e w' => e = .returned (.tuple #[]) ∧ w'.ownsRow B 3 1 v l.length (nums .i64 (aftGo 0 0 sos l)) ∧ w.grownBy w' v.ownBlock := by
  have c0 : w.cell? ⟨b, 0, none⟩ = some v := by rw [cell_of_row _ _ _ _ _ _ hb]; rfl
  have c1 : w.cell? ⟨b, 1, none⟩ = some (.int .i64 sos) := by rw [cell_of_row _ _ _ _ _ _ hb]; rfl
  have HA := Lib.hid (after_any w B v l sos 0 0 h hl)
  clear h hb hl
  go_enter Tryz.func108, Tryz.ntmps108
  go_wp2_with (go_at_call 102; with_reducible refine HA.out.mono ?_; rintro e w' ⟨rfl, hT⟩; have HT := Lib.hid hT; clear hT)
  go_end0
  exact ⟨rfl, HT.out⟩
theorem c67_any (h : w.ownsRow B 3 1 v l.length (nums .i64 l)) (hl : l.length ≤ 1048576) (hb : w.heap[b]? = some (.cells #[v, .int .i64 sos] 126 (0, 0))) : Calls Tryz.prog 103 #[.pointer (some ⟨b, 0, none⟩)] w fun e w' => e = .returned (.tuple #[]) ∧ w'.ownsRow B 3 1 v l.length (nums .i64 (turnW 1 [2] l)) ∧ w.grownBy w' v.ownBlock := by
  have c0 : w.cell? ⟨b, 0, none⟩ = some v := by rw [cell_of_row _ _ _ _ _ _ hb]; rfl
  have c1 : w.cell? ⟨b, 1, none⟩ = some (.int .i64 sos) := by rw [cell_of_row _ _ _ _ _ _ hb]; rfl
  have HA : Hid (Calls Tryz.prog 104 #[.agg #[v, .int .i64 sos], .int .i64 1, .slice (some ⟨w.heap.size, 0, none⟩) 1 1] (w.alloc (.cells #[.int .i64 2] 3)) fun e w' => e = .returned (.tuple #[]) ∧ w'.ownsRow B 3 1 v l.length (nums .i64 (turnW 1 [2] l)) ∧ w.grownBy w' v.ownBlock) := Lib.hid (turn_lit w B v l sos h hl 1 [2] (by decide))
  clear h hb hl
  go_enter Tryz.func103, Tryz.ntmps103
  go_wp2_with (go_at_call 104; with_reducible refine HA.out.mono ?_; rintro e w' ⟨rfl, hT⟩; have HT := Lib.hid hT; clear hT)
  go_end0
  exact ⟨rfl, HT.out⟩
theorem c71_any (h : w.ownsRow B 3 1 v l.length (nums .i64 l)) (hl : l.length ≤ 1048576) (hb : w.heap[b]? = some (.cells #[v, .int .i64 sos] 126 (0, 0))) : Calls Tryz.prog 107 #[.pointer (some ⟨b, 0, none⟩)] w fun e w' => e = .returned (.tuple #[]) ∧ w'.ownsRow B 3 1 v l.length (nums .i64 (turnW 13 [4, 5, 7] l)) ∧ w.grownBy w' v.ownBlock := by
  have c0 : w.cell? ⟨b, 0, none⟩ = some v := by rw [cell_of_row _ _ _ _ _ _ hb]; rfl
  have c1 : w.cell? ⟨b, 1, none⟩ = some (.int .i64 sos) := by rw [cell_of_row _ _ _ _ _ _ hb]; rfl
  have HA : Hid (Calls Tryz.prog 104 #[.agg #[v, .int .i64 sos], .int .i64 13, .slice (some ⟨w.heap.size, 0, none⟩) 3 3] (w.alloc (.cells #[.int .i64 4, .int .i64 5, .int .i64 7] 3)) fun e w' => e = .returned (.tuple #[]) ∧ w'.ownsRow B 3 1 v l.length (nums .i64 (turnW 13 [4, 5, 7] l)) ∧ w.grownBy w' v.ownBlock) := Lib.hid (turn_lit w B v l sos h hl 13 [4, 5, 7] (by decide))
  clear h hb hl
  go_enter Tryz.func107, Tryz.ntmps107
  go_wp2_with (go_at_call 104; with_reducible refine HA.out.mono ?_; rintro e w' ⟨rfl, hT⟩; have HT := Lib.hid hT; clear hT)
  go_end0
  exact ⟨rfl, HT.out⟩
end
end Go.Proofs.YtdpifkhkemeclaaGreat.Wk
namespace Go.Proofs.YtdpifkhkemeclaaGreat.Wk
open Go.RowKit Go.Proofs.YtdpifkhkemeclaaGreatW.PrintWords
def weakW (l : List Int) (sos : Int) : List Int :=
 aftGo 0 0 sos (turnW 13 [4, 5, 7] (bsGo sos false (btGo sos false (turnW 1 [2] (aftGo 2 6 sos (mkGo sos false l))))))
theorem mk_len : ∀ (l : List Int) (p : Int) (b : Bool), (mkGo p b l).length = l.length
 | [], _, _ => rfl
 | _ :: r, _, _ => congrArg (· + 1) (mk_len r _ _)
theorem bt_len : ∀ (l : List Int) (p : Int) (b : Bool), (btGo p b l).length = l.length
 | [], _, _ => rfl
 | _ :: r, _, _ => congrArg (· + 1) (bt_len r _ _)
theorem bs_len : ∀ (l : List Int) (p : Int) (b : Bool), (bsGo p b l).length = l.length
 | [], _, _ => rfl
 | _ :: r, _, _ => congrArg (· + 1) (bs_len r _ _)
theorem aft_len (a c : Int) : ∀ (l : List Int) (p : Int), (aftGo a c p l).length = l.length
 | [], _ => rfl
 | x :: r, p => by
  simp only [aftGo]
  split
  ·simp [aft_len a c r]
  ·split <;> simp [aft_len a c r]
theorem turn_len (t : Int) (fs l : List Int) : (turnW t fs l).length = l.length := by simp [turnW]
theorem weak_len (l : List Int) (sos : Int) : (weakW l sos).length = l.length := by
 unfold weakW
 rw [aft_len, turn_len, bs_len, bt_len, turn_len, aft_len, mk_len]
def stays (c : Int) : Prop := c = 0 ∨ c = 1 ∨ c = 6 ∨ c < 0 ∨ 8 < c
inductive Over (P : Int → Int → Prop) : List Int → List Int → Prop
 | nil : Over P [] []
 | cons {a b l m} : P a b → Over P l m → Over P (a :: l) (b :: m)
theorem Over.mono {P Q : Int → Int → Prop} (h : ∀ a b, P a b → Q a b) : ∀ {l m}, Over P l m → Over Q l m := by
 intro l m H; induction H with
 | nil => exact .nil
 | cons a _ ih => exact .cons (h _ _ a) ih
theorem Over.trans {P Q S : Int → Int → Prop} (h : ∀ a b c, P a b → Q b c → S a c) : ∀ {l m n}, Over P l m → Over Q m n → Over S l n := by
 intro l m n H; induction H generalizing n with
 | nil => intro H; cases H; exact .nil
 | cons a _ ih => intro H; cases H with | cons b t => exact .cons (h _ _ _ a b) (ih t)
theorem Over.len {P : Int → Int → Prop} {l m : List Int} (H : Over P l m) : l.length = m.length := by
 induction H with
 | nil => rfl
 | cons _ _ ih => simp [ih]
theorem clone_any (w : World) (A0 : Option Addr) (c0 : Nat) (l0 : List Int) (hr0 : Kd.C (Kd.int .i64) w A0 l0.length l0) (hl : l0.length ≤ 1048576) :
  Calls Tryz.prog 38 #[.slice A0 l0.length c0] w fun e w' => ∃ A c, e = .returned (.slice A l0.length c) ∧ w'.ownsRow w.heap.size 3 1 (.slice A l0.length c) l0.length (nums .i64 l0) ∧ Below w.heap.size w w' := by
 have hat : ∀ j : Nat, j < l0.length → ∃ ad, A0 = some ad ∧ w.cell? (ad.add j) = some (.int .i64 (l0.getD j 0)) := fun j hj => by
  obtain ⟨ad, e, hc⟩ := Kd.at_int hr0 (j : Int) (by omega) (by omega)
  exact ⟨ad, e, by simpa [rd] using hc⟩
 by_cases h0 : l0.length = 0
 ·have : l0 = [] := List.eq_nil_of_length_eq_zero h0
  subst this
  cases A0 with
  | none => exact (Tryz.slices_Clone_int_nil 0 c0 w).mono (by rintro e w' ⟨rfl, rfl⟩; exact ⟨none, 0, rfl, World.ownsRow_nil _ _ _ _, Below.refl _ _⟩)
  | some a => exact (Tryz.slices_Clone_int_zero a c0 w).mono (by
    rintro e w' ⟨v', rfl, ho, _, hb⟩
    obtain ⟨A, c, rfl⟩ := own_slice ho
    exact ⟨A, c, rfl, ho, hb⟩)
 ·obtain ⟨⟨b, off, sp⟩, rfl, hc⟩ := hat 0 (by omega)
  have hsp : sp = none := by
   cases sp with
   | none => rfl
   | some s =>
    unfold World.cell? at hc
    simp only [Addr.add] at hc
    split at hc <;> simp at hc
  subst hsp
  refine (Tryz.slices_Clone_int b off l0.length c0 l0 w (Nat.le_refl _) (by omega) (fun j hj => ?_)).mono ?_
  ·obtain ⟨ad, e, hc⟩ := hat j hj
   cases e
   have e2 : (Addr.mk b off none).add j = ⟨b, off + j, none⟩ := by
    unfold Addr.add
    by_cases h : j = 0
    ·subst h; simp
    ·simp [h]
   rw [← e2]
   exact hc
  ·rintro e w' ⟨v', rfl, ho, _, hb⟩
   rw [List.take_length] at ho
   obtain ⟨A, c, rfl⟩ := own_slice ho
   exact ⟨A, c, rfl, ho, hb⟩
def fnsW (A : Option Addr) (n c : Nat) (sos : Int) (b : Nat) : Array Value := #[.func (.func 100) #[.agg #[.slice A n c, .int .i64 sos]] #[],
 .func (.func 101) #[] #[.pointer (some ⟨b, 0, none⟩)], .func (.func 103) #[] #[.pointer (some ⟨b, 0, none⟩)],
 .func (.func 105) #[.agg #[.slice A n c, .int .i64 sos]] #[], .func (.func 106) #[.agg #[.slice A n c, .int .i64 sos]] #[],
 .func (.func 107) #[] #[.pointer (some ⟨b, 0, none⟩)], .func (.func 108) #[] #[.pointer (some ⟨b, 0, none⟩)]]
structure Wst (W7 : World) (B : Nat) (A : Option Addr) (n c : Nat) (sos : Int) (b : Nat) (R : List Int) (wr : World) : Prop where
 len : R.length = n
 own : wr.ownsRow B 3 1 (.slice A n c) R.length (nums .i64 R)
 box : wr.heap[b]? = some (.cells #[.slice A n c, .int .i64 sos] 126 (0, 0))
 fns : wr.heap[b + 1]? = some (.cells (fnsW A n c sos b) 1 (0, 0))
 gr : W7.grownBy wr (Value.slice A n c).ownBlock
theorem Wst.next {W7 wr wr' : World} {B n c b : Nat} {A : Option Addr} {sos : Int} {R R' : List Int} (h : Wst W7 B A n c sos b R wr) (hl : R'.length = R.length) (ho : wr'.ownsRow B 3 1 (.slice A n c) R.length (nums .i64 R')) (hg : wr.grownBy wr' (Value.slice A n c).ownBlock) : Wst W7 B A n c sos b R' wr' := by
 have n1 : some b ≠ (Value.slice A n c).ownBlock := own_ne h.own h.box (by decide)
 have n2 : some (b + 1) ≠ (Value.slice A n c).ownBlock := own_ne h.own h.fns (by decide)
 exact ⟨by rw [hl, h.len], by rw [hl]; exact ho, by rw [hg.block b (lt_of_block h.box) n1]; exact h.box, by rw [hg.block (b + 1) (lt_of_block h.fns) n2]; exact h.fns, h.gr.trans hg⟩
theorem Wst.fn {W7 wr : World} {B n c b : Nat} {A : Option Addr} {sos : Int} {R : List Int} (h : Wst W7 B A n c sos b R wr) (i : Nat) (u : Value) (hu : (fnsW A n c sos b)[i]? = some u) : wr.cell? ⟨b + 1, i, none⟩ = some u := by
 rw [cell_of_row _ _ _ _ _ _ h.fns]; exact hu
theorem Wst.out {W7 wr : World} {B n c b : Nat} {A : Option Addr} {sos : Int} {R : List Int} (h : Wst W7 B A n c sos b R wr) : wr.cell? ⟨b, 0, none⟩ = some (.slice A n c) := by
 rw [cell_of_row _ _ _ _ _ _ h.box]; rfl
end Go.Proofs.YtdpifkhkemeclaaGreat.Wk
namespace Go.Proofs.YtdpifkhkemeclaaGreat
open Go.RowKit Go.Proofs.YtdpifkhkemeclaaGreatW.PrintWords Wk
def weak_Weak.f (l : List Int) (sos : Int) : Option (List Int) := if l.length ≤ 1048576 then some (weakW l sos) else none
set_option maxRecDepth 100000 in
set_option maxHeartbeats 8000000 in
theorem weak_Weak.calls (A0 : Option Addr) (c0 : Nat) (l0 : List Int) (a1 : Int) (r : List Int) (w : World) (hr0 : Kd.C (Kd.int .i64) w A0 l0.length l0) (hc0 : l0.length ≤ c0) (h : weak_Weak.f l0 a1 = some r) :
  Calls Tryz.prog 64 #[.slice A0 l0.length c0, .int .i64 a1] w fun e w' => ∃ v0_ : Value, e = .returned (v0_) ∧ Kd.R (Kd.int .i64) 3 w' w.heap.size (fun _ => True) v0_ r ∧ Below w.heap.size w w' := by
 unfold weak_Weak.f at h
 by_cases hm : l0.length ≤ 1048576
 case neg => rw [if_neg hm] at h; cases h
 rw [if_pos hm] at h
 have h := Option.some.inj h
 have Hres := Lib.hid h
 have HCl := Lib.hid (clone_any w A0 c0 l0 hr0 hm)
 have Hm := Lib.hid hm
 clear h hr0 hc0 hm
 have hmf : ∀ (fn : Fn) (first cap : Array Value) (w : World), (Instr.makeFunc fn first cap).run Tryz.prog w = .ok (.func fn first cap) w := fun _ _ _ _ => rfl
 go_enter Tryz.func64, Tryz.ntmps64
 go_wp2_with (go_at_call 38; with_reducible refine HCl.out.mono ?_; rintro e w1 ⟨A, c, rfl, hT⟩; have HT := Lib.hid hT; clear hT)
 have HW0 : Hid (Wst ((w1.alloc (.cells #[.slice A l0.length c, .int .i64 a1] 126)).alloc (.cells (fnsW A l0.length c a1 w1.heap.size) 1)) w.heap.size A l0.length c a1 w1.heap.size l0 ((w1.alloc (.cells #[.slice A l0.length c, .int .i64 a1] 126)).alloc (.cells (fnsW A l0.length c a1 w1.heap.size) 1))) :=
  Lib.hid ⟨rfl, (HT.out.1.alloc _).alloc _, by rw [heap_alloc_old _ _ (by simp)]; exact heap_alloc_new _ _, by have := heap_alloc_new (w1.alloc (.cells #[.slice A l0.length c, .int .i64 a1] 126)) (.cells (fnsW A l0.length c a1 w1.heap.size) 1); simpa using this, World.grownBy.refl _ _⟩
 have HB7 : Hid (Below w.heap.size w ((w1.alloc (.cells #[.slice A l0.length c, .int .i64 a1] 126)).alloc (.cells (fnsW A l0.length c a1 w1.heap.size) 1))) := Lib.hid ((HT.out.2.alloc (by have := HT.out.2.size; omega) _).alloc (by have := HT.out.2.size; simp; omega) _)
 obtain ⟨n, hn⟩ : ∃ n, n = l0.length := ⟨_, rfl⟩
 unfold fnsW at HW0 HB7
 obtain ⟨W7, hW7⟩ : ∃ W7, W7 = ((w1.alloc (.cells #[.slice A l0.length c, .int .i64 a1] 126)).alloc (.cells #[.func (.func 100) #[.agg #[.slice A l0.length c, .int .i64 a1]] #[],
 .func (.func 101) #[] #[.pointer (some ⟨w1.heap.size, 0, none⟩)], .func (.func 103) #[] #[.pointer (some ⟨w1.heap.size, 0, none⟩)],
 .func (.func 105) #[.agg #[.slice A l0.length c, .int .i64 a1]] #[], .func (.func 106) #[.agg #[.slice A l0.length c, .int .i64 a1]] #[],
 .func (.func 107) #[] #[.pointer (some ⟨w1.heap.size, 0, none⟩)], .func (.func 108) #[] #[.pointer (some ⟨w1.heap.size, 0, none⟩)]] 1)) := ⟨_, rfl⟩
 rw [← hW7] at HW0 HB7 ⊢
 have z0 := HW0.out.fn 0 (.func (.func 100) #[.agg #[.slice A l0.length c, .int .i64 a1]] #[]) rfl
 have Hlen : Hid (∀ R : List Int, R.length = l0.length → R.length ≤ 1048576) := Lib.hid (fun R h => by have := Hm.out; omega)
 obtain ⟨b, hb⟩ : ∃ b, b = w1.heap.size := ⟨_, rfl⟩
 rw [← hb] at HW0 z0 ⊢
 clear hW7 hn hb
 refine wp_loop_rounds 8 ?_
 rw [rounds_succ]
 go_wp2_with (go_at_call 100; with_reducible refine (marks_any _ _ _ _ a1 HW0.out.own (Hlen.out _ HW0.out.len)).mono ?_; rintro e u0 ⟨rfl, hT0⟩; have HW1 := Lib.hid (HW0.out.next (R' := (mkGo a1 false l0)) (mk_len _ _ _) hT0.1 hT0.2); have z1 := HW1.out.fn 1 (.func (.func 101) #[] #[.pointer (some ⟨b, 0, none⟩)]) rfl; clear hT0 z0)
 rw [rounds_succ]
 go_wp2_with (go_at_call 101; with_reducible refine (c65_any _ _ _ _ a1 _ HW1.out.own (Hlen.out _ HW1.out.len) HW1.out.box).mono ?_; rintro e u1 ⟨rfl, hT1⟩; have HW2 := Lib.hid (HW1.out.next (R' := (aftGo 2 6 a1 (mkGo a1 false l0))) (aft_len _ _ _ _) hT1.1 hT1.2); have z2 := HW2.out.fn 2 (.func (.func 103) #[] #[.pointer (some ⟨b, 0, none⟩)]) rfl; clear hT1 z1)
 rw [rounds_succ]
 go_wp2_with (go_at_call 103; with_reducible refine (c67_any _ _ _ _ a1 _ HW2.out.own (Hlen.out _ HW2.out.len) HW2.out.box).mono ?_; rintro e u2 ⟨rfl, hT2⟩; have HW3 := Lib.hid (HW2.out.next (R' := (turnW 1 [2] (aftGo 2 6 a1 (mkGo a1 false l0)))) (turn_len _ _ _) hT2.1 hT2.2); have z3 := HW3.out.fn 3 (.func (.func 105) #[.agg #[.slice A l0.length c, .int .i64 a1]] #[]) rfl; clear hT2 z2)
 rw [rounds_succ]
 go_wp2_with (go_at_call 105; with_reducible refine (between_any _ _ _ _ a1 HW3.out.own (Hlen.out _ HW3.out.len)).mono ?_; rintro e u3 ⟨rfl, hT3⟩; have HW4 := Lib.hid (HW3.out.next (R' := (btGo a1 false (turnW 1 [2] (aftGo 2 6 a1 (mkGo a1 false l0))))) (bt_len _ _ _) hT3.1 hT3.2); have z4 := HW4.out.fn 4 (.func (.func 106) #[.agg #[.slice A l0.length c, .int .i64 a1]] #[]) rfl; clear hT3 z3)
 rw [rounds_succ]
 go_wp2_with (go_at_call 106; with_reducible refine (beside_any _ _ _ _ a1 HW4.out.own (Hlen.out _ HW4.out.len)).mono ?_; rintro e u4 ⟨rfl, hT4⟩; have HW5 := Lib.hid (HW4.out.next (R' := (bsGo a1 false (btGo a1 false (turnW 1 [2] (aftGo 2 6 a1 (mkGo a1 false l0)))))) (bs_len _ _ _) hT4.1 hT4.2); have z5 := HW5.out.fn 5 (.func (.func 107) #[] #[.pointer (some ⟨b, 0, none⟩)]) rfl; clear hT4 z4)
 rw [rounds_succ]
 go_wp2_with (go_at_call 107; with_reducible refine (c71_any _ _ _ _ a1 _ HW5.out.own (Hlen.out _ HW5.out.len) HW5.out.box).mono ?_; rintro e u5 ⟨rfl, hT5⟩; have HW6 := Lib.hid (HW5.out.next (R' := (turnW 13 [4, 5, 7] (bsGo a1 false (btGo a1 false (turnW 1 [2] (aftGo 2 6 a1 (mkGo a1 false l0))))))) (turn_len _ _ _) hT5.1 hT5.2); have z6 := HW6.out.fn 6 (.func (.func 108) #[] #[.pointer (some ⟨b, 0, none⟩)]) rfl; clear hT5 z5)
 rw [rounds_succ]
 go_wp2_with (go_at_call 108; with_reducible refine (c72_any _ _ _ _ a1 _ HW6.out.own (Hlen.out _ HW6.out.len) HW6.out.box).mono ?_; rintro e u6 ⟨rfl, hT6⟩; have HW7 := Lib.hid (HW6.out.next (R' := (aftGo 0 0 a1 (turnW 13 [4, 5, 7] (bsGo a1 false (btGo a1 false (turnW 1 [2] (aftGo 2 6 a1 (mkGo a1 false l0)))))))) (aft_len _ _ _ _) hT6.1 hT6.2); have z7 := HW7.out.out; clear hT6 z6)
 rw [rounds_succ]
 go_wp2
 go_ret
 rw [← Hres.out]
 refine ⟨_, rfl, ?_, ?_⟩
 ·refine Kd.R_of_own ?_ (fun _ _ => trivial)
  have ho := HW7.out.own
  exact ho
 ·exact HB7.out.grown HW7.out.gr (by have := HB7.out.size; omega) (fun k hk => (HW7.out.own.lt k hk).1)
end Go.Proofs.YtdpifkhkemeclaaGreat
