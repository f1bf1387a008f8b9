import Derived.Test.YtfpibigfhhoiiaaDoorWMore
import Derived.Test.YtfpibigfhhoiiaaDoorProg
import Derived.WalkSpells
import Derived.WalkLawsBesides
import Derived.OneCell
import Derived.Lib.Hide
namespace Go.Proofs.YtfpibigfhhoiiaaDoor
open Go.RowKit Go.Proofs.YtfpibigfhhoiiaaDoorW.PrintWords

def way (level : Int) : Int := if (Go.bits .and .i64 level 1 == 1) = true then 1 else 0
theorem way_any (level : Int) (w : World) : Calls Tryd.prog 47 #[.int .i64 level] w fun e w' => e = .returned (.int .i64 (way level)) ∧ w = w' := by
  by_cases h : (Go.bits .and .i64 level 1 == 1) = true
  · have hw : Hid (way level = 1) := by unfold way; rw [if_pos h]; rfl
    go_enter Tryd.func47, Tryd.ntmps47
    go_wp2
    go_ret
    exact ⟨by rw [hw.out]; rfl, rfl⟩
  · have hw : Hid (way level = 0) := by unfold way; rw [if_neg h]; rfl
    have h' : (Go.bits .and .i64 level 1 == 1) = false := by simpa using h
    clear h
    go_enter Tryd.func47, Tryd.ntmps47
    go_wp2
    go_ret
    exact ⟨by rw [hw.out]; rfl, rfl⟩

/-- The letter of a class: its direction. -/
def letter (c : Int) : Int × Bool := if c = 3 ∨ c = 6 then (1, true) else if c = 0 ∨ c = 1 then (c, true) else (0, false)
theorem letter_any (c : Int) (w : World) : Calls Tryd.prog 48 #[.int .i64 c] w fun e w' => e = .returned (.tuple #[.int .i64 (letter c).1, .bool (letter c).2]) ∧ w = w' := by
  by_cases h3 : c = 3
  · subst h3; go_enter Tryd.func48, Tryd.ntmps48
    go_wp2; go_ret2; exact ⟨rfl, rfl⟩
  by_cases h6 : c = 6
  · subst h6; go_enter Tryd.func48, Tryd.ntmps48
    go_wp2; go_ret2; exact ⟨rfl, rfl⟩
  by_cases h0 : c = 0
  · subst h0; go_enter Tryd.func48, Tryd.ntmps48
    go_wp2; go_ret2; exact ⟨rfl, rfl⟩
  by_cases h1 : c = 1
  · subst h1; go_enter Tryd.func48, Tryd.ntmps48
    go_wp2; go_ret2; exact ⟨rfl, rfl⟩
  have b3 : (c == 3) = false := by simpa using h3
  have b6 : (c == 6) = false := by simpa using h6
  have b0 : (c == 0) = false := by simpa using h0
  have b1 : (c == 1) = false := by simpa using h1
  have hl : Hid (letter c = (0, false)) := by unfold letter; rw [if_neg (by omega), if_neg (by omega)]; rfl
  clear h3 h6 h0 h1
  go_enter Tryd.func48, Tryd.ntmps48
  go_wp2; go_ret2; exact ⟨by rw [hl.out]; rfl, rfl⟩

/-- A row of places from one to another one, filled. -/
def fillIn (xs : List Int) (i : Nat) (c : Int) : Nat → List Int
  | 0 => xs
  | d + 1 => fillIn (xs.set i c) (i + 1) c d
theorem fillIn_length (xs : List Int) (i : Nat) (c : Int) (d : Nat) : (fillIn xs i c d).length = xs.length := by
  induction d generalizing xs i with
  | zero => rfl
  | succ d ih => rw [fillIn, ih]; simp
/-- What a fill writes. -/
def asOf (level ahead behind : Int) : Int := if ahead = behind then behind else way level
def BlkI (w : World) (b : Nat) (x : Int) : Prop := w.heap[b]? = some (.cells #[.int .i64 x] 3 (0, 0))
def BlkR (w : World) (b : Nat) (xs : List Int) : Prop := w.heap[b]? = some (.cells (nums .i64 xs).toArray 3 (0, 0))
/-- Only two blocks are turned. -/
structure Two (bf br : Nat) (w w' : World) : Prop where
  os : w'.os = w.os
  tape : w'.tape = w.tape
  output : w'.output = w.output
  size : w'.heap.size = w.heap.size
  block : ∀ k, k ≠ bf → k ≠ br → w'.heap[k]? = w.heap[k]?
theorem Two.refl (bf br : Nat) (w : World) : Two bf br w w := ⟨rfl, rfl, rfl, rfl, fun _ _ _ => rfl⟩
theorem Two.set {bf br : Nat} {w w' : World} (h : Two bf br w w') (a : Addr) (u : Value) (ha : a.block = bf ∨ a.block = br) : Two bf br w (w'.setCell a u) :=
  ⟨h.os, h.tape, h.output, by rw [← h.size]; simp [World.setCell], fun k h1 h2 => by rw [Below.heap_setCell _ _ _ _ (by rcases ha with e | e <;> rw [e] <;> assumption)]; exact h.block k h1 h2⟩
theorem fillIn_snoc (xs : List Int) (i : Nat) (c : Int) (d : Nat) : fillIn xs i c (d + 1) = (fillIn xs i c d).set (i + d) c := by
  induction d generalizing xs i with
  | zero => rfl
  | succ d ih => rw [fillIn, ih, fillIn]; congr 1; omega
theorem rowSet {w : World} {b : Nat} {xs : List Int} (h : BlkR w b xs) (i : Nat) (c : Int) : BlkR (w.setCell ⟨b, i, none⟩ (.int .i64 c)) b (xs.set i c) := by
  unfold BlkR at *
  have hlt := lt_of_block h
  have h' : w.heap[b] = .cells (nums .i64 xs).toArray 3 (0, 0) := by simpa [Array.getElem?_eq_getElem hlt] using h
  show (w.heap.modify b _)[b]? = _
  rw [Array.getElem?_eq_getElem (by simpa using hlt), Array.getElem_modify_self, h']
  simp [nums, List.map_set]

theorem cellRow {w : World} {b : Nat} {xs : List Int} (h : BlkR w b xs) (i : Nat) (hi : i < xs.length) : w.cell? ⟨b, i, none⟩ = some (.int .i64 (xs.getD i 0)) := by
  unfold BlkR at h
  simp [World.cell?, h, nums, List.getElem?_eq_getElem hi]
theorem freeRow {w : World} {b : Nat} {xs : List Int} (h : BlkR w b xs) (i : Nat) : w.frozen? ⟨b, i, none⟩ = false := by
  unfold BlkR at h
  simp [World.frozen?, h]

theorem blkOther {w : World} {b : Nat} {o : Option Obj} (h : w.heap[b]? = o) (a : Addr) (u : Value) (hne : b ≠ a.block) : (w.setCell a u).heap[b]? = o := by
  rw [Below.heap_setCell _ _ _ _ hne]; exact h
theorem stepFill {w wr : World} {bf br i j d : Nat} {xs : List Int} {c : Int} (n7 : bf ≠ br) (hlt : j < d) (hf1 : BlkI wr bf (i + j : Nat)) (hr1 : BlkR wr br (fillIn xs i c j)) (ht : Two bf br w wr) :
    ∃ j_1, j_1 ≤ d ∧ d + 1 - (j + 1) = d + 1 - j_1 ∧
      BlkI ((wr.setCell ⟨br, i + j, none⟩ (.int .i64 c)).setCell ⟨bf, 0, none⟩ (.int .i64 ((i : Int) + (j : Int) + 1))) bf (i + j_1 : Nat) ∧
      BlkR ((wr.setCell ⟨br, i + j, none⟩ (.int .i64 c)).setCell ⟨bf, 0, none⟩ (.int .i64 ((i : Int) + (j : Int) + 1))) br (fillIn xs i c j_1) ∧
      Two bf br w ((wr.setCell ⟨br, i + j, none⟩ (.int .i64 c)).setCell ⟨bf, 0, none⟩ (.int .i64 ((i : Int) + (j : Int) + 1))) := by
  refine ⟨j + 1, hlt, rfl, ?_, ?_, (ht.set _ _ (.inr rfl)).set _ _ (.inl rfl)⟩
  · have e : ((i + (j + 1) : Nat) : Int) = (i : Int) + (j : Int) + 1 := by omega
    rw [e]
    exact one_setCell (blkOther hf1 _ _ n7)
  · rw [fillIn_snoc]
    exact blkOther (rowSet hr1 (i + j) c) _ _ (Ne.symm n7)

set_option maxHeartbeats 1000000 in
theorem fill_any (w : World) (bl ba bf bo br cap : Nat) (level ahead hi behind : Int) (xs : List Int) (i d : Nat)
    (hl : BlkI w bl level) (ha : BlkI w ba ahead) (hf : BlkI w bf i) (ho : w.heap[bo]? = some (.cells #[.slice (some ⟨br, 0, none⟩) xs.length cap] 22 (0, 0))) (hr : BlkR w br xs)
    (n5 : bo ≠ bf) (n6 : bo ≠ br) (n7 : bf ≠ br) (hto : hi = i + d ∨ (hi < i ∧ d = 0)) (hid : i + d ≤ xs.length) (hm : xs.length ≤ 140737488355328) :
    Calls Tryd.prog 46 #[.int .i64 hi, .int .i64 behind, .pointer (some ⟨bl, 0, none⟩), .pointer (some ⟨ba, 0, none⟩), .pointer (some ⟨bf, 0, none⟩), .pointer (some ⟨bo, 0, none⟩)] w fun e w' =>
      e = .returned (.tuple #[]) ∧ BlkI w' bf (i + d : Nat) ∧ BlkR w' br (fillIn xs i (asOf level ahead behind) d) ∧ Two bf br w w' := by
  have cl := cell_of_one hl
  have ca := cell_of_one ha
  have Hto := Lib.hid hto
  clear hto
  by_cases he : ahead = behind
  · have hb : (ahead == behind) = true := by simpa using he
    have Hc : Hid (asOf level ahead behind = behind) := by unfold asOf; rw [if_pos he]; rfl
    have He := Lib.hid he
    clear he
    rw [Hc.out]
    go_enter Tryd.func46, Tryd.ntmps46
    go_wp2_with (go_at_call 47; refine (way_any _ _).mono ?_; rintro e w' ⟨rfl, rfl⟩)
    go_loopg [15] (d + 1) (fun g v15 wr => ∃ j : Nat, j ≤ d ∧ g = d + 1 - j ∧ BlkI wr bf (i + j : Nat) ∧ BlkR wr br (fillIn xs i (behind) j) ∧ Two bf br w wr)
    case atStart => exact ⟨0, Nat.zero_le _, rfl, hf, hr, Two.refl _ _ _⟩
    case round =>
      obtain ⟨j, hj, hg, hf1, hr1, ht⟩ := hrel
      have cf := cell_of_one hf1
      have ff := free_of_one hf1
      have co := cell_of_one ((ht.block bo n5 n6).trans ho)
      have Hg := Lib.hid hg
      clear hg
      by_cases hlt : j < d
      · have cr : wr.cell? ⟨br, i + j, none⟩ = some (.int .i64 ((fillIn xs i (behind) j).getD (i + j) 0)) := cellRow hr1 _ (by rw [fillIn_length]; omega)
        have fr := freeRow hr1 (i + j)
        have hb1 : ((i : Int) + (j : Int)) < (xs.length : Int) := by omega
        have hb2 : (i : Int) + (j : Int) < hi := by have := Hto.out; omega
        have hb3 : 0 ≤ (i : Int) + (j : Int) := by omega
        have Hr := Lib.hid (stepFill n7 hlt hf1 hr1 ht)
        go_wp2
        go_roundg (d + 1 - (j + 1))
        case measure => have := Hg.out; omega
        case rel => exact Hr.out
      · have hb2 : ¬ (i : Int) + (j : Int) < hi := by have := Hto.out; omega
        have hjd : j = d := by omega
        subst hjd
        go_wp2
        go_end0
        exact ⟨rfl, hf1, hr1, ht⟩
  · have hb : (ahead == behind) = false := by simpa using he
    have Hc : Hid (asOf level ahead behind = way level) := by unfold asOf; rw [if_neg he]; rfl
    clear he
    rw [Hc.out]
    go_enter Tryd.func46, Tryd.ntmps46
    go_wp2_with (go_at_call 47; refine (way_any _ _).mono ?_; rintro e w' ⟨rfl, rfl⟩)
    go_loopg [15] (d + 1) (fun g v15 wr => ∃ j : Nat, j ≤ d ∧ g = d + 1 - j ∧ BlkI wr bf (i + j : Nat) ∧ BlkR wr br (fillIn xs i (way level) j) ∧ Two bf br w wr)
    case atStart => exact ⟨0, Nat.zero_le _, rfl, hf, hr, Two.refl _ _ _⟩
    case round =>
      obtain ⟨j, hj, hg, hf1, hr1, ht⟩ := hrel
      have cf := cell_of_one hf1
      have ff := free_of_one hf1
      have co := cell_of_one ((ht.block bo n5 n6).trans ho)
      have Hg := Lib.hid hg
      clear hg
      by_cases hlt : j < d
      · have cr : wr.cell? ⟨br, i + j, none⟩ = some (.int .i64 ((fillIn xs i (way level) j).getD (i + j) 0)) := cellRow hr1 _ (by rw [fillIn_length]; omega)
        have fr := freeRow hr1 (i + j)
        have hb1 : ((i : Int) + (j : Int)) < (xs.length : Int) := by omega
        have hb2 : (i : Int) + (j : Int) < hi := by have := Hto.out; omega
        have hb3 : 0 ≤ (i : Int) + (j : Int) := by omega
        have Hr := Lib.hid (stepFill n7 hlt hf1 hr1 ht)
        go_wp2
        go_roundg (d + 1 - (j + 1))
        case measure => have := Hg.out; omega
        case rel => exact Hr.out
      · have hb2 : ¬ (i : Int) + (j : Int) < hi := by have := Hto.out; omega
        have hjd : j = d := by omega
        subst hjd
        go_wp2
        go_end0
        exact ⟨rfl, hf1, hr1, ht⟩

/-- What is settled behind k places: the last direction, the first place behind it, the row. -/
def stt (l : List Int) (level sos : Int) : Nat → Int × Nat × List Int
  | 0 => (sos, 0, l)
  | k + 1 =>
    if (letter (l.getD k 0)).2 = true then
      ((letter (l.getD k 0)).1, k + 1, fillIn (stt l level sos k).2.2 (stt l level sos k).2.1 (asOf level (stt l level sos k).1 (letter (l.getD k 0)).1) (k - (stt l level sos k).2.1))
    else stt l level sos k
theorem stt_length (l : List Int) (level sos : Int) (k : Nat) : (stt l level sos k).2.2.length = l.length := by
  induction k with
  | zero => rfl
  | succ k ih => unfold stt; split <;> simp [fillIn_length, ih]
theorem stt_from (l : List Int) (level sos : Int) (k : Nat) : (stt l level sos k).2.1 ≤ k := by
  induction k with
  | zero => exact Nat.le_refl _
  | succ k ih =>
    unfold stt
    split
    · exact Nat.le_refl _
    · omega
def settle (l : List Int) (level sos eos : Int) : List Int :=
  fillIn (stt l level sos l.length).2.2 (stt l level sos l.length).2.1 (asOf level (stt l level sos l.length).1 eos) (l.length - (stt l level sos l.length).2.1)

theorem info3' : (Tryd.prog.info? 3).map (fun i => (i.zero, i.size, i.bytes)) = some (some (.int .i64 0), 1, 8) := by kernel_rfl
theorem size3' : (Tryd.prog.info? 3).map (·.size) = some 1 := by kernel_rfl

/-- A whole row copied over a row as long. -/
theorem copy_all (W : World) (g : Nat) (A0 : Option Addr) (c0 : Nat) (l0 : List Int) (cur : Array Value) (hg : W.heap[g]? = some (.cells cur 3 (0, 0))) (hs : cur.size = l0.length)
    (hr : ∀ j, j < l0.length → ∃ ad, A0 = some ad ∧ W.cell? (ad.add j) = some (.int .i64 (l0.getD j 0))) :
    ∃ W', (Builtin.copy_ #[22, 22] 3 #[.slice (some ⟨g, 0, none⟩) l0.length l0.length, .slice A0 l0.length c0]).run Tryd.prog W = .ok (.int .i64 l0.length) W' ∧ BlkR W' g l0 ∧ Two g g W W' := by
  by_cases h0 : l0.length = 0
  · refine ⟨W, ?_, ?_, Two.refl _ _ _⟩
    · have h := run_copy_none (P := Tryd.prog) W 22 22 3 3 (some ⟨g, 0, none⟩) A0 l0.length l0.length l0.length c0 Tryd.underlying22 size3' (by simp [h0])
      rw [h, h0]; rfl
    · have : l0 = [] := List.eq_nil_of_length_eq_zero h0
      subst this
      have : cur = #[] := Array.eq_empty_of_size_eq_zero (by simpa using hs)
      subst this
      exact hg
  · obtain ⟨ad, rfl, _⟩ := hr 0 (by omega)
    have h := run_copy_row (P := Tryd.prog) W 22 22 3 3 g 0 l0.length l0.length ad l0.length c0 cur 3 (nums .i64 l0) Tryd.underlying22 size3' hg (by simp [nums])
      (by intro j v hj
          simp only [nums, List.getElem?_map] at hj
          rcases Nat.lt_or_ge j l0.length with hlt | hge
          · obtain ⟨ad', e, hc⟩ := hr j hlt
            cases e
            rw [List.getElem?_eq_getElem hlt] at hj
            simp at hj
            rw [hc, ← hj]
            simp [hlt]
          · rw [List.getElem?_eq_none (by omega)] at hj; simp at hj)
      (by simp [nums]; omega) (by intro v hv; simp only [nums, List.mem_map] at hv; obtain ⟨x, _, rfl⟩ := hv; rfl)
    refine ⟨W.setRow g (cur.toList.take 0 ++ nums .i64 l0 ++ cur.toList.drop (0 + (nums .i64 l0).length)).toArray, by rw [h]; simp [nums, goInt], ?_, ⟨rfl, rfl, rfl, by simp [World.setRow], fun k hk _ => setRow_other W g k _ hk⟩⟩
    unfold BlkR
    rw [setRow_heap W g _ _ 3 _ hg]
    simp [nums]
    omega

structure StS (w : World) (l0 : List Int) (a1 a2 : Int) (k : Nat) (wr : World) : Prop where
  lv : BlkI wr w.heap.size a1
  row : BlkR wr (w.heap.size + 1) (stt l0 a1 a2 k).2.2
  out : wr.heap[w.heap.size + 2]? = some (.cells #[.slice (some ⟨w.heap.size + 1, 0, none⟩) l0.length l0.length] 22 (0, 0))
  ahead : BlkI wr (w.heap.size + 3) (stt l0 a1 a2 k).1
  frm : BlkI wr (w.heap.size + 4) (stt l0 a1 a2 k).2.1
  bel : Below w.heap.size w wr
end Go.Proofs.YtfpibigfhhoiiaaDoor
