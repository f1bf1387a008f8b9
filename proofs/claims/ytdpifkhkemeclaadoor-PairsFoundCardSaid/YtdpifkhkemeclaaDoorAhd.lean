/- pairs: a class as a letter, and the direction ahead of a place, walked. -/
import Derived.Test.YtdpifkhkemeclaaDoorBwd
import Derived.Test.YtdpifkhkemeclaaDoorBase
import Derived.Test.YtdpifkhkemeclaaDoorWMore
namespace Go.Proofs.YtdpifkhkemeclaaDoor
open Go.RowKit Go.Shelf
set_option linter.unusedVariables false
set_option linter.unusedSimpArgs false
def letterP (c : Int) : Int × Bool := if c = 0 then (0, true) else if c = 1 ∨ c = 3 ∨ c = 6 then (1, true) else (0, false)
theorem letter_any (c : Int) (w : World) : Calls Tryd.prog 47 #[.int .i64 c] w fun e w' => e = .returned (.tuple #[.int .i64 (letterP c).1, .bool (letterP c).2]) ∧ w' = w := by
  by_cases h0 : c = 0
  · subst h0
    go_enter Tryd.func47, Tryd.ntmps47
    go_wp2
    go_ret2
    exact ⟨rfl, rfl⟩
  by_cases h1 : c = 1
  · subst h1
    go_enter Tryd.func47, Tryd.ntmps47
    go_wp2
    go_ret2
    exact ⟨rfl, rfl⟩
  by_cases h3 : c = 3
  · subst h3
    go_enter Tryd.func47, Tryd.ntmps47
    go_wp2
    go_ret2
    exact ⟨rfl, rfl⟩
  by_cases h6 : c = 6
  · subst h6
    go_enter Tryd.func47, Tryd.ntmps47
    go_wp2
    go_ret2
    exact ⟨rfl, rfl⟩
  have Hs : Hid (letterP c = (0, false)) := by unfold letterP; rw [if_neg h0, if_neg (by omega)]; rfl
  have b0 : (c == 0) = false := by simpa using h0
  have b1 : (c == 1) = false := by simpa using h1
  have b3 : (c == 3) = false := by simpa using h3
  have b6 : (c == 6) = false := by simpa using h6
  go_enter Tryd.func47, Tryd.ntmps47
  go_wp2
  go_ret2
  exact ⟨by rw [Hs.out]; rfl, rfl⟩

/-- The first letter of classes. -/
def firstL : List Int → Option Int
  | [] => none
  | c :: r => if (letterP c).2 = true then some (letterP c).1 else firstL r
def aheadP (l : List Int) (sos : Int) : Int := (firstL l.reverse).getD sos
theorem bwTo_snd (zs : List Int) : ∀ k, k ≤ zs.length → (bwTo zs k).map (·.2) = zs.reverse.take k := by
  intro k
  induction k with
  | zero => intro _; rfl
  | succ k ih =>
    intro hk
    rw [bwTo_succ, List.map_append, ih (by omega), List.take_succ_eq_append_getElem (by simp; omega)]
    simp only [List.map_cons, List.map_nil, bwF]
    rw [List.getElem_reverse, List.getElem?_eq_getElem (by omega)]
    rfl
theorem firstL_none {l : List Int} (h : ∀ c ∈ l, (letterP c).2 = false) : firstL l = none := by
  induction l with
  | nil => rfl
  | cons c r ih => unfold firstL; rw [h c (by simp)]; exact ih (fun d hd => h d (by simp [hd]))
theorem firstL_some {a b : List Int} {c : Int} (h : ∀ c ∈ a, (letterP c).2 = false) (hc : (letterP c).2 = true) : firstL (a ++ c :: b) = some (letterP c).1 := by
  induction a with
  | nil => simp [firstL, hc]
  | cons d r ih => rw [List.cons_append]; unfold firstL; rw [h d (by simp)]; exact ih (fun e he => h e (by simp [he]))

theorem three_allocs (w : World) (o1 o2 o3 : Obj) : (((w.alloc o1).alloc o2).alloc o3).heap[w.heap.size]? = some o1 ∧ (((w.alloc o1).alloc o2).alloc o3).heap[w.heap.size + 1]? = some o2 ∧ (((w.alloc o1).alloc o2).alloc o3).heap[w.heap.size + 1 + 1]? = some o3 := by
  have e1 : (w.alloc o1).heap.size = w.heap.size + 1 := by simp
  have e2 : ((w.alloc o1).alloc o2).heap.size = w.heap.size + 1 + 1 := by simp
  refine ⟨?_, ?_, ?_⟩
  · exact (heap_alloc_old _ o3 _ (by omega)).trans ((heap_alloc_old _ o2 _ (by omega)).trans (heap_alloc_new w o1))
  · refine (heap_alloc_old _ o3 _ (by omega)).trans ?_
    have := heap_alloc_new (w.alloc o1) o2
    rwa [e1] at this
  · have := heap_alloc_new ((w.alloc o1).alloc o2) o3
    rwa [e2] at this
attribute [local go_sem] Oper.semAt_some
set_option maxRecDepth 100000 in
set_option maxHeartbeats 4000000 in
theorem ahead_in (n : Nat) (hn : 3 ≤ n) (A : Option Addr) (m c at_ : Nat) (hat : at_ ≤ m) (hmc : m ≤ c) (way sos : Int) (zs : List Int) (hzs : zs.length = at_) (hreach : zs.length * 8 ≤ 140737488351232) (w : World) (hI : IntsB w.heap.size w (.slice A at_ c) zs) :
    CallsIn Fence.wide n Tryd.prog 30 #[.agg #[.slice A m c, .int .i64 way, .int .i64 sos], .int .i64 (at_ : Int)] w fun e W' => e = .returned (.int .i64 (aheadP zs sos)) ∧ Below w.heap.size w W' := by
  have h1 : 1 ≤ n := by omega
  have hro : (Fence.wide).round = none := rfl
  refine callsIn_of_wp_marks Tryd.func30 rfl trivial ?_ hro
  simp only [Tryd.ntmps30, List.size_toArray, List.length_cons, List.length_nil, Nat.reduceAdd, Nat.reduceSub, Array.replicate_succ, Array.replicate_zero, List.push_toArray, List.append_toArray, List.nil_append, List.cons_append]
  gi_wp2_with (refine ⟨trivial, ?_⟩; gi_at_call 22; refine (bw_in Fence.wide (n - 1) trivial hro _ _ _ _).mono ?_; rintro e w' ⟨rfl, rfl⟩)
  obtain ⟨cS, cR, cN0⟩ := three_allocs w (.cells #[.slice A m c, .int .i64 way, .int .i64 sos] 47) (.cells #[.int .i64 0] 3) (.cells #[.slice A at_ c] 22)
  have cN : (((w.alloc (.cells #[.slice A m c, .int .i64 way, .int .i64 sos] 47)).alloc (.cells #[.int .i64 0] 3)).alloc (.cells #[.slice A at_ c] 22)).cell? ⟨w.heap.size + 1 + 1, 0, none⟩ = some (.slice A at_ c) := by
    rw [cell_of_row _ _ _ _ _ _ cN0]
    rfl
  have hB0 : Below w.heap.size w (((w.alloc (.cells #[.slice A m c, .int .i64 way, .int .i64 sos] 47)).alloc (.cells #[.int .i64 0] 3)).alloc (.cells #[.slice A at_ c] 22)) := (((Below.refl _ w).alloc (Nat.le_refl _) _).alloc (by simp) _).alloc (by simp; omega) _
  obtain ⟨W0, hW0⟩ : ∃ W0, W0 = (((w.alloc (.cells #[.slice A m c, .int .i64 way, .int .i64 sos] 47)).alloc (.cells #[.int .i64 0] 3)).alloc (.cells #[.slice A at_ c] 22)) := ⟨_, rfl⟩
  have hsz : W0.heap.size = w.heap.size + 3 := by rw [hW0]; simp
  rw [← hW0] at cR cS cN hB0 ⊢
  have hI0 : IntsB (w.heap.size + 3) W0 (.slice A at_ c) zs := by
    rcases hI.below hB0 with h | ⟨b, off, cap, e, hb, hcs⟩
    · exact .inl h
    · exact .inr ⟨b, off, cap, e, by omega, hcs⟩
  clear hW0
  refine wpIn_rangeFunc_ownG hro h1 (gf := 38) (lb := #[.pointer (some ⟨w.heap.size + 1 + 1, 0, none⟩)]) rfl trivial (enters_of Tryd.func38 (by kernel_rfl) rfl)
    (bw_stops Fence.wide (n - 1) trivial hro (by omega) (w.heap.size + 1 + 1) (w.heap.size + 3) _ zs hreach W0 (by omega) (by omega) cN hI0) belowK_t (belowK_b (by omega)) (Below.refl _ _) (fun _ => rfl)
    (fun pre W => ((∀ p ∈ pre, (letterP p.2).2 = false) ∧ W.cell? ⟨w.heap.size + 1, 0, none⟩ = some (.int .i64 0) ∧ W.frozen? ⟨w.heap.size + 1, 0, none⟩ = false ∧ W.cell? ⟨w.heap.size, 2, none⟩ = some (.int .i64 sos)) ∧ Below w.heap.size w W)
    (fun cd pre W => (cd = .ret ∧ ∃ ini last, pre = ini ++ [last] ∧ (∀ p ∈ ini, (letterP p.2).2 = false) ∧ (letterP last.2).2 = true ∧ W.cell? ⟨w.heap.size + 1, 0, none⟩ = some (.int .i64 (letterP last.2).1)) ∧ Below w.heap.size w W)
    (OwnFrom.and (Own.from (fun s A B row hs hg hr => ⟨hs.1, cell_kept hs.2.1 hg hr, (frozen_kept hs.2.1 hg hr).trans hs.2.2.1, cell_kept hs.2.2.2 hg hr⟩) _) (ownFrom_below (Nat.le_refl _) (by omega)))
    (fun cd => OwnFrom.and (Own.from (fun s A B row hs hg hr => by obtain ⟨hc, ini, last, e1, e2, e3, e4⟩ := hs; exact ⟨hc, ini, last, e1, e2, e3, cell_kept e4 hg hr⟩) _) (ownFrom_below (Nat.le_refl _) (by omega)))
    ⟨⟨by simp, by rw [cell_of_row _ _ _ _ _ _ cR]; rfl, frozen_of_row _ _ _ _ _ cR, by rw [cell_of_row _ _ _ _ _ _ cS]; rfl⟩, hB0⟩
    (fun x => { tmps := #[.agg #[.slice A m c, .int .i64 way, .int .i64 sos], .int .i64 (at_ : Int), .pointer (some ⟨w.heap.size, 0, none⟩), undef, .pointer (some ⟨w.heap.size + 1, 0, none⟩), undef, .int .i64 x.2, undef, undef, .pointer (some ⟨w.heap.size, 0, none⟩), .slice A m c, .int .i64 (at_ : Int), .slice A at_ c, .func (.func 38) #[] #[.pointer (some ⟨w.heap.size + 1 + 1, 0, none⟩)], .int .i64 (x.1 : Int), .int .i64 x.2, undef, undef, undef, undef, undef, undef, undef, undef, undef], defers := [] }) ?assign ?body ?done ?stop
  case assign =>
    intro l x W K hK
    gi_wp2
    exact hK
  case body =>
    rintro l pre x W ⟨⟨hp, hcr, hfr, hcs⟩, hB⟩ _
    have hlet := letter_any x.2
    cases hb : (letterP x.2).2 with
    | true =>
      rw [hb] at hlet
      obtain ⟨v, hv⟩ : ∃ v, v = (letterP x.2).1 := ⟨_, rfl⟩
      rw [← hv] at hlet
      have HL := Lib.hid hlet
      have Hb := Lib.hid hb
      have Hv := Lib.hid hv
      clear hlet hb hv
      gi_wp2_with (refine ⟨trivial, fun _ => by omega, ?_⟩; gi_at_call 47; refine (CallsIn.inRound l (callsIn_wide.2 (HL.out _))).mono ?_; rintro e w' ⟨rfl, hw⟩; obtain rfl := hw.symm; clear hw)
      exact ⟨(KeepsOthers.setCell _ _ _).from _, ⟨rfl, pre, x, rfl, hp, Hb.out, by rw [← Hv.out]; exact World.cell?_setCell_same' _ _ _ (by rw [hcr]; rfl)⟩, hB.setCell (p := ⟨w.heap.size + 1, 0, none⟩) (by simp) _⟩
    | false =>
      rw [hb] at hlet
      have HL := Lib.hid hlet
      have Hb := Lib.hid hb
      clear hlet hb
      gi_wp2_with (refine ⟨trivial, fun _ => by omega, ?_⟩; gi_at_call 47; refine (CallsIn.inRound l (callsIn_wide.2 (HL.out _))).mono ?_; rintro e w' ⟨rfl, hw⟩; obtain rfl := hw.symm; clear hw)
      exact ⟨KeepsFrom.refl _ _, Below.refl _ _, ⟨fun p hp' => (List.mem_append.1 hp').elim (hp p) (fun e => by simp at e; subst e; exact Hb.out), hcr, hfr, hcs⟩, hB⟩
  case done =>
    rintro D ys W hD rfl ⟨⟨hne, hcr, hfr, hcs⟩, hB⟩ hK
    gi_wp2
    have hK' := (KeepsOthers.setCell W ⟨w.heap.size + 1, 0, none⟩ (.int .i64 sos)).same D _ hK rfl
    refine ⟨by simp, .inl ⟨_, _, rfl, run_takeDeferred hK', ?_⟩⟩
    have hc5 := cell_kept (World.cell?_setCell_same' W ⟨w.heap.size + 1, 0, none⟩ (.int .i64 sos) (by rw [hcr]; rfl)) (grownBy_putObj' _ D (.deferred none)) (fun r e => by cases e; exact ⟨_, hK', rfl⟩)
    have hres : aheadP zs sos = sos := by
      unfold aheadP
      rw [firstL_none]
      · rfl
      · intro d hd
        have h2 := bwTo_snd zs zs.length (Nat.le_refl _)
        rw [List.take_of_length_le (by simp)] at h2
        rw [← h2] at hd
        obtain ⟨p, hp1, rfl⟩ := List.mem_map.1 hd
        exact hne p hp1
    refine ⟨.int .i64 sos, ?_, by rw [hres], (hB.setCell (p := ⟨w.heap.size + 1, 0, none⟩) (by simp) _).trans (belowK_b (w := w) (Nat.le_refl _) _ D _ _ (by omega) hK' rfl rfl)⟩
    simp [results, Tryd.f30, go_sem, hc5]
  case stop =>
    rintro D cd pre W hD ⟨k, hk, rfl⟩ ⟨⟨rfl, ini, last, e1, e2, e3, hcr⟩, hB⟩ hK
    gi_wp2
    refine ⟨by simp, .inl ⟨_, _, rfl, run_takeDeferred hK, ?_⟩⟩
    have hc5 := cell_kept hcr (grownBy_putObj' _ D (.deferred none)) (fun r e => by cases e; exact ⟨_, hK, rfl⟩)
    have hres : aheadP zs sos = (letterP last.2).1 := by
      have h2 := bwTo_snd zs k hk
      rw [e1, List.map_append] at h2
      have h3 : zs.reverse = ini.map (·.2) ++ last.2 :: zs.reverse.drop k := by
        conv => lhs; rw [← List.take_append_drop k zs.reverse, ← h2]
        simp
      unfold aheadP
      rw [h3, firstL_some (fun d hd => by obtain ⟨p, hp1, rfl⟩ := List.mem_map.1 hd; exact e2 p hp1) e3]
      rfl
    refine ⟨.int .i64 (letterP last.2).1, ?_, by rw [hres], hB.trans (belowK_b (w := w) (Nat.le_refl _) W D _ _ (by omega) hK rfl rfl)⟩
    simp [results, Tryd.f30, go_sem, hc5]
end Go.Proofs.YtdpifkhkemeclaaDoor
