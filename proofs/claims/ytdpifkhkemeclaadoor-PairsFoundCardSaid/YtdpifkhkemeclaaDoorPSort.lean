/- The pairs put in order by what opens: slices.SortFunc at them. -/
import Derived.Test.YtdpifkhkemeclaaDoorPF0
import Derived.Test.YtdpifkhkemeclaaDoorShelf
namespace Go.Proofs.YtdpifkhkemeclaaDoor
open Go.RowKit Go.Shelf Go.Lib Go.Sort
set_option linter.unusedVariables false
set_option linter.unusedSimpArgs false

def encP (x : Nat × Nat) : List Value := [.int .i64 (x.1 : Int), .int .i64 (x.2 : Int)]
def cmpP (x y : Nat × Nat) : Int := Lib.compareInt (x.1 : Int) (y.1 : Int)
set_option maxHeartbeats 1000000 in
theorem closure24 (x y : Nat × Nat) (W : World) : Calls Tryd.prog 24 #[.agg #[.int .i64 (x.1 : Int), .int .i64 (x.2 : Int)], .agg #[.int .i64 (y.1 : Int), .int .i64 (y.2 : Int)]] W fun e w' => e = .returned (.int .i64 (cmpP x y)) ∧ ∃ q os', w' = grow (W.drewN q) os' := by
  have hcon := fun W' => AnyG.cmp_Compare_int Tryd.cmpInt (x.1 : Int) (y.1 : Int) W'
  change ∀ W', Calls Tryd.prog 25 _ _ _ at hcon
  unfold cmpP
  generalize Lib.compareInt (x.1 : Int) (y.1 : Int) = r at hcon ⊢
  have HC := Lib.hid hcon
  clear hcon
  go_enter Tryd.func24, Tryd.ntmps24
  go_wp2_with (go_at_call 25; refine (HC.out _).mono ?_; rintro e w' ⟨rfl, rfl⟩)
  go_ret
  exact ⟨rfl, 0, _, by rw [alloc_eq_grow, alloc_eq_grow, grow_grow]; rfl⟩
theorem cmpLays24 (blk off size : Nat) (w : World) : CmpLays Tryd.prog 24 #[] encP 2 cmpP blk off size w :=
  fun _ _ _ _ x y => closure24 x y _
theorem ltP (x y : Nat × Nat) : ltOf cmpP x y = decide (x.1 < y.1) := by
  unfold ltOf cmpP Lib.compareInt
  by_cases h1 : (x.1 : Int) < (y.1 : Int)
  · have h1' : x.1 < y.1 := by omega
    simp [h1']
  · have h1' : ¬ x.1 < y.1 := by omega
    by_cases h2 : (y.1 : Int) < (x.1 : Int)
    · have h2' : y.1 < x.1 := by omega
      simp [h1', h2']
    · have h2' : ¬ y.1 < x.1 := by omega
      simp [h1', h2']
theorem swoP : SWO (ltOf cmpP) where
  irrefl x := by rw [ltP]; simp
  trans x y z h1 h2 := by rw [ltP] at *; simp at *; omega
  ntrans x y z h1 h2 := by rw [ltP] at *; simp at *; omega
theorem pcells_get : ∀ (out : List (Nat × Nat)) (j : Nat), j < out.length * 2 → (pcells out)[j]? = some ((encP (out.getD (j / 2) (0, 0)))[j % 2]!)
  | [], j, h => by simp at h
  | p :: r, j, h => by
    rcases j with _ | _ | j
    · rfl
    · rfl
    · have ih := pcells_get r j (by simp at h; omega)
      have e1 : (j + 1 + 1) / 2 = j / 2 + 1 := by omega
      have e2 : (j + 1 + 1) % 2 = j % 2 := by omega
      rw [e1, e2]
      simpa [pcells] using ih
theorem sort_any (W : World) (B : Nat) (vO : Value) (out : List (Nat × Nat)) (hsz : out.length ≤ 1048576) (hr : W.ownsRow B 31 2 vO out.length (pcells out)) :
    Calls Tryd.prog 23 #[vO, .func (.func 24) #[] #[]] W fun e W' => e = .returned (.tuple #[]) ∧ ∃ out', out'.Perm out ∧ out'.Pairwise (fun a b => a.1 ≤ b.1) ∧ W'.ownsRow B 31 2 vO out'.length (pcells out') ∧ W.grownBy W' vO.ownBlock := by
  rcases hr.2 with ⟨rfl, h0⟩ | ⟨g, cap, cur, rfl, hB, hg, hle, hm, hs, htk⟩
  · have : out = [] := List.eq_nil_of_length_eq_zero h0
    subst this
    exact (AnyF.slices_SortFunc_none Tryd.sortPairs none 0 _ W).mono (by rintro e W' ⟨rfl, rfl⟩; exact ⟨rfl, [], List.Perm.refl _, List.Pairwise.nil, hr, World.grownBy.refl _ _⟩)
  · have hcell : ∀ j, j < out.length * 2 → cur[j]? = some ((encP (out.getD (j / 2) (0, 0)))[j % 2]!) := by
      intro j hj
      rw [← pcells_get out j hj, ← htk, List.getElem?_take, if_pos hj]
      simp
    have hd : ∀ i, (out.toArray)[i]! = out.getD i (0, 0) := by
      intro i
      rw [List.getD_eq_getElem?_getD]
      simp
      rfl
    have hH : HoldsK encP 2 W g 0 out.toArray := by
      intro j hj
      have hj' : j < out.length * 2 := by simpa using hj
      refine ⟨?_, frozen_of_row _ _ _ _ _ hg⟩
      rw [cell_of_row _ _ _ _ _ _ hg, Nat.zero_add, hcell j hj', get_flatK encP 2 _ j (by simpa using hj'), hd]
      rfl
    have hcon := AnyQ.slices_SortFunc Tryd.sortPairs 2 Tryd.isAgg31 Tryd.sizeOf31 encP (fun _ => rfl) (fun x v hv => by simp [encP] at hv; rcases hv with rfl | rfl <;> rfl) cmpP swoP 24 #[] g 0 cap out.toArray W (enters_of Tryd.func24 (by kernel_rfl) rfl) (cmpLays24 g 0 _ W) hH (lt_of_block hg) (by simp; omega)
    change Calls Tryd.prog 23 _ _ _ at hcon
    rw [List.size_toArray] at hcon
    refine hcon.mono ?_
    rintro e W' ⟨rfl, d', n, os, hp, hso, rfl⟩
    have hds : d'.size = out.length := by simpa using hp.1
    have hperm : d'.toList.Perm out := by
      have := hp.2.2
      rw [show out.toArray.extract 0 out.length = out.toArray by simp, show d'.extract 0 out.length = d' by rw [← hds]; simp] at this
      simpa using this
    refine ⟨rfl, d'.toList, hperm, ?_, ?_, ?_⟩
    · rw [List.pairwise_iff_getElem]
      intro i j hi hj hij
      have h1 := hso i j (Nat.zero_le _) hij (by simpa [hds] using hj)
      rw [ltP] at h1
      have hi' : i < d'.size := by simpa using hi
      have hj' : j < d'.size := by simpa using hj
      rw [getElem!_pos d' j hj', getElem!_pos d' i hi'] at h1
      simp at h1
      simpa using h1
    · have hblk : (sortWorldK encP 2 W g 0 n d' os).heap[g]? = some (.cells (putCells id 0 (flatK encP 2 d') cur) 31 (0, 0)) := by
        have h1 : (mapBlock (Sort.ahead W n) g (putCells id 0 (flatK encP 2 d'))).heap[g]? = some (.cells (putCells id 0 (flatK encP 2 d') cur) 31 (0, 0)) := by
          show (W.heap.modify g _)[g]? = _
          rw [Array.getElem?_modify, if_pos rfl, hg]
          rfl
        show ((mapBlock (Sort.ahead W n) g (putCells id 0 (flatK encP 2 d'))).heap ++ os)[g]? = _
        rw [Array.getElem?_append_left (lt_of_block h1)]
        exact h1
      refine ⟨pcells_len _, .inr ⟨g, cap, _, by simp [hds], hB, hblk, by simp [hds]; exact hle, hm, by simp [putCells, hs], ?_⟩⟩
      apply List.ext_getElem?
      intro j
      rw [List.getElem?_take]
      by_cases hj : j < d'.toList.length * 2
      · rw [if_pos hj, pcells_get _ j hj]
        have hj2 : j < d'.size * 2 := by simpa using hj
        have hjc : j < cur.size := by
          have : out.length * 2 ≤ cap * 2 := by omega
          omega
        rw [Array.getElem?_toList]
        unfold putCells
        rw [Array.getElem?_mapIdx, Array.getElem?_eq_getElem hjc, Option.map_some, if_pos ⟨Nat.zero_le _, by simp; omega⟩, Nat.sub_zero, get_flatK encP 2 d' j hj2]
        have hdd : d'[j / 2]! = d'.toList.getD (j / 2) (0, 0) := by
          have hlt : j / 2 < d'.size := by omega
          rw [getElem!_pos d' _ hlt, List.getD_eq_getElem?_getD, Array.getElem?_toList, Array.getElem?_eq_getElem hlt]
          rfl
        rw [hdd]
        rfl
      · rw [if_neg hj, List.getElem?_eq_none (by rw [pcells_len]; omega)]
    · refine ⟨rfl, rfl, rfl, ?_, fun k hk hne => ?_⟩
      · show W.heap.size ≤ ((mapBlock (Sort.ahead W n) g (putCells id 0 (flatK encP 2 d'))).heap ++ os).size
        rw [Array.size_append]
        simp [mapBlock, Sort.ahead]
      · have hkg : g ≠ k := by
          intro e
          subst e
          exact hne rfl
        show ((W.heap.modify g _) ++ os)[k]? = W.heap[k]?
        rw [Array.getElem?_append_left (by simpa using hk), Array.getElem?_modify, if_neg hkg]
end Go.Proofs.YtdpifkhkemeclaaDoor
