/- class.Read: the split, walked (as in the first seat). -/
import Derived.Test.YtdpifkhkemeclaaDoorClsP
namespace Go.Proofs.YtdpifkhkemeclaaDoor
open Go.RowKit Go.Proofs.YtdpifkhkemeclaaDoorW.PrintWords
set_option linter.unusedVariables false
set_option linter.unusedSimpArgs false

/-- A text cut at its blanks. -/
def splitSp : List UInt8 → List (List UInt8)
  | [] => [[]]
  | c :: r => if c = 32 then [] :: splitSp r else match splitSp r with
    | [] => [[c]]
    | p :: ps => (c :: p) :: ps
theorem splitSp_ne (s : List UInt8) : splitSp s ≠ [] := by
  cases s with
  | nil => simp [splitSp]
  | cons c r => unfold splitSp; split; · simp
                split <;> simp
theorem splitSp_none (s : List UInt8) (h : 32 ∉ s) : splitSp s = [s] := by
  induction s with
  | nil => rfl
  | cons c r ih =>
    unfold splitSp
    rw [if_neg (by intro e; exact h (by simp [e])), ih (fun hm => h (List.mem_cons_of_mem _ hm))]
theorem splitSp_app (p q : List UInt8) (h : 32 ∉ p) : splitSp (p ++ 32 :: q) = p :: splitSp q := by
  induction p with
  | nil => simp [splitSp]
  | cons c r ih =>
    rw [List.cons_append]
    conv => lhs; unfold splitSp
    rw [if_neg (by intro e; exact h (by simp [e])), ih (fun hm => h (List.mem_cons_of_mem _ hm))]
theorem cut_at (s : List UInt8) : 32 ∉ s ∨ ∃ p q, s = p ++ 32 :: q ∧ 32 ∉ p := by
  induction s with
  | nil => exact .inl (by simp)
  | cons c r ih =>
    by_cases hc : c = 32
    · exact .inr ⟨[], r, by simp [hc], by simp⟩
    · rcases ih with h | ⟨p, q, e, hp⟩
      · exact .inl (by simp [h]; exact fun e => hc e.symm)
      · exact .inr ⟨c :: p, q, by simp [e], by simp [hp]; exact fun e => hc e.symm⟩
theorem index_sp_none (s : List UInt8) (h : 32 ∉ s) : Lib.index s [32] = -1 := by
  refine Lib.index_none fun j hj => ?_
  unfold Lib.occAt
  rw [Bool.eq_false_iff]
  intro hp
  have := List.isPrefixOf_iff_prefix.1 hp
  obtain ⟨t, ht⟩ := this
  have : 32 ∈ s.drop j := by rw [← ht]; simp
  exact h (List.mem_of_mem_drop this)
theorem index_sp (p q : List UInt8) (h : 32 ∉ p) : Lib.index (p ++ 32 :: q) [32] = (p.length : Nat) := by
  refine Lib.index_first (by simp) ?_ fun j hj => ?_
  · unfold Lib.occAt
    simp [List.drop_append]
  · unfold Lib.occAt
    rw [Bool.eq_false_iff]
    intro hp
    obtain ⟨t, ht⟩ := List.isPrefixOf_iff_prefix.1 hp
    rw [List.drop_append_of_le_length (by omega)] at ht
    have hlt : j < p.length := hj
    have ht' : 32 = p[j] := by
      rw [List.drop_eq_getElem_cons hlt, List.singleton_append, List.cons_append] at ht
      exact (List.cons.inj ht).1
    exact h (by rw [ht']; exact List.getElem_mem _)
theorem splitK_sp : ∀ (n : Nat) (s : List UInt8), s.length ≤ n → Lib.splitK [32] 0 (s.count 32) s = splitSp s
  | 0, s, hn => by
    have : s = [] := List.eq_nil_of_length_eq_zero (by omega)
    subst this; rfl
  | n + 1, s, hn => by
    rcases cut_at s with h | ⟨p, q, e, hp⟩
    · rw [splitSp_none s h, List.count_eq_zero_of_not_mem h]; rfl
    · subst e
      rw [splitSp_app p q hp]
      have hc : (p ++ 32 :: q).count 32 = q.count 32 + 1 := by
        rw [List.count_append, List.count_eq_zero_of_not_mem hp]; simp
      rw [hc, Lib.splitK, index_sp p q hp]
      rw [if_neg (by simp)]
      have hlen : (p ++ 32 :: q).length = p.length + (q.length + 1) := by simp
      congr 1
      · simp
      · rw [← splitK_sp n q (by omega)]
        congr 1
        simp [List.drop_append]

theorem countB_sp (s : ByteArray) : Lib.countB s ⟨#[32]⟩ = s.data.toList.count 32 := Lib.count_one 32 s.data.toList
/-- The pieces of a text, as Split makes them. -/
def pieces (s : ByteArray) : List ByteArray := Lib.splitB ⟨#[32]⟩ 0 (Lib.countB s ⟨#[32]⟩) s
theorem pieces_data (s : ByteArray) : (pieces s).map (·.data.toList) = splitSp s.data.toList := by
  unfold pieces
  rw [Lib.splitB_data, countB_sp]
  exact splitK_sp _ _ (Nat.le_refl _)

theorem genSplit_any (s : ByteArray) (w : World) (hs : s.size ≤ 1048576) :
    Calls Tryd.prog 68 #[.string s, .string ⟨#[32]⟩, .int .i64 0, .int .i64 (-1)] w fun e w' =>
      e = .returned (.slice (some ⟨w.heap.size, 0, none⟩) (pieces s).length (pieces s).length) ∧ w' = w.alloc (.cells ((pieces s).map Value.string).toArray 9) := by
  have hle := Lib.countB_le ⟨#[32]⟩ (by decide) s.size s (Nat.le_refl _)
  have hlen := Lib.splitB_all ⟨#[32]⟩ (by decide) 0 _ s rfl
  have c := Any.strings_genSplit_core Tryd.lays221 (by kernel_rfl) s ⟨#[32]⟩ 0 (-1) (Lib.countB s ⟨#[32]⟩ + 1) w (by omega) (by decide) (Nat.zero_le _)
    (fun x c _ => (Tryd.strings_Index_one x 32 _).mono fun e w' ⟨he, hw⟩ => ⟨by rw [he]; exact congrArg (fun z => Ending.returned (Value.int .i64 z)) (Lib.index_one _ _).symm, hw⟩)
    ((Tryd.strings_Count_one s 32 w).mono fun e w' ⟨he, hw⟩ => ⟨by
      rw [he]
      show _ = Ending.returned (Value.int .i64 ((Lib.count s.data.toList [32] : Nat) : Int))
      rw [Lib.count_one]
      rfl, hw⟩) (by decide) (by decide) (by rw [if_pos (by decide)]; omega)
  rw [Nat.add_sub_cancel] at c
  have hp : (pieces s).length = Lib.countB s ⟨#[32]⟩ + 1 := hlen
  have e2 : Lib.cellsOf (Lib.splitB ⟨#[32]⟩ 0 (Lib.countB s ⟨#[32]⟩) s) (Lib.countB s ⟨#[32]⟩ + 1) = ((pieces s).map Value.string).toArray := by
    rw [← hlen]; exact Lib.cellsOf_full _
  rw [e2] at c
  rw [hp]
  refine c.mono fun e w' ⟨he, hw⟩ => ⟨?_, hw⟩
  rw [he, hlen]

theorem split_any (s : ByteArray) (w : World) (hs : s.size ≤ 1048576) :
    Calls Tryd.prog 51 #[.string s, .string ⟨#[32]⟩] w fun e w' =>
      e = .returned (.slice (some ⟨w.heap.size, 0, none⟩) (pieces s).length (pieces s).length) ∧ w' = w.alloc (.cells ((pieces s).map Value.string).toArray 9) := by
  have c := genSplit_any s w hs
  go_enter Tryd.func51, Tryd.ntmps51
  go_wp2_with (go_at_call 68; refine c.mono ?_; rintro e w' ⟨rfl, hw⟩; rw [hw])
  go_ret
  exact ⟨rfl, rfl⟩
end Go.Proofs.YtdpifkhkemeclaaDoor
