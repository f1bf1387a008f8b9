/- pairs stand one in another, or apart; each is two brackets that meet. -/
import Derived.Test.YtdpifkhkemeclaaDoorMn
namespace Go.Proofs.YtdpifkhkemeclaaDoor
open Go.RowKit Go.Proofs.YtdpifkhkemeclaaDoorW.PrintWords
set_option linter.unusedVariables false
set_option linter.unusedSimpArgs false

def IsPair (types codes : List Int) (p : Nat × Nat) : Prop := types.getD p.1 0 = 13 ∧ types.getD p.2 0 = 13 ∧ meetP (codes.getD p.1 0) (codes.getD p.2 0) = true
def Apart (a b : Nat × Nat) : Prop := a.1 < b.1 → a.2 < b.1 ∨ b.2 < a.2
structure NestI (types codes : List Int) (i : Nat) (op : List Nat) (out : List (Nat × Nat)) : Prop where
  inc : op.Pairwise (· < ·)
  opn : ∀ o ∈ op, o < i ∧ types.getD o 0 = 13
  prs : ∀ p ∈ out, p.2 < i ∧ IsPair types codes p
  opa : ∀ o ∈ op, ∀ p ∈ out, p.2 < o ∨ o < p.1
  apt : ∀ a ∈ out, ∀ b ∈ out, Apart a b
theorem findGo_nest (types codes : List Int) : ∀ (d i : Nat) (op : List Nat) (out : List (Nat × Nat)), NestI types codes i op out →
    (∀ p ∈ findGo types codes d i op out, IsPair types codes p) ∧ ∀ a ∈ findGo types codes d i op out, ∀ b ∈ findGo types codes d i op out, Apart a b
  | 0, i, op, out, h => ⟨fun p hp => (h.prs p hp).2, h.apt⟩
  | d + 1, i, op, out, h => by
    have hs : NestI types codes (i + 1) op out := ⟨h.inc, fun o ho => ⟨by have := (h.opn o ho).1; omega, (h.opn o ho).2⟩, fun p hp => ⟨by have := (h.prs p hp).1; omega, (h.prs p hp).2⟩, h.opa, h.apt⟩
    unfold findGo
    split
    · exact findGo_nest types codes d (i + 1) op out hs
    · rename_i h13
      have ht : types.getD i 0 = 13 := by
        by_cases e : types.getD i 0 = 13
        · exact e
        · exact absurd (.inl e) h13
      split
      · split
        · exact ⟨fun p hp => (h.prs p hp).2, h.apt⟩
        · refine findGo_nest types codes d (i + 1) (op ++ [i]) out ⟨?_, ?_, hs.prs, ?_, h.apt⟩
          · refine List.pairwise_append.2 ⟨h.inc, List.pairwise_singleton _ _, fun a ha b hb => ?_⟩
            rw [List.mem_singleton.1 hb]
            exact (h.opn a ha).1
          · intro o ho
            rcases List.mem_append.1 ho with ho | ho
            · exact hs.opn o ho
            · rw [List.mem_singleton.1 ho]; exact ⟨by omega, ht⟩
          · intro o ho p hp
            rcases List.mem_append.1 ho with ho | ho
            · exact h.opa o ho p hp
            · rw [List.mem_singleton.1 ho]; exact .inl (h.prs p hp).1
      · split
        · exact findGo_nest types codes d (i + 1) op out hs
        · rename_i x hx
          obtain ⟨hk, hx2, hmt⟩ := popF_mem hx
          have hn : x.2.toNat = op[x.1] := by rw [hx2]; rfl
          rw [hn] at hmt ⊢
          have hom := List.getElem_mem hk
          obtain ⟨ho1, ho2⟩ := h.opn _ hom
          have hlt : ∀ o ∈ op.take x.1, o < op[x.1] := by
            intro o ho
            obtain ⟨j, hj, rfl⟩ := List.mem_iff_getElem.1 ho
            have hj' : j < x.1 := by simp at hj; omega
            rw [List.getElem_take]
            exact List.pairwise_iff_getElem.1 h.inc j x.1 (by omega) hk hj'
          refine findGo_nest types codes d (i + 1) (op.take x.1) (out ++ [(op[x.1], i)]) ⟨?_, fun o ho => hs.opn o (List.mem_of_mem_take ho), ?_, ?_, ?_⟩
          · exact h.inc.sublist (List.take_sublist _ _)
          · intro p hp
            rcases List.mem_append.1 hp with hp | hp
            · exact hs.prs p hp
            · rw [List.mem_singleton.1 hp]; exact ⟨by simp, ho2, ht, hmt⟩
          · intro o ho p hp
            rcases List.mem_append.1 hp with hp | hp
            · exact h.opa o (List.mem_of_mem_take ho) p hp
            · rw [List.mem_singleton.1 hp]; exact .inr (hlt o ho)
          · intro a ha b hb hab
            rcases List.mem_append.1 ha with ha | ha
            · rcases List.mem_append.1 hb with hb | hb
              · exact h.apt a ha b hb hab
              · rw [List.mem_singleton.1 hb] at hab ⊢
                simp only at hab ⊢
                rcases h.opa _ hom a ha with h1 | h1
                · exact .inl h1
                · omega
            · rcases List.mem_append.1 hb with hb | hb
              · rw [List.mem_singleton.1 ha] at hab ⊢
                simp only at hab ⊢
                exact .inr (h.prs b hb).1
              · rw [List.mem_singleton.1 ha, List.mem_singleton.1 hb] at hab
                simp only at hab
                omega
theorem pairsW_nest (types codes : List Int) : (∀ p ∈ pairsW types codes, IsPair types codes p) ∧ ∀ i j (hi : i < (pairsW types codes).length) (hj : j < (pairsW types codes).length), i < j → (pairsW types codes)[i].1 < (pairsW types codes)[j].1 ∧ ((pairsW types codes)[i].2 < (pairsW types codes)[j].1 ∨ (pairsW types codes)[j].2 < (pairsW types codes)[i].2) := by
  have hN := findGo_nest types codes types.length 0 [] [] ⟨List.Pairwise.nil, by simp, by simp, by simp, by simp⟩
  have hm : ∀ p, p ∈ pairsW types codes ↔ p ∈ findGo types codes types.length 0 [] [] := fun p => (sortP_perm _).mem_iff
  refine ⟨fun p hp => hN.1 p ((hm p).1 hp), fun i j hi hj hij => ?_⟩
  have hle := List.pairwise_iff_getElem.1 (sortP_sorted (findGo types codes types.length 0 [] [])) i j hi hj hij
  have hnd : ((pairsW types codes).map (·.1)).Nodup := ((sortP_perm _).map _).nodup_iff.2 (findGo_nodup types codes types.length 0 [] [] List.nodup_nil (by simp))
  have hne : (pairsW types codes)[i].1 ≠ (pairsW types codes)[j].1 := by
    have := List.pairwise_iff_getElem.1 hnd i j (by simpa using hi) (by simpa using hj) hij
    simpa using this
  have hlt : (pairsW types codes)[i].1 < (pairsW types codes)[j].1 := by
    have : (pairsW types codes)[i].1 ≤ (pairsW types codes)[j].1 := hle
    omega
  exact ⟨hlt, hN.2 _ ((hm _).1 (List.getElem_mem hi)) _ ((hm _).1 (List.getElem_mem hj)) hlt⟩
end Go.Proofs.YtdpifkhkemeclaaDoor
