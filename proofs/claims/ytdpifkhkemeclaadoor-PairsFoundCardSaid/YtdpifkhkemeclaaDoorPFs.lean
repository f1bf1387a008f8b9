/- pairs.Find's plain words: what is open and what is found differ; the order. -/
import Derived.Test.YtdpifkhkemeclaaDoorPF0
namespace Go.Proofs.YtdpifkhkemeclaaDoor
open Go.RowKit
set_option linter.unusedVariables false
set_option linter.unusedSimpArgs false

theorem mem_bwTo {zs : List Int} : ∀ {k : Nat} {x : Nat × Int}, x ∈ bwTo zs k → ∃ j, j < k ∧ x = bwF zs j := by
  intro k x h
  unfold bwTo at h
  obtain ⟨j, hj, e⟩ := List.mem_map.1 h
  exact ⟨j, List.mem_range.1 hj, e.symm⟩
theorem popF_mem {codes : List Int} {op : List Nat} {c : Int} {x : Nat × Int} (h : popF codes op c = some x) : ∃ hk : x.1 < op.length, x.2 = ((op[x.1] : Nat) : Int) ∧ meetP (codes.getD x.2.toNat 0) c = true := by
  unfold popF at h
  have hm := List.mem_of_find?_eq_some h
  have hp := List.find?_some h
  obtain ⟨j, hj, rfl⟩ := mem_bwTo hm
  have hl : (zInts op).length = op.length := by simp [zInts]
  have hlt : (bwF (zInts op) j).1 < op.length := by unfold bwF; simp only; omega
  refine ⟨hlt, ?_, by simpa using hp⟩
  have gen : ∀ (q : Nat) (hq : q < op.length), (zInts op)[q]?.getD 0 = ((op[q] : Nat) : Int) := by
    intro q hq
    unfold zInts
    rw [List.getElem?_map, List.getElem?_eq_getElem hq]
    rfl
  exact gen _ hlt
/-- What opens is told once. -/
theorem findGo_nodup (types codes : List Int) : ∀ (d i : Nat) (op : List Nat) (out : List (Nat × Nat)), (op ++ out.map (·.1)).Nodup → (∀ p ∈ op ++ out.map (·.1), p < i) → ((findGo types codes d i op out).map (·.1)).Nodup
  | 0, i, op, out, h, _ => (List.nodup_append.1 h).2.1
  | d + 1, i, op, out, h, hl => by
    have hl' : ∀ p ∈ op ++ out.map (·.1), p < i + 1 := fun p hp => by have := hl p hp; omega
    unfold findGo
    split
    · exact findGo_nodup types codes d (i + 1) op out h hl'
    · split
      · split
        · exact (List.nodup_append.1 h).2.1
        · refine findGo_nodup types codes d (i + 1) (op ++ [i]) out ?_ ?_
          · have hi : i ∉ op ++ out.map (·.1) := fun hm => by have := hl i hm; omega
            have hp : (op ++ [i] ++ out.map (·.1)).Perm (i :: (op ++ out.map (·.1))) := by
              rw [List.append_assoc]
              exact List.perm_middle
            exact hp.nodup_iff.2 (List.nodup_cons.2 ⟨hi, h⟩)
          · intro p hp
            simp only [List.mem_append, List.mem_singleton] at hp
            rcases hp with (hp | rfl) | hp
            · exact hl' p (by simp [hp])
            · omega
            · exact hl' p (List.mem_append.2 (.inr hp))
      · split
        · exact findGo_nodup types codes d (i + 1) op out h hl'
        · rename_i x hx
          obtain ⟨hk, hx2, _⟩ := popF_mem hx
          have hn : x.2.toNat = op[x.1] := by rw [hx2]; rfl
          have hop : op = op.take x.1 ++ op[x.1] :: op.drop (x.1 + 1) := by
            rw [← List.drop_eq_getElem_cons hk, List.take_append_drop]
          have hsub : (op.take x.1 ++ (out ++ [(x.2.toNat, i)]).map (·.1)).Perm (op.take x.1 ++ [op[x.1]] ++ out.map (·.1)) := by
            rw [List.map_append, List.append_assoc]
            refine List.Perm.append_left _ ?_
            rw [hn]
            exact List.perm_append_comm
          refine findGo_nodup types codes d (i + 1) _ _ (hsub.nodup_iff.2 ?_) ?_
          · refine List.Sublist.nodup ?_ h
            refine List.Sublist.append ?_ (List.Sublist.refl _)
            conv => rhs; rw [hop]
            refine List.Sublist.append (List.Sublist.refl _) ?_
            exact List.Sublist.cons_cons _ (List.nil_sublist _)
          · intro p hp
            have hp2 := (hsub.mem_iff).1 hp
            simp only [List.mem_append, List.mem_singleton] at hp2
            rcases hp2 with (hp2 | rfl) | hp2
            · exact hl' p (List.mem_append.2 (.inl (List.mem_of_mem_take hp2)))
            · exact hl' _ (List.mem_append.2 (.inl (List.getElem_mem hk)))
            · exact hl' p (List.mem_append.2 (.inr hp2))
/-- In order by what opens. -/
def insP (x : Nat × Nat) : List (Nat × Nat) → List (Nat × Nat)
  | [] => [x]
  | y :: r => if x.1 ≤ y.1 then x :: y :: r else y :: insP x r
def sortP : List (Nat × Nat) → List (Nat × Nat)
  | [] => []
  | x :: r => insP x (sortP r)
theorem insP_perm (x : Nat × Nat) : ∀ l, (insP x l).Perm (x :: l)
  | [] => List.Perm.refl _
  | y :: r => by
    unfold insP
    split
    · exact List.Perm.refl _
    · exact ((insP_perm x r).cons y).trans (List.Perm.swap x y r)
theorem sortP_perm : ∀ l, (sortP l).Perm l
  | [] => List.Perm.refl _
  | x :: r => (insP_perm x _).trans ((sortP_perm r).cons x)
theorem insP_sorted (x : Nat × Nat) : ∀ l : List (Nat × Nat), l.Pairwise (fun a b => a.1 ≤ b.1) → (insP x l).Pairwise (fun a b => a.1 ≤ b.1)
  | [], _ => by simp [insP]
  | y :: r, h => by
    have h' := List.pairwise_cons.1 h
    unfold insP
    split
    · rename_i hx
      refine List.pairwise_cons.2 ⟨fun z hz => ?_, h⟩
      rcases List.mem_cons.1 hz with rfl | hz
      · exact hx
      · exact Nat.le_trans hx (h'.1 z hz)
    · refine List.pairwise_cons.2 ⟨fun z hz => ?_, insP_sorted x r h'.2⟩
      rcases List.mem_cons.1 ((insP_perm x r).mem_iff.1 hz) with rfl | hz
      · omega
      · exact h'.1 z hz
theorem sortP_sorted : ∀ l, (sortP l).Pairwise (fun a b => a.1 ≤ b.1)
  | [] => List.Pairwise.nil
  | x :: r => insP_sorted x _ (sortP_sorted r)
theorem fst_inj {l : List (Nat × Nat)} (hn : (l.map (·.1)).Nodup) : ∀ {a b : Nat × Nat}, a ∈ l → b ∈ l → a.1 = b.1 → a = b := by
  induction l with
  | nil => intro a b h; simp at h
  | cons x r ih =>
    intro a b ha hb e
    rw [List.map_cons, List.nodup_cons] at hn
    rcases List.mem_cons.1 ha with ea | ha'
    · rcases List.mem_cons.1 hb with eb | hb'
      · rw [ea, eb]
      · exact absurd (List.mem_map.2 ⟨b, hb', by rw [← e, ea]⟩) hn.1
    · rcases List.mem_cons.1 hb with eb | hb'
      · exact absurd (List.mem_map.2 ⟨a, ha', by rw [e, eb]⟩) hn.1
      · exact ih hn.2 ha' hb' e
theorem sorted_one : ∀ (l m : List (Nat × Nat)), l.Perm m → l.Pairwise (fun a b => a.1 ≤ b.1) → m.Pairwise (fun a b => a.1 ≤ b.1) → (l.map (·.1)).Nodup → l = m
  | [], m, h, _, _, _ => (List.Perm.nil_eq h)
  | a :: t, [], h, _, _, _ => absurd h.length_eq (by simp)
  | a :: t, b :: s, h, hl, hm, hn => by
    have hl' := List.pairwise_cons.1 hl
    have hm' := List.pairwise_cons.1 hm
    have hab : a.1 ≤ b.1 := by
      rcases List.mem_cons.1 (h.mem_iff.2 (List.mem_cons_self)) with e | hb
      · rw [e]; exact Nat.le_refl _
      · exact hl'.1 b hb
    have hba : b.1 ≤ a.1 := by
      rcases List.mem_cons.1 (h.mem_iff.1 (List.mem_cons_self)) with e | ha
      · rw [e]; exact Nat.le_refl _
      · exact hm'.1 a ha
    have e : a = b := fst_inj hn (List.mem_cons_self) (h.mem_iff.2 (List.mem_cons_self)) (by omega)
    subst e
    rw [List.map_cons, List.nodup_cons] at hn
    rw [sorted_one t s (List.Perm.cons_inv h) hl'.2 hm'.2 hn.2]
theorem sorted_is {out l : List (Nat × Nat)} (hp : out.Perm l) (hs : out.Pairwise (fun a b => a.1 ≤ b.1)) (hn : (l.map (·.1)).Nodup) : out = sortP l :=
  sorted_one out (sortP l) (hp.trans (sortP_perm l).symm) hs (sortP_sorted l) ((hp.map _).nodup_iff.2 hn)
end Go.Proofs.YtdpifkhkemeclaaDoor
