/- The document's brackets are the program's: Pair, Form and Meet at any numbers. -/
import Derived.Test.YtdpifkhkemeclaaDoorPQx3
import Derived.Test.YtdpifkhkemeclaaDoorMir
import Derived.KernelRfl
namespace Go.Proofs.YtdpifkhkemeclaaDoor
open Go.RowKit Go.Proofs.YtdpifkhkemeclaaDoorW.PrintWords
set_option linter.unusedVariables false
set_option linter.unusedSimpArgs false

theorem w64b {x : Int} (h0 : -9223372036854775808 ≤ x) (h1 : x ≤ 9223372036854775807) : wrap64 x = x := by
  unfold wrap64; omega
theorem wsuccB (i : Nat) (h : i ≤ 1048577) : wrap64 ((i : Int) + 1) = ((i + 1 : Nat) : Int) := by
  rw [w64b (by omega) (by omega)]; rfl
theorem wsucc2B (i : Nat) (h : i ≤ 1048577) : wrap64 ((i : Int) + 2) = ((i + 2 : Nat) : Int) := by
  rw [w64b (by omega) (by omega)]; rfl
theorem ev_same {α : Type} {g : Nat → Option α} {r r' : α} (h : Ev g r) (e : r = r') : Ev g r' := e ▸ h
theorem rdB (l : List Int) (i : Nat) : rd l (i : Int) = l.getD i 0 := by simp [rd]

/-- All codes in the program's rows. -/
def codesZ : List Int := (List.range 38).flatMap fun k => (List.range ((toS k - frS k).toNat + 1)).map fun d : Nat => frS k + (d : Int)
theorem codesZ_mem {c : Int} {k : Nat} (hk : k < 38) (h1 : frS k ≤ c) (h2 : c ≤ toS k) : c ∈ codesZ := by
  refine List.mem_flatMap.2 ⟨k, List.mem_range.2 hk, List.mem_map.2 ⟨(c - frS k).toNat, List.mem_range.2 (by omega), by omega⟩⟩
theorem hit_mem {c : Int} (h : hitS c = true) : c ∈ codesZ := by
  unfold hitS at h
  simp at h
  obtain ⟨h1, h2⟩ := h
  unfold sideP at h2
  refine codesZ_mem h1 ?_ ?_
  · rcases Int.lt_or_le c (frS (bs c)) with h | h
    · rw [if_pos h] at h2; cases h2
    · exact h
  · rcases Int.lt_or_le (toS (bs c)) c with h | h
    · rw [if_pos h] at h2; split at h2 <;> cases h2
    · exact h
theorem pairP_out {c : Int} (h : c ∉ codesZ) : pairP c = (0, 0) := by
  have hh : hitS c = false := by
    cases hb : hitS c with
    | false => rfl
    | true => exact absurd (hit_mem hb) h
  unfold pairP findP
  rw [hh]
  rfl
theorem pair_in : codesZ.all (fun c => match PQ.parquetryref03_Pair.f 200 c with | some (a, b) => a == (pairP c).1 && b == (pairP c).2 | none => false) = true := by kernel_rfl

def brL : List Int := [40, 41, 3898, 3901, 5787, 5788, 8261, 8262, 8317, 8318, 8333, 8334, 8968, 8971, 9001, 9002, 10088, 10101, 10181, 10182, 10214, 10223, 10627, 10636, 10641, 10648, 10712, 10715, 10748, 10749, 11810, 11817, 12296, 12305, 12308, 12315, 65113, 65118, 65288, 65289, 65375, 65376, 65378, 65379]
def loL : List Int := [91, 93, 123, 125, 65339, 65341, 65371, 65373]
theorem br_in : (List.range 22).all (fun j => decide (brL.getD (2 * j + 1) 0 - brL.getD (2 * j) 0 < 32) && (List.range 32).all (fun d => decide (brL.getD (2 * j + 1) 0 < brL.getD (2 * j) 0 + (d : Int)) || codesZ.contains (brL.getD (2 * j) 0 + (d : Int)))) = true := by kernel_rfl
theorem br_small : brL.all (fun x => decide (0 ≤ x ∧ x ≤ 70000)) = true := by kernel_rfl
theorem lo_in : loL.all (fun x => codesZ.contains x) = true := by kernel_rfl
theorem br_out {c : Int} (h : c ∉ codesZ) (j : Nat) (hj : j < 22) : c < brL.getD (2 * j) 0 ∨ brL.getD (2 * j + 1) 0 < c := by
  rcases Int.lt_or_le c (brL.getD (2 * j) 0) with h1 | h1
  · exact .inl h1
  · rcases Int.lt_or_le (brL.getD (2 * j + 1) 0) c with h2 | h2
    · exact .inr h2
    · exfalso
      have hb := List.all_eq_true.1 br_in j (List.mem_range.2 hj)
      rw [Bool.and_eq_true] at hb
      have hd := of_decide_eq_true hb.1
      have hq := List.all_eq_true.1 hb.2 (c - brL.getD (2 * j) 0).toNat (List.mem_range.2 (by omega))
      rw [Bool.or_eq_true] at hq
      have e : brL.getD (2 * j) 0 + ((c - brL.getD (2 * j) 0).toNat : Int) = c := by omega
      rw [e] at hq
      rcases hq with hq | hq
      · have := of_decide_eq_true hq; omega
      · exact h (by simpa using hq)
theorem br_get (i : Nat) (hi : i < 44) : 0 ≤ brL.getD i 0 ∧ brL.getD i 0 ≤ 70000 := by
  have hl : i < brL.length := hi
  have hm : brL.getD i 0 ∈ brL := by rw [List.getD_eq_getElem?_getD, List.getElem?_eq_getElem hl]; exact List.getElem_mem hl
  exact of_decide_eq_true (List.all_eq_true.1 br_small _ hm)

theorem inRows_none {c : Int} (h : c ∉ codesZ) : Ev (fun k => PQ.parquetryref03_inRows.f k brL c) (0, 0) := by
  have hlen : (brL.length : Int) = 44 := rfl
  have outer : ∀ (d j : Nat), 22 - j = d → j ≤ 22 → Ev (fun k => PQ.parquetryref03_inRows.l0 k brL c ((2 * j : Nat) : Int)) (0, 0) := by
    intro d
    induction d with
    | zero =>
      intro j hd hj
      refine Ev.step (f := fun _ => some (0, 0)) (fun k => ?_) (Ev.now _)
      simp only [PQ.parquetryref03_inRows.l0]
      rw [if_neg (by rw [hlen]; omega)]
    | succ d ih =>
      intro j hd hj
      have hj' : j < 22 := by omega
      have ho := br_out h j hj'
      obtain ⟨p0, p1⟩ := br_get (2 * j) (by omega)
      obtain ⟨q0, q1⟩ := br_get (2 * j + 1) (by omega)
      have inner : ∀ (m : Nat) (a : Int), brL.getD (2 * j) 0 ≤ a → a ≤ 70010 → (70020 - a).toNat ≤ m → Ev (fun k => PQ.parquetryref03_inRows.l1 k brL c ((2 * j : Nat) : Int) a) (0, 0) := by
        intro m
        induction m with
        | zero => intro a _ _ hm; omega
        | succ m ihm =>
          intro a h0 h1 hm
          by_cases ha : a < brL.getD (2 * j + 1) 0
          · refine Ev.step (fun k => ?_) (ihm (a + 2) (by omega) (by omega) (by omega))
            simp only [PQ.parquetryref03_inRows.l1]
            rw [wsuccB _ (by omega), rdB, if_pos (by omega), if_pos (by rw [hlen]; omega), if_pos ha, w64b (x := a + 1) (by omega) (by omega), w64b (x := a + 2) (by omega) (by omega), if_neg (by omega), if_neg (by omega)]
          · refine Ev.step (fun k => ?_) (ih (j + 1) (by omega) (by omega))
            simp only [PQ.parquetryref03_inRows.l1]
            rw [wsuccB _ (by omega), rdB, if_pos (by omega), if_pos (by rw [hlen]; omega), if_neg ha, wsucc2B _ (by omega)]
            rfl
      refine Ev.step (fun k => ?_) (inner 70020 (brL.getD (2 * j) 0) (by omega) (by omega) (by omega))
      simp only [PQ.parquetryref03_inRows.l0]
      rw [if_pos (by rw [hlen]; omega), if_pos (by omega), rdB]
  exact outer 22 0 rfl (by omega)
theorem inPairs_none {c : Int} (h : c ∉ codesZ) : Ev (fun k => PQ.parquetryref03_inPairs.f k loL c) (0, 0) := by
  have hne : ∀ x ∈ loL, c ≠ x := fun x hx e => h (by
    have := List.all_eq_true.1 lo_in x hx
    rw [e]; simpa using this)
  refine Ev.of (fun k => PQ.parquetryref03_inPairs.mono loL c k) (k := 6) ?_
  have h0 := hne 91 (by decide)
  have h1 := hne 93 (by decide)
  have h2 := hne 123 (by decide)
  have h3 := hne 125 (by decide)
  have h4 := hne 65339 (by decide)
  have h5 := hne 65341 (by decide)
  have h6 := hne 65371 (by decide)
  have h7 := hne 65373 (by decide)
  simp [PQ.parquetryref03_inPairs.f, PQ.parquetryref03_inPairs.l0, loL, rd, wrap64, h0, h1, h2, h3, h4, h5, h6, h7]
theorem pair_ev (c : Int) : Ev (fun k => PQ.parquetryref03_Pair.f k c) (pairP c) := by
  by_cases h : c ∈ codesZ
  · have := List.all_eq_true.1 pair_in c h
    refine Ev.of (fun k => PQ.parquetryref03_Pair.mono c k) (k := 200) ?_
    revert this
    cases PQ.parquetryref03_Pair.f 200 c with
    | none => intro h; cases h
    | some ab =>
      obtain ⟨a, b⟩ := ab
      intro h
      simp at h
      rw [h.1, h.2]
  · rw [pairP_out h]
    have e : ∀ k, PQ.parquetryref03_Pair.f k c = (PQ.parquetryref03_inRows.f k brL c).bind fun bt159 => (if bt159.1 = 0 then (PQ.parquetryref03_inPairs.f k loL c).bind fun bt164 => (some (bt164.1, bt164.2)) else (some (bt159.1, bt159.2))) := fun k => rfl
    refine Ev.congr e (Ev.bind (inRows_none h) ?_)
    refine Ev.congr (fun k => if_pos rfl) (Ev.bind (inPairs_none h) (Ev.now _))
theorem refForm (a : Int) : PQ.parquetryref03_Form.f a = some (formP a) := by
  unfold PQ.parquetryref03_Form.f formP
  by_cases h1 : a = 9001
  · subst h1; rfl
  · by_cases h2 : a = 9002
    · subst h2; rfl
    · rw [if_neg h1, if_neg h2, if_neg (by omega)]
theorem meet_ev (a b : Int) : Ev (fun k => PQ.parquetryref03_Meet.f k a b) (meetP a b) := by
  unfold PQ.parquetryref03_Meet.f
  refine Ev.bind (pair_ev a) (Ev.bind (pair_ev b) ?_)
  unfold meetP
  simp only [refForm, Option.bind_some]
  by_cases h1 : (pairP a).1 = 1
  · by_cases h2 : (pairP b).1 = 2
    · simp only [h1, h2, if_true, decide_true, Bool.true_and]
      refine ev_same (Ev.now _) ?_
      by_cases h : formP (pairP a).2 = formP b <;> simp [h]
    · simp only [h1, h2, if_true, if_false, decide_true, decide_false, Bool.true_and, Bool.false_and]
      exact Ev.now _
  · simp only [h1, if_false, decide_false, Bool.false_and]
    exact Ev.now _
end Go.Proofs.YtdpifkhkemeclaaDoor
