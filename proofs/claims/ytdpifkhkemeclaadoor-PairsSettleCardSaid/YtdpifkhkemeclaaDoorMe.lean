/- The document's brackets and its pairs are the program's. -/
import Derived.Test.YtdpifkhkemeclaaDoorPQb
import Derived.Test.YtdpifkhkemeclaaDoorMn
import Derived.KernelRfl
namespace Go.Proofs.YtdpifkhkemeclaaDoor
open Go.RowKit Go.Proofs.YtdpifkhkemeclaaDoorW.PrintWords
set_option linter.unusedVariables false
set_option linter.unusedSimpArgs false

/-- All codes in the program's rows. -/
def codesZ : List Int := (List.range 38).flatMap fun k => (List.range ((toS k - frS k).toNat + 1)).map fun d : Nat => frS k + (d : Int)
theorem codesZ_mem {c : Int} {k : Nat} (hk : k < 38) (h1 : frS k ≤ c) (h2 : c ≤ toS k) : c ∈ codesZ := by
  refine List.mem_flatMap.2 ⟨k, List.mem_range.2 hk, List.mem_map.2 ⟨(c - frS k).toNat, List.mem_range.2 (by omega), by omega⟩⟩
theorem hit_mem {c : Int} (h : hitS c = true) : c ∈ codesZ := by
  unfold hitS at h
  simp at h
  obtain ⟨h1, h2⟩ := h
  unfold sideP at h2
  refine codesZ_mem h1 ?_ ?_
  · rcases Int.lt_or_le c (frS (bs c)) with h | h
    · rw [if_pos h] at h2; cases h2
    · exact h
  · rcases Int.lt_or_le (toS (bs c)) c with h | h
    · rw [if_pos h] at h2; split at h2 <;> cases h2
    · exact h
theorem pairP_out {c : Int} (h : c ∉ codesZ) : pairP c = (0, 0) := by
  have hh : hitS c = false := by
    cases hb : hitS c with
    | false => rfl
    | true => exact absurd (hit_mem hb) h
  unfold pairP findP
  rw [hh]
  rfl
theorem pair_in : codesZ.all (fun c => match PQ.parquetryref03_Pair.f 200 c with | some (a, b) => a == (pairP c).1 && b == (pairP c).2 | none => false) = true := by kernel_rfl

def brL : List Int := [40, 41, 3898, 3901, 5787, 5788, 8261, 8262, 8317, 8318, 8333, 8334, 8968, 8971, 9001, 9002, 10088, 10101, 10181, 10182, 10214, 10223, 10627, 10636, 10641, 10648, 10712, 10715, 10748, 10749, 11810, 11817, 12296, 12305, 12308, 12315, 65113, 65118, 65288, 65289, 65375, 65376, 65378, 65379]
def loL : List Int := [91, 93, 123, 125, 65339, 65341, 65371, 65373]
theorem br_in : (List.range 22).all (fun j => decide (brL.getD (2 * j + 1) 0 - brL.getD (2 * j) 0 < 32) && (List.range 32).all (fun d => decide (brL.getD (2 * j + 1) 0 < brL.getD (2 * j) 0 + (d : Int)) || codesZ.contains (brL.getD (2 * j) 0 + (d : Int)))) = true := by kernel_rfl
theorem br_small : brL.all (fun x => decide (0 ≤ x ∧ x ≤ 70000)) = true := by kernel_rfl
theorem lo_in : loL.all (fun x => codesZ.contains x) = true := by kernel_rfl
theorem br_out {c : Int} (h : c ∉ codesZ) (j : Nat) (hj : j < 22) : c < brL.getD (2 * j) 0 ∨ brL.getD (2 * j + 1) 0 < c := by
  rcases Int.lt_or_le c (brL.getD (2 * j) 0) with h1 | h1
  · exact .inl h1
  · rcases Int.lt_or_le (brL.getD (2 * j + 1) 0) c with h2 | h2
    · exact .inr h2
    · exfalso
      have hb := List.all_eq_true.1 br_in j (List.mem_range.2 hj)
      rw [Bool.and_eq_true] at hb
      have hd := of_decide_eq_true hb.1
      have hq := List.all_eq_true.1 hb.2 (c - brL.getD (2 * j) 0).toNat (List.mem_range.2 (by omega))
      rw [Bool.or_eq_true] at hq
      have e : brL.getD (2 * j) 0 + ((c - brL.getD (2 * j) 0).toNat : Int) = c := by omega
      rw [e] at hq
      rcases hq with hq | hq
      · have := of_decide_eq_true hq; omega
      · exact h (by simpa using hq)
theorem br_get (i : Nat) (hi : i < 44) : 0 ≤ brL.getD i 0 ∧ brL.getD i 0 ≤ 70000 := by
  have hl : i < brL.length := hi
  have hm : brL.getD i 0 ∈ brL := by rw [List.getD_eq_getElem?_getD, List.getElem?_eq_getElem hl]; exact List.getElem_mem hl
  exact of_decide_eq_true (List.all_eq_true.1 br_small _ hm)

theorem inRows_none {c : Int} (h : c ∉ codesZ) : Ev (fun k => PQ.parquetryref03_inRows.f k brL c) (0, 0) := by
  have hlen : (brL.length : Int) = 44 := rfl
  have outer : ∀ (d j : Nat), 22 - j = d → j ≤ 22 → Ev (fun k => PQ.parquetryref03_inRows.l0 k brL c ((2 * j : Nat) : Int)) (0, 0) := by
    intro d
    induction d with
    | zero =>
      intro j hd hj
      refine Ev.step (f := fun _ => some (0, 0)) (fun k => ?_) (Ev.now _)
      simp only [PQ.parquetryref03_inRows.l0]
      rw [if_neg (by rw [hlen]; omega)]
    | succ d ih =>
      intro j hd hj
      have hj' : j < 22 := by omega
      have ho := br_out h j hj'
      obtain ⟨p0, p1⟩ := br_get (2 * j) (by omega)
      obtain ⟨q0, q1⟩ := br_get (2 * j + 1) (by omega)
      have inner : ∀ (m : Nat) (a : Int), brL.getD (2 * j) 0 ≤ a → a ≤ 70010 → (70020 - a).toNat ≤ m → Ev (fun k => PQ.parquetryref03_inRows.l1 k brL c ((2 * j : Nat) : Int) a) (0, 0) := by
        intro m
        induction m with
        | zero => intro a _ _ hm; omega
        | succ m ihm =>
          intro a h0 h1 hm
          by_cases ha : a < brL.getD (2 * j + 1) 0
          · refine Ev.step (fun k => ?_) (ihm (a + 2) (by omega) (by omega) (by omega))
            simp only [PQ.parquetryref03_inRows.l1]
            rw [wsuccB _ (by omega), rdB, if_pos (by omega), if_pos (by rw [hlen]; omega), if_pos ha, w64b (x := a + 1) (by omega) (by omega), w64b (x := a + 2) (by omega) (by omega), if_neg (by omega), if_neg (by omega)]
          · refine Ev.step (fun k => ?_) (ih (j + 1) (by omega) (by omega))
            simp only [PQ.parquetryref03_inRows.l1]
            rw [wsuccB _ (by omega), rdB, if_pos (by omega), if_pos (by rw [hlen]; omega), if_neg ha, wsucc2B _ (by omega)]
            rfl
      refine Ev.step (fun k => ?_) (inner 70020 (brL.getD (2 * j) 0) (by omega) (by omega) (by omega))
      simp only [PQ.parquetryref03_inRows.l0]
      rw [if_pos (by rw [hlen]; omega), if_pos (by omega), rdB]
  exact outer 22 0 rfl (by omega)
theorem inPairs_none {c : Int} (h : c ∉ codesZ) : Ev (fun k => PQ.parquetryref03_inPairs.f k loL c) (0, 0) := by
  have hne : ∀ x ∈ loL, c ≠ x := fun x hx e => h (by
    have := List.all_eq_true.1 lo_in x hx
    rw [e]; simpa using this)
  refine Ev.of (fun k => PQ.parquetryref03_inPairs.mono loL c k) (k := 6) ?_
  have h0 := hne 91 (by decide)
  have h1 := hne 93 (by decide)
  have h2 := hne 123 (by decide)
  have h3 := hne 125 (by decide)
  have h4 := hne 65339 (by decide)
  have h5 := hne 65341 (by decide)
  have h6 := hne 65371 (by decide)
  have h7 := hne 65373 (by decide)
  simp [PQ.parquetryref03_inPairs.f, PQ.parquetryref03_inPairs.l0, loL, rd, wrap64, h0, h1, h2, h3, h4, h5, h6, h7]
theorem pair_ev (c : Int) : Ev (fun k => PQ.parquetryref03_Pair.f k c) (pairP c) := by
  by_cases h : c ∈ codesZ
  · have := List.all_eq_true.1 pair_in c h
    refine Ev.of (fun k => PQ.parquetryref03_Pair.mono c k) (k := 200) ?_
    revert this
    cases PQ.parquetryref03_Pair.f 200 c with
    | none => intro h; cases h
    | some ab =>
      obtain ⟨a, b⟩ := ab
      intro h
      simp at h
      rw [h.1, h.2]
  · rw [pairP_out h]
    have e : ∀ k, PQ.parquetryref03_Pair.f k c = (PQ.parquetryref03_inRows.f k brL c).bind fun bt159 => (if bt159.1 = 0 then (PQ.parquetryref03_inPairs.f k loL c).bind fun bt164 => (some (bt164.1, bt164.2)) else (some (bt159.1, bt159.2))) := fun k => rfl
    refine Ev.congr e (Ev.bind (inRows_none h) ?_)
    refine Ev.congr (fun k => if_pos rfl) (Ev.bind (inPairs_none h) (Ev.now _))
theorem refForm (a : Int) : PQ.parquetryref03_Form.f a = some (formP a) := by
  unfold PQ.parquetryref03_Form.f formP
  by_cases h1 : a = 9001
  · subst h1; rfl
  · by_cases h2 : a = 9002
    · subst h2; rfl
    · rw [if_neg h1, if_neg h2, if_neg (by omega)]
theorem meet_ev (a b : Int) : Ev (fun k => PQ.parquetryref03_Meet.f k a b) (meetP a b) := by
  unfold PQ.parquetryref03_Meet.f
  refine Ev.bind (pair_ev a) (Ev.bind (pair_ev b) ?_)
  unfold meetP
  simp only [refForm, Option.bind_some]
  by_cases h1 : (pairP a).1 = 1
  · by_cases h2 : (pairP b).1 = 2
    · simp only [h1, h2, if_true, decide_true, Bool.true_and]
      refine ev_same (Ev.now _) ?_
      by_cases h : formP (pairP a).2 = formP b <;> simp [h]
    · simp only [h1, h2, if_true, if_false, decide_true, decide_false, Bool.true_and, Bool.false_and]
      exact Ev.now _
  · simp only [h1, if_false, decide_false, Bool.false_and]
    exact Ev.now _

/-- From the last one down: the place of the one that meets. -/
def popGo (codes : List Int) (op : List Nat) (c : Int) : Nat → Option Nat
  | 0 => none
  | q + 1 => if meetP (codes.getD (op.getD q 0) 0) c = true then some q else popGo codes op c q
theorem popGo_lt {codes : List Int} {op : List Nat} {c : Int} : ∀ {q p : Nat}, popGo codes op c q = some p → p < q
  | 0, p, h => by cases h
  | q + 1, p, h => by
    unfold popGo at h
    split at h
    · cases h; omega
    · have := popGo_lt h; omega
theorem popF_go (codes : List Int) (op : List Nat) (c : Int) : popF codes op c = (popGo codes op c op.length).map fun q => (q, ((op.getD q 0 : Nat) : Int)) := by
  have hl : (zInts op).length = op.length := by simp [zInts]
  have hz : ∀ q, q < op.length → (zInts op)[q]?.getD 0 = ((op.getD q 0 : Nat) : Int) := fun q hq => by
    simp [zInts, hq]
  have key : ∀ (q j : Nat), j + q = op.length → ((List.range' j q).map (bwF (zInts op))).find? (fun x => meetP (codes.getD x.2.toNat 0) c) = (popGo codes op c q).map fun q => (q, ((op.getD q 0 : Nat) : Int)) := by
    intro q
    induction q with
    | zero => intro j _; rfl
    | succ q ih =>
      intro j hj
      have hb : bwF (zInts op) j = (q, ((op.getD q 0 : Nat) : Int)) := by
        unfold bwF
        have e : (zInts op).length - 1 - j = q := by omega
        rw [e, ← hz q (by omega)]
      rw [List.range'_succ, List.map_cons, List.find?_cons, hb]
      simp only [Int.toNat_natCast]
      unfold popGo
      cases hm : meetP (codes.getD (op.getD q 0) 0) c with
      | true => simp
      | false => rw [ih (j + 1) (by omega)]; simp
  unfold popF bwTo
  rw [List.range_eq_range']
  exact key op.length 0 (by omega)

/-- The inner round of the document's order. -/
theorem ref_l3 (codes : List Int) (out acc : List (Nat × Nat)) (a : Nat) (ha : a ≤ 1048576) (r : List PQ.S31) (hol : out.length ≤ 1048576) (hac : acc.length ≤ 1048576) (hk : Ev (fun k => PQ.parquetryref14_Find.l2 k codes (out.map s31) ((acc ++ out.filter (fun p => p.1 == a)).map s31) ((a + 1 : Nat) : Int)) r) :
    Ev (fun k => PQ.parquetryref14_Find.l3 k codes (out.map s31) (acc.map s31) (a : Int) 0) r := by
  have gen : ∀ (d j : Nat) (ac : List (Nat × Nat)), out.length - j = d → j ≤ out.length → ac.length ≤ acc.length + j → ac ++ (out.drop j).filter (fun p => p.1 == a) = acc ++ out.filter (fun p => p.1 == a) →
      Ev (fun k => PQ.parquetryref14_Find.l3 k codes (out.map s31) (ac.map s31) (a : Int) (j : Int)) r := by
    intro d
    induction d with
    | zero =>
      intro j ac hd hj hl he
      have hjl : j = out.length := by omega
      rw [hjl, List.drop_length, List.filter_nil, List.append_nil] at he
      rw [← he] at hk
      refine Ev.step (fun k => ?_) hk
      simp only [PQ.parquetryref14_Find.l3]
      rw [if_neg (by simp; omega), wsuccB _ (by omega)]
    | succ d ih =>
      intro j ac hd hj hl he
      have hlt : j < out.length := by omega
      rw [drop31 out j hlt, List.filter_cons] at he
      obtain ⟨p, hp⟩ : ∃ p, p = out.getD j (0, 0) := ⟨_, rfl⟩
      rw [← hp] at he
      by_cases hpa : p.1 = a
      · rw [if_pos (by simpa using hpa)] at he
        refine Ev.step (fun k => ?_) (ih (j + 1) (ac ++ [p]) (by omega) (by omega) (by simp; omega) (by rw [← he]; simp))
        simp only [PQ.parquetryref14_Find.l3]
        rw [if_pos (by simp; omega), if_pos (by omega), rd31 out j hlt, ← hp, if_pos (by unfold s31; simp only; omega), if_pos (by simp; omega), wsuccB _ (by omega), List.map_append]
        rfl
      · rw [if_neg (by simpa using hpa)] at he
        refine Ev.step (fun k => ?_) (ih (j + 1) ac (by omega) (by omega) (by omega) he)
        simp only [PQ.parquetryref14_Find.l3]
        rw [if_pos (by simp; omega), if_pos (by omega), rd31 out j hlt, ← hp, if_neg (by unfold s31; simp only; omega), wsuccB _ (by omega)]
  exact gen out.length 0 acc (by omega) (by omega) (by omega) (by simp)

/-- A row in order, by parts. -/
theorem filt_lt (L : List (Nat × Nat)) (a : Nat) (h : L.Pairwise (fun x y => x.1 ≤ y.1)) : L.filter (fun p => decide (p.1 < a + 1)) = L.filter (fun p => decide (p.1 < a)) ++ L.filter (fun p => p.1 == a) := by
  induction L with
  | nil => rfl
  | cons x r ih =>
    have h' := List.pairwise_cons.1 h
    have ih := ih h'.2
    rw [List.filter_cons, List.filter_cons, List.filter_cons]
    rcases Nat.lt_trichotomy x.1 a with hx | hx | hx
    · rw [if_pos (by simp; omega), if_pos (by simpa using hx), if_neg (by simp; omega), ih]
      rfl
    · have hn : r.filter (fun p => decide (p.1 < a)) = [] := List.filter_eq_nil_iff.2 (fun p hp => by have := h'.1 p hp; simp; omega)
      rw [if_pos (by simp; omega), if_neg (by simp; omega), if_pos (by simpa using hx), ih, hn]
      rfl
    · rw [if_neg (by simp; omega), if_neg (by simp; omega), if_neg (by simp; omega), ih]
theorem filt_one {l : List (Nat × Nat)} (hn : (l.map (·.1)).Nodup) (a : Nat) : (l.filter (fun p => p.1 == a)).length ≤ 1 := by
  induction l with
  | nil => simp
  | cons x r ih =>
    rw [List.map_cons, List.nodup_cons] at hn
    rw [List.filter_cons]
    split
    · rename_i hx
      have hx : x.1 = a := by simpa using hx
      have : r.filter (fun p => p.1 == a) = [] := List.filter_eq_nil_iff.2 (fun p hp e => hn.1 (List.mem_map.2 ⟨p, hp, by rw [hx]; simpa using e⟩))
      simp [this]
    · exact ih hn.2
theorem perm_one {α : Type} {l m : List α} (h : l.Perm m) (hl : m.length ≤ 1) : l = m := by
  match m, hl with
  | [], _ => exact List.Perm.eq_nil h
  | [x], _ => exact List.perm_singleton.1 h

theorem ref_j3 (codes : List Int) (out : List (Nat × Nat)) (hc : codes.length ≤ 1048576) (hol : out.length ≤ 1048576) (hn : (out.map (·.1)).Nodup) (hb : ∀ p ∈ out, p.1 < codes.length) :
    Ev (fun k => PQ.parquetryref14_Find.j3 k codes (out.map s31)) ((sortP out).map s31) := by
  have gen : ∀ (d a : Nat), codes.length - a = d → a ≤ codes.length → Ev (fun k => PQ.parquetryref14_Find.l2 k codes (out.map s31) (((sortP out).filter (fun p => decide (p.1 < a))).map s31) (a : Int)) ((sortP out).map s31) := by
    intro d
    induction d with
    | zero =>
      intro a hd ha
      have e : (sortP out).filter (fun p => decide (p.1 < a)) = sortP out := List.filter_eq_self.2 (fun p hp => by
        have := hb p ((sortP_perm out).mem_iff.1 hp)
        simp; omega)
      rw [e]
      refine Ev.step (f := fun _ => some ((sortP out).map s31)) (fun k => ?_) (Ev.now _)
      simp only [PQ.parquetryref14_Find.l2]
      rw [if_neg (by omega)]
    | succ d ih =>
      intro a hd ha
      have hk := ih (a + 1) (by omega) (by omega)
      have hfl : ((sortP out).filter (fun p => decide (p.1 < a))).length ≤ 1048576 := by
        have := List.length_filter_le (fun p : Nat × Nat => decide (p.1 < a)) (sortP out)
        have := (sortP_perm out).length_eq
        omega
      have e : (sortP out).filter (fun p => p.1 == a) = out.filter (fun p => p.1 == a) := perm_one ((sortP_perm out).filter _) (filt_one hn a)
      rw [filt_lt _ a (sortP_sorted out), e] at hk
      refine Ev.step (fun k => ?_) (ref_l3 codes out _ a (by omega) _ hol hfl hk)
      simp only [PQ.parquetryref14_Find.l2]
      rw [if_pos (by omega)]
  have h0 := gen codes.length 0 (by omega) (by omega)
  have e : (sortP out).filter (fun p => decide (p.1 < 0)) = [] := List.filter_eq_nil_iff.2 (fun p _ => by simp)
  rw [e] at h0
  exact Ev.step (fun k => rfl) h0

/-- Where one that meets is sought. -/
theorem ref_l1 (types codes : List Int) (out : List (Nat × Nat)) (op : List Nat) (i : Nat) (hi : i < codes.length) (hc : codes.length ≤ 1048576) (hop : ∀ p ∈ op, p < i) (hopl : op.length ≤ i) (hol : out.length ≤ i) (r : List PQ.S31) :
    ∀ q, q ≤ op.length → (match popGo codes op (codes.getD i 0) q with
      | none => Ev (fun k => PQ.parquetryref14_Find.l0 k types codes (out.map s31) (zInts op) ((i + 1 : Nat) : Int)) r
      | some p => Ev (fun k => PQ.parquetryref14_Find.l0 k types codes ((out ++ [(op.getD p 0, i)]).map s31) (zInts (op.take p)) ((i + 1 : Nat) : Int)) r) →
    Ev (fun k => PQ.parquetryref14_Find.l1 k types codes (out.map s31) (zInts op) (i : Int) ((q : Int) - 1)) r := by
  intro q
  induction q with
  | zero =>
    intro _ h
    refine Ev.step (fun k => ?_) h
    simp only [PQ.parquetryref14_Find.l1]
    rw [if_neg (by omega), wsuccB _ (by omega)]
  | succ q ih =>
    intro hq h
    have hzl : (zInts op).length = op.length := by simp [zInts]
    have hg : op.getD q 0 < i := by
      rw [List.getD_eq_getElem?_getD, List.getElem?_eq_getElem (show q < op.length by omega)]
      exact hop _ (List.getElem_mem _)
    have hzq : rd (zInts op) (q : Int) = ((op.getD q 0 : Nat) : Int) := by
      rw [rdB]
      simp [zInts, show q < op.length by omega]
    have e1 : ((q + 1 : Nat) : Int) - 1 = (q : Int) := by omega
    unfold popGo at h
    cases hm : meetP (codes.getD (op.getD q 0) 0) (codes.getD i 0) with
    | true =>
      rw [hm, if_pos rfl] at h
      have h : Ev (fun k => PQ.parquetryref14_Find.l0 k types codes ((out ++ [(op.getD q 0, i)]).map s31) (zInts (op.take q)) ((i + 1 : Nat) : Int)) r := h
      refine Ev.step (f := fun k => (PQ.parquetryref03_Meet.f k (codes.getD (op.getD q 0) 0) (codes.getD i 0)).bind fun t188 => if t188 = true then PQ.parquetryref14_Find.l0 k types codes ((out ++ [(op.getD q 0, i)]).map s31) (zInts (op.take q)) ((i + 1 : Nat) : Int) else PQ.parquetryref14_Find.l1 k types codes (out.map s31) (zInts op) (i : Int) ((q : Int) - 1)) (fun k => ?_) ?_
      · simp only [PQ.parquetryref14_Find.l1]
        rw [e1, if_pos (by omega), if_pos (by omega), if_pos (by omega), hzq, if_pos (by omega), if_pos (by omega), if_pos (by omega), if_pos (by omega), rdB, rdB]
        congr 1
        funext t
        cases t with
        | false => rw [if_neg (by decide), if_neg (by decide), w64b (x := (q : Int) - 1) (by omega) (by omega)]
        | true =>
          simp only [Option.bind_some, List.nil_append, List.length_nil, Nat.zero_add, Int.toNat_natCast]
          rw [if_pos trivial, if_pos trivial, if_pos (by simp; omega), if_pos (by omega), if_pos (by simp; omega), wsuccB _ (by omega), List.map_append]
          simp only [zInts, List.map_take]
          rfl
      · refine Ev.bind (meet_ev _ _) ?_
        rw [hm]
        exact Ev.congr (fun k => if_pos rfl) h
    | false =>
      rw [hm, if_neg (by decide)] at h
      refine Ev.step (f := fun k => (PQ.parquetryref03_Meet.f k (codes.getD (op.getD q 0) 0) (codes.getD i 0)).bind fun t188 => if t188 = true then PQ.parquetryref14_Find.l0 k types codes ((out ++ [(op.getD q 0, i)]).map s31) (zInts (op.take q)) ((i + 1 : Nat) : Int) else PQ.parquetryref14_Find.l1 k types codes (out.map s31) (zInts op) (i : Int) ((q : Int) - 1)) (fun k => ?_) ?_
      · simp only [PQ.parquetryref14_Find.l1]
        rw [e1, if_pos (by omega), if_pos (by omega), if_pos (by omega), hzq, if_pos (by omega), if_pos (by omega), if_pos (by omega), if_pos (by omega), rdB, rdB]
        congr 1
        funext t
        cases t with
        | false => rw [if_neg (by decide), if_neg (by decide), w64b (x := (q : Int) - 1) (by omega) (by omega)]
        | true =>
          simp only [Option.bind_some, List.nil_append, List.length_nil, Nat.zero_add, Int.toNat_natCast]
          rw [if_pos trivial, if_pos trivial, if_pos (by simp; omega), if_pos (by omega), if_pos (by simp; omega), wsuccB _ (by omega), List.map_append]
          simp only [zInts, List.map_take]
          rfl
      · refine Ev.bind (meet_ev _ _) ?_
        rw [hm]
        exact Ev.congr (fun k => if_neg (by decide)) (ih (by omega) h)

theorem ref_l0 (types codes : List Int) (he : types.length = codes.length) (hc : codes.length ≤ 1048576) :
    ∀ (d i : Nat) (op : List Nat) (out : List (Nat × Nat)), d + i = codes.length → (op ++ out.map (·.1)).Nodup → (∀ p ∈ op ++ out.map (·.1), p < i) → op.length ≤ i → out.length ≤ i → op.length ≤ 63 →
      Ev (fun k => PQ.parquetryref14_Find.l0 k types codes (out.map s31) (zInts op) (i : Int)) ((sortP (findGo types codes d i op out)).map s31) := by
  intro d
  induction d with
  | zero =>
    intro i op out hd hnd hlt h1 h2 h3
    refine Ev.step (fun k => ?_) (ref_j3 codes out hc (by omega) (List.nodup_append.1 hnd).2.1 (fun p hp => by
      have := hlt p.1 (List.mem_append.2 (.inr (List.mem_map.2 ⟨p, hp, rfl⟩)))
      omega))
    simp only [PQ.parquetryref14_Find.l0]
    rw [if_neg (by omega)]
  | succ d ih =>
    intro i op out hd hnd hlt h1 h2 h3
    have hi : i < codes.length := by omega
    have hlt' : ∀ p ∈ op ++ out.map (·.1), p < i + 1 := fun p hp => by have := hlt p hp; omega
    have hskip := ih (i + 1) op out (by omega) hnd hlt' (by omega) (by omega) h3
    have hzl : (zInts op).length = op.length := by simp [zInts]
    obtain ⟨kd, hkd⟩ : ∃ kd, kd = (pairP (codes.getD i 0)).1 := ⟨_, rfl⟩
    have main : ∀ b : Bool, b = true ∨ types.getD i 0 = 13 → (b = false → kd ≠ 0) → (b = true → (types.getD i 0 ≠ 13 ∨ kd = 0)) → Ev (fun k => PQ.parquetryref14_Find.j1 k types codes (out.map s31) (zInts op) (i : Int) kd b) ((sortP (findGo types codes (d + 1) i op out)).map s31) := by
      intro b hb hk0 hkt
      unfold findGo
      rw [← hkd]
      cases b with
      | true =>
        rw [if_pos (hkt rfl)]
        refine Ev.step (fun k => ?_) hskip
        simp only [PQ.parquetryref14_Find.j1]
        rw [if_pos trivial, wsuccB _ (by omega)]
      | false =>
        have ht : types.getD i 0 = 13 := by rcases hb with h | h; cases h; exact h
        rw [if_neg (by intro h; rcases h with h | h; exact h ht; exact hk0 rfl h)]
        by_cases hk1 : kd = 1
        · rw [if_pos hk1]
          by_cases h63 : op.length = 63
          · rw [if_pos h63]
            refine Ev.step (fun k => ?_) (ref_j3 codes out hc (by omega) (List.nodup_append.1 hnd).2.1 (fun p hp => by
              have := hlt p.1 (List.mem_append.2 (.inr (List.mem_map.2 ⟨p, hp, rfl⟩)))
              omega))
            simp only [PQ.parquetryref14_Find.j1]
            rw [if_neg (by decide), if_pos hk1, if_pos (by rw [hzl]; omega)]
          · rw [if_neg h63]
            have hii : i ∉ op ++ out.map (·.1) := fun hm => by have := hlt i hm; omega
            have hp : (op ++ [i] ++ out.map (·.1)).Perm (i :: (op ++ out.map (·.1))) := by
              rw [List.append_assoc]
              exact List.perm_middle
            have h := ih (i + 1) (op ++ [i]) out (by omega) (hp.nodup_iff.2 (List.nodup_cons.2 ⟨hii, hnd⟩)) (fun p hp => by
              simp only [List.mem_append, List.mem_singleton] at hp
              rcases hp with (hp | rfl) | hp
              · exact hlt' p (List.mem_append.2 (.inl hp))
              · omega
              · exact hlt' p (List.mem_append.2 (.inr hp))) (by simp; omega) (by omega) (by simp; omega)
            · have e : zInts op ++ [(i : Int)] = zInts (op ++ [i]) := by simp [zInts]
              refine Ev.step (fun k => ?_) h
              simp only [PQ.parquetryref14_Find.j1]
              rw [if_neg (by decide), if_pos hk1, if_neg (by rw [hzl]; omega)]
              simp only [Option.bind_some, List.nil_append, List.length_nil, Nat.zero_add]
              rw [if_pos (by rw [hzl]; omega), if_pos (by rw [hzl]; omega), wsuccB _ (by omega), e]
        · rw [if_neg hk1]
          have h := ref_l1 types codes out op i hi hc (fun p hp => hlt p (List.mem_append.2 (.inl hp))) h1 h2 ((sortP (match popF codes op (codes.getD i 0) with
            | none => findGo types codes d (i + 1) op out
            | some x => findGo types codes d (i + 1) (op.take x.1) (out ++ [(x.2.toNat, i)]))).map s31) op.length (Nat.le_refl _) (by
              rw [popF_go]
              cases hp : popGo codes op (codes.getD i 0) op.length with
              | none => exact hskip
              | some p =>
                have hpl := popGo_lt hp
                simp only [Option.map_some, Int.toNat_natCast]
                have hop : op = op.take p ++ op[p] :: op.drop (p + 1) := by
                  rw [← List.drop_eq_getElem_cons hpl, List.take_append_drop]
                have hg : op.getD p 0 = op[p] := by rw [List.getD_eq_getElem?_getD, List.getElem?_eq_getElem hpl]; rfl
                rw [hg]
                have hsub : (op.take p ++ (out ++ [(op[p], i)]).map (·.1)).Perm (op.take p ++ [op[p]] ++ out.map (·.1)) := by
                  rw [List.map_append, List.append_assoc]
                  exact List.Perm.append_left _ List.perm_append_comm
                refine ih (i + 1) (op.take p) (out ++ [(op[p], i)]) (by omega) (hsub.nodup_iff.2 ?_) ?_ (by simp; omega) (by simp; omega) (by simp; omega)
                · refine List.Sublist.nodup ?_ hnd
                  refine List.Sublist.append ?_ (List.Sublist.refl _)
                  conv => rhs; rw [hop]
                  refine List.Sublist.append (List.Sublist.refl _) ?_
                  exact List.Sublist.cons_cons _ (List.nil_sublist _)
                · intro x hx
                  have hp2 := (hsub.mem_iff).1 hx
                  simp only [List.mem_append, List.mem_singleton] at hp2
                  rcases hp2 with (hp2 | rfl) | hp2
                  · exact hlt' x (List.mem_append.2 (.inl (List.mem_of_mem_take hp2)))
                  · exact hlt' _ (List.mem_append.2 (.inl (List.getElem_mem hpl)))
                  · exact hlt' x (List.mem_append.2 (.inr hp2)))
          refine Ev.step (fun k => ?_) h
          simp only [PQ.parquetryref14_Find.j1]
          rw [if_neg (by decide), if_neg hk1, hzl, w64b (x := (op.length : Int) - 1) (by omega) (by omega)]
    by_cases ht : types.getD i 0 = 13
    · have hj := main (kd == 0) (.inr ht) (fun h => by simpa using h) (fun h => .inr (by simpa using h))
      refine Ev.step (f := fun k => (PQ.parquetryref03_Pair.f k (codes.getD i 0)).bind fun bt173 => PQ.parquetryref14_Find.j1 k types codes (out.map s31) (zInts op) (i : Int) bt173.1 (bt173.1 == 0)) (fun k => ?_) ?_
      · simp only [PQ.parquetryref14_Find.l0]
        rw [if_pos (by omega), if_pos (by omega), rdB, rdB]
        congr 1
        funext t
        rw [if_pos (by omega), if_pos ht]
      · refine Ev.bind (pair_ev _) ?_
        rw [← hkd]
        exact hj
    · have hj := main true (.inl rfl) (fun h => by cases h) (fun _ => .inl ht)
      refine Ev.step (f := fun k => (PQ.parquetryref03_Pair.f k (codes.getD i 0)).bind fun bt173 => PQ.parquetryref14_Find.j1 k types codes (out.map s31) (zInts op) (i : Int) bt173.1 true) (fun k => ?_) ?_
      · simp only [PQ.parquetryref14_Find.l0]
        rw [if_pos (by omega), if_pos (by omega), rdB, rdB]
        congr 1
        funext t
        rw [if_pos (by omega), if_neg ht]
      · refine Ev.bind (pair_ev _) ?_
        rw [← hkd]
        exact hj
theorem refFind_ev (types codes : List Int) (hc : codes.length ≤ 1048576) : Ev (fun k => PQ.parquetryref14_Find.f k types codes) (if types.length = codes.length then (pairsW types codes).map s31 else []) := by
  unfold PQ.parquetryref14_Find.f
  by_cases he : types.length = codes.length
  · rw [if_pos he]
    refine Ev.congr (fun k => if_pos (by omega)) ?_
    have := ref_l0 types codes he hc codes.length 0 [] [] (by omega) (by simp) (by simp) (by simp) (by simp) (by simp)
    unfold pairsW
    rw [he]
    exact this
  · rw [if_neg he]
    exact Ev.congr (fun k => if_neg (by omega)) (Ev.now _)
theorem sameQ (l : List Int) (hl : l.length ≤ 1048576) : Ev (fun k => PQ.parquetryref02_Same.f k l l) true := by
  have hloop : ∀ (d i : Nat), l.length - i = d → i ≤ l.length → Ev (fun k => PQ.parquetryref02_Same.l0 k l l (i : Int)) true := by
    intro d
    induction d with
    | zero =>
      intro i hd hi
      refine Ev.step (f := fun _ => some true) (fun k => ?_) (Ev.now _)
      simp only [PQ.parquetryref02_Same.l0]
      rw [if_neg (by omega)]
    | succ d ih =>
      intro i hd hi
      refine Ev.step (fun k => ?_) (ih (i + 1) (by omega) (by omega))
      simp only [PQ.parquetryref02_Same.l0]
      rw [if_pos (by omega), if_pos (by omega), if_pos (by omega), if_pos trivial, wsuccB _ (by omega)]
  refine Ev.congr (fun k => ?_) (hloop _ 0 rfl (Nat.zero_le _))
  unfold PQ.parquetryref02_Same.f
  rw [if_pos rfl]; rfl
theorem sameP (l : List PQ.S31) (hl : l.length ≤ 1048576) : Ev (fun k => PQ.parquetryref14_Same.f k l l) true := by
  have hloop : ∀ (d i : Nat), l.length - i = d → i ≤ l.length → Ev (fun k => PQ.parquetryref14_Same.l0 k l l (i : Int)) true := by
    intro d
    induction d with
    | zero =>
      intro i hd hi
      refine Ev.step (f := fun _ => some true) (fun k => ?_) (Ev.now _)
      simp only [PQ.parquetryref14_Same.l0]
      rw [if_neg (by omega)]
    | succ d ih =>
      intro i hd hi
      refine Ev.step (fun k => ?_) (ih (i + 1) (by omega) (by omega))
      simp only [PQ.parquetryref14_Same.l0]
      rw [if_pos (by omega), if_pos (by omega), if_pos (by omega), if_neg (by simp), wsuccB _ (by omega)]
  refine Ev.congr (fun k => ?_) (hloop _ 0 rfl (Nat.zero_le _))
  unfold PQ.parquetryref14_Same.f
  rw [if_pos rfl]; rfl
end Go.Proofs.YtdpifkhkemeclaaDoor
