/- The classes of any text's runes, in order, are the document's; they stay; under the bound that the law itself lays on its input. -/
import Derived.Test.YtfpibigfhhoiiaaDoorPBn
import Derived.Test.YtfpibigfhhoiiaaDoorPBx6
namespace Go.Proofs.YtfpibigfhhoiiaaDoor.Pure
open Go.RowKit Go.Proofs.YtfpibigfhhoiiaaDoor.PB Go.Proofs.YtfpibigfhhoiiaaDoorW.PrintWords Go.Proofs.YtfpibigfhhoiiaaDoorW.PrintLast
set_option linter.unusedVariables false
set_option linter.unusedSimpArgs false

theorem code_ex (c : Int) : ∃ b, parquetryref01_Code.f c = some b := by
  unfold parquetryref01_Code.f
  by_cases h1 : c ≥ 0
  · rw [if_pos h1]
    by_cases h2 : c ≤ 1114111
    · rw [if_pos h2]
      by_cases h3 : c < 55296
      · rw [if_pos h3]; exact ⟨_, rfl⟩
      · rw [if_neg h3]; exact ⟨_, rfl⟩
    · rw [if_neg h2]; exact ⟨_, rfl⟩
  · rw [if_neg h1]; exact ⟨_, rfl⟩
theorem bytes0_ex (c : Int) : ∃ r, Ev (fun k => parquetryref01_Bytes.j0 k c) r := by
  by_cases h1 : c < 128
  · exact ⟨_, Ev.step (f := fun _ => some _) (fun k => by simp only [parquetryref01_Bytes.j0]; rw [if_pos h1]) (Ev.now _)⟩
  · by_cases h2 : c < 2048
    · exact ⟨_, Ev.step (f := fun _ => some _) (fun k => by simp only [parquetryref01_Bytes.j0]; rw [if_neg h1, if_pos h2]) (Ev.now _)⟩
    · by_cases h3 : c < 65536
      · exact ⟨_, Ev.step (f := fun _ => some _) (fun k => by simp only [parquetryref01_Bytes.j0]; rw [if_neg h1, if_neg h2, if_pos h3]) (Ev.now _)⟩
      · exact ⟨_, Ev.step (f := fun _ => some _) (fun k => by simp only [parquetryref01_Bytes.j0]; rw [if_neg h1, if_neg h2, if_neg h3]) (Ev.now _)⟩
theorem bytes_ex (c : Int) : ∃ r, Ev (fun k => parquetryref01_Bytes.f k c) r := by
  obtain ⟨b, hb⟩ := code_ex c
  cases b with
  | true =>
    obtain ⟨r, hr⟩ := bytes0_ex c
    exact ⟨r, Ev.congr (fun k => by unfold parquetryref01_Bytes.f; rw [hb, Option.bind_some, if_pos rfl]) hr⟩
  | false =>
    obtain ⟨r, hr⟩ := bytes0_ex 65533
    exact ⟨r, Ev.congr (fun k => by unfold parquetryref01_Bytes.f; rw [hb, Option.bind_some, if_neg (by decide)]) hr⟩
def okR (a : ByteArray) (r : Int × Int) : Prop := 1 ≤ r.2 ∧ r.2 ≤ (a.size : Int)
theorem j2_ex (a : ByteArray) (c n : Int) (h0 : 0 < a.size) (hn : 1 ≤ n) : ∃ r, Ev (fun k => parquetryref01_first.j2 k a c n) r ∧ okR a r := by
  have hodd : okR a (65533, 1) := ⟨by decide, by show (1 : Int) ≤ _; omega⟩
  by_cases h1 : n ≤ (a.size : Int)
  · obtain ⟨b, hb⟩ := code_ex c
    cases b with
    | true =>
      obtain ⟨r, hr⟩ := bytes_ex c
      by_cases h2 : (strOfNums r).toList = (a.extract 0 n.toNat).toList
      · refine ⟨(c, n), Ev.step (f := fun k => (parquetryref01_Bytes.f k c).bind fun t => if (strOfNums t).toList = (a.extract 0 n.toNat).toList then some (c, n) else some (65533, 1)) (fun k => ?_) (Ev.bind hr (Ev.congr (fun k => if_pos h2) (Ev.now _))), hn, h1⟩
        simp only [parquetryref01_first.j2]
        rw [if_pos h1, hb, Option.bind_some, if_pos rfl]
        congr 1
        funext u
        rw [if_pos (show 0 ≤ n by omega)]
      · refine ⟨(65533, 1), Ev.step (f := fun k => (parquetryref01_Bytes.f k c).bind fun t => if (strOfNums t).toList = (a.extract 0 n.toNat).toList then some (c, n) else some (65533, 1)) (fun k => ?_) (Ev.bind hr (Ev.congr (fun k => if_neg h2) (Ev.now _))), hodd⟩
        simp only [parquetryref01_first.j2]
        rw [if_pos h1, hb, Option.bind_some, if_pos rfl]
        congr 1
        funext u
        rw [if_pos (show 0 ≤ n by omega)]
    | false =>
      refine ⟨(65533, 1), Ev.step (f := fun _ => some (65533, 1)) (fun k => ?_) (Ev.now _), hodd⟩
      simp only [parquetryref01_first.j2]
      rw [if_pos h1, hb, Option.bind_some, if_neg (by decide)]
  · refine ⟨(65533, 1), Ev.step (f := fun _ => some (65533, 1)) (fun k => ?_) (Ev.now _), hodd⟩
    simp only [parquetryref01_first.j2]
    rw [if_neg h1]
theorem l0_ex (a : ByteArray) (n : Int) (h0 : 0 < a.size) (hn : 1 ≤ n) (hn4 : n ≤ 4) : ∀ (d : Nat) (i c : Int), 1 ≤ i → n - i ≤ d → i ≤ 4 → ∃ r, Ev (fun k => parquetryref01_first.l0 k a c n i) r ∧ okR a r := by
  intro d
  induction d with
  | zero =>
    intro i c h1 hd h4
    obtain ⟨r, hr, ho⟩ := j2_ex a c n h0 hn
    refine ⟨r, Ev.step (fun k => ?_) hr, ho⟩
    simp only [parquetryref01_first.l0]
    rw [if_neg (by omega)]
  | succ d ih =>
    intro i c h1 hd h4
    by_cases hin : i < n
    · by_cases his : i < (a.size : Int)
      · obtain ⟨r, hr, ho⟩ := ih (i + 1) (wrap64 ((wrap64 (64 * c)) + (Int.tmod (wrap64 (bt a i)) 64))) (by omega) (by omega) (by omega)
        refine ⟨r, Ev.step (fun k => ?_) hr, ho⟩
        simp only [parquetryref01_first.l0]
        rw [if_pos hin, if_pos his, if_pos (by omega), w64b (x := i + 1) (by omega) (by omega)]
      · obtain ⟨r, hr, ho⟩ := j2_ex a c n h0 hn
        refine ⟨r, Ev.step (fun k => ?_) hr, ho⟩
        simp only [parquetryref01_first.l0]
        rw [if_pos hin, if_neg his]
    · obtain ⟨r, hr, ho⟩ := j2_ex a c n h0 hn
      refine ⟨r, Ev.step (fun k => ?_) hr, ho⟩
      simp only [parquetryref01_first.l0]
      rw [if_neg hin]
theorem first0_ex (a : ByteArray) (c n : Int) (h0 : 0 < a.size) (hn : 1 ≤ n) (hn4 : n ≤ 4) : ∃ r, Ev (fun k => parquetryref01_first.j0 k a c n) r ∧ okR a r := by
  obtain ⟨r, hr, ho⟩ := l0_ex a n h0 hn hn4 4 1 c (by decide) (by omega) (by decide)
  exact ⟨r, Ev.step (fun k => by simp only [parquetryref01_first.j0]) hr, ho⟩
theorem first_ex (a : ByteArray) (h0 : 0 < a.size) : ∃ r, Ev (fun k => parquetryref01_first.f k a) r ∧ okR a r := by
  have hp : 0 < (a.size : Int) := by omega
  by_cases h1 : wrap64 (bt a 0) ≥ 240
  · obtain ⟨r, hr, ho⟩ := first0_ex a (wrap64 ((wrap64 (bt a 0)) - 240)) 4 h0 (by decide) (by decide)
    exact ⟨r, Ev.congr (fun k => by unfold parquetryref01_first.f; rw [if_pos hp, if_pos h1]) hr, ho⟩
  · by_cases h2 : wrap64 (bt a 0) ≥ 224
    · obtain ⟨r, hr, ho⟩ := first0_ex a (wrap64 ((wrap64 (bt a 0)) - 224)) 3 h0 (by decide) (by decide)
      exact ⟨r, Ev.congr (fun k => by unfold parquetryref01_first.f; rw [if_pos hp, if_neg h1, if_pos h2]) hr, ho⟩
    · by_cases h3 : wrap64 (bt a 0) ≥ 192
      · obtain ⟨r, hr, ho⟩ := first0_ex a (wrap64 ((wrap64 (bt a 0)) - 192)) 2 h0 (by decide) (by decide)
        exact ⟨r, Ev.congr (fun k => by unfold parquetryref01_first.f; rw [if_pos hp, if_neg h1, if_neg h2, if_pos h3]) hr, ho⟩
      · obtain ⟨r, hr, ho⟩ := first0_ex a (wrap64 (bt a 0)) 1 h0 (by decide) (by decide)
        exact ⟨r, Ev.congr (fun k => by unfold parquetryref01_first.f; rw [if_pos hp, if_neg h1, if_neg h2, if_neg h3]) hr, ho⟩
theorem split_ex (a : ByteArray) (hs : a.size ≤ 1048576) : ∃ t : List S77, Ev (fun k => parquetryref01_Split.f k a) t ∧ t.length ≤ a.size := by
  have hloop : ∀ (d i : Nat) (o : List S77), a.size - i ≤ d → i ≤ a.size → o.length ≤ i → ∃ t : List S77, Ev (fun k => parquetryref01_Split.l0 k a o (i : Int)) t ∧ t.length ≤ a.size := by
    intro d
    induction d with
    | zero =>
      intro i o hd hi ho
      refine ⟨o, Ev.step (f := fun _ => some o) (fun k => ?_) (Ev.now _), by omega⟩
      simp only [parquetryref01_Split.l0]
      rw [if_neg (by omega)]
    | succ d ih =>
      intro i o hd hi ho
      by_cases hlt : i < a.size
      · have hsz : (a.extract i a.size).size = a.size - i := by rw [ByteArray.size_extract]; omega
        obtain ⟨r, hr, ho1, ho2⟩ := first_ex (a.extract i a.size) (by omega)
        rw [hsz] at ho2
        obtain ⟨n, hn⟩ := Int.eq_ofNat_of_zero_le (show 0 ≤ r.2 by omega)
        obtain ⟨t, ht, hl⟩ := ih (i + n) (o ++ [⟨(i : Int), r.2, r.1⟩]) (by omega) (by omega) (by simp; omega)
        refine ⟨t, Ev.step (f := fun k => (parquetryref01_first.f k (a.extract i a.size)).bind fun b => if o.length < 5864062014805 then parquetryref01_Split.l0 k a (o ++ [(⟨(i : Int), b.2, b.1⟩ : S77)]) (wrap64 ((i : Int) + b.2)) else none) (fun k => ?_) ?_, hl⟩
        · simp only [parquetryref01_Split.l0]
          rw [if_pos (by omega), if_pos (by omega), if_pos (by omega), Int.toNat_natCast]
        · refine Ev.bind hr ?_
          have hw : wrap64 ((i : Int) + r.2) = ((i + n : Nat) : Int) := by rw [hn, w64b (by omega) (by omega)]; rfl
          rw [hw]
          exact Ev.congr (fun k => if_pos (by omega)) ht
      · refine ⟨o, Ev.step (f := fun _ => some o) (fun k => ?_) (Ev.now _), by omega⟩
        simp only [parquetryref01_Split.l0]
        rw [if_neg (by omega)]
  exact hloop a.size 0 [] (by omega) (Nat.zero_le _) (by simp)
def allP (t : List S77) : List Int := t.map fun x => ofP x.f2
theorem take77 (t : List S77) (i : Nat) (h : i < t.length) : allP (t.take (i + 1)) = allP (t.take i) ++ [ofP (rd_T77 t (i : Int)).f2] := by
  have e : rd_T77 t (i : Int) = t[i] := by simp [rd_T77, List.getElem?_eq_getElem h]
  rw [List.take_succ_eq_append_getElem h, e]
  unfold allP
  rw [List.map_append, List.map_cons, List.map_nil]
theorem all_ev (t : List S77) (ht : t.length ≤ 1048576) : Ev (fun k => class_All.f k t) (allP t) := by
  have hloop : ∀ (d i : Nat), t.length - i = d → i ≤ t.length → Ev (fun k => class_All.l0 k (allP (t.take i)) t (t.length : Int) (i : Int)) (allP t) := by
    intro d
    induction d with
    | zero =>
      intro i hd hi
      rw [List.take_of_length_le (by omega)]
      refine Ev.step (f := fun _ => some (allP t)) (fun k => ?_) (Ev.now _)
      simp only [class_All.l0]
      rw [if_neg (by omega)]
    | succ d ih =>
      intro i hd hi
      have hlt : i < t.length := by omega
      have hl : (allP (t.take i)).length = i := by simp [allP]; omega
      refine Ev.step (fun k => ?_) (ih (i + 1) (by omega) (by omega))
      simp only [class_All.l0]
      rw [if_pos (by omega), if_pos (by omega), if_pos (by omega), take77 t i hlt, w64b (by omega) (by omega)]
      show (if (allP (t.take i)).length < 17592186044416 then _ else _) = _
      rw [if_pos (by omega)]
      rfl
  exact hloop _ 0 rfl (Nat.zero_le _)
theorem refAll_ev (t : List S77) (ht : t.length ≤ 1048576) : Ev (fun k => parquetryref02_All.f k t) (allP t) := by
  have hloop : ∀ (d i : Nat), t.length - i = d → i ≤ t.length → Ev (fun k => parquetryref02_All.l0 k t (allP (t.take i)) (i : Int)) (allP t) := by
    intro d
    induction d with
    | zero =>
      intro i hd hi
      rw [List.take_of_length_le (by omega)]
      refine Ev.step (f := fun _ => some (allP t)) (fun k => ?_) (Ev.now _)
      simp only [parquetryref02_All.l0]
      rw [if_neg (by omega)]
    | succ d ih =>
      intro i hd hi
      have hlt : i < t.length := by omega
      have hl : (allP (t.take i)).length = i := by simp [allP]; omega
      refine Ev.step (f := fun k => (parquetryref02_Of.f k (rd_T77 t (i : Int)).f2).bind fun u => parquetryref02_All.l0 k t (allP (t.take i) ++ [u]) ((i + 1 : Nat) : Int)) (fun k => ?_) ?_
      · simp only [parquetryref02_All.l0]
        rw [if_pos (by omega), if_pos (by omega), w64b (by omega) (by omega)]
        congr 1
        funext u
        rw [if_pos (by omega)]
        rfl
      · refine Ev.bind (refOf_is _) ?_
        have := ih (i + 1) (by omega) (by omega)
        rwa [take77 t i hlt] at this
  exact hloop _ 0 rfl (Nat.zero_le _)
theorem same77 (t : List S77) (ht : t.length ≤ 1048576) : Ev (fun k => parquetryref01_Same.f k t t) true := by
  have hloop : ∀ (d i : Nat), t.length - i = d → i ≤ t.length → Ev (fun k => parquetryref01_Same.l0 k t t (i : Int)) true := by
    intro d
    induction d with
    | zero =>
      intro i hd hi
      refine Ev.step (f := fun _ => some true) (fun k => ?_) (Ev.now _)
      simp only [parquetryref01_Same.l0]
      rw [if_neg (by omega)]
    | succ d ih =>
      intro i hd hi
      refine Ev.step (fun k => ?_) (ih (i + 1) (by omega) (by omega))
      simp only [parquetryref01_Same.l0]
      rw [if_pos (by omega), if_pos (by omega), if_pos (by omega), if_neg (by simp), w64b (by omega) (by omega)]
      rfl
  refine Ev.congr (fun k => ?_) (hloop _ 0 rfl (Nat.zero_le _))
  unfold parquetryref01_Same.f
  rw [if_pos rfl]; rfl
theorem ClassAll : parquetrylaw02_ClassAll.Pure := by
  intro a _
  apply Ev.rounds
  unfold parquetrylaw02_ClassAll.f
  by_cases h : (a.size : Int) > 1000
  · simp only [if_pos h]
    exact Ev.bind awake2_ev (Ev.now _)
  · simp only [if_neg h]
    obtain ⟨t, ht, hl⟩ := split_ex a (by omega)
    refine Ev.bind ht (Ev.bind (all_ev t (by omega)) (Ev.bind ht (Ev.bind (refAll_ev t (by omega)) (Ev.bind (same2_self _ (by simp [allP]; omega)) ?_))))
    simp only [if_true]
    refine Ev.bind ht (Ev.bind (same77 t (by omega)) ?_)
    simp only [if_true]
    exact Ev.bind awake2_ev (Ev.now _)
end Go.Proofs.YtfpibigfhhoiiaaDoor.Pure
