/- Classes that were printed are read as they were; what any text was read as is printed as that text; under the bounds that the law itself lays on its input. -/
import Derived.Test.YtfpibigfhhoiiaaDoorPureClassReads
import Derived.Test.YtfpibigfhhoiiaaDoorPureClassPrints
import Derived.Test.YtfpibigfhhoiiaaDoorPBx4
namespace Go.Proofs.YtfpibigfhhoiiaaDoor.Pure
open Go.RowKit Go.Proofs.YtfpibigfhhoiiaaDoor.PB Go.Proofs.YtfpibigfhhoiiaaDoorW.PrintWords Go.Proofs.YtfpibigfhhoiiaaDoorW.PrintLast
set_option linter.unusedVariables false
set_option linter.unusedSimpArgs false

theorem like2_self (l : List Int) (hl : l.length ≤ 1048576) : Ev (fun k => parquetrylaw02_like.f k l l) true := by
  have hloop : ∀ (d i : Nat), l.length - i = d → i ≤ l.length → Ev (fun k => parquetrylaw02_like.l0 k l l (i : Int)) true := by
    intro d
    induction d with
    | zero =>
      intro i hd hi
      refine Ev.step (f := fun _ => some true) (fun k => ?_) (Ev.now _)
      simp only [parquetrylaw02_like.l0]
      rw [if_neg (by omega)]
    | succ d ih =>
      intro i hd hi
      refine Ev.step (fun k => ?_) (ih (i + 1) (by omega) (by omega))
      simp only [parquetrylaw02_like.l0]
      rw [if_pos (by omega), if_pos (by omega), if_pos (by omega), if_pos trivial, w64b (by omega) (by omega)]
      rfl
  refine Ev.congr (fun k => ?_) (hloop _ 0 rfl (Nat.zero_le _))
  unfold parquetrylaw02_like.f
  rw [if_pos rfl]; rfl
def nm (c : Int) : List UInt8 := (nameOf c).data.toList
theorem nm_tab : ((List.range 23).all fun n => !((nm n).contains 32)) = true := by kernel_rfl
theorem nm_no (c : Int) (h : isClass c = true) : 32 ∉ nm c := by
  rw [isClass_iff] at h
  obtain ⟨n, rfl⟩ := Int.eq_ofNat_of_zero_le h.1
  have := List.all_eq_true.1 nm_tab n (List.mem_range.2 (by omega))
  simpa using this
theorem nm_ix (c : Int) (h : isClass c = true) : ixD (nm c) = c := by
  rw [isClass_iff] at h
  obtain ⟨n, rfl⟩ := Int.eq_ofNat_of_zero_le h.1
  exact ix_hit n (by omega)
theorem ix_nm (p : List UInt8) (h : 0 ≤ ixD p) : nm (ixD p) = p ∧ isClass (ixD p) = true := by
  refine ⟨?_, (isClass_iff _).2 ⟨h, ix_le p⟩⟩
  by_cases hex : ∃ n : Nat, n < 23 ∧ (nameOf n).data.toList = p
  · obtain ⟨n, hn, rfl⟩ := hex
    rw [ix_hit n hn]
    rfl
  · have := ix_miss p (fun n hn he => hex ⟨n, hn, he⟩)
    omega
theorem split_print (c : Int) (l : List Int) (hc : isClass c = true) (h : l.all isClass = true) : splitSp (printL (c :: l)) = (c :: l).map nm := by
  induction l generalizing c with
  | nil =>
    have : printL [c] = nm c := by unfold printL; rw [List.map_cons, List.map_nil, Lib.join_one]; rfl
    rw [this, splitSp_none _ (nm_no c hc)]
    rfl
  | cons d r ih =>
    rw [List.all_cons, Bool.and_eq_true] at h
    have e : printL (c :: d :: r) = nm c ++ 32 :: printL (d :: r) := by
      unfold printL Lib.join
      simp only [List.map_cons, List.intercalate_cons_cons, List.append_assoc, List.singleton_append]
      rfl
    rw [e, splitSp_app _ _ (nm_no c hc), ih d h.1 h.2]
    rfl
theorem read_print (l : List Int) (h : l.all isClass = true) : readP ⟨(printL l).toArray⟩ = (l, true) := by
  cases l with
  | nil => rfl
  | cons c r =>
    rw [List.all_cons, Bool.and_eq_true] at h
    have hs := split_print c r h.1 h.2
    have hne : ¬ (⟨(printL (c :: r)).toArray⟩ : ByteArray).size = 0 := by
      intro h0
      have hl : printL (c :: r) = [] := by
        have : (printL (c :: r)).toArray.size = 0 := h0
        exact List.eq_nil_of_length_eq_zero (by simpa using this)
      rw [hl] at hs
      have h1 : nm c = [] := by
        simp only [splitSp, List.map_cons] at hs
        exact (List.cons.inj hs).1.symm
      have := (name_nat c h.1).2
      have e : (nameOf c).size = (nm c).length := rfl
      rw [h1, List.length_nil] at e
      omega
    unfold readP
    rw [if_neg hne]
    unfold readL
    rw [show (⟨(printL (c :: r)).toArray⟩ : ByteArray).data.toList = printL (c :: r) from rfl, hs]
    have hm : ∀ x ∈ c :: r, ixD (nm x) = x := by
      intro x hx
      rcases List.mem_cons.1 hx with rfl | hx
      · exact nm_ix _ h.1
      · exact nm_ix _ (List.all_eq_true.1 h.2 x hx)
    have hm2 : ((c :: r).map nm).map ixD = c :: r := by
      rw [List.map_map]
      conv => rhs; rw [← List.map_id (c :: r)]
      exact List.map_congr_left fun x hx => hm x hx
    have hall : ((c :: r).map nm).all (fun p => decide (0 ≤ ixD p)) = true := by
      rw [List.all_eq_true]
      intro p hp
      obtain ⟨x, hx, rfl⟩ := List.mem_map.1 hp
      rw [hm x hx]
      rcases List.mem_cons.1 hx with rfl | hx
      · exact decide_eq_true ((isClass_iff _).1 h.1).1
      · exact decide_eq_true ((isClass_iff _).1 (List.all_eq_true.1 h.2 x hx)).1
    rw [if_pos hall, hm2]
theorem join_split (s : List UInt8) : Lib.join (splitSp s) [32] = s := by
  unfold Lib.join
  induction s with
  | nil => rfl
  | cons c r ih =>
    unfold splitSp
    have hne := splitSp_ne r
    by_cases hc : c = 32
    · rw [if_pos hc, hc]
      cases hq : splitSp r with
      | nil => exact absurd hq hne
      | cons p ps =>
        rw [hq] at ih
        rw [List.intercalate_cons_cons, ih]
        rfl
    · rw [if_neg hc]
      cases hq : splitSp r with
      | nil => exact absurd hq hne
      | cons p ps =>
        rw [hq] at ih
        cases ps with
        | nil =>
          rw [List.intercalate_singleton] at ih
          show List.intercalate [32] [c :: p] = c :: r
          rw [List.intercalate_singleton, ih]
        | cons q qs =>
          rw [List.intercalate_cons_cons] at ih
          show List.intercalate [32] ((c :: p) :: q :: qs) = c :: r
          rw [List.intercalate_cons_cons, ← ih]
          simp
theorem print_read (a : ByteArray) (h : (readP a).2 = true) : printP (readP a).1 = (a, true) := by
  unfold readP at h ⊢
  by_cases h0 : a.size = 0
  · rw [if_pos h0]
    have : a = ⟨#[]⟩ := by
      apply bytes_ext
      exact List.eq_nil_of_length_eq_zero h0
    rw [this]
    rfl
  · rw [if_neg h0] at h ⊢
    unfold readL at h ⊢
    by_cases hall : (splitSp a.data.toList).all (fun p => decide (0 ≤ ixD p)) = true
    · rw [if_pos hall]
      have hp : ∀ p ∈ splitSp a.data.toList, nm (ixD p) = p ∧ isClass (ixD p) = true := fun p hp => ix_nm p (of_decide_eq_true (List.all_eq_true.1 hall p hp))
      have hcl : ((splitSp a.data.toList).map ixD).all isClass = true := by
        rw [List.all_eq_true]
        intro c hc
        obtain ⟨p, hp', rfl⟩ := List.mem_map.1 hc
        exact (hp p hp').2
      unfold printP
      rw [if_pos hcl]
      have e : printL ((splitSp a.data.toList).map ixD) = a.data.toList := by
        unfold printL
        rw [List.map_map]
        have : (splitSp a.data.toList).map ((fun c => (nameOf c).data.toList) ∘ ixD) = splitSp a.data.toList := by
          conv => rhs; rw [← List.map_id (splitSp a.data.toList)]
          exact List.map_congr_left fun p hp' => (hp p hp').1
        rw [this, join_split]
      rw [e]
    · rw [if_neg hall] at h
      cases h
theorem readP_no (a : ByteArray) (h : (readP a).2 = false) : (readP a).1 = [] := by
  unfold readP at h ⊢
  by_cases h0 : a.size = 0
  · rw [if_pos h0] at h; cases h
  · rw [if_neg h0] at h ⊢
    unfold readL at h ⊢
    by_cases hall : (splitSp a.data.toList).all (fun p => decide (0 ≤ ixD p)) = true
    · rw [if_pos hall] at h; cases h
    · rw [if_neg hall]
theorem back_ev (a : ByteArray) (h : a.size ≤ 1000) : Ev (fun k => parquetrylaw02_ClassBack.j1 k a) true := by
  have hl := readP_len a
  cases hr : (readP a).2 with
  | true =>
    have hp := print_read a hr
    refine Ev.step (f := fun _ => some true) (fun k => ?_) (Ev.now _)
    simp only [parquetrylaw02_ClassBack.j1]
    rw [read_is a (by omega), Option.bind_some, if_pos hr, print_is _ (by omega), Option.bind_some, hp, if_pos rfl, if_pos rfl]
    rfl
  | false =>
    have hp := readP_no a hr
    refine Ev.step (f := fun _ => some true) (fun k => ?_) (Ev.now _)
    simp only [parquetrylaw02_ClassBack.j1]
    rw [read_is a (by omega), Option.bind_some, if_neg (by rw [hr]; decide), hp, if_pos (by rfl)]
    rfl
theorem ClassBack : parquetrylaw02_ClassBack.Pure := by
  intro l a _ _ _ _
  apply Ev.rounds
  unfold parquetrylaw02_ClassBack.f
  have htrue : Ev (fun k => parquetrylaw02_ClassBack.j0 k l a true) true := by
    refine Ev.step (f := fun _ => some true) (fun k => ?_) (Ev.now _)
    simp only [parquetrylaw02_ClassBack.j0]
    rfl
  by_cases h : (l.length : Int) > 300
  · simp only [if_pos h]
    exact htrue
  · simp only [if_neg h]
    by_cases h2 : (a.size : Int) > 1000
    · rw [decide_eq_true h2]
      exact htrue
    · rw [decide_eq_false h2]
      have hb := back_ev a (by omega)
      by_cases hall : l.all isClass = true
      · have hp : printP l = (⟨(printL l).toArray⟩, true) := if_pos hall
        have hlen := printL_len l
        have hsz : (⟨(printL l).toArray⟩ : ByteArray).size = (printL l).length := by simp [ByteArray.size]
        have hsz2 : (⟨(printL l).toArray⟩ : ByteArray).size ≤ 1048576 := by rw [hsz]; omega
        refine Ev.step (f := fun k => (parquetrylaw02_like.f k l l).bind fun t => if t = true then parquetrylaw02_ClassBack.j1 k a else some false) (fun k => ?_) ?_
        · simp only [parquetrylaw02_ClassBack.j0]
          rw [if_neg (by decide), print_is l (by omega), Option.bind_some, hp, if_pos rfl, read_is _ hsz2, Option.bind_some, read_print l hall, if_pos rfl]
        · refine Ev.bind (like2_self l (by omega)) ?_
          exact Ev.congr (fun k => if_pos rfl) hb
      · have hp : printP l = (⟨#[]⟩, false) := if_neg hall
        refine Ev.step (fun k => ?_) hb
        simp only [parquetrylaw02_ClassBack.j0]
        rw [if_neg (by decide), print_is l (by omega), Option.bind_some, hp, if_neg (by decide)]
end Go.Proofs.YtfpibigfhhoiiaaDoor.Pure
