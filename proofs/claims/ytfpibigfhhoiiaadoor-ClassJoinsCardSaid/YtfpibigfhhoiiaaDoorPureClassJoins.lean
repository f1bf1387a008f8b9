/- Behind a valid text another one's classes stand as they do alone; each class is one of the 23; under the bounds that the law itself lays on its input. -/
import Derived.Test.YtfpibigfhhoiiaaDoorPJx1
import Derived.Test.YtfpibigfhhoiiaaDoorPJs
namespace Go.Proofs.YtfpibigfhhoiiaaDoor.Pure
open Go.RowKit Go.Proofs.YtfpibigfhhoiiaaDoor.PJ Go.Proofs.YtfpibigfhhoiiaaDoorW.PrintWords Go.Proofs.YtfpibigfhhoiiaaDoorW.PrintLast
set_option linter.unusedVariables false
set_option linter.unusedSimpArgs false

theorem w64j {x : Int} (h0 : -9223372036854775808 ≤ x) (h1 : x ≤ 9223372036854775807) : wrap64 x = x := by
  unfold wrap64; omega
theorem awakeJ_ev : Ev (fun _ => parquetrylaw02_awake.f) true := Ev.now _
theorem cls_tab : (spanL.all fun x => decide (0 ≤ x.2.2) && decide (x.2.2 ≤ 22)) = true := by kernel_rfl
theorem ofP_range (c : Int) : 0 ≤ ofP c ∧ ofP c ≤ 22 := by
  unfold ofP
  split
  · unfold clS
    rw [List.getD_eq_getElem?_getD]
    cases hx : spanL[bs c]? with
    | none => simp
    | some x =>
      have := List.all_eq_true.1 cls_tab x (List.mem_of_getElem? hx)
      simpa using this
  · exact ⟨Int.le_refl _, by decide⟩
def allJ (t : List S77) : List Int := t.map fun x => ofP x.f2
theorem allJ_codes (t : List S77) : allJ t = (codes t).map ofP := by simp [allJ, codes]
theorem takeJ (t : List S77) (i : Nat) (h : i < t.length) : allJ (t.take (i + 1)) = allJ (t.take i) ++ [ofP (rd_T77 t (i : Int)).f2] := by
  have e : rd_T77 t (i : Int) = t[i] := by simp [rd_T77, List.getElem?_eq_getElem h]
  rw [List.take_succ_eq_append_getElem h, e]
  unfold allJ
  rw [List.map_append, List.map_cons, List.map_nil]
theorem allJ_ev (t : List S77) (ht : t.length ≤ 1048576) : Ev (fun k => class_All.f k t) (allJ t) := by
  have hloop : ∀ (d i : Nat), t.length - i = d → i ≤ t.length → Ev (fun k => class_All.l0 k (allJ (t.take i)) t (t.length : Int) (i : Int)) (allJ t) := by
    intro d
    induction d with
    | zero =>
      intro i hd hi
      rw [List.take_of_length_le (by omega)]
      refine Ev.step (f := fun _ => some (allJ t)) (fun k => ?_) (Ev.now _)
      simp only [class_All.l0]
      rw [if_neg (by omega)]
    | succ d ih =>
      intro i hd hi
      have hlt : i < t.length := by omega
      have hl : (allJ (t.take i)).length = i := by simp [allJ]; omega
      refine Ev.step (fun k => ?_) (ih (i + 1) (by omega) (by omega))
      simp only [class_All.l0]
      rw [if_pos (by omega), if_pos (by omega), if_pos (by omega), takeJ t i hlt, w64j (by omega) (by omega)]
      show (if (allJ (t.take i)).length < 17592186044416 then _ else _) = _
      rw [if_pos (by omega)]
      rfl
  exact hloop _ 0 rfl (Nat.zero_le _)
theorem likeJ_self (l : List Int) (hl : l.length ≤ 1048576) : Ev (fun k => parquetrylaw02_like.f k l l) true := by
  have hloop : ∀ (d i : Nat), l.length - i = d → i ≤ l.length → Ev (fun k => parquetrylaw02_like.l0 k l l (i : Int)) true := by
    intro d
    induction d with
    | zero =>
      intro i hd hi
      refine Ev.step (f := fun _ => some true) (fun k => ?_) (Ev.now _)
      simp only [parquetrylaw02_like.l0]
      rw [if_neg (by omega)]
    | succ d ih =>
      intro i hd hi
      refine Ev.step (fun k => ?_) (ih (i + 1) (by omega) (by omega))
      simp only [parquetrylaw02_like.l0]
      rw [if_pos (by omega), if_pos (by omega), if_pos (by omega), if_pos trivial, w64j (by omega) (by omega)]
      rfl
  refine Ev.congr (fun k => ?_) (hloop _ 0 rfl (Nat.zero_le _))
  unfold parquetrylaw02_like.f
  rw [if_pos rfl]; rfl
def spl (a : ByteArray) : List S77 := splN a a.size 0
theorem spl_is (a : ByteArray) (h : a.size ≤ 1048576) : runes_Split.f a = some (spl a) := if_pos h
theorem spl_len (a : ByteArray) : (spl a).length ≤ a.size := splN_len a a.size 0
theorem valid_ev (a : ByteArray) (h : a.size ≤ 1048576) : ∃ b, Ev (fun k => runes_Valid.f k a) b ∧ (b = true → ∀ x ∈ spl a, okX x) := by
  have hl := spl_len a
  have hloop : ∀ (d i : Nat), (spl a).length - i = d → i ≤ (spl a).length → ∃ b, Ev (fun k => runes_Valid.l0 k (spl a) ((spl a).length : Int) (i : Int)) b ∧ (b = true → ∀ x ∈ (spl a).drop i, okX x) := by
    intro d
    induction d with
    | zero =>
      intro i hd hi
      refine ⟨true, Ev.step (f := fun _ => some true) (fun k => ?_) (Ev.now _), fun _ x hx => ?_⟩
      · simp only [runes_Valid.l0]
        rw [if_neg (by omega)]
      · rw [List.drop_of_length_le (by omega)] at hx
        exact absurd hx (by simp)
    | succ d ih =>
      intro i hd hi
      have hlt : i < (spl a).length := by omega
      have e : rd_T77 (spl a) (i : Int) = (spl a)[i] := by simp [rd_T77, List.getElem?_eq_getElem hlt]
      have hw : wrap64 ((i : Int) + 1) = ((i + 1 : Nat) : Int) := by rw [w64j (by omega) (by omega)]; rfl
      obtain ⟨b, hb, hok⟩ := ih (i + 1) (by omega) (by omega)
      rw [List.drop_eq_getElem_cons hlt]
      by_cases h1 : (spl a)[i].f2 = 65533
      · by_cases h2 : (spl a)[i].f1 = 1
        · refine ⟨false, Ev.step (f := fun _ => some false) (fun k => ?_) (Ev.now _), fun hf => by cases hf⟩
          simp only [runes_Valid.l0]
          rw [if_pos (by omega), if_pos (by omega), if_pos (by omega), e, if_pos h1, if_pos h2]
        · refine ⟨b, Ev.step (fun k => ?_) hb, fun ht x hx => ?_⟩
          · simp only [runes_Valid.l0]
            rw [if_pos (by omega), if_pos (by omega), if_pos (by omega), e, if_pos h1, if_neg h2, hw]
          · rcases List.mem_cons.1 hx with rfl | hx
            · exact fun hh => h2 hh.2
            · exact hok ht x hx
      · refine ⟨b, Ev.step (fun k => ?_) hb, fun ht x hx => ?_⟩
        · simp only [runes_Valid.l0]
          rw [if_pos (by omega), if_pos (by omega), if_pos (by omega), e, if_neg h1, hw]
        · rcases List.mem_cons.1 hx with rfl | hx
          · exact fun hh => h1 hh.1
          · exact hok ht x hx
  obtain ⟨b, hb, hok⟩ := hloop _ 0 rfl (Nat.zero_le _)
  refine ⟨b, Ev.congr (fun k => ?_) hb, hok⟩
  unfold runes_Valid.f
  rw [spl_is a h, Option.bind_some]
  rfl
theorem spl_join (a b : ByteArray) (h : ∀ x ∈ spl a, okX x) : allJ (spl (a ++ b)) = allJ (spl a) ++ allJ (spl b) := by
  rw [allJ_codes, allJ_codes, allJ_codes, ← List.map_append]
  congr 1
  exact codes_join a b a.size 0 (a ++ b).size (by omega) (Nat.zero_le _) (by omega) h
theorem ends_ev (a : ByteArray) (ha : a.size ≤ 1000) (x y z : List Int) (hz : z = x ++ y) (hx : x.length = (spl a).length) (hr : ∀ c ∈ z, 0 ≤ c ∧ c ≤ 22) (hzl : z.length ≤ 1048576) :
    ∀ (d i : Nat), z.length - i = d → i ≤ z.length → Ev (fun k => parquetrylaw02_ClassJoins.l0 k a x y z (i : Int)) true := by
  intro d
  induction d with
  | zero =>
    intro i hd hi
    have hl := likeJ_self z hzl
    have hlen : z.length = x.length + y.length := by rw [hz, List.length_append]
    refine Ev.step (f := fun k => (parquetrylaw02_like.f k z z).bind fun t => if t = true then some true else some false) (fun k => ?_) (Ev.bind hl (Ev.congr (fun k => if_pos rfl) (Ev.now true)))
    simp only [parquetrylaw02_ClassJoins.l0]
    rw [if_neg (by omega), Option.bind_some, List.nil_append, List.length_nil, if_pos (by omega), Option.bind_some, if_pos (by omega), ← hz, spl_is a (by omega), Option.bind_some, if_pos (by omega)]
    rfl
  | succ d ih =>
    intro i hd hi
    have hlt : i < z.length := by omega
    have hc := hr _ (List.getElem_mem hlt)
    have e : rd z (i : Int) = z[i] := by simp [rd, List.getElem?_eq_getElem hlt]
    refine Ev.step (fun k => ?_) (ih (i + 1) (by omega) (by omega))
    simp only [parquetrylaw02_ClassJoins.l0]
    rw [if_pos (by omega), if_pos (by omega), e, if_neg (by omega), if_neg (by omega), w64j (by omega) (by omega)]
    rfl
theorem ClassJoins : parquetrylaw02_ClassJoins.Pure := by
  intro a b _ _
  apply Ev.rounds
  unfold parquetrylaw02_ClassJoins.f
  have htrue : Ev (fun k => parquetrylaw02_ClassJoins.j0 k a b true) true := by
    refine Ev.step (f := fun _ => some true) (fun k => ?_) (Ev.now _)
    simp only [parquetrylaw02_ClassJoins.j0]
    rfl
  by_cases h : (a.size : Int) > 1000
  · simp only [if_pos h]
    exact htrue
  · simp only [if_neg h]
    by_cases h2 : (b.size : Int) > 1000
    · simp only [if_pos h2]
      exact htrue
    · simp only [if_neg h2]
      obtain ⟨v, hv, hok⟩ := valid_ev a (by omega)
      refine Ev.bind hv ?_
      cases v with
      | false => exact htrue
      | true =>
        have hj := spl_join a b (hok rfl)
        have l1 := spl_len a
        have l2 := spl_len b
        have l3 := spl_len (a ++ b)
        rw [app_size] at l3
        refine Ev.step (f := fun k => (class_All.f k (spl a)).bind fun t119 => (class_All.f k (spl b)).bind fun t125 => (class_All.f k (spl (a ++ b))).bind fun t131 => parquetrylaw02_ClassJoins.l0 k a t119 t125 t131 0) (fun k => ?_) ?_
        · simp only [parquetrylaw02_ClassJoins.j0]
          rw [if_neg (by decide), spl_is a (by omega), Option.bind_some, spl_is b (by omega), spl_is (a ++ b) (by rw [app_size]; omega)]
          simp only [Option.bind_some, if_pos (show a.size + b.size ≤ 9223372036854775807 by omega)]
        · refine Ev.bind (allJ_ev (spl a) (by omega)) (Ev.bind (allJ_ev (spl b) (by omega)) (Ev.bind (allJ_ev (spl (a ++ b)) (by omega)) ?_))
          refine ends_ev a (by omega) _ _ _ hj (by simp [allJ]) (fun c hc => ?_) (by simp [allJ]; omega) _ 0 rfl (Nat.zero_le _)
          obtain ⟨x, _, rfl⟩ := List.mem_map.1 hc
          exact ofP_range _

end Go.Proofs.YtfpibigfhhoiiaaDoor.Pure
