/- The reference's name of a class is the table's name, or none; what it prints is the names with blanks between. -/
import Derived.Test.YtfpibigfhhoiiaaDoorPBo
import Derived.Test.YtfpibigfhhoiiaaDoorPBx3
import Derived.Lib.Join
namespace Go.Proofs.YtfpibigfhhoiiaaDoor.Pure
open Go.RowKit Go.Proofs.YtfpibigfhhoiiaaDoor.PB Go.Proofs.YtfpibigfhhoiiaaDoorW.PrintWords Go.Proofs.YtfpibigfhhoiiaaDoorW.PrintLast
set_option linter.unusedVariables false
set_option linter.unusedSimpArgs false

def nameP (c : Int) : ByteArray := if isClass c = true then nameOf c else ⟨#[]⟩
theorem name_tab : ((List.range 23).all fun n => decide (parquetryref02_Name.f (n : Int) = some (nameOf n)) && decide (0 < (nameOf n).size)) = true := by kernel_rfl
theorem isClass_iff (c : Int) : isClass c = true ↔ 0 ≤ c ∧ c < 23 := by simp [isClass]
theorem name_nat (c : Int) (h : isClass c = true) : parquetryref02_Name.f c = some (nameOf c) ∧ 0 < (nameOf c).size := by
  rw [isClass_iff] at h
  obtain ⟨n, rfl⟩ := Int.eq_ofNat_of_zero_le h.1
  have := List.all_eq_true.1 name_tab n (List.mem_range.2 (by omega))
  simpa using this
theorem name_is (c : Int) : parquetryref02_Name.f c = some (nameP c) := by
  unfold nameP
  by_cases h : isClass c = true
  · rw [if_pos h]; exact (name_nat c h).1
  · rw [if_neg h]
    rw [isClass_iff] at h
    unfold parquetryref02_Name.f
    by_cases h0 : c < 0
    · rw [Option.bind_some, if_pos h0]
    · rw [Option.bind_some, if_neg h0, if_pos (by omega)]
theorem nameP_nil (c : Int) : (nameP c).toList = [] ↔ isClass c = false := by
  unfold nameP
  rw [Lib.toList_data]
  by_cases h : isClass c = true
  · rw [if_pos h]
    have := (name_nat c h).2
    constructor
    · intro he
      have : (nameOf c).data.toList.length = 0 := by rw [he]; rfl
      have e : (nameOf c).size = (nameOf c).data.toList.length := rfl
      omega
    · intro hf; rw [h] at hf; cases hf
  · rw [if_neg h]
    exact ⟨fun _ => by simpa using h, fun _ => rfl⟩

theorem join_snoc (x : List UInt8) (sep : List UInt8) (l : List (List UInt8)) : Lib.join (l ++ [x]) sep = if l = [] then x else Lib.join l sep ++ sep ++ x := by
  cases l with
  | nil => simp [Lib.join_one]
  | cons y r =>
    rw [if_neg (by simp)]
    unfold Lib.join
    induction r generalizing y with
    | nil => simp [List.intercalate]
    | cons z r ih =>
      have := ih z
      simp only [List.cons_append, List.intercalate_cons_cons] at this ⊢
      rw [this]
      simp [List.append_assoc]
theorem printL_snoc (l : List Int) (c : Int) : printL (l ++ [c]) = if l = [] then (nameOf c).data.toList else printL l ++ [32] ++ (nameOf c).data.toList := by
  unfold printL
  rw [List.map_append, List.map_cons, List.map_nil, join_snoc]
  by_cases h : l = []
  · subst h; rfl
  · rw [if_neg h, if_neg (by simpa using h)]
theorem printL_len (l : List Int) : (printL l).length ≤ 4 * l.length := by
  have h2 : ∀ l : List Int, (Lib.join (l.map fun c => (nameOf c).data.toList) [32]).length ≤ 4 * l.length := by
    intro l
    unfold Lib.join
    induction l with
    | nil => simp
    | cons c r ih =>
      have hc := nameOf_len c
      have hc' : (nameOf c).data.toList.length ≤ 3 := hc
      cases r with
      | nil => simp only [List.map_cons, List.map_nil, List.intercalate_singleton, List.length_cons, List.length_nil]; omega
      | cons d r =>
        simp only [List.map_cons, List.intercalate_cons_cons, List.length_append, List.length_cons, List.length_nil] at ih ⊢
        omega
  exact h2 l
def printP (l : List Int) : ByteArray × Bool := if l.all isClass then (⟨(printL l).toArray⟩, true) else (⟨#[]⟩, false)
theorem arr_app (x y : List UInt8) : (⟨(x ++ y).toArray⟩ : ByteArray) = ⟨x.toArray⟩ ++ ⟨y.toArray⟩ := by
  apply bytes_ext
  simp
theorem nameOf_arr (c : Int) : (⟨(nameOf c).data.toList.toArray⟩ : ByteArray) = nameOf c := by
  apply bytes_ext; simp
theorem take_getD' (l : List Int) (i : Nat) (h : i < l.length) : l.take (i + 1) = l.take i ++ [rd l (i : Int)] := by
  rw [List.take_succ_eq_append_getElem h]
  simp [rd, List.getElem?_eq_getElem h]
theorem refPrint_ev (l : List Int) (hl : l.length ≤ 1048576) : Ev (fun k => parquetryref02_Print.f k l) (printP l) := by
  have hloop : ∀ (d i : Nat), l.length - i = d → i ≤ l.length → (l.take i).all isClass = true → Ev (fun k => parquetryref02_Print.l0 k l ⟨(printL (l.take i)).toArray⟩ (i : Int)) (printP l) := by
    intro d
    induction d with
    | zero =>
      intro i hd hi hall
      have hil : i = l.length := by omega
      subst hil
      rw [List.take_length] at hall ⊢
      unfold printP
      rw [if_pos hall]
      refine Ev.step (f := fun _ => some (_, true)) (fun k => ?_) (Ev.now _)
      simp only [parquetryref02_Print.l0]
      rw [if_neg (by omega)]
    | succ d ih =>
      intro i hd hi hall
      have hlt : i < l.length := by omega
      by_cases hc : isClass (rd l (i : Int)) = true
      · have hall' : (l.take (i + 1)).all isClass = true := by
          rw [take_getD' l i hlt, List.all_append, hall]; simp [hc]
        have hn : ¬ (nameP (rd l (i : Int))).toList = [] := by rw [nameP_nil, hc]; simp
        have hp : nameP (rd l (i : Int)) = nameOf (rd l (i : Int)) := if_pos hc
        have hlen := printL_len (l.take i)
        rw [List.length_take, Nat.min_eq_left hi] at hlen
        have hname := nameOf_len (rd l (i : Int))
        have hsz : (⟨(printL (l.take i)).toArray⟩ : ByteArray).size = (printL (l.take i)).length := by simp [ByteArray.size]
        have hs1 : (⟨(printL (l.take i)).toArray⟩ : ByteArray).size ≤ 4 * i := by rw [hsz]; exact hlen
        have hs2 : ((⟨(printL (l.take i)).toArray⟩ : ByteArray) ++ ⟨#[32]⟩).size ≤ 4 * i + 1 := by
          rw [ByteArray.size_append]
          have : (⟨#[32]⟩ : ByteArray).size = 1 := rfl
          omega
        have e : (⟨(printL (l.take (i + 1))).toArray⟩ : ByteArray) = if 0 < i then ((⟨(printL (l.take i)).toArray⟩ : ByteArray) ++ ⟨#[32]⟩) ++ nameOf (rd l (i : Int)) else ⟨(printL (l.take i)).toArray⟩ ++ nameOf (rd l (i : Int)) := by
          rw [take_getD' l i hlt, printL_snoc]
          by_cases h0 : 0 < i
          · have hne : ¬ l.take i = [] := by
              intro h
              have h2 := congrArg List.length h
              rw [List.length_take, List.length_nil] at h2
              omega
            rw [if_neg hne, if_pos h0, arr_app, arr_app, nameOf_arr]
          · have : i = 0 := by omega
            subst this
            rw [List.take_zero, if_pos rfl, if_neg (by omega), nameOf_arr]
            apply bytes_ext
            simp [printL, Lib.join]
        refine Ev.step (fun k => ?_) (ih (i + 1) (by omega) (by omega) hall')
        simp only [parquetryref02_Print.l0]
        rw [if_pos (by omega), if_pos (by omega), name_is, Option.bind_some, if_neg hn, e, hp]
        by_cases h0 : 0 < i
        · rw [if_pos (by omega), if_pos (by omega), Option.bind_some, if_pos h0]
          rw [if_pos (show ((⟨(printL (l.take i)).toArray⟩ : ByteArray) ++ ⟨#[32]⟩).size + (nameOf (rd l (i : Int))).size ≤ 9223372036854775807 by have h3 : (nameOf (rd l (i : Int))).size ≤ 3 := nameOf_len _; omega), w64b (by omega) (by omega)]
          rfl
        · rw [if_neg (by omega), Option.bind_some, if_neg h0]
          rw [if_pos (show (⟨(printL (l.take i)).toArray⟩ : ByteArray).size + (nameOf (rd l (i : Int))).size ≤ 9223372036854775807 by have h3 : (nameOf (rd l (i : Int))).size ≤ 3 := nameOf_len _; omega), w64b (by omega) (by omega)]
          rfl
      · have hr : printP l = (⟨#[]⟩, false) := by
          unfold printP
          rw [if_neg]
          intro ha
          rw [List.all_eq_true] at ha
          refine hc (ha _ ?_)
          simp [rd, List.getElem?_eq_getElem hlt]
        rw [hr]
        refine Ev.step (f := fun _ => some (⟨#[]⟩, false)) (fun k => ?_) (Ev.now _)
        simp only [parquetryref02_Print.l0]
        rw [if_pos (by omega), if_pos (by omega), name_is, Option.bind_some, if_pos ((nameP_nil _).2 (by simpa using hc))]
  have h := hloop _ 0 rfl (Nat.zero_le _) rfl
  exact h
theorem same2_self (l : List Int) (hl : l.length ≤ 1048576) : Ev (fun k => parquetryref02_Same.f k l l) true := by
  have hloop : ∀ (d i : Nat), l.length - i = d → i ≤ l.length → Ev (fun k => parquetryref02_Same.l0 k l l (i : Int)) true := by
    intro d
    induction d with
    | zero =>
      intro i hd hi
      refine Ev.step (f := fun _ => some true) (fun k => ?_) (Ev.now _)
      simp only [parquetryref02_Same.l0]
      rw [if_neg (by omega)]
    | succ d ih =>
      intro i hd hi
      refine Ev.step (fun k => ?_) (ih (i + 1) (by omega) (by omega))
      simp only [parquetryref02_Same.l0]
      rw [if_pos (by omega), if_pos (by omega), if_pos (by omega), if_pos trivial, w64b (by omega) (by omega)]
      rfl
  refine Ev.congr (fun k => ?_) (hloop _ 0 rfl (Nat.zero_le _))
  unfold parquetryref02_Same.f
  rw [if_pos rfl]; rfl
end Go.Proofs.YtfpibigfhhoiiaaDoor.Pure
