/- What the reference reads of a text: its pieces between blanks, each of them a class's name, or none at all. -/
import Derived.Test.YtfpibigfhhoiiaaDoorPBn
import Derived.Test.YtfpibigfhhoiiaaDoorClsS
namespace Go.Proofs.YtfpibigfhhoiiaaDoor.Pure
open Go.RowKit Go.Proofs.YtfpibigfhhoiiaaDoor.PB Go.Proofs.YtfpibigfhhoiiaaDoorW.PrintWords Go.Proofs.YtfpibigfhhoiiaaDoorW.PrintLast
set_option linter.unusedVariables false
set_option linter.unusedSimpArgs false

def sp : List UInt8 → List UInt8 → List (List UInt8)
  | w, [] => [w]
  | w, b :: r => if b = 32 then w :: sp [] r else sp (w ++ [b]) r
theorem sp_split : ∀ (r w : List UInt8), sp w r = (match splitSp r with | [] => [w] | p :: ps => (w ++ p) :: ps)
  | [], w => by simp [sp, splitSp]
  | b :: r, w => by
    unfold sp splitSp
    by_cases hb : b = 32
    · rw [if_pos hb, if_pos hb, sp_split r []]
      have := splitSp_ne r
      cases hq : splitSp r with
      | nil => exact absurd hq this
      | cons p ps => simp
    · rw [if_neg hb, if_neg hb, sp_split r (w ++ [b])]
      have := splitSp_ne r
      cases hq : splitSp r with
      | nil => exact absurd hq this
      | cons p ps => simp
theorem sp_nil (s : List UInt8) : sp [] s = splitSp s := by
  rw [sp_split]
  have := splitSp_ne s
  cases hq : splitSp s with
  | nil => exact absurd hq this
  | cons p ps => simp
def rdP (o : List Int) : List (List UInt8) → List Int × Bool
  | [] => (o, true)
  | p :: ps => if 0 ≤ ixD p then rdP (o ++ [ixD p]) ps else ([], false)
theorem rdP_is : ∀ (ps : List (List UInt8)) (o : List Int), rdP o ps = if ps.all (fun p => decide (0 ≤ ixD p)) then (o ++ ps.map ixD, true) else ([], false)
  | [], o => by simp [rdP]
  | p :: ps, o => by
    unfold rdP
    by_cases h : 0 ≤ ixD p
    · rw [if_pos h, rdP_is ps]
      simp [h]
    · rw [if_neg h]
      simp [h]
theorem rdP_readL (ps : List (List UInt8)) : rdP [] ps = readL ps := by
  rw [rdP_is]
  unfold readL
  simp
theorem ix_tab : ((List.range 23).all fun n => ixD (nameOf n).data.toList == (n : Int)) = true := by kernel_rfl
theorem ix_hit (n : Nat) (h : n < 23) : ixD (nameOf n).data.toList = n := by
  have := List.all_eq_true.1 ix_tab n (List.mem_range.2 h)
  exact eq_of_beq this
theorem ix_miss (w : List UInt8) (h : ∀ n : Nat, n < 23 → (nameOf n).data.toList ≠ w) : ixD w = -1 := by
  unfold ixD
  rw [if_neg]
  intro hm
  obtain ⟨x, hx, rfl⟩ := List.mem_map.1 hm
  obtain ⟨n, hn, rfl⟩ := List.mem_iff_getElem.1 hx
  refine h n hn ?_
  unfold nameOf
  rw [Int.toNat_natCast, List.getD_eq_getElem?_getD, List.getElem?_eq_getElem hn]
  rfl
theorem word_ev (a : ByteArray) (o : List Int) (w : List UInt8) (i : Nat) (hi : i ≤ 1048577) (ho : o.length ≤ 1048577) (V : List Int × Bool)
    (hV : 0 ≤ ixD w → Ev (fun k => parquetryref02_Read.l0 k a (o ++ [ixD w]) ⟨#[]⟩ ((i + 1 : Nat) : Int)) V) :
    ∀ (d c : Nat), 23 - c = d → c ≤ 23 → (∀ n : Nat, n < c → (nameOf n).data.toList ≠ w) →
      Ev (fun k => parquetryref02_Read.l1 k a o ⟨w.toArray⟩ (i : Int) (c : Int)) (if 0 ≤ ixD w then V else ([], false)) := by
  intro d
  induction d with
  | zero =>
    intro c hd hc hn
    have : c = 23 := by omega
    subst this
    rw [ix_miss w hn, if_neg (by omega)]
    refine Ev.step (f := fun _ => some ([], false)) (fun k => ?_) (Ev.now _)
    simp only [parquetryref02_Read.l1]
    rw [if_neg (by omega), if_pos (by rfl)]
  | succ d ih =>
    intro c hd hc hn
    have hlt : c < 23 := by omega
    have hcl : isClass (c : Int) = true := (isClass_iff _).2 ⟨by omega, by omega⟩
    have hname : nameP (c : Int) = nameOf c := if_pos hcl
    by_cases hw : (nameOf c).data.toList = w
    · have hx : ixD w = c := by rw [← hw]; exact ix_hit c hlt
      rw [if_pos (by omega)]
      refine Ev.step (fun k => ?_) (hV (by omega))
      simp only [parquetryref02_Read.l1]
      rw [if_pos (by omega), name_is, Option.bind_some, hname, if_pos (by rw [Lib.toList_data, Lib.toList_data, hw]), if_neg (by omega), if_pos (by omega), w64b (by omega) (by omega), hx]
      rfl
    · refine Ev.step (fun k => ?_) (ih (c + 1) (by omega) (by omega) (fun n hn' => by
        by_cases e : n = c
        · rw [e]; exact hw
        · exact hn n (by omega)))
      simp only [parquetryref02_Read.l1]
      rw [if_pos (by omega), name_is, Option.bind_some, hname, if_neg (by rw [Lib.toList_data, Lib.toList_data]; exact hw), w64b (by omega) (by omega)]
      rfl
theorem bt_ne (a : ByteArray) (i : Nat) (h : i < a.data.toList.length) : (bt a (i : Int) != 32) = !(decide (a.data.toList[i] = 32)) := by
  have hi : i < a.size := h
  have e : bt a (i : Int) = ((a.data.toList[i]).toNat : Int) := by
    unfold bt
    rw [dif_pos (by rw [Int.toNat_natCast]; exact hi)]
    rfl
  rw [e]
  by_cases hb : a.data.toList[i] = 32
  · rw [hb]; rfl
  · rw [decide_eq_false hb]
    have : ((a.data.toList[i]).toNat : Int) ≠ 32 := by
      intro hn
      refine hb ?_
      apply UInt8.toNat_inj.1
      have : (a.data.toList[i]).toNat = 32 := by omega
      rw [this]
      rfl
    simpa using this
theorem ext_at (a : ByteArray) (i : Nat) (w : List UInt8) (h : i < a.data.toList.length) : (⟨w.toArray⟩ : ByteArray) ++ a.extract i (i + 1) = ⟨(w ++ [a.data.toList[i]]).toArray⟩ := by
  apply bytes_ext
  have h2 : (a.extract i (i + 1)).data.toList = [a.data.toList[i]] := by
    rw [ByteArray.data_extract, Array.toList_extract, List.extract_eq_take_drop, show i + 1 - i = 1 by omega, List.drop_eq_getElem_cons h]
    rfl
  rw [ByteArray.data_append, Array.toList_append, h2]
theorem refRead_ev (a : ByteArray) (hs : a.size ≤ 1048576) : Ev (fun k => parquetryref02_Read.f k a) (if a.size = 0 then ([], true) else readL (splitSp a.data.toList)) := by
  by_cases h0 : a.size = 0
  · rw [if_pos h0]
    have ha : a.toList = [] := by rw [Lib.toList_data]; exact List.eq_nil_of_length_eq_zero h0
    refine Ev.step (f := fun k => parquetryref02_Read.j1 k a [] ⟨#[]⟩ 0 (a.toList != ([] : List UInt8))) (fun k => ?_) ?_
    · show parquetryref02_Read.l0 (k + 1) a [] ⟨#[]⟩ 0 = _
      simp only [parquetryref02_Read.l0]
      rw [if_pos (by omega)]
    · refine Ev.step (f := fun _ => some ([], true)) (fun k => ?_) (Ev.now _)
      rw [ha]
      rfl
  · rw [if_neg h0]
    have hne : (a.toList != ([] : List UInt8)) = true := by
      rw [Lib.toList_data]
      cases hq : a.data.toList with
      | nil => exact absurd (by show a.data.toList.length = 0; rw [hq]; rfl) h0
      | cons _ _ => rfl
    have hlen : a.data.toList.length = a.size := rfl
    have hloop : ∀ (d i : Nat) (w : List UInt8) (o : List Int), a.size - i = d → i ≤ a.size → w.length ≤ i → o.length ≤ i →
        Ev (fun k => parquetryref02_Read.l0 k a o ⟨w.toArray⟩ (i : Int)) (rdP o (sp w (a.data.toList.drop i))) := by
      intro d
      induction d with
      | zero =>
        intro i w o hd hi hw ho
        have hil : i = a.size := by omega
        rw [List.drop_of_length_le (by omega)]
        have hV : 0 ≤ ixD w → Ev (fun k => parquetryref02_Read.l0 k a (o ++ [ixD w]) ⟨#[]⟩ ((i + 1 : Nat) : Int)) (o ++ [ixD w], true) := by
          intro _
          refine Ev.step (f := fun k => parquetryref02_Read.j1 k a (o ++ [ixD w]) ⟨#[]⟩ ((i + 1 : Nat) : Int) false) (fun k => ?_) ?_
          · simp only [parquetryref02_Read.l0]
            rw [if_neg (by omega)]
          · exact Ev.step (f := fun _ => some (o ++ [ixD w], true)) (fun k => rfl) (Ev.now _)
        have hwd := word_ev a o w i (by omega) (by omega) _ hV 23 0 rfl (by omega) (fun n h => by omega)
        refine Ev.step (f := fun k => parquetryref02_Read.j1 k a o ⟨w.toArray⟩ (i : Int) true) (fun k => ?_) ?_
        · simp only [parquetryref02_Read.l0]
          rw [if_pos (by omega), hne]
        · refine Ev.step (f := fun k => parquetryref02_Read.j2 k a o ⟨w.toArray⟩ (i : Int) false) (fun k => ?_) ?_
          · simp only [parquetryref02_Read.j1]
            rw [if_pos trivial, if_neg (by omega)]
          · refine Ev.step (f := fun k => parquetryref02_Read.l1 k a o ⟨w.toArray⟩ (i : Int) 0) (fun k => rfl) ?_
            exact hwd
      | succ d ih =>
        intro i w o hd hi hw ho
        have hlt : i < a.data.toList.length := by omega
        rw [List.drop_eq_getElem_cons hlt]
        refine Ev.step (f := fun k => parquetryref02_Read.j1 k a o ⟨w.toArray⟩ (i : Int) true) (fun k => ?_) ?_
        · simp only [parquetryref02_Read.l0]
          rw [if_pos (by omega), hne]
        · refine Ev.step (f := fun k => parquetryref02_Read.j2 k a o ⟨w.toArray⟩ (i : Int) (!(decide (a.data.toList[i] = 32)))) (fun k => ?_) ?_
          · simp only [parquetryref02_Read.j1]
            rw [if_pos trivial, if_pos (by omega), if_pos (by omega), bt_ne a i hlt]
          · by_cases hb : a.data.toList[i] = 32
            · rw [show sp w (a.data.toList[i] :: a.data.toList.drop (i + 1)) = w :: sp [] (a.data.toList.drop (i + 1)) from by simp only [sp]; rw [if_pos hb]]
              have hwd := word_ev a o w i (by omega) (by omega) _ (fun _ => ih (i + 1) [] (o ++ [ixD w]) (by omega) (by omega) (by simp) (by simp; omega)) 23 0 rfl (by omega) (fun n h => by omega)
              refine Ev.step (f := fun k => parquetryref02_Read.l1 k a o ⟨w.toArray⟩ (i : Int) 0) (fun k => ?_) hwd
              simp only [parquetryref02_Read.j2]
              rw [decide_eq_true hb]
              rfl
            · rw [show sp w (a.data.toList[i] :: a.data.toList.drop (i + 1)) = sp (w ++ [a.data.toList[i]]) (a.data.toList.drop (i + 1)) from by simp only [sp]; rw [if_neg hb]]
              refine Ev.step (fun k => ?_) (ih (i + 1) (w ++ [a.data.toList[i]]) o (by omega) (by omega) (by simp; omega) (by omega))
              simp only [parquetryref02_Read.j2]
              have hw1 : wrap64 ((i : Int) + 1) = ((i + 1 : Nat) : Int) := by rw [w64b (by omega) (by omega)]; rfl
              have hex : (a.extract i (i + 1)).size ≤ 1 := by rw [ByteArray.size_extract]; omega
              have hws : (⟨w.toArray⟩ : ByteArray).size ≤ i := by show w.toArray.size ≤ i; simpa using hw
              rw [decide_eq_false hb, if_pos (by rfl), if_pos (by omega), hw1, if_pos (by omega), if_pos (by omega), Int.toNat_natCast, Int.toNat_natCast]
              rw [if_pos (show (⟨w.toArray⟩ : ByteArray).size + (a.extract i (i + 1)).size ≤ 9223372036854775807 by omega), ext_at a i w hlt]
    have h := hloop _ 0 [] [] rfl (Nat.zero_le _) (by simp) (by simp)
    rw [List.drop_zero, sp_nil, rdP_readL] at h
    exact h
end Go.Proofs.YtfpibigfhhoiiaaDoor.Pure
