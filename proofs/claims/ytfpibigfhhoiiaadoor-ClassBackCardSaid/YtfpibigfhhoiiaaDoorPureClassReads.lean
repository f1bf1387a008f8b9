/- Any text is read as the document reads it; under the bound that the law itself lays on its input. -/
import Derived.Test.YtfpibigfhhoiiaaDoorPBr
namespace Go.Proofs.YtfpibigfhhoiiaaDoor.Pure
open Go.RowKit Go.Proofs.YtfpibigfhhoiiaaDoor.PB Go.Proofs.YtfpibigfhhoiiaaDoorW.PrintWords Go.Proofs.YtfpibigfhhoiiaaDoorW.PrintLast

def readP (a : ByteArray) : List Int × Bool := if a.size = 0 then ([], true) else readL (splitSp a.data.toList)
theorem read_is (a : ByteArray) (h : a.size ≤ 1048576) : class_Read.f a = some (readP a) := by
  unfold class_Read.f readP
  rw [if_pos h]
theorem splitSp_len (s : List UInt8) : (splitSp s).length ≤ s.length + 1 := by
  induction s with
  | nil => simp [splitSp]
  | cons c r ih =>
    unfold splitSp
    split
    · simp; omega
    · split
      · simp
      · rename_i p ps hq
        rw [hq] at ih
        simp only [List.length_cons] at ih ⊢
        omega
theorem readP_len (a : ByteArray) : (readP a).1.length ≤ a.size + 1 := by
  unfold readP readL
  have := splitSp_len a.data.toList
  have e : a.data.toList.length = a.size := rfl
  split
  · simp
  · split
    · simp; omega
    · simp
theorem ClassReads : parquetrylaw02_ClassReads.Pure := by
  intro a _
  apply Ev.rounds
  unfold parquetrylaw02_ClassReads.f
  by_cases h : (a.size : Int) > 1000
  · simp only [if_pos h]
    exact Ev.bind awake2_ev (Ev.now _)
  · simp only [if_neg h, read_is a (by omega), Option.bind_some]
    have hr : Ev (fun k => parquetryref02_Read.f k a) (readP a) := refRead_ev a (by omega)
    refine Ev.bind hr ?_
    have hl := readP_len a
    refine Ev.bind (same2_self _ (by omega)) ?_
    simp only [if_true, beq_self_eq_true]
    exact Ev.bind awake2_ev (Ev.now _)

end Go.Proofs.YtfpibigfhhoiiaaDoor.Pure
