/- The search in the table of brackets, walked. -/
import Derived.Test.YtdpifkhkemeclaaDoorMRow
import Derived.Test.YtdpifkhkemeclaaDoorBase
import Derived.Deep.LoopGhost
namespace Go.Proofs.YtdpifkhkemeclaaDoor
open Go.RowKit

def frS (k : Nat) : Int := (rowL.getD k (0, 0, 0, false)).1
def toS (k : Nat) : Int := (rowL.getD k (0, 0, 0, false)).2.1
def apS (k : Nat) : Int := (rowL.getD k (0, 0, 0, false)).2.2.1
def brS (k : Nat) : Bool := (rowL.getD k (0, 0, 0, false)).2.2.2
def sideP (a b code : Int) : Int := if code < a then 1 else if b < code then -1 else 0
theorem side_any (a b c : Int) (d : Bool) (code : Int) (w : World) : Calls Tryd.prog 56 #[.agg #[.int .i64 a, .int .i64 b, .int .i64 c, .bool d], .int .i64 code] w fun e w' => e = .returned (.int .i64 (sideP a b code)) ∧ Below w.heap.size w w' := by
  by_cases h2 : code < a
  · have Hs : Hid (sideP a b code = 1) := by unfold sideP; rw [if_pos h2]; rfl
    have b2 : decide (a > code) = true := decide_eq_true h2
    go_enter Tryd.func56, Tryd.ntmps56
    go_wp2
    go_ret
    exact ⟨by rw [Hs.out]; rfl, (Below.refl _ _).alloc (Nat.le_refl _) _⟩
  · have b2 : decide (a > code) = false := decide_eq_false h2
    by_cases h1 : b < code
    · have Hs : Hid (sideP a b code = -1) := by unfold sideP; rw [if_neg h2, if_pos h1]; rfl
      have b1 : decide (b < code) = true := decide_eq_true h1
      go_enter Tryd.func56, Tryd.ntmps56
      go_wp2
      go_ret
      exact ⟨by rw [Hs.out]; rfl, (Below.refl _ _).alloc (Nat.le_refl _) _⟩
    · have Hs : Hid (sideP a b code = 0) := by unfold sideP; rw [if_neg h2, if_neg h1]; rfl
      have b1 : decide (b < code) = false := decide_eq_false h1
      go_enter Tryd.func56, Tryd.ntmps56
      go_wp2
      go_ret
      exact ⟨by rw [Hs.out]; rfl, (Below.refl _ _).alloc (Nat.le_refl _) _⟩

def bsGo (code : Int) : Nat → Nat → Nat → Nat
  | 0, i, _ => i
  | f + 1, i, j => if i < j then (if sideP (frS ((i + j) / 2)) (toS ((i + j) / 2)) code < 0 then bsGo code f ((i + j) / 2 + 1) j else bsGo code f i ((i + j) / 2)) else i
theorem bsGo_fuel (code : Int) : ∀ (f f' i j : Nat), j - i ≤ f → j - i ≤ f' → bsGo code f i j = bsGo code f' i j := by
  intro f
  induction f with
  | zero =>
    intro f' i j h h'
    have hij : ¬ i < j := by omega
    cases f' with
    | zero => rfl
    | succ f' => rw [bsGo, bsGo, if_neg hij]
  | succ f ih =>
    intro f' i j h h'
    by_cases hij : i < j
    · cases f' with
      | zero => omega
      | succ f' =>
        rw [bsGo, bsGo, if_pos hij, if_pos hij]
        split
        · exact ih _ _ _ (by omega) (by omega)
        · exact ih _ _ _ (by omega) (by omega)
    · rw [bsGo, if_neg hij]
      cases f' with
      | zero => rfl
      | succ f' => rw [bsGo, if_neg hij]
def bs (code : Int) : Nat := bsGo code 50 0 38
def hitS (code : Int) : Bool := decide (bs code < 38) && (sideP (frS (bs code)) (toS (bs code)) code == 0)
theorem rowV_at (k : Nat) (hk : k < 38) : rowV[k * 4]? = some (.int .i64 (frS k)) ∧ rowV[k * 4 + 1]? = some (.int .i64 (toS k)) ∧ rowV[k * 4 + 2]? = some (.int .i64 (apS k)) ∧ rowV[k * 4 + 3]? = some (.bool (brS k)) := by
  have gen : ∀ (l : List (Int × Int × Int × Bool)) (k : Nat), k < l.length →
      (l.flatMap fun x => [Value.int .i64 x.1, Value.int .i64 x.2.1, Value.int .i64 x.2.2.1, Value.bool x.2.2.2])[k * 4]? = some (.int .i64 (l.getD k (0, 0, 0, false)).1) ∧
      (l.flatMap fun x => [Value.int .i64 x.1, Value.int .i64 x.2.1, Value.int .i64 x.2.2.1, Value.bool x.2.2.2])[k * 4 + 1]? = some (.int .i64 (l.getD k (0, 0, 0, false)).2.1) ∧
      (l.flatMap fun x => [Value.int .i64 x.1, Value.int .i64 x.2.1, Value.int .i64 x.2.2.1, Value.bool x.2.2.2])[k * 4 + 2]? = some (.int .i64 (l.getD k (0, 0, 0, false)).2.2.1) ∧
      (l.flatMap fun x => [Value.int .i64 x.1, Value.int .i64 x.2.1, Value.int .i64 x.2.2.1, Value.bool x.2.2.2])[k * 4 + 3]? = some (.bool (l.getD k (0, 0, 0, false)).2.2.2) := by
    intro l
    induction l with
    | nil => intro k h; simp at h
    | cons x l ih =>
      intro k h
      cases k with
      | zero => simp
      | succ k =>
        have := ih k (by simpa using h)
        rw [show (k + 1) * 4 = k * 4 + 4 by omega]
        simpa using this
  have h := gen rowL k hk
  unfold rowV frS toS apS brS
  simpa using h

set_option maxRecDepth 100000 in
set_option maxHeartbeats 1000000 in
theorem search_any (g : Nat) (code : Int) (w : World) (hg : w.heap[g]? = some (.cells rowV 79 (0, 0))) (hlt : g < w.heap.size) :
    Calls Tryd.prog 55 #[.slice (some ⟨g, 0, none⟩) 38 38, .int .i64 code, .func (.func 56) #[] #[]] w fun e w' =>
      e = .returned (.tuple #[.int .i64 (bs code), .bool (hitS code)]) ∧ Below w.heap.size w w' := by
  go_enter Tryd.func55, Tryd.ntmps55
  go_wp2_with fail
  go_loopg [9, 10] 50 (fun n v9 v10 wr => ∃ i j : Nat, i ≤ j ∧ j ≤ 38 ∧ v9 = .int .i64 i ∧ v10 = .int .i64 j ∧ j - i < n ∧ Hid (bsGo code 50 i j = bs code) ∧ Below w.heap.size w wr)
  case atStart => exact ⟨0, 38, by omega, by omega, rfl, rfl, by omega, rfl, Below.refl _ _⟩
  case round =>
    obtain ⟨i, j, hij, hj, rfl, rfl, hn, hbs, hb⟩ := hrel
    by_cases hlt' : i < j
    · have t1 : (i : Int) < (j : Int) := by omega
      have hlen : (i + j) / 2 < 38 := by omega
      have hgr : wr.heap[g]? = some (.cells rowV 79 (0, 0)) := (hb.block g hlt).trans hg
      obtain ⟨q0, q1, q2, q3⟩ := rowV_at ((i + j) / 2) hlen
      obtain ⟨A, hA⟩ : ∃ A, A = frS ((i + j) / 2) := ⟨_, rfl⟩
      obtain ⟨B, hB⟩ : ∃ B, B = toS ((i + j) / 2) := ⟨_, rfl⟩
      obtain ⟨C, hC⟩ : ∃ C, C = apS ((i + j) / 2) := ⟨_, rfl⟩
      obtain ⟨D, hD⟩ : ∃ D, D = brS ((i + j) / 2) := ⟨_, rfl⟩
      have c0 : wr.cell? ⟨g, (i + j) / 2 * 4, none⟩ = some (.int .i64 A) := by rw [cell_of_row _ _ _ _ _ _ hgr, hA]; exact q0
      have c1 : wr.cell? ⟨g, (i + j) / 2 * 4 + 1, none⟩ = some (.int .i64 B) := by rw [cell_of_row _ _ _ _ _ _ hgr, hB]; exact q1
      have c2 : wr.cell? ⟨g, (i + j) / 2 * 4 + 2, none⟩ = some (.int .i64 C) := by rw [cell_of_row _ _ _ _ _ _ hgr, hC]; exact q2
      have c3 : wr.cell? ⟨g, (i + j) / 2 * 4 + 3, none⟩ = some (.bool D) := by rw [cell_of_row _ _ _ _ _ _ hgr, hD]; exact q3
      have b0 : 0 ≤ ((i : Int) + (j : Int)) / 2 := by omega
      have b1 : ((i : Int) + (j : Int)) / 2 < 38 := by omega
      have HA := Lib.hid hA
      have HB := Lib.hid hB
      clear hgr q0 q1 q2 q3 hA hB hC hD
      have step : bsGo code 50 i j = if sideP A B code < 0 then bsGo code 50 ((i + j) / 2 + 1) j else bsGo code 50 i ((i + j) / 2) := by
        rw [HA.out, HB.out]
        have e : bsGo code 50 i j = if i < j then (if sideP (frS ((i + j) / 2)) (toS ((i + j) / 2)) code < 0 then bsGo code 49 ((i + j) / 2 + 1) j else bsGo code 49 i ((i + j) / 2)) else i := rfl
        rw [e, if_pos hlt']
        split
        · exact bsGo_fuel code _ _ _ _ (by omega) (by omega)
        · exact bsGo_fuel code _ _ _ _ (by omega) (by omega)
      by_cases hs : sideP A B code < 0
      · have Hst : Hid (bsGo code 50 ((i + j) / 2 + 1) j = bs code) := by rw [if_pos hs] at step; exact step.symm.trans hbs.out
        clear step
        go_wp2_with (go_at_call 56; refine (side_any A B C D code _).mono ?_; rintro e w2 ⟨rfl, hb2⟩)
        have HB2 := Lib.hid (hb.trans (hb2.mono hb.size))
        clear hb2
        go_wp2
        go_roundg (gk - 1)
        case measure => omega
        case rel => exact ⟨(i + j) / 2 + 1, j, by omega, hj, by go_num, rfl, by omega, Hst, HB2.out⟩
      · have Hst : Hid (bsGo code 50 i ((i + j) / 2) = bs code) := by rw [if_neg hs] at step; exact step.symm.trans hbs.out
        clear step
        go_wp2_with (go_at_call 56; refine (side_any A B C D code _).mono ?_; rintro e w2 ⟨rfl, hb2⟩)
        have HB2 := Lib.hid (hb.trans (hb2.mono hb.size))
        clear hb2
        go_wp2
        go_roundg (gk - 1)
        case measure => omega
        case rel => exact ⟨i, (i + j) / 2, by omega, by omega, rfl, by go_num, by omega, Hst, HB2.out⟩
    · have hije : i = j := by omega
      subst hije
      have hbi : i = bs code := by
        have := hbs.out
        have e : bsGo code 50 i i = if i < i then (if sideP (frS ((i + i) / 2)) (toS ((i + i) / 2)) code < 0 then bsGo code 49 ((i + i) / 2 + 1) i else bsGo code 49 i ((i + i) / 2)) else i := rfl
        rw [e, if_neg (by omega)] at this
        exact this
      have t1 : ¬ (i : Int) < (i : Int) := by omega
      by_cases h38 : i < 38
      · have t2 : (i : Int) < 38 := by omega
        have hgr : wr.heap[g]? = some (.cells rowV 79 (0, 0)) := (hb.block g hlt).trans hg
        obtain ⟨q0, q1, q2, q3⟩ := rowV_at i h38
        obtain ⟨A, hA⟩ : ∃ A, A = frS i := ⟨_, rfl⟩
        obtain ⟨B, hB⟩ : ∃ B, B = toS i := ⟨_, rfl⟩
        obtain ⟨C, hC⟩ : ∃ C, C = apS i := ⟨_, rfl⟩
        obtain ⟨D, hD⟩ : ∃ D, D = brS i := ⟨_, rfl⟩
        have c0 : wr.cell? ⟨g, i * 4, none⟩ = some (.int .i64 A) := by rw [cell_of_row _ _ _ _ _ _ hgr, hA]; exact q0
        have c1 : wr.cell? ⟨g, i * 4 + 1, none⟩ = some (.int .i64 B) := by rw [cell_of_row _ _ _ _ _ _ hgr, hB]; exact q1
        have c2 : wr.cell? ⟨g, i * 4 + 2, none⟩ = some (.int .i64 C) := by rw [cell_of_row _ _ _ _ _ _ hgr, hC]; exact q2
        have c3 : wr.cell? ⟨g, i * 4 + 3, none⟩ = some (.bool D) := by rw [cell_of_row _ _ _ _ _ _ hgr, hD]; exact q3
        have Hhit : Hid (hitS code = (sideP A B code == 0)) := by
          have e : hitS code = (sideP A B code == 0) := by
            unfold hitS
            rw [← hbi, hA, hB, decide_eq_true h38, Bool.true_and]
          exact e
        have Hbi := Lib.hid hbi
        clear hgr q0 q1 q2 q3 hA hB hC hD hbi
        go_wp2_with (go_at_call 56; refine (side_any A B C D code _).mono ?_; rintro e w2 ⟨rfl, hb2⟩)
        have HB2 := Lib.hid (hb.trans (hb2.mono hb.size))
        clear hb2
        go_wp2
        go_ret2
        exact ⟨by rw [← Hbi.out, Hhit.out]; rfl, HB2.out⟩
      · have t2 : ¬ (i : Int) < 38 := by omega
        have Hhit : Hid (hitS code = false) := by
          have e : hitS code = false := by
            unfold hitS
            rw [← hbi, decide_eq_false h38, Bool.false_and]
          exact e
        have Hbi := Lib.hid hbi
        clear hbi
        go_wp2
        go_ret2
        exact ⟨by rw [← Hbi.out, Hhit.out]; rfl, hb⟩
end Go.Proofs.YtdpifkhkemeclaaDoor
