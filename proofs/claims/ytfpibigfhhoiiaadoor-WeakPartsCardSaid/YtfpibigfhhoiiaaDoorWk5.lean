/- The weak rule 'between', walked: signs between two numbers of a kind. -/
import Derived.Test.YtfpibigfhhoiiaaDoorWk4
namespace Go.Proofs.YtfpibigfhhoiiaaDoor
open Go.RowKit Go.Proofs.YtfpibigfhhoiiaaDoorW.PrintWords
set_option linter.unusedVariables false
set_option linter.unusedSimpArgs false

/-- What stands next. -/
def nxW : List Int → Int
  | [] => -1
  | d :: _ => d
def btOf (p n : Int) (b : Bool) (c : Int) : Int := if b = true ∧ p = n ∧ (c = 4 ∧ p = 3 ∨ c = 7 ∧ (p = 3 ∨ p = 6)) then p else c
def btGo : Int → Bool → List Int → List Int
  | _, _, [] => []
  | p, b, c :: r => btOf p (nxW r) b c :: btGo (btOf p (nxW r) b c) true r
theorem at_next {R l : List Int} {sos : Int} {i : Nat} (hl : R.length = l.length) (hd : R.drop i = l.drop i) (hi : i < l.length) : atW R sos ((i : Int) + 1) = nxW (l.drop (i + 1)) := by
  have e : R.drop (i + 1) = l.drop (i + 1) := by
    rw [drop_at R i (by omega), drop_at l i hi] at hd
    injection hd
  unfold atW
  rw [if_neg (by omega)]
  by_cases h : i + 1 < l.length
  · rw [if_neg (by omega), ← e, drop_at R (i + 1) (by omega)]
    simp only [nxW]
    congr 1
  · rw [if_pos (by omega), List.drop_of_length_le (by omega)]
    rfl
theorem at_nextE {R : List Int} {sos : Int} {i : Nat} (hi : i < R.length) : atW R sos (((i + 1 : Nat) : Int) - 1) = R.getD i 0 := at_prev hi

set_option maxRecDepth 100000 in
set_option maxHeartbeats 8000000 in
theorem between_any (w : World) (B : Nat) (v : Value) (l : List Int) (sos : Int) (h : w.ownsRow B 3 1 v l.length (nums .i64 l)) (hl : l.length ≤ 1048576) :
    Calls Tryd.prog 69 #[.agg #[v, .int .i64 sos]] w fun e w' => e = .returned (.tuple #[]) ∧ w'.ownsRow B 3 1 v l.length (nums .i64 (btGo sos false l)) ∧ w.grownBy w' v.ownBlock := by
  have hst := StW.start sos h
  obtain ⟨A, cp, hv, hc⟩ := own_nums h
  subst hv
  have HC := Lib.hid hc
  clear hc h
  go_enter Tryd.func69, Tryd.ntmps69
  go_wp2
  go_loopg [9] (l.length + 1) (fun g v7 wr => ∃ (i : Nat) (p : Int) (R : List Int), i ≤ l.length ∧ g = l.length + 1 - i ∧ v7 = .int .i64 i ∧ StW w B (.slice A l.length cp) sos R wr ∧ Hid (DoneW l R i (btGo p (decide (0 < i))) (btGo sos false l) ∧ p = atW R sos ((i : Int) - 1)))
  case atStart => exact ⟨0, sos, l, Nat.zero_le _, rfl, rfl, hst, Lib.hid ⟨⟨rfl, rfl, rfl⟩, rfl⟩⟩
  case round =>
    clear hst
    obtain ⟨i, p, R, hi, hg, rfl, hS, hDp⟩ := hrel
    have hD : Hid (DoneW l R i (btGo p (decide (0 < i))) (btGo sos false l)) := Lib.hid hDp.out.1
    have hp : Hid (p = atW R sos ((i : Int) - 1)) := Lib.hid hDp.out.2
    have Hg := Lib.hid hg
    clear hg hDp
    have hRl : R.length = l.length := hD.out.1
    by_cases hlt : i < l.length
    · obtain ⟨g, rfl, hgw, _, _, _⟩ := HC.out i hlt
      obtain ⟨c, hcc⟩ : ∃ c, c = l.getD i 0 := ⟨_, rfl⟩
      have hxr : R.getD i 0 = c := by rw [hcc]; exact hD.out.here hlt
      obtain ⟨n, hn⟩ : ∃ n, n = nxW (l.drop (i + 1)) := ⟨_, rfl⟩
      have hnx : Hid (n = atW R sos ((i : Int) + 1)) := Lib.hid (by rw [at_next hRl hD.out.2.1 hlt]; exact hn)
      obtain ⟨hcell, hfree, hb0, hb1⟩ := hS.cell hRl hlt
      rw [hxr] at hcell
      have hlt' : (i : Int) < (l.length : Int) := by omega
      have HS := Lib.hid hS
      have Hcc := Lib.hid hcc
      have Hxr := Lib.hid hxr
      have HRl := Lib.hid hRl
      have Hn := Lib.hid hn
      clear hS hxr hcc hn
      have Hw : Hid (IntKind.i64.wrap ((i : Int) - 1) = (i : Int) - 1) := Lib.hid (by unfold IntKind.wrap; simp [IntKind.signed, IntKind.bits]; omega)
      have Hw2 : Hid (IntKind.i64.wrap ((i : Int) + 1) = (i : Int) + 1) := Lib.hid (by unfold IntKind.wrap; simp [IntKind.signed, IntKind.bits]; omega)
      go_wp2
      go_region_with (first
        | (go_at_call 80; rw [Hw.out]; with_reducible refine (at_St HS2.out (Nat.le_trans (Nat.le_of_eq HRl.out) hl) _).mono ?_; rintro e W3 ⟨rfl, hS3⟩; obtain ⟨k1, k2, k3, k4⟩ := hS3.cell HRl.out hlt; have HS3 := Lib.hid hS3; rw [← hp.out]; clear hS3)
        | (go_at_call 80; rw [Hw2.out]; with_reducible refine (at_St HS2.out (Nat.le_trans (Nat.le_of_eq HRl.out) hl) _).mono ?_; rintro e W3 ⟨rfl, hS3⟩; obtain ⟨k1, k2, k3, k4⟩ := hS3.cell HRl.out hlt; have HS3 := Lib.hid hS3; rw [← hnx.out]; clear hS3)
        | (go_at_call 80; rw [Hw.out]; with_reducible refine (at_St HS.out.drew (Nat.le_trans (Nat.le_of_eq HRl.out) hl) _).mono ?_; rintro e W2 ⟨rfl, hS2⟩; obtain ⟨m1, m2, m3, m4⟩ := hS2.cell HRl.out hlt; have HS2 := Lib.hid hS2; rw [← hp.out]; clear hS2)
        | (go_at_call 80; rw [Hw2.out]; with_reducible refine (at_St HS.out.drew (Nat.le_trans (Nat.le_of_eq HRl.out) hl) _).mono ?_; rintro e W2 ⟨rfl, hS2⟩; obtain ⟨m1, m2, m3, m4⟩ := hS2.cell HRl.out hlt; have HS2 := Lib.hid hS2; rw [← hnx.out]; clear hS2))
      all_goals
        clear hcell hfree hb0 hb1 m1 m2 m3 m4
        by_cases h0 : 0 < i
        · have bh0 : decide ((i : Int) > 0) = true := decide_eq_true (by omega)
          have th0 : (0 : Int) < (i : Int) := by omega
          by_cases h1 : p = n
          · have bh1 : (p == n) = true := by simpa using h1
            by_cases h2 : c = 4
            · have bh2 : (c == 4) = true := by simpa using h2
              by_cases h3 : p = 3
              · have bh3 : (p == 3) = true := by simpa using h3
                have HS6 : Hid (StW w B (.slice (some ⟨g, 0, none⟩) l.length cp) sos (R.set i p) (W3.setCell ⟨g, i, none⟩ (.int .i64 p))) := Lib.hid (HS3.out.set' HRl.out hgw i p)
                have HT : Hid (btOf p (nxW (l.drop (i + 1))) (decide (0 < i)) c = p) := Lib.hid (by rw [← Hn.out]; unfold btOf; exact if_pos (⟨decide_eq_true h0, h1, .inl ⟨h2, h3⟩⟩))
                clear h0 h1 h2 h3
                go_wp2
                go_roundg (l.length + 1 - (i + 1))
                case measure => have := Hg.out; omega
                case rel => exact ⟨i + 1, p, R.set i p, by omega, rfl, by go_num, HS6.out, Lib.hid ⟨hD.out.put hlt (by rw [← Hcc.out]; simp only [btGo]; rw [HT.out, show decide (0 < i + 1) = true from decide_eq_true (by omega)]), by rw [at_prev (by rw [List.length_set, HRl.out]; exact hlt), List.getD_eq_getElem?_getD, List.getElem?_set_self (by rw [HRl.out]; exact hlt)]; rfl⟩⟩
              · have bh3 : (p == 3) = false := by simpa using h3
                by_cases h4 : c = 7
                · have bh4 : (c == 7) = true := by simpa using h4
                  exact absurd (h2.symm.trans h4) (by decide)
                · have bh4 : (c == 7) = false := by simpa using h4
                  have HT : Hid (btOf p (nxW (l.drop (i + 1))) (decide (0 < i)) c = c) := Lib.hid (by rw [← Hn.out]; unfold btOf; exact if_neg (fun h => h.2.2.elim (fun a => h3 a.2) (fun a => h4 a.1)))
                  clear h0 h1 h2 h3 h4
                  go_wp2
                  go_roundg (l.length + 1 - (i + 1))
                  case measure => have := Hg.out; omega
                  case rel => exact ⟨i + 1, c, R, by omega, rfl, by go_num, HS3.out, Lib.hid ⟨hD.out.keep hlt (by rw [← Hcc.out]; simp only [btGo]; rw [HT.out, show decide (0 < i + 1) = true from decide_eq_true (by omega)]), by rw [at_prev (by rw [HRl.out]; exact hlt)]; exact Hxr.out.symm⟩⟩
            · have bh2 : (c == 4) = false := by simpa using h2
              by_cases h4 : c = 7
              · have bh4 : (c == 7) = true := by simpa using h4
                by_cases h3 : p = 3
                · have bh3 : (p == 3) = true := by simpa using h3
                  have HS6 : Hid (StW w B (.slice (some ⟨g, 0, none⟩) l.length cp) sos (R.set i p) (W3.setCell ⟨g, i, none⟩ (.int .i64 p))) := Lib.hid (HS3.out.set' HRl.out hgw i p)
                  have HT : Hid (btOf p (nxW (l.drop (i + 1))) (decide (0 < i)) c = p) := Lib.hid (by rw [← Hn.out]; unfold btOf; exact if_pos (⟨decide_eq_true h0, h1, .inr ⟨h4, .inl h3⟩⟩))
                  clear h0 h1 h2 h4 h3
                  go_wp2
                  go_roundg (l.length + 1 - (i + 1))
                  case measure => have := Hg.out; omega
                  case rel => exact ⟨i + 1, p, R.set i p, by omega, rfl, by go_num, HS6.out, Lib.hid ⟨hD.out.put hlt (by rw [← Hcc.out]; simp only [btGo]; rw [HT.out, show decide (0 < i + 1) = true from decide_eq_true (by omega)]), by rw [at_prev (by rw [List.length_set, HRl.out]; exact hlt), List.getD_eq_getElem?_getD, List.getElem?_set_self (by rw [HRl.out]; exact hlt)]; rfl⟩⟩
                · have bh3 : (p == 3) = false := by simpa using h3
                  by_cases h5 : p = 6
                  · have bh5 : (p == 6) = true := by simpa using h5
                    have HS6 : Hid (StW w B (.slice (some ⟨g, 0, none⟩) l.length cp) sos (R.set i p) (W3.setCell ⟨g, i, none⟩ (.int .i64 p))) := Lib.hid (HS3.out.set' HRl.out hgw i p)
                    have HT : Hid (btOf p (nxW (l.drop (i + 1))) (decide (0 < i)) c = p) := Lib.hid (by rw [← Hn.out]; unfold btOf; exact if_pos (⟨decide_eq_true h0, h1, .inr ⟨h4, .inr h5⟩⟩))
                    clear h0 h1 h2 h4 h3 h5
                    go_wp2
                    go_roundg (l.length + 1 - (i + 1))
                    case measure => have := Hg.out; omega
                    case rel => exact ⟨i + 1, p, R.set i p, by omega, rfl, by go_num, HS6.out, Lib.hid ⟨hD.out.put hlt (by rw [← Hcc.out]; simp only [btGo]; rw [HT.out, show decide (0 < i + 1) = true from decide_eq_true (by omega)]), by rw [at_prev (by rw [List.length_set, HRl.out]; exact hlt), List.getD_eq_getElem?_getD, List.getElem?_set_self (by rw [HRl.out]; exact hlt)]; rfl⟩⟩
                  · have bh5 : (p == 6) = false := by simpa using h5
                    have HT : Hid (btOf p (nxW (l.drop (i + 1))) (decide (0 < i)) c = c) := Lib.hid (by rw [← Hn.out]; unfold btOf; exact if_neg (fun h => h.2.2.elim (fun a => h2 a.1) (fun a => a.2.elim h3 h5)))
                    clear h0 h1 h2 h4 h3 h5
                    go_wp2
                    go_roundg (l.length + 1 - (i + 1))
                    case measure => have := Hg.out; omega
                    case rel => exact ⟨i + 1, c, R, by omega, rfl, by go_num, HS3.out, Lib.hid ⟨hD.out.keep hlt (by rw [← Hcc.out]; simp only [btGo]; rw [HT.out, show decide (0 < i + 1) = true from decide_eq_true (by omega)]), by rw [at_prev (by rw [HRl.out]; exact hlt)]; exact Hxr.out.symm⟩⟩
              · have bh4 : (c == 7) = false := by simpa using h4
                have HT : Hid (btOf p (nxW (l.drop (i + 1))) (decide (0 < i)) c = c) := Lib.hid (by rw [← Hn.out]; unfold btOf; exact if_neg (fun h => h.2.2.elim (fun a => h2 a.1) (fun a => h4 a.1)))
                clear h0 h1 h2 h4
                go_wp2
                go_roundg (l.length + 1 - (i + 1))
                case measure => have := Hg.out; omega
                case rel => exact ⟨i + 1, c, R, by omega, rfl, by go_num, HS3.out, Lib.hid ⟨hD.out.keep hlt (by rw [← Hcc.out]; simp only [btGo]; rw [HT.out, show decide (0 < i + 1) = true from decide_eq_true (by omega)]), by rw [at_prev (by rw [HRl.out]; exact hlt)]; exact Hxr.out.symm⟩⟩
          · have bh1 : (p == n) = false := by simpa using h1
            have HT : Hid (btOf p (nxW (l.drop (i + 1))) (decide (0 < i)) c = c) := Lib.hid (by rw [← Hn.out]; unfold btOf; exact if_neg (fun h => h1 h.2.1))
            clear h0 h1
            go_wp2
            go_roundg (l.length + 1 - (i + 1))
            case measure => have := Hg.out; omega
            case rel => exact ⟨i + 1, c, R, by omega, rfl, by go_num, HS3.out, Lib.hid ⟨hD.out.keep hlt (by rw [← Hcc.out]; simp only [btGo]; rw [HT.out, show decide (0 < i + 1) = true from decide_eq_true (by omega)]), by rw [at_prev (by rw [HRl.out]; exact hlt)]; exact Hxr.out.symm⟩⟩
        · have bh0 : decide ((i : Int) > 0) = false := decide_eq_false (by omega)
          have th0 : ¬ ((0 : Int) < (i : Int)) := by omega
          have HT : Hid (btOf p (nxW (l.drop (i + 1))) (decide (0 < i)) c = c) := Lib.hid (by rw [← Hn.out]; unfold btOf; exact if_neg (fun h => h0 (of_decide_eq_true h.1)))
          clear h0
          go_wp2
          go_roundg (l.length + 1 - (i + 1))
          case measure => have := Hg.out; omega
          case rel => exact ⟨i + 1, c, R, by omega, rfl, by go_num, HS3.out, Lib.hid ⟨hD.out.keep hlt (by rw [← Hcc.out]; simp only [btGo]; rw [HT.out, show decide (0 < i + 1) = true from decide_eq_true (by omega)]), by rw [at_prev (by rw [HRl.out]; exact hlt)]; exact Hxr.out.symm⟩⟩
    · have hlt' : ¬ (i : Int) < (l.length : Int) := by omega
      have hR := hD.out.all hlt rfl
      have HS := Lib.hid hS
      have HR := Lib.hid hR
      clear hS hR
      go_wp2
      go_end0
      have ho := HS.out.own
      rw [hRl, HR.out] at ho
      exact ⟨rfl, ho, HS.out.gr⟩
end Go.Proofs.YtfpibigfhhoiiaaDoor
