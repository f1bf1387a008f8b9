/- The weak rule 'beside', walked: runs of ET beside an EN. -/
import Derived.Test.YtfpibigfhhoiiaaDoorWk5
namespace Go.Proofs.YtfpibigfhhoiiaaDoor
open Go.RowKit Go.Proofs.YtfpibigfhhoiiaaDoorW.PrintWords
set_option linter.unusedVariables false
set_option linter.unusedSimpArgs false

/-- The first class that stands behind a run of ET. -/
def runNx : List Int → Int
  | [] => -1
  | c :: r => if c = 5 then runNx r else c
def bsOf (p n : Int) (b : Bool) (c : Int) : Int := if c = 5 ∧ (b = true ∧ p = 3 ∨ n = 3) then 3 else c
def bsGo : Int → Bool → List Int → List Int
  | _, _, [] => []
  | p, b, c :: r => bsOf p (runNx r) b c :: bsGo (bsOf p (runNx r) b c) true r
theorem done_get {l R : List Int} {i k : Nat} (h : R.drop i = l.drop i) (hk : i ≤ k) : R.getD k 0 = l.getD k 0 := by
  have e := congrArg (fun t => t.getD (k - i) 0) h
  simp only [List.getD_eq_getElem?_getD, List.getElem?_drop] at e
  rw [show i + (k - i) = k by omega] at e
  simpa [List.getD_eq_getElem?_getD] using e
theorem at_here {l R : List Int} {sos : Int} {i k : Nat} (hl : R.length = l.length) (h : R.drop i = l.drop i) (hk : i ≤ k) : atW R sos (k : Int) = if k < l.length then l.getD k 0 else -1 := by
  unfold atW
  rw [if_neg (by omega), hl]
  by_cases hh : k < l.length
  · rw [if_neg (by omega), if_pos hh, Int.toNat_natCast, done_get h hk]
  · rw [if_pos (by omega), if_neg hh]
theorem run_at {l : List Int} {k : Nat} {n : Int} (hk : k ≤ l.length) (hn : n = if k < l.length then l.getD k 0 else -1) (h5 : n ≠ 5) : ∀ (d m : Nat), m + d = k → (∀ j, m ≤ j → j < k → l.getD j 0 = 5) → runNx (l.drop m) = n
  | 0, m, hm, _ => by
    have : m = k := by omega
    subst this
    by_cases hh : m < l.length
    · rw [if_pos hh] at hn
      rw [drop_at l m hh]
      simp only [runNx]
      rw [← hn, if_neg h5]
    · rw [if_neg hh] at hn
      rw [List.drop_of_length_le (by omega)]
      exact hn.symm
  | d + 1, m, hm, ha => by
    rw [drop_at l m (by omega)]
    simp only [runNx]
    rw [if_pos (ha m (Nat.le_refl _) (by omega))]
    exact run_at hk hn h5 d (m + 1) (by omega) (fun j h1 h2 => ha j (by omega) h2)
/-- What is to do from a place on. -/
def stB (R : List Int) (sos : Int) (m : Nat) : List Int → List Int := bsGo (atW R sos ((m : Int) - 1)) (decide (0 < m))
theorem stB_fin {l R all : List Int} {sos n : Int} {k : Nat} (h : DoneW l R k (stB R sos k) all) (hk : k ≤ l.length) (hn : n = if k < l.length then l.getD k 0 else -1) (h5 : n ≠ 5) : DoneW l R (k + 1) (stB R sos (k + 1)) all := by
  by_cases hh : k < l.length
  · rw [if_pos hh] at hn
    refine h.keep hh ?_
    unfold stB
    simp only [bsGo]
    have e : ∀ m, bsOf (atW R sos ((k : Int) - 1)) m (decide (0 < k)) (l.getD k 0) = l.getD k 0 := by
      intro m; unfold bsOf; rw [if_neg (by omega)]
    rw [e, at_prev (by rw [h.1]; exact hh), h.here hh, show decide (0 < k + 1) = true from decide_eq_true (by omega)]
  · obtain ⟨h1, h2, h3⟩ := h
    refine ⟨h1, ?_, ?_⟩
    · rw [List.drop_of_length_le (by omega), List.drop_of_length_le (by omega)]
    · rw [List.drop_of_length_le (by omega)] at h3 ⊢
      rw [List.take_of_length_le (by omega)] at h3 ⊢
      exact h3
/-- One ET becomes EN. -/
theorem stB_put {l R all : List Int} {sos n : Int} {m : Nat} (h : DoneW l R m (stB R sos m) all) (hm : m < l.length) (hr : runNx (l.drop (m + 1)) = n) (h5 : l.getD m 0 = 5) (hc : 0 < m ∧ atW R sos ((m : Int) - 1) = 3 ∨ n = 3) :
    DoneW l (R.set m 3) (m + 1) (stB (R.set m 3) sos (m + 1)) all := by
  have e : atW (R.set m 3) sos (((m + 1 : Nat) : Int) - 1) = 3 := by
    rw [at_prev (by rw [List.length_set, h.1]; exact hm), List.getD_eq_getElem?_getD, List.getElem?_set_self (by rw [h.1]; exact hm)]; rfl
  refine h.put hm ?_
  unfold stB
  rw [e, h5, show decide (0 < m + 1) = true from decide_eq_true (by omega)]
  simp only [bsGo]
  have e2 : bsOf (atW R sos ((m : Int) - 1)) (runNx (l.drop (m + 1))) (decide (0 < m)) 5 = 3 := by
    unfold bsOf
    refine if_pos ⟨rfl, ?_⟩
    rcases hc with ⟨a, b⟩ | a
    · exact .inl ⟨decide_eq_true a, b⟩
    · exact .inr (by rw [hr]; exact a)
  rw [e2]
theorem stB_put_at {l R : List Int} {sos : Int} {m : Nat} (hl : R.length = l.length) (hm : m < l.length) : atW (R.set m 3) sos (((m + 1 : Nat) : Int) - 1) = 3 := by
  rw [at_prev (by rw [List.length_set, hl]; exact hm), List.getD_eq_getElem?_getD, List.getElem?_set_self (by rw [hl]; exact hm)]; rfl
/-- A run of ET that stays. -/
theorem stB_keep {l R all : List Int} {sos n : Int} {i k : Nat} (hk : k ≤ l.length) (hn : n = if k < l.length then l.getD k 0 else -1) (h5 : n ≠ 5) (h3 : n ≠ 3)
    (ha : ∀ j, i ≤ j → j < k → l.getD j 0 = 5) (hp : ¬ (0 < i ∧ atW R sos ((i : Int) - 1) = 3)) (h : DoneW l R i (stB R sos i) all) : ∀ (d : Nat), i + d ≤ k → DoneW l R (i + d) (stB R sos (i + d)) all ∧ ¬ (0 < i + d ∧ atW R sos (((i + d : Nat) : Int) - 1) = 3)
  | 0, _ => ⟨h, hp⟩
  | d + 1, hd => by
    obtain ⟨g1, g2⟩ := stB_keep hk hn h5 h3 ha hp h d (by omega)
    have hlt : i + d < l.length := by omega
    have c5 := ha (i + d) (by omega) (by omega)
    have hx : R.getD (i + d) 0 = 5 := by rw [g1.here hlt, c5]
    have ea : atW R sos (((i + d + 1 : Nat) : Int) - 1) = 5 := by rw [at_prev (by rw [g1.1]; exact hlt), hx]
    refine ⟨?_, by rw [show i + (d + 1) = i + d + 1 by omega, ea]; omega⟩
    show DoneW l R (i + d + 1) (stB R sos (i + d + 1)) all
    refine g1.keep hlt ?_
    unfold stB
    rw [ea, c5, show decide (0 < i + d + 1) = true from decide_eq_true (by omega)]
    simp only [bsGo]
    have e2 : bsOf (atW R sos (((i + d : Nat) : Int) - 1)) (runNx (l.drop (i + d + 1))) (decide (0 < i + d)) 5 = 5 := by
      unfold bsOf
      rw [if_neg]
      rintro ⟨_, ⟨a, b⟩ | a⟩
      · exact g2 ⟨of_decide_eq_true a, b⟩
      · rw [run_at hk hn h5 (k - (i + d + 1)) (i + d + 1) (by omega) (fun j h1 h2 => ha j (by omega) h2)] at a
        exact h3 a
    rw [e2]

set_option maxRecDepth 100000 in
set_option maxHeartbeats 8000000 in
theorem beside_any (w : World) (B : Nat) (v : Value) (l : List Int) (sos : Int) (h : w.ownsRow B 3 1 v l.length (nums .i64 l)) (hl : l.length ≤ 1048576) :
    Calls Tryd.prog 70 #[.agg #[v, .int .i64 sos]] w fun e w' => e = .returned (.tuple #[]) ∧ w'.ownsRow B 3 1 v l.length (nums .i64 (bsGo sos false l)) ∧ w.grownBy w' v.ownBlock := by
  have hst := StW.start sos h
  obtain ⟨A, cp, hv, hc⟩ := own_nums h
  subst hv
  have HC := Lib.hid hc
  clear hc h
  go_enter Tryd.func70, Tryd.ntmps70
  go_wp2
  go_loopg [2] (l.length + 2) (fun g v2 wr => ∃ (i : Nat) (R : List Int), i ≤ l.length + 1 ∧ g = l.length + 2 - i ∧ v2 = .int .i64 i ∧ StW w B (.slice A l.length cp) sos R wr ∧ Hid (DoneW l R i (stB R sos i) (bsGo sos false l)))
  case atStart => exact ⟨0, l, Nat.zero_le _, rfl, rfl, hst, Lib.hid ⟨rfl, rfl, rfl⟩⟩
  case round =>
    clear hst
    obtain ⟨i, R, hi, hg, rfl, hS, hD⟩ := hrel
    have Hg := Lib.hid hg
    clear hg
    have hRl : R.length = l.length := hD.out.1
    by_cases hlt : i < l.length
    · obtain ⟨g, rfl, hgw, _, _, _⟩ := HC.out i hlt
      obtain ⟨hcell, hfree, hb0, hb1⟩ := hS.cell hRl hlt
      have hlt' : (i : Int) < (l.length : Int) := by omega
      have HS := Lib.hid hS
      have HRl := Lib.hid hRl
      clear hS hcell
      go_wp2
      go_loopg [2] (l.length + 1 - i) (fun g2 v2 wr2 => ∃ (k : Nat), i ≤ k ∧ k ≤ l.length ∧ g2 = l.length + 1 - k ∧ v2 = .int .i64 k ∧ StW w B (.slice (some ⟨g, 0, none⟩) l.length cp) sos R wr2 ∧ Hid (∀ j, i ≤ j → j < k → l.getD j 0 = 5))
      case atStart => exact ⟨i, Nat.le_refl _, by omega, rfl, rfl, HS.out, Lib.hid (fun j h1 h2 => by omega)⟩
      case round =>
        clear HS hfree hb0 hb1
        obtain ⟨k, hk1, hk2, hg2, rfl, hS2, hA⟩ := hrel
        have hr2 : Hid (atW R sos (k : Int) = if k < l.length then l.getD k 0 else -1) := Lib.hid (at_here HRl.out hD.out.2.1 hk1)
        obtain ⟨n, hn⟩ : ∃ n, n = atW R sos (k : Int) := ⟨_, rfl⟩
        have Hn := Lib.hid hn
        have Hg2 := Lib.hid hg2
        obtain ⟨_, _, p3, p4⟩ := hS2.cell HRl.out hlt
        have HS2 := Lib.hid hS2
        have Hnv : Hid (n = if k < l.length then l.getD k 0 else -1) := Lib.hid (by rw [hn]; exact hr2.out)
        clear hn hg2 hS2
        by_cases h5 : n = 5
        · have bh5 : (n == 5) = true := by simpa using h5
          have hkl : k < l.length := by
            rcases Nat.lt_or_ge k l.length with hh | hh
            · exact hh
            · have := Hnv.out; rw [if_neg (by omega)] at this; omega
          have HA2 : Hid (∀ j, i ≤ j → j < k + 1 → l.getD j 0 = 5) := Lib.hid (fun j h1 h2 => by
            rcases Nat.lt_or_ge j k with hh | hh
            · exact hA.out j h1 hh
            · have : j = k := by omega
              subst this
              have := Hnv.out; rw [if_pos hkl] at this; omega)
          have H5 := Lib.hid h5
          clear h5
          go_wp2_with (go_at_call 80; with_reducible refine (at_St HS2.out (Nat.le_trans (Nat.le_of_eq HRl.out) hl) _).mono ?_; rintro e W3 ⟨rfl, hS3⟩; have HS3 := Lib.hid hS3; rw [← Hn.out]; clear hS3)
          go_roundg (l.length + 1 - (k + 1))
          case measure => have := Hg2.out; omega
          case rel => exact ⟨k + 1, by omega, by omega, rfl, by go_num, HS3.out, HA2⟩
        · have bh5 : (n == 5) = false := by simpa using h5
          have H5 := Lib.hid h5
          clear h5
          obtain ⟨p, hp⟩ : ∃ p, p = atW R sos ((i : Int) - 1) := ⟨_, rfl⟩
          have Hp := Lib.hid hp
          have HKK : ¬ (0 < i ∧ p = 3) → n ≠ 3 → Hid (DoneW l R (k + 1) (stB R sos (k + 1)) (bsGo sos false l)) := fun a b => Lib.hid (by
            have := (stB_keep hk2 Hnv.out H5.out b hA.out (by rw [← Hp.out]; exact a) hD.out (k - i) (by omega)).1
            rw [show i + (k - i) = k by omega] at this
            exact stB_fin this hk2 Hnv.out H5.out)
          have HKK' := Lib.hid HKK
          clear hp HKK
          by_cases h0 : 0 < i
          · have bh0 : decide ((i : Int) > 0) = true := decide_eq_true (by omega)
            have th0 : (0 : Int) < (i : Int) := by omega
            by_cases hp3 : p = 3
            · have bp : (p == 3) = true := by simpa using hp3
              have HF : Hid (0 < i ∧ atW R sos ((i : Int) - 1) = 3 ∨ n = 3) := Lib.hid (.inl ⟨h0, by rw [← Hp.out]; exact hp3⟩)
              clear h0 hp3
              go_wp2_with (first | (go_at_call 80; with_reducible refine (at_St HS4.out (Nat.le_trans (Nat.le_of_eq HRl.out) hl) _).mono ?_; rintro e W5 ⟨rfl, hT⟩; obtain ⟨_, _, _, _⟩ := hT.cell HRl.out hlt; have HS5 := Lib.hid hT; rw [← Hn.out]; clear hT) | (go_at_call 80; with_reducible refine (at_St HS3.out (Nat.le_trans (Nat.le_of_eq HRl.out) hl) _).mono ?_; rintro e W4 ⟨rfl, hT⟩; obtain ⟨_, _, _, _⟩ := hT.cell HRl.out hlt; have HS4 := Lib.hid hT; rw [← Hp.out]; clear hT) | (go_at_call 80; with_reducible refine (at_St HS2.out (Nat.le_trans (Nat.le_of_eq HRl.out) hl) _).mono ?_; rintro e W3 ⟨rfl, hT⟩; obtain ⟨_, _, _, _⟩ := hT.cell HRl.out hlt; have HS3 := Lib.hid hT; rw [← Hn.out]; clear hT))
              go_loopg [4] (l.length + 1 - i) (fun g4 v4 wr4 => ∃ (m : Nat) (R4 : List Int), i ≤ m ∧ m ≤ k ∧ g4 = l.length + 1 - m ∧ v4 = .int .i64 m ∧ StW w B (.slice (some ⟨g, 0, none⟩) l.length cp) sos R4 wr4 ∧ Hid (DoneW l R4 m (stB R4 sos m) (bsGo sos false l) ∧ (0 < m ∧ atW R4 sos ((m : Int) - 1) = 3 ∨ n = 3)))
              case atStart => exact ⟨i, R, Nat.le_refl _, hk1, rfl, rfl, HS4.out, Lib.hid ⟨hD.out, HF.out⟩⟩
              case round =>
                obtain ⟨m, R4, hm1, hm2, hg4, rfl, hS6, hD4⟩ := hrel
                have Hg4 := Lib.hid hg4
                have hR4 : Hid (R4.length = l.length) := Lib.hid hD4.out.1.1
                by_cases hmk : m < k
                · have hml : m < l.length := by omega
                  obtain ⟨_, q2, q3, q4⟩ := hS6.cell hR4.out hml
                  have HS6 := Lib.hid hS6
                  have HS7 : Hid (StW w B (.slice (some ⟨g, 0, none⟩) l.length cp) sos (R4.set m 3) (wr.setCell ⟨g, m, none⟩ (.int .i64 3))) := Lib.hid (HS6.out.set' hR4.out hgw m 3)
                  have HD7 : Hid (DoneW l (R4.set m 3) (m + 1) (stB (R4.set m 3) sos (m + 1)) (bsGo sos false l)) := Lib.hid (stB_put hD4.out.1 hml (run_at hk2 Hnv.out H5.out (k - (m + 1)) (m + 1) (by omega) (fun j h1 h2 => hA.out j (by omega) h2)) (hA.out m hm1 hmk) hD4.out.2)
                  have HA7 : Hid (atW (R4.set m 3) sos (((m + 1 : Nat) : Int) - 1) = 3) := Lib.hid (stB_put_at hR4.out hml)
                  have hmk' : (m : Int) < (k : Int) := by omega
                  have hml' : (m : Int) < (l.length : Int) := by omega
                  clear hg4 hS6
                  go_wp2
                  go_roundg (l.length + 1 - (m + 1))
                  case measure => have := Hg4.out; omega
                  case rel => exact ⟨m + 1, R4.set m 3, by omega, by omega, rfl, by go_num, HS7.out, Lib.hid ⟨HD7.out, .inl ⟨by omega, HA7.out⟩⟩⟩
                · have hmk' : ¬ (m : Int) < (k : Int) := by omega
                  have e : m = k := by omega
                  subst e
                  have HS6 := Lib.hid hS6
                  clear hg4 hS6
                  go_wp2
                  go_roundg (l.length + 2 - (m + 1))
                  case measure => have := Hg.out; omega
                  case rel => exact ⟨m + 1, R4, by omega, rfl, by go_num, HS6.out, Lib.hid (stB_fin hD4.out.1 hk2 Hnv.out H5.out)⟩
            · have bp : (p == 3) = false := by simpa using hp3
              by_cases hn3 : n = 3
              · have bn : (n == 3) = true := by simpa using hn3
                have HF : Hid (0 < i ∧ atW R sos ((i : Int) - 1) = 3 ∨ n = 3) := Lib.hid (.inr hn3)
                clear h0 hp3 hn3
                go_wp2_with (first | (go_at_call 80; with_reducible refine (at_St HS4.out (Nat.le_trans (Nat.le_of_eq HRl.out) hl) _).mono ?_; rintro e W5 ⟨rfl, hT⟩; obtain ⟨_, _, _, _⟩ := hT.cell HRl.out hlt; have HS5 := Lib.hid hT; rw [← Hn.out]; clear hT) | (go_at_call 80; with_reducible refine (at_St HS3.out (Nat.le_trans (Nat.le_of_eq HRl.out) hl) _).mono ?_; rintro e W4 ⟨rfl, hT⟩; obtain ⟨_, _, _, _⟩ := hT.cell HRl.out hlt; have HS4 := Lib.hid hT; rw [← Hp.out]; clear hT) | (go_at_call 80; with_reducible refine (at_St HS2.out (Nat.le_trans (Nat.le_of_eq HRl.out) hl) _).mono ?_; rintro e W3 ⟨rfl, hT⟩; obtain ⟨_, _, _, _⟩ := hT.cell HRl.out hlt; have HS3 := Lib.hid hT; rw [← Hn.out]; clear hT))
                go_loopg [4] (l.length + 1 - i) (fun g4 v4 wr4 => ∃ (m : Nat) (R4 : List Int), i ≤ m ∧ m ≤ k ∧ g4 = l.length + 1 - m ∧ v4 = .int .i64 m ∧ StW w B (.slice (some ⟨g, 0, none⟩) l.length cp) sos R4 wr4 ∧ Hid (DoneW l R4 m (stB R4 sos m) (bsGo sos false l) ∧ (0 < m ∧ atW R4 sos ((m : Int) - 1) = 3 ∨ n = 3)))
                case atStart => exact ⟨i, R, Nat.le_refl _, hk1, rfl, rfl, HS5.out, Lib.hid ⟨hD.out, HF.out⟩⟩
                case round =>
                  obtain ⟨m, R4, hm1, hm2, hg4, rfl, hS6, hD4⟩ := hrel
                  have Hg4 := Lib.hid hg4
                  have hR4 : Hid (R4.length = l.length) := Lib.hid hD4.out.1.1
                  by_cases hmk : m < k
                  · have hml : m < l.length := by omega
                    obtain ⟨_, q2, q3, q4⟩ := hS6.cell hR4.out hml
                    have HS6 := Lib.hid hS6
                    have HS7 : Hid (StW w B (.slice (some ⟨g, 0, none⟩) l.length cp) sos (R4.set m 3) (wr.setCell ⟨g, m, none⟩ (.int .i64 3))) := Lib.hid (HS6.out.set' hR4.out hgw m 3)
                    have HD7 : Hid (DoneW l (R4.set m 3) (m + 1) (stB (R4.set m 3) sos (m + 1)) (bsGo sos false l)) := Lib.hid (stB_put hD4.out.1 hml (run_at hk2 Hnv.out H5.out (k - (m + 1)) (m + 1) (by omega) (fun j h1 h2 => hA.out j (by omega) h2)) (hA.out m hm1 hmk) hD4.out.2)
                    have HA7 : Hid (atW (R4.set m 3) sos (((m + 1 : Nat) : Int) - 1) = 3) := Lib.hid (stB_put_at hR4.out hml)
                    have hmk' : (m : Int) < (k : Int) := by omega
                    have hml' : (m : Int) < (l.length : Int) := by omega
                    clear hg4 hS6
                    go_wp2
                    go_roundg (l.length + 1 - (m + 1))
                    case measure => have := Hg4.out; omega
                    case rel => exact ⟨m + 1, R4.set m 3, by omega, by omega, rfl, by go_num, HS7.out, Lib.hid ⟨HD7.out, .inl ⟨by omega, HA7.out⟩⟩⟩
                  · have hmk' : ¬ (m : Int) < (k : Int) := by omega
                    have e : m = k := by omega
                    subst e
                    have HS6 := Lib.hid hS6
                    clear hg4 hS6
                    go_wp2
                    go_roundg (l.length + 2 - (m + 1))
                    case measure => have := Hg.out; omega
                    case rel => exact ⟨m + 1, R4, by omega, rfl, by go_num, HS6.out, Lib.hid (stB_fin hD4.out.1 hk2 Hnv.out H5.out)⟩
              · have bn : (n == 3) = false := by simpa using hn3
                have HK := Lib.hid (HKK'.out (fun a => hp3 a.2) hn3).out
                clear h0 hp3 hn3
                go_wp2_with (first | (go_at_call 80; with_reducible refine (at_St HS4.out (Nat.le_trans (Nat.le_of_eq HRl.out) hl) _).mono ?_; rintro e W5 ⟨rfl, hT⟩; obtain ⟨_, _, _, _⟩ := hT.cell HRl.out hlt; have HS5 := Lib.hid hT; rw [← Hn.out]; clear hT) | (go_at_call 80; with_reducible refine (at_St HS3.out (Nat.le_trans (Nat.le_of_eq HRl.out) hl) _).mono ?_; rintro e W4 ⟨rfl, hT⟩; obtain ⟨_, _, _, _⟩ := hT.cell HRl.out hlt; have HS4 := Lib.hid hT; rw [← Hp.out]; clear hT) | (go_at_call 80; with_reducible refine (at_St HS2.out (Nat.le_trans (Nat.le_of_eq HRl.out) hl) _).mono ?_; rintro e W3 ⟨rfl, hT⟩; obtain ⟨_, _, _, _⟩ := hT.cell HRl.out hlt; have HS3 := Lib.hid hT; rw [← Hn.out]; clear hT))
                go_roundg (l.length + 2 - (k + 1))
                case measure => have := Hg.out; omega
                case rel => exact ⟨k + 1, R, by omega, rfl, by go_num, HS5.out, HK.out⟩
          · have bh0 : decide ((i : Int) > 0) = false := decide_eq_false (by omega)
            have th0 : ¬ (0 : Int) < (i : Int) := by omega
            by_cases hn3 : n = 3
            · have bn : (n == 3) = true := by simpa using hn3
              have HF : Hid (0 < i ∧ atW R sos ((i : Int) - 1) = 3 ∨ n = 3) := Lib.hid (.inr hn3)
              clear h0 hn3
              go_wp2_with (first | (go_at_call 80; with_reducible refine (at_St HS3.out (Nat.le_trans (Nat.le_of_eq HRl.out) hl) _).mono ?_; rintro e W4 ⟨rfl, hT⟩; obtain ⟨_, _, _, _⟩ := hT.cell HRl.out hlt; have HS4 := Lib.hid hT; rw [← Hn.out]; clear hT) | (go_at_call 80; with_reducible refine (at_St HS2.out (Nat.le_trans (Nat.le_of_eq HRl.out) hl) _).mono ?_; rintro e W3 ⟨rfl, hT⟩; obtain ⟨_, _, _, _⟩ := hT.cell HRl.out hlt; have HS3 := Lib.hid hT; rw [← Hn.out]; clear hT))
              go_loopg [4] (l.length + 1 - i) (fun g4 v4 wr4 => ∃ (m : Nat) (R4 : List Int), i ≤ m ∧ m ≤ k ∧ g4 = l.length + 1 - m ∧ v4 = .int .i64 m ∧ StW w B (.slice (some ⟨g, 0, none⟩) l.length cp) sos R4 wr4 ∧ Hid (DoneW l R4 m (stB R4 sos m) (bsGo sos false l) ∧ (0 < m ∧ atW R4 sos ((m : Int) - 1) = 3 ∨ n = 3)))
              case atStart => exact ⟨i, R, Nat.le_refl _, hk1, rfl, rfl, HS4.out, Lib.hid ⟨hD.out, HF.out⟩⟩
              case round =>
                obtain ⟨m, R4, hm1, hm2, hg4, rfl, hS6, hD4⟩ := hrel
                have Hg4 := Lib.hid hg4
                have hR4 : Hid (R4.length = l.length) := Lib.hid hD4.out.1.1
                by_cases hmk : m < k
                · have hml : m < l.length := by omega
                  obtain ⟨_, q2, q3, q4⟩ := hS6.cell hR4.out hml
                  have HS6 := Lib.hid hS6
                  have HS7 : Hid (StW w B (.slice (some ⟨g, 0, none⟩) l.length cp) sos (R4.set m 3) (wr.setCell ⟨g, m, none⟩ (.int .i64 3))) := Lib.hid (HS6.out.set' hR4.out hgw m 3)
                  have HD7 : Hid (DoneW l (R4.set m 3) (m + 1) (stB (R4.set m 3) sos (m + 1)) (bsGo sos false l)) := Lib.hid (stB_put hD4.out.1 hml (run_at hk2 Hnv.out H5.out (k - (m + 1)) (m + 1) (by omega) (fun j h1 h2 => hA.out j (by omega) h2)) (hA.out m hm1 hmk) hD4.out.2)
                  have HA7 : Hid (atW (R4.set m 3) sos (((m + 1 : Nat) : Int) - 1) = 3) := Lib.hid (stB_put_at hR4.out hml)
                  have hmk' : (m : Int) < (k : Int) := by omega
                  have hml' : (m : Int) < (l.length : Int) := by omega
                  clear hg4 hS6
                  go_wp2
                  go_roundg (l.length + 1 - (m + 1))
                  case measure => have := Hg4.out; omega
                  case rel => exact ⟨m + 1, R4.set m 3, by omega, by omega, rfl, by go_num, HS7.out, Lib.hid ⟨HD7.out, .inl ⟨by omega, HA7.out⟩⟩⟩
                · have hmk' : ¬ (m : Int) < (k : Int) := by omega
                  have e : m = k := by omega
                  subst e
                  have HS6 := Lib.hid hS6
                  clear hg4 hS6
                  go_wp2
                  go_roundg (l.length + 2 - (m + 1))
                  case measure => have := Hg.out; omega
                  case rel => exact ⟨m + 1, R4, by omega, rfl, by go_num, HS6.out, Lib.hid (stB_fin hD4.out.1 hk2 Hnv.out H5.out)⟩
            · have bn : (n == 3) = false := by simpa using hn3
              have HK := Lib.hid (HKK'.out (fun a => h0 a.1) hn3).out
              clear h0 hn3
              go_wp2_with (first | (go_at_call 80; with_reducible refine (at_St HS3.out (Nat.le_trans (Nat.le_of_eq HRl.out) hl) _).mono ?_; rintro e W4 ⟨rfl, hT⟩; obtain ⟨_, _, _, _⟩ := hT.cell HRl.out hlt; have HS4 := Lib.hid hT; rw [← Hn.out]; clear hT) | (go_at_call 80; with_reducible refine (at_St HS2.out (Nat.le_trans (Nat.le_of_eq HRl.out) hl) _).mono ?_; rintro e W3 ⟨rfl, hT⟩; obtain ⟨_, _, _, _⟩ := hT.cell HRl.out hlt; have HS3 := Lib.hid hT; rw [← Hn.out]; clear hT))
              go_roundg (l.length + 2 - (k + 1))
              case measure => have := Hg.out; omega
              case rel => exact ⟨k + 1, R, by omega, rfl, by go_num, HS4.out, HK.out⟩
    · have hlt' : ¬ (i : Int) < (l.length : Int) := by omega
      have hR := hD.out.all hlt rfl
      have HS := Lib.hid hS
      have HR := Lib.hid hR
      have HL : Hid (∃ A' c', (Value.slice A l.length cp) = .slice A' l.length c') := Lib.hid ⟨_, _, rfl⟩
      have hb0 : wr.cell? ⟨w.heap.size, 0, none⟩ = some (.slice A l.length cp) := by rw [cell_of_row _ _ _ _ _ _ hS.box]; rfl
      clear hS hR
      go_wp2
      go_end0
      have ho := HS.out.own
      rw [hRl, HR.out] at ho
      exact ⟨rfl, ho, HS.out.gr⟩
end Go.Proofs.YtfpibigfhhoiiaaDoor
