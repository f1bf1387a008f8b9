/- mirror.Pair, mirror.Form, mirror.Meet, walked. -/
import Derived.Test.YtdpifkhkemeclaaDoorFind
namespace Go.Proofs.YtdpifkhkemeclaaDoor
open Go.RowKit
set_option linter.unusedVariables false
set_option linter.unusedSimpArgs false
def pairP (code : Int) : Int × Int := if (findP code).2.2 = true then ((findP code).1, (findP code).2.1) else (0, 0)
def formP (code : Int) : Int := if code = 9001 ∨ code = 9002 then code - 9001 + 12296 else code
def meetP (a b : Int) : Bool := decide ((pairP a).1 = 1) && (decide ((pairP b).1 = 2) && decide (formP (pairP a).2 = formP b))
def mirror_Pair.f (a0 : Int) : Option (Int × Int) := some (pairP a0)
theorem mirror_Pair.calls (a0 : Int) (r1 r2 : Int) (w : World) (h : mirror_Pair.f a0 = some (r1, r2)) :
    Calls Tryd.prog 21 #[.int .i64 a0] w fun e w' => e = .returned (.tuple #[.int .i64 r1, .int .i64 r2]) ∧ Below w.heap.size w w' := by
  have h := Option.some.inj h
  have HF := Lib.hid (mirror_find.calls a0 (findP a0).1 (findP a0).2.1 (findP a0).2.2 w rfl)
  obtain ⟨k, hk⟩ : ∃ k, k = (findP a0).1 := ⟨_, rfl⟩
  obtain ⟨o, ho⟩ : ∃ o, o = (findP a0).2.1 := ⟨_, rfl⟩
  obtain ⟨b, hb⟩ : ∃ b, b = (findP a0).2.2 := ⟨_, rfl⟩
  unfold pairP at h
  rw [← hk, ← ho, ← hb] at h HF
  cases b with
  | true =>
    have hr : k = r1 ∧ o = r2 := by rw [if_pos rfl] at h; exact ⟨congrArg Prod.fst h, congrArg Prod.snd h⟩
    obtain ⟨rfl, rfl⟩ := hr
    clear h hk ho hb
    go_enter Tryd.func21, Tryd.ntmps21
    go_wp2_with (go_at_call 37; with_reducible refine HF.out.mono ?_; rintro e w' ⟨rfl, hT⟩; have HT := Lib.hid hT; clear hT)
    all_goals (try go_ret2)
    all_goals exact ⟨rfl, HT.out⟩
  | false =>
    have hr : 0 = r1 ∧ 0 = r2 := by rw [if_neg (by decide)] at h; exact ⟨congrArg Prod.fst h, congrArg Prod.snd h⟩
    obtain ⟨rfl, rfl⟩ := hr
    clear h hk ho hb
    go_enter Tryd.func21, Tryd.ntmps21
    go_wp2_with (go_at_call 37; with_reducible refine HF.out.mono ?_; rintro e w' ⟨rfl, hT⟩; have HT := Lib.hid hT; clear hT)
    go_ret2
    exact ⟨rfl, HT.out⟩
def mirror_Form.f (a0 : Int) : Option Int := some (formP a0)
theorem form_any (a0 : Int) (w : World) : Calls Tryd.prog 34 #[.int .i64 a0] w fun e w' => e = .returned (.int .i64 (formP a0)) ∧ w' = w := by
  by_cases h1 : a0 = 9001
  · subst h1
    go_enter Tryd.func34, Tryd.ntmps34
    go_wp2
    go_ret
    exact ⟨rfl, rfl⟩
  · by_cases h2 : a0 = 9002
    · subst h2
      go_enter Tryd.func34, Tryd.ntmps34
      go_wp2
      go_ret
      exact ⟨rfl, rfl⟩
    · have HR : Hid (formP a0 = a0) := Lib.hid (by unfold formP; rw [if_neg (by omega)])
      have b1 : (a0 == 9001) = false := by simpa using h1
      have b2 : (a0 == 9002) = false := by simpa using h2
      go_enter Tryd.func34, Tryd.ntmps34
      go_wp2
      go_ret
      exact ⟨by rw [HR.out]; rfl, rfl⟩
def mirror_Meet.f (a0 a1 : Int) : Option Bool := some (meetP a0 a1)
theorem mirror_Meet.calls (a0 a1 : Int) (r : Bool) (w : World) (h : mirror_Meet.f a0 a1 = some r) :
    Calls Tryd.prog 15 #[.int .i64 a0, .int .i64 a1] w fun e w' => e = .returned (.bool r) ∧ Below w.heap.size w w' := by
  have h := Option.some.inj h
  have HA : Hid (∀ W, Calls Tryd.prog 21 #[.int .i64 a0] W fun e w' => e = .returned (.tuple #[.int .i64 (pairP a0).1, .int .i64 (pairP a0).2]) ∧ Below W.heap.size W w') := Lib.hid (fun W => mirror_Pair.calls a0 _ _ W rfl)
  have HB : Hid (∀ W, Calls Tryd.prog 21 #[.int .i64 a1] W fun e w' => e = .returned (.tuple #[.int .i64 (pairP a1).1, .int .i64 (pairP a1).2]) ∧ Below W.heap.size W w') := Lib.hid (fun W => mirror_Pair.calls a1 _ _ W rfl)
  unfold meetP at h
  obtain ⟨x, hx⟩ : ∃ x, x = (pairP a0).1 := ⟨_, rfl⟩
  obtain ⟨o, ho⟩ : ∃ o, o = (pairP a0).2 := ⟨_, rfl⟩
  obtain ⟨y, hy⟩ : ∃ y, y = (pairP a1).1 := ⟨_, rfl⟩
  obtain ⟨q, hq⟩ : ∃ q, q = (pairP a1).2 := ⟨_, rfl⟩
  rw [← hx, ← ho] at HA
  rw [← hy, ← hq] at HB
  rw [← hx, ← ho, ← hy] at h
  clear hx ho hy hq
  have HF : Hid (∀ u W, Calls Tryd.prog 34 #[.int .i64 u] W fun e w' => e = .returned (.int .i64 (formP u)) ∧ w' = W) := Lib.hid form_any
  by_cases h1 : x = 1
  · by_cases h2 : y = 2
    · subst h1 h2
      obtain ⟨u, hu⟩ : ∃ u, u = formP o := ⟨_, rfl⟩
      obtain ⟨v, hv⟩ : ∃ v, v = formP a1 := ⟨_, rfl⟩
      have hF1 : Hid (∀ W, Calls Tryd.prog 34 #[.int .i64 o] W fun e w' => e = .returned (.int .i64 u) ∧ w' = W) := Lib.hid (by rw [hu]; exact form_any o)
      have hF2 : Hid (∀ W, Calls Tryd.prog 34 #[.int .i64 a1] W fun e w' => e = .returned (.int .i64 v) ∧ w' = W) := Lib.hid (by rw [hv]; exact form_any a1)
      rw [← hu, ← hv] at h
      have Hr : Hid (decide (u = v) = r) := Lib.hid (by simpa using h)
      clear hu hv h HF
      by_cases huv : u = v
      · have hb : (u == v) = true := by simpa using huv
        have Hr2 : Hid (r = true) := Lib.hid (by rw [← Hr.out]; exact decide_eq_true huv)
        clear huv Hr
        go_enter Tryd.func15, Tryd.ntmps15
        go_wp2_with (first
          | (go_at_call 21; with_reducible refine (HA.out _).mono ?_; rintro e w1 ⟨rfl, hT⟩; have HT := Lib.hid hT; clear hT)
          | (go_at_call 21; with_reducible refine (HB.out _).mono ?_; rintro e w2 ⟨rfl, hS⟩; have HS := Lib.hid hS; clear hS)
          | (go_at_call 34; with_reducible refine (hF1.out _).mono ?_; rintro e w' ⟨rfl, hw⟩; obtain rfl := hw.symm; clear hw)
          | (go_at_call 34; with_reducible refine (hF2.out _).mono ?_; rintro e w' ⟨rfl, hw⟩; obtain rfl := hw.symm; clear hw))
        go_ret
        exact ⟨by rw [Hr2.out]; rfl, HT.out.trans (HS.out.mono HT.out.size)⟩
      · have hb : (u == v) = false := by simpa using huv
        have Hr2 : Hid (r = false) := Lib.hid (by rw [← Hr.out]; exact decide_eq_false huv)
        clear huv Hr
        go_enter Tryd.func15, Tryd.ntmps15
        go_wp2_with (first
          | (go_at_call 21; with_reducible refine (HA.out _).mono ?_; rintro e w1 ⟨rfl, hT⟩; have HT := Lib.hid hT; clear hT)
          | (go_at_call 21; with_reducible refine (HB.out _).mono ?_; rintro e w2 ⟨rfl, hS⟩; have HS := Lib.hid hS; clear hS)
          | (go_at_call 34; with_reducible refine (hF1.out _).mono ?_; rintro e w' ⟨rfl, hw⟩; obtain rfl := hw.symm; clear hw)
          | (go_at_call 34; with_reducible refine (hF2.out _).mono ?_; rintro e w' ⟨rfl, hw⟩; obtain rfl := hw.symm; clear hw))
        go_ret
        exact ⟨by rw [Hr2.out]; rfl, HT.out.trans (HS.out.mono HT.out.size)⟩
    · have hb : (y == 2) = false := by simpa using h2
      have Hr2 : Hid (r = false) := Lib.hid (by rw [← h]; simp [h2])
      subst h1
      clear h h2
      go_enter Tryd.func15, Tryd.ntmps15
      go_wp2_with (first
        | (go_at_call 21; with_reducible refine (HA.out _).mono ?_; rintro e w1 ⟨rfl, hT⟩; have HT := Lib.hid hT; clear hT)
        | (go_at_call 21; with_reducible refine (HB.out _).mono ?_; rintro e w2 ⟨rfl, hS⟩; have HS := Lib.hid hS; clear hS))
      go_ret
      exact ⟨by rw [Hr2.out]; rfl, HT.out.trans (HS.out.mono HT.out.size)⟩
  · have hb : (x == 1) = false := by simpa using h1
    have Hr2 : Hid (r = false) := Lib.hid (by rw [← h]; simp [h1])
    clear h h1
    go_enter Tryd.func15, Tryd.ntmps15
    go_wp2_with (first
      | (go_at_call 21; with_reducible refine (HA.out _).mono ?_; rintro e w1 ⟨rfl, hT⟩; have HT := Lib.hid hT; clear hT)
      | (go_at_call 21; with_reducible refine (HB.out _).mono ?_; rintro e w2 ⟨rfl, hS⟩; have HS := Lib.hid hS; clear hS))
    go_ret
    exact ⟨by rw [Hr2.out]; rfl, HT.out.trans (HS.out.mono HT.out.size)⟩
end Go.Proofs.YtdpifkhkemeclaaDoor
