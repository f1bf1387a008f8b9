/- weak.Weak, walked: the rules one behind the other on a copy. -/
import Derived.Test.YtfpibigfhhoiiaaDoorWk7
import Derived.LoopN
import Derived.Test.YtfpibigfhhoiiaaDoorSettle
namespace Go.Proofs.YtfpibigfhhoiiaaDoor
open Go.RowKit Go.Proofs.YtfpibigfhhoiiaaDoorW.PrintWords
set_option linter.unusedVariables false
set_option linter.unusedSimpArgs false

/-- What the rules make of a sequence, one behind the other. -/
def weakW (l : List Int) (sos : Int) : List Int :=
  aftGo 0 0 sos (turnW 13 [4, 5, 7] (bsGo sos false (btGo sos false (turnW 1 [2] (aftGo 2 6 sos (mkGo sos false l))))))

theorem mk_len : ∀ (l : List Int) (p : Int) (b : Bool), (mkGo p b l).length = l.length
  | [], _, _ => rfl
  | _ :: r, _, _ => congrArg (· + 1) (mk_len r _ _)
theorem bt_len : ∀ (l : List Int) (p : Int) (b : Bool), (btGo p b l).length = l.length
  | [], _, _ => rfl
  | _ :: r, _, _ => congrArg (· + 1) (bt_len r _ _)
theorem bs_len : ∀ (l : List Int) (p : Int) (b : Bool), (bsGo p b l).length = l.length
  | [], _, _ => rfl
  | _ :: r, _, _ => congrArg (· + 1) (bs_len r _ _)
theorem aft_len (a c : Int) : ∀ (l : List Int) (p : Int), (aftGo a c p l).length = l.length
  | [], _ => rfl
  | x :: r, p => by
    simp only [aftGo]
    split
    · simp [aft_len a c r]
    · split <;> simp [aft_len a c r]
theorem turn_len (t : Int) (fs l : List Int) : (turnW t fs l).length = l.length := by simp [turnW]
theorem weak_len (l : List Int) (sos : Int) : (weakW l sos).length = l.length := by
  unfold weakW
  rw [aft_len, turn_len, bs_len, bt_len, turn_len, aft_len, mk_len]

/-! Parts: behind L or R all begins anew. -/
theorem mk_app (y : Int) (hy : y = 0 ∨ y = 1) : ∀ (a r : List Int) (p : Int) (b : Bool), ∃ A, A.length = a.length ∧ mkGo p b (a ++ [y]) = A ++ [y] ∧ mkGo p b (a ++ y :: r) = A ++ y :: mkGo y false r := by
  intro a
  induction a with
  | nil =>
    intro r p b
    refine ⟨[], rfl, ?_, ?_⟩
    · simp only [List.nil_append, mkGo]; rw [if_neg (by omega)]
    · simp only [List.nil_append, mkGo]
      rw [if_neg (by omega)]
      congr 1
      cases r with
      | nil => rfl
      | cons d r =>
        have e : mkOf y true = mkOf y false := by unfold mkOf; rw [if_neg (by omega), if_neg (by omega)]
        simp only [mkGo]; rw [e]
  | cons c a ih =>
    intro r p b
    obtain ⟨A, hl, h1, h2⟩ := ih r (if c = 8 then mkOf p b else c) true
    exact ⟨(if c = 8 then mkOf p b else c) :: A, by simp [hl], by simp only [List.cons_append, mkGo]; rw [h1], by simp only [List.cons_append, mkGo]; rw [h2]⟩
theorem nx_app (a r : List Int) (y : Int) : nxW (a ++ y :: r) = nxW (a ++ [y]) := by cases a <;> rfl
theorem bt_app (y : Int) (hy : y = 0 ∨ y = 1) : ∀ (a r : List Int) (p : Int) (b : Bool), ∃ A, A.length = a.length ∧ btGo p b (a ++ [y]) = A ++ [y] ∧ btGo p b (a ++ y :: r) = A ++ y :: btGo y false r := by
  intro a
  induction a with
  | nil =>
    intro r p b
    have e0 : ∀ n, btOf p n b y = y := by intro n; unfold btOf; rw [if_neg (by omega)]
    refine ⟨[], rfl, ?_, ?_⟩
    · simp only [List.nil_append, btGo, e0]
    · simp only [List.nil_append, btGo, e0]
      congr 1
      cases r with
      | nil => rfl
      | cons d r =>
        have e : ∀ n, btOf y n true d = btOf y n false d := by intro n; unfold btOf; rw [if_neg (by omega), if_neg (by simp)]
        simp only [btGo]; rw [e]
  | cons c a ih =>
    intro r p b
    obtain ⟨A, hl, h1, h2⟩ := ih r (btOf p (nxW (a ++ [y])) b c) true
    exact ⟨btOf p (nxW (a ++ [y])) b c :: A, by simp [hl], by simp only [List.cons_append, btGo]; rw [h1], by simp only [List.cons_append, btGo]; rw [nx_app, h2]⟩
theorem run_app (y : Int) (hy : y = 0 ∨ y = 1) : ∀ (a r : List Int), runNx (a ++ y :: r) = runNx (a ++ [y])
  | [], r => by simp only [List.nil_append, runNx]; rw [if_neg (by omega), if_neg (by omega)]
  | c :: a, r => by simp only [List.cons_append, runNx]; rw [run_app y hy a r]
theorem bs_app (y : Int) (hy : y = 0 ∨ y = 1) : ∀ (a r : List Int) (p : Int) (b : Bool), ∃ A, A.length = a.length ∧ bsGo p b (a ++ [y]) = A ++ [y] ∧ bsGo p b (a ++ y :: r) = A ++ y :: bsGo y false r := by
  intro a
  induction a with
  | nil =>
    intro r p b
    have e0 : ∀ n, bsOf p n b y = y := by intro n; unfold bsOf; rw [if_neg (by omega)]
    refine ⟨[], rfl, ?_, ?_⟩
    · simp only [List.nil_append, bsGo, e0]
    · simp only [List.nil_append, bsGo, e0]
      congr 1
      cases r with
      | nil => rfl
      | cons d r =>
        have e : ∀ n, bsOf y n true d = bsOf y n false d := by
          intro n; unfold bsOf
          by_cases h : d = 5 ∧ n = 3
          · rw [if_pos ⟨h.1, .inr h.2⟩, if_pos ⟨h.1, .inr h.2⟩]
          · rw [if_neg (by omega), if_neg (by simp; omega)]
        simp only [bsGo]; rw [e]
  | cons c a ih =>
    intro r p b
    obtain ⟨A, hl, h1, h2⟩ := ih r (bsOf p (runNx (a ++ [y])) b c) true
    exact ⟨bsOf p (runNx (a ++ [y])) b c :: A, by simp [hl], by simp only [List.cons_append, bsGo]; rw [h1], by simp only [List.cons_append, bsGo]; rw [run_app y hy, h2]⟩
theorem aft_app (t u y : Int) (hy : y = 0 ∨ y = 1) : ∀ (a r : List Int) (p : Int), ∃ A, A.length = a.length ∧ aftGo t u p (a ++ [y]) = A ++ [y] ∧ aftGo t u p (a ++ y :: r) = A ++ y :: aftGo t u y r := by
  intro a
  induction a with
  | nil =>
    intro r p
    refine ⟨[], rfl, ?_, ?_⟩
    · simp only [List.nil_append, aftGo]; rw [if_pos (by omega)]
    · simp only [List.nil_append, aftGo]; rw [if_pos (by omega)]
  | cons c a ih =>
    intro r p
    by_cases h0 : c = 0 ∨ c = 1 ∨ c = 2
    · obtain ⟨A, hl, h1, h2⟩ := ih r c
      exact ⟨c :: A, by simp [hl], by simp only [List.cons_append, aftGo]; rw [if_pos h0, h1], by simp only [List.cons_append, aftGo]; rw [if_pos h0, h2]⟩
    · obtain ⟨A, hl, h1, h2⟩ := ih r p
      by_cases h3 : c = 3
      · exact ⟨(if p = t then u else c) :: A, by simp [hl], by simp only [List.cons_append, aftGo]; rw [if_neg h0, if_pos h3, h1], by simp only [List.cons_append, aftGo]; rw [if_neg h0, if_pos h3, h2]⟩
      · exact ⟨c :: A, by simp [hl], by simp only [List.cons_append, aftGo]; rw [if_neg h0, if_neg h3, h1], by simp only [List.cons_append, aftGo]; rw [if_neg h0, if_neg h3, h2]⟩
theorem turn_app (t : Int) (fs : List Int) (y : Int) (h : fs.contains y = false) (a r : List Int) : ∃ A, A.length = a.length ∧ turnW t fs (a ++ [y]) = A ++ [y] ∧ turnW t fs (a ++ y :: r) = A ++ y :: turnW t fs r :=
  ⟨turnW t fs a, turn_len _ _ _, by unfold turnW; rw [List.map_append, List.map_singleton, h]; rfl, by unfold turnW; rw [List.map_append, List.map_cons, h]; rfl⟩
theorem weak_app (y : Int) (hy : y = 0 ∨ y = 1) (a r : List Int) (sos : Int) : weakW (a ++ y :: r) sos = weakW (a ++ [y]) sos ++ weakW r y := by
  unfold weakW
  obtain ⟨A1, l1, a1, b1⟩ := mk_app y hy a r sos false
  rw [a1, b1]
  obtain ⟨A2, l2, a2, b2⟩ := aft_app 2 6 y hy A1 (mkGo y false r) sos
  rw [a2, b2]
  obtain ⟨A3, l3, a3, b3⟩ := turn_app 1 [2] y (by rcases hy with rfl | rfl <;> rfl) A2 (aftGo 2 6 y (mkGo y false r))
  rw [a3, b3]
  obtain ⟨A4, l4, a4, b4⟩ := bt_app y hy A3 (turnW 1 [2] (aftGo 2 6 y (mkGo y false r))) sos false
  rw [a4, b4]
  obtain ⟨A5, l5, a5, b5⟩ := bs_app y hy A4 (btGo y false (turnW 1 [2] (aftGo 2 6 y (mkGo y false r)))) sos false
  rw [a5, b5]
  obtain ⟨A6, l6, a6, b6⟩ := turn_app 13 [4, 5, 7] y (by rcases hy with rfl | rfl <;> rfl) A5 (bsGo y false (btGo y false (turnW 1 [2] (aftGo 2 6 y (mkGo y false r)))))
  rw [a6, b6]
  obtain ⟨A7, l7, a7, b7⟩ := aft_app 0 0 y hy A6 (turnW 13 [4, 5, 7] (bsGo y false (btGo y false (turnW 1 [2] (aftGo 2 6 y (mkGo y false r)))))) sos
  rw [a7, b7]
  simp

/-! Settled: which classes are left, which stay. -/
/-- What no rule touches. -/
def stays (c : Int) : Prop := c = 0 ∨ c = 1 ∨ c = 6 ∨ c < 0 ∨ 8 < c
/-- One row from another, place by place. -/
inductive Over (P : Int → Int → Prop) : List Int → List Int → Prop
  | nil : Over P [] []
  | cons {a b l m} : P a b → Over P l m → Over P (a :: l) (b :: m)
theorem Over.mono {P Q : Int → Int → Prop} (h : ∀ a b, P a b → Q a b) : ∀ {l m}, Over P l m → Over Q l m := by
  intro l m H; induction H with
  | nil => exact .nil
  | cons a _ ih => exact .cons (h _ _ a) ih
theorem Over.trans {P Q S : Int → Int → Prop} (h : ∀ a b c, P a b → Q b c → S a c) : ∀ {l m n}, Over P l m → Over Q m n → Over S l n := by
  intro l m n H; induction H generalizing n with
  | nil => intro H; cases H; exact .nil
  | cons a _ ih => intro H; cases H with | cons b t => exact .cons (h _ _ _ a b) (ih t)
theorem Over.len {P : Int → Int → Prop} {l m : List Int} (H : Over P l m) : l.length = m.length := by
  induction H with
  | nil => rfl
  | cons _ _ ih => simp [ih]
theorem Over.get {P : Int → Int → Prop} {l m : List Int} (H : Over P l m) : ∀ i, i < l.length → P (l.getD i 0) (m.getD i 0) := by
  induction H with
  | nil => intro i h; simp at h
  | cons a _ ih =>
    intro i h
    cases i with
    | zero => simpa using a
    | succ i => simpa using ih i (by simpa using h)
theorem over_map {P : Int → Int → Prop} (f : Int → Int) (h : ∀ c, P c (f c)) : ∀ l, Over P l (l.map f)
  | [] => .nil
  | c :: r => .cons (h c) (over_map f h r)
theorem mk_over : ∀ (l : List Int) (p : Int) (b : Bool), p ≠ 8 → Over (fun c d => d ≠ 8 ∧ (stays c → d = c)) l (mkGo p b l)
  | [], _, _, _ => .nil
  | c :: r, p, b, hp => by
    have hm : mkOf p b ≠ 8 := by unfold mkOf; split <;> omega
    refine .cons ?_ (mk_over r _ _ ?_)
    · refine ⟨by split <;> omega, ?_⟩
      intro hs; unfold stays at hs; rw [if_neg (by omega)]
    · split <;> omega
theorem aft_over (t u : Int) : ∀ (l : List Int) (p : Int), Over (fun c d => (d = c ∨ c = 3 ∧ d = u)) l (aftGo t u p l)
  | [], _ => .nil
  | c :: r, p => by
    simp only [aftGo]
    split
    · exact .cons (.inl rfl) (aft_over t u r _)
    · split
      · refine .cons ?_ (aft_over t u r _); split
        · exact .inr ⟨by assumption, rfl⟩
        · exact .inl rfl
      · exact .cons (.inl rfl) (aft_over t u r _)
theorem bt_over : ∀ (l : List Int) (p : Int) (b : Bool), Over (fun c d => (d = c ∨ (c = 4 ∨ c = 7) ∧ (d = 3 ∨ d = 6))) l (btGo p b l)
  | [], _, _ => .nil
  | c :: r, p, b => by
    refine .cons ?_ (bt_over r _ _)
    unfold btOf; split <;> omega
theorem bs_over : ∀ (l : List Int) (p : Int) (b : Bool), Over (fun c d => (d = c ∨ c = 5 ∧ d = 3)) l (bsGo p b l)
  | [], _, _ => .nil
  | c :: r, p, b => by
    refine .cons ?_ (bs_over r _ _)
    unfold bsOf; split <;> omega
theorem turn2_over (l : List Int) : Over (fun c d => (c ≠ 2 ∧ d = c ∨ c = 2 ∧ d = 1)) l (turnW 1 [2] l) := by
  refine over_map _ (fun c => ?_) l
  by_cases h : c = 2
  · subst h; exact .inr ⟨rfl, rfl⟩
  · exact .inl ⟨h, if_neg (by simp [h])⟩
theorem turn3_over (l : List Int) : Over (fun c d => (c ≠ 4 ∧ c ≠ 5 ∧ c ≠ 7 ∧ d = c ∨ (c = 4 ∨ c = 5 ∨ c = 7) ∧ d = 13)) l (turnW 13 [4, 5, 7] l) := by
  refine over_map _ (fun c => ?_) l
  by_cases h : c = 4 ∨ c = 5 ∨ c = 7
  · exact .inr ⟨h, if_pos (by rcases h with rfl | rfl | rfl <;> rfl)⟩
  · exact .inl ⟨by omega, by omega, by omega, if_neg (by simp; omega)⟩
theorem weak_over (l : List Int) (sos : Int) (hs : sos = 0 ∨ sos = 1) : Over (fun c d => d ≠ 8 ∧ d ≠ 2 ∧ d ≠ 4 ∧ d ≠ 5 ∧ d ≠ 7 ∧ (stays c → d = c)) l (weakW l sos) := by
  unfold weakW
  have h1 := mk_over l sos false (by omega)
  have h2 := aft_over 2 6 (mkGo sos false l) sos
  have H2 := Over.trans (S := fun c d => d ≠ 8 ∧ (stays c → d = c)) (fun a b c x y => ⟨by omega, fun s => by have := x.2 s; unfold stays at s; omega⟩) h1 h2
  have H3 := Over.trans (S := fun c d => d ≠ 8 ∧ d ≠ 2 ∧ (stays c → d = c)) (fun a b c x y => ⟨by omega, by omega, fun s => by have := x.2 s; unfold stays at s; omega⟩) H2 (turn2_over _)
  have H4 := Over.trans (S := fun c d => d ≠ 8 ∧ d ≠ 2 ∧ (stays c → d = c)) (fun a b c x y => ⟨by omega, by omega, fun s => by have := x.2.2 s; unfold stays at s; omega⟩) H3 (bt_over _ sos false)
  have H5 := Over.trans (S := fun c d => d ≠ 8 ∧ d ≠ 2 ∧ (stays c → d = c)) (fun a b c x y => ⟨by omega, by omega, fun s => by have := x.2.2 s; unfold stays at s; omega⟩) H4 (bs_over _ sos false)
  have H6 := Over.trans (S := fun c d => d ≠ 8 ∧ d ≠ 2 ∧ d ≠ 4 ∧ d ≠ 5 ∧ d ≠ 7 ∧ (stays c → d = c)) (fun a b c x y => ⟨by omega, by omega, by omega, by omega, by omega, fun s => by have := x.2.2 s; unfold stays at s; omega⟩) H5 (turn3_over _)
  exact Over.trans (S := fun c d => d ≠ 8 ∧ d ≠ 2 ∧ d ≠ 4 ∧ d ≠ 5 ∧ d ≠ 7 ∧ (stays c → d = c)) (fun a b c x y => ⟨by omega, by omega, by omega, by omega, by omega, fun s => by have := x.2.2.2.2.2 s; unfold stays at s; omega⟩) H6 (aft_over 0 0 _ sos)

/-- A row without marks, signs, AL. -/
def bare (l : List Int) : Prop := ∀ c ∈ l, c ≠ 8 ∧ c ≠ 2 ∧ c ≠ 4 ∧ c ≠ 5 ∧ c ≠ 7
theorem mk_bare : ∀ (l : List Int) (p : Int) (b : Bool), bare l → mkGo p b l = l
  | [], _, _, _ => rfl
  | c :: r, p, b, h => by
    have hc := h c (by simp)
    simp only [mkGo]
    rw [if_neg hc.1, mk_bare r _ _ (fun d hd => h d (by simp [hd]))]
theorem bt_bare : ∀ (l : List Int) (p : Int) (b : Bool), bare l → btGo p b l = l
  | [], _, _, _ => rfl
  | c :: r, p, b, h => by
    have hc := h c (by simp)
    have e : ∀ n, btOf p n b c = c := by intro n; unfold btOf; rw [if_neg (by omega)]
    simp only [btGo]
    rw [e, bt_bare r _ _ (fun d hd => h d (by simp [hd]))]
theorem bs_bare : ∀ (l : List Int) (p : Int) (b : Bool), bare l → bsGo p b l = l
  | [], _, _, _ => rfl
  | c :: r, p, b, h => by
    have hc := h c (by simp)
    have e : ∀ n, bsOf p n b c = c := by intro n; unfold bsOf; rw [if_neg (by omega)]
    simp only [bsGo]
    rw [e, bs_bare r _ _ (fun d hd => h d (by simp [hd]))]
theorem aft_bare : ∀ (l : List Int) (p : Int), p ≠ 2 → bare l → aftGo 2 6 p l = l
  | [], _, _, _ => rfl
  | c :: r, p, hp, h => by
    have hc := h c (by simp)
    have hr : bare r := fun d hd => h d (by simp [hd])
    simp only [aftGo]
    split
    · rw [aft_bare r c (by omega) hr]
    · split
      · rw [aft_bare r p hp hr]
      · rw [aft_bare r p hp hr]
theorem turn_bare (t : Int) (fs l : List Int) (h : ∀ c ∈ l, fs.contains c = false) : turnW t fs l = l := by
  unfold turnW
  conv => rhs; rw [← List.map_id l]
  exact List.map_congr_left (fun c hc => by rw [h c hc]; rfl)
theorem aft_twice : ∀ (l : List Int) (p : Int), aftGo 0 0 p (aftGo 0 0 p l) = aftGo 0 0 p l
  | [], _ => rfl
  | c :: r, p => by
    by_cases h0 : c = 0 ∨ c = 1 ∨ c = 2
    · have e : ∀ m, aftGo 0 0 p (c :: m) = c :: aftGo 0 0 c m := by intro m; simp only [aftGo]; rw [if_pos h0]
      rw [e, e, aft_twice r c]
    · by_cases h3 : c = 3
      · by_cases hp : p = 0
        · subst h3 hp
          show aftGo 0 0 0 (0 :: aftGo 0 0 0 r) = 0 :: aftGo 0 0 0 r
          show 0 :: aftGo 0 0 0 (aftGo 0 0 0 r) = 0 :: aftGo 0 0 0 r
          rw [aft_twice r 0]
        · have e : ∀ m, aftGo 0 0 p (c :: m) = c :: aftGo 0 0 p m := by intro m; simp only [aftGo]; rw [if_neg h0, if_pos h3, if_neg hp]
          rw [e, e, aft_twice r p]
      · have e : ∀ m, aftGo 0 0 p (c :: m) = c :: aftGo 0 0 p m := by intro m; simp only [aftGo]; rw [if_neg h0, if_neg h3]
        rw [e, e, aft_twice r p]
theorem over_bare {P : Int → Int → Prop} (hP : ∀ a d, P a d → d ≠ 8 ∧ d ≠ 2 ∧ d ≠ 4 ∧ d ≠ 5 ∧ d ≠ 7) {l m : List Int} (H : Over P l m) : bare m := by
  induction H with
  | nil => intro c hc; simp at hc
  | cons a _ ih =>
    intro c hc
    rcases List.mem_cons.1 hc with rfl | hc
    · exact hP _ _ a
    · exact ih c hc
theorem weak_bare (l : List Int) (sos : Int) (hs : sos = 0 ∨ sos = 1) : bare (weakW l sos) :=
  over_bare (fun _ _ h => ⟨h.1, h.2.1, h.2.2.1, h.2.2.2.1, h.2.2.2.2.1⟩) (weak_over l sos hs)
theorem weak_twice (l : List Int) (sos : Int) (hs : sos = 0 ∨ sos = 1) : weakW (weakW l sos) sos = weakW l sos := by
  have hb := weak_bare l sos hs
  obtain ⟨m, hm⟩ : ∃ m, m = weakW l sos := ⟨_, rfl⟩
  rw [← hm] at hb ⊢
  have e1 : turnW 1 [2] m = m := turn_bare _ _ _ (fun c hc => by simp [(hb c hc).2.1])
  have e2 : turnW 13 [4, 5, 7] m = m := turn_bare _ _ _ (fun c hc => by simp [(hb c hc).2.2.1, (hb c hc).2.2.2.1, (hb c hc).2.2.2.2])
  have e : weakW m sos = aftGo 0 0 sos m := by
    unfold weakW
    rw [mk_bare m _ _ hb, aft_bare m sos (by omega) hb, e1, bt_bare m _ _ hb, bs_bare m _ _ hb, e2]
  rw [e, hm]
  unfold weakW
  exact aft_twice _ _

theorem clone_any (w : World) (A0 : Option Addr) (c0 : Nat) (l0 : List Int) (hr0 : Kd.C (Kd.int .i64) w A0 l0.length l0) (hl : l0.length ≤ 1048576) :
    Calls Tryd.prog 63 #[.slice A0 l0.length c0] w fun e w' => ∃ A c, e = .returned (.slice A l0.length c) ∧ w'.ownsRow w.heap.size 3 1 (.slice A l0.length c) l0.length (nums .i64 l0) ∧ Below w.heap.size w w' := by
  have hat : ∀ j : Nat, j < l0.length → ∃ ad, A0 = some ad ∧ w.cell? (ad.add j) = some (.int .i64 (l0.getD j 0)) := fun j hj => by
    obtain ⟨ad, e, hc⟩ := Kd.at_int hr0 (j : Int) (by omega) (by omega)
    exact ⟨ad, e, by simpa [rd] using hc⟩
  by_cases h0 : l0.length = 0
  · have : l0 = [] := List.eq_nil_of_length_eq_zero h0
    subst this
    cases A0 with
    | none => exact (Tryd.slices_Clone_int_nil 0 c0 w).mono (by rintro e w' ⟨rfl, rfl⟩; exact ⟨none, 0, rfl, World.ownsRow_nil _ _ _ _, Below.refl _ _⟩)
    | some a => exact (Tryd.slices_Clone_int_zero a c0 w).mono (by
        rintro e w' ⟨v', rfl, ho, _, hb⟩
        obtain ⟨A, c, rfl⟩ := own_slice ho
        exact ⟨A, c, rfl, ho, hb⟩)
  · obtain ⟨⟨b, off, sp⟩, rfl, hc⟩ := hat 0 (by omega)
    have hsp : sp = none := by
      cases sp with
      | none => rfl
      | some s =>
        unfold World.cell? at hc
        simp only [Addr.add] at hc
        split at hc <;> simp at hc
    subst hsp
    refine (Tryd.slices_Clone_int b off l0.length c0 l0 w (Nat.le_refl _) (by omega) (fun j hj => ?_)).mono ?_
    · obtain ⟨ad, e, hc⟩ := hat j hj
      cases e
      have e2 : (Addr.mk b off none).add j = ⟨b, off + j, none⟩ := by
        unfold Addr.add
        by_cases h : j = 0
        · subst h; simp
        · simp [h]
      rw [← e2]
      exact hc
    · rintro e w' ⟨v', rfl, ho, _, hb⟩
      rw [List.take_length] at ho
      obtain ⟨A, c, rfl⟩ := own_slice ho
      exact ⟨A, c, rfl, ho, hb⟩

def fnsW (A : Option Addr) (n c : Nat) (sos : Int) (b : Nat) : Array Value := #[.func (.func 64) #[.agg #[.slice A n c, .int .i64 sos]] #[],
  .func (.func 65) #[] #[.pointer (some ⟨b, 0, none⟩)], .func (.func 67) #[] #[.pointer (some ⟨b, 0, none⟩)],
  .func (.func 69) #[.agg #[.slice A n c, .int .i64 sos]] #[], .func (.func 70) #[.agg #[.slice A n c, .int .i64 sos]] #[],
  .func (.func 71) #[] #[.pointer (some ⟨b, 0, none⟩)], .func (.func 72) #[] #[.pointer (some ⟨b, 0, none⟩)]]
/-- The world between two rules: the row as it is now, the box, the rules. -/
structure Wst (W7 : World) (B : Nat) (A : Option Addr) (n c : Nat) (sos : Int) (b : Nat) (R : List Int) (wr : World) : Prop where
  len : R.length = n
  own : wr.ownsRow B 3 1 (.slice A n c) R.length (nums .i64 R)
  box : wr.heap[b]? = some (.cells #[.slice A n c, .int .i64 sos] 80 (0, 0))
  fns : wr.heap[b + 1]? = some (.cells (fnsW A n c sos b) 1 (0, 0))
  gr : W7.grownBy wr (Value.slice A n c).ownBlock
theorem Wst.next {W7 wr wr' : World} {B n c b : Nat} {A : Option Addr} {sos : Int} {R R' : List Int} (h : Wst W7 B A n c sos b R wr) (hl : R'.length = R.length) (ho : wr'.ownsRow B 3 1 (.slice A n c) R.length (nums .i64 R')) (hg : wr.grownBy wr' (Value.slice A n c).ownBlock) : Wst W7 B A n c sos b R' wr' := by
  have n1 : some b ≠ (Value.slice A n c).ownBlock := own_ne h.own h.box (by decide)
  have n2 : some (b + 1) ≠ (Value.slice A n c).ownBlock := own_ne h.own h.fns (by decide)
  exact ⟨by rw [hl, h.len], by rw [hl]; exact ho, by rw [hg.block b (lt_of_block h.box) n1]; exact h.box, by rw [hg.block (b + 1) (lt_of_block h.fns) n2]; exact h.fns, h.gr.trans hg⟩
theorem Wst.fn {W7 wr : World} {B n c b : Nat} {A : Option Addr} {sos : Int} {R : List Int} (h : Wst W7 B A n c sos b R wr) (i : Nat) (u : Value) (hu : (fnsW A n c sos b)[i]? = some u) : wr.cell? ⟨b + 1, i, none⟩ = some u := by
  rw [cell_of_row _ _ _ _ _ _ h.fns]; exact hu
theorem Wst.out {W7 wr : World} {B n c b : Nat} {A : Option Addr} {sos : Int} {R : List Int} (h : Wst W7 B A n c sos b R wr) : wr.cell? ⟨b, 0, none⟩ = some (.slice A n c) := by
  rw [cell_of_row _ _ _ _ _ _ h.box]; rfl

def weak_Weak.f (l : List Int) (sos : Int) : Option (List Int) := if l.length ≤ 1048576 then some (weakW l sos) else none

set_option maxRecDepth 100000 in
set_option maxHeartbeats 8000000 in
theorem weak_Weak.calls (A0 : Option Addr) (c0 : Nat) (l0 : List Int) (a1 : Int) (r : List Int) (w : World) (hr0 : Kd.C (Kd.int .i64) w A0 l0.length l0) (hc0 : l0.length ≤ c0) (h : weak_Weak.f l0 a1 = some r) :
    Calls Tryd.prog 40 #[.slice A0 l0.length c0, .int .i64 a1] w fun e w' => ∃ v0_ : Value, e = .returned (v0_) ∧ Kd.R (Kd.int .i64) 3 w' w.heap.size (fun _ => True) v0_ r ∧ Below w.heap.size w w' := by
  unfold weak_Weak.f at h
  by_cases hm : l0.length ≤ 1048576
  case neg => rw [if_neg hm] at h; cases h
  rw [if_pos hm] at h
  have h := Option.some.inj h
  have Hres := Lib.hid h
  have HCl := Lib.hid (clone_any w A0 c0 l0 hr0 hm)
  have Hm := Lib.hid hm
  clear h hr0 hc0 hm
  have hmf : ∀ (fn : Fn) (first cap : Array Value) (w : World), (Instr.makeFunc fn first cap).run Tryd.prog w = .ok (.func fn first cap) w := fun _ _ _ _ => rfl
  go_enter Tryd.func40, Tryd.ntmps40
  go_wp2_with (go_at_call 63; with_reducible refine HCl.out.mono ?_; rintro e w1 ⟨A, c, rfl, hT⟩; have HT := Lib.hid hT; clear hT)
  have HW0 : Hid (Wst ((w1.alloc (.cells #[.slice A l0.length c, .int .i64 a1] 80)).alloc (.cells (fnsW A l0.length c a1 w1.heap.size) 1)) w.heap.size A l0.length c a1 w1.heap.size l0 ((w1.alloc (.cells #[.slice A l0.length c, .int .i64 a1] 80)).alloc (.cells (fnsW A l0.length c a1 w1.heap.size) 1))) :=
    Lib.hid ⟨rfl, (HT.out.1.alloc _).alloc _, by rw [heap_alloc_old _ _ (by simp)]; exact heap_alloc_new _ _, by have := heap_alloc_new (w1.alloc (.cells #[.slice A l0.length c, .int .i64 a1] 80)) (.cells (fnsW A l0.length c a1 w1.heap.size) 1); simpa using this, World.grownBy.refl _ _⟩
  have HB7 : Hid (Below w.heap.size w ((w1.alloc (.cells #[.slice A l0.length c, .int .i64 a1] 80)).alloc (.cells (fnsW A l0.length c a1 w1.heap.size) 1))) := Lib.hid ((HT.out.2.alloc (by have := HT.out.2.size; omega) _).alloc (by have := HT.out.2.size; simp; omega) _)
  obtain ⟨n, hn⟩ : ∃ n, n = l0.length := ⟨_, rfl⟩
  unfold fnsW at HW0 HB7
  obtain ⟨W7, hW7⟩ : ∃ W7, W7 = ((w1.alloc (.cells #[.slice A l0.length c, .int .i64 a1] 80)).alloc (.cells #[.func (.func 64) #[.agg #[.slice A l0.length c, .int .i64 a1]] #[],
  .func (.func 65) #[] #[.pointer (some ⟨w1.heap.size, 0, none⟩)], .func (.func 67) #[] #[.pointer (some ⟨w1.heap.size, 0, none⟩)],
  .func (.func 69) #[.agg #[.slice A l0.length c, .int .i64 a1]] #[], .func (.func 70) #[.agg #[.slice A l0.length c, .int .i64 a1]] #[],
  .func (.func 71) #[] #[.pointer (some ⟨w1.heap.size, 0, none⟩)], .func (.func 72) #[] #[.pointer (some ⟨w1.heap.size, 0, none⟩)]] 1)) := ⟨_, rfl⟩
  rw [← hW7] at HW0 HB7 ⊢
  have z0 := HW0.out.fn 0 (.func (.func 64) #[.agg #[.slice A l0.length c, .int .i64 a1]] #[]) rfl
  have Hlen : Hid (∀ R : List Int, R.length = l0.length → R.length ≤ 1048576) := Lib.hid (fun R h => by have := Hm.out; omega)
  obtain ⟨b, hb⟩ : ∃ b, b = w1.heap.size := ⟨_, rfl⟩
  rw [← hb] at HW0 z0 ⊢
  clear hW7 hn hb
  refine wp_loop_rounds 8 ?_
  rw [rounds_succ]
  go_wp2_with (go_at_call 64; with_reducible refine (marks_any _ _ _ _ a1 HW0.out.own (Hlen.out _ HW0.out.len)).mono ?_; rintro e u0 ⟨rfl, hT0⟩; have HW1 := Lib.hid (HW0.out.next (R' := (mkGo a1 false l0)) (mk_len _ _ _) hT0.1 hT0.2); have z1 := HW1.out.fn 1 (.func (.func 65) #[] #[.pointer (some ⟨b, 0, none⟩)]) rfl; clear hT0 z0)
  rw [rounds_succ]
  go_wp2_with (go_at_call 65; with_reducible refine (c65_any _ _ _ _ a1 _ HW1.out.own (Hlen.out _ HW1.out.len) HW1.out.box).mono ?_; rintro e u1 ⟨rfl, hT1⟩; have HW2 := Lib.hid (HW1.out.next (R' := (aftGo 2 6 a1 (mkGo a1 false l0))) (aft_len _ _ _ _) hT1.1 hT1.2); have z2 := HW2.out.fn 2 (.func (.func 67) #[] #[.pointer (some ⟨b, 0, none⟩)]) rfl; clear hT1 z1)
  rw [rounds_succ]
  go_wp2_with (go_at_call 67; with_reducible refine (c67_any _ _ _ _ a1 _ HW2.out.own (Hlen.out _ HW2.out.len) HW2.out.box).mono ?_; rintro e u2 ⟨rfl, hT2⟩; have HW3 := Lib.hid (HW2.out.next (R' := (turnW 1 [2] (aftGo 2 6 a1 (mkGo a1 false l0)))) (turn_len _ _ _) hT2.1 hT2.2); have z3 := HW3.out.fn 3 (.func (.func 69) #[.agg #[.slice A l0.length c, .int .i64 a1]] #[]) rfl; clear hT2 z2)
  rw [rounds_succ]
  go_wp2_with (go_at_call 69; with_reducible refine (between_any _ _ _ _ a1 HW3.out.own (Hlen.out _ HW3.out.len)).mono ?_; rintro e u3 ⟨rfl, hT3⟩; have HW4 := Lib.hid (HW3.out.next (R' := (btGo a1 false (turnW 1 [2] (aftGo 2 6 a1 (mkGo a1 false l0))))) (bt_len _ _ _) hT3.1 hT3.2); have z4 := HW4.out.fn 4 (.func (.func 70) #[.agg #[.slice A l0.length c, .int .i64 a1]] #[]) rfl; clear hT3 z3)
  rw [rounds_succ]
  go_wp2_with (go_at_call 70; with_reducible refine (beside_any _ _ _ _ a1 HW4.out.own (Hlen.out _ HW4.out.len)).mono ?_; rintro e u4 ⟨rfl, hT4⟩; have HW5 := Lib.hid (HW4.out.next (R' := (bsGo a1 false (btGo a1 false (turnW 1 [2] (aftGo 2 6 a1 (mkGo a1 false l0)))))) (bs_len _ _ _) hT4.1 hT4.2); have z5 := HW5.out.fn 5 (.func (.func 71) #[] #[.pointer (some ⟨b, 0, none⟩)]) rfl; clear hT4 z4)
  rw [rounds_succ]
  go_wp2_with (go_at_call 71; with_reducible refine (c71_any _ _ _ _ a1 _ HW5.out.own (Hlen.out _ HW5.out.len) HW5.out.box).mono ?_; rintro e u5 ⟨rfl, hT5⟩; have HW6 := Lib.hid (HW5.out.next (R' := (turnW 13 [4, 5, 7] (bsGo a1 false (btGo a1 false (turnW 1 [2] (aftGo 2 6 a1 (mkGo a1 false l0))))))) (turn_len _ _ _) hT5.1 hT5.2); have z6 := HW6.out.fn 6 (.func (.func 72) #[] #[.pointer (some ⟨b, 0, none⟩)]) rfl; clear hT5 z5)
  rw [rounds_succ]
  go_wp2_with (go_at_call 72; with_reducible refine (c72_any _ _ _ _ a1 _ HW6.out.own (Hlen.out _ HW6.out.len) HW6.out.box).mono ?_; rintro e u6 ⟨rfl, hT6⟩; have HW7 := Lib.hid (HW6.out.next (R' := (aftGo 0 0 a1 (turnW 13 [4, 5, 7] (bsGo a1 false (btGo a1 false (turnW 1 [2] (aftGo 2 6 a1 (mkGo a1 false l0)))))))) (aft_len _ _ _ _) hT6.1 hT6.2); have z7 := HW7.out.out; clear hT6 z6)
  rw [rounds_succ]
  go_wp2
  go_ret
  rw [← Hres.out]
  refine ⟨_, rfl, ?_, ?_⟩
  · refine Kd.R_of_own ?_ (fun _ _ => trivial)
    have ho := HW7.out.own
    exact ho
  · exact HB7.out.grown HW7.out.gr (by have := HB7.out.size; omega) (fun k hk => (HW7.out.own.lt k hk).1)
end Go.Proofs.YtfpibigfhhoiiaaDoor
