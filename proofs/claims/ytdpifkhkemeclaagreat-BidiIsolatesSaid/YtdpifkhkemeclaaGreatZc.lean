/- pairs.Brackets, walked: what a sequence becomes by its pairs of brackets. -/
import Derived.Test.YtdpifkhkemeclaaGreatZj
namespace Go.Proofs.YtdpifkhkemeclaaGreat
open Go.RowKit Go.Shelf Go.Proofs.YtdpifkhkemeclaaGreatW.PrintWords
set_option linter.unusedVariables false
set_option linter.unusedSimpArgs false

theorem clone_any (w : World) (A0 : Option Addr) (c0 : Nat) (l0 : List Int) (hr0 : Kd.C (Kd.int .i64) w A0 l0.length l0) (hl : l0.length ≤ 1048576) :
    Calls Tryz.prog 38 #[.slice A0 l0.length c0] w fun e w' => ∃ A c, e = .returned (.slice A l0.length c) ∧ w'.ownsRow w.heap.size 3 1 (.slice A l0.length c) l0.length (nums .i64 l0) ∧ Below w.heap.size w w' := by
  have hat := cells_at hr0
  by_cases h0 : l0.length = 0
  · have : l0 = [] := List.eq_nil_of_length_eq_zero h0
    subst this
    cases A0 with
    | none => exact (Tryz.slices_Clone_int_nil 0 c0 w).mono (by rintro e w' ⟨rfl, rfl⟩; exact ⟨none, 0, rfl, World.ownsRow_nil _ _ _ _, Below.refl _ _⟩)
    | some a => exact (Tryz.slices_Clone_int_zero a c0 w).mono (by
        rintro e w' ⟨v', rfl, ho, _, hb⟩
        obtain ⟨A, c, rfl⟩ := own_slice ho
        exact ⟨A, c, rfl, ho, hb⟩)
  · obtain ⟨⟨b, off, sp⟩, rfl, hc⟩ := hat 0 (by omega)
    have hsp : sp = none := by
      cases sp with
      | none => rfl
      | some s =>
        unfold World.cell? at hc
        simp only [Addr.add] at hc
        split at hc <;> simp at hc
    subst hsp
    refine (Tryz.slices_Clone_int b off l0.length c0 l0 w (Nat.le_refl _) (by omega) (fun j hj => ?_)).mono ?_
    · obtain ⟨ad, e, hc⟩ := hat j hj
      cases e
      have e2 : (Addr.mk b off none).add j = ⟨b, off + j, none⟩ := by
        unfold Addr.add
        by_cases h : j = 0
        · subst h; simp
        · simp [h]
      rw [← e2]
      exact hc
    · rintro e w' ⟨v', rfl, ho, _, hb⟩
      rw [List.take_length] at ho
      obtain ⟨A, c, rfl⟩ := own_slice ho
      exact ⟨A, c, rfl, ho, hb⟩
def braS (ow : List Int) (wy sos : Int) (T : List Int) (p : Nat × Nat) : List Int :=
  if (insGo wy 0 false (partL T p.1 p.2)).2 = true then
    (if (insGo wy 0 false (partL T p.1 p.2)).1 ≠ wy ∧ aheadP (T.take p.1) sos ≠ (insGo wy 0 false (partL T p.1 p.2)).1 then setP ow p.2 wy (setP ow p.1 wy T)
     else setP ow p.2 (insGo wy 0 false (partL T p.1 p.2)).1 (setP ow p.1 (insGo wy 0 false (partL T p.1 p.2)).1 T))
  else T
def braW (types codes ow : List Int) (level sos : Int) : List Int :=
  (pairsW types codes).foldl (braS ow (if Go.bits .and .i64 level 1 = 1 then 1 else 0) sos) types
theorem braS_len (ow : List Int) (wy sos : Int) (T : List Int) (p : Nat × Nat) : (braS ow wy sos T p).length = T.length := by
  unfold braS
  split
  · split <;> simp [setP_len]
  · rfl
def pairs_Brackets.f (l0 l1 l2 : List Int) (level sos : Int) : Option (List Int) :=
  if l0.length = l1.length ∧ l2.length = l1.length then (if l0.length ≤ 1048576 then some (braW l0 l1 l2 level sos) else none) else some []
theorem findGo_bound (types codes : List Int) (m : Nat) : ∀ (d i : Nat) (op : List Nat) (out : List (Nat × Nat)), d + i ≤ m → (∀ p ∈ op, p < i) → (∀ p ∈ out, p.1 < p.2 ∧ p.2 < m) → ∀ p ∈ findGo types codes d i op out, p.1 < p.2 ∧ p.2 < m
  | 0, i, op, out, _, _, h => h
  | d + 1, i, op, out, hd, ho, h => by
    have hop : ∀ p ∈ op, p < i + 1 := fun p hp => Nat.lt_succ_of_lt (ho p hp)
    unfold findGo
    split
    · exact findGo_bound types codes m d (i + 1) op out (by omega) hop h
    · split
      · split
        · exact h
        · refine findGo_bound types codes m d (i + 1) _ out (by omega) (fun p hp => ?_) h
          rcases List.mem_append.1 hp with hp | hp
          · exact hop p hp
          · have := List.mem_singleton.1 hp; omega
      · split
        · exact findGo_bound types codes m d (i + 1) op out (by omega) hop h
        · rename_i x hx
          obtain ⟨hk, hx2, _⟩ := popF_mem hx
          refine findGo_bound types codes m d (i + 1) _ _ (by omega) (fun p hp => hop p (List.mem_of_mem_take hp)) (fun p hp => ?_)
          rcases List.mem_append.1 hp with hp | hp
          · exact h p hp
          · obtain rfl := List.mem_singleton.1 hp
            have hn : x.2.toNat = op[x.1] := by rw [hx2]; rfl
            have := ho _ (List.getElem_mem hk)
            simp only
            omega
theorem findGo_length (types codes : List Int) : ∀ (d i : Nat) (op : List Nat) (out : List (Nat × Nat)), (findGo types codes d i op out).length ≤ out.length + d
  | 0, i, op, out => by simp [findGo]
  | d + 1, i, op, out => by
    unfold findGo
    split
    · have := findGo_length types codes d (i + 1) op out; omega
    · split
      · split
        · omega
        · have := findGo_length types codes d (i + 1) (op ++ [i]) out; omega
      · split
        · have := findGo_length types codes d (i + 1) op out; omega
        · rename_i x hx
          have := findGo_length types codes d (i + 1) (op.take x.1) (out ++ [(x.2.toNat, i)])
          simp at this
          omega
theorem pairsW_len (types codes : List Int) : (pairsW types codes).length ≤ types.length := by
  have := findGo_length types codes types.length 0 [] []
  unfold pairsW
  rw [(sortP_perm _).length_eq]
  simpa using this
theorem pairsW_bound (types codes : List Int) : ∀ p ∈ pairsW types codes, p.1 < p.2 ∧ p.2 < types.length := fun p hp =>
  findGo_bound types codes types.length types.length 0 [] [] (by omega) (by simp) (by simp) p ((sortP_perm _).mem_iff.1 hp)
theorem find_raw (A0 : Option Addr) (c0 : Nat) (l0 : List Int) (A1 : Option Addr) (c1 : Nat) (l1 : List Int) (he : l0.length = l1.length) (hm : l0.length ≤ 1048576) (w : World) (hr0 : Kd.C (Kd.int .i64) w A0 l0.length l0) (hr1 : Kd.C (Kd.int .i64) w A1 l1.length l1) :
    Calls Tryz.prog 109 #[.slice A0 l0.length c0, .slice A1 l1.length c1] w fun e W' => ∃ v, e = .returned v ∧ W'.ownsRow w.heap.size 106 2 v (pairsW l0 l1).length (pcells (pairsW l0 l1)) ∧ Below w.heap.size w W' := by
  have hF := callsIn_wide.1 (find_in 5 (Nat.le_refl _) A0 A1 l0.length c0 c1 l0 l1 hm rfl he.symm w (cells_at hr0) (he ▸ cells_at hr1))
  rw [← he]
  refine hF.mono ?_
  rintro e W' ⟨v, out', rfl, hp, hs, ho, hb⟩
  have hn := findGo_nodup l0 l1 l0.length 0 [] [] List.nodup_nil (by simp)
  obtain rfl := sorted_is hp hs hn
  exact ⟨v, rfl, ho, hb⟩
theorem own_low {W : World} {base base' : Nat} {e : TypeId} {size n : Nat} {v : Value} {xs : List Value} (h : W.ownsRow base e size v n xs) (hb : base' ≤ base) : W.ownsRow base' e size v n xs := by
  refine ⟨h.1, ?_⟩
  rcases h.2 with h2 | ⟨g, cap, cur, hv, hB, r⟩
  · exact .inl h2
  · exact .inr ⟨g, cap, cur, hv, Nat.le_trans hb hB, r⟩
structure SB (w : World) (A : Option Addr) (n c : Nat) (b : Nat) (wy sos : Int) (vF : Value) (ps : List (Nat × Nat)) (R : List Int) (wr : World) : Prop where
  bel : Below w.heap.size w wr
  len : R.length = n
  own : wr.ownsRow w.heap.size 3 1 (.slice A n c) n (nums .i64 R)
  box : wr.heap[b]? = some (.cells #[.slice A n c, .int .i64 wy, .int .i64 sos] 130 (0, 0))
  prs : wr.ownsRow w.heap.size 106 2 vF ps.length (pcells ps)
section
variable {w wr wr' : World} {A : Option Addr} {n c b : Nat} {wy sos : Int} {vF : Value} {ps : List (Nat × Nat)} {R R' : List Int}
theorem SB.below (h : SB w A n c b wy sos vF ps R wr) (hb : Below wr.heap.size wr wr') : SB w A n c b wy sos vF ps R wr' :=
  ⟨h.bel.trans (hb.mono h.bel.size), h.len, pw_own_below h.own hb, (hb.block _ (lt_of_block h.box)).trans h.box, pw_own_below h.prs hb⟩
theorem SB.settle (h : SB w A n c b wy sos vF ps R wr) (hl : R'.length = n) (ho : wr'.ownsRow w.heap.size 3 1 (.slice A n c) n (nums .i64 R')) (hg : wr.grownBy wr' (Value.slice A n c).ownBlock) : SB w A n c b wy sos vF ps R' wr' :=
  ⟨h.bel.grown hg h.bel.size (fun k hk => own_base h.own k hk), hl, ho, (hg.block b (lt_of_block h.box) (own_ne h.own h.box (by decide))).trans h.box, own_other h.prs hg (own_type_ne h.prs h.own (by decide))⟩
theorem SB.c0 (h : SB w A n c b wy sos vF ps R wr) : wr.cell? ⟨b, 0, none⟩ = some (.slice A n c) := by rw [cell_of_row _ _ _ _ _ _ h.box]; rfl
theorem SB.c1 (h : SB w A n c b wy sos vF ps R wr) : wr.cell? ⟨b, 1, none⟩ = some (.int .i64 wy) := by rw [cell_of_row _ _ _ _ _ _ h.box]; rfl
theorem SB.c2 (h : SB w A n c b wy sos vF ps R wr) : wr.cell? ⟨b, 2, none⟩ = some (.int .i64 sos) := by rw [cell_of_row _ _ _ _ _ _ h.box]; rfl
end
def BxP (k : Nat) (p : Nat × Nat) (wr : World) : Prop := wr.heap[k]? = some (.cells #[.int .i64 (p.1 : Int), .int .i64 (p.2 : Int)] 106 (0, 0))
theorem BxP.below {k : Nat} {p : Nat × Nat} {wr wr' : World} (h : BxP k p wr) (hb : Below wr.heap.size wr wr') : BxP k p wr' := (hb.block _ (lt_of_block h)).trans h
theorem BxP.settle {k n c B : Nat} {A : Option Addr} {p : Nat × Nat} {wr wr' : World} {xs : List Value} (h : BxP k p wr) (ho : wr.ownsRow B 3 1 (.slice A n c) n xs) (hg : wr.grownBy wr' (Value.slice A n c).ownBlock) : BxP k p wr' :=
  (hg.block k (lt_of_block h) (own_ne ho h (by decide))).trans h
theorem BxP.c0 {k : Nat} {p : Nat × Nat} {wr : World} (h : BxP k p wr) : wr.cell? ⟨k, 0, none⟩ = some (.int .i64 (p.1 : Int)) := by rw [cell_of_row _ _ _ _ _ _ h]; rfl
theorem BxP.c1 {k : Nat} {p : Nat × Nat} {wr : World} (h : BxP k p wr) : wr.cell? ⟨k, 1, none⟩ = some (.int .i64 (p.2 : Int)) := by rw [cell_of_row _ _ _ _ _ _ h]; rfl
theorem inside_n (w : World) (B : Nat) (v : Value) (T : List Int) (n : Nat) (hT : T.length = n) (W sos : Int) (p : Nat × Nat) (h : w.ownsRow B 3 1 v n (nums .i64 T)) (hl : n ≤ 1048576) (hoc : p.1 < p.2) (hcT : p.2 < n) :
    Calls Tryz.prog 110 #[.agg #[v, .int .i64 W, .int .i64 sos], .agg #[.int .i64 p.1, .int .i64 p.2]] w fun e w' => e = .returned (.tuple #[.int .i64 (insGo W 0 false (partL T p.1 p.2)).1, .bool (insGo W 0 false (partL T p.1 p.2)).2]) ∧ Below w.heap.size w w' := by
  subst hT
  refine (inside_any w B v T W sos p.1 p.2 h hl hoc hcT).mono ?_
  rintro e w' ⟨rfl, rfl⟩
  exact ⟨rfl, ((Below.refl _ w).alloc (Nat.le_refl _) _).alloc (by simp) _⟩
theorem settle_n (w w0 : World) (hB : Below w0.heap.size w0 w) (g cp : Nat) (T : List Int) (n : Nat) (hT : T.length = n) (W sos : Int) (at_ : Nat) (way : Int) (A2 : Option Addr) (c2 : Nat) (ow : List Int) (h : w.ownsRow w0.heap.size 3 1 (.slice (some ⟨g, 0, none⟩) n cp) n (nums .i64 T)) (hl : n ≤ 1048576)
    (hat : at_ < n) (hol : ow.length = n) (hr2 : Kd.C (Kd.int .i64) w0 A2 ow.length ow) :
    Calls Tryz.prog 112 #[.agg #[.slice (some ⟨g, 0, none⟩) n cp, .int .i64 W, .int .i64 sos], .int .i64 at_, .int .i64 way, .slice A2 ow.length c2] w fun e w' => e = .returned (.tuple #[]) ∧ w'.ownsRow w0.heap.size 3 1 (.slice (some ⟨g, 0, none⟩) n cp) n (nums .i64 (setP ow at_ way T)) ∧ w.grownBy w' (Value.slice (some ⟨g, 0, none⟩) n cp).ownBlock := by
  subst hT
  have hg := own_base h g rfl
  refine settle_any w w0.heap.size g cp T W sos at_ way A2 c2 ow h hl hat hol (fun j hj => ?_)
  obtain ⟨ad, e, hc⟩ := cells_at hr2 j hj
  have hlt := World.block_lt_of_cell? w0 _ hc
  have hlt2 : ad.block < w0.heap.size := by unfold Addr.add at hlt; split at hlt <;> exact hlt
  exact ⟨ad, e, by omega, by rw [hB.cell hlt]; exact hc⟩
theorem ahead_n (w : World) (B g cp : Nat) (T : List Int) (n : Nat) (hT : T.length = n) (W sos : Int) (at_ : Nat) (h : w.ownsRow B 3 1 (.slice (some ⟨g, 0, none⟩) n cp) n (nums .i64 T)) (hl : n ≤ 1048576) (hat : at_ < n) :
    Calls Tryz.prog 111 #[.agg #[.slice (some ⟨g, 0, none⟩) n cp, .int .i64 W, .int .i64 sos], .int .i64 (at_ : Int)] w fun e w' => e = .returned (.int .i64 (aheadP (T.take at_) sos)) ∧ Below w.heap.size w w' := by
  subst hT
  obtain ⟨A, c, e, hle, hc⟩ := own_nums h
  injection e with e1 _ e3
  subst e3
  refine callsIn_wide.1 (ahead_in 3 (Nat.le_refl _) (some ⟨g, 0, none⟩) T.length cp at_ (by omega) hle W sos (T.take at_) (by simp; omega) (by simp; omega) w ?_)
  obtain ⟨g', e', hlt, _⟩ := hc 0 (by omega)
  have eg : g' = g := by rw [← e1] at e'; cases e'; rfl
  subst eg
  refine .inr ⟨g', 0, cp, by simp; omega, hlt, fun j hj => ?_⟩
  have hj' : j < at_ := by simp at hj; omega
  obtain ⟨g2, e2, _, _, hcc, _⟩ := hc j (by omega)
  have eg : g2 = g' := by rw [← e1] at e2; cases e2; rfl
  subst eg
  rw [Nat.zero_add, hcc, List.getD_eq_getElem?_getD, List.getElem?_take, if_pos hj']
theorem pcells_at2 (ps : List (Nat × Nat)) : ∀ (i : Nat) (p : Nat × Nat), ps[i]? = some p → (pcells ps)[i * 2]? = some (.int .i64 (p.1 : Int)) ∧ (pcells ps)[i * 2 + 1]? = some (.int .i64 (p.2 : Int)) := by
  induction ps with
  | nil => intro i p h; simp at h
  | cons q r ih =>
    intro i p h
    cases i with
    | zero => simp at h; subst h; exact ⟨rfl, rfl⟩
    | succ i =>
      have := ih i p (by simpa using h)
      rw [show (i + 1) * 2 = i * 2 + 1 + 1 by omega]
      exact this
theorem pair_cells {wr : World} {B m cF : Nat} {aF : Option Addr} {ps : List (Nat × Nat)} (h : wr.ownsRow B 106 2 (.slice aF m cF) ps.length (pcells ps)) (i : Nat) (p : Nat × Nat) (hp : ps[i]? = some p) :
    ∃ g, aF = some ⟨g, 0, none⟩ ∧ wr.cell? ⟨g, i * 2, none⟩ = some (.int .i64 (p.1 : Int)) ∧ wr.cell? ⟨g, i * 2 + 1, none⟩ = some (.int .i64 (p.2 : Int)) := by
  have hlt : i < ps.length := by
    rcases Nat.lt_or_ge i ps.length with h | h
    · exact h
    · rw [List.getElem?_eq_none h] at hp; cases hp
  rcases h.2 with ⟨_, h0⟩ | ⟨g, cap, cur, hv, hB, hg, hle, _, _, htake⟩
  · omega
  · injection hv with e1 e2 e3
    obtain ⟨h1, h2⟩ := pcells_at2 ps i p hp
    have hc := h.cells (g := g) (by rw [e1]; rfl)
    have a := hc _ _ h1
    have b := hc _ _ h2
    rw [add_plain] at a b
    exact ⟨g, e1, a, b⟩
set_option maxRecDepth 100000 in
set_option maxHeartbeats 8000000 in
theorem pairs_Brackets.calls (A0 : Option Addr) (c0 : Nat) (l0 : List Int) (A1 : Option Addr) (c1 : Nat) (l1 : List Int) (A2 : Option Addr) (c2 : Nat) (l2 : List Int) (a3 a4 : Int) (r : List Int) (w : World) (hr0 : Kd.C (Kd.int .i64) w A0 l0.length l0) (hc0 : l0.length ≤ c0) (hr1 : Kd.C (Kd.int .i64) w A1 l1.length l1) (hc1 : l1.length ≤ c1) (hr2 : Kd.C (Kd.int .i64) w A2 l2.length l2) (hc2 : l2.length ≤ c2) (h : pairs_Brackets.f l0 l1 l2 a3 a4 = some r) :
    Calls Tryz.prog 66 #[.slice A0 l0.length c0, .slice A1 l1.length c1, .slice A2 l2.length c2, .int .i64 a3, .int .i64 a4] w fun e w' => ∃ v0_ : Value, e = .returned (v0_) ∧ Kd.R (Kd.int .i64) 3 w' w.heap.size (fun _ => True) v0_ r ∧ Below w.heap.size w w' := by
  unfold pairs_Brackets.f at h
  by_cases he : l0.length = l1.length
  case neg =>
    rw [if_neg (fun a => he a.1)] at h
    obtain rfl := Option.some.inj h
    have hi : ¬ (l0.length : Int) = (l1.length : Int) := by omega
    clear hr0 hr1 hr2 hc0 hc1 hc2 h
    go_enter Tryz.func66, Tryz.ntmps66
    go_wp2
    go_ret
    exact ⟨_, rfl, Kd.R_nil _ _ _ _ _, Below.refl _ _⟩
  have hei : (l0.length : Int) = (l1.length : Int) := by omega
  by_cases he2 : l2.length = l1.length
  case neg =>
    rw [if_neg (fun a => he2 a.2)] at h
    obtain rfl := Option.some.inj h
    have hi : ¬ (l2.length : Int) = (l1.length : Int) := by omega
    clear hr0 hr1 hr2 hc0 hc1 hc2 h
    go_enter Tryz.func66, Tryz.ntmps66
    go_wp2
    go_ret
    exact ⟨_, rfl, Kd.R_nil _ _ _ _ _, Below.refl _ _⟩
  rw [if_pos ⟨he, he2⟩] at h
  by_cases hm : l0.length ≤ 1048576
  case neg => rw [if_neg hm] at h; cases h
  rw [if_pos hm] at h
  have Hres := Lib.hid (Option.some.inj h)
  have HCl := Lib.hid (clone_any w A0 c0 l0 hr0 hm)
  have HC0 := Lib.hid hr0
  have HC1 := Lib.hid hr1
  have HC2 := Lib.hid hr2
  have Hc0 := Lib.hid hc0
  have Hc1 := Lib.hid hc1
  have Hm := Lib.hid hm
  have hei2 : (l2.length : Int) = (l1.length : Int) := by omega
  have He := Lib.hid he
  have He2 := Lib.hid he2
  clear h hr0 hr1 hr2 hc0 hc1 hc2 hm he he2
  have HFd : ∀ w2, Below w.heap.size w w2 → Hid (Calls Tryz.prog 109 #[.slice A0 l0.length c0, .slice A1 l1.length c1] w2 fun e W' => ∃ v, e = .returned v ∧ W'.ownsRow w2.heap.size 106 2 v (pairsW l0 l1).length (pcells (pairsW l0 l1)) ∧ Below w2.heap.size w2 W') := fun w2 hb => Lib.hid (find_raw A0 c0 l0 A1 c1 l1 He.out Hm.out w2 (Kd.C_below HC0.out hb) (Kd.C_below HC1.out hb))
  rcases Decidable.em (Go.bits .and .i64 a3 1 = 1) with hbit | hbit
  · have Hwy : Hid ((if Go.bits .and .i64 a3 1 = 1 then (1 : Int) else 0) = 1) := Lib.hid (if_pos hbit)
    go_enter Tryz.func66, Tryz.ntmps66
    go_wp2_with (first | (go_at_call 38; with_reducible refine HCl.out.mono ?_; rintro e w1 ⟨A, c, rfl, hT⟩; have HT := Lib.hid hT; clear hT) | (go_at_call 109; with_reducible refine (HFd _ (HT.out.2.alloc HT.out.2.size (.cells #[.slice A l0.length c, .int .i64 1, .int .i64 a4] 130))).out.mono ?_; rintro e w3 ⟨vF, rfl, hF⟩; obtain ⟨aF, cF, rfl⟩ := own_slice hF.1; have HF := Lib.hid hF; clear hF))
    have HW0 : Hid (SB w A l0.length c w1.heap.size 1 a4 (.slice aF (pairsW l0 l1).length cF) (pairsW l0 l1) l0 w3) := Lib.hid (by
      have h1 := HT.out
      have h2 := HF.out
      have hs : w.heap.size ≤ (w1.alloc (.cells #[.slice A l0.length c, .int .i64 1, .int .i64 a4] 130)).heap.size := by have := h1.2.size; simp; omega
      exact ⟨(h1.2.alloc h1.2.size _).trans (h2.2.mono hs), rfl, pw_own_below (h1.1.alloc _) h2.2, (h2.2.block _ (by simp)).trans (heap_alloc_new _ _), own_low h2.1 hs⟩)
    obtain ⟨b, hb⟩ : ∃ b, b = w1.heap.size := ⟨_, rfl⟩
    rw [← hb] at HW0 ⊢
    clear HT HF hb HCl hbit
    obtain ⟨ps, hps⟩ : ∃ ps, ps = pairsW l0 l1 := ⟨_, rfl⟩
    have HB : Hid (∀ p ∈ ps, p.1 < p.2 ∧ p.2 < l0.length) := Lib.hid (by rw [hps]; exact pairsW_bound l0 l1)
    have HR : Hid (ps.foldl (braS l2 1 a4) l0 = r) := Lib.hid (by rw [← Hres.out, hps]; unfold braW; rw [Hwy.out])
    rw [← hps] at HW0 ⊢
    have hmb : ps.length ≤ 1048576 := by rw [hps]; have := pairsW_len l0 l1; have := Hm.out; omega
    clear hps Hres Hwy
    obtain ⟨m, hm⟩ : ∃ m, m = ps.length := ⟨_, rfl⟩
    rw [← hm] at HW0 hmb ⊢
    have Hmm := Lib.hid hm
    clear hm
    go_loopg [40] (m + 1) (fun gk v40 wr => ∃ (i : Nat) (R : List Int), i ≤ m ∧ gk = m + 1 - i ∧ v40 = .int .i64 i ∧ Hid (SB w A l0.length c b 1 a4 (.slice aF m cF) ps R wr) ∧ Hid ((ps.drop i).foldl (braS l2 1 a4) R = r))
    case atStart => exact ⟨0, l0, Nat.zero_le _, rfl, rfl, HW0, HR⟩
    case round =>
      obtain ⟨i, R, hi, hgk, rfl, HS, HI⟩ := hrel
      have Hg := Lib.hid hgk
      clear hgk HW0 HR
      by_cases hlt : i < m
      · have hlt' : (i : Int) < (m : Int) := by omega
        have hib : (i : Int) < 1048576 := by omega
        have hil : i < ps.length := by rw [← Hmm.out]; exact hlt
        obtain ⟨p, hp⟩ : ∃ p, p = ps[i] := ⟨_, rfl⟩
        have hpm : p ∈ ps := by rw [hp]; exact List.getElem_mem hil
        obtain ⟨hp1, hp2⟩ := HB.out p hpm
        obtain ⟨A', c', e, _, hcA⟩ := own_nums (l := R) (by rw [HS.out.len]; exact HS.out.own)
        obtain ⟨g, eg, _⟩ := hcA 0 (by rw [HS.out.len]; omega)
        have eA : A = some ⟨g, 0, none⟩ := by injection e with e1 _ _; rw [e1, eg]
        subst eA
        clear hcA e eg
        have hcF := pair_cells (HS.out.prs) i p (by rw [hp]; exact List.getElem?_eq_getElem hil)
        obtain ⟨gF, eF, hf0, hf1⟩ := hcF
        subst eF
        have hstep : (ps.drop i).foldl (braS l2 1 a4) R = (ps.drop (i + 1)).foldl (braS l2 1 a4) (braS l2 1 a4 R p) := by
          rw [List.drop_eq_getElem_cons hil, List.foldl_cons, ← hp]
        have HI2 : Hid ((ps.drop (i + 1)).foldl (braS l2 1 a4) (braS l2 1 a4 R p) = r) := Lib.hid (by rw [← hstep, HI.out])
        have Hp1 := Lib.hid hp1
        have Hp2 := Lib.hid hp2
        have HS1 : Hid (SB w (some ⟨g, 0, none⟩) l0.length c b 1 a4 (.slice (some ⟨gF, 0, none⟩) m cF) ps R (wr.alloc (.cells #[.int .i64 (p.1 : Int), .int .i64 (p.2 : Int)] 106))) := Lib.hid (HS.out.below ((Below.refl _ _).alloc (Nat.le_refl _) _))
        have HX1 : Hid (BxP wr.heap.size p (wr.alloc (.cells #[.int .i64 (p.1 : Int), .int .i64 (p.2 : Int)] 106))) := Lib.hid (heap_alloc_new _ _)
        have x0 := HS1.out.c0
        have x1 := HS1.out.c1
        have x2 := HS1.out.c2
        clear hstep hp hpm hp1 hp2 HI HS
        obtain ⟨y, hy⟩ : ∃ y, y = (insGo 1 0 false (partL R p.1 p.2)).1 := ⟨_, rfl⟩
        obtain ⟨f, hf⟩ : ∃ f, f = (insGo 1 0 false (partL R p.1 p.2)).2 := ⟨_, rfl⟩
        obtain ⟨z, hz⟩ : ∃ z, z = aheadP (R.take p.1) a4 := ⟨_, rfl⟩
        have HIn : ∀ w', w'.ownsRow w.heap.size 3 1 (.slice (some ⟨g, 0, none⟩) l0.length c) l0.length (nums .i64 R) → Hid (Calls Tryz.prog 110 #[.agg #[.slice (some ⟨g, 0, none⟩) l0.length c, .int .i64 1, .int .i64 a4], .agg #[.int .i64 p.1, .int .i64 p.2]] w' fun e w'' => e = .returned (.tuple #[.int .i64 y, .bool f]) ∧ Below w'.heap.size w' w'') := fun w' ho => by
          have hk := HS1.out.len
          have := inside_n w' w.heap.size _ R l0.length hk 1 a4 p ho Hm.out Hp1.out Hp2.out
          rw [← hy, ← hf] at this
          exact Lib.hid this
        have HAh : ∀ w', w'.ownsRow w.heap.size 3 1 (.slice (some ⟨g, 0, none⟩) l0.length c) l0.length (nums .i64 R) → Hid (Calls Tryz.prog 111 #[.agg #[.slice (some ⟨g, 0, none⟩) l0.length c, .int .i64 1, .int .i64 a4], .int .i64 p.1] w' fun e w'' => e = .returned (.int .i64 z) ∧ Below w'.heap.size w' w'') := fun w' ho => by
          have hk := HS1.out.len
          have := ahead_n w' w.heap.size g c R l0.length hk 1 a4 p.1 ho Hm.out (by have := Hp1.out; have := Hp2.out; omega)
          rw [← hz] at this
          exact Lib.hid this
        have hstp : braS l2 1 a4 R p = if f = true then (if y ≠ 1 ∧ z ≠ y then setP l2 p.2 1 (setP l2 p.1 1 R) else setP l2 p.2 y (setP l2 p.1 y R)) else R := by
          rw [hy, hf, hz]; rfl
        rw [hstp] at HI2
        clear hstp hy hf hz
        cases f with
        | false =>
          have HI3 : Hid ((ps.drop (i + 1)).foldl (braS l2 1 a4) R = r) := Lib.hid HI2.out
          clear HI2
          go_wp2_with (first | (go_at_call 110; with_reducible refine (HIn _ HS1.out.own).out.mono ?_; rintro e w4 ⟨rfl, hb4⟩; have HS1 := Lib.hid (HS1.out.below hb4); have HX1 := Lib.hid (HX1.out.below hb4); clear hb4; have x0 := HS1.out.c0; have x1 := HS1.out.c1; have x2 := HS1.out.c2; have q0 := HX1.out.c0; have q1 := HX1.out.c1) | (go_at_call 112; with_reducible refine (settle_n _ w HS1.out.bel g c (R) l0.length HS1.out.len 1 a4 p.1 1 A2 c2 l2 HS1.out.own Hm.out (by have := Hp1.out; have := Hp2.out; omega) (by have := He.out; have := He2.out; omega) HC2.out).mono ?_; rintro e w6 ⟨rfl, ho, hg⟩; have HX1 := Lib.hid (HX1.out.settle HS1.out.own hg); have HS1 := Lib.hid (HS1.out.settle (R' := setP l2 p.1 1 (R)) (by rw [setP_len]; exact HS1.out.len) ho hg); clear ho hg; have x0 := HS1.out.c0; have x1 := HS1.out.c1; have x2 := HS1.out.c2; have q0 := HX1.out.c0; have q1 := HX1.out.c1) | (go_at_call 112; with_reducible refine (settle_n _ w HS1.out.bel g c (setP l2 p.1 1 R) l0.length HS1.out.len 1 a4 p.2 1 A2 c2 l2 HS1.out.own Hm.out (by have := Hp1.out; have := Hp2.out; omega) (by have := He.out; have := He2.out; omega) HC2.out).mono ?_; rintro e w6 ⟨rfl, ho, hg⟩; have HX1 := Lib.hid (HX1.out.settle HS1.out.own hg); have HS1 := Lib.hid (HS1.out.settle (R' := setP l2 p.2 1 (setP l2 p.1 1 R)) (by rw [setP_len]; exact HS1.out.len) ho hg); clear ho hg; have x0 := HS1.out.c0; have x1 := HS1.out.c1; have x2 := HS1.out.c2; have q0 := HX1.out.c0; have q1 := HX1.out.c1))
          go_roundg (m + 1 - (i + 1))
          case measure => have := Hg.out; omega
          case rel => exact ⟨i + 1, _, by omega, rfl, by go_num, HS1, HI3⟩
        | true =>
          by_cases hyW : y = 1
          · subst hyW
            have HI3 : Hid ((ps.drop (i + 1)).foldl (braS l2 1 a4) (setP l2 p.2 1 (setP l2 p.1 1 R)) = r) := Lib.hid (by have := HI2.out; rw [if_pos rfl, if_neg (fun a => a.1 rfl)] at this; exact this)
            clear HI2
            go_wp2_with (first | (go_at_call 110; with_reducible refine (HIn _ HS1.out.own).out.mono ?_; rintro e w4 ⟨rfl, hb4⟩; have HS1 := Lib.hid (HS1.out.below hb4); have HX1 := Lib.hid (HX1.out.below hb4); clear hb4; have x0 := HS1.out.c0; have x1 := HS1.out.c1; have x2 := HS1.out.c2; have q0 := HX1.out.c0; have q1 := HX1.out.c1) | (go_at_call 112; with_reducible refine (settle_n _ w HS1.out.bel g c (R) l0.length HS1.out.len 1 a4 p.1 1 A2 c2 l2 HS1.out.own Hm.out (by have := Hp1.out; have := Hp2.out; omega) (by have := He.out; have := He2.out; omega) HC2.out).mono ?_; rintro e w6 ⟨rfl, ho, hg⟩; have HX1 := Lib.hid (HX1.out.settle HS1.out.own hg); have HS1 := Lib.hid (HS1.out.settle (R' := setP l2 p.1 1 (R)) (by rw [setP_len]; exact HS1.out.len) ho hg); clear ho hg; have x0 := HS1.out.c0; have x1 := HS1.out.c1; have x2 := HS1.out.c2; have q0 := HX1.out.c0; have q1 := HX1.out.c1) | (go_at_call 112; with_reducible refine (settle_n _ w HS1.out.bel g c (setP l2 p.1 1 R) l0.length HS1.out.len 1 a4 p.2 1 A2 c2 l2 HS1.out.own Hm.out (by have := Hp1.out; have := Hp2.out; omega) (by have := He.out; have := He2.out; omega) HC2.out).mono ?_; rintro e w6 ⟨rfl, ho, hg⟩; have HX1 := Lib.hid (HX1.out.settle HS1.out.own hg); have HS1 := Lib.hid (HS1.out.settle (R' := setP l2 p.2 1 (setP l2 p.1 1 R)) (by rw [setP_len]; exact HS1.out.len) ho hg); clear ho hg; have x0 := HS1.out.c0; have x1 := HS1.out.c1; have x2 := HS1.out.c2; have q0 := HX1.out.c0; have q1 := HX1.out.c1))
            go_roundg (m + 1 - (i + 1))
            case measure => have := Hg.out; omega
            case rel => exact ⟨i + 1, _, by omega, rfl, by go_num, HS1, HI3⟩
          · have hyb : (y != 1) = true := by simpa using hyW
            by_cases hzy : z = y
            · subst hzy
              have HI3 : Hid ((ps.drop (i + 1)).foldl (braS l2 1 a4) (setP l2 p.2 z (setP l2 p.1 z R)) = r) := Lib.hid (by have := HI2.out; rw [if_pos rfl, if_neg (fun a => a.2 rfl)] at this; exact this)
              clear HI2 hyW
              go_wp2_with (first | (go_at_call 110; with_reducible refine (HIn _ HS1.out.own).out.mono ?_; rintro e w4 ⟨rfl, hb4⟩; have HS1 := Lib.hid (HS1.out.below hb4); have HX1 := Lib.hid (HX1.out.below hb4); clear hb4; have x0 := HS1.out.c0; have x1 := HS1.out.c1; have x2 := HS1.out.c2; have q0 := HX1.out.c0; have q1 := HX1.out.c1) | (go_at_call 111; with_reducible refine (HAh _ HS1.out.own).out.mono ?_; rintro e w5 ⟨rfl, hb5⟩; have HS1 := Lib.hid (HS1.out.below hb5); have HX1 := Lib.hid (HX1.out.below hb5); clear hb5; have x0 := HS1.out.c0; have x1 := HS1.out.c1; have x2 := HS1.out.c2; have q0 := HX1.out.c0; have q1 := HX1.out.c1) | (go_at_call 112; with_reducible refine (settle_n _ w HS1.out.bel g c (R) l0.length HS1.out.len 1 a4 p.1 z A2 c2 l2 HS1.out.own Hm.out (by have := Hp1.out; have := Hp2.out; omega) (by have := He.out; have := He2.out; omega) HC2.out).mono ?_; rintro e w6 ⟨rfl, ho, hg⟩; have HX1 := Lib.hid (HX1.out.settle HS1.out.own hg); have HS1 := Lib.hid (HS1.out.settle (R' := setP l2 p.1 z (R)) (by rw [setP_len]; exact HS1.out.len) ho hg); clear ho hg; have x0 := HS1.out.c0; have x1 := HS1.out.c1; have x2 := HS1.out.c2; have q0 := HX1.out.c0; have q1 := HX1.out.c1) | (go_at_call 112; with_reducible refine (settle_n _ w HS1.out.bel g c (setP l2 p.1 z R) l0.length HS1.out.len 1 a4 p.2 z A2 c2 l2 HS1.out.own Hm.out (by have := Hp1.out; have := Hp2.out; omega) (by have := He.out; have := He2.out; omega) HC2.out).mono ?_; rintro e w6 ⟨rfl, ho, hg⟩; have HX1 := Lib.hid (HX1.out.settle HS1.out.own hg); have HS1 := Lib.hid (HS1.out.settle (R' := setP l2 p.2 z (setP l2 p.1 z R)) (by rw [setP_len]; exact HS1.out.len) ho hg); clear ho hg; have x0 := HS1.out.c0; have x1 := HS1.out.c1; have x2 := HS1.out.c2; have q0 := HX1.out.c0; have q1 := HX1.out.c1))
              go_roundg (m + 1 - (i + 1))
              case measure => have := Hg.out; omega
              case rel => exact ⟨i + 1, _, by omega, rfl, by go_num, HS1, HI3⟩
            · have hzb : (z != y) = true := by simpa using hzy
              have HI3 : Hid ((ps.drop (i + 1)).foldl (braS l2 1 a4) (setP l2 p.2 1 (setP l2 p.1 1 R)) = r) := Lib.hid (by have := HI2.out; rw [if_pos rfl, if_pos ⟨hyW, hzy⟩] at this; exact this)
              clear HI2 hyW hzy
              go_wp2_with (first | (go_at_call 110; with_reducible refine (HIn _ HS1.out.own).out.mono ?_; rintro e w4 ⟨rfl, hb4⟩; have HS1 := Lib.hid (HS1.out.below hb4); have HX1 := Lib.hid (HX1.out.below hb4); clear hb4; have x0 := HS1.out.c0; have x1 := HS1.out.c1; have x2 := HS1.out.c2; have q0 := HX1.out.c0; have q1 := HX1.out.c1) | (go_at_call 111; with_reducible refine (HAh _ HS1.out.own).out.mono ?_; rintro e w5 ⟨rfl, hb5⟩; have HS1 := Lib.hid (HS1.out.below hb5); have HX1 := Lib.hid (HX1.out.below hb5); clear hb5; have x0 := HS1.out.c0; have x1 := HS1.out.c1; have x2 := HS1.out.c2; have q0 := HX1.out.c0; have q1 := HX1.out.c1) | (go_at_call 112; with_reducible refine (settle_n _ w HS1.out.bel g c (R) l0.length HS1.out.len 1 a4 p.1 1 A2 c2 l2 HS1.out.own Hm.out (by have := Hp1.out; have := Hp2.out; omega) (by have := He.out; have := He2.out; omega) HC2.out).mono ?_; rintro e w6 ⟨rfl, ho, hg⟩; have HX1 := Lib.hid (HX1.out.settle HS1.out.own hg); have HS1 := Lib.hid (HS1.out.settle (R' := setP l2 p.1 1 (R)) (by rw [setP_len]; exact HS1.out.len) ho hg); clear ho hg; have x0 := HS1.out.c0; have x1 := HS1.out.c1; have x2 := HS1.out.c2; have q0 := HX1.out.c0; have q1 := HX1.out.c1) | (go_at_call 112; with_reducible refine (settle_n _ w HS1.out.bel g c (setP l2 p.1 1 R) l0.length HS1.out.len 1 a4 p.2 1 A2 c2 l2 HS1.out.own Hm.out (by have := Hp1.out; have := Hp2.out; omega) (by have := He.out; have := He2.out; omega) HC2.out).mono ?_; rintro e w6 ⟨rfl, ho, hg⟩; have HX1 := Lib.hid (HX1.out.settle HS1.out.own hg); have HS1 := Lib.hid (HS1.out.settle (R' := setP l2 p.2 1 (setP l2 p.1 1 R)) (by rw [setP_len]; exact HS1.out.len) ho hg); clear ho hg; have x0 := HS1.out.c0; have x1 := HS1.out.c1; have x2 := HS1.out.c2; have q0 := HX1.out.c0; have q1 := HX1.out.c1))
              go_roundg (m + 1 - (i + 1))
              case measure => have := Hg.out; omega
              case rel => exact ⟨i + 1, _, by omega, rfl, by go_num, HS1, HI3⟩
      · have hlt' : ¬ (i : Int) < (m : Int) := by omega
        have hR : R = r := by rw [← HI.out, List.drop_of_length_le (by rw [← Hmm.out]; omega)]; rfl
        have c0 := HS.out.c0
        go_wp2
        go_ret
        subst hR
        refine ⟨_, rfl, ?_, HS.out.bel⟩
        exact Kd.R_of_own (by rw [HS.out.len]; exact HS.out.own) (fun _ _ => trivial)
  · have Hwy : Hid ((if Go.bits .and .i64 a3 1 = 1 then (1 : Int) else 0) = 0) := Lib.hid (if_neg hbit)
    go_enter Tryz.func66, Tryz.ntmps66
    go_wp2_with (first | (go_at_call 38; with_reducible refine HCl.out.mono ?_; rintro e w1 ⟨A, c, rfl, hT⟩; have HT := Lib.hid hT; clear hT) | (go_at_call 109; with_reducible refine (HFd _ (HT.out.2.alloc HT.out.2.size (.cells #[.slice A l0.length c, .int .i64 0, .int .i64 a4] 130))).out.mono ?_; rintro e w3 ⟨vF, rfl, hF⟩; obtain ⟨aF, cF, rfl⟩ := own_slice hF.1; have HF := Lib.hid hF; clear hF))
    have HW0 : Hid (SB w A l0.length c w1.heap.size 0 a4 (.slice aF (pairsW l0 l1).length cF) (pairsW l0 l1) l0 w3) := Lib.hid (by
      have h1 := HT.out
      have h2 := HF.out
      have hs : w.heap.size ≤ (w1.alloc (.cells #[.slice A l0.length c, .int .i64 0, .int .i64 a4] 130)).heap.size := by have := h1.2.size; simp; omega
      exact ⟨(h1.2.alloc h1.2.size _).trans (h2.2.mono hs), rfl, pw_own_below (h1.1.alloc _) h2.2, (h2.2.block _ (by simp)).trans (heap_alloc_new _ _), own_low h2.1 hs⟩)
    obtain ⟨b, hb⟩ : ∃ b, b = w1.heap.size := ⟨_, rfl⟩
    rw [← hb] at HW0 ⊢
    clear HT HF hb HCl hbit
    obtain ⟨ps, hps⟩ : ∃ ps, ps = pairsW l0 l1 := ⟨_, rfl⟩
    have HB : Hid (∀ p ∈ ps, p.1 < p.2 ∧ p.2 < l0.length) := Lib.hid (by rw [hps]; exact pairsW_bound l0 l1)
    have HR : Hid (ps.foldl (braS l2 0 a4) l0 = r) := Lib.hid (by rw [← Hres.out, hps]; unfold braW; rw [Hwy.out])
    rw [← hps] at HW0 ⊢
    have hmb : ps.length ≤ 1048576 := by rw [hps]; have := pairsW_len l0 l1; have := Hm.out; omega
    clear hps Hres Hwy
    obtain ⟨m, hm⟩ : ∃ m, m = ps.length := ⟨_, rfl⟩
    rw [← hm] at HW0 hmb ⊢
    have Hmm := Lib.hid hm
    clear hm
    go_loopg [40] (m + 1) (fun gk v40 wr => ∃ (i : Nat) (R : List Int), i ≤ m ∧ gk = m + 1 - i ∧ v40 = .int .i64 i ∧ Hid (SB w A l0.length c b 0 a4 (.slice aF m cF) ps R wr) ∧ Hid ((ps.drop i).foldl (braS l2 0 a4) R = r))
    case atStart => exact ⟨0, l0, Nat.zero_le _, rfl, rfl, HW0, HR⟩
    case round =>
      obtain ⟨i, R, hi, hgk, rfl, HS, HI⟩ := hrel
      have Hg := Lib.hid hgk
      clear hgk HW0 HR
      by_cases hlt : i < m
      · have hlt' : (i : Int) < (m : Int) := by omega
        have hib : (i : Int) < 1048576 := by omega
        have hil : i < ps.length := by rw [← Hmm.out]; exact hlt
        obtain ⟨p, hp⟩ : ∃ p, p = ps[i] := ⟨_, rfl⟩
        have hpm : p ∈ ps := by rw [hp]; exact List.getElem_mem hil
        obtain ⟨hp1, hp2⟩ := HB.out p hpm
        obtain ⟨A', c', e, _, hcA⟩ := own_nums (l := R) (by rw [HS.out.len]; exact HS.out.own)
        obtain ⟨g, eg, _⟩ := hcA 0 (by rw [HS.out.len]; omega)
        have eA : A = some ⟨g, 0, none⟩ := by injection e with e1 _ _; rw [e1, eg]
        subst eA
        clear hcA e eg
        have hcF := pair_cells (HS.out.prs) i p (by rw [hp]; exact List.getElem?_eq_getElem hil)
        obtain ⟨gF, eF, hf0, hf1⟩ := hcF
        subst eF
        have hstep : (ps.drop i).foldl (braS l2 0 a4) R = (ps.drop (i + 1)).foldl (braS l2 0 a4) (braS l2 0 a4 R p) := by
          rw [List.drop_eq_getElem_cons hil, List.foldl_cons, ← hp]
        have HI2 : Hid ((ps.drop (i + 1)).foldl (braS l2 0 a4) (braS l2 0 a4 R p) = r) := Lib.hid (by rw [← hstep, HI.out])
        have Hp1 := Lib.hid hp1
        have Hp2 := Lib.hid hp2
        have HS1 : Hid (SB w (some ⟨g, 0, none⟩) l0.length c b 0 a4 (.slice (some ⟨gF, 0, none⟩) m cF) ps R (wr.alloc (.cells #[.int .i64 (p.1 : Int), .int .i64 (p.2 : Int)] 106))) := Lib.hid (HS.out.below ((Below.refl _ _).alloc (Nat.le_refl _) _))
        have HX1 : Hid (BxP wr.heap.size p (wr.alloc (.cells #[.int .i64 (p.1 : Int), .int .i64 (p.2 : Int)] 106))) := Lib.hid (heap_alloc_new _ _)
        have x0 := HS1.out.c0
        have x1 := HS1.out.c1
        have x2 := HS1.out.c2
        clear hstep hp hpm hp1 hp2 HI HS
        obtain ⟨y, hy⟩ : ∃ y, y = (insGo 0 0 false (partL R p.1 p.2)).1 := ⟨_, rfl⟩
        obtain ⟨f, hf⟩ : ∃ f, f = (insGo 0 0 false (partL R p.1 p.2)).2 := ⟨_, rfl⟩
        obtain ⟨z, hz⟩ : ∃ z, z = aheadP (R.take p.1) a4 := ⟨_, rfl⟩
        have HIn : ∀ w', w'.ownsRow w.heap.size 3 1 (.slice (some ⟨g, 0, none⟩) l0.length c) l0.length (nums .i64 R) → Hid (Calls Tryz.prog 110 #[.agg #[.slice (some ⟨g, 0, none⟩) l0.length c, .int .i64 0, .int .i64 a4], .agg #[.int .i64 p.1, .int .i64 p.2]] w' fun e w'' => e = .returned (.tuple #[.int .i64 y, .bool f]) ∧ Below w'.heap.size w' w'') := fun w' ho => by
          have hk := HS1.out.len
          have := inside_n w' w.heap.size _ R l0.length hk 0 a4 p ho Hm.out Hp1.out Hp2.out
          rw [← hy, ← hf] at this
          exact Lib.hid this
        have HAh : ∀ w', w'.ownsRow w.heap.size 3 1 (.slice (some ⟨g, 0, none⟩) l0.length c) l0.length (nums .i64 R) → Hid (Calls Tryz.prog 111 #[.agg #[.slice (some ⟨g, 0, none⟩) l0.length c, .int .i64 0, .int .i64 a4], .int .i64 p.1] w' fun e w'' => e = .returned (.int .i64 z) ∧ Below w'.heap.size w' w'') := fun w' ho => by
          have hk := HS1.out.len
          have := ahead_n w' w.heap.size g c R l0.length hk 0 a4 p.1 ho Hm.out (by have := Hp1.out; have := Hp2.out; omega)
          rw [← hz] at this
          exact Lib.hid this
        have hstp : braS l2 0 a4 R p = if f = true then (if y ≠ 0 ∧ z ≠ y then setP l2 p.2 0 (setP l2 p.1 0 R) else setP l2 p.2 y (setP l2 p.1 y R)) else R := by
          rw [hy, hf, hz]; rfl
        rw [hstp] at HI2
        clear hstp hy hf hz
        cases f with
        | false =>
          have HI3 : Hid ((ps.drop (i + 1)).foldl (braS l2 0 a4) R = r) := Lib.hid HI2.out
          clear HI2
          go_wp2_with (first | (go_at_call 110; with_reducible refine (HIn _ HS1.out.own).out.mono ?_; rintro e w4 ⟨rfl, hb4⟩; have HS1 := Lib.hid (HS1.out.below hb4); have HX1 := Lib.hid (HX1.out.below hb4); clear hb4; have x0 := HS1.out.c0; have x1 := HS1.out.c1; have x2 := HS1.out.c2; have q0 := HX1.out.c0; have q1 := HX1.out.c1) | (go_at_call 112; with_reducible refine (settle_n _ w HS1.out.bel g c (R) l0.length HS1.out.len 0 a4 p.1 0 A2 c2 l2 HS1.out.own Hm.out (by have := Hp1.out; have := Hp2.out; omega) (by have := He.out; have := He2.out; omega) HC2.out).mono ?_; rintro e w6 ⟨rfl, ho, hg⟩; have HX1 := Lib.hid (HX1.out.settle HS1.out.own hg); have HS1 := Lib.hid (HS1.out.settle (R' := setP l2 p.1 0 (R)) (by rw [setP_len]; exact HS1.out.len) ho hg); clear ho hg; have x0 := HS1.out.c0; have x1 := HS1.out.c1; have x2 := HS1.out.c2; have q0 := HX1.out.c0; have q1 := HX1.out.c1) | (go_at_call 112; with_reducible refine (settle_n _ w HS1.out.bel g c (setP l2 p.1 0 R) l0.length HS1.out.len 0 a4 p.2 0 A2 c2 l2 HS1.out.own Hm.out (by have := Hp1.out; have := Hp2.out; omega) (by have := He.out; have := He2.out; omega) HC2.out).mono ?_; rintro e w6 ⟨rfl, ho, hg⟩; have HX1 := Lib.hid (HX1.out.settle HS1.out.own hg); have HS1 := Lib.hid (HS1.out.settle (R' := setP l2 p.2 0 (setP l2 p.1 0 R)) (by rw [setP_len]; exact HS1.out.len) ho hg); clear ho hg; have x0 := HS1.out.c0; have x1 := HS1.out.c1; have x2 := HS1.out.c2; have q0 := HX1.out.c0; have q1 := HX1.out.c1))
          go_roundg (m + 1 - (i + 1))
          case measure => have := Hg.out; omega
          case rel => exact ⟨i + 1, _, by omega, rfl, by go_num, HS1, HI3⟩
        | true =>
          by_cases hyW : y = 0
          · subst hyW
            have HI3 : Hid ((ps.drop (i + 1)).foldl (braS l2 0 a4) (setP l2 p.2 0 (setP l2 p.1 0 R)) = r) := Lib.hid (by have := HI2.out; rw [if_pos rfl, if_neg (fun a => a.1 rfl)] at this; exact this)
            clear HI2
            go_wp2_with (first | (go_at_call 110; with_reducible refine (HIn _ HS1.out.own).out.mono ?_; rintro e w4 ⟨rfl, hb4⟩; have HS1 := Lib.hid (HS1.out.below hb4); have HX1 := Lib.hid (HX1.out.below hb4); clear hb4; have x0 := HS1.out.c0; have x1 := HS1.out.c1; have x2 := HS1.out.c2; have q0 := HX1.out.c0; have q1 := HX1.out.c1) | (go_at_call 112; with_reducible refine (settle_n _ w HS1.out.bel g c (R) l0.length HS1.out.len 0 a4 p.1 0 A2 c2 l2 HS1.out.own Hm.out (by have := Hp1.out; have := Hp2.out; omega) (by have := He.out; have := He2.out; omega) HC2.out).mono ?_; rintro e w6 ⟨rfl, ho, hg⟩; have HX1 := Lib.hid (HX1.out.settle HS1.out.own hg); have HS1 := Lib.hid (HS1.out.settle (R' := setP l2 p.1 0 (R)) (by rw [setP_len]; exact HS1.out.len) ho hg); clear ho hg; have x0 := HS1.out.c0; have x1 := HS1.out.c1; have x2 := HS1.out.c2; have q0 := HX1.out.c0; have q1 := HX1.out.c1) | (go_at_call 112; with_reducible refine (settle_n _ w HS1.out.bel g c (setP l2 p.1 0 R) l0.length HS1.out.len 0 a4 p.2 0 A2 c2 l2 HS1.out.own Hm.out (by have := Hp1.out; have := Hp2.out; omega) (by have := He.out; have := He2.out; omega) HC2.out).mono ?_; rintro e w6 ⟨rfl, ho, hg⟩; have HX1 := Lib.hid (HX1.out.settle HS1.out.own hg); have HS1 := Lib.hid (HS1.out.settle (R' := setP l2 p.2 0 (setP l2 p.1 0 R)) (by rw [setP_len]; exact HS1.out.len) ho hg); clear ho hg; have x0 := HS1.out.c0; have x1 := HS1.out.c1; have x2 := HS1.out.c2; have q0 := HX1.out.c0; have q1 := HX1.out.c1))
            go_roundg (m + 1 - (i + 1))
            case measure => have := Hg.out; omega
            case rel => exact ⟨i + 1, _, by omega, rfl, by go_num, HS1, HI3⟩
          · have hyb : (y != 0) = true := by simpa using hyW
            by_cases hzy : z = y
            · subst hzy
              have HI3 : Hid ((ps.drop (i + 1)).foldl (braS l2 0 a4) (setP l2 p.2 z (setP l2 p.1 z R)) = r) := Lib.hid (by have := HI2.out; rw [if_pos rfl, if_neg (fun a => a.2 rfl)] at this; exact this)
              clear HI2 hyW
              go_wp2_with (first | (go_at_call 110; with_reducible refine (HIn _ HS1.out.own).out.mono ?_; rintro e w4 ⟨rfl, hb4⟩; have HS1 := Lib.hid (HS1.out.below hb4); have HX1 := Lib.hid (HX1.out.below hb4); clear hb4; have x0 := HS1.out.c0; have x1 := HS1.out.c1; have x2 := HS1.out.c2; have q0 := HX1.out.c0; have q1 := HX1.out.c1) | (go_at_call 111; with_reducible refine (HAh _ HS1.out.own).out.mono ?_; rintro e w5 ⟨rfl, hb5⟩; have HS1 := Lib.hid (HS1.out.below hb5); have HX1 := Lib.hid (HX1.out.below hb5); clear hb5; have x0 := HS1.out.c0; have x1 := HS1.out.c1; have x2 := HS1.out.c2; have q0 := HX1.out.c0; have q1 := HX1.out.c1) | (go_at_call 112; with_reducible refine (settle_n _ w HS1.out.bel g c (R) l0.length HS1.out.len 0 a4 p.1 z A2 c2 l2 HS1.out.own Hm.out (by have := Hp1.out; have := Hp2.out; omega) (by have := He.out; have := He2.out; omega) HC2.out).mono ?_; rintro e w6 ⟨rfl, ho, hg⟩; have HX1 := Lib.hid (HX1.out.settle HS1.out.own hg); have HS1 := Lib.hid (HS1.out.settle (R' := setP l2 p.1 z (R)) (by rw [setP_len]; exact HS1.out.len) ho hg); clear ho hg; have x0 := HS1.out.c0; have x1 := HS1.out.c1; have x2 := HS1.out.c2; have q0 := HX1.out.c0; have q1 := HX1.out.c1) | (go_at_call 112; with_reducible refine (settle_n _ w HS1.out.bel g c (setP l2 p.1 z R) l0.length HS1.out.len 0 a4 p.2 z A2 c2 l2 HS1.out.own Hm.out (by have := Hp1.out; have := Hp2.out; omega) (by have := He.out; have := He2.out; omega) HC2.out).mono ?_; rintro e w6 ⟨rfl, ho, hg⟩; have HX1 := Lib.hid (HX1.out.settle HS1.out.own hg); have HS1 := Lib.hid (HS1.out.settle (R' := setP l2 p.2 z (setP l2 p.1 z R)) (by rw [setP_len]; exact HS1.out.len) ho hg); clear ho hg; have x0 := HS1.out.c0; have x1 := HS1.out.c1; have x2 := HS1.out.c2; have q0 := HX1.out.c0; have q1 := HX1.out.c1))
              go_roundg (m + 1 - (i + 1))
              case measure => have := Hg.out; omega
              case rel => exact ⟨i + 1, _, by omega, rfl, by go_num, HS1, HI3⟩
            · have hzb : (z != y) = true := by simpa using hzy
              have HI3 : Hid ((ps.drop (i + 1)).foldl (braS l2 0 a4) (setP l2 p.2 0 (setP l2 p.1 0 R)) = r) := Lib.hid (by have := HI2.out; rw [if_pos rfl, if_pos ⟨hyW, hzy⟩] at this; exact this)
              clear HI2 hyW hzy
              go_wp2_with (first | (go_at_call 110; with_reducible refine (HIn _ HS1.out.own).out.mono ?_; rintro e w4 ⟨rfl, hb4⟩; have HS1 := Lib.hid (HS1.out.below hb4); have HX1 := Lib.hid (HX1.out.below hb4); clear hb4; have x0 := HS1.out.c0; have x1 := HS1.out.c1; have x2 := HS1.out.c2; have q0 := HX1.out.c0; have q1 := HX1.out.c1) | (go_at_call 111; with_reducible refine (HAh _ HS1.out.own).out.mono ?_; rintro e w5 ⟨rfl, hb5⟩; have HS1 := Lib.hid (HS1.out.below hb5); have HX1 := Lib.hid (HX1.out.below hb5); clear hb5; have x0 := HS1.out.c0; have x1 := HS1.out.c1; have x2 := HS1.out.c2; have q0 := HX1.out.c0; have q1 := HX1.out.c1) | (go_at_call 112; with_reducible refine (settle_n _ w HS1.out.bel g c (R) l0.length HS1.out.len 0 a4 p.1 0 A2 c2 l2 HS1.out.own Hm.out (by have := Hp1.out; have := Hp2.out; omega) (by have := He.out; have := He2.out; omega) HC2.out).mono ?_; rintro e w6 ⟨rfl, ho, hg⟩; have HX1 := Lib.hid (HX1.out.settle HS1.out.own hg); have HS1 := Lib.hid (HS1.out.settle (R' := setP l2 p.1 0 (R)) (by rw [setP_len]; exact HS1.out.len) ho hg); clear ho hg; have x0 := HS1.out.c0; have x1 := HS1.out.c1; have x2 := HS1.out.c2; have q0 := HX1.out.c0; have q1 := HX1.out.c1) | (go_at_call 112; with_reducible refine (settle_n _ w HS1.out.bel g c (setP l2 p.1 0 R) l0.length HS1.out.len 0 a4 p.2 0 A2 c2 l2 HS1.out.own Hm.out (by have := Hp1.out; have := Hp2.out; omega) (by have := He.out; have := He2.out; omega) HC2.out).mono ?_; rintro e w6 ⟨rfl, ho, hg⟩; have HX1 := Lib.hid (HX1.out.settle HS1.out.own hg); have HS1 := Lib.hid (HS1.out.settle (R' := setP l2 p.2 0 (setP l2 p.1 0 R)) (by rw [setP_len]; exact HS1.out.len) ho hg); clear ho hg; have x0 := HS1.out.c0; have x1 := HS1.out.c1; have x2 := HS1.out.c2; have q0 := HX1.out.c0; have q1 := HX1.out.c1))
              go_roundg (m + 1 - (i + 1))
              case measure => have := Hg.out; omega
              case rel => exact ⟨i + 1, _, by omega, rfl, by go_num, HS1, HI3⟩
      · have hlt' : ¬ (i : Int) < (m : Int) := by omega
        have hR : R = r := by rw [← HI.out, List.drop_of_length_le (by rw [← Hmm.out]; omega)]; rfl
        have c0 := HS.out.c0
        go_wp2
        go_ret
        subst hR
        refine ⟨_, rfl, ?_, HS.out.bel⟩
        exact Kd.R_of_own (by rw [HS.out.len]; exact HS.out.own) (fun _ _ => trivial)
end Go.Proofs.YtdpifkhkemeclaaGreat
