/- slices.Backward over runes, slices.Clone, bidi.Line. -/
import Derived.Test.YtdpifkhkemeclaaGreatResG
namespace Go.Proofs.YtdpifkhkemeclaaGreat
open Go.RowKit Go.Shelf Go.Proofs.YtdpifkhkemeclaaGreatW.PrintWords Go.Proofs.YtdpifkhkemeclaaGreat.PZ
set_option linter.unusedVariables false
set_option linter.unusedSimpArgs false
theorem own_frozen {W : World} {base : Nat} {e : TypeId} {size n n' g c : Nat} {xs : List Value} (h : W.ownsRow base e size (.slice (some ⟨g, 0, none⟩) n c) n' xs) (j : Nat) : W.frozen? ⟨g, j, none⟩ = false := by
  rcases h.2 with ⟨h', _⟩ | ⟨g', cap', cur, h', _, hh, _⟩
  · cases h'
  · have : g = g' := by injection h' with h'; injection h' with h'; injection h' with h'
    subst this
    simp [World.frozen?, hh]
section
attribute [local go_sem] Oper.semAt_some
def brF (l : List S38) (j : Nat) : Nat × S38 := (l.length - 1 - j, l.getD (l.length - 1 - j) z38)
def brTo (l : List S38) (k : Nat) : List (Nat × S38) := (List.range k).map (brF l)
theorem brTo_succ (l : List S38) (k : Nat) : brTo l (k + 1) = brTo l k ++ [brF l k] := by simp [brTo, List.range_succ]
theorem brTo_length (l : List S38) (k : Nat) : (brTo l k).length = k := by simp [brTo]
def rV (x : S38) : Value := .agg #[.int .i64 x.f0, .int .i64 x.f1, .int .i64 x.f2]
set_option maxRecDepth 100000 in
set_option maxHeartbeats 2000000 in
theorem br1_in (F : Fence) (n : Nat) (h8 : F.fn 86) (hro : F.round = none) (hn : 1 ≤ n) (l Bs m cap : Nat) (ad : Addr) (zs : List S38) (hreach : zs.length ≤ 1048576) (hb : ad.block < m) (J Jx : List (Nat × S38) → World → Prop)
    (hY : ∀ pre x W, J pre W → pre.length < zs.length → (∃ k, k < zs.length ∧ pre = brTo zs k ∧ x = brF zs k) → YieldAt F (n - 1) Tryz.prog l #[.int .i64 (x.1 : Int), rV x.2] W fun e W' =>
      (e = .returned (.bool true) ∧ J (pre ++ [x]) W' ∧ KpB Bs m W W') ∨ (e = .returned (.bool false) ∧ Jx (pre ++ [x]) W'))
    (W : World) (hBs : W.cell? ⟨Bs, 0, none⟩ = some (.slice (some ad) zs.length cap))
    (hc : ∀ j, j < zs.length → W.cell? (ad.add (j * 3)) = some (.int .i64 (zs.getD j z38).f0) ∧ W.cell? ⟨(ad.add (j * 3)).block, (ad.add (j * 3)).off + 1, none⟩ = some (.int .i64 (zs.getD j z38).f1) ∧ W.cell? ⟨(ad.add (j * 3)).block, (ad.add (j * 3)).off + 2, none⟩ = some (.int .i64 (zs.getD j z38).f2)) (h0 : J [] W) :
    CallsIn F n Tryz.prog 86 #[.func (.yield l) #[] #[], .pointer (some ⟨Bs, 0, none⟩)] W fun e W' => (∃ v, e = .returned v) ∧
      (J (brTo zs zs.length) W' ∨ (∃ pre, (∃ k, k ≤ zs.length ∧ pre = brTo zs k) ∧ Jx pre W')) := by
  have hadb : Hid (∀ j, (ad.add j).block = ad.block) := Lib.hid (fun j => by unfold Addr.add; split <;> rfl)
  refine callsIn_of_wp Tryz.func86 rfl h8 ?_ hro
  simp only [Tryz.ntmps86, List.size_toArray, List.length_cons, List.length_nil, Nat.reduceAdd, Nat.reduceSub, Array.replicate_succ, Array.replicate_zero, List.push_toArray, List.append_toArray, List.nil_append, List.cons_append]
  gi_wp2
  gi_loopw [3] (fun i wr => ∃ k : Nat, k ≤ zs.length ∧ ((k < zs.length ∧ i = .int .i64 ((zs.length - 1 - k : Nat) : Int)) ∨ (k = zs.length ∧ i = .int .i64 (-1))) ∧ J (brTo zs k) wr ∧ KpB Bs m W wr)
    (fun i _ => (intOf i + 1).toNat)
  case atStart =>
    refine ⟨0, Nat.zero_le _, ?_, h0, KpB.refl _ _ _⟩
    rcases Nat.eq_zero_or_pos zs.length with h | h
    · exact .inr ⟨h.symm, by rw [h]; rfl⟩
    · exact .inl ⟨h, by congr 1; omega⟩
  case round =>
    obtain ⟨k, hk, hi, hJs, hnx⟩ := hrel
    rcases hi with ⟨hlt, rfl⟩ | ⟨hke, rfl⟩
    · obtain ⟨q, hq⟩ : ∃ q, q = zs.length - 1 - k := ⟨_, rfl⟩
      obtain ⟨x, hxd⟩ : ∃ x, x = zs.getD q z38 := ⟨_, rfl⟩
      have hx : brF zs k = (q, x) := by unfold brF; rw [hxd, hq]
      obtain ⟨c1, c2, c3⟩ := hc q (by omega)
      rw [← hxd] at c1 c2 c3
      have hcx1 := hnx.cell (.inl (by rw [hadb.out]; exact hb)) c1
      have hcx2 := hnx.cell (.inl (by show (ad.add (q * 3)).block < m; rw [hadb.out]; exact hb)) c2
      have hcx3 := hnx.cell (.inl (by show (ad.add (q * 3)).block < m; rw [hadb.out]; exact hb)) c3
      have hbs' : wr.cell? ⟨Bs, 0, none⟩ = some (.slice (some ad) zs.length cap) := hnx.cell (p := ⟨Bs, 0, none⟩) (.inr rfl) hBs
      obtain ⟨fn, tmps, assign, body, hy, hR⟩ := hY _ (q, x) wr hJs (by rw [brTo_length]; exact hlt) ⟨k, hlt, rfl, hx.symm⟩
      dsimp only [rV] at hy
      rw [← hq]
      have hml : (q : Int) < (zs.length : Int) := by omega
      have Hm := Lib.hid hq
      have Hx := Lib.hid hx
      clear hq hx hxd c1 c2 c3
      gi_wp2
      refine hR.mono ?_
      rintro e W3 (⟨rfl, hJ3, hk3⟩ | ⟨rfl, hJx3⟩)
      · gi_wp2
        go_roundw
        case rel =>
          refine ⟨k + 1, by omega, ?_, by rw [brTo_succ, Hx.out]; exact hJ3, hnx.trans hk3⟩
          rcases Nat.eq_zero_or_pos q with h | h
          · exact .inr ⟨by have := Hm.out; omega, by subst h; rfl⟩
          · exact .inl ⟨by have := Hm.out; omega, by have := Hm.out; congr 1; omega⟩
        case measure => simp [intOf] <;> omega
      · gi_wp2
        refine bodyPost_ret (results_none rfl _ _ _) rfl ?_
        exact ⟨⟨_, rfl⟩, .inr ⟨_, ⟨k + 1, by omega, by rw [brTo_succ, Hx.out]⟩, hJx3⟩⟩
    · subst hke
      gi_wp2
      go_end0
      exact ⟨⟨_, rfl⟩, .inl hJs⟩
set_option maxRecDepth 100000 in
set_option maxHeartbeats 1000000 in
theorem br1_none_in (F : Fence) (n : Nat) (h8 : F.fn 86) (hro : F.round = none) (l Bs : Nat) (a : Option Addr) (cap : Nat) (J : List (Nat × S38) → World → Prop) (W : World) (hBs : W.cell? ⟨Bs, 0, none⟩ = some (.slice a 0 cap)) (h0 : J [] W) :
    CallsIn F n Tryz.prog 86 #[.func (.yield l) #[] #[], .pointer (some ⟨Bs, 0, none⟩)] W fun e W' => (∃ v, e = .returned v) ∧ J [] W' := by
  refine callsIn_of_wp Tryz.func86 rfl h8 ?_ hro
  simp only [Tryz.ntmps86, List.size_toArray, List.length_cons, List.length_nil, Nat.reduceAdd, Nat.reduceSub, Array.replicate_succ, Array.replicate_zero, List.push_toArray, List.append_toArray, List.nil_append, List.cons_append]
  gi_wp2
  gi_loopw [3] (fun i wr => i = .int .i64 (-1) ∧ J [] wr) (fun _ _ => 0)
  case atStart => exact ⟨rfl, h0⟩
  case round =>
    obtain ⟨rfl, hJs⟩ := hrel
    gi_wp2
    go_end0
    exact ⟨⟨_, rfl⟩, hJs⟩
set_option maxHeartbeats 1000000 in
theorem br_in (F : Fence) (n : Nat) (h6 : F.fn 39) (hro : F.round = none) (a : Option Addr) (len cap : Nat) (w : World) :
    CallsIn F n Tryz.prog 39 #[.slice a len cap] w fun e w' => e = .returned (.func (.func 86) #[] #[.pointer (some ⟨w.heap.size, 0, none⟩)]) ∧ w' = w.alloc (.cells #[.slice a len cap] 22) := by
  refine callsIn_of_wp Tryz.func39 rfl h6 ?_ hro
  simp only [Tryz.ntmps39, List.size_toArray, List.length_cons, List.length_nil, Nat.reduceAdd, Nat.reduceSub, Array.replicate_succ, Array.replicate_zero, List.push_toArray, List.append_toArray, List.nil_append, List.cons_append]
  gi_wp2
  go_ret
  exact ⟨rfl, rfl⟩
theorem br_stopsP (F : Fence) (n : Nat) (h8 : F.fn 86) (hro : F.round = none) (hn : 1 ≤ n) (Bs m : Nat) (A : Option Addr) (cap : Nat) (zs : List S38) (hreach : zs.length ≤ 1048576) (w : World) (hBs : Bs < w.heap.size) (hm : m ≤ w.heap.size)
    (hc : w.cell? ⟨Bs, 0, none⟩ = some (.slice A zs.length cap)) (hC : Kd.C k38 w A zs.length zs) (hA : ∀ ad, A = some ad → 0 < zs.length → ad.block < m) :
    SeqStopsK F n Tryz.prog 86 #[.pointer (some ⟨Bs, 0, none⟩)] (fun x : { x : Nat × S38 // x.1 < zs.length } => #[Value.int .i64 (x.1.1 : Int), rV x.1.2]) (KpB Bs m) (fun ys => ys.map (·.1) = brTo zs zs.length)
      (fun pre => ∃ k, k ≤ zs.length ∧ pre.map (·.1) = brTo zs k) zs.length w := fun l J Jx W hW _ _ hY h0 => by
  have hc' := (hW.cell (p := ⟨Bs, 0, none⟩) hBs).trans hc
  have key : CallsIn F n Tryz.prog 86 #[.func (.yield l) #[] #[], .pointer (some ⟨Bs, 0, none⟩)] W fun e W' => (∃ v, e = .returned v) ∧
      ((fun (y : List (Nat × S38)) W => ∃ y', y'.map (·.1) = y ∧ J y' W) (brTo zs zs.length) W' ∨ (∃ pre, (∃ k, k ≤ zs.length ∧ pre = brTo zs k) ∧ (fun (y : List (Nat × S38)) W => ∃ y', y'.map (·.1) = y ∧ Jx y' W) pre W')) := by
    by_cases hz : zs = []
    · subst hz
      exact (br1_none_in F n h8 hro l Bs A cap (fun (y : List (Nat × S38)) W => ∃ y', y'.map (·.1) = y ∧ J y' W) W hc' ⟨[], rfl, h0⟩).mono fun e W' ⟨he, hj⟩ => ⟨he, .inl hj⟩
    · have hpos : 0 < zs.length := by
        cases zs with
        | nil => exact (hz rfl).elim
        | cons _ _ => simp
      obtain ⟨ad, e, _⟩ := at_T38 hC 0 (by omega) (by omega)
      subst e
      refine br1_in F n h8 hro hn l Bs m cap ad zs hreach (hA ad rfl hpos) (fun (y : List (Nat × S38)) W => ∃ y', y'.map (·.1) = y ∧ J y' W) (fun (y : List (Nat × S38)) W => ∃ y', y'.map (·.1) = y ∧ Jx y' W) ?_ W hc' (fun j hj => ?_) ⟨[], rfl, h0⟩
      · rintro pre x W1 ⟨y', rfl, hj⟩ hlen ⟨k, hk, _, rfl⟩
        obtain ⟨fn, tmps, assign, body, hy, hR⟩ := hY y' ⟨brF zs k, by show zs.length - 1 - k < zs.length; omega⟩ W1 hj (by simpa using hlen)
        refine ⟨fn, tmps, assign, body, hy, hR.mono ?_⟩
        rintro e W' (⟨rfl, h1, h2⟩ | ⟨rfl, h1⟩)
        · exact .inl ⟨rfl, ⟨_, by simp, h1⟩, h2⟩
        · exact .inr ⟨rfl, ⟨_, by simp, h1⟩⟩
      · obtain ⟨ad2, e2, q1, q2, q3⟩ := at_T38 (Kd.C_below hC hW) (j : Int) (by omega) (by omega)
        injection e2 with e2
        subst e2
        simp only [rd_T38, Int.toNat_natCast] at q1 q2 q3
        exact ⟨q1, q2, q3⟩
  refine key.mono ?_
  rintro e W' ⟨he, ⟨y', h1, h2⟩ | ⟨pre, ⟨k, hk, rfl⟩, ⟨y', h1, h2⟩⟩⟩
  · exact ⟨he, .inl ⟨y', h1, h2⟩⟩
  · exact ⟨he, .inr ⟨y', ⟨k, hk, h1⟩, h2⟩⟩
end
section
def slices_Clone_int_int.f (l0 : List Int) : Option (List Int) := if l0.length ≤ 1048576 then some l0 else none
theorem slices_Clone_int_int.calls (A0 : Option Addr) (c0 : Nat) (l0 : List Int) (r : List Int) (w : World) (hr0 : Kd.C (Kd.int .i64) w A0 l0.length l0) (hc0 : l0.length ≤ c0) (h : slices_Clone_int_int.f l0 = some r) :
    Calls Tryz.prog 38 #[.slice A0 l0.length c0] w fun e w' => ∃ v0_ : Value, e = .returned (v0_) ∧ Kd.R (Kd.int .i64) 3 w' w.heap.size (fun _ => True) v0_ r ∧ Below w.heap.size w w' := by
  unfold slices_Clone_int_int.f at h
  split at h
  · rename_i hl
    obtain rfl := Option.some.inj h
    refine (clone_any w A0 c0 l0 hr0 hl).mono ?_
    rintro e w' ⟨A, c, rfl, ho, hb⟩
    exact ⟨_, rfl, Kd.R_of_own ho (fun _ _ => trivial), hb⟩
  · cases h
end
section
attribute [local go_sem] Oper.semAt_some
def blankB (c : Int) : Bool := (bidi_blank.f c).getD false
theorem blank_some (c : Int) : bidi_blank.f c = some (blankB c) := by
  have h : ∃ b, bidi_blank.f c = some b := by
    unfold bidi_blank.f level_Removed.f
    repeat' split
    all_goals exact ⟨_, rfl⟩
  obtain ⟨b, hb⟩ := h
  unfold blankB
  rw [hb]
  rfl
def clsR (x : S38) : Int := (class_Of.f x.f2).getD 0
theorem clsR_some (x : S38) : class_Of.f x.f2 = some (clsR x) := rfl
def lnE (e : Bool) (c : Int) : Bool := c == 11 || c == 10 || (e && blankB c)
def lnStep (para : Int) (st : Bool × List Int) (x : Nat × S38) : Bool × List Int := (lnE st.1 (clsR x.2), if lnE st.1 (clsR x.2) = true then st.2.set x.1 para else st.2)
theorem lnStep_length (para : Int) (l : List (Nat × S38)) : ∀ st : Bool × List Int, (l.foldl (lnStep para) st).2.length = st.2.length := by
  induction l with
  | nil => intro st; rfl
  | cons x l ih => intro st; rw [List.foldl_cons, ih]; unfold lnStep; dsimp only; split <;> simp
def bidi_Line.f (l0 : List S38) (l1 : List Int) (para : Int) : Option (List Int) :=
  if l0.length ≠ l1.length then some [] else if l1.length ≤ 1048576 then some ((brTo l0 l0.length).foldl (lnStep para) (true, l1)).2 else none
structure LS (w : World) (para : Int) (b7 b8 bL : Nat) (vO vL : Value) (st : Bool × List Int) (W : World) : Prop where
  bel : Below w.heap.size w W
  bP : Boxed W w.heap.size 3 (.int .i64 para)
  bO : Boxed W b7 25 vO
  bE : Boxed W b8 4 (.bool st.1)
  bL : Boxed W bL 22 vL
  row : W.ownsRow (w.heap.size + 1) 3 1 vO st.2.length (nums .i64 st.2)
section
variable {w W W' : World} {para : Int} {b7 b8 bL : Nat} {vO vL : Value} {st : Bool × List Int}
theorem LS.below (h : LS w para b7 b8 bL vO vL st W) (hb : Below W.heap.size W W') : LS w para b7 b8 bL vO vL st W' :=
  ⟨h.bel.trans (hb.mono h.bel.size), (hb.block _ h.bP.lt).trans h.bP, (hb.block _ h.bO.lt).trans h.bO, (hb.block _ h.bE.lt).trans h.bE, (hb.block _ h.bL.lt).trans h.bL, pw_own_below h.row hb⟩
theorem LS.neP (h : LS w para b7 b8 bL vO vL st W) : some w.heap.size ≠ vO.ownBlock := fun e => by have := own_base h.row _ e.symm; omega
theorem LS.setE (h : LS w para b7 b8 bL vO vL st W) (hw : w.heap.size < b8) (e : Bool) : LS w para b7 b8 bL vO vL (e, st.2) (W.setCell ⟨b8, 0, none⟩ (.bool e)) := by
  have h7 : b7 ≠ b8 := by rintro rfl; have := h.bO; rw [Boxed, show W.heap[b7]? = _ from h.bE] at this; injection this with this; injection this with _ t; cases t
  have hL : bL ≠ b8 := by rintro rfl; have := h.bL; rw [Boxed, show W.heap[bL]? = _ from h.bE] at this; injection this with this; injection this with _ t; cases t
  exact ⟨h.bel.setCell (p := ⟨b8, 0, none⟩) (Nat.le_of_lt hw) _, h.bP.other (by omega) _, h.bO.other h7 _, h.bE.set _, h.bL.other hL _, own_setCell h.row (show some b8 ≠ vO.ownBlock from own_ne h.row h.bE (by decide)) _⟩
theorem LS.setO {g n c : Nat} (h : LS w para b7 b8 bL (.slice (some ⟨g, 0, none⟩) n c) vL st W) (i : Nat) (x : Int) :
    LS w para b7 b8 bL (.slice (some ⟨g, 0, none⟩) n c) vL (st.1, st.2.set i x) (W.setCell ⟨g, i, none⟩ (.int .i64 x)) := by
  have hn : n = st.2.length := by
    rcases h.row.2 with ⟨hv, _⟩ | ⟨g', cap, cur, hv, _⟩
    · cases hv
    · injection hv
  subst hn
  obtain ⟨h1, h2⟩ := own_store h.row (i : Int) x
  rw [Int.toNat_natCast] at h1 h2
  refine ⟨h.bel.grown h2 h.bel.size (fun k e => by cases e; have := own_base h.row g rfl; omega), h.bP.kept h2 h.neP, h.bO.kept h2 (h.bO.not_row (by decide) h.row), h.bE.kept h2 (h.bE.not_row (by decide) h.row), h.bL.kept h2 (h.bL.not_row (by decide) h.row), ?_⟩
  rw [show (st.1, st.2.set i x).2.length = st.2.length from List.length_set]
  exact h1
theorem LS.own {B : Nat} (hB : w.heap.size ≤ B) {α : Type} (F : α → Bool × List Int) : OwnFrom B (fun (s : α) W => LS w para b7 b8 bL vO vL (F s) W) := by
  intro s W W' row h hg hr
  have hbx : ∀ {k : Nat} {t : TypeId} {v : Value}, Boxed W k t v → Boxed W' k t v := fun {k t v} hb => hb.kept hg (fun e => by
    obtain ⟨_, o, ho, hc⟩ := hr k e.symm
    rw [show W.heap[k]? = _ from hb] at ho
    cases ho
    cases hc)
  refine ⟨h.bel.grown hg h.bel.size (fun k e => Nat.le_trans hB (hr k e).1), hbx h.bP, hbx h.bO, hbx h.bE, hbx h.bL, h.row.kept hg ?_⟩
  rcases h.row.2 with ⟨rfl, _⟩ | ⟨g, cap, cur, rfl, _, hh, _⟩
  · exact .inl rfl
  · refine .inr (fun e2 => ?_)
    obtain ⟨_, o, ho', hc⟩ := hr g e2.symm
    rw [hh] at ho'
    cases ho'
    cases hc
theorem LS.kp {st' : Bool × List Int} (h : LS w para b7 b8 bL vO vL st W) (h' : LS w para b7 b8 bL vO vL st' W') (hs : W.heap.size ≤ W'.heap.size) : KpB bL w.heap.size W W' := by
  refine ⟨hs, fun k hk hlt => ?_⟩
  rcases hk with hk | rfl
  · rw [h'.bel.block k hk, h.bel.block k hk]
  · rw [show W'.heap[k]? = _ from h'.bL, show W.heap[k]? = _ from h.bL]
end
set_option maxRecDepth 100000 in
set_option maxHeartbeats 8000000 in
theorem line_in (n : Nat) (hn : 5 ≤ n) (A0 : Option Addr) (c0 : Nat) (l0 : List S38) (A1 : Option Addr) (c1 : Nat) (l1 : List Int) (para : Int) (w : World) (hr0 : Kd.C k38 w A0 l0.length l0) (hr1 : Kd.C (Kd.int .i64) w A1 l1.length l1) (hc1 : l1.length ≤ c1) (hlen : l0.length = l1.length) (hmax : l1.length ≤ 1048576) :
    CallsIn Fence.wide n Tryz.prog 15 #[.slice A0 l0.length c0, .slice A1 l1.length c1, .int .i64 para] w fun e w' => ∃ v0_ : Value, e = .returned (v0_) ∧ Kd.R (Kd.int .i64) 3 w' w.heap.size (fun _ => True) v0_ ((brTo l0 l0.length).foldl (lnStep para) (true, l1)).2 ∧ Below w.heap.size w w' := by
  have h1 : 1 ≤ n := by omega
  have hro : (Fence.wide).round = none := rfl
  have HR0 := Lib.hid hr0
  have HR1 := Lib.hid hr1
  have HC1 := Lib.hid hc1
  have HMax := Lib.hid hmax
  have hl' : ((l0.length : Int) != (l1.length : Int)) = false := by simp [hlen]
  have HLen := Lib.hid hlen
  clear hr0 hr1 hc1 hmax hlen
  refine callsIn_of_wp_marks Tryz.func15 rfl trivial ?_ hro
  simp only [Tryz.ntmps15, List.size_toArray, List.length_cons, List.length_nil, Nat.reduceAdd, Nat.reduceSub, Array.replicate_succ, Array.replicate_zero, List.push_toArray, List.append_toArray, List.nil_append, List.cons_append]
  gi_wp2_with (first
    | (refine ⟨trivial, ?_⟩; gi_at_call 38; refine (callsIn_wide.2 (slices_Clone_int_int.calls A1 c1 l1 l1 _ (Kd.C_below HR1.out ((Below.refl _ w).alloc (Nat.le_refl _) (.cells #[.int .i64 para] 3))) HC1.out (by unfold slices_Clone_int_int.f; rw [if_pos HMax.out]))).mono ?_; rintro e w1 ⟨v7, rfl, hR, hb1⟩; obtain ⟨_, A7, c7, rfl⟩ := ints_of_R' hR; have HR7 := Lib.hid hR; have HB1 := Lib.hid hb1; clear hR hb1)
    | (refine ⟨trivial, ?_⟩; gi_at_call 39; refine (br_in Fence.wide (n - 1) trivial hro _ _ _ _).mono ?_; rintro e w' ⟨rfl, rfl⟩))
  obtain ⟨W0, hW0⟩ : ∃ W0, W0 = ((w1.alloc (.cells #[.slice A7 l1.length c7] 25)).alloc (.cells #[.bool true] 4)).alloc (.cells #[.slice A0 l0.length c0] 22) := ⟨_, rfl⟩
  obtain ⟨b7, hb7⟩ : ∃ b7, b7 = w1.heap.size := ⟨_, rfl⟩
  obtain ⟨b8, hb8⟩ : ∃ b8, b8 = w1.heap.size + 1 := ⟨_, rfl⟩
  obtain ⟨bL, hbL⟩ : ∃ bL, bL = w1.heap.size + 1 + 1 := ⟨_, rfl⟩
  have hsz : W0.heap.size = w1.heap.size + 3 := by rw [hW0]; simp
  have hw1 : w.heap.size + 1 ≤ w1.heap.size := by have := HB1.out.size; simpa using this
  obtain ⟨cO, cE, cL⟩ := three_allocs w1 (.cells #[.slice A7 l1.length c7] 25) (.cells #[.bool true] 4) (.cells #[.slice A0 l0.length c0] 22)
  have hB10 : Below w1.heap.size w1 W0 := by rw [hW0]; exact (((Below.refl _ w1).alloc (Nat.le_refl _) _).alloc (by simp) _).alloc (by simp; omega) _
  have hP0 : (w.alloc (.cells #[.int .i64 para] 3)).heap[w.heap.size]? = some (.cells #[.int .i64 para] 3) := heap_alloc_new _ _
  have hS0 : LS w para b7 b8 bL (.slice A7 l1.length c7) (.slice A0 l0.length c0) (true, l1) W0 := by
    refine ⟨?_, ?_, ?_, ?_, ?_, ?_⟩
    · exact (((Below.refl _ w).alloc (Nat.le_refl _) (.cells #[.int .i64 para] 3)).trans (HB1.out.mono (by simp))).trans (hB10.mono (by omega))
    · show W0.heap[w.heap.size]? = _
      rw [hB10.block _ (by omega), HB1.out.block _ (by simp)]
      exact hP0
    · show W0.heap[b7]? = _
      rw [hW0, hb7]
      exact cO
    · show W0.heap[b8]? = _
      rw [hW0, hb8]
      exact cE
    · show W0.heap[bL]? = _
      rw [hW0, hbL]
      exact cL
    · have h := Kd.own_of_R HR7.out
      have h2 := pw_own_below h hB10
      rw [World.size_alloc] at h2
      exact h2
  rw [← hW0, ← hbL, ← hb8, ← hb7]
  clear hW0 cO cE cL hP0
  have hw8 : w.heap.size < b8 := by omega
  have hbLt : bL < W0.heap.size := by omega
  have hcBL : W0.cell? ⟨bL, 0, none⟩ = some (.slice A0 l0.length c0) := hS0.bL.cell
  have hmW : w.heap.size ≤ W0.heap.size := by omega
  have hA : ∀ ad, A0 = some ad → 0 < l0.length → ad.block < w.heap.size := fun ad e hp => by
    obtain ⟨ad2, e2, q, _⟩ := at_T38 HR0.out 0 (by omega) (by omega)
    rw [e] at e2
    injection e2 with e2
    subst e2
    have := World.block_lt_of_cell? w _ q
    have e3 : (ad.add ((0 : Int).toNat * 3)).block = ad.block := by unfold Addr.add; split <;> rfl
    rwa [e3] at this
  clear hb7 hb8 hbL hB10
  refine wpIn_rangeFunc_ownH hro h1 (gf := 86) (lb := #[.pointer (some ⟨bL, 0, none⟩)]) rfl trivial (enters_of Tryz.func86 (by kernel_rfl) rfl)
    (br_stopsP Fence.wide (n - 1) trivial hro (by omega) bL w.heap.size A0 c0 l0 (by rw [HLen.out]; exact HMax.out) W0 hbLt hmW hcBL (Kd.C_below HR0.out hS0.bel) hA) KpB.trans (KpB.put hbLt hmW) (Below.refl _ _) (fun _ => rfl)
    (fun pre W => LS w para b7 b8 bL (.slice A7 l1.length c7) (.slice A0 l0.length c0) ((pre.map (fun x => x.1)).foldl (lnStep para) (true, l1)) W) (fun _ _ _ => False)
    (LS.own hmW _) (fun cd s A B row h => h.elim) hS0
    (fun x a' W => ∃ b10, a' = { tmps := #[.slice A0 l0.length c0, .slice A1 l1.length c1, .int .i64 para, undef, undef, .pointer (some ⟨w.heap.size, 0, none⟩), .slice none 0 0, .pointer (some ⟨b7, 0, none⟩), .pointer (some ⟨b8, 0, none⟩), .int .i64 (x.1.1 : Int), .pointer (some ⟨b10, 0, none⟩), undef, .slice A0 l0.length c0, .int .i64 (l0.length : Int), .slice A1 l1.length c1, .int .i64 (l1.length : Int), .bool false, .slice A1 l1.length c1, .slice A7 l1.length c7, .slice A0 l0.length c0, .func (.func 86) #[] #[.pointer (some ⟨bL, 0, none⟩)], .int .i64 (x.1.1 : Int), rV x.1.2, undef, undef, undef, undef, undef, undef, undef, undef, undef, undef, undef, undef, undef, undef, undef, undef, undef, undef, undef, undef, undef, undef], defers := [] } ∧ W.heap[b10]? = some (.cells #[.int .i64 x.1.2.f0, .int .i64 x.1.2.f1, .int .i64 x.1.2.f2] 38))
    (fun x a' s W W' row h hg hr => by
      obtain ⟨b10, e, hb⟩ := h
      exact ⟨b10, e, blk_grown hb hg (fun e2 => by obtain ⟨_, o, ho, hc⟩ := hr b10 e2.symm; rw [hb] at ho; cases ho; cases hc)⟩) ?assign ?body ?done ?stop
  case assign =>
    rintro l pre ⟨⟨i, rr⟩, hir⟩ W K hI hK
    have HK := Lib.hid hK
    have HI := Lib.hid hI
    clear hK hI
    dsimp only [rV]
    gi_wp2
    have hb : Below W.heap.size W (W.alloc (.cells #[.int .i64 rr.f0, .int .i64 rr.f1, .int .i64 rr.f2] 38)) := (Below.refl _ _).alloc (Nat.le_refl _) _
    exact HK.out _ _ (KeepsOthers.from (KeepsOthers.alloc W _) _) (LS.kp HI.out (HI.out.below hb) hb.size) (HI.out.below hb) ⟨_, rfl, heap_alloc_new _ _⟩
  case body =>
    rintro l pre ⟨⟨i, rr⟩, hir⟩ a' W hlB hrec hI ⟨b10, rfl, hbx⟩ hlen'
    dsimp only at hir
    obtain ⟨st, hst⟩ : ∃ st, st = (pre.map (fun x => x.1)).foldl (lnStep para) (true, l1) := ⟨_, rfl⟩
    have hXl : st.2.length = l1.length := by rw [hst, lnStep_length]
    have hp : List.foldl (lnStep para) (true, l1) (List.map (fun x => x.1) (pre ++ [(⟨(i, rr), hir⟩ : { x : Nat × S38 // x.1 < l0.length })])) = lnStep para st (i, rr) := by rw [hst, List.map_append, List.foldl_append]; rfl
    rw [← hst] at hI
    have HS := Lib.hid hI
    have Hp := Lib.hid hp
    obtain ⟨c, hc⟩ : ∃ c, c = clsR rr := ⟨_, rfl⟩
    have Hc : Hid (class_Of.f rr.f2 = some c) := Lib.hid (by rw [hc]; exact clsR_some rr)
    have Hcr := Lib.hid hc
    obtain ⟨e, X⟩ := st
    dsimp only at hXl
    have hi' : (i : Int) < (l1.length : Int) := by have := HLen.out; omega
    obtain ⟨g7, rfl⟩ : ∃ g, A7 = some ⟨g, 0, none⟩ := by
      rcases HS.out.row.2 with ⟨hv, h0⟩ | ⟨g, cap, cur, hv, _⟩
      · have : X.length = 0 := h0
        have := HLen.out
        omega
      · injection hv with e1 e2 e3
        exact ⟨g, e1⟩
    have HX := Lib.hid hXl
    have Hcell : Hid ((nums .i64 X)[i]? = some (.int .i64 (X.getD i 0))) := Lib.hid (by have := HLen.out; have hx : i < X.length := (by omega); simp [nums, List.getD_eq_getElem?_getD, List.getElem?_eq_getElem hx])
    have hb2x : W.cell? ⟨b10, 2, none⟩ = some (.int .i64 rr.f2) := by rw [blk_cell hbx]; rfl
    clear hst hp hI hc hXl hbx hlB hrec hlen'
    simp only [rV]
    by_cases h11 : c = 11
    · have q11 : (c == 11) = true := by simp [h11]
      have Hpk : Hid (List.foldl (lnStep para) (true, l1) (List.map (fun x => x.1) (pre ++ [(⟨(i, rr), hir⟩ : { x : Nat × S38 // x.1 < l0.length })])) = (true, X.set i para)) := Lib.hid (by rw [Hp.out]; unfold lnStep lnE; dsimp only; rw [← Hcr.out, q11]; rfl)
      clear h11
      gi_wp2_with (first | (rename_i hq1 _; exact absurd hq1 (by unfold undef; simp)) | (refine ⟨trivial, fun _ => by omega, ?_⟩; gi_at_call 24; refine (CallsIn.inRound l (callsIn_wide.2 (class_Of.calls rr.f2 c _ Hc.out))).mono ?_; rintro e2 W2 ⟨rfl, hb2⟩; have F2 := HS.out.below hb2; have c8 := F2.bE.cell; have f8 := F2.bE.frozen; have F3 := F2.setE hw8 true; have s1 := F3.bE.cell; have s2 := F3.bO.cell; have s3 := F3.bP.cell; have s4 := F3.row.cells (g := g7) rfl i _ Hcell.out; rw [add_plain] at s4; have s5 := own_frozen F3.row i; have HF3 := Lib.hid F3; clear F3; have HF2 := Lib.hid F2; have HB2 := Lib.hid (keeps_below hb2); clear hb2 F2) | (refine ⟨(trivial : Fence.wide.fn 40), ?_⟩))
      have F5 := HF3.out.setO i para
      refine ⟨KeepsOthers.from (((HB2.out).trans (KeepsOthers.setCell _ _ _)).trans (KeepsOthers.setCell _ _ _)) _, LS.kp HS.out F5 (((HB2.out).trans (KeepsOthers.setCell _ _ _)).trans (KeepsOthers.setCell _ _ _)).size, ?_⟩
      show LS w para b7 b8 bL _ _ (List.foldl (lnStep para) (true, l1) (List.map _ (pre ++ [_]))) _
      rw [Hpk.out]
      exact F5
    · have q11 : (c == 11) = false := by simpa using h11
      by_cases h10 : c = 10
      · have q10 : (c == 10) = true := by simp [h10]
        have Hpk : Hid (List.foldl (lnStep para) (true, l1) (List.map (fun x => x.1) (pre ++ [(⟨(i, rr), hir⟩ : { x : Nat × S38 // x.1 < l0.length })])) = (true, X.set i para)) := Lib.hid (by rw [Hp.out]; unfold lnStep lnE; dsimp only; rw [← Hcr.out, q11, q10]; rfl)
        clear h11 h10
        gi_wp2_with (first | (rename_i hq1 _; exact absurd hq1 (by unfold undef; simp)) | (refine ⟨trivial, fun _ => by omega, ?_⟩; gi_at_call 24; refine (CallsIn.inRound l (callsIn_wide.2 (class_Of.calls rr.f2 c _ Hc.out))).mono ?_; rintro e2 W2 ⟨rfl, hb2⟩; have F2 := HS.out.below hb2; have c8 := F2.bE.cell; have f8 := F2.bE.frozen; have F3 := F2.setE hw8 true; have s1 := F3.bE.cell; have s2 := F3.bO.cell; have s3 := F3.bP.cell; have s4 := F3.row.cells (g := g7) rfl i _ Hcell.out; rw [add_plain] at s4; have s5 := own_frozen F3.row i; have HF3 := Lib.hid F3; clear F3; have HF2 := Lib.hid F2; have HB2 := Lib.hid (keeps_below hb2); clear hb2 F2) | (refine ⟨(trivial : Fence.wide.fn 40), ?_⟩))
        have F5 := HF3.out.setO i para
        refine ⟨KeepsOthers.from (((HB2.out).trans (KeepsOthers.setCell _ _ _)).trans (KeepsOthers.setCell _ _ _)) _, LS.kp HS.out F5 (((HB2.out).trans (KeepsOthers.setCell _ _ _)).trans (KeepsOthers.setCell _ _ _)).size, ?_⟩
        show LS w para b7 b8 bL _ _ (List.foldl (lnStep para) (true, l1) (List.map _ (pre ++ [_]))) _
        rw [Hpk.out]
        exact F5
      · have q10 : (c == 10) = false := by simpa using h10
        cases e with
        | false =>
          have Hpk : Hid (List.foldl (lnStep para) (true, l1) (List.map (fun x => x.1) (pre ++ [(⟨(i, rr), hir⟩ : { x : Nat × S38 // x.1 < l0.length })])) = (false, X)) := Lib.hid (by rw [Hp.out]; unfold lnStep lnE; dsimp only; rw [← Hcr.out, q11, q10]; rfl)
          clear h11 h10
          gi_wp2_with (first | (rename_i hq1 _; exact absurd hq1 (by unfold undef; simp)) | (refine ⟨trivial, fun _ => by omega, ?_⟩; gi_at_call 24; refine (CallsIn.inRound l (callsIn_wide.2 (class_Of.calls rr.f2 c _ Hc.out))).mono ?_; rintro e2 W2 ⟨rfl, hb2⟩; have F2 := HS.out.below hb2; have c8 := F2.bE.cell; have f8 := F2.bE.frozen; have F3 := F2.setE hw8 false; have s1 := F3.bE.cell; have s2 := F3.bO.cell; have s3 := F3.bP.cell; have s4 := F3.row.cells (g := g7) rfl i _ Hcell.out; rw [add_plain] at s4; have s5 := own_frozen F3.row i; have HF3 := Lib.hid F3; clear F3; have HF2 := Lib.hid F2; have HB2 := Lib.hid (keeps_below hb2); clear hb2 F2) | (refine ⟨(trivial : Fence.wide.fn 40), ?_⟩))
          have F5 := HF3.out
          refine ⟨KeepsOthers.from ((HB2.out).trans (KeepsOthers.setCell _ _ _)) _, LS.kp HS.out F5 ((HB2.out).trans (KeepsOthers.setCell _ _ _)).size, ?_⟩
          show LS w para b7 b8 bL _ _ (List.foldl (lnStep para) (true, l1) (List.map _ (pre ++ [_]))) _
          rw [Hpk.out]
          exact F5
        | true =>
          cases hbl : blankB c with
          | true =>
            have Hbl : Hid (bidi_blank.f c = some true) := Lib.hid (by rw [blank_some, hbl])
            have Hpk : Hid (List.foldl (lnStep para) (true, l1) (List.map (fun x => x.1) (pre ++ [(⟨(i, rr), hir⟩ : { x : Nat × S38 // x.1 < l0.length })])) = (true, X.set i para)) := Lib.hid (by rw [Hp.out]; unfold lnStep lnE; dsimp only; rw [← Hcr.out, q11, q10, hbl]; rfl)
            clear h11 h10 hbl
            gi_wp2_with (first | (rename_i hq1 _; exact absurd hq1 (by unfold undef; simp)) | (refine ⟨trivial, fun _ => by omega, ?_⟩; gi_at_call 24; refine (CallsIn.inRound l (callsIn_wide.2 (class_Of.calls rr.f2 c _ Hc.out))).mono ?_; rintro e2 W2 ⟨rfl, hb2⟩; have F2 := HS.out.below hb2; have c8 := F2.bE.cell; have f8 := F2.bE.frozen; have HF2 := Lib.hid F2; have HB2 := Lib.hid (keeps_below hb2); clear hb2 F2) | (refine ⟨trivial, fun _ => by omega, ?_⟩; gi_at_call 40; refine (CallsIn.inRound l (callsIn_wide.2 (bidi_blank.calls c _ _ Hbl.out))).mono ?_; rintro e2 W3 ⟨rfl, hd3⟩; have hb3 := hd3.below; have F2 := HF2.out.below hb3; have c8 := F2.bE.cell; have f8 := F2.bE.frozen; have F3 := F2.setE hw8 true; have s1 := F3.bE.cell; have s2 := F3.bO.cell; have s3 := F3.bP.cell; have s4 := F3.row.cells (g := g7) rfl i _ Hcell.out; rw [add_plain] at s4; have s5 := own_frozen F3.row i; have HF3 := Lib.hid F3; clear F3; have HB3 := Lib.hid (keeps_below hb3); clear hb3 hd3 F2) | (refine ⟨(trivial : Fence.wide.fn 40), ?_⟩))
            have F5 := HF3.out.setO i para
            refine ⟨KeepsOthers.from (((HB2.out.trans HB3.out).trans (KeepsOthers.setCell _ _ _)).trans (KeepsOthers.setCell _ _ _)) _, LS.kp HS.out F5 (((HB2.out.trans HB3.out).trans (KeepsOthers.setCell _ _ _)).trans (KeepsOthers.setCell _ _ _)).size, ?_⟩
            show LS w para b7 b8 bL _ _ (List.foldl (lnStep para) (true, l1) (List.map _ (pre ++ [_]))) _
            rw [Hpk.out]
            exact F5
          | false =>
            have Hbl : Hid (bidi_blank.f c = some false) := Lib.hid (by rw [blank_some, hbl])
            have Hpk : Hid (List.foldl (lnStep para) (true, l1) (List.map (fun x => x.1) (pre ++ [(⟨(i, rr), hir⟩ : { x : Nat × S38 // x.1 < l0.length })])) = (false, X)) := Lib.hid (by rw [Hp.out]; unfold lnStep lnE; dsimp only; rw [← Hcr.out, q11, q10, hbl]; rfl)
            clear h11 h10 hbl
            gi_wp2_with (first | (rename_i hq1 _; exact absurd hq1 (by unfold undef; simp)) | (refine ⟨trivial, fun _ => by omega, ?_⟩; gi_at_call 24; refine (CallsIn.inRound l (callsIn_wide.2 (class_Of.calls rr.f2 c _ Hc.out))).mono ?_; rintro e2 W2 ⟨rfl, hb2⟩; have F2 := HS.out.below hb2; have c8 := F2.bE.cell; have f8 := F2.bE.frozen; have HF2 := Lib.hid F2; have HB2 := Lib.hid (keeps_below hb2); clear hb2 F2) | (refine ⟨trivial, fun _ => by omega, ?_⟩; gi_at_call 40; refine (CallsIn.inRound l (callsIn_wide.2 (bidi_blank.calls c _ _ Hbl.out))).mono ?_; rintro e2 W3 ⟨rfl, hd3⟩; have hb3 := hd3.below; have F2 := HF2.out.below hb3; have c8 := F2.bE.cell; have f8 := F2.bE.frozen; have F3 := F2.setE hw8 false; have s1 := F3.bE.cell; have s2 := F3.bO.cell; have s3 := F3.bP.cell; have s4 := F3.row.cells (g := g7) rfl i _ Hcell.out; rw [add_plain] at s4; have s5 := own_frozen F3.row i; have HF3 := Lib.hid F3; clear F3; have HB3 := Lib.hid (keeps_below hb3); clear hb3 hd3 F2) | (refine ⟨(trivial : Fence.wide.fn 40), ?_⟩))
            have F5 := HF3.out
            refine ⟨KeepsOthers.from ((HB2.out.trans HB3.out).trans (KeepsOthers.setCell _ _ _)) _, LS.kp HS.out F5 ((HB2.out.trans HB3.out).trans (KeepsOthers.setCell _ _ _)).size, ?_⟩
            show LS w para b7 b8 bL _ _ (List.foldl (lnStep para) (true, l1) (List.map _ (pre ++ [_]))) _
            rw [Hpk.out]
            exact F5
  case done =>
    rintro D ys W hD hS hI hK
    have hI2 : LS w para b7 b8 bL (.slice A7 l1.length c7) (.slice A0 l0.length c0) ((ys.map (fun x => x.1)).foldl (lnStep para) (true, l1)) (W.putObj D (.deferred none)) := LS.own hmW (fun (_ : Unit) => (ys.map (fun x => x.1)).foldl (lnStep para) (true, l1)) () W _ (some D) hI (grownBy_putObj' W D (.deferred none)) (fun r e => by cases e; exact ⟨hD, _, hK, rfl⟩)
    rw [hS] at hI hI2
    have q1 := hI.bO.cell
    have HK := Lib.hid hK
    have HI2 := Lib.hid hI2
    clear hI hI2 hS hK
    gi_wp2
    refine ⟨by simp, .inl ⟨_, _, rfl, run_takeDeferred HK.out, ?_⟩⟩
    exact ⟨_, results_tmp Tryz.results15 _ _ _, _, rfl, Kd.R_lower (Kd.R_of_own HI2.out.row (fun _ _ => trivial)) (Nat.le_succ _), HI2.out.bel⟩
  case stop =>
    rintro D cd pre W hD hS h hK
    exact h.elim
set_option maxRecDepth 100000 in
set_option maxHeartbeats 2000000 in
theorem bidi_Line.calls (A0 : Option Addr) (c0 : Nat) (l0 : List S38) (A1 : Option Addr) (c1 : Nat) (l1 : List Int) (para : Int) (r : List Int) (w : World) (hr0 : Kd.C k38 w A0 l0.length l0) (hc0 : l0.length ≤ c0) (hr1 : Kd.C (Kd.int .i64) w A1 l1.length l1) (hc1 : l1.length ≤ c1) (h : bidi_Line.f l0 l1 para = some r) :
    Calls Tryz.prog 15 #[.slice A0 l0.length c0, .slice A1 l1.length c1, .int .i64 para] w fun e w' => ∃ v0_ : Value, e = .returned (v0_) ∧ Kd.R (Kd.int .i64) 3 w' w.heap.size (fun _ => True) v0_ r ∧ Below w.heap.size w w' := by
  unfold bidi_Line.f at h
  split at h
  · rename_i hne
    obtain rfl := Option.some.inj h
    have hl' : ((l0.length : Int) != (l1.length : Int)) = true := by simp; omega
    clear hne h
    go_enter Tryz.func15, Tryz.ntmps15
    go_wp2
    go_ret
    exact ⟨_, rfl, Kd.R_nil _ _ _ _ _, (Below.refl _ w).alloc (Nat.le_refl _) _⟩
  · rename_i heq
    split at h
    · rename_i hm
      obtain rfl := Option.some.inj h
      exact callsIn_wide.1 (line_in 5 (by omega) A0 c0 l0 A1 c1 l1 para w hr0 hr1 hc1 (by omega) hm)
    · cases h
end
end Go.Proofs.YtdpifkhkemeclaaGreat
