/- seqs: way, beside, behind, goes, of any runs. seqs.goes, of any runs. seqs.Sequences: the state of its walk, and its regions that draw. seqs.Sequences, in plain words; what holds of its runs. seqs.Sequences, of any classes. -/
import Derived.Test.YtdpifkhkemeclaaGreatYa
import Derived.Test.YtdpifkhkemeclaaGreatYb
import Derived.Deep.QuietTactic
import Derived.BigQuiet
import Derived.Maps.OwnSet
set_option linter.unusedVariables false
set_option linter.unusedSimpArgs false
namespace Go.Proofs.YtdpifkhkemeclaaGreat
open Go.RowKit Go.Shelf Go.Proofs.YtdpifkhkemeclaaGreatW.PrintWords
def wayW (a b : Int) : Int := if (Go.bits .and .i64 (max a b) 1 == 1) = true then 1 else 0
theorem way_all (a b : Int) (ha : -10 ≤ a ∧ a ≤ 1000) (hb : -10 ≤ b ∧ b ≤ 1000) (w : World) : Calls Tryz.prog 60 #[.int .i64 a, .int .i64 b] w fun e w' => e = .returned (.int .i64 (wayW a b)) ∧ w' = w := by
  cases hc : (Go.bits .and .i64 (max a b) 1 == 1) with
  | true =>
    go_enter Tryz.func60, Tryz.ntmps60
    go_wp2
    go_ret
    exact ⟨by unfold wayW; rw [if_pos hc]; rfl, rfl⟩
  | false =>
    go_enter Tryz.func60, Tryz.ntmps60
    go_wp2
    go_ret
    exact ⟨by unfold wayW; rw [hc, if_neg (by decide)]; rfl, rfl⟩
theorem runC_get {W : World} {A : Option Addr} {rs : List RunR} (h : dRun.C W A rs.length rs) (k : Nat) (hk : k < rs.length) :
    ∃ ad A1 c1, A = some ad ∧ (rs.getD k default).at_.length ≤ c1 ∧ (Kd.int .i64).C W A1 (rs.getD k default).at_.length (rs.getD k default).at_ ∧
      ∀ j u, [Value.int .i64 (rs.getD k default).lv, .int .i64 (rs.getD k default).fr, .int .i64 (rs.getD k default).en, .slice A1 (rs.getD k default).at_.length c1][j]? = some u → W.cell? (ad.add (k * 4 + j)) = some u := by
  obtain ⟨ad, c, e, hcl, hK, hc⟩ := ReadsRow.get_ h default (k : Int) (by omega) (by omega)
  rw [Int.toNat_natCast] at hK hc
  obtain ⟨c0, d0, rfl, rfl, c2, d2, rfl, rfl, c4, d4, rfl, rfl, A1, c1, rfl, h1, h2⟩ := hK
  exact ⟨ad, A1, c1, e, h1, h2, fun j u hj => hc j u hj⟩
def besideW (rs : List RunR) (at_ no : Int) : Int := if at_ < 0 ∨ (rs.length : Int) ≤ at_ then no else (rs.getD at_.toNat default).lv
set_option maxRecDepth 100000 in
theorem beside_all (A : Option Addr) (c : Nat) (rs : List RunR) (at_ no : Int) (w : World) (hl : rs.length ≤ 1048576) (h : dRun.C w A rs.length rs) : Calls Tryz.prog 61 #[.slice A rs.length c, .int .i64 at_, .int .i64 no] w fun e w' => e = .returned (.int .i64 (besideW rs at_ no)) ∧ w' = w := by
  by_cases h0 : at_ < 0
  · have b0 : decide (at_ < 0) = true := by simpa using h0
    go_enter Tryz.func61, Tryz.ntmps61
    go_wp2
    go_ret
    exact ⟨by unfold besideW; rw [if_pos (.inl h0)]; rfl, rfl⟩
  · have b0 : decide (at_ < 0) = false := by simpa using h0
    by_cases h1 : (rs.length : Int) ≤ at_
    · have b1 : decide (at_ ≥ (rs.length : Int)) = true := by simpa using h1
      go_enter Tryz.func61, Tryz.ntmps61
      go_wp2
      go_ret
      exact ⟨by unfold besideW; rw [if_pos (.inr h1)]; rfl, rfl⟩
    · have b1 : decide (at_ ≥ (rs.length : Int)) = false := by simpa using h1
      obtain ⟨k, rfl⟩ : ∃ k : Nat, at_ = k := ⟨at_.toNat, by omega⟩
      have hk : k < rs.length := by omega
      obtain ⟨ad, A1, c1, rfl, _, _, hc⟩ := runC_get h k hk
      have q0 := hc 0 _ rfl
      have hk' : (k : Int) < (rs.length : Int) := by omega
      rw [Nat.add_zero] at q0
      have Hc := Lib.hid hc
      have H01 := Lib.hid (And.intro h0 h1)
      clear hc h0 h1 h
      obtain ⟨r, hr⟩ : ∃ r, r = (rs.getD k default).lv := ⟨_, rfl⟩
      rw [← hr] at q0
      have Hr := Lib.hid hr
      clear hr Hc
      go_enter Tryz.func61, Tryz.ntmps61
      go_wp2
      go_ret
      exact ⟨by unfold besideW; rw [if_neg (by have := H01.out; omega), Int.toNat_natCast, ← Hr.out]; rfl, rfl⟩
theorem runC_at {W : World} {g o : Nat} {rs : List RunR} (h : dRun.C W (some ⟨g, o, none⟩) rs.length rs) (k : Nat) (hk : k < rs.length) :
    ∃ A1 c1, (rs.getD k default).at_.length ≤ c1 ∧ (Kd.int .i64).C W A1 (rs.getD k default).at_.length (rs.getD k default).at_ ∧
      W.cell? ⟨g, o + k * 4, none⟩ = some (.int .i64 (rs.getD k default).lv) ∧ W.cell? ⟨g, o + k * 4 + 1, none⟩ = some (.int .i64 (rs.getD k default).fr) ∧ W.cell? ⟨g, o + k * 4 + 2, none⟩ = some (.int .i64 (rs.getD k default).en) ∧ W.cell? ⟨g, o + k * 4 + 3, none⟩ = some (.slice A1 (rs.getD k default).at_.length c1) := by
  obtain ⟨ad, A1, c1, e, h1, h2, hc⟩ := runC_get h k hk
  injection e with e
  subst e
  have q : ∀ j, ((⟨g, o, none⟩ : Addr).add (k * 4 + j)) = ⟨g, o + k * 4 + j, none⟩ := fun j => by simp [Addr.add, Nat.add_assoc]
  exact ⟨A1, c1, h1, h2, (q 0) ▸ hc 0 _ rfl, (q 1) ▸ hc 1 _ rfl, (q 2) ▸ hc 2 _ rfl, (q 3) ▸ hc 3 _ rfl⟩
def behindW (rs : List RunR) (at_ : Nat) (para : Int) (n : Nat) (M : List Int) : Int := if rd M (rs.getD at_ default).en = (n : Int) then para else besideW rs ((at_ : Int) + 1) para
set_option maxRecDepth 100000 in
set_option maxHeartbeats 2000000 in
theorem behind_all' (g c : Nat) (rs : List RunR) (k : Nat) (para : Int) (A0 : Option Addr) (m c0 : Nat) (AM : Option Addr) (cM : Nat) (M : List Int) (w : World) (hl : rs.length ≤ 1048576) (h : dRun.C w (some ⟨g, 0, none⟩) rs.length rs) (hk : k < rs.length) (hm : M.length = m)
    (hM : (Kd.int .i64).C w AM M.length M) (he0 : 0 ≤ (rs.getD k default).en) (he1 : (rs.getD k default).en < m) :
    Calls Tryz.prog 63 #[.slice (some ⟨g, 0, none⟩) rs.length c, .int .i64 k, .int .i64 para, .slice A0 m c0, .slice AM M.length cM] w fun e w' => e = .returned (.int .i64 (behindW rs k para m M)) ∧ w' = w := by
  have hB := beside_all (some ⟨g, 0, none⟩) c rs ((k : Int) + 1) para w hl h
  have q2 : w.cell? ⟨g, k * 4 + 2, none⟩ = some (.int .i64 (rs.getD k default).en) := by obtain ⟨_, _, _, _, _, _, q, _⟩ := runC_at h k hk; rw [Nat.zero_add] at q; exact q
  obtain ⟨en, hen⟩ : ∃ en : Nat, (en : Int) = (rs.getD k default).en := ⟨(rs.getD k default).en.toNat, by omega⟩
  rw [← hen] at q2 he0 he1
  obtain ⟨adM, rfl, qM⟩ := Kd.at_int hM (en : Int) he0 (by omega)
  rw [Int.toNat_natCast] at qM
  have hk' : (k : Int) < (rs.length : Int) := by omega
  have hkb : (k : Int) < 1048576 := by omega
  have he2 : (en : Int) < (M.length : Int) := by omega
  have he3 : en < M.length := by omega
  have HB := Lib.hid hB
  have Hen := Lib.hid hen
  have Hm := Lib.hid hm
  obtain ⟨x, hx⟩ : ∃ x, x = rd M (en : Int) := ⟨_, rfl⟩
  rw [← hx] at qM
  have Hx := Lib.hid hx
  clear hB hen h hM hl hk hm hx
  by_cases hxm : x = (m : Int)
  · have b1 : (x == (m : Int)) = true := by simpa using hxm
    have HX := Lib.hid hxm
    clear hxm
    go_enter Tryz.func63, Tryz.ntmps63
    go_wp2
    go_ret
    exact ⟨by unfold behindW; rw [← Hen.out, ← Hx.out, if_pos HX.out]; rfl, rfl⟩
  · have b1 : (x == (m : Int)) = false := by simpa using hxm
    have HX := Lib.hid hxm
    clear hxm
    go_enter Tryz.func63, Tryz.ntmps63
    go_wp2_with (go_at_call 61; refine (HB.out).mono ?_; rintro e w' ⟨rfl, hw⟩; obtain rfl := hw.symm; clear hw)
    go_ret
    exact ⟨by unfold behindW; rw [← Hen.out, ← Hx.out, if_neg HX.out]; rfl, rfl⟩
theorem behind_all (g c : Nat) (rs : List RunR) (k : Nat) (para : Int) (A0 : Option Addr) (m c0 : Nat) (AM : Option Addr) (cM : Nat) (M : List Int) (w : World) (hl : rs.length ≤ 1048576) (h : dRun.C w (some ⟨g, 0, none⟩) rs.length rs) (hk : k < rs.length) (hm : M.length = m)
    (hM : (Kd.int .i64).C w AM M.length M) (he0 : 0 ≤ (rs.getD k default).en) (he1 : (rs.getD k default).en < m) :
    Calls Tryz.prog 63 #[.slice (some ⟨g, 0, none⟩) rs.length c, .int .i64 k, .int .i64 para, .slice A0 m c0, .slice AM m cM] w fun e w' => e = .returned (.int .i64 (behindW rs k para m M)) ∧ w' = w := by
  subst hm
  exact behind_all' g c rs k para A0 M.length c0 AM cM M w hl h hk rfl hM he0 he1
def runV (r : RunR) (v : Value) : Value := .agg #[.int .i64 r.lv, .int .i64 r.fr, .int .i64 r.en, v]
set_option maxRecDepth 100000 in
set_option maxHeartbeats 2000000 in
theorem goes1_all (lv fr en : Int) (v : Value) (p7 p10 : Nat) (AM : Option Addr) (cM : Nat) (M : List Int) (e : Nat) (W : World) (h7 : W.cell? ⟨p7, 0, none⟩ = some (.slice AM M.length cM)) (h10 : W.cell? ⟨p10, 0, none⟩ = some (.int .i64 (e : Int)))
    (hM : (Kd.int .i64).C W AM M.length M) (he1 : e < M.length) :
    Calls Tryz.prog 99 #[.agg #[.int .i64 lv, .int .i64 fr, .int .i64 en, v], .pointer (some ⟨p7, 0, none⟩), .pointer (some ⟨p10, 0, none⟩)] W fun x W' => x = .returned (.bool (fr == rd M e)) ∧ Below W.heap.size W W' := by
  obtain ⟨adM, rfl, qM⟩ := Kd.at_int hM (e : Int) (by omega) (by omega)
  rw [Int.toNat_natCast] at qM
  have he2 : (e : Int) < (M.length : Int) := by omega
  obtain ⟨x, hx⟩ : ∃ x, x = rd M (e : Int) := ⟨_, rfl⟩
  rw [← hx] at qM
  have Hx := Lib.hid hx
  have b7 := World.block_lt_of_cell? W _ h7
  have b10 := World.block_lt_of_cell? W _ h10
  have bM := World.block_lt_of_cell? W _ qM
  clear hx hM
  go_enter Tryz.func99, Tryz.ntmps99
  go_wp2
  go_quiet (fail)
  go_wp2
  go_ret
  exact ⟨by rw [← Hx.out]; rfl, pw_below_drewN ((Below.refl _ W).alloc (Nat.le_refl _) _) nq⟩
structure GoK (p7 p10 : Nat) (AM : Option Addr) (cM : Nat) (M : List Int) (e : Nat) (W : World) : Prop where
  h7 : W.cell? ⟨p7, 0, none⟩ = some (.slice AM M.length cM)
  h10 : W.cell? ⟨p10, 0, none⟩ = some (.int .i64 (e : Int))
  hM : (Kd.int .i64).C W AM M.length M
theorem GoK.below {p7 p10 : Nat} {AM : Option Addr} {cM : Nat} {M : List Int} {e : Nat} {W W' : World} (h : GoK p7 p10 AM cM M e W) (hb : Below W.heap.size W W') : GoK p7 p10 AM cM M e W' :=
  ⟨by rw [hb.cell (p := ⟨p7, 0, none⟩) (World.block_lt_of_cell? W _ h.h7)]; exact h.h7, by rw [hb.cell (p := ⟨p10, 0, none⟩) (World.block_lt_of_cell? W _ h.h10)]; exact h.h10, Kd.C_below h.hM hb⟩
set_option maxRecDepth 100000 in
set_option maxHeartbeats 2000000 in
theorem idx_all (g o c : Nat) (rs : List RunR) (p7 p10 : Nat) (AM : Option Addr) (cM : Nat) (M : List Int) (e : Nat) (W : World) (hl : rs.length ≤ 1048576) (hr : dRun.C W (some ⟨g, o, none⟩) rs.length rs) (hK : GoK p7 p10 AM cM M e W) (he1 : e < M.length) :
    Calls Tryz.prog 135 #[.slice (some ⟨g, o, none⟩) rs.length c, .func (.func 99) #[] #[.pointer (some ⟨p7, 0, none⟩), .pointer (some ⟨p10, 0, none⟩)]] W fun x W' => (∃ z : Int, x = .returned (.int .i64 z) ∧ decide (z ≥ 0) = rs.any (fun r => r.fr == rd M (e : Int))) ∧ Below W.heap.size W W' := by
  have HR := Lib.hid hr
  have HK := Lib.hid hK
  have He := Lib.hid he1
  have Hl := Lib.hid hl
  clear hr hK he1 hl
  go_enter Tryz.func135, Tryz.ntmps135
  go_wp2
  go_loopg [8] (rs.length + 1) (fun gk v8 wr => ∃ i : Nat, i ≤ rs.length ∧ gk = rs.length + 1 - i ∧ v8 = .int .i64 i ∧ Hid (∀ j, j < i → (rs.getD j default).fr ≠ rd M (e : Int)) ∧ Hid (Below W.heap.size W wr))
  case atStart => exact ⟨0, Nat.zero_le _, rfl, rfl, Lib.hid (fun j hj => absurd hj (Nat.not_lt_zero j)), Lib.hid (Below.refl _ _)⟩
  case round =>
    obtain ⟨i, hi, hgk, rfl, HN, HB⟩ := hrel
    have Hg := Lib.hid hgk
    clear hgk
    by_cases hlt : i < rs.length
    · have hlt' : (i : Int) < (rs.length : Int) := by omega
      have hib : (i : Int) < 1048576 := by have := Hl.out; omega
      obtain ⟨A1, c1, _, _, q0, q1, q2, q3⟩ := runC_at (Kd.C_below HR.out HB.out) i hlt
      obtain ⟨lv, hlv⟩ : ∃ x, x = (rs.getD i default).lv := ⟨_, rfl⟩
      obtain ⟨fr, hfr⟩ : ∃ x, x = (rs.getD i default).fr := ⟨_, rfl⟩
      obtain ⟨en, hen⟩ : ∃ x, x = (rs.getD i default).en := ⟨_, rfl⟩
      obtain ⟨ln, hln⟩ : ∃ x, x = (rs.getD i default).at_.length := ⟨_, rfl⟩
      rw [← hlv] at q0
      rw [← hfr] at q1
      rw [← hen] at q2
      rw [← hln] at q3
      have Hfr := Lib.hid hfr
      have Hlt := Lib.hid hlt
      have hcall := goes1_all lv fr en (.slice A1 ln c1) p7 p10 AM cM M e wr ((HK.out.below HB.out).h7) ((HK.out.below HB.out).h10) ((HK.out.below HB.out).hM) He.out
      have HC := Lib.hid hcall
      clear hlv hfr hen hln hcall hlt
      by_cases hf : fr = rd M (e : Int)
      · have hfb : (fr == rd M (e : Int)) = true := by simpa using hf
        have HC' : Hid (Calls Tryz.prog 99 #[.agg #[.int .i64 lv, .int .i64 fr, .int .i64 en, .slice A1 ln c1], .pointer (some ⟨p7, 0, none⟩), .pointer (some ⟨p10, 0, none⟩)] wr fun x W' => x = .returned (.bool true) ∧ Below wr.heap.size wr W') := Lib.hid (by have := HC.out; rw [hfb] at this; exact this)
        have Hf := Lib.hid hf
        clear hf hfb HC
        go_wp2_with (go_at_call 99; refine (HC'.out).mono ?_; rintro x w2 ⟨rfl, hb2⟩; have HB2 := Lib.hid (HB.out.trans (hb2.mono HB.out.size)); clear hb2)
        go_ret
        refine ⟨⟨(i : Int), rfl, ?_⟩, HB2.out⟩
        rw [decide_eq_true (by omega)]
        refine (List.any_eq_true.2 ⟨rs.getD i default, ?_, ?_⟩).symm
        · rw [List.getD_eq_getElem?_getD, List.getElem?_eq_getElem Hlt.out]; exact List.getElem_mem _
        · rw [← Hfr.out]; simpa using Hf.out
      · have hfb : (fr == rd M (e : Int)) = false := by simpa using hf
        have HC' : Hid (Calls Tryz.prog 99 #[.agg #[.int .i64 lv, .int .i64 fr, .int .i64 en, .slice A1 ln c1], .pointer (some ⟨p7, 0, none⟩), .pointer (some ⟨p10, 0, none⟩)] wr fun x W' => x = .returned (.bool false) ∧ Below wr.heap.size wr W') := Lib.hid (by have := HC.out; rw [hfb] at this; exact this)
        have Hf := Lib.hid hf
        clear hf hfb HC
        go_wp2_with (go_at_call 99; refine (HC'.out).mono ?_; rintro x w2 ⟨rfl, hb2⟩; have HB2 := Lib.hid (HB.out.trans (hb2.mono HB.out.size)); clear hb2)
        go_roundg (rs.length + 1 - (i + 1))
        case measure => have := Hg.out; have := Hlt.out; omega
        case rel =>
          refine ⟨i + 1, by have := Hlt.out; omega, rfl, by go_num, Lib.hid (fun j hj => ?_), HB2⟩
          rcases Nat.lt_succ_iff_lt_or_eq.1 hj with h | rfl
          · exact HN.out j h
          · rw [← Hfr.out]; exact Hf.out
    · have hlt' : ¬ (i : Int) < (rs.length : Int) := by omega
      have hil : i = rs.length := by omega
      subst hil
      go_wp2
      go_ret
      refine ⟨⟨-1, rfl, ?_⟩, HB.out⟩
      rw [decide_eq_false (by omega)]
      refine (List.any_eq_false.2 (fun r hr => ?_)).symm
      obtain ⟨j, hj, rfl⟩ := List.mem_iff_getElem.1 hr
      have := HN.out j hj
      rw [List.getD_eq_getElem?_getD, List.getElem?_eq_getElem hj] at this
      simpa using this
theorem idx_none (A : Option Addr) (c : Nat) (fv : Value) (W : World) :
    Calls Tryz.prog 135 #[.slice A 0 c, fv] W fun x W' => x = .returned (.int .i64 (-1)) ∧ W' = W := by
  go_enter Tryz.func135, Tryz.ntmps135
  go_wp2
  refine wp_loop_rounds 1 ?_
  rw [rounds_succ]
  go_wp2
  go_ret
  exact ⟨rfl, rfl⟩
set_option maxRecDepth 100000 in
theorem has_all (g o c : Nat) (rs : List RunR) (p7 p10 : Nat) (AM : Option Addr) (cM : Nat) (M : List Int) (e : Nat) (W : World) (hl : rs.length ≤ 1048576) (hr : dRun.C W (some ⟨g, o, none⟩) rs.length rs) (hK : GoK p7 p10 AM cM M e W) (he1 : e < M.length) :
    Calls Tryz.prog 98 #[.slice (some ⟨g, o, none⟩) rs.length c, .func (.func 99) #[] #[.pointer (some ⟨p7, 0, none⟩), .pointer (some ⟨p10, 0, none⟩)]] W fun x W' => x = .returned (.bool (rs.any (fun r => r.fr == rd M (e : Int)))) ∧ Below W.heap.size W W' := by
  have HC := Lib.hid (idx_all g o c rs p7 p10 AM cM M e W hl hr hK he1)
  clear hl hr hK he1
  go_enter Tryz.func98, Tryz.ntmps98
  go_wp2_with (go_at_call 135; refine (HC.out).mono ?_; rintro x w2 ⟨⟨z, rfl, hz⟩, hb2⟩; have HZ := Lib.hid hz; have HB2 := Lib.hid hb2; clear hz hb2)
  go_ret
  exact ⟨by rw [← HZ.out]; rfl, HB2.out⟩
theorem has_none (A : Option Addr) (c : Nat) (fv : Value) (W : World) :
    Calls Tryz.prog 98 #[.slice A 0 c, fv] W fun x W' => x = .returned (.bool false) ∧ W' = W := by
  go_enter Tryz.func98, Tryz.ntmps98
  go_wp2_with (go_at_call 135; refine (idx_none _ _ _ _).mono ?_; rintro x w2 ⟨rfl, hw⟩; obtain rfl := hw.symm; clear hw)
  go_ret
  exact ⟨rfl, rfl⟩
end Go.Proofs.YtdpifkhkemeclaaGreat
namespace Go.Proofs.YtdpifkhkemeclaaGreat
open Go.RowKit Go.Shelf Go.Proofs.YtdpifkhkemeclaaGreatW.PrintWords Go.Proofs.YtdpifkhkemeclaaGreatW.PrintLast
theorem region_plainG {P : Program} {ops : Array Oper} {Q : Exit → Act → World → Prop} {S : World → Prop} {ds : List Nat} {id m : Nat} {a : Act} {w : World} (l : Array Bool) (hm : P.follows .mixedOrders = true) (hn : ops.size = m) (hl : Array.replicate m false = l) (hS : S w.drew) (K : Act → World → Prop)
    (h : S w.drew → wpAnyLast P .any ops (fun e a w => e = .normal ∧ K a w) S ds m l a w.drew) (hK : ∀ a w, K a w → Q .normal a w) : (Code.region id ops true).wp P Q a w := by
  subst hn
  subst hl
  exact wp_mono (wp_region_last hm (h hS)) (fun e a w h => by obtain ⟨rfl, h⟩ := h; exact hK a w h)
set_option maxRecDepth 100000 in
set_option maxHeartbeats 4000000 in
theorem reg62 {W : World} {g n c i p7 p10 mM cM e m' c' : Nat} {adM : Addr} {A' : Option Addr} {x : Int} {b : Bool} (hin : i < n) (hi1 : (i : Int) + 1 < 1048578) (he : e < mM) (he' : (e : Int) < (mM : Int)) (hc0 : W.cell? ⟨p7, 0, none⟩ = some (.slice (some adM) mM cM)) (hc1 : W.cell? ⟨p10, 0, none⟩ = some (.int .i64 (e : Int))) (hc2 : W.cell? (adM.add e) = some (.int .i64 x))
    (hcut : ∀ W' : World, (Instr.slice 81 (.slice (some ⟨g, 0, none⟩) n c) (some (.int .i64 ((i : Int) + 1))) none none).run Tryz.prog W' = .ok (.slice A' m' c') W')
    (HX : Hid (∀ W' : World, Below W.heap.size W W' → Calls Tryz.prog 98 #[.slice A' m' c', .func (.func 99) #[] #[.pointer (some ⟨p7, 0, none⟩), .pointer (some ⟨p10, 0, none⟩)]] W' fun y W'' => y = .returned (.bool b) ∧ Below W'.heap.size W' W'')) (t2 t3 t4 t5 t6 t8 t9 t11 t12 t13 t14 t15 t16 t17 t18 t19 t20 t21 t22 t23 t24 t25 t26 t27 t28 t29 t30 t31 t32 t33 : Value) (Q : Exit → Act → World → Prop)
    (hQ : ∀ (t24 t25 t26 t27 t28 t29 t30 t31 t32 t33 : Value) (W' : World), Below W.heap.size W W' → Q .normal { tmps := #[.slice (some ⟨g, 0, none⟩) n c, .int .i64 (i : Int), t2, t3, t4, t5, t6, .pointer (some ⟨p7, 0, none⟩), .int .i64 x, .bool b, .pointer (some ⟨p10, 0, none⟩), t11, t12, t13, t14, t15, t16, t17, t18, t19, t20, t21, t22, t23, t24, t25, t26, t27, t28, t29, t30, t31, t32, t33], defers := [] } W') :
    (Code.region 6 #[{ dst := some 24, op := Op.load 25 (Operand.tmp 7), type := 25, pos := "seqs.go:66", after := #[], guard := none }, { dst := some 25, op := Op.load 3 (Operand.tmp 10), type := 3, pos := "seqs.go:66", after := #[], guard := none }, { dst := some 26, op := Op.indexAddr 25 (Operand.tmp 24) (Operand.tmp 25), type := 0, pos := "seqs.go:66", after := #[{ on := 0, ground := Ground.data }, { on := 1, ground := Ground.data }], guard := none }, { dst := some 27, op := Op.load 3 (Operand.tmp 26), type := 3, pos := "seqs.go:66", after := #[{ on := 2, ground := Ground.data }], guard := none }, { dst := some 28, op := Op.move (Operand.tmp 0), type := 81, pos := "seqs.go:66", after := #[], guard := none }, { dst := some 29, op := Op.move (Operand.tmp 1), type := 3, pos := "seqs.go:66", after := #[], guard := none }, { dst := some 30, op := Op.binOp BinOp.add 3 (Operand.tmp 29) (Operand.const (Value.int IntKind.i64 1)) 3, type := 3, pos := "seqs.go:66", after := #[{ on := 5, ground := Ground.data }], guard := none }, { dst := some 31, op := Op.slice 81 (Operand.tmp 28) (some (Operand.tmp 30)) none none, type := 81, pos := "seqs.go:66", after := #[{ on := 4, ground := Ground.data }, { on := 6, ground := Ground.data }], guard := none }, { dst := some 32, op := Op.makeFunc (Fn.func 99) #[] #[Operand.tmp 7, Operand.tmp 10], type := 124, pos := "seqs.go:66", after := #[], guard := none }, { dst := some 33, op := Op.call { callee := Callee.value (Operand.func 98), args := #[Operand.tmp 31, Operand.tmp 32], argTypes := #[81, 124] }, type := 4, pos := "seqs.go:66", after := #[{ on := 7, ground := Ground.data }, { on := 8, ground := Ground.data }], guard := none }, { dst := some 8, op := Op.assign (Operand.tmp 27), type := 3, pos := "seqs.go:66", after := #[{ on := 3, ground := Ground.data }, { on := 9, ground := Ground.chain }, { on := 0, ground := Ground.phase }, { on := 1, ground := Ground.phase }, { on := 2, ground := Ground.phase }, { on := 3, ground := Ground.phase }, { on := 4, ground := Ground.textOnly Departure.lateStores }, { on := 5, ground := Ground.textOnly Departure.lateStores }, { on := 6, ground := Ground.textOnly Departure.lateStores }, { on := 7, ground := Ground.textOnly Departure.lateStoresUnsure }, { on := 8, ground := Ground.textOnly Departure.lateStores }, { on := 9, ground := Ground.textOnly Departure.lateStoresUnsure }], guard := none }, { dst := some 9, op := Op.assign (Operand.tmp 33), type := 4, pos := "seqs.go:66", after := #[{ on := 9, ground := Ground.data }, { on := 10, ground := Ground.chain }, { on := 0, ground := Ground.phase }, { on := 1, ground := Ground.phase }, { on := 2, ground := Ground.phase }, { on := 3, ground := Ground.phase }, { on := 4, ground := Ground.phase }, { on := 5, ground := Ground.phase }, { on := 6, ground := Ground.phase }, { on := 7, ground := Ground.phase }, { on := 8, ground := Ground.phase }, { on := 9, ground := Ground.phase }, { on := 10, ground := Ground.phase }], guard := none }] true).wp Tryz.prog Q { tmps := #[.slice (some ⟨g, 0, none⟩) n c, .int .i64 (i : Int), t2, t3, t4, t5, t6, .pointer (some ⟨p7, 0, none⟩), t8, t9, .pointer (some ⟨p10, 0, none⟩), t11, t12, t13, t14, t15, t16, t17, t18, t19, t20, t21, t22, t23, t24, t25, t26, t27, t28, t29, t30, t31, t32, t33], defers := [] } W := by
  have hd0 : W.drew.cell? ⟨p7, 0, none⟩ = some (.slice (some adM) mM cM) := hc0
  have hd1 : W.drew.cell? ⟨p10, 0, none⟩ = some (.int .i64 (e : Int)) := hc1
  have hd2 : W.drew.cell? (adM.add e) = some (.int .i64 x) := hc2
  refine region_plainG (m := 12) (S := fun w' => w'.cell? ⟨p7, 0, none⟩ = some (.slice (some adM) mM cM) ∧ w'.cell? ⟨p10, 0, none⟩ = some (.int .i64 (e : Int)) ∧ w'.cell? (adM.add e) = some (.int .i64 x)) (ds := []) #[false, false, false, false, false, false, false, false, false, false, false, false] (by kernel_rfl) rfl rfl ⟨hd0, hd1, hd2⟩
    (fun a' W' => ∃ t24 t25 t26 t27 t28 t29 t30 t31 t32 t33 : Value, a' = { tmps := #[.slice (some ⟨g, 0, none⟩) n c, .int .i64 (i : Int), t2, t3, t4, t5, t6, .pointer (some ⟨p7, 0, none⟩), .int .i64 x, .bool b, .pointer (some ⟨p10, 0, none⟩), t11, t12, t13, t14, t15, t16, t17, t18, t19, t20, t21, t22, t23, t24, t25, t26, t27, t28, t29, t30, t31, t32, t33], defers := [] } ∧ Below W.heap.size W W') (fun hHeld => ?_) (fun a' W' ⟨t24, t25, t26, t27, t28, t29, t30, t31, t32, t33, e, h1⟩ => by subst e; exact hQ _ _ _ _ _ _ _ _ _ _ W' h1)
  have HB : Hid (Below W.heap.size W W.drew) := Lib.hid (Below.refl _ W).drew
  have hsz : Hid (W.heap.size ≤ W.drew.heap.size) := Lib.hid (Nat.le_refl _)
  have b0 := World.block_lt_of_cell? W.drew _ hd0
  have b1 := World.block_lt_of_cell? W.drew _ hd1
  have b2 := World.block_lt_of_cell? W.drew _ hd2
  generalize W.drew = w1 at hd0 hd1 hd2 hHeld HB hsz b0 b1 b2 ⊢
  clear hc0 hc1 hc2
  refine pure_ (i := 4) (N := some 28) (v := ?_) (a' := ?_) #[false, false, false, false, true, false, false, false, false, false, false, false] rfl rfl (by kernel_rfl) (fun _ _ _ h => by cases h.1) (Or.inl ⟨by rfl, ?_⟩) ?_ ?_
  rotate_left
  · intro w'
    go_simp
    with_reducible rfl
  rotate_left
  · simp only [Act.put, List.setIfInBounds_toArray, List.set_cons_zero, List.set_cons_succ, i64_w, i32_w]
    rfl
  refine pure_ (i := 5) (N := some 29) (v := ?_) (a' := ?_) #[false, false, false, false, true, true, false, false, false, false, false, false] rfl rfl (by kernel_rfl) (fun _ _ _ h => by cases h.1) (Or.inl ⟨by rfl, ?_⟩) ?_ ?_
  rotate_left
  · intro w'
    go_simp
    with_reducible rfl
  rotate_left
  · simp only [Act.put, List.setIfInBounds_toArray, List.set_cons_zero, List.set_cons_succ, i64_w, i32_w]
    rfl
  refine pure_ (i := 6) (N := some 30) (v := ?_) (a' := ?_) #[false, false, false, false, true, true, true, false, false, false, false, false] rfl rfl (by kernel_rfl) (fun _ _ _ h => by cases h.1) (Or.inl ⟨by rfl, ?_⟩) ?_ ?_
  rotate_left
  · intro w'
    go_simp
    with_reducible rfl
  rotate_left
  · simp only [Act.put, List.setIfInBounds_toArray, List.set_cons_zero, List.set_cons_succ, i64_w, i32_w]
    rfl
  rw [show wrap64 ((i : Int) + 1) = (i : Int) + 1 from by unfold wrap64; omega]
  refine pure_ (i := 7) (N := some 31) (v := ?_) (a' := ?_) #[false, false, false, false, true, true, true, true, false, false, false, false] rfl rfl (by kernel_rfl) (fun _ _ _ h => by cases h.1) (Or.inl ⟨by rfl, ?_⟩) ?_ ?_
  rotate_left
  · intro w'
    go_simp
    with_reducible rfl
  rotate_left
  · simp only [Act.put, List.setIfInBounds_toArray, List.set_cons_zero, List.set_cons_succ, i64_w, i32_w]
    rfl
  refine pure_ (i := 8) (N := some 32) (v := ?_) (a' := ?_) #[false, false, false, false, true, true, true, true, true, false, false, false] rfl rfl (by kernel_rfl) (fun _ _ _ h => by cases h.1) (Or.inl ⟨by rfl, ?_⟩) ?_ ?_
  rotate_left
  · intro w'
    go_simp
    with_reducible rfl
  rotate_left
  · simp only [Act.put, List.setIfInBounds_toArray, List.set_cons_zero, List.set_cons_succ, i64_w, i32_w]
    rfl
  refine take_ (i := 0) (N := some 24) (v := ?_) (a' := ?_) #[true, false, false, false, true, true, true, true, true, false, false, false] rfl rfl (by kernel_rfl) (fun _ _ _ h => by cases h.1) (Or.inl ⟨by rfl, ?_⟩) hHeld ?_ ?_
  rotate_left
  · rintro w' ⟨s0, s1, s2⟩
    go_simp
    with_reducible rfl
  rotate_left
  · simp only [Act.put, List.setIfInBounds_toArray, List.set_cons_zero, List.set_cons_succ, i64_w, i32_w]
    rfl
  refine take_ (i := 1) (N := some 25) (v := ?_) (a' := ?_) #[true, true, false, false, true, true, true, true, true, false, false, false] rfl rfl (by kernel_rfl) (fun _ _ _ h => by cases h.1) (Or.inl ⟨by rfl, ?_⟩) hHeld ?_ ?_
  rotate_left
  · rintro w' ⟨s0, s1, s2⟩
    go_simp
    with_reducible rfl
  rotate_left
  · simp only [Act.put, List.setIfInBounds_toArray, List.set_cons_zero, List.set_cons_succ, i64_w, i32_w]
    rfl
  refine pure_ (i := 2) (N := some 26) (v := ?_) (a' := ?_) #[true, true, true, false, true, true, true, true, true, false, false, false] rfl rfl (by kernel_rfl) (fun _ _ _ h => by cases h.1) (Or.inl ⟨by rfl, ?_⟩) ?_ ?_
  rotate_left
  · intro w'
    go_simp
    with_reducible rfl
  rotate_left
  · simp only [Act.put, List.setIfInBounds_toArray, List.set_cons_zero, List.set_cons_succ, i64_w, i32_w]
    rfl
  refine take_ (i := 3) (N := some 27) (v := ?_) (a' := ?_) #[true, true, true, true, true, true, true, true, true, false, false, false] rfl rfl (by kernel_rfl) (fun _ _ _ h => by cases h.1) (Or.inl ⟨by rfl, ?_⟩) hHeld ?_ ?_
  rotate_left
  · rintro w' ⟨s0, s1, s2⟩
    go_simp
    with_reducible rfl
  rotate_left
  · simp only [Act.put, List.setIfInBounds_toArray, List.set_cons_zero, List.set_cons_succ, i64_w, i32_w]
    rfl
  refine one_ (i := 9) (N := some 33) #[true, true, true, true, true, true, true, true, true, true, false, false] rfl rfl (by kernel_rfl) (by decide) (fun K hK => ?_)
  go_simp
  go_at_call 98
  refine (HX.out _ HB.out).mono ?_
  rintro y w2 ⟨rfl, hb⟩
  have HB2 := Lib.hid (HB.out.trans (hb.mono hsz.out))
  have q0 := (hb.cell (p := ⟨p7, 0, none⟩) b0).trans hd0
  have q1 := (hb.cell (p := ⟨p10, 0, none⟩) b1).trans hd1
  have q2 := (hb.cell (p := adM.add e) b2).trans hd2
  clear hb hd0 hd1 hd2 b0 b1 b2
  refine hK.out _ _ ⟨q0, q1, q2⟩ (fun hHeld => ?_)
  clear hK K
  refine pure_ (i := 10) (N := some 8) (v := ?_) (a' := ?_) #[true, true, true, true, true, true, true, true, true, true, true, false] rfl rfl (by kernel_rfl) (fun _ _ _ h => by cases h.1) (Or.inl ⟨by rfl, ?_⟩) ?_ ?_
  rotate_left
  · intro w'
    go_simp
    with_reducible rfl
  rotate_left
  · simp only [Act.put, List.setIfInBounds_toArray, List.set_cons_zero, List.set_cons_succ, i64_w, i32_w]
    rfl
  refine pure_ (i := 11) (N := some 9) (v := ?_) (a' := ?_) #[true, true, true, true, true, true, true, true, true, true, true, true] rfl rfl (by kernel_rfl) (fun _ _ _ h => by cases h.1) (Or.inl ⟨by rfl, ?_⟩) ?_ ?_
  rotate_left
  · intro w'
    go_simp
    with_reducible rfl
  rotate_left
  · simp only [Act.put, List.setIfInBounds_toArray, List.set_cons_zero, List.set_cons_succ, i64_w, i32_w]
    rfl
  refine done_ (by kernel_rfl) ?_
  exact ⟨rfl, _, _, _, _, _, _, _, _, _, _, rfl, HB2.out⟩
def goesW (rs : List RunR) (i : Nat) (cl M : List Int) : Int × Bool :=
  if opB (rd cl (rs.getD i default).en) = true then (rd M (rs.getD i default).en, (rs.drop (i + 1)).any (fun r => r.fr == rd M (rs.getD i default).en)) else (0, false)
set_option maxRecDepth 100000 in
set_option maxHeartbeats 4000000 in
theorem goes_all' (g c : Nat) (rs : List RunR) (i : Nat) (A0 : Option Addr) (c0 : Nat) (cl : List Int) (AM : Option Addr) (cM : Nat) (M : List Int) (w : World) (hl : rs.length ≤ 1048576) (h : dRun.C w (some ⟨g, 0, none⟩) rs.length rs) (hcap : rs.length ≤ c) (hi : i < rs.length)
    (hC : (Kd.int .i64).C w A0 cl.length cl) (hM : (Kd.int .i64).C w AM M.length M) (hml : M.length = cl.length) (he0 : 0 ≤ (rs.getD i default).en) (he1 : (rs.getD i default).en < cl.length) :
    Calls Tryz.prog 62 #[.slice (some ⟨g, 0, none⟩) rs.length c, .int .i64 i, .slice A0 cl.length c0, .slice AM M.length cM] w fun x w' => x = .returned (.tuple #[.int .i64 (goesW rs i cl M).1, .bool (goesW rs i cl M).2]) ∧ Below w.heap.size w w' := by
  obtain ⟨en, hen⟩ : ∃ en : Nat, (en : Int) = (rs.getD i default).en := ⟨(rs.getD i default).en.toNat, by omega⟩
  have q2 : w.cell? ⟨g, i * 4 + 2, none⟩ = some (.int .i64 (rs.getD i default).en) := by obtain ⟨_, _, _, _, _, _, q, _⟩ := runC_at h i hi; rw [Nat.zero_add] at q; exact q
  rw [← hen] at q2 he0 he1
  obtain ⟨ad, rfl, qC⟩ := Kd.at_int hC (en : Int) he0 he1
  obtain ⟨adM, rfl, qM⟩ := Kd.at_int hM (en : Int) he0 (by omega)
  rw [Int.toNat_natCast] at qC qM
  have hi' : (i : Int) < (rs.length : Int) := by omega
  have hib : (i : Int) + 1 < 1048578 := by omega
  have he2 : en < cl.length := by omega
  have he3 : en < M.length := by omega
  have he4 : (en : Int) < (M.length : Int) := by omega
  obtain ⟨x, hx⟩ : ∃ x, x = rd M (en : Int) := ⟨_, rfl⟩
  obtain ⟨cc, hcc⟩ : ∃ cc, cc = rd cl (en : Int) := ⟨_, rfl⟩
  rw [← hx] at qM
  rw [← hcc] at qC
  have hd : dRun.C w (if c = i + 1 then some (⟨g, 0, none⟩ : Addr) else (some (⟨g, 0, none⟩ : Addr)).map (·.add ((i + 1) * dRun.sz))) (rs.drop (i + 1)).length (rs.drop (i + 1)) := Kd.C_drop h (by omega) hcap
  rw [List.length_drop] at hd
  have hcut : ∀ W : World, (Instr.slice 81 (.slice (some ⟨g, 0, none⟩) rs.length c) (some (.int .i64 ((i : Int) + 1))) none none).run Tryz.prog W = .ok (.slice (if c = i + 1 then some (⟨g, 0, none⟩ : Addr) else (some (⟨g, 0, none⟩ : Addr)).map (·.add ((i + 1) * 4))) (rs.length - (i + 1)) (c - (i + 1))) W := fun W => by
    obtain ⟨ti, hti, _, hts, _⟩ := info_parts info85r
    have := cut_from (P := Tryz.prog) 81 85 .i64 Tryz.underlying81 hti 4 hts (some ⟨g, 0, none⟩) rs.length c ((i : Int) + 1) (by omega) (by omega) W
    have e1 : ((i : Int) + 1).toNat = i + 1 := by omega
    rw [e1] at this
    exact this
  have HX : ∀ (p7 p10 : Nat) (W : World), Below w.heap.size w W → GoK p7 p10 (some adM) cM M en W → Calls Tryz.prog 98 #[.slice (if c = i + 1 then some (⟨g, 0, none⟩ : Addr) else (some (⟨g, 0, none⟩ : Addr)).map (·.add ((i + 1) * 4))) (rs.length - (i + 1)) (c - (i + 1)), .func (.func 99) #[] #[.pointer (some ⟨p7, 0, none⟩), .pointer (some ⟨p10, 0, none⟩)]] W fun y W'' => y = .returned (.bool ((rs.drop (i + 1)).any (fun r => r.fr == x))) ∧ Below W.heap.size W W'' := by
    intro p7 p10 W hb hK
    have hd' := Kd.C_below hd hb
    rw [hx]
    by_cases hz : rs.length - (i + 1) = 0
    · rw [hz]
      refine (has_none _ _ _ W).mono ?_
      rintro y W2 ⟨rfl, rfl⟩
      refine ⟨?_, Below.refl _ _⟩
      rw [List.eq_nil_of_length_eq_zero (l := rs.drop (i + 1)) (by rw [List.length_drop]; exact hz)]
      rfl
    · by_cases hci : c = i + 1
      · omega
      · rw [if_neg hci] at hd' ⊢
        have hlen := List.length_drop (i := i + 1) (l := rs)
        rw [← hlen] at hd' ⊢
        have e0 : (some (⟨g, 0, none⟩ : Addr)).map (·.add ((i + 1) * 4)) = some ⟨g, (i + 1) * 4, none⟩ := by simp [Addr.add]
        have e0' : (some (⟨g, 0, none⟩ : Addr)).map (·.add ((i + 1) * dRun.sz)) = some ⟨g, (i + 1) * 4, none⟩ := e0
        rw [e0'] at hd'
        rw [e0]
        exact has_all g _ _ (rs.drop (i + 1)) p7 p10 (some adM) cM M en W (by rw [List.length_drop]; omega) hd' hK he3
  have HX' := Lib.hid HX
  have HM := Lib.hid hM
  have Hx := Lib.hid hx
  have Hcc := Lib.hid hcc
  have Hen := Lib.hid hen
  have Hml := Lib.hid hml
  have bg := World.block_lt_of_cell? w _ q2
  have bC := World.block_lt_of_cell? w _ qC
  have bM := World.block_lt_of_cell? w _ qM
  have K5 : Hid (GoK w.heap.size (w.heap.size + 1) (some adM) cM M en ((w.alloc (.cells #[.slice (some adM) M.length cM] 25)).alloc (.cells #[.int .i64 (en : Int)] 3)) ∧ Below w.heap.size w ((w.alloc (.cells #[.slice (some adM) M.length cM] 25)).alloc (.cells #[.int .i64 (en : Int)] 3)) ∧ ((w.alloc (.cells #[.slice (some adM) M.length cM] 25)).alloc (.cells #[.int .i64 (en : Int)] 3)).cell? (adM.add en) = some (.int .i64 x)) := Lib.hid (by
    have hB5 : Below w.heap.size w ((w.alloc (.cells #[.slice (some adM) M.length cM] 25)).alloc (.cells #[.int .i64 (en : Int)] 3)) := ((Below.refl _ w).alloc (Nat.le_refl _) _).alloc (by simp) _
    have e7 := ((Boxed.new w 25 (.slice (some adM) M.length cM)).alloc (.cells #[.int .i64 (en : Int)] 3)).cell
    have e10 := (Boxed.new (w.alloc (.cells #[.slice (some adM) M.length cM] 25)) 3 (.int .i64 (en : Int))).cell
    rw [World.size_alloc] at e10
    exact ⟨⟨e7, e10, Kd.C_below HM.out hB5⟩, hB5, (hB5.cell bM).trans qM⟩)
  clear HX hM hx hcc hen hd h hC hl hcap he0 he1 hml
  have hcase : ((cc == 19) = true) ∨ ((cc == 19) = false ∧ (cc == 20) = true) ∨ ((cc == 19) = false ∧ (cc == 20) = false ∧ (cc == 21) = true) ∨ ((cc == 19) = false ∧ (cc == 20) = false ∧ (cc == 21) = false) := by
    cases cc == 19 <;> cases cc == 20 <;> cases cc == 21 <;> simp
  obtain ⟨An, hAn⟩ : ∃ An, An = (if c = i + 1 then some (⟨g, 0, none⟩ : Addr) else (some (⟨g, 0, none⟩ : Addr)).map (·.add ((i + 1) * 4))) := ⟨_, rfl⟩
  rw [← hAn] at hcut HX'
  clear hAn
  rcases hcase with c1 | ⟨c1, c2⟩ | ⟨c1, c2, c3⟩ | ⟨c1, c2, c3⟩
  · have HO : Hid (opB cc = true) := Lib.hid (by unfold opB; rw [c1]; rfl)
    go_enter Tryz.func62, Tryz.ntmps62
    go_wp2
    refine reg62 (W := (w.alloc (.cells #[.slice (some adM) M.length cM] 25)).alloc (.cells #[.int .i64 (en : Int)] 3)) (p7 := w.heap.size) (p10 := w.heap.size + 1) (i := i) (e := en) (x := x) (b := (rs.drop (i + 1)).any (fun r => r.fr == x)) (adM := adM) (mM := M.length) (cM := cM) ?_ hib he3 he4 ?_ ?_ ?_ hcut (Lib.hid (fun W' hb => ?_)) _ _ _ _ _ _ _ _ _ _ _ _ _ _ _ _ _ _ _ _ _ _ _ _ _ _ _ _ _ _ _ ?_
    · omega
    · exact K5.out.1.h7
    · exact K5.out.1.h10
    · exact K5.out.2.2
    · exact HX'.out w.heap.size (w.heap.size + 1) W' (K5.out.2.1.trans (hb.mono (by simp; omega))) (K5.out.1.below hb)
    · intro _ _ _ _ _ _ _ _ _ _ W2 hb2
      go_wp2
      go_ret2
      refine ⟨?_, K5.out.2.1.trans (hb2.mono (by simp; omega))⟩
      unfold goesW
      rw [← Hen.out, ← Hcc.out, HO.out, if_pos rfl, ← Hx.out]
      rfl
  · have HO : Hid (opB cc = true) := Lib.hid (by unfold opB; rw [c1, c2]; rfl)
    go_enter Tryz.func62, Tryz.ntmps62
    go_wp2
    refine reg62 (W := (w.alloc (.cells #[.slice (some adM) M.length cM] 25)).alloc (.cells #[.int .i64 (en : Int)] 3)) (p7 := w.heap.size) (p10 := w.heap.size + 1) (i := i) (e := en) (x := x) (b := (rs.drop (i + 1)).any (fun r => r.fr == x)) (adM := adM) (mM := M.length) (cM := cM) ?_ hib he3 he4 ?_ ?_ ?_ hcut (Lib.hid (fun W' hb => ?_)) _ _ _ _ _ _ _ _ _ _ _ _ _ _ _ _ _ _ _ _ _ _ _ _ _ _ _ _ _ _ _ ?_
    · omega
    · exact K5.out.1.h7
    · exact K5.out.1.h10
    · exact K5.out.2.2
    · exact HX'.out w.heap.size (w.heap.size + 1) W' (K5.out.2.1.trans (hb.mono (by simp; omega))) (K5.out.1.below hb)
    · intro _ _ _ _ _ _ _ _ _ _ W2 hb2
      go_wp2
      go_ret2
      refine ⟨?_, K5.out.2.1.trans (hb2.mono (by simp; omega))⟩
      unfold goesW
      rw [← Hen.out, ← Hcc.out, HO.out, if_pos rfl, ← Hx.out]
      rfl
  · have HO : Hid (opB cc = true) := Lib.hid (by unfold opB; rw [c1, c2, c3]; rfl)
    go_enter Tryz.func62, Tryz.ntmps62
    go_wp2
    refine reg62 (W := (w.alloc (.cells #[.slice (some adM) M.length cM] 25)).alloc (.cells #[.int .i64 (en : Int)] 3)) (p7 := w.heap.size) (p10 := w.heap.size + 1) (i := i) (e := en) (x := x) (b := (rs.drop (i + 1)).any (fun r => r.fr == x)) (adM := adM) (mM := M.length) (cM := cM) ?_ hib he3 he4 ?_ ?_ ?_ hcut (Lib.hid (fun W' hb => ?_)) _ _ _ _ _ _ _ _ _ _ _ _ _ _ _ _ _ _ _ _ _ _ _ _ _ _ _ _ _ _ _ ?_
    · omega
    · exact K5.out.1.h7
    · exact K5.out.1.h10
    · exact K5.out.2.2
    · exact HX'.out w.heap.size (w.heap.size + 1) W' (K5.out.2.1.trans (hb.mono (by simp; omega))) (K5.out.1.below hb)
    · intro _ _ _ _ _ _ _ _ _ _ W2 hb2
      go_wp2
      go_ret2
      refine ⟨?_, K5.out.2.1.trans (hb2.mono (by simp; omega))⟩
      unfold goesW
      rw [← Hen.out, ← Hcc.out, HO.out, if_pos rfl, ← Hx.out]
      rfl
  · have HO : Hid (opB cc = false) := Lib.hid (by unfold opB; rw [c1, c2, c3]; rfl)
    go_enter Tryz.func62, Tryz.ntmps62
    go_wp2
    go_ret2
    refine ⟨?_, ((Below.refl _ w).alloc (Nat.le_refl _) _).alloc (by simp) _⟩
    unfold goesW
    rw [← Hen.out, ← Hcc.out, HO.out, if_neg (by decide)]
    rfl
theorem goes_all (g c : Nat) (rs : List RunR) (i : Nat) (A0 : Option Addr) (c0 : Nat) (cl : List Int) (AM : Option Addr) (cM : Nat) (M : List Int) (w : World) (hl : rs.length ≤ 1048576) (h : dRun.C w (some ⟨g, 0, none⟩) rs.length rs) (hcap : rs.length ≤ c) (hi : i < rs.length)
    (hC : (Kd.int .i64).C w A0 cl.length cl) (hM : (Kd.int .i64).C w AM M.length M) (hml : M.length = cl.length) (he0 : 0 ≤ (rs.getD i default).en) (he1 : (rs.getD i default).en < cl.length) :
    Calls Tryz.prog 62 #[.slice (some ⟨g, 0, none⟩) rs.length c, .int .i64 i, .slice A0 cl.length c0, .slice AM cl.length cM] w fun x w' => x = .returned (.tuple #[.int .i64 (goesW rs i cl M).1, .bool (goesW rs i cl M).2]) ∧ Below w.heap.size w w' := by
  have := goes_all' g c rs i A0 c0 cl AM cM M w hl h hcap hi hC hM hml he0 he1
  rw [show (Value.slice AM cl.length cM) = .slice AM M.length cM by rw [hml]]
  exact this
end Go.Proofs.YtdpifkhkemeclaaGreat
namespace Go.Proofs.YtdpifkhkemeclaaGreat
open Go.RowKit Go.Shelf Go.Maps Go.Proofs.YtdpifkhkemeclaaGreatW.PrintWords Go.Proofs.YtdpifkhkemeclaaGreatW.PrintLast
structure SeqR where
  lv : Int
  sos : Int
  eos : Int
  at_ : List Int
instance : Inhabited SeqR := ⟨⟨0, 0, 0, []⟩⟩
def dSeq : Kd SeqR := Kd.iso (Kd.pair (Kd.int .i64) (Kd.pair (Kd.int .i64) (Kd.pair (Kd.int .i64) (Kd.slice 3 (Kd.int .i64))))) (fun r => (r.lv, r.sos, r.eos, r.at_))
theorem dSeq_E : dSeq.E = [3] := rfl
theorem dSeq_M {W : World} {base : Nat} {ok : Nat → Prop} {r : SeqR} {cs : List Value} (h : dSeq.M W base ok r cs) : ∃ v, cs = [.int .i64 r.lv, .int .i64 r.sos, .int .i64 r.eos, v] ∧ (Kd.int .i64).R 3 W base ok v r.at_ := by
  obtain ⟨c0, c1, rfl, rfl, c2, c3, rfl, rfl, c4, c5, rfl, rfl, v, rfl, hv⟩ := h
  exact ⟨v, rfl, hv⟩
theorem dSeq_mk {W : World} {base : Nat} {ok : Nat → Prop} {r : SeqR} {v : Value} (hv : (Kd.int .i64).R 3 W base ok v r.at_) : dSeq.M W base ok r [.int .i64 r.lv, .int .i64 r.sos, .int .i64 r.eos, v] :=
  ⟨_, _, rfl, rfl, _, _, rfl, rfl, _, _, rfl, rfl, v, rfl, hv⟩
abbrev SMap := DataW Unit
structure SG (w : World) (i : Nat) (D : SMap) (out : List SeqR) (v : Value) (W : World) : Prop where
  bel : Below w.heap.size w W
  map : W.ownsMap Tryz.prog 3 (plainElem Tryz.prog 3) w.heap.size i D
  rS : Kd.S dSeq 50 W w.heap.size (fun _ => True) v out
def BX (b : Nat) (lv fr en : Int) (vA : Value) (W : World) : Prop := W.heap[b]? = some (.cells #[.int .i64 lv, .int .i64 fr, .int .i64 en, vA] 85 (0, 0))
theorem BX.c0 {b : Nat} {lv fr en : Int} {vA : Value} {W : World} (h : BX b lv fr en vA W) : W.cell? ⟨b, 0, none⟩ = some (.int .i64 lv) := by rw [blk_cell h]; rfl
theorem BX.c1 {b : Nat} {lv fr en : Int} {vA : Value} {W : World} (h : BX b lv fr en vA W) : W.cell? ⟨b, 1, none⟩ = some (.int .i64 fr) := by rw [blk_cell h]; rfl
theorem BX.c3 {b : Nat} {lv fr en : Int} {vA : Value} {W : World} (h : BX b lv fr en vA W) : W.cell? ⟨b, 3, none⟩ = some vA := by rw [blk_cell h]; rfl
def RowT (W : World) (row : Option Nat) : Prop := ∀ k, row = some k → ∃ cells t, W.heap[k]? = some (.cells cells t (0, 0)) ∧ t ≠ 85
theorem BX.kept {b : Nat} {lv fr en : Int} {vA : Value} {W W' : World} (h : BX b lv fr en vA W) {row : Option Nat} (hg : W.grownBy W' row) (hr : RowT W row) : BX b lv fr en vA W' := by
  refine (hg.block b (lt_of_block h) (fun e => ?_)).trans h
  obtain ⟨cells, t, hc, ht⟩ := hr b e.symm
  have h2 := h
  unfold BX at h2
  rw [hc] at h2
  injection h2 with h2
  injection h2 with _ h2
  exact ht h2
theorem BX.below {b : Nat} {lv fr en : Int} {vA : Value} {W W' : World} (h : BX b lv fr en vA W) (hb : Below W.heap.size W W') : BX b lv fr en vA W' := (hb.block b (lt_of_block h)).trans h
theorem map_kept {W W' : World} {b n : Nat} {D : SMap} (h : W.ownsMap Tryz.prog 3 (plainElem Tryz.prog 3) b n D) {row : Option Nat} (hg : W.grownBy W' row) (hr : RowT W row) : W'.ownsMap Tryz.prog 3 (plainElem Tryz.prog 3) b n D := by
  refine h.kept hg (fun e => ?_)
  obtain ⟨cells, t, hc, _⟩ := hr b e.symm
  obtain ⟨es, clock, hb, _⟩ := h
  rw [hc] at hb
  cases hb
theorem grown_below {W W' : World} (hb : Below W.heap.size W W') : W.grownBy W' none := { os := hb.os, tape := hb.tape, output := hb.output, size := hb.size, block := fun k hk _ => hb.block k hk }
theorem RowT.none (W : World) : RowT W none := fun k e => by cases e
section
variable {w W W' : World} {i : Nat} {D : SMap} {out : List SeqR} {v : Value}
theorem SG.below (h : SG w i D out v W) (hb : Below W.heap.size W W') : SG w i D out v W' := ⟨h.bel.trans (hb.mono h.bel.size), map_kept h.map (grown_below hb) (RowT.none _), Kd.S_below h.rS hb⟩
theorem SG.typ (h : SG w i D out v W) : RowT W v.ownBlock := fun k e => by
  obtain ⟨cells, hc⟩ := Kd.S_typed h.rS k e
  exact ⟨cells, 50, hc, by decide⟩
theorem SG.elem {g n c : Nat} (h : SG w i D out (.slice (some ⟨g, 0, none⟩) n c) W) (k : Nat) (hk : k < out.length) :
    ∃ (oki : Nat → Prop) (v : Value), (Kd.int .i64).R 3 W w.heap.size oki v (out.getD k default).at_ ∧
      W.cell? ⟨g, k * 4 + 2, none⟩ = some (.int .i64 (out.getD k default).eos) ∧ W.cell? ⟨g, k * 4 + 3, none⟩ = some v ∧
      (∀ j, W.frozen? ⟨g, k * 4 + j, none⟩ = false) ∧ (∀ q, oki q → q ≠ g) ∧
      Kd.H dSeq 50 W w.heap.size (fun _ => True) (.slice (some ⟨g, 0, none⟩) n c) out (k : Int) oki [.int .i64 (out.getD k default).lv, .int .i64 (out.getD k default).sos, .int .i64 (out.getD k default).eos, v] := by
  have hn := (Kd.S_reads' h.rS).1
  obtain ⟨oki, cs, hcl, hM, hcc, hfr, hoki, hH⟩ := Kd.S_elem h.rS default (k : Int) (by omega) (by omega)
  simp only [Int.toNat_natCast] at hM hcc hfr hH
  obtain ⟨v, rfl, hv⟩ := dSeq_M hM
  exact ⟨oki, v, hv, hcc 2 _ rfl, hcc 3 _ rfl, hfr, fun q hq => (hoki q hq).2, hH⟩
theorem SG.put {g n c : Nat} (h : SG w i D out (.slice (some ⟨g, 0, none⟩) n c) W) {out' : List SeqR} (hS : Kd.S dSeq 50 W' w.heap.size (fun _ => True) (.slice (some ⟨g, 0, none⟩) n c) out') (hg : W.grownBy W' (some g)) : SG w i D out' (.slice (some ⟨g, 0, none⟩) n c) W' :=
  ⟨h.bel.grown hg h.bel.size (fun k e => by cases e; exact Kd.S_base h.rS g (by simp [Value.ownBlock])), map_kept h.map hg h.typ, hS⟩
theorem SG.setEos {g n c : Nat} (h : SG w i D out (.slice (some ⟨g, 0, none⟩) n c) W) (k : Nat) (hk : k < out.length) (x : Int) :
    SG w i D (out.set k { out.getD k default with eos := x }) (.slice (some ⟨g, 0, none⟩) n c) (W.setCell ⟨g, k * 4 + 2, none⟩ (.int .i64 x)) ∧ W.grownBy (W.setCell ⟨g, k * 4 + 2, none⟩ (.int .i64 x)) (some g) := by
  have hn := (Kd.S_reads' h.rS).1
  obtain ⟨oki, v, hv, _, _, _, _, hH⟩ := h.elem k hk
  have hH' : Kd.H dSeq 50 W w.heap.size (fun q => True ∧ ¬ (fun _ : Nat => False) q) (.slice (some ⟨g, 0, none⟩) n c) out (k : Int) oki [.int .i64 (out.getD k default).lv, .int .i64 (out.getD k default).sos, .int .i64 (out.getD k default).eos, v] := Kd.H_mono hH (fun _ _ => ⟨trivial, id⟩)
  have key := Kd.S_seg (okp := oki) (okg := fun _ => False) (seg := [.int .i64 x]) (j := 2) (x' := { out.getD k default with eos := x }) hH' (by omega) (by omega) (show 2 + 1 ≤ 4 by decide) (dSeq_mk (r := { out.getD k default with eos := x }) hv) (fun q hq => .inl hq) (fun q hq => hq.elim)
  simp only [Int.toNat_natCast] at key
  exact ⟨h.put key.1 key.2, key.2⟩
theorem SG.mid {g n c : Nat} (h : SG w i D out (.slice (some ⟨g, 0, none⟩) n c) W) {ok : Nat → Prop} {v : Value} {xs : List Int} (hv : (Kd.int .i64).R 3 W w.heap.size ok v xs) (hg : W.grownBy W' v.ownBlock) :
    RowT W v.ownBlock ∧ (∀ j, W'.cell? ⟨g, j, none⟩ = W.cell? ⟨g, j, none⟩) ∧ (∀ j, W'.frozen? ⟨g, j, none⟩ = false) ∧ RowT W' (some g) := by
  obtain ⟨cells, hc⟩ := Kd.S_typed h.rS g (by simp [Value.ownBlock])
  have hvne : some g ≠ v.ownBlock := by
    intro e
    obtain ⟨cells', hc'⟩ := Kd.R_typed hv g e.symm
    rw [hc] at hc'
    injection hc' with hc'
    injection hc' with _ hc'
    exact absurd hc' (by decide)
  have hb := hg.block g (lt_of_block hc) hvne
  exact ⟨fun k e => by obtain ⟨cells', hc'⟩ := Kd.R_typed hv k e; exact ⟨cells', 3, hc', by decide⟩, fun j => by unfold World.cell?; rw [hb], fun j => frozen_of_row _ _ _ _ _ (hb.trans hc), fun k e => by injection e with e; subst e; exact ⟨cells, 50, hb.trans hc, by decide⟩⟩
theorem SG.addAt {g n c : Nat} (h : SG w i D out (.slice (some ⟨g, 0, none⟩) n c) W) (k : Nat) (hk : k < out.length) {oki : Nat → Prop} {v v' : Value} {ys : List Int}
    (hH : Kd.H dSeq 50 W w.heap.size (fun _ => True) (.slice (some ⟨g, 0, none⟩) n c) out (k : Int) (fun q => oki q ∨ True ∧ W.heap.size ≤ q) [.int .i64 (out.getD k default).lv, .int .i64 (out.getD k default).sos, .int .i64 (out.getD k default).eos, v])
    (hoki : ∀ q, oki q → q ≠ g) (hv : (Kd.int .i64).R 3 W w.heap.size oki v (out.getD k default).at_)
    (hr : (Kd.int .i64).R 3 W' w.heap.size (fun q => oki q ∨ True ∧ W.heap.size ≤ q) v' ((out.getD k default).at_ ++ ys)) (hb : Below w.heap.size w W') (hg : W.grownBy W' v.ownBlock) :
    SG w i D (out.set k { out.getD k default with at_ := (out.getD k default).at_ ++ ys }) (.slice (some ⟨g, 0, none⟩) n c) (W'.setCell ⟨g, k * 4 + 3, none⟩ v') ∧ W'.grownBy (W'.setCell ⟨g, k * 4 + 3, none⟩ v') (some g) := by
  have hn := (Kd.S_reads' h.rS).1
  have hH1 : Kd.H dSeq 50 W' w.heap.size (fun q => True ∧ ¬ (fun _ : Nat => False) q) (.slice (some ⟨g, 0, none⟩) n c) out (k : Int) (fun q => oki q ∨ True ∧ W.heap.size ≤ q) [.int .i64 (out.getD k default).lv, .int .i64 (out.getD k default).sos, .int .i64 (out.getD k default).eos, v] :=
    Kd.H_mono (Kd.H_grown hH hg (fun q hq => .inl (hv.1 q hq))) (fun _ _ => ⟨trivial, id⟩)
  have key := Kd.S_seg (okp := fun q => oki q ∨ True ∧ W.heap.size ≤ q) (okg := fun _ => False) (seg := [v']) (j := 3) (x' := { out.getD k default with at_ := (out.getD k default).at_ ++ ys }) hH1 (by omega) (by omega) (show 3 + 1 ≤ 4 by decide) (dSeq_mk (r := { out.getD k default with at_ := (out.getD k default).at_ ++ ys }) hr) (fun q hq => .inl hq) (fun q hq => hq.elim)
  simp only [Int.toNat_natCast] at key
  obtain ⟨m1, m2, m3, m4⟩ := h.mid hv hg
  exact ⟨⟨hb.grown key.2 hb.size (fun q e => by cases e; exact Kd.S_base h.rS g (by simp [Value.ownBlock])), map_kept (map_kept h.map hg m1) key.2 m4, key.1⟩, key.2⟩
end
theorem info50r' : (Tryz.prog.info? 50).map (fun i => (i.zero, i.size, i.bytes)) = some (some (.agg #[.int .i64 0, .int .i64 0, .int .i64 0, .slice none 0 0]), dSeq.sz, 48) := by kernel_rfl
set_option maxRecDepth 100000 in
set_option maxHeartbeats 4000000 in
theorem reg12G {w W : World} {j : Nat} {D : SMap} {out : List SeqR} {vO : Value} {b g c i : Nat} {para lv fr en : Int} {vA : Value} {rs : List RunR} (HS : SG w j D out vO W) (HX : BX b lv fr en vA W) (hl : rs.length ≤ 1048576) (hi : (i : Int) < 1048576) (hol : out.length ≤ 1048576) (hC : dRun.C W (some ⟨g, 0, none⟩) rs.length rs)
    (hlv : -10 ≤ lv ∧ lv ≤ 1000) (hbs : -10 ≤ besideW rs ((i : Int) - 1) para ∧ besideW rs ((i : Int) - 1) para ≤ 1000) (t0 t2 t3 t4 t5 t6 t7 t9 t13 t14 t15 t16 t17 t18 t19 t20 t21 t22 t23 t24 t25 t26 t27 t28 t29 t30 t31 t32 t33 t34 t35 t36 t37 t38 t39 t40 t41 t42 t43 t44 t45 t46 t47 t48 t49 t50 t51 t52 t53 t54 t55 t56 t57 t58 t59 t60 t61 t62 t63 t64 t65 t66 t67 t68 t69 t70 t71 t72 t73 t74 t75 t76 t77 t78 t79 t80 t81 t82 t83 t84 t85 t86 t87 t88 t89 t90 t91 t92 t93 t94 t95 t96 t97 t98 t99 : Value) (Q : Exit → Act → World → Prop)
    (hQ : ∀ (t47 t48 t49 t50 t51 t52 t53 t54 t55 t56 t57 t58 t59 t60 v' : Value) (W' : World), SG w j D (out ++ [⟨lv, wayW lv (besideW rs ((i : Int) - 1) para), 0, []⟩]) v' W' → BX b lv fr en vA W' → Below w.heap.size W W' → Q .normal { tmps := #[t0, .int .i64 para, t2, t3, t4, t5, t6, t7, .slice (some ⟨g, 0, none⟩) rs.length c, t9, v', .int .i64 (i : Int), .pointer (some ⟨b, 0, none⟩), t13, t14, t15, t16, t17, t18, t19, t20, t21, t22, t23, t24, t25, t26, t27, t28, t29, t30, t31, t32, t33, t34, t35, t36, t37, t38, t39, t40, t41, t42, t43, t44, t45, t46, t47, t48, t49, t50, t51, t52, t53, t54, t55, t56, t57, t58, t59, t60, t61, t62, t63, t64, t65, t66, t67, t68, t69, t70, t71, t72, t73, t74, t75, t76, t77, t78, t79, t80, t81, t82, t83, t84, t85, t86, t87, t88, t89, t90, t91, t92, t93, t94, t95, t96, t97, t98, t99], defers := [] } W') :
    (Code.region 12 #[{ dst := some 47, op := Op.move (Operand.tmp 10), type := 47, pos := "seqs.go:89", after := #[], guard := none }, { dst := some 48, op := Op.fieldAddr 85 (Operand.tmp 12) 0, type := 0, pos := "seqs.go:89", after := #[], guard := none }, { dst := some 49, op := Op.load 3 (Operand.tmp 48), type := 3, pos := "seqs.go:89", after := #[{ on := 1, ground := Ground.data }], guard := none }, { dst := some 50, op := Op.fieldAddr 85 (Operand.tmp 12) 0, type := 0, pos := "seqs.go:89", after := #[], guard := none }, { dst := some 51, op := Op.load 3 (Operand.tmp 50), type := 3, pos := "seqs.go:89", after := #[{ on := 3, ground := Ground.data }], guard := none }, { dst := some 52, op := Op.move (Operand.tmp 8), type := 81, pos := "seqs.go:89", after := #[], guard := none }, { dst := some 53, op := Op.move (Operand.tmp 11), type := 3, pos := "seqs.go:89", after := #[], guard := none }, { dst := some 54, op := Op.binOp BinOp.sub 3 (Operand.tmp 53) (Operand.const (Value.int IntKind.i64 1)) 3, type := 3, pos := "seqs.go:89", after := #[{ on := 6, ground := Ground.data }], guard := none }, { dst := some 55, op := Op.move (Operand.tmp 1), type := 3, pos := "seqs.go:89", after := #[], guard := none }, { dst := some 56, op := Op.call { callee := Callee.value (Operand.func 61), args := #[Operand.tmp 52, Operand.tmp 54, Operand.tmp 55], argTypes := #[81, 3, 3] }, type := 3, pos := "seqs.go:89", after := #[{ on := 5, ground := Ground.data }, { on := 7, ground := Ground.data }, { on := 8, ground := Ground.data }], guard := none }, { dst := some 57, op := Op.call { callee := Callee.value (Operand.func 60), args := #[Operand.tmp 51, Operand.tmp 56], argTypes := #[3, 3] }, type := 3, pos := "seqs.go:89", after := #[{ on := 4, ground := Ground.data }, { on := 9, ground := Ground.data }, { on := 9, ground := Ground.chain }], guard := none }, { dst := some 58, op := Op.build 50 #[(0, Operand.tmp 49), (1, Operand.tmp 57)], type := 50, pos := "seqs.go:89", after := #[{ on := 2, ground := Ground.data }, { on := 10, ground := Ground.data }], guard := none }, { dst := some 59, op := Op.buildSlice 47 1 #[(0, Operand.tmp 58)], type := 47, pos := "seqs.go:89", after := #[{ on := 11, ground := Ground.data }], guard := none }, { dst := some 60, op := Op.call { callee := Callee.builtin Builtin.append, args := #[Operand.tmp 47, Operand.tmp 59], argTypes := #[47, 47] }, type := 47, pos := "seqs.go:89", after := #[{ on := 0, ground := Ground.data }, { on := 12, ground := Ground.data }, { on := 10, ground := Ground.chain }], guard := none }, { dst := some 10, op := Op.assign (Operand.tmp 60), type := 47, pos := "seqs.go:89", after := #[{ on := 13, ground := Ground.data }, { on := 13, ground := Ground.chain }, { on := 0, ground := Ground.phase }, { on := 1, ground := Ground.phase }, { on := 2, ground := Ground.phase }, { on := 3, ground := Ground.phase }, { on := 4, ground := Ground.phase }, { on := 5, ground := Ground.phase }, { on := 6, ground := Ground.phase }, { on := 7, ground := Ground.phase }, { on := 8, ground := Ground.phase }, { on := 9, ground := Ground.phase }, { on := 10, ground := Ground.phase }, { on := 11, ground := Ground.phase }, { on := 12, ground := Ground.phase }, { on := 13, ground := Ground.phase }], guard := none }] true).wp Tryz.prog Q { tmps := #[t0, .int .i64 para, t2, t3, t4, t5, t6, t7, .slice (some ⟨g, 0, none⟩) rs.length c, t9, vO, .int .i64 (i : Int), .pointer (some ⟨b, 0, none⟩), t13, t14, t15, t16, t17, t18, t19, t20, t21, t22, t23, t24, t25, t26, t27, t28, t29, t30, t31, t32, t33, t34, t35, t36, t37, t38, t39, t40, t41, t42, t43, t44, t45, t46, t47, t48, t49, t50, t51, t52, t53, t54, t55, t56, t57, t58, t59, t60, t61, t62, t63, t64, t65, t66, t67, t68, t69, t70, t71, t72, t73, t74, t75, t76, t77, t78, t79, t80, t81, t82, t83, t84, t85, t86, t87, t88, t89, t90, t91, t92, t93, t94, t95, t96, t97, t98, t99], defers := [] } W := by
  have hc0 : W.drew.cell? ⟨b, 0, none⟩ = some (.int .i64 lv) := HX.c0
  refine region_plainG (m := 15) (S := fun w' => w'.cell? ⟨b, 0, none⟩ = some (.int .i64 lv)) (ds := []) #[false, false, false, false, false, false, false, false, false, false, false, false, false, false, false] (by kernel_rfl) rfl rfl hc0
    (fun a' W' => ∃ t47 t48 t49 t50 t51 t52 t53 t54 t55 t56 t57 t58 t59 t60 v' : Value, a' = { tmps := #[t0, .int .i64 para, t2, t3, t4, t5, t6, t7, .slice (some ⟨g, 0, none⟩) rs.length c, t9, v', .int .i64 (i : Int), .pointer (some ⟨b, 0, none⟩), t13, t14, t15, t16, t17, t18, t19, t20, t21, t22, t23, t24, t25, t26, t27, t28, t29, t30, t31, t32, t33, t34, t35, t36, t37, t38, t39, t40, t41, t42, t43, t44, t45, t46, t47, t48, t49, t50, t51, t52, t53, t54, t55, t56, t57, t58, t59, t60, t61, t62, t63, t64, t65, t66, t67, t68, t69, t70, t71, t72, t73, t74, t75, t76, t77, t78, t79, t80, t81, t82, t83, t84, t85, t86, t87, t88, t89, t90, t91, t92, t93, t94, t95, t96, t97, t98, t99], defers := [] } ∧ SG w j D (out ++ [⟨lv, wayW lv (besideW rs ((i : Int) - 1) para), 0, []⟩]) v' W' ∧ BX b lv fr en vA W' ∧ Below w.heap.size W W') (fun hHeld => ?_) (fun a' W' ⟨t47, t48, t49, t50, t51, t52, t53, t54, t55, t56, t57, t58, t59, t60, v', e, h1, h2, h3⟩ => by subst e; exact hQ _ _ _ _ _ _ _ _ _ _ _ _ _ _ _ W' h1 h2 h3)
  have HS1 := Lib.hid (HS.below (Below.refl _ W).drew)
  have HX1 := Lib.hid (HX.below (Below.refl _ W).drew)
  have HB1 : Hid (Below w.heap.size W W.drew) := Lib.hid (Below.refl _ W).drew
  have HC1 := Lib.hid (Kd.C_below hC (Below.refl _ W).drew)
  have Hl := Lib.hid hl
  have Hol := Lib.hid hol
  have Hlv := Lib.hid hlv
  have Hbs := Lib.hid hbs
  have Hsz := Lib.hid HS.bel.size
  have hbb := World.block_lt_of_cell? W.drew _ hc0
  clear HS HX hC hl hol hlv hbs
  generalize W.drew = w1 at hc0 hHeld HS1 HX1 HB1 HC1 hbb ⊢
  obtain ⟨bs, hbsd⟩ : ∃ bs, bs = besideW rs ((i : Int) - 1) para := ⟨_, rfl⟩
  rw [← hbsd] at Hbs ⊢
  have Hbd := Lib.hid hbsd
  clear hbsd
  refine pure_ (i := 0) (N := some 47) (v := ?_) (a' := ?_) #[true, false, false, false, false, false, false, false, false, false, false, false, false, false, false] rfl rfl (by kernel_rfl) (fun _ _ _ h => by cases h.1) (Or.inl ⟨by rfl, ?_⟩) ?_ ?_
  rotate_left
  · intro w'
    go_simp
    with_reducible rfl
  rotate_left
  · simp only [Act.put, List.setIfInBounds_toArray, List.set_cons_zero, List.set_cons_succ, i64_w, i32_w]
    rfl
  refine pure_ (i := 1) (N := some 48) (v := ?_) (a' := ?_) #[true, true, false, false, false, false, false, false, false, false, false, false, false, false, false] rfl rfl (by kernel_rfl) (fun _ _ _ h => by cases h.1) (Or.inl ⟨by rfl, ?_⟩) ?_ ?_
  rotate_left
  · intro w'
    go_simp
    with_reducible rfl
  rotate_left
  · simp only [Act.put, List.setIfInBounds_toArray, List.set_cons_zero, List.set_cons_succ, i64_w, i32_w]
    rfl
  refine pure_ (i := 3) (N := some 50) (v := ?_) (a' := ?_) #[true, true, false, true, false, false, false, false, false, false, false, false, false, false, false] rfl rfl (by kernel_rfl) (fun _ _ _ h => by cases h.1) (Or.inl ⟨by rfl, ?_⟩) ?_ ?_
  rotate_left
  · intro w'
    go_simp
    with_reducible rfl
  rotate_left
  · simp only [Act.put, List.setIfInBounds_toArray, List.set_cons_zero, List.set_cons_succ, i64_w, i32_w]
    rfl
  refine pure_ (i := 5) (N := some 52) (v := ?_) (a' := ?_) #[true, true, false, true, false, true, false, false, false, false, false, false, false, false, false] rfl rfl (by kernel_rfl) (fun _ _ _ h => by cases h.1) (Or.inl ⟨by rfl, ?_⟩) ?_ ?_
  rotate_left
  · intro w'
    go_simp
    with_reducible rfl
  rotate_left
  · simp only [Act.put, List.setIfInBounds_toArray, List.set_cons_zero, List.set_cons_succ, i64_w, i32_w]
    rfl
  refine pure_ (i := 6) (N := some 53) (v := ?_) (a' := ?_) #[true, true, false, true, false, true, true, false, false, false, false, false, false, false, false] rfl rfl (by kernel_rfl) (fun _ _ _ h => by cases h.1) (Or.inl ⟨by rfl, ?_⟩) ?_ ?_
  rotate_left
  · intro w'
    go_simp
    with_reducible rfl
  rotate_left
  · simp only [Act.put, List.setIfInBounds_toArray, List.set_cons_zero, List.set_cons_succ, i64_w, i32_w]
    rfl
  refine pure_ (i := 7) (N := some 54) (v := ?_) (a' := ?_) #[true, true, false, true, false, true, true, true, false, false, false, false, false, false, false] rfl rfl (by kernel_rfl) (fun _ _ _ h => by cases h.1) (Or.inl ⟨by rfl, ?_⟩) ?_ ?_
  rotate_left
  · intro w'
    go_simp
    with_reducible rfl
  rotate_left
  · simp only [Act.put, List.setIfInBounds_toArray, List.set_cons_zero, List.set_cons_succ, i64_w, i32_w]
    rfl
  rw [show wrap64 ((i : Int) - 1) = (i : Int) - 1 from by unfold wrap64; omega]
  refine pure_ (i := 8) (N := some 55) (v := ?_) (a' := ?_) #[true, true, false, true, false, true, true, true, true, false, false, false, false, false, false] rfl rfl (by kernel_rfl) (fun _ _ _ h => by cases h.1) (Or.inl ⟨by rfl, ?_⟩) ?_ ?_
  rotate_left
  · intro w'
    go_simp
    with_reducible rfl
  rotate_left
  · simp only [Act.put, List.setIfInBounds_toArray, List.set_cons_zero, List.set_cons_succ, i64_w, i32_w]
    rfl
  refine take_ (i := 2) (N := some 49) (v := ?_) (a' := ?_) #[true, true, true, true, false, true, true, true, true, false, false, false, false, false, false] rfl rfl (by kernel_rfl) (fun _ _ _ h => by cases h.1) (Or.inl ⟨by rfl, ?_⟩) hHeld ?_ ?_
  rotate_left
  · rintro w' s0
    go_simp
    with_reducible rfl
  rotate_left
  · simp only [Act.put, List.setIfInBounds_toArray, List.set_cons_zero, List.set_cons_succ, i64_w, i32_w]
    rfl
  refine take_ (i := 4) (N := some 51) (v := ?_) (a' := ?_) #[true, true, true, true, true, true, true, true, true, false, false, false, false, false, false] rfl rfl (by kernel_rfl) (fun _ _ _ h => by cases h.1) (Or.inl ⟨by rfl, ?_⟩) hHeld ?_ ?_
  rotate_left
  · rintro w' s0
    go_simp
    with_reducible rfl
  rotate_left
  · simp only [Act.put, List.setIfInBounds_toArray, List.set_cons_zero, List.set_cons_succ, i64_w, i32_w]
    rfl
  refine one_ (i := 9) (N := some 56) #[true, true, true, true, true, true, true, true, true, true, false, false, false, false, false] rfl rfl (by kernel_rfl) (by decide) (fun K hK => ?_)
  go_simp
  go_at_call 61
  refine (beside_all (some ⟨g, 0, none⟩) c rs ((i : Int) - 1) para _ Hl.out HC1.out).mono ?_
  rintro e w' ⟨rfl, hw⟩
  obtain rfl := hw.symm
  clear hw
  rw [← Hbd.out]
  refine hK.out _ _ hHeld (fun hHeld => ?_)
  clear hK K
  refine one_ (i := 10) (N := some 57) #[true, true, true, true, true, true, true, true, true, true, true, false, false, false, false] rfl rfl (by kernel_rfl) (by decide) (fun K hK => ?_)
  go_simp
  go_at_call 60
  refine (way_all _ _ Hlv.out Hbs.out _).mono ?_
  rintro e w' ⟨rfl, hw⟩
  obtain rfl := hw.symm
  clear hw
  refine hK.out _ _ hHeld (fun hHeld => ?_)
  clear hK K
  obtain ⟨wy, hwy⟩ : ∃ wy, wy = wayW lv bs := ⟨_, rfl⟩
  rw [← hwy]
  clear hwy
  refine pure_ (i := 11) (N := some 58) (v := ?_) (a' := ?_) #[true, true, true, true, true, true, true, true, true, true, true, true, false, false, false] rfl rfl (by kernel_rfl) (fun _ _ _ h => by cases h.1) (Or.inl ⟨by rfl, ?_⟩) ?_ ?_
  rotate_left
  · intro w'
    go_simp
    with_reducible rfl
  rotate_left
  · simp only [Act.put, List.setIfInBounds_toArray, List.set_cons_zero, List.set_cons_succ, i64_w, i32_w]
    rfl
  refine one_ (i := 12) (N := some 59) #[true, true, true, true, true, true, true, true, true, true, true, true, true, false, false] rfl rfl (by kernel_rfl) (by decide) (fun K hK => ?_)
  go_simp
  have hA : Below w1.heap.size w1 (w1.alloc (.cells #[.int .i64 lv, .int .i64 wy, .int .i64 0, .slice none 0 0] 50)) := (Below.refl _ _).alloc (Nat.le_refl _) _
  have hq := (hA.cell (p := ⟨b, 0, none⟩) hbb).trans hHeld
  clear hA
  refine hK.out _ _ hq (fun hHeld => ?_)
  clear hK K hq
  refine one_ (i := 13) (N := some 60) #[true, true, true, true, true, true, true, true, true, true, true, true, true, true, false] rfl rfl (by kernel_rfl) (by decide) (fun K hK => ?_)
  refine Kd.S_append_step dSeq (w0 := w) w.heap.size (by simp [Region.wanted]) (.tmp 47) (.tmp 59) 47 50 (.agg #[.int .i64 0, .int .i64 0, .int .i64 0, .slice none 0 0]) 48 rfl Tryz.underlying47 info50r' rfl (by decide) (by decide) vO out ⟨lv, wy, 0, []⟩ [.int .i64 lv, .int .i64 wy, .int .i64 0, .slice none 0 0] (fun _ => True) (fun _ => False) rfl rfl (dSeq_mk (r := ⟨lv, wy, 0, []⟩) (Kd.R_nil _ _ _ _ _)) (fun _ h => h.elim) (fun _ _ => trivial) (Kd.S_mono HS1.out.rS (fun _ _ => ⟨trivial, id⟩)) HS1.out.bel HS1.out.bel.size (by have := Hol.out; omega) ?_
  intro v' w2 hS hb hg hat
  have HS2 : Hid (SG w j D (out ++ [⟨lv, wy, 0, []⟩]) v' w2) := Lib.hid ⟨hb, map_kept HS1.out.map hg HS1.out.typ, hS⟩
  have HX2 := Lib.hid (HX1.out.kept hg HS1.out.typ)
  have HB2 : Hid (Below w.heap.size W w2) := Lib.hid (HB1.out.grown hg HS1.out.bel.size (fun k e => Kd.S_base HS1.out.rS k e))
  obtain ⟨A', m', c', rfl⟩ : ∃ A' m' c', v' = .slice A' m' c' := by obtain ⟨A', c', h⟩ := Kd.S_slice hS; exact ⟨A', _, c', h⟩
  clear hS hb hg hat
  refine hK.out _ _ HX2.out.c0 (fun hHeld => ?_)
  clear hK K
  refine norm_ (a' := ?_) ?_ ?_
  rotate_left
  · show Act.put _ (some 60) _ = _
    simp only [Act.put, List.setIfInBounds_toArray, List.set_cons_zero, List.set_cons_succ, i64_w, i32_w]
    rfl
  refine pure_ (i := 14) (N := some 10) (v := ?_) (a' := ?_) #[true, true, true, true, true, true, true, true, true, true, true, true, true, true, true] rfl rfl (by kernel_rfl) (fun _ _ _ h => by cases h.1) (Or.inl ⟨by rfl, ?_⟩) ?_ ?_
  rotate_left
  · intro w'
    go_simp
    with_reducible rfl
  rotate_left
  · simp only [Act.put, List.setIfInBounds_toArray, List.set_cons_zero, List.set_cons_succ, i64_w, i32_w]
    rfl
  refine done_ (by kernel_rfl) ?_
  exact ⟨rfl, _, _, _, _, _, _, _, _, _, _, _, _, _, _, _, rfl, HS2.out, HX2.out, HB2.out⟩
set_option maxRecDepth 100000 in
set_option maxHeartbeats 4000000 in
theorem reg14G {w W : World} {j : Nat} {D : SMap} {out : List SeqR} {b g n c k : Nat} {lv fr en : Int} {A1 : Option Addr} {m ca : Nat} {ys : List Int} (HS : SG w j D out (.slice (some ⟨g, 0, none⟩) n c) W) (HX : BX b lv fr en (.slice A1 m ca) W) (hk : k < out.length) (hC : (Kd.int .i64).C W A1 m ys) (hlen : (out.getD k default).at_.length + m ≤ 1048576) (t0 t1 t2 t3 t4 t5 t6 t7 t8 t9 t10 t11 t13 t14 t16 t17 t18 t19 t20 t21 t22 t23 t24 t25 t26 t27 t28 t29 t30 t31 t32 t33 t34 t35 t36 t37 t38 t39 t40 t41 t42 t43 t44 t45 t46 t47 t48 t49 t50 t51 t52 t53 t54 t55 t56 t57 t58 t59 t60 t61 t62 t63 t64 t65 t66 t67 t68 t69 t70 t71 t72 t73 t74 t75 t76 t77 t78 t79 t80 t81 t82 t83 t84 t85 t86 t87 t88 t89 t90 t91 t92 t93 t94 t95 t96 t97 t98 t99 : Value) (Q : Exit → Act → World → Prop)
    (hQ : ∀ (t64 t65 t66 t67 t68 t69 t70 t71 t72 t73 : Value) (W' : World), SG w j D (out.set k { out.getD k default with at_ := (out.getD k default).at_ ++ ys }) (.slice (some ⟨g, 0, none⟩) n c) W' → BX b lv fr en (.slice A1 m ca) W' → Below w.heap.size W W' → Q .normal { tmps := #[t0, t1, t2, t3, t4, t5, t6, t7, t8, t9, t10, t11, .pointer (some ⟨b, 0, none⟩), t13, t14, .pointer (some ⟨g, k * 4, none⟩), t16, t17, t18, t19, t20, t21, t22, t23, t24, t25, t26, t27, t28, t29, t30, t31, t32, t33, t34, t35, t36, t37, t38, t39, t40, t41, t42, t43, t44, t45, t46, t47, t48, t49, t50, t51, t52, t53, t54, t55, t56, t57, t58, t59, t60, t61, t62, t63, t64, t65, t66, t67, t68, t69, t70, t71, t72, t73, t74, t75, t76, t77, t78, t79, t80, t81, t82, t83, t84, t85, t86, t87, t88, t89, t90, t91, t92, t93, t94, t95, t96, t97, t98, t99], defers := [] } W') :
    (Code.region 14 #[{ dst := some 64, op := Op.move (Operand.tmp 15), type := 87, pos := "seqs.go:92", after := #[], guard := none }, { dst := some 65, op := Op.move (Operand.tmp 15), type := 87, pos := "seqs.go:92", after := #[], guard := none }, { dst := some 66, op := Op.nilCheck (Operand.tmp 65), type := 0, pos := "seqs.go:92", after := #[{ on := 1, ground := Ground.data }], guard := none }, { dst := some 67, op := Op.fieldAddr 50 (Operand.tmp 66) 3, type := 0, pos := "seqs.go:92", after := #[{ on := 2, ground := Ground.data }], guard := none }, { dst := some 68, op := Op.load 25 (Operand.tmp 67), type := 25, pos := "seqs.go:92", after := #[{ on := 3, ground := Ground.data }], guard := none }, { dst := some 69, op := Op.fieldAddr 85 (Operand.tmp 12) 3, type := 0, pos := "seqs.go:92", after := #[], guard := none }, { dst := some 70, op := Op.load 25 (Operand.tmp 69), type := 25, pos := "seqs.go:92", after := #[{ on := 5, ground := Ground.data }], guard := none }, { dst := some 71, op := Op.call { callee := Callee.builtin Builtin.append, args := #[Operand.tmp 68, Operand.tmp 70], argTypes := #[25, 25] }, type := 25, pos := "seqs.go:92", after := #[{ on := 4, ground := Ground.data }, { on := 6, ground := Ground.data }], guard := none }, { dst := some 72, op := Op.nilCheck (Operand.tmp 64), type := 0, pos := "seqs.go:92", after := #[{ on := 0, ground := Ground.data }, { on := 0, ground := Ground.phase }, { on := 1, ground := Ground.phase }, { on := 2, ground := Ground.phase }, { on := 3, ground := Ground.phase }, { on := 4, ground := Ground.phase }, { on := 5, ground := Ground.phase }, { on := 6, ground := Ground.phase }, { on := 7, ground := Ground.phase }], guard := none }, { dst := some 73, op := Op.fieldAddr 50 (Operand.tmp 72) 3, type := 0, pos := "seqs.go:92", after := #[{ on := 8, ground := Ground.data }, { on := 0, ground := Ground.phase }, { on := 1, ground := Ground.phase }, { on := 2, ground := Ground.phase }, { on := 3, ground := Ground.phase }, { on := 4, ground := Ground.phase }, { on := 5, ground := Ground.phase }, { on := 6, ground := Ground.phase }, { on := 7, ground := Ground.phase }], guard := none }, { dst := none, op := Op.store 25 (Operand.tmp 73) (Operand.tmp 71), type := 0, pos := "seqs.go:92", after := #[{ on := 9, ground := Ground.data }, { on := 7, ground := Ground.data }, { on := 7, ground := Ground.chain }, { on := 0, ground := Ground.phase }, { on := 1, ground := Ground.phase }, { on := 2, ground := Ground.phase }, { on := 3, ground := Ground.phase }, { on := 4, ground := Ground.phase }, { on := 5, ground := Ground.phase }, { on := 6, ground := Ground.phase }, { on := 7, ground := Ground.phase }], guard := none }] true).wp Tryz.prog Q { tmps := #[t0, t1, t2, t3, t4, t5, t6, t7, t8, t9, t10, t11, .pointer (some ⟨b, 0, none⟩), t13, t14, .pointer (some ⟨g, k * 4, none⟩), t16, t17, t18, t19, t20, t21, t22, t23, t24, t25, t26, t27, t28, t29, t30, t31, t32, t33, t34, t35, t36, t37, t38, t39, t40, t41, t42, t43, t44, t45, t46, t47, t48, t49, t50, t51, t52, t53, t54, t55, t56, t57, t58, t59, t60, t61, t62, t63, t64, t65, t66, t67, t68, t69, t70, t71, t72, t73, t74, t75, t76, t77, t78, t79, t80, t81, t82, t83, t84, t85, t86, t87, t88, t89, t90, t91, t92, t93, t94, t95, t96, t97, t98, t99], defers := [] } W := by
  obtain ⟨oki, vT, hv, _, q3, _, hoki, hH⟩ := HS.elem k hk
  have hd0 : W.drew.cell? ⟨g, k * 4 + 3, none⟩ = some vT := q3
  have hd1 : W.drew.cell? ⟨b, 3, none⟩ = some (.slice A1 m ca) := HX.c3
  refine region_plainG (m := 11) (S := fun w' => w'.cell? ⟨g, k * 4 + 3, none⟩ = some vT ∧ w'.cell? ⟨b, 3, none⟩ = some (.slice A1 m ca)) (ds := [10]) #[false, false, false, false, false, false, false, false, false, false, false] (by kernel_rfl) rfl rfl ⟨hd0, hd1⟩
    (fun a' W' => ∃ t64 t65 t66 t67 t68 t69 t70 t71 t72 t73 : Value, a' = { tmps := #[t0, t1, t2, t3, t4, t5, t6, t7, t8, t9, t10, t11, .pointer (some ⟨b, 0, none⟩), t13, t14, .pointer (some ⟨g, k * 4, none⟩), t16, t17, t18, t19, t20, t21, t22, t23, t24, t25, t26, t27, t28, t29, t30, t31, t32, t33, t34, t35, t36, t37, t38, t39, t40, t41, t42, t43, t44, t45, t46, t47, t48, t49, t50, t51, t52, t53, t54, t55, t56, t57, t58, t59, t60, t61, t62, t63, t64, t65, t66, t67, t68, t69, t70, t71, t72, t73, t74, t75, t76, t77, t78, t79, t80, t81, t82, t83, t84, t85, t86, t87, t88, t89, t90, t91, t92, t93, t94, t95, t96, t97, t98, t99], defers := [] } ∧ SG w j D (out.set k { out.getD k default with at_ := (out.getD k default).at_ ++ ys }) (.slice (some ⟨g, 0, none⟩) n c) W' ∧ BX b lv fr en (.slice A1 m ca) W' ∧ Below w.heap.size W W') (fun hHeld => ?_) (fun a' W' ⟨t64, t65, t66, t67, t68, t69, t70, t71, t72, t73, e, h1, h2, h3⟩ => by subst e; exact hQ _ _ _ _ _ _ _ _ _ _ W' h1 h2 h3)
  have HS1 := Lib.hid (HS.below (Below.refl _ W).drew)
  have HX1 := Lib.hid (HX.below (Below.refl _ W).drew)
  have HB1 : Hid (Below w.heap.size W W.drew) := Lib.hid (Below.refl _ W).drew
  have HC1 := Lib.hid (Kd.C_below hC (Below.refl _ W).drew)
  have Hv := Lib.hid (Kd.R_below hv (Below.refl _ W).drew)
  have HH := Lib.hid (Kd.H_drew hH)
  have Hok := Lib.hid hoki
  have Hk := Lib.hid hk
  have Hlen := Lib.hid hlen
  clear HS HX hC hv hH hoki hk hlen q3
  generalize W.drew = w1 at hd0 hd1 hHeld HS1 HX1 HB1 HC1 Hv HH ⊢
  refine pure_ (i := 0) (N := some 64) (v := ?_) (a' := ?_) #[true, false, false, false, false, false, false, false, false, false, false] rfl rfl (by kernel_rfl) (fun _ _ _ h => by cases h.1) (Or.inl ⟨by rfl, ?_⟩) ?_ ?_
  rotate_left
  · intro w'
    go_simp
    with_reducible rfl
  rotate_left
  · simp only [Act.put, List.setIfInBounds_toArray, List.set_cons_zero, List.set_cons_succ, i64_w, i32_w]
    rfl
  refine pure_ (i := 1) (N := some 65) (v := ?_) (a' := ?_) #[true, true, false, false, false, false, false, false, false, false, false] rfl rfl (by kernel_rfl) (fun _ _ _ h => by cases h.1) (Or.inl ⟨by rfl, ?_⟩) ?_ ?_
  rotate_left
  · intro w'
    go_simp
    with_reducible rfl
  rotate_left
  · simp only [Act.put, List.setIfInBounds_toArray, List.set_cons_zero, List.set_cons_succ, i64_w, i32_w]
    rfl
  refine pure_ (i := 2) (N := some 66) (v := ?_) (a' := ?_) #[true, true, true, false, false, false, false, false, false, false, false] rfl rfl (by kernel_rfl) (fun _ _ _ h => by cases h.1) (Or.inl ⟨by rfl, ?_⟩) ?_ ?_
  rotate_left
  · intro w'
    go_simp
    with_reducible rfl
  rotate_left
  · simp only [Act.put, List.setIfInBounds_toArray, List.set_cons_zero, List.set_cons_succ, i64_w, i32_w]
    rfl
  refine pure_ (i := 3) (N := some 67) (v := ?_) (a' := ?_) #[true, true, true, true, false, false, false, false, false, false, false] rfl rfl (by kernel_rfl) (fun _ _ _ h => by cases h.1) (Or.inl ⟨by rfl, ?_⟩) ?_ ?_
  rotate_left
  · intro w'
    go_simp
    with_reducible rfl
  rotate_left
  · simp only [Act.put, List.setIfInBounds_toArray, List.set_cons_zero, List.set_cons_succ, i64_w, i32_w]
    rfl
  refine pure_ (i := 5) (N := some 69) (v := ?_) (a' := ?_) #[true, true, true, true, false, true, false, false, false, false, false] rfl rfl (by kernel_rfl) (fun _ _ _ h => by cases h.1) (Or.inl ⟨by rfl, ?_⟩) ?_ ?_
  rotate_left
  · intro w'
    go_simp
    with_reducible rfl
  rotate_left
  · simp only [Act.put, List.setIfInBounds_toArray, List.set_cons_zero, List.set_cons_succ, i64_w, i32_w]
    rfl
  refine take_ (i := 4) (N := some 68) (v := ?_) (a' := ?_) #[true, true, true, true, true, true, false, false, false, false, false] rfl rfl (by kernel_rfl) (fun _ _ _ h => by cases h.1) (Or.inl ⟨by rfl, ?_⟩) hHeld ?_ ?_
  rotate_left
  · rintro w' ⟨s0, s1⟩
    go_simp
    with_reducible rfl
  rotate_left
  · simp only [Act.put, List.setIfInBounds_toArray, List.set_cons_zero, List.set_cons_succ, i64_w, i32_w]
    rfl
  refine take_ (i := 6) (N := some 70) (v := ?_) (a' := ?_) #[true, true, true, true, true, true, true, false, false, false, false] rfl rfl (by kernel_rfl) (fun _ _ _ h => by cases h.1) (Or.inl ⟨by rfl, ?_⟩) hHeld ?_ ?_
  rotate_left
  · rintro w' ⟨s0, s1⟩
    go_simp
    with_reducible rfl
  rotate_left
  · simp only [Act.put, List.setIfInBounds_toArray, List.set_cons_zero, List.set_cons_succ, i64_w, i32_w]
    rfl
  refine one_ (i := 7) (N := some 71) #[true, true, true, true, true, true, true, true, false, false, false] rfl rfl (by kernel_rfl) (by decide) (fun K hK => ?_)
  refine Kd.R_append_rows_step (Kd.int .i64) (Rr := fun x cs => cs = [.int .i64 x]) (w0 := w) w.heap.size (by simp [Region.wanted]) (.tmp 68) (.tmp 70) 25 3 (.int .i64 0) 8 rfl Tryz.underlying25 info3r rfl (by decide) (by decide) vT (out.getD k default).at_ ys A1 m ca (fun q => oki q ∨ True ∧ w1.heap.size ≤ q) (fun _ => False) rfl rfl (Kd.R_mono Hv.out (fun q hq => .inl hq)) HC1.out (fun _ _ h => h) (fun _ h => h.elim) (fun q hq => .inr ⟨trivial, hq⟩) HS1.out.bel HS1.out.bel.size (by have := Hlen.out; omega) ?_
  intro v' w2 hr hb hg hat
  obtain ⟨A', m', c', rfl⟩ : ∃ A' m' c', v' = .slice A' m' c' := by obtain ⟨A', c', h⟩ := Kd.R_slice hr; exact ⟨A', _, c', h⟩
  obtain ⟨m1, m2, m3, m4⟩ := HS1.out.mid Hv.out hg
  have hb1 : w2.cell? ⟨g, k * 4 + 3, none⟩ = some vT := by rw [m2]; exact hd0
  have hfz := m3 (k * 4 + 3)
  have HG := Lib.hid (HS1.out.addAt k Hk.out (Kd.H_widen HH.out) Hok.out Hv.out hr hb hg)
  have HX2 := Lib.hid (HX1.out.kept hg m1)
  have HB2 : Hid (Below w.heap.size W w2) := Lib.hid (HB1.out.grown hg HS1.out.bel.size (fun q e => Kd.R_base Hv.out q e))
  have M4 := Lib.hid m4
  have hwg : Hid (w.heap.size ≤ g) := Lib.hid (Kd.S_base HS1.out.rS g (by simp [Value.ownBlock]))
  have hww : Hid (w.heap.size ≤ w2.heap.size) := Lib.hid hb.size
  clear hr hb hg hat hd0 hd1 m1 m2 m3 m4
  refine hK.out _ _ ⟨hb1, HX2.out.c3⟩ (fun hHeld => ?_)
  clear hK K
  refine norm_ (a' := ?_) ?_ ?_
  rotate_left
  · show Act.put _ (some 71) _ = _
    simp only [Act.put, List.setIfInBounds_toArray, List.set_cons_zero, List.set_cons_succ, i64_w, i32_w]
    rfl
  refine pure_ (i := 8) (N := some 72) (v := ?_) (a' := ?_) #[true, true, true, true, true, true, true, true, true, false, false] rfl rfl (by kernel_rfl) (fun _ _ _ h => by cases h.1) (Or.inl ⟨by rfl, ?_⟩) ?_ ?_
  rotate_left
  · intro w'
    go_simp
    with_reducible rfl
  rotate_left
  · simp only [Act.put, List.setIfInBounds_toArray, List.set_cons_zero, List.set_cons_succ, i64_w, i32_w]
    rfl
  refine pure_ (i := 9) (N := some 73) (v := ?_) (a' := ?_) #[true, true, true, true, true, true, true, true, true, true, false] rfl rfl (by kernel_rfl) (fun _ _ _ h => by cases h.1) (Or.inl ⟨by rfl, ?_⟩) ?_ ?_
  rotate_left
  · intro w'
    go_simp
    with_reducible rfl
  rotate_left
  · simp only [Act.put, List.setIfInBounds_toArray, List.set_cons_zero, List.set_cons_succ, i64_w, i32_w]
    rfl
  refine last_ (i := 10) (N := none) #[true, true, true, true, true, true, true, true, true, true, true] rfl rfl (by kernel_rfl) (by decide) (fun K hK => ?_)
  go_simp
  refine hK.out _ _ ?_
  refine done_ (by kernel_rfl) ?_
  exact ⟨rfl, _, _, _, _, _, _, _, _, _, _, rfl, HG.out.1, HX2.out.kept HG.out.2 M4.out, HB2.out.grown HG.out.2 hww.out (fun q e => by cases e; exact hwg.out)⟩
set_option maxRecDepth 100000 in
set_option maxHeartbeats 4000000 in
theorem reg18G {w W : World} {j : Nat} {D : SMap} {out : List SeqR} {b g c q n cq i k : Nat} {para lv fr en : Int} {vA : Value} {rs : List RunR} {A0 AM : Option Addr} {m c0 cM : Nat} {M : List Int} (HS : SG w j D out (.slice (some ⟨q, 0, none⟩) n cq) W) (HX : BX b lv fr en vA W) (hk : k < out.length) (hl : rs.length ≤ 1048576) (hi : i < rs.length) (hC : dRun.C W (some ⟨g, 0, none⟩) rs.length rs) (hM : (Kd.int .i64).C W AM M.length M) (hm : M.length = m)
    (he0 : 0 ≤ (rs.getD i default).en) (he1 : (rs.getD i default).en < m) (hlv : -10 ≤ lv ∧ lv ≤ 1000) (hbs : -10 ≤ behindW rs i para m M ∧ behindW rs i para m M ≤ 1000) (t2 t3 t4 t5 t6 t9 t10 t13 t14 t16 t17 t18 t19 t20 t21 t22 t23 t24 t25 t26 t27 t28 t29 t30 t31 t32 t33 t34 t35 t36 t37 t38 t39 t40 t41 t42 t43 t44 t45 t46 t47 t48 t49 t50 t51 t52 t53 t54 t55 t56 t57 t58 t59 t60 t61 t62 t63 t64 t65 t66 t67 t68 t69 t70 t71 t72 t73 t74 t75 t76 t77 t78 t79 t80 t81 t82 t83 t84 t85 t86 t87 t88 t89 t90 t91 t92 t93 t94 t95 t96 t97 t98 t99 : Value) (Q : Exit → Act → World → Prop)
    (hQ : ∀ (t86 t87 t88 t89 t90 t91 t92 t93 t94 t95 t96 t97 : Value) (W' : World), SG w j D (out.set k { out.getD k default with eos := wayW lv (behindW rs i para m M) }) (.slice (some ⟨q, 0, none⟩) n cq) W' → BX b lv fr en vA W' → Below w.heap.size W W' → Q .normal { tmps := #[.slice A0 m c0, .int .i64 para, t2, t3, t4, t5, t6, .slice AM m cM, .slice (some ⟨g, 0, none⟩) rs.length c, t9, t10, .int .i64 (i : Int), .pointer (some ⟨b, 0, none⟩), t13, t14, .pointer (some ⟨q, k * 4, none⟩), t16, t17, t18, t19, t20, t21, t22, t23, t24, t25, t26, t27, t28, t29, t30, t31, t32, t33, t34, t35, t36, t37, t38, t39, t40, t41, t42, t43, t44, t45, t46, t47, t48, t49, t50, t51, t52, t53, t54, t55, t56, t57, t58, t59, t60, t61, t62, t63, t64, t65, t66, t67, t68, t69, t70, t71, t72, t73, t74, t75, t76, t77, t78, t79, t80, t81, t82, t83, t84, t85, t86, t87, t88, t89, t90, t91, t92, t93, t94, t95, t96, t97, t98, t99], defers := [] } W') :
    (Code.region 18 #[{ dst := some 86, op := Op.move (Operand.tmp 15), type := 87, pos := "seqs.go:96", after := #[], guard := none }, { dst := some 87, op := Op.fieldAddr 85 (Operand.tmp 12) 0, type := 0, pos := "seqs.go:96", after := #[], guard := none }, { dst := some 88, op := Op.load 3 (Operand.tmp 87), type := 3, pos := "seqs.go:96", after := #[{ on := 1, ground := Ground.data }], guard := none }, { dst := some 89, op := Op.move (Operand.tmp 8), type := 81, pos := "seqs.go:96", after := #[], guard := none }, { dst := some 90, op := Op.move (Operand.tmp 11), type := 3, pos := "seqs.go:96", after := #[], guard := none }, { dst := some 91, op := Op.move (Operand.tmp 1), type := 3, pos := "seqs.go:96", after := #[], guard := none }, { dst := some 92, op := Op.move (Operand.tmp 0), type := 25, pos := "seqs.go:96", after := #[], guard := none }, { dst := some 93, op := Op.move (Operand.tmp 7), type := 25, pos := "seqs.go:96", after := #[], guard := none }, { dst := some 94, op := Op.call { callee := Callee.value (Operand.func 63), args := #[Operand.tmp 89, Operand.tmp 90, Operand.tmp 91, Operand.tmp 92, Operand.tmp 93], argTypes := #[81, 3, 3, 25, 25] }, type := 3, pos := "seqs.go:96", after := #[{ on := 3, ground := Ground.data }, { on := 4, ground := Ground.data }, { on := 5, ground := Ground.data }, { on := 6, ground := Ground.data }, { on := 7, ground := Ground.data }], guard := none }, { dst := some 95, op := Op.call { callee := Callee.value (Operand.func 60), args := #[Operand.tmp 88, Operand.tmp 94], argTypes := #[3, 3] }, type := 3, pos := "seqs.go:96", after := #[{ on := 2, ground := Ground.data }, { on := 8, ground := Ground.data }, { on := 8, ground := Ground.chain }], guard := none }, { dst := some 96, op := Op.nilCheck (Operand.tmp 86), type := 0, pos := "seqs.go:96", after := #[{ on := 0, ground := Ground.data }, { on := 0, ground := Ground.phase }, { on := 1, ground := Ground.phase }, { on := 2, ground := Ground.phase }, { on := 3, ground := Ground.phase }, { on := 4, ground := Ground.phase }, { on := 5, ground := Ground.phase }, { on := 6, ground := Ground.phase }, { on := 7, ground := Ground.phase }, { on := 8, ground := Ground.phase }, { on := 9, ground := Ground.phase }], guard := none }, { dst := some 97, op := Op.fieldAddr 50 (Operand.tmp 96) 2, type := 0, pos := "seqs.go:96", after := #[{ on := 10, ground := Ground.data }, { on := 0, ground := Ground.phase }, { on := 1, ground := Ground.phase }, { on := 2, ground := Ground.phase }, { on := 3, ground := Ground.phase }, { on := 4, ground := Ground.phase }, { on := 5, ground := Ground.phase }, { on := 6, ground := Ground.phase }, { on := 7, ground := Ground.phase }, { on := 8, ground := Ground.phase }, { on := 9, ground := Ground.phase }], guard := none }, { dst := none, op := Op.store 3 (Operand.tmp 97) (Operand.tmp 95), type := 0, pos := "seqs.go:96", after := #[{ on := 11, ground := Ground.data }, { on := 9, ground := Ground.data }, { on := 9, ground := Ground.chain }, { on := 0, ground := Ground.phase }, { on := 1, ground := Ground.phase }, { on := 2, ground := Ground.phase }, { on := 3, ground := Ground.phase }, { on := 4, ground := Ground.phase }, { on := 5, ground := Ground.phase }, { on := 6, ground := Ground.phase }, { on := 7, ground := Ground.phase }, { on := 8, ground := Ground.phase }, { on := 9, ground := Ground.phase }], guard := none }] true).wp Tryz.prog Q { tmps := #[.slice A0 m c0, .int .i64 para, t2, t3, t4, t5, t6, .slice AM m cM, .slice (some ⟨g, 0, none⟩) rs.length c, t9, t10, .int .i64 (i : Int), .pointer (some ⟨b, 0, none⟩), t13, t14, .pointer (some ⟨q, k * 4, none⟩), t16, t17, t18, t19, t20, t21, t22, t23, t24, t25, t26, t27, t28, t29, t30, t31, t32, t33, t34, t35, t36, t37, t38, t39, t40, t41, t42, t43, t44, t45, t46, t47, t48, t49, t50, t51, t52, t53, t54, t55, t56, t57, t58, t59, t60, t61, t62, t63, t64, t65, t66, t67, t68, t69, t70, t71, t72, t73, t74, t75, t76, t77, t78, t79, t80, t81, t82, t83, t84, t85, t86, t87, t88, t89, t90, t91, t92, t93, t94, t95, t96, t97, t98, t99], defers := [] } W := by
  have hd0 : W.drew.cell? ⟨b, 0, none⟩ = some (.int .i64 lv) := HX.c0
  refine region_plainG (m := 13) (S := fun w' => w'.cell? ⟨b, 0, none⟩ = some (.int .i64 lv)) (ds := [12]) #[false, false, false, false, false, false, false, false, false, false, false, false, false] (by kernel_rfl) rfl rfl hd0
    (fun a' W' => ∃ t86 t87 t88 t89 t90 t91 t92 t93 t94 t95 t96 t97 : Value, a' = { tmps := #[.slice A0 m c0, .int .i64 para, t2, t3, t4, t5, t6, .slice AM m cM, .slice (some ⟨g, 0, none⟩) rs.length c, t9, t10, .int .i64 (i : Int), .pointer (some ⟨b, 0, none⟩), t13, t14, .pointer (some ⟨q, k * 4, none⟩), t16, t17, t18, t19, t20, t21, t22, t23, t24, t25, t26, t27, t28, t29, t30, t31, t32, t33, t34, t35, t36, t37, t38, t39, t40, t41, t42, t43, t44, t45, t46, t47, t48, t49, t50, t51, t52, t53, t54, t55, t56, t57, t58, t59, t60, t61, t62, t63, t64, t65, t66, t67, t68, t69, t70, t71, t72, t73, t74, t75, t76, t77, t78, t79, t80, t81, t82, t83, t84, t85, t86, t87, t88, t89, t90, t91, t92, t93, t94, t95, t96, t97, t98, t99], defers := [] } ∧ SG w j D (out.set k { out.getD k default with eos := wayW lv (behindW rs i para m M) }) (.slice (some ⟨q, 0, none⟩) n cq) W' ∧ BX b lv fr en vA W' ∧ Below w.heap.size W W') (fun hHeld => ?_) (fun a' W' ⟨t86, t87, t88, t89, t90, t91, t92, t93, t94, t95, t96, t97, e, h1, h2, h3⟩ => by subst e; exact hQ _ _ _ _ _ _ _ _ _ _ _ _ W' h1 h2 h3)
  have HS1 := Lib.hid (HS.below (Below.refl _ W).drew)
  have HX1 := Lib.hid (HX.below (Below.refl _ W).drew)
  have HB1 : Hid (Below w.heap.size W W.drew) := Lib.hid (Below.refl _ W).drew
  have HBh := Lib.hid (behind_all g c rs i para A0 m c0 AM cM M W.drew hl (Kd.C_below hC (Below.refl _ W).drew) hi hm (Kd.C_below hM (Below.refl _ W).drew) he0 he1)
  have Hk := Lib.hid hk
  have Hlv := Lib.hid hlv
  have Hbs := Lib.hid hbs
  have hwg : Hid (w.heap.size ≤ q) := Lib.hid (Kd.S_base HS.rS q (by simp [Value.ownBlock]))
  clear HS HX hC hM hm he0 he1 hlv hbs hk
  generalize W.drew = w1 at hd0 hHeld HS1 HX1 HB1 HBh ⊢
  obtain ⟨bs, hbsd⟩ : ∃ bs, bs = behindW rs i para m M := ⟨_, rfl⟩
  rw [← hbsd] at Hbs HBh ⊢
  clear hbsd
  have hq : ∃ x, w1.cell? ⟨q, k * 4 + 2, none⟩ = some x := by obtain ⟨_, _, _, q2, _⟩ := HS1.out.elem k Hk.out; exact ⟨_, q2⟩
  obtain ⟨x, hq⟩ := hq
  have hf : w1.frozen? ⟨q, k * 4 + 2, none⟩ = false := by obtain ⟨_, _, _, _, _, q4, _⟩ := HS1.out.elem k Hk.out; exact q4 2
  refine pure_ (i := 0) (N := some 86) (v := ?_) (a' := ?_) #[true, false, false, false, false, false, false, false, false, false, false, false, false] rfl rfl (by kernel_rfl) (fun _ _ _ h => by cases h.1) (Or.inl ⟨by rfl, ?_⟩) ?_ ?_
  rotate_left
  · intro w'
    go_simp
    with_reducible rfl
  rotate_left
  · simp only [Act.put, List.setIfInBounds_toArray, List.set_cons_zero, List.set_cons_succ, i64_w, i32_w]
    rfl
  refine pure_ (i := 1) (N := some 87) (v := ?_) (a' := ?_) #[true, true, false, false, false, false, false, false, false, false, false, false, false] rfl rfl (by kernel_rfl) (fun _ _ _ h => by cases h.1) (Or.inl ⟨by rfl, ?_⟩) ?_ ?_
  rotate_left
  · intro w'
    go_simp
    with_reducible rfl
  rotate_left
  · simp only [Act.put, List.setIfInBounds_toArray, List.set_cons_zero, List.set_cons_succ, i64_w, i32_w]
    rfl
  refine pure_ (i := 3) (N := some 89) (v := ?_) (a' := ?_) #[true, true, false, true, false, false, false, false, false, false, false, false, false] rfl rfl (by kernel_rfl) (fun _ _ _ h => by cases h.1) (Or.inl ⟨by rfl, ?_⟩) ?_ ?_
  rotate_left
  · intro w'
    go_simp
    with_reducible rfl
  rotate_left
  · simp only [Act.put, List.setIfInBounds_toArray, List.set_cons_zero, List.set_cons_succ, i64_w, i32_w]
    rfl
  refine pure_ (i := 4) (N := some 90) (v := ?_) (a' := ?_) #[true, true, false, true, true, false, false, false, false, false, false, false, false] rfl rfl (by kernel_rfl) (fun _ _ _ h => by cases h.1) (Or.inl ⟨by rfl, ?_⟩) ?_ ?_
  rotate_left
  · intro w'
    go_simp
    with_reducible rfl
  rotate_left
  · simp only [Act.put, List.setIfInBounds_toArray, List.set_cons_zero, List.set_cons_succ, i64_w, i32_w]
    rfl
  refine pure_ (i := 5) (N := some 91) (v := ?_) (a' := ?_) #[true, true, false, true, true, true, false, false, false, false, false, false, false] rfl rfl (by kernel_rfl) (fun _ _ _ h => by cases h.1) (Or.inl ⟨by rfl, ?_⟩) ?_ ?_
  rotate_left
  · intro w'
    go_simp
    with_reducible rfl
  rotate_left
  · simp only [Act.put, List.setIfInBounds_toArray, List.set_cons_zero, List.set_cons_succ, i64_w, i32_w]
    rfl
  refine pure_ (i := 6) (N := some 92) (v := ?_) (a' := ?_) #[true, true, false, true, true, true, true, false, false, false, false, false, false] rfl rfl (by kernel_rfl) (fun _ _ _ h => by cases h.1) (Or.inl ⟨by rfl, ?_⟩) ?_ ?_
  rotate_left
  · intro w'
    go_simp
    with_reducible rfl
  rotate_left
  · simp only [Act.put, List.setIfInBounds_toArray, List.set_cons_zero, List.set_cons_succ, i64_w, i32_w]
    rfl
  refine pure_ (i := 7) (N := some 93) (v := ?_) (a' := ?_) #[true, true, false, true, true, true, true, true, false, false, false, false, false] rfl rfl (by kernel_rfl) (fun _ _ _ h => by cases h.1) (Or.inl ⟨by rfl, ?_⟩) ?_ ?_
  rotate_left
  · intro w'
    go_simp
    with_reducible rfl
  rotate_left
  · simp only [Act.put, List.setIfInBounds_toArray, List.set_cons_zero, List.set_cons_succ, i64_w, i32_w]
    rfl
  refine take_ (i := 2) (N := some 88) (v := ?_) (a' := ?_) #[true, true, true, true, true, true, true, true, false, false, false, false, false] rfl rfl (by kernel_rfl) (fun _ _ _ h => by cases h.1) (Or.inl ⟨by rfl, ?_⟩) hHeld ?_ ?_
  rotate_left
  · rintro w' s0
    go_simp
    with_reducible rfl
  rotate_left
  · simp only [Act.put, List.setIfInBounds_toArray, List.set_cons_zero, List.set_cons_succ, i64_w, i32_w]
    rfl
  refine one_ (i := 8) (N := some 94) #[true, true, true, true, true, true, true, true, true, false, false, false, false] rfl rfl (by kernel_rfl) (by decide) (fun K hK => ?_)
  go_simp
  go_at_call 63
  refine (HBh.out).mono ?_
  rintro e w' ⟨rfl, hw⟩
  obtain rfl := hw.symm
  clear hw
  refine hK.out _ _ hHeld (fun hHeld => ?_)
  clear hK K
  refine one_ (i := 9) (N := some 95) #[true, true, true, true, true, true, true, true, true, true, false, false, false] rfl rfl (by kernel_rfl) (by decide) (fun K hK => ?_)
  go_simp
  go_at_call 60
  refine (way_all _ _ Hlv.out Hbs.out _).mono ?_
  rintro e w' ⟨rfl, hw⟩
  obtain rfl := hw.symm
  clear hw
  refine hK.out _ _ hHeld (fun hHeld => ?_)
  clear hK K
  obtain ⟨wy, hwy⟩ : ∃ wy, wy = wayW lv bs := ⟨_, rfl⟩
  rw [← hwy]
  clear hwy
  refine pure_ (i := 10) (N := some 96) (v := ?_) (a' := ?_) #[true, true, true, true, true, true, true, true, true, true, true, false, false] rfl rfl (by kernel_rfl) (fun _ _ _ h => by cases h.1) (Or.inl ⟨by rfl, ?_⟩) ?_ ?_
  rotate_left
  · intro w'
    go_simp
    with_reducible rfl
  rotate_left
  · simp only [Act.put, List.setIfInBounds_toArray, List.set_cons_zero, List.set_cons_succ, i64_w, i32_w]
    rfl
  refine pure_ (i := 11) (N := some 97) (v := ?_) (a' := ?_) #[true, true, true, true, true, true, true, true, true, true, true, true, false] rfl rfl (by kernel_rfl) (fun _ _ _ h => by cases h.1) (Or.inl ⟨by rfl, ?_⟩) ?_ ?_
  rotate_left
  · intro w'
    go_simp
    with_reducible rfl
  rotate_left
  · simp only [Act.put, List.setIfInBounds_toArray, List.set_cons_zero, List.set_cons_succ, i64_w, i32_w]
    rfl
  refine last_ (i := 12) (N := none) #[true, true, true, true, true, true, true, true, true, true, true, true, true] rfl rfl (by kernel_rfl) (by decide) (fun K hK => ?_)
  go_simp
  refine hK.out _ _ ?_
  refine done_ (by kernel_rfl) ?_
  have HG := HS1.out.setEos k Hk.out wy
  have m4 := HS1.out.typ
  exact ⟨rfl, _, _, _, _, _, _, _, _, _, _, _, _, rfl, HG.1, HX1.out.kept HG.2 m4, HB1.out.grown HG.2 HS1.out.bel.size (fun q e => by cases e; exact hwg.out)⟩
end Go.Proofs.YtdpifkhkemeclaaGreat
namespace Go.Proofs.YtdpifkhkemeclaaGreat
open Go.RowKit Go.Shelf Go.Maps Go.Proofs.YtdpifkhkemeclaaGreatW.PrintWords
def seqFin (rs : List RunR) (cl M : List Int) (para : Int) (i : Nat) (o : List SeqR) (k : Nat) (f : Int → Option Nat) : List SeqR × (Int → Option Nat) :=
  if (goesW rs i cl M).2 = true then (o.set k { o.getD k default with at_ := (o.getD k default).at_ ++ (rs.getD i default).at_ }, fun x => if x = (goesW rs i cl M).1 then some k else f x)
  else ((o.set k { o.getD k default with at_ := (o.getD k default).at_ ++ (rs.getD i default).at_ }).set k { (o.set k { o.getD k default with at_ := (o.getD k default).at_ ++ (rs.getD i default).at_ }).getD k default with eos := wayW (rs.getD i default).lv (behindW rs i para cl.length M) }, f)
def seqStep (rs : List RunR) (cl M : List Int) (para : Int) (i : Nat) (st : List SeqR × (Int → Option Nat)) : List SeqR × (Int → Option Nat) :=
  match st.2 (rs.getD i default).fr with
  | some k => seqFin rs cl M para i st.1 k st.2
  | none => seqFin rs cl M para i (st.1 ++ [⟨(rs.getD i default).lv, wayW (rs.getD i default).lv (besideW rs ((i : Int) - 1) para), 0, []⟩]) st.1.length st.2
def seqTo (rs : List RunR) (cl M : List Int) (para : Int) : Nat → List SeqR × (Int → Option Nat)
  | 0 => ([], fun _ => none)
  | i + 1 => seqStep rs cl M para i (seqTo rs cl M para i)
def rsW (para : Int) (l : List Int) : List RunR := runsOf (kpTo (exLv para l) (exLv para l).length)
def seqsW (para : Int) (l : List Int) : List SeqR := (seqTo (rsW para l) l (matchW l) para (rsW para l).length).1
structure MapIs (D : SMap) (f : Int → Option Nat) : Prop where
  map : IsMap D
  has : ∀ x : Int, (Lit.int .i64 x).wf = true → Maps.has D (.int .i64 x) = (f x).isSome
  at_ : ∀ (x : Int) (k : Nat), (Lit.int .i64 x).wf = true → f x = some k → D.atKey (.int .i64 x) (.lit (.int .i64 0)) = .lit (.int .i64 (k : Int))
theorem MapIs.nil : MapIs (.map []) (fun _ => none) := ⟨isMap_empty, fun x _ => rfl, fun x k _ h => by cases h⟩
theorem isMap_put {D : SMap} (h : IsMap D) (k : Lit) (d : SMap) : IsMap (D.put k d) := by
  obtain ⟨es, rfl⟩ := h
  exact ⟨_, rfl⟩
theorem MapIs.put {D : SMap} {f : Int → Option Nat} (h : MapIs D f) (x : Int) (k : Nat) : MapIs (D.put (.int .i64 x) (.lit (.int .i64 (k : Int)))) (fun y => if y = x then some k else f y) := by
  refine ⟨isMap_put h.map _ _, fun y hy => ?_, fun y j hy hj => ?_⟩
  · by_cases e : y = x
    · subst e
      rw [if_pos rfl, has_put_same h.map (by trivial)]
      rfl
    · rw [if_neg e, has_put_other (by simp [e])]
      exact h.has y hy
  · by_cases e : y = x
    · subst e
      rw [if_pos rfl] at hj
      cases hj
      rw [atKey_put_same h.map (by trivial)]
    · rw [if_neg e] at hj
      rw [atKey_put_other (by simp [e])]
      exact h.at_ y j hy hj
def RunIn (pl : List (Nat × Int)) (r : RunR) : Prop := (∃ x ∈ pl, r.lv = x.2) ∧ (∃ x ∈ pl, r.fr = (x.1 : Int)) ∧ (∃ x ∈ pl, r.en = (x.1 : Int))
theorem RunIn.mono {pl ql : List (Nat × Int)} (h : ∀ x ∈ pl, x ∈ ql) {r : RunR} : RunIn pl r → RunIn ql r
  | ⟨⟨x, hx, e⟩, ⟨y, hy, e'⟩, ⟨z, hz, e''⟩⟩ => ⟨⟨x, h x hx, e⟩, ⟨y, h y hy, e'⟩, ⟨z, h z hz, e''⟩⟩
theorem mem_getD {α : Type} (l : List α) (d : α) (k : Nat) (h : k < l.length) : l.getD k d ∈ l := by
  rw [List.getD_eq_getElem?_getD, List.getElem?_eq_getElem h]; exact List.getElem_mem h
theorem getD_of_mem {α : Type} {l : List α} (d : α) {x : α} (h : x ∈ l) : ∃ k, k < l.length ∧ l.getD k d = x := by
  obtain ⟨k, hk, e⟩ := List.mem_iff_getElem.1 h
  exact ⟨k, hk, by rw [List.getD_eq_getElem?_getD, List.getElem?_eq_getElem hk]; exact e⟩
theorem runsOf_in (l : List (Nat × Int)) : ∀ r ∈ runsOf l, RunIn l r := by
  refine snoc_ind (P := fun l => ∀ r ∈ runsOf l, RunIn l r) (fun r hr => by cases hr) (fun l x ih => ?_) l
  rw [runsOf_snoc]
  have hx : x ∈ l ++ [x] := by simp
  have hlast : ∀ r ∈ runNew (runsOf l) x.1 x.2, (∃ y ∈ l ++ [x], r.lv = y.2) ∧ (∃ y ∈ l ++ [x], r.fr = (y.1 : Int)) := by
    intro r hr
    unfold runNew at hr
    split at hr
    · rcases List.mem_append.1 hr with hr | hr
      · have := (ih r hr).mono (ql := l ++ [x]) (fun y hy => List.mem_append_left _ hy)
        exact ⟨this.1, this.2.1⟩
      · rw [List.mem_singleton] at hr
        subst hr
        exact ⟨⟨x, hx, rfl⟩, ⟨x, hx, rfl⟩⟩
    · have := (ih r hr).mono (ql := l ++ [x]) (fun y hy => List.mem_append_left _ hy)
      exact ⟨this.1, this.2.1⟩
  have hne := List.length_pos_iff.2 (runNew_ne (runsOf l) x.1 x.2)
  have hto : ∀ r ∈ runTo (runNew (runsOf l) x.1 x.2) x.1, RunIn (l ++ [x]) r := by
    intro r hr
    unfold runTo at hr
    obtain ⟨k, hk, rfl⟩ := getD_of_mem default hr
    rw [List.length_set] at hk
    by_cases e : (runNew (runsOf l) x.1 x.2).length - 1 = k
    · subst e
      rw [getD_set_self _ _ _ _ hk]
      have := hlast _ (mem_getD _ default _ hk)
      exact ⟨this.1, this.2, x, hx, rfl⟩
    · rw [getD_set_other _ _ _ _ _ e]
      have hk' : k < (runsOf l).length := by
        unfold runNew at hk e
        split at hk
        · rename_i h
          rw [if_pos h] at e
          rw [List.length_append, List.length_singleton] at hk e
          omega
        · exact hk
      have e2 : (runNew (runsOf l) x.1 x.2).getD k default = (runsOf l).getD k default := by
        unfold runNew
        split
        · rw [List.getD_eq_getElem?_getD, List.getElem?_append_left hk', List.getD_eq_getElem?_getD]
        · rfl
      rw [e2]
      exact (ih _ (mem_getD _ default _ hk')).mono (fun y hy => List.mem_append_left _ hy)
  intro r hr
  unfold runStep runAt at hr
  obtain ⟨k, hk, rfl⟩ := getD_of_mem default hr
  rw [List.length_set] at hk
  by_cases e : (runTo (runNew (runsOf l) x.1 x.2) x.1).length - 1 = k
  · subst e
    rw [getD_set_self _ _ _ _ hk]
    have := hto _ (mem_getD _ default _ hk)
    exact ⟨this.1, this.2.1, this.2.2⟩
  · rw [getD_set_other _ _ _ _ _ e]
    exact hto _ (mem_getD _ default _ hk)
def atSum (rs : List RunR) : Nat := (rs.map (fun r => r.at_.length)).sum
theorem atSum_set (rs : List RunR) : ∀ (k : Nat) (r : RunR), k < rs.length → atSum (rs.set k r) + (rs.getD k default).at_.length = atSum rs + r.at_.length := by
  induction rs with
  | nil => intro k r h; cases h
  | cons a rs ih =>
    intro k r h
    cases k with
    | zero => simp [atSum, List.set]; omega
    | succ k =>
      have := ih k r (by simpa using h)
      simp only [atSum, List.set_cons_succ, List.map_cons, List.sum_cons, List.getD_cons_succ] at this ⊢
      omega
theorem atSum_le (rs : List RunR) : ∀ k, (rs.getD k default).at_.length ≤ atSum rs := by
  induction rs with
  | nil => intro k; simp [default]
  | cons a rs ih =>
    intro k
    cases k with
    | zero => simp [atSum]
    | succ k => have := ih k; simp [atSum] at this ⊢; omega
theorem atSum_at (rs : List RunR) (k : Nat) (hk : k < rs.length) (r : RunR) {d : Nat} (h : r.at_.length = (rs.getD k default).at_.length + d) : atSum (rs.set k r) = atSum rs + d := by
  have := atSum_set rs k r hk
  omega
theorem runsOf_sum (l : List (Nat × Int)) : atSum (runsOf l) = l.length := by
  refine snoc_ind (P := fun l => atSum (runsOf l) = l.length) rfl (fun l x ih => ?_) l
  rw [runsOf_snoc, List.length_append, List.length_singleton, ← ih]
  have h0 : atSum (runNew (runsOf l) x.1 x.2) = atSum (runsOf l) := by
    unfold runNew
    split
    · simp [atSum]
    · rfl
  have hne := List.length_pos_iff.2 (runNew_ne (runsOf l) x.1 x.2)
  have h1 : atSum (runTo (runNew (runsOf l) x.1 x.2) x.1) = atSum (runNew (runsOf l) x.1 x.2) + 0 := atSum_at _ _ (by omega) _ rfl
  have h2 : atSum (runAt (runTo (runNew (runsOf l) x.1 x.2) x.1) x.1) = atSum (runTo (runNew (runsOf l) x.1 x.2) x.1) + 1 := atSum_at _ _ (by rw [runTo_len]; omega) _ (by simp)
  show atSum (runAt (runTo (runNew (runsOf l) x.1 x.2) x.1) x.1) = _
  omega
theorem atSum_take (rs : List RunR) : ∀ i, i < rs.length → atSum (rs.take i) + (rs.getD i default).at_.length = atSum (rs.take (i + 1)) := by
  intro i hi
  rw [List.take_succ_eq_append_getElem hi]
  unfold atSum
  rw [List.map_append, List.sum_append, List.getD_eq_getElem?_getD, List.getElem?_eq_getElem hi]
  simp
theorem atSum_take_le (rs : List RunR) (i : Nat) : atSum (rs.take i) ≤ atSum rs := by
  have : atSum (rs.take i ++ rs.drop i) = atSum (rs.take i) + atSum (rs.drop i) := by unfold atSum; rw [List.map_append, List.sum_append]
  rw [List.take_append_drop] at this
  omega
structure SeqI (rs : List RunR) (i : Nat) (st : List SeqR × (Int → Option Nat)) : Prop where
  len : st.1.length ≤ i
  at_ : ∀ k, (st.1.getD k default).at_.length ≤ atSum (rs.take i)
  dom : ∀ x k, st.2 x = some k → k < st.1.length
theorem seqFin_inv {rs : List RunR} {cl M : List Int} {para : Int} {i : Nat} {o : List SeqR} {k : Nat} {f : Int → Option Nat} (hi : i < rs.length) (hk : k < o.length) (hl : o.length ≤ i + 1) (ha : ∀ k, (o.getD k default).at_.length ≤ atSum (rs.take i)) (hd : ∀ x k, f x = some k → k < o.length) : SeqI rs (i + 1) (seqFin rs cl M para i o k f) := by
  have hs := atSum_take rs i hi
  have key : ∀ j, ((o.set k { o.getD k default with at_ := (o.getD k default).at_ ++ (rs.getD i default).at_ }).getD j default).at_.length ≤ atSum (rs.take (i + 1)) := by
    intro j
    by_cases e : k = j
    · subst e
      rw [getD_set_self _ _ _ _ hk]
      have := ha k
      simp only [List.length_append]
      omega
    · rw [getD_set_other _ _ _ _ _ e]
      have := ha j
      omega
  unfold seqFin
  split
  · refine ⟨by simp only [List.length_set]; exact hl, key, fun x j h => ?_⟩
    simp only [List.length_set]
    dsimp only at h
    split at h
    · cases h; exact hk
    · exact hd x j h
  · refine ⟨by simp only [List.length_set]; exact hl, fun j => ?_, fun x j h => by simp only [List.length_set]; exact hd x j h⟩
    by_cases e : k = j
    · subst e
      rw [getD_set_self _ _ _ _ (by rw [List.length_set]; exact hk)]
      exact key k
    · rw [getD_set_other _ _ _ _ _ e]
      exact key j
theorem getD_snoc_le {rs : List RunR} {i : Nat} {o : List SeqR} {lv y e : Int} (ha : ∀ k, (o.getD k default).at_.length ≤ atSum (rs.take i)) : ∀ k, ((o ++ [(⟨lv, y, e, []⟩ : SeqR)]).getD k default).at_.length ≤ atSum (rs.take i) := by
  intro k
  rw [List.getD_eq_getElem?_getD, List.getElem?_append]
  split
  · have := ha k; rw [List.getD_eq_getElem?_getD] at this; exact this
  · rcases Nat.eq_zero_or_pos (k - o.length) with h0 | h0
    · rw [h0]; simp
    · rw [List.getElem?_eq_none (by simp; omega)]; simp [default]
theorem seqTo_inv (rs : List RunR) (cl M : List Int) (para : Int) : ∀ i, i ≤ rs.length → SeqI rs i (seqTo rs cl M para i)
  | 0, _ => ⟨Nat.le_refl _, fun k => by simp [seqTo, default], fun x k h => by cases h⟩
  | i + 1, hi => by
    have ih := seqTo_inv rs cl M para i (by omega)
    rw [seqTo]
    unfold seqStep
    split
    · rename_i k hk
      exact seqFin_inv (by omega) (ih.dom _ _ hk) (by have := ih.len; omega) ih.at_ ih.dom
    · exact seqFin_inv (by omega) (by rw [List.length_append, List.length_singleton]; omega) (by rw [List.length_append, List.length_singleton]; have := ih.len; omega) (getD_snoc_le ih.at_) (fun x k h => by rw [List.length_append]; have := ih.dom x k h; omega)
theorem exTo_bd (para : Int) (l : List Int) (hp : para = 0 ∨ para = 1) : ∀ i, ∀ z ∈ (exTo para l i).2.1, -1 ≤ z ∧ z ≤ 126
  | 0, z, h => by cases h
  | i + 1, z, h => by
    have hI := exTo_inv para l hp i
    have hI' := exTo_inv para l hp (i + 1)
    rw [exTo] at h hI'
    rcases List.mem_append.1 h with h | h
    · exact exTo_bd para l hp i z h
    · rw [List.mem_singleton] at h
      subst h
      obtain ⟨t, r, hs, h0, h1⟩ := hI.top
      obtain ⟨t', r', hs', h0', h1'⟩ := hI'.top
      unfold exAt
      split
      · omega
      · split
        · omega
        · split
          · rw [topW_of hs']; omega
          · rw [topW_of hs]; omega
theorem exLv_len (para : Int) (l : List Int) : (exLv para l).length = l.length := (exTo_len para l l.length).1
theorem kpTo_in {zs : List Int} : ∀ {k : Nat} {x : Nat × Int}, x ∈ kpTo zs k → x.1 < k ∧ x.2 = zs.getD x.1 0 ∧ 0 ≤ x.2
  | 0, x, h => by simp [kpTo] at h
  | k + 1, x, h => by
    rcases List.mem_append.1 h with h | h
    · have := kpTo_in h; omega
    · split at h
      · rename_i h0
        rw [List.mem_singleton] at h
        subst h
        exact ⟨Nat.lt_succ_self _, by rw [List.getD_eq_getElem?_getD], h0⟩
      · cases h
theorem rsW_run (para : Int) (l : List Int) (hp : para = 0 ∨ para = 1) (i : Nat) (hi : i < (rsW para l).length) :
    (0 ≤ ((rsW para l).getD i default).lv ∧ ((rsW para l).getD i default).lv ≤ 126) ∧ (0 ≤ ((rsW para l).getD i default).fr ∧ ((rsW para l).getD i default).fr < l.length) ∧ (0 ≤ ((rsW para l).getD i default).en ∧ ((rsW para l).getD i default).en < l.length) := by
  obtain ⟨⟨x, hx, ex⟩, ⟨y, hy, ey⟩, ⟨z, hz, ez⟩⟩ := runsOf_in _ _ (mem_getD (rsW para l) default i hi)
  obtain ⟨x1, x2, x3⟩ := kpTo_in hx
  obtain ⟨y1, y2, y3⟩ := kpTo_in hy
  obtain ⟨z1, z2, z3⟩ := kpTo_in hz
  have hb : x.2 ∈ exLv para l := by
    rw [x2]
    exact mem_getD _ 0 _ x1
  have := exTo_bd para l hp l.length _ hb
  rw [exLv_len] at y1 z1
  unfold rsW at *
  omega
theorem rsW_len (para : Int) (l : List Int) : (rsW para l).length ≤ l.length := by
  unfold rsW
  have h1 := runsOf_len (kpTo (exLv para l) (exLv para l).length)
  have h2 := kpTo_length (exLv para l) (exLv para l).length
  rw [exLv_len] at h1 h2
  rw [exLv_len]
  omega
theorem rsW_sum (para : Int) (l : List Int) : atSum (rsW para l) ≤ l.length := by
  unfold rsW
  rw [runsOf_sum]
  have h2 := kpTo_length (exLv para l) (exLv para l).length
  rw [exLv_len] at h2 ⊢
  exact h2
theorem besideW_bd (para : Int) (l : List Int) (hp : para = 0 ∨ para = 1) (j : Int) : 0 ≤ besideW (rsW para l) j para ∧ besideW (rsW para l) j para ≤ 126 := by
  unfold besideW
  split
  · omega
  · exact (rsW_run para l hp j.toNat (by omega)).1
theorem behindW_bd (para : Int) (l : List Int) (hp : para = 0 ∨ para = 1) (i n : Nat) (M : List Int) : 0 ≤ behindW (rsW para l) i para n M ∧ behindW (rsW para l) i para n M ≤ 126 := by
  unfold behindW
  split
  · omega
  · exact besideW_bd para l hp _
theorem wf_i64 {x : Int} (h0 : -1 ≤ x) (h1 : x ≤ 9007199254740992) : (Lit.int .i64 x).wf = true := by
  simp [Lit.wf, IntKind.min, IntKind.max, IntKind.bits, IntKind.signed]
  omega
end Go.Proofs.YtdpifkhkemeclaaGreat
namespace Go.Proofs.YtdpifkhkemeclaaGreat
open Go.RowKit Go.Shelf Go.Maps Go.Proofs.YtdpifkhkemeclaaGreatW.PrintWords
theorem ints_of_R' {w : World} {base : Nat} {ok : Nat → Prop} {v : Value} {zs : List Int} (h : Kd.R (Kd.int .i64) 3 w base ok v zs) : IntsB w.heap.size w v zs ∧ ∃ A c, v = .slice A zs.length c := by
  obtain ⟨inner, ho⟩ := Kd.R_own h
  rcases ho.2 with ⟨rfl, h0⟩ | ⟨g, cap, cur, rfl, hB, hg, r⟩
  · have : zs = [] := List.eq_nil_of_length_eq_zero (by omega)
    subst this
    exact ⟨.inl ⟨_, _, rfl, rfl⟩, _, _, rfl⟩
  · refine ⟨.inr ⟨g, 0, cap, rfl, lt_of_block hg, fun j hj => ?_⟩, _, _, rfl⟩
    obtain ⟨ad, e, hc⟩ := Kd.at_int (Kd.R_reads' h).2.2 (j : Int) (by omega) (by omega)
    injection e with e
    subst e
    have hrd : rd zs (j : Int) = zs[j]?.getD 0 := by simp [rd, List.getD_eq_getElem?_getD]
    rw [← hrd, Nat.zero_add]
    rwa [Int.toNat_natCast, add_plain] at hc
theorem IntsB.up' {a b : Nat} (h : a ≤ b) {W : World} {v : Value} {zs : List Int} : IntsB a W v zs → IntsB b W v zs
  | .inl e => .inl e
  | .inr ⟨g, off, cap, e, hb, hc⟩ => .inr ⟨g, off, cap, e, Nat.lt_of_lt_of_le hb h, hc⟩
theorem law3z : Keyed Tryz.prog 3 := int_keyed Tryz.underlying3
theorem zero3z (w : World) : (zeroValue 3).run Tryz.prog w = .ok (.int .i64 0) w := by kernel_rfl
theorem matchW_len' (l : List Int) : (matchW l).length = l.length := (mtTo_inv l l.length (Nat.le_refl _)).1
theorem goesW_bd (para : Int) (l : List Int) (hp : para = 0 ∨ para = 1) (i : Nat) (hi : i < (rsW para l).length) : 0 ≤ (goesW (rsW para l) i l (matchW l)).1 ∧ (goesW (rsW para l) i l (matchW l)).1 ≤ l.length := by
  obtain ⟨_, _, h0, h1⟩ := rsW_run para l hp i hi
  unfold goesW
  split
  · rename_i ho
    obtain ⟨e, he⟩ : ∃ e : Nat, ((rsW para l).getD i default).en = (e : Int) := ⟨((rsW para l).getD i default).en.toNat, by omega⟩
    rw [he] at ho h1 ⊢
    obtain ⟨m, hm, h2, h3⟩ := match_next l e (by omega) (by simpa [rd] using ho)
    simp only [rd, Int.toNat_natCast]
    rw [hm]
    omega
  · dsimp only; omega
structure SL (w3 : World) (rs : List RunR) (l M : List Int) (para : Int) (i : Nat) (st : List SeqR × (Int → Option Nat)) (D : SMap) (v : Value) (W : World) : Prop where
  eq : st = seqTo rs l M para i
  map : MapIs D st.2
  sg : SG w3 i D st.1 v W
set_option maxRecDepth 1000000 in
set_option maxHeartbeats 16000000 in
theorem sequences_all (A0 : Option Addr) (c0 : Nat) (l : List Int) (para : Int) (w : World) (hr0 : Kd.C (Kd.int .i64) w A0 l.length l) (hcap : l.length ≤ c0) (hl : l.length ≤ 1000000) (hpa : para = 0 ∨ para = 1) :
    Calls Tryz.prog 28 #[.slice A0 l.length c0, .int .i64 para] w fun e w' => ∃ v, e = .returned v ∧ Kd.S dSeq 50 w' w.heap.size (fun _ => True) v (seqsW para l) ∧ Below w.heap.size w w' := by
  have HC := Lib.hid hr0
  have Hcap := Lib.hid hcap
  have Hll := Lib.hid hl
  have HPa := Lib.hid hpa
  clear hr0 hl hpa hcap
  go_enter Tryz.func28, Tryz.ntmps28
  go_wp2_with (first
    | (go_at_call 27; refine (explicit_all A0 c0 l para _ HC.out Hcap.out Hll.out HPa.out).mono ?_; rintro e w1 ⟨v1, v2, rfl, hR1, hR2, hb1⟩; obtain ⟨hI1, A1, c1, rfl⟩ := ints_of_R' hR1; have HI1 := Lib.hid hI1; have Hb1 := Lib.hid hb1; clear hR1 hR2 hb1 hI1)
    | (go_at_call 50; refine (match_all A0 c0 l _ (Kd.C_below HC.out (Hb1.out)) (by have := Hll.out; omega)).mono ?_; rintro e w2 ⟨rfl, hM, hb2⟩; have HM := Lib.hid hM; have Hb2 := Lib.hid hb2; clear hM hb2))
  refine (callsIn_wide.1 (runs_all 5 (by omega) _ A1 _ c1 rfl (exLv para l) (by rw [exLv_len]; have := Hll.out; omega) _ ((HI1.out.below Hb2.out).up' Hb2.out.size))).mono ?_
  rintro e w3 ⟨vO, rfl, hG⟩
  obtain ⟨rs, hrs⟩ : ∃ rs, rs = rsW para l := ⟨_, rfl⟩
  obtain ⟨M, hM⟩ : ∃ M, M = matchW l := ⟨_, rfl⟩
  have HG : Hid (RG w2 (.slice A1 (exLv para l).length c1) rs vO w3) := Lib.hid (by rw [hrs]; exact hG)
  have Hrs := Lib.hid hrs
  have HMe := Lib.hid hM
  clear hG hrs hM
  by_cases hne : rs = []
  · obtain ⟨A, cR, rfl⟩ := Kd.S_slice HG.out.rR
    have hz : rs.length = 0 := by rw [hne]; rfl
    rw [hz] at HG ⊢
    have Hne := Lib.hid hne
    clear hne hz
    have hmm := @run_makeMap Tryz.prog
    go_wp2
    go_loopg [10, 31] 1 (fun gk v10 v31 wr => v10 = .slice none 0 0 ∧ v31 = .int .i64 0 ∧ wr = w3.alloc (.map #[] 0))
    case atStart => exact ⟨rfl, rfl, rfl⟩
    case round =>
      obtain ⟨rfl, rfl, rfl⟩ := hrel
      go_wp2
      go_ret
      have hb := ((Hb1.out.trans (Hb2.out.mono Hb1.out.size)).trans (HG.out.bel.mono (Nat.le_trans Hb1.out.size Hb2.out.size))).alloc (Nat.le_trans Hb1.out.size (Nat.le_trans Hb2.out.size HG.out.bel.size)) (.map #[] 0)
      refine ⟨_, rfl, ?_, hb⟩
      have e : seqsW para l = [] := by unfold seqsW; rw [← Hrs.out, Hne.out]; rfl
      rw [e]
      exact Kd.S_nil _ _ _ _ _
  obtain ⟨g, cR, rfl, _, _, _⟩ := HG.out.form hne
  clear hne
  have HRC : Hid (dRun.C w3 (some ⟨g, 0, none⟩) rs.length rs) := Lib.hid (Kd.S_reads' HG.out.rR).2.2
  have HcR : Hid (rs.length ≤ cR) := Lib.hid (Kd.S_reads' HG.out.rR).2.1
  have Hb13 : Hid (Below w.heap.size w w3) := Lib.hid ((Hb1.out.trans (Hb2.out.mono Hb1.out.size)).trans (HG.out.bel.mono (Nat.le_trans Hb1.out.size Hb2.out.size)))
  have HCC : Hid ((Kd.int .i64).C w3 A0 l.length l) := Lib.hid (by
    have e1 := Kd.C_below HC.out Hb1.out
    have e2 := Kd.C_below e1 Hb2.out
    exact Kd.C_below e2 HG.out.bel)
  have HMl : Hid (M.length = l.length) := Lib.hid (by rw [HMe.out]; exact matchW_len' l)
  have HMC : Hid ((Kd.int .i64).C w3 (some ⟨w1.heap.size, 0, none⟩) M.length M) := Lib.hid (by
    have h1 := HM.out
    rw [← HMe.out] at h1
    have h2 : (Kd.int .i64).R 3 w2 w1.heap.size (fun _ => True) (.slice (some ⟨w1.heap.size, 0, none⟩) l.length l.length) M := Kd.R_of_own (by rw [HMl.out]; exact h1) (fun _ _ => trivial)
    exact Kd.C_below (Kd.R_reads' h2).2.2 HG.out.bel)
  have HRN : Hid (rs.length ≤ l.length) := Lib.hid (by rw [Hrs.out]; exact rsW_len para l)
  have Hl : Hid (rs.length ≤ 1048576) := Lib.hid (by have := HRN.out; have := Hll.out; omega)
  obtain ⟨AM, hAM⟩ : ∃ AM : Option Addr, AM = some ⟨w1.heap.size, 0, none⟩ := ⟨_, rfl⟩
  rw [← hAM] at HMC ⊢
  clear hAM HM HI1 Hb1 Hb2
  obtain ⟨cM, hcM⟩ : ∃ cM : Nat, cM = l.length := ⟨_, rfl⟩
  have hmm := @run_makeMap Tryz.prog
  go_wp2
  go_loopg [10, 31] (rs.length + 1) (fun gk v10 v31 wr => ∃ (i : Nat) (st : List SeqR × (Int → Option Nat)) (D : SMap) (v : Value), i ≤ rs.length ∧ gk = rs.length + 1 - i ∧ v31 = .int .i64 i ∧ v = v10 ∧ Hid (SL w3 rs l M para i st D v wr))
  case atStart => exact ⟨0, ([], fun _ => none), .map [], _, Nat.zero_le _, rfl, rfl, rfl, Lib.hid ⟨rfl, MapIs.nil, ⟨(Below.refl _ _).alloc (Nat.le_refl _) _, World.ownsMap_made _ _ _ _, Kd.S_nil _ _ _ _ _⟩⟩⟩
  case round =>
    obtain ⟨i, st, D, v10, hi, hgk, rfl, rfl, HSL⟩ := hrel
    have Hg := Lib.hid hgk
    clear hgk hcM
    by_cases hlt : i < rs.length
    · have hlt' : (i : Int) < (rs.length : Int) := by omega
      have hib : (i : Int) < 1048576 := by have := Hl.out; omega
      have Hi : Hid (i < rs.length ∧ rs.length ≤ cR) := Lib.hid ⟨hlt, HcR.out⟩
      obtain ⟨A1r, c1r, hcr, hCr, p0, p1, p2, p3⟩ := runC_at HRC.out i hlt
      have bg := World.block_lt_of_cell? w3 _ p0
      have q0 := (HSL.out.sg.bel.cell (p := ⟨g, 0 + i * 4, none⟩) bg).trans p0
      have q1 := (HSL.out.sg.bel.cell (p := ⟨g, 0 + i * 4 + 1, none⟩) bg).trans p1
      have q2 := (HSL.out.sg.bel.cell (p := ⟨g, 0 + i * 4 + 2, none⟩) bg).trans p2
      have q3 := (HSL.out.sg.bel.cell (p := ⟨g, 0 + i * 4 + 3, none⟩) bg).trans p3
      clear p0 p1 p2 p3 bg
      have HRun : Hid ((0 ≤ (rs.getD i default).lv ∧ (rs.getD i default).lv ≤ 126) ∧ (0 ≤ (rs.getD i default).fr ∧ (rs.getD i default).fr < l.length) ∧ (0 ≤ (rs.getD i default).en ∧ (rs.getD i default).en < l.length)) := Lib.hid (by rw [Hrs.out]; exact rsW_run para l HPa.out i (by rw [← Hrs.out]; exact hlt))
      obtain ⟨lv, hlv⟩ : ∃ x, x = (rs.getD i default).lv := ⟨_, rfl⟩
      obtain ⟨fr, hfr⟩ : ∃ x, x = (rs.getD i default).fr := ⟨_, rfl⟩
      obtain ⟨en, hen⟩ : ∃ x, x = (rs.getD i default).en := ⟨_, rfl⟩
      obtain ⟨ln, hln⟩ : ∃ x, x = (rs.getD i default).at_.length := ⟨_, rfl⟩
      rw [Nat.zero_add, ← hlv] at q0
      rw [Nat.zero_add, ← hfr] at q1
      rw [Nat.zero_add, ← hen] at q2
      rw [Nat.zero_add, ← hln] at q3
      rw [← hln] at hCr hcr
      have HCr := Lib.hid hCr
      have Hlve := Lib.hid hlv
      have Hfre := Lib.hid hfr
      have Hlne := Lib.hid hln
      have Hen : Hid (0 ≤ (rs.getD i default).en ∧ (rs.getD i default).en < (l.length : Int)) := Lib.hid HRun.out.2.2
      have Hlv : Hid (-10 ≤ lv ∧ lv ≤ 1000) := Lib.hid (by have := HRun.out.1; rw [← hlv] at this; omega)
      have Hwf : Hid ((Lit.int .i64 fr).wf = true) := Lib.hid (by have h1 := HRun.out.2.1; rw [← hfr] at h1; exact wf_i64 (by omega) (by have := Hll.out; omega))
      have Hbh : Hid (-10 ≤ behindW rs i para l.length M ∧ behindW rs i para l.length M ≤ 1000) := Lib.hid (by rw [Hrs.out]; have := behindW_bd para l HPa.out i l.length M; omega)
      have Hbs : Hid (-10 ≤ besideW rs ((i : Int) - 1) para ∧ besideW rs ((i : Int) - 1) para ≤ 1000) := Lib.hid (by rw [Hrs.out]; have := besideW_bd para l HPa.out ((i : Int) - 1); omega)
      obtain ⟨gx, hgx⟩ : ∃ gx, gx = (goesW rs i l M).1 := ⟨_, rfl⟩
      have Hgx := Lib.hid hgx
      have Hgwf : Hid ((Lit.int .i64 gx).wf = true) := Lib.hid (by
        have := goesW_bd para l HPa.out i (by rw [← Hrs.out]; exact hlt)
        rw [← Hrs.out, ← HMe.out, ← hgx] at this
        exact wf_i64 (by omega) (by have := Hll.out; omega))
      have HInv : Hid (SeqI rs i st) := Lib.hid (by rw [HSL.out.eq]; exact seqTo_inv rs l M para i (Nat.le_of_lt hlt))
      have Hsum : Hid (atSum (rs.take i) + ln ≤ 1048576) := Lib.hid (by
        have h1 := atSum_take rs i hlt
        have h2 := atSum_take_le rs (i + 1)
        have h3 := rsW_sum para l
        rw [← Hrs.out] at h3
        rw [← hln] at h1
        have := Hll.out
        omega)
      clear hCr hcr hlv hfr hen hln hgx hlt hi
      have HSt := Lib.hid HSL.out.eq
      have HMap := Lib.hid HSL.out.map
      have HS := Lib.hid HSL.out.sg
      obtain ⟨out, f⟩ := st
      have HS5 : Hid (SG w3 i D out v10 (wr.alloc (.cells #[.int .i64 lv, .int .i64 fr, .int .i64 en, .slice A1r ln c1r] 85))) := Lib.hid (HS.out.below ((Below.refl _ _).alloc (Nat.le_refl _) _))
      have HX5 : Hid (BX wr.heap.size lv fr en (.slice A1r ln c1r) (wr.alloc (.cells #[.int .i64 lv, .int .i64 fr, .int .i64 en, .slice A1r ln c1r] 85))) := Lib.hid (heap_alloc_new _ _)
      clear HSL
      rcases hff : f fr with _ | k
      · have Hhas : Hid (Maps.has D (.int .i64 fr) = false) := Lib.hid (by rw [HMap.out.has fr Hwf.out]; show (f fr).isSome = false; rw [hff]; rfl)
        obtain ⟨Ao, co, rfl⟩ := Kd.S_slice HS.out.rS
        have Hff := Lib.hid hff
        clear hff
        have HoL : Hid (out.length ≤ 1048576) := Lib.hid (by have := HInv.out.len; have := Hi.out.1; have := Hl.out; dsimp only at *; omega)
        go_wp2_with (at_lookup; go_loud (refine wpList_lookup_own_ok_int _ rfl _ _ 83 rfl 3 3 .i64 law3z Tryz.underlying83 Tryz.underlying3 (zero3z _) w3.heap.size i D rfl HS5.out.map (.int .i64 fr) (.int .i64 fr) rfl (keyOf_int_mk Tryz.underlying3 Hwf.out) ?_; intro c hat hwc; rw [Hhas.out]; clear hat hwc))
        refine reg12G (w := w3) (j := i) (rs := rs) (g := g) (c := cR) HS5.out HX5.out Hl.out hib HoL.out (Kd.C_below HRC.out HS5.out.bel) Hlv.out Hbs.out _ _ _ _ _ _ _ _ _ _ _ _ _ _ _ _ _ _ _ _ _ _ _ _ _ _ _ _ _ _ _ _ _ _ _ _ _ _ _ _ _ _ _ _ _ _ _ _ _ _ _ _ _ _ _ _ _ _ _ _ _ _ _ _ _ _ _ _ _ _ _ _ _ _ _ _ _ _ _ _ _ _ _ _ _ _ _ _ _ _ _ _ _ _ _ _ ?_
        intro _ _ _ _ _ _ _ _ _ _ _ _ _ _ v7 W7 hS7 hX7 hb7
        obtain ⟨o, ho⟩ : ∃ o, o = out ++ [⟨lv, wayW lv (besideW rs ((i : Int) - 1) para), 0, []⟩] := ⟨_, rfl⟩
        rw [← ho] at hS7
        obtain ⟨k, hk⟩ : ∃ k, k = out.length := ⟨_, rfl⟩
        rw [← hk]
        have HS7 := Lib.hid hS7
        have HX7 := Lib.hid hX7
        have Ho := Lib.hid ho
        have Hkk := Lib.hid hk
        have HAt : Hid ((Kd.int .i64).C W7 A1r ln (rs.getD i default).at_) := Lib.hid (by have := HCr.out; rw [Hlne.out] at this ⊢; exact Kd.C_below this hS7.bel)
        have HFin : Hid (seqStep rs l M para i (out, f) = seqFin rs l M para i o k f) := Lib.hid (by unfold seqStep; dsimp only; rw [← Hfre.out, Hff.out]; dsimp only; rw [Ho.out, Hkk.out, ← Hlve.out])
        have Hk : Hid (k < o.length) := Lib.hid (by rw [Ho.out, Hkk.out, List.length_append]; exact Nat.lt_succ_self _)
        have Hat : Hid ((o.getD k default).at_.length + ln ≤ 1048576) := Lib.hid (by
          have h1 := getD_snoc_le (lv := lv) (y := wayW lv (besideW rs ((i : Int) - 1) para)) (e := 0) HInv.out.at_ k
          have h2 := Hsum.out
          rw [← Ho.out] at h1
          omega)
        have Hkwf : Hid ((Lit.int .i64 (k : Int)).wf = true) := Lib.hid (wf_i64 (by omega) (by have := HoL.out; have := Hkk.out; omega))
        clear hS7 hX7 hb7 ho hk HS5 HX5 HS
        obtain ⟨q, cq, rfl, _, _, _⟩ := Kd.S_form HS7.out.rS (Nat.lt_of_le_of_lt (Nat.zero_le _) Hk.out)
        have hko : k < o.length := Hk.out
        have hkoi : (k : Int) < (o.length : Int) := by have := Hk.out; omega
        go_wp2
        refine reg14G (k := k) (n := o.length) (c := cq) (g := q) HS7.out HX7.out Hk.out HAt.out Hat.out _ _ _ _ _ _ _ _ _ _ _ _ _ _ _ _ _ _ _ _ _ _ _ _ _ _ _ _ _ _ _ _ _ _ _ _ _ _ _ _ _ _ _ _ _ _ _ _ _ _ _ _ _ _ _ _ _ _ _ _ _ _ _ _ _ _ _ _ _ _ _ _ _ _ _ _ _ _ _ _ _ _ _ _ _ _ _ _ _ _ _ _ _ _ _ _ _ _ _ ?_
        intro _ _ _ _ _ _ _ _ _ _ W8 HS8' HX8' hb8
        have HS8 := Lib.hid HS8'
        have HX8 := Lib.hid HX8'
        clear HS8' HX8' hb8 HX7
        obtain ⟨o2, ho2⟩ : ∃ o2, o2 = o.set k { o.getD k default with at_ := (o.getD k default).at_ ++ (rs.getD i default).at_ } := ⟨_, rfl⟩
        rw [← ho2] at HS8
        have Ho2 := Lib.hid ho2
        have Hk2 : Hid (k < o2.length) := Lib.hid (by rw [ho2, List.length_set]; exact Hk.out)
        clear ho2 hko hkoi HS7
        cases hgo : (goesW rs i l M).2 with
        | true =>
          have HCL : Hid (Calls Tryz.prog 62 #[.slice (some ⟨g, 0, none⟩) rs.length cR, .int .i64 i, .slice A0 l.length c0, .slice AM l.length l.length] W8 fun x w' => x = .returned (.tuple #[.int .i64 gx, .bool true]) ∧ Below W8.heap.size W8 w') := Lib.hid (by
            have := goes_all g cR rs i A0 c0 l AM l.length M W8 Hl.out (Kd.C_below HRC.out HS8.out.bel) Hi.out.2 Hi.out.1 (Kd.C_below HCC.out HS8.out.bel) (Kd.C_below HMC.out HS8.out.bel) HMl.out Hen.out.1 Hen.out.2
            rw [hgo, ← Hgx.out] at this
            exact this)
          have Hgo := Lib.hid hgo
          clear hgo
          go_wp2_with (first
            | (go_at_call 62; refine (HCL.out).mono ?_; rintro e W9 ⟨rfl, hb9⟩; have HS9 := Lib.hid (HS8.out.below hb9); have HX9 := Lib.hid (HX8.out.below hb9); clear hb9)
            | (at_mapUpdate; refine wpList_mapUpdate_own _ rfl _ _ _ 83 rfl 3 3 law3z Tryz.underlying83 (plainElem Tryz.prog 3) w3.heap.size i D rfl HS9.out.map (by have := Hi.out.1; have := Hl.out; unfold maxLen; omega) (.int .i64 gx) (.int .i64 (k : Int)) _ rfl rfl (keyOf_int_mk Tryz.underlying3 Hgwf.out) (.lit (.int .i64 (k : Int))) [] (plainElem_int Tryz.underlying3 Hkwf.out) ?_; intro w10 hown10 hgrow10; have HO10 := Lib.hid hown10; have HG10 := Lib.hid hgrow10; clear hown10 hgrow10))
          go_roundg (rs.length - i)
          case measure => have := Hg.out; have := Hi.out.1; omega
          case rel =>
            refine ⟨i + 1, (o2, fun y => if y = gx then some k else f y), _, _, by have := Hi.out.1; omega, by omega, by go_num, rfl, Lib.hid ⟨?_, HMap.out.put gx k, ?_⟩⟩
            · rw [seqTo, ← HSt.out, HFin.out]
              unfold seqFin
              rw [if_pos Hgo.out, ← Ho2.out, ← Hgx.out]
            · exact ⟨HS9.out.bel.grown HG10.out HS9.out.bel.size (fun k e => by cases e; exact Nat.le_refl _), HO10.out, Kd.S_mono (Kd.S_grown (Kd.S_bound HS9.out.rS) HG10.out (fun q' hq' e => by
                obtain ⟨_, _, _, qq, _, cells, hc⟩ := hq'
                injection e with e
                subst e
                obtain ⟨es, clock, hb, _⟩ := HS9.out.map
                rw [hc] at hb
                cases hb)) (fun _ _ => trivial)⟩
        | false =>
          have HCL : Hid (Calls Tryz.prog 62 #[.slice (some ⟨g, 0, none⟩) rs.length cR, .int .i64 i, .slice A0 l.length c0, .slice AM l.length l.length] W8 fun x w' => x = .returned (.tuple #[.int .i64 gx, .bool false]) ∧ Below W8.heap.size W8 w') := Lib.hid (by
            have := goes_all g cR rs i A0 c0 l AM l.length M W8 Hl.out (Kd.C_below HRC.out HS8.out.bel) Hi.out.2 Hi.out.1 (Kd.C_below HCC.out HS8.out.bel) (Kd.C_below HMC.out HS8.out.bel) HMl.out Hen.out.1 Hen.out.2
            rw [hgo, ← Hgx.out] at this
            exact this)
          have Hgo := Lib.hid hgo
          clear hgo
          go_wp2_with (go_at_call 62; refine (HCL.out).mono ?_; rintro e W9 ⟨rfl, hb9⟩; have HS9 := Lib.hid (HS8.out.below hb9); have HX9 := Lib.hid (HX8.out.below hb9); clear hb9)
          refine reg18G (k := k) (n := o.length) (cq := cq) (q := q) (M := M) HS9.out HX9.out Hk2.out Hl.out Hi.out.1 (Kd.C_below HRC.out HS9.out.bel) (Kd.C_below HMC.out HS9.out.bel) HMl.out Hen.out.1 Hen.out.2 Hlv.out Hbh.out _ _ _ _ _ _ _ _ _ _ _ _ _ _ _ _ _ _ _ _ _ _ _ _ _ _ _ _ _ _ _ _ _ _ _ _ _ _ _ _ _ _ _ _ _ _ _ _ _ _ _ _ _ _ _ _ _ _ _ _ _ _ _ _ _ _ _ _ _ _ _ _ _ _ _ _ _ _ _ _ _ _ _ _ _ _ _ _ _ _ _ _ _ _ ?_
          intro _ _ _ _ _ _ _ _ _ _ _ _ W10 HS10' HX10' hb10
          have HS10 := Lib.hid HS10'
          clear HS10' HX10' hb10
          go_wp2
          go_roundg (rs.length - i)
          case measure => have := Hg.out; have := Hi.out.1; omega
          case rel =>
            refine ⟨i + 1, (o2.set k { o2.getD k default with eos := wayW lv (behindW rs i para l.length M) }, f), _, _, by have := Hi.out.1; omega, by omega, by go_num, rfl, Lib.hid ⟨?_, HMap.out, ⟨HS10.out.bel, HS10.out.map.mono (Nat.le_succ _), HS10.out.rS⟩⟩⟩
            rw [seqTo, ← HSt.out, HFin.out]
            unfold seqFin
            rw [if_neg (by rw [Hgo.out]; decide), ← Ho2.out, Hlve.out]
      · have Hhas : Hid (Maps.has D (.int .i64 fr) = true) := Lib.hid (by rw [HMap.out.has fr Hwf.out]; show (f fr).isSome = true; rw [hff]; rfl)
        have Hck : Hid (D.atKey (.int .i64 fr) (.lit (.int .i64 0)) = .lit (.int .i64 (k : Int))) := Lib.hid (HMap.out.at_ fr k Hwf.out hff)
        have Hff := Lib.hid hff
        clear hff
        have Hk : Hid (k < out.length) := Lib.hid (HInv.out.dom _ _ Hff.out)
        have HoL : Hid (out.length ≤ 1048576) := Lib.hid (by have := HInv.out.len; have := Hi.out.1; have := Hl.out; dsimp only at *; omega)
        obtain ⟨q, cq, rfl, _, _, _⟩ := Kd.S_form HS.out.rS (Nat.lt_of_le_of_lt (Nat.zero_le _) Hk.out)
        have hko : k < out.length := Hk.out
        have hkoi : (k : Int) < (out.length : Int) := by have := Hk.out; omega
        go_wp2_with (at_lookup; go_loud (refine wpList_lookup_own_ok_int _ rfl _ _ 83 rfl 3 3 .i64 law3z Tryz.underlying83 Tryz.underlying3 (zero3z _) w3.heap.size i D rfl HS5.out.map (.int .i64 fr) (.int .i64 fr) rfl (keyOf_int_mk Tryz.underlying3 Hwf.out) ?_; intro c hat hwc; rw [Hhas.out]; have hck : c = (k : Int) := (Lit.int.inj (DataW.lit.inj (hat.symm.trans Hck.out))).2; subst hck; clear hat hwc))
        obtain ⟨W7, hW7⟩ : ∃ W7, W7 = (wr.alloc (.cells #[.int .i64 lv, .int .i64 fr, .int .i64 en, .slice A1r ln c1r] 85)) := ⟨_, rfl⟩
        have HS7 : Hid (SG w3 i D out (.slice (some ⟨q, 0, none⟩) out.length cq) W7) := Lib.hid (by rw [hW7]; exact HS5.out)
        have HX7 : Hid (BX wr.heap.size lv fr en (.slice A1r ln c1r) W7) := Lib.hid (by rw [hW7]; exact HX5.out)
        have HAt : Hid ((Kd.int .i64).C W7 A1r ln (rs.getD i default).at_) := Lib.hid (by have := HCr.out; rw [Hlne.out] at this ⊢; exact Kd.C_below this HS7.out.bel)
        rw [← hW7]
        obtain ⟨o, ho⟩ : ∃ o, o = out := ⟨_, rfl⟩
        rw [← ho] at HS7 Hk hko hkoi ⊢
        have Ho := Lib.hid ho
        have HFin : Hid (seqStep rs l M para i (out, f) = seqFin rs l M para i o k f) := Lib.hid (by unfold seqStep; dsimp only; rw [← Hfre.out, Hff.out]; dsimp only; rw [Ho.out])
        have Hat : Hid ((o.getD k default).at_.length + ln ≤ 1048576) := Lib.hid (by
          have h1 := HInv.out.at_ k
          have h2 := Hsum.out
          rw [Ho.out]
          dsimp only at *
          omega)
        have Hkwf : Hid ((Lit.int .i64 (k : Int)).wf = true) := Lib.hid (wf_i64 (by omega) (by have := HoL.out; have := Hk.out; have e := Ho.out; rw [e] at this; omega))
        clear hW7 ho HS5 HX5 HS
        refine reg14G (k := k) (n := o.length) (c := cq) (g := q) HS7.out HX7.out Hk.out HAt.out Hat.out _ _ _ _ _ _ _ _ _ _ _ _ _ _ _ _ _ _ _ _ _ _ _ _ _ _ _ _ _ _ _ _ _ _ _ _ _ _ _ _ _ _ _ _ _ _ _ _ _ _ _ _ _ _ _ _ _ _ _ _ _ _ _ _ _ _ _ _ _ _ _ _ _ _ _ _ _ _ _ _ _ _ _ _ _ _ _ _ _ _ _ _ _ _ _ _ _ _ _ ?_
        intro _ _ _ _ _ _ _ _ _ _ W8 HS8' HX8' hb8
        have HS8 := Lib.hid HS8'
        have HX8 := Lib.hid HX8'
        clear HS8' HX8' hb8 HX7
        obtain ⟨o2, ho2⟩ : ∃ o2, o2 = o.set k { o.getD k default with at_ := (o.getD k default).at_ ++ (rs.getD i default).at_ } := ⟨_, rfl⟩
        rw [← ho2] at HS8
        have Ho2 := Lib.hid ho2
        have Hk2 : Hid (k < o2.length) := Lib.hid (by rw [ho2, List.length_set]; exact Hk.out)
        clear ho2 hko hkoi HS7
        cases hgo : (goesW rs i l M).2 with
        | true =>
          have HCL : Hid (Calls Tryz.prog 62 #[.slice (some ⟨g, 0, none⟩) rs.length cR, .int .i64 i, .slice A0 l.length c0, .slice AM l.length l.length] W8 fun x w' => x = .returned (.tuple #[.int .i64 gx, .bool true]) ∧ Below W8.heap.size W8 w') := Lib.hid (by
            have := goes_all g cR rs i A0 c0 l AM l.length M W8 Hl.out (Kd.C_below HRC.out HS8.out.bel) Hi.out.2 Hi.out.1 (Kd.C_below HCC.out HS8.out.bel) (Kd.C_below HMC.out HS8.out.bel) HMl.out Hen.out.1 Hen.out.2
            rw [hgo, ← Hgx.out] at this
            exact this)
          have Hgo := Lib.hid hgo
          clear hgo
          go_wp2_with (first
            | (go_at_call 62; refine (HCL.out).mono ?_; rintro e W9 ⟨rfl, hb9⟩; have HS9 := Lib.hid (HS8.out.below hb9); have HX9 := Lib.hid (HX8.out.below hb9); clear hb9)
            | (at_mapUpdate; refine wpList_mapUpdate_own _ rfl _ _ _ 83 rfl 3 3 law3z Tryz.underlying83 (plainElem Tryz.prog 3) w3.heap.size i D rfl HS9.out.map (by have := Hi.out.1; have := Hl.out; unfold maxLen; omega) (.int .i64 gx) (.int .i64 (k : Int)) _ rfl rfl (keyOf_int_mk Tryz.underlying3 Hgwf.out) (.lit (.int .i64 (k : Int))) [] (plainElem_int Tryz.underlying3 Hkwf.out) ?_; intro w10 hown10 hgrow10; have HO10 := Lib.hid hown10; have HG10 := Lib.hid hgrow10; clear hown10 hgrow10))
          go_roundg (rs.length - i)
          case measure => have := Hg.out; have := Hi.out.1; omega
          case rel =>
            refine ⟨i + 1, (o2, fun y => if y = gx then some k else f y), _, _, by have := Hi.out.1; omega, by omega, by go_num, rfl, Lib.hid ⟨?_, HMap.out.put gx k, ?_⟩⟩
            · rw [seqTo, ← HSt.out, HFin.out]
              unfold seqFin
              rw [if_pos Hgo.out, ← Ho2.out, ← Hgx.out]
            · exact ⟨HS9.out.bel.grown HG10.out HS9.out.bel.size (fun k e => by cases e; exact Nat.le_refl _), HO10.out, Kd.S_mono (Kd.S_grown (Kd.S_bound HS9.out.rS) HG10.out (fun q' hq' e => by
                obtain ⟨_, _, _, qq, _, cells, hc⟩ := hq'
                injection e with e
                subst e
                obtain ⟨es, clock, hb, _⟩ := HS9.out.map
                rw [hc] at hb
                cases hb)) (fun _ _ => trivial)⟩
        | false =>
          have HCL : Hid (Calls Tryz.prog 62 #[.slice (some ⟨g, 0, none⟩) rs.length cR, .int .i64 i, .slice A0 l.length c0, .slice AM l.length l.length] W8 fun x w' => x = .returned (.tuple #[.int .i64 gx, .bool false]) ∧ Below W8.heap.size W8 w') := Lib.hid (by
            have := goes_all g cR rs i A0 c0 l AM l.length M W8 Hl.out (Kd.C_below HRC.out HS8.out.bel) Hi.out.2 Hi.out.1 (Kd.C_below HCC.out HS8.out.bel) (Kd.C_below HMC.out HS8.out.bel) HMl.out Hen.out.1 Hen.out.2
            rw [hgo, ← Hgx.out] at this
            exact this)
          have Hgo := Lib.hid hgo
          clear hgo
          go_wp2_with (go_at_call 62; refine (HCL.out).mono ?_; rintro e W9 ⟨rfl, hb9⟩; have HS9 := Lib.hid (HS8.out.below hb9); have HX9 := Lib.hid (HX8.out.below hb9); clear hb9)
          refine reg18G (k := k) (n := o.length) (cq := cq) (q := q) (M := M) HS9.out HX9.out Hk2.out Hl.out Hi.out.1 (Kd.C_below HRC.out HS9.out.bel) (Kd.C_below HMC.out HS9.out.bel) HMl.out Hen.out.1 Hen.out.2 Hlv.out Hbh.out _ _ _ _ _ _ _ _ _ _ _ _ _ _ _ _ _ _ _ _ _ _ _ _ _ _ _ _ _ _ _ _ _ _ _ _ _ _ _ _ _ _ _ _ _ _ _ _ _ _ _ _ _ _ _ _ _ _ _ _ _ _ _ _ _ _ _ _ _ _ _ _ _ _ _ _ _ _ _ _ _ _ _ _ _ _ _ _ _ _ _ _ _ _ ?_
          intro _ _ _ _ _ _ _ _ _ _ _ _ W10 HS10' HX10' hb10
          have HS10 := Lib.hid HS10'
          clear HS10' HX10' hb10
          go_wp2
          go_roundg (rs.length - i)
          case measure => have := Hg.out; have := Hi.out.1; omega
          case rel =>
            refine ⟨i + 1, (o2.set k { o2.getD k default with eos := wayW lv (behindW rs i para l.length M) }, f), _, _, by have := Hi.out.1; omega, by omega, by go_num, rfl, Lib.hid ⟨?_, HMap.out, ⟨HS10.out.bel, HS10.out.map.mono (Nat.le_succ _), HS10.out.rS⟩⟩⟩
            rw [seqTo, ← HSt.out, HFin.out]
            unfold seqFin
            rw [if_neg (by rw [Hgo.out]; decide), ← Ho2.out, Hlve.out]
    · have hlt' : ¬ (i : Int) < (rs.length : Int) := by omega
      have hil : i = rs.length := by omega
      subst hil
      go_wp2
      go_ret
      have hs := HSL.out
      refine ⟨_, rfl, ?_, Hb13.out.trans (hs.sg.bel.mono Hb13.out.size)⟩
      have e : seqsW para l = st.1 := by unfold seqsW; rw [hs.eq, ← Hrs.out, ← HMe.out]
      rw [e]
      exact Kd.S_lower hs.sg.rS Hb13.out.size
end Go.Proofs.YtdpifkhkemeclaaGreat
