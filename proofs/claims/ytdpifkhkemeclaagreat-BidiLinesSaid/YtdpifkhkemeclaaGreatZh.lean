/- bidi.Resolve where nothing embeds, overrides or isolates. slices.Backward over runes: its iterator's contract. slices.Clone over ints, in the print's form. bidi.Line. -/
import Derived.Test.YtdpifkhkemeclaaGreatZg
import Derived.Test.YtdpifkhkemeclaaGreatZp
import Derived.Test.YtdpifkhkemeclaaGreatZe
import Derived.Test.YtdpifkhkemeclaaGreatPZx0
import Derived.Test.YtdpifkhkemeclaaGreatZc
namespace Go.Proofs.YtdpifkhkemeclaaGreat
open Go.RowKit Go.Shelf Go.Proofs.YtdpifkhkemeclaaGreatW.PrintWords Go.Proofs.YtdpifkhkemeclaaGreat.PZ
set_option linter.unusedVariables false
set_option linter.unusedSimpArgs false
theorem wrapI (n : Int) (h : -9223372036854775808 ≤ n ∧ n ≤ 9223372036854775807) : wrap64 n = n := by unfold wrap64; omega
/-- Numbers laid at places. -/
def putAt (o : List Int) : List Nat → List Int → List Int
 | k :: ks, x :: xs => putAt (o.set k x) ks xs
 | _, _ => o
theorem putAt_length (o : List Int) : ∀ (ks : List Nat) (xs : List Int), (putAt o ks xs).length = o.length := by
 intro ks
 induction ks generalizing o with
 | nil => intro xs; simp [putAt]
 | cons k ks ih => intro xs; cases xs with
  | nil => simp [putAt]
  | cons x xs => simp [putAt, ih]
theorem putAt_take (o : List Int) : ∀ (ks : List Nat) (xs : List Int) (i : Nat) (h1 : i < ks.length) (h2 : i < xs.length), putAt o (ks.take (i + 1)) (xs.take (i + 1)) = (putAt o (ks.take i) (xs.take i)).set ks[i] xs[i] := by
 intro ks
 induction ks generalizing o with
 | nil => intro xs i h1; simp at h1
 | cons k ks ih => intro xs i h1 h2; cases xs with
  | nil => simp at h2
  | cons x xs => cases i with
   | zero => simp [putAt]
   | succ i => simp only [List.take_succ_cons, putAt, List.getElem_cons_succ]; exact ih _ xs i (by simpa using h1) (by simpa using h2)
/-- The level at a place, or the one ahead. -/
def lastP (para : Int) (X : List Int) : Nat → Int
 | 0 => para
 | i + 1 => if X.getD i 0 < 0 then lastP para X i else X.getD i 0
def fillP (para : Int) (X : List Int) : List Int := (List.range X.length).map fun i => lastP para X (i + 1)
def fillTo (para : Int) (X : List Int) (i : Nat) : List Int := (fillP para X).take i ++ X.drop i
theorem fillP_length (para : Int) (X : List Int) : (fillP para X).length = X.length := by simp [fillP]
theorem fillTo_length (para : Int) (X : List Int) (i : Nat) (h : i ≤ X.length) : (fillTo para X i).length = X.length := by simp [fillTo, fillP_length]; omega
theorem fillTo_zero (para : Int) (X : List Int) : fillTo para X 0 = X := by simp [fillTo]
theorem fillTo_all (para : Int) (X : List Int) : fillTo para X X.length = fillP para X := by simp [fillTo]; rw [List.take_of_length_le (by rw [fillP_length]; exact Nat.le_refl _)]
theorem fillTo_at (para : Int) (X : List Int) (i : Nat) (h : i < X.length) : (fillTo para X i).getD i 0 = X.getD i 0 := by
 have h1 : ((fillP para X).take i).length = i := by rw [List.length_take, fillP_length]; omega
 simp only [fillTo, List.getD_eq_getElem?_getD]
 rw [List.getElem?_append_right (by omega), h1, Nat.sub_self, List.getElem?_drop, Nat.add_zero]
theorem fillTo_set (para : Int) (X : List Int) (i : Nat) (h : i < X.length) : (fillTo para X i).set i (lastP para X (i + 1)) = fillTo para X (i + 1) := by
 have h1 : ((fillP para X).take i).length = i := by rw [List.length_take, fillP_length]; omega
 have h2 : (fillP para X).take (i + 1) = (fillP para X).take i ++ [lastP para X (i + 1)] := by
  rw [List.take_succ_eq_append_getElem (by rw [fillP_length]; exact h)]
  simp [fillP]
 simp only [fillTo]
 rw [h2, List.set_append_right _ _ (by omega), h1, Nat.sub_self, List.drop_eq_getElem_cons h, List.set_cons_zero, List.append_assoc]
 rfl
theorem fillTo_same (para : Int) (X : List Int) (i : Nat) (h : i < X.length) (h0 : ¬ X.getD i 0 < 0) : fillTo para X (i + 1) = fillTo para X i := by
 have h1 : ((fillP para X).take i).length = i := by rw [List.length_take, fillP_length]; omega
 rw [← fillTo_set para X i h, lastP, if_neg h0, ← fillTo_at para X i h]
 have hl : i < (fillTo para X i).length := by rw [fillTo_length para X i (by omega)]; exact h
 rw [List.getD_eq_getElem?_getD, List.getElem?_eq_getElem hl, Option.getD_some, List.set_getElem_self]
/-- What Resolve answers where nothing embeds, overrides or isolates; of all else nothing is said. -/
def bidi_Resolve.f (l0 : List S38) (para : Int) : Option (List Int) :=
 (class_All.f (l0.length + 2) l0).bind fun own =>
  if ((own.all fun c => decide (c < 14)) && (para == 0 || para == 1) && decide (own.length = l0.length) && decide (l0.length ≤ 1048576)) = true then
   (if keptL para own = [] then some (own.map (lvP para)) else
    (bidi_part_levels.f (l0.length + 60) para para para ((keptL para own).map fun i : Nat => (i : Int)) (l0.map fun x => x.f2) own own).bind fun ns =>
     if ns.length = (keptL para own).length then some (putAt (own.map (lvP para)) (keptL para own) ns) else none).map (fillP para)
  else none
theorem form_of_R {W : World} {base : Nat} {ok : Nat → Prop} {A : Option Addr} {n c : Nat} {xs : List Int} (h : Kd.R (Kd.int .i64) 3 W base ok (.slice A n c) xs) (h0 : xs ≠ []) : ∃ g, A = some ⟨g, 0, none⟩ := by
 obtain ⟨inner, ho⟩ := Kd.R_own h
 rcases ho.2 with ⟨hv, hl⟩ | ⟨g, cap, cur, hv, _⟩
 ·exact (h0 (List.eq_nil_of_length_eq_zero hl)).elim
 ·injection hv with e1 e2 e3
  exact ⟨g, e1⟩
theorem SQ.form {w W : World} {para : Int} {ks : List Nat} {v : Value} (h : SQ w para ks v W) : ∃ A n c, v = .slice A n c ∧ ((ks = [] ∧ n = 0) ∨ (ks ≠ [] ∧ n = 1 ∧ ∃ g vT, A = some ⟨g, 0, none⟩ ∧ W.ownsRow w.heap.size 50 4 (.slice (some ⟨g, 0, none⟩) 1 c) 1 [.int .i64 para, .int .i64 para, .int .i64 para, vT] ∧ W.ownsRow w.heap.size 3 1 vT ks.length (icells ks))) := by
 rcases h.st with ⟨h1, rfl⟩ | ⟨hk, g, c, vT, rfl, h1, h2⟩
 ·exact ⟨_, _, _, rfl, .inl ⟨h1, rfl⟩⟩
 ·exact ⟨_, _, _, rfl, .inr ⟨hk, rfl, g, vT, rfl, h1, h2⟩⟩
theorem grown_cell {W W' : World} {row : Option Nat} (h : W.grownBy W' row) {p : Addr} {v : Value} (hne : some p.block ≠ row) (hc : W.cell? p = some v) : W'.cell? p = some v := by
 have e := h.block p.block (World.block_lt_of_cell? W _ hc) hne
 unfold World.cell? at hc ⊢
 rw [e]
 exact hc
theorem keptL_lt {para : Int} {l : List Int} {k : Nat} (h : k ∈ keptL para l) : k < l.length := by
 obtain ⟨x, hx, rfl⟩ := List.mem_map.1 h
 exact kpTo_mem hx
theorem icells_encs (ks : List Nat) : icells ks = encs (Value.int .i64) (ks.map fun i : Nat => (i : Int)) := by simp [icells, encs]
/-- What stands when the levels are laid: the row X, told of no other. -/
structure RW (w : World) (v6 : Value) (X : List Int) (W : World) : Prop where
 bel : Below w.heap.size w W
 row : Kd.R (Kd.int .i64) 3 W w.heap.size (fun _ => True) v6 X
theorem RW.put {w W : World} {g n c : Nat} {X : List Int} (h : RW w (.slice (some ⟨g, 0, none⟩) n c) X W) (i : Nat) (x : Int) : RW w (.slice (some ⟨g, 0, none⟩) n c) (X.set i x) (W.setCell ⟨g, i, none⟩ (.int .i64 x)) ∧ W.grownBy (W.setCell ⟨g, i, none⟩ (.int .i64 x)) (some g) := by
 have hn := (Kd.R_reads' h.row).1
 subst hn
 obtain ⟨h1, h2⟩ := Kd.R_put h.row (i : Int) x
 rw [Int.toNat_natCast] at h1 h2
 obtain ⟨inner, ho⟩ := Kd.R_own h.row
 have e : (X.set i x).length = X.length := by simp
 exact ⟨⟨h.bel.grown h2 h.bel.size (fun k e => by cases e; exact own_base ho g rfl), h1⟩, h2⟩
theorem RW.cell {w W : World} {g n c : Nat} {X : List Int} (h : RW w (.slice (some ⟨g, 0, none⟩) n c) X W) (i : Nat) (hi : i < X.length) : W.cell? ⟨g, i, none⟩ = some (.int .i64 (X.getD i 0)) ∧ W.frozen? ⟨g, i, none⟩ = false := by
 have hn := (Kd.R_reads' h.row).1
 subst hn
 have := Kd.R_cell (0 : Int) h.row (i : Int) (by omega) (by omega)
 rw [Int.toNat_natCast] at this
 simpa [rdOf] using this
set_option maxRecDepth 100000 in
set_option maxHeartbeats 8000000 in
theorem bidi_Resolve.calls (A0 : Option Addr) (c0 : Nat) (l0 : List S38) (para : Int) (r : List Int) (w : World) (hr0 : Kd.C k38 w A0 l0.length l0) (hc0 : l0.length ≤ c0) (h : bidi_Resolve.f l0 para = some r) :
  Calls Tryz.prog 12 #[.slice A0 l0.length c0, .int .i64 para] w fun e w' => ∃ v0_ : Value, e = .returned (v0_) ∧ Kd.R (Kd.int .i64) 3 w' w.heap.size (fun _ => True) v0_ r ∧ Below w.heap.size w w' := by
 have HR0 := Lib.hid hr0
 have HC0 := Lib.hid hc0
 obtain ⟨own, hown, h⟩ := Option.bind_eq_some_iff.mp h
 by_cases hcond : ((own.all fun c => decide (c < 14)) && (para == 0 || para == 1) && decide (own.length = l0.length) && decide (l0.length ≤ 1048576)) = true
 case neg => rw [if_neg hcond] at h; cases h
 rw [if_pos hcond] at h
 simp only [Bool.and_eq_true, List.all_eq_true, decide_eq_true_eq, Bool.or_eq_true, beq_iff_eq] at hcond
 obtain ⟨⟨⟨h14, hpa⟩, hlen⟩, hmax⟩ := hcond
 have HOwn := Lib.hid hown
 have H14 := Lib.hid h14
 have HPa := Lib.hid hpa
 have HLen := Lib.hid hlen
 have HMax := Lib.hid hmax
 have HH := Lib.hid h
 clear hr0 hc0 hown h14 hpa hlen hmax h
 have hu38 := Tryz.underlying38
 go_enter Tryz.func12, Tryz.ntmps12
 go_wp2_with (first
  | (go_at_call 26; refine (class_All.calls _ A0 c0 l0 own _ HR0.out HC0.out HOwn.out).mono ?_; rintro e w1 ⟨v5, rfl, hR5, hb1⟩; obtain ⟨hI5, A5, c5, rfl⟩ := ints_of_R hR5; have HR5 := Lib.hid hR5; have Hb1 := Lib.hid hb1; clear hI5 hR5 hb1)
  | (go_at_call 27; refine (explicit_any A5 c5 own para _ (Kd.R_reads' HR5.out).2.2 (by rw [HLen.out]; exact HMax.out) H14.out HPa.out).mono ?_; rintro e w2 ⟨v6, v7, rfl, hR6, hR7, hb2⟩; obtain ⟨hI6, A6, c6, rfl⟩ := ints_of_R hR6; obtain ⟨hI7, A7, c7, rfl⟩ := ints_of_R hR7; simp only [List.length_map] at hR6 hR7; have HR6 := Lib.hid hR6; have HR7 := Lib.hid hR7; have Hb2 := Lib.hid hb2; clear hR6 hR7 hb2 hI6 hI7))
 have HB2 : Hid (Below w.heap.size w w2) := Lib.hid (Hb1.out.trans (Hb2.out.mono Hb1.out.size))
 go_loopg [8, 29] (l0.length + 1) (fun gk v8 v29 wr => ∃ (i : Nat), i ≤ l0.length ∧ gk = l0.length + 1 - i ∧ v29 = .int .i64 (i : Int) ∧ Hid (Below w2.heap.size w2 wr ∧ Kd.R (Kd.int .i64) 3 wr w2.heap.size (fun _ => True) v8 ((l0.map fun x => x.f2).take i)))
 case atStart => exact ⟨0, Nat.zero_le _, rfl, rfl, Lib.hid ⟨Below.refl _ _, Kd.R_nil _ _ _ _ _⟩⟩
 case round =>
  obtain ⟨i, hi, hgk, rfl, HE⟩ := hrel
  have Hg := Lib.hid hgk
  clear hgk
  by_cases hltN : i < l0.length
  ·have hlt' : (i : Int) < (l0.length : Int) := by omega
   obtain ⟨ad, e, h0, h1, h2⟩ := at_T38 HR0.out (i : Int) (by omega) (by omega)
   cases e
   obtain ⟨y, hy⟩ : ∃ y, y = rd_T38 l0 (i : Int) := ⟨_, rfl⟩
   rw [← hy, Int.toNat_natCast] at h0 h1 h2
   have hbw := (HB2.out.trans (HE.out.1.mono HB2.out.size))
   have g0 := (hbw.cell (World.block_lt_of_cell? w _ h0)).trans h0
   have g1 := (hbw.cell (World.block_lt_of_cell? w _ h1)).trans h1
   have g2 := (hbw.cell (World.block_lt_of_cell? w _ h2)).trans h2
   have Hy : Hid ((l0.map fun x => x.f2).take (i + 1) = (l0.map fun x => x.f2).take i ++ [y.f2]) := Lib.hid (by
    rw [List.take_succ_eq_append_getElem (by rw [List.length_map]; exact hltN), hy]
    simp [rd_T38, List.getD_eq_getElem?_getD, List.getElem?_eq_getElem hltN])
   have HE1 : Hid (Below w2.heap.size w2 (wr.alloc (.cells #[.int .i64 y.f0, .int .i64 y.f1, .int .i64 y.f2] 38)) ∧ Kd.R (Kd.int .i64) 3 (wr.alloc (.cells #[.int .i64 y.f0, .int .i64 y.f1, .int .i64 y.f2] 38)) w2.heap.size (fun _ => True) u8 ((l0.map fun x => x.f2).take i)) := Lib.hid ⟨HE.out.1.alloc HE.out.1.size _, Kd.R_alloc HE.out.2 _⟩
   have hbx := heap_alloc_new wr (.cells #[.int .i64 y.f0, .int .i64 y.f1, .int .i64 y.f2] 38)
   have hb2' : (wr.alloc (.cells #[.int .i64 y.f0, .int .i64 y.f1, .int .i64 y.f2] 38)).cell? ⟨wr.heap.size, 2, none⟩ = some (.int .i64 y.f2) := by rw [blk_cell hbx]; rfl
   clear hy h0 h1 h2 hbw
   clear hbx
   go_wp2_with ((with_reducible refine gate_builtin (b := .append) (xs := #[.tmp 33, .tmp 36]) rfl ?_); at_builtin; refine Kd.R_append (Kd.int .i64) (w0 := w2) w2.heap.size rfl (.tmp 33) (.tmp 36) 25 3 (.int .i64 0) 8 rfl Tryz.underlying25 info3L rfl (by decide) (by omega) u8 ((l0.map fun x => x.f2).take i) y.f2 [.int .i64 y.f2] _ (fun _ => False) rfl (by rw [World.size_alloc]; rfl) rfl (fun _ h => h.elim) (fun k hk => trivial) HE1.out.2 HE1.out.1 HE1.out.1.size (by simp only [List.length_map, List.length_take]; have := HMax.out; omega) ?_; intro v_8 w_ ho hb hg hat; have HE2 := Lib.hid (And.intro hb ho); clear ho hb hg hat)
   go_roundg (l0.length + 1 - (i + 1))
   case measure => have := Hg.out; omega
   case rel => exact ⟨i + 1, by omega, rfl, by rw [wrapI _ ⟨by omega, by have := HMax.out; omega⟩]; rfl, by rw [Hy.out]; exact HE2⟩
  ·have hlt' : ¬ (i : Int) < (l0.length : Int) := by omega
   have hil : i = l0.length := by omega
   subst hil
   have HR8 : Hid (Kd.R (Kd.int .i64) 3 wr w2.heap.size (fun _ => True) u8 (l0.map fun x => x.f2)) := Lib.hid (by have := HE.out.2; rwa [List.take_of_length_le (by rw [List.length_map]; exact Nat.le_refl _)] at this)
   have HB3 := Lib.hid HE.out.1
   clear HE hi Hg
   obtain ⟨_, A8, c8, rfl⟩ := ints_of_R HR8.out
   obtain ⟨w3, hw3⟩ : ∃ w3, w3 = wr := ⟨_, rfl⟩
   rw [← hw3] at HR8 HB3 ⊢
   clear hw3
   have HR5' : Hid (Kd.R (Kd.int .i64) 3 w3 w.heap.size (fun _ => True) (.slice A5 own.length c5) own) := Lib.hid (Kd.R_below (Kd.R_below HR5.out Hb2.out) HB3.out)
   go_wp2_with (go_at_call 28; refine (sequences_any A5 c5 own para _ (Kd.R_reads' HR5'.out).2.2 (by rw [HLen.out]; exact HMax.out) H14.out HPa.out).mono ?_; rintro e w4 ⟨vS, rfl, hS⟩; obtain ⟨AS, nS, cS, rfl, hS2⟩ := SQ.form hS; have HS := Lib.hid hS; have HS2 := Lib.hid hS2; clear hS hS2)
   have H6 : Hid (∀ k, (Value.slice A6 own.length c6).ownBlock = some k → k < w2.heap.size) := Lib.hid (fun k hk => by obtain ⟨inner, ho⟩ := Kd.R_own HR6.out; exact own_lt ho k hk)
   have HX4 : Hid (RW w (.slice A6 own.length c6) (own.map (lvP para)) w4) := Lib.hid (by
    have h1 := HB3.out
    have h2 := HS.out.bel
    have hb4 : Below w2.heap.size w2 w4 := h1.trans (h2.mono h1.size)
    refine ⟨HB2.out.trans (hb4.mono HB2.out.size), ?_⟩
    exact Kd.R_mono (Kd.R_lower (Kd.R_below HR6.out hb4) Hb1.out.size) (fun _ _ => trivial))
   rcases HS2.out with ⟨hk, rfl⟩ | ⟨hk, rfl, g, vT, rfl, hO, hT⟩
   ·obtain ⟨X, hX⟩ : ∃ X, X = own.map (lvP para) := ⟨_, rfl⟩
    have HRr : Hid (r = fillP para X) := Lib.hid (by have h := HH.out; rw [if_pos hk] at h; rw [hX]; exact (Option.some.inj h).symm)
    have HXl : Hid (X.length = own.length) := Lib.hid (by rw [hX, List.length_map])
    have HX := HX4
    rw [← hX] at HX
    clear HX4 hX HS2 HS
    go_loopg [43] 1 (fun gk v43 wr => v43 = .int .i64 0 ∧ wr = w4)
    case atStart => exact ⟨rfl, rfl⟩
    case round =>
     obtain ⟨rfl, rfl⟩ := hrel
     go_wp2
     go_loopg [16, 74] (own.length + 1) (fun gk v16 v74 wr => ∃ (i : Nat), i ≤ own.length ∧ gk = own.length + 1 - i ∧ v74 = .int .i64 (i : Int) ∧ v16 = .int .i64 (lastP para X i) ∧ Hid (RW w (.slice A6 own.length c6) (fillTo para X i) wr))
     case atStart => exact ⟨0, Nat.zero_le _, rfl, rfl, rfl, Lib.hid (by rw [fillTo_zero]; exact HX.out)⟩
     case round =>
      obtain ⟨i, hi, hgk, rfl, rfl, HE⟩ := hrel
      have Hg := Lib.hid hgk
      clear hgk
      by_cases hltN : i < own.length
      ·have hlt' : (i : Int) < (own.length : Int) := by omega
       obtain ⟨g6, rfl⟩ := form_of_R HE.out.row (by intro e; have := fillTo_length para X i (by rw [HXl.out]; omega); rw [e, HXl.out] at this; simp at this; omega)
       obtain ⟨q1, q2⟩ := HE.out.cell i (by rw [fillTo_length para X i (by rw [HXl.out]; omega), HXl.out]; exact hltN)
       rw [fillTo_at para X i (by rw [HXl.out]; exact hltN)] at q1
       obtain ⟨x, hx⟩ : ∃ x, x = X.getD i 0 := ⟨_, rfl⟩
       rw [← hx] at q1
       have HLt := Lib.hid hltN
       have Hi := Lib.hid hi
       obtain ⟨la, hla⟩ : ∃ la, la = lastP para X i := ⟨_, rfl⟩
       rw [← hla]
       by_cases h0 : x < 0
       ·have Hn : Hid (lastP para X (i + 1) = la) := Lib.hid (by rw [lastP, ← hx, if_pos h0, hla])
        have HE2 := Lib.hid (HE.out.put i la)
        clear hx hla hltN hi
        go_wp2
        go_roundg (own.length + 1 - (i + 1))
        case measure => have := Hg.out; have := HLt.out; omega
        case rel => exact ⟨i + 1, HLt.out, rfl, by rw [wrapI _ ⟨by omega, by have := HLt.out; have := HLen.out; have := HMax.out; omega⟩]; rfl, by rw [Hn.out], Lib.hid (by rw [← fillTo_set para X i (by rw [HXl.out]; exact HLt.out), Hn.out]; exact HE2.out.1)⟩
       ·have Hn : Hid (lastP para X (i + 1) = x) := Lib.hid (by rw [lastP, ← hx, if_neg h0])
        have HE2 : Hid (RW w (.slice (some ⟨g6, 0, none⟩) own.length c6) (fillTo para X (i + 1)) wr) := Lib.hid (by rw [fillTo_same para X i (by rw [HXl.out]; exact hltN) (by rw [← hx]; exact h0)]; exact HE.out)
        have b0 : decide (x < 0) = false := by simpa using h0
        clear hx hla hltN hi
        go_wp2
        go_roundg (own.length + 1 - (i + 1))
        case measure => have := Hg.out; have := HLt.out; omega
        case rel => exact ⟨i + 1, HLt.out, rfl, by rw [wrapI _ ⟨by omega, by have := HLt.out; have := HLen.out; have := HMax.out; omega⟩]; rfl, by rw [Hn.out], HE2⟩
      ·have hlt' : ¬ (i : Int) < (own.length : Int) := by omega
       have hil : i = own.length := by omega
       subst hil
       have hfin : Hid (RW w (.slice A6 own.length c6) (fillP para X) wr) := Lib.hid (by have := HE.out; rwa [← HXl.out, fillTo_all, HXl.out] at this)
       clear HE hi Hg
       go_wp2
       go_ret
       exact ⟨_, rfl, by rw [HRr.out]; exact hfin.out.row, hfin.out.bel⟩
   ·obtain ⟨X, hX⟩ : ∃ X, X = own.map (lvP para) := ⟨_, rfl⟩
    obtain ⟨ks, hks⟩ : ∃ ks, ks = keptL para own := ⟨_, rfl⟩
    have hh := HH.out
    rw [if_neg hk] at hh
    obtain ⟨Y, hY, hYr⟩ := Option.map_eq_some_iff.1 hh
    obtain ⟨ns, hns, hY2⟩ := Option.bind_eq_some_iff.mp hY
    by_cases hnl : ns.length = (keptL para own).length
    case neg => rw [if_neg hnl] at hY2; cases hY2
    rw [if_pos hnl] at hY2
    have HY : Hid (Y = putAt X ks ns) := Lib.hid (by rw [hX, hks]; exact (Option.some.inj hY2).symm)
    have HRr0 : Hid (r = fillP para Y) := Lib.hid hYr.symm
    have HXl0 : Hid (X.length = own.length) := Lib.hid (by rw [hX, List.length_map])
    rw [← hks] at hT hnl hns hk
    obtain ⟨l3, hl3⟩ : ∃ l3, l3 = ks.map fun i : Nat => (i : Int) := ⟨_, rfl⟩
    obtain ⟨codes, hcodes⟩ : ∃ codes, codes = l0.map fun x : S38 => x.f2 := ⟨_, rfl⟩
    rw [← hl3, ← hcodes] at hns
    have Hl3 : Hid (l3.length = ks.length) := Lib.hid (by rw [hl3, List.length_map])
    have Hcl : Hid (codes.length = l0.length) := Lib.hid (by rw [hcodes, List.length_map])
    have HR8c : Hid (Kd.R (Kd.int .i64) 3 w3 w2.heap.size (fun _ => True) (.slice A8 l0.length c8) codes) := Lib.hid (by have := HR8.out; rw [← hcodes, Hcl.out] at this; exact this)
    obtain ⟨gT, cT, rfl⟩ : ∃ gT cT, vT = .slice (some ⟨gT, 0, none⟩) ks.length cT := by
     rcases hT.2 with ⟨rfl, h0⟩ | ⟨gT, cT, cur, rfl, _⟩
     ·exact (hk (List.eq_nil_of_length_eq_zero h0)).elim
     ·exact ⟨gT, cT, rfl⟩
    have HTr : Hid (Kd.R (Kd.int .i64) 3 w4 w3.heap.size (fun _ => True) (.slice (some ⟨gT, 0, none⟩) ks.length cT) l3) := Lib.hid (Kd.R_of_own (by rw [Hl3.out]; have := hT; rw [icells_encs, ← hl3] at this; exact this) (fun _ _ => trivial))
    have HO := Lib.hid hO
    have Hks : Hid (∀ k ∈ ks, k < own.length) := Lib.hid (fun k h => keptL_lt (by rw [← hks]; exact h))
    have Hkl : Hid (ks.length ≤ own.length) := Lib.hid (by rw [hks]; unfold keptL; rw [List.length_map]; exact kpTo_length _ _)
    have Hl3g : Hid (∀ i (h : i < ks.length), rd l3 (i : Int) = (ks[i] : Int)) := Lib.hid (fun i h => by rw [hl3]; simp [rd, List.getD_eq_getElem?_getD, h])
    have Hnl := Lib.hid hnl
    have Hns := Lib.hid hns
    have HX0 := HX4
    rw [← hX] at HX0
    have HS5 := Lib.hid HS.out.bel
    clear HX4 hX HS2 HS hk hO hT hns hnl hl3 hks hh hY hYr hY2 hcodes
    have HCall : Hid (∀ W, Below w4.heap.size w4 W → Calls Tryz.prog 29 #[.agg #[.int .i64 para, .int .i64 para, .int .i64 para, .slice (some ⟨gT, 0, none⟩) ks.length cT], .slice A8 l0.length c8, .slice A5 own.length c5, .slice A7 own.length c7] W fun e w' => ∃ v0_ : Value, e = .returned v0_ ∧ Kd.R (Kd.int .i64) 3 w' W.heap.size (fun _ => True) v0_ ns ∧ Below W.heap.size W w') := Lib.hid (fun W hb => by
     have q3 := Kd.R_reads' (Kd.R_below HTr.out hb)
     have q8 := Kd.R_reads' (Kd.R_below (Kd.R_below HR8c.out HS5.out) hb)
     have q5 := Kd.R_reads' (Kd.R_below (Kd.R_below HR5'.out HS5.out) hb)
     have q7 := Kd.R_reads' (Kd.R_below (Kd.R_below (Kd.R_below HR7.out HB3.out) HS5.out) hb)
     have h := bidi_part_levels.calls (l0.length + 60) para para para (some ⟨gT, 0, none⟩) cT l3 A8 c8 codes A5 c5 own A7 c7 own ns W q3.2.2 (by rw [← q3.1]; exact q3.2.1) q8.2.2 (by rw [← q8.1]; exact q8.2.1) q5.2.2 q5.2.1 q7.2.2 q7.2.1 Hns.out
     rw [Hl3.out, Hcl.out] at h
     exact h)
    go_loopg [43] 2 (fun gk v43 wr => (gk = 2 ∧ v43 = .int .i64 0 ∧ wr = w4) ∨ (gk = 1 ∧ v43 = .int .i64 1 ∧ Hid (RW w (.slice A6 own.length c6) Y wr)))
    case atStart => exact .inl ⟨rfl, rfl, rfl⟩
    case round =>
     rcases hrel with ⟨rfl, rfl, rfl⟩ | ⟨rfl, rfl, HX⟩
     ·have e0 : wr.cell? ⟨g, 0, none⟩ = some (.int .i64 para) := HO.out.cells (g := g) rfl 0 _ rfl
      have e1 : wr.cell? ⟨g, 1, none⟩ = some (.int .i64 para) := HO.out.cells (g := g) rfl 1 _ rfl
      have e2 : wr.cell? ⟨g, 2, none⟩ = some (.int .i64 para) := HO.out.cells (g := g) rfl 2 _ rfl
      have e3 : wr.cell? ⟨g, 3, none⟩ = some (.slice (some ⟨gT, 0, none⟩) ks.length cT) := HO.out.cells (g := g) rfl 3 _ rfl
      obtain ⟨o1, ho1⟩ : ∃ o : Obj, o = .cells #[.int .i64 para, .int .i64 para, .int .i64 para, .slice (some ⟨gT, 0, none⟩) ks.length cT] 50 := ⟨_, rfl⟩
      obtain ⟨o2, ho2⟩ : ∃ o : Obj, o = .cells #[.int .i64 para, .int .i64 para, .int .i64 para, .slice (some ⟨gT, 0, none⟩) ks.length cT] 52 := ⟨_, rfl⟩
      have HB5 : Hid (Below wr.heap.size wr ((wr.alloc o1).alloc o2)) := Lib.hid (((Below.refl _ _).alloc (Nat.le_refl _) _).alloc (by simp) _)
      have HBx : Hid (((wr.alloc o1).alloc o2).cell? ⟨wr.heap.size + 1, 3, none⟩ = some (.slice (some ⟨gT, 0, none⟩) ks.length cT)) := Lib.hid (by
       have h2 := heap_alloc_new (wr.alloc o1) o2
       rw [World.size_alloc] at h2
       rw [ho2] at h2 ⊢
       rw [blk_cell h2]; rfl)
      have Ho1 := Lib.hid ho1
      have Ho2 := Lib.hid ho2
      rw [ho1, ho2] at HB5 HBx
      clear ho1 ho2
      go_wp2_with (go_at_call 29; refine (HCall.out _ HB5.out).mono ?_; rintro e w6 ⟨v53, rfl, hR, hb6⟩; obtain ⟨_, A53, c53, rfl⟩ := ints_of_R hR; have HR53 := Lib.hid hR; have HB6 := Lib.hid hb6; clear hR hb6)
      have HX6 : Hid (RW w (.slice A6 own.length c6) X w6) := Lib.hid (by
       have hb := HB5.out.trans (HB6.out.mono HB5.out.size)
       exact ⟨HX0.out.bel.trans (hb.mono HX0.out.bel.size), Kd.R_below HX0.out.row hb⟩)
      have HBx6 : Hid (w6.cell? ⟨wr.heap.size + 1, 3, none⟩ = some (.slice (some ⟨gT, 0, none⟩) ks.length cT)) := Lib.hid (by rw [HB6.out.cell (World.block_lt_of_cell? _ _ HBx.out)]; exact HBx.out)
      have HT6 : Hid (Kd.R (Kd.int .i64) 3 w6 w3.heap.size (fun _ => True) (.slice (some ⟨gT, 0, none⟩) ks.length cT) l3) := Lib.hid (Kd.R_below HTr.out (HB5.out.trans (HB6.out.mono HB5.out.size)))
      have Hw3 : Hid (w2.heap.size ≤ w3.heap.size ∧ w3.heap.size ≤ wr.heap.size) := Lib.hid ⟨HB3.out.size, HS5.out.size⟩
      obtain ⟨wb, hwb⟩ : ∃ wb, wb = wr.heap.size := ⟨_, rfl⟩
      have Hwb := Lib.hid hwb
      rw [← hwb] at HBx6 ⊢
      clear hwb e0 e1 e2 e3 HBx
      go_loopg [55] (ns.length + 1) (fun gk v55 wq => ∃ (i : Nat), i ≤ ns.length ∧ gk = ns.length + 1 - i ∧ v55 = .int .i64 (i : Int) ∧ Hid (RW w (.slice A6 own.length c6) (putAt X (ks.take i) (ns.take i)) wq ∧ w6.grownBy wq (Value.slice A6 own.length c6).ownBlock))
      case atStart => exact ⟨0, Nat.zero_le _, rfl, rfl, Lib.hid ⟨by simpa [putAt] using HX6.out, World.grownBy.refl _ _⟩⟩
      case round =>
       obtain ⟨i, hi, hgk, rfl, HE⟩ := hrel
       have Hg := Lib.hid hgk
       clear hgk
       by_cases hltN : i < ns.length
       ·have hlt' : (i : Int) < (ns.length : Int) := by omega
        have hik : i < ks.length := by rw [← Hnl.out]; exact hltN
        have hlk : (i : Int) < (ks.length : Int) := by omega
        obtain ⟨kk, hkk⟩ : ∃ kk, kk = ks[i] := ⟨_, rfl⟩
        have hko : kk < own.length := Hks.out kk (by rw [hkk]; exact List.getElem_mem hik)
        have hko' : (kk : Int) < (own.length : Int) := by omega
        have hPl : (putAt X (ks.take i) (ns.take i)).length = own.length := by rw [putAt_length, HXl0.out]
        obtain ⟨g6, rfl⟩ := form_of_R HE.out.1.row (by intro e; rw [e] at hPl; simp at hPl; omega)
        have h6 := H6.out g6 rfl
        have hw3 := Hw3.out
        obtain ⟨ad5, e5, c5a⟩ := Kd.at_int (Kd.R_reads' HR53.out).2.2 (i : Int) (by omega) (by omega)
        obtain ⟨inner5, ho5⟩ := Kd.R_own HR53.out
        obtain ⟨g53, rfl⟩ := form_of_R HR53.out (by intro e; rw [e] at hltN; simp at hltN)
        injection e5 with e5
        subst e5
        have hg53 := own_base ho5 g53 rfl
        rw [Int.toNat_natCast, add_plain] at c5a
        have hs53 : w2.heap.size ≤ g53 := by simp at hg53; omega
        have q1 := grown_cell HE.out.2 (p := ⟨g53, i, none⟩) (by intro e; injection e with e; simp at e; omega) c5a
        have q2 := grown_cell HE.out.2 (p := ⟨wb + 1, 3, none⟩) (by intro e; injection e with e; simp at e; have := Hwb.out; omega) HBx6.out
        obtain ⟨adT, eT, cTa⟩ := Kd.at_int (Kd.R_reads' HT6.out).2.2 (i : Int) (by omega) (by rw [Hl3.out]; exact hlk)
        injection eT with eT
        subst eT
        obtain ⟨innerT, hoT⟩ := Kd.R_own HT6.out
        have hgT := own_base hoT gT rfl
        rw [Int.toNat_natCast, add_plain, Hl3g.out i hik, ← hkk] at cTa
        have q3 := grown_cell HE.out.2 (p := ⟨gT, i, none⟩) (by intro e; injection e with e; simp at e; omega) cTa
        obtain ⟨q4, q5⟩ := HE.out.1.cell kk (by rw [hPl]; exact hko)
        obtain ⟨y, hy⟩ : ∃ y, y = rd ns (i : Int) := ⟨_, rfl⟩
        rw [← hy] at q1
        have hyv : y = ns[i] := by rw [hy]; simp [rd, List.getD_eq_getElem?_getD, hltN]
        have HE2 := Lib.hid (HE.out.1.put kk y)
        have Hstep : Hid (putAt X (ks.take (i + 1)) (ns.take (i + 1)) = (putAt X (ks.take i) (ns.take i)).set kk y) := Lib.hid (by rw [putAt_take X ks ns i hik hltN, hkk, hyv])
        have HLt := Lib.hid hltN
        clear h6 hw3 hg53 hs53 c5a ho5 cTa hoT hgT hyv hy hkk hko hPl hltN hi hik
        go_wp2
        go_roundg (ns.length + 1 - (i + 1))
        case measure => have := Hg.out; have := HLt.out; omega
        case rel => exact ⟨i + 1, HLt.out, rfl, by rw [wrapI _ ⟨by omega, by have := HLt.out; have := Hnl.out; have := Hkl.out; have := HLen.out; have := HMax.out; omega⟩]; rfl, Lib.hid ⟨by rw [Hstep.out]; exact HE2.out.1, World.grownBy.trans HE.out.2 HE2.out.2⟩⟩
       ·have hlt' : ¬ (i : Int) < (ns.length : Int) := by omega
        have hil : i = ns.length := by omega
        have HF : Hid (RW w (.slice A6 own.length c6) Y wr) := Lib.hid (by
         have h := HE.out.1
         rw [hil, List.take_of_length_le (Nat.le_of_eq Hnl.out.symm), List.take_of_length_le (Nat.le_refl _), ← HY.out] at h
         exact h)
        clear HE hi Hg hil
        go_wp2
        go_roundg 1
        case measure => omega
        case rel => exact .inr ⟨rfl, by go_num, HF⟩
     ·obtain ⟨X', hX'⟩ : ∃ X', X' = Y := ⟨_, rfl⟩
      have HRr : Hid (r = fillP para Y) := HRr0
      have HXl : Hid (Y.length = own.length) := Lib.hid (by rw [HY.out, putAt_length, HXl0.out])
      clear hX'
      go_wp2
      go_loopg [16, 74] (own.length + 1) (fun gk v16 v74 wr => ∃ (i : Nat), i ≤ own.length ∧ gk = own.length + 1 - i ∧ v74 = .int .i64 (i : Int) ∧ v16 = .int .i64 (lastP para Y i) ∧ Hid (RW w (.slice A6 own.length c6) (fillTo para Y i) wr))
      case atStart => exact ⟨0, Nat.zero_le _, rfl, rfl, rfl, Lib.hid (by rw [fillTo_zero]; exact HX.out)⟩
      case round =>
       obtain ⟨i, hi, hgk, rfl, rfl, HE⟩ := hrel
       have Hg := Lib.hid hgk
       clear hgk
       by_cases hltN : i < own.length
       ·have hlt' : (i : Int) < (own.length : Int) := by omega
        obtain ⟨g6, rfl⟩ := form_of_R HE.out.row (by intro e; have := fillTo_length para Y i (by rw [HXl.out]; omega); rw [e, HXl.out] at this; simp at this; omega)
        obtain ⟨q1, q2⟩ := HE.out.cell i (by rw [fillTo_length para Y i (by rw [HXl.out]; omega), HXl.out]; exact hltN)
        rw [fillTo_at para Y i (by rw [HXl.out]; exact hltN)] at q1
        obtain ⟨x, hx⟩ : ∃ x, x = Y.getD i 0 := ⟨_, rfl⟩
        rw [← hx] at q1
        have HLt := Lib.hid hltN
        have Hi := Lib.hid hi
        obtain ⟨la, hla⟩ : ∃ la, la = lastP para Y i := ⟨_, rfl⟩
        rw [← hla]
        by_cases h0 : x < 0
        ·have Hn : Hid (lastP para Y (i + 1) = la) := Lib.hid (by rw [lastP, ← hx, if_pos h0, hla])
         have HE2 := Lib.hid (HE.out.put i la)
         clear hx hla hltN hi
         go_wp2
         go_roundg (own.length + 1 - (i + 1))
         case measure => have := Hg.out; have := HLt.out; omega
         case rel => exact ⟨i + 1, HLt.out, rfl, by rw [wrapI _ ⟨by omega, by have := HLt.out; have := HLen.out; have := HMax.out; omega⟩]; rfl, by rw [Hn.out], Lib.hid (by rw [← fillTo_set para Y i (by rw [HXl.out]; exact HLt.out), Hn.out]; exact HE2.out.1)⟩
        ·have Hn : Hid (lastP para Y (i + 1) = x) := Lib.hid (by rw [lastP, ← hx, if_neg h0])
         have HE2 : Hid (RW w (.slice (some ⟨g6, 0, none⟩) own.length c6) (fillTo para Y (i + 1)) wr) := Lib.hid (by rw [fillTo_same para Y i (by rw [HXl.out]; exact hltN) (by rw [← hx]; exact h0)]; exact HE.out)
         have b0 : decide (x < 0) = false := by simpa using h0
         clear hx hla hltN hi
         go_wp2
         go_roundg (own.length + 1 - (i + 1))
         case measure => have := Hg.out; have := HLt.out; omega
         case rel => exact ⟨i + 1, HLt.out, rfl, by rw [wrapI _ ⟨by omega, by have := HLt.out; have := HLen.out; have := HMax.out; omega⟩]; rfl, by rw [Hn.out], HE2⟩
       ·have hlt' : ¬ (i : Int) < (own.length : Int) := by omega
        have hil : i = own.length := by omega
        subst hil
        have hfin : Hid (RW w (.slice A6 own.length c6) (fillP para Y) wr) := Lib.hid (by have := HE.out; rwa [← HXl.out, fillTo_all, HXl.out] at this)
        clear HE hi Hg
        go_wp2
        go_ret
        exact ⟨_, rfl, by rw [HRr.out]; exact hfin.out.row, hfin.out.bel⟩
end Go.Proofs.YtdpifkhkemeclaaGreat
namespace Go.Proofs.YtdpifkhkemeclaaGreat
open Go.RowKit Go.Shelf Go.Proofs.YtdpifkhkemeclaaGreatW.PrintWords Go.Proofs.YtdpifkhkemeclaaGreat.PZ
set_option linter.unusedVariables false
set_option linter.unusedSimpArgs false
attribute [local go_sem] Oper.semAt_some
def brF (l : List S38) (j : Nat) : Nat × S38 := (l.length - 1 - j, l.getD (l.length - 1 - j) z38)
def brTo (l : List S38) (k : Nat) : List (Nat × S38) := (List.range k).map (brF l)
theorem brTo_succ (l : List S38) (k : Nat) : brTo l (k + 1) = brTo l k ++ [brF l k] := by simp [brTo, List.range_succ]
theorem brTo_length (l : List S38) (k : Nat) : (brTo l k).length = k := by simp [brTo]
def rV (x : S38) : Value := .agg #[.int .i64 x.f0, .int .i64 x.f1, .int .i64 x.f2]
set_option maxRecDepth 100000 in
set_option maxHeartbeats 2000000 in
theorem br1_in (F : Fence) (n : Nat) (h8 : F.fn 86) (hro : F.round = none) (hn : 1 ≤ n) (l Bs m cap : Nat) (ad : Addr) (zs : List S38) (hreach : zs.length ≤ 1048576) (hb : ad.block < m) (J Jx : List (Nat × S38) → World → Prop)
    (hY : ∀ pre x W, J pre W → pre.length < zs.length → (∃ k, k < zs.length ∧ pre = brTo zs k ∧ x = brF zs k) → YieldAt F (n - 1) Tryz.prog l #[.int .i64 (x.1 : Int), rV x.2] W fun e W' =>
      (e = .returned (.bool true) ∧ J (pre ++ [x]) W' ∧ KpB Bs m W W') ∨ (e = .returned (.bool false) ∧ Jx (pre ++ [x]) W'))
    (W : World) (hBs : W.cell? ⟨Bs, 0, none⟩ = some (.slice (some ad) zs.length cap))
    (hc : ∀ j, j < zs.length → W.cell? (ad.add (j * 3)) = some (.int .i64 (zs.getD j z38).f0) ∧ W.cell? ⟨(ad.add (j * 3)).block, (ad.add (j * 3)).off + 1, none⟩ = some (.int .i64 (zs.getD j z38).f1) ∧ W.cell? ⟨(ad.add (j * 3)).block, (ad.add (j * 3)).off + 2, none⟩ = some (.int .i64 (zs.getD j z38).f2)) (h0 : J [] W) :
    CallsIn F n Tryz.prog 86 #[.func (.yield l) #[] #[], .pointer (some ⟨Bs, 0, none⟩)] W fun e W' => (∃ v, e = .returned v) ∧
      (J (brTo zs zs.length) W' ∨ (∃ pre, (∃ k, k ≤ zs.length ∧ pre = brTo zs k) ∧ Jx pre W')) := by
  have hadb : Hid (∀ j, (ad.add j).block = ad.block) := Lib.hid (fun j => by unfold Addr.add; split <;> rfl)
  refine callsIn_of_wp Tryz.func86 rfl h8 ?_ hro
  simp only [Tryz.ntmps86, List.size_toArray, List.length_cons, List.length_nil, Nat.reduceAdd, Nat.reduceSub, Array.replicate_succ, Array.replicate_zero, List.push_toArray, List.append_toArray, List.nil_append, List.cons_append]
  gi_wp2
  gi_loopw [3] (fun i wr => ∃ k : Nat, k ≤ zs.length ∧ ((k < zs.length ∧ i = .int .i64 ((zs.length - 1 - k : Nat) : Int)) ∨ (k = zs.length ∧ i = .int .i64 (-1))) ∧ J (brTo zs k) wr ∧ KpB Bs m W wr)
    (fun i _ => (intOf i + 1).toNat)
  case atStart =>
    refine ⟨0, Nat.zero_le _, ?_, h0, KpB.refl _ _ _⟩
    rcases Nat.eq_zero_or_pos zs.length with h | h
    · exact .inr ⟨h.symm, by rw [h]; rfl⟩
    · exact .inl ⟨h, by congr 1; omega⟩
  case round =>
    obtain ⟨k, hk, hi, hJs, hnx⟩ := hrel
    rcases hi with ⟨hlt, rfl⟩ | ⟨hke, rfl⟩
    · obtain ⟨q, hq⟩ : ∃ q, q = zs.length - 1 - k := ⟨_, rfl⟩
      obtain ⟨x, hxd⟩ : ∃ x, x = zs.getD q z38 := ⟨_, rfl⟩
      have hx : brF zs k = (q, x) := by unfold brF; rw [hxd, hq]
      obtain ⟨c1, c2, c3⟩ := hc q (by omega)
      rw [← hxd] at c1 c2 c3
      have hcx1 := hnx.cell (.inl (by rw [hadb.out]; exact hb)) c1
      have hcx2 := hnx.cell (.inl (by show (ad.add (q * 3)).block < m; rw [hadb.out]; exact hb)) c2
      have hcx3 := hnx.cell (.inl (by show (ad.add (q * 3)).block < m; rw [hadb.out]; exact hb)) c3
      have hbs' : wr.cell? ⟨Bs, 0, none⟩ = some (.slice (some ad) zs.length cap) := hnx.cell (p := ⟨Bs, 0, none⟩) (.inr rfl) hBs
      obtain ⟨fn, tmps, assign, body, hy, hR⟩ := hY _ (q, x) wr hJs (by rw [brTo_length]; exact hlt) ⟨k, hlt, rfl, hx.symm⟩
      dsimp only [rV] at hy
      rw [← hq]
      have hml : (q : Int) < (zs.length : Int) := by omega
      have Hm := Lib.hid hq
      have Hx := Lib.hid hx
      clear hq hx hxd c1 c2 c3
      gi_wp2
      refine hR.mono ?_
      rintro e W3 (⟨rfl, hJ3, hk3⟩ | ⟨rfl, hJx3⟩)
      · gi_wp2
        go_roundw
        case rel =>
          refine ⟨k + 1, by omega, ?_, by rw [brTo_succ, Hx.out]; exact hJ3, hnx.trans hk3⟩
          rcases Nat.eq_zero_or_pos q with h | h
          · exact .inr ⟨by have := Hm.out; omega, by subst h; rfl⟩
          · exact .inl ⟨by have := Hm.out; omega, by have := Hm.out; congr 1; omega⟩
        case measure => simp [intOf] <;> omega
      · gi_wp2
        refine bodyPost_ret (results_none rfl _ _ _) rfl ?_
        exact ⟨⟨_, rfl⟩, .inr ⟨_, ⟨k + 1, by omega, by rw [brTo_succ, Hx.out]⟩, hJx3⟩⟩
    · subst hke
      gi_wp2
      go_end0
      exact ⟨⟨_, rfl⟩, .inl hJs⟩

set_option maxRecDepth 100000 in
set_option maxHeartbeats 1000000 in
theorem br1_none_in (F : Fence) (n : Nat) (h8 : F.fn 86) (hro : F.round = none) (l Bs : Nat) (a : Option Addr) (cap : Nat) (J : List (Nat × S38) → World → Prop) (W : World) (hBs : W.cell? ⟨Bs, 0, none⟩ = some (.slice a 0 cap)) (h0 : J [] W) :
    CallsIn F n Tryz.prog 86 #[.func (.yield l) #[] #[], .pointer (some ⟨Bs, 0, none⟩)] W fun e W' => (∃ v, e = .returned v) ∧ J [] W' := by
  refine callsIn_of_wp Tryz.func86 rfl h8 ?_ hro
  simp only [Tryz.ntmps86, List.size_toArray, List.length_cons, List.length_nil, Nat.reduceAdd, Nat.reduceSub, Array.replicate_succ, Array.replicate_zero, List.push_toArray, List.append_toArray, List.nil_append, List.cons_append]
  gi_wp2
  gi_loopw [3] (fun i wr => i = .int .i64 (-1) ∧ J [] wr) (fun _ _ => 0)
  case atStart => exact ⟨rfl, h0⟩
  case round =>
    obtain ⟨rfl, hJs⟩ := hrel
    gi_wp2
    go_end0
    exact ⟨⟨_, rfl⟩, hJs⟩

set_option maxHeartbeats 1000000 in
theorem br_in (F : Fence) (n : Nat) (h6 : F.fn 39) (hro : F.round = none) (a : Option Addr) (len cap : Nat) (w : World) :
    CallsIn F n Tryz.prog 39 #[.slice a len cap] w fun e w' => e = .returned (.func (.func 86) #[] #[.pointer (some ⟨w.heap.size, 0, none⟩)]) ∧ w' = w.alloc (.cells #[.slice a len cap] 22) := by
  refine callsIn_of_wp Tryz.func39 rfl h6 ?_ hro
  simp only [Tryz.ntmps39, List.size_toArray, List.length_cons, List.length_nil, Nat.reduceAdd, Nat.reduceSub, Array.replicate_succ, Array.replicate_zero, List.push_toArray, List.append_toArray, List.nil_append, List.cons_append]
  gi_wp2
  go_ret
  exact ⟨rfl, rfl⟩
/-- What comes is a place and a rune; in the end all of them came, from the last one on. -/
theorem br_stopsP (F : Fence) (n : Nat) (h8 : F.fn 86) (hro : F.round = none) (hn : 1 ≤ n) (Bs m : Nat) (A : Option Addr) (cap : Nat) (zs : List S38) (hreach : zs.length ≤ 1048576) (w : World) (hBs : Bs < w.heap.size) (hm : m ≤ w.heap.size)
    (hc : w.cell? ⟨Bs, 0, none⟩ = some (.slice A zs.length cap)) (hC : Kd.C k38 w A zs.length zs) (hA : ∀ ad, A = some ad → 0 < zs.length → ad.block < m) :
    SeqStopsK F n Tryz.prog 86 #[.pointer (some ⟨Bs, 0, none⟩)] (fun x : { x : Nat × S38 // x.1 < zs.length } => #[Value.int .i64 (x.1.1 : Int), rV x.1.2]) (KpB Bs m) (fun ys => ys.map (·.1) = brTo zs zs.length)
      (fun pre => ∃ k, k ≤ zs.length ∧ pre.map (·.1) = brTo zs k) zs.length w := fun l J Jx W hW _ _ hY h0 => by
  have hc' := (hW.cell (p := ⟨Bs, 0, none⟩) hBs).trans hc
  have key : CallsIn F n Tryz.prog 86 #[.func (.yield l) #[] #[], .pointer (some ⟨Bs, 0, none⟩)] W fun e W' => (∃ v, e = .returned v) ∧
      ((fun (y : List (Nat × S38)) W => ∃ y', y'.map (·.1) = y ∧ J y' W) (brTo zs zs.length) W' ∨ (∃ pre, (∃ k, k ≤ zs.length ∧ pre = brTo zs k) ∧ (fun (y : List (Nat × S38)) W => ∃ y', y'.map (·.1) = y ∧ Jx y' W) pre W')) := by
    by_cases hz : zs = []
    · subst hz
      exact (br1_none_in F n h8 hro l Bs A cap (fun (y : List (Nat × S38)) W => ∃ y', y'.map (·.1) = y ∧ J y' W) W hc' ⟨[], rfl, h0⟩).mono fun e W' ⟨he, hj⟩ => ⟨he, .inl hj⟩
    · have hpos : 0 < zs.length := by
        cases zs with
        | nil => exact (hz rfl).elim
        | cons _ _ => simp
      obtain ⟨ad, e, _⟩ := at_T38 hC 0 (by omega) (by omega)
      subst e
      refine br1_in F n h8 hro hn l Bs m cap ad zs hreach (hA ad rfl hpos) (fun (y : List (Nat × S38)) W => ∃ y', y'.map (·.1) = y ∧ J y' W) (fun (y : List (Nat × S38)) W => ∃ y', y'.map (·.1) = y ∧ Jx y' W) ?_ W hc' (fun j hj => ?_) ⟨[], rfl, h0⟩
      · rintro pre x W1 ⟨y', rfl, hj⟩ hlen ⟨k, hk, _, rfl⟩
        obtain ⟨fn, tmps, assign, body, hy, hR⟩ := hY y' ⟨brF zs k, by show zs.length - 1 - k < zs.length; omega⟩ W1 hj (by simpa using hlen)
        refine ⟨fn, tmps, assign, body, hy, hR.mono ?_⟩
        rintro e W' (⟨rfl, h1, h2⟩ | ⟨rfl, h1⟩)
        · exact .inl ⟨rfl, ⟨_, by simp, h1⟩, h2⟩
        · exact .inr ⟨rfl, ⟨_, by simp, h1⟩⟩
      · obtain ⟨ad2, e2, q1, q2, q3⟩ := at_T38 (Kd.C_below hC hW) (j : Int) (by omega) (by omega)
        injection e2 with e2
        subst e2
        simp only [rd_T38, Int.toNat_natCast] at q1 q2 q3
        exact ⟨q1, q2, q3⟩
  refine key.mono ?_
  rintro e W' ⟨he, ⟨y', h1, h2⟩ | ⟨pre, ⟨k, hk, rfl⟩, ⟨y', h1, h2⟩⟩⟩
  · exact ⟨he, .inl ⟨y', h1, h2⟩⟩
  · exact ⟨he, .inr ⟨y', ⟨k, hk, h1⟩, h2⟩⟩
end Go.Proofs.YtdpifkhkemeclaaGreat
namespace Go.Proofs.YtdpifkhkemeclaaGreat
open Go.RowKit Go.Shelf Go.Proofs.YtdpifkhkemeclaaGreatW.PrintWords
set_option linter.unusedVariables false
def slices_Clone_int_int.f (l0 : List Int) : Option (List Int) := if l0.length ≤ 1048576 then some l0 else none
theorem slices_Clone_int_int.calls (A0 : Option Addr) (c0 : Nat) (l0 : List Int) (r : List Int) (w : World) (hr0 : Kd.C (Kd.int .i64) w A0 l0.length l0) (hc0 : l0.length ≤ c0) (h : slices_Clone_int_int.f l0 = some r) :
    Calls Tryz.prog 38 #[.slice A0 l0.length c0] w fun e w' => ∃ v0_ : Value, e = .returned (v0_) ∧ Kd.R (Kd.int .i64) 3 w' w.heap.size (fun _ => True) v0_ r ∧ Below w.heap.size w w' := by
  unfold slices_Clone_int_int.f at h
  split at h
  · rename_i hl
    obtain rfl := Option.some.inj h
    refine (clone_any w A0 c0 l0 hr0 hl).mono ?_
    rintro e w' ⟨A, c, rfl, ho, hb⟩
    exact ⟨_, rfl, Kd.R_of_own ho (fun _ _ => trivial), hb⟩
  · cases h
end Go.Proofs.YtdpifkhkemeclaaGreat
namespace Go.Proofs.YtdpifkhkemeclaaGreat
open Go.RowKit Go.Shelf Go.Proofs.YtdpifkhkemeclaaGreatW.PrintWords Go.Proofs.YtdpifkhkemeclaaGreat.PZ
set_option linter.unusedVariables false
set_option linter.unusedSimpArgs false
attribute [local go_sem] Oper.semAt_some
/-- A class that may stand at the paragraph's level. -/
def blankB (c : Int) : Bool := (bidi_blank.f c).getD false
theorem blank_some (c : Int) : bidi_blank.f c = some (blankB c) := by
 have h : ∃ b, bidi_blank.f c = some b := by
  unfold bidi_blank.f level_Removed.f
  repeat' split
  all_goals exact ⟨_, rfl⟩
 obtain ⟨b, hb⟩ := h
 unfold blankB
 rw [hb]
 rfl
def clsR (x : S38) : Int := (class_Of.f x.f2).getD 0
theorem clsR_some (x : S38) : class_Of.f x.f2 = some (clsR x) := rfl
/-- Whether the line's end, or a tab, is ahead; what the levels are. -/
def lnE (e : Bool) (c : Int) : Bool := c == 11 || c == 10 || (e && blankB c)
def lnStep (para : Int) (st : Bool × List Int) (x : Nat × S38) : Bool × List Int := (lnE st.1 (clsR x.2), if lnE st.1 (clsR x.2) = true then st.2.set x.1 para else st.2)
theorem lnStep_length (para : Int) (l : List (Nat × S38)) : ∀ st : Bool × List Int, (l.foldl (lnStep para) st).2.length = st.2.length := by
 induction l with
 | nil => intro st; rfl
 | cons x l ih => intro st; rw [List.foldl_cons, ih]; unfold lnStep; dsimp only; split <;> simp
def bidi_Line.f (l0 : List S38) (l1 : List Int) (para : Int) : Option (List Int) :=
 if l0.length ≠ l1.length then some [] else if l1.length ≤ 1048576 then some ((brTo l0 l0.length).foldl (lnStep para) (true, l1)).2 else none

structure LS (w : World) (para : Int) (b7 b8 bL : Nat) (vO vL : Value) (st : Bool × List Int) (W : World) : Prop where
 bel : Below w.heap.size w W
 bP : Boxed W w.heap.size 3 (.int .i64 para)
 bO : Boxed W b7 25 vO
 bE : Boxed W b8 4 (.bool st.1)
 bL : Boxed W bL 22 vL
 row : W.ownsRow (w.heap.size + 1) 3 1 vO st.2.length (nums .i64 st.2)
section
variable {w W W' : World} {para : Int} {b7 b8 bL : Nat} {vO vL : Value} {st : Bool × List Int}
theorem LS.below (h : LS w para b7 b8 bL vO vL st W) (hb : Below W.heap.size W W') : LS w para b7 b8 bL vO vL st W' :=
 ⟨h.bel.trans (hb.mono h.bel.size), (hb.block _ h.bP.lt).trans h.bP, (hb.block _ h.bO.lt).trans h.bO, (hb.block _ h.bE.lt).trans h.bE, (hb.block _ h.bL.lt).trans h.bL, pw_own_below h.row hb⟩
theorem LS.neP (h : LS w para b7 b8 bL vO vL st W) : some w.heap.size ≠ vO.ownBlock := fun e => by have := own_base h.row _ e.symm; omega
/-- The tab's sign is written. -/
theorem LS.setE (h : LS w para b7 b8 bL vO vL st W) (hw : w.heap.size < b8) (e : Bool) : LS w para b7 b8 bL vO vL (e, st.2) (W.setCell ⟨b8, 0, none⟩ (.bool e)) := by
 have h7 : b7 ≠ b8 := by rintro rfl; have := h.bO; rw [Boxed, show W.heap[b7]? = _ from h.bE] at this; injection this with this; injection this with _ t; cases t
 have hL : bL ≠ b8 := by rintro rfl; have := h.bL; rw [Boxed, show W.heap[bL]? = _ from h.bE] at this; injection this with this; injection this with _ t; cases t
 exact ⟨h.bel.setCell (p := ⟨b8, 0, none⟩) (Nat.le_of_lt hw) _, h.bP.other (by omega) _, h.bO.other h7 _, h.bE.set _, h.bL.other hL _, own_setCell h.row (show some b8 ≠ vO.ownBlock from own_ne h.row h.bE (by decide)) _⟩
/-- A level is written. -/
theorem LS.setO {g n c : Nat} (h : LS w para b7 b8 bL (.slice (some ⟨g, 0, none⟩) n c) vL st W) (i : Nat) (x : Int) :
  LS w para b7 b8 bL (.slice (some ⟨g, 0, none⟩) n c) vL (st.1, st.2.set i x) (W.setCell ⟨g, i, none⟩ (.int .i64 x)) := by
 have hn : n = st.2.length := by
  rcases h.row.2 with ⟨hv, _⟩ | ⟨g', cap, cur, hv, _⟩
  ·cases hv
  ·injection hv
 subst hn
 obtain ⟨h1, h2⟩ := own_store h.row (i : Int) x
 rw [Int.toNat_natCast] at h1 h2
 refine ⟨h.bel.grown h2 h.bel.size (fun k e => by cases e; have := own_base h.row g rfl; omega), h.bP.kept h2 h.neP, h.bO.kept h2 (h.bO.not_row (by decide) h.row), h.bE.kept h2 (h.bE.not_row (by decide) h.row), h.bL.kept h2 (h.bL.not_row (by decide) h.row), ?_⟩
 rw [show (st.1, st.2.set i x).2.length = st.2.length from List.length_set]
 exact h1
theorem LS.own {B : Nat} (hB : w.heap.size ≤ B) {α : Type} (F : α → Bool × List Int) : OwnFrom B (fun (s : α) W => LS w para b7 b8 bL vO vL (F s) W) := by
 intro s W W' row h hg hr
 have hbx : ∀ {k : Nat} {t : TypeId} {v : Value}, Boxed W k t v → Boxed W' k t v := fun {k t v} hb => hb.kept hg (fun e => by
  obtain ⟨_, o, ho, hc⟩ := hr k e.symm
  rw [show W.heap[k]? = _ from hb] at ho
  cases ho
  cases hc)
 refine ⟨h.bel.grown hg h.bel.size (fun k e => Nat.le_trans hB (hr k e).1), hbx h.bP, hbx h.bO, hbx h.bE, hbx h.bL, h.row.kept hg ?_⟩
 rcases h.row.2 with ⟨rfl, _⟩ | ⟨g, cap, cur, rfl, _, hh, _⟩
 ·exact .inl rfl
 ·refine .inr (fun e2 => ?_)
  obtain ⟨_, o, ho', hc⟩ := hr g e2.symm
  rw [hh] at ho'
  cases ho'
  cases hc
theorem LS.kp {st' : Bool × List Int} (h : LS w para b7 b8 bL vO vL st W) (h' : LS w para b7 b8 bL vO vL st' W') (hs : W.heap.size ≤ W'.heap.size) : KpB bL w.heap.size W W' := by
 refine ⟨hs, fun k hk hlt => ?_⟩
 rcases hk with hk | rfl
 ·rw [h'.bel.block k hk, h.bel.block k hk]
 ·rw [show W'.heap[k]? = _ from h'.bL, show W.heap[k]? = _ from h.bL]
end
set_option maxRecDepth 100000 in
set_option maxHeartbeats 8000000 in
theorem line_in (n : Nat) (hn : 5 ≤ n) (A0 : Option Addr) (c0 : Nat) (l0 : List S38) (A1 : Option Addr) (c1 : Nat) (l1 : List Int) (para : Int) (w : World) (hr0 : Kd.C k38 w A0 l0.length l0) (hr1 : Kd.C (Kd.int .i64) w A1 l1.length l1) (hc1 : l1.length ≤ c1) (hlen : l0.length = l1.length) (hmax : l1.length ≤ 1048576) :
  CallsIn Fence.wide n Tryz.prog 15 #[.slice A0 l0.length c0, .slice A1 l1.length c1, .int .i64 para] w fun e w' => ∃ v0_ : Value, e = .returned (v0_) ∧ Kd.R (Kd.int .i64) 3 w' w.heap.size (fun _ => True) v0_ ((brTo l0 l0.length).foldl (lnStep para) (true, l1)).2 ∧ Below w.heap.size w w' := by
 have h1 : 1 ≤ n := by omega
 have hro : (Fence.wide).round = none := rfl
 have HR0 := Lib.hid hr0
 have HR1 := Lib.hid hr1
 have HC1 := Lib.hid hc1
 have HMax := Lib.hid hmax
 have hl' : ((l0.length : Int) != (l1.length : Int)) = false := by simp [hlen]
 have HLen := Lib.hid hlen
 clear hr0 hr1 hc1 hmax hlen
 refine callsIn_of_wp_marks Tryz.func15 rfl trivial ?_ hro
 simp only [Tryz.ntmps15, List.size_toArray, List.length_cons, List.length_nil, Nat.reduceAdd, Nat.reduceSub, Array.replicate_succ, Array.replicate_zero, List.push_toArray, List.append_toArray, List.nil_append, List.cons_append]
 gi_wp2_with (first
  | (refine ⟨trivial, ?_⟩; gi_at_call 38; refine (callsIn_wide.2 (slices_Clone_int_int.calls A1 c1 l1 l1 _ (Kd.C_below HR1.out ((Below.refl _ w).alloc (Nat.le_refl _) (.cells #[.int .i64 para] 3))) HC1.out (by unfold slices_Clone_int_int.f; rw [if_pos HMax.out]))).mono ?_; rintro e w1 ⟨v7, rfl, hR, hb1⟩; obtain ⟨_, A7, c7, rfl⟩ := ints_of_R hR; have HR7 := Lib.hid hR; have HB1 := Lib.hid hb1; clear hR hb1)
  | (refine ⟨trivial, ?_⟩; gi_at_call 39; refine (br_in Fence.wide (n - 1) trivial hro _ _ _ _).mono ?_; rintro e w' ⟨rfl, rfl⟩))
 obtain ⟨W0, hW0⟩ : ∃ W0, W0 = ((w1.alloc (.cells #[.slice A7 l1.length c7] 25)).alloc (.cells #[.bool true] 4)).alloc (.cells #[.slice A0 l0.length c0] 22) := ⟨_, rfl⟩
 obtain ⟨b7, hb7⟩ : ∃ b7, b7 = w1.heap.size := ⟨_, rfl⟩
 obtain ⟨b8, hb8⟩ : ∃ b8, b8 = w1.heap.size + 1 := ⟨_, rfl⟩
 obtain ⟨bL, hbL⟩ : ∃ bL, bL = w1.heap.size + 1 + 1 := ⟨_, rfl⟩
 have hsz : W0.heap.size = w1.heap.size + 3 := by rw [hW0]; simp
 have hw1 : w.heap.size + 1 ≤ w1.heap.size := by have := HB1.out.size; simpa using this
 obtain ⟨cO, cE, cL⟩ := three_allocs w1 (.cells #[.slice A7 l1.length c7] 25) (.cells #[.bool true] 4) (.cells #[.slice A0 l0.length c0] 22)
 have hB10 : Below w1.heap.size w1 W0 := by rw [hW0]; exact (((Below.refl _ w1).alloc (Nat.le_refl _) _).alloc (by simp) _).alloc (by simp; omega) _
 have hP0 : (w.alloc (.cells #[.int .i64 para] 3)).heap[w.heap.size]? = some (.cells #[.int .i64 para] 3) := heap_alloc_new _ _
 have hS0 : LS w para b7 b8 bL (.slice A7 l1.length c7) (.slice A0 l0.length c0) (true, l1) W0 := by
  refine ⟨?_, ?_, ?_, ?_, ?_, ?_⟩
  ·exact (((Below.refl _ w).alloc (Nat.le_refl _) (.cells #[.int .i64 para] 3)).trans (HB1.out.mono (by simp))).trans (hB10.mono (by omega))
  ·show W0.heap[w.heap.size]? = _
   rw [hB10.block _ (by omega), HB1.out.block _ (by simp)]
   exact hP0
  ·show W0.heap[b7]? = _
   rw [hW0, hb7]
   exact cO
  ·show W0.heap[b8]? = _
   rw [hW0, hb8]
   exact cE
  ·show W0.heap[bL]? = _
   rw [hW0, hbL]
   exact cL
  ·have h := Kd.own_of_R HR7.out
   have h2 := pw_own_below h hB10
   rw [World.size_alloc] at h2
   exact h2
 rw [← hW0, ← hbL, ← hb8, ← hb7]
 clear hW0 cO cE cL hP0
 have hw8 : w.heap.size < b8 := by omega
 have hbLt : bL < W0.heap.size := by omega
 have hcBL : W0.cell? ⟨bL, 0, none⟩ = some (.slice A0 l0.length c0) := hS0.bL.cell
 have hmW : w.heap.size ≤ W0.heap.size := by omega
 have hA : ∀ ad, A0 = some ad → 0 < l0.length → ad.block < w.heap.size := fun ad e hp => by
  obtain ⟨ad2, e2, q, _⟩ := at_T38 HR0.out 0 (by omega) (by omega)
  rw [e] at e2
  injection e2 with e2
  subst e2
  have := World.block_lt_of_cell? w _ q
  have e3 : (ad.add ((0 : Int).toNat * 3)).block = ad.block := by unfold Addr.add; split <;> rfl
  rwa [e3] at this
 clear hb7 hb8 hbL hB10
 refine wpIn_rangeFunc_ownH hro h1 (gf := 86) (lb := #[.pointer (some ⟨bL, 0, none⟩)]) rfl trivial (enters_of Tryz.func86 (by kernel_rfl) rfl)
  (br_stopsP Fence.wide (n - 1) trivial hro (by omega) bL w.heap.size A0 c0 l0 (by rw [HLen.out]; exact HMax.out) W0 hbLt hmW hcBL (Kd.C_below HR0.out hS0.bel) hA) KpB.trans (KpB.put hbLt hmW) (Below.refl _ _) (fun _ => rfl)
  (fun pre W => LS w para b7 b8 bL (.slice A7 l1.length c7) (.slice A0 l0.length c0) ((pre.map (fun x => x.1)).foldl (lnStep para) (true, l1)) W) (fun _ _ _ => False)
  (LS.own hmW _) (fun cd s A B row h => h.elim) hS0
  (fun x a' W => ∃ b10, a' = { tmps := #[.slice A0 l0.length c0, .slice A1 l1.length c1, .int .i64 para, undef, undef, .pointer (some ⟨w.heap.size, 0, none⟩), .slice none 0 0, .pointer (some ⟨b7, 0, none⟩), .pointer (some ⟨b8, 0, none⟩), .int .i64 (x.1.1 : Int), .pointer (some ⟨b10, 0, none⟩), undef, .slice A0 l0.length c0, .int .i64 (l0.length : Int), .slice A1 l1.length c1, .int .i64 (l1.length : Int), .bool false, .slice A1 l1.length c1, .slice A7 l1.length c7, .slice A0 l0.length c0, .func (.func 86) #[] #[.pointer (some ⟨bL, 0, none⟩)], .int .i64 (x.1.1 : Int), rV x.1.2, undef, undef, undef, undef, undef, undef, undef, undef, undef, undef, undef, undef, undef, undef, undef, undef, undef, undef, undef, undef, undef, undef], defers := [] } ∧ W.heap[b10]? = some (.cells #[.int .i64 x.1.2.f0, .int .i64 x.1.2.f1, .int .i64 x.1.2.f2] 38))
  (fun x a' s W W' row h hg hr => by
   obtain ⟨b10, e, hb⟩ := h
   exact ⟨b10, e, blk_grown hb hg (fun e2 => by obtain ⟨_, o, ho, hc⟩ := hr b10 e2.symm; rw [hb] at ho; cases ho; cases hc)⟩) ?assign ?body ?done ?stop
 case assign =>
  rintro l pre ⟨⟨i, rr⟩, hir⟩ W K hI hK
  have HK := Lib.hid hK
  have HI := Lib.hid hI
  clear hK hI
  dsimp only [rV]
  gi_wp2
  have hb : Below W.heap.size W (W.alloc (.cells #[.int .i64 rr.f0, .int .i64 rr.f1, .int .i64 rr.f2] 38)) := (Below.refl _ _).alloc (Nat.le_refl _) _
  exact HK.out _ _ (KeepsOthers.from (KeepsOthers.alloc W _) _) (LS.kp HI.out (HI.out.below hb) hb.size) (HI.out.below hb) ⟨_, rfl, heap_alloc_new _ _⟩
 case body =>
  rintro l pre ⟨⟨i, rr⟩, hir⟩ a' W hlB hrec hI ⟨b10, rfl, hbx⟩ hlen'
  dsimp only at hir
  obtain ⟨st, hst⟩ : ∃ st, st = (pre.map (fun x => x.1)).foldl (lnStep para) (true, l1) := ⟨_, rfl⟩
  have hXl : st.2.length = l1.length := by rw [hst, lnStep_length]
  have hp : List.foldl (lnStep para) (true, l1) (List.map (fun x => x.1) (pre ++ [(⟨(i, rr), hir⟩ : { x : Nat × S38 // x.1 < l0.length })])) = lnStep para st (i, rr) := by rw [hst, List.map_append, List.foldl_append]; rfl
  rw [← hst] at hI
  have HS := Lib.hid hI
  have Hp := Lib.hid hp
  obtain ⟨c, hc⟩ : ∃ c, c = clsR rr := ⟨_, rfl⟩
  have Hc : Hid (class_Of.f rr.f2 = some c) := Lib.hid (by rw [hc]; exact clsR_some rr)
  have Hcr := Lib.hid hc
  obtain ⟨e, X⟩ := st
  dsimp only at hXl
  have hi' : (i : Int) < (l1.length : Int) := by have := HLen.out; omega
  obtain ⟨g7, rfl⟩ : ∃ g, A7 = some ⟨g, 0, none⟩ := by
   rcases HS.out.row.2 with ⟨hv, h0⟩ | ⟨g, cap, cur, hv, _⟩
   ·have : X.length = 0 := h0
    have := HLen.out
    omega
   ·injection hv with e1 e2 e3
    exact ⟨g, e1⟩
  have HX := Lib.hid hXl
  have Hcell : Hid ((nums .i64 X)[i]? = some (.int .i64 (X.getD i 0))) := Lib.hid (by have := HLen.out; have hx : i < X.length := (by omega); simp [nums, List.getD_eq_getElem?_getD, List.getElem?_eq_getElem hx])
  have hb2x : W.cell? ⟨b10, 2, none⟩ = some (.int .i64 rr.f2) := by rw [blk_cell hbx]; rfl
  clear hst hp hI hc hXl hbx hlB hrec hlen'
  simp only [rV]
  by_cases h11 : c = 11
  ·have q11 : (c == 11) = true := by simp [h11]
   have Hpk : Hid (List.foldl (lnStep para) (true, l1) (List.map (fun x => x.1) (pre ++ [(⟨(i, rr), hir⟩ : { x : Nat × S38 // x.1 < l0.length })])) = (true, X.set i para)) := Lib.hid (by rw [Hp.out]; unfold lnStep lnE; dsimp only; rw [← Hcr.out, q11]; rfl)
   clear h11
   gi_wp2_with (first | (rename_i hq1 _; exact absurd hq1 (by unfold undef; simp)) | (refine ⟨trivial, fun _ => by omega, ?_⟩; gi_at_call 24; refine (CallsIn.inRound l (callsIn_wide.2 (class_Of.calls rr.f2 c _ Hc.out))).mono ?_; rintro e2 W2 ⟨rfl, hb2⟩; have F2 := HS.out.below hb2; have c8 := F2.bE.cell; have f8 := F2.bE.frozen; have F3 := F2.setE hw8 true; have s1 := F3.bE.cell; have s2 := F3.bO.cell; have s3 := F3.bP.cell; have s4 := F3.row.cells (g := g7) rfl i _ Hcell.out; rw [add_plain] at s4; have s5 := own_frozen F3.row i; have HF3 := Lib.hid F3; clear F3; have HF2 := Lib.hid F2; have HB2 := Lib.hid (keeps_below hb2); clear hb2 F2) | (refine ⟨(trivial : Fence.wide.fn 40), ?_⟩))
   have F5 := HF3.out.setO i para
   refine ⟨KeepsOthers.from (((HB2.out).trans (KeepsOthers.setCell _ _ _)).trans (KeepsOthers.setCell _ _ _)) _, LS.kp HS.out F5 (((HB2.out).trans (KeepsOthers.setCell _ _ _)).trans (KeepsOthers.setCell _ _ _)).size, ?_⟩
   show LS w para b7 b8 bL _ _ (List.foldl (lnStep para) (true, l1) (List.map _ (pre ++ [_]))) _
   rw [Hpk.out]
   exact F5
  ·have q11 : (c == 11) = false := by simpa using h11
   by_cases h10 : c = 10
   ·have q10 : (c == 10) = true := by simp [h10]
    have Hpk : Hid (List.foldl (lnStep para) (true, l1) (List.map (fun x => x.1) (pre ++ [(⟨(i, rr), hir⟩ : { x : Nat × S38 // x.1 < l0.length })])) = (true, X.set i para)) := Lib.hid (by rw [Hp.out]; unfold lnStep lnE; dsimp only; rw [← Hcr.out, q11, q10]; rfl)
    clear h11 h10
    gi_wp2_with (first | (rename_i hq1 _; exact absurd hq1 (by unfold undef; simp)) | (refine ⟨trivial, fun _ => by omega, ?_⟩; gi_at_call 24; refine (CallsIn.inRound l (callsIn_wide.2 (class_Of.calls rr.f2 c _ Hc.out))).mono ?_; rintro e2 W2 ⟨rfl, hb2⟩; have F2 := HS.out.below hb2; have c8 := F2.bE.cell; have f8 := F2.bE.frozen; have F3 := F2.setE hw8 true; have s1 := F3.bE.cell; have s2 := F3.bO.cell; have s3 := F3.bP.cell; have s4 := F3.row.cells (g := g7) rfl i _ Hcell.out; rw [add_plain] at s4; have s5 := own_frozen F3.row i; have HF3 := Lib.hid F3; clear F3; have HF2 := Lib.hid F2; have HB2 := Lib.hid (keeps_below hb2); clear hb2 F2) | (refine ⟨(trivial : Fence.wide.fn 40), ?_⟩))
    have F5 := HF3.out.setO i para
    refine ⟨KeepsOthers.from (((HB2.out).trans (KeepsOthers.setCell _ _ _)).trans (KeepsOthers.setCell _ _ _)) _, LS.kp HS.out F5 (((HB2.out).trans (KeepsOthers.setCell _ _ _)).trans (KeepsOthers.setCell _ _ _)).size, ?_⟩
    show LS w para b7 b8 bL _ _ (List.foldl (lnStep para) (true, l1) (List.map _ (pre ++ [_]))) _
    rw [Hpk.out]
    exact F5
   ·have q10 : (c == 10) = false := by simpa using h10
    cases e with
    | false =>
     have Hpk : Hid (List.foldl (lnStep para) (true, l1) (List.map (fun x => x.1) (pre ++ [(⟨(i, rr), hir⟩ : { x : Nat × S38 // x.1 < l0.length })])) = (false, X)) := Lib.hid (by rw [Hp.out]; unfold lnStep lnE; dsimp only; rw [← Hcr.out, q11, q10]; rfl)
     clear h11 h10
     gi_wp2_with (first | (rename_i hq1 _; exact absurd hq1 (by unfold undef; simp)) | (refine ⟨trivial, fun _ => by omega, ?_⟩; gi_at_call 24; refine (CallsIn.inRound l (callsIn_wide.2 (class_Of.calls rr.f2 c _ Hc.out))).mono ?_; rintro e2 W2 ⟨rfl, hb2⟩; have F2 := HS.out.below hb2; have c8 := F2.bE.cell; have f8 := F2.bE.frozen; have F3 := F2.setE hw8 false; have s1 := F3.bE.cell; have s2 := F3.bO.cell; have s3 := F3.bP.cell; have s4 := F3.row.cells (g := g7) rfl i _ Hcell.out; rw [add_plain] at s4; have s5 := own_frozen F3.row i; have HF3 := Lib.hid F3; clear F3; have HF2 := Lib.hid F2; have HB2 := Lib.hid (keeps_below hb2); clear hb2 F2) | (refine ⟨(trivial : Fence.wide.fn 40), ?_⟩))
     have F5 := HF3.out
     refine ⟨KeepsOthers.from ((HB2.out).trans (KeepsOthers.setCell _ _ _)) _, LS.kp HS.out F5 ((HB2.out).trans (KeepsOthers.setCell _ _ _)).size, ?_⟩
     show LS w para b7 b8 bL _ _ (List.foldl (lnStep para) (true, l1) (List.map _ (pre ++ [_]))) _
     rw [Hpk.out]
     exact F5
    | true =>
     cases hbl : blankB c with
     | true =>
      have Hbl : Hid (bidi_blank.f c = some true) := Lib.hid (by rw [blank_some, hbl])
      have Hpk : Hid (List.foldl (lnStep para) (true, l1) (List.map (fun x => x.1) (pre ++ [(⟨(i, rr), hir⟩ : { x : Nat × S38 // x.1 < l0.length })])) = (true, X.set i para)) := Lib.hid (by rw [Hp.out]; unfold lnStep lnE; dsimp only; rw [← Hcr.out, q11, q10, hbl]; rfl)
      clear h11 h10 hbl
      gi_wp2_with (first | (rename_i hq1 _; exact absurd hq1 (by unfold undef; simp)) | (refine ⟨trivial, fun _ => by omega, ?_⟩; gi_at_call 24; refine (CallsIn.inRound l (callsIn_wide.2 (class_Of.calls rr.f2 c _ Hc.out))).mono ?_; rintro e2 W2 ⟨rfl, hb2⟩; have F2 := HS.out.below hb2; have c8 := F2.bE.cell; have f8 := F2.bE.frozen; have HF2 := Lib.hid F2; have HB2 := Lib.hid (keeps_below hb2); clear hb2 F2) | (refine ⟨trivial, fun _ => by omega, ?_⟩; gi_at_call 40; refine (CallsIn.inRound l (callsIn_wide.2 (bidi_blank.calls c _ _ Hbl.out))).mono ?_; rintro e2 W3 ⟨rfl, hd3⟩; have hb3 := hd3.below; have F2 := HF2.out.below hb3; have c8 := F2.bE.cell; have f8 := F2.bE.frozen; have F3 := F2.setE hw8 true; have s1 := F3.bE.cell; have s2 := F3.bO.cell; have s3 := F3.bP.cell; have s4 := F3.row.cells (g := g7) rfl i _ Hcell.out; rw [add_plain] at s4; have s5 := own_frozen F3.row i; have HF3 := Lib.hid F3; clear F3; have HB3 := Lib.hid (keeps_below hb3); clear hb3 hd3 F2) | (refine ⟨(trivial : Fence.wide.fn 40), ?_⟩))
      have F5 := HF3.out.setO i para
      refine ⟨KeepsOthers.from (((HB2.out.trans HB3.out).trans (KeepsOthers.setCell _ _ _)).trans (KeepsOthers.setCell _ _ _)) _, LS.kp HS.out F5 (((HB2.out.trans HB3.out).trans (KeepsOthers.setCell _ _ _)).trans (KeepsOthers.setCell _ _ _)).size, ?_⟩
      show LS w para b7 b8 bL _ _ (List.foldl (lnStep para) (true, l1) (List.map _ (pre ++ [_]))) _
      rw [Hpk.out]
      exact F5
     | false =>
      have Hbl : Hid (bidi_blank.f c = some false) := Lib.hid (by rw [blank_some, hbl])
      have Hpk : Hid (List.foldl (lnStep para) (true, l1) (List.map (fun x => x.1) (pre ++ [(⟨(i, rr), hir⟩ : { x : Nat × S38 // x.1 < l0.length })])) = (false, X)) := Lib.hid (by rw [Hp.out]; unfold lnStep lnE; dsimp only; rw [← Hcr.out, q11, q10, hbl]; rfl)
      clear h11 h10 hbl
      gi_wp2_with (first | (rename_i hq1 _; exact absurd hq1 (by unfold undef; simp)) | (refine ⟨trivial, fun _ => by omega, ?_⟩; gi_at_call 24; refine (CallsIn.inRound l (callsIn_wide.2 (class_Of.calls rr.f2 c _ Hc.out))).mono ?_; rintro e2 W2 ⟨rfl, hb2⟩; have F2 := HS.out.below hb2; have c8 := F2.bE.cell; have f8 := F2.bE.frozen; have HF2 := Lib.hid F2; have HB2 := Lib.hid (keeps_below hb2); clear hb2 F2) | (refine ⟨trivial, fun _ => by omega, ?_⟩; gi_at_call 40; refine (CallsIn.inRound l (callsIn_wide.2 (bidi_blank.calls c _ _ Hbl.out))).mono ?_; rintro e2 W3 ⟨rfl, hd3⟩; have hb3 := hd3.below; have F2 := HF2.out.below hb3; have c8 := F2.bE.cell; have f8 := F2.bE.frozen; have F3 := F2.setE hw8 false; have s1 := F3.bE.cell; have s2 := F3.bO.cell; have s3 := F3.bP.cell; have s4 := F3.row.cells (g := g7) rfl i _ Hcell.out; rw [add_plain] at s4; have s5 := own_frozen F3.row i; have HF3 := Lib.hid F3; clear F3; have HB3 := Lib.hid (keeps_below hb3); clear hb3 hd3 F2) | (refine ⟨(trivial : Fence.wide.fn 40), ?_⟩))
      have F5 := HF3.out
      refine ⟨KeepsOthers.from ((HB2.out.trans HB3.out).trans (KeepsOthers.setCell _ _ _)) _, LS.kp HS.out F5 ((HB2.out.trans HB3.out).trans (KeepsOthers.setCell _ _ _)).size, ?_⟩
      show LS w para b7 b8 bL _ _ (List.foldl (lnStep para) (true, l1) (List.map _ (pre ++ [_]))) _
      rw [Hpk.out]
      exact F5
 case done =>
  rintro D ys W hD hS hI hK
  have hI2 : LS w para b7 b8 bL (.slice A7 l1.length c7) (.slice A0 l0.length c0) ((ys.map (fun x => x.1)).foldl (lnStep para) (true, l1)) (W.putObj D (.deferred none)) := LS.own hmW (fun (_ : Unit) => (ys.map (fun x => x.1)).foldl (lnStep para) (true, l1)) () W _ (some D) hI (grownBy_putObj' W D (.deferred none)) (fun r e => by cases e; exact ⟨hD, _, hK, rfl⟩)
  rw [hS] at hI hI2
  have q1 := hI.bO.cell
  have HK := Lib.hid hK
  have HI2 := Lib.hid hI2
  clear hI hI2 hS hK
  gi_wp2
  refine ⟨by simp, .inl ⟨_, _, rfl, run_takeDeferred HK.out, ?_⟩⟩
  exact ⟨_, results_tmp Tryz.results15 _ _ _, _, rfl, Kd.R_lower (Kd.R_of_own HI2.out.row (fun _ _ => trivial)) (Nat.le_succ _), HI2.out.bel⟩
 case stop =>
  rintro D cd pre W hD hS h hK
  exact h.elim
set_option maxRecDepth 100000 in
set_option maxHeartbeats 2000000 in
theorem bidi_Line.calls (A0 : Option Addr) (c0 : Nat) (l0 : List S38) (A1 : Option Addr) (c1 : Nat) (l1 : List Int) (para : Int) (r : List Int) (w : World) (hr0 : Kd.C k38 w A0 l0.length l0) (hc0 : l0.length ≤ c0) (hr1 : Kd.C (Kd.int .i64) w A1 l1.length l1) (hc1 : l1.length ≤ c1) (h : bidi_Line.f l0 l1 para = some r) :
  Calls Tryz.prog 15 #[.slice A0 l0.length c0, .slice A1 l1.length c1, .int .i64 para] w fun e w' => ∃ v0_ : Value, e = .returned (v0_) ∧ Kd.R (Kd.int .i64) 3 w' w.heap.size (fun _ => True) v0_ r ∧ Below w.heap.size w w' := by
 unfold bidi_Line.f at h
 split at h
 ·rename_i hne
  obtain rfl := Option.some.inj h
  have hl' : ((l0.length : Int) != (l1.length : Int)) = true := by simp; omega
  clear hne h
  go_enter Tryz.func15, Tryz.ntmps15
  go_wp2
  go_ret
  exact ⟨_, rfl, Kd.R_nil _ _ _ _ _, (Below.refl _ w).alloc (Nat.le_refl _) _⟩
 ·rename_i heq
  split at h
  ·rename_i hm
   obtain rfl := Option.some.inj h
   exact callsIn_wide.1 (line_in 5 (by omega) A0 c0 l0 A1 c1 l1 para w hr0 hr1 hc1 (by omega) hm)
  ·cases h
end Go.Proofs.YtdpifkhkemeclaaGreat
