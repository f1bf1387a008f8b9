/- bidi.Resolve, of any runes, in a paragraph of any level. -/
import Derived.Test.YtdpifkhkemeclaaGreatYc
import Derived.Test.YtdpifkhkemeclaaGreatZp
namespace Go.Proofs.YtdpifkhkemeclaaGreat
open Go.RowKit Go.Shelf Go.Proofs.YtdpifkhkemeclaaGreatW.PrintWords Go.Proofs.YtdpifkhkemeclaaGreat.PZ
set_option linter.unusedVariables false
set_option linter.unusedSimpArgs false
theorem wrapI (n : Int) (h : -9223372036854775808 ≤ n ∧ n ≤ 9223372036854775807) : wrap64 n = n := by unfold wrap64; omega
def putAt (o : List Int) : List Nat → List Int → List Int
  | k :: ks, x :: xs => putAt (o.set k x) ks xs
  | _, _ => o
theorem putAt_length (o : List Int) : ∀ (ks : List Nat) (xs : List Int), (putAt o ks xs).length = o.length := by
  intro ks
  induction ks generalizing o with
  | nil => intro xs; simp [putAt]
  | cons k ks ih => intro xs; cases xs with
    | nil => simp [putAt]
    | cons x xs => simp [putAt, ih]
theorem putAt_take (o : List Int) : ∀ (ks : List Nat) (xs : List Int) (i : Nat) (h1 : i < ks.length) (h2 : i < xs.length), putAt o (ks.take (i + 1)) (xs.take (i + 1)) = (putAt o (ks.take i) (xs.take i)).set ks[i] xs[i] := by
  intro ks
  induction ks generalizing o with
  | nil => intro xs i h1; simp at h1
  | cons k ks ih => intro xs i h1 h2; cases xs with
    | nil => simp at h2
    | cons x xs => cases i with
      | zero => simp [putAt]
      | succ i => simp only [List.take_succ_cons, putAt, List.getElem_cons_succ]; exact ih _ xs i (by simpa using h1) (by simpa using h2)
def lastP (para : Int) (X : List Int) : Nat → Int
  | 0 => para
  | i + 1 => if X.getD i 0 < 0 then lastP para X i else X.getD i 0
def fillP (para : Int) (X : List Int) : List Int := (List.range X.length).map fun i => lastP para X (i + 1)
def fillTo (para : Int) (X : List Int) (i : Nat) : List Int := (fillP para X).take i ++ X.drop i
theorem fillP_length (para : Int) (X : List Int) : (fillP para X).length = X.length := by simp [fillP]
theorem fillTo_length (para : Int) (X : List Int) (i : Nat) (h : i ≤ X.length) : (fillTo para X i).length = X.length := by simp [fillTo, fillP_length]; omega
theorem fillTo_zero (para : Int) (X : List Int) : fillTo para X 0 = X := by simp [fillTo]
theorem fillTo_all (para : Int) (X : List Int) : fillTo para X X.length = fillP para X := by simp [fillTo]; rw [List.take_of_length_le (by rw [fillP_length]; exact Nat.le_refl _)]
theorem fillTo_at (para : Int) (X : List Int) (i : Nat) (h : i < X.length) : (fillTo para X i).getD i 0 = X.getD i 0 := by
  have h1 : ((fillP para X).take i).length = i := by rw [List.length_take, fillP_length]; omega
  simp only [fillTo, List.getD_eq_getElem?_getD]
  rw [List.getElem?_append_right (by omega), h1, Nat.sub_self, List.getElem?_drop, Nat.add_zero]
theorem fillTo_set (para : Int) (X : List Int) (i : Nat) (h : i < X.length) : (fillTo para X i).set i (lastP para X (i + 1)) = fillTo para X (i + 1) := by
  have h1 : ((fillP para X).take i).length = i := by rw [List.length_take, fillP_length]; omega
  have h2 : (fillP para X).take (i + 1) = (fillP para X).take i ++ [lastP para X (i + 1)] := by
    rw [List.take_succ_eq_append_getElem (by rw [fillP_length]; exact h)]
    simp [fillP]
  simp only [fillTo]
  rw [h2, List.set_append_right _ _ (by omega), h1, Nat.sub_self, List.drop_eq_getElem_cons h, List.set_cons_zero, List.append_assoc]
  rfl
theorem fillTo_same (para : Int) (X : List Int) (i : Nat) (h : i < X.length) (h0 : ¬ X.getD i 0 < 0) : fillTo para X (i + 1) = fillTo para X i := by
  have h1 : ((fillP para X).take i).length = i := by rw [List.length_take, fillP_length]; omega
  rw [← fillTo_set para X i h, lastP, if_neg h0, ← fillTo_at para X i h]
  have hl : i < (fillTo para X i).length := by rw [fillTo_length para X i (by omega)]; exact h
  rw [List.getD_eq_getElem?_getD, List.getElem?_eq_getElem hl, Option.getD_some, List.set_getElem_self]
theorem form_of_R {W : World} {base : Nat} {ok : Nat → Prop} {A : Option Addr} {n c : Nat} {xs : List Int} (h : Kd.R (Kd.int .i64) 3 W base ok (.slice A n c) xs) (h0 : xs ≠ []) : ∃ g, A = some ⟨g, 0, none⟩ := by
  obtain ⟨inner, ho⟩ := Kd.R_own h
  rcases ho.2 with ⟨hv, hl⟩ | ⟨g, cap, cur, hv, _⟩
  · exact (h0 (List.eq_nil_of_length_eq_zero hl)).elim
  · injection hv with e1 e2 e3
    exact ⟨g, e1⟩
theorem grown_cell {W W' : World} {row : Option Nat} (h : W.grownBy W' row) {p : Addr} {v : Value} (hne : some p.block ≠ row) (hc : W.cell? p = some v) : W'.cell? p = some v := by
  have e := h.block p.block (World.block_lt_of_cell? W _ hc) hne
  unfold World.cell? at hc ⊢
  rw [e]
  exact hc
structure RW (w : World) (v6 : Value) (X : List Int) (W : World) : Prop where
  bel : Below w.heap.size w W
  row : Kd.R (Kd.int .i64) 3 W w.heap.size (fun _ => True) v6 X
theorem RW.put {w W : World} {g n c : Nat} {X : List Int} (h : RW w (.slice (some ⟨g, 0, none⟩) n c) X W) (i : Nat) (x : Int) : RW w (.slice (some ⟨g, 0, none⟩) n c) (X.set i x) (W.setCell ⟨g, i, none⟩ (.int .i64 x)) ∧ W.grownBy (W.setCell ⟨g, i, none⟩ (.int .i64 x)) (some g) := by
  have hn := (Kd.R_reads' h.row).1
  subst hn
  obtain ⟨h1, h2⟩ := Kd.R_put h.row (i : Int) x
  rw [Int.toNat_natCast] at h1 h2
  obtain ⟨inner, ho⟩ := Kd.R_own h.row
  have e : (X.set i x).length = X.length := by simp
  exact ⟨⟨h.bel.grown h2 h.bel.size (fun k e => by cases e; exact own_base ho g rfl), h1⟩, h2⟩
theorem RW.cell {w W : World} {g n c : Nat} {X : List Int} (h : RW w (.slice (some ⟨g, 0, none⟩) n c) X W) (i : Nat) (hi : i < X.length) : W.cell? ⟨g, i, none⟩ = some (.int .i64 (X.getD i 0)) ∧ W.frozen? ⟨g, i, none⟩ = false := by
  have hn := (Kd.R_reads' h.row).1
  subst hn
  have := Kd.R_cell (0 : Int) h.row (i : Int) (by omega) (by omega)
  rw [Int.toNat_natCast] at this
  simpa [rdOf] using this
theorem explicit_no (A0 : Option Addr) (n c0 : Nat) (para : Int) (h0 : (para != 0) = true) (h1 : (para != 1) = true) (w : World) :
    Calls Tryz.prog 27 #[.slice A0 n c0, .int .i64 para] w fun e w' => e = .returned (.tuple #[.slice none 0 0, .slice none 0 0]) ∧ w' = w := by
  go_enter Tryz.func27, Tryz.ntmps27
  go_wp2
  go_ret2
  exact ⟨rfl, rfl⟩
set_option maxRecDepth 1000000 in
set_option maxHeartbeats 4000000 in
theorem sequences_no (A0 : Option Addr) (c0 : Nat) (l : List Int) (para : Int) (w : World) (hr0 : Kd.C (Kd.int .i64) w A0 l.length l) (hl : l.length ≤ 1000000) (h0 : (para != 0) = true) (h1 : (para != 1) = true) :
    Calls Tryz.prog 28 #[.slice A0 l.length c0, .int .i64 para] w fun e w' => e = .returned (.slice none 0 0) ∧ Below w.heap.size w w' := by
  have HC := Lib.hid hr0
  have Hll := Lib.hid hl
  have HN := Lib.hid (explicit_no A0 l.length c0 para h0 h1)
  clear hr0 hl h0 h1
  go_enter Tryz.func28, Tryz.ntmps28
  go_wp2_with (first
    | (go_at_call 27; refine (HN.out _).mono ?_; rintro e w1 ⟨rfl, hw⟩; obtain rfl := hw.symm; clear hw)
    | (go_at_call 50; refine (match_all A0 c0 l _ HC.out (by have := Hll.out; omega)).mono ?_; rintro e w2 ⟨rfl, hM, hb2⟩; have Hb2 := Lib.hid hb2; clear hM hb2))
  refine (callsIn_wide.1 (runs_all 5 (by omega) _ none 0 0 rfl [] (by simp) _ (.inl ⟨_, _, rfl, rfl⟩))).mono ?_
  rintro e w3 ⟨vO, rfl, hG⟩
  have hG' : RG w2 (.slice none 0 0) [] vO w3 := hG
  obtain ⟨A, cR, rfl⟩ := Kd.S_slice hG'.rR
  have HB := Lib.hid hG'.bel
  clear hG hG'
  have hmm := @run_makeMap Tryz.prog
  go_wp2
  go_loopg [10, 31] 1 (fun gk v10 v31 wr => v10 = .slice none 0 0 ∧ v31 = .int .i64 0 ∧ wr = w3.alloc (.map #[] 0))
  case atStart => exact ⟨rfl, rfl, rfl⟩
  case round =>
    obtain ⟨rfl, rfl, rfl⟩ := hrel
    go_wp2
    go_ret
    exact ⟨rfl, ((Hb2.out.trans (HB.out.mono Hb2.out.size)).alloc (Nat.le_trans Hb2.out.size HB.out.size) (.map #[] 0))⟩
theorem exTd_len (para : Int) (l : List Int) : (exTd para l).length = l.length := (exTo_len para l l.length).2
theorem grown_any {W W' : World} (hb : Below W.heap.size W W') (row : Option Nat) : W.grownBy W' row := { os := hb.os, tape := hb.tape, output := hb.output, size := hb.size, block := fun k hk _ => hb.block k hk }
def resRow (fuel : Nat) (codes own told : List Int) : List SeqR → List Int → Option (List Int)
  | [], X => some X
  | s :: r, X => (bidi_part_levels.f fuel s.lv s.sos s.eos s.at_ codes own told).bind fun ns =>
      if ns.length = s.at_.length ∧ (∀ a ∈ s.at_, 0 ≤ a ∧ a < (X.length : Int)) then resRow fuel codes own told r (putAt X (s.at_.map Int.toNat) ns) else none
def bidi_Resolve.f (l0 : List S38) (para : Int) : Option (List Int) :=
  (class_All.f (l0.length + 2) l0).bind fun own =>
    if own.length = l0.length ∧ l0.length ≤ 1000000 then
      (if para = 0 ∨ para = 1 then (resRow (l0.length + 60) (l0.map fun x => x.f2) own (exTd para own) (seqsW para own) (exLv para own)).map (fillP para) else some [])
    else none
set_option maxRecDepth 1000000 in
set_option maxHeartbeats 16000000 in
theorem resolve_yes (A0 : Option Addr) (c0 : Nat) (l0 : List S38) (para : Int) (own Y : List Int) (w : World) (hr0 : Kd.C k38 w A0 l0.length l0) (hc0 : l0.length ≤ c0) (hown : class_All.f (l0.length + 2) l0 = some own) (hlen : own.length = l0.length) (hmax : l0.length ≤ 1000000) (hpa : para = 0 ∨ para = 1)
    (hY : resRow (l0.length + 60) (l0.map fun x => x.f2) own (exTd para own) (seqsW para own) (exLv para own) = some Y) :
    Calls Tryz.prog 12 #[.slice A0 l0.length c0, .int .i64 para] w fun e w' => ∃ v0_ : Value, e = .returned (v0_) ∧ Kd.R (Kd.int .i64) 3 w' w.heap.size (fun _ => True) v0_ (fillP para Y) ∧ Below w.heap.size w w' := by
  have HR0 := Lib.hid hr0
  have HC0 := Lib.hid hc0
  have HOwn := Lib.hid hown
  have HPa := Lib.hid hpa
  have HLen := Lib.hid hlen
  have HMax := Lib.hid hmax
  have HY := Lib.hid hY
  clear hr0 hc0 hown hpa hlen hmax hY
  have hu38 := Tryz.underlying38
  go_enter Tryz.func12, Tryz.ntmps12
  go_wp2_with (first
    | (go_at_call 26; refine (class_All.calls _ A0 c0 l0 own _ HR0.out HC0.out HOwn.out).mono ?_; rintro e w1 ⟨v5, rfl, hR5, hb1⟩; obtain ⟨hI5, A5, c5, rfl⟩ := ints_of_R' hR5; have HR5 := Lib.hid hR5; have Hb1 := Lib.hid hb1; clear hI5 hR5 hb1)
    | (go_at_call 27; refine (explicit_all A5 c5 own para _ (Kd.R_reads' HR5.out).2.2 (Kd.R_reads' HR5.out).2.1 (by rw [HLen.out]; exact HMax.out) HPa.out).mono ?_; rintro e w2 ⟨v6, v7, rfl, hR6, hR7, hb2⟩; obtain ⟨A6, c6, rfl⟩ : ∃ A6 c6, v6 = .slice A6 own.length c6 := (by obtain ⟨_, A, c, h⟩ := ints_of_R' hR6; exact ⟨A, c, by rw [h, exLv_len]⟩); obtain ⟨A7, c7, rfl⟩ : ∃ A7 c7, v7 = .slice A7 own.length c7 := (by obtain ⟨_, A, c, h⟩ := ints_of_R' hR7; exact ⟨A, c, by rw [h, exTd_len]⟩); have HR6 := Lib.hid hR6; have HR7 := Lib.hid hR7; have Hb2 := Lib.hid hb2; clear hR6 hR7 hb2))
  have HB2 : Hid (Below w.heap.size w w2) := Lib.hid (Hb1.out.trans (Hb2.out.mono Hb1.out.size))
  go_loopg [8, 29] (l0.length + 1) (fun gk v8 v29 wr => ∃ (i : Nat), i ≤ l0.length ∧ gk = l0.length + 1 - i ∧ v29 = .int .i64 (i : Int) ∧ Hid (Below w2.heap.size w2 wr ∧ Kd.R (Kd.int .i64) 3 wr w2.heap.size (fun _ => True) v8 ((l0.map fun x => x.f2).take i)))
  case atStart => exact ⟨0, Nat.zero_le _, rfl, rfl, Lib.hid ⟨Below.refl _ _, Kd.R_nil _ _ _ _ _⟩⟩
  case round =>
    obtain ⟨i, hi, hgk, rfl, HE⟩ := hrel
    have Hg := Lib.hid hgk
    clear hgk
    by_cases hltN : i < l0.length
    · have hlt' : (i : Int) < (l0.length : Int) := by omega
      obtain ⟨ad, e, h0, h1, h2⟩ := at_T38 HR0.out (i : Int) (by omega) (by omega)
      cases e
      obtain ⟨y, hy⟩ : ∃ y, y = rd_T38 l0 (i : Int) := ⟨_, rfl⟩
      rw [← hy, Int.toNat_natCast] at h0 h1 h2
      have hbw := (HB2.out.trans (HE.out.1.mono HB2.out.size))
      have g0 := (hbw.cell (World.block_lt_of_cell? w _ h0)).trans h0
      have g1 := (hbw.cell (World.block_lt_of_cell? w _ h1)).trans h1
      have g2 := (hbw.cell (World.block_lt_of_cell? w _ h2)).trans h2
      have Hy : Hid ((l0.map fun x => x.f2).take (i + 1) = (l0.map fun x => x.f2).take i ++ [y.f2]) := Lib.hid (by
        rw [List.take_succ_eq_append_getElem (by rw [List.length_map]; exact hltN), hy]
        simp [rd_T38, List.getD_eq_getElem?_getD, List.getElem?_eq_getElem hltN])
      have HE1 : Hid (Below w2.heap.size w2 (wr.alloc (.cells #[.int .i64 y.f0, .int .i64 y.f1, .int .i64 y.f2] 38)) ∧ Kd.R (Kd.int .i64) 3 (wr.alloc (.cells #[.int .i64 y.f0, .int .i64 y.f1, .int .i64 y.f2] 38)) w2.heap.size (fun _ => True) u8 ((l0.map fun x => x.f2).take i)) := Lib.hid ⟨HE.out.1.alloc HE.out.1.size _, Kd.R_alloc HE.out.2 _⟩
      have hbx := heap_alloc_new wr (.cells #[.int .i64 y.f0, .int .i64 y.f1, .int .i64 y.f2] 38)
      have hb2' : (wr.alloc (.cells #[.int .i64 y.f0, .int .i64 y.f1, .int .i64 y.f2] 38)).cell? ⟨wr.heap.size, 2, none⟩ = some (.int .i64 y.f2) := by rw [blk_cell hbx]; rfl
      clear hy h0 h1 h2 hbw
      clear hbx
      go_wp2_with ((with_reducible refine gate_builtin (b := .append) (xs := #[.tmp 33, .tmp 36]) rfl ?_); at_builtin; refine Kd.R_append (Kd.int .i64) (w0 := w2) w2.heap.size rfl (.tmp 33) (.tmp 36) 25 3 (.int .i64 0) 8 rfl Tryz.underlying25 info3L rfl (by decide) (by omega) u8 ((l0.map fun x => x.f2).take i) y.f2 [.int .i64 y.f2] _ (fun _ => False) rfl (by rw [World.size_alloc]; rfl) rfl (fun _ h => h.elim) (fun k hk => trivial) HE1.out.2 HE1.out.1 HE1.out.1.size (by simp only [List.length_map, List.length_take]; have := HMax.out; omega) ?_; intro v_8 w_ ho hb hg hat; have HE2 := Lib.hid (And.intro hb ho); clear ho hb hg hat)
      go_roundg (l0.length + 1 - (i + 1))
      case measure => have := Hg.out; omega
      case rel => exact ⟨i + 1, by omega, rfl, by rw [wrapI _ ⟨by omega, by have := HMax.out; omega⟩]; rfl, by rw [Hy.out]; exact HE2⟩
    · have hlt' : ¬ (i : Int) < (l0.length : Int) := by omega
      have hil : i = l0.length := by omega
      subst hil
      have HR8 : Hid (Kd.R (Kd.int .i64) 3 wr w2.heap.size (fun _ => True) u8 (l0.map fun x => x.f2)) := Lib.hid (by have := HE.out.2; rwa [List.take_of_length_le (by rw [List.length_map]; exact Nat.le_refl _)] at this)
      have HB3 := Lib.hid HE.out.1
      clear HE hi Hg
      obtain ⟨_, A8, c8, rfl⟩ := ints_of_R' HR8.out
      obtain ⟨w3, hw3⟩ : ∃ w3, w3 = wr := ⟨_, rfl⟩
      rw [← hw3] at HR8 HB3 ⊢
      clear hw3
      have HR5' : Hid (Kd.R (Kd.int .i64) 3 w3 w.heap.size (fun _ => True) (.slice A5 own.length c5) own) := Lib.hid (Kd.R_below (Kd.R_below HR5.out Hb2.out) HB3.out)
      go_wp2_with (go_at_call 28; refine (sequences_all A5 c5 own para _ (Kd.R_reads' HR5'.out).2.2 (Kd.R_reads' HR5'.out).2.1 (by rw [HLen.out]; exact HMax.out) HPa.out).mono ?_; rintro e w4 ⟨vS, rfl, hS, hbS⟩; obtain ⟨AS, cS, rfl⟩ := Kd.S_slice hS; have HS := Lib.hid hS; have HbS := Lib.hid hbS; clear hS hbS)
      obtain ⟨ss, hss⟩ : ∃ ss, ss = seqsW para own := ⟨_, rfl⟩
      rw [← hss] at HS HY ⊢
      clear hss
      have hb4 : Below w2.heap.size w2 w4 := HB3.out.trans (HbS.out.mono HB3.out.size)
      have H6 : Hid (∀ k, (Value.slice A6 own.length c6).ownBlock = some k → w1.heap.size ≤ k ∧ k < w2.heap.size) := Lib.hid (fun k hk => by obtain ⟨inner, ho⟩ := Kd.R_own HR6.out; exact ⟨own_base ho k hk, own_lt ho k hk⟩)
      have HX4 : Hid (RW w (.slice A6 own.length c6) (exLv para own) w4) := Lib.hid ⟨HB2.out.trans (hb4.mono HB2.out.size), Kd.R_mono (Kd.R_lower (Kd.R_below HR6.out hb4) Hb1.out.size) (fun _ _ => trivial)⟩
      have HR5x : Hid (Kd.R (Kd.int .i64) 3 w4 w.heap.size (fun k => some k ≠ (Value.slice A6 own.length c6).ownBlock) (.slice A5 own.length c5) own) := Lib.hid (Kd.R_below (Kd.R_below (Kd.R_mono (Kd.R_bound HR5.out) (fun k hk e => by have := H6.out k e.symm; have := hk.2.2.1; omega)) Hb2.out) hb4)
      have HR7x : Hid (Kd.R (Kd.int .i64) 3 w4 w1.heap.size (fun k => some k ≠ (Value.slice A6 own.length c6).ownBlock) (.slice A7 own.length c7) (exTd para own)) := Lib.hid (Kd.R_below (Kd.R_mono HR7.out (fun k hk => hk.2)) hb4)
      obtain ⟨codes, hcodes⟩ : ∃ codes, codes = l0.map fun x : S38 => x.f2 := ⟨_, rfl⟩
      have Hcl : Hid (codes.length = l0.length) := Lib.hid (by rw [hcodes, List.length_map])
      have HR8x : Hid (Kd.R (Kd.int .i64) 3 w4 w2.heap.size (fun k => some k ≠ (Value.slice A6 own.length c6).ownBlock) (.slice A8 l0.length c8) codes) := Lib.hid (by
        have h := HR8.out
        rw [← hcodes, Hcl.out] at h
        exact Kd.R_below (Kd.R_mono (Kd.R_bound h) (fun k hk e => by have := H6.out k e.symm; have := hk.2.1; omega)) HbS.out)
      have HSx : Hid (Kd.S dSeq 50 w4 w3.heap.size (fun k => some k ≠ (Value.slice A6 own.length c6).ownBlock) (.slice AS ss.length cS) ss) := Lib.hid (Kd.S_mono (Kd.S_bound HS.out) (fun k hk e => by have := H6.out k e.symm; have := hk.2.1; have := HB3.out.size; omega))
      rw [← hcodes] at HY
      have Hsl : Hid (ss.length ≤ 9223372036854775807) := Lib.hid ((Kd.S_reads' HSx.out).2.2).2.1
      have Hw3 : Hid (w2.heap.size ≤ w3.heap.size ∧ w3.heap.size ≤ w4.heap.size) := Lib.hid ⟨HB3.out.size, HbS.out.size⟩
      clear hb4 hcodes HR8 HR5' HS HR5 HR6 HR7 HbS
      go_loopg [43] (ss.length + 1) (fun gk v43 wr => ∃ (i : Nat) (X : List Int), i ≤ ss.length ∧ gk = ss.length + 1 - i ∧ v43 = .int .i64 (i : Int) ∧ Hid (resRow (l0.length + 60) codes own (exTd para own) (ss.drop i) X = some Y ∧ X.length = own.length) ∧ Hid (RW w (.slice A6 own.length c6) X wr ∧ w4.grownBy wr (Value.slice A6 own.length c6).ownBlock))
      case atStart => exact ⟨0, exLv para own, Nat.zero_le _, rfl, rfl, Lib.hid ⟨HY.out, exLv_len para own⟩, Lib.hid ⟨HX4.out, World.grownBy.refl _ _⟩⟩
      case round =>
        obtain ⟨i, X, hi, hgk, rfl, HXY, HE0⟩ := hrel
        have Hgo := Lib.hid hgk
        clear hgk
        by_cases hltS : i < ss.length
        · have hlt' : (i : Int) < (ss.length : Int) := by omega
          obtain ⟨g, cap, eg, _, _, _⟩ := Kd.S_form HSx.out (by omega)
          injection eg with e1 e2 e3
          subst e1
          clear e2 e3
          have HSr := Kd.S_grown HSx.out HE0.out.2 (fun k hk => hk)
          obtain ⟨okT, cs, _, hM, hcc, _, _, _⟩ := Kd.S_elem HSr default (i : Int) (by omega) (by omega)
          rw [Int.toNat_natCast] at hM hcc
          obtain ⟨vT, rfl, hT⟩ := dSeq_M hM
          obtain ⟨sq, hsq⟩ : ∃ sq, sq = ss.getD i default := ⟨_, rfl⟩
          rw [← hsq] at hT hcc
          obtain ⟨AT, cT, rfl⟩ := Kd.R_slice hT
          have e0 : wr.cell? ⟨g, i * 4, none⟩ = some (.int .i64 sq.lv) := hcc 0 _ rfl
          have e1 : wr.cell? ⟨g, i * 4 + 1, none⟩ = some (.int .i64 sq.sos) := hcc 1 _ rfl
          have e2 : wr.cell? ⟨g, i * 4 + 2, none⟩ = some (.int .i64 sq.eos) := hcc 2 _ rfl
          have e3 : wr.cell? ⟨g, i * 4 + 3, none⟩ = some (.slice AT sq.at_.length cT) := hcc 3 _ rfl
          have hres := HXY.out.1
          rw [List.drop_eq_getElem_cons hltS] at hres
          have hsq2 : ss[i] = sq := by rw [hsq, List.getD_eq_getElem?_getD, List.getElem?_eq_getElem hltS]; rfl
          rw [hsq2, resRow] at hres
          obtain ⟨ns, hns, hres⟩ := Option.bind_eq_some_iff.1 hres
          by_cases hcd : ns.length = sq.at_.length ∧ (∀ a ∈ sq.at_, 0 ≤ a ∧ a < (X.length : Int))
          case neg => rw [if_neg hcd] at hres; cases hres
          rw [if_pos hcd] at hres
          obtain ⟨hnl, hrange⟩ := hcd
          obtain ⟨ks, hks⟩ : ∃ ks, ks = sq.at_.map Int.toNat := ⟨_, rfl⟩
          rw [← hks] at hres
          obtain ⟨l3, hl3⟩ : ∃ l3, l3 = sq.at_ := ⟨_, rfl⟩
          obtain ⟨slv, hslv⟩ : ∃ x, x = sq.lv := ⟨_, rfl⟩
          obtain ⟨sos, hsos⟩ : ∃ x, x = sq.sos := ⟨_, rfl⟩
          obtain ⟨eos, heos⟩ : ∃ x, x = sq.eos := ⟨_, rfl⟩
          rw [← hslv] at e0 hns
          rw [← hsos] at e1 hns
          rw [← heos] at e2 hns
          rw [← hl3] at e3 hns hT hks hnl hrange
          have Hl3 : Hid (l3.length = ks.length) := Lib.hid (by rw [hks, List.length_map])
          rw [Hl3.out] at e3 hT
          have Hnl : Hid (ns.length = ks.length) := Lib.hid (by rw [hnl, Hl3.out])
          have Hks : Hid (∀ k ∈ ks, k < own.length) := Lib.hid (fun k h => by
            rw [hks] at h
            obtain ⟨a, ha, rfl⟩ := List.mem_map.1 h
            have := hrange a ha
            rw [HXY.out.2] at this
            omega)
          have Hl3g : Hid (∀ i (h : i < ks.length), rd l3 (i : Int) = (ks[i] : Int)) := Lib.hid (fun j h => by
            have hj : j < l3.length := by rw [Hl3.out]; exact h
            have := hrange _ (List.getElem_mem hj)
            simp only [rd, Int.toNat_natCast, List.getD_eq_getElem?_getD, List.getElem?_eq_getElem hj, Option.getD_some]
            have e : ks[j] = (l3[j]).toNat := by simp [hks]
            rw [e]
            omega)
          have Hres := Lib.hid hres
          have Hns := Lib.hid hns
          have HT := Lib.hid hT
          have HX0 := Lib.hid HE0.out.1
          have HG0 := Lib.hid HE0.out.2
          have HXl0 := Lib.hid HXY.out.2
          have HCall : Hid (∀ W, Below wr.heap.size wr W → Calls Tryz.prog 29 #[.agg #[.int .i64 slv, .int .i64 sos, .int .i64 eos, .slice AT ks.length cT], .slice A8 l0.length c8, .slice A5 own.length c5, .slice A7 own.length c7] W fun e w' => ∃ v0_ : Value, e = .returned v0_ ∧ Kd.R (Kd.int .i64) 3 w' W.heap.size (fun _ => True) v0_ ns ∧ Below W.heap.size W w') := Lib.hid (fun W hb => by
            have q3 := Kd.R_reads' (Kd.R_below HT.out hb)
            have q8 := Kd.R_reads' (Kd.R_below (Kd.R_grown HR8x.out HG0.out (fun k hk => hk)) hb)
            have q5 := Kd.R_reads' (Kd.R_below (Kd.R_grown HR5x.out HG0.out (fun k hk => hk)) hb)
            have q7 := Kd.R_reads' (Kd.R_below (Kd.R_grown HR7x.out HG0.out (fun k hk => hk)) hb)
            have h := bidi_part_levels.calls (l0.length + 60) slv sos eos AT cT l3 A8 c8 codes A5 c5 own A7 c7 (exTd para own) ns W q3.2.2 (by rw [← q3.1]; exact q3.2.1) q8.2.2 (by rw [← q8.1]; exact q8.2.1) q5.2.2 q5.2.1 q7.2.2 (by rw [← q7.1]; exact q7.2.1) Hns.out
            rw [Hl3.out, Hcl.out, exTd_len] at h
            exact h)
          have HLtS := Lib.hid hltS
          clear hl3 hks hslv hsos heos hsq hsq2 hcc hM hres hns hT hnl hrange HE0 HXY HSr hi hltS
          have HB5 : Hid (Below wr.heap.size wr ((wr.alloc (.cells #[.int .i64 slv, .int .i64 sos, .int .i64 eos, .slice AT ks.length cT] 50)).alloc (.cells #[.int .i64 slv, .int .i64 sos, .int .i64 eos, .slice AT ks.length cT] 52))) := Lib.hid (((Below.refl _ _).alloc (Nat.le_refl _) _).alloc (by simp) _)
          have HBx : Hid (((wr.alloc (.cells #[.int .i64 slv, .int .i64 sos, .int .i64 eos, .slice AT ks.length cT] 50)).alloc (.cells #[.int .i64 slv, .int .i64 sos, .int .i64 eos, .slice AT ks.length cT] 52)).cell? ⟨wr.heap.size + 1, 3, none⟩ = some (.slice AT ks.length cT)) := Lib.hid (by
            have h2 := heap_alloc_new (wr.alloc (.cells #[.int .i64 slv, .int .i64 sos, .int .i64 eos, .slice AT ks.length cT] 50)) (.cells #[.int .i64 slv, .int .i64 sos, .int .i64 eos, .slice AT ks.length cT] 52)
            rw [World.size_alloc] at h2
            rw [blk_cell h2]; rfl)
          go_wp2_with (go_at_call 29; refine (HCall.out _ HB5.out).mono ?_; rintro e w6 ⟨v53, rfl, hR, hb6⟩; obtain ⟨_, A53, c53, rfl⟩ := ints_of_R' hR; have HR53 := Lib.hid hR; have HB6 := Lib.hid hb6; clear hR hb6)
          have HX6 : Hid (RW w (.slice A6 own.length c6) X w6) := Lib.hid (by
            have hb := HB5.out.trans (HB6.out.mono HB5.out.size)
            exact ⟨HX0.out.bel.trans (hb.mono HX0.out.bel.size), Kd.R_below HX0.out.row hb⟩)
          have HG6 : Hid (w4.grownBy w6 (Value.slice A6 own.length c6).ownBlock) := Lib.hid (World.grownBy.trans HG0.out (grown_any (HB5.out.trans (HB6.out.mono HB5.out.size)) _))
          have HBx6 : Hid (w6.cell? ⟨wr.heap.size + 1, 3, none⟩ = some (.slice AT ks.length cT)) := Lib.hid (by rw [HB6.out.cell (World.block_lt_of_cell? _ _ HBx.out)]; exact HBx.out)
          have HT6 : Hid (Kd.R (Kd.int .i64) 3 w6 w3.heap.size okT (.slice AT ks.length cT) l3) := Lib.hid (Kd.R_below HT.out (HB5.out.trans (HB6.out.mono HB5.out.size)))
          have Hkl : Hid (ns.length ≤ 9223372036854775807) := Lib.hid ((Kd.R_reads' HR53.out).2.2).2.1
          have Hw3r : Hid (w4.heap.size ≤ wr.heap.size) := Lib.hid HG0.out.size
          obtain ⟨wb, hwb⟩ : ∃ wb, wb = wr.heap.size := ⟨_, rfl⟩
          have Hwb := Lib.hid hwb
          rw [← hwb] at HBx6 ⊢
          clear hwb e0 e1 e2 e3 HBx
          go_loopg [55] (ns.length + 1) (fun gk v55 wq => ∃ (m : Nat), m ≤ ns.length ∧ gk = ns.length + 1 - m ∧ v55 = .int .i64 (m : Int) ∧ Hid (RW w (.slice A6 own.length c6) (putAt X (ks.take m) (ns.take m)) wq ∧ w6.grownBy wq (Value.slice A6 own.length c6).ownBlock))
          case atStart => exact ⟨0, Nat.zero_le _, rfl, rfl, Lib.hid ⟨by simpa [putAt] using HX6.out, World.grownBy.refl _ _⟩⟩
          case round =>
            obtain ⟨m, hi, hgk, rfl, HE⟩ := hrel
            have Hg := Lib.hid hgk
            clear hgk
            by_cases hltN : m < ns.length
            · have hlt' : (m : Int) < (ns.length : Int) := by omega
              have hik : m < ks.length := by rw [← Hnl.out]; exact hltN
              have hlk : (m : Int) < (ks.length : Int) := by omega
              obtain ⟨kk, hkk⟩ : ∃ kk, kk = ks[m] := ⟨_, rfl⟩
              have hko : kk < own.length := Hks.out kk (by rw [hkk]; exact List.getElem_mem hik)
              have hko' : (kk : Int) < (own.length : Int) := by omega
              have hPl : (putAt X (ks.take m) (ns.take m)).length = own.length := by rw [putAt_length, HXl0.out]
              obtain ⟨g6, rfl⟩ := form_of_R HE.out.1.row (by intro e; rw [e] at hPl; simp at hPl; omega)
              have h6 := (H6.out g6 rfl).2
              have hw3 := Hw3.out
              have hw3r := Hw3r.out
              obtain ⟨ad5, e5, c5a⟩ := Kd.at_int (Kd.R_reads' HR53.out).2.2 (m : Int) (by omega) (by omega)
              obtain ⟨inner5, ho5⟩ := Kd.R_own HR53.out
              obtain ⟨g53, rfl⟩ := form_of_R HR53.out (by intro e; rw [e] at hltN; simp at hltN)
              injection e5 with e5
              subst e5
              have hg53 := own_base ho5 g53 rfl
              rw [Int.toNat_natCast, add_plain] at c5a
              have hs53 : w2.heap.size ≤ g53 := by simp at hg53; omega
              have q1 := grown_cell HE.out.2 (p := ⟨g53, m, none⟩) (by intro e; injection e with e; simp at e; omega) c5a
              have q2 := grown_cell HE.out.2 (p := ⟨wb + 1, 3, none⟩) (by intro e; injection e with e; simp at e; have := Hwb.out; omega) HBx6.out
              obtain ⟨gT, rfl⟩ := form_of_R HT6.out (by intro e; have := Hl3.out; rw [e] at this; simp at this; omega)
              obtain ⟨adT, eT, cTa⟩ := Kd.at_int (Kd.R_reads' HT6.out).2.2 (m : Int) (by omega) (by rw [Hl3.out]; exact hlk)
              injection eT with eT
              subst eT
              obtain ⟨innerT, hoT⟩ := Kd.R_own HT6.out
              have hgT := own_base hoT gT rfl
              rw [Int.toNat_natCast, add_plain, Hl3g.out m hik, ← hkk] at cTa
              have q3 := grown_cell HE.out.2 (p := ⟨gT, m, none⟩) (by intro e; injection e with e; simp at e; omega) cTa
              obtain ⟨q4, q5⟩ := HE.out.1.cell kk (by rw [hPl]; exact hko)
              obtain ⟨y, hy⟩ : ∃ y, y = rd ns (m : Int) := ⟨_, rfl⟩
              rw [← hy] at q1
              have hyv : y = ns[m] := by rw [hy]; simp [rd, List.getD_eq_getElem?_getD, hltN]
              have HE2 := Lib.hid (HE.out.1.put kk y)
              have Hstep : Hid (putAt X (ks.take (m + 1)) (ns.take (m + 1)) = (putAt X (ks.take m) (ns.take m)).set kk y) := Lib.hid (by rw [putAt_take X ks ns m hik hltN, hkk, hyv])
              have HLt := Lib.hid hltN
              clear h6 hw3 hw3r hg53 hs53 c5a ho5 cTa hoT hgT hyv hy hkk hko hPl hltN hi hik
              go_wp2
              go_roundg (ns.length + 1 - (m + 1))
              case measure => have := Hg.out; have := HLt.out; omega
              case rel => exact ⟨m + 1, HLt.out, rfl, by rw [wrapI _ ⟨by omega, by have := HLt.out; have := Hkl.out; omega⟩]; rfl, Lib.hid ⟨by rw [Hstep.out]; exact HE2.out.1, World.grownBy.trans HE.out.2 HE2.out.2⟩⟩
            · have hlt' : ¬ (m : Int) < (ns.length : Int) := by omega
              have hil : m = ns.length := by omega
              have HF : Hid (RW w (.slice A6 own.length c6) (putAt X ks ns) wr ∧ w4.grownBy wr (Value.slice A6 own.length c6).ownBlock) := Lib.hid (by
                have h := HE.out
                rw [hil, List.take_of_length_le (Nat.le_of_eq Hnl.out.symm), List.take_of_length_le (Nat.le_refl _)] at h
                exact ⟨h.1, World.grownBy.trans HG6.out h.2⟩)
              clear HE hi Hg hil
              go_wp2
              go_roundg (ss.length + 1 - (i + 1))
              case measure => have := Hgo.out; have := HLtS.out; omega
              case rel => exact ⟨i + 1, _, HLtS.out, rfl, by rw [wrapI _ ⟨by omega, by have := HLtS.out; have := Hsl.out; omega⟩]; rfl, Lib.hid ⟨Hres.out, by rw [putAt_length]; exact HXl0.out⟩, HF⟩
        · have hlt' : ¬ (i : Int) < (ss.length : Int) := by omega
          have hil : i = ss.length := by omega
          have HYX : Hid (X = Y) := Lib.hid (by
            have h := HXY.out.1
            rw [hil, List.drop_length, resRow] at h
            exact Option.some.inj h)
          have HXl : Hid (Y.length = own.length) := Lib.hid (by rw [← HYX.out]; exact HXY.out.2)
          have HX : Hid (RW w (.slice A6 own.length c6) Y wr) := Lib.hid (by rw [← HYX.out]; exact HE0.out.1)
          clear HE0 HXY hil hi HYX
          go_wp2
          go_loopg [16, 74] (own.length + 1) (fun gk v16 v74 wr => ∃ (i : Nat), i ≤ own.length ∧ gk = own.length + 1 - i ∧ v74 = .int .i64 (i : Int) ∧ v16 = .int .i64 (lastP para Y i) ∧ Hid (RW w (.slice A6 own.length c6) (fillTo para Y i) wr))
          case atStart => exact ⟨0, Nat.zero_le _, rfl, rfl, rfl, Lib.hid (by rw [fillTo_zero]; exact HX.out)⟩
          case round =>
            obtain ⟨i, hi, hgk, rfl, rfl, HE⟩ := hrel
            have Hg := Lib.hid hgk
            clear hgk
            by_cases hltN : i < own.length
            · have hlt' : (i : Int) < (own.length : Int) := by omega
              obtain ⟨g6, rfl⟩ := form_of_R HE.out.row (by intro e; have := fillTo_length para Y i (by rw [HXl.out]; omega); rw [e, HXl.out] at this; simp at this; omega)
              obtain ⟨q1, q2⟩ := HE.out.cell i (by rw [fillTo_length para Y i (by rw [HXl.out]; omega), HXl.out]; exact hltN)
              rw [fillTo_at para Y i (by rw [HXl.out]; exact hltN)] at q1
              obtain ⟨x, hx⟩ : ∃ x, x = Y.getD i 0 := ⟨_, rfl⟩
              rw [← hx] at q1
              have HLt := Lib.hid hltN
              have Hi := Lib.hid hi
              obtain ⟨la, hla⟩ : ∃ la, la = lastP para Y i := ⟨_, rfl⟩
              rw [← hla]
              by_cases h0 : x < 0
              · have Hn : Hid (lastP para Y (i + 1) = la) := Lib.hid (by rw [lastP, ← hx, if_pos h0, hla])
                have HE2 := Lib.hid (HE.out.put i la)
                clear hx hla hltN hi
                go_wp2
                go_roundg (own.length + 1 - (i + 1))
                case measure => have := Hg.out; have := HLt.out; omega
                case rel => exact ⟨i + 1, HLt.out, rfl, by rw [wrapI _ ⟨by omega, by have := HLt.out; have := HLen.out; have := HMax.out; omega⟩]; rfl, by rw [Hn.out], Lib.hid (by rw [← fillTo_set para Y i (by rw [HXl.out]; exact HLt.out), Hn.out]; exact HE2.out.1)⟩
              · have Hn : Hid (lastP para Y (i + 1) = x) := Lib.hid (by rw [lastP, ← hx, if_neg h0])
                have HE2 : Hid (RW w (.slice (some ⟨g6, 0, none⟩) own.length c6) (fillTo para Y (i + 1)) wr) := Lib.hid (by rw [fillTo_same para Y i (by rw [HXl.out]; exact hltN) (by rw [← hx]; exact h0)]; exact HE.out)
                have b0 : decide (x < 0) = false := by simpa using h0
                clear hx hla hltN hi
                go_wp2
                go_roundg (own.length + 1 - (i + 1))
                case measure => have := Hg.out; have := HLt.out; omega
                case rel => exact ⟨i + 1, HLt.out, rfl, by rw [wrapI _ ⟨by omega, by have := HLt.out; have := HLen.out; have := HMax.out; omega⟩]; rfl, by rw [Hn.out], HE2⟩
            · have hlt' : ¬ (i : Int) < (own.length : Int) := by omega
              have hil : i = own.length := by omega
              subst hil
              have hfin : Hid (RW w (.slice A6 own.length c6) (fillP para Y) wr) := Lib.hid (by have := HE.out; rwa [← HXl.out, fillTo_all, HXl.out] at this)
              clear HE hi Hg
              go_wp2
              go_ret
              exact ⟨_, rfl, hfin.out.row, hfin.out.bel⟩
set_option maxRecDepth 1000000 in
set_option maxHeartbeats 8000000 in
theorem resolve_no (A0 : Option Addr) (c0 : Nat) (l0 : List S38) (para : Int) (own : List Int) (w : World) (hr0 : Kd.C k38 w A0 l0.length l0) (hc0 : l0.length ≤ c0) (hown : class_All.f (l0.length + 2) l0 = some own) (hlen : own.length = l0.length) (hmax : l0.length ≤ 1000000) (hp0 : (para != 0) = true) (hp1 : (para != 1) = true) :
    Calls Tryz.prog 12 #[.slice A0 l0.length c0, .int .i64 para] w fun e w' => ∃ v0_ : Value, e = .returned (v0_) ∧ Kd.R (Kd.int .i64) 3 w' w.heap.size (fun _ => True) v0_ [] ∧ Below w.heap.size w w' := by
  have HR0 := Lib.hid hr0
  have HC0 := Lib.hid hc0
  have HOwn := Lib.hid hown
  have HLen := Lib.hid hlen
  have HMax := Lib.hid hmax
  have HP := Lib.hid (And.intro hp0 hp1)
  clear hr0 hc0 hown hlen hmax hp0 hp1
  have hu38 := Tryz.underlying38
  go_enter Tryz.func12, Tryz.ntmps12
  go_wp2_with (first
    | (go_at_call 26; refine (class_All.calls _ A0 c0 l0 own _ HR0.out HC0.out HOwn.out).mono ?_; rintro e w1 ⟨v5, rfl, hR5, hb1⟩; obtain ⟨hI5, A5, c5, rfl⟩ := ints_of_R' hR5; have HR5 := Lib.hid hR5; have Hb1 := Lib.hid hb1; clear hI5 hR5 hb1)
    | (go_at_call 27; refine (explicit_no A5 own.length c5 para HP.out.1 HP.out.2 _).mono ?_; rintro e w2' ⟨rfl, hw⟩; obtain rfl := hw.symm; clear hw))
  obtain ⟨w2, hw2⟩ : ∃ w2, w2 = w1 := ⟨_, rfl⟩
  have HB2 : Hid (Below w.heap.size w w2) := Lib.hid (by rw [hw2]; exact Hb1.out)
  have Hb2 : Hid (Below w1.heap.size w1 w2) := Lib.hid (by rw [hw2]; exact Below.refl _ _)
  rw [← hw2]
  clear hw2
  go_loopg [8, 29] (l0.length + 1) (fun gk v8 v29 wr => ∃ (i : Nat), i ≤ l0.length ∧ gk = l0.length + 1 - i ∧ v29 = .int .i64 (i : Int) ∧ Hid (Below w2.heap.size w2 wr ∧ Kd.R (Kd.int .i64) 3 wr w2.heap.size (fun _ => True) v8 ((l0.map fun x => x.f2).take i)))
  case atStart => exact ⟨0, Nat.zero_le _, rfl, rfl, Lib.hid ⟨Below.refl _ _, Kd.R_nil _ _ _ _ _⟩⟩
  case round =>
    obtain ⟨i, hi, hgk, rfl, HE⟩ := hrel
    have Hg := Lib.hid hgk
    clear hgk
    by_cases hltN : i < l0.length
    · have hlt' : (i : Int) < (l0.length : Int) := by omega
      obtain ⟨ad, e, h0, h1, h2⟩ := at_T38 HR0.out (i : Int) (by omega) (by omega)
      cases e
      obtain ⟨y, hy⟩ : ∃ y, y = rd_T38 l0 (i : Int) := ⟨_, rfl⟩
      rw [← hy, Int.toNat_natCast] at h0 h1 h2
      have hbw := (HB2.out.trans (HE.out.1.mono HB2.out.size))
      have g0 := (hbw.cell (World.block_lt_of_cell? w _ h0)).trans h0
      have g1 := (hbw.cell (World.block_lt_of_cell? w _ h1)).trans h1
      have g2 := (hbw.cell (World.block_lt_of_cell? w _ h2)).trans h2
      have Hy : Hid ((l0.map fun x => x.f2).take (i + 1) = (l0.map fun x => x.f2).take i ++ [y.f2]) := Lib.hid (by
        rw [List.take_succ_eq_append_getElem (by rw [List.length_map]; exact hltN), hy]
        simp [rd_T38, List.getD_eq_getElem?_getD, List.getElem?_eq_getElem hltN])
      have HE1 : Hid (Below w2.heap.size w2 (wr.alloc (.cells #[.int .i64 y.f0, .int .i64 y.f1, .int .i64 y.f2] 38)) ∧ Kd.R (Kd.int .i64) 3 (wr.alloc (.cells #[.int .i64 y.f0, .int .i64 y.f1, .int .i64 y.f2] 38)) w2.heap.size (fun _ => True) u8 ((l0.map fun x => x.f2).take i)) := Lib.hid ⟨HE.out.1.alloc HE.out.1.size _, Kd.R_alloc HE.out.2 _⟩
      have hbx := heap_alloc_new wr (.cells #[.int .i64 y.f0, .int .i64 y.f1, .int .i64 y.f2] 38)
      have hb2' : (wr.alloc (.cells #[.int .i64 y.f0, .int .i64 y.f1, .int .i64 y.f2] 38)).cell? ⟨wr.heap.size, 2, none⟩ = some (.int .i64 y.f2) := by rw [blk_cell hbx]; rfl
      clear hy h0 h1 h2 hbw
      clear hbx
      go_wp2_with ((with_reducible refine gate_builtin (b := .append) (xs := #[.tmp 33, .tmp 36]) rfl ?_); at_builtin; refine Kd.R_append (Kd.int .i64) (w0 := w2) w2.heap.size rfl (.tmp 33) (.tmp 36) 25 3 (.int .i64 0) 8 rfl Tryz.underlying25 info3L rfl (by decide) (by omega) u8 ((l0.map fun x => x.f2).take i) y.f2 [.int .i64 y.f2] _ (fun _ => False) rfl (by rw [World.size_alloc]; rfl) rfl (fun _ h => h.elim) (fun k hk => trivial) HE1.out.2 HE1.out.1 HE1.out.1.size (by simp only [List.length_map, List.length_take]; have := HMax.out; omega) ?_; intro v_8 w_ ho hb hg hat; have HE2 := Lib.hid (And.intro hb ho); clear ho hb hg hat)
      go_roundg (l0.length + 1 - (i + 1))
      case measure => have := Hg.out; omega
      case rel => exact ⟨i + 1, by omega, rfl, by rw [wrapI _ ⟨by omega, by have := HMax.out; omega⟩]; rfl, by rw [Hy.out]; exact HE2⟩
    · have hlt' : ¬ (i : Int) < (l0.length : Int) := by omega
      have hil : i = l0.length := by omega
      subst hil
      have HR8 : Hid (Kd.R (Kd.int .i64) 3 wr w2.heap.size (fun _ => True) u8 (l0.map fun x => x.f2)) := Lib.hid (by have := HE.out.2; rwa [List.take_of_length_le (by rw [List.length_map]; exact Nat.le_refl _)] at this)
      have HB3 := Lib.hid HE.out.1
      clear HE hi Hg
      obtain ⟨_, A8, c8, rfl⟩ := ints_of_R' HR8.out
      obtain ⟨w3, hw3⟩ : ∃ w3, w3 = wr := ⟨_, rfl⟩
      rw [← hw3] at HR8 HB3 ⊢
      clear hw3
      have HR5' : Hid (Kd.R (Kd.int .i64) 3 w3 w.heap.size (fun _ => True) (.slice A5 own.length c5) own) := Lib.hid (Kd.R_below (Kd.R_below HR5.out Hb2.out) HB3.out)
      go_wp2_with (go_at_call 28; refine (sequences_no A5 c5 own para _ (Kd.R_reads' HR5'.out).2.2 (by rw [HLen.out]; exact HMax.out) HP.out.1 HP.out.2).mono ?_; rintro e w4 ⟨rfl, hbS⟩; have HbS := Lib.hid hbS; clear hbS)
      have HB4 : Hid (Below w.heap.size w w4) := Lib.hid (HB2.out.trans ((HB3.out.trans (HbS.out.mono HB3.out.size)).mono HB2.out.size))
      go_loopg [43] 1 (fun gk v43 wr => v43 = .int .i64 0 ∧ wr = w4)
      case atStart => exact ⟨rfl, rfl⟩
      case round =>
        obtain ⟨rfl, rfl⟩ := hrel
        go_wp2
        go_loopg [74] 1 (fun gk v74 wq => v74 = .int .i64 0 ∧ wq = wr)
        case atStart => exact ⟨rfl, rfl⟩
        case round =>
          obtain ⟨rfl, rfl⟩ := hrel
          go_wp2
          go_ret
          exact ⟨_, rfl, Kd.R_nil _ _ _ _ _, HB4.out⟩
theorem bidi_Resolve.calls (A0 : Option Addr) (c0 : Nat) (l0 : List S38) (para : Int) (r : List Int) (w : World) (hr0 : Kd.C k38 w A0 l0.length l0) (hc0 : l0.length ≤ c0) (h : bidi_Resolve.f l0 para = some r) :
    Calls Tryz.prog 12 #[.slice A0 l0.length c0, .int .i64 para] w fun e w' => ∃ v0_ : Value, e = .returned (v0_) ∧ Kd.R (Kd.int .i64) 3 w' w.heap.size (fun _ => True) v0_ r ∧ Below w.heap.size w w' := by
  obtain ⟨own, hown, h⟩ := Option.bind_eq_some_iff.mp h
  by_cases hc : own.length = l0.length ∧ l0.length ≤ 1000000
  case neg => rw [if_neg hc] at h; cases h
  rw [if_pos hc] at h
  by_cases hp : para = 0 ∨ para = 1
  · rw [if_pos hp] at h
    obtain ⟨Y, hY, rfl⟩ := Option.map_eq_some_iff.1 h
    exact resolve_yes A0 c0 l0 para own Y w hr0 hc0 hown hc.1 hc.2 hp hY
  · rw [if_neg hp] at h
    cases h
    exact resolve_no A0 c0 l0 para own w hr0 hc0 hown hc.1 hc.2 (by simp; omega) (by simp; omega)
end Go.Proofs.YtdpifkhkemeclaaGreat
