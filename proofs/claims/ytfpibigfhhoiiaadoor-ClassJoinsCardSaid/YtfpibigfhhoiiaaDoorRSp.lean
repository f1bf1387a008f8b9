/- runes.Split, walked: each code point of a text with its place and its size. -/
import Derived.Test.YtfpibigfhhoiiaaDoorPJx0
import Derived.Test.YtfpibigfhhoiiaaDoorBase
import Derived.Deep.LoopGhost
import Derived.WalkSmall
import Derived.Lib.OthersKept
import Derived.Lib.DecodeN
import Derived.Lib.RuneCount
import Derived.Stop.FmtRuneSmall
import Derived.Shelf.Unicode.DecodeLastEight
namespace Go.Proofs.YtfpibigfhhoiiaaDoor
open Go.RowKit Go.Proofs.YtfpibigfhhoiiaaDoorW.PrintWords
set_option linter.unusedVariables false
set_option linter.unusedSimpArgs false

def enc77 (x : PJ.S77) : List Value := [.int .i64 x.f0, .int .i64 x.f1, .int .i64 x.f2]
def cells77 (L : List PJ.S77) : List Value := L.flatMap enc77
def splN (s : ByteArray) : Nat → Nat → List PJ.S77
  | 0, _ => []
  | f + 1, pos => if pos < s.size then ⟨(pos : Int), ((Utf8.decode s pos).2 : Int), ((Utf8.decode s pos).1 : Int)⟩ :: splN s f (pos + (Utf8.decode s pos).2) else []
def runes_Split.f (a0 : ByteArray) : Option (List PJ.S77) := if a0.size ≤ 1048576 then some (splN a0 a0.size 0) else none

theorem cells77_length (L : List PJ.S77) : (cells77 L).length = L.length * 3 := by
  induction L with
  | nil => rfl
  | cons x r ih => simp only [cells77, List.flatMap_cons, List.length_append, List.length_cons] at ih ⊢; rw [ih]; simp [enc77]; omega
theorem cells77_snoc (L : List PJ.S77) (x : PJ.S77) : cells77 (L ++ [x]) = cells77 L ++ enc77 x := by simp [cells77]
theorem cells77_at (L : List PJ.S77) (x : PJ.S77) (j : Nat) (u : Value) (h : (enc77 x)[j]? = some u) : (cells77 (L ++ [x]))[L.length * 3 + j]? = some u := by
  rw [cells77_snoc, List.getElem?_append_right (by rw [cells77_length]; omega), cells77_length, Nat.add_sub_cancel_left, h]
theorem cells77_set (L : List PJ.S77) (x : PJ.S77) (n : Int) : (cells77 (L ++ [x])).set (L.length * 3 + 1) (.int .i64 n) = cells77 (L ++ [⟨x.f0, n, x.f2⟩]) := by
  rw [cells77_snoc, cells77_snoc, List.set_append_right _ _ (by rw [cells77_length]; omega), cells77_length, Nat.add_sub_cancel_left]
  rfl
theorem flat_drop (L : List PJ.S77) : ∀ (j : Nat) (p : PJ.S77), L[j]? = some p → ((cells77 L).drop (j * 3)).take 3 = enc77 p := by
  induction L with
  | nil => intro j p h; simp at h
  | cons x r ih =>
    intro j p h
    cases j with
    | zero =>
      have hx : x = p := by simpa using h
      subst hx
      simp [cells77, enc77]
    | succ j =>
      have h2 : r[j]? = some p := by simpa using h
      have e : (cells77 (x :: r)).drop ((j + 1) * 3) = (cells77 r).drop (j * 3) := by
        rw [show (j + 1) * 3 = j * 3 + 3 by omega]
        simp only [cells77, List.flatMap_cons, enc77, List.cons_append, List.nil_append, List.drop_succ_cons]
      rw [e]
      exact ih j p h2
theorem own_setSp {w : World} {base : Nat} {e : TypeId} {size n g cap : Nat} {xs : List Value} (h : w.ownsRow base e size (.slice (some ⟨g, 0, none⟩) n cap) n xs) (j : Nat) (u : Value) :
    (w.setCell ⟨g, j, none⟩ u).ownsRow base e size (.slice (some ⟨g, 0, none⟩) n cap) n (xs.set j u) := by
  obtain ⟨h1, h2⟩ := h
  refine ⟨by rw [List.length_set]; exact h1, ?_⟩
  rcases h2 with ⟨hv, _⟩ | ⟨g', cap', cur, hv, hb, hg, hn, hc, hs, ht⟩
  · cases hv
  · injection hv with e1 e2 e3
    injection e1 with e1
    injection e1 with e1
    subst e1 e3
    refine .inr ⟨g, cap, cur.setIfInBounds j u, rfl, hb, blk_set hg j u, hn, hc, by simpa using hs, ?_⟩
    rw [Array.toList_setIfInBounds, List.take_set, ht]
theorem width_okSp (s : ByteArray) (pos : Nat) (h : pos < s.size) : 1 ≤ (Utf8.decode s pos).2 ∧ pos + (Utf8.decode s pos).2 ≤ s.size := by
  refine ⟨Lib.decode_width_pos s pos h, ?_⟩
  have := Lib.decodeN_le_n (s.size - pos) (s.get! pos).toNat (s.get! (pos + 1)).toNat (s.get! (pos + 2)).toNat (s.get! (pos + 3)).toNat (by omega)
  rw [← Lib.decode_at] at this
  omega
theorem splN_step (s : ByteArray) (b pos : Nat) (h : pos < s.size) (hb : s.size ≤ pos + b) : ∃ b', s.size ≤ pos + (Utf8.decode s pos).2 + b' ∧ splN s b pos = ⟨(pos : Int), ((Utf8.decode s pos).2 : Int), ((Utf8.decode s pos).1 : Int)⟩ :: splN s b' (pos + (Utf8.decode s pos).2) := by
  cases b with
  | zero => omega
  | succ b =>
    have := (width_okSp s pos h).1
    exact ⟨b, by omega, by simp only [splN]; rw [if_pos h]⟩
theorem splN_end (s : ByteArray) (b pos : Nat) (h : ¬ pos < s.size) : splN s b pos = [] := by
  cases b with
  | zero => rfl
  | succ b => simp only [splN]; rw [if_neg h]

/-- The list so far: the last element's size reaches to the text's end. -/
def InvSp (s : ByteArray) (pos : Nat) (L : List PJ.S77) : Prop :=
  (L = [] ∧ pos = 0) ∨ ∃ (D : List PJ.S77) (p c : Nat), L = D ++ [⟨(p : Int), (s.size : Int) - p, (c : Int)⟩] ∧ p ≤ pos ∧ ∃ b, s.size ≤ pos + b ∧ (D ++ [⟨(p : Int), (pos : Int) - p, (c : Int)⟩]) ++ splN s b pos = splN s s.size 0
structure StSp (w : World) (s : ByteArray) (pos : Nat) (L : List PJ.S77) (v : Value) (wr : World) : Prop where
  it : wr.heap[w.heap.size]? = some (.stringIter s pos)
  own : wr.ownsRow (w.heap.size + 1) 77 3 v L.length (cells77 L)
  bel : Below w.heap.size w wr
  siz : w.heap.size + 1 ≤ wr.heap.size
  ple : pos ≤ s.size
  len : L.length ≤ pos
  nil : L = [] → v = .slice none 0 0
theorem info77' : (Tryd.prog.info? 77).map (fun i => (i.zero, i.size, i.bytes)) = some (some (.agg #[(.int .i64 0), (.int .i64 0), (.int .i64 0)]), 3, 24) := by kernel_rfl

theorem append77 {wr : World} {ops : Array Oper} {rest : List Oper} {o : Oper} {a : Act} {Q : Exit → Act → World → Prop} (hgd : o.guard = none) (s x : Operand)
    (ho : o.op = .call { callee := .builtin .append, args := #[s, x], argTypes := #[44, 44] }) (base : Nat) (v : Value) (L : List PJ.S77) (hs : a.eval s = v) (hown : wr.ownsRow base 77 3 v L.length (cells77 L))
    (x1 x2 x3 : Int) (c N0 : Nat) (hN : wr.heap.size = N0) (hx : a.eval x = .slice (some ⟨N0, 0, none⟩) 1 c) (h63 : L.length ≤ 1048576) (hbase : base ≤ wr.heap.size)
    (h : ∀ v' w1, w1.ownsRow base 77 3 v' (L ++ [(⟨x1, x2, x3⟩ : PJ.S77)]).length (cells77 (L ++ [(⟨x1, x2, x3⟩ : PJ.S77)])) → (wr.alloc (.cells #[.int .i64 x1, .int .i64 x2, .int .i64 x3] 77)).grownBy w1 v.ownBlock → wpList Tryd.prog ops Q rest (a.put o.dst v') w1) :
    wpList Tryd.prog ops Q (o :: rest) a (wr.alloc (.cells #[.int .i64 x1, .int .i64 x2, .int .i64 x3] 77)) := by
  subst hN
  obtain ⟨i, hi, hz, hsize, hby⟩ := info_parts info77'
  refine wpList_append_own (wr.alloc (.cells #[.int .i64 x1, .int .i64 x2, .int .i64 x3] 77)) hgd s x 44 ho base 77 i (.agg #[(.int .i64 0), (.int .i64 0), (.int .i64 0)]) 3 24 Tryd.underlying44 hi hz hsize hby rfl (by decide) v L.length (cells77 L) hs (hown.alloc _) ⟨wr.heap.size, 0, none⟩ 1 c [.int .i64 x1, .int .i64 x2, .int .i64 x3] hx rfl ?_ ?_ (by unfold maxLen; omega) (by omega) (by simp; omega) fun v' w' h2 h3 _ => h v' w' (by rw [cells77_snoc, List.length_append]; exact h2) h3
  · intro j y hj
    have h2 : (⟨wr.heap.size, 0, none⟩ : Addr).add j = ⟨wr.heap.size, j, none⟩ := add_plain _ _
    rw [h2, cell_of_row _ _ _ _ _ _ (heap_alloc_new wr (.cells #[.int .i64 x1, .int .i64 x2, .int .i64 x3] 77))]
    simpa using hj
  · intro y hy
    simp at hy
    rcases hy with rfl | rfl | rfl <;> rfl

theorem stSp_next {w Wp w1 : World} {s : ByteArray} {pos' : Nat} {L' : List PJ.S77} {v v' : Value} {o : Obj} (hit : Wp.heap[w.heap.size]? = some (.stringIter s pos')) (hb : Below w.heap.size w Wp) (hsz : w.heap.size + 1 ≤ Wp.heap.size)
    (hv : ∀ k, v.ownBlock = some k → w.heap.size + 1 ≤ k) (hown' : w1.ownsRow (w.heap.size + 1) 77 3 v' L'.length (cells77 L')) (hg : (Wp.alloc o).grownBy w1 v.ownBlock) (hp : pos' ≤ s.size) (hl : L'.length ≤ pos') (hne : L' ≠ []) : StSp w s pos' L' v' w1 := by
  have hsz' : (Wp.alloc o).heap.size = Wp.heap.size + 1 := by simp
  refine ⟨?_, hown', ?_, ?_, hp, hl, fun h => absurd h hne⟩
  · rw [hg.block _ (by omega) (by intro e; have := hv _ e.symm; omega), heap_alloc_old _ _ (by omega)]
    exact hit
  · exact (hb.alloc (by omega) o).grown hg (by omega) (by intro j e; have := hv _ e; omega)
  · have := hg.size; omega
theorem invSp_first {s : ByteArray} {n c : Nat} (hn : n = (Utf8.decode s 0).2) (hc : c = (Utf8.decode s 0).1) (h : 0 < s.size) : InvSp s (0 + n) ([] ++ [(⟨0, (s.size : Int), (c : Int)⟩ : PJ.S77)]) := by
  obtain ⟨b', h1, h2⟩ := splN_step s s.size 0 h (by omega)
  refine .inr ⟨[], 0, c, by simp, by omega, b', by rw [hn]; exact h1, ?_⟩
  rw [h2, ← hn, ← hc]
  simp
theorem invSp_more {s : ByteArray} {pos p c0 n c b : Nat} {D : List PJ.S77} (hn : n = (Utf8.decode s pos).2) (hc : c = (Utf8.decode s pos).1) (h : pos < s.size) (hb : s.size ≤ pos + b)
    (hspl : (D ++ [(⟨(p : Int), (pos : Int) - p, (c0 : Int)⟩ : PJ.S77)]) ++ splN s b pos = splN s s.size 0) : InvSp s (pos + n) ((D ++ [(⟨(p : Int), (pos : Int) - p, (c0 : Int)⟩ : PJ.S77)]) ++ [(⟨(pos : Int), (s.size : Int) - pos, (c : Int)⟩ : PJ.S77)]) := by
  obtain ⟨b', h1, h2⟩ := splN_step s b pos h hb
  refine .inr ⟨_, pos, c, rfl, by omega, b', by rw [hn]; exact h1, ?_⟩
  rw [← hspl, h2, ← hn, ← hc]
  have e : ((pos + n : Nat) : Int) - (pos : Int) = (n : Int) := by omega
  rw [e]
  simp
theorem invSp_end {s : ByteArray} {pos : Nat} {L : List PJ.S77} (h : ¬ pos < s.size) (hp : pos ≤ s.size) (hi : InvSp s pos L) : splN s s.size 0 = L := by
  have e : pos = s.size := by omega
  rcases hi with ⟨rfl, h0⟩ | ⟨D, p, c, rfl, _, b, _, hspl⟩
  · rw [splN_end s s.size 0 (by omega)]
  · rw [← hspl, splN_end s b pos h, List.append_nil, e]
theorem R_of_cells {W : World} {base : Nat} {v : Value} {L : List PJ.S77} (h : W.ownsRow (base + 1) 77 3 v L.length (cells77 L)) : Kd.R PJ.k77 77 W base (fun _ => True) v L :=
  Kd.R_lower (⟨fun _ _ => trivial, cells77 L, h, cells77_length L, fun j p hj => by
    show Kd.M PJ.k77 W _ _ p (((cells77 L).drop (j * 3)).take 3)
    rw [flat_drop L j p hj]
    exact PJ.k77_mkM _ _ _ p⟩ : Kd.R PJ.k77 77 W (base + 1) (fun _ => True) v L) (by omega)

set_option maxRecDepth 100000 in
set_option maxHeartbeats 2000000 in
theorem runes_Split.calls (a0 : ByteArray) (r : List PJ.S77) (w : World) (h : runes_Split.f a0 = some r) :
    Calls Tryd.prog 44 #[.string a0] w fun e w' => ∃ v0_ : Value, e = .returned v0_ ∧ Kd.R PJ.k77 77 w' w.heap.size (fun _ => True) v0_ r ∧ Below w.heap.size w w' := by
  unfold runes_Split.f at h
  by_cases hm : a0.size ≤ 1048576
  case neg => rw [if_neg hm] at h; cases h
  rw [if_pos hm] at h
  have Hr := Lib.hid (Option.some.inj h)
  clear h
  have hst : StSp w a0 0 [] (.slice none 0 0) (w.iter a0 0) := ⟨w.iter_heap a0 0, World.ownsRow_nil _ _ _ _, (Below.refl _ _).alloc (Nat.le_refl _) _, by simp [World.iter], Nat.zero_le _, Nat.le_refl _, fun _ => rfl⟩
  obtain ⟨i77, hi, hz0, hz1, hz2⟩ := info_parts info77'
  go_enter Tryd.func44, Tryd.ntmps44
  go_wp2
  go_loopg [3] (a0.size + 1) (fun g v3 wr => ∃ (pos : Nat) (L : List PJ.S77), g = a0.size + 1 - pos ∧ StSp w a0 pos L v3 wr ∧ Hid (InvSp a0 pos L))
  case atStart => exact ⟨0, [], rfl, hst, Lib.hid (.inl ⟨rfl, rfl⟩)⟩
  case round =>
    clear hst
    obtain ⟨pos, L, hg, hS, hinv⟩ := hrel
    have Hg := Lib.hid hg
    clear hg
    by_cases hp : pos < a0.size
    · have hnx : ∀ ty, (Instr.next (.pointer (some ⟨w.heap.size, 0, none⟩)) true ty).run Tryd.prog wr = _ := fun ty => Lib.run_next_any_at wr w.heap.size a0 pos ty hS.it hp
      have hwd := width_okSp a0 pos hp
      have hcm := decode_max a0 pos
      have hown := ownsRow_iterAt hS.own (Nat.lt_succ_self w.heap.size) a0 (pos + (Utf8.decode a0 pos).2)
      obtain ⟨W1, hW1⟩ : ∃ W1, W1 = wr.iterAt w.heap.size a0 (pos + (Utf8.decode a0 pos).2) := ⟨_, rfl⟩
      rw [← hW1] at hown hnx
      have hsz1 : w.heap.size + 1 ≤ W1.heap.size := by rw [hW1, Lib.iterAt_size]; exact hS.siz
      have HW := Lib.hid hW1
      obtain ⟨c, hcc⟩ : ∃ c, c = (Utf8.decode a0 pos).1 := ⟨_, rfl⟩
      rw [← hcc] at hnx hcm
      obtain ⟨n, hnn⟩ : ∃ n, n = (Utf8.decode a0 pos).2 := ⟨_, rfl⟩
      rw [← hnn] at hwd
      have Hn := Lib.hid hnn
      have Hc := Lib.hid hcc
      have hlenL := hS.len
      have hple := hS.ple
      have hnil := hS.nil
      have HS := Lib.hid hS
      clear hW1 hcc hnn hS
      rcases hinv.out with ⟨hL, h0⟩ | ⟨D, p, c0, hL, hpp, hspl⟩
      · obtain rfl := hnil hL
        subst hL h0
        clear hinv
        have HR : ∀ v' w1, w1.ownsRow (w.heap.size + 1) 77 3 v' ([] ++ [(⟨0, (a0.size : Int), (c : Int)⟩ : PJ.S77)]).length (cells77 ([] ++ [(⟨0, (a0.size : Int), (c : Int)⟩ : PJ.S77)])) → (W1.alloc (.cells #[.int .i64 0, .int .i64 a0.size, .int .i64 c] 77)).grownBy w1 (Value.slice none 0 0).ownBlock → StSp w a0 (0 + n) ([] ++ [(⟨0, (a0.size : Int), (c : Int)⟩ : PJ.S77)]) v' w1 := fun v' w1 h1 h2 =>
          stSp_next (by rw [HW.out, Hn.out]; exact Lib.iterAt_heap _ _ _ _ _ HS.out.it) (by rw [HW.out]; exact Lib.below_iterAt HS.out.bel (Nat.le_refl _) _ _) hsz1 (by intro k hk; cases hk) h1 h2 hwd.2 (by simp; omega) (by simp)
        have HRR := Lib.hid HR
        clear HR
        go_wp2_with (at_builtin; refine append77 rfl _ _ rfl (w.heap.size + 1) _ [] rfl hown _ _ _ 1 W1.heap.size rfl rfl (by simp) hsz1 ?_; intro v' w1 hown' hgrow; have HQ := Lib.hid (HRR.out _ _ hown' hgrow); clear hown' hgrow)
        go_roundg (a0.size + 1 - (0 + n))
        case measure => have := Hg.out; omega
        case rel => exact ⟨0 + n, _, rfl, HQ.out, Lib.hid (invSp_first Hn.out Hc.out hp)⟩
      · obtain ⟨m, hmm⟩ : ∃ m, m = D.length := ⟨_, rfl⟩
        have hLl : L.length = m + 1 := by rw [hL, List.length_append, hmm]; rfl
        obtain ⟨g, cap, hv, hgb, hgl⟩ := hown.form (by omega)
        rw [hLl] at hv hown
        subst hv
        have c1 : W1.cell? ⟨g, m * 3, none⟩ = some (.int .i64 p) := by
          have := hown.cells (g := g) rfl (m * 3 + 0) (.int .i64 p) (by rw [hL, hmm]; exact cells77_at D _ 0 _ rfl)
          rw [add_plain] at this
          exact this
        have c2 : W1.cell? ⟨g, m * 3 + 1, none⟩ = some (.int .i64 ((a0.size : Int) - p)) := by
          have := hown.cells (g := g) rfl (m * 3 + 1) (.int .i64 ((a0.size : Int) - p)) (by rw [hL, hmm]; exact cells77_at D _ 1 _ rfl)
          rw [add_plain] at this
          exact this
        have f2 : W1.frozen? ⟨g, m * 3 + 1, none⟩ = false := by
          rcases hown.2 with ⟨hv, _⟩ | ⟨g', cap', cur, hv, _, hg', _⟩
          · cases hv
          · injection hv with e1 _ _
            injection e1 with e1
            injection e1 with e1
            subst e1
            exact frozen_of_row _ _ _ _ _ hg'
        have hown2 : (W1.setCell ⟨g, m * 3 + 1, none⟩ (.int .i64 ((pos : Int) - p))).ownsRow (w.heap.size + 1) 77 3 (.slice (some ⟨g, 0, none⟩) (m + 1) cap) (D ++ [(⟨(p : Int), (pos : Int) - p, (c0 : Int)⟩ : PJ.S77)]).length (cells77 (D ++ [(⟨(p : Int), (pos : Int) - p, (c0 : Int)⟩ : PJ.S77)])) := by
          have h2 := own_setSp hown (m * 3 + 1) (.int .i64 ((pos : Int) - p))
          rw [hL, hmm, cells77_set] at h2
          rw [List.length_append, hmm]
          exact h2
        have hlenD : (D ++ [(⟨(p : Int), (pos : Int) - p, (c0 : Int)⟩ : PJ.S77)]).length ≤ 1048576 := by rw [List.length_append, ← hmm]; simp only [List.length_cons, List.length_nil]; omega
        have hsz2 : w.heap.size + 1 ≤ (W1.setCell ⟨g, m * 3 + 1, none⟩ (.int .i64 ((pos : Int) - p))).heap.size := by simpa [World.setCell] using hsz1
        have HSZ : Hid ((W1.setCell ⟨g, m * 3 + 1, none⟩ (.int .i64 ((pos : Int) - p))).heap.size = W1.heap.size) := Lib.hid (by simp [World.setCell])
        have HL := Lib.hid hL
        have Hspl := Lib.hid hspl
        have hm6 : m ≤ 1048576 := by omega
        have t1 : (0 : Int) < (m : Int) + 1 := by omega
        have t2 : (m : Int) < (m : Int) + 1 := by omega
        have Hmm := Lib.hid hmm
        obtain ⟨X, hX⟩ : ∃ X, X = D ++ [(⟨(p : Int), (pos : Int) - p, (c0 : Int)⟩ : PJ.S77)] := ⟨_, rfl⟩
        have hXl : X.length = m + 1 := by rw [hX, List.length_append, hmm]; rfl
        rw [← hX] at hown2 hlenD
        have HX := Lib.hid hX
        have HR : ∀ v' w1, w1.ownsRow (w.heap.size + 1) 77 3 v' (X ++ [(⟨(pos : Int), (a0.size : Int) - pos, (c : Int)⟩ : PJ.S77)]).length (cells77 (X ++ [(⟨(pos : Int), (a0.size : Int) - pos, (c : Int)⟩ : PJ.S77)])) → ((W1.setCell ⟨g, m * 3 + 1, none⟩ (.int .i64 ((pos : Int) - p))).alloc (.cells #[.int .i64 pos, .int .i64 ((a0.size : Int) - pos), .int .i64 c] 77)).grownBy w1 (Value.slice (some ⟨g, 0, none⟩) (m + 1) cap).ownBlock → StSp w a0 (pos + n) (X ++ [(⟨(pos : Int), (a0.size : Int) - pos, (c : Int)⟩ : PJ.S77)]) v' w1 := fun v' w1 h1 h2 =>
          stSp_next (by rw [Below.heap_setCell _ _ _ _ (show w.heap.size ≠ g by omega), HW.out, Hn.out]; exact Lib.iterAt_heap _ _ _ _ _ HS.out.it) ((by rw [HW.out]; exact Lib.below_iterAt HS.out.bel (Nat.le_refl _) _ _ : Below w.heap.size w W1).setCell (show w.heap.size ≤ g by omega) _) hsz2 (by intro k hk; have : g = k := Option.some.inj hk; omega) h1 h2 hwd.2 (by rw [List.length_append, hXl]; simp only [List.length_cons, List.length_nil]; omega) (by simp)
        have HRR := Lib.hid HR
        have hpp2 : 0 ≤ (pos : Int) - p := by omega
        clear hinv hown hL hspl hLl hmm hX hXl HR
        go_wp2_with (at_builtin; refine append77 rfl _ _ rfl (w.heap.size + 1) _ X rfl hown2 _ _ _ 1 W1.heap.size HSZ.out rfl hlenD hsz2 ?_; intro v' w1 hown' hgrow; have HQ := Lib.hid (HRR.out _ _ hown' hgrow); clear hown' hgrow)
        go_roundg (a0.size + 1 - (pos + n))
        case measure => have := Hg.out; omega
        case rel =>
          obtain ⟨b, hb, hsp⟩ := Hspl.out
          refine ⟨pos + n, _, rfl, HQ.out, Lib.hid ?_⟩
          rw [HX.out]
          exact invSp_more Hn.out Hc.out hp hb hsp
    · have hnx : ∀ ty, (Instr.next (.pointer (some ⟨w.heap.size, 0, none⟩)) true ty).run Tryd.prog wr = .ok (.tuple #[.bool false]) wr := fun ty => by
        simp [Instr.next, getObj, Sem.run, hS.it, hp]
      have HS := Lib.hid hS
      clear hS
      go_wp2
      go_ret
      have e := invSp_end hp HS.out.ple hinv.out
      rw [Hr.out] at e
      subst e
      exact ⟨_, rfl, R_of_cells HS.out.own, HS.out.bel⟩
end Go.Proofs.YtfpibigfhhoiiaaDoor
