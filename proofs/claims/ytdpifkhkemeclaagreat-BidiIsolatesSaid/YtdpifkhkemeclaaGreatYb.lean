/- level.walk: what is open, in any state. level.walk: what goes on by a class. base.Match, of any classes. base.Level, of any classes. level.Explicit of any classes, in plain words; the state of its walk. level.Explicit, of any classes. -/
import Derived.Test.YtdpifkhkemeclaaGreatVMore
import Derived.Test.YtdpifkhkemeclaaGreatZb
import Derived.Test.YtdpifkhkemeclaaGreatZc
import Derived.RegionTactic
import Derived.BigRegion
import Derived.Deep.LoopGhost
import Derived.Test.YtdpifkhkemeclaaGreatYa
import Derived.Test.YtdpifkhkemeclaaGreatZj
import Derived.ScopeJumps
import Derived.WalkMore
set_option linter.unusedVariables false
set_option linter.unusedSimpArgs false
namespace Go.Proofs.YtdpifkhkemeclaaGreat
open Go.RowKit Go.Proofs.YtdpifkhkemeclaaGreatW.PrintWords

theorem made_take (n : Nat) : (madeCells #[Value.int .i64 0] n).toList.take (n * 1) = nums .i64 (List.replicate n 0) := by
  have e : (fun x : Nat => [Value.int .i64 0][x % 1]?.getD default) = fun _ => Value.int .i64 0 := by funext x; simp [Nat.mod_one]
  simp [madeCells, nums, e, List.map_const']
theorem size71 : (Tryz.prog.info? 71).map (·.size) = some 3 := by kernel_rfl
theorem info3L : (Tryz.prog.info? 3).map (fun i => (i.zero, i.size, i.bytes)) = some (some (.int .i64 0), 1, 8) := by kernel_rfl

set_option maxRecDepth 100000 in
set_option maxHeartbeats 2000000 in
theorem last_any (bx g n c : Nat) (lv ov : Int) (iso : Bool) (w : World) (hn : (n : Int) < 1048576)
    (h2 : w.cell? ⟨bx, 2, none⟩ = some (.slice (some ⟨g, 0, none⟩) (n + 1) c))
    (e0 : w.cell? ⟨g, n * 3, none⟩ = some (.int .i64 lv)) (e1 : w.cell? ⟨g, n * 3 + 1, none⟩ = some (.int .i64 ov)) (e2 : w.cell? ⟨g, n * 3 + 2, none⟩ = some (.bool iso)) :
    Calls Tryz.prog 51 #[.pointer (some ⟨bx, 0, none⟩)] w fun e w' => e = .returned (.agg #[.int .i64 lv, .int .i64 ov, .bool iso]) ∧ Below w.heap.size w w' := by
  have hb := World.block_lt_of_cell? w _ h2
  have hg := World.block_lt_of_cell? w _ e0
  go_enter Tryz.func51, Tryz.ntmps51
  go_wp2
  go_region
  go_wp2
  refine bodyPost_ret (v := .agg #[.int .i64 lv, .int .i64 ov, .bool iso]) ?_ rfl ⟨rfl, ?_⟩
  · rw [results_cell Tryz.results51]
    exact run_loadVar_row _ w.heap.size 71 71 #[.int .i64 lv, .int .i64 ov, .bool iso] (0, 0) _ (heap_alloc_new w _) Tryz.underlying71 rfl size71
  · exact pw_below_drewN (n := 1) ((Below.refl _ _).alloc (Nat.le_refl _) _)

end Go.Proofs.YtdpifkhkemeclaaGreat
namespace Go.Proofs.YtdpifkhkemeclaaGreat
open Go.RowKit Go.Proofs.YtdpifkhkemeclaaGreatW.PrintWords

theorem fld71_0 (a b : Int) (c : Bool) (W : World) : (Instr.field 71 (.agg #[.int .i64 a, .int .i64 b, .bool c]) 0).run Tryz.prog W = .ok (.int .i64 a) W := by kernel_rfl
theorem fld71_1 (a b : Int) (c : Bool) (W : World) : (Instr.field 71 (.agg #[.int .i64 a, .int .i64 b, .bool c]) 1).run Tryz.prog W = .ok (.int .i64 b) W := by kernel_rfl
end Go.Proofs.YtdpifkhkemeclaaGreat
namespace Go.Proofs.YtdpifkhkemeclaaGreat
open Go.RowKit Go.Shelf Go.Proofs.YtdpifkhkemeclaaGreatW.PrintWords
structure En where
  lv : Int
  ov : Int
  iso : Bool
def enV (x : En) : List Value := [.int .i64 x.lv, .int .i64 x.ov, .bool x.iso]
def enL (l : List En) : List Value := l.flatMap enV
theorem enL_app (a b : List En) : enL (a ++ b) = enL a ++ enL b := by simp [enL]
theorem enL_len (l : List En) : (enL l).length = l.length * 3 := by
  induction l with
  | nil => rfl
  | cons x l ih => rw [show enL (x :: l) = enV x ++ enL l from rfl, List.length_append, ih]; simp [enV]; omega
structure WS where
  inn : Int
  deep : Int
  iso : Int
  st : List En
structure WK (B bx : Nat) (s : WS) (v : Value) (W : World) : Prop where
  box : W.heap[bx]? = some (.cells #[.int .i64 s.inn, .int .i64 s.deep, v, .int .i64 s.iso] 76 (0, 0))
  row : W.ownsRow B 71 3 v s.st.length (enL s.st.reverse)
  ge : B ≤ bx
structure Mv (bx : Nat) (v v' : Value) (W W' : World) : Prop where
  os : W'.os = W.os
  tape : W'.tape = W.tape
  output : W'.output = W.output
  size : W.heap.size ≤ W'.heap.size
  block : ∀ k, k < W.heap.size → k ≠ bx → some k ≠ v.ownBlock → W'.heap[k]? = W.heap[k]?
  new : v'.ownBlock = v.ownBlock ∨ ∀ k, v'.ownBlock = some k → W.heap.size ≤ k
theorem Mv.refl (bx : Nat) (v : Value) (W : World) : Mv bx v v W W := ⟨rfl, rfl, rfl, Nat.le_refl _, fun _ _ _ _ => rfl, .inl rfl⟩
theorem Mv.trans {bx : Nat} {v v' v'' : Value} {W W' W'' : World} (h : Mv bx v v' W W') (k : Mv bx v' v'' W' W'') : Mv bx v v'' W W'' := by
  refine ⟨k.os.trans h.os, k.tape.trans h.tape, k.output.trans h.output, Nat.le_trans h.size k.size, fun i hi hb hv => ?_, ?_⟩
  · rw [k.block i (Nat.lt_of_lt_of_le hi h.size) hb ?_, h.block i hi hb hv]
    intro e
    rcases h.new with h1 | h1
    · exact hv (e.trans h1)
    · have := h1 i e.symm; omega
  · rcases k.new with k1 | k1
    · rcases h.new with h1 | h1
      · exact .inl (k1.trans h1)
      · exact .inr (fun i hi => h1 i (k1 ▸ hi))
    · exact .inr (fun i hi => Nat.le_trans h.size (k1 i hi))
theorem Mv.below {bx : Nat} {v : Value} {W W' : World} (h : Below W.heap.size W W') : Mv bx v v W W' := ⟨h.os, h.tape, h.output, h.size, fun k hk _ _ => h.block k hk, .inl rfl⟩
theorem heap_set (W : World) (b i : Nat) (u : Value) (cur : Array Value) (e : TypeId) (h : W.heap[b]? = some (.cells cur e (0, 0))) : (W.setCell ⟨b, i, none⟩ u).heap[b]? = some (.cells (cur.setIfInBounds i u) e (0, 0)) := by
  have hb : b < W.heap.size := by
    rcases Nat.lt_or_ge b W.heap.size with hlt | hge
    · exact hlt
    · rw [Array.getElem?_eq_none hge] at h; cases h
  simp only [World.setCell]
  rw [Array.getElem?_modify, if_pos rfl, h]
  rfl
section
variable {B bx : Nat} {s : WS} {v v' : Value} {W W' : World} {t : En} {r : List En}
theorem WK.ne (h : WK B bx s v W) : some bx ≠ v.ownBlock := own_ne h.row h.box (by decide)
theorem WK.below (h : WK B bx s v W) (hb : Below W.heap.size W W') : WK B bx s v W' := ⟨(hb.block _ (lt_of_block h.box)).trans h.box, pw_own_below h.row hb, h.ge⟩
theorem WK.form (h : WK B bx s v W) (hs : s.st = t :: r) : ∃ g c, v = .slice (some ⟨g, 0, none⟩) (r.length + 1) c ∧ B ≤ g ∧ W.cell? ⟨g, r.length * 3, none⟩ = some (.int .i64 t.lv) ∧ W.cell? ⟨g, r.length * 3 + 1, none⟩ = some (.int .i64 t.ov) ∧ W.cell? ⟨g, r.length * 3 + 2, none⟩ = some (.bool t.iso) := by
  have hr := h.row
  rw [hs] at hr
  rcases hr.2 with ⟨_, h0⟩ | ⟨g, cap, cur, hv, hg, _⟩
  · simp at h0
  · subst hv
    have hc := hr.cells (g := g) rfl
    have he : enL (t :: r).reverse = enL r.reverse ++ enV t := by rw [List.reverse_cons, enL_app]; simp [enL]
    have hl : (enL r.reverse).length = r.length * 3 := by rw [enL_len, List.length_reverse]
    have at_ : ∀ j u, (enV t)[j]? = some u → W.cell? ⟨g, r.length * 3 + j, none⟩ = some u := by
      intro j u hu
      have := hc (r.length * 3 + j) u (by rw [he, List.getElem?_append_right (by omega), hl, Nat.add_sub_cancel_left]; exact hu)
      rwa [add_plain] at this
    exact ⟨g, cap, rfl, hg, at_ 0 _ rfl, at_ 1 _ rfl, at_ 2 _ rfl⟩
theorem WK.cell0 (h : WK B bx s v W) : W.cell? ⟨bx, 0, none⟩ = some (.int .i64 s.inn) := by rw [blk_cell h.box]; rfl
theorem WK.cell1 (h : WK B bx s v W) : W.cell? ⟨bx, 1, none⟩ = some (.int .i64 s.deep) := by rw [blk_cell h.box]; rfl
theorem WK.cell2 (h : WK B bx s v W) : W.cell? ⟨bx, 2, none⟩ = some v := by rw [blk_cell h.box]; rfl
theorem WK.cell3 (h : WK B bx s v W) : W.cell? ⟨bx, 3, none⟩ = some (.int .i64 s.iso) := by rw [blk_cell h.box]; rfl
theorem WK.fro (h : WK B bx s v W) (j : Nat) : W.frozen? ⟨bx, j, none⟩ = false := frozen_of_row _ _ _ _ _ h.box
theorem mv_set (h : WK B bx s v W) (i : Nat) (u : Value) : Mv bx v v W (W.setCell ⟨bx, i, none⟩ u) :=
  ⟨rfl, rfl, rfl, by simp [World.setCell], fun k hk hb _ => Below.heap_setCell _ _ _ _ hb, .inl rfl⟩
theorem WK.setInn (h : WK B bx s v W) (x : Int) : WK B bx { s with inn := x } v (W.setCell ⟨bx, 0, none⟩ (.int .i64 x)) := ⟨by rw [heap_set _ _ _ _ _ _ h.box]; rfl, own_setCell h.row h.ne _, h.ge⟩
theorem WK.setDeep (h : WK B bx s v W) (x : Int) : WK B bx { s with deep := x } v (W.setCell ⟨bx, 1, none⟩ (.int .i64 x)) := ⟨by rw [heap_set _ _ _ _ _ _ h.box]; rfl, own_setCell h.row h.ne _, h.ge⟩
theorem WK.setIso (h : WK B bx s v W) (x : Int) : WK B bx { s with iso := x } v (W.setCell ⟨bx, 3, none⟩ (.int .i64 x)) := ⟨by rw [heap_set _ _ _ _ _ _ h.box]; rfl, own_setCell h.row h.ne _, h.ge⟩
theorem WK.last (h : WK B bx s v W) (hs : s.st = t :: r) (hn : r.length < 1048576) : Calls Tryz.prog 51 #[.pointer (some ⟨bx, 0, none⟩)] W fun e w' => e = .returned (.agg #[.int .i64 t.lv, .int .i64 t.ov, .bool t.iso]) ∧ WK B bx s v w' ∧ Below W.heap.size W w' := by
  obtain ⟨g, c, hv, hg, c0, c1, c2⟩ := h.form hs
  subst hv
  exact (last_any bx g r.length c t.lv t.ov t.iso W (by omega) h.cell2 c0 c1 c2).mono (by rintro e w' ⟨rfl, hb⟩; exact ⟨rfl, h.below hb, hb⟩)
end
def nextL (lv odd : Int) : Int := if (Go.bits .and .i64 (lv + 1) 1 == odd) = true then lv + 1 else lv + 1 + 1
set_option maxRecDepth 100000 in
set_option maxHeartbeats 2000000 in
theorem WK.next {B bx : Nat} {s : WS} {v : Value} {W : World} {t : En} {r : List En} (h : WK B bx s v W) (hs : s.st = t :: r) (hn : r.length < 1048576) (hl0 : 0 ≤ t.lv) (hl1 : t.lv ≤ 1000) (odd : Int) :
    Calls Tryz.prog 133 #[.pointer (some ⟨bx, 0, none⟩), .int .i64 odd] W fun e w' => e = .returned (.int .i64 (nextL t.lv odd)) ∧ WK B bx s v w' ∧ Below W.heap.size W w' := by
  have HL := Lib.hid (h.last hs hn)
  have hf0 := fld71_0
  obtain ⟨lv, ov, iso⟩ := t
  dsimp only at *
  by_cases hb : (Go.bits .and .i64 (lv + 1) 1 == odd) = true
  · have hw : Hid (nextL lv odd = lv + 1) := by unfold nextL; rw [if_pos hb]; rfl
    clear h hs hn
    go_enter Tryz.func133, Tryz.ntmps133
    go_wp2_with (go_at_call 51; with_reducible refine HL.out.mono ?_; rintro e w2 ⟨rfl, hK⟩; have HK := Lib.hid hK; clear hK)
    go_ret
    exact ⟨by rw [hw.out]; rfl, HK.out⟩
  · have hw : Hid (nextL lv odd = lv + 1 + 1) := by unfold nextL; rw [if_neg hb]; rfl
    have hb' : (Go.bits .and .i64 (lv + 1) 1 == odd) = false := by simpa using hb
    clear h hs hn hb
    go_enter Tryz.func133, Tryz.ntmps133
    go_wp2_with (go_at_call 51; with_reducible refine HL.out.mono ?_; rintro e w2 ⟨rfl, hK⟩; have HK := Lib.hid hK; clear hK)
    go_ret
    exact ⟨by rw [hw.out]; rfl, HK.out⟩
def fitsW (s : WS) (lv odd : Int) : Bool := !(decide (nextL lv odd > 125) || decide (s.inn > 0) || decide (s.deep > 0))
def pushW (s : WS) (lv odd over : Int) (iso : Bool) : WS := if fitsW s lv odd = true then { s with st := ⟨nextL lv odd, over, iso⟩ :: s.st } else s
theorem pushW_no {s : WS} {lv odd over : Int} {iso : Bool} (h : fitsW s lv odd = false) : pushW s lv odd over iso = s := by unfold pushW; rw [h]; rfl
theorem pushW_yes {s : WS} {lv odd over : Int} {iso : Bool} (h : fitsW s lv odd = true) : pushW s lv odd over iso = { s with st := ⟨nextL lv odd, over, iso⟩ :: s.st } := by unfold pushW; rw [h]; rfl
theorem info71w : (Tryz.prog.info? 71).map (fun i => (i.zero, i.size, i.bytes)) = some (some (.agg #[.int .i64 0, .int .i64 0, .bool false]), 3, 24) := by kernel_rfl
theorem cells_new3 (w : World) (x y z : Value) (t : TypeId) : ∀ j v, [x, y, z][j]? = some v → (w.alloc (.cells #[x, y, z] t)).cell? ((⟨w.heap.size, 0, none⟩ : Addr).add j) = some v := by
  intro j v hj
  have h := heap_alloc_new w (.cells #[x, y, z] t)
  match j, hj with
  | 0, hj => rw [show (⟨w.heap.size, 0, none⟩ : Addr).add 0 = ⟨w.heap.size, 0, none⟩ from rfl, cell_of_row _ _ _ _ _ _ h]; exact hj
  | 1, hj => rw [show (⟨w.heap.size, 0, none⟩ : Addr).add 1 = ⟨w.heap.size, 1, none⟩ from rfl, cell_of_row _ _ _ _ _ _ h]; exact hj
  | 2, hj => rw [show (⟨w.heap.size, 0, none⟩ : Addr).add 2 = ⟨w.heap.size, 2, none⟩ from rfl, cell_of_row _ _ _ _ _ _ h]; exact hj
theorem WK.grown {B bx : Nat} {s : WS} {v v' : Value} {W W' : World} (h : WK B bx s v W) (x : En) (hr : W'.ownsRow B 71 3 v' (s.st.length + 1) (enL s.st.reverse ++ enV x)) (hg : W.grownBy W' v.ownBlock) (hat : v'.ownBlock = v.ownBlock ∨ ∃ b, v'.ownBlock = some b ∧ W.heap.size ≤ b) :
    WK B bx { s with st := x :: s.st } v' (W'.setCell ⟨bx, 2, none⟩ v') ∧ Mv bx v v' W (W'.setCell ⟨bx, 2, none⟩ v') := by
  have hb : W'.heap[bx]? = some (.cells #[.int .i64 s.inn, .int .i64 s.deep, v, .int .i64 s.iso] 76 (0, 0)) := (hg.block _ (lt_of_block h.box) h.ne).trans h.box
  refine ⟨⟨by rw [heap_set _ _ _ _ _ _ hb]; rfl, ?_, h.ge⟩, ⟨hg.os, hg.tape, hg.output, by simp only [World.setCell, Array.size_modify]; exact hg.size, fun k hk hkb hkv => ?_, ?_⟩⟩
  · have := own_setCell (p := ⟨bx, 2, none⟩) hr (show some bx ≠ v'.ownBlock from own_ne hr hb (by decide)) v'
    simp only [List.length_cons, List.reverse_cons]
    rw [enL_app]
    simpa [enL] using this
  · rw [Below.heap_setCell _ _ _ _ hkb]
    exact hg.block k hk hkv
  · rcases hat with h1 | ⟨b, h1, h2⟩
    · exact .inl h1
    · exact .inr (fun k hk => by rw [h1] at hk; cases hk; exact h2)
theorem wpList_append_at {P : Program} {w : World} {ops : Array Oper} {rest : List Oper} {o : Oper} {a : Act} {Q : Exit → Act → World → Prop} (hgd : o.guard = none) (s x : Operand) (t : TypeId)
    (ho : o.op = .call { callee := .builtin .append, args := #[s, x], argTypes := #[t, t] })
    (base : Nat) (e : TypeId) (z : Value) (size bytes : Nat) (ht : P.underlying t = some (.slice e)) (hinfo : (P.info? e).map (fun i => (i.zero, i.size, i.bytes)) = some (some z, size, bytes)) (hzs : z.cells.size = size) (hsz : 0 < size)
    (v : Value) (n : Nat) (xs : List Value) (hs : a.eval s = v) (hown : w.ownsRow base e size v n xs)
    (ad : Addr) (m c : Nat) (news : List Value) (hx : a.eval x = .slice (some ad) m c) (hl : news.length = m * size) (hnews : ∀ j u, news[j]? = some u → w.cell? (ad.add j) = some u) (h1 : ∀ u ∈ news, u.oneCell' = true)
    (h63 : n + m ≤ maxLen) (hbytes : (n + m) * bytes ≤ 140737488355328) (hbase : base ≤ w.heap.size)
    (h : ∀ v' w', w'.ownsRow base e size v' (n + m) (xs ++ news) → w.grownBy w' v.ownBlock → (v'.ownBlock = v.ownBlock ∨ v'.ownBlock = some w.heap.size) → wpList P ops Q rest (a.put o.dst v') w') : wpList P ops Q (o :: rest) a w := by
  obtain ⟨i, hi, hz, hsize, hby⟩ := info_parts hinfo
  refine wpList_plain hgd fun K hK => ?_
  obtain ⟨v', w', hr, h2, h3, h4, h5⟩ := run_append_own_at (P := P) w base t o.type e i z size bytes ht hi hz hsize hby hzs hsz v n xs hown ad m c news hl hnews h1 h63 hbytes hbase
  unfold Oper.wp execOp
  simp only [ho, resolve, invoke, builtin, Sem.run_bind, Sem.run_pure, Result.andThen_ok, List.map_toArray, List.map_cons, List.map_nil, hs, hx, hr]
  exact hK _ _ (h v' w' h2 h3 h5)
set_option maxRecDepth 100000 in
set_option maxHeartbeats 4000000 in
theorem WK.push {B bx : Nat} {s : WS} {v : Value} {W : World} {t : En} {r : List En} (h : WK B bx s v W) (hs : s.st = t :: r) (hn : r.length < 1048576) (hl0 : 0 ≤ t.lv) (hl1 : t.lv ≤ 1000) (hi0 : 0 ≤ s.inn) (hd0 : 0 ≤ s.deep) (odd over : Int) (iso : Bool) :
    Calls Tryz.prog 95 #[.pointer (some ⟨bx, 0, none⟩), .int .i64 odd, .int .i64 over, .bool iso] W fun e w' => e = .returned (.bool (fitsW s t.lv odd)) ∧ ∃ v', WK B bx (pushW s t.lv odd over iso) v' w' ∧ Mv bx v v' W w' := by
  have HN := Lib.hid (h.next hs hn hl0 hl1 odd)
  have HB : Hid (B ≤ W.heap.size) := Lib.hid (Nat.le_trans h.ge (Nat.le_of_lt (lt_of_block h.box)))
  have Hsl : Hid (s.st.length = r.length + 1) := Lib.hid (by rw [hs]; rfl)
  have Hn := Lib.hid hn
  obtain ⟨n, hnn⟩ : ∃ n, n = nextL t.lv odd := ⟨_, rfl⟩
  rw [← hnn] at HN
  have Hf : Hid (fitsW s t.lv odd = !(decide (n > 125) || decide (s.inn > 0) || decide (s.deep > 0))) := Lib.hid (by rw [hnn]; rfl)
  have Hnn := Lib.hid hnn
  clear h hs hn hl0 hl1 hnn
  by_cases h1 : n > 125
  · have hr : Hid (fitsW s t.lv odd = false) := Lib.hid (by rw [Hf.out, decide_eq_true h1]; rfl)
    go_enter Tryz.func95, Tryz.ntmps95
    go_wp2_with (go_at_call 133; with_reducible refine HN.out.mono ?_; rintro e w2 ⟨rfl, hK, hB2⟩; have hc0 := hK.cell0; have hc1 := hK.cell1; have HK := Lib.hid hK; have HB2 := Lib.hid hB2; clear hK hB2)
    go_ret
    exact ⟨by rw [hr.out]; rfl, v, by rw [pushW_no hr.out]; exact HK.out, Mv.below HB2.out⟩
  have b1 : (n > 125) = False := eq_false h1
  by_cases h2 : s.inn > 0
  · have hr : Hid (fitsW s t.lv odd = false) := Lib.hid (by rw [Hf.out, decide_eq_true h2]; simp)
    go_enter Tryz.func95, Tryz.ntmps95
    go_wp2_with (go_at_call 133; with_reducible refine HN.out.mono ?_; rintro e w2 ⟨rfl, hK, hB2⟩; have hc0 := hK.cell0; have hc1 := hK.cell1; have HK := Lib.hid hK; have HB2 := Lib.hid hB2; clear hK hB2)
    go_ret
    exact ⟨by rw [hr.out]; rfl, v, by rw [pushW_no hr.out]; exact HK.out, Mv.below HB2.out⟩
  by_cases h3 : s.deep > 0
  · have hr : Hid (fitsW s t.lv odd = false) := Lib.hid (by rw [Hf.out, decide_eq_true h3]; simp)
    go_enter Tryz.func95, Tryz.ntmps95
    go_wp2_with (go_at_call 133; with_reducible refine HN.out.mono ?_; rintro e w2 ⟨rfl, hK, hB2⟩; have hc0 := hK.cell0; have hc1 := hK.cell1; have HK := Lib.hid hK; have HB2 := Lib.hid hB2; clear hK hB2)
    go_ret
    exact ⟨by rw [hr.out]; rfl, v, by rw [pushW_no hr.out]; exact HK.out, Mv.below HB2.out⟩
  have hb63 : s.st.length + 1 ≤ maxLen := by have := Hsl.out; have := Hn.out; unfold maxLen; omega
  have hbb : (s.st.length + 1) * 24 ≤ 140737488355328 := by have := Hsl.out; have := Hn.out; omega
  have hr : Hid (fitsW s t.lv odd = true) := Lib.hid (by rw [Hf.out, decide_eq_false h1, decide_eq_false h2, decide_eq_false h3]; rfl)
  go_enter Tryz.func95, Tryz.ntmps95
  go_wp2_with (first
    | (go_at_call 133; with_reducible refine HN.out.mono ?_; rintro e w2 ⟨rfl, hK, hB2⟩; have hc0 := hK.cell0; have hc1 := hK.cell1; have hc2 := hK.cell2; have HK := Lib.hid hK; have HB2 := Lib.hid hB2; clear hK hB2)
    | (at_builtin; refine wpList_append_at rfl _ _ 72 rfl B 71 _ 3 24 Tryz.underlying72 info71w rfl (by decide) v s.st.length (enL s.st.reverse) rfl (HK.out.row.alloc _) _ 1 1 (enV ⟨n, over, iso⟩) rfl rfl (cells_new3 _ _ _ _ _) (by intro u hu; simp [enV] at hu; rcases hu with rfl | rfl | rfl <;> rfl) hb63 hbb (by have := HB.out; have := HB2.out.size; simp; omega) ?_; intro v' w1 hown hgrow hat; obtain ⟨g', cap', rfl⟩ := ownsRow_succ hown; have hbx := (hgrow.block _ (by have := lt_of_block HK.out.box; simp; omega) HK.out.ne).trans ((heap_alloc_old _ _ (lt_of_block HK.out.box)).trans HK.out.box); have hs0 : w1.cell? ⟨bx, 2, none⟩ = some v := (by rw [blk_cell hbx]; rfl); have hs1 : w1.frozen? ⟨bx, 2, none⟩ = false := frozen_of_row _ _ _ _ _ hbx; have HG := Lib.hid ((HK.out.below ((Below.refl _ _).alloc (Nat.le_refl _) _)).grown ⟨n, over, iso⟩ hown hgrow (hat.imp id (fun h => ⟨_, h, Nat.le_refl _⟩))); clear hown hgrow hat hbx))
  go_ret
  exact ⟨by rw [hr.out]; rfl, _, by rw [pushW_yes hr.out, ← Hnn.out]; exact HG.out.1, (Mv.below HB2.out).trans ((Mv.below ((Below.refl _ _).alloc (Nat.le_refl _) _)).trans HG.out.2)⟩
end Go.Proofs.YtdpifkhkemeclaaGreat
namespace Go.Proofs.YtdpifkhkemeclaaGreat
open Go.RowKit Go.Shelf Go.Proofs.YtdpifkhkemeclaaGreatW.PrintWords
def embedW (s : WS) (lv odd over : Int) : WS := if fitsW s lv odd = true then pushW s lv odd over false else if s.inn = 0 then { s with deep := s.deep + 1 } else s
def isolW (s : WS) (lv odd : Int) : WS := if fitsW s lv odd = true then { pushW s lv odd (-1) true with iso := s.iso + 1 } else { s with inn := s.inn + 1 }
set_option maxRecDepth 100000 in
set_option maxHeartbeats 4000000 in
theorem WK.embed {B bx : Nat} {s : WS} {v : Value} {W : World} {t : En} {r : List En} (h : WK B bx s v W) (hs : s.st = t :: r) (hn : r.length < 1048576) (hl0 : 0 ≤ t.lv) (hl1 : t.lv ≤ 1000) (hi0 : 0 ≤ s.inn) (hd0 : 0 ≤ s.deep) (hd1 : s.deep ≤ 1048576) (odd over : Int) :
    Calls Tryz.prog 52 #[.pointer (some ⟨bx, 0, none⟩), .int .i64 odd, .int .i64 over] W fun e w' => e = .returned (.tuple #[]) ∧ ∃ v', WK B bx (embedW s t.lv odd over) v' w' ∧ Mv bx v v' W w' := by
  have HP := Lib.hid (h.push hs hn hl0 hl1 hi0 hd0 odd over false)
  cases hf : fitsW s t.lv odd with
  | true =>
    have He : Hid (embedW s t.lv odd over = pushW s t.lv odd over false) := Lib.hid (by unfold embedW; rw [if_pos hf])
    rw [hf] at HP
    clear h hs hn hf
    go_enter Tryz.func52, Tryz.ntmps52
    go_wp2_with (go_at_call 95; with_reducible refine HP.out.mono ?_; rintro e w2 ⟨rfl, v2, hK, hM⟩; have HK := Lib.hid hK; have HM := Lib.hid hM; clear hK hM)
    go_end0
    exact ⟨rfl, v2, by rw [He.out]; exact HK.out, HM.out⟩
  | false =>
    have Hp : Hid (pushW s t.lv odd over false = s) := Lib.hid (pushW_no hf)
    rw [hf, Hp.out] at HP
    by_cases h0 : s.inn = 0
    · have He : Hid (embedW s t.lv odd over = { s with deep := s.deep + 1 }) := Lib.hid (by unfold embedW; rw [if_neg (by rw [hf]; decide), if_pos h0])
      have h0' : Hid (s.inn = 0) := Lib.hid h0
      clear h hs hn hf h0
      go_enter Tryz.func52, Tryz.ntmps52
      go_wp2_with (go_at_call 95; with_reducible refine HP.out.mono ?_; rintro e w2 ⟨rfl, v2, hK, hM⟩; have hc0 := hK.cell0; rw [h0'.out] at hc0; have hc1 := hK.cell1; have hf1 := hK.fro 1; have HK := Lib.hid hK; have HM := Lib.hid hM; clear hK hM)
      go_end0
      exact ⟨rfl, v2, by rw [He.out]; exact HK.out.setDeep _, HM.out.trans (mv_set HK.out _ _)⟩
    · have He : Hid (embedW s t.lv odd over = s) := Lib.hid (by unfold embedW; rw [if_neg (by rw [hf]; decide), if_neg h0])
      have b0 : (s.inn == 0) = false := by simpa using h0
      clear h hs hn hf h0
      go_enter Tryz.func52, Tryz.ntmps52
      go_wp2_with (go_at_call 95; with_reducible refine HP.out.mono ?_; rintro e w2 ⟨rfl, v2, hK, hM⟩; have hc0 := hK.cell0; have HK := Lib.hid hK; have HM := Lib.hid hM; clear hK hM)
      go_end0
      exact ⟨rfl, v2, by rw [He.out]; exact HK.out, HM.out⟩
set_option maxRecDepth 100000 in
set_option maxHeartbeats 4000000 in
theorem WK.isolate {B bx : Nat} {s : WS} {v : Value} {W : World} {t : En} {r : List En} (h : WK B bx s v W) (hs : s.st = t :: r) (hn : r.length < 1048576) (hl0 : 0 ≤ t.lv) (hl1 : t.lv ≤ 1000) (hi0 : 0 ≤ s.inn) (hd0 : 0 ≤ s.deep) (hi1 : s.inn ≤ 1048576) (hs0 : 0 ≤ s.iso) (hs1 : s.iso ≤ 1048576) (odd : Int) :
    Calls Tryz.prog 56 #[.pointer (some ⟨bx, 0, none⟩), .int .i64 odd] W fun e w' => e = .returned (.tuple #[]) ∧ ∃ v', WK B bx (isolW s t.lv odd) v' w' ∧ Mv bx v v' W w' := by
  have HP := Lib.hid (h.push hs hn hl0 hl1 hi0 hd0 odd (-1) true)
  cases hf : fitsW s t.lv odd with
  | true =>
    have He : Hid (isolW s t.lv odd = { pushW s t.lv odd (-1) true with iso := s.iso + 1 }) := Lib.hid (by unfold isolW; rw [if_pos hf])
    have Hi : Hid ((pushW s t.lv odd (-1) true).iso = s.iso) := Lib.hid (by rw [pushW_yes hf])
    rw [hf] at HP
    clear h hs hn hf
    go_enter Tryz.func56, Tryz.ntmps56
    go_wp2_with (go_at_call 95; with_reducible refine HP.out.mono ?_; rintro e w2 ⟨rfl, v2, hK, hM⟩; have hc3 := hK.cell3; rw [Hi.out] at hc3; have hf3 := hK.fro 3; have HK := Lib.hid hK; have HM := Lib.hid hM; clear hK hM)
    go_end0
    exact ⟨rfl, v2, by rw [He.out]; exact HK.out.setIso _, HM.out.trans (mv_set HK.out _ _)⟩
  | false =>
    have Hp : Hid (pushW s t.lv odd (-1) true = s) := Lib.hid (pushW_no hf)
    rw [hf, Hp.out] at HP
    have He : Hid (isolW s t.lv odd = { s with inn := s.inn + 1 }) := Lib.hid (by unfold isolW; rw [if_neg (by rw [hf]; decide)])
    clear h hs hn hf
    go_enter Tryz.func56, Tryz.ntmps56
    go_wp2_with (go_at_call 95; with_reducible refine HP.out.mono ?_; rintro e w2 ⟨rfl, v2, hK, hM⟩; have hc0 := hK.cell0; have hf0 := hK.fro 0; have HK := Lib.hid hK; have HM := Lib.hid hM; clear hK hM)
    go_end0
    exact ⟨rfl, v2, by rw [He.out]; exact HK.out.setInn _, HM.out.trans (mv_set HK.out _ _)⟩
theorem WK.setRow {B bx : Nat} {s : WS} {v v' : Value} {W : World} (h : WK B bx s v W) {st' : List En} (hr : W.ownsRow B 71 3 v' st'.length (enL st'.reverse)) (hv : v'.ownBlock = v.ownBlock) :
    WK B bx { s with st := st' } v' (W.setCell ⟨bx, 2, none⟩ v') ∧ Mv bx v v' W (W.setCell ⟨bx, 2, none⟩ v') :=
  ⟨⟨by rw [heap_set _ _ _ _ _ _ h.box]; rfl, own_setCell (p := ⟨bx, 2, none⟩) hr (show some bx ≠ v'.ownBlock from own_ne hr h.box (by decide)) _, h.ge⟩,
   ⟨rfl, rfl, rfl, by simp [World.setCell], fun k hk hb _ => Below.heap_setCell _ _ _ _ hb, .inl hv⟩⟩
theorem drew_below (W : World) : Below W.heap.size W W.drew := (Below.refl _ _).drew
def popW (s : WS) : WS := { s with st := s.st.tail }
set_option maxRecDepth 100000 in
set_option maxHeartbeats 4000000 in
theorem WK.pop {B bx : Nat} {s : WS} {v : Value} {W : World} {t : En} {r : List En} (h : WK B bx s v W) (hs : s.st = t :: r) (hn : r.length < 1048576) :
    Calls Tryz.prog 96 #[.pointer (some ⟨bx, 0, none⟩)] W fun e w' => e = .returned (.tuple #[]) ∧ ∃ v', WK B bx (popW s) v' w' ∧ Mv bx v v' W w' := by
  obtain ⟨g, c, hv, hg, _⟩ := h.form hs
  subst hv
  have hr := h.row
  rw [hs] at hr
  have hrow : W.ownsRow B 71 3 (.slice (some ⟨g, 0, none⟩) r.length c) r.length (enL r.reverse) := by
    have := own_take (m := r.length) hr (by simp)
    have e : enL (t :: r).reverse = enL r.reverse ++ enV t := by rw [List.reverse_cons, enL_app]; simp [enL]
    rw [e, List.take_left' (by rw [enL_len, List.length_reverse])] at this
    exact this
  have hcap : r.length + 1 ≤ c := by
    rcases hr.2 with ⟨h', _⟩ | ⟨g', cap', cur, h', _, _, hle, _⟩
    · cases h'
    · injection h' with _ _ h3
      simp at hle
      omega
  have hc2 := h.cell2
  have hf2 := h.fro 2
  have HK := Lib.hid h
  have HR := Lib.hid hrow
  have Hs := Lib.hid hs
  have hlt : (r.length : Int) + 1 < 1048578 := by omega
  clear h hr hrow hs
  go_enter Tryz.func96, Tryz.ntmps96
  go_wp2
  go_region
  go_wp2
  go_end0
  have hst : (popW { inn := 0, deep := 0, iso := 0, st := s.st }).st = r := by rw [Hs.out]; rfl
  obtain ⟨q1, q2⟩ := HK.out.setRow (st' := r) HR.out rfl
  refine ⟨rfl, _, ?_, q2.trans (Mv.below (drew_below _))⟩
  have e : popW s = { s with st := r } := by unfold popW; rw [Hs.out]; rfl
  rw [e]
  exact q1.below (drew_below _)
def popTo : List En → List En
  | [] => []
  | t :: r => if t.iso = true then t :: r else popTo r
def closesW (s : WS) : WS := if s.inn > 0 then { s with inn := s.inn - 1 } else if s.iso > 0 then { s with deep := 0, st := (popTo s.st).tail, iso := s.iso - 1 } else s
theorem fld71_2 (a b : Int) (c : Bool) (W : World) : (Instr.field 71 (.agg #[.int .i64 a, .int .i64 b, .bool c]) 2).run Tryz.prog W = .ok (.bool c) W := by kernel_rfl
set_option maxRecDepth 100000 in
set_option maxHeartbeats 4000000 in
theorem WK.closes {B bx : Nat} {s : WS} {v : Value} {W : World} (h : WK B bx s v W) (hn : s.st.length ≤ 1048576) (hi0 : 0 ≤ s.inn) (hi1 : s.inn ≤ 1048576) (hs0 : 0 ≤ s.iso) (hs1 : s.iso ≤ 1048576) (hp : s.iso > 0 → popTo s.st ≠ []) :
    Calls Tryz.prog 54 #[.pointer (some ⟨bx, 0, none⟩)] W fun e w' => e = .returned (.tuple #[]) ∧ ∃ v', WK B bx (closesW s) v' w' ∧ Mv bx v v' W w' := by
  have hc0 := h.cell0
  have hc3 := h.cell3
  have hf0 := h.fro 0
  have hf1 := h.fro 1
  have hf3 := h.fro 3
  by_cases h1 : s.inn > 0
  · have He : Hid (closesW s = { s with inn := s.inn - 1 }) := Lib.hid (by unfold closesW; rw [if_pos h1])
    have HK := Lib.hid h
    clear h hp hn
    go_enter Tryz.func54, Tryz.ntmps54
    go_wp2
    go_end0
    exact ⟨rfl, v, by rw [He.out]; exact HK.out.setInn _, mv_set HK.out _ _⟩
  by_cases h2 : s.iso > 0
  · have He : Hid (closesW s = { s with deep := 0, st := (popTo s.st).tail, iso := s.iso - 1 }) := Lib.hid (by unfold closesW; rw [if_neg h1, if_pos h2])
    have hc1 := h.cell1
    have HK := Lib.hid (h.setDeep 0)
    have HM := Lib.hid (mv_set h 1 (.int .i64 0))
    have HP := Lib.hid (hp h2)
    have Hn := Lib.hid hn
    have Hi := Lib.hid hs1
    have Hi2 := Lib.hid h2
    have hfl := fld71_2
    clear h hp hn
    go_enter Tryz.func54, Tryz.ntmps54
    go_wp2
    go_loopg [] (s.st.length) (fun gk wr => ∃ (st' : List En) (v' : Value), gk = st'.length ∧ Hid (popTo st' = popTo s.st ∧ st'.length ≤ s.st.length) ∧ Hid (WK B bx { s with deep := 0, st := st' } v' wr ∧ Mv bx v v' W wr))
    case atStart => exact ⟨s.st, v, rfl, Lib.hid ⟨rfl, Nat.le_refl _⟩, Lib.hid ⟨HK.out, HM.out⟩⟩
    case round =>
      obtain ⟨st', v', hgk, HQ, HK'⟩ := hrel
      have Hg := Lib.hid hgk
      clear hgk HK HM
      cases st' with
      | nil => exact absurd HQ.out.1.symm HP.out
      | cons t' r' =>
        have hr' : r'.length < 1048576 := by have := HQ.out.2; have := Hn.out; simp at *; omega
        have HL := Lib.hid (HK'.out.1.last (t := t') (r := r') rfl hr')
        obtain ⟨lv, ov, iso⟩ := t'
        cases iso with
        | true =>
          have Hpt : Hid (popTo s.st = ⟨lv, ov, true⟩ :: r') := Lib.hid (by rw [← HQ.out.1]; rfl)
          go_wp2_with (first
            | (go_at_call 51; with_reducible refine HL.out.mono ?_; rintro e w2 ⟨rfl, hK2, hB2⟩; have HK2 := Lib.hid hK2; have HB2 := Lib.hid hB2; clear hK2 hB2)
            | (go_at_call 96; with_reducible refine (HK2.out.pop rfl hr').mono ?_; rintro e w3 ⟨rfl, v3, hK3, hM3⟩; have hc33 := hK3.cell3; simp only [popW] at hc33; have hf33 := hK3.fro 3; have HK3 := Lib.hid hK3; have HM3 := Lib.hid hM3; clear hK3 hM3))
          go_end0
          refine ⟨rfl, v3, ?_, ((HK'.out.2.trans (Mv.below HB2.out)).trans HM3.out).trans (mv_set HK3.out _ _)⟩
          have := HK3.out.setIso (s.iso - 1)
          rw [He.out, Hpt.out]
          exact this
        | false =>
          go_wp2_with (first
            | (go_at_call 51; with_reducible refine HL.out.mono ?_; rintro e w2 ⟨rfl, hK2, hB2⟩; have HK2 := Lib.hid hK2; have HB2 := Lib.hid hB2; clear hK2 hB2)
            | (go_at_call 96; with_reducible refine (HK2.out.pop rfl hr').mono ?_; rintro e w3 ⟨rfl, v3, hK3, hM3⟩; have HK3 := Lib.hid hK3; have HM3 := Lib.hid hM3; clear hK3 hM3))
          go_roundg r'.length
          case measure => have := Hg.out; simp at this; omega
          case rel => exact ⟨r', v3, rfl, Lib.hid ⟨by rw [← HQ.out.1]; rfl, by have := HQ.out.2; simp at this; omega⟩, Lib.hid ⟨HK3.out, (HK'.out.2.trans (Mv.below HB2.out)).trans HM3.out⟩⟩
  · have He : Hid (closesW s = s) := Lib.hid (by unfold closesW; rw [if_neg h1, if_neg h2])
    have HK := Lib.hid h
    clear h hp hn
    go_enter Tryz.func54, Tryz.ntmps54
    go_wp2
    go_end0
    exact ⟨rfl, v, by rw [He.out]; exact HK.out, Mv.refl _ _ _⟩
def endsW (s : WS) (t : En) : WS := if s.inn > 0 then s else if s.deep > 0 then { s with deep := s.deep - 1 } else if t.iso = false ∧ s.st.length > 1 then popW s else s
set_option maxRecDepth 100000 in
set_option maxHeartbeats 4000000 in
theorem WK.ends {B bx : Nat} {s : WS} {v : Value} {W : World} {t : En} {r : List En} (h : WK B bx s v W) (hs : s.st = t :: r) (hn : r.length < 1048576) (hi0 : 0 ≤ s.inn) (hd0 : 0 ≤ s.deep) (hd1 : s.deep ≤ 1048576) :
    Calls Tryz.prog 53 #[.pointer (some ⟨bx, 0, none⟩)] W fun e w' => e = .returned (.tuple #[]) ∧ ∃ v', WK B bx (endsW s t) v' w' ∧ Mv bx v v' W w' := by
  have hc0 := h.cell0
  have hc1 := h.cell1
  have hf1 := h.fro 1
  by_cases h1 : s.inn > 0
  · have He : Hid (endsW s t = s) := Lib.hid (by unfold endsW; rw [if_pos h1])
    have HK := Lib.hid h
    clear h hs hn
    go_enter Tryz.func53, Tryz.ntmps53
    go_wp2
    go_end0
    exact ⟨rfl, v, by rw [He.out]; exact HK.out, Mv.refl _ _ _⟩
  by_cases h2 : s.deep > 0
  · have He : Hid (endsW s t = { s with deep := s.deep - 1 }) := Lib.hid (by unfold endsW; rw [if_neg h1, if_pos h2])
    have HK := Lib.hid h
    clear h hs hn
    go_enter Tryz.func53, Tryz.ntmps53
    go_wp2
    go_end0
    exact ⟨rfl, v, by rw [He.out]; exact HK.out.setDeep _, mv_set HK.out _ _⟩
  have hfl := fld71_2
  have HL := Lib.hid (h.last hs hn)
  obtain ⟨lv, ov, iso⟩ := t
  cases iso with
  | true =>
    have He : Hid (endsW s ⟨lv, ov, true⟩ = s) := Lib.hid (by unfold endsW; rw [if_neg h1, if_neg h2, if_neg (by simp)])
    have HK := Lib.hid h
    clear h hs hn
    go_enter Tryz.func53, Tryz.ntmps53
    go_wp2_with (go_at_call 51; with_reducible refine HL.out.mono ?_; rintro e w2 ⟨rfl, hK2, hB2⟩; have HK2 := Lib.hid hK2; have HB2 := Lib.hid hB2; clear hK2 hB2)
    go_end0
    exact ⟨rfl, v, by rw [He.out]; exact HK2.out, Mv.below HB2.out⟩
  | false =>
    obtain ⟨g, c, hv, hg, _⟩ := h.form hs
    subst hv
    have Hsl : Hid (s.st.length = r.length + 1) := Lib.hid (by rw [hs]; rfl)
    by_cases h3 : r.length > 0
    · have He : Hid (endsW s ⟨lv, ov, false⟩ = popW s) := Lib.hid (by unfold endsW; rw [if_neg h1, if_neg h2, if_pos ⟨rfl, by have := Hsl.out; omega⟩])
      have h3' : ((r.length : Int) + 1 > 1) := by omega
      have h3'' : (((r.length + 1 : Nat) : Int) > 1) := by omega
      have Hs := Lib.hid hs
      have Hn := Lib.hid hn
      clear h hs hn
      go_enter Tryz.func53, Tryz.ntmps53
      go_wp2_with (first
        | (go_at_call 51; with_reducible refine HL.out.mono ?_; rintro e w2 ⟨rfl, hK2, hB2⟩; have hc22 := hK2.cell2; have HK2 := Lib.hid hK2; have HB2 := Lib.hid hB2; clear hK2 hB2)
        | (go_at_call 96; with_reducible refine (HK2.out.pop Hs.out Hn.out).mono ?_; rintro e w3 ⟨rfl, v3, hK3, hM3⟩; have HK3 := Lib.hid hK3; have HM3 := Lib.hid hM3; clear hK3 hM3))
      go_end0
      exact ⟨rfl, v3, by rw [He.out]; exact HK3.out, (Mv.below HB2.out).trans HM3.out⟩
    · have He : Hid (endsW s ⟨lv, ov, false⟩ = s) := Lib.hid (by unfold endsW; rw [if_neg h1, if_neg h2, if_neg (by have := Hsl.out; omega)])
      have h3' : ¬ ((r.length : Int) + 1 > 1) := by omega
      have h3'' : ¬ (((r.length + 1 : Nat) : Int) > 1) := by omega
      clear h hs hn
      go_enter Tryz.func53, Tryz.ntmps53
      go_wp2_with (first
        | (go_at_call 51; with_reducible refine HL.out.mono ?_; rintro e w2 ⟨rfl, hK2, hB2⟩; have hc22 := hK2.cell2; have HK2 := Lib.hid hK2; have HB2 := Lib.hid hB2; clear hK2 hB2))
      go_end0
      exact ⟨rfl, _, by rw [He.out]; exact HK2.out, Mv.below HB2.out⟩
def seenW (t : En) (c : Int) : Int := if t.ov = -1 then c else t.ov
set_option maxRecDepth 100000 in
set_option maxHeartbeats 4000000 in
theorem WK.seen {B bx : Nat} {s : WS} {v : Value} {W : World} {t : En} {r : List En} (h : WK B bx s v W) (hs : s.st = t :: r) (hn : r.length < 1048576) (c : Int) :
    Calls Tryz.prog 55 #[.pointer (some ⟨bx, 0, none⟩), .int .i64 c] W fun e w' => e = .returned (.int .i64 (seenW t c)) ∧ WK B bx s v w' ∧ Below W.heap.size W w' := by
  have hfl := fld71_1
  have HL := Lib.hid (h.last hs hn)
  obtain ⟨lv, ov, iso⟩ := t
  by_cases h1 : ov = -1
  · have He : Hid (seenW ⟨lv, ov, iso⟩ c = c) := Lib.hid (if_pos h1)
    subst h1
    clear h hs hn
    go_enter Tryz.func55, Tryz.ntmps55
    go_wp2_with (go_at_call 51; with_reducible refine HL.out.mono ?_; rintro e w2 ⟨rfl, hK2⟩; have HK2 := Lib.hid hK2; clear hK2)
    go_ret
    exact ⟨by rw [He.out]; rfl, HK2.out⟩
  · have He : Hid (seenW ⟨lv, ov, iso⟩ c = ov) := Lib.hid (if_neg h1)
    have b1 : (ov == -1) = false := by simpa using h1
    clear h hs hn h1
    go_enter Tryz.func55, Tryz.ntmps55
    go_wp2_with (go_at_call 51; with_reducible refine HL.out.mono ?_; rintro e w2 ⟨rfl, hK2⟩; have HK2 := Lib.hid hK2; clear hK2)
    go_ret
    exact ⟨by rw [He.out]; rfl, HK2.out⟩
end Go.Proofs.YtdpifkhkemeclaaGreat
namespace Go.Proofs.YtdpifkhkemeclaaGreat
open Go.RowKit Go.Shelf Go.Proofs.YtdpifkhkemeclaaGreatW.PrintWords
def opB (c : Int) : Bool := c == 19 || c == 20 || c == 21
theorem opens_all (c : Int) (w : World) : Calls Tryz.prog 94 #[.int .i64 c] w fun e w' => e = .returned (.bool (opB c)) ∧ w' = w := by
  by_cases h1 : c = 19
  · subst h1
    go_enter Tryz.func94, Tryz.ntmps94
    go_wp2
    go_ret
    exact ⟨rfl, rfl⟩
  by_cases h2 : c = 20
  · subst h2
    go_enter Tryz.func94, Tryz.ntmps94
    go_wp2
    go_ret
    exact ⟨rfl, rfl⟩
  by_cases h3 : c = 21
  · subst h3
    go_enter Tryz.func94, Tryz.ntmps94
    go_wp2
    go_ret
    exact ⟨rfl, rfl⟩
  have b1 : (c == 19) = false := by simpa using h1
  have b2 : (c == 20) = false := by simpa using h2
  have b3 : (c == 21) = false := by simpa using h3
  have hr : Hid (opB c = false) := Lib.hid (by unfold opB; rw [b1, b2, b3]; rfl)
  clear h1 h2 h3
  go_enter Tryz.func94, Tryz.ntmps94
  go_wp2
  go_ret
  exact ⟨by rw [hr.out]; rfl, rfl⟩
def mtStep (n i : Nat) (c : Int) (st : List Int × List Nat) : List Int × List Nat :=
  if opB c = true then ((st.1.set i (-1)).set i (n : Int), i :: st.2)
  else if c = 22 then (match st.2 with
    | [] => (st.1.set i (-1), [])
    | a :: r => (((st.1.set i (-1)).set i (a : Int)).set a (i : Int), r))
  else (st.1.set i (-1), st.2)
def mtTo (l : List Int) : Nat → List Int × List Nat
  | 0 => (List.replicate l.length 0, [])
  | i + 1 => mtStep l.length i (l.getD i 0) (mtTo l i)
def matchW (l : List Int) : List Int := (mtTo l l.length).1
theorem mtTo_inv (l : List Int) : ∀ i, i ≤ l.length → (mtTo l i).1.length = l.length ∧ (∀ a ∈ (mtTo l i).2, a < i) ∧ (mtTo l i).2.length ≤ i
  | 0, _ => ⟨by simp [mtTo], by simp [mtTo], by simp [mtTo]⟩
  | i + 1, h => by
    obtain ⟨h1, h2, h3⟩ := mtTo_inv l i (by omega)
    simp only [mtTo, mtStep]
    split
    · refine ⟨by simp [h1], fun a ha => ?_, by simp; omega⟩
      rcases List.mem_cons.1 ha with rfl | ha
      · omega
      · have := h2 a ha; omega
    · split
      · cases hq : (mtTo l i).2 with
        | nil => exact ⟨by simp [h1], by simp, by simp⟩
        | cons a r =>
          rw [hq] at h2 h3
          refine ⟨by simp [h1], fun b hb => ?_, by simp at h3 ⊢; omega⟩
          have := h2 b (by simp [hb])
          omega
      · exact ⟨by simp [h1], fun a ha => by have := h2 a ha; omega, by show (mtTo l i).2.length ≤ i + 1; omega⟩
structure MT (w : World) (n : Nat) (R : List Int) (op : List Nat) (v : Value) (W : World) : Prop where
  bel : Below w.heap.size w W
  out : W.ownsRow w.heap.size 3 1 (.slice (some ⟨w.heap.size, 0, none⟩) n n) n (nums .i64 R)
  opn : W.ownsRow (w.heap.size + 1) 3 1 v op.length (nums .i64 (op.reverse.map fun i : Nat => (i : Int)))
  lt : w.heap.size < W.heap.size
section
variable {w W W' : World} {n : Nat} {R : List Int} {op : List Nat} {v v' : Value}
theorem MT.ne (h : MT w n R op v W) : some w.heap.size ≠ v.ownBlock := fun e => by have := own_base h.opn _ e.symm; omega
theorem MT.below (h : MT w n R op v W) (hb : Below W.heap.size W W') : MT w n R op v W' :=
  ⟨h.bel.trans (hb.mono h.bel.size), pw_own_below h.out hb, pw_own_below h.opn hb, Nat.lt_of_lt_of_le h.lt hb.size⟩
theorem MT.set (h : MT w n R op v W) (i : Nat) (x : Int) : MT w n (R.set i x) op v (W.setCell ⟨w.heap.size, i, none⟩ (.int .i64 x)) :=
  ⟨h.bel.setCell (p := ⟨w.heap.size, i, none⟩) (Nat.le_refl _) _, by rw [← nums_set]; exact own_setW h.out i _, own_setCell (p := ⟨w.heap.size, i, none⟩) h.opn h.ne _, by simp [World.setCell]; exact h.lt⟩
theorem MT.fro (h : MT w n R op v W) (i : Nat) : W.frozen? ⟨w.heap.size, i, none⟩ = false := by
  rcases h.out.2 with ⟨hv, _⟩ | ⟨g', cap', cur, hv, _, hg', _⟩
  · cases hv
  · injection hv with e1 _ _
    injection e1 with e1
    injection e1 with e1
    subst e1
    exact frozen_of_row _ _ _ _ _ hg'
theorem MT.cell (h : MT w n R op v W) (i : Nat) (hi : i < R.length) : W.cell? ⟨w.heap.size, i, none⟩ = some (.int .i64 (R.getD i 0)) := by
  have := h.out.cells (g := w.heap.size) rfl i (.int .i64 (R.getD i 0)) (by simp [nums, hi])
  rwa [add_plain] at this
theorem MT.grown (h : MT w n R op v W) (a : Nat) (hr : W'.ownsRow (w.heap.size + 1) 3 1 v' (op.length + 1) (nums .i64 (op.reverse.map fun i : Nat => (i : Int)) ++ [.int .i64 (a : Int)])) (hg : W.grownBy W' v.ownBlock) : MT w n R (a :: op) v' W' := by
  refine ⟨h.bel.grown hg h.bel.size (fun k e => by have := own_base h.opn k e; omega), h.out.kept hg (.inr h.ne), ?_, Nat.lt_of_lt_of_le h.lt hg.size⟩
  have e : nums .i64 ((a :: op).reverse.map fun i : Nat => (i : Int)) = nums .i64 (op.reverse.map fun i : Nat => (i : Int)) ++ [.int .i64 (a : Int)] := by simp [nums]
  rw [e]
  exact hr
theorem MT.pop {g c a : Nat} {r : List Nat} (h : MT w n R (a :: r) (.slice (some ⟨g, 0, none⟩) (r.length + 1) c) W) : MT w n R r (.slice (some ⟨g, 0, none⟩) r.length c) W := by
  refine ⟨h.bel, h.out, ?_, h.lt⟩
  have := own_take (m := r.length) h.opn (by simp)
  have e : nums .i64 ((a :: r).reverse.map fun i : Nat => (i : Int)) = nums .i64 (r.reverse.map fun i : Nat => (i : Int)) ++ [.int .i64 (a : Int)] := by simp [nums]
  rw [e, List.take_left' (by simp [nums])] at this
  exact this
theorem MT.top {a : Nat} {r : List Nat} (h : MT w n R (a :: r) v W) : ∃ g c, v = .slice (some ⟨g, 0, none⟩) (r.length + 1) c ∧ r.length + 1 ≤ c ∧ W.cell? ⟨g, r.length, none⟩ = some (.int .i64 (a : Int)) := by
  obtain ⟨g, c, rfl⟩ := ownsRow_succ (k := r.length) h.opn
  have hc := h.opn.cells (g := g) rfl r.length (.int .i64 (a : Int)) (by
    have e : nums .i64 ((a :: r).reverse.map fun i : Nat => (i : Int)) = nums .i64 (r.reverse.map fun i : Nat => (i : Int)) ++ [.int .i64 (a : Int)] := by simp [nums]
    rw [e, List.getElem?_append_right (by simp [nums])]
    simp [nums])
  rw [add_plain] at hc
  refine ⟨g, c, rfl, ?_, hc⟩
  rcases h.opn.2 with ⟨h', _⟩ | ⟨g', cap', cur, h', _, _, hle, _⟩
  · cases h'
  · injection h' with _ _ h3
    simp at hle
    omega
end
theorem cells_new1 (w : World) (x : Value) (t : TypeId) (b : Nat) (hb : b = w.heap.size) : ∀ j v, [x][j]? = some v → (w.alloc (.cells #[x] t)).cell? ((⟨b, 0, none⟩ : Addr).add j) = some v := by
  intro j v hj
  subst hb
  have h := heap_alloc_new w (.cells #[x] t)
  match j, hj with
  | 0, hj => rw [show (⟨w.heap.size, 0, none⟩ : Addr).add 0 = ⟨w.heap.size, 0, none⟩ from rfl, cell_of_row _ _ _ _ _ _ h]; exact hj
set_option maxRecDepth 100000 in
set_option maxHeartbeats 4000000 in
theorem match_all (A0 : Option Addr) (c0 : Nat) (l : List Int) (w : World) (hr0 : Kd.C (Kd.int .i64) w A0 l.length l) (hl : l.length ≤ 1048576) :
    Calls Tryz.prog 50 #[.slice A0 l.length c0] w fun e w' => e = .returned (.slice (some ⟨w.heap.size, 0, none⟩) l.length l.length) ∧ w'.ownsRow w.heap.size 3 1 (.slice (some ⟨w.heap.size, 0, none⟩) l.length l.length) l.length (nums .i64 (matchW l)) ∧ Below w.heap.size w w' := by
  have hmk := fun W : World => run_make_row' (P := Tryz.prog) 25 3 (.int .i64 0) 8 Tryz.underlying25 info3L rfl .i64 .i64 l.length (by omega) (by omega) W
  have HC := Lib.hid hr0
  have Hl := Lib.hid hl
  clear hr0 hl
  go_enter Tryz.func50, Tryz.ntmps50
  go_wp2
  have HW0 : Hid (MT w l.length (List.replicate l.length 0) [] (.slice none 0 0) (w.alloc (.cells (madeCells #[.int .i64 0] l.length) 3))) := Lib.hid ⟨(Below.refl _ _).alloc (Nat.le_refl _) _, by
    refine ⟨by simp [nums], .inr ⟨w.heap.size, l.length, _, rfl, Nat.le_refl _, heap_alloc_new _ _, Nat.le_refl _, by have := Hl.out; unfold maxLen; omega, by simp [madeCells], ?_⟩⟩
    exact made_take l.length, World.ownsRow_nil _ _ _ _, by simp⟩
  go_loopg [4, 13] (l.length + 1) (fun gk v4 v13 wr => ∃ (i : Nat) (R : List Int) (op : List Nat), i ≤ l.length ∧ gk = l.length + 1 - i ∧ v13 = .int .i64 i ∧ Hid ((R, op) = mtTo l i) ∧ Hid (MT w l.length R op v4 wr))
  case atStart => exact ⟨0, List.replicate l.length 0, [], Nat.zero_le _, rfl, rfl, Lib.hid rfl, HW0⟩
  case round =>
    obtain ⟨i, R, op, hi, hgk, rfl, HJ, HS⟩ := hrel
    have Hg := Lib.hid hgk
    have HI : Hid (R.length = l.length ∧ (∀ a ∈ op, a < i) ∧ op.length ≤ i) := Lib.hid (by have := mtTo_inv l i hi; rw [← HJ.out] at this; exact this)
    clear hgk HW0 hmk
    by_cases hlt : i < l.length
    · have hlt' : (i : Int) < (l.length : Int) := by omega
      have hib : (i : Int) < 1048576 := by have := Hl.out; omega
      obtain ⟨ad, e, hc⟩ := Kd.at_int HC.out (i : Int) (by omega) (by omega)
      cases e
      have hc' : w.cell? (ad.add i) = some (.int .i64 (l.getD i 0)) := by simpa [rd] using hc
      have hblk := World.block_lt_of_cell? w _ hc'
      obtain ⟨c, hcc⟩ : ∃ c, c = l.getD i 0 := ⟨_, rfl⟩
      have hcx : wr.cell? (ad.add i) = some (.int .i64 c) := by rw [HS.out.bel.cell hblk, hcc]; exact hc'
      have Hc := Lib.hid hcc
      have hob := HS.out.cell i (by have := HI.out.1; omega)
      have hof := HS.out.fro i
      have HS2 := Lib.hid (HS.out.set i (-1))
      have hof2 := HS2.out.fro i
      have hob2 := HS2.out.cell i (by have := HI.out.1; simp; omega)
      have HOp := Lib.hid (opens_all c)
      clear hc hc' hblk hcc
      cases ho : opB c with
      | true =>
        rw [ho] at HOp
        have HS3 := Lib.hid (HS2.out.set i (l.length : Int))
        have Hst : Hid (mtTo l (i + 1) = ((R.set i (-1)).set i (l.length : Int), i :: op)) := Lib.hid (by simp only [mtTo, mtStep]; rw [← Hc.out, if_pos ho, ← HJ.out])
        have h63 : Hid (op.length + 1 ≤ maxLen) := Lib.hid (by have := HI.out; have := Hl.out; unfold maxLen; omega)
        have hbb : Hid ((op.length + 1) * 8 ≤ 140737488355328) := Lib.hid (by have := HI.out; have := Hl.out; omega)
        clear ho
        go_wp2_with (first
          | (go_at_call 94; with_reducible refine (HOp.out _).mono ?_; rintro e w' ⟨rfl, hw⟩; obtain rfl := hw.symm; clear hw)
          | (at_builtin; refine wpList_append_at rfl _ _ 25 rfl (w.heap.size + 1) 3 (.int .i64 0) 1 8 Tryz.underlying25 info3L rfl (by decide) _ _ _ rfl (HS3.out.opn.alloc _) _ 1 1 [.int .i64 (i : Int)] rfl rfl (cells_new1 _ _ _ _ (by simp [World.setCell])) (by intro u hu; simp at hu; subst hu; rfl) h63.out hbb.out (by have := HS.out.lt; simp [World.setCell]; omega) ?_; intro v' w1 hown hgrow hat; have HS4 := Lib.hid ((HS3.out.below ((Below.refl _ _).alloc (Nat.le_refl _) (.cells #[.int .i64 (i : Int)] 3))).grown i hown hgrow); clear hown hgrow hat))
        go_roundg (l.length + 1 - (i + 1))
        case measure => have := Hg.out; omega
        case rel => exact ⟨i + 1, (R.set i (-1)).set i (l.length : Int), i :: op, by omega, rfl, by go_num, Lib.hid Hst.out.symm, HS4⟩
      | false =>
        rw [ho] at HOp
        by_cases h22 : c = 22
        · subst h22
          cases op with
          | nil =>
            have Hst : Hid (mtTo l (i + 1) = (R.set i (-1), [])) := Lib.hid (by simp only [mtTo, mtStep]; rw [← Hc.out, ho, if_neg (by decide), if_pos rfl, ← HJ.out])
            obtain ⟨A4, c4, hv4⟩ := own_slice HS.out.opn
            subst hv4
            clear ho
            go_wp2_with (go_at_call 94; with_reducible refine (HOp.out _).mono ?_; rintro e w' ⟨rfl, hw⟩; obtain rfl := hw.symm; clear hw)
            go_roundg (l.length + 1 - (i + 1))
            case measure => have := Hg.out; omega
            case rel => exact ⟨i + 1, R.set i (-1), [], by omega, rfl, by go_num, Lib.hid Hst.out.symm, HS2⟩
          | cons a r =>
            have Hst : Hid (mtTo l (i + 1) = (((R.set i (-1)).set i (a : Int)).set a (i : Int), r)) := Lib.hid (by simp only [mtTo, mtStep]; rw [← Hc.out, ho, if_neg (by decide), if_pos rfl, ← HJ.out])
            obtain ⟨g, c4, hv4, hcap, _⟩ := HS.out.top
            subst hv4
            obtain ⟨g', c4', hv4', _, htop⟩ := HS2.out.top
            cases hv4'
            have hai := HI.out.2.1 a (by simp)
            have hal : (a : Int) < (l.length : Int) := by omega
            have hr1 : (r.length : Int) + 1 < 1048578 := by have h9 := HI.out.2.2; have := Hl.out; simp only [List.length_cons] at h9; omega
            have HS3 := Lib.hid (HS2.out.pop.set i (a : Int))
            have hof3 := HS3.out.fro a
            have hob3 := HS3.out.cell a (by have := HI.out.1; simp; omega)
            have HS4 := Lib.hid (HS3.out.set a (i : Int))
            clear ho
            go_wp2_with (go_at_call 94; with_reducible refine (HOp.out _).mono ?_; rintro e w' ⟨rfl, hw⟩; obtain rfl := hw.symm; clear hw)
            go_roundg (l.length + 1 - (i + 1))
            case measure => have := Hg.out; omega
            case rel => exact ⟨i + 1, ((R.set i (-1)).set i (a : Int)).set a (i : Int), r, by omega, rfl, by go_num, Lib.hid Hst.out.symm, HS4⟩
        · have b22 : (c == 22) = false := by simpa using h22
          have Hst : Hid (mtTo l (i + 1) = (R.set i (-1), op)) := Lib.hid (by simp only [mtTo, mtStep]; rw [← Hc.out, ho, if_neg (by decide), if_neg h22, ← HJ.out])
          clear h22 ho
          go_wp2_with (go_at_call 94; with_reducible refine (HOp.out _).mono ?_; rintro e w' ⟨rfl, hw⟩; obtain rfl := hw.symm; clear hw)
          go_roundg (l.length + 1 - (i + 1))
          case measure => have := Hg.out; omega
          case rel => exact ⟨i + 1, R.set i (-1), op, by omega, rfl, by go_num, Lib.hid Hst.out.symm, HS2⟩
    · have hlt' : ¬ (i : Int) < (l.length : Int) := by omega
      have hil : i = l.length := by omega
      subst hil
      go_wp2
      go_ret
      refine ⟨rfl, ?_, HS.out.bel⟩
      have e : R = matchW l := by unfold matchW; rw [← HJ.out]
      rw [← e]
      exact HS.out.out
end Go.Proofs.YtdpifkhkemeclaaGreat
namespace Go.Proofs.YtdpifkhkemeclaaGreat
open Go.RowKit Go.Shelf Go.Proofs.YtdpifkhkemeclaaGreatW.PrintWords
theorem matchW_len (l : List Int) : (matchW l).length = l.length := (mtTo_inv l l.length (Nat.le_refl _)).1
theorem match_to (l : List Int) : ∀ i, i ≤ l.length → (∀ a ∈ (mtTo l i).2, a < i ∧ opB (l.getD a 0) = true) ∧ ∀ j, j < i → opB (l.getD j 0) = true → ∃ m : Nat, (mtTo l i).1.getD j 0 = (m : Int) ∧ j < m ∧ m ≤ l.length
  | 0, _ => ⟨by simp [mtTo], fun j hj => by omega⟩
  | i + 1, h => by
    obtain ⟨h1, h2⟩ := match_to l i (by omega)
    have hl := (mtTo_inv l i (by omega)).1
    have hset : ∀ (R : List Int) (k : Nat) (x : Int) (j : Nat), j < R.length → (R.set k x).getD j 0 = if k = j then x else R.getD j 0 := by
      intro R k x j hj
      rw [List.getD_eq_getElem?_getD, List.getElem?_set, List.getD_eq_getElem?_getD]
      by_cases e : k = j
      · subst e; simp [hj]
      · rw [if_neg e, if_neg e]
    simp only [mtTo, mtStep]
    split
    · rename_i ho
      refine ⟨fun a ha => ?_, fun j hj hop => ?_⟩
      · rcases List.mem_cons.1 ha with rfl | ha
        · exact ⟨by omega, ho⟩
        · exact ⟨by have := (h1 a ha).1; omega, (h1 a ha).2⟩
      · rw [hset _ _ _ _ (by simp; omega), hset _ _ _ _ (by omega)]
        by_cases e : i = j
        · exact ⟨l.length, by rw [if_pos e], by omega, Nat.le_refl _⟩
        · rw [if_neg e, if_neg e]
          exact h2 j (by omega) hop
    · rename_i ho
      split
      · cases hq : (mtTo l i).2 with
        | nil =>
          refine ⟨by simp, fun j hj hop => ?_⟩
          dsimp only
          rw [hset _ _ _ _ (by omega)]
          by_cases e : i = j
          · subst e; exact absurd hop ho
          · rw [if_neg e]
            exact h2 j (by omega) hop
        | cons a r =>
          rw [hq] at h1
          refine ⟨fun b hb => by have := h1 b (by simp [hb]); exact ⟨by omega, this.2⟩, fun j hj hop => ?_⟩
          dsimp only
          rw [hset _ _ _ _ (by simp; omega), hset _ _ _ _ (by simp; omega), hset _ _ _ _ (by omega)]
          by_cases e0 : a = j
          · have := h1 a (by simp)
            exact ⟨i, by rw [if_pos e0], by omega, by omega⟩
          · rw [if_neg e0]
            by_cases e : i = j
            · subst e; exact absurd hop ho
            · rw [if_neg e, if_neg e]
              exact h2 j (by omega) hop
      · refine ⟨fun a ha => by have := h1 a ha; exact ⟨by omega, this.2⟩, fun j hj hop => ?_⟩
        dsimp only
        rw [hset _ _ _ _ (by omega)]
        by_cases e : i = j
        · subst e; exact absurd hop ho
        · rw [if_neg e]
          exact h2 j (by omega) hop
theorem match_next (l : List Int) (i : Nat) (hi : i < l.length) (ho : opB (l.getD i 0) = true) : ∃ m : Nat, (matchW l).getD i 0 = (m : Int) ∧ i < m ∧ m ≤ l.length := (match_to l l.length (Nat.le_refl _)).2 i hi ho
def lvlGo (l M : List Int) : Nat → Nat → Int × Bool
  | 0, _ => (0, false)
  | d + 1, i => if l.length ≤ i then (0, false) else if l.getD i 0 = 0 then (0, true) else if l.getD i 0 = 1 ∨ l.getD i 0 = 2 then (1, true) else if opB (l.getD i 0) = true then lvlGo l M d ((M.getD i 0).toNat + 1) else lvlGo l M d (i + 1)
def lvlW (l : List Int) : Int × Bool := lvlGo l (matchW l) (l.length + 1) 0
def intOf : Value → Int | .int _ q => q | _ => 0
set_option maxRecDepth 1000000 in
set_option maxHeartbeats 8000000 in
theorem level_all (A0 : Option Addr) (c0 : Nat) (l : List Int) (w : World) (hr0 : Kd.C (Kd.int .i64) w A0 l.length l) (hl : l.length ≤ 1048576) :
    Calls Tryz.prog 57 #[.slice A0 l.length c0] w fun e w' => e = .returned (.tuple #[.int .i64 (lvlW l).1, .bool (lvlW l).2]) ∧ Below w.heap.size w w' := by
  have HC := Lib.hid hr0
  have Hl := Lib.hid hl
  have HMc := Lib.hid (match_all A0 c0 l w hr0 hl)
  clear hr0 hl
  go_enter Tryz.func57, Tryz.ntmps57
  go_wp2
  refine wp_scope_jumps 0 (fun a' w' => Hid (w'.ownsRow w.heap.size 3 1 (.slice (some ⟨w.heap.size, 0, none⟩) l.length l.length) l.length (nums .i64 (matchW l)) ∧ Below w.heap.size w w') ∧ ∃ (i : Nat) (u6 u7 u8 u9 u10 u11 u12 u13 u14 u15 u16 u17 u18 u19 u20 u21 u22 u23 u24 u25 u26 u27 u28 u29 u30 u31 u32 u33 u34 u35 : Value), a' = { tmps := #[.slice A0 l.length c0, undef, .int .i64 0, .bool false, .slice (some ⟨w.heap.size, 0, none⟩) l.length l.length, .int .i64 i, u6, u7, u8, u9, u10, u11, u12, u13, u14, u15, u16, u17, u18, u19, u20, u21, u22, u23, u24, u25, u26, u27, u28, u29, u30, u31, u32, u33, u34, u35], defers := [] } ∧ Hid (i ≤ l.length + 1 ∧ ∃ d, l.length + 1 - i ≤ d ∧ lvlGo l (matchW l) d i = lvlW l)) (fun a' _ => l.length + 2 - (intOf (a'.tmps.getD 5 undef)).toNat) rfl ?_ ?_
  · go_wp2_with (go_at_call 50; with_reducible refine HMc.out.mono ?_; rintro e w2 ⟨rfl, hM⟩; have HM := Lib.hid hM; clear hM)
    go_step3
    rename_i hK
    refine (fun (key : ∀ i : Nat, Hid (i ≤ l.length + 1 ∧ ∃ d, l.length + 1 - i ≤ d ∧ lvlGo l (matchW l) d i = lvlW l) → Code.wp Tryz.prog _ _ { tmps := #[.slice A0 l.length c0, undef, .int .i64 0, .bool false, .slice (some ⟨w.heap.size, 0, none⟩) l.length l.length, .int .i64 (i : Int), undef, .slice A0 l.length c0, .slice (some ⟨w.heap.size, 0, none⟩) l.length l.length, undef, undef, undef, undef, undef, undef, undef, undef, undef, undef, undef, undef, undef, undef, undef, undef, undef, undef, undef, undef, undef, undef, undef, undef, undef, undef, undef], defers := [] } w2) => hK _ _ (key 0 (Lib.hid ⟨Nat.zero_le _, l.length + 1, by omega, rfl⟩))) ?_
    intro i HI
    obtain ⟨hin, d, hd, hv⟩ := HI.out
    by_cases hlt : i < l.length
    · obtain ⟨d, rfl⟩ : ∃ d', d = d' + 1 := ⟨d - 1, by omega⟩
      have hlt' : (i : Int) < (l.length : Int) := by omega
      have hge : ¬ ((i : Int) ≥ (l.length : Int)) := by omega
      have hib : (i : Int) < 1048576 := by have := Hl.out; omega
      obtain ⟨ad, e, hc⟩ := Kd.at_int HC.out (i : Int) (by omega) (by omega)
      cases e
      have hc' : w.cell? (ad.add i) = some (.int .i64 (l.getD i 0)) := by simpa [rd] using hc
      have hblk := World.block_lt_of_cell? w _ hc'
      obtain ⟨c, hcc⟩ : ∃ c, c = l.getD i 0 := ⟨_, rfl⟩
      have hcx : w2.cell? (ad.add i) = some (.int .i64 c) := by rw [HM.out.2.cell hblk, hcc]; exact hc'
      have Hv : Hid (lvlW l = if c = 0 then (0, true) else if c = 1 ∨ c = 2 then (1, true) else if opB c = true then lvlGo l (matchW l) d ((((matchW l).getD i 0).toNat) + 1) else lvlGo l (matchW l) d (i + 1)) := Lib.hid (by rw [← hv, lvlGo, if_neg (by omega), ← hcc])
      have HOp := Lib.hid (opens_all c)
      have Hmt := Lib.hid (match_next l i hlt)
      have Hc := Lib.hid hcc
      clear hc hc' hblk hcc hv HI
      by_cases h0 : c = 0
      · subst h0
        go_wp2_with (go_at_call 94; with_reducible refine (HOp.out _).mono ?_; rintro e w' ⟨rfl, hw⟩; obtain rfl := hw.symm; clear hw)
        simp only [Exit.jump]
        go_ret2
        refine ⟨?_, HM.out.2⟩
        rw [Hv.out]
        rfl
      by_cases h1 : c = 1
      · subst h1
        go_wp2_with (go_at_call 94; with_reducible refine (HOp.out _).mono ?_; rintro e w' ⟨rfl, hw⟩; obtain rfl := hw.symm; clear hw)
        simp only [Exit.jump]
        go_ret2
        refine ⟨?_, HM.out.2⟩
        rw [Hv.out]
        rfl
      by_cases h2 : c = 2
      · subst h2
        go_wp2_with (go_at_call 94; with_reducible refine (HOp.out _).mono ?_; rintro e w' ⟨rfl, hw⟩; obtain rfl := hw.symm; clear hw)
        simp only [Exit.jump]
        go_ret2
        refine ⟨?_, HM.out.2⟩
        rw [Hv.out]
        rfl
      have b0 : (c == 0) = false := by simpa using h0
      have b1 : (c == 1) = false := by simpa using h1
      have b2 : (c == 2) = false := by simpa using h2
      have Hv2 : Hid (lvlW l = if opB c = true then lvlGo l (matchW l) d ((((matchW l).getD i 0).toNat) + 1) else lvlGo l (matchW l) d (i + 1)) := Lib.hid (by rw [Hv.out, if_neg h0, if_neg (by omega)])
      clear h0 h1 h2 Hv
      cases ho : opB c with
      | true =>
        rw [ho] at HOp
        obtain ⟨m, hm1, hm2, hm3⟩ := Hmt.out (by rw [← Hc.out]; exact ho)
        have hmc : w2.cell? ⟨w.heap.size, i, none⟩ = some (.int .i64 (m : Int)) := by
          have := HM.out.1.cells (g := w.heap.size) rfl i (.int .i64 (m : Int)) (by
            have hl : i < (matchW l).length := by rw [matchW_len]; exact hlt
            have : (matchW l)[i] = (m : Int) := by rw [← hm1, List.getD_eq_getElem?_getD, List.getElem?_eq_getElem hl]; rfl
            simp [nums, this, hl])
          rwa [add_plain] at this
        have Hm := Lib.hid (And.intro hm1 (And.intro hm2 hm3))
        have Hv3 : Hid (lvlGo l (matchW l) d (m + 1) = lvlW l) := Lib.hid (by rw [Hv2.out, ho, if_pos rfl, hm1]; rfl)
        have hmb : (m : Int) < 1048577 := by have := Hl.out; omega
        have Hd := Lib.hid hd
        clear ho hm1 hm2 hm3 hd
        go_wp2_with (go_at_call 94; with_reducible refine (HOp.out _).mono ?_; rintro e w' ⟨rfl, hw⟩; obtain rfl := hw.symm; clear hw)
        go_step3
        have ew : ((m : Int) + 1) = ((m + 1 : Nat) : Int) := rfl
        try rw [ew]
        refine ⟨rfl, Lib.hid HM.out, m + 1, _, _, _, _, _, _, _, _, _, _, _, _, _, _, _, _, _, _, _, _, _, _, _, _, _, _, _, _, _, _, rfl, Lib.hid ⟨by have := Hm.out; omega, d, by have := Hm.out; have := Hd.out; omega, Hv3.out⟩⟩
      | false =>
        rw [ho] at HOp
        have Hv3 : Hid (lvlGo l (matchW l) d (i + 1) = lvlW l) := Lib.hid (by rw [Hv2.out, ho, if_neg (by decide)])
        have Hd := Lib.hid hd
        clear ho hd
        go_wp2_with (go_at_call 94; with_reducible refine (HOp.out _).mono ?_; rintro e w' ⟨rfl, hw⟩; obtain rfl := hw.symm; clear hw)
        go_step3
        have ew : ((i : Int) + 1) = ((i + 1 : Nat) : Int) := rfl
        try rw [ew]
        refine ⟨rfl, Lib.hid HM.out, i + 1, _, _, _, _, _, _, _, _, _, _, _, _, _, _, _, _, _, _, _, _, _, _, _, _, _, _, _, _, _, _, rfl, Lib.hid ⟨by omega, d, by have := Hd.out; omega, Hv3.out⟩⟩
    · have hge : ((i : Int) ≥ (l.length : Int)) := by omega
      have Hv : Hid (lvlW l = (0, false)) := Lib.hid (by
        rw [← hv]
        cases d with
        | zero => rfl
        | succ d => rw [lvlGo, if_pos (by omega)])
      clear hv HI
      go_wp2_with (go_at_call 94; with_reducible refine (HOp.out _).mono ?_; rintro e w' ⟨rfl, hw⟩; obtain rfl := hw.symm; clear hw)
      simp only [Exit.jump]
      go_ret2
      refine ⟨?_, HM.out.2⟩
      rw [Hv.out]
      rfl
  · rintro a' w2 ⟨HM, i, u6, u7, u8, u9, u10, u11, u12, u13, u14, u15, u16, u17, u18, u19, u20, u21, u22, u23, u24, u25, u26, u27, u28, u29, u30, u31, u32, u33, u34, u35, rfl, HI⟩
    obtain ⟨hin, d, hd, hv⟩ := HI.out
    by_cases hlt : i < l.length
    · obtain ⟨d, rfl⟩ : ∃ d', d = d' + 1 := ⟨d - 1, by omega⟩
      have hlt' : (i : Int) < (l.length : Int) := by omega
      have hge : ¬ ((i : Int) ≥ (l.length : Int)) := by omega
      have hib : (i : Int) < 1048576 := by have := Hl.out; omega
      obtain ⟨ad, e, hc⟩ := Kd.at_int HC.out (i : Int) (by omega) (by omega)
      cases e
      have hc' : w.cell? (ad.add i) = some (.int .i64 (l.getD i 0)) := by simpa [rd] using hc
      have hblk := World.block_lt_of_cell? w _ hc'
      obtain ⟨c, hcc⟩ : ∃ c, c = l.getD i 0 := ⟨_, rfl⟩
      have hcx : w2.cell? (ad.add i) = some (.int .i64 c) := by rw [HM.out.2.cell hblk, hcc]; exact hc'
      have Hv : Hid (lvlW l = if c = 0 then (0, true) else if c = 1 ∨ c = 2 then (1, true) else if opB c = true then lvlGo l (matchW l) d ((((matchW l).getD i 0).toNat) + 1) else lvlGo l (matchW l) d (i + 1)) := Lib.hid (by rw [← hv, lvlGo, if_neg (by omega), ← hcc])
      have HOp := Lib.hid (opens_all c)
      have Hmt := Lib.hid (match_next l i hlt)
      have Hc := Lib.hid hcc
      clear hc hc' hblk hcc hv HI
      by_cases h0 : c = 0
      · subst h0
        go_wp2_with (go_at_call 94; with_reducible refine (HOp.out _).mono ?_; rintro e w' ⟨rfl, hw⟩; obtain rfl := hw.symm; clear hw)
        simp only [Exit.jump]
        go_ret2
        refine ⟨?_, HM.out.2⟩
        rw [Hv.out]
        rfl
      by_cases h1 : c = 1
      · subst h1
        go_wp2_with (go_at_call 94; with_reducible refine (HOp.out _).mono ?_; rintro e w' ⟨rfl, hw⟩; obtain rfl := hw.symm; clear hw)
        simp only [Exit.jump]
        go_ret2
        refine ⟨?_, HM.out.2⟩
        rw [Hv.out]
        rfl
      by_cases h2 : c = 2
      · subst h2
        go_wp2_with (go_at_call 94; with_reducible refine (HOp.out _).mono ?_; rintro e w' ⟨rfl, hw⟩; obtain rfl := hw.symm; clear hw)
        simp only [Exit.jump]
        go_ret2
        refine ⟨?_, HM.out.2⟩
        rw [Hv.out]
        rfl
      have b0 : (c == 0) = false := by simpa using h0
      have b1 : (c == 1) = false := by simpa using h1
      have b2 : (c == 2) = false := by simpa using h2
      have Hv2 : Hid (lvlW l = if opB c = true then lvlGo l (matchW l) d ((((matchW l).getD i 0).toNat) + 1) else lvlGo l (matchW l) d (i + 1)) := Lib.hid (by rw [Hv.out, if_neg h0, if_neg (by omega)])
      clear h0 h1 h2 Hv
      cases ho : opB c with
      | true =>
        rw [ho] at HOp
        obtain ⟨m, hm1, hm2, hm3⟩ := Hmt.out (by rw [← Hc.out]; exact ho)
        have hmc : w2.cell? ⟨w.heap.size, i, none⟩ = some (.int .i64 (m : Int)) := by
          have := HM.out.1.cells (g := w.heap.size) rfl i (.int .i64 (m : Int)) (by
            have hl : i < (matchW l).length := by rw [matchW_len]; exact hlt
            have : (matchW l)[i] = (m : Int) := by rw [← hm1, List.getD_eq_getElem?_getD, List.getElem?_eq_getElem hl]; rfl
            simp [nums, this, hl])
          rwa [add_plain] at this
        have Hm := Lib.hid (And.intro hm1 (And.intro hm2 hm3))
        have Hv3 : Hid (lvlGo l (matchW l) d (m + 1) = lvlW l) := Lib.hid (by rw [Hv2.out, ho, if_pos rfl, hm1]; rfl)
        have hmb : (m : Int) < 1048577 := by have := Hl.out; omega
        have Hd := Lib.hid hd
        clear ho hm1 hm2 hm3 hd
        go_wp2_with (go_at_call 94; with_reducible refine (HOp.out _).mono ?_; rintro e w' ⟨rfl, hw⟩; obtain rfl := hw.symm; clear hw)
        go_step3
        have ew : ((m : Int) + 1) = ((m + 1 : Nat) : Int) := rfl
        try rw [ew]
        refine ⟨rfl, ⟨Lib.hid HM.out, m + 1, _, _, _, _, _, _, _, _, _, _, _, _, _, _, _, _, _, _, _, _, _, _, _, _, _, _, _, _, _, _, rfl, Lib.hid ⟨by have := Hm.out; omega, d, by have := Hm.out; have := Hd.out; omega, Hv3.out⟩⟩, ?_⟩
        have := Hm.out
        show l.length + 2 - ((m + 1 : Nat) : Int).toNat < l.length + 2 - (i : Int).toNat
        omega
      | false =>
        rw [ho] at HOp
        have Hv3 : Hid (lvlGo l (matchW l) d (i + 1) = lvlW l) := Lib.hid (by rw [Hv2.out, ho, if_neg (by decide)])
        have Hd := Lib.hid hd
        clear ho hd
        go_wp2_with (go_at_call 94; with_reducible refine (HOp.out _).mono ?_; rintro e w' ⟨rfl, hw⟩; obtain rfl := hw.symm; clear hw)
        go_step3
        have ew : ((i : Int) + 1) = ((i + 1 : Nat) : Int) := rfl
        try rw [ew]
        refine ⟨rfl, ⟨Lib.hid HM.out, i + 1, _, _, _, _, _, _, _, _, _, _, _, _, _, _, _, _, _, _, _, _, _, _, _, _, _, _, _, _, _, _, rfl, Lib.hid ⟨by omega, d, by have := Hd.out; omega, Hv3.out⟩⟩, ?_⟩
        show l.length + 2 - ((i + 1 : Nat) : Int).toNat < l.length + 2 - (i : Int).toNat
        omega
    · have hge : ((i : Int) ≥ (l.length : Int)) := by omega
      have Hv : Hid (lvlW l = (0, false)) := Lib.hid (by
        rw [← hv]
        cases d with
        | zero => rfl
        | succ d => rw [lvlGo, if_pos (by omega)])
      clear hv HI
      go_wp2_with (go_at_call 94; with_reducible refine (HOp.out _).mono ?_; rintro e w' ⟨rfl, hw⟩; obtain rfl := hw.symm; clear hw)
      simp only [Exit.jump]
      go_ret2
      refine ⟨?_, HM.out.2⟩
      rw [Hv.out]
      rfl
end Go.Proofs.YtdpifkhkemeclaaGreat
namespace Go.Proofs.YtdpifkhkemeclaaGreat
open Go.RowKit Go.Shelf Go.Proofs.YtdpifkhkemeclaaGreatW.PrintWords
def topW (s : WS) : En := s.st.headD ⟨0, -1, false⟩
theorem topW_of {s : WS} {t : En} {r : List En} (h : s.st = t :: r) : topW s = t := by unfold topW; rw [h]; rfl
def exOdd (l : List Int) (i : Nat) : Int := (lvlW ((l.take ((matchW l).getD i 0).toNat).drop (i + 1))).1
def remB (c : Int) : Bool := c == 16 || c == 14 || c == 17 || c == 15 || c == 18 || c == 9
def exSt (l : List Int) (i : Nat) (c : Int) (s : WS) : WS :=
  if c = 16 then embedW s (topW s).lv 1 (-1) else if c = 14 then embedW s (topW s).lv 0 (-1) else if c = 17 then embedW s (topW s).lv 1 1 else if c = 15 then embedW s (topW s).lv 0 0
  else if c = 18 then endsW s (topW s) else if c = 22 then closesW s else if c = 20 then isolW s (topW s).lv 1 else if c = 19 then isolW s (topW s).lv 0 else if c = 21 then isolW s (topW s).lv (exOdd l i) else s
def exAt (para c : Int) (s s' : WS) : Int := if remB c = true then -1 else if c = 10 then para else if c = 22 then (topW s').lv else (topW s).lv
def exAs (c : Int) (s s' : WS) : Int := if c = 10 ∨ remB c = true then c else if c = 22 then seenW (topW s') c else seenW (topW s) c
def exTo (para : Int) (l : List Int) : Nat → WS × List Int × List Int
  | 0 => (⟨0, 0, 0, [⟨para, -1, false⟩]⟩, [], [])
  | i + 1 => (exSt l i (l.getD i 0) (exTo para l i).1, (exTo para l i).2.1 ++ [exAt para (l.getD i 0) (exTo para l i).1 (exSt l i (l.getD i 0) (exTo para l i).1)], (exTo para l i).2.2 ++ [exAs (l.getD i 0) (exTo para l i).1 (exSt l i (l.getD i 0) (exTo para l i).1)])
theorem exTo_succ {para : Int} {l : List Int} {i : Nat} {s : WS} {L1 L2 : List Int} {c : Int} (hq : (s, L1, L2) = exTo para l i) (hc : c = l.getD i 0) : exTo para l (i + 1) = (exSt l i c s, L1 ++ [exAt para c s (exSt l i c s)], L2 ++ [exAs c s (exSt l i c s)]) := by
  rw [exTo, ← hq, ← hc]
theorem exTo_len (para : Int) (l : List Int) : ∀ i, (exTo para l i).2.1.length = i ∧ (exTo para l i).2.2.length = i
  | 0 => ⟨rfl, rfl⟩
  | i + 1 => by
    obtain ⟨h1, h2⟩ := exTo_len para l i
    simp only [exTo, List.length_append, h1, h2]
    exact ⟨rfl, rfl⟩
structure InvW (i : Nat) (s : WS) : Prop where
  lvs : ∀ t ∈ s.st, 0 ≤ t.lv ∧ t.lv ≤ 126
  bot : ∃ b pre, s.st = pre ++ [b] ∧ b.iso = false
  cnt : ((s.st.filter (·.iso)).length : Int) = s.iso
  len : s.st.length ≤ i + 1
  inn : 0 ≤ s.inn ∧ s.inn ≤ i
  deep : 0 ≤ s.deep ∧ s.deep ≤ i
theorem InvW.top {i : Nat} {s : WS} (h : InvW i s) : ∃ t r, s.st = t :: r ∧ 0 ≤ t.lv ∧ t.lv ≤ 126 := by
  obtain ⟨b, pre, hb, _⟩ := h.bot
  cases hs : s.st with
  | nil => rw [hs] at hb; cases pre <;> cases hb
  | cons t r => exact ⟨t, r, rfl, h.lvs t (by rw [hs]; simp)⟩
theorem InvW.iso {i : Nat} {s : WS} (h : InvW i s) : 0 ≤ s.iso ∧ s.iso ≤ i := by
  have h1 := h.cnt
  obtain ⟨b, pre, hb, hi⟩ := h.bot
  have h2 : (s.st.filter (·.iso)).length ≤ pre.length := by
    rw [hb, List.filter_append]
    simp [hi]
    exact List.length_filter_le _ _
  have h3 : pre.length + 1 ≤ i + 1 := by have := h.len; rw [hb] at this; simpa using this
  omega
theorem InvW.next {i : Nat} {s : WS} (h : InvW i s) : InvW (i + 1) s := ⟨h.lvs, h.bot, h.cnt, by have := h.len; omega, ⟨h.inn.1, by have := h.inn.2; omega⟩, ⟨h.deep.1, by have := h.deep.2; omega⟩⟩
theorem nextL_or (lv odd : Int) : nextL lv odd = lv + 1 ∨ nextL lv odd = lv + 1 + 1 := by unfold nextL; split <;> simp
theorem fitsW_le {s : WS} {lv odd : Int} (h : fitsW s lv odd = true) : nextL lv odd ≤ 125 ∧ s.inn ≤ 0 ∧ s.deep ≤ 0 := by
  unfold fitsW at h
  simp at h
  omega
theorem InvW.push {i : Nat} {s : WS} (h : InvW i s) {t : En} {r : List En} (hs : s.st = t :: r) {odd : Int} (ov : Int) (iso : Bool) (hf : fitsW s t.lv odd = true) : InvW (i + 1) { s with st := ⟨nextL t.lv odd, ov, iso⟩ :: s.st, iso := if iso = true then s.iso + 1 else s.iso } := by
  have ht := h.lvs t (by rw [hs]; simp)
  have h1 := nextL_or t.lv odd
  have h2 := (fitsW_le hf).1
  obtain ⟨b, pre, hb, hi⟩ := h.bot
  refine ⟨fun u hu => ?_, ⟨b, _ :: pre, by show _ :: s.st = _; rw [hb]; rfl, hi⟩, ?_, by have := h.len; simp; omega, ⟨h.inn.1, by have := h.inn.2; show s.inn ≤ _; omega⟩, ⟨h.deep.1, by have := h.deep.2; show s.deep ≤ _; omega⟩⟩
  · rcases List.mem_cons.1 hu with rfl | hu
    · exact ⟨by show 0 ≤ nextL t.lv odd; omega, by show nextL t.lv odd ≤ 126; omega⟩
    · exact h.lvs u hu
  · have hc := h.cnt
    cases iso with
    | true => simp [hc]
    | false => simp [hc]
theorem popTo_suf : ∀ st : List En, popTo st <:+ st
  | [] => List.suffix_refl _
  | t :: r => by
    unfold popTo
    split
    · exact List.suffix_refl _
    · exact (popTo_suf r).trans (List.suffix_cons _ _)
theorem popTo_cnt : ∀ st : List En, (popTo st).filter (·.iso) = st.filter (·.iso)
  | [] => rfl
  | t :: r => by
    unfold popTo
    split
    · rfl
    · rename_i h
      rw [popTo_cnt r, List.filter_cons_of_neg (by simpa using h)]
theorem popTo_head : ∀ {st : List En} {t : En} {r : List En}, popTo st = t :: r → t.iso = true
  | [], _, _, h => by cases h
  | u :: q, t, r, h => by
    unfold popTo at h
    split at h
    · rename_i hu
      cases h
      exact hu
    · exact popTo_head h
theorem InvW.popTo {i : Nat} {s : WS} (h : InvW i s) (hp : s.iso > 0) : ∃ t r, popTo s.st = t :: r ∧ t.iso = true := by
  cases hq : Go.Proofs.YtdpifkhkemeclaaGreat.popTo s.st with
  | nil =>
    have h1 := popTo_cnt s.st
    rw [hq] at h1
    have h2 := h.cnt
    rw [← h1] at h2
    simp at h2
    omega
  | cons t r => exact ⟨t, r, rfl, popTo_head hq⟩
theorem InvW.embed {i : Nat} {s : WS} (h : InvW i s) {t : En} {r : List En} (hs : s.st = t :: r) (odd ov : Int) : InvW (i + 1) (embedW s t.lv odd ov) := by
  unfold embedW
  cases hf : fitsW s t.lv odd with
  | true =>
    rw [if_pos rfl, pushW_yes hf]
    exact h.push hs ov false hf
  | false =>
    rw [if_neg (by decide)]
    split
    · have n := h.next
      exact ⟨n.lvs, n.bot, n.cnt, n.len, n.inn, ⟨by have := h.deep.1; show 0 ≤ s.deep + 1; omega, by have := h.deep.2; show s.deep + 1 ≤ _; omega⟩⟩
    · exact h.next
theorem InvW.isol {i : Nat} {s : WS} (h : InvW i s) {t : En} {r : List En} (hs : s.st = t :: r) (odd : Int) : InvW (i + 1) (isolW s t.lv odd) := by
  unfold isolW
  cases hf : fitsW s t.lv odd with
  | true =>
    rw [if_pos rfl, pushW_yes hf]
    exact h.push hs (-1) true hf
  | false =>
    rw [if_neg (by decide)]
    have n := h.next
    exact ⟨n.lvs, n.bot, n.cnt, n.len, ⟨by have := h.inn.1; show 0 ≤ s.inn + 1; omega, by have := h.inn.2; show s.inn + 1 ≤ _; omega⟩, n.deep⟩
theorem InvW.suf {i : Nat} {s : WS} (h : InvW i s) {st : List En} (hsuf : st <:+ s.st) (hne : st ≠ []) : (∀ t ∈ st, 0 ≤ t.lv ∧ t.lv ≤ 126) ∧ (∃ b pre, st = pre ++ [b] ∧ b.iso = false) ∧ st.length ≤ i + 1 := by
  obtain ⟨pre0, e0⟩ := hsuf
  obtain ⟨b, pre, hb, hi⟩ := h.bot
  refine ⟨fun t ht => h.lvs t (by rw [← e0]; simp [ht]), ?_, by have := h.len; rw [← e0] at this; simp at this; omega⟩
  refine ⟨st.getLast hne, st.dropLast, (List.dropLast_concat_getLast hne).symm, ?_⟩
  have e1 : (pre0 ++ st).getLast? = (pre ++ [b]).getLast? := by rw [e0, hb]
  rw [List.getLast?_append, List.getLast?_eq_some_getLast hne] at e1
  simp at e1
  rw [e1]
  exact hi
theorem InvW.ends {i : Nat} {s : WS} (h : InvW i s) {t : En} {r : List En} (hs : s.st = t :: r) : InvW (i + 1) (endsW s t) := by
  have n := h.next
  unfold endsW
  split
  · exact n
  split
  · exact ⟨n.lvs, n.bot, n.cnt, n.len, n.inn, ⟨by show 0 ≤ s.deep - 1; omega, by have := h.deep.2; show s.deep - 1 ≤ _; omega⟩⟩
  split
  · rename_i hc
    have hr : r ≠ [] := by rintro rfl; rw [hs] at hc; simp at hc
    have hsuf : s.st.tail <:+ s.st := List.tail_suffix _
    obtain ⟨q1, q2, q3⟩ := h.suf hsuf (by rw [hs]; exact hr)
    refine ⟨q1, q2, ?_, by show s.st.tail.length ≤ _; omega, n.inn, n.deep⟩
    have hcn := h.cnt
    rw [hs, List.filter_cons_of_neg (by simp [hc.1])] at hcn
    show ((s.st.tail.filter (·.iso)).length : Int) = s.iso
    rw [hs]
    exact hcn
  · exact n
theorem InvW.closes {i : Nat} {s : WS} (h : InvW i s) : InvW (i + 1) (closesW s) := by
  have n := h.next
  unfold closesW
  split
  · exact ⟨n.lvs, n.bot, n.cnt, n.len, ⟨by show 0 ≤ s.inn - 1; omega, by have := h.inn.2; show s.inn - 1 ≤ _; omega⟩, n.deep⟩
  split
  · rename_i hp
    obtain ⟨t, r, hq, ht⟩ := h.popTo hp
    have hsuf0 := popTo_suf s.st
    rw [hq] at hsuf0
    have hr : r ≠ [] := by
      rintro rfl
      have := (h.suf hsuf0 (by simp)).2.1
      obtain ⟨b, pre, e, hi⟩ := this
      cases pre with
      | nil => cases e; rw [ht] at hi; cases hi
      | cons _ p => cases p <;> cases e
    obtain ⟨q1, q2, q3⟩ := h.suf ((List.suffix_cons t r).trans hsuf0) hr
    rw [hq]
    refine ⟨q1, q2, ?_, by show r.length ≤ _; omega, n.inn, ⟨Int.le_refl _, by show (0 : Int) ≤ _; omega⟩⟩
    have hcn := h.cnt
    rw [← popTo_cnt, hq, List.filter_cons_of_pos (by simpa using ht)] at hcn
    show ((r.filter (·.iso)).length : Int) = s.iso - 1
    simp at hcn
    omega
  · exact n
theorem InvW.step {i : Nat} {s : WS} (h : InvW i s) (l : List Int) (k : Nat) (c : Int) : InvW (i + 1) (exSt l k c s) := by
  obtain ⟨t, r, hs, _⟩ := h.top
  unfold exSt
  rw [topW_of hs]
  repeat' split
  · exact h.embed hs _ _
  · exact h.embed hs _ _
  · exact h.embed hs _ _
  · exact h.embed hs _ _
  · exact h.ends hs
  · exact h.closes
  · exact h.isol hs _
  · exact h.isol hs _
  · exact h.isol hs _
  · exact h.next
theorem exTo_inv (para : Int) (l : List Int) (hp : para = 0 ∨ para = 1) : ∀ i, InvW i (exTo para l i).1
  | 0 => ⟨by intro t ht; simp [exTo] at ht; subst ht; show 0 ≤ para ∧ para ≤ 126; omega, ⟨⟨para, -1, false⟩, [], rfl, rfl⟩, rfl, Nat.le_refl _, ⟨Int.le_refl _, Int.le_refl _⟩, ⟨Int.le_refl _, Int.le_refl _⟩⟩
  | i + 1 => (exTo_inv para l hp i).step l i _
def exLv (para : Int) (l : List Int) : List Int := (exTo para l l.length).2.1
def exTd (para : Int) (l : List Int) : List Int := (exTo para l l.length).2.2
structure EG (w : World) (bx gM n : Nat) (M : List Int) (s : WS) (vr v4 v5 : Value) (L1 L2 : List Int) (W : World) : Prop where
  bel : Below w.heap.size w W
  wk : WK w.heap.size bx s vr W
  mt : W.ownsRow w.heap.size 3 1 (.slice (some ⟨gM, 0, none⟩) n n) n (nums .i64 M)
  mh : ∃ cells, W.heap[gM]? = some (.cells cells 3 (0, 0))
  r4 : Kd.R (Kd.int .i64) 3 W w.heap.size (fun k => k ≠ gM ∧ some k ≠ v5.ownBlock) v4 L1
  r5 : Kd.R (Kd.int .i64) 3 W w.heap.size (fun k => k ≠ gM ∧ some k ≠ v4.ownBlock) v5 L2
section
variable {w W W' : World} {bx gM n : Nat} {M : List Int} {s s' : WS} {vr vr' v4 v5 v' : Value} {L1 L2 : List Int} {x : Int}
theorem EG.below (h : EG w bx gM n M s vr v4 v5 L1 L2 W) (hb : Below W.heap.size W W') : EG w bx gM n M s vr v4 v5 L1 L2 W' := by
  obtain ⟨cells, hc⟩ := h.mh
  exact ⟨below_step h.bel hb, h.wk.below hb, pw_own_below h.mt hb, ⟨cells, (hb.block _ (lt_of_block hc)).trans hc⟩, Kd.R_below h.r4 hb, Kd.R_below h.r5 hb⟩
theorem blk_type {W : World} {k : Nat} {c1 c2 : Array Value} {t1 t2 : TypeId} (h1 : W.heap[k]? = some (.cells c1 t1 (0, 0))) (h2 : W.heap[k]? = some (.cells c2 t2 (0, 0))) : t1 = t2 := by
  rw [h1] at h2
  injection h2 with h2
  injection h2
theorem EG.mv (h : EG w bx gM n M s vr v4 v5 L1 L2 W) (hk : WK w.heap.size bx s' vr' W') (hm : Mv bx vr vr' W W') : EG w bx gM n M s' vr' v4 v5 L1 L2 W' := by
  have three : ∀ k : Nat, (∃ cells, W.heap[k]? = some (Obj.cells cells 3 (0, 0))) → W'.heap[k]? = W.heap[k]? := by
    rintro k ⟨cells, hc⟩
    refine hm.block k (lt_of_block hc) (fun e => ?_) (fun e => ?_)
    · subst e
      have := blk_type hc h.wk.box
      cases this
    · obtain ⟨c2, h2⟩ := own_typed h.wk.row k e.symm
      have := blk_type hc h2
      cases this
  have R : ∀ {ok : Nat → Prop} {v : Value} {L : List Int}, Kd.R (Kd.int .i64) 3 W w.heap.size ok v L → Kd.R (Kd.int .i64) 3 W' w.heap.size ok v L := fun {ok v L} hr =>
    Kd.R_mono (Kd.R_move (Kd.R_bound hr) (fun k hk => three k (by
      obtain ⟨_, _, _, q, hq, cells, hc⟩ := hk
      have : q = 3 := by simpa [Kd.int, Kd.scalar] using hq
      subst this
      exact ⟨cells, hc⟩))) (fun _ hk => hk.1)
  refine ⟨⟨hm.os.trans h.bel.os, hm.tape.trans h.bel.tape, hm.output.trans h.bel.output, Nat.le_trans h.bel.size hm.size, fun k hk => ?_⟩, hk, ?_, ?_, R h.r4, R h.r5⟩
  · have := h.wk.ge
    rw [hm.block k (Nat.lt_of_lt_of_le hk h.bel.size) (by omega) (fun e => by have := own_base h.wk.row k e.symm; omega), h.bel.block k hk]
  · exact own_move h.mt (fun k hk => by cases hk; exact three gM h.mh)
  · obtain ⟨cells, hc⟩ := h.mh
    exact ⟨cells, (three gM h.mh).trans hc⟩
theorem EG.mcell (h : EG w bx gM n M s vr v4 v5 L1 L2 W) {i : Nat} {u : Value} (hi : (nums .i64 M)[i]? = some u) : W.cell? ⟨gM, i, none⟩ = some u := by
  have := h.mt.cells (g := gM) rfl i u hi
  rwa [add_plain] at this
theorem EG.ne4 (h : EG w bx gM n M s vr v4 v5 L1 L2 W) : some gM ≠ v4.ownBlock := fun e => (h.r4.1 gM e.symm).1 rfl
theorem EG.ne5 (h : EG w bx gM n M s vr v4 v5 L1 L2 W) : some gM ≠ v5.ownBlock := fun e => (h.r5.1 gM e.symm).1 rfl
theorem EG.ltM (h : EG w bx gM n M s vr v4 v5 L1 L2 W) : gM < W.heap.size := by obtain ⟨cells, hc⟩ := h.mh; exact lt_of_block hc
theorem WK.kept {B : Nat} (h : WK B bx s vr W) {v : Value} {e : TypeId} {base m size : Nat} {xs : List Value} (ho : W.ownsRow base e size v m xs) (he : 71 ≠ e) (he2 : 76 ≠ e) (hg : W.grownBy W' v.ownBlock) : WK B bx s vr W' :=
  ⟨blk_grown h.box hg (own_ne ho h.box (fun x => he2 x.symm)), h.row.kept hg (own_type_ne h.row ho he), h.ge⟩
theorem EG.app4 (h : EG w bx gM n M s vr v4 v5 L1 L2 W) (ho : Kd.R (Kd.int .i64) 3 W' w.heap.size (fun k => k ≠ gM ∧ some k ≠ v5.ownBlock) v' (L1 ++ [x])) (hb : Below w.heap.size w W') (hg : W.grownBy W' v4.ownBlock) (hat : v'.ownBlock = v4.ownBlock ∨ ∃ b, v'.ownBlock = some b ∧ W.heap.size ≤ b) : EG w bx gM n M s vr v' v5 (L1 ++ [x]) L2 W' := by
  obtain ⟨inner, ho4⟩ := Kd.R_own h.r4
  obtain ⟨cells, hc⟩ := h.mh
  exact ⟨hb, h.wk.kept ho4 (by decide) (by decide) hg, h.mt.kept hg (.inr h.ne4), ⟨cells, blk_grown hc hg h.ne4⟩, ho, Kd.R_after h.r5 hg hat⟩
theorem EG.app5 (h : EG w bx gM n M s vr v4 v5 L1 L2 W) (ho : Kd.R (Kd.int .i64) 3 W' w.heap.size (fun k => k ≠ gM ∧ some k ≠ v4.ownBlock) v' (L2 ++ [x])) (hb : Below w.heap.size w W') (hg : W.grownBy W' v5.ownBlock) (hat : v'.ownBlock = v5.ownBlock ∨ ∃ b, v'.ownBlock = some b ∧ W.heap.size ≤ b) : EG w bx gM n M s vr v4 v' L1 (L2 ++ [x]) W' := by
  obtain ⟨inner, ho5⟩ := Kd.R_own h.r5
  obtain ⟨cells, hc⟩ := h.mh
  exact ⟨hb, h.wk.kept ho5 (by decide) (by decide) hg, h.mt.kept hg (.inr h.ne5), ⟨cells, blk_grown hc hg h.ne5⟩, Kd.R_after h.r4 hg hat, ho⟩
end
theorem removed_all (c : Int) (w : World) : Calls Tryz.prog 58 #[.int .i64 c] w fun e w' => e = .returned (.bool (remB c)) ∧ w' = w := by
  by_cases h1 : c = 16
  · subst h1; go_enter Tryz.func58, Tryz.ntmps58; go_wp2; go_ret; exact ⟨rfl, rfl⟩
  by_cases h2 : c = 14
  · subst h2; go_enter Tryz.func58, Tryz.ntmps58; go_wp2; go_ret; exact ⟨rfl, rfl⟩
  by_cases h3 : c = 17
  · subst h3; go_enter Tryz.func58, Tryz.ntmps58; go_wp2; go_ret; exact ⟨rfl, rfl⟩
  by_cases h4 : c = 15
  · subst h4; go_enter Tryz.func58, Tryz.ntmps58; go_wp2; go_ret; exact ⟨rfl, rfl⟩
  by_cases h5 : c = 18
  · subst h5; go_enter Tryz.func58, Tryz.ntmps58; go_wp2; go_ret; exact ⟨rfl, rfl⟩
  by_cases h6 : c = 9
  · subst h6; go_enter Tryz.func58, Tryz.ntmps58; go_wp2; go_ret; exact ⟨rfl, rfl⟩
  have b1 : (c == 16) = false := by simpa using h1
  have b2 : (c == 14) = false := by simpa using h2
  have b3 : (c == 17) = false := by simpa using h3
  have b4 : (c == 15) = false := by simpa using h4
  have b5 : (c == 18) = false := by simpa using h5
  have b6 : (c == 9) = false := by simpa using h6
  have hr : Hid (remB c = false) := Lib.hid (by unfold remB; rw [b1, b2, b3, b4, b5, b6]; rfl)
  clear h1 h2 h3 h4 h5 h6
  go_enter Tryz.func58, Tryz.ntmps58
  go_wp2
  go_ret
  exact ⟨by rw [hr.out]; rfl, rfl⟩
end Go.Proofs.YtdpifkhkemeclaaGreat
namespace Go.Proofs.YtdpifkhkemeclaaGreat
open Go.RowKit Go.Shelf Go.Proofs.YtdpifkhkemeclaaGreatW.PrintWords
set_option maxRecDepth 100000 in
set_option maxHeartbeats 16000000 in
theorem explicit_all (A0 : Option Addr) (c0 : Nat) (l : List Int) (para : Int) (w : World) (hr0 : Kd.C (Kd.int .i64) w A0 l.length l) (hcap : l.length ≤ c0) (hl : l.length ≤ 1000000) (hpa : para = 0 ∨ para = 1) :
    Calls Tryz.prog 27 #[.slice A0 l.length c0, .int .i64 para] w fun e w' => ∃ v1 v2, e = .returned (.tuple #[v1, v2]) ∧ Kd.R (Kd.int .i64) 3 w' w.heap.size (fun k => True ∧ some k ≠ v2.ownBlock) v1 (exLv para l) ∧ Kd.R (Kd.int .i64) 3 w' w.heap.size (fun k => True ∧ some k ≠ v1.ownBlock) v2 (exTd para l) ∧ Below w.heap.size w w' := by
  have HC := Lib.hid hr0
  have Hcap := Lib.hid hcap
  have Hl := Lib.hid hl
  have Hpa := Lib.hid hpa
  have hf0 := fld71_0
  have HM : ∀ W, Below w.heap.size w W → Hid (Calls Tryz.prog 50 #[.slice A0 l.length c0] W fun e w' => e = .returned (.slice (some ⟨W.heap.size, 0, none⟩) l.length l.length) ∧ w'.ownsRow W.heap.size 3 1 (.slice (some ⟨W.heap.size, 0, none⟩) l.length l.length) l.length (nums .i64 (matchW l)) ∧ Below W.heap.size W w') := fun W hb => Lib.hid (match_all A0 c0 l W (Kd.C_below HC.out hb) (by have := Hl.out; omega))
  clear hr0 hl hcap hpa
  have hcase : (para != 0) = false ∨ ((para != 0) = true ∧ (para != 1) = false) := by rcases Hpa.out with rfl | rfl <;> simp
  rcases hcase with hA | ⟨hA, hB⟩
  all_goals
    go_enter Tryz.func27, Tryz.ntmps27
    go_wp2_with (go_at_call 50; with_reducible refine (HM _ (((Below.refl _ w).alloc (Nat.le_refl _) (.cells #[.int .i64 para, .int .i64 (-1), .bool false] 71)).alloc (by simp) (.cells #[.int .i64 0, .int .i64 0, .slice (some ⟨w.heap.size, 0, none⟩) 1 1, .int .i64 0] 76))).out.mono ?_; rintro e w1 ⟨rfl, hR7, hb7⟩; have HM7 := Lib.hid hR7; have HB7 := Lib.hid hb7; clear hR7 hb7)
    have HE0 : Hid (EG w (w.heap.size + 1) (w.heap.size + 1 + 1) l.length (matchW l) ⟨0, 0, 0, [⟨para, -1, false⟩]⟩ (.slice (some ⟨w.heap.size, 0, none⟩) 1 1) (.slice none 0 0) (.slice none 0 0) [] [] w1) := Lib.hid (by
      have hb7 := HB7.out
      have hR7 := HM7.out
      have hsz : ((w.alloc (.cells #[.int .i64 para, .int .i64 (-1), .bool false] 71)).alloc (.cells #[.int .i64 0, .int .i64 0, .slice (some ⟨w.heap.size, 0, none⟩) 1 1, .int .i64 0] 76)).heap.size = w.heap.size + 1 + 1 := by simp
      have h71 : ((w.alloc (.cells #[.int .i64 para, .int .i64 (-1), .bool false] 71)).alloc (.cells #[.int .i64 0, .int .i64 0, .slice (some ⟨w.heap.size, 0, none⟩) 1 1, .int .i64 0] 76)).heap[w.heap.size]? = some (.cells #[.int .i64 para, .int .i64 (-1), .bool false] 71 (0, 0)) := by rw [heap_alloc_old _ _ (by simp)]; exact heap_alloc_new _ _
      have h76 : ((w.alloc (.cells #[.int .i64 para, .int .i64 (-1), .bool false] 71)).alloc (.cells #[.int .i64 0, .int .i64 0, .slice (some ⟨w.heap.size, 0, none⟩) 1 1, .int .i64 0] 76)).heap[w.heap.size + 1]? = some (.cells #[.int .i64 0, .int .i64 0, .slice (some ⟨w.heap.size, 0, none⟩) 1 1, .int .i64 0] 76 (0, 0)) := by
        have := heap_alloc_new (w.alloc (.cells #[.int .i64 para, .int .i64 (-1), .bool false] 71)) (.cells #[.int .i64 0, .int .i64 0, .slice (some ⟨w.heap.size, 0, none⟩) 1 1, .int .i64 0] 76)
        simpa using this
      rw [hsz] at hb7 hR7
      have q71 := (hb7.block _ (by omega)).trans h71
      have q76 := (hb7.block _ (by omega)).trans h76
      refine ⟨?_, ⟨q76, ⟨rfl, .inr ⟨w.heap.size, 1, _, rfl, Nat.le_refl _, q71, Nat.le_refl _, by unfold maxLen; omega, rfl, rfl⟩⟩, by omega⟩, own_weaken hR7 (by omega), ?_, Kd.R_nil _ _ _ _ _, Kd.R_nil _ _ _ _ _⟩
      · have hbb : Below w.heap.size w ((w.alloc (.cells #[.int .i64 para, .int .i64 (-1), .bool false] 71)).alloc (.cells #[.int .i64 0, .int .i64 0, .slice (some ⟨w.heap.size, 0, none⟩) 1 1, .int .i64 0] 76)) := ((Below.refl _ w).alloc (Nat.le_refl _) _).alloc (by simp) _
        exact hbb.trans (hb7.mono (by omega))
      · obtain ⟨cells, hc⟩ := own_typed hR7 (w.heap.size + 1 + 1) rfl
        exact ⟨cells, hc⟩)
    obtain ⟨bx, hbx⟩ : ∃ bx, bx = w.heap.size + 1 := ⟨_, rfl⟩
    obtain ⟨gM, hgM⟩ : ∃ gM, gM = w.heap.size + 1 + 1 := ⟨_, rfl⟩
    obtain ⟨vr0, hvr0⟩ : ∃ vr0 : Value, vr0 = .slice (some ⟨w.heap.size, 0, none⟩) 1 1 := ⟨_, rfl⟩
    rw [← hgM, ← hbx, ← hvr0] at HE0
    rw [← hgM, ← hbx]
    clear hbx hgM hvr0 HB7 HM7 HM
    go_loopg [4, 5, 29] (l.length + 1) (fun gk v4 v5 v29 wr => ∃ (i : Nat) (s : WS) (vr : Value) (L1 L2 : List Int), i ≤ l.length ∧ gk = l.length + 1 - i ∧ v29 = .int .i64 i ∧ Hid ((s, L1, L2) = exTo para l i) ∧ Hid (EG w bx gM l.length (matchW l) s vr v4 v5 L1 L2 wr))
    case atStart => exact ⟨0, _, vr0, [], [], Nat.zero_le _, rfl, rfl, Lib.hid rfl, HE0⟩
    case round =>
      obtain ⟨i, s, vr, L1, L2, hi, hgk, rfl, HJ, HE⟩ := hrel
      have Hg := Lib.hid hgk
      have HI : InvW i s := by have := exTo_inv para l Hpa.out i; rw [← HJ.out] at this; exact this
      have HLen : Hid (L1.length = i ∧ L2.length = i) := Lib.hid (by have := exTo_len para l i; rw [← HJ.out] at this; exact this)
      have HIv : Hid (i ≤ 1000000 ∧ (0 ≤ s.inn ∧ s.inn ≤ i) ∧ (0 ≤ s.deep ∧ s.deep ≤ i) ∧ (0 ≤ s.iso ∧ s.iso ≤ i)) := Lib.hid ⟨by have := Hl.out; omega, HI.inn, HI.deep, HI.iso⟩
      have HPo : Hid (s.iso > 0 → popTo s.st ≠ []) := Lib.hid (fun hp => by obtain ⟨t, r, h1, _⟩ := HI.popTo hp; rw [h1]; simp)
      obtain ⟨t, r, hs, hl0, hl1⟩ := HI.top
      have hrn : r.length < 1048576 := by have h5 := HI.len; rw [hs] at h5; simp only [List.length_cons] at h5; have := Hl.out; omega
      have Hs := Lib.hid hs
      have Hrn := Lib.hid hrn
      have HIh := Lib.hid HI
      have Hlv := Lib.hid (And.intro hl0 hl1)
      clear hgk HE0 hs hrn hl0 hl1 HI hA
      by_cases hltN : i < l.length
      · have hlt' : (i : Int) < (l.length : Int) := by omega
        have hib : (i : Int) < 1048576 := by have := Hl.out; omega
        obtain ⟨ad, e, hc⟩ := Kd.at_int HC.out (i : Int) (by omega) (by omega)
        cases e
        have hc' : w.cell? (ad.add i) = some (.int .i64 (l.getD i 0)) := by simpa [rd] using hc
        have hblk := World.block_lt_of_cell? w _ hc'
        obtain ⟨c, hcc⟩ : ∃ c, c = l.getD i 0 := ⟨_, rfl⟩
        have hcx : wr.cell? (ad.add i) = some (.int .i64 c) := by rw [HE.out.bel.cell hblk, hcc]; exact hc'
        have HRm := Lib.hid (removed_all c)
        have Hc := Lib.hid hcc
        have hblk2 := Lib.hid hblk
        clear hc hc' hblk hcc
        by_cases h10 : c = 10
        · subst h10
          have HRm : Hid (∀ W, Calls Tryz.prog 58 #[.int .i64 10] W fun e w' => e = .returned (.bool false) ∧ w' = W) := Lib.hid HRm.out
          have Hst : Hid (exTo para l (i + 1) = (s, L1 ++ [para], L2 ++ [10])) := Lib.hid (by rw [exTo_succ HJ.out Hc.out]; unfold exSt exAt exAs; rw [topW_of Hs.out]; rfl)
          go_wp2_with (first
            | (go_at_call 55; with_reducible refine (HE.out.wk.seen Hs.out Hrn.out (10)).mono ?_; rintro e W2 ⟨rfl, hK2, hB2⟩; have HE := Lib.hid (HE.out.below hB2); clear hK2 hB2)
            
            | (go_at_call 51; with_reducible refine (HE.out.wk.last Hs.out Hrn.out).mono ?_; rintro e W2 ⟨rfl, hK2, hB2⟩; have HE := Lib.hid (HE.out.below hB2); clear hK2 hB2)
            | (go_at_call 58; with_reducible refine (HRm.out _).mono ?_; rintro e w' ⟨rfl, hw⟩; obtain rfl := hw.symm; clear hw)
            | ((with_reducible refine gate_builtin (b := .append) (xs := #[.tmp 105, .tmp 107]) rfl ?_); at_builtin; refine Kd.R_append (Kd.int .i64) (w0 := w) w.heap.size rfl (.tmp 105) (.tmp 107) 25 3 (.int .i64 0) 8 rfl Tryz.underlying25 info3L rfl (by decide) (by omega) _ L1 (para) [.int .i64 (para)] _ (fun _ => False) rfl rfl rfl (fun _ h => h.elim) (fun k hk => ⟨by have := HE.out.ltM; omega, Kd.fresh' (Kd.R_lt HE.out.r5) k hk⟩) HE.out.r4 HE.out.bel HE.out.bel.size (by rw [HLen.out.1]; have := Hl.out; omega) ?_; intro v_4 w_ ho hb hg hat; have HE := Lib.hid (HE.out.app4 ho hb hg hat); clear ho hb hg hat)
            | ((with_reducible refine gate_builtin (b := .append) (xs := #[.tmp 109, .tmp 111]) rfl ?_); at_builtin; refine Kd.R_append (Kd.int .i64) (w0 := w) w.heap.size rfl (.tmp 109) (.tmp 111) 25 3 (.int .i64 0) 8 rfl Tryz.underlying25 info3L rfl (by decide) (by omega) _ L2 (10) [.int .i64 (10)] _ (fun _ => False) rfl rfl rfl (fun _ h => h.elim) (fun k hk => ⟨by have := HE.out.ltM; omega, Kd.fresh' (Kd.R_lt HE.out.r4) k hk⟩) HE.out.r5 HE.out.bel HE.out.bel.size (by rw [HLen.out.2]; have := Hl.out; omega) ?_; intro v_5 w_ ho hb hg hat; have HE := Lib.hid (HE.out.app5 ho hb hg hat); clear ho hb hg hat))
          go_roundg (l.length + 1 - (i + 1))
          case measure => have := Hg.out; omega
          case rel => exact ⟨i + 1, s, _, L1 ++ [para], L2 ++ [10], by omega, rfl, by go_num, Lib.hid Hst.out.symm, HE⟩
        by_cases h16 : c = 16
        · subst h16
          have HRm : Hid (∀ W, Calls Tryz.prog 58 #[.int .i64 16] W fun e w' => e = .returned (.bool true) ∧ w' = W) := Lib.hid HRm.out
          have Hst : Hid (exTo para l (i + 1) = (embedW s t.lv 1 (-1), L1 ++ [-1], L2 ++ [16])) := Lib.hid (by rw [exTo_succ HJ.out Hc.out]; unfold exSt exAt exAs; rw [topW_of Hs.out]; rfl)
          go_wp2_with (first
            | (go_at_call 55; with_reducible refine (HE.out.wk.seen Hs.out Hrn.out (16)).mono ?_; rintro e W2 ⟨rfl, hK2, hB2⟩; have HE := Lib.hid (HE.out.below hB2); clear hK2 hB2)
            | (go_at_call 52; with_reducible refine (HE.out.wk.embed Hs.out Hrn.out Hlv.out.1 (by have := Hlv.out.2; omega) HIv.out.2.1.1 HIv.out.2.2.1.1 (by have := HIv.out.2.2.1.2; have := HIv.out.1; omega) (1) (-1)).mono ?_; rintro e W2 ⟨rfl, v2, hK2, hM2⟩; have HE := Lib.hid (HE.out.mv hK2 hM2); clear hK2 hM2)
            | (go_at_call 51; with_reducible refine (HE.out.wk.last Hs.out Hrn.out).mono ?_; rintro e W2 ⟨rfl, hK2, hB2⟩; have HE := Lib.hid (HE.out.below hB2); clear hK2 hB2)
            | (go_at_call 58; with_reducible refine (HRm.out _).mono ?_; rintro e w' ⟨rfl, hw⟩; obtain rfl := hw.symm; clear hw)
            | ((with_reducible refine gate_builtin (b := .append) (xs := #[.tmp 105, .tmp 107]) rfl ?_); at_builtin; refine Kd.R_append (Kd.int .i64) (w0 := w) w.heap.size rfl (.tmp 105) (.tmp 107) 25 3 (.int .i64 0) 8 rfl Tryz.underlying25 info3L rfl (by decide) (by omega) _ L1 (-1) [.int .i64 (-1)] _ (fun _ => False) rfl rfl rfl (fun _ h => h.elim) (fun k hk => ⟨by have := HE.out.ltM; omega, Kd.fresh' (Kd.R_lt HE.out.r5) k hk⟩) HE.out.r4 HE.out.bel HE.out.bel.size (by rw [HLen.out.1]; have := Hl.out; omega) ?_; intro v_4 w_ ho hb hg hat; have HE := Lib.hid (HE.out.app4 ho hb hg hat); clear ho hb hg hat)
            | ((with_reducible refine gate_builtin (b := .append) (xs := #[.tmp 109, .tmp 111]) rfl ?_); at_builtin; refine Kd.R_append (Kd.int .i64) (w0 := w) w.heap.size rfl (.tmp 109) (.tmp 111) 25 3 (.int .i64 0) 8 rfl Tryz.underlying25 info3L rfl (by decide) (by omega) _ L2 (16) [.int .i64 (16)] _ (fun _ => False) rfl rfl rfl (fun _ h => h.elim) (fun k hk => ⟨by have := HE.out.ltM; omega, Kd.fresh' (Kd.R_lt HE.out.r4) k hk⟩) HE.out.r5 HE.out.bel HE.out.bel.size (by rw [HLen.out.2]; have := Hl.out; omega) ?_; intro v_5 w_ ho hb hg hat; have HE := Lib.hid (HE.out.app5 ho hb hg hat); clear ho hb hg hat))
          go_roundg (l.length + 1 - (i + 1))
          case measure => have := Hg.out; omega
          case rel => exact ⟨i + 1, embedW s t.lv 1 (-1), _, L1 ++ [-1], L2 ++ [16], by omega, rfl, by go_num, Lib.hid Hst.out.symm, HE⟩
        by_cases h14 : c = 14
        · subst h14
          have HRm : Hid (∀ W, Calls Tryz.prog 58 #[.int .i64 14] W fun e w' => e = .returned (.bool true) ∧ w' = W) := Lib.hid HRm.out
          have Hst : Hid (exTo para l (i + 1) = (embedW s t.lv 0 (-1), L1 ++ [-1], L2 ++ [14])) := Lib.hid (by rw [exTo_succ HJ.out Hc.out]; unfold exSt exAt exAs; rw [topW_of Hs.out]; rfl)
          go_wp2_with (first
            | (go_at_call 55; with_reducible refine (HE.out.wk.seen Hs.out Hrn.out (14)).mono ?_; rintro e W2 ⟨rfl, hK2, hB2⟩; have HE := Lib.hid (HE.out.below hB2); clear hK2 hB2)
            | (go_at_call 52; with_reducible refine (HE.out.wk.embed Hs.out Hrn.out Hlv.out.1 (by have := Hlv.out.2; omega) HIv.out.2.1.1 HIv.out.2.2.1.1 (by have := HIv.out.2.2.1.2; have := HIv.out.1; omega) (0) (-1)).mono ?_; rintro e W2 ⟨rfl, v2, hK2, hM2⟩; have HE := Lib.hid (HE.out.mv hK2 hM2); clear hK2 hM2)
            | (go_at_call 51; with_reducible refine (HE.out.wk.last Hs.out Hrn.out).mono ?_; rintro e W2 ⟨rfl, hK2, hB2⟩; have HE := Lib.hid (HE.out.below hB2); clear hK2 hB2)
            | (go_at_call 58; with_reducible refine (HRm.out _).mono ?_; rintro e w' ⟨rfl, hw⟩; obtain rfl := hw.symm; clear hw)
            | ((with_reducible refine gate_builtin (b := .append) (xs := #[.tmp 105, .tmp 107]) rfl ?_); at_builtin; refine Kd.R_append (Kd.int .i64) (w0 := w) w.heap.size rfl (.tmp 105) (.tmp 107) 25 3 (.int .i64 0) 8 rfl Tryz.underlying25 info3L rfl (by decide) (by omega) _ L1 (-1) [.int .i64 (-1)] _ (fun _ => False) rfl rfl rfl (fun _ h => h.elim) (fun k hk => ⟨by have := HE.out.ltM; omega, Kd.fresh' (Kd.R_lt HE.out.r5) k hk⟩) HE.out.r4 HE.out.bel HE.out.bel.size (by rw [HLen.out.1]; have := Hl.out; omega) ?_; intro v_4 w_ ho hb hg hat; have HE := Lib.hid (HE.out.app4 ho hb hg hat); clear ho hb hg hat)
            | ((with_reducible refine gate_builtin (b := .append) (xs := #[.tmp 109, .tmp 111]) rfl ?_); at_builtin; refine Kd.R_append (Kd.int .i64) (w0 := w) w.heap.size rfl (.tmp 109) (.tmp 111) 25 3 (.int .i64 0) 8 rfl Tryz.underlying25 info3L rfl (by decide) (by omega) _ L2 (14) [.int .i64 (14)] _ (fun _ => False) rfl rfl rfl (fun _ h => h.elim) (fun k hk => ⟨by have := HE.out.ltM; omega, Kd.fresh' (Kd.R_lt HE.out.r4) k hk⟩) HE.out.r5 HE.out.bel HE.out.bel.size (by rw [HLen.out.2]; have := Hl.out; omega) ?_; intro v_5 w_ ho hb hg hat; have HE := Lib.hid (HE.out.app5 ho hb hg hat); clear ho hb hg hat))
          go_roundg (l.length + 1 - (i + 1))
          case measure => have := Hg.out; omega
          case rel => exact ⟨i + 1, embedW s t.lv 0 (-1), _, L1 ++ [-1], L2 ++ [14], by omega, rfl, by go_num, Lib.hid Hst.out.symm, HE⟩
        by_cases h17 : c = 17
        · subst h17
          have HRm : Hid (∀ W, Calls Tryz.prog 58 #[.int .i64 17] W fun e w' => e = .returned (.bool true) ∧ w' = W) := Lib.hid HRm.out
          have Hst : Hid (exTo para l (i + 1) = (embedW s t.lv 1 1, L1 ++ [-1], L2 ++ [17])) := Lib.hid (by rw [exTo_succ HJ.out Hc.out]; unfold exSt exAt exAs; rw [topW_of Hs.out]; rfl)
          go_wp2_with (first
            | (go_at_call 55; with_reducible refine (HE.out.wk.seen Hs.out Hrn.out (17)).mono ?_; rintro e W2 ⟨rfl, hK2, hB2⟩; have HE := Lib.hid (HE.out.below hB2); clear hK2 hB2)
            | (go_at_call 52; with_reducible refine (HE.out.wk.embed Hs.out Hrn.out Hlv.out.1 (by have := Hlv.out.2; omega) HIv.out.2.1.1 HIv.out.2.2.1.1 (by have := HIv.out.2.2.1.2; have := HIv.out.1; omega) (1) (1)).mono ?_; rintro e W2 ⟨rfl, v2, hK2, hM2⟩; have HE := Lib.hid (HE.out.mv hK2 hM2); clear hK2 hM2)
            | (go_at_call 51; with_reducible refine (HE.out.wk.last Hs.out Hrn.out).mono ?_; rintro e W2 ⟨rfl, hK2, hB2⟩; have HE := Lib.hid (HE.out.below hB2); clear hK2 hB2)
            | (go_at_call 58; with_reducible refine (HRm.out _).mono ?_; rintro e w' ⟨rfl, hw⟩; obtain rfl := hw.symm; clear hw)
            | ((with_reducible refine gate_builtin (b := .append) (xs := #[.tmp 105, .tmp 107]) rfl ?_); at_builtin; refine Kd.R_append (Kd.int .i64) (w0 := w) w.heap.size rfl (.tmp 105) (.tmp 107) 25 3 (.int .i64 0) 8 rfl Tryz.underlying25 info3L rfl (by decide) (by omega) _ L1 (-1) [.int .i64 (-1)] _ (fun _ => False) rfl rfl rfl (fun _ h => h.elim) (fun k hk => ⟨by have := HE.out.ltM; omega, Kd.fresh' (Kd.R_lt HE.out.r5) k hk⟩) HE.out.r4 HE.out.bel HE.out.bel.size (by rw [HLen.out.1]; have := Hl.out; omega) ?_; intro v_4 w_ ho hb hg hat; have HE := Lib.hid (HE.out.app4 ho hb hg hat); clear ho hb hg hat)
            | ((with_reducible refine gate_builtin (b := .append) (xs := #[.tmp 109, .tmp 111]) rfl ?_); at_builtin; refine Kd.R_append (Kd.int .i64) (w0 := w) w.heap.size rfl (.tmp 109) (.tmp 111) 25 3 (.int .i64 0) 8 rfl Tryz.underlying25 info3L rfl (by decide) (by omega) _ L2 (17) [.int .i64 (17)] _ (fun _ => False) rfl rfl rfl (fun _ h => h.elim) (fun k hk => ⟨by have := HE.out.ltM; omega, Kd.fresh' (Kd.R_lt HE.out.r4) k hk⟩) HE.out.r5 HE.out.bel HE.out.bel.size (by rw [HLen.out.2]; have := Hl.out; omega) ?_; intro v_5 w_ ho hb hg hat; have HE := Lib.hid (HE.out.app5 ho hb hg hat); clear ho hb hg hat))
          go_roundg (l.length + 1 - (i + 1))
          case measure => have := Hg.out; omega
          case rel => exact ⟨i + 1, embedW s t.lv 1 1, _, L1 ++ [-1], L2 ++ [17], by omega, rfl, by go_num, Lib.hid Hst.out.symm, HE⟩
        by_cases h15 : c = 15
        · subst h15
          have HRm : Hid (∀ W, Calls Tryz.prog 58 #[.int .i64 15] W fun e w' => e = .returned (.bool true) ∧ w' = W) := Lib.hid HRm.out
          have Hst : Hid (exTo para l (i + 1) = (embedW s t.lv 0 0, L1 ++ [-1], L2 ++ [15])) := Lib.hid (by rw [exTo_succ HJ.out Hc.out]; unfold exSt exAt exAs; rw [topW_of Hs.out]; rfl)
          go_wp2_with (first
            | (go_at_call 55; with_reducible refine (HE.out.wk.seen Hs.out Hrn.out (15)).mono ?_; rintro e W2 ⟨rfl, hK2, hB2⟩; have HE := Lib.hid (HE.out.below hB2); clear hK2 hB2)
            | (go_at_call 52; with_reducible refine (HE.out.wk.embed Hs.out Hrn.out Hlv.out.1 (by have := Hlv.out.2; omega) HIv.out.2.1.1 HIv.out.2.2.1.1 (by have := HIv.out.2.2.1.2; have := HIv.out.1; omega) (0) (0)).mono ?_; rintro e W2 ⟨rfl, v2, hK2, hM2⟩; have HE := Lib.hid (HE.out.mv hK2 hM2); clear hK2 hM2)
            | (go_at_call 51; with_reducible refine (HE.out.wk.last Hs.out Hrn.out).mono ?_; rintro e W2 ⟨rfl, hK2, hB2⟩; have HE := Lib.hid (HE.out.below hB2); clear hK2 hB2)
            | (go_at_call 58; with_reducible refine (HRm.out _).mono ?_; rintro e w' ⟨rfl, hw⟩; obtain rfl := hw.symm; clear hw)
            | ((with_reducible refine gate_builtin (b := .append) (xs := #[.tmp 105, .tmp 107]) rfl ?_); at_builtin; refine Kd.R_append (Kd.int .i64) (w0 := w) w.heap.size rfl (.tmp 105) (.tmp 107) 25 3 (.int .i64 0) 8 rfl Tryz.underlying25 info3L rfl (by decide) (by omega) _ L1 (-1) [.int .i64 (-1)] _ (fun _ => False) rfl rfl rfl (fun _ h => h.elim) (fun k hk => ⟨by have := HE.out.ltM; omega, Kd.fresh' (Kd.R_lt HE.out.r5) k hk⟩) HE.out.r4 HE.out.bel HE.out.bel.size (by rw [HLen.out.1]; have := Hl.out; omega) ?_; intro v_4 w_ ho hb hg hat; have HE := Lib.hid (HE.out.app4 ho hb hg hat); clear ho hb hg hat)
            | ((with_reducible refine gate_builtin (b := .append) (xs := #[.tmp 109, .tmp 111]) rfl ?_); at_builtin; refine Kd.R_append (Kd.int .i64) (w0 := w) w.heap.size rfl (.tmp 109) (.tmp 111) 25 3 (.int .i64 0) 8 rfl Tryz.underlying25 info3L rfl (by decide) (by omega) _ L2 (15) [.int .i64 (15)] _ (fun _ => False) rfl rfl rfl (fun _ h => h.elim) (fun k hk => ⟨by have := HE.out.ltM; omega, Kd.fresh' (Kd.R_lt HE.out.r4) k hk⟩) HE.out.r5 HE.out.bel HE.out.bel.size (by rw [HLen.out.2]; have := Hl.out; omega) ?_; intro v_5 w_ ho hb hg hat; have HE := Lib.hid (HE.out.app5 ho hb hg hat); clear ho hb hg hat))
          go_roundg (l.length + 1 - (i + 1))
          case measure => have := Hg.out; omega
          case rel => exact ⟨i + 1, embedW s t.lv 0 0, _, L1 ++ [-1], L2 ++ [15], by omega, rfl, by go_num, Lib.hid Hst.out.symm, HE⟩
        by_cases h18 : c = 18
        · subst h18
          have HRm : Hid (∀ W, Calls Tryz.prog 58 #[.int .i64 18] W fun e w' => e = .returned (.bool true) ∧ w' = W) := Lib.hid HRm.out
          have Hst : Hid (exTo para l (i + 1) = (endsW s t, L1 ++ [-1], L2 ++ [18])) := Lib.hid (by rw [exTo_succ HJ.out Hc.out]; unfold exSt exAt exAs; rw [topW_of Hs.out]; rfl)
          go_wp2_with (first
            | (go_at_call 55; with_reducible refine (HE.out.wk.seen Hs.out Hrn.out (18)).mono ?_; rintro e W2 ⟨rfl, hK2, hB2⟩; have HE := Lib.hid (HE.out.below hB2); clear hK2 hB2)
            | (go_at_call 53; with_reducible refine (HE.out.wk.ends Hs.out Hrn.out HIv.out.2.1.1 HIv.out.2.2.1.1 (by have := HIv.out.2.2.1.2; have := HIv.out.1; omega)).mono ?_; rintro e W2 ⟨rfl, v2, hK2, hM2⟩; have HE := Lib.hid (HE.out.mv hK2 hM2); clear hK2 hM2)
            | (go_at_call 51; with_reducible refine (HE.out.wk.last Hs.out Hrn.out).mono ?_; rintro e W2 ⟨rfl, hK2, hB2⟩; have HE := Lib.hid (HE.out.below hB2); clear hK2 hB2)
            | (go_at_call 58; with_reducible refine (HRm.out _).mono ?_; rintro e w' ⟨rfl, hw⟩; obtain rfl := hw.symm; clear hw)
            | ((with_reducible refine gate_builtin (b := .append) (xs := #[.tmp 105, .tmp 107]) rfl ?_); at_builtin; refine Kd.R_append (Kd.int .i64) (w0 := w) w.heap.size rfl (.tmp 105) (.tmp 107) 25 3 (.int .i64 0) 8 rfl Tryz.underlying25 info3L rfl (by decide) (by omega) _ L1 (-1) [.int .i64 (-1)] _ (fun _ => False) rfl rfl rfl (fun _ h => h.elim) (fun k hk => ⟨by have := HE.out.ltM; omega, Kd.fresh' (Kd.R_lt HE.out.r5) k hk⟩) HE.out.r4 HE.out.bel HE.out.bel.size (by rw [HLen.out.1]; have := Hl.out; omega) ?_; intro v_4 w_ ho hb hg hat; have HE := Lib.hid (HE.out.app4 ho hb hg hat); clear ho hb hg hat)
            | ((with_reducible refine gate_builtin (b := .append) (xs := #[.tmp 109, .tmp 111]) rfl ?_); at_builtin; refine Kd.R_append (Kd.int .i64) (w0 := w) w.heap.size rfl (.tmp 109) (.tmp 111) 25 3 (.int .i64 0) 8 rfl Tryz.underlying25 info3L rfl (by decide) (by omega) _ L2 (18) [.int .i64 (18)] _ (fun _ => False) rfl rfl rfl (fun _ h => h.elim) (fun k hk => ⟨by have := HE.out.ltM; omega, Kd.fresh' (Kd.R_lt HE.out.r4) k hk⟩) HE.out.r5 HE.out.bel HE.out.bel.size (by rw [HLen.out.2]; have := Hl.out; omega) ?_; intro v_5 w_ ho hb hg hat; have HE := Lib.hid (HE.out.app5 ho hb hg hat); clear ho hb hg hat))
          go_roundg (l.length + 1 - (i + 1))
          case measure => have := Hg.out; omega
          case rel => exact ⟨i + 1, endsW s t, _, L1 ++ [-1], L2 ++ [18], by omega, rfl, by go_num, Lib.hid Hst.out.symm, HE⟩
        by_cases h9 : c = 9
        · subst h9
          have HRm : Hid (∀ W, Calls Tryz.prog 58 #[.int .i64 9] W fun e w' => e = .returned (.bool true) ∧ w' = W) := Lib.hid HRm.out
          have Hst : Hid (exTo para l (i + 1) = (s, L1 ++ [-1], L2 ++ [9])) := Lib.hid (by rw [exTo_succ HJ.out Hc.out]; unfold exSt exAt exAs; rw [topW_of Hs.out]; rfl)
          go_wp2_with (first
            | (go_at_call 55; with_reducible refine (HE.out.wk.seen Hs.out Hrn.out (9)).mono ?_; rintro e W2 ⟨rfl, hK2, hB2⟩; have HE := Lib.hid (HE.out.below hB2); clear hK2 hB2)
            
            | (go_at_call 51; with_reducible refine (HE.out.wk.last Hs.out Hrn.out).mono ?_; rintro e W2 ⟨rfl, hK2, hB2⟩; have HE := Lib.hid (HE.out.below hB2); clear hK2 hB2)
            | (go_at_call 58; with_reducible refine (HRm.out _).mono ?_; rintro e w' ⟨rfl, hw⟩; obtain rfl := hw.symm; clear hw)
            | ((with_reducible refine gate_builtin (b := .append) (xs := #[.tmp 105, .tmp 107]) rfl ?_); at_builtin; refine Kd.R_append (Kd.int .i64) (w0 := w) w.heap.size rfl (.tmp 105) (.tmp 107) 25 3 (.int .i64 0) 8 rfl Tryz.underlying25 info3L rfl (by decide) (by omega) _ L1 (-1) [.int .i64 (-1)] _ (fun _ => False) rfl rfl rfl (fun _ h => h.elim) (fun k hk => ⟨by have := HE.out.ltM; omega, Kd.fresh' (Kd.R_lt HE.out.r5) k hk⟩) HE.out.r4 HE.out.bel HE.out.bel.size (by rw [HLen.out.1]; have := Hl.out; omega) ?_; intro v_4 w_ ho hb hg hat; have HE := Lib.hid (HE.out.app4 ho hb hg hat); clear ho hb hg hat)
            | ((with_reducible refine gate_builtin (b := .append) (xs := #[.tmp 109, .tmp 111]) rfl ?_); at_builtin; refine Kd.R_append (Kd.int .i64) (w0 := w) w.heap.size rfl (.tmp 109) (.tmp 111) 25 3 (.int .i64 0) 8 rfl Tryz.underlying25 info3L rfl (by decide) (by omega) _ L2 (9) [.int .i64 (9)] _ (fun _ => False) rfl rfl rfl (fun _ h => h.elim) (fun k hk => ⟨by have := HE.out.ltM; omega, Kd.fresh' (Kd.R_lt HE.out.r4) k hk⟩) HE.out.r5 HE.out.bel HE.out.bel.size (by rw [HLen.out.2]; have := Hl.out; omega) ?_; intro v_5 w_ ho hb hg hat; have HE := Lib.hid (HE.out.app5 ho hb hg hat); clear ho hb hg hat))
          go_roundg (l.length + 1 - (i + 1))
          case measure => have := Hg.out; omega
          case rel => exact ⟨i + 1, s, _, L1 ++ [-1], L2 ++ [9], by omega, rfl, by go_num, Lib.hid Hst.out.symm, HE⟩
        by_cases h20 : c = 20
        · subst h20
          have HRm : Hid (∀ W, Calls Tryz.prog 58 #[.int .i64 20] W fun e w' => e = .returned (.bool false) ∧ w' = W) := Lib.hid HRm.out
          have Hst : Hid (exTo para l (i + 1) = (isolW s t.lv 1, L1 ++ [t.lv], L2 ++ [seenW t 20])) := Lib.hid (by rw [exTo_succ HJ.out Hc.out]; unfold exSt exAt exAs; rw [topW_of Hs.out]; rfl)
          go_wp2_with (first
            | (go_at_call 55; with_reducible refine (HE.out.wk.seen Hs.out Hrn.out (20)).mono ?_; rintro e W2 ⟨rfl, hK2, hB2⟩; have HE := Lib.hid (HE.out.below hB2); clear hK2 hB2)
            | (go_at_call 56; with_reducible refine (HE.out.wk.isolate Hs.out Hrn.out Hlv.out.1 (by have := Hlv.out.2; omega) HIv.out.2.1.1 HIv.out.2.2.1.1 (by have := HIv.out.2.1.2; have := HIv.out.1; omega) HIv.out.2.2.2.1 (by have := HIv.out.2.2.2.2; have := HIv.out.1; omega) (1)).mono ?_; rintro e W2 ⟨rfl, v2, hK2, hM2⟩; have HE := Lib.hid (HE.out.mv hK2 hM2); clear hK2 hM2)
            | (go_at_call 51; with_reducible refine (HE.out.wk.last Hs.out Hrn.out).mono ?_; rintro e W2 ⟨rfl, hK2, hB2⟩; have HE := Lib.hid (HE.out.below hB2); clear hK2 hB2)
            | (go_at_call 58; with_reducible refine (HRm.out _).mono ?_; rintro e w' ⟨rfl, hw⟩; obtain rfl := hw.symm; clear hw)
            | ((with_reducible refine gate_builtin (b := .append) (xs := #[.tmp 105, .tmp 107]) rfl ?_); at_builtin; refine Kd.R_append (Kd.int .i64) (w0 := w) w.heap.size rfl (.tmp 105) (.tmp 107) 25 3 (.int .i64 0) 8 rfl Tryz.underlying25 info3L rfl (by decide) (by omega) _ L1 (t.lv) [.int .i64 (t.lv)] _ (fun _ => False) rfl rfl rfl (fun _ h => h.elim) (fun k hk => ⟨by have := HE.out.ltM; omega, Kd.fresh' (Kd.R_lt HE.out.r5) k hk⟩) HE.out.r4 HE.out.bel HE.out.bel.size (by rw [HLen.out.1]; have := Hl.out; omega) ?_; intro v_4 w_ ho hb hg hat; have HE := Lib.hid (HE.out.app4 ho hb hg hat); clear ho hb hg hat)
            | ((with_reducible refine gate_builtin (b := .append) (xs := #[.tmp 109, .tmp 111]) rfl ?_); at_builtin; refine Kd.R_append (Kd.int .i64) (w0 := w) w.heap.size rfl (.tmp 109) (.tmp 111) 25 3 (.int .i64 0) 8 rfl Tryz.underlying25 info3L rfl (by decide) (by omega) _ L2 (seenW t 20) [.int .i64 (seenW t 20)] _ (fun _ => False) rfl rfl rfl (fun _ h => h.elim) (fun k hk => ⟨by have := HE.out.ltM; omega, Kd.fresh' (Kd.R_lt HE.out.r4) k hk⟩) HE.out.r5 HE.out.bel HE.out.bel.size (by rw [HLen.out.2]; have := Hl.out; omega) ?_; intro v_5 w_ ho hb hg hat; have HE := Lib.hid (HE.out.app5 ho hb hg hat); clear ho hb hg hat))
          go_roundg (l.length + 1 - (i + 1))
          case measure => have := Hg.out; omega
          case rel => exact ⟨i + 1, isolW s t.lv 1, _, L1 ++ [t.lv], L2 ++ [seenW t 20], by omega, rfl, by go_num, Lib.hid Hst.out.symm, HE⟩
        by_cases h19 : c = 19
        · subst h19
          have HRm : Hid (∀ W, Calls Tryz.prog 58 #[.int .i64 19] W fun e w' => e = .returned (.bool false) ∧ w' = W) := Lib.hid HRm.out
          have Hst : Hid (exTo para l (i + 1) = (isolW s t.lv 0, L1 ++ [t.lv], L2 ++ [seenW t 19])) := Lib.hid (by rw [exTo_succ HJ.out Hc.out]; unfold exSt exAt exAs; rw [topW_of Hs.out]; rfl)
          go_wp2_with (first
            | (go_at_call 55; with_reducible refine (HE.out.wk.seen Hs.out Hrn.out (19)).mono ?_; rintro e W2 ⟨rfl, hK2, hB2⟩; have HE := Lib.hid (HE.out.below hB2); clear hK2 hB2)
            | (go_at_call 56; with_reducible refine (HE.out.wk.isolate Hs.out Hrn.out Hlv.out.1 (by have := Hlv.out.2; omega) HIv.out.2.1.1 HIv.out.2.2.1.1 (by have := HIv.out.2.1.2; have := HIv.out.1; omega) HIv.out.2.2.2.1 (by have := HIv.out.2.2.2.2; have := HIv.out.1; omega) (0)).mono ?_; rintro e W2 ⟨rfl, v2, hK2, hM2⟩; have HE := Lib.hid (HE.out.mv hK2 hM2); clear hK2 hM2)
            | (go_at_call 51; with_reducible refine (HE.out.wk.last Hs.out Hrn.out).mono ?_; rintro e W2 ⟨rfl, hK2, hB2⟩; have HE := Lib.hid (HE.out.below hB2); clear hK2 hB2)
            | (go_at_call 58; with_reducible refine (HRm.out _).mono ?_; rintro e w' ⟨rfl, hw⟩; obtain rfl := hw.symm; clear hw)
            | ((with_reducible refine gate_builtin (b := .append) (xs := #[.tmp 105, .tmp 107]) rfl ?_); at_builtin; refine Kd.R_append (Kd.int .i64) (w0 := w) w.heap.size rfl (.tmp 105) (.tmp 107) 25 3 (.int .i64 0) 8 rfl Tryz.underlying25 info3L rfl (by decide) (by omega) _ L1 (t.lv) [.int .i64 (t.lv)] _ (fun _ => False) rfl rfl rfl (fun _ h => h.elim) (fun k hk => ⟨by have := HE.out.ltM; omega, Kd.fresh' (Kd.R_lt HE.out.r5) k hk⟩) HE.out.r4 HE.out.bel HE.out.bel.size (by rw [HLen.out.1]; have := Hl.out; omega) ?_; intro v_4 w_ ho hb hg hat; have HE := Lib.hid (HE.out.app4 ho hb hg hat); clear ho hb hg hat)
            | ((with_reducible refine gate_builtin (b := .append) (xs := #[.tmp 109, .tmp 111]) rfl ?_); at_builtin; refine Kd.R_append (Kd.int .i64) (w0 := w) w.heap.size rfl (.tmp 109) (.tmp 111) 25 3 (.int .i64 0) 8 rfl Tryz.underlying25 info3L rfl (by decide) (by omega) _ L2 (seenW t 19) [.int .i64 (seenW t 19)] _ (fun _ => False) rfl rfl rfl (fun _ h => h.elim) (fun k hk => ⟨by have := HE.out.ltM; omega, Kd.fresh' (Kd.R_lt HE.out.r4) k hk⟩) HE.out.r5 HE.out.bel HE.out.bel.size (by rw [HLen.out.2]; have := Hl.out; omega) ?_; intro v_5 w_ ho hb hg hat; have HE := Lib.hid (HE.out.app5 ho hb hg hat); clear ho hb hg hat))
          go_roundg (l.length + 1 - (i + 1))
          case measure => have := Hg.out; omega
          case rel => exact ⟨i + 1, isolW s t.lv 0, _, L1 ++ [t.lv], L2 ++ [seenW t 19], by omega, rfl, by go_num, Lib.hid Hst.out.symm, HE⟩
        by_cases h22 : c = 22
        · subst h22
          have HRm : Hid (∀ W, Calls Tryz.prog 58 #[.int .i64 22] W fun e w' => e = .returned (.bool false) ∧ w' = W) := Lib.hid HRm.out
          obtain ⟨t', r', hs', ht0, ht1⟩ := (HIh.out.closes).top
          have Hs' := Lib.hid hs'
          have hrn' : r'.length < 1048576 := by have h5 := (HIh.out.closes).len; rw [hs'] at h5; simp only [List.length_cons] at h5; have := Hl.out; omega
          have Hst : Hid (exTo para l (i + 1) = (closesW s, L1 ++ [t'.lv], L2 ++ [seenW t' 22])) := Lib.hid (by rw [exTo_succ HJ.out Hc.out]; have e : exSt l i 22 s = closesW s := rfl; rw [e]; unfold exAt exAs; rw [topW_of hs']; rfl)
          clear hs'
          go_wp2_with (first
            | (go_at_call 55; with_reducible refine (HE.out.wk.seen Hs.out Hrn.out 22).mono ?_; rintro e W2 ⟨rfl, hK2, hB2⟩; have HE := Lib.hid (HE.out.below hB2); clear hK2 hB2)
            | (go_at_call 54; with_reducible refine (HE.out.wk.closes (by rw [Hs.out, List.length_cons]; have := Hrn.out; omega) HIv.out.2.1.1 (by have := HIv.out.2.1.2; have := HIv.out.1; omega) HIv.out.2.2.2.1 (by have := HIv.out.2.2.2.2; have := HIv.out.1; omega) HPo.out).mono ?_; rintro e W2 ⟨rfl, v2, hK2, hM2⟩; have HE := Lib.hid (HE.out.mv hK2 hM2); clear hK2 hM2)
            | (go_at_call 55; with_reducible refine (HE.out.wk.seen Hs'.out hrn' 22).mono ?_; rintro e W2 ⟨rfl, hK2, hB2⟩; have HE := Lib.hid (HE.out.below hB2); clear hK2 hB2)
            | (go_at_call 51; with_reducible refine (HE.out.wk.last Hs'.out hrn').mono ?_; rintro e W2 ⟨rfl, hK2, hB2⟩; have HE := Lib.hid (HE.out.below hB2); clear hK2 hB2)
            | (go_at_call 51; with_reducible refine (HE.out.wk.last Hs.out Hrn.out).mono ?_; rintro e W2 ⟨rfl, hK2, hB2⟩; have HE := Lib.hid (HE.out.below hB2); clear hK2 hB2)
            | (go_at_call 58; with_reducible refine (HRm.out _).mono ?_; rintro e w' ⟨rfl, hw⟩; obtain rfl := hw.symm; clear hw)
            | ((with_reducible refine gate_builtin (b := .append) (xs := #[.tmp 105, .tmp 107]) rfl ?_); at_builtin; refine Kd.R_append (Kd.int .i64) (w0 := w) w.heap.size rfl (.tmp 105) (.tmp 107) 25 3 (.int .i64 0) 8 rfl Tryz.underlying25 info3L rfl (by decide) (by omega) _ L1 (t'.lv) [.int .i64 (t'.lv)] _ (fun _ => False) rfl rfl rfl (fun _ h => h.elim) (fun k hk => ⟨by have := HE.out.ltM; omega, Kd.fresh' (Kd.R_lt HE.out.r5) k hk⟩) HE.out.r4 HE.out.bel HE.out.bel.size (by rw [HLen.out.1]; have := Hl.out; omega) ?_; intro v_4 w_ ho hb hg hat; have HE := Lib.hid (HE.out.app4 ho hb hg hat); clear ho hb hg hat)
            | ((with_reducible refine gate_builtin (b := .append) (xs := #[.tmp 109, .tmp 111]) rfl ?_); at_builtin; refine Kd.R_append (Kd.int .i64) (w0 := w) w.heap.size rfl (.tmp 109) (.tmp 111) 25 3 (.int .i64 0) 8 rfl Tryz.underlying25 info3L rfl (by decide) (by omega) _ L2 (seenW t' 22) [.int .i64 (seenW t' 22)] _ (fun _ => False) rfl rfl rfl (fun _ h => h.elim) (fun k hk => ⟨by have := HE.out.ltM; omega, Kd.fresh' (Kd.R_lt HE.out.r4) k hk⟩) HE.out.r5 HE.out.bel HE.out.bel.size (by rw [HLen.out.2]; have := Hl.out; omega) ?_; intro v_5 w_ ho hb hg hat; have HE := Lib.hid (HE.out.app5 ho hb hg hat); clear ho hb hg hat))
          go_roundg (l.length + 1 - (i + 1))
          case measure => have := Hg.out; omega
          case rel => exact ⟨i + 1, closesW s, _, L1 ++ [t'.lv], L2 ++ [seenW t' 22], by omega, rfl, by go_num, Lib.hid Hst.out.symm, HE⟩
        by_cases h21 : c = 21
        · subst h21
          have HRm : Hid (∀ W, Calls Tryz.prog 58 #[.int .i64 21] W fun e w' => e = .returned (.bool false) ∧ w' = W) := Lib.hid HRm.out
          have Hst : Hid (exTo para l (i + 1) = (isolW s t.lv (exOdd l i), L1 ++ [t.lv], L2 ++ [seenW t 21])) := Lib.hid (by rw [exTo_succ HJ.out Hc.out]; unfold exSt exAt exAs; rw [topW_of Hs.out]; rfl)
          obtain ⟨m, hm1, hm2, hm3⟩ := match_next l i hltN (by rw [← Hc.out]; rfl)
          have hMi : Hid ((nums .i64 (matchW l))[i]? = some (.int .i64 (m : Int))) := Lib.hid (by
            have hl : i < (matchW l).length := by rw [matchW_len]; exact hltN
            have : (matchW l)[i] = (m : Int) := by rw [← hm1, List.getD_eq_getElem?_getD, List.getElem?_eq_getElem hl]; rfl
            simp [nums, this, hl])
          have hmc := HE.out.mcell hMi.out
          have him : (i : Int) + 1 ≤ (m : Int) := by omega
          have hmC : (m : Int) ≤ (c0 : Int) := by have := Hcap.out; omega
          have hi1 : (i : Int) + 1 < 1048578 := by have := Hl.out; omega
          have hLl : ((l.take m).drop (i + 1)).length = m - (i + 1) := by rw [List.length_drop, List.length_take]; omega
          have hCm := Kd.C_mid (lo := i + 1) (hi := m) HC.out (by omega) hm3 Hcap.out
          have hsz : (Kd.int .i64).sz = 1 := rfl
          rw [hLl, hsz, Nat.mul_one] at hCm
          have hOd : Hid (exOdd l i = (lvlW ((l.take m).drop (i + 1))).1) := Lib.hid (by unfold exOdd; rw [hm1]; rfl)
          obtain ⟨A57, hcut, HLv⟩ : ∃ A57, (∀ W : World, (Instr.slice 25 (.slice (some ad) l.length c0) (some (.int .i64 ((i : Int) + 1))) (some (.int .i64 (m : Int))) none).run Tryz.prog W = .ok (.slice A57 (m - (i + 1)) (c0 - (i + 1))) W) ∧
              Hid (∀ W, Below w.heap.size w W → Calls Tryz.prog 57 #[.slice A57 (m - (i + 1)) (c0 - (i + 1))] W fun e w' => ∃ b, e = .returned (.tuple #[.int .i64 (exOdd l i), .bool b]) ∧ Below W.heap.size W w') := by
            obtain ⟨ti, hti, _, hts, _⟩ := info_parts info3L
            refine ⟨(if c0 = i + 1 then some ad else (some ad).map (·.add (i + 1))), fun W => ?_, Lib.hid (fun W hb => ?_)⟩
            · have := cut_mid (P := Tryz.prog) 25 3 .i64 .i64 Tryz.underlying25 hti 1 hts (some ad) l.length c0 ((i : Int) + 1) (m : Int) (by omega) him (by omega) Hcap.out W
              have e1 : ((i : Int) + 1).toNat = i + 1 := by omega
              rw [e1, Int.toNat_natCast, Nat.mul_one] at this
              exact this
            · have := level_all (if c0 = i + 1 then some ad else (some ad).map (·.add (i + 1))) (c0 - (i + 1)) ((l.take m).drop (i + 1)) W (by rw [hLl]; exact Kd.C_below hCm hb) (by rw [hLl]; have := Hl.out; omega)
              rw [hLl] at this
              refine this.mono ?_
              rintro e w' ⟨rfl, hB⟩
              exact ⟨_, by rw [hOd.out], hB⟩
          have Hm := Lib.hid (And.intro hm1 (And.intro hm2 hm3))
          clear hm1 hib hCm hLl hm2 hm3 him hmC
          go_wp2_with (first
            | (go_at_call 55; with_reducible refine (HE.out.wk.seen Hs.out Hrn.out 21).mono ?_; rintro e W2 ⟨rfl, hK2, hB2⟩; have HE := Lib.hid (HE.out.below hB2); have hmc := HE.out.mcell hMi.out; clear hK2 hB2)
            | (go_at_call 57; with_reducible refine (HLv.out _ HE.out.bel).mono ?_; rintro e W2 ⟨b57, rfl, hB2⟩; have HE := Lib.hid (HE.out.below hB2); have hmc := HE.out.mcell hMi.out; clear hB2)
            | (go_at_call 56; with_reducible refine (HE.out.wk.isolate Hs.out Hrn.out Hlv.out.1 (by have := Hlv.out.2; omega) HIv.out.2.1.1 HIv.out.2.2.1.1 (by have := HIv.out.2.1.2; have := HIv.out.1; omega) HIv.out.2.2.2.1 (by have := HIv.out.2.2.2.2; have := HIv.out.1; omega) (exOdd l i)).mono ?_; rintro e W2 ⟨rfl, v2, hK2, hM2⟩; have HE := Lib.hid (HE.out.mv hK2 hM2); clear hK2 hM2)
            | (go_at_call 51; with_reducible refine (HE.out.wk.last Hs.out Hrn.out).mono ?_; rintro e W2 ⟨rfl, hK2, hB2⟩; have HE := Lib.hid (HE.out.below hB2); have hmc := HE.out.mcell hMi.out; clear hK2 hB2)
            | (go_at_call 58; with_reducible refine (HRm.out _).mono ?_; rintro e w' ⟨rfl, hw⟩; obtain rfl := hw.symm; clear hw)
            | ((with_reducible refine gate_builtin (b := .append) (xs := #[.tmp 105, .tmp 107]) rfl ?_); at_builtin; refine Kd.R_append (Kd.int .i64) (w0 := w) w.heap.size rfl (.tmp 105) (.tmp 107) 25 3 (.int .i64 0) 8 rfl Tryz.underlying25 info3L rfl (by decide) (by omega) _ L1 (t.lv) [.int .i64 (t.lv)] _ (fun _ => False) rfl rfl rfl (fun _ h => h.elim) (fun k hk => ⟨by have := HE.out.ltM; omega, Kd.fresh' (Kd.R_lt HE.out.r5) k hk⟩) HE.out.r4 HE.out.bel HE.out.bel.size (by rw [HLen.out.1]; have := Hl.out; omega) ?_; intro v_4 w_ ho hb hg hat; have HE := Lib.hid (HE.out.app4 ho hb hg hat); clear ho hb hg hat)
            | ((with_reducible refine gate_builtin (b := .append) (xs := #[.tmp 109, .tmp 111]) rfl ?_); at_builtin; refine Kd.R_append (Kd.int .i64) (w0 := w) w.heap.size rfl (.tmp 109) (.tmp 111) 25 3 (.int .i64 0) 8 rfl Tryz.underlying25 info3L rfl (by decide) (by omega) _ L2 (seenW t 21) [.int .i64 (seenW t 21)] _ (fun _ => False) rfl rfl rfl (fun _ h => h.elim) (fun k hk => ⟨by have := HE.out.ltM; omega, Kd.fresh' (Kd.R_lt HE.out.r4) k hk⟩) HE.out.r5 HE.out.bel HE.out.bel.size (by rw [HLen.out.2]; have := Hl.out; omega) ?_; intro v_5 w_ ho hb hg hat; have HE := Lib.hid (HE.out.app5 ho hb hg hat); clear ho hb hg hat))
          go_roundg (l.length + 1 - (i + 1))
          case measure => have := Hg.out; omega
          case rel => exact ⟨i + 1, isolW s t.lv (exOdd l i), _, L1 ++ [t.lv], L2 ++ [seenW t 21], by omega, rfl, by go_num, Lib.hid Hst.out.symm, HE⟩
        have b10 : (c == 10) = false := by simpa using h10
        have b16 : (c == 16) = false := by simpa using h16
        have b14 : (c == 14) = false := by simpa using h14
        have b17 : (c == 17) = false := by simpa using h17
        have b15 : (c == 15) = false := by simpa using h15
        have b18 : (c == 18) = false := by simpa using h18
        have b22 : (c == 22) = false := by simpa using h22
        have b9 : (c == 9) = false := by simpa using h9
        have b20 : (c == 20) = false := by simpa using h20
        have b19 : (c == 19) = false := by simpa using h19
        have b21 : (c == 21) = false := by simpa using h21
        have hrb : remB c = false := by unfold remB; rw [b16, b14, b17, b15, b18, b9]; rfl
        have Hst : Hid (exTo para l (i + 1) = (s, L1 ++ [t.lv], L2 ++ [seenW t c])) := Lib.hid (by
          rw [exTo_succ HJ.out Hc.out]
          have e : exSt l i c s = s := by unfold exSt; rw [if_neg h16, if_neg h14, if_neg h17, if_neg h15, if_neg h18, if_neg h22, if_neg h20, if_neg h19, if_neg h21]
          rw [e]
          unfold exAt exAs
          rw [hrb, if_neg (by decide), if_neg h10, if_neg h22, if_neg (by simp [h10]), if_neg h22, topW_of Hs.out])
        have HRm : Hid (∀ W, Calls Tryz.prog 58 #[.int .i64 c] W fun e w' => e = .returned (.bool false) ∧ w' = W) := Lib.hid (by rw [← hrb]; exact HRm.out)
        clear h10 h16 h14 h17 h15 h18 h22 h9 h20 h19 h21 hrb
        go_wp2_with (first
            | (go_at_call 55; with_reducible refine (HE.out.wk.seen Hs.out Hrn.out c).mono ?_; rintro e W2 ⟨rfl, hK2, hB2⟩; have HE := Lib.hid (HE.out.below hB2); clear hK2 hB2)
            
            | (go_at_call 51; with_reducible refine (HE.out.wk.last Hs.out Hrn.out).mono ?_; rintro e W2 ⟨rfl, hK2, hB2⟩; have HE := Lib.hid (HE.out.below hB2); clear hK2 hB2)
            | (go_at_call 58; with_reducible refine (HRm.out _).mono ?_; rintro e w' ⟨rfl, hw⟩; obtain rfl := hw.symm; clear hw)
            | ((with_reducible refine gate_builtin (b := .append) (xs := #[.tmp 105, .tmp 107]) rfl ?_); at_builtin; refine Kd.R_append (Kd.int .i64) (w0 := w) w.heap.size rfl (.tmp 105) (.tmp 107) 25 3 (.int .i64 0) 8 rfl Tryz.underlying25 info3L rfl (by decide) (by omega) _ L1 (t.lv) [.int .i64 (t.lv)] _ (fun _ => False) rfl rfl rfl (fun _ h => h.elim) (fun k hk => ⟨by have := HE.out.ltM; omega, Kd.fresh' (Kd.R_lt HE.out.r5) k hk⟩) HE.out.r4 HE.out.bel HE.out.bel.size (by rw [HLen.out.1]; have := Hl.out; omega) ?_; intro v_4 w_ ho hb hg hat; have HE := Lib.hid (HE.out.app4 ho hb hg hat); clear ho hb hg hat)
            | ((with_reducible refine gate_builtin (b := .append) (xs := #[.tmp 109, .tmp 111]) rfl ?_); at_builtin; refine Kd.R_append (Kd.int .i64) (w0 := w) w.heap.size rfl (.tmp 109) (.tmp 111) 25 3 (.int .i64 0) 8 rfl Tryz.underlying25 info3L rfl (by decide) (by omega) _ L2 (seenW t c) [.int .i64 (seenW t c)] _ (fun _ => False) rfl rfl rfl (fun _ h => h.elim) (fun k hk => ⟨by have := HE.out.ltM; omega, Kd.fresh' (Kd.R_lt HE.out.r4) k hk⟩) HE.out.r5 HE.out.bel HE.out.bel.size (by rw [HLen.out.2]; have := Hl.out; omega) ?_; intro v_5 w_ ho hb hg hat; have HE := Lib.hid (HE.out.app5 ho hb hg hat); clear ho hb hg hat))
        go_roundg (l.length + 1 - (i + 1))
        case measure => have := Hg.out; omega
        case rel => exact ⟨i + 1, s, _, L1 ++ [t.lv], L2 ++ [seenW t c], by omega, rfl, by go_num, Lib.hid Hst.out.symm, HE⟩
      · have hlt' : ¬ (i : Int) < (l.length : Int) := by omega
        have hil : i = l.length := by omega
        subst hil
        go_wp2
        go_ret2
        have he := HE.out
        have e1 : L1 = exLv para l := by unfold exLv; rw [← HJ.out]
        have e2 : L2 = exTd para l := by unfold exTd; rw [← HJ.out]
        rw [← e1, ← e2]
        exact ⟨_, _, rfl, Kd.R_mono he.r4 (fun k hk => hk.2), Kd.R_mono he.r5 (fun k hk => hk.2), he.bel⟩
end Go.Proofs.YtdpifkhkemeclaaGreat
