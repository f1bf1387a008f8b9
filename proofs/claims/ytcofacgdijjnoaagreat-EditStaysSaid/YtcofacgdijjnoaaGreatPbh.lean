/- two sheets of their own, stored in any order. -/
import Derived.Test.YtcofacgdijjnoaaGreatPbg
namespace Go.Proofs.YtcofacgdijjnoaaGreat
open PE (S31 S44 S49 k44 k49 k31)
open Go.RowKit Go.Shelf Go.Lib Go.Proofs.YtcofacgdijjnoaaGreatW.PrintWords Go.Proofs.YtcofacgdijjnoaaGreatW.PrintLast Go.Proofs.YtcofacgdijjnoaaGreatW.PrintMore
set_option linter.unusedVariables false
set_option linter.unusedSimpArgs false
set_option maxHeartbeats 8000000
set_option maxRecDepth 100000
/-- what holds throughout the region of two calls of Own and their stores -/
structure I6 (wz : World) (t s : Sh) (l : Array Bool) (w : World) (x44 x46 x7 x8 : Value) : Prop where
  sz : l.size = 8
  p0 : l.getD 0 false = true
  p2 : l.getD 2 false = true
  be : Below wz.heap.size wz w
  al6 : l.getD 6 false = true → ∀ i ∈ [1, 3, 4, 5], l.getD i false = true
  al7 : l.getD 7 false = true → ∀ i ∈ [1, 3, 4, 5, 6], l.getD i false = true
  c1 : l.getD 1 false = true → ∃ V, x44 = .agg (shv V t) ∧ OwS w wz.heap.size V t
  c3 : l.getD 3 false = true → ∃ V, x46 = .agg (shv V s) ∧ OwS w wz.heap.size V s
  a4 : l.getD 4 false = true → ∃ g, x7 = .pointer (some ⟨g, 0, none⟩) ∧ wz.heap.size ≤ g ∧ g < w.heap.size ∧ (l.getD 6 false = false → w.heap[g]? = some (.cells #[.int .i64 0, .slice none 0 0, .slice none 0 0, .slice none 0 0, .slice none 0 0] 26 (0, 0))) ∧ (l.getD 6 false = true → ∀ V, x44 = .agg (shv V t) → w.heap[g]? = some (.cells (shv V t) 26 (0, 0)))
  a5 : l.getD 5 false = true → ∃ g, x8 = .pointer (some ⟨g, 0, none⟩) ∧ wz.heap.size ≤ g ∧ g < w.heap.size ∧ (l.getD 7 false = false → w.heap[g]? = some (.cells #[.int .i64 0, .slice none 0 0, .slice none 0 0, .slice none 0 0, .slice none 0 0] 26 (0, 0))) ∧ (l.getD 7 false = true → ∀ V, x46 = .agg (shv V s) → w.heap[g]? = some (.cells (shv V s) 26 (0, 0)))
  ne : l.getD 4 false = true → l.getD 5 false = true → x7 ≠ x8
theorem I6.no {wz w : World} {t s : Sh} {l : Array Bool} {x44 x46 x7 x8 : Value} (h : I6 wz t s l w x44 x46 x7 x8) (i : Nat) (hi : i ∈ [1, 3, 4, 5]) (hu : l.getD i true = false) : l.getD 6 false = false ∧ l.getD 7 false = false := by
  constructor
  · cases e : l.getD 6 false with
    | false => rfl
    | true => have := h.al6 e i hi; rw [gdf hu] at this; cases this
  · cases e : l.getD 7 false with
    | false => rfl
    | true => have := h.al7 e i (by revert hi; simp; omega); rw [gdf hu] at this; cases this
theorem I6.s1 {wz w : World} {t s : Sh} {l : Array Bool} {x44 x46 x7 x8 : Value} {w' : World} {v : Value} (h : I6 wz t s l w x44 x46 x7 x8) (hu : l.getD 1 true = false) (hb : Below w.heap.size w w') (hx : ∃ V, v = .agg (shv V t) ∧ OwS w' wz.heap.size V t) : I6 wz t s (l.setIfInBounds 1 true) w' v x46 x7 x8 := by
  obtain ⟨n6, n7⟩ := h.no 1 (by simp) hu
  have hn : ∀ j, 1 ≠ j → (l.setIfInBounds 1 true).getD j false = l.getD j false := fun j hj => getD_set_ne false hj
  have m6 : (l.setIfInBounds 1 true).getD 6 false = false := by rw [hn 6 (by decide)]; exact n6
  have m7 : (l.setIfInBounds 1 true).getD 7 false = false := by rw [hn 7 (by decide)]; exact n7
  exact ⟨by rw [Array.size_setIfInBounds]; exact h.sz, getD_set_true h.p0, getD_set_true h.p2, below_trans h.be (below_mono hb h.be.size), fun k => absurd k (by rw [m6]; decide), fun k => absurd k (by rw [m7]; decide), fun _ => hx, fun k => (h.c3 (by rwa [hn 3 (by decide)] at k)).imp fun _ e => ⟨e.1, e.2.below hb⟩, fun k => (h.a4 (by rwa [hn 4 (by decide)] at k)).imp fun _ e => ⟨e.1, e.2.1, Nat.lt_of_lt_of_le e.2.2.1 hb.size, fun _ => blk_below (e.2.2.2.1 n6) hb, fun k => absurd k (by rw [m6]; decide)⟩, fun k => (h.a5 (by rwa [hn 5 (by decide)] at k)).imp fun _ e => ⟨e.1, e.2.1, Nat.lt_of_lt_of_le e.2.2.1 hb.size, fun _ => blk_below (e.2.2.2.1 n7) hb, fun k => absurd k (by rw [m7]; decide)⟩, fun k k' => h.ne (by rwa [hn 4 (by decide)] at k) (by rwa [hn 5 (by decide)] at k')⟩
theorem I6.s3 {wz w : World} {t s : Sh} {l : Array Bool} {x44 x46 x7 x8 : Value} {w' : World} {v : Value} (h : I6 wz t s l w x44 x46 x7 x8) (hu : l.getD 3 true = false) (hb : Below w.heap.size w w') (hx : ∃ V, v = .agg (shv V s) ∧ OwS w' wz.heap.size V s) : I6 wz t s (l.setIfInBounds 3 true) w' x44 v x7 x8 := by
  obtain ⟨n6, n7⟩ := h.no 3 (by simp) hu
  have hn : ∀ j, 3 ≠ j → (l.setIfInBounds 3 true).getD j false = l.getD j false := fun j hj => getD_set_ne false hj
  have m6 : (l.setIfInBounds 3 true).getD 6 false = false := by rw [hn 6 (by decide)]; exact n6
  have m7 : (l.setIfInBounds 3 true).getD 7 false = false := by rw [hn 7 (by decide)]; exact n7
  exact ⟨by rw [Array.size_setIfInBounds]; exact h.sz, getD_set_true h.p0, getD_set_true h.p2, below_trans h.be (below_mono hb h.be.size), fun k => absurd k (by rw [m6]; decide), fun k => absurd k (by rw [m7]; decide), fun k => (h.c1 (by rwa [hn 1 (by decide)] at k)).imp fun _ e => ⟨e.1, e.2.below hb⟩, fun _ => hx, fun k => (h.a4 (by rwa [hn 4 (by decide)] at k)).imp fun _ e => ⟨e.1, e.2.1, Nat.lt_of_lt_of_le e.2.2.1 hb.size, fun _ => blk_below (e.2.2.2.1 n6) hb, fun k => absurd k (by rw [m6]; decide)⟩, fun k => (h.a5 (by rwa [hn 5 (by decide)] at k)).imp fun _ e => ⟨e.1, e.2.1, Nat.lt_of_lt_of_le e.2.2.1 hb.size, fun _ => blk_below (e.2.2.2.1 n7) hb, fun k => absurd k (by rw [m7]; decide)⟩, fun k k' => h.ne (by rwa [hn 4 (by decide)] at k) (by rwa [hn 5 (by decide)] at k')⟩
theorem I6.s4 {wz w : World} {t s : Sh} {l : Array Bool} {x44 x46 x7 x8 : Value} (h : I6 wz t s l w x44 x46 x7 x8) (hu : l.getD 4 true = false) : I6 wz t s (l.setIfInBounds 4 true) (w.alloc (.cells #[.int .i64 0, .slice none 0 0, .slice none 0 0, .slice none 0 0, .slice none 0 0] 26 (0, 0))) x44 x46 (.pointer (some ⟨w.heap.size, 0, none⟩)) x8 := by
  have hb := below_alloc (Below.refl w.heap.size w) (Obj.cells #[.int .i64 0, .slice none 0 0, .slice none 0 0, .slice none 0 0, .slice none 0 0] 26 (0, 0))
  obtain ⟨n6, n7⟩ := h.no 4 (by simp) hu
  have hn : ∀ j, 4 ≠ j → (l.setIfInBounds 4 true).getD j false = l.getD j false := fun j hj => getD_set_ne false hj
  have m6 : (l.setIfInBounds 4 true).getD 6 false = false := by rw [hn 6 (by decide)]; exact n6
  have m7 : (l.setIfInBounds 4 true).getD 7 false = false := by rw [hn 7 (by decide)]; exact n7
  exact ⟨by rw [Array.size_setIfInBounds]; exact h.sz, getD_set_true h.p0, getD_set_true h.p2, below_trans h.be (below_mono hb h.be.size), fun k => absurd k (by rw [m6]; decide), fun k => absurd k (by rw [m7]; decide), fun k => (h.c1 (by rwa [hn 1 (by decide)] at k)).imp fun _ e => ⟨e.1, e.2.below hb⟩, fun k => (h.c3 (by rwa [hn 3 (by decide)] at k)).imp fun _ e => ⟨e.1, e.2.below hb⟩, fun _ => ⟨w.heap.size, rfl, h.be.size, by simp, fun _ => blk_new w (Obj.cells #[.int .i64 0, .slice none 0 0, .slice none 0 0, .slice none 0 0, .slice none 0 0] 26 (0, 0)), fun k => absurd k (by rw [m6]; decide)⟩, fun k => (h.a5 (by rwa [hn 5 (by decide)] at k)).imp fun _ e => ⟨e.1, e.2.1, Nat.lt_of_lt_of_le e.2.2.1 hb.size, fun _ => blk_below (e.2.2.2.1 n7) hb, fun k => absurd k (by rw [m7]; decide)⟩, fun k k' e => by
    obtain ⟨g, e', _, hl, _⟩ := h.a5 (by rwa [hn 5 (by decide)] at k')
    rw [e'] at e
    injection e with e
    injection e with e
    injection e with e
    omega⟩
theorem I6.s5 {wz w : World} {t s : Sh} {l : Array Bool} {x44 x46 x7 x8 : Value} (h : I6 wz t s l w x44 x46 x7 x8) (hu : l.getD 5 true = false) : I6 wz t s (l.setIfInBounds 5 true) (w.alloc (.cells #[.int .i64 0, .slice none 0 0, .slice none 0 0, .slice none 0 0, .slice none 0 0] 26 (0, 0))) x44 x46 x7 (.pointer (some ⟨w.heap.size, 0, none⟩)) := by
  have hb := below_alloc (Below.refl w.heap.size w) (Obj.cells #[.int .i64 0, .slice none 0 0, .slice none 0 0, .slice none 0 0, .slice none 0 0] 26 (0, 0))
  obtain ⟨n6, n7⟩ := h.no 5 (by simp) hu
  have hn : ∀ j, 5 ≠ j → (l.setIfInBounds 5 true).getD j false = l.getD j false := fun j hj => getD_set_ne false hj
  have m6 : (l.setIfInBounds 5 true).getD 6 false = false := by rw [hn 6 (by decide)]; exact n6
  have m7 : (l.setIfInBounds 5 true).getD 7 false = false := by rw [hn 7 (by decide)]; exact n7
  exact ⟨by rw [Array.size_setIfInBounds]; exact h.sz, getD_set_true h.p0, getD_set_true h.p2, below_trans h.be (below_mono hb h.be.size), fun k => absurd k (by rw [m6]; decide), fun k => absurd k (by rw [m7]; decide), fun k => (h.c1 (by rwa [hn 1 (by decide)] at k)).imp fun _ e => ⟨e.1, e.2.below hb⟩, fun k => (h.c3 (by rwa [hn 3 (by decide)] at k)).imp fun _ e => ⟨e.1, e.2.below hb⟩, fun k => (h.a4 (by rwa [hn 4 (by decide)] at k)).imp fun _ e => ⟨e.1, e.2.1, Nat.lt_of_lt_of_le e.2.2.1 hb.size, fun _ => blk_below (e.2.2.2.1 n6) hb, fun k => absurd k (by rw [m6]; decide)⟩, fun _ => ⟨w.heap.size, rfl, h.be.size, by simp, fun _ => blk_new w (Obj.cells #[.int .i64 0, .slice none 0 0, .slice none 0 0, .slice none 0 0, .slice none 0 0] 26 (0, 0)), fun k => absurd k (by rw [m7]; decide)⟩, fun k k' e => by
    obtain ⟨g, e', _, hl, _⟩ := h.a4 (by rwa [hn 4 (by decide)] at k)
    rw [e'] at e
    injection e with e
    injection e with e
    injection e with e
    omega⟩
theorem I6.s6 {wz w : World} {t s : Sh} {l : Array Bool} {x46 x8 : Value} {g : Nat} {V : SV} (h : I6 wz t s l w (.agg (shv V t)) x46 (.pointer (some ⟨g, 0, none⟩)) x8) (hu : l.getD 6 true = false) (hp : ∀ j ∈ [1, 3, 4, 5], l.getD j false = true) (hz : w.heap[g]? = some (.cells #[.int .i64 0, .slice none 0 0, .slice none 0 0, .slice none 0 0, .slice none 0 0] 26 (0, 0))) (hg : wz.heap.size ≤ g) (hl : g < w.heap.size) :
    I6 wz t s (l.setIfInBounds 6 true) (((((w.setCell ⟨g, 0, none⟩ (.int .i64 t.rt)).setCell ⟨g, 1, none⟩ (.slice V.A1 t.wd.length V.c1)).setCell ⟨g, 2, none⟩ (.slice V.A2 t.ht.length V.c2)).setCell ⟨g, 3, none⟩ (.slice V.A3 t.ce.length V.c3)).setCell ⟨g, 4, none⟩ (.slice V.A4 t.me.length V.c4)) (.agg (shv V t)) x46 (.pointer (some ⟨g, 0, none⟩)) x8 := by
  have hn : ∀ j, 6 ≠ j → (l.setIfInBounds 6 true).getD j false = l.getD j false := fun j hj => getD_set_ne false hj
  have hs : 6 < l.size := by rw [h.sz]; decide
  have hi : (l.setIfInBounds 6 true).getD 6 false = true := by rw [Array.getD_eq_getD_getElem?, Array.getElem?_setIfInBounds_self_of_lt hs]; rfl
  have hd : ∀ j ∈ [1, 3, 4, 5], (l.setIfInBounds 6 true).getD j false = true := fun j hj => getD_set_true (hp j hj)
  obtain ⟨g', e', hg', hl', hz', hy'⟩ := h.a5 (hp 5 (by simp))
  have hne := h.ne (hp 4 (by simp)) (hp 5 (by simp))
  have hgg : g' ≠ g := by intro e; rw [e', e] at hne; exact hne rfl
  have hput : (((((w.setCell ⟨g, 0, none⟩ (.int .i64 t.rt)).setCell ⟨g, 1, none⟩ (.slice V.A1 t.wd.length V.c1)).setCell ⟨g, 2, none⟩ (.slice V.A2 t.ht.length V.c2)).setCell ⟨g, 3, none⟩ (.slice V.A3 t.ce.length V.c3)).setCell ⟨g, 4, none⟩ (.slice V.A4 t.me.length V.c4)).heap[g]? = some (.cells #[.int .i64 t.rt, .slice V.A1 t.wd.length V.c1, .slice V.A2 t.ht.length V.c2, .slice V.A3 t.ce.length V.c3, .slice V.A4 t.me.length V.c4] 26 (0, 0)) := put5 hz
  have hput2 : (((((w.setCell ⟨g, 0, none⟩ (.int .i64 t.rt)).setCell ⟨g, 1, none⟩ (.slice V.A1 t.wd.length V.c1)).setCell ⟨g, 2, none⟩ (.slice V.A2 t.ht.length V.c2)).setCell ⟨g, 3, none⟩ (.slice V.A3 t.ce.length V.c3)).setCell ⟨g, 4, none⟩ (.slice V.A4 t.me.length V.c4)).heap[g]? = some (.cells (shv V t) 26 (0, 0)) := hput
  have hsame : ∀ V' : SV, shv V t = shv V' t → (((((w.setCell ⟨g, 0, none⟩ (.int .i64 t.rt)).setCell ⟨g, 1, none⟩ (.slice V.A1 t.wd.length V.c1)).setCell ⟨g, 2, none⟩ (.slice V.A2 t.ht.length V.c2)).setCell ⟨g, 3, none⟩ (.slice V.A3 t.ce.length V.c3)).setCell ⟨g, 4, none⟩ (.slice V.A4 t.me.length V.c4)).heap[g]? = some (.cells (shv V' t) 26 (0, 0)) := fun V' e => (congrArg (fun a => some (Obj.cells a 26 (0, 0))) e) ▸ hput2
  have hfar : ∀ o : Obj, w.heap[g']? = some o → (((((w.setCell ⟨g, 0, none⟩ (.int .i64 t.rt)).setCell ⟨g, 1, none⟩ (.slice V.A1 t.wd.length V.c1)).setCell ⟨g, 2, none⟩ (.slice V.A2 t.ht.length V.c2)).setCell ⟨g, 3, none⟩ (.slice V.A3 t.ce.length V.c3)).setCell ⟨g, 4, none⟩ (.slice V.A4 t.me.length V.c4)).heap[g']? = some o := fun o ho => by
    rw [Below.heap_setCell _ _ _ _ hgg, Below.heap_setCell _ _ _ _ hgg, Below.heap_setCell _ _ _ _ hgg, Below.heap_setCell _ _ _ _ hgg, Below.heap_setCell _ _ _ _ hgg]; exact ho
  exact ⟨by rw [Array.size_setIfInBounds]; exact h.sz, getD_set_true h.p0, getD_set_true h.p2, below_set (below_set (below_set (below_set (below_set h.be hg) hg) hg) hg) hg, fun _ j hj => hd j hj, fun k j hj => (by have := h.al7 (by rwa [hn 7 (by decide)] at k) 6 (by simp); rw [gdf hu] at this; cases this), fun _ => (h.c1 (hp 1 (by simp))).imp fun _ e => ⟨e.1, e.2.set5 hz⟩, fun _ => (h.c3 (hp 3 (by simp))).imp fun _ e => ⟨e.1, e.2.set5 hz⟩, fun _ => ⟨g, rfl, hg, by simpa using hl, fun k => absurd k (by rw [hi]; decide), fun _ V' e => hsame V' (Value.agg.inj e)⟩, fun _ => ⟨g', e', hg', by simpa using hl', fun k => hfar _ (hz' (by rwa [hn 7 (by decide)] at k)), fun k V' e => hfar _ (hy' (by rwa [hn 7 (by decide)] at k) V' e)⟩, fun _ _ => hne⟩
theorem I6.s7 {wz w : World} {t s : Sh} {l : Array Bool} {x44 x7 : Value} {g : Nat} {V : SV} (h : I6 wz t s l w x44 (.agg (shv V s)) x7 (.pointer (some ⟨g, 0, none⟩))) (hu : l.getD 7 true = false) (hp : ∀ j ∈ [1, 3, 4, 5, 6], l.getD j false = true) (hz : w.heap[g]? = some (.cells #[.int .i64 0, .slice none 0 0, .slice none 0 0, .slice none 0 0, .slice none 0 0] 26 (0, 0))) (hg : wz.heap.size ≤ g) (hl : g < w.heap.size) :
    I6 wz t s (l.setIfInBounds 7 true) (((((w.setCell ⟨g, 0, none⟩ (.int .i64 s.rt)).setCell ⟨g, 1, none⟩ (.slice V.A1 s.wd.length V.c1)).setCell ⟨g, 2, none⟩ (.slice V.A2 s.ht.length V.c2)).setCell ⟨g, 3, none⟩ (.slice V.A3 s.ce.length V.c3)).setCell ⟨g, 4, none⟩ (.slice V.A4 s.me.length V.c4)) x44 (.agg (shv V s)) x7 (.pointer (some ⟨g, 0, none⟩)) := by
  have hn : ∀ j, 7 ≠ j → (l.setIfInBounds 7 true).getD j false = l.getD j false := fun j hj => getD_set_ne false hj
  have hs : 7 < l.size := by rw [h.sz]; decide
  have hi : (l.setIfInBounds 7 true).getD 7 false = true := by rw [Array.getD_eq_getD_getElem?, Array.getElem?_setIfInBounds_self_of_lt hs]; rfl
  have hd : ∀ j ∈ [1, 3, 4, 5, 6], (l.setIfInBounds 7 true).getD j false = true := fun j hj => getD_set_true (hp j hj)
  obtain ⟨g', e', hg', hl', hz', hy'⟩ := h.a4 (hp 4 (by simp))
  have hne := h.ne (hp 4 (by simp)) (hp 5 (by simp))
  have hgg : g' ≠ g := by intro e; rw [e', e] at hne; exact hne rfl
  have hput : (((((w.setCell ⟨g, 0, none⟩ (.int .i64 s.rt)).setCell ⟨g, 1, none⟩ (.slice V.A1 s.wd.length V.c1)).setCell ⟨g, 2, none⟩ (.slice V.A2 s.ht.length V.c2)).setCell ⟨g, 3, none⟩ (.slice V.A3 s.ce.length V.c3)).setCell ⟨g, 4, none⟩ (.slice V.A4 s.me.length V.c4)).heap[g]? = some (.cells #[.int .i64 s.rt, .slice V.A1 s.wd.length V.c1, .slice V.A2 s.ht.length V.c2, .slice V.A3 s.ce.length V.c3, .slice V.A4 s.me.length V.c4] 26 (0, 0)) := put5 hz
  have hput2 : (((((w.setCell ⟨g, 0, none⟩ (.int .i64 s.rt)).setCell ⟨g, 1, none⟩ (.slice V.A1 s.wd.length V.c1)).setCell ⟨g, 2, none⟩ (.slice V.A2 s.ht.length V.c2)).setCell ⟨g, 3, none⟩ (.slice V.A3 s.ce.length V.c3)).setCell ⟨g, 4, none⟩ (.slice V.A4 s.me.length V.c4)).heap[g]? = some (.cells (shv V s) 26 (0, 0)) := hput
  have hsame : ∀ V' : SV, shv V s = shv V' s → (((((w.setCell ⟨g, 0, none⟩ (.int .i64 s.rt)).setCell ⟨g, 1, none⟩ (.slice V.A1 s.wd.length V.c1)).setCell ⟨g, 2, none⟩ (.slice V.A2 s.ht.length V.c2)).setCell ⟨g, 3, none⟩ (.slice V.A3 s.ce.length V.c3)).setCell ⟨g, 4, none⟩ (.slice V.A4 s.me.length V.c4)).heap[g]? = some (.cells (shv V' s) 26 (0, 0)) := fun V' e => (congrArg (fun a => some (Obj.cells a 26 (0, 0))) e) ▸ hput2
  have hfar : ∀ o : Obj, w.heap[g']? = some o → (((((w.setCell ⟨g, 0, none⟩ (.int .i64 s.rt)).setCell ⟨g, 1, none⟩ (.slice V.A1 s.wd.length V.c1)).setCell ⟨g, 2, none⟩ (.slice V.A2 s.ht.length V.c2)).setCell ⟨g, 3, none⟩ (.slice V.A3 s.ce.length V.c3)).setCell ⟨g, 4, none⟩ (.slice V.A4 s.me.length V.c4)).heap[g']? = some o := fun o ho => by
    rw [Below.heap_setCell _ _ _ _ hgg, Below.heap_setCell _ _ _ _ hgg, Below.heap_setCell _ _ _ _ hgg, Below.heap_setCell _ _ _ _ hgg, Below.heap_setCell _ _ _ _ hgg]; exact ho
  exact ⟨by rw [Array.size_setIfInBounds]; exact h.sz, getD_set_true h.p0, getD_set_true h.p2, below_set (below_set (below_set (below_set (below_set h.be hg) hg) hg) hg) hg, fun _ j hj => hd j (by revert hj; simp; omega), fun _ j hj => hd j hj, fun _ => (h.c1 (hp 1 (by simp))).imp fun _ e => ⟨e.1, e.2.set5 hz⟩, fun _ => (h.c3 (hp 3 (by simp))).imp fun _ e => ⟨e.1, e.2.set5 hz⟩, fun _ => ⟨g', e', hg', by simpa using hl', fun k => hfar _ (hz' (by rwa [hn 6 (by decide)] at k)), fun k V' e => hfar _ (hy' (by rwa [hn 6 (by decide)] at k) V' e)⟩, fun _ => ⟨g, rfl, hg, by simpa using hl, fun k => absurd k (by rw [hi]; decide), fun _ V' e => hsame V' (Value.agg.inj e)⟩, fun _ _ => hne⟩
end Go.Proofs.YtcofacgdijjnoaaGreat
