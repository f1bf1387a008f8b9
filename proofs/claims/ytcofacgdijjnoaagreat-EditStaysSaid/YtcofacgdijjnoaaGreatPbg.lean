/- the reference's Own: walked: whatever order its appends come in. -/
import Derived.Test.YtcofacgdijjnoaaGreatPbf
import Derived.Deep.AppendSrc
namespace Go.Proofs.YtcofacgdijjnoaaGreat
open PE (S31 S44 S49 k44 k49 k31)
open Go.RowKit Go.Shelf Go.Lib Go.Proofs.YtcofacgdijjnoaaGreatW.PrintWords Go.Proofs.YtcofacgdijjnoaaGreatW.PrintLast Go.Proofs.YtcofacgdijjnoaaGreatW.PrintMore
set_option linter.unusedVariables false
set_option linter.unusedSimpArgs false
set_option maxHeartbeats 8000000
set_option maxRecDepth 100000
/-! ## a region in any order, by what holds throughout -/
section
variable {P : Program} {ops : Array Oper} {Q : Exit → Act → World → Prop} {md : Region.Mode} {S : World → Prop} {ds : List Nat}
theorem countP_lt {p q : Nat → Bool} : ∀ {L : List Nat}, (∀ x, q x = true → p x = true) → ∀ i ∈ L, p i = true → q i = false → L.countP q < L.countP p
  | [], _, i, hi, _, _ => by cases hi
  | x :: L, h, i, hi, hp, hq => by
    rw [List.countP_cons, List.countP_cons]
    have hm : L.countP q ≤ L.countP p := List.countP_mono_left (fun y _ hy => h y hy)
    rcases List.mem_cons.mp hi with rfl | hi
    · rw [hp, hq]; simp; omega
    · have := countP_lt h i hi hp hq
      cases hqx : q x with
      | true => rw [h x hqx]; simp; omega
      | false => cases p x <;> simp <;> omega
def und (ops : Array Oper) (l : Array Bool) : Nat := (List.range ops.size).countP fun j => !l.getD j true
theorem und_lt {l : Array Bool} {i : Nat} (hi : i ∈ Region.ready md ops l) : und ops (l.setIfInBounds i true) < und ops l := by
  obtain ⟨h0, o, ho, _⟩ := mem_ready.mp hi
  have hlt : i < ops.size := (Array.getElem?_eq_some_iff.1 ho).1
  refine countP_lt (fun x hx => ?_) i (List.mem_range.mpr hlt) (by rw [h0]; rfl) ?_
  · rcases Nat.decEq i x with h | h
    · rw [getD_set_ne true h] at hx; exact hx
    · subst h; rw [h0]; rfl
  · have hs : i < l.size := by
      rcases Nat.lt_or_ge i l.size with h | h
      · exact h
      · rw [Array.getD_eq_getD_getElem?, Array.getElem?_eq_none h] at h0; cases h0
    rw [Array.getD_eq_getD_getElem?, Array.getElem?_setIfInBounds_self_of_lt hs]; rfl
theorem anyI_ {Iv : Array Bool → Act → World → Prop} (hend : ∀ l a w, Iv l a w → Region.ready md ops l = [] → Q .normal a w)
    (hstep : ∀ l a w i, Iv l a w → i ∈ Region.ready md ops l → wpOp P ops Q i (fun a' w' => (i ∉ ds → S w → S w') ∧ Iv (l.setIfInBounds i true) a' w') a w) :
    ∀ (fuel : Nat) (l : Array Bool) (a : Act) (w : World), und ops l ≤ fuel → Iv l a w → wpAnyLast P md ops Q S ds fuel l a w
  | 0, l, a, w, hf, hI => by
    have hr : Region.ready md ops l = [] := by
      cases h : Region.ready md ops l with
      | nil => rfl
      | cons i t => have := und_lt (md := md) (ops := ops) (l := l) (i := i) (by rw [h]; exact List.mem_cons_self ..); omega
    exact ⟨hr, hend l a w hI hr⟩
  | fuel + 1, l, a, w, hf, hI => ⟨fun hr => hend l a w hI hr, fun i hi => wpOp_mono (fun a' w' h => ⟨h.1, anyI_ hend hstep fuel _ a' w' (by have := und_lt hi; omega) h.2⟩) (hstep l a w i hI hi)⟩
end
/-! ## a row appended to an empty one -/
theorem setCells_nil (w : World) (g off : Nat) : w.setCells g off [] = w := rfl
theorem app_empty {α : Type} {enc : α → List Value} {d : Kd α} {e k t : Nat} {i0 : TypeInfo} {z : Value} (hd : d.sz = k) (hk : ∀ x, (enc x).length = k) (h1 : ∀ x, ∀ u ∈ enc x, u.oneCell' = true) (hK : ∀ w x c, d.K w x c → c = enc x)
    (ht : Tryz.prog.underlying t = some (.slice e)) (hi0 : Tryz.prog.info? e = some i0) (hz0 : i0.zero = some z) (hz1 : i0.size = k) (hzc : z.cells.size = k) (hk0 : 0 < k) (by8 : i0.bytes ≤ 64)
    {w : World} {b g c : Nat} {A : Option Addr} {l : List α} (hv : Ow enc e k w b (.slice (some ⟨g, 0, none⟩) 0 0) ([] : List α)) (hC : d.C w A l.length l) (hl : l.length ≤ 1000) (hb : b ≤ w.heap.size) :
    ∃ v' w', (∀ ty, (Builtin.append_ #[t, t] ty #[.slice (some ⟨g, 0, none⟩) 0 0, .slice A l.length c]).run Tryz.prog w = .ok v' w') ∧ Ow enc e k w' b v' l ∧ Below w.heap.size w w' := by
  have hlen := flt_len hk l
  have h1' : ∀ u ∈ flt enc l, u.oneCell' = true := flt_one h1 l
  cases A with
  | none =>
    have h0 : l = [] := by
      rcases Nat.eq_zero_or_pos l.length with h0 | h0
      · exact List.eq_nil_of_length_eq_zero h0
      · obtain ⟨ad, e, _⟩ := hC.2.2 h0
        cases e
    subst h0
    refine ⟨_, w, fun ty => ?_, hv, Below.refl _ _⟩
    have := run_append_room_src w t t ty e i0 ht hi0 g 0 0 0 (.slice none 0 c) 0 [] (Src.ofNil w ht c) (Nat.le_refl _) (fun j hj => by cases hj) (fun j hj => by cases hj)
    rw [setCells_nil] at this
    exact this
  | some ad =>
    have hsrc : Src Tryz.prog i0.size t (.slice (some ad) l.length c) l.length (flt enc l) w := Src.ofSlice w ht ad l.length c (flt enc l) (by rw [hz1]; exact hlen) (C_src hd hk hK hC) h1'
    rcases Nat.eq_zero_or_pos l.length with h0 | h0
    · have h0' : l = [] := List.eq_nil_of_length_eq_zero h0
      subst h0'
      refine ⟨_, w, fun ty => ?_, hv, Below.refl _ _⟩
      have := run_append_room_src w t t ty e i0 ht hi0 g 0 0 0 _ _ _ hsrc (Nat.le_refl _) (fun j hj => by cases hj) (fun j hj => by cases hj)
      exact this
    · obtain ⟨i1, hi1⟩ : ∃ i1, i1 = i0.bytes := ⟨_, rfl⟩
      obtain ⟨v', w', hr, hO, _, _, _⟩ := run_append_own_at (P := Tryz.prog) w b t t e i0 z k i0.bytes ht hi0 hz0 hz1 rfl hzc hk0 _ _ _ hv ad l.length c (flt enc l) hlen (C_src hd hk hK hC) h1' (by
        have : (1000 : Nat) ≤ maxLen := by decide
        show 0 + l.length ≤ maxLen
        omega) (by
        show (0 + l.length) * i0.bytes ≤ _
        have := Nat.mul_le_mul (show 0 + l.length ≤ 1000 by omega) by8
        omega) hb
      have hg := fun ty => run_append_grow_src (P := Tryz.prog) w t t ty e i0 z ht hi0 hz0 (some ⟨g, 0, none⟩) 0 0 [] (run_firstCells_some w.drew i0.size 0 ⟨g, 0, none⟩ 0 0 [] (by simp) (fun j u hj => by cases hj)) _ _ _ hsrc (by omega) (by omega) (by
        have hn : Builtin.nextslicecap (0 + l.length) 0 = l.length := by
          unfold Builtin.nextslicecap
          simp
          intro h; rw [h]; rfl
        rw [hn]
        have := Nat.mul_le_mul hl by8
        omega)
      have he := (hg t).symm.trans hr
      injection he with e1 e2
      subst e1 e2
      refine ⟨_, _, hg, ?_, below_alloc (below_drew (Below.refl _ _)) _⟩
      have := hO
      rw [Nat.zero_add] at this
      show World.ownsRow _ _ _ _ _ _ _
      simpa [show flt enc ([] : List α) = [] from rfl] using this
theorem gdf {l : Array Bool} {i : Nat} (h : l.getD i true = false) : l.getD i false = false := by
  rw [Array.getD_eq_getD_getElem?] at h ⊢
  cases e : l[i]? with
  | none => rw [e] at h; cases h
  | some b => rw [e] at h; exact h
theorem gdt {l : Array Bool} {i : Nat} (hs : i < l.size) (h : ¬ l.getD i true = false) : l.getD i false = true := by
  rw [Array.getD_eq_getD_getElem?] at h ⊢
  rw [Array.getElem?_eq_getElem hs] at h ⊢
  simpa using h
/-- what holds throughout Own's region -/
structure I12 (wo : World) (b2 B : Nat) (w0 : World) (rt : Int) (wd ht : List Int) (ce : List S44) (me : List S49) (l : Array Bool) (w : World) (x5 x8 x9 x12 x13 x16 x17 x20 x21 : Value) : Prop where
  sz : l.size = 20
  pre : ∀ i ∈ [0, 1, 3, 4, 7, 8, 11, 12, 15, 16], l.getD i false = true
  le : B ≤ w.heap.size
  nb : wo.heap.size ≤ b2
  lb : b2 < B
  be0 : Below wo.heap.size wo w
  be : l.getD 19 false = false → Below B w0 w
  all : l.getD 19 false = true → ∀ i, i < 19 → l.getD i false = true
  al8 : l.getD 18 false = true → ∀ i ∈ [5, 9, 13, 17], l.getD i false = true
  ex5 : l.getD 2 false = true → ∃ g, x5 = .slice (some ⟨g, 0, none⟩) 0 0 ∧ OwI w B x5 ([] : List Int)
  ex8 : l.getD 5 false = true → OwI w B x8 wd
  ex9 : l.getD 6 false = true → ∃ g, x9 = .slice (some ⟨g, 0, none⟩) 0 0 ∧ OwI w B x9 ([] : List Int)
  ex12 : l.getD 9 false = true → OwI w B x12 ht
  ex13 : l.getD 10 false = true → ∃ g, x13 = .slice (some ⟨g, 0, none⟩) 0 0 ∧ OwC w B x13 ([] : List S44)
  ex16 : l.getD 13 false = true → OwC w B x16 ce
  ex17 : l.getD 14 false = true → ∃ g, x17 = .slice (some ⟨g, 0, none⟩) 0 0 ∧ OwR w B x17 ([] : List S49)
  ex20 : l.getD 17 false = true → OwR w B x20 me
  e21 : l.getD 18 false = true → x21 = .agg #[.int .i64 rt, x8, x12, x16, x20]
  z0 : l.getD 19 false = false → w.heap[b2]? = some (.cells #[.int .i64 0, .slice none 0 0, .slice none 0 0, .slice none 0 0, .slice none 0 0] 26 (0, 0))
  z1 : l.getD 19 false = true → w.heap[b2]? = some (.cells #[.int .i64 rt, x8, x12, x16, x20] 26 (0, 0))
theorem I12.mono {b2 B : Nat} {wo w0 w : World} {rt : Int} {wd ht : List Int} {ce : List S44} {me : List S49} {l : Array Bool} {x5 x8 x9 x12 x13 x16 x17 x20 x21 : Value} {w' : World} (h : I12 wo b2 B w0 rt wd ht ce me l w x5 x8 x9 x12 x13 x16 x17 x20 x21) (hn : l.getD 19 false = false) (hb : Below w.heap.size w w') : I12 wo b2 B w0 rt wd ht ce me l w' x5 x8 x9 x12 x13 x16 x17 x20 x21 :=
  ⟨h.sz, h.pre, Nat.le_trans h.le hb.size, h.nb, h.lb, below_trans h.be0 (below_mono hb (Nat.le_trans (Nat.le_trans h.nb (Nat.le_of_lt h.lb)) h.le)), fun k => below_trans (h.be k) (below_mono hb h.le), h.all, h.al8,
   fun k => (h.ex5 k).imp fun _ e => ⟨e.1, Ow.below e.2 hb⟩, fun k => Ow.below (h.ex8 k) hb, fun k => (h.ex9 k).imp fun _ e => ⟨e.1, Ow.below e.2 hb⟩, fun k => Ow.below (h.ex12 k) hb, fun k => (h.ex13 k).imp fun _ e => ⟨e.1, Ow.below e.2 hb⟩, fun k => Ow.below (h.ex16 k) hb, fun k => (h.ex17 k).imp fun _ e => ⟨e.1, Ow.below e.2 hb⟩, fun k => Ow.below (h.ex20 k) hb,
   h.e21, fun k => blk_below (h.z0 k) hb, fun k => absurd k (by rw [hn]; decide)⟩
theorem I12.set2 {b2 B : Nat} {wo w0 w : World} {rt : Int} {wd ht : List Int} {ce : List S44} {me : List S49} {l : Array Bool} {x5 x8 x9 x12 x13 x16 x17 x20 x21 : Value} {v : Value} (h : I12 wo b2 B w0 rt wd ht ce me l w x5 x8 x9 x12 x13 x16 x17 x20 x21) (hu : l.getD 2 true = false) (hx : ∃ g, v = .slice (some ⟨g, 0, none⟩) 0 0 ∧ OwI w B v ([] : List Int)) : I12 wo b2 B w0 rt wd ht ce me (l.setIfInBounds 2 true) w v x8 x9 x12 x13 x16 x17 x20 x21 := by
  have hn : ∀ j, 2 ≠ j → (l.setIfInBounds 2 true).getD j false = l.getD j false := fun j hj => getD_set_ne false hj
  have hf := gdf hu
  have h19 : l.getD 19 false = false := by
    cases e : l.getD 19 false with
    | false => rfl
    | true => rw [h.all e 2 (by decide)] at hf; cases hf
  exact ⟨by rw [Array.size_setIfInBounds]; exact h.sz, fun j hj => getD_set_true (h.pre j hj), h.le, h.nb, h.lb, h.be0, fun k => h.be (by rwa [hn 19 (by decide)] at k), fun k => absurd k (by rw [hn 19 (by decide), h19]; decide), fun k j hj => getD_set_true (h.al8 (by rwa [hn 18 (by decide)] at k) j hj), fun _ => hx, fun k => h.ex8 (by rwa [hn 5 (by decide)] at k), fun k => h.ex9 (by rwa [hn 6 (by decide)] at k), fun k => h.ex12 (by rwa [hn 9 (by decide)] at k), fun k => h.ex13 (by rwa [hn 10 (by decide)] at k), fun k => h.ex16 (by rwa [hn 13 (by decide)] at k), fun k => h.ex17 (by rwa [hn 14 (by decide)] at k), fun k => h.ex20 (by rwa [hn 17 (by decide)] at k), fun k => h.e21 (by rwa [hn 18 (by decide)] at k), fun k => h.z0 (by rwa [hn 19 (by decide)] at k), fun k => absurd k (by rw [hn 19 (by decide), h19]; decide)⟩
theorem I12.set5 {b2 B : Nat} {wo w0 w : World} {rt : Int} {wd ht : List Int} {ce : List S44} {me : List S49} {l : Array Bool} {x5 x8 x9 x12 x13 x16 x17 x20 x21 : Value} {v : Value} (h : I12 wo b2 B w0 rt wd ht ce me l w x5 x8 x9 x12 x13 x16 x17 x20 x21) (hu : l.getD 5 true = false) (hx : OwI w B v wd) : I12 wo b2 B w0 rt wd ht ce me (l.setIfInBounds 5 true) w x5 v x9 x12 x13 x16 x17 x20 x21 := by
  have hn : ∀ j, 5 ≠ j → (l.setIfInBounds 5 true).getD j false = l.getD j false := fun j hj => getD_set_ne false hj
  have hf := gdf hu
  have h19 : l.getD 19 false = false := by
    cases e : l.getD 19 false with
    | false => rfl
    | true => rw [h.all e 5 (by decide)] at hf; cases hf
  have h18 : l.getD 18 false = false := by
    cases e : l.getD 18 false with
    | false => rfl
    | true => rw [h.al8 e 5 (by decide)] at hf; cases hf
  exact ⟨by rw [Array.size_setIfInBounds]; exact h.sz, fun j hj => getD_set_true (h.pre j hj), h.le, h.nb, h.lb, h.be0, fun k => h.be (by rwa [hn 19 (by decide)] at k), fun k => absurd k (by rw [hn 19 (by decide), h19]; decide), fun k => absurd k (by rw [hn 18 (by decide), h18]; decide), fun k => h.ex5 (by rwa [hn 2 (by decide)] at k), fun _ => hx, fun k => h.ex9 (by rwa [hn 6 (by decide)] at k), fun k => h.ex12 (by rwa [hn 9 (by decide)] at k), fun k => h.ex13 (by rwa [hn 10 (by decide)] at k), fun k => h.ex16 (by rwa [hn 13 (by decide)] at k), fun k => h.ex17 (by rwa [hn 14 (by decide)] at k), fun k => h.ex20 (by rwa [hn 17 (by decide)] at k), fun k => absurd k (by rw [hn 18 (by decide), h18]; decide), fun k => h.z0 (by rwa [hn 19 (by decide)] at k), fun k => absurd k (by rw [hn 19 (by decide), h19]; decide)⟩
theorem I12.set6 {b2 B : Nat} {wo w0 w : World} {rt : Int} {wd ht : List Int} {ce : List S44} {me : List S49} {l : Array Bool} {x5 x8 x9 x12 x13 x16 x17 x20 x21 : Value} {v : Value} (h : I12 wo b2 B w0 rt wd ht ce me l w x5 x8 x9 x12 x13 x16 x17 x20 x21) (hu : l.getD 6 true = false) (hx : ∃ g, v = .slice (some ⟨g, 0, none⟩) 0 0 ∧ OwI w B v ([] : List Int)) : I12 wo b2 B w0 rt wd ht ce me (l.setIfInBounds 6 true) w x5 x8 v x12 x13 x16 x17 x20 x21 := by
  have hn : ∀ j, 6 ≠ j → (l.setIfInBounds 6 true).getD j false = l.getD j false := fun j hj => getD_set_ne false hj
  have hf := gdf hu
  have h19 : l.getD 19 false = false := by
    cases e : l.getD 19 false with
    | false => rfl
    | true => rw [h.all e 6 (by decide)] at hf; cases hf
  exact ⟨by rw [Array.size_setIfInBounds]; exact h.sz, fun j hj => getD_set_true (h.pre j hj), h.le, h.nb, h.lb, h.be0, fun k => h.be (by rwa [hn 19 (by decide)] at k), fun k => absurd k (by rw [hn 19 (by decide), h19]; decide), fun k j hj => getD_set_true (h.al8 (by rwa [hn 18 (by decide)] at k) j hj), fun k => h.ex5 (by rwa [hn 2 (by decide)] at k), fun k => h.ex8 (by rwa [hn 5 (by decide)] at k), fun _ => hx, fun k => h.ex12 (by rwa [hn 9 (by decide)] at k), fun k => h.ex13 (by rwa [hn 10 (by decide)] at k), fun k => h.ex16 (by rwa [hn 13 (by decide)] at k), fun k => h.ex17 (by rwa [hn 14 (by decide)] at k), fun k => h.ex20 (by rwa [hn 17 (by decide)] at k), fun k => h.e21 (by rwa [hn 18 (by decide)] at k), fun k => h.z0 (by rwa [hn 19 (by decide)] at k), fun k => absurd k (by rw [hn 19 (by decide), h19]; decide)⟩
theorem I12.set9 {b2 B : Nat} {wo w0 w : World} {rt : Int} {wd ht : List Int} {ce : List S44} {me : List S49} {l : Array Bool} {x5 x8 x9 x12 x13 x16 x17 x20 x21 : Value} {v : Value} (h : I12 wo b2 B w0 rt wd ht ce me l w x5 x8 x9 x12 x13 x16 x17 x20 x21) (hu : l.getD 9 true = false) (hx : OwI w B v ht) : I12 wo b2 B w0 rt wd ht ce me (l.setIfInBounds 9 true) w x5 x8 x9 v x13 x16 x17 x20 x21 := by
  have hn : ∀ j, 9 ≠ j → (l.setIfInBounds 9 true).getD j false = l.getD j false := fun j hj => getD_set_ne false hj
  have hf := gdf hu
  have h19 : l.getD 19 false = false := by
    cases e : l.getD 19 false with
    | false => rfl
    | true => rw [h.all e 9 (by decide)] at hf; cases hf
  have h18 : l.getD 18 false = false := by
    cases e : l.getD 18 false with
    | false => rfl
    | true => rw [h.al8 e 9 (by decide)] at hf; cases hf
  exact ⟨by rw [Array.size_setIfInBounds]; exact h.sz, fun j hj => getD_set_true (h.pre j hj), h.le, h.nb, h.lb, h.be0, fun k => h.be (by rwa [hn 19 (by decide)] at k), fun k => absurd k (by rw [hn 19 (by decide), h19]; decide), fun k => absurd k (by rw [hn 18 (by decide), h18]; decide), fun k => h.ex5 (by rwa [hn 2 (by decide)] at k), fun k => h.ex8 (by rwa [hn 5 (by decide)] at k), fun k => h.ex9 (by rwa [hn 6 (by decide)] at k), fun _ => hx, fun k => h.ex13 (by rwa [hn 10 (by decide)] at k), fun k => h.ex16 (by rwa [hn 13 (by decide)] at k), fun k => h.ex17 (by rwa [hn 14 (by decide)] at k), fun k => h.ex20 (by rwa [hn 17 (by decide)] at k), fun k => absurd k (by rw [hn 18 (by decide), h18]; decide), fun k => h.z0 (by rwa [hn 19 (by decide)] at k), fun k => absurd k (by rw [hn 19 (by decide), h19]; decide)⟩
theorem I12.set10 {b2 B : Nat} {wo w0 w : World} {rt : Int} {wd ht : List Int} {ce : List S44} {me : List S49} {l : Array Bool} {x5 x8 x9 x12 x13 x16 x17 x20 x21 : Value} {v : Value} (h : I12 wo b2 B w0 rt wd ht ce me l w x5 x8 x9 x12 x13 x16 x17 x20 x21) (hu : l.getD 10 true = false) (hx : ∃ g, v = .slice (some ⟨g, 0, none⟩) 0 0 ∧ OwC w B v ([] : List S44)) : I12 wo b2 B w0 rt wd ht ce me (l.setIfInBounds 10 true) w x5 x8 x9 x12 v x16 x17 x20 x21 := by
  have hn : ∀ j, 10 ≠ j → (l.setIfInBounds 10 true).getD j false = l.getD j false := fun j hj => getD_set_ne false hj
  have hf := gdf hu
  have h19 : l.getD 19 false = false := by
    cases e : l.getD 19 false with
    | false => rfl
    | true => rw [h.all e 10 (by decide)] at hf; cases hf
  exact ⟨by rw [Array.size_setIfInBounds]; exact h.sz, fun j hj => getD_set_true (h.pre j hj), h.le, h.nb, h.lb, h.be0, fun k => h.be (by rwa [hn 19 (by decide)] at k), fun k => absurd k (by rw [hn 19 (by decide), h19]; decide), fun k j hj => getD_set_true (h.al8 (by rwa [hn 18 (by decide)] at k) j hj), fun k => h.ex5 (by rwa [hn 2 (by decide)] at k), fun k => h.ex8 (by rwa [hn 5 (by decide)] at k), fun k => h.ex9 (by rwa [hn 6 (by decide)] at k), fun k => h.ex12 (by rwa [hn 9 (by decide)] at k), fun _ => hx, fun k => h.ex16 (by rwa [hn 13 (by decide)] at k), fun k => h.ex17 (by rwa [hn 14 (by decide)] at k), fun k => h.ex20 (by rwa [hn 17 (by decide)] at k), fun k => h.e21 (by rwa [hn 18 (by decide)] at k), fun k => h.z0 (by rwa [hn 19 (by decide)] at k), fun k => absurd k (by rw [hn 19 (by decide), h19]; decide)⟩
theorem I12.set13 {b2 B : Nat} {wo w0 w : World} {rt : Int} {wd ht : List Int} {ce : List S44} {me : List S49} {l : Array Bool} {x5 x8 x9 x12 x13 x16 x17 x20 x21 : Value} {v : Value} (h : I12 wo b2 B w0 rt wd ht ce me l w x5 x8 x9 x12 x13 x16 x17 x20 x21) (hu : l.getD 13 true = false) (hx : OwC w B v ce) : I12 wo b2 B w0 rt wd ht ce me (l.setIfInBounds 13 true) w x5 x8 x9 x12 x13 v x17 x20 x21 := by
  have hn : ∀ j, 13 ≠ j → (l.setIfInBounds 13 true).getD j false = l.getD j false := fun j hj => getD_set_ne false hj
  have hf := gdf hu
  have h19 : l.getD 19 false = false := by
    cases e : l.getD 19 false with
    | false => rfl
    | true => rw [h.all e 13 (by decide)] at hf; cases hf
  have h18 : l.getD 18 false = false := by
    cases e : l.getD 18 false with
    | false => rfl
    | true => rw [h.al8 e 13 (by decide)] at hf; cases hf
  exact ⟨by rw [Array.size_setIfInBounds]; exact h.sz, fun j hj => getD_set_true (h.pre j hj), h.le, h.nb, h.lb, h.be0, fun k => h.be (by rwa [hn 19 (by decide)] at k), fun k => absurd k (by rw [hn 19 (by decide), h19]; decide), fun k => absurd k (by rw [hn 18 (by decide), h18]; decide), fun k => h.ex5 (by rwa [hn 2 (by decide)] at k), fun k => h.ex8 (by rwa [hn 5 (by decide)] at k), fun k => h.ex9 (by rwa [hn 6 (by decide)] at k), fun k => h.ex12 (by rwa [hn 9 (by decide)] at k), fun k => h.ex13 (by rwa [hn 10 (by decide)] at k), fun _ => hx, fun k => h.ex17 (by rwa [hn 14 (by decide)] at k), fun k => h.ex20 (by rwa [hn 17 (by decide)] at k), fun k => absurd k (by rw [hn 18 (by decide), h18]; decide), fun k => h.z0 (by rwa [hn 19 (by decide)] at k), fun k => absurd k (by rw [hn 19 (by decide), h19]; decide)⟩
theorem I12.set14 {b2 B : Nat} {wo w0 w : World} {rt : Int} {wd ht : List Int} {ce : List S44} {me : List S49} {l : Array Bool} {x5 x8 x9 x12 x13 x16 x17 x20 x21 : Value} {v : Value} (h : I12 wo b2 B w0 rt wd ht ce me l w x5 x8 x9 x12 x13 x16 x17 x20 x21) (hu : l.getD 14 true = false) (hx : ∃ g, v = .slice (some ⟨g, 0, none⟩) 0 0 ∧ OwR w B v ([] : List S49)) : I12 wo b2 B w0 rt wd ht ce me (l.setIfInBounds 14 true) w x5 x8 x9 x12 x13 x16 v x20 x21 := by
  have hn : ∀ j, 14 ≠ j → (l.setIfInBounds 14 true).getD j false = l.getD j false := fun j hj => getD_set_ne false hj
  have hf := gdf hu
  have h19 : l.getD 19 false = false := by
    cases e : l.getD 19 false with
    | false => rfl
    | true => rw [h.all e 14 (by decide)] at hf; cases hf
  exact ⟨by rw [Array.size_setIfInBounds]; exact h.sz, fun j hj => getD_set_true (h.pre j hj), h.le, h.nb, h.lb, h.be0, fun k => h.be (by rwa [hn 19 (by decide)] at k), fun k => absurd k (by rw [hn 19 (by decide), h19]; decide), fun k j hj => getD_set_true (h.al8 (by rwa [hn 18 (by decide)] at k) j hj), fun k => h.ex5 (by rwa [hn 2 (by decide)] at k), fun k => h.ex8 (by rwa [hn 5 (by decide)] at k), fun k => h.ex9 (by rwa [hn 6 (by decide)] at k), fun k => h.ex12 (by rwa [hn 9 (by decide)] at k), fun k => h.ex13 (by rwa [hn 10 (by decide)] at k), fun k => h.ex16 (by rwa [hn 13 (by decide)] at k), fun _ => hx, fun k => h.ex20 (by rwa [hn 17 (by decide)] at k), fun k => h.e21 (by rwa [hn 18 (by decide)] at k), fun k => h.z0 (by rwa [hn 19 (by decide)] at k), fun k => absurd k (by rw [hn 19 (by decide), h19]; decide)⟩
theorem I12.set17 {b2 B : Nat} {wo w0 w : World} {rt : Int} {wd ht : List Int} {ce : List S44} {me : List S49} {l : Array Bool} {x5 x8 x9 x12 x13 x16 x17 x20 x21 : Value} {v : Value} (h : I12 wo b2 B w0 rt wd ht ce me l w x5 x8 x9 x12 x13 x16 x17 x20 x21) (hu : l.getD 17 true = false) (hx : OwR w B v me) : I12 wo b2 B w0 rt wd ht ce me (l.setIfInBounds 17 true) w x5 x8 x9 x12 x13 x16 x17 v x21 := by
  have hn : ∀ j, 17 ≠ j → (l.setIfInBounds 17 true).getD j false = l.getD j false := fun j hj => getD_set_ne false hj
  have hf := gdf hu
  have h19 : l.getD 19 false = false := by
    cases e : l.getD 19 false with
    | false => rfl
    | true => rw [h.all e 17 (by decide)] at hf; cases hf
  have h18 : l.getD 18 false = false := by
    cases e : l.getD 18 false with
    | false => rfl
    | true => rw [h.al8 e 17 (by decide)] at hf; cases hf
  exact ⟨by rw [Array.size_setIfInBounds]; exact h.sz, fun j hj => getD_set_true (h.pre j hj), h.le, h.nb, h.lb, h.be0, fun k => h.be (by rwa [hn 19 (by decide)] at k), fun k => absurd k (by rw [hn 19 (by decide), h19]; decide), fun k => absurd k (by rw [hn 18 (by decide), h18]; decide), fun k => h.ex5 (by rwa [hn 2 (by decide)] at k), fun k => h.ex8 (by rwa [hn 5 (by decide)] at k), fun k => h.ex9 (by rwa [hn 6 (by decide)] at k), fun k => h.ex12 (by rwa [hn 9 (by decide)] at k), fun k => h.ex13 (by rwa [hn 10 (by decide)] at k), fun k => h.ex16 (by rwa [hn 13 (by decide)] at k), fun k => h.ex17 (by rwa [hn 14 (by decide)] at k), fun _ => hx, fun k => absurd k (by rw [hn 18 (by decide), h18]; decide), fun k => h.z0 (by rwa [hn 19 (by decide)] at k), fun k => absurd k (by rw [hn 19 (by decide), h19]; decide)⟩
theorem I12.set18 {b2 B : Nat} {wo w0 w : World} {rt : Int} {wd ht : List Int} {ce : List S44} {me : List S49} {l : Array Bool} {x5 x8 x9 x12 x13 x16 x17 x20 x21 : Value} {v : Value} (h : I12 wo b2 B w0 rt wd ht ce me l w x5 x8 x9 x12 x13 x16 x17 x20 x21) (hu : l.getD 18 true = false) (hp : ∀ j ∈ [5, 9, 13, 17], (l.setIfInBounds 18 true).getD j false = true) (hx : v = .agg #[.int .i64 rt, x8, x12, x16, x20]) : I12 wo b2 B w0 rt wd ht ce me (l.setIfInBounds 18 true) w x5 x8 x9 x12 x13 x16 x17 x20 v := by
  have hn : ∀ j, 18 ≠ j → (l.setIfInBounds 18 true).getD j false = l.getD j false := fun j hj => getD_set_ne false hj
  have hf := gdf hu
  have h19 : l.getD 19 false = false := by
    cases e : l.getD 19 false with
    | false => rfl
    | true => rw [h.all e 18 (by decide)] at hf; cases hf
  exact ⟨by rw [Array.size_setIfInBounds]; exact h.sz, fun j hj => getD_set_true (h.pre j hj), h.le, h.nb, h.lb, h.be0, fun k => h.be (by rwa [hn 19 (by decide)] at k), fun k => absurd k (by rw [hn 19 (by decide), h19]; decide), fun _ j hj => hp j hj, fun k => h.ex5 (by rwa [hn 2 (by decide)] at k), fun k => h.ex8 (by rwa [hn 5 (by decide)] at k), fun k => h.ex9 (by rwa [hn 6 (by decide)] at k), fun k => h.ex12 (by rwa [hn 9 (by decide)] at k), fun k => h.ex13 (by rwa [hn 10 (by decide)] at k), fun k => h.ex16 (by rwa [hn 13 (by decide)] at k), fun k => h.ex17 (by rwa [hn 14 (by decide)] at k), fun k => h.ex20 (by rwa [hn 17 (by decide)] at k), fun _ => hx, fun k => h.z0 (by rwa [hn 19 (by decide)] at k), fun k => absurd k (by rw [hn 19 (by decide), h19]; decide)⟩
theorem I12.put {b2 B : Nat} {wo w0 w : World} {rt : Int} {wd ht : List Int} {ce : List S44} {me : List S49} {l : Array Bool} {x5 x8 x9 x12 x13 x16 x17 x20 x21 : Value} (h : I12 wo b2 B w0 rt wd ht ce me l w x5 x8 x9 x12 x13 x16 x17 x20 x21) (hu : l.getD 19 true = false) (hp : ∀ j, j < 19 → l.getD j false = true) : I12 wo b2 B w0 rt wd ht ce me (l.setIfInBounds 19 true) (((((w.setCell ⟨b2, 0, none⟩ (.int .i64 rt)).setCell ⟨b2, 1, none⟩ x8).setCell ⟨b2, 2, none⟩ x12).setCell ⟨b2, 3, none⟩ x16).setCell ⟨b2, 4, none⟩ x20) x5 x8 x9 x12 x13 x16 x17 x20 x21 := by
  have hz := h.z0 (gdf hu)
  have hs : 19 < l.size := by rw [h.sz]; decide
  have h19 : (l.setIfInBounds 19 true).getD 19 false = true := by rw [Array.getD_eq_getD_getElem?, Array.getElem?_setIfInBounds_self_of_lt hs]; rfl
  exact ⟨by rw [Array.size_setIfInBounds]; exact h.sz, fun j hj => getD_set_true (h.pre j hj), by simpa using h.le, h.nb, h.lb, below_set (below_set (below_set (below_set (below_set h.be0 h.nb) h.nb) h.nb) h.nb) h.nb, fun k => absurd k (by rw [h19]; decide), fun _ j hj => getD_set_true (hp j hj), fun _ j hj => getD_set_true (h.al8 (hp 18 (by decide)) j hj), fun _ => (h.ex5 (hp 2 (by decide))).imp fun _ e => ⟨e.1, Ow.set5 e.2 hz (by decide)⟩, fun _ => Ow.set5 (h.ex8 (hp 5 (by decide))) hz (by decide), fun _ => (h.ex9 (hp 6 (by decide))).imp fun _ e => ⟨e.1, Ow.set5 e.2 hz (by decide)⟩, fun _ => Ow.set5 (h.ex12 (hp 9 (by decide))) hz (by decide), fun _ => (h.ex13 (hp 10 (by decide))).imp fun _ e => ⟨e.1, Ow.set5 e.2 hz (by decide)⟩, fun _ => Ow.set5 (h.ex16 (hp 13 (by decide))) hz (by decide), fun _ => (h.ex17 (hp 14 (by decide))).imp fun _ e => ⟨e.1, Ow.set5 e.2 hz (by decide)⟩, fun _ => Ow.set5 (h.ex20 (hp 17 (by decide))) hz (by decide), fun _ => h.e21 (hp 18 (by decide)), fun k => absurd k (by rw [h19]; decide), fun _ => put5 hz⟩
/-- a sheet that is its own -/
structure OwS (w : World) (B : Nat) (V : SV) (s : Sh) : Prop where
  o1 : OwI w B (.slice V.A1 s.wd.length V.c1) s.wd
  o2 : OwI w B (.slice V.A2 s.ht.length V.c2) s.ht
  o3 : OwC w B (.slice V.A3 s.ce.length V.c3) s.ce
  o4 : OwR w B (.slice V.A4 s.me.length V.c4) s.me
theorem OwS.below {w W : World} {B : Nat} {V : SV} {s : Sh} (h : OwS w B V s) (hb : Below w.heap.size w W) : OwS W B V s := ⟨Ow.below h.o1 hb, Ow.below h.o2 hb, Ow.below h.o3 hb, Ow.below h.o4 hb⟩
theorem OwS.weaken {w : World} {B B' : Nat} {V : SV} {s : Sh} (h : OwS w B V s) (hB : B' ≤ B) : OwS w B' V s := ⟨Ow.weaken h.o1 hB, Ow.weaken h.o2 hB, Ow.weaken h.o3 hB, Ow.weaken h.o4 hB⟩
theorem OwS.rd {w : World} {B : Nat} {V : SV} {s : Sh} (h : OwS w B V s) : Rd w V s := rd_ow h.o1 h.o2 h.o3 h.o4
theorem OwS.set5 {w : World} {B C : Nat} {V : SV} {s : Sh} {v0 v1 v2 v3 v4 : Value} {cs : Array Value} (h : OwS w B V s) (hb : w.heap[C]? = some (.cells cs 26 (0, 0))) :
    OwS (((((w.setCell ⟨C, 0, none⟩ v0).setCell ⟨C, 1, none⟩ v1).setCell ⟨C, 2, none⟩ v2).setCell ⟨C, 3, none⟩ v3).setCell ⟨C, 4, none⟩ v4) B V s :=
  ⟨Ow.set5 h.o1 hb (by decide), Ow.set5 h.o2 hb (by decide), Ow.set5 h.o3 hb (by decide), Ow.set5 h.o4 hb (by decide)⟩
theorem none_ready {md : Region.Mode} {ops : Array Oper} {l : Array Bool} (hr : Region.ready md ops l = []) {i : Nat} (hi : i < l.size) {o : Oper} (ho : ops[i]? = some o) (hall : ∀ e ∈ o.after, Region.binds md e = true → l.getD e.on false = true) : l.getD i false = true :=
  gdt hi fun hu => by have := mem_ready.mpr ⟨hu, o, ho, hall⟩; rw [hr] at this; cases this
theorem I12.no19 {b2 B : Nat} {wo w0 w : World} {rt : Int} {wd ht : List Int} {ce : List S44} {me : List S49} {l : Array Bool} {x5 x8 x9 x12 x13 x16 x17 x20 x21 : Value} (h : I12 wo b2 B w0 rt wd ht ce me l w x5 x8 x9 x12 x13 x16 x17 x20 x21) (i : Nat) (hi : i < 19) (hu : l.getD i true = false) : l.getD 19 false = false := by
  cases e : l.getD 19 false with
  | false => rfl
  | true => have := h.all e i hi; rw [gdf hu] at this; cases this
theorem ownS_any {w : World} {V : SV} {s : Sh} (h : Rd w V s) (hf : Few s) : Calls Tryz.prog 12 #[.agg (shv V s)] w fun e w' => ∃ V', e = .returned (.agg (shv V' s)) ∧ OwS w' w.heap.size V' s ∧ Below w.heap.size w w' := by
  have hx0 := blk_new w (Obj.cells (shv V s) 26 (0, 0))
  have hb1 := below_alloc (Below.refl (w.alloc (Obj.cells (shv V s) 26 (0, 0))).heap.size (w.alloc (Obj.cells (shv V s) 26 (0, 0)))) (Obj.cells #[.int .i64 0, .slice none 0 0, .slice none 0 0, .slice none 0 0, .slice none 0 0] 26 (0, 0))
  have hx1 := blk_below hx0 hb1
  obtain ⟨A1, c1, A2, c2, A3, c3, A4, c4⟩ := V
  obtain ⟨rt, wd, ht, ce, me⟩ := s
  obtain ⟨s0, s1, s2, s3, s4⟩ := five hx1
  simp only [] at s0 s1 s2 s3 s4
  have hbw := below_alloc (below_alloc (Below.refl w.heap.size w) (Obj.cells (shv ⟨A1, c1, A2, c2, A3, c3, A4, c4⟩ ⟨rt, wd, ht, ce, me⟩) 26 (0, 0))) (Obj.cells #[.int .i64 0, .slice none 0 0, .slice none 0 0, .slice none 0 0, .slice none 0 0] 26 (0, 0))
  have hz := blk_new (w.alloc (Obj.cells (shv ⟨A1, c1, A2, c2, A3, c3, A4, c4⟩ ⟨rt, wd, ht, ce, me⟩) 26 (0, 0))) (Obj.cells #[.int .i64 0, .slice none 0 0, .slice none 0 0, .slice none 0 0, .slice none 0 0] 26 (0, 0))
  rw [show (w.alloc (Obj.cells (shv ⟨A1, c1, A2, c2, A3, c3, A4, c4⟩ ⟨rt, wd, ht, ce, me⟩) 26 (0, 0))).heap.size = w.heap.size + 1 by simp] at hz
  have HZ := Lib.hid hz
  have HBW := Lib.hid hbw
  clear hz hbw
  have HX1 := Lib.hid hx1
  have HR := Lib.hid h
  have HF := Lib.hid hf
  clear h hf hx0 hx1 hb1
  go_enter Tryz.func12, Tryz.ntmps12
  go_upto_region 1 with (fail)
  generalize HWZ : ((w.alloc (Obj.cells (shv ⟨A1, c1, A2, c2, A3, c3, A4, c4⟩ ⟨rt, wd, ht, ce, me⟩) 26 (0, 0))).alloc (Obj.cells #[.int .i64 0, .slice none 0 0, .slice none 0 0, .slice none 0 0, .slice none 0 0] 26 (0, 0))) = wy at HX1 HBW HZ s0 s1 s2 s3 s4 ⊢
  have hsz : w.heap.size + 1 < wy.drew.heap.size := by rw [← HWZ]; simp
  clear HWZ
  refine wp_region_noPanic ?_
  refine start_ (n := 20) (S := fun w' => w'.cell? ⟨w.heap.size, 0, none⟩ = some (.int .i64 rt) ∧ w'.cell? ⟨w.heap.size, 1, none⟩ = some (.slice A1 wd.length c1) ∧ w'.cell? ⟨w.heap.size, 2, none⟩ = some (.slice A2 ht.length c2) ∧ w'.cell? ⟨w.heap.size, 3, none⟩ = some (.slice A3 ce.length c3) ∧ w'.cell? ⟨w.heap.size, 4, none⟩ = some (.slice A4 me.length c4)) (ds := [19]) (bb 20 0) (by kernel_rfl) rfl rfl ⟨s0, s1, s2, s3, s4⟩ (fun hHeld => ?_)
  refine pu_ 0 3 20 1 ?_
  refine ta_ 1 4 20 3 hHeld ?_
  refine pu_ 3 6 20 11 ?_
  refine ta_ 4 7 20 27 hHeld ?_
  refine pu_ 7 10 20 155 ?_
  refine ta_ 8 11 20 411 hHeld ?_
  refine pu_ 11 14 20 2459 ?_
  refine ta_ 12 15 20 6555 hHeld ?_
  refine pu_ 15 18 20 39323 ?_
  refine ta_ 16 19 20 104859 hHeld ?_
  generalize HWY : wy.drew = wz at hHeld hsz ⊢
  have HS : Hid (∀ w', Below wz.heap.size wz w' → w'.cell? ⟨w.heap.size, 0, none⟩ = some (.int .i64 rt) ∧ w'.cell? ⟨w.heap.size, 1, none⟩ = some (.slice A1 wd.length c1) ∧ w'.cell? ⟨w.heap.size, 2, none⟩ = some (.slice A2 ht.length c2) ∧ w'.cell? ⟨w.heap.size, 3, none⟩ = some (.slice A3 ce.length c3) ∧ w'.cell? ⟨w.heap.size, 4, none⟩ = some (.slice A4 me.length c4)) := by
    obtain ⟨p0, p1, p2, p3, p4⟩ := hHeld
    exact Lib.hid fun w' hb => ⟨pw_cell_below hb p0, pw_cell_below hb p1, pw_cell_below hb p2, pw_cell_below hb p3, pw_cell_below hb p4⟩
  refine anyI_ (Iv := (fun l a wx => ∃ x5 x8 x9 x12 x13 x16 x17 x20 x21, a = { tmps := #[.agg (shv ⟨A1, c1, A2, c2, A3, c3, A4, c4⟩ ⟨rt, wd, ht, ce, me⟩), .pointer (some ⟨w.heap.size, 0, none⟩), .pointer (some ⟨w.heap.size + 1, 0, none⟩), .pointer (some ⟨w.heap.size, 0, none⟩), .int .i64 rt, x5, .pointer (some ⟨w.heap.size, 1, none⟩), .slice A1 wd.length c1, x8, x9, .pointer (some ⟨w.heap.size, 2, none⟩), .slice A2 ht.length c2, x12, x13, .pointer (some ⟨w.heap.size, 3, none⟩), .slice A3 ce.length c3, x16, x17, .pointer (some ⟨w.heap.size, 4, none⟩), .slice A4 me.length c4, x20, x21], defers := [] } ∧ I12 w (w.heap.size + 1) wz.heap.size wz rt wd ht ce me l wx x5 x8 x9 x12 x13 x16 x17 x20 x21)) ?hend ?hstep _ _ _ _ (Nat.le_of_eq (by kernel_rfl)) ?h0
  case h0 => exact ⟨_, _, _, _, _, _, _, _, _, rfl, ⟨rfl, by decide, Nat.le_refl _, Nat.le_succ _, hsz, by rw [← HWY]; exact below_drew HBW.out, fun _ => Below.refl _ _, fun k => absurd k (by decide), fun k => absurd k (by decide), fun k => absurd k (by decide), fun k => absurd k (by decide), fun k => absurd k (by decide), fun k => absurd k (by decide), fun k => absurd k (by decide), fun k => absurd k (by decide), fun k => absurd k (by decide), fun k => absurd k (by decide), fun k => absurd k (by decide), by rw [← HWY]; exact fun _ => HZ.out, fun k => absurd k (by decide)⟩⟩
  case hstep =>
    rintro l a wx i ⟨x5, x8, x9, x12, x13, x16, x17, x20, x21, rfl, h⟩ hi
    obtain ⟨hu, o, ho, hall⟩ := mem_ready.mp hi
    have hlt : i < 20 := (Array.getElem?_eq_some_iff.1 ho).1
    rcases (show i = 0 ∨ i = 1 ∨ i = 2 ∨ i = 3 ∨ i = 4 ∨ i = 5 ∨ i = 6 ∨ i = 7 ∨ i = 8 ∨ i = 9 ∨ i = 10 ∨ i = 11 ∨ i = 12 ∨ i = 13 ∨ i = 14 ∨ i = 15 ∨ i = 16 ∨ i = 17 ∨ i = 18 ∨ i = 19 by omega) with rfl | rfl | rfl | rfl | rfl | rfl | rfl | rfl | rfl | rfl | rfl | rfl | rfl | rfl | rfl | rfl | rfl | rfl | rfl | rfl
    · exact absurd (h.pre 0 (by simp)) (by rw [gdf hu]; simp)
    · exact absurd (h.pre 1 (by simp)) (by rw [gdf hu]; simp)
    · cases ho
      have h19 := h.no19 2 (by decide) hu
      have hn' : (l.setIfInBounds 2 true).getD 19 false = false := by rw [getD_set_ne false (by decide)]; exact h19
      have h' := (h.mono h19 (below_alloc (Below.refl _ _) (.cells #[] 3))).set2 hu ⟨wx.heap.size, rfl, World.ownsRow_made wx #[] 0 h.le (Nat.zero_le _) (by simp)⟩
      exact wpOp_step rfl (fun K' hK => value_ (v := .slice (some ⟨wx.heap.size, 0, none⟩) 0 0) (w1 := wx.alloc (.cells #[] 3)) rfl rfl (by first | (go_simp; done) | (go_simp; rfl)) (hK _ _ ⟨fun _ _ => HS.out _ (h'.be hn'), ⟨_, x8, x9, x12, x13, x16, x17, x20, x21, rfl, h'⟩⟩))
    · exact absurd (h.pre 3 (by simp)) (by rw [gdf hu]; simp)
    · exact absurd (h.pre 4 (by simp)) (by rw [gdf hu]; simp)
    · cases ho
      have h19 := h.no19 5 (by decide) hu
      have hn' : (l.setIfInBounds 5 true).getD 19 false = false := by rw [getD_set_ne false (by decide)]; exact h19
      obtain ⟨g, rfl, hO⟩ := h.ex5 (hall ⟨2, .data⟩ (by simp) rfl)
      obtain ⟨i0, hi0, hz0, hz1, hz2⟩ := info_parts PE.info3
      obtain ⟨v', w', hr, hO', hb'⟩ := app_empty (d := Kd.int .i64) (t := 22) rfl lenI oneI uI Tryz.underlying22 hi0 hz0 hz1 rfl (by decide) (by rw [hz2]; decide) hO ((HR.out.below h.be0).h1) HF.out.1 h.le
      have h' := (h.mono h19 hb').set5 hu hO'
      exact wpOp_step rfl (fun K' hK => step_append_is rfl (.tmp 5) (.tmp 7) 22 22 rfl _ _ rfl rfl (hr _) (hK _ _ ⟨fun _ _ => HS.out _ (h'.be hn'), ⟨_, _, x9, x12, x13, x16, x17, x20, x21, rfl, h'⟩⟩))
    · cases ho
      have h19 := h.no19 6 (by decide) hu
      have hn' : (l.setIfInBounds 6 true).getD 19 false = false := by rw [getD_set_ne false (by decide)]; exact h19
      have h' := (h.mono h19 (below_alloc (Below.refl _ _) (.cells #[] 3))).set6 hu ⟨wx.heap.size, rfl, World.ownsRow_made wx #[] 0 h.le (Nat.zero_le _) (by simp)⟩
      exact wpOp_step rfl (fun K' hK => value_ (v := .slice (some ⟨wx.heap.size, 0, none⟩) 0 0) (w1 := wx.alloc (.cells #[] 3)) rfl rfl (by first | (go_simp; done) | (go_simp; rfl)) (hK _ _ ⟨fun _ _ => HS.out _ (h'.be hn'), ⟨x5, x8, _, x12, x13, x16, x17, x20, x21, rfl, h'⟩⟩))
    · exact absurd (h.pre 7 (by simp)) (by rw [gdf hu]; simp)
    · exact absurd (h.pre 8 (by simp)) (by rw [gdf hu]; simp)
    · cases ho
      have h19 := h.no19 9 (by decide) hu
      have hn' : (l.setIfInBounds 9 true).getD 19 false = false := by rw [getD_set_ne false (by decide)]; exact h19
      obtain ⟨g, rfl, hO⟩ := h.ex9 (hall ⟨6, .data⟩ (by simp) rfl)
      obtain ⟨i0, hi0, hz0, hz1, hz2⟩ := info_parts PE.info3
      obtain ⟨v', w', hr, hO', hb'⟩ := app_empty (d := Kd.int .i64) (t := 22) rfl lenI oneI uI Tryz.underlying22 hi0 hz0 hz1 rfl (by decide) (by rw [hz2]; decide) hO ((HR.out.below h.be0).h2) HF.out.2.1 h.le
      have h' := (h.mono h19 hb').set9 hu hO'
      exact wpOp_step rfl (fun K' hK => step_append_is rfl (.tmp 9) (.tmp 11) 22 22 rfl _ _ rfl rfl (hr _) (hK _ _ ⟨fun _ _ => HS.out _ (h'.be hn'), ⟨x5, x8, _, _, x13, x16, x17, x20, x21, rfl, h'⟩⟩))
    · cases ho
      have h19 := h.no19 10 (by decide) hu
      have hn' : (l.setIfInBounds 10 true).getD 19 false = false := by rw [getD_set_ne false (by decide)]; exact h19
      have h' := (h.mono h19 (below_alloc (Below.refl _ _) (.cells #[] 44))).set10 hu ⟨wx.heap.size, rfl, World.ownsRow_made wx #[] 0 h.le (Nat.zero_le _) (by simp)⟩
      exact wpOp_step rfl (fun K' hK => value_ (v := .slice (some ⟨wx.heap.size, 0, none⟩) 0 0) (w1 := wx.alloc (.cells #[] 44)) rfl rfl (by first | (go_simp; done) | (go_simp; rfl)) (hK _ _ ⟨fun _ _ => HS.out _ (h'.be hn'), ⟨x5, x8, x9, x12, _, x16, x17, x20, x21, rfl, h'⟩⟩))
    · exact absurd (h.pre 11 (by simp)) (by rw [gdf hu]; simp)
    · exact absurd (h.pre 12 (by simp)) (by rw [gdf hu]; simp)
    · cases ho
      have h19 := h.no19 13 (by decide) hu
      have hn' : (l.setIfInBounds 13 true).getD 19 false = false := by rw [getD_set_ne false (by decide)]; exact h19
      obtain ⟨g, rfl, hO⟩ := h.ex13 (hall ⟨10, .data⟩ (by simp) rfl)
      obtain ⟨i0, hi0, hz0, hz1, hz2⟩ := info_parts PE.info44
      obtain ⟨v', w', hr, hO', hb'⟩ := app_empty (d := k44) (t := 23) rfl lenC oneC uC Tryz.underlying23 hi0 hz0 hz1 rfl (by decide) (by rw [hz2]; decide) hO ((HR.out.below h.be0).h3) HF.out.2.2.1 h.le
      have h' := (h.mono h19 hb').set13 hu hO'
      exact wpOp_step rfl (fun K' hK => step_append_is rfl (.tmp 13) (.tmp 15) 23 23 rfl _ _ rfl rfl (hr _) (hK _ _ ⟨fun _ _ => HS.out _ (h'.be hn'), ⟨x5, x8, x9, x12, _, _, x17, x20, x21, rfl, h'⟩⟩))
    · cases ho
      have h19 := h.no19 14 (by decide) hu
      have hn' : (l.setIfInBounds 14 true).getD 19 false = false := by rw [getD_set_ne false (by decide)]; exact h19
      have h' := (h.mono h19 (below_alloc (Below.refl _ _) (.cells #[] 49))).set14 hu ⟨wx.heap.size, rfl, World.ownsRow_made wx #[] 0 h.le (Nat.zero_le _) (by simp)⟩
      exact wpOp_step rfl (fun K' hK => value_ (v := .slice (some ⟨wx.heap.size, 0, none⟩) 0 0) (w1 := wx.alloc (.cells #[] 49)) rfl rfl (by first | (go_simp; done) | (go_simp; rfl)) (hK _ _ ⟨fun _ _ => HS.out _ (h'.be hn'), ⟨x5, x8, x9, x12, x13, x16, _, x20, x21, rfl, h'⟩⟩))
    · exact absurd (h.pre 15 (by simp)) (by rw [gdf hu]; simp)
    · exact absurd (h.pre 16 (by simp)) (by rw [gdf hu]; simp)
    · cases ho
      have h19 := h.no19 17 (by decide) hu
      have hn' : (l.setIfInBounds 17 true).getD 19 false = false := by rw [getD_set_ne false (by decide)]; exact h19
      obtain ⟨g, rfl, hO⟩ := h.ex17 (hall ⟨14, .data⟩ (by simp) rfl)
      obtain ⟨i0, hi0, hz0, hz1, hz2⟩ := info_parts PE.info49
      obtain ⟨v', w', hr, hO', hb'⟩ := app_empty (d := k49) (t := 24) rfl lenR oneR uR Tryz.underlying24 hi0 hz0 hz1 rfl (by decide) (by rw [hz2]; decide) hO ((HR.out.below h.be0).h4) HF.out.2.2.2 h.le
      have h' := (h.mono h19 hb').set17 hu hO'
      exact wpOp_step rfl (fun K' hK => step_append_is rfl (.tmp 17) (.tmp 19) 24 24 rfl _ _ rfl rfl (hr _) (hK _ _ ⟨fun _ _ => HS.out _ (h'.be hn'), ⟨x5, x8, x9, x12, x13, x16, _, _, x21, rfl, h'⟩⟩))
    · cases ho
      have h19 := h.no19 18 (by decide) hu
      have hn' : (l.setIfInBounds 18 true).getD 19 false = false := by rw [getD_set_ne false (by decide)]; exact h19
      obtain ⟨B0, k0, rfl⟩ := ow_slice (h.ex8 (hall ⟨5, .data⟩ (by simp) rfl))
      obtain ⟨B1, k1, rfl⟩ := ow_slice (h.ex12 (hall ⟨9, .data⟩ (by simp) rfl))
      obtain ⟨B2, k2, rfl⟩ := ow_slice (h.ex16 (hall ⟨13, .data⟩ (by simp) rfl))
      obtain ⟨B3, k3, rfl⟩ := ow_slice (h.ex20 (hall ⟨17, .data⟩ (by simp) rfl))
      have h' := h.set18 hu (fun j hj => getD_set_true (by simp at hj; rcases hj with rfl | rfl | rfl | rfl <;> exact hall ⟨_, .data⟩ (by simp) rfl)) rfl
      exact wpOp_step rfl (fun K' hK => value_ (v := _) (w1 := wx) rfl rfl (by first | (go_simp; done) | (go_simp; rfl)) (hK _ _ ⟨fun _ hS => hS, ⟨x5, _, x9, _, x13, _, x17, _, _, rfl, h'⟩⟩))
    · cases ho
      have hp : ∀ j, j < 19 → l.getD j false = true := by
        intro j hj
        rcases (show j = 0 ∨ j = 1 ∨ j = 2 ∨ j = 3 ∨ j = 4 ∨ j = 5 ∨ j = 6 ∨ j = 7 ∨ j = 8 ∨ j = 9 ∨ j = 10 ∨ j = 11 ∨ j = 12 ∨ j = 13 ∨ j = 14 ∨ j = 15 ∨ j = 16 ∨ j = 17 ∨ j = 18 by omega) with rfl | rfl | rfl | rfl | rfl | rfl | rfl | rfl | rfl | rfl | rfl | rfl | rfl | rfl | rfl | rfl | rfl | rfl | rfl <;> exact hall ⟨_, .phase⟩ (by simp) rfl
      obtain ⟨B0, k0, rfl⟩ := ow_slice (h.ex8 (hp 5 (by decide)))
      obtain ⟨B1, k1, rfl⟩ := ow_slice (h.ex12 (hp 9 (by decide)))
      obtain ⟨B2, k2, rfl⟩ := ow_slice (h.ex16 (hp 13 (by decide)))
      obtain ⟨B3, k3, rfl⟩ := ow_slice (h.ex20 (hp 17 (by decide)))
      have hx := h.e21 (hp 18 (by decide))
      subst hx
      have h' := h.put hu hp
      obtain ⟨z0, z1, z2, z3, z4, f0, f1, f2, f3, f4⟩ := zero5 (h.z0 (gdf hu))
      exact wpOp_step rfl (fun K' hK => skip_ rfl rfl (by first | (go_simp; done) | (go_simp; rfl)) (hK _ _ ⟨fun hn => absurd (by simp) hn, ⟨x5, _, x9, _, x13, _, x17, _, _, rfl, h'⟩⟩))
  case hend =>
    rintro l a wx ⟨x5, x8, x9, x12, x13, x16, x17, x20, x21, rfl, h⟩ hr
    have d2 := none_ready hr (i := 2) (by rw [h.sz]; decide) rfl (by simp)
    have d6 := none_ready hr (i := 6) (by rw [h.sz]; decide) rfl (by simp)
    have d10 := none_ready hr (i := 10) (by rw [h.sz]; decide) rfl (by simp)
    have d14 := none_ready hr (i := 14) (by rw [h.sz]; decide) rfl (by simp)
    have d5 := none_ready hr (i := 5) (by rw [h.sz]; decide) rfl (by intro e he _; simp at he; rcases he with rfl | rfl; exact d2; exact h.pre 4 (by simp))
    have d9 := none_ready hr (i := 9) (by rw [h.sz]; decide) rfl (by intro e he _; simp at he; rcases he with rfl | rfl | rfl; exact d6; exact h.pre 8 (by simp); exact d5)
    have d13 := none_ready hr (i := 13) (by rw [h.sz]; decide) rfl (by intro e he _; simp at he; rcases he with rfl | rfl | rfl; exact d10; exact h.pre 12 (by simp); exact d9)
    have d17 := none_ready hr (i := 17) (by rw [h.sz]; decide) rfl (by intro e he _; simp at he; rcases he with rfl | rfl | rfl; exact d14; exact h.pre 16 (by simp); exact d13)
    have d18 := none_ready hr (i := 18) (by rw [h.sz]; decide) rfl (by intro e he _; simp at he; rcases he with rfl | rfl | rfl | rfl | rfl; exact h.pre 1 (by simp); exact d5; exact d9; exact d13; exact d17)
    have hp : ∀ j, j < 19 → l.getD j false = true := by
      intro j hj
      rcases (show j = 0 ∨ j = 1 ∨ j = 2 ∨ j = 3 ∨ j = 4 ∨ j = 5 ∨ j = 6 ∨ j = 7 ∨ j = 8 ∨ j = 9 ∨ j = 10 ∨ j = 11 ∨ j = 12 ∨ j = 13 ∨ j = 14 ∨ j = 15 ∨ j = 16 ∨ j = 17 ∨ j = 18 by omega) with rfl | rfl | rfl | rfl | rfl | rfl | rfl | rfl | rfl | rfl | rfl | rfl | rfl | rfl | rfl | rfl | rfl | rfl | rfl
      · exact h.pre 0 (by simp)
      · exact h.pre 1 (by simp)
      · exact d2
      · exact h.pre 3 (by simp)
      · exact h.pre 4 (by simp)
      · exact d5
      · exact d6
      · exact h.pre 7 (by simp)
      · exact h.pre 8 (by simp)
      · exact d9
      · exact d10
      · exact h.pre 11 (by simp)
      · exact h.pre 12 (by simp)
      · exact d13
      · exact d14
      · exact h.pre 15 (by simp)
      · exact h.pre 16 (by simp)
      · exact d17
      · exact d18
    have d19 := none_ready hr (i := 19) (by rw [h.sz]; decide) rfl (fun e he _ => hp e.on (by revert e; decide))
    have hz := h.z1 d19
    obtain ⟨B0, k0, rfl⟩ := ow_slice (h.ex8 d5)
    obtain ⟨B1, k1, rfl⟩ := ow_slice (h.ex12 d9)
    obtain ⟨B2, k2, rfl⟩ := ow_slice (h.ex16 d13)
    obtain ⟨B3, k3, rfl⟩ := ow_slice (h.ex20 d17)
    refine NoPanic.normal ?_
    go_wp2
    refine bodyPost_ret (results_cell_row rfl _ _ (w.heap.size + 1) 26 #[.int .i64 rt, .slice B0 wd.length k0, .slice B1 ht.length k1, .slice B2 ce.length k2, .slice B3 me.length k3] (0, 0) _ rfl hz Tryz.underlying26 rfl (by kernel_rfl)) rfl ?_
    have hle : w.heap.size ≤ wz.heap.size := Nat.le_trans h.nb (Nat.le_of_lt h.lb)
    exact ⟨⟨B0, k0, B1, k1, B2, k2, B3, k3⟩, rfl, ⟨Ow.weaken (h.ex8 d5) hle, Ow.weaken (h.ex12 d9) hle, Ow.weaken (h.ex16 d13) hle, Ow.weaken (h.ex20 d17) hle⟩, h.be0⟩
end Go.Proofs.YtcofacgdijjnoaaGreat
