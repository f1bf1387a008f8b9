/- sheet: more of the tests that are handed to the library: walked. sheet: more of the tests that are handed to the library: walked. sheet: more of the tests that are handed to the library: walked. -/
import Derived.Test.YtcofacgdijjnoaaGreatPam
section
namespace Go.Proofs.YtcofacgdijjnoaaGreat
open PE (S31 S44 S49 k44 k49 k31)
open Go.RowKit Go.Shelf Go.Lib Go.Proofs.YtcofacgdijjnoaaGreatW.PrintWords Go.Proofs.YtcofacgdijjnoaaGreatW.PrintLast Go.Proofs.YtcofacgdijjnoaaGreatW.PrintMore
set_option linter.unusedVariables false
set_option linter.unusedSimpArgs false
set_option maxRecDepth 100000
set_option maxHeartbeats 2000000
theorem Ed.open {w : World} {B D : Nat} {s : Sh} (h : Ed w B D s) : ∃ V : SV, w.heap[D]? = some (.cells (shv V s) 53 (0, 0)) ∧ OwI w B (.slice V.A1 s.wd.length V.c1) s.wd ∧ OwI w B (.slice V.A2 s.ht.length V.c2) s.ht ∧ OwC w B (.slice V.A3 s.ce.length V.c3) s.ce ∧ OwR w B (.slice V.A4 s.me.length V.c4) s.me ∧
    NeRow (.slice V.A1 s.wd.length V.c1) (.slice V.A2 s.ht.length V.c2) ∧ B ≤ D ∧ Rd w V s := by
  obtain ⟨v1, v2, v3, v4, hh, o1, o2, o3, o4, hne, hB⟩ := h
  obtain ⟨A1, c1, rfl, l1, r1⟩ := Ow.reads rfl lenI kI o1
  obtain ⟨A2, c2, rfl, l2, r2⟩ := Ow.reads rfl lenI kI o2
  obtain ⟨A3, c3, rfl, l3, r3⟩ := Ow.reads rfl lenC kC o3
  obtain ⟨A4, c4, rfl, l4, r4⟩ := Ow.reads rfl lenR kR o4
  exact ⟨⟨A1, c1, A2, c2, A3, c3, A4, c4⟩, hh, o1, o2, o3, o4, hne, hB, r1, l1, r2, l2, r3, l3, r4, l4⟩
theorem Ed.below {w W : World} {B D : Nat} {s : Sh} (h : Ed w B D s) (hb : Below w.heap.size w W) : Ed W B D s := by
  obtain ⟨v1, v2, v3, v4, hh, o1, o2, o3, o4, hne, hB⟩ := h
  exact ⟨v1, v2, v3, v4, blk_below hh hb, Ow.below o1 hb, Ow.below o2 hb, Ow.below o3 hb, Ow.below o4 hb, hne, hB⟩
theorem Ed.le {w : World} {B D : Nat} {s : Sh} (h : Ed w B D s) : B ≤ w.heap.size := by
  obtain ⟨v1, v2, v3, v4, hh, o1, o2, o3, o4, hne, hB⟩ := h
  have := blk_lt hh; omega
theorem own_apart {α β : Type} {enc : α → List Value} {enc2 : β → List Value} {e k e2 k2 : Nat} {w : World} {B : Nat} {u v : Value} {l : List α} {m : List β} (h : Ow enc e k w B u l) (h2 : Ow enc2 e2 k2 w B v m) (ht : e ≠ e2) :
    u.ownBlock = none ∨ u.ownBlock ≠ v.ownBlock := by
  cases hu : u.ownBlock with
  | none => exact .inl rfl
  | some x =>
      refine .inr fun hv => ?_
      obtain ⟨c1, h1⟩ := own_typed h x hu
      obtain ⟨c2, h2'⟩ := own_typed h2 x hv.symm
      rw [h1] at h2'
      injection h2' with h3
      injection h3 with _ h3
      exact ht h3
theorem Ow.drew {α : Type} {enc : α → List Value} {e k : Nat} {w : World} {B : Nat} {v : Value} {l : List α} (h : Ow enc e k w B v l) : Ow enc e k w.drew B v l := h
theorem grown_drew {w w' : World} {row : Option Nat} (h : w.drew.grownBy w' row) : w.grownBy w' row := ⟨h.os, h.tape, h.output, h.size, h.block⟩
theorem Ow.set {α : Type} {enc : α → List Value} {e k : Nat} {w : World} {B C i t : Nat} {u v : Value} {l : List α} {cs : Array Value} (h : Ow enc e k w B u l) (hb : w.heap[C]? = some (.cells cs t (0, 0))) (ht : e ≠ t) :
    Ow enc e k (w.setCell ⟨C, i, none⟩ v) B u l := own_setCell (p := ⟨C, i, none⟩) h (own_ne h hb ht) v
theorem ed5 {w : World} {D : Nat} {V : SV} {s : Sh} (h : w.heap[D]? = some (.cells (shv V s) 53 (0, 0))) :
    w.cell? ⟨D, 0, none⟩ = some (.int .i64 s.rt) ∧ w.cell? ⟨D, 1, none⟩ = some (.slice V.A1 s.wd.length V.c1) ∧ w.cell? ⟨D, 2, none⟩ = some (.slice V.A2 s.ht.length V.c2) ∧ w.cell? ⟨D, 3, none⟩ = some (.slice V.A3 s.ce.length V.c3) ∧ w.cell? ⟨D, 4, none⟩ = some (.slice V.A4 s.me.length V.c4) ∧
    w.frozen? ⟨D, 0, none⟩ = false ∧ w.frozen? ⟨D, 1, none⟩ = false ∧ w.frozen? ⟨D, 2, none⟩ = false ∧ w.frozen? ⟨D, 3, none⟩ = false ∧ w.frozen? ⟨D, 4, none⟩ = false :=
  ⟨blk_cell h 0, blk_cell h 1, blk_cell h 2, blk_cell h 3, blk_cell h 4, blk_frozen h 0, blk_frozen h 1, blk_frozen h 2, blk_frozen h 3, blk_frozen h 4⟩
theorem flip_any : StepC 49 (stepF 11) := by
  intro w B D s x hE hO hx
  obtain ⟨rt, wd, ht, ce, me⟩ := s
  obtain ⟨kd, x2, x3, x4, x5, x6, x7, tx, ⟨y1, y2, y3⟩⟩ := x
  have hE1 := hE.below (below_alloc (Below.refl w.heap.size w) (Obj.cells #[.int .i64 kd, .int .i64 x2, .int .i64 x3, .int .i64 x4, .int .i64 x5, .int .i64 x6, .int .i64 x7, .string tx, .int .i64 y1, .int .i64 y2, .int .i64 y3] 33 (0, 0)))
  have hBw := hE.le
  obtain ⟨⟨A1, c1, A2, c2, A3, c3, A4, c4⟩, hh, o1, o2, o3, o4, hne, hB, hR⟩ := hE1.open
  obtain ⟨p0, p1, p2, p3, p4, f0, f1, f2, f3, f4⟩ := ed5 hh
  have hxb := blk_new w (Obj.cells #[.int .i64 kd, .int .i64 x2, .int .i64 x3, .int .i64 x4, .int .i64 x5, .int .i64 x6, .int .i64 x7, .string tx, .int .i64 y1, .int .i64 y2, .int .i64 y3] 33 (0, 0))
  obtain ⟨q0, q1, q2, q3, q4, q5, q6, q7, q8, q9, q10⟩ := eleven (x := ⟨kd, x2, x3, x4, x5, x6, x7, tx, ⟨y1, y2, y3⟩⟩) hxb
  have hA := below_mono (below_alloc (Below.refl w.heap.size w) (Obj.cells #[.int .i64 kd, .int .i64 x2, .int .i64 x3, .int .i64 x4, .int .i64 x5, .int .i64 x6, .int .i64 x7, .string tx, .int .i64 y1, .int .i64 y2, .int .i64 y3] 33 (0, 0))) hBw
  simp only [] at p0 p1 p2 p3 p4 q0 q1 q2 q3 q4 q5 q6 q7 q8 q9 q10
  have hrt : rt = 0 ∨ rt = 1 := hO.rt
  have hw : wrap64 (1 - rt) = 1 - rt := by unfold wrap64; omega
  have HP : Hid (Ed ((w.alloc (Obj.cells #[.int .i64 kd, .int .i64 x2, .int .i64 x3, .int .i64 x4, .int .i64 x5, .int .i64 x6, .int .i64 x7, .string tx, .int .i64 y1, .int .i64 y2, .int .i64 y3] 33 (0, 0))).setCell ⟨D, 0, none⟩ (.int .i64 (1 - rt))) B D ⟨1 - rt, wd, ht, ce, me⟩) := Lib.hid ⟨_, _, _, _, blk_put hh 0 _ rfl, o1.set hh (by decide), o2.set hh (by decide), o3.set hh (by decide), o4.set hh (by decide), hne, hB⟩
  have HB : Hid (Below B w ((w.alloc (Obj.cells #[.int .i64 kd, .int .i64 x2, .int .i64 x3, .int .i64 x4, .int .i64 x5, .int .i64 x6, .int .i64 x7, .string tx, .int .i64 y1, .int .i64 y2, .int .i64 y3] 33 (0, 0))).setCell ⟨D, 0, none⟩ (.int .i64 (1 - rt)))) := Lib.hid (hA.setCell (p := ⟨D, 0, none⟩) hB _)
  clear hh o1 o2 o3 o4 hne hR hE hO hx hrt hE1 hxb
  show Calls Tryz.prog 49 #[.pointer (some ⟨D, 0, none⟩), .agg #[.int .i64 kd, .int .i64 x2, .int .i64 x3, .int .i64 x4, .int .i64 x5, .int .i64 x6, .int .i64 x7, .string tx, .int .i64 y1, .int .i64 y2, .int .i64 y3]] w fun e w' => e = .returned (.int .i64 0) ∧ ((0 : Int) = 0 → Ed w' B D ⟨1 - rt, wd, ht, ce, me⟩) ∧ Below B w w'
  go_enter Tryz.func49, Tryz.ntmps49
  go_wp2
  go_ret
  exact ⟨rfl, fun _ => HP.out, HB.out⟩
theorem flt_set {α : Type} {enc : α → List Value} {k : Nat} (hk : ∀ x, (enc x).length = k) : ∀ (l : List α) (i : Nat) (x : α), i < l.length → flt enc (l.set i x) = (flt enc l).take (i * k) ++ enc x ++ (flt enc l).drop ((i + 1) * k) := by
  intro l i x h
  rw [List.set_eq_take_append_cons_drop, if_pos h, flt_app, flt, ← flt_take hk, ← flt_drop hk, List.append_assoc]
theorem fltI_set (l : List Int) (i : Nat) (x : Int) (h : i < l.length) : flt encI (l.set i x) = (flt encI l).set i (.int .i64 x) := by
  rw [flt_set lenI l i x h, Nat.mul_one, Nat.mul_one, encI]
  have hl : i < (flt encI l).length := by rw [flt_len lenI]; omega
  rw [List.set_eq_take_append_cons_drop, if_pos hl]
  simp
theorem own_setW {w : World} {base : Nat} {e : TypeId} {size n g cap : Nat} {xs : List Value} (h : w.ownsRow base e size (.slice (some ⟨g, 0, none⟩) n cap) n xs) (j : Nat) (u : Value) :
    (w.setCell ⟨g, j, none⟩ u).ownsRow base e size (.slice (some ⟨g, 0, none⟩) n cap) n (xs.set j u) := by
  obtain ⟨h1, h2⟩ := h
  refine ⟨by rw [List.length_set]; exact h1, ?_⟩
  rcases h2 with ⟨hv, _⟩ | ⟨g', cap', cur, hv, hb, hg, hn, hc, hs, ht⟩
  · cases hv
  · injection hv with e1 e2 e3
    injection e1 with e1
    injection e1 with e1
    subst e1 e3
    refine .inr ⟨g, cap, cur.setIfInBounds j u, rfl, hb, blk_set hg j u, hn, hc, by simpa using hs, ?_⟩
    rw [Array.toList_setIfInBounds, List.take_set, ht]
theorem own_form {α : Type} {enc : α → List Value} {e k : Nat} {w : World} {B : Nat} {A : Option Addr} {c : Nat} {l : List α} (h : Ow enc e k w B (.slice A l.length c) l) (hl : 0 < l.length) :
    ∃ g cur, A = some ⟨g, 0, none⟩ ∧ B ≤ g ∧ w.heap[g]? = some (.cells cur e (0, 0)) ∧ l.length ≤ c ∧ c ≤ maxLen ∧ cur.size = c * k ∧ cur.toList.take (l.length * k) = flt enc l := by
  rcases h.2 with ⟨hv, h0⟩ | ⟨g, cap, cur, hv, hB, hg, hle, hm, hs, htk⟩
  · omega
  · injection hv with e1 e2 e3
    subst e1 e3
    exact ⟨g, cur, rfl, hB, hg, hle, hm, hs, htk⟩
/-- edit.resize -/
theorem resize_any {w : World} {B : Nat} {A : Option Addr} {c : Nat} {l : List Int} (h : OwI w B (.slice A l.length c) l) (hl : l.length ≤ 1000) (at' size most : Int) :
    Calls Tryz.prog 74 #[.slice A l.length c, .int .i64 at', .int .i64 size, .int .i64 most] w fun e w' => e = .returned (.int .i64 (rszF l at' size most).2) ∧ OwI w' B (.slice A l.length c) (rszF l at' size most).1 ∧ w.grownBy w' (Value.slice A l.length c).ownBlock ∧ (rszF l at' size most).1.length = l.length := by
  have hR := Lib.hid (show rszF l at' size most = if size < 1 then (l, 1) else if at' < 0 ∨ (l.length : Int) ≤ at' then (l, 4) else if most < size then (l, 3) else (l.set at'.toNat size, 0) from rfl)
  have HO := Lib.hid h
  obtain ⟨rr, hrr⟩ : ∃ rr, rr = rszF l at' size most := ⟨_, rfl⟩
  rw [← hrr] at hR ⊢
  clear h hrr
  by_cases h1 : size < 1
  · have HR : Hid (rr = (l, 1)) := Lib.hid (by rw [hR.out, if_pos h1])
    go_enter Tryz.func74, Tryz.ntmps74
    go_wp2
    go_ret
    exact ⟨by rw [HR.out]; rfl, by rw [HR.out]; exact HO.out, World.grownBy.refl _ _, by rw [HR.out]⟩
  · by_cases h2 : at' < 0
    · have HR : Hid (rr = (l, 4)) := Lib.hid (by rw [hR.out, if_neg h1, if_pos (.inl h2)])
      go_enter Tryz.func74, Tryz.ntmps74
      go_wp2
      go_ret
      exact ⟨by rw [HR.out]; rfl, by rw [HR.out]; exact HO.out, World.grownBy.refl _ _, by rw [HR.out]⟩
    · by_cases h3 : (l.length : Int) ≤ at'
      · have HR : Hid (rr = (l, 4)) := Lib.hid (by rw [hR.out, if_neg h1, if_pos (.inr h3)])
        have h3' : decide (at' ≥ (l.length : Int)) = true := decide_eq_true h3
        go_enter Tryz.func74, Tryz.ntmps74
        go_wp2
        go_ret
        exact ⟨by rw [HR.out]; rfl, by rw [HR.out]; exact HO.out, World.grownBy.refl _ _, by rw [HR.out]⟩
      · have h3' : decide (at' ≥ (l.length : Int)) = false := decide_eq_false h3
        by_cases h4 : most < size
        · have HR : Hid (rr = (l, 3)) := Lib.hid (by rw [hR.out, if_neg h1, if_neg (fun k => k.elim h2 h3), if_pos h4])
          go_enter Tryz.func74, Tryz.ntmps74
          go_wp2
          go_ret
          exact ⟨by rw [HR.out]; rfl, by rw [HR.out]; exact HO.out, World.grownBy.refl _ _, by rw [HR.out]⟩
        · obtain ⟨i, hi⟩ : ∃ i : Nat, at' = (i : Int) := ⟨at'.toNat, by omega⟩
          subst hi
          have HR : Hid (rr = (l.set i size, 0)) := Lib.hid (by rw [hR.out, if_neg h1, if_neg (fun k => k.elim h2 h3), if_neg h4, Int.toNat_natCast])
          have hil : i < l.length := by omega
          obtain ⟨g, cur, rfl, hB, hg, hlc, hcm, hcs, htk⟩ := own_form HO.out (by omega)
          have hc1 : w.cell? ⟨g, i, none⟩ = some (.int .i64 l[i]) := by
            have := HO.out.cells (g := g) rfl i (.int .i64 l[i]) (by
              have := flt_get lenI (List.getElem?_eq_getElem hil) (r := 0) (u := .int .i64 l[i]) rfl
              simpa using this)
            rwa [add_plain] at this
          obtain ⟨vo, hvo⟩ : ∃ vo, vo = l[i] := ⟨_, rfl⟩
          rw [← hvo] at hc1
          clear hvo
          have hf1 : w.frozen? ⟨g, i, none⟩ = false := blk_frozen hg i
          have hi0 : (0 : Int) ≤ (i : Int) := by omega
          have hil' : (i : Int) < (l.length : Int) := by omega
          have HP : Hid (OwI (w.setCell ⟨g, i, none⟩ (.int .i64 size)) B (.slice (some ⟨g, 0, none⟩) l.length c) (l.set i size)) := Lib.hid (by
            have := own_setW HO.out i (.int .i64 size)
            rw [← fltI_set l i size hil] at this
            unfold OwI Ow
            rw [List.length_set]
            exact this)
          have HG : Hid (w.grownBy (w.setCell ⟨g, i, none⟩ (.int .i64 size)) (some g)) := Lib.hid ⟨rfl, rfl, rfl, by simp [World.setCell], fun k hk hne => Below.heap_setCell _ _ _ _ (by intro e; exact hne (by rw [e]))⟩
          clear hcs htk hlc hcm hg hil
          go_enter Tryz.func74, Tryz.ntmps74
          go_wp2
          go_ret
          exact ⟨by rw [HR.out]; rfl, by rw [HR.out]; exact HP.out, HG.out, by rw [HR.out]; simp⟩
theorem high_any : StepC 47 (stepF 9) := by
  intro w B D s x hE hO hx
  obtain ⟨rt, wd, ht, ce, me⟩ := s
  obtain ⟨kd, x2, x3, x4, x5, x6, x7, tx, ⟨y1, y2, y3⟩⟩ := x
  have hE1 := hE.below (below_alloc (Below.refl w.heap.size w) (Obj.cells #[.int .i64 kd, .int .i64 x2, .int .i64 x3, .int .i64 x4, .int .i64 x5, .int .i64 x6, .int .i64 x7, .string tx, .int .i64 y1, .int .i64 y2, .int .i64 y3] 33 (0, 0)))
  have hBw := hE.le
  obtain ⟨⟨A1, c1, A2, c2, A3, c3, A4, c4⟩, hh, o1, o2, o3, o4, hne, hB, hR⟩ := hE1.open
  obtain ⟨p0, p1, p2, p3, p4, f0, f1, f2, f3, f4⟩ := ed5 hh
  have hxb := blk_new w (Obj.cells #[.int .i64 kd, .int .i64 x2, .int .i64 x3, .int .i64 x4, .int .i64 x5, .int .i64 x6, .int .i64 x7, .string tx, .int .i64 y1, .int .i64 y2, .int .i64 y3] 33 (0, 0))
  obtain ⟨q0, q1, q2, q3, q4, q5, q6, q7, q8, q9, q10⟩ := eleven (x := ⟨kd, x2, x3, x4, x5, x6, x7, tx, ⟨y1, y2, y3⟩⟩) hxb
  have hA := below_mono (below_alloc (Below.refl w.heap.size w) (Obj.cells #[.int .i64 kd, .int .i64 x2, .int .i64 x3, .int .i64 x4, .int .i64 x5, .int .i64 x6, .int .i64 x7, .string tx, .int .i64 y1, .int .i64 y2, .int .i64 y3] 33 (0, 0))) hBw
  simp only [] at p0 p1 p2 p3 p4 q0 q1 q2 q3 q4 q5 q6 q7 q8 q9 q10
  have hl : ht.length ≤ 1000 := by have h1 := hO.htn; have h2 := hO.wdn; simp only at h1 h2; omega
  have hc := fun W (ho : OwI W B (.slice A2 ht.length c2) ht) => resize_any ho hl x2 x7 12
  obtain ⟨rr, hrr⟩ : ∃ rr, rr = rszF ht x2 x7 12 := ⟨_, rfl⟩
  rw [← hrr] at hc
  have hP : ∀ w', OwI w' B (.slice A2 ht.length c2) rr.1 → (w.alloc (Obj.cells #[.int .i64 kd, .int .i64 x2, .int .i64 x3, .int .i64 x4, .int .i64 x5, .int .i64 x6, .int .i64 x7, .string tx, .int .i64 y1, .int .i64 y2, .int .i64 y3] 33 (0, 0))).grownBy w' (Value.slice A2 ht.length c2).ownBlock → Ed w' B D ⟨rt, wd, rr.1, ce, me⟩ ∧ Below B w w' := fun w' ho hgr =>
    ⟨⟨_, _, _, _, blk_grown hh hgr (own_ne o2 hh (by decide)), own_other o1 hgr (ne_other (ne_symm hne)), ho, own_other o3 hgr (own_apart o3 o2 (by decide)), own_other o4 hgr (own_apart o4 o2 (by decide)), hne, hB⟩, hA.grown hgr (Nat.le_trans hBw hA.size) (own_base o2)⟩
  have HC := Lib.hid hc
  have HP := Lib.hid hP
  have HOO := Lib.hid o2
  have hkg : ∀ w', (w.alloc (Obj.cells #[.int .i64 kd, .int .i64 x2, .int .i64 x3, .int .i64 x4, .int .i64 x5, .int .i64 x6, .int .i64 x7, .string tx, .int .i64 y1, .int .i64 y2, .int .i64 y3] 33 (0, 0))).grownBy w' (Value.slice A2 ht.length c2).ownBlock → (w'.cell? ⟨D, 2, none⟩ = some (.slice A2 ht.length c2) ∧ w'.cell? ⟨w.heap.size, 1, none⟩ = some (.int .i64 x2) ∧ w'.cell? ⟨w.heap.size, 6, none⟩ = some (.int .i64 x7)) := fun w' hgr => by
    have hd := blk_grown hh hgr (own_ne o2 hh (by decide))
    have hx2 := blk_grown hxb hgr (own_ne o2 hxb (by decide))
    exact ⟨blk_cell hd 2, blk_cell hx2 1, blk_cell hx2 6⟩
  have HKG := Lib.hid hkg
  clear hkg
  have hst : stepF 9 ⟨rt, wd, ht, ce, me⟩ ⟨kd, x2, x3, x4, x5, x6, x7, tx, ⟨y1, y2, y3⟩⟩ = (⟨rt, wd, rr.1, ce, me⟩, rr.2) := by rw [hrr]; rfl
  rw [hst]
  clear hh o1 o2 o3 o4 hne hR hE hO hx hE1 hxb hrr hst hc hP hl hA
  show Calls Tryz.prog 47 #[.pointer (some ⟨D, 0, none⟩), .agg #[.int .i64 kd, .int .i64 x2, .int .i64 x3, .int .i64 x4, .int .i64 x5, .int .i64 x6, .int .i64 x7, .string tx, .int .i64 y1, .int .i64 y2, .int .i64 y3]] w fun e w' => e = .returned (.int .i64 rr.2) ∧ (rr.2 = 0 → Ed w' B D ⟨rt, wd, rr.1, ce, me⟩) ∧ Below B w w'
  obtain ⟨l1, r2⟩ := rr
  simp only [] at HC HP
  go_enter Tryz.func47, Tryz.ntmps47
  go_wp2
  go_region_held3 (fun w' => w'.cell? ⟨D, 2, none⟩ = some (.slice A2 ht.length c2) ∧ w'.cell? ⟨w.heap.size, 1, none⟩ = some (.int .i64 x2) ∧ w'.cell? ⟨w.heap.size, 6, none⟩ = some (.int .i64 x7))
    (first
      | exact ⟨p2, q1, q6⟩
      | exact HKG.out _ HG.out)
    (first
      | (go_at_call 74; refine (HC.out _ (Ow.drew HOO.out)).mono ?_; rintro e w5 ⟨rfl, ho, hgr, _⟩; have HO := Lib.hid ho; have HG := Lib.hid (grown_drew hgr); clear ho hgr))
  go_wp2
  go_ret
  exact ⟨rfl, fun _ => (HP.out _ HO.out HG.out).1, (HP.out _ HO.out HG.out).2⟩
theorem wide_any : StepC 48 (stepF 10) := by
  intro w B D s x hE hO hx
  obtain ⟨rt, wd, ht, ce, me⟩ := s
  obtain ⟨kd, x2, x3, x4, x5, x6, x7, tx, ⟨y1, y2, y3⟩⟩ := x
  have hE1 := hE.below (below_alloc (Below.refl w.heap.size w) (Obj.cells #[.int .i64 kd, .int .i64 x2, .int .i64 x3, .int .i64 x4, .int .i64 x5, .int .i64 x6, .int .i64 x7, .string tx, .int .i64 y1, .int .i64 y2, .int .i64 y3] 33 (0, 0)))
  have hBw := hE.le
  obtain ⟨⟨A1, c1, A2, c2, A3, c3, A4, c4⟩, hh, o1, o2, o3, o4, hne, hB, hR⟩ := hE1.open
  obtain ⟨p0, p1, p2, p3, p4, f0, f1, f2, f3, f4⟩ := ed5 hh
  have hxb := blk_new w (Obj.cells #[.int .i64 kd, .int .i64 x2, .int .i64 x3, .int .i64 x4, .int .i64 x5, .int .i64 x6, .int .i64 x7, .string tx, .int .i64 y1, .int .i64 y2, .int .i64 y3] 33 (0, 0))
  obtain ⟨q0, q1, q2, q3, q4, q5, q6, q7, q8, q9, q10⟩ := eleven (x := ⟨kd, x2, x3, x4, x5, x6, x7, tx, ⟨y1, y2, y3⟩⟩) hxb
  have hA := below_mono (below_alloc (Below.refl w.heap.size w) (Obj.cells #[.int .i64 kd, .int .i64 x2, .int .i64 x3, .int .i64 x4, .int .i64 x5, .int .i64 x6, .int .i64 x7, .string tx, .int .i64 y1, .int .i64 y2, .int .i64 y3] 33 (0, 0))) hBw
  simp only [] at p0 p1 p2 p3 p4 q0 q1 q2 q3 q4 q5 q6 q7 q8 q9 q10
  have hl : wd.length ≤ 1000 := by have h1 := hO.htn; have h2 := hO.wdn; simp only at h1 h2; omega
  have hc := fun W (ho : OwI W B (.slice A1 wd.length c1) wd) => resize_any ho hl x3 x7 60
  obtain ⟨rr, hrr⟩ : ∃ rr, rr = rszF wd x3 x7 60 := ⟨_, rfl⟩
  rw [← hrr] at hc
  have hP : ∀ w', OwI w' B (.slice A1 wd.length c1) rr.1 → (w.alloc (Obj.cells #[.int .i64 kd, .int .i64 x2, .int .i64 x3, .int .i64 x4, .int .i64 x5, .int .i64 x6, .int .i64 x7, .string tx, .int .i64 y1, .int .i64 y2, .int .i64 y3] 33 (0, 0))).grownBy w' (Value.slice A1 wd.length c1).ownBlock → Ed w' B D ⟨rt, rr.1, ht, ce, me⟩ ∧ Below B w w' := fun w' ho hgr =>
    ⟨⟨_, _, _, _, blk_grown hh hgr (own_ne o1 hh (by decide)), ho, own_other o2 hgr (ne_other hne), own_other o3 hgr (own_apart o3 o1 (by decide)), own_other o4 hgr (own_apart o4 o1 (by decide)), hne, hB⟩, hA.grown hgr (Nat.le_trans hBw hA.size) (own_base o1)⟩
  have HC := Lib.hid hc
  have HP := Lib.hid hP
  have HOO := Lib.hid o1
  have hkg : ∀ w', (w.alloc (Obj.cells #[.int .i64 kd, .int .i64 x2, .int .i64 x3, .int .i64 x4, .int .i64 x5, .int .i64 x6, .int .i64 x7, .string tx, .int .i64 y1, .int .i64 y2, .int .i64 y3] 33 (0, 0))).grownBy w' (Value.slice A1 wd.length c1).ownBlock → (w'.cell? ⟨D, 1, none⟩ = some (.slice A1 wd.length c1) ∧ w'.cell? ⟨w.heap.size, 2, none⟩ = some (.int .i64 x3) ∧ w'.cell? ⟨w.heap.size, 6, none⟩ = some (.int .i64 x7)) := fun w' hgr => by
    have hd := blk_grown hh hgr (own_ne o1 hh (by decide))
    have hx2 := blk_grown hxb hgr (own_ne o1 hxb (by decide))
    exact ⟨blk_cell hd 1, blk_cell hx2 2, blk_cell hx2 6⟩
  have HKG := Lib.hid hkg
  clear hkg
  have hst : stepF 10 ⟨rt, wd, ht, ce, me⟩ ⟨kd, x2, x3, x4, x5, x6, x7, tx, ⟨y1, y2, y3⟩⟩ = (⟨rt, rr.1, ht, ce, me⟩, rr.2) := by rw [hrr]; rfl
  rw [hst]
  clear hh o1 o2 o3 o4 hne hR hE hO hx hE1 hxb hrr hst hc hP hl hA
  show Calls Tryz.prog 48 #[.pointer (some ⟨D, 0, none⟩), .agg #[.int .i64 kd, .int .i64 x2, .int .i64 x3, .int .i64 x4, .int .i64 x5, .int .i64 x6, .int .i64 x7, .string tx, .int .i64 y1, .int .i64 y2, .int .i64 y3]] w fun e w' => e = .returned (.int .i64 rr.2) ∧ (rr.2 = 0 → Ed w' B D ⟨rt, rr.1, ht, ce, me⟩) ∧ Below B w w'
  obtain ⟨l1, r2⟩ := rr
  simp only [] at HC HP
  go_enter Tryz.func48, Tryz.ntmps48
  go_wp2
  go_region_held3 (fun w' => w'.cell? ⟨D, 1, none⟩ = some (.slice A1 wd.length c1) ∧ w'.cell? ⟨w.heap.size, 2, none⟩ = some (.int .i64 x3) ∧ w'.cell? ⟨w.heap.size, 6, none⟩ = some (.int .i64 x7))
    (first
      | exact ⟨p1, q2, q6⟩
      | exact HKG.out _ HG.out)
    (first
      | (go_at_call 74; refine (HC.out _ (Ow.drew HOO.out)).mono ?_; rintro e w5 ⟨rfl, ho, hgr, _⟩; have HO := Lib.hid ho; have HG := Lib.hid (grown_drew hgr); clear ho hgr))
  go_wp2
  go_ret
  exact ⟨rfl, fun _ => (HP.out _ HO.out HG.out).1, (HP.out _ HO.out HG.out).2⟩
end Go.Proofs.YtcofacgdijjnoaaGreat
end
section
namespace Go.Proofs.YtcofacgdijjnoaaGreat
open PE (S31 S44 S49 k44 k49 k31)
open Go.RowKit Go.Shelf Go.Lib Go.Proofs.YtcofacgdijjnoaaGreatW.PrintWords Go.Proofs.YtcofacgdijjnoaaGreatW.PrintLast Go.Proofs.YtcofacgdijjnoaaGreatW.PrintMore
set_option linter.unusedVariables false
set_option linter.unusedSimpArgs false
set_option maxRecDepth 100000
set_option maxHeartbeats 2000000
/-! ## cells of a row of the call's own, written; a row's end, cleared -/
theorem own_setCells {base : Nat} {e : TypeId} {size n g cap : Nat} : ∀ (vs : List Value) (o : Nat) {w : World} {xs : List Value}, w.ownsRow base e size (.slice (some ⟨g, 0, none⟩) n cap) n xs → o + vs.length ≤ xs.length →
    (w.setCells g o vs).ownsRow base e size (.slice (some ⟨g, 0, none⟩) n cap) n (xs.take o ++ vs ++ xs.drop (o + vs.length))
  | [], o, w, xs, h, _ => by simpa [World.setCells] using h
  | v :: r, o, w, xs, h, hl => by
      have h1 := own_setCells r (o + 1) (own_setW h o v) (by rw [List.length_set]; simp only [List.length_cons] at hl; omega)
      have hlt : o < xs.length := by simp only [List.length_cons] at hl; omega
      have e1 : (xs.set o v).take (o + 1) = xs.take o ++ [v] := by
        rw [List.take_succ_eq_append_getElem (by rw [List.length_set]; exact hlt), List.getElem_set_self, List.take_set_of_le (Nat.le_refl o)]
      have e2 : (xs.set o v).drop (o + 1 + r.length) = xs.drop (o + (v :: r).length) := by
        rw [List.drop_set_of_lt (by omega), List.length_cons]; congr 1; omega
      rw [e1, e2, List.append_assoc, List.append_assoc] at h1
      show ((w.setCell ⟨g, o, none⟩ v).setCells g (o + 1) r).ownsRow _ _ _ _ _ _
      rw [List.append_assoc]
      exact h1
theorem grown_setCells {g : Nat} : ∀ (vs : List Value) (o : Nat) (w : World), w.grownBy (w.setCells g o vs) (some g)
  | [], _, w => World.grownBy.refl w _
  | v :: r, o, w => by
      have h1 : w.grownBy (w.setCell ⟨g, o, none⟩ v) (some g) := ⟨rfl, rfl, rfl, by simp [World.setCell], fun k hk hne => Below.heap_setCell _ _ _ _ (by intro e; exact hne (by rw [e]))⟩
      exact h1.trans (grown_setCells r (o + 1) _)
theorem clear_run (w : World) (t e ty : TypeId) (z : Value) (zs : List Value) (k : Nat) (ht : Tryz.prog.underlying t = some (.slice e)) (hv : ∀ w, (zeroValue e).run Tryz.prog w = .ok z w) (hz : z.cells = zs.toArray) (hk : zs.length = k) (hk0 : 0 < k) (h1 : ∀ v ∈ zs, v.oneCell' = true) (b o n c : Nat) (hn : 0 < n)
    (hc : ∀ j, j < n * k → (w.cell? ⟨b, o + j, none⟩).isSome = true) (hf : ∀ j, j < n * k → w.frozen? ⟨b, o + j, none⟩ = false) :
    ∃ L : List Value, L.length = n * k ∧ (Builtin.clear_ #[t] ty #[.slice (some ⟨b, o, none⟩) n c]).run Tryz.prog w = .ok (.tuple #[]) (w.setCells b o L) := by
  have hsz : z.cells.size = k := by rw [hz]; simpa using hk
  have hlen : (Builtin.zeroCells z.cells n).toList.length = n * k := by
    simp [Builtin.zeroCells, hsz]
  have hone : ∀ v ∈ (Builtin.zeroCells z.cells n).toList, v.oneCell' = true := by
    intro v hv
    rw [Builtin.zeroCells, Array.toList_map, List.mem_map] at hv
    obtain ⟨i, _, rfl⟩ := hv
    have hlt : i % z.cells.size < z.cells.size := Nat.mod_lt _ (by omega)
    rw [getElem!_pos z.cells _ hlt]
    apply h1
    have : z.cells[i % z.cells.size] ∈ z.cells := Array.getElem_mem hlt
    have hm : ∀ a ∈ z.cells, a ∈ zs := by rw [hz]; intro a ha; simpa using ha
    exact hm _ this
  refine ⟨(Builtin.zeroCells z.cells n).toList, hlen, ?_⟩
  have hst := run_storeCells_cells (P := Tryz.prog) b o (Builtin.zeroCells z.cells n).toList 0 w (by simpa [hlen] using hc) (by simpa [hlen] using hf) hone
  simp only [Nat.add_zero] at hst
  obtain ⟨m, rfl⟩ : ∃ m, n = m + 1 := ⟨n - 1, by omega⟩
  simp [Builtin.clear_, run_underlying ht, hv, hst]
/-- what is asked of a test over a row that is being written -/
def TellsG (g : Nat) (lb : Array Value) {α : Type} (enc : α → Value) (p : α → Bool) (l : List α) (w : World) (row : Option Nat) : Prop :=
  ∀ (W : World) (x : α), x ∈ l → w.grownBy W row → Calls Tryz.prog g (#[enc x] ++ lb) W fun e w' => e = .returned (.bool (p x)) ∧ Below W.heap.size W w'
theorem ixF_at {α : Type} (p : α → Bool) : ∀ (l : List α) (i : Nat), (ixF p l i = -1 ∧ ∀ x ∈ l, p x = false) ∨ ∃ j, ∃ h : j < l.length, ixF p l i = (i + j : Nat) ∧ p l[j] = true ∧ ∀ q, ∀ h : q < l.length, q < j → p l[q] = false
  | [], i => .inl ⟨rfl, by simp⟩
  | x :: l, i => by
      rw [ixF]
      cases hq : p x with
      | true => exact .inr ⟨0, by simp, by simp, by simpa using hq, fun q _ h => absurd h (by omega)⟩
      | false =>
          rcases ixF_at p l (i + 1) with ⟨h1, h2⟩ | ⟨j, hj, h1, h2, h3⟩
          · exact .inl ⟨by simpa using h1, by intro y hy; rcases List.mem_cons.mp hy with rfl | hy; exact hq; exact h2 y hy⟩
          · refine .inr ⟨j + 1, by simpa using hj, ?_, by simpa using h2, fun q hq1 hq2 => ?_⟩
            · simp only [Bool.false_eq_true, if_false, h1]
              congr 1; omega
            · cases q with
              | zero => simpa using hq
              | succ q => simpa using h3 q (by simpa using hq1) (by omega)
/-- what is kept of a row's first ones -/
def kp {α : Type} (p : α → Bool) (l : List α) (j : Nat) : List α := (l.take j).filter fun x => !p x
theorem kp_succ {α : Type} (p : α → Bool) (l : List α) (j : Nat) (h : j < l.length) : kp p l (j + 1) = kp p l j ++ if p l[j] = true then [] else [l[j]] := by
  unfold kp
  rw [List.take_succ_eq_append_getElem h, List.filter_append]
  congr 1
  cases hq : p l[j] <;> simp [hq]
theorem kp_first {α : Type} (p : α → Bool) (l : List α) (j : Nat) (hj : j < l.length) (h1 : p l[j] = true) (h2 : ∀ q, ∀ h : q < l.length, q < j → p l[q] = false) : kp p l (j + 1) = l.take j := by
  rw [kp_succ p l j hj, if_pos h1, List.append_nil]
  unfold kp
  rw [List.filter_eq_self]
  intro x hx
  obtain ⟨q, hq, rfl⟩ := List.getElem_of_mem hx
  rw [List.length_take] at hq
  rw [List.getElem_take, h2 q (by omega) (by omega)]; rfl
theorem Ow.put {α : Type} {enc : α → List Value} {e k : Nat} (hk : ∀ x, (enc x).length = k) {w : World} {B c g : Nat} {l : List α} {n : Nat} (hn : n = l.length) (h : Ow enc e k w B (.slice (some ⟨g, 0, none⟩) n c) l) (i : Nat) (hi : i < n) (x : α) :
    Ow enc e k (w.setCells g (i * k) (enc x)) B (.slice (some ⟨g, 0, none⟩) n c) (l.set i x) := by
  subst hn
  unfold Ow
  rw [List.length_set, flt_set hk l i x hi]
  have hlen := flt_len hk l
  have h1 := own_setCells (enc x) (i * k) h (by rw [hlen, hk, ← Nat.succ_mul]; exact Nat.mul_le_mul_right _ hi)
  rw [hk, ← Nat.succ_mul] at h1
  exact h1
theorem Ow.clr {α : Type} {enc : α → List Value} {e k : Nat} (hk : ∀ x, (enc x).length = k) {w : World} {B c g : Nat} {l : List α} {n : Nat} (hn : n = l.length) (h : Ow enc e k w B (.slice (some ⟨g, 0, none⟩) n c) l) (i : Nat) (hi : i ≤ n) (L : List Value) (hL : L.length = (n - i) * k) :
    Ow enc e k (w.setCells g (i * k) L) B (.slice (some ⟨g, 0, none⟩) i c) (l.take i) := by
  subst hn
  have hlen := flt_len hk l
  have e0 : i * k + (l.length - i) * k = l.length * k := by rw [← Nat.add_mul]; congr 1; omega
  have h1 := own_setCells L (i * k) h (by rw [hlen, hL]; omega)
  have hl : (l.take i).length = i := by rw [List.length_take]; omega
  unfold Ow
  rw [hl, ← flt_take hk]
  obtain ⟨h2, h3⟩ := h1
  rcases h3 with ⟨hv, _⟩ | ⟨g', cap, cur, hv, hB, hg, hle, hm, hs, htk⟩
  · cases hv
  · injection hv with e1 e2 e3
    injection e1 with e1
    injection e1 with e1
    subst e1 e3
    have hle2 : i * k ≤ (flt enc l).length := by rw [hlen]; exact Nat.mul_le_mul_right _ hi
    refine ⟨by rw [List.length_take]; omega, .inr ⟨g, c, cur, rfl, hB, hg, by omega, hm, hs, ?_⟩⟩
    have := congrArg (List.take (i * k)) htk
    rw [List.take_take, Nat.min_eq_left (Nat.mul_le_mul_right _ hi)] at this
    rw [this, List.append_assoc, List.take_append, List.length_take, Nat.min_eq_left hle2, Nat.sub_self, List.take_zero, List.append_nil, List.take_take, Nat.min_self]
end Go.Proofs.YtcofacgdijjnoaaGreat
end
section
namespace Go.Proofs.YtcofacgdijjnoaaGreat
open PE (S31 S44 S49 k44 k49 k31)
open Go.RowKit Go.Shelf Go.Lib Go.Proofs.YtcofacgdijjnoaaGreatW.PrintWords Go.Proofs.YtcofacgdijjnoaaGreatW.PrintLast Go.Proofs.YtcofacgdijjnoaaGreatW.PrintMore
set_option linter.unusedVariables false
set_option linter.unusedSimpArgs false
set_option maxRecDepth 100000
set_option maxHeartbeats 2000000
theorem ocells4 {w : World} {B c g : Nat} {n : Nat} {R : List S49} {j : Nat} {x : S49} (h : Ow encR 49 4 w B (.slice (some ⟨g, 0, none⟩) n c) R) (hx : R[j]? = some x) :
    w.cell? ⟨g, j * 4, none⟩ = some (.int .i64 x.f0) ∧ w.cell? ⟨g, j * 4 + 1, none⟩ = some (.int .i64 x.f1) ∧ w.cell? ⟨g, j * 4 + 2, none⟩ = some (.int .i64 x.f2) ∧ w.cell? ⟨g, j * 4 + 3, none⟩ = some (.int .i64 x.f3) ∧ w.frozen? ⟨g, j * 4, none⟩ = false ∧ w.frozen? ⟨g, j * 4 + 1, none⟩ = false ∧ w.frozen? ⟨g, j * 4 + 2, none⟩ = false ∧ w.frozen? ⟨g, j * 4 + 3, none⟩ = false := by
  have key : ∀ r u, (encR x)[r]? = some u → w.cell? ⟨g, j * 4 + r, none⟩ = some u := fun r u hu => by
    have := h.cells (g := g) rfl (j * 4 + r) u (flt_get lenR hx hu)
    rwa [add_plain] at this
  have fz : ∀ r, w.frozen? ⟨g, r, none⟩ = false := fun r => by
    obtain ⟨cells, hc⟩ := own_typed h g rfl
    exact blk_frozen hc r
  exact ⟨key 0 _ rfl, key 1 _ rfl, key 2 _ rfl, key 3 _ rfl, fz _, fz _, fz _, fz _⟩
theorem ocells6 {w : World} {B c g : Nat} {n : Nat} {R : List S44} {j : Nat} {x : S44} (h : Ow encC 44 6 w B (.slice (some ⟨g, 0, none⟩) n c) R) (hx : R[j]? = some x) :
    w.cell? ⟨g, j * 6, none⟩ = some (.int .i64 x.f0) ∧ w.cell? ⟨g, j * 6 + 1, none⟩ = some (.int .i64 x.f1) ∧ w.cell? ⟨g, j * 6 + 2, none⟩ = some (.string x.f2) ∧ w.cell? ⟨g, j * 6 + 3, none⟩ = some (.int .i64 x.f3.f0) ∧ w.cell? ⟨g, j * 6 + 4, none⟩ = some (.int .i64 x.f3.f1) ∧ w.cell? ⟨g, j * 6 + 5, none⟩ = some (.int .i64 x.f3.f2) ∧ w.frozen? ⟨g, j * 6, none⟩ = false ∧ w.frozen? ⟨g, j * 6 + 1, none⟩ = false ∧ w.frozen? ⟨g, j * 6 + 2, none⟩ = false ∧ w.frozen? ⟨g, j * 6 + 3, none⟩ = false ∧ w.frozen? ⟨g, j * 6 + 4, none⟩ = false ∧ w.frozen? ⟨g, j * 6 + 5, none⟩ = false := by
  have key : ∀ r u, (encC x)[r]? = some u → w.cell? ⟨g, j * 6 + r, none⟩ = some u := fun r u hu => by
    have := h.cells (g := g) rfl (j * 6 + r) u (flt_get lenC hx hu)
    rwa [add_plain] at this
  have fz : ∀ r, w.frozen? ⟨g, r, none⟩ = false := fun r => by
    obtain ⟨cells, hc⟩ := own_typed h g rfl
    exact blk_frozen hc r
  exact ⟨key 0 _ rfl, key 1 _ rfl, key 2 _ rfl, key 3 _ rfl, key 4 _ rfl, key 5 _ rfl, fz _, fz _, fz _, fz _, fz _, fz _⟩
theorem ocell_some {α : Type} {enc : α → List Value} {e k : Nat} (hk : ∀ x, (enc x).length = k) {w : World} {B c g n : Nat} {R : List α} (hn : n = R.length) (h : Ow enc e k w B (.slice (some ⟨g, 0, none⟩) n c) R) (i : Nat) (hi : i ≤ n) :
    ∀ j, j < (n - i) * k → (w.cell? ⟨g, i * k + j, none⟩).isSome = true := by
  subst hn
  intro j hj
  have hl := flt_len hk R
  have e0 : i * k + (R.length - i) * k = R.length * k := by rw [← Nat.add_mul]; congr 1; omega
  have hlt : i * k + j < (flt enc R).length := by omega
  have := h.cells (g := g) rfl (i * k + j) _ (List.getElem?_eq_getElem hlt)
  rw [add_plain] at this
  rw [this]; rfl
/-- slices.DeleteFunc -/
theorem deleR_any {w : World} {B c : Nat} {A : Option Addr} {l : List S49} (p : S49 → Bool) (g0 : Nat) (lb : Array Value) (eg : ∀ args w, (callFunc g0 args).run Tryz.prog w = .ok (.enter g0 args) w) (h : Ow encR 49 4 w B (.slice A l.length c) l) (hl : l.length ≤ 1000)
    (hp : TellsG g0 lb (fun x => .agg (encR x).toArray) p l w (Value.slice A l.length c).ownBlock) :
    Calls Tryz.prog 69 #[.slice A l.length c, .func (.func g0) #[] lb] w fun e w' => ∃ v, e = .returned v ∧ Ow encR 49 4 w' B v (l.filter fun x => !p x) ∧ w.grownBy w' (Value.slice A l.length c).ownBlock ∧ v.ownBlock = (Value.slice A l.length c).ownBlock := by
  obtain ⟨A', c', hv, hlc, hC⟩ := Ow.reads rfl lenR kR h
  injection hv with hv1 _ hv3
  subst hv1 hv3
  have hix := idxR A l.length c l p g0 lb eg w hC (fun W x hx hb => hp W x hx (grown_of_below hb _))
  obtain ⟨x, hx⟩ : ∃ x, x = ixF p l 0 := ⟨_, rfl⟩
  have hat := ixF_at p l 0
  rw [← hx] at hix hat
  have HI := Lib.hid hix
  have HO := Lib.hid h
  have HP := Lib.hid hp
  clear hix h hp hx hC
  rcases hat with ⟨hx, hno⟩ | ⟨k, hk, hx, hpk, hpq⟩
  · subst hx
    have hf : (l.filter fun x => !p x) = l := by rw [List.filter_eq_self]; intro y hy; rw [hno y hy]; rfl
    rw [hf]
    have HN := Lib.hid hno
    clear hno hf
    go_enter Tryz.func69, Tryz.ntmps69
    go_wp2_with (go_at_call 58; refine HI.out.mono ?_; rintro e w1 ⟨rfl, hb1⟩)
    go_ret
    exact ⟨_, rfl, Ow.below HO.out hb1, grown_of_below hb1 _, rfl⟩
  · rw [Nat.zero_add] at hx
    subst hx
    obtain ⟨g, cur, rfl, hB, hg, hlc', hcm, hcs, htk⟩ := own_form HO.out (by omega)
    have HK := Lib.hid (kp_first p l k hk hpk hpq)
    have hk1 : ((k : Int) == -1) = false := by simp
    have hlen : l.length ≤ 1000 := hl
    clear hcs htk hg hpk hpq cur
    go_enter Tryz.func69, Tryz.ntmps69
    go_wp2_with (go_at_call 58; refine HI.out.mono ?_; rintro e w1 ⟨rfl, hb1⟩; have HB1 := Lib.hid hb1; clear hb1)
    have hB0 : Hid (w.grownBy w1 (some g)) := Lib.hid (grown_of_below HB1.out _)
    have hO1 := Lib.hid (Ow.below HO.out HB1.out)
    go_loopg [5, 6] (l.length - (k + 1)) (fun gg v5 v6 wr => ∃ (j i : Nat) (R : List S49), j ≤ l.length ∧ gg = l.length - j ∧ v5 = .int .i64 i ∧ v6 = .int .i64 j ∧ i < j ∧ R.length = l.length ∧ Hid (Ow encR 49 4 wr B (.slice (some ⟨g, 0, none⟩) l.length c) R) ∧ Hid (w.grownBy wr (some g)) ∧ Hid (R.take i = kp p l j) ∧ Hid (R.drop j = l.drop j))
    case atStart => exact ⟨k + 1, k, l, by omega, by omega, rfl, by go_num, by omega, rfl, hO1, hB0, Lib.hid HK.out.symm, Lib.hid rfl⟩
    case round =>
      clear HB1 hB0 hO1 HI HK
      obtain ⟨j, i, R, hj, hg, rfl, rfl, hij, hRl, HO1, HG1, HT, HDr⟩ := hrel
      have Hg := Lib.hid hg
      have HRl := Lib.hid hRl
      clear hg hRl
      by_cases hlt : j < l.length
      · have hjR : j < R.length := by rw [HRl.out]; exact hlt
        have hlz : (j : Int) < (l.length : Int) := by omega
        have hxl : R[j] = l[j] := by
          have := HDr.out
          rw [List.drop_eq_getElem_cons hjR, List.drop_eq_getElem_cons hlt] at this
          exact (List.cons.inj this).1
        have hdr2 : R.drop (j + 1) = l.drop (j + 1) := by
          have := HDr.out
          rw [List.drop_eq_getElem_cons hjR, List.drop_eq_getElem_cons hlt] at this
          exact (List.cons.inj this).2
        have hiR : i < R.length := by omega
        have hil : (i : Int) < (l.length : Int) := by omega
        obtain ⟨p0, p1, p2, p3, f0, f1, f2, f3⟩ := ocells4 HO1.out (List.getElem?_eq_getElem hjR)
        have hkp := kp_succ p l j hlt
        have hxm := List.getElem_mem hlt
        have hRj : R[j]? = some l[j] := by rw [List.getElem?_eq_getElem hjR, hxl]
        rw [hxl] at p0 p1 p2 p3
        obtain ⟨x, hx⟩ : ∃ x, x = l[j] := ⟨_, rfl⟩
        rw [← hx] at p0 p1 p2 p3 hkp hxm hRj
        have hba := below_alloc (Below.refl wr.heap.size wr) (Obj.cells #[.int .i64 x.f0, .int .i64 x.f1, .int .i64 x.f2, .int .i64 x.f3] 49 (0, 0))
        have hgx : w.grownBy (wr.alloc (Obj.cells #[.int .i64 x.f0, .int .i64 x.f1, .int .i64 x.f2, .int .i64 x.f3] 49 (0, 0))) (some g) := HG1.out.trans (grown_of_below hba _)
        have hcall := HP.out (wr.alloc (Obj.cells #[.int .i64 x.f0, .int .i64 x.f1, .int .i64 x.f2, .int .i64 x.f3] 49 (0, 0))) x hxm hgx
        have hoa := Ow.below HO1.out hba
        obtain ⟨m0, m1, m2, m3⟩ := four (r := x) (blk_new wr (Obj.cells #[.int .i64 x.f0, .int .i64 x.f1, .int .i64 x.f2, .int .i64 x.f3] 49 (0, 0)))
        cases hq : p x with
        | true =>
          rw [hq] at hcall hkp
          rw [if_pos rfl, List.append_nil] at hkp
          have HC := Lib.hid hcall
          have HKP := Lib.hid hkp
          have HOA := Lib.hid hoa
          have HGX := Lib.hid hgx
          have HD2 := Lib.hid hdr2
          clear hcall hkp hoa hgx hba hq hx hxl hdr2 hxm hRj
          go_wp2_with (go_at_fn g0; refine HC.out.mono ?_; rintro e w2 ⟨rfl, hb2⟩)
          go_roundg (l.length - (j + 1))
          case measure => have := Hg.out; omega
          case rel => exact ⟨j + 1, i, R, by omega, rfl, rfl, by go_num, by omega, HRl.out, Lib.hid (Ow.below HOA.out hb2), Lib.hid (HGX.out.trans (grown_of_below hb2 _)), Lib.hid (HT.out.trans HKP.out.symm), HD2⟩
        | false =>
          rw [hq] at hcall hkp
          rw [if_neg (by decide)] at hkp
          have hiR2 : R[i]? = some R[i] := List.getElem?_eq_getElem hiR
          obtain ⟨y, hy⟩ : ∃ y, y = R[i] := ⟨_, rfl⟩
          rw [← hy] at hiR2
          have HY := Lib.hid hiR2
          have HC := Lib.hid hcall
          have HKP := Lib.hid hkp
          have HOA := Lib.hid hoa
          have HGX := Lib.hid hgx
          have HD2 := Lib.hid hdr2
          have hi0 : (0 : Int) ≤ (i : Int) := by omega
          clear hcall hkp hoa hgx hba hq hx hxl hdr2 hxm hRj hy hiR2
          go_wp2_with (go_at_fn g0; refine HC.out.mono ?_; rintro e w2 ⟨rfl, hb2⟩; obtain ⟨m0, m1, m2, m3⟩ := four (r := x) (blk_below (blk_new wr (Obj.cells #[.int .i64 x.f0, .int .i64 x.f1, .int .i64 x.f2, .int .i64 x.f3] 49 (0, 0))) hb2); obtain ⟨q0, q1, q2, q3, f0, f1, f2, f3⟩ := ocells4 (Ow.below HOA.out hb2) HY.out; have HO2 := Lib.hid (Ow.below HOA.out hb2); have HG2 := Lib.hid (HGX.out.trans (grown_of_below hb2 (some g))); clear hb2)
          go_roundg (l.length - (j + 1))
          case measure => have := Hg.out; omega
          case rel =>
            refine ⟨j + 1, i + 1, R.set i x, by omega, rfl, by go_num, by go_num, by omega, by rw [List.length_set]; exact HRl.out, Lib.hid (HO2.out.put lenR HRl.out.symm i (by omega) x), Lib.hid (HG2.out.trans (grown_setCells (encR x) (i * 4) w2)), Lib.hid ?_, Lib.hid ?_⟩
            · rw [HKP.out, ← HT.out, List.take_succ_eq_append_getElem (by rw [List.length_set]; omega), List.getElem_set_self, List.take_set_of_le (Nat.le_refl i)]
            · rw [List.drop_set_of_lt (by omega)]; exact HD2.out
      · have hlz : ¬ (j : Int) < (l.length : Int) := by omega
        have hjl : j = l.length := by omega
        have hil : i < l.length := by omega
        have hRl := HRl.out
        have hkpl : kp p l j = l.filter fun x => !p x := by unfold kp; rw [List.take_of_length_le (by omega)]
        obtain ⟨cells, hcl⟩ := own_typed HO1.out g rfl
        have hclr := fun ty => clear_run wr 24 49 ty (.agg #[.int .i64 0, .int .i64 0, .int .i64 0, .int .i64 0]) [.int .i64 0, .int .i64 0, .int .i64 0, .int .i64 0] 4 Tryz.underlying24 (fun w => by kernel_rfl) rfl rfl (by decide) (by decide) g (i * 4) (l.length - i) (c - i) (by omega) (ocell_some lenR hRl.symm HO1.out i (by omega)) (fun q _ => blk_frozen hcl _)
        obtain ⟨L, hL, hrun⟩ := hclr 0
        have HKPL := Lib.hid hkpl
        have hi0 : (0 : Int) ≤ (i : Int) := by omega
        have hilz : (i : Int) ≤ (l.length : Int) := by omega
        have HLL := Lib.hid hL
        have HOF := Lib.hid (HO1.out.clr lenR hRl.symm i (by omega) L hL)
        have HGF := Lib.hid (HG1.out.trans (grown_setCells L (i * 4) wr))
        have hici : (i : Int) ≤ (c : Int) := by omega
        have htk : R.take i = l.filter fun x => !p x := by rw [HT.out, hkpl]
        have hli : (R.take i).length = i := by rw [List.length_take]; omega
        have HTK := Lib.hid htk
        have HLI := Lib.hid hli
        clear hclr hkpl hRl hcl hL htk hli
        go_wp2
        go_ret
        refine ⟨.slice (some ⟨g, 0, none⟩) i c, rfl, ?_, HGF.out, rfl⟩
        rw [← HTK.out]
        exact HOF.out
/-- slices.DeleteFunc -/
theorem deleC_any {w : World} {B c : Nat} {A : Option Addr} {l : List S44} (p : S44 → Bool) (g0 : Nat) (lb : Array Value) (eg : ∀ args w, (callFunc g0 args).run Tryz.prog w = .ok (.enter g0 args) w) (h : Ow encC 44 6 w B (.slice A l.length c) l) (hl : l.length ≤ 1000)
    (hp : TellsG g0 lb (fun x => .agg (encC x).toArray) p l w (Value.slice A l.length c).ownBlock) :
    Calls Tryz.prog 67 #[.slice A l.length c, .func (.func g0) #[] lb] w fun e w' => ∃ v, e = .returned v ∧ Ow encC 44 6 w' B v (l.filter fun x => !p x) ∧ w.grownBy w' (Value.slice A l.length c).ownBlock ∧ v.ownBlock = (Value.slice A l.length c).ownBlock := by
  obtain ⟨A', c', hv, hlc, hC⟩ := Ow.reads rfl lenC kC h
  injection hv with hv1 _ hv3
  subst hv1 hv3
  have hix := idxC A l.length c l p g0 lb eg w hC (fun W x hx hb => hp W x hx (grown_of_below hb _))
  obtain ⟨x, hx⟩ : ∃ x, x = ixF p l 0 := ⟨_, rfl⟩
  have hat := ixF_at p l 0
  rw [← hx] at hix hat
  have HI := Lib.hid hix
  have HO := Lib.hid h
  have HP := Lib.hid hp
  clear hix h hp hx hC
  rcases hat with ⟨hx, hno⟩ | ⟨k, hk, hx, hpk, hpq⟩
  · subst hx
    have hf : (l.filter fun x => !p x) = l := by rw [List.filter_eq_self]; intro y hy; rw [hno y hy]; rfl
    rw [hf]
    have HN := Lib.hid hno
    clear hno hf
    go_enter Tryz.func67, Tryz.ntmps67
    go_wp2_with (go_at_call 34; refine HI.out.mono ?_; rintro e w1 ⟨rfl, hb1⟩)
    go_ret
    exact ⟨_, rfl, Ow.below HO.out hb1, grown_of_below hb1 _, rfl⟩
  · rw [Nat.zero_add] at hx
    subst hx
    obtain ⟨g, cur, rfl, hB, hg, hlc', hcm, hcs, htk⟩ := own_form HO.out (by omega)
    have HK := Lib.hid (kp_first p l k hk hpk hpq)
    have hk1 : ((k : Int) == -1) = false := by simp
    have hlen : l.length ≤ 1000 := hl
    clear hcs htk hg hpk hpq cur
    go_enter Tryz.func67, Tryz.ntmps67
    go_wp2_with (go_at_call 34; refine HI.out.mono ?_; rintro e w1 ⟨rfl, hb1⟩; have HB1 := Lib.hid hb1; clear hb1)
    have hB0 : Hid (w.grownBy w1 (some g)) := Lib.hid (grown_of_below HB1.out _)
    have hO1 := Lib.hid (Ow.below HO.out HB1.out)
    go_loopg [5, 6] (l.length - (k + 1)) (fun gg v5 v6 wr => ∃ (j i : Nat) (R : List S44), j ≤ l.length ∧ gg = l.length - j ∧ v5 = .int .i64 i ∧ v6 = .int .i64 j ∧ i < j ∧ R.length = l.length ∧ Hid (Ow encC 44 6 wr B (.slice (some ⟨g, 0, none⟩) l.length c) R) ∧ Hid (w.grownBy wr (some g)) ∧ Hid (R.take i = kp p l j) ∧ Hid (R.drop j = l.drop j))
    case atStart => exact ⟨k + 1, k, l, by omega, by omega, rfl, by go_num, by omega, rfl, hO1, hB0, Lib.hid HK.out.symm, Lib.hid rfl⟩
    case round =>
      clear HB1 hB0 hO1 HI HK
      obtain ⟨j, i, R, hj, hg, rfl, rfl, hij, hRl, HO1, HG1, HT, HDr⟩ := hrel
      have Hg := Lib.hid hg
      have HRl := Lib.hid hRl
      clear hg hRl
      by_cases hlt : j < l.length
      · have hjR : j < R.length := by rw [HRl.out]; exact hlt
        have hlz : (j : Int) < (l.length : Int) := by omega
        have hxl : R[j] = l[j] := by
          have := HDr.out
          rw [List.drop_eq_getElem_cons hjR, List.drop_eq_getElem_cons hlt] at this
          exact (List.cons.inj this).1
        have hdr2 : R.drop (j + 1) = l.drop (j + 1) := by
          have := HDr.out
          rw [List.drop_eq_getElem_cons hjR, List.drop_eq_getElem_cons hlt] at this
          exact (List.cons.inj this).2
        have hiR : i < R.length := by omega
        have hil : (i : Int) < (l.length : Int) := by omega
        obtain ⟨p0, p1, p2, p3, p4, p5, f0, f1, f2, f3, f4, f5⟩ := ocells6 HO1.out (List.getElem?_eq_getElem hjR)
        have hkp := kp_succ p l j hlt
        have hxm := List.getElem_mem hlt
        have hRj : R[j]? = some l[j] := by rw [List.getElem?_eq_getElem hjR, hxl]
        rw [hxl] at p0 p1 p2 p3 p4 p5
        obtain ⟨x, hx⟩ : ∃ x, x = l[j] := ⟨_, rfl⟩
        rw [← hx] at p0 p1 p2 p3 p4 p5 hkp hxm hRj
        have hba := below_alloc (Below.refl wr.heap.size wr) (Obj.cells #[.int .i64 x.f0, .int .i64 x.f1, .string x.f2, .int .i64 x.f3.f0, .int .i64 x.f3.f1, .int .i64 x.f3.f2] 44 (0, 0))
        have hgx : w.grownBy (wr.alloc (Obj.cells #[.int .i64 x.f0, .int .i64 x.f1, .string x.f2, .int .i64 x.f3.f0, .int .i64 x.f3.f1, .int .i64 x.f3.f2] 44 (0, 0))) (some g) := HG1.out.trans (grown_of_below hba _)
        have hcall := HP.out (wr.alloc (Obj.cells #[.int .i64 x.f0, .int .i64 x.f1, .string x.f2, .int .i64 x.f3.f0, .int .i64 x.f3.f1, .int .i64 x.f3.f2] 44 (0, 0))) x hxm hgx
        have hoa := Ow.below HO1.out hba
        obtain ⟨m0, m1, m2, m3, m4, m5⟩ := six (x := x) (blk_new wr (Obj.cells #[.int .i64 x.f0, .int .i64 x.f1, .string x.f2, .int .i64 x.f3.f0, .int .i64 x.f3.f1, .int .i64 x.f3.f2] 44 (0, 0)))
        cases hq : p x with
        | true =>
          rw [hq] at hcall hkp
          rw [if_pos rfl, List.append_nil] at hkp
          have HC := Lib.hid hcall
          have HKP := Lib.hid hkp
          have HOA := Lib.hid hoa
          have HGX := Lib.hid hgx
          have HD2 := Lib.hid hdr2
          clear hcall hkp hoa hgx hba hq hx hxl hdr2 hxm hRj
          go_wp2_with (go_at_fn g0; refine HC.out.mono ?_; rintro e w2 ⟨rfl, hb2⟩)
          go_roundg (l.length - (j + 1))
          case measure => have := Hg.out; omega
          case rel => exact ⟨j + 1, i, R, by omega, rfl, rfl, by go_num, by omega, HRl.out, Lib.hid (Ow.below HOA.out hb2), Lib.hid (HGX.out.trans (grown_of_below hb2 _)), Lib.hid (HT.out.trans HKP.out.symm), HD2⟩
        | false =>
          rw [hq] at hcall hkp
          rw [if_neg (by decide)] at hkp
          have hiR2 : R[i]? = some R[i] := List.getElem?_eq_getElem hiR
          obtain ⟨y, hy⟩ : ∃ y, y = R[i] := ⟨_, rfl⟩
          rw [← hy] at hiR2
          have HY := Lib.hid hiR2
          have HC := Lib.hid hcall
          have HKP := Lib.hid hkp
          have HOA := Lib.hid hoa
          have HGX := Lib.hid hgx
          have HD2 := Lib.hid hdr2
          have hi0 : (0 : Int) ≤ (i : Int) := by omega
          clear hcall hkp hoa hgx hba hq hx hxl hdr2 hxm hRj hy hiR2
          go_wp2_with (go_at_fn g0; refine HC.out.mono ?_; rintro e w2 ⟨rfl, hb2⟩; obtain ⟨m0, m1, m2, m3, m4, m5⟩ := six (x := x) (blk_below (blk_new wr (Obj.cells #[.int .i64 x.f0, .int .i64 x.f1, .string x.f2, .int .i64 x.f3.f0, .int .i64 x.f3.f1, .int .i64 x.f3.f2] 44 (0, 0))) hb2); obtain ⟨q0, q1, q2, q3, q4, q5, f0, f1, f2, f3, f4, f5⟩ := ocells6 (Ow.below HOA.out hb2) HY.out; have HO2 := Lib.hid (Ow.below HOA.out hb2); have HG2 := Lib.hid (HGX.out.trans (grown_of_below hb2 (some g))); clear hb2)
          go_roundg (l.length - (j + 1))
          case measure => have := Hg.out; omega
          case rel =>
            refine ⟨j + 1, i + 1, R.set i x, by omega, rfl, by go_num, by go_num, by omega, by rw [List.length_set]; exact HRl.out, Lib.hid (HO2.out.put lenC HRl.out.symm i (by omega) x), Lib.hid (HG2.out.trans (grown_setCells (encC x) (i * 6) w2)), Lib.hid ?_, Lib.hid ?_⟩
            · rw [HKP.out, ← HT.out, List.take_succ_eq_append_getElem (by rw [List.length_set]; omega), List.getElem_set_self, List.take_set_of_le (Nat.le_refl i)]
            · rw [List.drop_set_of_lt (by omega)]; exact HD2.out
      · have hlz : ¬ (j : Int) < (l.length : Int) := by omega
        have hjl : j = l.length := by omega
        have hil : i < l.length := by omega
        have hRl := HRl.out
        have hkpl : kp p l j = l.filter fun x => !p x := by unfold kp; rw [List.take_of_length_le (by omega)]
        obtain ⟨cells, hcl⟩ := own_typed HO1.out g rfl
        have hclr := fun ty => clear_run wr 23 44 ty (.agg #[.int .i64 0, .int .i64 0, .string ⟨#[]⟩, .int .i64 0, .int .i64 0, .int .i64 0]) [.int .i64 0, .int .i64 0, .string ⟨#[]⟩, .int .i64 0, .int .i64 0, .int .i64 0] 6 Tryz.underlying23 (fun w => by kernel_rfl) rfl rfl (by decide) (by decide) g (i * 6) (l.length - i) (c - i) (by omega) (ocell_some lenC hRl.symm HO1.out i (by omega)) (fun q _ => blk_frozen hcl _)
        obtain ⟨L, hL, hrun⟩ := hclr 0
        have HKPL := Lib.hid hkpl
        have hi0 : (0 : Int) ≤ (i : Int) := by omega
        have hilz : (i : Int) ≤ (l.length : Int) := by omega
        have HLL := Lib.hid hL
        have HOF := Lib.hid (HO1.out.clr lenC hRl.symm i (by omega) L hL)
        have HGF := Lib.hid (HG1.out.trans (grown_setCells L (i * 6) wr))
        have hici : (i : Int) ≤ (c : Int) := by omega
        have htk : R.take i = l.filter fun x => !p x := by rw [HT.out, hkpl]
        have hli : (R.take i).length = i := by rw [List.length_take]; omega
        have HTK := Lib.hid htk
        have HLI := Lib.hid hli
        clear hclr hkpl hRl hcl hL htk hli
        go_wp2
        go_ret
        refine ⟨.slice (some ⟨g, 0, none⟩) i c, rfl, ?_, HGF.out, rfl⟩
        rw [← HTK.out]
        exact HOF.out
end Go.Proofs.YtcofacgdijjnoaaGreat
end
