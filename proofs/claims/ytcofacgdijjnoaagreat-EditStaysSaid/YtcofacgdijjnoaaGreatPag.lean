/- sheet: more of the tests that are handed to the library: walked. sheet: more of the tests that are handed to the library: walked. sheet: more of the tests that are handed to the library: walked. sheet: more of the tests that are handed to the library: walked. -/
import Derived.Test.YtcofacgdijjnoaaGreatPae
import Derived.Test.YtcofacgdijjnoaaGreatPaf
import Derived.IntWalk
section
namespace Go.Proofs.YtcofacgdijjnoaaGreat
open PE (S31 S44 S49 k44 k49 k31)
open Go.RowKit Go.Shelf Go.Lib Go.Proofs.YtcofacgdijjnoaaGreatW.PrintWords Go.Proofs.YtcofacgdijjnoaaGreatW.PrintLast Go.Proofs.YtcofacgdijjnoaaGreatW.PrintMore
set_option linter.unusedVariables false
set_option linter.unusedSimpArgs false
set_option maxRecDepth 100000
set_option maxHeartbeats 2000000
theorem cmp_two (a b c d : Int) : PE.slices_Compare_int_int.f 3 [a, b] [c, d] = some (if a < c then -1 else if a > c then 1 else if b < d then -1 else if b > d then 1 else 0) := by
  have hn : ∀ x : Int, PE.cmp_isNaN_int.f x = some false := fun x => by simp [PE.cmp_isNaN_int.f]
  have hc : ∀ x y : Int, PE.cmp_Compare_int.f x y = some (if x < y then -1 else if x > y then 1 else 0) := fun x y => by
    unfold PE.cmp_Compare_int.f
    rw [hn, hn]
    simp only [Option.bind_some, Bool.false_eq_true, if_false]
    split
    · rfl
    · split <;> rfl
  have r0 : ∀ x y : Int, rd [x, y] 0 = x := fun _ _ => rfl
  have r1 : ∀ x y : Int, rd [x, y] 1 = y := fun _ _ => rfl
  have w1 : wrap64 (0 + 1) = 1 := by unfold wrap64; omega
  have w2 : wrap64 (1 + 1) = 2 := by unfold wrap64; omega
  unfold PE.slices_Compare_int_int.f
  rw [PE.slices_Compare_int_int.l0]
  simp only [hc, r0, r1, w1, List.length_cons, List.length_nil, Option.bind_some]
  rw [if_pos (by decide), if_pos (by decide), if_pos (by decide), if_neg (by decide), if_pos (by decide)]
  by_cases h1 : a < c
  · simp [h1]
  · simp only [h1, if_false]
    by_cases h2 : a > c
    · simp [h2]
    · simp only [h2, if_false, if_true]
      rw [PE.slices_Compare_int_int.l0]
      simp only [hc, r0, r1, w2, List.length_cons, List.length_nil, Option.bind_some]
      rw [if_pos (by decide), if_pos (by decide), if_pos (by decide), if_neg (by decide), if_pos (by decide)]
      by_cases h3 : b < d
      · simp [h3]
      · simp only [h3, if_false]
        by_cases h4 : b > d
        · simp [h4]
        · simp only [h4, if_false, if_true]
          rw [PE.slices_Compare_int_int.l0]
          rfl
theorem C_box {w : World} {B : Nat} {a b : Int} (h : w.heap[B]? = some (.cells #[.int .i64 a, .int .i64 b] 40 (0, 0))) : Kd.C (Kd.int .i64) w (some ⟨B, 0, none⟩) [a, b].length [a, b] := by
  refine ⟨rfl, by simp, fun _ => ⟨_, rfl, fun j p hj => ⟨[.int .i64 p], rfl, rfl, fun i u hu => ?_⟩⟩⟩
  have hi : i = 0 := by
    have := (List.getElem?_eq_some_iff.1 hu).1
    simpa using this
  subst hi
  have hu' : u = .int .i64 p := by simpa using hu.symm
  subst hu'
  have : j = 0 ∨ j = 1 := by
    have := (List.getElem?_eq_some_iff.1 hj).1
    simp at this; omega
  rcases this with rfl | rfl
  · have : p = a := by simpa using hj.symm
    subst this
    exact blk_cell h 0
  · have : p = b := by simpa using hj.symm
    subst this
    exact blk_cell h 1
theorem ahead_any (a b c d : Int) (w : World) : Calls Tryz.prog 78 #[.agg #[.int .i64 a, .int .i64 b], .agg #[.int .i64 c, .int .i64 d]] w fun e w' => e = .returned (.bool (decide (a < c ∨ (a = c ∧ b < d)))) ∧ Below w.heap.size w w' := by
  have n1 := blk_new w (Obj.cells #[.int .i64 a, .int .i64 b] 40 (0, 0))
  have n2 := blk_new (w.alloc (Obj.cells #[.int .i64 a, .int .i64 b] 40 (0, 0))) (Obj.cells #[.int .i64 c, .int .i64 d] 40 (0, 0))
  have e1 : (w.alloc (Obj.cells #[.int .i64 a, .int .i64 b] 40 (0, 0))).heap.size = w.heap.size + 1 := by simp
  rw [e1] at n2
  have n1' := blk_alloc n1 (Obj.cells #[.int .i64 c, .int .i64 d] 40 (0, 0))
  have HB := Lib.hid (below_alloc (below_alloc (Below.refl w.heap.size w) (Obj.cells #[.int .i64 a, .int .i64 b] 40 (0, 0))) (Obj.cells #[.int .i64 c, .int .i64 d] 40 (0, 0)))
  obtain ⟨W2, hW2⟩ : ∃ W2, W2 = ((w.alloc (Obj.cells #[.int .i64 a, .int .i64 b] 40 (0, 0))).alloc (Obj.cells #[.int .i64 c, .int .i64 d] 40 (0, 0))) := ⟨_, rfl⟩
  rw [← hW2] at HB n1' n2
  have hc := fun W' (hb : Below W2.heap.size W2 W') => PE.slices_Compare_int_int.calls 3 (some ⟨w.heap.size, 0, none⟩) 2 [a, b] (some ⟨w.heap.size + 1, 0, none⟩) 2 [c, d] _ W' (Kd.C_below (C_box n1') hb) (by simp) (Kd.C_below (C_box n2) hb) (by simp) (cmp_two a b c d)
  have HR := Lib.hid (show decide ((if a < c then (-1 : Int) else if a > c then 1 else if b < d then -1 else if b > d then 1 else 0) < 0) = decide (a < c ∨ (a = c ∧ b < d)) by
    apply decide_eq_decide.mpr
    split
    · omega
    · split
      · omega
      · split
        · omega
        · split <;> omega)
  obtain ⟨r, hr⟩ : ∃ r, r = (if a < c then (-1 : Int) else if a > c then 1 else if b < d then -1 else if b > d then 1 else 0) := ⟨_, rfl⟩
  rw [← hr] at hc HR
  simp only [List.length_cons, List.length_nil, Nat.zero_add, Nat.reduceAdd] at hc
  have HC := Lib.hid hc
  clear hc hr n1 n2 e1 n1'
  go_enter Tryz.func78, Tryz.ntmps78
  go_wp2
  rw [← hW2]
  clear hW2
  have KS : ∀ w', Below W2.heap.size W2 w' → (Below W2.heap.size W2 w') := fun w' hb => hb
  have HKS := Lib.hid KS
  clear KS
  go_region_held3 (fun w' => Below W2.heap.size W2 w')
    (first
      | exact HKS.out _ (Below.refl _ _)
      | exact HKS.out _ (below_drew (Below.refl _ _))
      | (exact HKS.out _ (below_then (by assumption) (Below.size (by assumption)) hbn))
      | (exact HKS.out _ (below_drew (by assumption))))
    (first
      | (go_at_call 96; refine (HC.out _ (by first | assumption | exact below_drew (Below.refl _ _))).mono ?_; rintro e w1 ⟨rfl, hd⟩; have hbn := hd.below; clear hd))
  go_wp2
  go_ret
  exact ⟨by rw [← HR.out]; rfl, below_then HB.out HB.out.size (by assumption)⟩
end Go.Proofs.YtcofacgdijjnoaaGreat
end
section
namespace Go.Proofs.YtcofacgdijjnoaaGreat
open PE (S31 S44 S49 k44 k49 k31)
open Go.RowKit Go.Shelf Go.Lib Go.Proofs.YtcofacgdijjnoaaGreatW.PrintWords Go.Proofs.YtcofacgdijjnoaaGreatW.PrintLast Go.Proofs.YtcofacgdijjnoaaGreatW.PrintMore
set_option linter.unusedVariables false
set_option linter.unusedSimpArgs false
set_option maxRecDepth 100000
set_option maxHeartbeats 2000000
theorem chn_drop {α : Type} (R : α → α → Prop) [DecidableRel R] (l : List α) (k : Nat) (h : k + 1 < l.length) : chn R (l.drop k) = (decide (R l[k] l[k + 1]) && chn R (l.drop (k + 1))) := by
  rw [List.drop_eq_getElem_cons (show k < l.length by omega), List.drop_eq_getElem_cons h]; rfl
theorem chn_end {α : Type} (R : α → α → Prop) [DecidableRel R] (l : List α) (k : Nat) (h : l.length ≤ k + 1) : chn R (l.drop k) = true := by
  match hm : l.drop k with
  | [] => rfl
  | [_] => rfl
  | a :: b :: t =>
      have := congrArg List.length hm
      rw [List.length_drop] at this
      simp only [List.length_cons] at this
      omega
theorem riseC_any {A : Option Addr} {c : Nat} {l : List S44} {w : World} (h : Kd.C k44 w A l.length l) :
    Calls Tryz.prog 53 #[.slice A l.length c, .func (.func 30) #[] #[]] w fun e w' => e = .returned (.bool (chn LtC l)) ∧ Below w.heap.size w w' := by
  have hlen := h.2.1
  have HC := Lib.hid h
  clear h
  go_enter Tryz.func53, Tryz.ntmps53
  go_wp2
  go_loopg [5] l.length (fun gg v5 wr => ∃ k : Nat, gg = l.length - k ∧ v5 = .int .i64 ((k : Int) + 1) ∧ k ≤ l.length ∧ Hid (Below w.heap.size w wr) ∧ Hid (chn LtC (l.drop k) = chn LtC l))
  case atStart => exact ⟨0, rfl, rfl, Nat.zero_le _, Lib.hid (Below.refl _ _), Lib.hid rfl⟩
  case round =>
    obtain ⟨k, hg, rfl, hk, BW, I⟩ := hrel
    have Hg := Lib.hid hg
    clear hg
    by_cases hlt : k + 1 < l.length
    · have hlz : (k : Int) + 1 < (l.length : Int) := by omega
      obtain ⟨ad, rfl, p0, p1, p2, p3, p4, p5⟩ := PE.at_T44 (Kd.C_below HC.out BW.out) (k : Int) (by omega) (by omega)
      obtain ⟨ad', e, q0, q1, q2, q3, q4, q5⟩ := PE.at_T44 (Kd.C_below HC.out BW.out) ((k + 1 : Nat) : Int) (by omega) (by omega)
      cases e
      have hx : PE.rd_T44 l (k : Int) = l[k] := by
        unfold PE.rd_T44
        rw [Int.toNat_natCast, List.getD_eq_getElem?_getD, List.getElem?_eq_getElem (by omega)]; rfl
      have hy : PE.rd_T44 l ((k + 1 : Nat) : Int) = l[k + 1] := by
        unfold PE.rd_T44
        rw [Int.toNat_natCast, List.getD_eq_getElem?_getD, List.getElem?_eq_getElem (by omega)]; rfl
      rw [Int.toNat_natCast, hx] at p0 p1 p2 p3 p4 p5
      rw [Int.toNat_natCast, hy] at q0 q1 q2 q3 q4 q5
      have hI := I.out
      rw [chn_drop LtC l k hlt] at hI
      obtain ⟨x, ex⟩ : ∃ x, x = l[k] := ⟨_, rfl⟩
      obtain ⟨y, ey⟩ : ∃ y, y = l[k + 1] := ⟨_, rfl⟩
      rw [← ex] at p0 p1 p2 p3 p4 p5 hI
      rw [← ey] at q0 q1 q2 q3 q4 q5 hI
      have H0 := Lib.hid (spot_any x)
      have H1 := Lib.hid (spot_any y)
      have hc := fun w' => ahead_any x.f0 x.f1 y.f0 y.f1 w'
      have hd : decide (x.f0 < y.f0 ∨ (x.f0 = y.f0 ∧ x.f1 < y.f1)) = decide (LtC x y) := rfl
      rw [hd] at hc
      clear hx hy ex ey hd
      obtain ⟨b, hb⟩ : ∃ b, b = decide (LtC x y) := ⟨_, rfl⟩
      rw [← hb] at hc hI
      clear hb
      have H2 := Lib.hid hc
      have HI := Lib.hid hI
      have hw1 : wrap64 ((k : Int) + 1 - 1) = (k : Int) := by unfold wrap64; omega
      have hw2 : IntKind.i64.wrap ((k : Int) + 1 - 1) = (k : Int) := by rw [i64_w]; exact hw1
      have hw3 : wrap64 (k : Int) = (k : Int) := by unfold wrap64; omega
      have hw4 : IntKind.i64.wrap (k : Int) = (k : Int) := by rw [i64_w]; exact hw3
      have hk0 : (0 : Int) ≤ (k : Int) := by omega
      have hn1 : ((k : Int) + 1).toNat = k + 1 := by omega
      have hn0 : (0 : Int) ≤ (k : Int) + 1 := by omega
      have hkl : (k : Int) < (l.length : Int) := by omega
      clear hc hI
      go_wp2
      have KS : ∀ w', Below wr.heap.size wr w' → (w'.cell? (ad.add (k * 6)) = some (.int .i64 x.f0) ∧ w'.cell? ⟨(ad.add (k * 6)).block, (ad.add (k * 6)).off + 1, none⟩ = some (.int .i64 x.f1) ∧ w'.cell? ⟨(ad.add (k * 6)).block, (ad.add (k * 6)).off + 2, none⟩ = some (.string x.f2) ∧ w'.cell? ⟨(ad.add (k * 6)).block, (ad.add (k * 6)).off + 3, none⟩ = some (.int .i64 x.f3.f0) ∧ w'.cell? ⟨(ad.add (k * 6)).block, (ad.add (k * 6)).off + 4, none⟩ = some (.int .i64 x.f3.f1) ∧ w'.cell? ⟨(ad.add (k * 6)).block, (ad.add (k * 6)).off + 5, none⟩ = some (.int .i64 x.f3.f2) ∧ w'.cell? (ad.add ((k + 1) * 6)) = some (.int .i64 y.f0) ∧ w'.cell? ⟨(ad.add ((k + 1) * 6)).block, (ad.add ((k + 1) * 6)).off + 1, none⟩ = some (.int .i64 y.f1) ∧ w'.cell? ⟨(ad.add ((k + 1) * 6)).block, (ad.add ((k + 1) * 6)).off + 2, none⟩ = some (.string y.f2) ∧ w'.cell? ⟨(ad.add ((k + 1) * 6)).block, (ad.add ((k + 1) * 6)).off + 3, none⟩ = some (.int .i64 y.f3.f0) ∧ w'.cell? ⟨(ad.add ((k + 1) * 6)).block, (ad.add ((k + 1) * 6)).off + 4, none⟩ = some (.int .i64 y.f3.f1) ∧ w'.cell? ⟨(ad.add ((k + 1) * 6)).block, (ad.add ((k + 1) * 6)).off + 5, none⟩ = some (.int .i64 y.f3.f2) ∧ Below wr.heap.size wr w') := fun w' hb => ⟨pw_cell_below hb p0, pw_cell_below hb p1, pw_cell_below hb p2, pw_cell_below hb p3, pw_cell_below hb p4, pw_cell_below hb p5, pw_cell_below hb q0, pw_cell_below hb q1, pw_cell_below hb q2, pw_cell_below hb q3, pw_cell_below hb q4, pw_cell_below hb q5, hb⟩
      have HKS := Lib.hid KS
      clear KS
      go_region_held3 (fun w' => (w'.cell? (ad.add (k * 6)) = some (.int .i64 x.f0) ∧ w'.cell? ⟨(ad.add (k * 6)).block, (ad.add (k * 6)).off + 1, none⟩ = some (.int .i64 x.f1) ∧ w'.cell? ⟨(ad.add (k * 6)).block, (ad.add (k * 6)).off + 2, none⟩ = some (.string x.f2) ∧ w'.cell? ⟨(ad.add (k * 6)).block, (ad.add (k * 6)).off + 3, none⟩ = some (.int .i64 x.f3.f0) ∧ w'.cell? ⟨(ad.add (k * 6)).block, (ad.add (k * 6)).off + 4, none⟩ = some (.int .i64 x.f3.f1) ∧ w'.cell? ⟨(ad.add (k * 6)).block, (ad.add (k * 6)).off + 5, none⟩ = some (.int .i64 x.f3.f2) ∧ w'.cell? (ad.add ((k + 1) * 6)) = some (.int .i64 y.f0) ∧ w'.cell? ⟨(ad.add ((k + 1) * 6)).block, (ad.add ((k + 1) * 6)).off + 1, none⟩ = some (.int .i64 y.f1) ∧ w'.cell? ⟨(ad.add ((k + 1) * 6)).block, (ad.add ((k + 1) * 6)).off + 2, none⟩ = some (.string y.f2) ∧ w'.cell? ⟨(ad.add ((k + 1) * 6)).block, (ad.add ((k + 1) * 6)).off + 3, none⟩ = some (.int .i64 y.f3.f0) ∧ w'.cell? ⟨(ad.add ((k + 1) * 6)).block, (ad.add ((k + 1) * 6)).off + 4, none⟩ = some (.int .i64 y.f3.f1) ∧ w'.cell? ⟨(ad.add ((k + 1) * 6)).block, (ad.add ((k + 1) * 6)).off + 5, none⟩ = some (.int .i64 y.f3.f2) ∧ Below wr.heap.size wr w'))
        (first
          | exact HKS.out _ (Below.refl _ _)
          | exact HKS.out _ (below_drew (Below.refl _ _))
          | (go_split_ands; exact HKS.out _ (below_then (by assumption) (Below.size (by assumption)) hbn))
          | (go_split_ands; exact HKS.out _ (below_drew (by assumption))))
        (first
          | (go_at_call 30; refine (H0.out _).mono ?_; rintro e w1 ⟨rfl, hbn⟩)
          | (go_at_call 30; refine (H1.out _).mono ?_; rintro e w1 ⟨rfl, hbn⟩)
          | (go_at_call 78; refine (H2.out _).mono ?_; rintro e w1 ⟨rfl, hbn⟩))
      go_split_ands
      have BW2 := Lib.hid (below_then BW.out BW.out.size (show Below wr.heap.size wr w1 by assumption))
      cases b with
      | false =>
        have HR : Hid (false = chn LtC l) := Lib.hid (by rw [← HI.out]; rfl)
        clear HI H0 H1 H2
        go_wp2
        go_ret
        exact ⟨by rw [← HR.out]; rfl, BW2.out⟩
      | true =>
        have HR : Hid (chn LtC (l.drop (k + 1)) = chn LtC l) := Lib.hid (by rw [← HI.out, Bool.true_and])
        clear HI H0 H1 H2
        go_wp2
        go_roundg (l.length - (k + 1))
        case measure => have := Hg.out; omega
        case rel => exact ⟨k + 1, rfl, by go_num, by omega, BW2, HR⟩
    · have hlz : ¬ (k : Int) + 1 < (l.length : Int) := by omega
      have HR : Hid (true = chn LtC l) := Lib.hid (by rw [← I.out, chn_end LtC l k (by omega)])
      clear I
      go_wp2
      go_ret
      exact ⟨by rw [← HR.out]; rfl, BW.out⟩
theorem riseR_any {A : Option Addr} {c : Nat} {l : List S49} {w : World} (h : Kd.C k49 w A l.length l) :
    Calls Tryz.prog 54 #[.slice A l.length c, .func (.func 31) #[] #[]] w fun e w' => e = .returned (.bool (chn LtR l)) ∧ Below w.heap.size w w' := by
  have hlen := h.2.1
  have HC := Lib.hid h
  clear h
  go_enter Tryz.func54, Tryz.ntmps54
  go_wp2
  go_loopg [5] l.length (fun gg v5 wr => ∃ k : Nat, gg = l.length - k ∧ v5 = .int .i64 ((k : Int) + 1) ∧ k ≤ l.length ∧ Hid (Below w.heap.size w wr) ∧ Hid (chn LtR (l.drop k) = chn LtR l))
  case atStart => exact ⟨0, rfl, rfl, Nat.zero_le _, Lib.hid (Below.refl _ _), Lib.hid rfl⟩
  case round =>
    obtain ⟨k, hg, rfl, hk, BW, I⟩ := hrel
    have Hg := Lib.hid hg
    clear hg
    by_cases hlt : k + 1 < l.length
    · have hlz : (k : Int) + 1 < (l.length : Int) := by omega
      obtain ⟨ad, rfl, p0, p1, p2, p3⟩ := PE.at_T49 (Kd.C_below HC.out BW.out) (k : Int) (by omega) (by omega)
      obtain ⟨ad', e, q0, q1, q2, q3⟩ := PE.at_T49 (Kd.C_below HC.out BW.out) ((k + 1 : Nat) : Int) (by omega) (by omega)
      cases e
      have hx : PE.rd_T49 l (k : Int) = l[k] := by
        unfold PE.rd_T49
        rw [Int.toNat_natCast, List.getD_eq_getElem?_getD, List.getElem?_eq_getElem (by omega)]; rfl
      have hy : PE.rd_T49 l ((k + 1 : Nat) : Int) = l[k + 1] := by
        unfold PE.rd_T49
        rw [Int.toNat_natCast, List.getD_eq_getElem?_getD, List.getElem?_eq_getElem (by omega)]; rfl
      rw [Int.toNat_natCast, hx] at p0 p1 p2 p3
      rw [Int.toNat_natCast, hy] at q0 q1 q2 q3
      have hI := I.out
      rw [chn_drop LtR l k hlt] at hI
      obtain ⟨x, ex⟩ : ∃ x, x = l[k] := ⟨_, rfl⟩
      obtain ⟨y, ey⟩ : ∃ y, y = l[k + 1] := ⟨_, rfl⟩
      rw [← ex] at p0 p1 p2 p3 hI
      rw [← ey] at q0 q1 q2 q3 hI
      have H0 := Lib.hid (corner_any x)
      have H1 := Lib.hid (corner_any y)
      have hc := fun w' => ahead_any x.f0 x.f1 y.f0 y.f1 w'
      have hd : decide (x.f0 < y.f0 ∨ (x.f0 = y.f0 ∧ x.f1 < y.f1)) = decide (LtR x y) := rfl
      rw [hd] at hc
      clear hx hy ex ey hd
      obtain ⟨b, hb⟩ : ∃ b, b = decide (LtR x y) := ⟨_, rfl⟩
      rw [← hb] at hc hI
      clear hb
      have H2 := Lib.hid hc
      have HI := Lib.hid hI
      have hw1 : wrap64 ((k : Int) + 1 - 1) = (k : Int) := by unfold wrap64; omega
      have hw2 : IntKind.i64.wrap ((k : Int) + 1 - 1) = (k : Int) := by rw [i64_w]; exact hw1
      have hw3 : wrap64 (k : Int) = (k : Int) := by unfold wrap64; omega
      have hw4 : IntKind.i64.wrap (k : Int) = (k : Int) := by rw [i64_w]; exact hw3
      have hk0 : (0 : Int) ≤ (k : Int) := by omega
      have hn1 : ((k : Int) + 1).toNat = k + 1 := by omega
      have hn0 : (0 : Int) ≤ (k : Int) + 1 := by omega
      have hkl : (k : Int) < (l.length : Int) := by omega
      clear hc hI
      go_wp2
      have KS : ∀ w', Below wr.heap.size wr w' → (w'.cell? (ad.add (k * 4)) = some (.int .i64 x.f0) ∧ w'.cell? ⟨(ad.add (k * 4)).block, (ad.add (k * 4)).off + 1, none⟩ = some (.int .i64 x.f1) ∧ w'.cell? ⟨(ad.add (k * 4)).block, (ad.add (k * 4)).off + 2, none⟩ = some (.int .i64 x.f2) ∧ w'.cell? ⟨(ad.add (k * 4)).block, (ad.add (k * 4)).off + 3, none⟩ = some (.int .i64 x.f3) ∧ w'.cell? (ad.add ((k + 1) * 4)) = some (.int .i64 y.f0) ∧ w'.cell? ⟨(ad.add ((k + 1) * 4)).block, (ad.add ((k + 1) * 4)).off + 1, none⟩ = some (.int .i64 y.f1) ∧ w'.cell? ⟨(ad.add ((k + 1) * 4)).block, (ad.add ((k + 1) * 4)).off + 2, none⟩ = some (.int .i64 y.f2) ∧ w'.cell? ⟨(ad.add ((k + 1) * 4)).block, (ad.add ((k + 1) * 4)).off + 3, none⟩ = some (.int .i64 y.f3) ∧ Below wr.heap.size wr w') := fun w' hb => ⟨pw_cell_below hb p0, pw_cell_below hb p1, pw_cell_below hb p2, pw_cell_below hb p3, pw_cell_below hb q0, pw_cell_below hb q1, pw_cell_below hb q2, pw_cell_below hb q3, hb⟩
      have HKS := Lib.hid KS
      clear KS
      go_region_held3 (fun w' => (w'.cell? (ad.add (k * 4)) = some (.int .i64 x.f0) ∧ w'.cell? ⟨(ad.add (k * 4)).block, (ad.add (k * 4)).off + 1, none⟩ = some (.int .i64 x.f1) ∧ w'.cell? ⟨(ad.add (k * 4)).block, (ad.add (k * 4)).off + 2, none⟩ = some (.int .i64 x.f2) ∧ w'.cell? ⟨(ad.add (k * 4)).block, (ad.add (k * 4)).off + 3, none⟩ = some (.int .i64 x.f3) ∧ w'.cell? (ad.add ((k + 1) * 4)) = some (.int .i64 y.f0) ∧ w'.cell? ⟨(ad.add ((k + 1) * 4)).block, (ad.add ((k + 1) * 4)).off + 1, none⟩ = some (.int .i64 y.f1) ∧ w'.cell? ⟨(ad.add ((k + 1) * 4)).block, (ad.add ((k + 1) * 4)).off + 2, none⟩ = some (.int .i64 y.f2) ∧ w'.cell? ⟨(ad.add ((k + 1) * 4)).block, (ad.add ((k + 1) * 4)).off + 3, none⟩ = some (.int .i64 y.f3) ∧ Below wr.heap.size wr w'))
        (first
          | exact HKS.out _ (Below.refl _ _)
          | exact HKS.out _ (below_drew (Below.refl _ _))
          | (go_split_ands; exact HKS.out _ (below_then (by assumption) (Below.size (by assumption)) hbn))
          | (go_split_ands; exact HKS.out _ (below_drew (by assumption))))
        (first
          | (go_at_call 31; refine (H0.out _).mono ?_; rintro e w1 ⟨rfl, hbn⟩)
          | (go_at_call 31; refine (H1.out _).mono ?_; rintro e w1 ⟨rfl, hbn⟩)
          | (go_at_call 78; refine (H2.out _).mono ?_; rintro e w1 ⟨rfl, hbn⟩))
      go_split_ands
      have BW2 := Lib.hid (below_then BW.out BW.out.size (show Below wr.heap.size wr w1 by assumption))
      cases b with
      | false =>
        have HR : Hid (false = chn LtR l) := Lib.hid (by rw [← HI.out]; rfl)
        clear HI H0 H1 H2
        go_wp2
        go_ret
        exact ⟨by rw [← HR.out]; rfl, BW2.out⟩
      | true =>
        have HR : Hid (chn LtR (l.drop (k + 1)) = chn LtR l) := Lib.hid (by rw [← HI.out, Bool.true_and])
        clear HI H0 H1 H2
        go_wp2
        go_roundg (l.length - (k + 1))
        case measure => have := Hg.out; omega
        case rel => exact ⟨k + 1, rfl, by go_num, by omega, BW2, HR⟩
    · have hlz : ¬ (k : Int) + 1 < (l.length : Int) := by omega
      have HR : Hid (true = chn LtR l) := Lib.hid (by rw [← I.out, chn_end LtR l k (by omega)])
      clear I
      go_wp2
      go_ret
      exact ⟨by rw [← HR.out]; rfl, BW.out⟩
end Go.Proofs.YtcofacgdijjnoaaGreat
end
section
namespace Go.Proofs.YtcofacgdijjnoaaGreat
open PE (S31 S44 S49 k44 k49 k31)
open Go.RowKit Go.Shelf Go.Lib Go.Proofs.YtcofacgdijjnoaaGreatW.PrintWords Go.Proofs.YtcofacgdijjnoaaGreatW.PrintLast Go.Proofs.YtcofacgdijjnoaaGreatW.PrintMore
set_option linter.unusedVariables false
set_option linter.unusedSimpArgs false
set_option maxRecDepth 100000
set_option maxHeartbeats 2000000
theorem styled_f (x : S31) : PE.sheet_styled.f x.f0 x.f1 x.f2 = some (decide (Stl x)) := by
  unfold PE.sheet_styled.f
  have hS : Stl x ↔ (0 ≤ x.f0 ∧ x.f0 ≤ 4 ∧ 0 ≤ x.f1 ∧ x.f1 ≤ 1 ∧ 0 ≤ x.f2 ∧ x.f2 ≤ 3) := Iff.rfl
  by_cases h1 : x.f0 ≥ 0
  · rw [if_pos h1]
    by_cases h2 : x.f0 ≤ 4
    · rw [if_pos h2]
      by_cases h3 : x.f1 ≥ 0
      · rw [if_pos h3]
        by_cases h4 : x.f1 ≤ 1
        · rw [if_pos h4]
          by_cases h5 : x.f2 ≥ 0
          · rw [if_pos h5]
            exact congrArg some (decide_eq_decide.mpr (by rw [hS]; omega))
          · rw [if_neg h5, decide_eq_false (by rw [hS]; omega)]
        · rw [if_neg h4, decide_eq_false (by rw [hS]; omega)]
      · rw [if_neg h3, decide_eq_false (by rw [hS]; omega)]
    · rw [if_neg h2, decide_eq_false (by rw [hS]; omega)]
  · rw [if_neg h1, decide_eq_false (by rw [hS]; omega)]
theorem eq81 (a b c a' b' c' : Int) (w : World) : Sem.run Tryz.prog (Op.equalIn 10000 81 (.agg #[.int .i64 a, .int .i64 b, .int .i64 c]) (.agg #[.int .i64 a', .int .i64 b', .int .i64 c'])) w = .ok ((a == a') && ((b == b') && (c == c'))) w := by
  have hu := run_underlying (P := Tryz.prog) (w := w) Tryz.underlying81
  have h3 : ∀ x y : Int, Sem.run Tryz.prog (Op.equalIn 9999 3 (.int .i64 x) (.int .i64 y)) w = .ok (x == y) w := fun x y => run_equalIn_int (P := Tryz.prog) (w := w) 9998 3 .i64 .i64 x y Tryz.underlying3
  rw [Op.equalIn]
  simp only [Sem.run_bind, hu, Result.andThen_ok]
  have hs : (sizeOf 3).run Tryz.prog w = .ok 1 w := by kernel_rfl
  have p0 : ∀ x y z : Int, (part 3 #[.int .i64 x, .int .i64 y, .int .i64 z] 0).run Tryz.prog w = .ok (.int .i64 x) w := fun x y z => by simp [go_sem, part]
  have p1 : ∀ x y z : Int, (part 3 #[.int .i64 x, .int .i64 y, .int .i64 z] 1).run Tryz.prog w = .ok (.int .i64 y) w := fun x y z => by simp [go_sem, part]
  have p2 : ∀ x y z : Int, (part 3 #[.int .i64 x, .int .i64 y, .int .i64 z] 2).run Tryz.prog w = .ok (.int .i64 z) w := fun x y z => by simp [go_sem, part]
  simp [hs, Std.Legacy.Range.forIn_eq_forIn_range', List.range', p0, p1, p2, h3]
  by_cases h1 : a = a'
  · by_cases h2 : b = b'
    · by_cases h4 : c = c'
      · simp [h1, h2, h4]
      · simp [h1, h2, h4]
    · simp [h1, h2]
  · simp [h1]
theorem empty_size (a : ByteArray) : a.toList.isEmpty = decide (a.size = 0) := by
  rw [ByteArray.toList_eq]
  obtain ⟨⟨d⟩⟩ := a
  cases d <;> simp [ByteArray.size]
theorem t55 (l : List S44) (w : World) : Tells 55 #[] (fun x => .agg (encC x).toArray) badC l w := by
  intro W x hx hb
  have H0 := Lib.hid (fun w' => PE.sheet_styled.calls x.f3.f0 x.f3.f1 x.f3.f2 _ w' (styled_f x.f3))
  show Calls Tryz.prog 55 #[.agg #[.int .i64 x.f0, .int .i64 x.f1, .string x.f2, .int .i64 x.f3.f0, .int .i64 x.f3.f1, .int .i64 x.f3.f2]] W fun e w' => e = .returned (.bool (badC x)) ∧ Below W.heap.size W w'
  have hn := blk_new W (Obj.cells #[.int .i64 x.f0, .int .i64 x.f1, .string x.f2, .int .i64 x.f3.f0, .int .i64 x.f3.f1, .int .i64 x.f3.f2] 44 (0, 0))
  obtain ⟨m0, m1, m2, m3, m4, m5⟩ := six hn
  have HN := Lib.hid hn
  have HA := Lib.hid (below_alloc (Below.refl W.heap.size W) (Obj.cells #[.int .i64 x.f0, .int .i64 x.f1, .string x.f2, .int .i64 x.f3.f0, .int .i64 x.f3.f1, .int .i64 x.f3.f2] 44 (0, 0)))
  have HS := Lib.hid (show badC x = (!decide (Stl x.f3) || decide (Nil x)) from rfl)
  have heq := eq81 x.f3.f0 x.f3.f1 x.f3.f2 0 0 0
  clear hb hx hn
  by_cases h1 : Stl x.f3
  · rw [decide_eq_true h1] at H0 HS
    have hs := empty_size x.f2
    by_cases h2 : x.f2.size = 0
    · rw [decide_eq_true h2] at hs
      have HR : Hid (badC x = ((x.f3.f0 == 0) && ((x.f3.f1 == 0) && (x.f3.f2 == 0)))) := Lib.hid (by
        rw [HS.out]
        apply Bool.eq_iff_iff.mpr
        simp only [Bool.not_true, Bool.false_or, decide_eq_true_eq, Bool.and_eq_true, beq_iff_eq]
        exact ⟨fun h => ⟨h.2.1, h.2.2.1, h.2.2.2⟩, fun h => ⟨h2, h.1, h.2.1, h.2.2⟩⟩)
      clear h2 h1
      go_enter Tryz.func55, Tryz.ntmps55
      go_wp2_with (go_at_call 56; refine (H0.out _).mono ?_; rintro e w1 ⟨rfl, hbn⟩; obtain ⟨n0, n1, n2, n3, n4, n5⟩ := six (blk_below HN.out hbn); have HB := Lib.hid (below_then HA.out HA.out.size hbn); clear hbn)
      go_ret
      exact ⟨by rw [HR.out]; rfl, HB.out⟩
    · rw [decide_eq_false h2] at hs
      have HR : Hid (badC x = false) := Lib.hid (by
        rw [HS.out, decide_eq_false (fun h : Nil x => h2 h.1)]; rfl)
      clear h2 h1
      go_enter Tryz.func55, Tryz.ntmps55
      go_wp2_with (go_at_call 56; refine (H0.out _).mono ?_; rintro e w1 ⟨rfl, hbn⟩; obtain ⟨n0, n1, n2, n3, n4, n5⟩ := six (blk_below HN.out hbn); have HB := Lib.hid (below_then HA.out HA.out.size hbn); clear hbn)
      go_ret
      exact ⟨by rw [HR.out]; rfl, HB.out⟩
  · rw [decide_eq_false h1] at H0 HS
    go_enter Tryz.func55, Tryz.ntmps55
    go_wp2_with (go_at_call 56; refine (H0.out _).mono ?_; rintro e w1 ⟨rfl, hbn⟩; obtain ⟨n0, n1, n2, n3, n4, n5⟩ := six (blk_below HN.out hbn); have HB := Lib.hid (below_then HA.out HA.out.size hbn); clear hbn)
    go_ret
    exact ⟨by rw [HS.out]; rfl, HB.out⟩
end Go.Proofs.YtcofacgdijjnoaaGreat
end
section
namespace Go.Proofs.YtcofacgdijjnoaaGreat
open PE (S31 S44 S49 k44 k49 k31)
open Go.RowKit Go.Shelf Go.Lib Go.Proofs.YtcofacgdijjnoaaGreatW.PrintWords Go.Proofs.YtcofacgdijjnoaaGreatW.PrintLast Go.Proofs.YtcofacgdijjnoaaGreatW.PrintMore
set_option linter.unusedVariables false
set_option linter.unusedSimpArgs false
set_option maxRecDepth 100000
set_option maxHeartbeats 2000000
theorem limits_any {w : World} {V : SV} {s : Sh} (h : Rd w V s) : Calls Tryz.prog 20 #[.agg (shv V s)] w fun e w' => e = .returned (.bool (limB s)) ∧ Below w.heap.size w w' := by
  have hn := blk_new w (Obj.cells (shv V s) 26 (0, 0))
  have hA := below_alloc (Below.refl w.heap.size w) (Obj.cells (shv V s) 26 (0, 0))
  have hR := h.below hA
  have h4 := h.h4.2.1
  have c1' := fun W' (hb : Below _ (w.alloc (Obj.cells (shv V s) 26 (0, 0))) W') => anyC V.A3 s.ce.length V.c3 s.ce (fun c => decide (1024 < c.f2.size)) 50 #[] (enters_of Tryz.func50 (by kernel_rfl) rfl) W' (hR.below hb).h3 (t50 s.ce W')
  have c2' := fun W' (hb : Below _ (w.alloc (Obj.cells (shv V s) 26 (0, 0))) W') => over_any (c := V.c1) (hR.below hb).h1 16 (by decide) 60 16 rfl
  have c3' := fun W' (hb : Below _ (w.alloc (Obj.cells (shv V s) 26 (0, 0))) W') => over_any (c := V.c2) (hR.below hb).h2 24 (by decide) 12 24 rfl
  have hL : limB s = (!(s.ce.any fun c => decide (1024 < c.f2.size)) && !ovr s.wd 16 60 && !ovr s.ht 24 12 && decide (s.me.length ≤ 12)) := rfl
  obtain ⟨b1, hb1⟩ : ∃ b, b = s.ce.any fun c => decide (1024 < c.f2.size) := ⟨_, rfl⟩
  obtain ⟨b2, hb2⟩ : ∃ b, b = ovr s.wd 16 60 := ⟨_, rfl⟩
  obtain ⟨b3, hb3⟩ : ∃ b, b = ovr s.ht 24 12 := ⟨_, rfl⟩
  rw [← hb1] at c1' hL
  rw [← hb2] at c2' hL
  rw [← hb3] at c3' hL
  have HL := Lib.hid hL
  clear h hR hb1 hb2 hb3 hL
  obtain ⟨A1, c1, A2, c2, A3, c3, A4, c4⟩ := V
  obtain ⟨rt, wd, ht, ce, me⟩ := s
  simp only [shv] at hA hn c1' c2' c3'
  have H1 := Lib.hid c1'
  have H2 := Lib.hid c2'
  have H3 := Lib.hid c3'
  have HA := Lib.hid hA
  have HB0 := Lib.hid (Below.refl (w.alloc (Obj.cells #[.int .i64 rt, .slice A1 wd.length c1, .slice A2 ht.length c2, .slice A3 ce.length c3, .slice A4 me.length c4] 26 (0, 0))).heap.size (w.alloc (Obj.cells #[.int .i64 rt, .slice A1 wd.length c1, .slice A2 ht.length c2, .slice A3 ce.length c3, .slice A4 me.length c4] 26 (0, 0))))
  obtain ⟨_, y1, y2, y3, y4⟩ := five (V := ⟨A1, c1, A2, c2, A3, c3, A4, c4⟩) (s := ⟨rt, wd, ht, ce, me⟩) hn
  have HN0 : Hid ((w.alloc (Obj.cells #[.int .i64 rt, .slice A1 wd.length c1, .slice A2 ht.length c2, .slice A3 ce.length c3, .slice A4 me.length c4] 26 (0, 0))).heap[w.heap.size]? = some (.cells (shv ⟨A1, c1, A2, c2, A3, c3, A4, c4⟩ ⟨rt, wd, ht, ce, me⟩) 26 (0, 0))) := Lib.hid hn
  clear hA hn c1' c2' c3'
  show Calls Tryz.prog 20 #[.agg #[.int .i64 rt, .slice A1 wd.length c1, .slice A2 ht.length c2, .slice A3 ce.length c3, .slice A4 me.length c4]] w _
  cases b1 with
  | true =>
    go_enter Tryz.func20, Tryz.ntmps20
    go_wp2_with (first
      | (go_at_call 22; with_reducible refine (H1.out _ HB0.out).mono ?_; rintro e w1 ⟨rfl, hbn⟩; obtain ⟨_, y1, y2, y3, y4⟩ := five (blk_below HN0.out hbn); have HN1 := Lib.hid (blk_below HN0.out hbn); have HB1 := Lib.hid (below_then HB0.out HB0.out.size hbn); clear hbn)
      | (go_at_call 51; with_reducible refine (H2.out _ HB1.out).mono ?_; rintro e w2 ⟨rfl, hbn⟩; obtain ⟨_, y1, y2, y3, y4⟩ := five (blk_below HN1.out hbn); have HN2 := Lib.hid (blk_below HN1.out hbn); have HB2 := Lib.hid (below_then HB1.out HB1.out.size hbn); clear hbn)
      | (go_at_call 51; with_reducible refine (H3.out _ HB2.out).mono ?_; rintro e w3 ⟨rfl, hbn⟩; obtain ⟨_, y1, y2, y3, y4⟩ := five (blk_below HN2.out hbn); have HN3 := Lib.hid (blk_below HN2.out hbn); have HB3 := Lib.hid (below_then HB2.out HB2.out.size hbn); clear hbn))
    go_ret
    exact ⟨by rw [HL.out]; rfl, below_then HA.out HA.out.size HB1.out⟩
  | false =>
    cases b2 with
    | true =>
      go_enter Tryz.func20, Tryz.ntmps20
      go_wp2_with (first
      | (go_at_call 22; with_reducible refine (H1.out _ HB0.out).mono ?_; rintro e w1 ⟨rfl, hbn⟩; obtain ⟨_, y1, y2, y3, y4⟩ := five (blk_below HN0.out hbn); have HN1 := Lib.hid (blk_below HN0.out hbn); have HB1 := Lib.hid (below_then HB0.out HB0.out.size hbn); clear hbn)
      | (go_at_call 51; with_reducible refine (H2.out _ HB1.out).mono ?_; rintro e w2 ⟨rfl, hbn⟩; obtain ⟨_, y1, y2, y3, y4⟩ := five (blk_below HN1.out hbn); have HN2 := Lib.hid (blk_below HN1.out hbn); have HB2 := Lib.hid (below_then HB1.out HB1.out.size hbn); clear hbn)
      | (go_at_call 51; with_reducible refine (H3.out _ HB2.out).mono ?_; rintro e w3 ⟨rfl, hbn⟩; obtain ⟨_, y1, y2, y3, y4⟩ := five (blk_below HN2.out hbn); have HN3 := Lib.hid (blk_below HN2.out hbn); have HB3 := Lib.hid (below_then HB2.out HB2.out.size hbn); clear hbn))
      go_ret
      exact ⟨by rw [HL.out]; rfl, below_then HA.out HA.out.size HB2.out⟩
    | false =>
      cases b3 with
      | true =>
        go_enter Tryz.func20, Tryz.ntmps20
        go_wp2_with (first
      | (go_at_call 22; with_reducible refine (H1.out _ HB0.out).mono ?_; rintro e w1 ⟨rfl, hbn⟩; obtain ⟨_, y1, y2, y3, y4⟩ := five (blk_below HN0.out hbn); have HN1 := Lib.hid (blk_below HN0.out hbn); have HB1 := Lib.hid (below_then HB0.out HB0.out.size hbn); clear hbn)
      | (go_at_call 51; with_reducible refine (H2.out _ HB1.out).mono ?_; rintro e w2 ⟨rfl, hbn⟩; obtain ⟨_, y1, y2, y3, y4⟩ := five (blk_below HN1.out hbn); have HN2 := Lib.hid (blk_below HN1.out hbn); have HB2 := Lib.hid (below_then HB1.out HB1.out.size hbn); clear hbn)
      | (go_at_call 51; with_reducible refine (H3.out _ HB2.out).mono ?_; rintro e w3 ⟨rfl, hbn⟩; obtain ⟨_, y1, y2, y3, y4⟩ := five (blk_below HN2.out hbn); have HN3 := Lib.hid (blk_below HN2.out hbn); have HB3 := Lib.hid (below_then HB2.out HB2.out.size hbn); clear hbn))
        go_ret
        exact ⟨by rw [HL.out]; rfl, below_then HA.out HA.out.size HB3.out⟩
      | false =>
        have HL2 := Lib.hid (show limB ⟨rt, wd, ht, ce, me⟩ = decide ((me.length : Int) ≤ 12) by rw [HL.out]; simp only [Bool.not_false, Bool.true_and]; apply decide_eq_decide.mpr; omega)
        clear HL
        go_enter Tryz.func20, Tryz.ntmps20
        go_wp2_with (first
      | (go_at_call 22; with_reducible refine (H1.out _ HB0.out).mono ?_; rintro e w1 ⟨rfl, hbn⟩; obtain ⟨_, y1, y2, y3, y4⟩ := five (blk_below HN0.out hbn); have HN1 := Lib.hid (blk_below HN0.out hbn); have HB1 := Lib.hid (below_then HB0.out HB0.out.size hbn); clear hbn)
      | (go_at_call 51; with_reducible refine (H2.out _ HB1.out).mono ?_; rintro e w2 ⟨rfl, hbn⟩; obtain ⟨_, y1, y2, y3, y4⟩ := five (blk_below HN1.out hbn); have HN2 := Lib.hid (blk_below HN1.out hbn); have HB2 := Lib.hid (below_then HB1.out HB1.out.size hbn); clear hbn)
      | (go_at_call 51; with_reducible refine (H3.out _ HB2.out).mono ?_; rintro e w3 ⟨rfl, hbn⟩; obtain ⟨_, y1, y2, y3, y4⟩ := five (blk_below HN2.out hbn); have HN3 := Lib.hid (blk_below HN2.out hbn); have HB3 := Lib.hid (below_then HB2.out HB2.out.size hbn); clear hbn))
        go_ret
        exact ⟨by rw [HL2.out]; rfl, below_then HA.out HA.out.size HB3.out⟩
end Go.Proofs.YtcofacgdijjnoaaGreat
end
