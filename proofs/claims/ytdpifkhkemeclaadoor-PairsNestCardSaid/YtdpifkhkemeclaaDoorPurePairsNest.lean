/- PairsNest, the plain law. -/
import Derived.Test.YtdpifkhkemeclaaDoorPLn
import Derived.Test.YtdpifkhkemeclaaDoorNest
namespace Go.Proofs.YtdpifkhkemeclaaDoor.Pure
open Go.RowKit Go.Proofs.YtdpifkhkemeclaaDoor.PQ Go.Proofs.YtdpifkhkemeclaaDoorW.PrintWords Go.Proofs.YtdpifkhkemeclaaDoorW.PrintLast
set_option linter.unusedVariables false
set_option linter.unusedSimpArgs false
theorem s31_0 (p : Nat × Nat) : (s31 p).f0 = (p.1 : Int) := rfl
theorem s31_1 (p : Nat × Nat) : (s31 p).f1 = (p.2 : Int) := rfl
theorem PairsNest : parquetrylaw14_PairsNest.Pure := by
  intro l0 l1 _ _ _ _ _ _
  refine Ev.rounds (g := fun k => parquetrylaw14_PairsNest.f k l0 l1) ?_
  have haw : Ev (fun k => (parquetrylaw14_awake.f k).bind fun t => some t) true := Ev.bind awakeQ (Ev.now _)
  have hbig : Ev (fun k => parquetrylaw14_PairsNest.j0 k l0 l1 (l0.length : Int) true) true := by
    refine Ev.step (fun k => ?_) haw
    simp only [parquetrylaw14_PairsNest.j0]
    rw [if_pos trivial]
  unfold parquetrylaw14_PairsNest.f
  by_cases h : (l0.length : Int) > 300
  · exact Ev.congr (fun k => if_pos h) hbig
  · refine Ev.congr (fun k => if_neg h) ?_
    by_cases h1 : l1.length = l0.length
    · have hb : ((l1.length : Int) != (l0.length : Int)) = false := by simp; omega
      rw [hb]
      obtain ⟨hP, hN⟩ := pairsW_nest l0 l1
      have hB := pairsW_bound l0 l1
      have hpl := pairsW_len l0 l1
      obtain ⟨ps, hps⟩ : ∃ ps, ps = pairsW l0 l1 := ⟨_, rfl⟩
      simp only [← hps] at hP hN hB hpl
      have gD : ∀ i (hi : i < ps.length), ps.getD i (0, 0) = ps[i] := fun i hi => by
        rw [List.getD_eq_getElem?_getD, List.getElem?_eq_getElem hi]; rfl
      have loop : ∀ d i, d + i = ps.length → Ev (fun k => parquetrylaw14_PairsNest.l0 k l0 l1 (l0.length : Int) (ps.map s31) (i : Int)) true := by
        intro d
        induction d with
        | zero =>
          intro i hi
          refine Ev.step (fun k => ?_) haw
          simp only [parquetrylaw14_PairsNest.l0]
          rw [if_neg (by simp; omega)]
        | succ d ih =>
          intro i hi
          have ih := ih (i + 1) (by omega)
          have hil : i < ps.length := by omega
          obtain ⟨p, hp⟩ : ∃ p, p = ps.getD i (0, 0) := ⟨_, rfl⟩
          have hpe : ps[i] = p := by rw [hp, gD i hil]
          have hpm : p ∈ ps := by rw [← hpe]; exact List.getElem_mem hil
          obtain ⟨b1, b2⟩ := hB p hpm
          obtain ⟨t1, t2, mt⟩ := hP p hpm
          have inner : ∀ d2 q, d2 + q = i → Ev (fun k => parquetrylaw14_PairsNest.l1 k l0 l1 (l0.length : Int) (ps.map s31) (i : Int) (q : Int) (p.1 : Int) (p.2 : Int)) true := by
            intro d2
            induction d2 with
            | zero =>
              intro q hq
              refine Ev.step (fun k => ?_) ih
              simp only [parquetrylaw14_PairsNest.l1]
              rw [if_neg (by omega), wsuccB _ (by omega)]
            | succ d2 ih2 =>
              intro q hq
              have hqi : q < i := by omega
              have hql : q < ps.length := by omega
              obtain ⟨n1, n2⟩ := hN q i hql hil hqi
              obtain ⟨x, hx⟩ : ∃ x, x = ps.getD q (0, 0) := ⟨_, rfl⟩
              have hxe : ps[q] = x := by rw [hx, gD q hql]
              rw [hxe, hpe] at n1 n2
              have hxm : x ∈ ps := by rw [← hxe]; exact List.getElem_mem hql
              obtain ⟨c1, c2⟩ := hB x hxm
              refine Ev.step (fun k => ?_) (ih2 (q + 1) (by omega))
              simp only [parquetrylaw14_PairsNest.l1]
              rw [if_pos (by omega), if_pos (by omega), if_pos (by simp; omega), rd31 _ _ hql, ← hx, wsuccB _ (by omega)]
              rw [s31_0, s31_1]
              rw [if_neg (by omega), if_neg (by omega)]
              by_cases hc : (x.2 : Int) > (p.1 : Int)
              · rw [if_pos hc, if_neg (by omega)]
              · rw [if_neg hc]
          refine Ev.step (f := fun k => parquetrylaw14_PairsNest.j2 k l0 l1 (l0.length : Int) (ps.map s31) (i : Int) false (p.1 : Int) (p.2 : Int)) (fun k => ?_) (Ev.step (fun k => ?_) (inner i 0 (by omega)))
          · simp only [parquetrylaw14_PairsNest.l0]
            rw [if_pos (by simp; omega), if_pos (by omega), rd31 _ _ hil, ← hp]
            rw [s31_0, s31_1]
            rw [if_neg (by omega), if_neg (by omega), if_neg (by omega), if_pos (show (0 : Int) ≤ (p.1 : Int) by omega), if_pos (show (p.1 : Int) < (l0.length : Int) by omega), rdB, if_pos t1, if_pos (show (0 : Int) ≤ (p.2 : Int) by omega), if_pos (show (p.2 : Int) < (l0.length : Int) by omega), rdB, if_pos t2, if_pos (by omega), if_pos (by omega), rdB, rdB]
            unfold mirror_Meet.f
            rw [mt]
            rfl
          · simp only [parquetrylaw14_PairsNest.j2]
            rw [if_neg (by decide)]
            rfl
      refine Ev.step (fun k => ?_) (loop ps.length 0 (by omega))
      simp only [parquetrylaw14_PairsNest.j0]
      rw [if_neg (by decide), findF l0 l1 (by omega), if_pos (by omega)]
      simp only [Option.bind_some]
      rw [← hps]
      rfl
    · have hb : ((l1.length : Int) != (l0.length : Int)) = true := by simp; omega
      rw [hb]
      exact hbig
end Go.Proofs.YtdpifkhkemeclaaDoor.Pure
