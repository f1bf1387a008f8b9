/- BidiPlain, the plain law. -/
import Derived.Test.YtdpifkhkemeclaaGreatPZx11
import Derived.Test.YtdpifkhkemeclaaGreatPlR
import Derived.Test.YtdpifkhkemeclaaGreatLnO
namespace Go.Proofs.YtdpifkhkemeclaaGreat.Pure
open Go.RowKit Go.Proofs.YtdpifkhkemeclaaGreat Go.Proofs.YtdpifkhkemeclaaGreat.PZ Go.Proofs.YtdpifkhkemeclaaGreatW.PrintWords Go.Proofs.YtdpifkhkemeclaaGreatW.PrintMore
set_option linter.unusedVariables false
set_option linter.unusedSimpArgs false
theorem awakeP_ev : Ev (fun k => parquetrylaw16_awake.f k) true := Ev.of parquetrylaw16_awake.mono parquetrylaw16_awake.run
theorem awakeP2 : Ev (fun k => (parquetrylaw16_awake.f k).bind fun t => some t) true := Ev.bind awakeP_ev (Ev.now _)
theorem runeAt (l : List S38) (i : Nat) (h : i < l.length) : rd_T38 l (i : Int) = l[i] := by simp [rd_T38, List.getD_eq_getElem?_getD, h]
theorem ws_flag : ∀ (cs : List Int), (∀ c ∈ cs, c = 12) → lnFlag cs = true
  | [], _ => rfl
  | c :: cs, h => by
    have h1 := ws_flag cs (fun d hd => h d (by simp [hd]))
    have h2 := h c (by simp)
    subst h2
    show lnE (lnFlag cs) 12 = true
    rw [h1]
    rfl
theorem l2_plain (l : List S38) (hl : l.length ≤ 300) : ∀ (m i : Nat), l.length - i = m → Ev (fun k => parquetrylaw16_BidiPlain.l2 k l (List.replicate l.length 0) (castN (List.range' 0 l.length)) (i : Int)) true := by
  intro m
  induction m with
  | zero =>
    intro i hm
    refine Ev.step (f := fun k => (parquetrylaw16_awake.f k).bind fun t => some t) (fun k => ?_) awakeP2
    simp only [parquetrylaw16_BidiPlain.l2]
    rw [if_neg (by omega)]
  | succ m ih =>
    intro i hm
    have hil : i < l.length := by omega
    refine Ev.step (fun k => ?_) (ih (i + 1) (by omega))
    simp only [parquetrylaw16_BidiPlain.l2]
    have e1 : rd (List.replicate l.length (0 : Int)) (i : Int) = 0 := by simp [rd, List.getD_eq_getElem?_getD, hil]
    have e2 : rd (castN (List.range' 0 l.length)) (i : Int) = (i : Int) := by simp [rd, castN, List.getD_eq_getElem?_getD, hil]
    rw [if_pos (by omega), if_pos (by omega), if_pos (by simp; omega), if_pos e1, if_pos (by rw [castN_len]; simp; omega), if_pos e2, oS i (by omega)]
theorem l1_plain (l : List S38) (hl : l.length ≤ 300) : ∀ (m i : Nat), l.length - i = m → i ≤ l.length → (∀ j (h : j < l.length), j < i → clsR l[j] ≠ 1 ∧ clsR l[j] ≠ 2 ∧ clsR l[j] ≠ 6 ∧ clsR l[j] < 14) → Ev (fun k => parquetrylaw16_BidiPlain.l1 k l (i : Int)) true := by
  intro m
  induction m with
  | zero =>
    intro i hm hi hc
    have hr := resolve_plain l (by omega) (fun x hx => by
      obtain ⟨j, hj, rfl⟩ := List.mem_iff_getElem.1 hx
      exact hc j hj (by omega))
    refine Ev.step (f := fun k => (bidi_Resolve.f l 0).bind fun t513 => ((bidi_Order.f k t513).bind fun t516 => (if (t513.length : Int) = (l.length : Int) then (parquetrylaw16_BidiPlain.j3 k l t513 t516 ((t516.length : Int) != (l.length : Int))) else (parquetrylaw16_BidiPlain.j3 k l t513 t516 true)))) (fun k => ?_) ?_
    · simp only [parquetrylaw16_BidiPlain.l1]
      rw [if_neg (by omega)]
    · rw [hr]
      have ho := order_ev (List.replicate l.length 0) (by simp; omega)
      rw [ord_plain l.length (by omega)] at ho
      refine Ev.congr (f := fun k => (bidi_Order.f k (List.replicate l.length 0)).bind fun t516 => (if ((List.replicate l.length (0 : Int)).length : Int) = (l.length : Int) then (parquetrylaw16_BidiPlain.j3 k l (List.replicate l.length 0) t516 ((t516.length : Int) != (l.length : Int))) else (parquetrylaw16_BidiPlain.j3 k l (List.replicate l.length 0) t516 true))) (fun k => rfl) ?_
      refine Ev.bind ho ?_
      refine Ev.congr (fun k => if_pos (by simp)) ?_
      have e : (((castN (List.range' 0 l.length)).length : Int) != (l.length : Int)) = false := by rw [castN_len]; simp
      rw [e]
      refine Ev.step (fun k => ?_) (l2_plain l hl l.length 0 rfl)
      simp only [parquetrylaw16_BidiPlain.j3]
      rw [if_neg (by decide)]
      rfl
  | succ m ih =>
    intro i hm hi hc
    have hil : i < l.length := by omega
    have e0 : ∀ k, parquetrylaw16_BidiPlain.l1 (k + 1) l (i : Int) = (if clsR l[i] = 1 then ((parquetrylaw16_awake.f k).bind fun t509 => (some t509)) else (if clsR l[i] = 2 then ((parquetrylaw16_awake.f k).bind fun t510 => (some t510)) else (if clsR l[i] = 6 then ((parquetrylaw16_awake.f k).bind fun t511 => (some t511)) else (if clsR l[i] ≥ 14 then ((parquetrylaw16_awake.f k).bind fun t512 => (some t512)) else (parquetrylaw16_BidiPlain.l1 k l ((i + 1 : Nat) : Int)))))) := by
      intro k
      simp only [parquetrylaw16_BidiPlain.l1]
      rw [if_pos (by omega), if_pos (by omega), runeAt l i hil, clsR_some, Option.bind_some, oS i (by omega)]
    by_cases h1 : clsR l[i] = 1
    · exact Ev.step (f := fun k => (parquetrylaw16_awake.f k).bind fun t => some t) (fun k => by rw [e0, if_pos h1]) awakeP2
    by_cases h2 : clsR l[i] = 2
    · exact Ev.step (f := fun k => (parquetrylaw16_awake.f k).bind fun t => some t) (fun k => by rw [e0, if_neg h1, if_pos h2]) awakeP2
    by_cases h3 : clsR l[i] = 6
    · exact Ev.step (f := fun k => (parquetrylaw16_awake.f k).bind fun t => some t) (fun k => by rw [e0, if_neg h1, if_neg h2, if_pos h3]) awakeP2
    by_cases h4 : clsR l[i] ≥ 14
    · exact Ev.step (f := fun k => (parquetrylaw16_awake.f k).bind fun t => some t) (fun k => by rw [e0, if_neg h1, if_neg h2, if_neg h3, if_pos h4]) awakeP2
    refine Ev.step (fun k => by rw [e0, if_neg h1, if_neg h2, if_neg h3, if_neg h4]) (ih (i + 1) (by omega) (by omega) (fun j hj hji => ?_))
    by_cases hji' : j < i
    · exact hc j hj hji'
    · have : j = i := by omega
      subst this
      exact ⟨h1, h2, h3, by omega⟩
/-- The walk back over the line. -/
theorem l0_plain (l : List S38) (v : List Int) (para : Int) (hv : l.length = v.length) (hl : l.length ≤ 300) : ∀ (i : Nat) (b : Bool), i ≤ l.length → (b = true → ∀ c ∈ (l.map clsR).drop i, c = 12) →
    Ev (fun k => parquetrylaw16_BidiPlain.l0 k l para (lnOut para (l.map clsR) v) (lnOut para (l.map clsR) v) b ((i : Int) - 1)) true := by
  have hlen : (lnOut para (l.map clsR) v).length = l.length := by rw [lnOut_len _ _ _ (by simpa using hv), hv]
  intro i
  induction i with
  | zero =>
    intro b hi hb
    refine Ev.step (fun k => ?_) (l1_plain l hl l.length 0 rfl (Nat.zero_le _) (fun j h hj => by omega))
    simp only [parquetrylaw16_BidiPlain.l0]
    rw [if_neg (by omega)]
    rfl
  | succ i ih =>
    intro b hi hb
    have hil : i < l.length := by omega
    have e1 : (((i + 1 : Nat) : Int) - 1) = (i : Int) := by omega
    rw [e1]
    have ew : wrap64 ((i : Int) - 1) = (i : Int) - 1 := oW (by omega) (by omega)
    cases b with
    | false =>
      refine Ev.step (fun k => ?_) (ih false (by omega) (fun h => by cases h))
      simp only [parquetrylaw16_BidiPlain.l0]
      rw [if_pos (by omega), if_neg (by decide), if_pos trivial, if_pos (by omega), if_pos (by omega), if_pos (by omega), if_pos trivial, ew]
    | true =>
      have hd : (l.map clsR).drop i = clsR l[i] :: (l.map clsR).drop (i + 1) := by
        rw [List.drop_eq_getElem_cons (by simpa using hil), List.getElem_map]
      by_cases h12 : clsR l[i] = 12
      · have hall : ∀ c ∈ (l.map clsR).drop i, c = 12 := by
          intro c hc
          rw [hd] at hc
          rcases List.mem_cons.1 hc with rfl | hc
          · exact h12
          · exact hb rfl c hc
        have hx : rd (lnOut para (l.map clsR) v) (i : Int) = para := by
          rw [oR, lnOut_get _ _ _ i (by simpa using hv) (by omega), if_pos (ws_flag _ hall)]
        refine Ev.step (fun k => ?_) (ih true (by omega) (fun _ => hall))
        simp only [parquetrylaw16_BidiPlain.l0]
        rw [if_pos (by omega), if_pos trivial, if_pos (by omega), if_pos (by omega), runeAt l i hil, clsR_some, Option.bind_some, if_pos h12, if_pos (by omega), if_pos hx, if_pos trivial, if_pos (by omega), if_pos trivial, h12, ew]
        rfl
      · refine Ev.step (fun k => ?_) (ih false (by omega) (fun h => by cases h))
        simp only [parquetrylaw16_BidiPlain.l0]
        have e : (clsR l[i] == 12) = false := by simp [h12]
        rw [if_pos (by omega), if_pos trivial, if_pos (by omega), if_pos (by omega), runeAt l i hil, clsR_some, Option.bind_some, if_neg h12, if_pos trivial, if_pos (by omega), if_pos (by omega), if_pos trivial, e, ew]
theorem BidiPlain (l0 : List S38) (l1 : List Int) (a2 : Int) : ∃ k, parquetrylaw16_BidiPlain.f k l0 l1 a2 = some true := by
  refine Ev.rounds ?_
  have out : Ev (fun k => parquetrylaw16_BidiPlain.j0 k l0 l1 a2 true) true := by
    refine Ev.step (f := fun k => (parquetrylaw16_awake.f k).bind fun t => some t) (fun k => ?_) awakeP2
    simp only [parquetrylaw16_BidiPlain.j0]
    rw [if_pos trivial]
  by_cases hbig : (l0.length : Int) > 300
  · exact Ev.congr (fun k => if_pos hbig) out
  refine Ev.congr (fun k => if_neg hbig) ?_
  by_cases hne : l1.length = l0.length
  case neg =>
    have e : ((l1.length : Int) != (l0.length : Int)) = true := by simp; omega
    rw [e]
    exact out
  have e : ((l1.length : Int) != (l0.length : Int)) = false := by simp; omega
  rw [e]
  have hlen : (lnOut a2 (l0.map clsR) l1).length = l0.length := by rw [lnOut_len _ _ _ (by simpa using hne.symm), hne]
  have hf1 := line_f l0 l1 a2 hne.symm (by omega)
  have hf2 := line_f l0 (lnOut a2 (l0.map clsR) l1) a2 hlen.symm (by omega)
  rw [lnOut_twice] at hf2
  have h0 := l0_plain l0 l1 a2 hne.symm (by omega) l0.length true (Nat.le_refl _) (fun _ c hc => by rw [List.drop_of_length_le (by simp)] at hc; simp at hc)
  refine Ev.step (fun k => ?_) h0
  simp only [parquetrylaw16_BidiPlain.j0]
  rw [if_neg (by decide), hf1, Option.bind_some, if_pos (by omega), hf2, Option.bind_some, oW (by omega) (by omega)]
end Go.Proofs.YtdpifkhkemeclaaGreat.Pure
