/- slices.Insert: walked. -/
import Derived.Test.YtcofacgdijjnoaaGreatPao
import Derived.Deep.RegionLaw
namespace Go.Proofs.YtcofacgdijjnoaaGreat
open PE (S31 S44 S49 k44 k49 k31)
open Go.RowKit Go.Shelf Go.Lib Go.Proofs.YtcofacgdijjnoaaGreatW.PrintWords Go.Proofs.YtcofacgdijjnoaaGreatW.PrintLast Go.Proofs.YtcofacgdijjnoaaGreatW.PrintMore
set_option linter.unusedVariables false
set_option linter.unusedSimpArgs false
set_option maxRecDepth 100000
set_option maxHeartbeats 2000000
theorem own_two {B : Nat} {e : TypeId} {k n c : Nat} {w : World} {A : Option Addr} {L : List Value} (h : w.ownsRow B e k (.slice A n c) n L) :
    (A = none ∧ n = 0 ∧ c = 0) ∨ ∃ g, A = some ⟨g, 0, none⟩ ∧ n ≤ c ∧ c ≤ maxLen ∧ B ≤ g ∧ g < w.heap.size := by
  rcases h.2 with ⟨hv, h0⟩ | ⟨g, cap, cur, hv, hB, hg, hle, hm, hs, htk⟩
  · injection hv with e1 e2 e3
    exact .inl ⟨e1, h0, e3⟩
  · injection hv with e1 e2 e3
    subst e1 e3
    exact .inr ⟨g, rfl, hle, hm, hB, blk_lt hg⟩
theorem shift_list {L M Y : List Value} {a : Nat} (ha : a ≤ L.length) (hY : Y.length = M.length) :
    ((L ++ Y).take (a + M.length) ++ L.drop a ++ (L ++ Y).drop (L.length + M.length)).take a ++ M ++ ((L ++ Y).take (a + M.length) ++ L.drop a ++ (L ++ Y).drop (L.length + M.length)).drop (a + M.length) = L.take a ++ M ++ L.drop a := by
  have h0 : (L ++ Y).drop (L.length + M.length) = [] := List.drop_of_length_le (by rw [List.length_append]; omega)
  have h1 : ((L ++ Y).take (a + M.length)).length = a + M.length := by rw [List.length_take, List.length_append]; omega
  rw [h0, List.append_nil, List.drop_left' h1, List.take_append_of_le_length (by omega), List.take_take, Nat.min_eq_left (by omega), List.take_append_of_le_length ha]
theorem grow_list {L M : List Value} {a : Nat} {Z : List Value} (ht : (L.take a).length = a) (hl : (L.take a ++ Z).length = L.length + M.length) (ha : a ≤ L.length) :
    ((L.take a ++ Z).take a ++ M ++ (L.take a ++ Z).drop (a + M.length)).take (a + M.length) ++ L.drop a ++ ((L.take a ++ Z).take a ++ M ++ (L.take a ++ Z).drop (a + M.length)).drop (L.length + M.length) = L.take a ++ M ++ L.drop a := by
  have h1 : (L.take a ++ Z).take a = L.take a := List.take_left' ht
  have h2 : (L.take a ++ M).length = a + M.length := by rw [List.length_append, ht]
  have h3 : (L.take a ++ M ++ (L.take a ++ Z).drop (a + M.length)).drop (L.length + M.length) = [] := List.drop_of_length_le (by rw [List.length_append, h2, List.length_drop, hl]; omega)
  rw [h1, List.take_left' h2, h3, List.append_nil]
/-- slices.Insert -/
theorem insC_raw {w : World} {B B2 c vb vc n m i : Nat} {A : Option Addr} {L M : List Value} (h : w.ownsRow B 44 6 (.slice A n c) n L) (hB : B ≤ w.heap.size) (h2 : w.ownsRow B2 44 6 (.slice (some ⟨vb, 0, none⟩) m vc) m M)
    (hL1 : ∀ u ∈ L, u.oneCell' = true) (hM1 : ∀ u ∈ M, u.oneCell' = true) (hne : (Value.slice A n c).ownBlock ≠ some vb) (hi : i ≤ n) (hm : 0 < m) (hl : n ≤ 1000) (hml : m ≤ 1000) :
    Calls Tryz.prog 84 #[.slice A n c, .int .i64 i, .slice (some ⟨vb, 0, none⟩) m vc] w fun e w' => ∃ v, e = .returned v ∧ w'.ownsRow B 44 6 v (n + m) (L.take (i * 6) ++ M ++ L.drop (i * 6)) ∧ w.grownBy w' (Value.slice A n c).ownBlock ∧ (v.ownBlock = (Value.slice A n c).ownBlock ∨ v.ownBlock = some w.heap.size) := by
  have hsrc := own_src h2
  have hLl := h.1
  have hMl := h2.1
  obtain ⟨i0, hi0, hz0, hzs, hzb⟩ := info_parts PE.info44
  have hz1 : ¬ ((m : Int) = 0) := by omega
  have hbig : (1000 + 1000 : Nat) ≤ maxLen := by decide
  rcases own_two h with ⟨rfl, rfl, rfl⟩ | ⟨g, rfl, hnc, hcm, hBg, hgw⟩
  · obtain rfl : i = 0 := by omega
    obtain ⟨v', w', hr, h3, h4, h5, h6⟩ := run_append_own_at (P := Tryz.prog) w B 23 23 44 i0 _ 6 56 Tryz.underlying23 hi0 hz0 hzs hzb rfl (by decide) _ _ _ h ⟨vb, 0, none⟩ m vc M hMl (fun j u hj => by rw [Addr.add_lit, Nat.zero_add]; exact hsrc j u hj) hM1 (by omega) (by omega) hB
    have hc1 : L.take (0 * 6) ++ M ++ L.drop (0 * 6) = L ++ M := by rw [Nat.zero_mul] at hLl ⊢; rw [List.eq_nil_of_length_eq_zero hLl]; simp
    rw [hc1]
    have HF := Lib.hid (And.intro h3 (And.intro h4 h6))
    clear h h2 hL1 hM1 hne hsrc hLl hMl h3 h4 h5 h6 hc1
    go_enter Tryz.func84, Tryz.ntmps84
    go_wp2_with (at_builtin; refine Lib.wpList_append_run _ rfl _ _ _ _ rfl _ _ rfl rfl _ _ hr ?_)
    all_goals (go_ret; exact ⟨v', rfl, HF.out.1, HF.out.2.1, HF.out.2.2⟩)
  have hgv : g ≠ vb := fun e => hne (by rw [e]; rfl)
  have hc63 : c ≤ 9223372036854775807 := by unfold maxLen at hcm; omega
  by_cases hin : i = n
  · have hz2 : ((i : Int) == (n : Int)) = true := by rw [hin]; simp
    obtain ⟨v', w', hr, h3, h4, h5, h6⟩ := run_append_own_at (P := Tryz.prog) w B 23 23 44 i0 _ 6 56 Tryz.underlying23 hi0 hz0 hzs hzb rfl (by decide) _ _ _ h ⟨vb, 0, none⟩ m vc M hMl (fun j u hj => by rw [Addr.add_lit, Nat.zero_add]; exact hsrc j u hj) hM1 (by omega) (by omega) hB
    have hc1 : L.take (i * 6) ++ M ++ L.drop (i * 6) = L ++ M := by rw [List.take_of_length_le (by omega), List.drop_of_length_le (by omega), List.append_nil]
    rw [hc1]
    have HF := Lib.hid (And.intro h3 (And.intro h4 h6))
    have hic : (i : Int) ≤ (c : Int) := by omega
    have hiz : (i : Int) ≤ (n : Int) := by omega
    clear h h2 hL1 hM1 hne hsrc hLl hMl h3 h4 h5 h6 hc1
    go_enter Tryz.func84, Tryz.ntmps84
    go_wp2_with (at_builtin; refine Lib.wpList_append_run _ rfl _ _ _ _ rfl _ _ rfl rfl _ _ hr ?_)
    all_goals (go_ret; exact ⟨v', rfl, HF.out.1, HF.out.2.1, HF.out.2.2⟩)
  have hlt : i < n := by omega
  have hz2 : ¬ ((i : Int) = (n : Int)) := by omega
  have hlz : (i : Int) ≤ (n : Int) := by omega
  have hdl : (L.drop (i * 6)).length = (n - i) * 6 := by rw [List.length_drop, hLl, Nat.sub_mul]
  have hd1 : ∀ v ∈ L.drop (i * 6), v.oneCell' = true := fun v hv => hL1 v (List.mem_of_mem_drop hv)
  have hsl : ∀ j v, (L.drop (i * 6))[j]? = some v → w.cell? ((⟨g, i * 6, none⟩ : Addr).add j) = some v := fun j v hj => by
    rw [Addr.add_lit]
    rw [List.getElem?_drop] at hj
    exact own_src h _ _ hj
  have hw1 : IntKind.i64.wrap ((i : Int) + (m : Int)) = (i : Int) + (m : Int) := by rw [IntKind.wrap_i64]; omega
  have hb1 : (0 : Int) ≤ (i : Int) + (m : Int) := by omega
  have htn : ((i : Int) + (m : Int)).toNat = i + m := by omega
  have hb3 : (i : Int) ≤ (n : Int) + (m : Int) := by omega
  have hb4 : ¬ (c = i) := by omega
  have hs44 : (Tryz.prog.info? 44).map (·.size) = some 6 := by rw [hi0]; simp [hzs]
  by_cases hroom : n + m ≤ c
  · obtain ⟨Y, hY, hext⟩ := own_ext h (n + m) (by omega) hroom
    have hz3 : ¬ ((c : Int) < (n : Int) + (m : Int)) := by omega
    have hov : ∀ lb cb, (callFunc 98 #[.slice (some ⟨vb, 0, none⟩) m vc, .slice (some ⟨g, (i + m) * 6, none⟩) lb cb]).run Tryz.prog w = .ok (.value (.bool false)) w := fun lb cb => by
      rw [run_callFunc_extern Tryz.func98 (by kernel_rfl) (by kernel_rfl) (by kernel_rfl) (e := Extern.SlicesOverlaps.overlaps #[23, 23] #[4]) (by kernel_rfl),
        overlaps_own hext h2 (fun e => hgv e.symm) 23 4 Tryz.underlying23 (fun w => by kernel_rfl) (by omega) (by decide) _ _ _ _]
      rfl
    have hext2 : (w.drew).ownsRow B 44 6 (.slice (some ⟨g, 0, none⟩) (n + m) c) (n + m) (L ++ Y) := hext
    obtain ⟨hcp1, hO1, hG1⟩ := copy_own hext2 23 23 (i + m) (n - i) ⟨g, i * 6, none⟩ (L.drop (i * 6)) Tryz.underlying23 hs44 hdl (by omega) hsl hd1
    obtain ⟨W1, hW1⟩ : ∃ W1, W1 = w.drew.setCells g ((i + m) * 6) (L.drop (i * 6)) := ⟨_, rfl⟩
    rw [← hW1] at hcp1 hO1 hG1
    have hsM : ∀ j v, M[j]? = some v → W1.cell? ((⟨vb, 0, none⟩ : Addr).add j) = some v := fun j v hj => by
      rw [Addr.add_lit, hW1, World.cell?_setCells_out g _ _ _ _ (fun e _ => absurd e.symm hgv), Nat.zero_add]
      exact hsrc j v hj
    obtain ⟨hcp2, hO2, hG2⟩ := copy_own hO1 23 23 i m ⟨vb, 0, none⟩ M Tryz.underlying23 hs44 hMl (by omega) hsM hM1
    have hYl : Y.length = m * 6 := by rw [hY]; congr 1; omega
    have e1 : (i + m) * 6 = i * 6 + M.length := by rw [hMl, Nat.add_mul]
    have e2 : (i + m + (n - i)) * 6 = L.length + M.length := by rw [hLl, hMl, ← Nat.add_mul]; congr 1; omega
    rw [e1, e2, shift_list (by rw [hLl]; exact Nat.mul_le_mul_right _ hi) (by rw [hYl, hMl])] at hO2
    have hcp1a := fun ty => hcp1 ty (n + m - (i + m)) (c - (i + m)) (n + m - i) (c - i) ((Nat.min_eq_right (by omega)).trans (by omega))
    have hcp2a := fun ty => hcp2 ty (n + m - i) (c - i) m vc (Nat.min_eq_left (by omega))
    have hGG : w.grownBy (W1.setCells g (i * 6) M) (some g) := (grown_drew hG1).trans hG2
    have HF := Lib.hid (And.intro hO2 hGG)
    have hb2 : ¬ (c = i + m) := by omega
    have hrz : (n : Int) + (m : Int) ≤ (c : Int) := by omega
    have hwn : IntKind.i64.wrap ((n : Int) + (m : Int)) = (n : Int) + (m : Int) := by rw [IntKind.wrap_i64]; omega
    have hbn : (0 : Int) ≤ (n : Int) + (m : Int) := by omega
    have htm : ((n : Int) + (m : Int)).toNat = n + m := by omega
    clear hW1 h h2 hL1 hM1 hne hsrc hLl hMl hdl hd1 hsl hext hext2 hY hO1 hG1 hsM hO2 hG2 hYl e1 e2 hGG hcp1 hcp2 hBg
    go_enter Tryz.func84, Tryz.ntmps84
    go_wp2_with (simp only [hov])
    go_region_law (refine step_copy_is rfl _ _ 23 23 rfl (.slice (some ⟨g, (i + m) * 6, none⟩) (n + m - (i + m)) (c - (i + m))) (.slice (some ⟨g, i * 6, none⟩) (n + m - i) (c - i)) (by simp [Act.eval, Act.put]) (by simp [Act.eval, Act.put]) (hcp1a _) ?_)
    go_wp2_with (at_builtin; refine wpList_copy_is _ rfl _ _ 23 23 rfl _ _ rfl rfl (hcp2a _) ?_)
    go_ret
    exact ⟨_, rfl, HF.out.1, HF.out.2, .inl rfl⟩
  · have hroom' : c < n + m := by omega
    have hz3 : (c : Int) < (n : Int) + (m : Int) := by omega
    have hkk : (n : Int) + (m : Int) - (i : Int) = ((n + m - i : Nat) : Int) := by omega
    have hik : i + (n + m - i) = n + m := by omega
    have htl : (L.take (i * 6)).length = i * 6 := by rw [List.length_take, hLl]; exact Nat.min_eq_left (Nat.mul_le_mul_right _ hi)
    have hold : (Builtin.firstCells i0.size i (.slice (some ⟨g, 0, none⟩) i c)).run Tryz.prog w.drew = .ok (L.take (i * 6)).toArray w.drew := by
      rw [hzs]
      exact run_firstCells_some w.drew 6 i ⟨g, 0, none⟩ i c (L.take (i * 6)) htl (fun j v hj => by
        rw [Addr.add_lit, Nat.zero_add]
        rw [List.getElem?_take] at hj
        split at hj
        · exact own_src h _ _ hj
        · cases hj)
    obtain ⟨G, hG⟩ : ∃ G, G = grownCap w (n + m) c 44 := ⟨_, rfl⟩
    obtain ⟨ROW, hROW⟩ : ∃ ROW : Array Value, ROW = (L.take (i * 6)).toArray ++ Builtin.zeroCells (.agg #[(.int .i64 0), (.int .i64 0), (.string ⟨#[]⟩), (.int .i64 0), (.int .i64 0), (.int .i64 0)] : Value).cells (n + m - i) ++ Builtin.zeroCells (.agg #[(.int .i64 0), (.int .i64 0), (.string ⟨#[]⟩), (.int .i64 0), (.int .i64 0), (.int .i64 0)] : Value).cells (G - (n + m)) := ⟨_, rfl⟩
    have hGn : n + m ≤ G := by rw [hG]; exact grownCap_ge w _ _ _
    have hGm : G ≤ maxLen := by rw [hG]; exact grownCap_le_maxLen w (n + m) c 44 (by omega)
    have hrz : ∀ ty, (Builtin.append_ #[23, 3] ty #[.slice (some ⟨g, 0, none⟩) i c, .int .i64 ((n : Int) + (m : Int) - (i : Int))]).run Tryz.prog w = .ok (.slice (some ⟨w.heap.size, 0, none⟩) (n + m) G) (w.drew.alloc (.cells ROW 44)) := fun ty => by
      have h := Lib.run_append_grow_zeros w 23 3 ty 44 i0 _ .i64 .i64 Tryz.underlying23 Tryz.underlying3 hi0 hz0 (some ⟨g, 0, none⟩) i c (L.take (i * 6)) hold (n + m - i) (by omega) (by omega) (by omega) (by omega) (by rw [hzb]; omega) (by rw [hzb, hik]; exact growslice_fits hroom' (by omega))
      rw [hik, ← hG, ← hROW] at h
      rw [hkk]
      exact h
    have hzl : ∀ q, (Builtin.zeroCells (.agg #[(.int .i64 0), (.int .i64 0), (.string ⟨#[]⟩), (.int .i64 0), (.int .i64 0), (.int .i64 0)] : Value).cells q).size = q * 6 := fun q => by simp [Builtin.zeroCells, Value.cells]
    have hRs : ROW.size = G * 6 := by
      rw [hROW, Array.size_append, Array.size_append, hzl, hzl, List.size_toArray, htl, ← Nat.add_mul, ← Nat.add_mul]
      congr 1; omega
    obtain ⟨W1, hW1⟩ : ∃ W1, W1 = (w.alloc (.cells ROW 44)).drew := ⟨_, rfl⟩
    have hnb : W1.heap[w.heap.size]? = some (.cells ROW 44 (0, 0)) := by rw [hW1]; exact blk_new w _
    have hO0 : W1.ownsRow B 44 6 (.slice (some ⟨w.heap.size, 0, none⟩) (n + m) G) (n + m) (L.take (i * 6) ++ (Builtin.zeroCells (.agg #[(.int .i64 0), (.int .i64 0), (.string ⟨#[]⟩), (.int .i64 0), (.int .i64 0), (.int .i64 0)] : Value).cells (n + m - i)).toList) := by
      refine ⟨by rw [List.length_append, htl, Array.length_toList, hzl, ← Nat.add_mul, hik], .inr ⟨w.heap.size, G, ROW, rfl, hB, hnb, hGn, hGm, hRs, ?_⟩⟩
      rw [hROW, Array.toList_append, Array.toList_append]
      exact List.take_left' (by rw [List.length_append, htl, Array.length_toList, hzl, ← Nat.add_mul, hik])
    have hvw : vb < w.heap.size := by obtain ⟨cur, hg, _⟩ := own_blk h2; exact blk_lt hg
    have hba : Below w.heap.size w W1 := by rw [hW1]; exact below_drew (below_alloc (Below.refl _ _) _)
    have hsM : ∀ j v, M[j]? = some v → W1.cell? ((⟨vb, 0, none⟩ : Addr).add j) = some v := fun j v hj => by
      rw [Addr.add_lit, Nat.zero_add]
      exact pw_cell_below hba (hsrc j v hj)
    obtain ⟨hcpA, hO1, hG1⟩ := copy_own hO0 23 23 i m ⟨vb, 0, none⟩ M Tryz.underlying23 hs44 hMl (by omega) hsM hM1
    obtain ⟨W2, hW2⟩ : ∃ W2, W2 = (W1.setCells w.heap.size (i * 6) M).drew := ⟨_, rfl⟩
    have hO1' : W2.ownsRow B 44 6 (.slice (some ⟨w.heap.size, 0, none⟩) (n + m) G) (n + m) ((L.take (i * 6) ++ (Builtin.zeroCells (.agg #[(.int .i64 0), (.int .i64 0), (.string ⟨#[]⟩), (.int .i64 0), (.int .i64 0), (.int .i64 0)] : Value).cells (n + m - i)).toList).take (i * 6) ++ M ++ (L.take (i * 6) ++ (Builtin.zeroCells (.agg #[(.int .i64 0), (.int .i64 0), (.string ⟨#[]⟩), (.int .i64 0), (.int .i64 0), (.int .i64 0)] : Value).cells (n + m - i)).toList).drop ((i + m) * 6)) := by rw [hW2]; exact hO1
    have hsL : ∀ j v, (L.drop (i * 6))[j]? = some v → W2.cell? ((⟨g, i * 6, none⟩ : Addr).add j) = some v := fun j v hj => by
      have h0 := hsl j v hj
      rw [Addr.add_lit] at h0 ⊢
      have h1 := pw_cell_below hba h0
      rw [hW2]
      show (W1.setCells w.heap.size (i * 6) M).cell? _ = _
      rw [World.cell?_setCells_out _ _ _ _ _ (fun e _ => by have := hgw; have : g = w.heap.size := e; omega)]
      exact h1
    obtain ⟨hcpB, hO2, hG2⟩ := copy_own hO1' 23 23 (i + m) (n - i) ⟨g, i * 6, none⟩ (L.drop (i * 6)) Tryz.underlying23 hs44 hdl (by omega) hsL hd1
    have hgr : w.grownBy (W2.setCells w.heap.size ((i + m) * 6) (L.drop (i * 6))) (some g) := by
      have g1 : w.grownBy W1 (some g) := grown_of_below hba _
      have g2 : Below w.heap.size w (W1.setCells w.heap.size (i * 6) M) := hba.grown (grown_setCells M (i * 6) W1) hba.size (fun k hk => by cases hk; exact Nat.le_refl _)
      have g3 : Below w.heap.size w W2 := by rw [hW2]; exact below_drew g2
      exact grown_of_below (g3.grown hG2 g3.size (fun k hk => by cases hk; exact Nat.le_refl _)) _
    have e0 : (L.take (i * 6) ++ (Builtin.zeroCells (.agg #[(.int .i64 0), (.int .i64 0), (.string ⟨#[]⟩), (.int .i64 0), (.int .i64 0), (.int .i64 0)] : Value).cells (n + m - i)).toList).length = L.length + M.length := by rw [List.length_append, htl, Array.length_toList, hzl, hLl, hMl, ← Nat.add_mul, ← Nat.add_mul, hik]
    have e1 : (i + m) * 6 = i * 6 + M.length := by rw [hMl, Nat.add_mul]
    have e2 : (i + m + (n - i)) * 6 = L.length + M.length := by rw [hLl, hMl, ← Nat.add_mul]; congr 1; omega
    rw [e1, e2, grow_list htl e0 (by rw [hLl]; exact Nat.mul_le_mul_right _ hi)] at hO2
    have hGi : ¬ (G = i) := by omega
    have hGim : ¬ (G = i + m) := by omega
    have hG63 : G ≤ 9223372036854775807 := by unfold maxLen at hGm; omega
    rw [e1] at hgr
    have HF := Lib.hid (And.intro hO2 hgr)
    have hE1 : i * 6 + M.length = (i + m) * 6 := e1.symm
    rw [hE1] at HF
    have hcpAa := fun ty => hcpA ty (n + m - i) (G - i) m vc (Nat.min_eq_left (by omega))
    have hcpBa := fun ty => hcpB ty (n + m - (i + m)) (G - (i + m)) (n - i) (c - i) ((Nat.min_eq_left (by omega)).trans rfl)
    rw [hW2] at hcpBa HF
    rw [hW1] at hcpAa hcpBa HF
    have hb3' : (i : Int) ≤ (n : Int) := by omega
    clear h h2 hL1 hM1 hne hsrc hLl hMl hdl hd1 hsl hold hzl hRs hW1 hnb hO0 hba hsM hcpA hO1 hG1 hW2 hO1' hsL hcpB hO2 hG2 hgr e0 e1 e2 hE1 hROW hG htl hBg hkk hik
    go_enter Tryz.func84, Tryz.ntmps84
    go_wp2_with (first
      | (at_builtin; refine Lib.wpList_append_run _ rfl _ _ _ _ rfl _ _ rfl rfl _ _ (hrz _) ?_)
      | (at_builtin; refine wpList_copy_is _ rfl _ _ 23 23 rfl _ _ rfl rfl (hcpAa _) ?_)
      | (at_builtin; refine wpList_copy_is _ rfl _ _ 23 23 rfl _ _ rfl rfl (hcpBa _) ?_))
    go_region_law (refine step_copy_is rfl _ _ 23 23 rfl (.slice (some ⟨w.heap.size, (i + m) * 6, none⟩) (n + m - (i + m)) (G - (i + m))) (.slice (some ⟨g, i * 6, none⟩) (n - i) (c - i)) (by simp [Act.eval, Act.put]) (by simp [Act.eval, Act.put]) (hcpBa _) ?_)
    go_wp2
    go_ret
    exact ⟨_, rfl, HF.out.1, HF.out.2, .inr rfl⟩
/-- slices.Insert -/
theorem insI_raw {w : World} {B B2 c vb vc n m i : Nat} {A : Option Addr} {L M : List Value} (h : w.ownsRow B 3 1 (.slice A n c) n L) (hB : B ≤ w.heap.size) (h2 : w.ownsRow B2 3 1 (.slice (some ⟨vb, 0, none⟩) m vc) m M)
    (hL1 : ∀ u ∈ L, u.oneCell' = true) (hM1 : ∀ u ∈ M, u.oneCell' = true) (hne : (Value.slice A n c).ownBlock ≠ some vb) (hi : i ≤ n) (hm : 0 < m) (hl : n ≤ 1000) (hml : m ≤ 1000) :
    Calls Tryz.prog 89 #[.slice A n c, .int .i64 i, .slice (some ⟨vb, 0, none⟩) m vc] w fun e w' => ∃ v, e = .returned v ∧ w'.ownsRow B 3 1 v (n + m) (L.take (i * 1) ++ M ++ L.drop (i * 1)) ∧ w.grownBy w' (Value.slice A n c).ownBlock ∧ (v.ownBlock = (Value.slice A n c).ownBlock ∨ v.ownBlock = some w.heap.size) := by
  have hsrc := own_src h2
  have hLl := h.1
  have hMl := h2.1
  obtain ⟨i0, hi0, hz0, hzs, hzb⟩ := info_parts PE.info3
  have hz1 : ¬ ((m : Int) = 0) := by omega
  have hbig : (1000 + 1000 : Nat) ≤ maxLen := by decide
  rcases own_two h with ⟨rfl, rfl, rfl⟩ | ⟨g, rfl, hnc, hcm, hBg, hgw⟩
  · obtain rfl : i = 0 := by omega
    obtain ⟨v', w', hr, h3, h4, h5, h6⟩ := run_append_own_at (P := Tryz.prog) w B 22 22 3 i0 _ 1 8 Tryz.underlying22 hi0 hz0 hzs hzb rfl (by decide) _ _ _ h ⟨vb, 0, none⟩ m vc M hMl (fun j u hj => by rw [Addr.add_lit, Nat.zero_add]; exact hsrc j u hj) hM1 (by omega) (by omega) hB
    have hc1 : L.take (0 * 1) ++ M ++ L.drop (0 * 1) = L ++ M := by rw [Nat.zero_mul] at hLl ⊢; rw [List.eq_nil_of_length_eq_zero hLl]; simp
    rw [hc1]
    have HF := Lib.hid (And.intro h3 (And.intro h4 h6))
    clear h h2 hL1 hM1 hne hsrc hLl hMl h3 h4 h5 h6 hc1
    go_enter Tryz.func89, Tryz.ntmps89
    go_wp2_with (at_builtin; refine Lib.wpList_append_run _ rfl _ _ _ _ rfl _ _ rfl rfl _ _ hr ?_)
    all_goals (go_ret; exact ⟨v', rfl, HF.out.1, HF.out.2.1, HF.out.2.2⟩)
  have hgv : g ≠ vb := fun e => hne (by rw [e]; rfl)
  have hc63 : c ≤ 9223372036854775807 := by unfold maxLen at hcm; omega
  by_cases hin : i = n
  · have hz2 : ((i : Int) == (n : Int)) = true := by rw [hin]; simp
    obtain ⟨v', w', hr, h3, h4, h5, h6⟩ := run_append_own_at (P := Tryz.prog) w B 22 22 3 i0 _ 1 8 Tryz.underlying22 hi0 hz0 hzs hzb rfl (by decide) _ _ _ h ⟨vb, 0, none⟩ m vc M hMl (fun j u hj => by rw [Addr.add_lit, Nat.zero_add]; exact hsrc j u hj) hM1 (by omega) (by omega) hB
    have hc1 : L.take (i * 1) ++ M ++ L.drop (i * 1) = L ++ M := by rw [List.take_of_length_le (by omega), List.drop_of_length_le (by omega), List.append_nil]
    rw [hc1]
    have HF := Lib.hid (And.intro h3 (And.intro h4 h6))
    have hic : (i : Int) ≤ (c : Int) := by omega
    have hiz : (i : Int) ≤ (n : Int) := by omega
    clear h h2 hL1 hM1 hne hsrc hLl hMl h3 h4 h5 h6 hc1
    go_enter Tryz.func89, Tryz.ntmps89
    go_wp2_with (at_builtin; refine Lib.wpList_append_run _ rfl _ _ _ _ rfl _ _ rfl rfl _ _ hr ?_)
    all_goals (go_ret; exact ⟨v', rfl, HF.out.1, HF.out.2.1, HF.out.2.2⟩)
  have hlt : i < n := by omega
  have hz2 : ¬ ((i : Int) = (n : Int)) := by omega
  have hlz : (i : Int) ≤ (n : Int) := by omega
  have hdl : (L.drop (i * 1)).length = (n - i) * 1 := by rw [List.length_drop, hLl, Nat.sub_mul]
  have hd1 : ∀ v ∈ L.drop (i * 1), v.oneCell' = true := fun v hv => hL1 v (List.mem_of_mem_drop hv)
  have hsl : ∀ j v, (L.drop (i * 1))[j]? = some v → w.cell? ((⟨g, i * 1, none⟩ : Addr).add j) = some v := fun j v hj => by
    rw [Addr.add_lit]
    rw [List.getElem?_drop] at hj
    exact own_src h _ _ hj
  have hw1 : IntKind.i64.wrap ((i : Int) + (m : Int)) = (i : Int) + (m : Int) := by rw [IntKind.wrap_i64]; omega
  have hb1 : (0 : Int) ≤ (i : Int) + (m : Int) := by omega
  have htn : ((i : Int) + (m : Int)).toNat = i + m := by omega
  have hb3 : (i : Int) ≤ (n : Int) + (m : Int) := by omega
  have hb4 : ¬ (c = i) := by omega
  have hs3 : (Tryz.prog.info? 3).map (·.size) = some 1 := by rw [hi0]; simp [hzs]
  by_cases hroom : n + m ≤ c
  · obtain ⟨Y, hY, hext⟩ := own_ext h (n + m) (by omega) hroom
    have hz3 : ¬ ((c : Int) < (n : Int) + (m : Int)) := by omega
    have hov : ∀ lb cb, (callFunc 103 #[.slice (some ⟨vb, 0, none⟩) m vc, .slice (some ⟨g, (i + m) * 1, none⟩) lb cb]).run Tryz.prog w = .ok (.value (.bool false)) w := fun lb cb => by
      rw [run_callFunc_extern Tryz.func103 (by kernel_rfl) (by kernel_rfl) (by kernel_rfl) (e := Extern.SlicesOverlaps.overlaps #[22, 22] #[4]) (by kernel_rfl),
        overlaps_own hext h2 (fun e => hgv e.symm) 22 4 Tryz.underlying22 (fun w => by kernel_rfl) (by omega) (by decide) _ _ _ _]
      rfl
    have hext2 : (w.drew).ownsRow B 3 1 (.slice (some ⟨g, 0, none⟩) (n + m) c) (n + m) (L ++ Y) := hext
    obtain ⟨hcp1, hO1, hG1⟩ := copy_own hext2 22 22 (i + m) (n - i) ⟨g, i * 1, none⟩ (L.drop (i * 1)) Tryz.underlying22 hs3 hdl (by omega) hsl hd1
    obtain ⟨W1, hW1⟩ : ∃ W1, W1 = w.drew.setCells g ((i + m) * 1) (L.drop (i * 1)) := ⟨_, rfl⟩
    rw [← hW1] at hcp1 hO1 hG1
    have hsM : ∀ j v, M[j]? = some v → W1.cell? ((⟨vb, 0, none⟩ : Addr).add j) = some v := fun j v hj => by
      rw [Addr.add_lit, hW1, World.cell?_setCells_out g _ _ _ _ (fun e _ => absurd e.symm hgv), Nat.zero_add]
      exact hsrc j v hj
    obtain ⟨hcp2, hO2, hG2⟩ := copy_own hO1 22 22 i m ⟨vb, 0, none⟩ M Tryz.underlying22 hs3 hMl (by omega) hsM hM1
    have hYl : Y.length = m * 1 := by rw [hY]; congr 1; omega
    have e1 : (i + m) * 1 = i * 1 + M.length := by rw [hMl, Nat.add_mul]
    have e2 : (i + m + (n - i)) * 1 = L.length + M.length := by rw [hLl, hMl, ← Nat.add_mul]; congr 1; omega
    rw [e1, e2, shift_list (by rw [hLl]; exact Nat.mul_le_mul_right _ hi) (by rw [hYl, hMl])] at hO2
    have hcp1a := fun ty => hcp1 ty (n + m - (i + m)) (c - (i + m)) (n + m - i) (c - i) ((Nat.min_eq_right (by omega)).trans (by omega))
    have hcp2a := fun ty => hcp2 ty (n + m - i) (c - i) m vc (Nat.min_eq_left (by omega))
    have hGG : w.grownBy (W1.setCells g (i * 1) M) (some g) := (grown_drew hG1).trans hG2
    have HF := Lib.hid (And.intro hO2 hGG)
    have hb2 : ¬ (c = i + m) := by omega
    have hrz : (n : Int) + (m : Int) ≤ (c : Int) := by omega
    have hwn : IntKind.i64.wrap ((n : Int) + (m : Int)) = (n : Int) + (m : Int) := by rw [IntKind.wrap_i64]; omega
    have hbn : (0 : Int) ≤ (n : Int) + (m : Int) := by omega
    have htm : ((n : Int) + (m : Int)).toNat = n + m := by omega
    simp only [Nat.mul_one] at hcp1a hcp2a HF hov ⊢
    clear hW1 h h2 hL1 hM1 hne hsrc hLl hMl hdl hd1 hsl hext hext2 hY hO1 hG1 hsM hO2 hG2 hYl e1 e2 hGG hcp1 hcp2 hBg
    go_enter Tryz.func89, Tryz.ntmps89
    go_wp2_with (simp only [hov])
    go_region_law (refine step_copy_is rfl _ _ 22 22 rfl (.slice (some ⟨g, i + m, none⟩) (n + m - (i + m)) (c - (i + m))) (.slice (some ⟨g, i, none⟩) (n + m - i) (c - i)) (by simp [Act.eval, Act.put]) (by simp [Act.eval, Act.put]) (hcp1a _) ?_)
    go_wp2_with (at_builtin; refine wpList_copy_is _ rfl _ _ 22 22 rfl _ _ rfl rfl (hcp2a _) ?_)
    go_ret
    exact ⟨_, rfl, HF.out.1, HF.out.2, .inl rfl⟩
  · have hroom' : c < n + m := by omega
    have hz3 : (c : Int) < (n : Int) + (m : Int) := by omega
    have hkk : (n : Int) + (m : Int) - (i : Int) = ((n + m - i : Nat) : Int) := by omega
    have hik : i + (n + m - i) = n + m := by omega
    have htl : (L.take (i * 1)).length = i * 1 := by rw [List.length_take, hLl]; exact Nat.min_eq_left (Nat.mul_le_mul_right _ hi)
    have hold : (Builtin.firstCells i0.size i (.slice (some ⟨g, 0, none⟩) i c)).run Tryz.prog w.drew = .ok (L.take (i * 1)).toArray w.drew := by
      rw [hzs]
      exact run_firstCells_some w.drew 1 i ⟨g, 0, none⟩ i c (L.take (i * 1)) htl (fun j v hj => by
        rw [Addr.add_lit, Nat.zero_add]
        rw [List.getElem?_take] at hj
        split at hj
        · exact own_src h _ _ hj
        · cases hj)
    obtain ⟨G, hG⟩ : ∃ G, G = grownCap w (n + m) c 3 := ⟨_, rfl⟩
    obtain ⟨ROW, hROW⟩ : ∃ ROW : Array Value, ROW = (L.take (i * 1)).toArray ++ Builtin.zeroCells (.int .i64 0 : Value).cells (n + m - i) ++ Builtin.zeroCells (.int .i64 0 : Value).cells (G - (n + m)) := ⟨_, rfl⟩
    have hGn : n + m ≤ G := by rw [hG]; exact grownCap_ge w _ _ _
    have hGm : G ≤ maxLen := by rw [hG]; exact grownCap_le_maxLen w (n + m) c 3 (by omega)
    have hrz : ∀ ty, (Builtin.append_ #[22, 3] ty #[.slice (some ⟨g, 0, none⟩) i c, .int .i64 ((n : Int) + (m : Int) - (i : Int))]).run Tryz.prog w = .ok (.slice (some ⟨w.heap.size, 0, none⟩) (n + m) G) (w.drew.alloc (.cells ROW 3)) := fun ty => by
      have h := Lib.run_append_grow_zeros w 22 3 ty 3 i0 _ .i64 .i64 Tryz.underlying22 Tryz.underlying3 hi0 hz0 (some ⟨g, 0, none⟩) i c (L.take (i * 1)) hold (n + m - i) (by omega) (by omega) (by omega) (by omega) (by rw [hzb]; omega) (by rw [hzb, hik]; exact growslice_fits hroom' (by omega))
      rw [hik, ← hG, ← hROW] at h
      rw [hkk]
      exact h
    have hzl : ∀ q, (Builtin.zeroCells (.int .i64 0 : Value).cells q).size = q * 1 := fun q => by simp [Builtin.zeroCells, Value.cells]
    have hRs : ROW.size = G * 1 := by
      rw [hROW, Array.size_append, Array.size_append, hzl, hzl, List.size_toArray, htl, ← Nat.add_mul, ← Nat.add_mul]
      congr 1; omega
    obtain ⟨W1, hW1⟩ : ∃ W1, W1 = (w.alloc (.cells ROW 3)).drew := ⟨_, rfl⟩
    have hnb : W1.heap[w.heap.size]? = some (.cells ROW 3 (0, 0)) := by rw [hW1]; exact blk_new w _
    have hO0 : W1.ownsRow B 3 1 (.slice (some ⟨w.heap.size, 0, none⟩) (n + m) G) (n + m) (L.take (i * 1) ++ (Builtin.zeroCells (.int .i64 0 : Value).cells (n + m - i)).toList) := by
      refine ⟨by rw [List.length_append, htl, Array.length_toList, hzl, ← Nat.add_mul, hik], .inr ⟨w.heap.size, G, ROW, rfl, hB, hnb, hGn, hGm, hRs, ?_⟩⟩
      rw [hROW, Array.toList_append, Array.toList_append]
      exact List.take_left' (by rw [List.length_append, htl, Array.length_toList, hzl, ← Nat.add_mul, hik])
    have hvw : vb < w.heap.size := by obtain ⟨cur, hg, _⟩ := own_blk h2; exact blk_lt hg
    have hba : Below w.heap.size w W1 := by rw [hW1]; exact below_drew (below_alloc (Below.refl _ _) _)
    have hsM : ∀ j v, M[j]? = some v → W1.cell? ((⟨vb, 0, none⟩ : Addr).add j) = some v := fun j v hj => by
      rw [Addr.add_lit, Nat.zero_add]
      exact pw_cell_below hba (hsrc j v hj)
    obtain ⟨hcpA, hO1, hG1⟩ := copy_own hO0 22 22 i m ⟨vb, 0, none⟩ M Tryz.underlying22 hs3 hMl (by omega) hsM hM1
    obtain ⟨W2, hW2⟩ : ∃ W2, W2 = (W1.setCells w.heap.size (i * 1) M).drew := ⟨_, rfl⟩
    have hO1' : W2.ownsRow B 3 1 (.slice (some ⟨w.heap.size, 0, none⟩) (n + m) G) (n + m) ((L.take (i * 1) ++ (Builtin.zeroCells (.int .i64 0 : Value).cells (n + m - i)).toList).take (i * 1) ++ M ++ (L.take (i * 1) ++ (Builtin.zeroCells (.int .i64 0 : Value).cells (n + m - i)).toList).drop ((i + m) * 1)) := by rw [hW2]; exact hO1
    have hsL : ∀ j v, (L.drop (i * 1))[j]? = some v → W2.cell? ((⟨g, i * 1, none⟩ : Addr).add j) = some v := fun j v hj => by
      have h0 := hsl j v hj
      rw [Addr.add_lit] at h0 ⊢
      have h1 := pw_cell_below hba h0
      rw [hW2]
      show (W1.setCells w.heap.size (i * 1) M).cell? _ = _
      rw [World.cell?_setCells_out _ _ _ _ _ (fun e _ => by have := hgw; have : g = w.heap.size := e; omega)]
      exact h1
    obtain ⟨hcpB, hO2, hG2⟩ := copy_own hO1' 22 22 (i + m) (n - i) ⟨g, i * 1, none⟩ (L.drop (i * 1)) Tryz.underlying22 hs3 hdl (by omega) hsL hd1
    have hgr : w.grownBy (W2.setCells w.heap.size ((i + m) * 1) (L.drop (i * 1))) (some g) := by
      have g1 : w.grownBy W1 (some g) := grown_of_below hba _
      have g2 : Below w.heap.size w (W1.setCells w.heap.size (i * 1) M) := hba.grown (grown_setCells M (i * 1) W1) hba.size (fun k hk => by cases hk; exact Nat.le_refl _)
      have g3 : Below w.heap.size w W2 := by rw [hW2]; exact below_drew g2
      exact grown_of_below (g3.grown hG2 g3.size (fun k hk => by cases hk; exact Nat.le_refl _)) _
    have e0 : (L.take (i * 1) ++ (Builtin.zeroCells (.int .i64 0 : Value).cells (n + m - i)).toList).length = L.length + M.length := by rw [List.length_append, htl, Array.length_toList, hzl, hLl, hMl, ← Nat.add_mul, ← Nat.add_mul, hik]
    have e1 : (i + m) * 1 = i * 1 + M.length := by rw [hMl, Nat.add_mul]
    have e2 : (i + m + (n - i)) * 1 = L.length + M.length := by rw [hLl, hMl, ← Nat.add_mul]; congr 1; omega
    rw [e1, e2, grow_list htl e0 (by rw [hLl]; exact Nat.mul_le_mul_right _ hi)] at hO2
    have hGi : ¬ (G = i) := by omega
    have hGim : ¬ (G = i + m) := by omega
    have hG63 : G ≤ 9223372036854775807 := by unfold maxLen at hGm; omega
    rw [e1] at hgr
    have HF := Lib.hid (And.intro hO2 hgr)
    have hE1 : i * 1 + M.length = (i + m) * 1 := e1.symm
    rw [hE1] at HF
    have hcpAa := fun ty => hcpA ty (n + m - i) (G - i) m vc (Nat.min_eq_left (by omega))
    have hcpBa := fun ty => hcpB ty (n + m - (i + m)) (G - (i + m)) (n - i) (c - i) ((Nat.min_eq_left (by omega)).trans rfl)
    rw [hW2] at hcpBa HF
    rw [hW1] at hcpAa hcpBa HF
    have hb3' : (i : Int) ≤ (n : Int) := by omega
    simp only [Nat.mul_one] at hcpAa hcpBa HF hrz ⊢
    clear h h2 hL1 hM1 hne hsrc hLl hMl hdl hd1 hsl hold hzl hRs hW1 hnb hO0 hba hsM hcpA hO1 hG1 hW2 hO1' hsL hcpB hO2 hG2 hgr e0 e1 e2 hE1 hROW hG htl hBg hkk hik
    go_enter Tryz.func89, Tryz.ntmps89
    go_wp2_with (first
      | (at_builtin; refine Lib.wpList_append_run _ rfl _ _ _ _ rfl _ _ rfl rfl _ _ (hrz _) ?_)
      | (at_builtin; refine wpList_copy_is _ rfl _ _ 22 22 rfl _ _ rfl rfl (hcpAa _) ?_)
      | (at_builtin; refine wpList_copy_is _ rfl _ _ 22 22 rfl _ _ rfl rfl (hcpBa _) ?_))
    go_region_law (refine step_copy_is rfl _ _ 22 22 rfl (.slice (some ⟨w.heap.size, i + m, none⟩) (n + m - (i + m)) (G - (i + m))) (.slice (some ⟨g, i, none⟩) (n - i) (c - i)) (by simp [Act.eval, Act.put]) (by simp [Act.eval, Act.put]) (hcpBa _) ?_)
    go_wp2
    go_ret
    exact ⟨_, rfl, HF.out.1, HF.out.2, .inr rfl⟩
theorem insC_any {w : World} {B B2 c vb vc i : Nat} {A : Option Addr} {l ms : List S44} (h : Ow encC 44 6 w B (.slice A l.length c) l) (hB : B ≤ w.heap.size) (h2 : Ow encC 44 6 w B2 (.slice (some ⟨vb, 0, none⟩) ms.length vc) ms)
    (hne : (Value.slice A l.length c).ownBlock ≠ some vb) (hi : i ≤ l.length) (hm : 0 < ms.length) (hl : l.length ≤ 1000) (hml : ms.length ≤ 1000) :
    Calls Tryz.prog 84 #[.slice A l.length c, .int .i64 i, .slice (some ⟨vb, 0, none⟩) ms.length vc] w fun e w' => ∃ v, e = .returned v ∧ Ow encC 44 6 w' B v (l.take i ++ ms ++ l.drop i) ∧ w.grownBy w' (Value.slice A l.length c).ownBlock ∧ (v.ownBlock = (Value.slice A l.length c).ownBlock ∨ v.ownBlock = some w.heap.size) := by
  refine (insC_raw h hB h2 (flt_one oneC l) (flt_one oneC ms) hne hi hm hl hml).mono ?_
  rintro e w' ⟨v, rfl, ho, hg, hb⟩
  refine ⟨v, rfl, ?_, hg, hb⟩
  show w'.ownsRow B 44 6 v (l.take i ++ ms ++ l.drop i).length (flt encC (l.take i ++ ms ++ l.drop i))
  have hn : (l.take i ++ ms ++ l.drop i).length = l.length + ms.length := by simp only [List.length_append, List.length_take, List.length_drop]; omega
  rw [hn, flt_app, flt_app, ← flt_take lenC, ← flt_drop lenC]
  exact ho
theorem insI_any {w : World} {B B2 c vb vc i : Nat} {A : Option Addr} {l ms : List Int} (h : Ow encI 3 1 w B (.slice A l.length c) l) (hB : B ≤ w.heap.size) (h2 : Ow encI 3 1 w B2 (.slice (some ⟨vb, 0, none⟩) ms.length vc) ms)
    (hne : (Value.slice A l.length c).ownBlock ≠ some vb) (hi : i ≤ l.length) (hm : 0 < ms.length) (hl : l.length ≤ 1000) (hml : ms.length ≤ 1000) :
    Calls Tryz.prog 89 #[.slice A l.length c, .int .i64 i, .slice (some ⟨vb, 0, none⟩) ms.length vc] w fun e w' => ∃ v, e = .returned v ∧ Ow encI 3 1 w' B v (l.take i ++ ms ++ l.drop i) ∧ w.grownBy w' (Value.slice A l.length c).ownBlock ∧ (v.ownBlock = (Value.slice A l.length c).ownBlock ∨ v.ownBlock = some w.heap.size) := by
  refine (insI_raw h hB h2 (flt_one oneI l) (flt_one oneI ms) hne hi hm hl hml).mono ?_
  rintro e w' ⟨v, rfl, ho, hg, hb⟩
  refine ⟨v, rfl, ?_, hg, hb⟩
  show w'.ownsRow B 3 1 v (l.take i ++ ms ++ l.drop i).length (flt encI (l.take i ++ ms ++ l.drop i))
  have hn : (l.take i ++ ms ++ l.drop i).length = l.length + ms.length := by simp only [List.length_append, List.length_take, List.length_drop]; omega
  rw [hn, flt_app, flt_app, ← flt_take lenI, ← flt_drop lenI]
  exact ho
end Go.Proofs.YtcofacgdijjnoaaGreat
