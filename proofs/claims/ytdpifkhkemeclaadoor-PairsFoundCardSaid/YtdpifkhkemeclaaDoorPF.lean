/- pairs.Find, walked. -/
import Derived.Test.YtdpifkhkemeclaaDoorPF0
import Derived.Test.YtdpifkhkemeclaaDoorPF1
import Derived.Scope
namespace Go.Proofs.YtdpifkhkemeclaaDoor
open Go.RowKit Go.Shelf
set_option linter.unusedVariables false
set_option linter.unusedSimpArgs false
attribute [local go_sem] Oper.semAt_some

theorem round_facts {w W W2 : World} {cv vO vP : Value} {op : List Nat} {out : List (Nat × Nat)} {ds : List Deferred} (hF : FS w cv vO vP op out W) (hM : Marks w.heap.size ds W) (i : Nat) (c : Int)
    (hb : Below ((W.alloc (.cells #[.int .i64 (i : Int)] 3)).alloc (.cells #[.int .i64 c] 3)).heap.size ((W.alloc (.cells #[.int .i64 (i : Int)] 3)).alloc (.cells #[.int .i64 c] 3)) W2) :
    FS w cv vO vP op out W2 ∧ Marks w.heap.size ds W2 ∧ Boxed W2 W.heap.size 3 (.int .i64 (i : Int)) ∧ Boxed W2 (W.heap.size + 1) 3 (.int .i64 c) ∧ W.heap.size + 2 ≤ W2.heap.size := by
  have b1 : Boxed ((W.alloc (.cells #[.int .i64 (i : Int)] 3)).alloc (.cells #[.int .i64 c] 3)) W.heap.size 3 (.int .i64 (i : Int)) := (Boxed.new W 3 _).alloc _
  have b2 : Boxed ((W.alloc (.cells #[.int .i64 (i : Int)] 3)).alloc (.cells #[.int .i64 c] 3)) (W.heap.size + 1) 3 (.int .i64 c) := by
    have := Boxed.new (W.alloc (.cells #[.int .i64 (i : Int)] 3)) 3 (.int .i64 c)
    rwa [World.size_alloc] at this
  have hs : ((W.alloc (.cells #[.int .i64 (i : Int)] 3)).alloc (.cells #[.int .i64 c] 3)).heap.size = W.heap.size + 2 := by simp
  exact ⟨((hF.alloc _).alloc _).below hb, ((hM.below ((Below.refl _ _).alloc (Nat.le_refl _) _)).below ((Below.refl _ _).alloc (Nat.le_refl _) _)).below hb, (hb.block _ b1.lt).trans b1, (hb.block _ b2.lt).trans b2, by rw [← hs]; exact hb.size⟩

theorem info3q : (Tryd.prog.info? 3).map (fun i => (i.zero, i.size, i.bytes)) = some (some (.int .i64 0), 1, 8) := by kernel_rfl
theorem own_isCells {W : World} {base : Nat} {e : TypeId} {size n : Nat} {v : Value} {xs : List Value} (h : W.ownsRow base e size v n xs) : ∀ (j : Nat) (o : Obj), v.ownBlock = some j → W.heap[j]? = some o → o.isCells = true := by
  intro j o hj ho
  rcases h.2 with ⟨rfl, _⟩ | ⟨g, cap, cur, rfl, _, hg, _⟩
  · simp [Value.ownBlock] at hj
  · simp [Value.ownBlock] at hj
    subst hj
    rw [hg] at ho
    injection ho with ho
    subst ho
    rfl
theorem own_takes {B : Nat} {W W' : World} (hT : Takes B W W') {base : Nat} {e : TypeId} {size n : Nat} {v : Value} {xs : List Value} (h : W.ownsRow base e size v n xs) : W'.ownsRow base e size v n xs := by
  refine ⟨h.1, ?_⟩
  rcases h.2 with h2 | ⟨g, cap, cur, rfl, hB, hg, r⟩
  · exact .inl h2
  · exact .inr ⟨g, cap, cur, rfl, hB, hT.2 _ _ hg rfl, r⟩

theorem intsB_of {w W : World} {aP : Option Addr} {n cP : Nat} {op : List Nat} (h : W.ownsRow w.heap.size 3 1 (.slice aP n cP) op.length (icells op)) : IntsB W.heap.size W (.slice aP n cP) (zInts op) := by
  rcases h.2 with ⟨hv, h0⟩ | ⟨g, cap, cur, hv, hB, hg, hle, hm, hs, ht⟩
  · injection hv with e1 e2 e3
    subst e1 e2 e3
    exact .inl ⟨none, 0, rfl, by rw [List.eq_nil_of_length_eq_zero h0]; rfl⟩
  · injection hv with e1 e2 e3
    subst e1 e2 e3
    refine .inr ⟨g, 0, cP, by simp [zInts], lt_of_block hg, fun j hj => ?_⟩
    have hj' : j < op.length := by simpa [zInts] using hj
    rw [cell_of_row _ _ _ _ _ _ hg, Nat.zero_add]
    have : (icells op)[j]? = cur[j]? := by
      rw [← ht, List.getElem?_take, if_pos (by omega)]
      simp
    rw [← this]
    simp [icells, zInts, hj']
set_option maxRecDepth 100000 in
set_option maxHeartbeats 8000000 in
theorem find_in (n : Nat) (hn : 5 ≤ n) (A0 A1 : Option Addr) (m c0 c1 : Nat) (types codes : List Int) (hm : m ≤ 1048576) (ht : types.length = m) (hc : codes.length = m) (w : World)
    (hT : ∀ j, j < m → ∃ ad, A0 = some ad ∧ w.cell? (ad.add j) = some (.int .i64 (types.getD j 0))) (hC : ∀ j, j < m → ∃ ad, A1 = some ad ∧ w.cell? (ad.add j) = some (.int .i64 (codes.getD j 0))) :
    CallsIn Fence.wide n Tryd.prog 10 #[.slice A0 m c0, .slice A1 m c1] w fun e W' => ∃ v out', e = .returned v ∧ out'.Perm (findGo types codes m 0 [] []) ∧ out'.Pairwise (fun a b => a.1 ≤ b.1) ∧ W'.ownsRow w.heap.size 31 2 v out'.length (pcells out') ∧ Below w.heap.size w W' := by
  have hro : (Fence.wide).round = none := rfl
  have HT := Lib.hid hT
  have HC := Lib.hid hC
  have Ht := Lib.hid ht
  have Hc := Lib.hid hc
  clear hT hC ht hc
  refine callsIn_of_wp_marks Tryd.func10 rfl trivial ?_ hro
  simp only [Tryd.ntmps10, List.size_toArray, List.length_cons, List.length_nil, Nat.reduceAdd, Nat.reduceSub, Array.replicate_succ, Array.replicate_zero, List.push_toArray, List.append_toArray, List.nil_append, List.cons_append]
  refine wpIn_wide.2 ?_
  go_wp2
  refine wp_scope_straight ?_
  go_wp2
  refine wp_label ?_
  go_wp2
  rename_i Q' K hK
  have hKfin : ∀ (tm : Array Value) (ds : List Deferred) (vO vP : Value) (op : List Nat) (out : List (Nat × Nat)) (W : World), tm = #[.slice A0 m c0, .slice A1 m c1, undef, .pointer (some ⟨w.heap.size, 0, none⟩), .slice none 0 0, .pointer (some ⟨w.heap.size + 1, 0, none⟩), .pointer (some ⟨w.heap.size + 1 + 1, 0, none⟩), tm.getD 7 undef, tm.getD 8 undef, tm.getD 9 undef, tm.getD 10 undef, tm.getD 11 undef, tm.getD 12 undef, .slice A0 m c0, .int .i64 (m : Int), .slice A1 m c1, .int .i64 (m : Int), .bool false, .slice A1 m c1, .int .i64 (m : Int), tm.getD 20 undef, tm.getD 21 undef, tm.getD 22 undef, tm.getD 23 undef, tm.getD 24 undef, tm.getD 25 undef, tm.getD 26 undef, tm.getD 27 undef, tm.getD 28 undef, tm.getD 29 undef, tm.getD 30 undef, tm.getD 31 undef, tm.getD 32 undef, tm.getD 33 undef, tm.getD 34 undef, tm.getD 35 undef, tm.getD 36 undef, tm.getD 37 undef, tm.getD 38 undef, tm.getD 39 undef, tm.getD 40 undef, tm.getD 41 undef, tm.getD 42 undef, tm.getD 43 undef, tm.getD 44 undef, tm.getD 45 undef, tm.getD 46 undef, tm.getD 47 undef, tm.getD 48 undef, tm.getD 49 undef, tm.getD 50 undef, tm.getD 51 undef, tm.getD 52 undef, tm.getD 53 undef, tm.getD 54 undef, tm.getD 55 undef, tm.getD 56 undef, tm.getD 57 undef, tm.getD 58 undef, tm.getD 59 undef, tm.getD 60 undef, tm.getD 61 undef, tm.getD 62 undef, tm.getD 63 undef, tm.getD 64 undef, tm.getD 65 undef, tm.getD 66 undef, tm.getD 67 undef, tm.getD 68 undef, tm.getD 69 undef, tm.getD 70 undef, tm.getD 71 undef, tm.getD 72 undef, tm.getD 73 undef, tm.getD 74 undef, undef, undef, undef] → FS w (.slice A1 m c1) vO vP op out W → Marks w.heap.size ds W → findGo types codes m 0 [] [] = out → out.length ≤ 1048576 →
      K { tmps := tm, defers := ds } W := by
    intro tm ds vO vP op out W htm hF hM hout hol
    refine hK _ _ ?_
    obtain ⟨u, hu⟩ : ∃ u : Nat → Value, u = fun k => tm.getD k undef := ⟨_, rfl⟩
    obtain ⟨t20, ht20⟩ : ∃ t, t = tm.getD 20 undef := ⟨_, rfl⟩
    have ha2 : tm = #[.slice A0 m c0, .slice A1 m c1, undef, .pointer (some ⟨w.heap.size, 0, none⟩), .slice none 0 0, .pointer (some ⟨w.heap.size + 1, 0, none⟩), .pointer (some ⟨w.heap.size + 1 + 1, 0, none⟩), u 7, u 8, u 9, u 10, u 11, u 12, .slice A0 m c0, .int .i64 (m : Int), .slice A1 m c1, .int .i64 (m : Int), .bool false, .slice A1 m c1, .int .i64 (m : Int), t20, u 21, u 22, u 23, u 24, u 25, u 26, u 27, u 28, u 29, u 30, u 31, u 32, u 33, u 34, u 35, u 36, u 37, u 38, u 39, u 40, u 41, u 42, u 43, u 44, u 45, u 46, u 47, u 48, u 49, u 50, u 51, u 52, u 53, u 54, u 55, u 56, u 57, u 58, u 59, u 60, u 61, u 62, u 63, u 64, u 65, u 66, u 67, u 68, u 69, u 70, u 71, u 72, u 73, u 74, undef, undef, undef] := by rw [hu, ht20]; exact htm
    clear hu ht20 htm
    subst ha2
    obtain ⟨aO, cO, rfl⟩ := YtdpifkhkemeclaaDoorW.PrintWords.own_slice hF.rO
    have c5 := hF.bO.cell
    have HS := Lib.hid (sort_any W w.heap.size _ out hol hF.rO)
    have HFh := Lib.hid hF
    have HMh := Lib.hid hM
    have Hout := Lib.hid hout
    clear hF hM hout hol hK
    go_wp2_with (go_at_call 23; with_reducible refine HS.out.mono ?_; rintro e W2 ⟨rfl, out', hp, hso, hr', hg'⟩; have c5' := (HFh.out.bO.kept hg' (HFh.out.bO.not_row (by decide) HFh.out.rO)).cell; have Hp := Lib.hid hp; have Hso := Lib.hid hso; have Hr := Lib.hid hr'; have Hg := Lib.hid hg'; clear hp hso hr' hg')
    have hM2 : Marks w.heap.size ds W2 := HMh.out.keep (KeepsOthers.of_grownBy Hg.out (fun j o hj ho => own_isCells HFh.out.rO j o hj ho))
    have hB2 : Below w.heap.size w W2 := HFh.out.bel.grown Hg.out HFh.out.bel.size (fun k hk => (HFh.out.rO.lt k hk).1)
    refine leaves_marks ds W2 hB2.size hM2 ?_
    rintro W' hTk
    refine ⟨.slice aO out.length cO, ?_, _, out', rfl, by rw [Hout.out]; exact Hp.out, Hso.out, own_takes hTk Hr.out, hB2.trans hTk.1⟩
    exact results_tmp Tryd.results10 _ _ _
  have HKfin := Lib.hid hKfin
  clear hKfin hK
  refine wp_loop (fun a' W => ∃ (i : Nat) (vO vP : Value) (op : List Nat) (out : List (Nat × Nat)), (i ≤ m ∧ FS w (.slice A1 m c1) vO vP op out W ∧ Marks w.heap.size a'.defers W ∧ Hid (findGo types codes (m - i) i op out = findGo types codes m 0 [] [] ∧ op.length ≤ i ∧ out.length ≤ i ∧ ∀ p ∈ op, p < i)) ∧ a'.tmps = #[.slice A0 m c0, .slice A1 m c1, undef, .pointer (some ⟨w.heap.size, 0, none⟩), .slice none 0 0, .pointer (some ⟨w.heap.size + 1, 0, none⟩), .pointer (some ⟨w.heap.size + 1 + 1, 0, none⟩), a'.tmps.getD 7 undef, a'.tmps.getD 8 undef, a'.tmps.getD 9 undef, a'.tmps.getD 10 undef, a'.tmps.getD 11 undef, a'.tmps.getD 12 undef, .slice A0 m c0, .int .i64 (m : Int), .slice A1 m c1, .int .i64 (m : Int), .bool false, .slice A1 m c1, .int .i64 (m : Int), .int .i64 (i : Int), a'.tmps.getD 21 undef, a'.tmps.getD 22 undef, a'.tmps.getD 23 undef, a'.tmps.getD 24 undef, a'.tmps.getD 25 undef, a'.tmps.getD 26 undef, a'.tmps.getD 27 undef, a'.tmps.getD 28 undef, a'.tmps.getD 29 undef, a'.tmps.getD 30 undef, a'.tmps.getD 31 undef, a'.tmps.getD 32 undef, a'.tmps.getD 33 undef, a'.tmps.getD 34 undef, a'.tmps.getD 35 undef, a'.tmps.getD 36 undef, a'.tmps.getD 37 undef, a'.tmps.getD 38 undef, a'.tmps.getD 39 undef, a'.tmps.getD 40 undef, a'.tmps.getD 41 undef, a'.tmps.getD 42 undef, a'.tmps.getD 43 undef, a'.tmps.getD 44 undef, a'.tmps.getD 45 undef, a'.tmps.getD 46 undef, a'.tmps.getD 47 undef, a'.tmps.getD 48 undef, a'.tmps.getD 49 undef, a'.tmps.getD 50 undef, a'.tmps.getD 51 undef, a'.tmps.getD 52 undef, a'.tmps.getD 53 undef, a'.tmps.getD 54 undef, a'.tmps.getD 55 undef, a'.tmps.getD 56 undef, a'.tmps.getD 57 undef, a'.tmps.getD 58 undef, a'.tmps.getD 59 undef, a'.tmps.getD 60 undef, a'.tmps.getD 61 undef, a'.tmps.getD 62 undef, a'.tmps.getD 63 undef, a'.tmps.getD 64 undef, a'.tmps.getD 65 undef, a'.tmps.getD 66 undef, a'.tmps.getD 67 undef, a'.tmps.getD 68 undef, a'.tmps.getD 69 undef, a'.tmps.getD 70 undef, a'.tmps.getD 71 undef, a'.tmps.getD 72 undef, a'.tmps.getD 73 undef, a'.tmps.getD 74 undef, undef, undef, undef])
    (fun a' _ => m - (intOf (a'.tmps.getD 20 undef)).toNat) ?start ?round
  case start =>
    obtain ⟨h1, h2, h3⟩ := three_allocs w (.cells #[.slice A1 m c1] 22) (.cells #[.slice none 0 0] 25) (.cells #[.slice none 0 0] 22)
    exact ⟨0, .slice none 0 0, .slice none 0 0, [], [], ⟨Nat.zero_le _, ⟨(((Below.refl _ w).alloc (Nat.le_refl _) _).alloc (by simp) _).alloc (by simp; omega) _, h1, h2, h3, World.ownsRow_nil _ _ _ _, World.ownsRow_nil _ _ _ _⟩, ⟨List.nodup_nil, fun d hd => by simp at hd⟩, Lib.hid ⟨rfl, Nat.le_refl _, Nat.le_refl _, fun p hp => by simp at hp⟩⟩, rfl⟩
  case round =>
    rintro ⟨tm, ds⟩ W ⟨i, vO, vP, op, out, ⟨hi, hF, hM, hG⟩, ha⟩
    have hfs : findGo types codes m 0 [] [] = findGo types codes (m - i) i op out := hG.out.1.symm
    obtain ⟨u, hu⟩ : ∃ u : Nat → Value, u = fun k => tm.getD k undef := ⟨_, rfl⟩
    have ha2 : tm = #[.slice A0 m c0, .slice A1 m c1, undef, .pointer (some ⟨w.heap.size, 0, none⟩), .slice none 0 0, .pointer (some ⟨w.heap.size + 1, 0, none⟩), .pointer (some ⟨w.heap.size + 1 + 1, 0, none⟩), u 7, u 8, u 9, u 10, u 11, u 12, .slice A0 m c0, .int .i64 (m : Int), .slice A1 m c1, .int .i64 (m : Int), .bool false, .slice A1 m c1, .int .i64 (m : Int), .int .i64 (i : Int), u 21, u 22, u 23, u 24, u 25, u 26, u 27, u 28, u 29, u 30, u 31, u 32, u 33, u 34, u 35, u 36, u 37, u 38, u 39, u 40, u 41, u 42, u 43, u 44, u 45, u 46, u 47, u 48, u 49, u 50, u 51, u 52, u 53, u 54, u 55, u 56, u 57, u 58, u 59, u 60, u 61, u 62, u 63, u 64, u 65, u 66, u 67, u 68, u 69, u 70, u 71, u 72, u 73, u 74, undef, undef, undef] := by rw [hu]; exact ha
    clear hu ha
    subst ha2
    have hmu : (intOf ((#[.slice A0 m c0, .slice A1 m c1, undef, .pointer (some ⟨w.heap.size, 0, none⟩), .slice none 0 0, .pointer (some ⟨w.heap.size + 1, 0, none⟩), .pointer (some ⟨w.heap.size + 1 + 1, 0, none⟩), u 7, u 8, u 9, u 10, u 11, u 12, .slice A0 m c0, .int .i64 (m : Int), .slice A1 m c1, .int .i64 (m : Int), .bool false, .slice A1 m c1, .int .i64 (m : Int), .int .i64 (i : Int), u 21, u 22, u 23, u 24, u 25, u 26, u 27, u 28, u 29, u 30, u 31, u 32, u 33, u 34, u 35, u 36, u 37, u 38, u 39, u 40, u 41, u 42, u 43, u 44, u 45, u 46, u 47, u 48, u 49, u 50, u 51, u 52, u 53, u 54, u 55, u 56, u 57, u 58, u 59, u 60, u 61, u 62, u 63, u 64, u 65, u 66, u 67, u 68, u 69, u 70, u 71, u 72, u 73, u 74, undef, undef, undef] : Array Value).getD 20 undef)).toNat = i := rfl
    by_cases hlt : i < m
    · obtain ⟨aP, cP, rfl⟩ := YtdpifkhkemeclaaDoorW.PrintWords.own_slice hF.rP
      obtain ⟨adT, eT, hcT⟩ := HT.out i hlt
      obtain ⟨adC, eC, hcC⟩ := HC.out i hlt
      cases eT
      cases eC
      obtain ⟨x, hx⟩ : ∃ x, x = types.getD i 0 := ⟨_, rfl⟩
      obtain ⟨c, hc⟩ : ∃ c, c = codes.getD i 0 := ⟨_, rfl⟩
      rw [← hx] at hcT
      rw [← hc] at hcC
      have hbT := World.block_lt_of_cell? w _ hcT
      have hbC := World.block_lt_of_cell? w _ hcC
      have hcC' : W.cell? (adC.add i) = some (.int .i64 c) := by rw [hF.bel.cell hbC]; exact hcC
      obtain ⟨kd, hkd⟩ : ∃ kd, kd = (pairP c).1 := ⟨_, rfl⟩
      obtain ⟨ot, hot⟩ : ∃ ot, ot = (pairP c).2 := ⟨_, rfl⟩
      have hp : mirror_Pair.f c = some (kd, ot) := by rw [hkd, hot]; rfl
      have hstep : findGo types codes m 0 [] [] = if x ≠ 13 ∨ kd = 0 then findGo types codes (m - (i + 1)) (i + 1) op out
          else if kd = 1 then (if op.length = 63 then out else findGo types codes (m - (i + 1)) (i + 1) (op ++ [i]) out)
          else match popF codes op c with
            | none => findGo types codes (m - (i + 1)) (i + 1) op out
            | some y => findGo types codes (m - (i + 1)) (i + 1) (op.take y.1) (out ++ [(y.2.toNat, i)]) := by
        rw [hfs, show m - i = (m - (i + 1)) + 1 by omega]
        simp only [findGo]
        rw [← hx, ← hc, ← hkd]
        rfl
      have HTx : Hid (∀ W2, Below w.heap.size w W2 → W2.cell? (adT.add i) = some (.int .i64 x)) := Lib.hid (fun W2 hb => by rw [hb.cell hbT]; exact hcT)
      have HP := Lib.hid hp
      have HFh := Lib.hid hF
      have HMh := Lib.hid hM
      have Hstep := Lib.hid hstep
      have hlt' : (i : Int) < (m : Int) := by omega
      have Hkd := Lib.hid hkd
      have Hx := Lib.hid hx
      have Hcc := Lib.hid hc
      clear hfs hcT hcC hbT hbC hp hkd hot hF hM hstep hx hc hmu
      by_cases h13 : x = 13
      case neg =>
        have b13 : (x != 13) = true := by simpa using h13
        have HG2 : Hid (findGo types codes (m - (i + 1)) (i + 1) op out = findGo types codes m 0 [] [] ∧ op.length ≤ i + 1 ∧ out.length ≤ i + 1 ∧ ∀ p ∈ op, p < i + 1) := Lib.hid ⟨by rw [Hstep.out, if_pos (.inl h13)], by have := hG.out.2.1; omega, by have := hG.out.2.2.1; omega, fun p hp => by have := hG.out.2.2.2 p hp; omega⟩
        clear h13
        go_wp2_with (go_at_call 21; with_reducible refine (mirror_Pair.calls c kd ot _ HP.out).mono ?_; rintro e W2 ⟨rfl, hb2⟩; obtain ⟨hF2, hM2, hbi, hbc, hsz⟩ := round_facts HFh.out HMh.out i c hb2; have htx := HTx.out W2 hF2.bel; have hci := hbi.cell; have hcc := hbc.cell; have hcp := hF2.bP.cell; have HF2 := Lib.hid hF2; have HM2 := Lib.hid hM2; have HBI := Lib.hid hbi; have HBC := Lib.hid hbc; have HSZ := Lib.hid hsz; clear hb2 hF2 hM2 hbi hbc hsz)
        refine ⟨⟨i + 1, _, _, _, _, ⟨by omega, HF2.out, HM2.out, HG2⟩, rfl⟩, ?_⟩
        show m - (i + 1) < m - i
        omega
      case pos =>
        have b13 : (x != 13) = false := by simp [h13]
        by_cases hk0 : kd = 0
        · have bk0 : (kd == 0) = true := by simpa using hk0
          have HG2 : Hid (findGo types codes (m - (i + 1)) (i + 1) op out = findGo types codes m 0 [] [] ∧ op.length ≤ i + 1 ∧ out.length ≤ i + 1 ∧ ∀ p ∈ op, p < i + 1) := Lib.hid ⟨by rw [Hstep.out, if_pos (.inr hk0)], by have := hG.out.2.1; omega, by have := hG.out.2.2.1; omega, fun p hp => by have := hG.out.2.2.2 p hp; omega⟩
          clear h13 hk0
          go_wp2_with (go_at_call 21; with_reducible refine (mirror_Pair.calls c kd ot _ HP.out).mono ?_; rintro e W2 ⟨rfl, hb2⟩; obtain ⟨hF2, hM2, hbi, hbc, hsz⟩ := round_facts HFh.out HMh.out i c hb2; have htx := HTx.out W2 hF2.bel; have hci := hbi.cell; have hcc := hbc.cell; have hcp := hF2.bP.cell; have HF2 := Lib.hid hF2; have HM2 := Lib.hid hM2; have HBI := Lib.hid hbi; have HBC := Lib.hid hbc; have HSZ := Lib.hid hsz; clear hb2 hF2 hM2 hbi hbc hsz)
          refine ⟨⟨i + 1, _, _, _, _, ⟨by omega, HF2.out, HM2.out, HG2⟩, rfl⟩, ?_⟩
          show m - (i + 1) < m - i
          omega
        · have bk0 : (kd == 0) = false := by simpa using hk0
          have hn0 : ¬ (x ≠ 13 ∨ kd = 0) := by rintro (h | h); exact h h13; exact hk0 h
          by_cases hk1 : kd = 1
          · have bk1 : (kd == 1) = true := by simpa using hk1
            by_cases h63 : op.length = 63
            · have b63 : ((op.length : Int) == 63) = true := by simp; omega
              have Hout : Hid (findGo types codes m 0 [] [] = out) := Lib.hid (by rw [Hstep.out, if_neg hn0, if_pos hk1, if_pos h63])
              clear h13 hk0 hk1 h63 hn0
              go_wp2_with (go_at_call 21; with_reducible refine (mirror_Pair.calls c kd ot _ HP.out).mono ?_; rintro e W2 ⟨rfl, hb2⟩; obtain ⟨hF2, hM2, hbi, hbc, hsz⟩ := round_facts HFh.out HMh.out i c hb2; have htx := HTx.out W2 hF2.bel; have hci := hbi.cell; have hcc := hbc.cell; have hcp := hF2.bP.cell; have HF2 := Lib.hid hF2; have HM2 := Lib.hid hM2; have HBI := Lib.hid hbi; have HBC := Lib.hid hbc; have HSZ := Lib.hid hsz; clear hb2 hF2 hM2 hbi hbc hsz)
              exact HKfin.out _ _ _ _ _ _ _ rfl HF2.out HM2.out Hout.out (by have := hG.out.2.2.1; omega)
            · have b63 : ((op.length : Int) == 63) = false := by simp; omega
              have HG2 : Hid (findGo types codes (m - (i + 1)) (i + 1) (op ++ [i]) out = findGo types codes m 0 [] [] ∧ (op ++ [i]).length ≤ i + 1 ∧ out.length ≤ i + 1 ∧ ∀ p ∈ op ++ [i], p < i + 1) := Lib.hid ⟨by rw [Hstep.out, if_neg hn0, if_pos hk1, if_neg h63], by have := hG.out.2.1; simp; omega, by have := hG.out.2.2.1; omega, fun p hp => by
                rcases List.mem_append.1 hp with h | h
                · have := hG.out.2.2.2 p h; omega
                · simp at h; omega⟩
              have hs63 : op.length + 1 ≤ maxLen := by have := hG.out.2.1; unfold maxLen; omega
              have hsb : (op.length + 1) * 8 ≤ 140737488355328 := by have := hG.out.2.1; omega
              clear h13 hk0 hk1 h63 hn0
              go_wp2_with (first
                | (go_at_call 21; with_reducible refine (mirror_Pair.calls c kd ot _ HP.out).mono ?_; rintro e W2 ⟨rfl, hb2⟩; obtain ⟨hF2, hM2, hbi, hbc, hsz⟩ := round_facts HFh.out HMh.out i c hb2; have htx := HTx.out W2 hF2.bel; have hci := hbi.cell; have hcc := hbc.cell; have hcp := hF2.bP.cell; have HF2 := Lib.hid hF2; have HM2 := Lib.hid hM2; have HBI := Lib.hid hbi; have HBC := Lib.hid hbc; have HSZ := Lib.hid hsz; clear hb2 hF2 hM2 hbi hbc hsz)
                | (at_builtin; refine Base.wpList_append_one rfl _ _ 22 rfl w.heap.size 3 (.int .i64 0) 8 Tryd.underlying22 info3q rfl _ _ _ rfl HF2.out.rP _ rfl 1 rfl hs63 hsb HF2.out.bel.size ?_; intro v' w1 hown' hgrow; obtain ⟨g', cap', rfl⟩ := ownsRow_succ hown'; have hbP := (HF2.out.alloc (.cells #[.int .i64 (i : Int)] 3)).bP.kept hgrow (HF2.out.bP.not_row (by decide) HF2.out.rP); have cP1 := hbP.cell; have fP1 := hbP.frozen; have HF3 := Lib.hid (HF2.out.push _ i hown' hgrow); have HM3 := Lib.hid (((HM2.out.below ((Below.refl _ _).alloc (Nat.le_refl _) (.cells #[.int .i64 (i : Int)] 3))).keep (KeepsOthers.of_grownBy hgrow (fun j o hj ho => own_isCells (HF2.out.alloc (.cells #[.int .i64 (i : Int)] 3)).rP j o hj ho))).keep (KeepsOthers.setCell _ ⟨w.heap.size + 1 + 1, 0, none⟩ (.slice (some ⟨g', 0, none⟩) (op.length + 1) cap'))); clear hown' hgrow hbP))
              refine ⟨⟨i + 1, _, _, _, _, ⟨by omega, HF3.out, HM3.out, HG2⟩, rfl⟩, ?_⟩
              show m - (i + 1) < m - i
              omega
          · have bk1 : (kd == 1) = false := by simpa using hk1
            have HD : Hid (findGo types codes m 0 [] [] = match popF codes op c with
              | none => findGo types codes (m - (i + 1)) (i + 1) op out
              | some y => findGo types codes (m - (i + 1)) (i + 1) (op.take y.1) (out ++ [(y.2.toNat, i)])) := Lib.hid (by rw [Hstep.out, if_neg hn0, if_neg hk1])
            clear h13 hk0 hk1 hn0
            obtain ⟨aO, cO, rfl⟩ := YtdpifkhkemeclaaDoorW.PrintWords.own_slice HFh.out.rO
            go_wp2_with (first
              | (go_at_call 21; with_reducible refine (mirror_Pair.calls c kd ot _ HP.out).mono ?_; rintro e W2 ⟨rfl, hb2⟩; obtain ⟨hF2, hM2, hbi, hbc, hsz⟩ := round_facts HFh.out HMh.out i c hb2; have htx := HTx.out W2 hF2.bel; have hci := hbi.cell; have hcc := hbc.cell; have hcp := hF2.bP.cell; have HF2 := Lib.hid hF2; have HM2 := Lib.hid hM2; have HBI := Lib.hid hbi; have HBC := Lib.hid hbc; have HSZ := Lib.hid hsz; clear hb2 hF2 hM2 hbi hbc hsz)
              | (go_at_call 22; with_reducible refine (bw_calls _ _ _ _).mono ?_; rintro e w' ⟨rfl, rfl⟩))
            have HW3 : Hid (W2.heap.size + 1 = (W2.alloc (.cells #[.slice aP op.length cP] 22)).heap.size) := Lib.hid (by simp)
            have hN : Boxed (W2.alloc (.cells #[.slice aP op.length cP] 22)) W2.heap.size 22 (.slice aP op.length cP) := Boxed.new W2 22 _
            have HF3 := Lib.hid (HF2.out.alloc (.cells #[.slice aP op.length cP] 22))
            have HM3 := Lib.hid (HM2.out.below ((Below.refl _ _).alloc (Nat.le_refl _) (.cells #[.slice aP op.length cP] 22)))
            have HBI3 := Lib.hid (HBI.out.alloc (.cells #[.slice aP op.length cP] 22))
            have HBC3 := Lib.hid (HBC.out.alloc (.cells #[.slice aP op.length cP] 22))
            have HN := Lib.hid hN
            have hI3 : IntsB (W2.alloc (.cells #[.slice aP op.length cP] 22)).heap.size (W2.alloc (.cells #[.slice aP op.length cP] 22)) (.slice aP op.length cP) (zInts op) := intsB_of (HF3.out.rP)
            have HI3 := Lib.hid hI3
            clear htx hci hcc hcp hN hI3
            obtain ⟨W3, hW3⟩ : ∃ W3, W3 = W2.alloc (.cells #[.slice aP op.length cP] 22) := ⟨_, rfl⟩
            rw [← hW3] at HW3 HF3 HM3 HBI3 HBC3 HN HI3 ⊢
            clear hW3
            refine range_a (n := n) (by omega) (α := XT op i) (lb := #[.pointer (some ⟨W2.heap.size, 0, none⟩)]) (fun x => .int .i64 (x.1.1 : Int)) (fun x => .int .i64 x.1.2) rfl
              (bw_stopsP Fence.wide (n - 1) trivial rfl (by omega) W2.heap.size W3.heap.size _ (zInts op) (PX op i) (PX_of hG.out.2.2.2) (by have := hG.out.2.1; simp [zInts]; omega) W3 (by have := HW3.out; omega) (Nat.le_refl _) HN.out.cell HI3.out)
              belowK_t (belowK_b (Nat.le_refl _)) (Below.refl _ _)
              (IR w (.slice (some adC) m c1) (.slice aO out.length cO) (.slice aP op.length cP) op out ds W.heap.size i c codes W3.heap.size) (IXR w (.slice (some adC) m c1) op out ds i c codes)
              (IR_own HF3.out.bel.size HM3.out (Nat.le_refl _)) (IXR_own HF3.out.bel.size HM3.out (Nat.le_refl _)) ⟨by simp, HF3.out, HBI3.out, HBC3.out, HM3.out, Nat.le_refl _⟩ ?assign ?body ?done ?stop
            case assign =>
              intro l x Wa Ka hK
              unfold set4 at hK
              simp only [List.setIfInBounds_toArray, List.set_cons_succ, List.set_cons_zero] at hK ⊢
              gi_wp2
              exact hK
            case body =>
              rintro l pre ⟨⟨kx, ax⟩, hkx, p, hpe, hpi⟩ Wb ⟨hno, hF4, hbi4, hbc4, hM4, hsz4⟩ hlen
              dsimp only at hpe hkx
              subst hpe
              obtain ⟨adp, ep, hcp⟩ := HC.out p (by omega)
              obtain rfl : adC = adp := by injection ep
              obtain ⟨y, hy⟩ : ∃ y, y = codes.getD p 0 := ⟨_, rfl⟩
              rw [← hy] at hcp
              have hbp := World.block_lt_of_cell? w _ hcp
              have hcp' : Wb.cell? (adC.add p) = some (.int .i64 y) := by rw [hF4.bel.cell hbp]; exact hcp
              have q1 := hF4.bC.cell
              have q2 := hbc4.cell
              have hpm : (p : Int) < (m : Int) := by omega
              have hn1 : 1 ≤ n - 1 - 1 := by omega
              have mixed : Tryd.prog.follows Departure.mixedOrders = true := by kernel_rfl
              obtain ⟨gP, rfl, hcPo⟩ : ∃ gP, aP = some ⟨gP, 0, none⟩ ∧ op.length ≤ cP := by
                rcases hF4.rP.2 with ⟨hv, h0⟩ | ⟨g, cap, cur, hv, _, _, hle, _⟩
                · omega
                · injection hv with e1 e2 e3
                  subst e1 e3
                  exact ⟨g, rfl, hle⟩
              have HF5 := Lib.hid hF4
              have HB5 := Lib.hid hbi4
              have HC5 := Lib.hid hbc4
              have HM5 := Lib.hid hM4
              have Hno := Lib.hid hno
              have Hy := Lib.hid hy
              have HSz := Lib.hid hsz4
              clear hF4 hbi4 hbc4 hM4 hno hy hcp hbp ep hsz4
              cases hr : meetP y c with
              | false =>
                have HMt : Hid (mirror_Meet.f y c = some false) := Lib.hid (by rw [← hr]; rfl)
                have Hr := Lib.hid hr
                clear hr
                unfold set4
                simp only [List.setIfInBounds_toArray, List.set_cons_succ, List.set_cons_zero]
                gi_wp2
                gi_region_with_o (refine ⟨trivial, ?_⟩; gi_at_call 15; refine (CallsIn.inRound l (callsIn_wide.2 (mirror_Meet.calls y c false _ HMt.out))).mono ?_; rintro e W5 ⟨rfl, hb5⟩; have HB6 := Lib.hid hb5; clear hb5)
                all_goals gi_wp2
                all_goals
                  have hw : Below Wb.heap.size Wb W5 := ((Below.refl Wb.heap.size Wb).drew).trans HB6.out
                  refine ⟨(keeps_below hw).from _, hw.mono HSz.out, ⟨fun z hz => ?_, HF5.out.below hw, boxed_below HB5.out hw, boxed_below HC5.out hw, HM5.out.below hw, Nat.le_trans HSz.out hw.size⟩⟩
                  rcases List.mem_append.1 hz with h | h
                  · exact Hno.out z h
                  · have e : z = ⟨(kx, (p : Int)), hkx, p, rfl, hpi⟩ := by simpa using h
                    subst e
                    show meetP (codes.getD (p : Int).toNat 0) c = false
                    rw [Int.toNat_natCast, ← Hy.out]
                    exact Hr.out
              | true =>
                have HMt : Hid (mirror_Meet.f y c = some true) := Lib.hid (by rw [← hr]; rfl)
                have Hr := Lib.hid hr
                have hkc : (kx : Int) ≤ (cP : Int) := by omega
                obtain ⟨i31, hi31, hz0, hz1, hz2⟩ := info_parts info31q
                have hb1 : out.length + 1 ≤ maxLen := by have := hG.out.2.2.1; unfold maxLen; omega
                have hb2' : (out.length + 1) * 16 ≤ 140737488355328 := by have := hG.out.2.2.1; omega
                clear hr
                unfold set4
                simp only [List.setIfInBounds_toArray, List.set_cons_succ, List.set_cons_zero]
                gi_wp2
                gi_region_with_o (refine ⟨trivial, ?_⟩; gi_at_call 15; refine (CallsIn.inRound l (callsIn_wide.2 (mirror_Meet.calls y c true _ HMt.out))).mono ?_; rintro e W5 ⟨rfl, hb5⟩; have hw : Below Wb.heap.size Wb W5 := ((Below.refl Wb.heap.size Wb).drew).trans hb5; have f5 := HF5.out.below hw; have r1 := f5.bO.cell; have r2 := f5.bP.cell; have r3 := (boxed_below HB5.out hw).cell; have F5 := Lib.hid f5; have M5 := Lib.hid (HM5.out.below hw); have K5 := Lib.hid (keeps_below hw); clear hb5 hw f5)
                all_goals gi_wp2_with (gi_at_builtin; refine wpListIn_append_own _ rfl _ _ 25 rfl w.heap.size 31 i31 (.agg #[.int .i64 0, .int .i64 0]) 2 16 Tryd.underlying25 hi31 hz0 hz1 hz2 rfl (by decide) _ _ _ rfl (F5.out.rO.alloc _) ⟨W5.heap.size, 0, none⟩ 1 1 [.int .i64 (p : Int), .int .i64 (i : Int)] rfl rfl (cells_new _ _ _ _) (by intro u hu; simp at hu; rcases hu with rfl | rfl <;> rfl) hb1 hb2' (by have := F5.out.bel.size; simp; omega) ?_; intro v' w1 hown' hgrow _; obtain ⟨g', cap', rfl⟩ := ownsRow_succ hown'; have hbO1 := (F5.out.alloc (.cells #[.int .i64 (p : Int), .int .i64 (i : Int)] 31)).bO.kept hgrow (F5.out.bO.not_row (by decide) F5.out.rO); have s1 := hbO1.cell; have s2 := hbO1.frozen; have F6 := Lib.hid (F5.out.emit _ p i hown' hgrow); have s3 := F6.out.bP.cell; have s4 := F6.out.bP.frozen; have K6 := Lib.hid (((K5.out.trans (KeepsOthers.alloc _ (.cells #[.int .i64 (p : Int), .int .i64 (i : Int)] 31))).trans (KeepsOthers.of_grownBy hgrow (fun j o hj ho => own_isCells (F5.out.alloc (.cells #[.int .i64 (p : Int), .int .i64 (i : Int)] 31)).rO j o hj ho))).trans (KeepsOthers.setCell w1 ⟨w.heap.size + 1, 0, none⟩ (.slice (some ⟨g', 0, none⟩) (out.length + 1) cap'))); clear hown' hgrow hbO1)
                all_goals
                  have hk7 : KeepsOthers Wb _ := K6.out.trans (KeepsOthers.setCell _ ⟨w.heap.size + 1 + 1, 0, none⟩ (.slice (some ⟨gP, 0, none⟩) kx cP))
                  refine ⟨hk7.from _, rfl, pre, ⟨(kx, (p : Int)), hkx, p, rfl, hpi⟩, _, _, rfl, Hno.out, ?_, F6.out.cut kx (by show kx ≤ op.length; omega), HM5.out.keep hk7⟩
                  show meetP (codes.getD (p : Int).toNat 0) c = true
                  rw [Int.toNat_natCast, ← Hy.out]
                  exact Hr.out
            case done =>
              rintro D ys Wd hD hS ⟨hno, hF4, hbi4, hbc4, hM4, _⟩ hK
              have hpop := popF_none hS hno
              have HG2 : Hid (findGo types codes (m - (i + 1)) (i + 1) op out = findGo types codes m 0 [] [] ∧ op.length ≤ i + 1 ∧ out.length ≤ i + 1 ∧ ∀ p ∈ op, p < i + 1) := Lib.hid ⟨by rw [HD.out, hpop], by have := hG.out.2.1; omega, by have := hG.out.2.2.1; omega, fun p hp => by have := hG.out.2.2.2 p hp; omega⟩
              have HF5 := Lib.hid hF4
              have HM5 := Lib.hid (hM4.more HM3.out hD (Nat.le_trans HF3.out.bel.size hD) hK)
              clear hno hF4 hbi4 hbc4 hM4 hpop hS hK
              go_wp2
              refine ⟨⟨i + 1, _, _, _, _, ⟨by omega, HF5.out, HM5.out, HG2⟩, rfl⟩, ?_⟩
              show m - (i + 1) < m - i
              omega
            case stop =>
              rintro D cd pre Wd hD ⟨k, hk, hS⟩ ⟨rfl, ini, last, vO', vP', rfl, hno, hyes, hF4, hM4⟩ hK
              have hpop := popF_some hk hS hno hyes
              obtain ⟨p, hpe, hpi⟩ := last.2.2
              have HG2 : Hid (findGo types codes (m - (i + 1)) (i + 1) (op.take last.1.1) (out ++ [(last.1.2.toNat, i)]) = findGo types codes m 0 [] [] ∧ (op.take last.1.1).length ≤ i + 1 ∧ (out ++ [(last.1.2.toNat, i)]).length ≤ i + 1 ∧ ∀ p ∈ op.take last.1.1, p < i + 1) := Lib.hid ⟨by rw [HD.out, hpop], by have := hG.out.2.1; simp; omega, by have := hG.out.2.2.1; simp; omega, fun p hp => by have := hG.out.2.2.2 p (List.mem_of_mem_take hp); omega⟩
              have HF5 := Lib.hid hF4
              have HM5 := Lib.hid (hM4.more HM3.out hD (Nat.le_trans HF3.out.bel.size hD) hK)
              clear hno hF4 hM4 hpop hS hK hyes hpe
              go_wp2
              refine ⟨⟨i + 1, _, _, _, _, ⟨by omega, HF5.out, HM5.out, HG2⟩, rfl⟩, ?_⟩
              show m - (i + 1) < m - i
              omega
    · have hlt' : ¬ (i : Int) < (m : Int) := by omega
      have hout : findGo types codes m 0 [] [] = out := by rw [hfs, show m - i = 0 by omega]; rfl
      have HF := Lib.hid hF
      have HM := Lib.hid hM
      have Hout := Lib.hid hout
      clear hfs hF hM hout hmu
      go_wp2
      exact HKfin.out _ _ _ _ _ _ _ rfl HF.out HM.out Hout.out (by have := hG.out.2.2.1; omega)
end Go.Proofs.YtdpifkhkemeclaaDoor
