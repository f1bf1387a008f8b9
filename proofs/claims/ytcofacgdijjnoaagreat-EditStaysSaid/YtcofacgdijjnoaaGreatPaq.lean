/- slices.Delete: walked. DERIVED: THE SHELF's CONTRACTS AT THIS DUMP, IN PLAIN WORDS (tools/lay-plain.mjs out of 'TryzShelf.lean', which tools/lay-shelf.mjs wrote): THE SAME DECLARATIONS UNDER THE SAME NAMES: 'import', 'namespace', 'open', 'def', 'theorem' AND NOTHING ELSE: no command of the shelf's: FOR A HAND-IN. Each laying: the table of numbers ('.._ren') and one theorem, a field a fact of the dump's own or the kernel's comparison; each contract: ONE APPLICATION. sheet: more of the tests that are handed to the library: walked. sheet: more of the tests that are handed to the library: walked. -/
import Derived.Test.YtcofacgdijjnoaaGreatPap
import Derived.Shelf.Small.Bits
import Derived.Shelf.Small.Wraps
import Derived.Shelf.Strconv.Itoa0
import Derived.Shelf.Bits.Mul64
import Derived.Shelf.Slices.Turned
import Derived.Shelf.Slices.Reverse
import Derived.Ground.Names2Prog
import Derived.Shelf.Slices.Clone
import Derived.Shelf.Slices.SearchI
import Derived.Shelf.Slices.Delete
import Derived.Shelf.Slices.Cells
import Derived.Shelf.Slices.Empties
import Derived.Ground.SlgnProg
import Derived.Shelf.SlicesE.Reverse
import Derived.Shelf.SlicesE.Clone
import Derived.Shelf.SlSortCmp.WholeK
import Derived.Shelf.SlSortCmp.NoneTotal
import Derived.Ground.SlsfProg
import Derived.Test.YtcofacgdijjnoaaGreatProg
import Derived.Test.YtcofacgdijjnoaaGreatPao
import Derived.IntWalk
section
namespace Go.Proofs.YtcofacgdijjnoaaGreat
open PE (S31 S44 S49 k44 k49 k31)
open Go.RowKit Go.Shelf Go.Lib Go.Proofs.YtcofacgdijjnoaaGreatW.PrintWords Go.Proofs.YtcofacgdijjnoaaGreatW.PrintLast Go.Proofs.YtcofacgdijjnoaaGreatW.PrintMore
set_option linter.unusedVariables false
set_option linter.unusedSimpArgs false
set_option maxRecDepth 100000
set_option maxHeartbeats 2000000
theorem own_cut {base : Nat} {e : TypeId} {k n g cap : Nat} {w : World} {xs : List Value} (h : w.ownsRow base e k (.slice (some ⟨g, 0, none⟩) n cap) n xs) (i : Nat) (hi : i ≤ n) : w.ownsRow base e k (.slice (some ⟨g, 0, none⟩) i cap) i (xs.take (i * k)) := by
  obtain ⟨h1, h2⟩ := h
  rcases h2 with ⟨hv, _⟩ | ⟨g', cap', cur, hv, hB, hg, hle, hm, hs, htk⟩
  · cases hv
  · injection hv with e1 e2 e3
    injection e1 with e1
    injection e1 with e1
    subst e1 e3
    refine ⟨by rw [List.length_take, h1]; exact Nat.min_eq_left (Nat.mul_le_mul_right _ hi), .inr ⟨g, cap, cur, rfl, hB, hg, by omega, hm, hs, ?_⟩⟩
    rw [← htk, List.take_take, Nat.min_eq_left (Nat.mul_le_mul_right _ hi)]
theorem step_append_is {ops : Array Oper} {o : Oper} {a : Act} {w : World} {K : Act → World → Prop} {Q : Exit → Act → World → Prop} {E : Prop}
    (hg : o.guard = none) (d x : Operand) (dT sT : TypeId) (hop : o.op = Op.call { callee := Callee.builtin Builtin.append, args := #[d, x], argTypes := #[dT, sT] })
    (v u : Value) (hd : a.eval d = v) (hx : a.eval x = u) {v' : Value} {w' : World} (hr : (Builtin.append_ #[dT, sT] o.type #[v, u]).run Tryz.prog w = .ok v' w') (hK : K (a.put o.dst v') w') :
    if Region.wanted o (yielded ops a.tmps) = true then Oper.wp Tryz.prog o a w K Q else E := by
  have hw : Region.wanted o (yielded ops a.tmps) = true := by simp [Region.wanted, hg]
  rw [if_pos hw]
  exact Lib.wp_append_run w d x dT sT hop v u hd hx v' w' hr hK
/-- a row's piece taken out, in place -/
theorem cut_own {base : Nat} {elem : TypeId} {k n g cap : Nat} {w : World} {xs : List Value} (h : w.ownsRow base elem k (.slice (some ⟨g, 0, none⟩) n cap) n xs) (dT : TypeId) (i j : Nat) (i0 : TypeInfo)
    (hu : Tryz.prog.underlying dT = some (.slice elem)) (hi0 : Tryz.prog.info? elem = some i0) (hs : i0.size = k) (hij : i < j) (hj : j ≤ n) (h1 : ∀ v ∈ xs, v.oneCell' = true) :
    (∀ ty sCap a, (a = (⟨g, j * k, none⟩ : Addr) ∨ n = j) → (Builtin.append_ #[dT, dT] ty #[.slice (some ⟨g, 0, none⟩) i cap, .slice (some a) (n - j) sCap]).run Tryz.prog w = .ok (.slice (some ⟨g, 0, none⟩) (n - (j - i)) cap) (w.setCells g (i * k) (xs.drop (j * k)))) ∧
    (w.setCells g (i * k) (xs.drop (j * k))).ownsRow base elem k (.slice (some ⟨g, 0, none⟩) n cap) n (xs.take (i * k) ++ xs.drop (j * k) ++ xs.drop ((n - (j - i)) * k)) ∧ w.grownBy (w.setCells g (i * k) (xs.drop (j * k))) (some g) := by
  have hl := h.1
  obtain ⟨cur, hg, hle, _, _, _⟩ := own_blk h
  have hdl : (xs.drop (j * k)).length = (n - j) * k := by rw [List.length_drop, hl, Nat.sub_mul]
  have e1 : i * k + (n - j) * k = (n - (j - i)) * k := by rw [← Nat.add_mul]; congr 1; omega
  have e2 : (n - (j - i)) * k ≤ n * k := Nat.mul_le_mul_right _ (by omega)
  subst hs
  refine ⟨fun ty sCap a ha => ?_, ?_, grown_setCells _ (i * i0.size) w⟩
  · have hsrc : Src Tryz.prog i0.size dT (.slice (some a) (n - j) sCap) (n - j) (xs.drop (j * i0.size)) w :=
      Src.ofSlice w hu a (n - j) sCap (xs.drop (j * i0.size)) hdl (fun q v hq => by
        rcases ha with rfl | hnj
        · rw [Addr.add_lit]
          rw [List.getElem?_drop] at hq
          exact own_src h _ _ hq
        · rw [hnj, Nat.sub_self, Nat.zero_mul] at hdl
          rw [List.eq_nil_of_length_eq_zero hdl] at hq
          cases hq) (fun v hv => h1 v (List.mem_of_mem_drop hv))
    have hr := run_append_room_src w dT dT ty elem i0 hu hi0 g 0 i cap _ (n - j) _ hsrc (by omega) (fun q hq => by
      have hlt : 0 + i * i0.size + q < xs.length := by omega
      rw [own_src h _ _ (List.getElem?_eq_getElem hlt)]; rfl) (fun q _ => blk_frozen hg _)
    rw [hr, Nat.zero_add, show i + (n - j) = n - (j - i) by omega]
  · have := own_setCells (xs.drop (j * i0.size)) (i * i0.size) h (by omega)
    rwa [hdl, e1] at this
/-- slices.Delete -/
theorem cutC_raw {w : World} {B c n i j : Nat} {A : Option Addr} {L : List Value} (h : w.ownsRow B 44 6 (.slice A n c) n L) (hL1 : ∀ u ∈ L, u.oneCell' = true) (hij : i < j) (hj : j ≤ n) (hl : n ≤ 1000) :
    Calls Tryz.prog 83 #[.slice A n c, .int .i64 i, .int .i64 j] w fun e w' => e = .returned (.slice A (n - (j - i)) c) ∧ w'.ownsRow B 44 6 (.slice A (n - (j - i)) c) (n - (j - i)) (L.take (i * 6) ++ L.drop (j * 6)) ∧ w.grownBy w' (Value.slice A n c).ownBlock := by
  have hLl := h.1
  obtain ⟨i0, hi0, hz0, hzs, hzb⟩ := info_parts PE.info44
  rcases own_two h with ⟨rfl, rfl, rfl⟩ | ⟨g, rfl, hnc, hcm, hBg, hgw⟩
  · omega
  have hc63 : c ≤ 9223372036854775807 := by unfold maxLen at hcm; omega
  have hd : (w.drew).ownsRow B 44 6 (.slice (some ⟨g, 0, none⟩) n c) n L := h
  obtain ⟨hap, hO1, hG1⟩ := cut_own hd 23 i j i0 Tryz.underlying23 hi0 hzs hij hj hL1
  obtain ⟨r, hr⟩ : ∃ r, r = n - (j - i) := ⟨_, rfl⟩
  have hrn : r < n := by omega
  have hnr : n - r = j - i := by omega
  rw [← hr] at hap hO1 ⊢
  obtain ⟨cur, hcg, _, _, _, _⟩ := own_blk hO1
  have hOl := hO1.1
  have e0 : r * 6 + (n - r) * 6 = n * 6 := by rw [← Nat.add_mul]; congr 1; omega
  have hclr := fun ty => clear_run (w.drew.setCells g (i * 6) (L.drop (j * 6))) 23 44 ty (.agg #[.int .i64 0, .int .i64 0, .string ⟨#[]⟩, .int .i64 0, .int .i64 0, .int .i64 0]) [.int .i64 0, .int .i64 0, .string ⟨#[]⟩, .int .i64 0, .int .i64 0, .int .i64 0] 6 Tryz.underlying23 (fun w => by kernel_rfl) rfl rfl (by decide) (by decide) g (r * 6) (n - r) (c - r) (by omega) (fun q hq => by
      have hlt : r * 6 + q < (L.take (i * 6) ++ L.drop (j * 6) ++ L.drop (r * 6)).length := by rw [hOl]; omega
      rw [own_src hO1 _ _ (List.getElem?_eq_getElem hlt)]; rfl) (fun q _ => blk_frozen hcg _)
  obtain ⟨Z, hZ, hrun⟩ := hclr 0
  have hO2 := own_cut (own_setCells Z (r * 6) hO1 (by rw [hOl, hZ]; omega)) r (by omega)
  have hG2 : w.grownBy ((w.drew.setCells g (i * 6) (L.drop (j * 6))).setCells g (r * 6) Z) (some g) := (grown_drew hG1).trans (grown_setCells Z _ _)
  have hll : (L.take (i * 6) ++ L.drop (j * 6)).length = r * 6 := by
    have e1 : i * 6 ≤ n * 6 := Nat.mul_le_mul_right _ (by omega)
    have e2 : j * 6 ≤ n * 6 := Nat.mul_le_mul_right _ (by omega)
    have e3 : i * 6 + (n * 6 - j * 6) = r * 6 := by rw [← Nat.sub_mul, ← Nat.add_mul]; congr 1; omega
    rw [List.length_append, List.length_take, List.length_drop, hLl, Nat.min_eq_left e1]; exact e3
  have hf : ((L.take (i * 6) ++ L.drop (j * 6) ++ L.drop (r * 6)).take (r * 6) ++ Z ++ (L.take (i * 6) ++ L.drop (j * 6) ++ L.drop (r * 6)).drop (r * 6 + Z.length)).take (r * 6) = L.take (i * 6) ++ L.drop (j * 6) := by
    rw [List.take_left' hll, List.append_assoc, List.take_left' hll]
  rw [hf] at hO2
  have HF := Lib.hid (And.intro hO2 hG2)
  have hz1 : ((i : Int) == (j : Int)) = false := by simpa using (show ¬ (i : Int) = (j : Int) by omega)
  have hz2 : (i : Int) ≤ (j : Int) := by omega
  have hz3 : (j : Int) ≤ (n : Int) := by omega
  have hz4 : (i : Int) ≤ (c : Int) := by omega
  have hz5 : (r : Int) ≤ (n : Int) := by omega
  have hz6 : (n : Int) ≤ (c : Int) := by omega
  have hz7 : (i : Int) ≤ (n : Int) := by omega
  have hz8 : ¬ (c = r) := by omega
  have hapa := fun ty => hap ty (c - j)
  have HLl := Lib.hid hLl
  have hri : n = j → r = i := by omega
  clear h hL1 hLl hd hap hO1 hG1 hr hcg hOl e0 hclr hZ hO2 hG2 hll hf
  clear hnr
  by_cases hcj : c = j
  · obtain rfl : n = c := by omega
    subst hcj
    have hnil : L.drop (n * 6) = [] := List.drop_of_length_le (by rw [HLl.out]; exact Nat.le_refl _)
    rw [hnil] at hrun HF
    simp only [World.setCells] at hrun HF
    rw [hnil]
    obtain rfl : r = i := hri rfl
    have hin : r ≤ n := by omega
    clear hz1 hz2 hz3 hapa hnil hri
    go_enter Tryz.func83, Tryz.ntmps83
    go_wp2_with fail
    go_region
    go_wp2
    go_ret
    exact ⟨rfl, HF.out.1, HF.out.2⟩
  · have hapa := fun ty => hapa ty ⟨g, j * 6, none⟩ (.inl rfl)
    clear hri
    go_enter Tryz.func83, Tryz.ntmps83
    go_wp2_with fail
    go_region_law (refine step_append_is rfl _ _ 23 23 rfl (.slice (some ⟨g, 0, none⟩) i c) (.slice (some ⟨g, j * 6, none⟩) (n - j) (c - j)) (by simp [Act.eval, Act.put]) (by simp [Act.eval, Act.put, hcj]) (hapa _) ?_)
    go_wp2
    go_ret
    exact ⟨rfl, HF.out.1, HF.out.2⟩
theorem cutI_raw {w : World} {B c n i j : Nat} {A : Option Addr} {L : List Value} (h : w.ownsRow B 3 1 (.slice A n c) n L) (hL1 : ∀ u ∈ L, u.oneCell' = true) (hij : i < j) (hj : j ≤ n) (hl : n ≤ 1000) :
    Calls Tryz.prog 91 #[.slice A n c, .int .i64 i, .int .i64 j] w fun e w' => e = .returned (.slice A (n - (j - i)) c) ∧ w'.ownsRow B 3 1 (.slice A (n - (j - i)) c) (n - (j - i)) (L.take (i * 1) ++ L.drop (j * 1)) ∧ w.grownBy w' (Value.slice A n c).ownBlock := by
  have hLl := h.1
  obtain ⟨i0, hi0, hz0, hzs, hzb⟩ := info_parts PE.info3
  rcases own_two h with ⟨rfl, rfl, rfl⟩ | ⟨g, rfl, hnc, hcm, hBg, hgw⟩
  · omega
  have hc63 : c ≤ 9223372036854775807 := by unfold maxLen at hcm; omega
  have hd : (w.drew).ownsRow B 3 1 (.slice (some ⟨g, 0, none⟩) n c) n L := h
  obtain ⟨hap, hO1, hG1⟩ := cut_own hd 22 i j i0 Tryz.underlying22 hi0 hzs hij hj hL1
  obtain ⟨r, hr⟩ : ∃ r, r = n - (j - i) := ⟨_, rfl⟩
  have hrn : r < n := by omega
  have hnr : n - r = j - i := by omega
  rw [← hr] at hap hO1 ⊢
  obtain ⟨cur, hcg, _, _, _, _⟩ := own_blk hO1
  have hOl := hO1.1
  have e0 : r * 1 + (n - r) * 1 = n * 1 := by rw [← Nat.add_mul]; congr 1; omega
  have hclr := fun ty => clear_run (w.drew.setCells g (i * 1) (L.drop (j * 1))) 22 3 ty (.int .i64 0) [.int .i64 0] 1 Tryz.underlying22 (fun w => by kernel_rfl) rfl rfl (by decide) (by decide) g (r * 1) (n - r) (c - r) (by omega) (fun q hq => by
      have hlt : r * 1 + q < (L.take (i * 1) ++ L.drop (j * 1) ++ L.drop (r * 1)).length := by rw [hOl]; omega
      rw [own_src hO1 _ _ (List.getElem?_eq_getElem hlt)]; rfl) (fun q _ => blk_frozen hcg _)
  obtain ⟨Z, hZ, hrun⟩ := hclr 0
  have hO2 := own_cut (own_setCells Z (r * 1) hO1 (by rw [hOl, hZ]; omega)) r (by omega)
  have hG2 : w.grownBy ((w.drew.setCells g (i * 1) (L.drop (j * 1))).setCells g (r * 1) Z) (some g) := (grown_drew hG1).trans (grown_setCells Z _ _)
  have hll : (L.take (i * 1) ++ L.drop (j * 1)).length = r * 1 := by
    have e1 : i * 1 ≤ n * 1 := Nat.mul_le_mul_right _ (by omega)
    have e2 : j * 1 ≤ n * 1 := Nat.mul_le_mul_right _ (by omega)
    have e3 : i * 1 + (n * 1 - j * 1) = r * 1 := by rw [← Nat.sub_mul, ← Nat.add_mul]; congr 1; omega
    rw [List.length_append, List.length_take, List.length_drop, hLl, Nat.min_eq_left e1]; exact e3
  have hf : ((L.take (i * 1) ++ L.drop (j * 1) ++ L.drop (r * 1)).take (r * 1) ++ Z ++ (L.take (i * 1) ++ L.drop (j * 1) ++ L.drop (r * 1)).drop (r * 1 + Z.length)).take (r * 1) = L.take (i * 1) ++ L.drop (j * 1) := by
    rw [List.take_left' hll, List.append_assoc, List.take_left' hll]
  rw [hf] at hO2
  have HF := Lib.hid (And.intro hO2 hG2)
  have hz1 : ((i : Int) == (j : Int)) = false := by simpa using (show ¬ (i : Int) = (j : Int) by omega)
  have hz2 : (i : Int) ≤ (j : Int) := by omega
  have hz3 : (j : Int) ≤ (n : Int) := by omega
  have hz4 : (i : Int) ≤ (c : Int) := by omega
  have hz5 : (r : Int) ≤ (n : Int) := by omega
  have hz6 : (n : Int) ≤ (c : Int) := by omega
  have hz7 : (i : Int) ≤ (n : Int) := by omega
  have hz8 : ¬ (c = r) := by omega
  have hapa := fun ty => hap ty (c - j)
  have HLl := Lib.hid hLl
  have hri : n = j → r = i := by omega
  clear h hL1 hLl hd hap hO1 hG1 hr hcg hOl e0 hclr hZ hO2 hG2 hll hf
  clear hnr
  by_cases hcj : c = j
  · obtain rfl : n = c := by omega
    subst hcj
    have hnil : L.drop (n * 1) = [] := List.drop_of_length_le (by rw [HLl.out]; exact Nat.le_refl _)
    rw [hnil] at hrun HF
    simp only [World.setCells] at hrun HF
    rw [hnil]
    obtain rfl : r = i := hri rfl
    have hin : r ≤ n := by omega
    clear hz1 hz2 hz3 hapa hnil hri
    simp only [Nat.mul_one] at *
    go_enter Tryz.func91, Tryz.ntmps91
    go_wp2_with fail
    go_region
    go_wp2
    go_ret
    exact ⟨rfl, HF.out.1, HF.out.2⟩
  · have hapa := fun ty => hapa ty ⟨g, j * 1, none⟩ (.inl rfl)
    clear hri
    simp only [Nat.mul_one] at *
    go_enter Tryz.func91, Tryz.ntmps91
    go_wp2_with fail
    go_region_law (refine step_append_is rfl _ _ 22 22 rfl (.slice (some ⟨g, 0, none⟩) i c) (.slice (some ⟨g, j, none⟩) (n - j) (c - j)) (by simp [Act.eval, Act.put]) (by simp [Act.eval, Act.put, hcj]) (hapa _) ?_)
    go_wp2
    go_ret
    exact ⟨rfl, HF.out.1, HF.out.2⟩
theorem cutC_any {w : World} {B c i j : Nat} {A : Option Addr} {l : List S44} (h : Ow encC 44 6 w B (.slice A l.length c) l) (hij : i < j) (hj : j ≤ l.length) (hl : l.length ≤ 1000) :
    Calls Tryz.prog 83 #[.slice A l.length c, .int .i64 i, .int .i64 j] w fun e w' => e = .returned (.slice A (l.take i ++ l.drop j).length c) ∧ Ow encC 44 6 w' B (.slice A (l.take i ++ l.drop j).length c) (l.take i ++ l.drop j) ∧ w.grownBy w' (Value.slice A l.length c).ownBlock := by
  refine (cutC_raw h (flt_one oneC l) hij hj hl).mono ?_
  rintro e w' ⟨rfl, ho, hg⟩
  have hn : (l.take i ++ l.drop j).length = l.length - (j - i) := by simp only [List.length_append, List.length_take, List.length_drop]; omega
  refine ⟨by rw [hn], ?_, hg⟩
  show w'.ownsRow B 44 6 (.slice A (l.take i ++ l.drop j).length c) (l.take i ++ l.drop j).length (flt encC (l.take i ++ l.drop j))
  rw [hn, flt_app, ← flt_take lenC, ← flt_drop lenC]
  exact ho
theorem cutI_any {w : World} {B c i j : Nat} {A : Option Addr} {l : List Int} (h : Ow encI 3 1 w B (.slice A l.length c) l) (hij : i < j) (hj : j ≤ l.length) (hl : l.length ≤ 1000) :
    Calls Tryz.prog 91 #[.slice A l.length c, .int .i64 i, .int .i64 j] w fun e w' => e = .returned (.slice A (l.take i ++ l.drop j).length c) ∧ Ow encI 3 1 w' B (.slice A (l.take i ++ l.drop j).length c) (l.take i ++ l.drop j) ∧ w.grownBy w' (Value.slice A l.length c).ownBlock := by
  refine (cutI_raw h (flt_one oneI l) hij hj hl).mono ?_
  rintro e w' ⟨rfl, ho, hg⟩
  have hn : (l.take i ++ l.drop j).length = l.length - (j - i) := by simp only [List.length_append, List.length_take, List.length_drop]; omega
  refine ⟨by rw [hn], ?_, hg⟩
  show w'.ownsRow B 3 1 (.slice A (l.take i ++ l.drop j).length c) (l.take i ++ l.drop j).length (flt encI (l.take i ++ l.drop j))
  rw [hn, flt_app, ← flt_take lenI, ← flt_drop lenI]
  exact ho
end Go.Proofs.YtcofacgdijjnoaaGreat
end
section
namespace Go.Proofs
open Go.Shelf
open Go.RowKit in
def Tryz.lays122_ren : Go.Shelf.Ren := ⟨fun | 122 => 82 | 215 => 97 | n => n, fun | 3 => 3 | 4 => 4 | n => n, fun | n => n⟩
theorem Tryz.lays122 : Go.Proofs.Lays.n122 Tryz.prog Tryz.lays122_ren := {
  mixed := by kernel_rfl
  f122 := Tryz.func82.trans (congrArg some (by kernel_rfl))
  f215 := Tryz.func97.trans (congrArg some (by kernel_rfl))
  t3 := Tryz.underlying3
  a3 := Tryz.isAgg3
  z3 := Tryz.sizeOf3
  v3 := Tryz.zeroValue3
  t4 := Tryz.underlying4
  a4 := Tryz.isAgg4
  z4 := Tryz.sizeOf4
  v4 := Tryz.zeroValue4 }
open Go.RowKit in
/-- cmp.Compare at int: "Compare returns -1 if x is less than y, 0 if x equals y, +1 if x is greater than y.": IT RETURNS 'Lib.compareInt x y'; the world is as it was. (LAID: no walk: one application.) -/
theorem Tryz.cmp_Compare_int (x y : Int) (w : World) :
    Calls Tryz.prog 82 #[.int .i64 x, .int .i64 y] w fun e w' => e = .returned (.int .i64 (Lib.compareInt x y)) ∧ w' = w := Any.cmp_Compare_int Tryz.lays122 x y w
open Go.RowKit Go.Lib in
def Tryz.lays212_ren : Go.Shelf.Ren := ⟨fun | 212 => 105 | 263 => 126 | 264 => 127 | n => n, fun | 46 => 114 | 51 => 131 | 146 => 138 | 53 => 95 | 148 => 140 | n => n, fun | n => n⟩
theorem Tryz.lays212 : Go.Proofs.Lays.n212 Tryz.prog Tryz.lays212_ren := {
  mixed := by kernel_rfl
  f212 := Tryz.func105.trans (congrArg some (by kernel_rfl))
  f263 := Tryz.func126.trans (congrArg some (by kernel_rfl))
  f264 := Tryz.func127.trans (congrArg some (by kernel_rfl))
  t46 := Tryz.underlying114
  a46 := Tryz.isAgg114
  z46 := Tryz.sizeOf114
  v46 := Tryz.zeroValue114
  t51 := Tryz.underlying131
  a51 := Tryz.isAgg131
  z51 := Tryz.sizeOf131
  v51 := Tryz.zeroValue131
  t53 := Tryz.underlying95
  a53 := Tryz.isAgg95
  z53 := Tryz.sizeOf95
  v53 := Tryz.zeroValue95
  t146 := Tryz.underlying138
  a146 := Tryz.isAgg138
  z146 := Tryz.sizeOf138
  v146 := Tryz.zeroValue138
  t148 := Tryz.underlying140
  a148 := Tryz.isAgg140
  z148 := Tryz.sizeOf140
  v148 := Tryz.zeroValue140 }
open Go.RowKit Go.Lib in
/-- math/bits.Mul: "Mul returns the full-width product of x and y": on a machine of 64 bits: Mul64's. (LAID: no walk: one application.) -/
theorem Tryz.bits_Mul (x y : Nat) (hx : x < 18446744073709551616) (hy : y < 18446744073709551616) (w : World) :
    Calls Tryz.prog 105 #[.int .u64 x, .int .u64 y] w fun e w' => e = .returned (.tuple #[.int .u64 ((x * y / 18446744073709551616 : Nat) : Int), .int .u64 ((x * y % 18446744073709551616 : Nat) : Int)]) ∧ w' = w := Any.bits_Mul Tryz.lays212 x y hx hy w
open Go.Lib in
open Go.RowKit Go.Lib Go.Sort in
open Go.RowKit Go.Lib Go.Sort in
open Go.RowKit Go.Lib Go.Sort in
open Go.RowKit Go.Lib in
open Go.RowKit Go.Lib in
open Go.RowKit Go.Lib in
open Go.RowKit Go.Lib in
open Go.RowKit Go.Lib Go.Sort in
open Go.RowKit Go.Lib Go.Sort in
open Go.RowKit Go.Lib Go.Sort in
open Go.RowKit Go.Lib Go.Sort in
open Go.RowKit Go.Lib in
open Go.RowKit Go.Lib Go.Sort in
open Go.RowKit Go.Lib Go.Sort in
open Go.RowKit Go.Lib Go.Sort in
open Go.RowKit Go.Lib in
open Go.RowKit Go.Lib in
def Tryz.sortCells_ren : Go.Shelf.Ren := ⟨fun | 6 => 85 | 15 => 101 | 14 => 100 | 28 => 115 | 29 => 116 | 20 => 107 | 21 => 108 | 22 => 109 | 23 => 110 | 24 => 111 | 25 => 112 | 26 => 113 | 27 => 114 | 46 => 129 | 47 => 130 | 48 => 131 | 49 => 132 | 50 => 133 | 57 => 138 | n => n, fun | 22 => 23 | 24 => 44 | 25 => 100 | 3 => 3 | 39 => 114 | 0 => 0 | 53 => 131 | 55 => 95 | 4 => 4 | 46 => 125 | 45 => 124 | 50 => 96 | 5 => 5 | 9 => 9 | 66 => 143 | 70 => 147 | 76 => 152 | 77 => 153 | n => n, fun | n => n⟩
theorem Tryz.sortCells : Go.Proofs.SlLaysF0.n6 Tryz.prog Tryz.sortCells_ren := {
  mixed := by kernel_rfl
  f6 := ⟨Tryz.f85.name, by decide, Tryz.func85.trans (congrArg some (by kernel_rfl))⟩
  f14 := ⟨Tryz.f100.name, by decide, Tryz.func100.trans (congrArg some (by kernel_rfl))⟩
  f15 := Tryz.func101.trans (congrArg some (by kernel_rfl))
  f20 := ⟨Tryz.f107.name, by decide, Tryz.func107.trans (congrArg some (by kernel_rfl))⟩
  f21 := ⟨Tryz.f108.name, by decide, Tryz.func108.trans (congrArg some (by kernel_rfl))⟩
  f22 := ⟨Tryz.f109.name, by decide, Tryz.func109.trans (congrArg some (by kernel_rfl))⟩
  f23 := ⟨Tryz.f110.name, by decide, Tryz.func110.trans (congrArg some (by kernel_rfl))⟩
  f24 := ⟨Tryz.f111.name, by decide, Tryz.func111.trans (congrArg some (by kernel_rfl))⟩
  f25 := ⟨Tryz.f112.name, by decide, Tryz.func112.trans (congrArg some (by kernel_rfl))⟩
  f26 := ⟨Tryz.f113.name, by decide, Tryz.func113.trans (congrArg some (by kernel_rfl))⟩
  f27 := ⟨Tryz.f114.name, by decide, Tryz.func114.trans (congrArg some (by kernel_rfl))⟩
  f28 := Tryz.func115.trans (congrArg some (by kernel_rfl))
  f29 := Tryz.func116.trans (congrArg some (by kernel_rfl))
  f46 := ⟨Tryz.f129.name, by decide, Tryz.func129.trans (congrArg some (by kernel_rfl))⟩
  f47 := Tryz.func130.trans (congrArg some (by kernel_rfl))
  f48 := Tryz.func131.trans (congrArg some (by kernel_rfl))
  f49 := ⟨Tryz.f132.name, by decide, Tryz.func132.trans (congrArg some (by kernel_rfl))⟩
  f50 := ⟨Tryz.f133.name, by decide, Tryz.func133.trans (congrArg some (by kernel_rfl))⟩
  f57 := ⟨Tryz.f138.name, by decide, Tryz.func138.trans (congrArg some (by kernel_rfl))⟩
  t0 := Tryz.underlying0
  a0 := Tryz.isAgg0
  z0 := Tryz.sizeOf0
  v0 := Tryz.zeroValue0
  t3 := Tryz.underlying3
  a3 := Tryz.isAgg3
  z3 := Tryz.sizeOf3
  v3 := Tryz.zeroValue3
  t4 := Tryz.underlying4
  a4 := Tryz.isAgg4
  z4 := Tryz.sizeOf4
  v4 := Tryz.zeroValue4
  t5 := Tryz.underlying5
  a5 := Tryz.isAgg5
  z5 := Tryz.sizeOf5
  v5 := Tryz.zeroValue5
  t9 := Tryz.underlying9
  a9 := Tryz.isAgg9
  z9 := Tryz.sizeOf9
  v9 := Tryz.zeroValue9
  t22 := Tryz.underlying23
  a22 := Tryz.isAgg23
  z22 := Tryz.sizeOf23
  v22 := Tryz.zeroValue23
  t25 := Tryz.underlying100
  a25 := Tryz.isAgg100
  z25 := Tryz.sizeOf100
  v25 := Tryz.zeroValue100
  t39 := Tryz.underlying114
  a39 := Tryz.isAgg114
  z39 := Tryz.sizeOf114
  v39 := Tryz.zeroValue114
  t45 := Tryz.underlying124
  a45 := Tryz.isAgg124
  z45 := Tryz.sizeOf124
  v45 := Tryz.zeroValue124
  t46 := Tryz.underlying125
  a46 := Tryz.isAgg125
  z46 := Tryz.sizeOf125
  v46 := Tryz.zeroValue125
  t50 := Tryz.underlying96
  a50 := Tryz.isAgg96
  z50 := Tryz.sizeOf96
  v50 := Tryz.zeroValue96
  t53 := Tryz.underlying131
  a53 := Tryz.isAgg131
  z53 := Tryz.sizeOf131
  v53 := Tryz.zeroValue131
  t55 := Tryz.underlying95
  a55 := Tryz.isAgg95
  z55 := Tryz.sizeOf95
  v55 := Tryz.zeroValue95
  t66 := Tryz.underlying143
  a66 := Tryz.isAgg143
  z66 := Tryz.sizeOf143
  v66 := Tryz.zeroValue143
  t70 := Tryz.underlying147
  a70 := Tryz.isAgg147
  z70 := Tryz.sizeOf147
  v70 := Tryz.zeroValue147
  t76 := Tryz.underlying152
  a76 := Tryz.isAgg152
  z76 := Tryz.sizeOf152
  v76 := Tryz.zeroValue152
  t77 := Tryz.underlying153
  a77 := Tryz.isAgg153
  z77 := Tryz.sizeOf153
  v77 := Tryz.zeroValue153 }
def Tryz.sortRects_ren : Go.Shelf.Ren := ⟨fun | 6 => 87 | 15 => 101 | 14 => 102 | 28 => 115 | 29 => 116 | 20 => 117 | 21 => 118 | 22 => 119 | 23 => 120 | 24 => 121 | 25 => 122 | 26 => 123 | 27 => 124 | 46 => 134 | 47 => 130 | 48 => 131 | 49 => 135 | 50 => 136 | 57 => 139 | n => n, fun | 22 => 24 | 24 => 49 | 25 => 105 | 3 => 3 | 39 => 114 | 0 => 0 | 53 => 131 | 55 => 95 | 4 => 4 | 46 => 125 | 45 => 124 | 50 => 96 | 5 => 5 | 9 => 9 | 66 => 143 | 70 => 147 | 76 => 152 | 77 => 153 | n => n, fun | n => n⟩
theorem Tryz.sortRects : Go.Proofs.SlLaysF0.n6 Tryz.prog Tryz.sortRects_ren := {
  mixed := by kernel_rfl
  f6 := ⟨Tryz.f87.name, by decide, Tryz.func87.trans (congrArg some (by kernel_rfl))⟩
  f14 := ⟨Tryz.f102.name, by decide, Tryz.func102.trans (congrArg some (by kernel_rfl))⟩
  f15 := Tryz.func101.trans (congrArg some (by kernel_rfl))
  f20 := ⟨Tryz.f117.name, by decide, Tryz.func117.trans (congrArg some (by kernel_rfl))⟩
  f21 := ⟨Tryz.f118.name, by decide, Tryz.func118.trans (congrArg some (by kernel_rfl))⟩
  f22 := ⟨Tryz.f119.name, by decide, Tryz.func119.trans (congrArg some (by kernel_rfl))⟩
  f23 := ⟨Tryz.f120.name, by decide, Tryz.func120.trans (congrArg some (by kernel_rfl))⟩
  f24 := ⟨Tryz.f121.name, by decide, Tryz.func121.trans (congrArg some (by kernel_rfl))⟩
  f25 := ⟨Tryz.f122.name, by decide, Tryz.func122.trans (congrArg some (by kernel_rfl))⟩
  f26 := ⟨Tryz.f123.name, by decide, Tryz.func123.trans (congrArg some (by kernel_rfl))⟩
  f27 := ⟨Tryz.f124.name, by decide, Tryz.func124.trans (congrArg some (by kernel_rfl))⟩
  f28 := Tryz.func115.trans (congrArg some (by kernel_rfl))
  f29 := Tryz.func116.trans (congrArg some (by kernel_rfl))
  f46 := ⟨Tryz.f134.name, by decide, Tryz.func134.trans (congrArg some (by kernel_rfl))⟩
  f47 := Tryz.func130.trans (congrArg some (by kernel_rfl))
  f48 := Tryz.func131.trans (congrArg some (by kernel_rfl))
  f49 := ⟨Tryz.f135.name, by decide, Tryz.func135.trans (congrArg some (by kernel_rfl))⟩
  f50 := ⟨Tryz.f136.name, by decide, Tryz.func136.trans (congrArg some (by kernel_rfl))⟩
  f57 := ⟨Tryz.f139.name, by decide, Tryz.func139.trans (congrArg some (by kernel_rfl))⟩
  t0 := Tryz.underlying0
  a0 := Tryz.isAgg0
  z0 := Tryz.sizeOf0
  v0 := Tryz.zeroValue0
  t3 := Tryz.underlying3
  a3 := Tryz.isAgg3
  z3 := Tryz.sizeOf3
  v3 := Tryz.zeroValue3
  t4 := Tryz.underlying4
  a4 := Tryz.isAgg4
  z4 := Tryz.sizeOf4
  v4 := Tryz.zeroValue4
  t5 := Tryz.underlying5
  a5 := Tryz.isAgg5
  z5 := Tryz.sizeOf5
  v5 := Tryz.zeroValue5
  t9 := Tryz.underlying9
  a9 := Tryz.isAgg9
  z9 := Tryz.sizeOf9
  v9 := Tryz.zeroValue9
  t22 := Tryz.underlying24
  a22 := Tryz.isAgg24
  z22 := Tryz.sizeOf24
  v22 := Tryz.zeroValue24
  t25 := Tryz.underlying105
  a25 := Tryz.isAgg105
  z25 := Tryz.sizeOf105
  v25 := Tryz.zeroValue105
  t39 := Tryz.underlying114
  a39 := Tryz.isAgg114
  z39 := Tryz.sizeOf114
  v39 := Tryz.zeroValue114
  t45 := Tryz.underlying124
  a45 := Tryz.isAgg124
  z45 := Tryz.sizeOf124
  v45 := Tryz.zeroValue124
  t46 := Tryz.underlying125
  a46 := Tryz.isAgg125
  z46 := Tryz.sizeOf125
  v46 := Tryz.zeroValue125
  t50 := Tryz.underlying96
  a50 := Tryz.isAgg96
  z50 := Tryz.sizeOf96
  v50 := Tryz.zeroValue96
  t53 := Tryz.underlying131
  a53 := Tryz.isAgg131
  z53 := Tryz.sizeOf131
  v53 := Tryz.zeroValue131
  t55 := Tryz.underlying95
  a55 := Tryz.isAgg95
  z55 := Tryz.sizeOf95
  v55 := Tryz.zeroValue95
  t66 := Tryz.underlying143
  a66 := Tryz.isAgg143
  z66 := Tryz.sizeOf143
  v66 := Tryz.zeroValue143
  t70 := Tryz.underlying147
  a70 := Tryz.isAgg147
  z70 := Tryz.sizeOf147
  v70 := Tryz.zeroValue147
  t76 := Tryz.underlying152
  a76 := Tryz.isAgg152
  z76 := Tryz.sizeOf152
  v76 := Tryz.zeroValue152
  t77 := Tryz.underlying153
  a77 := Tryz.isAgg153
  z77 := Tryz.sizeOf153
  v77 := Tryz.zeroValue153 }
end Go.Proofs
end
section
namespace Go.Proofs.YtcofacgdijjnoaaGreat
open PE (S31 S44 S49 k44 k49 k31)
open Go.RowKit Go.Shelf Go.Lib Go.Proofs.YtcofacgdijjnoaaGreatW.PrintWords Go.Proofs.YtcofacgdijjnoaaGreatW.PrintLast Go.Proofs.YtcofacgdijjnoaaGreatW.PrintMore
set_option linter.unusedVariables false
set_option linter.unusedSimpArgs false
set_option maxRecDepth 100000
set_option maxHeartbeats 2000000
open Go.Sort Go.Lib
theorem or_any {w : World} {b : Nat} {x y : Int} (hb : w.heap[b]? = some (.cells #[.int .i64 x, .int .i64 y] 3 (0, 0))) :
    Calls Tryz.prog 81 #[.slice (some ⟨b, 0, none⟩) 2 2] w fun e w' => e = .returned (.int .i64 (if x = 0 then y else x)) ∧ w' = w := by
  have p0 : w.cell? ⟨b, 0, none⟩ = some (.int .i64 x) := by unfold World.cell?; rw [hb]; rfl
  have p1 : w.cell? ⟨b, 1, none⟩ = some (.int .i64 y) := by unfold World.cell?; rw [hb]; rfl
  clear hb
  obtain ⟨r, hr⟩ : ∃ r, r = if x = 0 then y else x := ⟨_, rfl⟩
  rw [← hr]
  have HR := Lib.hid hr
  clear hr
  go_enter Tryz.func81, Tryz.ntmps81
  go_wp2
  go_loopg [8] 2 (fun gg v8 wr => ∃ k : Nat, gg = 2 - k ∧ v8 = .int .i64 (k : Int) ∧ k ≤ 2 ∧ wr = w ∧ (1 ≤ k → x = 0) ∧ (2 ≤ k → y = 0))
  case atStart => exact ⟨0, rfl, rfl, by omega, rfl, by omega, by omega⟩
  case round =>
    obtain ⟨k, hg, rfl, hk, rfl, hx, hy⟩ := hrel
    have Hg := Lib.hid hg
    clear hg
    by_cases k0 : k = 0
    · subst k0
      clear hx hy
      by_cases h0 : x = 0
      · have h0b : (x != 0) = false := by simpa using h0
        go_wp2
        go_roundg (2 - 1)
        case measure => have := Hg.out; omega
        case rel => exact ⟨1, rfl, rfl, by omega, rfl, fun _ => h0, by omega⟩
      · have h0b : (x != 0) = true := by simpa using h0
        have HQ : Hid (r = x) := Lib.hid (by rw [HR.out, if_neg h0])
        clear HR
        go_wp2
        go_ret
        exact ⟨by rw [HQ.out]; rfl, rfl⟩
    · have hx' := hx (by omega)
      clear hx
      by_cases k1 : k = 1
      · subst k1
        clear hy
        by_cases h0 : y = 0
        · have h0b : (y != 0) = false := by simpa using h0
          go_wp2
          go_roundg (2 - 2)
          case measure => have := Hg.out; omega
          case rel => exact ⟨2, rfl, rfl, by omega, rfl, fun _ => hx', fun _ => h0⟩
        · have h0b : (y != 0) = true := by simpa using h0
          have HQ : Hid (r = y) := Lib.hid (by rw [HR.out, if_pos hx'])
          clear HR
          go_wp2
          go_ret
          exact ⟨by rw [HQ.out]; rfl, rfl⟩
      · have k2 : k = 2 := by omega
        subst k2
        have hy' := hy (by omega)
        have HQ : Hid (r = 0) := Lib.hid (by rw [HR.out, if_pos hx', hy'])
        clear HR hx' hy hy' k0 k1
        go_wp2
        go_ret
        exact ⟨by rw [HQ.out]; rfl, rfl⟩
/-- a world that drew and laid blocks, and no more -/
def Gr (w w' : World) : Prop := ∃ q os, w' = grow (w.drewN q) os
theorem Gr.refl (w : World) : Gr w w := ⟨0, #[], by show w = { w with heap := w.heap ++ #[] }; simp⟩
theorem Gr.drew {w W : World} (h : Gr w W) : Gr w W.drew := by
  obtain ⟨q, os, rfl⟩ := h
  exact ⟨q + 1, os, by rw [drew_grow]; rfl⟩
theorem Gr.alloc {w W : World} (h : Gr w W) (o : Obj) : Gr w (W.alloc o) := by
  obtain ⟨q, os, rfl⟩ := h
  exact ⟨q, _, by rw [alloc_eq_grow, grow_grow]⟩
theorem Gr.trans {w V W : World} (h : Gr w V) (h2 : Gr V W) : Gr w W := by
  obtain ⟨q, os, rfl⟩ := h
  obtain ⟨p, os2, rfl⟩ := h2
  refine ⟨q + p, os ++ os2, ?_⟩
  rw [← grow_grow, ← World.drewN_drewN]
  rfl
theorem Gr.below {w W : World} (h : Gr w W) : Below w.heap.size w W := by
  obtain ⟨q, os, rfl⟩ := h
  exact ⟨rfl, rfl, rfl, by first | (simp [grow]; done) | (simp [grow]; omega), fun i hi => by
    show ((w.drewN q).heap ++ os)[i]? = _
    rw [Array.getElem?_append_left (by show i < w.heap.size; omega)]
    rfl⟩
def cmpI (a b : Int) : Int := Lib.compareInt a b
def kyI (a b c d : Int) : Int := if cmpI a c = 0 then cmpI b d else cmpI a c
theorem cmp82 (x y : Int) (w : World) : Calls Tryz.prog 82 #[.int .i64 x, .int .i64 y] w fun e w' => e = .returned (.int .i64 (cmpI x y)) ∧ w' = w := Tryz.cmp_Compare_int x y w
theorem cmp86 (x y : S44) (W : World) : Calls Tryz.prog 86 #[.agg (encC x).toArray, .agg (encC y).toArray] W fun e w' => e = .returned (.int .i64 (kyI x.f0 x.f1 y.f0 y.f1)) ∧ Gr W w' := by
  obtain ⟨b, hb⟩ : ∃ b, b = kyI x.f0 x.f1 y.f0 y.f1 := ⟨_, rfl⟩
  rw [← hb]
  have hor := fun (W' : World) => or_any (w := (W'.alloc (.cells #[.int .i64 (cmpI x.f0 y.f0), .int .i64 (cmpI x.f1 y.f1)] 3 (0, 0))).drew) (b := W'.heap.size) (x := cmpI x.f0 y.f0) (y := cmpI x.f1 y.f1) (blk_drew (blk_new W' _))
  rw [show (if cmpI x.f0 y.f0 = 0 then cmpI x.f1 y.f1 else cmpI x.f0 y.f0) = kyI x.f0 x.f1 y.f0 y.f1 from rfl, ← hb] at hor
  have HO := Lib.hid hor
  clear hor hb
  obtain ⟨x0, x1, x2, ⟨x3, x4, x5⟩⟩ := x
  obtain ⟨y0, y1, y2, ⟨y3, y4, y5⟩⟩ := y
  simp only [encC] at *
  go_enter Tryz.func86, Tryz.ntmps86
  go_wp2
  obtain ⟨W0, hW0⟩ : ∃ W0, W0 = (W.alloc (.cells #[.int .i64 x0, .int .i64 x1, .string x2, .int .i64 x3, .int .i64 x4, .int .i64 x5] 44 (0, 0))).alloc (.cells #[.int .i64 y0, .int .i64 y1, .string y2, .int .i64 y3, .int .i64 y4, .int .i64 y5] 44 (0, 0)) := ⟨_, rfl⟩
  have hx := blk_below (blk_new W (.cells #[.int .i64 x0, .int .i64 x1, .string x2, .int .i64 x3, .int .i64 x4, .int .i64 x5] 44 (0, 0))) (below_alloc (Below.refl _ _) (.cells #[.int .i64 y0, .int .i64 y1, .string y2, .int .i64 y3, .int .i64 y4, .int .i64 y5] 44 (0, 0)))
  have hy := blk_new (W.alloc (.cells #[.int .i64 x0, .int .i64 x1, .string x2, .int .i64 x3, .int .i64 x4, .int .i64 x5] 44 (0, 0))) (.cells #[.int .i64 y0, .int .i64 y1, .string y2, .int .i64 y3, .int .i64 y4, .int .i64 y5] 44 (0, 0))
  rw [← hW0] at hx hy ⊢
  rw [show (W.alloc (.cells #[.int .i64 x0, .int .i64 x1, .string x2, .int .i64 x3, .int .i64 x4, .int .i64 x5] 44 (0, 0))).heap.size = W.heap.size + 1 from Array.size_push ..] at hy
  have hA := Lib.hid (show Gr W W0 by rw [hW0]; exact ((Gr.refl W).alloc _).alloc _)
  clear hW0
  obtain ⟨p0, p1, p2, p3, p4, p5⟩ := six (x := ⟨x0, x1, x2, ⟨x3, x4, x5⟩⟩) hx
  obtain ⟨q0, q1, q2, q3, q4, q5⟩ := six (x := ⟨y0, y1, y2, ⟨y3, y4, y5⟩⟩) hy
  simp only [] at p0 p1 p2 p3 p4 p5 q0 q1 q2 q3 q4 q5
  clear hx hy
  have KS : ∀ w', Gr W0 w' → (w'.cell? ⟨W.heap.size, 0, none⟩ = some (.int .i64 x0) ∧ w'.cell? ⟨W.heap.size, 1, none⟩ = some (.int .i64 x1) ∧ w'.cell? ⟨W.heap.size + 1, 0, none⟩ = some (.int .i64 y0) ∧ w'.cell? ⟨W.heap.size + 1, 1, none⟩ = some (.int .i64 y1) ∧ Gr W0 w') := fun w' hb => ⟨pw_cell_below hb.below p0, pw_cell_below hb.below p1, pw_cell_below hb.below q0, pw_cell_below hb.below q1, hb⟩
  have HKS := Lib.hid KS
  clear KS
  go_region_held3 (fun w' => (w'.cell? ⟨W.heap.size, 0, none⟩ = some (.int .i64 x0) ∧ w'.cell? ⟨W.heap.size, 1, none⟩ = some (.int .i64 x1) ∧ w'.cell? ⟨W.heap.size + 1, 0, none⟩ = some (.int .i64 y0) ∧ w'.cell? ⟨W.heap.size + 1, 1, none⟩ = some (.int .i64 y1) ∧ Gr W0 w'))
    ((go_split_ands; refine HKS.out _ ?_; repeat (first | exact Gr.refl _ | assumption | refine Gr.drew ?_ | refine Gr.alloc ?_ _)))
  (first
      | (go_at_call 82; refine (cmp82 _ _ _).mono ?_; rintro e w1 ⟨rfl, rfl⟩)
      | (go_at_call 81; go_split_ands; refine (HO.out _).mono ?_; rintro e w1 ⟨rfl, rfl⟩))
  go_split_ands
  go_wp2
  go_ret
  exact ⟨rfl, hA.out.trans (by assumption)⟩
theorem cmp88 (x y : S49) (W : World) : Calls Tryz.prog 88 #[.agg (encR x).toArray, .agg (encR y).toArray] W fun e w' => e = .returned (.int .i64 (kyI x.f0 x.f1 y.f0 y.f1)) ∧ Gr W w' := by
  obtain ⟨b, hb⟩ : ∃ b, b = kyI x.f0 x.f1 y.f0 y.f1 := ⟨_, rfl⟩
  rw [← hb]
  have hor := fun (W' : World) => or_any (w := (W'.alloc (.cells #[.int .i64 (cmpI x.f0 y.f0), .int .i64 (cmpI x.f1 y.f1)] 3 (0, 0))).drew) (b := W'.heap.size) (x := cmpI x.f0 y.f0) (y := cmpI x.f1 y.f1) (blk_drew (blk_new W' _))
  rw [show (if cmpI x.f0 y.f0 = 0 then cmpI x.f1 y.f1 else cmpI x.f0 y.f0) = kyI x.f0 x.f1 y.f0 y.f1 from rfl, ← hb] at hor
  have HO := Lib.hid hor
  clear hor hb
  obtain ⟨x0, x1, x2, x3⟩ := x
  obtain ⟨y0, y1, y2, y3⟩ := y
  simp only [encR] at *
  go_enter Tryz.func88, Tryz.ntmps88
  go_wp2
  obtain ⟨W0, hW0⟩ : ∃ W0, W0 = (W.alloc (.cells #[.int .i64 x0, .int .i64 x1, .int .i64 x2, .int .i64 x3] 49 (0, 0))).alloc (.cells #[.int .i64 y0, .int .i64 y1, .int .i64 y2, .int .i64 y3] 49 (0, 0)) := ⟨_, rfl⟩
  have hx := blk_below (blk_new W (.cells #[.int .i64 x0, .int .i64 x1, .int .i64 x2, .int .i64 x3] 49 (0, 0))) (below_alloc (Below.refl _ _) (.cells #[.int .i64 y0, .int .i64 y1, .int .i64 y2, .int .i64 y3] 49 (0, 0)))
  have hy := blk_new (W.alloc (.cells #[.int .i64 x0, .int .i64 x1, .int .i64 x2, .int .i64 x3] 49 (0, 0))) (.cells #[.int .i64 y0, .int .i64 y1, .int .i64 y2, .int .i64 y3] 49 (0, 0))
  rw [← hW0] at hx hy ⊢
  rw [show (W.alloc (.cells #[.int .i64 x0, .int .i64 x1, .int .i64 x2, .int .i64 x3] 49 (0, 0))).heap.size = W.heap.size + 1 from Array.size_push ..] at hy
  have hA := Lib.hid (show Gr W W0 by rw [hW0]; exact ((Gr.refl W).alloc _).alloc _)
  clear hW0
  obtain ⟨p0, p1, p2, p3⟩ := four (r := ⟨x0, x1, x2, x3⟩) hx
  obtain ⟨q0, q1, q2, q3⟩ := four (r := ⟨y0, y1, y2, y3⟩) hy
  simp only [] at p0 p1 p2 p3 q0 q1 q2 q3
  clear hx hy
  have KS : ∀ w', Gr W0 w' → (w'.cell? ⟨W.heap.size, 0, none⟩ = some (.int .i64 x0) ∧ w'.cell? ⟨W.heap.size, 1, none⟩ = some (.int .i64 x1) ∧ w'.cell? ⟨W.heap.size + 1, 0, none⟩ = some (.int .i64 y0) ∧ w'.cell? ⟨W.heap.size + 1, 1, none⟩ = some (.int .i64 y1) ∧ Gr W0 w') := fun w' hb => ⟨pw_cell_below hb.below p0, pw_cell_below hb.below p1, pw_cell_below hb.below q0, pw_cell_below hb.below q1, hb⟩
  have HKS := Lib.hid KS
  clear KS
  go_region_held3 (fun w' => (w'.cell? ⟨W.heap.size, 0, none⟩ = some (.int .i64 x0) ∧ w'.cell? ⟨W.heap.size, 1, none⟩ = some (.int .i64 x1) ∧ w'.cell? ⟨W.heap.size + 1, 0, none⟩ = some (.int .i64 y0) ∧ w'.cell? ⟨W.heap.size + 1, 1, none⟩ = some (.int .i64 y1) ∧ Gr W0 w'))
    ((go_split_ands; refine HKS.out _ ?_; repeat (first | exact Gr.refl _ | assumption | refine Gr.drew ?_ | refine Gr.alloc ?_ _)))
  (first
      | (go_at_call 82; refine (cmp82 _ _ _).mono ?_; rintro e w1 ⟨rfl, rfl⟩)
      | (go_at_call 81; go_split_ands; refine (HO.out _).mono ?_; rintro e w1 ⟨rfl, rfl⟩))
  go_split_ands
  go_wp2
  go_ret
  exact ⟨rfl, hA.out.trans (by assumption)⟩
end Go.Proofs.YtcofacgdijjnoaaGreat
end
section
namespace Go.Proofs.YtcofacgdijjnoaaGreat
open PE (S31 S44 S49 k44 k49 k31)
open Go.RowKit Go.Shelf Go.Lib Go.Proofs.YtcofacgdijjnoaaGreatW.PrintWords Go.Proofs.YtcofacgdijjnoaaGreatW.PrintLast Go.Proofs.YtcofacgdijjnoaaGreatW.PrintMore
set_option linter.unusedVariables false
set_option linter.unusedSimpArgs false
set_option maxRecDepth 100000
set_option maxHeartbeats 2000000
open Go.Sort Go.Lib Go.RowKit Go.Shelf
section
variable {α : Type} [Inhabited α] {enc : α → List Value} {e k : Nat}
theorem flt_cell (hk : ∀ x, (enc x).length = k) : ∀ (l : List α) (j : Nat), j < l.length * k → (flt enc l)[j]? = some ((enc (l.getD (j / k) default))[j % k]!)
  | [], j, h => by simp at h
  | x :: l, j, h => by
    have hk0 : 0 < k := by
      rcases Nat.eq_zero_or_pos k with h0 | h0
      · subst h0; simp at h
      · exact h0
    rw [flt]
    by_cases hj : j < k
    · rw [List.getElem?_append_left (by rw [hk]; exact hj), Nat.div_eq_of_lt hj, Nat.mod_eq_of_lt hj]
      rw [List.getElem?_eq_getElem (by rw [hk]; exact hj)]
      simp only [List.getD_cons_zero]
      rw [getElem!_pos _ j (by rw [hk]; exact hj)]
    · have e1 : j / k = (j - k) / k + 1 := by
        rw [Nat.div_eq_sub_div hk0 (by omega)]
      have e2 : j % k = (j - k) % k := by
        rw [Nat.mod_eq_sub_mod (by omega)]
      rw [List.getElem?_append_right (by rw [hk]; omega), hk, e1, e2, List.getD_cons_succ]
      exact flt_cell hk l (j - k) (by simp only [List.length_cons, Nat.succ_mul] at h; omega)
theorem sort_holds (hk : ∀ x, (enc x).length = k) {W : World} {g cap : Nat} {cur : Array Value} {l : List α} (hg : W.heap[g]? = some (.cells cur e (0, 0))) (htk : cur.toList.take (l.length * k) = flt enc l) :
    HoldsK enc k W g 0 l.toArray := by
  have hcell : ∀ j, j < l.length * k → cur[j]? = some ((enc (l.getD (j / k) default))[j % k]!) := by
    intro j hj
    rw [← flt_cell hk l j hj, ← htk, List.getElem?_take, if_pos hj]
    simp
  have hd : ∀ i, (l.toArray)[i]! = l.getD i default := by
    intro i
    rw [List.getD_eq_getElem?_getD]
    simp
  intro j hj
  have hj' : j < l.length * k := by simpa using hj
  refine ⟨?_, frozen_of_row _ _ _ _ _ hg⟩
  rw [cell_of_row _ _ _ _ _ _ hg, Nat.zero_add, hcell j hj', get_flatK enc k _ j (by simpa using hj'), hd]
  rfl
theorem sort_owns (hk : ∀ x, (enc x).length = k) {W : World} {B g cap n : Nat} {cur : Array Value} {l : List α} {d' : Array α} {os : Array Obj} (hB : B ≤ g) (hg : W.heap[g]? = some (.cells cur e (0, 0))) (hle : l.length ≤ cap) (hm : cap ≤ maxLen) (hs : cur.size = cap * k)
    (hds : d'.size = l.length) : Ow enc e k (sortWorldK enc k W g 0 n d' os) B (.slice (some ⟨g, 0, none⟩) l.length cap) d'.toList ∧ W.grownBy (sortWorldK enc k W g 0 n d' os) (some g) := by
  refine ⟨?_, ?_⟩
  · have hblk : (sortWorldK enc k W g 0 n d' os).heap[g]? = some (.cells (putCells id 0 (flatK enc k d') cur) e (0, 0)) := by
      have h1 : (mapBlock (Sort.ahead W n) g (putCells id 0 (flatK enc k d'))).heap[g]? = some (.cells (putCells id 0 (flatK enc k d') cur) e (0, 0)) := by
        show (W.heap.modify g _)[g]? = _
        rw [Array.getElem?_modify, if_pos rfl, hg]
        rfl
      show ((mapBlock (Sort.ahead W n) g (putCells id 0 (flatK enc k d'))).heap ++ os)[g]? = _
      rw [Array.getElem?_append_left (lt_of_block h1)]
      exact h1
    have hdl : d'.toList.length = l.length := by simpa using hds
    refine ⟨by rw [flt_len hk], .inr ⟨g, cap, _, by rw [hdl], hB, hblk, by rw [hdl]; exact hle, hm, by simp [putCells, hs], ?_⟩⟩
    apply List.ext_getElem?
    intro j
    rw [List.getElem?_take]
    by_cases hj : j < d'.toList.length * k
    · rw [if_pos hj, flt_cell hk _ j hj]
      have hj2 : j < d'.size * k := by simpa using hj
      have hjc : j < cur.size := by
        have : l.length * k ≤ cap * k := Nat.mul_le_mul_right _ hle
        rw [hdl] at hj
        omega
      have hfl : (flatK enc k d').size = d'.size * k := by simp
      rw [Array.getElem?_toList]
      unfold putCells
      rw [Array.getElem?_mapIdx, Array.getElem?_eq_getElem hjc, Option.map_some, if_pos ⟨Nat.zero_le _, by rw [hfl]; omega⟩, Nat.sub_zero, get_flatK enc k d' j hj2]
      have hdd : d'[j / k]! = d'.toList.getD (j / k) default := by
        rw [List.getD_eq_getElem?_getD, Array.getElem?_toList, getElem!_def]
        cases d'[j / k]? <;> rfl
      rw [hdd]
      rfl
    · rw [if_neg hj, List.getElem?_eq_none (by rw [flt_len hk]; omega)]
  · refine ⟨rfl, rfl, rfl, ?_, fun i hi hne => ?_⟩
    · show W.heap.size ≤ ((mapBlock (Sort.ahead W n) g (putCells id 0 (flatK enc k d'))).heap ++ os).size
      rw [Array.size_append]
      simp [mapBlock, Sort.ahead]
    · have hkg : g ≠ i := by
        intro e
        subst e
        exact hne rfl
      show ((W.heap.modify g _) ++ os)[i]? = W.heap[i]?
      rw [Array.getElem?_append_left (by simpa using hi), Array.getElem?_modify, if_neg hkg]
theorem sort_list {R : α → α → Prop} [DecidableRel R] (irr : ∀ a, ¬ R a a) (tr : ∀ a b c, R a b → R b c → R a c) {l : List α} {d' : Array α} (hp : PermIn 0 l.toArray.size l.toArray d') {lt : α → α → Bool} (hlt : ∀ a b, lt a b = decide (R a b))
    (hso : SortedIn lt 0 l.toArray.size d') (hd : l.Pairwise fun a b => R a b ∨ R b a) : d'.toList = srt R l ∧ d'.size = l.length := by
  have hds : d'.size = l.length := by simpa using hp.1
  have hperm : d'.toList.Perm l := by
    have := hp.2.2
    rw [show l.toArray.extract 0 l.toArray.size = l.toArray by simp, show d'.extract 0 l.toArray.size = d' by rw [List.size_toArray, ← hds]; simp] at this
    simpa using this
  refine ⟨?_, hds⟩
  have hpw : d'.toList.Pairwise R := by
    have h1 : d'.toList.Pairwise fun a b => R a b ∨ R b a := (List.Perm.pairwise_iff (fun h => h.symm) hperm).mpr hd
    have h2 : d'.toList.Pairwise fun a b => ¬ R b a := by
      rw [List.pairwise_iff_getElem]
      intro i j hi hj hij
      have h1 := hso i j (Nat.zero_le _) hij (by simpa [hds] using hj)
      rw [hlt] at h1
      have hi' : i < d'.size := by simpa using hi
      have hj' : j < d'.size := by simpa using hj
      rw [getElem!_pos d' j hj', getElem!_pos d' i hi'] at h1
      simpa using h1
    exact (h1.and h2).imp (fun h => h.1.resolve_right h.2)
  refine rise_eq irr tr _ _ hpw (srt_rise tr hd) fun x => ?_
  rw [hperm.mem_iff, mem_srt]
end
theorem cmpI_neg (a b : Int) : cmpI a b < 0 ↔ a < b := by
  unfold cmpI Lib.compareInt
  split
  · simp_all
  · split <;> simp_all
theorem cmpI_zero (a b : Int) : cmpI a b = 0 ↔ a = b := by
  unfold cmpI Lib.compareInt
  split
  · rename_i h; simp; omega
  · split
    · rename_i h1 h2; simp; omega
    · rename_i h1 h2; simp; omega
theorem kyI_neg (a b c d : Int) : kyI a b c d < 0 ↔ (a < c ∨ (a = c ∧ b < d)) := by
  unfold kyI
  split
  · rename_i h
    rw [cmpI_neg]
    rw [cmpI_zero] at h
    constructor
    · intro h2; exact .inr ⟨h, h2⟩
    · rintro (h2 | h2)
      · omega
      · exact h2.2
  · rename_i h
    rw [cmpI_neg]
    rw [cmpI_zero] at h
    constructor
    · exact .inl
    · rintro (h2 | h2)
      · exact h2
      · exact absurd h2.1 h
instance : Inhabited S44 := ⟨PE.z44⟩
def cfC (x y : S44) : Int := kyI x.f0 x.f1 y.f0 y.f1
theorem ltC (x y : S44) : ltOf cfC x y = decide (LtC x y) := by
  unfold ltOf cfC
  exact decide_eq_decide.mpr (kyI_neg ..)
theorem swoC : SWO (ltOf cfC) where
  irrefl x := by rw [ltC]; simp [LtC]
  trans x y z h1 h2 := by
    rw [ltC, decide_eq_true_eq] at *
    unfold LtC at *; omega
  ntrans x y z h1 h2 := by
    rw [ltC, decide_eq_false_iff_not] at *
    unfold LtC at *; omega
theorem laysC (blk off size : Nat) (w : World) : CmpLays Tryz.prog 86 #[] encC 6 cfC blk off size w :=
  fun _ _ _ _ x y => cmp86 x y _
theorem isAgg44 : ∀ w, (isAgg 44).run Tryz.prog w = .ok true w := fun _ => rfl
theorem sizeOf44 : ∀ w, (Go.sizeOf 44).run Tryz.prog w = .ok 6 w := fun _ => rfl
theorem sortC_any {W : World} {B : Nat} {v : Value} {l : List S44} (ho : Ow encC 44 6 W B v l) (hsz : l.length ≤ 100000) (hd : l.Pairwise fun a b => LtC a b ∨ LtC b a) :
    Calls Tryz.prog 85 #[v, .func (.func 86) #[] #[]] W fun e W' => e = .returned (.tuple #[]) ∧ Ow encC 44 6 W' B v (srtC l) ∧ W.grownBy W' v.ownBlock := by
  rcases ho.2 with ⟨rfl, h0⟩ | ⟨g, cap, cur, rfl, hB, hg, hle, hm, hs, htk⟩
  · have : l = [] := List.eq_nil_of_length_eq_zero h0
    subst this
    exact (AnyF.slices_SortFunc_none Tryz.sortCells none 0 _ W).mono (by rintro e W' ⟨rfl, rfl⟩; exact ⟨rfl, ho, World.grownBy.refl _ _⟩)
  · have hcon := AnyQ.slices_SortFunc Tryz.sortCells 6 isAgg44 sizeOf44 encC lenC (fun x v hv => by simp [encC] at hv; rcases hv with rfl | rfl | rfl | rfl | rfl | rfl <;> rfl) cfC swoC 86 #[] g 0 cap l.toArray W (enters_of Tryz.func86 (by kernel_rfl) rfl) (laysC g 0 _ W) (sort_holds lenC (cap := cap) hg htk) (lt_of_block hg) (by simp; omega)
    change Calls Tryz.prog 85 _ _ _ at hcon
    rw [List.size_toArray] at hcon
    refine hcon.mono ?_
    rintro e W' ⟨rfl, d', n, os, hp, hso, rfl⟩
    obtain ⟨e1, hds⟩ := sort_list (R := LtC) (fun a h => by unfold LtC at h; omega) (fun a b c h1 h2 => by unfold LtC at *; omega) (by simpa using hp) ltC (by simpa using hso) hd
    obtain ⟨a1, a2⟩ := sort_owns lenC (n := n) (os := os) hB hg hle hm hs hds
    rw [e1] at a1
    exact ⟨rfl, a1, a2⟩
instance : Inhabited S49 := ⟨PE.z49⟩
def cfR (x y : S49) : Int := kyI x.f0 x.f1 y.f0 y.f1
theorem ltR (x y : S49) : ltOf cfR x y = decide (LtR x y) := by
  unfold ltOf cfR
  exact decide_eq_decide.mpr (kyI_neg ..)
theorem swoR : SWO (ltOf cfR) where
  irrefl x := by rw [ltR]; simp [LtR]
  trans x y z h1 h2 := by
    rw [ltR, decide_eq_true_eq] at *
    unfold LtR at *; omega
  ntrans x y z h1 h2 := by
    rw [ltR, decide_eq_false_iff_not] at *
    unfold LtR at *; omega
theorem laysR (blk off size : Nat) (w : World) : CmpLays Tryz.prog 88 #[] encR 4 cfR blk off size w :=
  fun _ _ _ _ x y => cmp88 x y _
theorem isAgg49 : ∀ w, (isAgg 49).run Tryz.prog w = .ok true w := fun _ => rfl
theorem sizeOf49 : ∀ w, (Go.sizeOf 49).run Tryz.prog w = .ok 4 w := fun _ => rfl
theorem sortR_any {W : World} {B : Nat} {v : Value} {l : List S49} (ho : Ow encR 49 4 W B v l) (hsz : l.length ≤ 100000) (hd : l.Pairwise fun a b => LtR a b ∨ LtR b a) :
    Calls Tryz.prog 87 #[v, .func (.func 88) #[] #[]] W fun e W' => e = .returned (.tuple #[]) ∧ Ow encR 49 4 W' B v (srtR l) ∧ W.grownBy W' v.ownBlock := by
  rcases ho.2 with ⟨rfl, h0⟩ | ⟨g, cap, cur, rfl, hB, hg, hle, hm, hs, htk⟩
  · have : l = [] := List.eq_nil_of_length_eq_zero h0
    subst this
    exact (AnyF.slices_SortFunc_none Tryz.sortRects none 0 _ W).mono (by rintro e W' ⟨rfl, rfl⟩; exact ⟨rfl, ho, World.grownBy.refl _ _⟩)
  · have hcon := AnyQ.slices_SortFunc Tryz.sortRects 4 isAgg49 sizeOf49 encR lenR (fun x v hv => by simp [encR] at hv; rcases hv with rfl | rfl | rfl | rfl <;> rfl) cfR swoR 88 #[] g 0 cap l.toArray W (enters_of Tryz.func88 (by kernel_rfl) rfl) (laysR g 0 _ W) (sort_holds lenR (cap := cap) hg htk) (lt_of_block hg) (by simp; omega)
    change Calls Tryz.prog 87 _ _ _ at hcon
    rw [List.size_toArray] at hcon
    refine hcon.mono ?_
    rintro e W' ⟨rfl, d', n, os, hp, hso, rfl⟩
    obtain ⟨e1, hds⟩ := sort_list (R := LtR) (fun a h => by unfold LtR at h; omega) (fun a b c h1 h2 => by unfold LtR at *; omega) (by simpa using hp) ltR (by simpa using hso) hd
    obtain ⟨a1, a2⟩ := sort_owns lenR (n := n) (os := os) hB hg hle hm hs hds
    rw [e1] at a1
    exact ⟨rfl, a1, a2⟩
end Go.Proofs.YtcofacgdijjnoaaGreat
end
