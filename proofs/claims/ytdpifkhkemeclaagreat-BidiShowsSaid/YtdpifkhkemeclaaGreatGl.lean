/- 'and' with ones at the low end is the rest of a division. The document's sign by which a number is shown is the program's. -/
import Derived.WalkKit
import Derived.Laws.BitsLemmas
import Derived.Test.YtdpifkhkemeclaaGreatPZx9
import Derived.Test.YtdpifkhkemeclaaGreatZm
import Derived.KernelRfl
namespace Go.Proofs.Base
/-- 'x & (2^i - 1)' on an int, whatever its sign. -/
theorem and_mask (x : Int) (i : Nat) (hi : i ≤ 62) : Go.bits .and .i64 x ((2 : Int) ^ i - 1) = x % (2 : Int) ^ i := by
  have hpos : 0 < 2 ^ i := Nat.two_pow_pos i
  have hc : ((2 : Int) ^ i - 1) = ((2 ^ i - 1 : Nat) : Int) := by
    rw [Int.natCast_sub hpos]; simp
  have hle : 2 ^ i ≤ 2 ^ 62 := Nat.pow_le_pow_right (by decide) hi
  rw [hc]
  have h1 : (BitVec.ofInt 64 x &&& BitVec.ofInt 64 ((2 ^ i - 1 : Nat) : Int)).toNat = (x % 18446744073709551616).toNat % 2 ^ i := by
    rw [BitVec.toNat_and, BitVec.ofInt_natCast, BitVec.toNat_ofNat, BitVec.toNat_ofInt, Nat.mod_eq_of_lt (a := 2 ^ i - 1) (by omega), Nat.and_two_pow_sub_one_eq_mod]
    rfl
  have h2 : Go.bits .and .i64 x ((2 ^ i - 1 : Nat) : Int) = IntKind.i64.wrap ((BitVec.ofInt 64 x &&& BitVec.ofInt 64 ((2 ^ i - 1 : Nat) : Int)).toNat : Int) := rfl
  rw [h2, h1]
  have h3 : (((x % 18446744073709551616).toNat % 2 ^ i : Nat) : Int) = x % (2 : Int) ^ i := by
    have hdvd : ((2 ^ i : Nat) : Int) ∣ 18446744073709551616 := by
      refine ⟨((2 ^ (64 - i) : Nat) : Int), ?_⟩
      rw [← Int.natCast_mul, ← Nat.pow_add, show i + (64 - i) = 64 by omega]; rfl
    have e2 : ((2 ^ i : Nat) : Int) = (2 : Int) ^ i := by simp
    rw [Int.natCast_emod, Int.toNat_of_nonneg (Int.emod_nonneg _ (by decide)), ← e2, Int.emod_emod_of_dvd _ hdvd]
  rw [h3, IntKind.wrap_i64]
  have h4 : 0 ≤ x % (2 : Int) ^ i := Int.emod_nonneg _ (by have : ((2 ^ i : Nat) : Int) = (2 : Int) ^ i := by simp
                                                           omega)
  have h5 : x % (2 : Int) ^ i < (2 : Int) ^ i := Int.emod_lt_of_pos _ (by have : ((2 ^ i : Nat) : Int) = (2 : Int) ^ i := by simp
                                                                          omega)
  have h6 : (2 : Int) ^ i ≤ 4611686018427387904 := by
    have : ((2 ^ i : Nat) : Int) ≤ ((2 ^ 62 : Nat) : Int) := by exact_mod_cast hle
    have e2 : ((2 ^ i : Nat) : Int) = (2 : Int) ^ i := by simp
    rw [e2] at this
    exact this
  omega
theorem and_one (x : Int) : Go.bits .and .i64 x 1 = x % 2 := and_mask x 1 (by decide)
theorem and_31 (x : Int) : Go.bits .and .i64 x 2147483647 = x % 2147483648 := and_mask x 31 (by decide)
end Go.Proofs.Base
namespace Go.Proofs.YtdpifkhkemeclaaGreat
open Go.RowKit Go.Proofs.YtdpifkhkemeclaaGreatW.PrintWords
set_option linter.unusedVariables false
set_option linter.unusedSimpArgs false

theorem w64b {x : Int} (h0 : -9223372036854775808 ≤ x) (h1 : x ≤ 9223372036854775807) : wrap64 x = x := by
 unfold wrap64; omega
theorem wsuccB (i : Nat) (h : i ≤ 1048577) : wrap64 ((i : Int) + 1) = ((i + 1 : Nat) : Int) := by
 rw [w64b (by omega) (by omega)]; rfl
theorem wsucc2B (i : Nat) (h : i ≤ 1048577) : wrap64 ((i : Int) + 2) = ((i + 2 : Nat) : Int) := by
 rw [w64b (by omega) (by omega)]; rfl
theorem ev_same {α : Type} {g : Nat → Option α} {r r' : α} (h : Ev g r) (e : r = r') : Ev g r' := e ▸ h
theorem rdB (l : List Int) (i : Nat) : rd l (i : Int) = l.getD i 0 := by simp [rd]

/-- All codes in the program's rows. -/
def codesZ : List Int := (List.range 38).flatMap fun k => (List.range ((toS k - frS k).toNat + 1)).map fun d : Nat => frS k + (d : Int)
theorem codesZ_mem {c : Int} {k : Nat} (hk : k < 38) (h1 : frS k ≤ c) (h2 : c ≤ toS k) : c ∈ codesZ := by
 refine List.mem_flatMap.2 ⟨k, List.mem_range.2 hk, List.mem_map.2 ⟨(c - frS k).toNat, List.mem_range.2 (by omega), by omega⟩⟩
theorem hit_mem {c : Int} (h : hitS c = true) : c ∈ codesZ := by
 unfold hitS at h
 simp at h
 obtain ⟨h1, h2⟩ := h
 unfold sideP at h2
 refine codesZ_mem h1 ?_ ?_
 ·rcases Int.lt_or_le c (frS (bs c)) with h | h
  ·rw [if_pos h] at h2; cases h2
  ·exact h
 ·rcases Int.lt_or_le (toS (bs c)) c with h | h
  ·rw [if_pos h] at h2; split at h2 <;> cases h2
  ·exact h
theorem findP_out {c : Int} (h : c ∉ codesZ) : findP c = (0, 0, false) := by
 have hh : hitS c = false := by
  cases hb : hitS c with
  | false => rfl
  | true => exact absurd (hit_mem hb) h
 unfold findP
 rw [hh]
 rfl
def glyphP (c : Int) : Int := if (findP c).1 > 0 then (findP c).2.1 else c
theorem glyph_f (c : Int) : PZ.mirror_Glyph.f c = some (glyphP c) := by
 unfold PZ.mirror_Glyph.f mirror_find.f glyphP
 simp only [Option.bind_some]
 split <;> rfl
theorem glyph_in : codesZ.all (fun c => PZ.parquetryref03_Glyph.f 200 c == some (glyphP c)) = true := by kernel_rfl
def rowsIn (L : List Int) (m : Nat) : Bool := (List.range m).all (fun j => decide (L.getD (2 * j + 1) 0 - L.getD (2 * j) 0 < 32) && (List.range 32).all (fun d => decide (L.getD (2 * j + 1) 0 < L.getD (2 * j) 0 + (d : Int)) || codesZ.contains (L.getD (2 * j) 0 + (d : Int))))
theorem rows_out {L : List Int} {m : Nat} (hL : rowsIn L m = true) {c : Int} (h : c ∉ codesZ) (j : Nat) (hj : j < m) : c < L.getD (2 * j) 0 ∨ L.getD (2 * j + 1) 0 < c := by
 rcases Int.lt_or_le c (L.getD (2 * j) 0) with h1 | h1
 ·exact .inl h1
 ·rcases Int.lt_or_le (L.getD (2 * j + 1) 0) c with h2 | h2
  ·exact .inr h2
  ·exfalso
   have hb := List.all_eq_true.1 hL j (List.mem_range.2 hj)
   rw [Bool.and_eq_true] at hb
   have hd := of_decide_eq_true hb.1
   have hq := List.all_eq_true.1 hb.2 (c - L.getD (2 * j) 0).toNat (List.mem_range.2 (by omega))
   rw [Bool.or_eq_true] at hq
   have e : L.getD (2 * j) 0 + ((c - L.getD (2 * j) 0).toNat : Int) = c := by omega
   rw [e] at hq
   rcases hq with hq | hq
   ·have := of_decide_eq_true hq; omega
   ·exact h (by simpa using hq)
theorem inRows_none (L : List Int) (m : Nat) (hm : m ≤ 1000) (hlen : (L.length : Int) = 2 * m) (hs : L.all (fun x => decide (0 ≤ x ∧ x ≤ 70000)) = true) (hL : rowsIn L m = true) {c : Int} (h : c ∉ codesZ) : Ev (fun k => PZ.parquetryref03_inRows.f k L c) (0, 0) := by
 have get : ∀ i, i < 2 * m → 0 ≤ L.getD i 0 ∧ L.getD i 0 ≤ 70000 := by
  intro i hi
  have hl : i < L.length := by omega
  have hmem : L.getD i 0 ∈ L := by rw [List.getD_eq_getElem?_getD, List.getElem?_eq_getElem hl]; exact List.getElem_mem hl
  exact of_decide_eq_true (List.all_eq_true.1 hs _ hmem)
 have outer : ∀ (d j : Nat), m - j = d → j ≤ m → Ev (fun k => PZ.parquetryref03_inRows.l0 k L c ((2 * j : Nat) : Int)) (0, 0) := by
  intro d
  induction d with
  | zero =>
   intro j hd hj
   refine Ev.step (f := fun _ => some (0, 0)) (fun k => ?_) (Ev.now _)
   simp only [PZ.parquetryref03_inRows.l0]
   rw [if_neg (by rw [hlen]; omega)]
  | succ d ih =>
   intro j hd hj
   have hj' : j < m := by omega
   have ho := rows_out hL h j hj'
   obtain ⟨p0, p1⟩ := get (2 * j) (by omega)
   obtain ⟨q0, q1⟩ := get (2 * j + 1) (by omega)
   have inner : ∀ (q : Nat) (a : Int), L.getD (2 * j) 0 ≤ a → a ≤ 70010 → (70020 - a).toNat ≤ q → Ev (fun k => PZ.parquetryref03_inRows.l1 k L c ((2 * j : Nat) : Int) a) (0, 0) := by
    intro q
    induction q with
    | zero => intro a _ _ hm; omega
    | succ q ihm =>
     intro a h0 h1 hm
     by_cases ha : a < L.getD (2 * j + 1) 0
     ·refine Ev.step (fun k => ?_) (ihm (a + 2) (by omega) (by omega) (by omega))
      simp only [PZ.parquetryref03_inRows.l1]
      rw [wsuccB _ (by omega), rdB, if_pos (by omega), if_pos (by rw [hlen]; omega), if_pos ha, w64b (x := a + 1) (by omega) (by omega), w64b (x := a + 2) (by omega) (by omega), if_neg (by omega), if_neg (by omega)]
     ·refine Ev.step (fun k => ?_) (ih (j + 1) (by omega) (by omega))
      simp only [PZ.parquetryref03_inRows.l1]
      rw [wsuccB _ (by omega), rdB, if_pos (by omega), if_pos (by rw [hlen]; omega), if_neg ha, wsucc2B _ (by omega)]
      rfl
   refine Ev.step (fun k => ?_) (inner 70020 (L.getD (2 * j) 0) (by omega) (by omega) (by omega))
   simp only [PZ.parquetryref03_inRows.l0]
   rw [if_pos (by rw [hlen]; omega), if_pos (by omega), rdB]
 exact outer m 0 rfl (by omega)
def brL : List Int := [40, 41, 3898, 3901, 5787, 5788, 8261, 8262, 8317, 8318, 8333, 8334, 8968, 8971, 9001, 9002, 10088, 10101, 10181, 10182, 10214, 10223, 10627, 10636, 10641, 10648, 10712, 10715, 10748, 10749, 11810, 11817, 12296, 12305, 12308, 12315, 65113, 65118, 65288, 65289, 65375, 65376, 65378, 65379]
def otL : List Int := [8804, 8811, 8814, 8833, 8834, 8841, 8847, 8850, 8882, 8885, 8918, 8927, 8928, 8941]
def loL : List Int := [91, 93, 123, 125, 65339, 65341, 65371, 65373]
def loF : List Int := [60, 62, 171, 187, 8249, 8250, 8712, 8715, 8713, 8716, 8714, 8717, 8764, 8765, 8866, 8867, 8912, 8913]
theorem lo_in : loL.all (fun x => codesZ.contains x) = true := by kernel_rfl
theorem loF_in : loF.all (fun x => codesZ.contains x) = true := by kernel_rfl
theorem ne_of {L : List Int} (hL : L.all (fun x => codesZ.contains x) = true) {c : Int} (h : c ∉ codesZ) : ∀ x ∈ L, c ≠ x := fun x hx e => h (by
 have := List.all_eq_true.1 hL x hx
 rw [e]; simpa using this)
theorem inPairs_none (L : List Int) (m : Nat) (hm : m ≤ 1000) (hlen : (L.length : Int) = 2 * m) {c : Int} (hne : ∀ x ∈ L, c ≠ x) : Ev (fun k => PZ.parquetryref03_inPairs.f k L c) (0, 0) := by
 have get : ∀ i, i < 2 * m → c ≠ L.getD i 0 := by
  intro i hi
  have hl : i < L.length := by omega
  have hmem : L.getD i 0 ∈ L := by rw [List.getD_eq_getElem?_getD, List.getElem?_eq_getElem hl]; exact List.getElem_mem hl
  exact hne _ hmem
 have outer : ∀ (d j : Nat), m - j = d → j ≤ m → Ev (fun k => PZ.parquetryref03_inPairs.l0 k L c ((2 * j : Nat) : Int)) (0, 0) := by
  intro d
  induction d with
  | zero =>
   intro j hd hj
   refine Ev.step (f := fun _ => some (0, 0)) (fun k => ?_) (Ev.now _)
   simp only [PZ.parquetryref03_inPairs.l0]
   rw [if_neg (by rw [hlen]; omega)]
  | succ d ih =>
   intro j hd hj
   have hj' : j < m := by omega
   have n0 := get (2 * j) (by omega)
   have n1 := get (2 * j + 1) (by omega)
   refine Ev.step (fun k => ?_) (ih (j + 1) (by omega) (by omega))
   simp only [PZ.parquetryref03_inPairs.l0]
   rw [wsuccB _ (by omega), rdB, rdB, if_pos (by rw [hlen]; omega), if_pos (by omega), if_neg n0, if_pos (by omega), if_pos (by rw [hlen]; omega), if_neg n1, wsucc2B _ (by omega)]
   rfl
 exact outer m 0 rfl (by omega)
theorem glyph_ev (c : Int) : Ev (fun k => PZ.parquetryref03_Glyph.f k c) (glyphP c) := by
 by_cases h : c ∈ codesZ
 ·have := List.all_eq_true.1 glyph_in c h
  exact Ev.of (fun k => PZ.parquetryref03_Glyph.mono c k) (k := 200) (by simpa using this)
 ·have hg : glyphP c = c := by unfold glyphP; rw [findP_out h]; rfl
  rw [hg]
  have e : ∀ k, PZ.parquetryref03_Pair.f k c = (PZ.parquetryref03_inRows.f k brL c).bind fun bt => (if bt.1 = 0 then (PZ.parquetryref03_inPairs.f k loL c).bind fun b2 => (some (b2.1, b2.2)) else (some (bt.1, bt.2))) := fun k => rfl
  have hp : Ev (fun k => PZ.parquetryref03_Pair.f k c) (0, 0) := by
   refine Ev.congr e (Ev.bind (inRows_none brL 22 (by decide) (by decide) (by kernel_rfl) (by kernel_rfl) h) ?_)
   exact Ev.congr (fun k => if_pos rfl) (Ev.bind (inPairs_none loL 4 (by decide) (by decide) (ne_of lo_in h)) (Ev.now _))
  refine Ev.bind hp ?_
  refine Ev.congr (f := fun k => (PZ.parquetryref03_inRows.f k otL c).bind fun bt => PZ.parquetryref03_Glyph.j0 k c bt.1 bt.2) (fun k => if_pos rfl) (Ev.bind (inRows_none otL 7 (by decide) (by decide) (by kernel_rfl) (by kernel_rfl) h) ?_)
  refine Ev.step (f := fun k => (PZ.parquetryref03_inPairs.f k loF c).bind fun bt => if bt.1 = 0 then some c else some bt.2) (fun k => rfl) (Ev.bind (inPairs_none loF 9 (by decide) (by decide) (ne_of loF_in h)) (Ev.now _))
theorem odd_iff (a : Int) : (Go.bits .and .i64 a 1 = 1) ↔ ¬ (Int.tmod a 2 = 0) := by
 rw [Base.and_one]
 rw [Int.tmod_eq_emod]
 split <;> omega
theorem shown_ev (c l : Int) : ∃ x, PZ.bidi_Shown.f c l = some x ∧ Ev (fun k => PZ.parquetryref16_Shown.f k c l) x := by
 by_cases h : Int.tmod l 2 = 0
 ·refine ⟨c, ?_, Ev.congr (fun k => if_pos h) (Ev.now _)⟩
  unfold PZ.bidi_Shown.f
  rw [if_neg (by rw [odd_iff]; exact fun hn => hn h)]
 ·refine ⟨glyphP c, ?_, Ev.congr (fun k => if_neg h) (Ev.bind (glyph_ev c) (Ev.now _))⟩
  unfold PZ.bidi_Shown.f
  rw [if_pos ((odd_iff l).2 h), glyph_f]
  rfl
end Go.Proofs.YtdpifkhkemeclaaGreat
