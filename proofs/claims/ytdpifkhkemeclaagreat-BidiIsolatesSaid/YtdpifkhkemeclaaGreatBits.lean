/- 'and' with ones at the low end is the rest of a division. -/
import Derived.WalkKit
import Derived.Laws.BitsLemmas
namespace Go.Proofs.Base
/-- 'x & (2^i - 1)' on an int, whatever its sign. -/
theorem and_mask (x : Int) (i : Nat) (hi : i ≤ 62) : Go.bits .and .i64 x ((2 : Int) ^ i - 1) = x % (2 : Int) ^ i := by
  have hpos : 0 < 2 ^ i := Nat.two_pow_pos i
  have hc : ((2 : Int) ^ i - 1) = ((2 ^ i - 1 : Nat) : Int) := by
    rw [Int.natCast_sub hpos]; simp
  have hle : 2 ^ i ≤ 2 ^ 62 := Nat.pow_le_pow_right (by decide) hi
  rw [hc]
  have h1 : (BitVec.ofInt 64 x &&& BitVec.ofInt 64 ((2 ^ i - 1 : Nat) : Int)).toNat = (x % 18446744073709551616).toNat % 2 ^ i := by
    rw [BitVec.toNat_and, BitVec.ofInt_natCast, BitVec.toNat_ofNat, BitVec.toNat_ofInt, Nat.mod_eq_of_lt (a := 2 ^ i - 1) (by omega), Nat.and_two_pow_sub_one_eq_mod]
    rfl
  have h2 : Go.bits .and .i64 x ((2 ^ i - 1 : Nat) : Int) = IntKind.i64.wrap ((BitVec.ofInt 64 x &&& BitVec.ofInt 64 ((2 ^ i - 1 : Nat) : Int)).toNat : Int) := rfl
  rw [h2, h1]
  have h3 : (((x % 18446744073709551616).toNat % 2 ^ i : Nat) : Int) = x % (2 : Int) ^ i := by
    have hdvd : ((2 ^ i : Nat) : Int) ∣ 18446744073709551616 := by
      refine ⟨((2 ^ (64 - i) : Nat) : Int), ?_⟩
      rw [← Int.natCast_mul, ← Nat.pow_add, show i + (64 - i) = 64 by omega]; rfl
    have e2 : ((2 ^ i : Nat) : Int) = (2 : Int) ^ i := by simp
    rw [Int.natCast_emod, Int.toNat_of_nonneg (Int.emod_nonneg _ (by decide)), ← e2, Int.emod_emod_of_dvd _ hdvd]
  rw [h3, IntKind.wrap_i64]
  have h4 : 0 ≤ x % (2 : Int) ^ i := Int.emod_nonneg _ (by have : ((2 ^ i : Nat) : Int) = (2 : Int) ^ i := by simp
                                                           omega)
  have h5 : x % (2 : Int) ^ i < (2 : Int) ^ i := Int.emod_lt_of_pos _ (by have : ((2 ^ i : Nat) : Int) = (2 : Int) ^ i := by simp
                                                                          omega)
  have h6 : (2 : Int) ^ i ≤ 4611686018427387904 := by
    have : ((2 ^ i : Nat) : Int) ≤ ((2 ^ 62 : Nat) : Int) := by exact_mod_cast hle
    have e2 : ((2 ^ i : Nat) : Int) = (2 : Int) ^ i := by simp
    rw [e2] at this
    exact this
  omega
theorem and_one (x : Int) : Go.bits .and .i64 x 1 = x % 2 := and_mask x 1 (by decide)
end Go.Proofs.Base
