/-
  Masks: x & (2^j - 1), of whatever number.
-/
import Derived.WalkKit
namespace Go.Proofs.Ytppnjkiegiokeaa.Mask
open Go

/-! ### masks -/
theorem mod_in (a j : Nat) : a % 2 ^ j < 2 ^ j := Nat.mod_lt _ (Nat.two_pow_pos j)
theorem i64_and (n : Int) (j : Nat) (hj : j ≤ 62) : ∃ m : Nat, bits .and .i64 n ((2 ^ j - 1 : Nat) : Int) = (m : Int) ∧ m < 2 ^ j ∧ m = (BitVec.ofInt 64 n).toNat % 2 ^ j := by
  refine ⟨(BitVec.ofInt 64 n).toNat % 2 ^ j, ?_, mod_in _ _, rfl⟩
  have h62 : 2 ^ j ≤ 2 ^ 62 := Nat.pow_le_pow_right (by decide) hj
  have hpos := Nat.two_pow_pos j
  show IntKind.i64.wrap (((BitVec.ofInt 64 n) &&& (BitVec.ofInt 64 ((2 ^ j - 1 : Nat) : Int))).toNat : Int) = _
  simp only [BitVec.toNat_and, BitVec.ofInt_natCast, BitVec.toNat_ofNat]
  rw [Nat.mod_eq_of_lt (show 2 ^ j - 1 < 2 ^ 64 by omega), Nat.and_two_pow_sub_one_eq_mod, IntKind.wrap_i64]
  have := mod_in (BitVec.ofInt 64 n).toNat j
  omega
theorem u64_and_mask (n : Int) (j : Nat) (hj : j ≤ 62) : ∃ m : Nat, bits .and .u64 n ((2 ^ j - 1 : Nat) : Int) = (m : Int) ∧ m < 2 ^ j ∧ m = (BitVec.ofInt 64 n).toNat % 2 ^ j := by
  refine ⟨(BitVec.ofInt 64 n).toNat % 2 ^ j, ?_, mod_in _ _, rfl⟩
  have h62 : 2 ^ j ≤ 2 ^ 62 := Nat.pow_le_pow_right (by decide) hj
  have hpos := Nat.two_pow_pos j
  show IntKind.u64.wrap (((BitVec.ofInt 64 n) &&& (BitVec.ofInt 64 ((2 ^ j - 1 : Nat) : Int))).toNat : Int) = _
  simp only [BitVec.toNat_and, BitVec.ofInt_natCast, BitVec.toNat_ofNat]
  rw [Nat.mod_eq_of_lt (show 2 ^ j - 1 < 2 ^ 64 by omega), Nat.and_two_pow_sub_one_eq_mod, IntKind.wrap_u64]
  have := mod_in (BitVec.ofInt 64 n).toNat j
  omega

end Go.Proofs.Ytppnjkiegiokeaa.Mask
