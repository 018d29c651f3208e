/- Bit operations of 64-bit ints as arithmetic: masks, the sign bit. No statement is proved here. -/
import Derived.Test.YtnbdmmepdmmbmaaDoorAid
import Derived.Laws.BitsAllLaws
namespace Go.Proofs.YtnbdmmepdmmbmaaDoor
open Go.RowKit
set_option linter.unusedVariables false
set_option linter.unusedSimpArgs false
theorem toNat_ofInt64 (n : Int) : ((BitVec.ofInt 64 n).toNat : Int) = n % 18446744073709551616 := by
  rw [BitVec.toNat_ofInt]; omega
theorem i64_mask (n : Int) (k : Nat) (hk : k ≤ 63) (m : Int) (hm : m = 2 ^ k - 1) : bits .and .i64 n m = n % 2 ^ k := by
  subst hm
  show IntKind.i64.wrap ((BitVec.ofInt 64 n &&& BitVec.ofInt 64 (2 ^ k - 1)).toNat : Int) = _
  have hle : (2 : Nat) ^ k ≤ 2 ^ 63 := Nat.pow_le_pow_right (by omega) hk
  have hp : (0 : Nat) < 2 ^ k := Nat.two_pow_pos k
  have hc : ((2 : Int) ^ k) = ((2 ^ k : Nat) : Int) := by simp
  have e2 : (BitVec.ofInt 64 (2 ^ k - 1)).toNat = 2 ^ k - 1 := by
    have := toNat_ofInt64 (2 ^ k - 1)
    rw [hc] at this ⊢
    omega
  have e1 := toNat_ofInt64 n
  rw [BitVec.toNat_and, e2, Nat.and_two_pow_sub_one_eq_mod, hc]
  have hd : (2 ^ k : Nat) ∣ 18446744073709551616 := Nat.pow_dvd_pow 2 (show k ≤ 64 by omega)
  have hm : ((BitVec.ofInt 64 n).toNat % 2 ^ k : Nat) < 2 ^ k := Nat.mod_lt _ hp
  rw [IntKind.wrap_i64]
  have hj : (((BitVec.ofInt 64 n).toNat % 2 ^ k : Nat) : Int) = n % ((2 ^ k : Nat) : Int) := by
    rw [Int.natCast_emod, e1]
    exact Int.emod_emod_of_dvd n (show ((2 ^ k : Nat) : Int) ∣ ((18446744073709551616 : Nat) : Int) from Int.natCast_dvd_natCast.2 hd)
  rw [← hj]
  omega
theorem i64_and1 (n : Int) : bits .and .i64 n 1 = n % 2 := i64_mask n 1 (by decide) _ (by decide)
theorem i64_and2047 (n : Int) : bits .and .i64 n 2047 = n % 2048 := i64_mask n 11 (by decide) _ (by decide)
theorem i64_and52 (n : Int) : bits .and .i64 n 4503599627370495 = n % 4503599627370496 := i64_mask n 52 (by decide) _ (by decide)
theorem i64_and63 (n : Int) : bits .and .i64 n 9223372036854775807 = n % 9223372036854775808 := i64_mask n 63 (by decide) _ (by decide)
/-- The sign bit set. -/
theorem i64_sign (n : Int) (h0 : -9223372036854775808 ≤ n) (h1 : n ≤ 9223372036854775807) : bits .or .i64 n (-9223372036854775808) = if n < 0 then n else n - 9223372036854775808 := by
  show IntKind.i64.wrap ((BitVec.ofInt 64 n ||| BitVec.ofInt 64 (-9223372036854775808)).toNat : Int) = _
  have e1 := toNat_ofInt64 n
  have e2 : (BitVec.ofInt 64 (-9223372036854775808)).toNat = 2 ^ 63 := by decide
  rw [BitVec.toNat_or, e2, IntKind.wrap_i64]
  generalize (BitVec.ofInt 64 n).toNat = N at e1 ⊢
  split
  · have : N ||| 2 ^ 63 = N := by
      have hN : N = 2 ^ 63 + (N - 2 ^ 63) := by omega
      have hj : 2 ^ 63 ||| (N - 2 ^ 63) = 2 ^ 63 + (N - 2 ^ 63) := nat_join 63 _ _ (by decide) (by omega)
      rw [← hN] at hj
      rw [← hj, Nat.or_comm, ← Nat.or_assoc, Nat.or_self]
    rw [this]
    omega
  · have : N ||| 2 ^ 63 = 2 ^ 63 + N := by
      rw [Nat.or_comm]
      exact nat_join 63 _ _ (by decide) (by omega)
    rw [this]
    omega
end Go.Proofs.YtnbdmmepdmmbmaaDoor
