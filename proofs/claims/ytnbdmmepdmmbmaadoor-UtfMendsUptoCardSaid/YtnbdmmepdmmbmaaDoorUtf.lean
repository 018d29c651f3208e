/- Contracts of utf.Valid and utf.size. -/
import Derived.Test.YtnbdmmepdmmbmaaDoorAid
import Derived.Test.YtnbdmmepdmmbmaaDoorBits64
namespace Go.Proofs.YtnbdmmepdmmbmaaDoor
open Go.RowKit
set_option linter.unusedVariables false
set_option linter.unusedSimpArgs false
theorem u8_mask (x k : Nat) (m : Int) (hx : x < 256) (hk : k ≤ 8) (hm : m = 2 ^ k - 1) : bits .and .u8 (x : Int) m = ((x % 2 ^ k : Nat) : Int) := by
  have hp : 1 ≤ 2 ^ k := Nat.one_le_two_pow
  have hp2 : 2 ^ k ≤ 2 ^ 8 := Nat.pow_le_pow_right (by decide) hk
  have hm' : m = ((2 ^ k - 1 : Nat) : Int) := by rw [hm, Int.natCast_sub hp]; simp
  subst hm'
  show IntKind.u8.wrap ((BitVec.ofInt 8 (x : Int) &&& BitVec.ofInt 8 ((2 ^ k - 1 : Nat) : Int)).toNat : Int) = _
  rw [BitVec.toNat_and, BitVec.ofInt_natCast, BitVec.ofInt_natCast, BitVec.toNat_ofNat, BitVec.toNat_ofNat, Nat.mod_eq_of_lt (by omega : x < 2 ^ 8), Nat.mod_eq_of_lt (by omega : 2 ^ k - 1 < 2 ^ 8), Nat.and_two_pow_sub_one_eq_mod]
  have := Nat.mod_lt x (show 0 < 2 ^ k by omega)
  simp [IntKind.wrap, IntKind.signed, IntKind.bits]
  omega
def okR (r : Int) : Bool := decide (0 ≤ r ∧ r ≤ 1114111 ∧ (r < 55296 ∨ 57343 < r))
theorem valid_any (r : Int) (w : World) : Calls Tryd.prog 70 #[.int .i64 r] w fun e w' => e = .returned (.bool (okR r)) ∧ w = w' := by
  go_enter Tryd.func70, Tryd.ntmps70
  go_wp2
  all_goals
    go_ret
    refine ⟨ret_bool ?_, rfl⟩
    simp only [okR]
    rw [Bool.eq_iff_iff]; simp only [Bool.or_eq_true, Bool.and_eq_true, decide_eq_true_eq, Bool.false_eq_true, true_iff, false_iff]; omega
/-- What a first byte begins: bytes, highest bits, least code point. -/
def szN (c : Nat) : Nat := if c < 128 then 1 else if 192 ≤ c ∧ c < 224 then 2 else if 224 ≤ c ∧ c < 240 then 3 else if 240 ≤ c ∧ c < 248 then 4 else 0
def szR (c : Nat) : Nat := if c < 128 then c else if 192 ≤ c ∧ c < 224 then c % 32 else if 224 ≤ c ∧ c < 240 then c % 16 else if 240 ≤ c ∧ c < 248 then c % 8 else 0
def szL (c : Nat) : Nat := if c < 128 then 0 else if 192 ≤ c ∧ c < 224 then 128 else if 224 ≤ c ∧ c < 240 then 2048 else if 240 ≤ c ∧ c < 248 then 65536 else 0
set_option maxRecDepth 100000 in
theorem size_any (c : Nat) (hc : c < 256) (w : World) : Calls Tryd.prog 71 #[.int .u8 c] w fun e w' => e = .returned (.tuple #[.int .i64 (szN c), .int .i64 (szR c), .int .i64 (szL c)]) ∧ w = w' := by
  have h31 := u8_mask c 5 31 hc (by decide) (by decide)
  have h15 := u8_mask c 4 15 hc (by decide) (by decide)
  have h7 := u8_mask c 3 7 hc (by decide) (by decide)
  go_enter Tryd.func71, Tryd.ntmps71
  go_wp2
  all_goals
    go_ret3
    refine ⟨?_, rfl⟩
    have q1 : ∀ {a b c d e f : Int}, a = d → b = e → c = f → Ending.returned (.tuple #[.int .i64 a, .int .i64 b, .int .i64 c]) = .returned (.tuple #[.int .i64 d, .int .i64 e, .int .i64 f]) := by rintro _ _ _ _ _ _ rfl rfl rfl; rfl
    refine q1 ?_ ?_ ?_
    · unfold szN; repeat' split
      all_goals omega
    · unfold szR; repeat' split
      all_goals omega
    · unfold szL; repeat' split
      all_goals omega

end Go.Proofs.YtnbdmmepdmmbmaaDoor
