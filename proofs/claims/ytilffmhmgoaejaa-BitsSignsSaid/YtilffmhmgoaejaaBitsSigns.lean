/- The walk of the law BitsSigns: what Sign and Signed return, and that the law's call returns true at all numbers. -/
import Derived.Test.YtilffmhmgoaejaaBitsText
namespace Go.Proofs.Ytilffmhmgoaejaa
open Go.RowKit
set_option linter.unusedVariables false
set_option linter.unusedSimpArgs false
/-- What k bits are: the half H = 2^(k-1). -/
theorem half_exists (k : Nat) (hk : 1 ≤ k) (hk2 : k ≤ 63) : ∃ H : Int, (2 : Int) ^ (k - 1) = H ∧ (2 : Int) ^ k = 2 * H ∧ 1 ≤ H ∧ H ≤ 4611686018427387904 := by
  have h1 : (2 : Nat) ^ (k - 1) ≤ 2 ^ 62 := Nat.pow_le_pow_right (by omega) (by omega)
  have h2 : (0 : Nat) < 2 ^ (k - 1) := Nat.two_pow_pos _
  have h3 : (2 : Nat) ^ k = 2 * 2 ^ (k - 1) := by
    rw [show k = (k - 1) + 1 by omega, Nat.pow_succ, Nat.add_sub_cancel, Nat.mul_comm]
  refine ⟨((2 ^ (k - 1) : Nat) : Int), by simp, ?_, by omega, by omega⟩
  have : ((2 ^ k : Nat) : Int) = ((2 * 2 ^ (k - 1) : Nat) : Int) := by rw [h3]
  simpa using this
theorem i64_maskH (n H : Int) (k : Nat) (hk : 1 ≤ k) (hk2 : k ≤ 63) (hH : (2 : Int) ^ k = 2 * H) (h1 : 1 ≤ H) (h2 : H ≤ 4611686018427387904) : bits .and .i64 n (wrap64 (wrap64 (2 * H) - 1)) = n % (2 * H) := by
  rw [show wrap64 (wrap64 (2 * H) - 1) = 2 * H - 1 by unfold wrap64; omega, i64_mask n k hk2 _ (by rw [hH]), hH]
theorem sign_in (n : Int) (k : Nat) (hk : 1 ≤ k) (hk2 : k ≤ 63) (H : Int) (hH : (2 : Int) ^ (k - 1) = H) (hK : (2 : Int) ^ k = 2 * H) (h1 : 1 ≤ H) (h2 : H ≤ 4611686018427387904) (hn : -H ≤ n) (hn2 : n < H) (w : World) :
    Calls Try.prog 23 #[.int .i64 n, .int .i64 k] w fun e w' => e = .returned (.tuple #[.int .i64 (n % (2 * H)), .int .i64 0]) ∧ w = w' := by
  have hM := i64_maskH n H k hk hk2 hK h1 h2
  go_enter Try.func23, Try.ntmps23
  go_wp2
  all_goals try (exfalso; omega)
  all_goals (go_ret2; exact ⟨rfl, rfl⟩)
theorem sign_out (n : Int) (k : Nat) (hk : 1 ≤ k) (hk2 : k ≤ 63) (H : Int) (hH : (2 : Int) ^ (k - 1) = H) (hK : (2 : Int) ^ k = 2 * H) (h1 : 1 ≤ H) (h2 : H ≤ 4611686018427387904) (hn : n < -H ∨ H ≤ n) (w : World) :
    Calls Try.prog 23 #[.int .i64 n, .int .i64 k] w fun e w' => e = .returned (.tuple #[.int .i64 0, .int .i64 11]) ∧ w = w' := by
  go_enter Try.func23, Try.ntmps23
  go_wp2
  all_goals try (exfalso; omega)
  all_goals (go_ret2; exact ⟨rfl, rfl⟩)
theorem sign_bad (n k : Int) (hk : k < 1 ∨ 63 < k) (w : World) :
    Calls Try.prog 23 #[.int .i64 n, .int .i64 k] w fun e w' => e = .returned (.tuple #[.int .i64 0, .int .i64 1]) ∧ w = w' := by
  go_enter Try.func23, Try.ntmps23
  go_wp2
  all_goals try (exfalso; omega)
  all_goals (go_ret2; exact ⟨rfl, rfl⟩)
theorem signed_bad (n k : Int) (hk : k < 1 ∨ 63 < k) (w : World) :
    Calls Try.prog 24 #[.int .i64 n, .int .i64 k] w fun e w' => e = .returned (.tuple #[.int .i64 0, .int .i64 1]) ∧ w = w' := by
  go_enter Try.func24, Try.ntmps24
  go_wp2
  all_goals try (exfalso; omega)
  all_goals (go_ret2; exact ⟨rfl, rfl⟩)
theorem signed_out (n : Int) (k : Nat) (hk : 1 ≤ k) (hk2 : k ≤ 63) (H : Int) (hH : (2 : Int) ^ (k - 1) = H) (hK : (2 : Int) ^ k = 2 * H) (h1 : 1 ≤ H) (h2 : H ≤ 4611686018427387904) (hn : n < 0 ∨ 2 * H ≤ n) (w : World) :
    Calls Try.prog 24 #[.int .i64 n, .int .i64 k] w fun e w' => e = .returned (.tuple #[.int .i64 0, .int .i64 11]) ∧ w = w' := by
  by_cases h0 : n < 0
  · go_enter Try.func24, Try.ntmps24
    go_wp2
    all_goals try (exfalso; omega)
    all_goals (go_ret2; exact ⟨rfl, rfl⟩)
  · have hq : (n / (2 * H) != 0) = true := by
      have : 1 ≤ n / (2 * H) := (Int.le_ediv_iff_mul_le (by omega)).2 (by omega)
      simp; omega
    go_enter Try.func24, Try.ntmps24
    go_wp2
    all_goals try (exfalso; omega)
    all_goals (go_ret2; exact ⟨rfl, rfl⟩)
theorem signed_low (n : Int) (k : Nat) (hk : 1 ≤ k) (hk2 : k ≤ 63) (H : Int) (hH : (2 : Int) ^ (k - 1) = H) (hK : (2 : Int) ^ k = 2 * H) (h1 : 1 ≤ H) (h2 : H ≤ 4611686018427387904) (hn : 0 ≤ n) (hn2 : n < H) (w : World) :
    Calls Try.prog 24 #[.int .i64 n, .int .i64 k] w fun e w' => e = .returned (.tuple #[.int .i64 n, .int .i64 0]) ∧ w = w' := by
  have q1 : n / (2 * H) = 0 := Int.ediv_eq_zero_of_lt hn (by omega)
  have q2 : n / H = 0 := Int.ediv_eq_zero_of_lt hn hn2
  go_enter Try.func24, Try.ntmps24
  go_wp2
  all_goals try (exfalso; omega)
  all_goals (go_ret2; exact ⟨rfl, rfl⟩)
theorem signed_high (n : Int) (k : Nat) (hk : 1 ≤ k) (hk2 : k ≤ 63) (H : Int) (hH : (2 : Int) ^ (k - 1) = H) (hK : (2 : Int) ^ k = 2 * H) (h1 : 1 ≤ H) (h2 : H ≤ 4611686018427387904) (hn : H ≤ n) (hn2 : n < 2 * H) (w : World) :
    Calls Try.prog 24 #[.int .i64 n, .int .i64 k] w fun e w' => e = .returned (.tuple #[.int .i64 (n - H - H), .int .i64 0]) ∧ w = w' := by
  have q1 : n / (2 * H) = 0 := Int.ediv_eq_zero_of_lt (by omega) (by omega)
  have q2 : n / H = 1 := by
    have a := (Int.le_ediv_iff_mul_le (c := H) (by omega) (a := 1) (b := n)).2 (by omega)
    have b := (Int.ediv_lt_iff_lt_mul (c := H) (by omega) (a := n) (b := 2)).2 (by omega)
    omega
  go_enter Try.func24, Try.ntmps24
  go_wp2
  all_goals try (exfalso; omega)
  all_goals (go_ret2; exact ⟨rfl, rfl⟩)
theorem bs_bad (n k : Int) (hk : k < 1 ∨ 63 < k) (w : World) : Calls Try.prog 6 #[.int .i64 n, .int .i64 k] w (Tr w) := by
  go_enter Try.func6, Try.ntmps6
  go_wp2_with (first
    | (go_at_call 23; refine (sign_bad _ _ hk _).mono ?_; rintro e w' ⟨rfl, rfl⟩)
    | (go_at_call 24; refine (signed_bad _ _ hk _).mono ?_; rintro e w' ⟨rfl, rfl⟩)
    | (go_at_call 25; refine (strung_any _).mono ?_; rintro e w' ⟨rfl, hb⟩))
  all_goals try (exfalso; omega)
  all_goals (go_ret; exact tr_of rfl hb)
set_option maxHeartbeats 1000000 in
theorem bs_case (n : Int) (k : Nat) (hk : 1 ≤ k) (hk2 : k ≤ 63) (H : Int) (hH : (2 : Int) ^ (k - 1) = H) (h1 : 1 ≤ H) (h2 : H ≤ 4611686018427387904) (hn0 : -9223372036854775808 ≤ n) (hn1 : n ≤ 9223372036854775807) (m e b f : Int)
    (HS : Hid (∀ w, Calls Try.prog 23 #[.int .i64 n, .int .i64 k] w fun x w' => x = .returned (.tuple #[.int .i64 m, .int .i64 e]) ∧ w = w'))
    (HD : Hid (∀ w, Calls Try.prog 24 #[.int .i64 n, .int .i64 k] w fun x w' => x = .returned (.tuple #[.int .i64 b, .int .i64 f]) ∧ w = w'))
    (hq : (n < -H ∧ m = 0 ∧ e = 11 ∧ b = 0 ∧ f = 11) ∨ (-H ≤ n ∧ n < 0 ∧ m = n + 2 * H ∧ e = 0 ∧ b = 0 ∧ f = 11) ∨ (0 ≤ n ∧ n < H ∧ m = n ∧ e = 0 ∧ b = n ∧ f = 0) ∨ (H ≤ n ∧ n < 2 * H ∧ m = 0 ∧ e = 11 ∧ b = n - H - H ∧ f = 0) ∨ (2 * H ≤ n ∧ m = 0 ∧ e = 11 ∧ b = 0 ∧ f = 11)) (w : World) :
    Calls Try.prog 6 #[.int .i64 n, .int .i64 k] w (Tr w) := by
  rcases hq with ⟨q1, rfl, rfl, rfl, rfl⟩ | ⟨q1, q2, rfl, rfl, rfl, rfl⟩ | ⟨q1, q2, rfl, rfl, rfl, rfl⟩ | ⟨q1, q2, rfl, rfl, rfl, rfl⟩ | ⟨q1, rfl, rfl, rfl, rfl⟩
  all_goals
    go_enter Try.func6, Try.ntmps6
    go_wp2_with (first
      | (go_at_call 23; refine (HS.out _).mono ?_; rintro e w' ⟨rfl, rfl⟩)
      | (go_at_call 24; refine (HD.out _).mono ?_; rintro e w' ⟨rfl, rfl⟩)
      | (go_at_call 25; refine (strung_any _).mono ?_; rintro e w' ⟨rfl, hb⟩))
    all_goals try (exfalso; omega)
    all_goals (go_ret; exact tr_of rfl hb)
theorem BitsSigns_walk (n k : Int) (w : World) (hn : (Lit.int .i64 n).wf = true) (hk : (Lit.int .i64 k).wf = true) : Calls Try.prog 6 #[.int .i64 n, .int .i64 k] w (Tr w) := by
  obtain ⟨n0, n1⟩ := i64_of_wf hn
  by_cases hb : k < 1 ∨ 63 < k
  · exact bs_bad n k hb w
  · obtain ⟨j, rfl⟩ : ∃ j : Nat, k = j := ⟨k.toNat, by omega⟩
    have h1 : 1 ≤ j := by omega
    have h2 : j ≤ 63 := by omega
    obtain ⟨H, hH, hK, g1, g2⟩ := half_exists j h1 h2
    by_cases c1 : n < -H
    · exact bs_case n j h1 h2 H hH g1 g2 n0 n1 0 11 0 11 (Lib.hid (sign_out n j h1 h2 H hH hK g1 g2 (by omega))) (Lib.hid (signed_out n j h1 h2 H hH hK g1 g2 (by omega))) (by omega) w
    · by_cases c2 : n < 0
      · have e : n % (2 * H) = n + 2 * H := by
          rw [← Int.add_emod_right, Int.emod_eq_of_lt (by omega) (by omega)]
        exact bs_case n j h1 h2 H hH g1 g2 n0 n1 (n + 2 * H) 0 0 11 (Lib.hid (e ▸ sign_in n j h1 h2 H hH hK g1 g2 (by omega) (by omega))) (Lib.hid (signed_out n j h1 h2 H hH hK g1 g2 (by omega))) (by omega) w
      · by_cases c3 : n < H
        · have e : n % (2 * H) = n := Int.emod_eq_of_lt (by omega) (by omega)
          have hs := sign_in n j h1 h2 H hH hK g1 g2 (by omega) (by omega)
          rw [e] at hs
          exact bs_case n j h1 h2 H hH g1 g2 n0 n1 n 0 n 0 (Lib.hid hs) (Lib.hid (signed_low n j h1 h2 H hH hK g1 g2 (by omega) (by omega))) (by omega) w
        · by_cases c4 : n < 2 * H
          · exact bs_case n j h1 h2 H hH g1 g2 n0 n1 0 11 (n - H - H) 0 (Lib.hid (sign_out n j h1 h2 H hH hK g1 g2 (by omega))) (Lib.hid (signed_high n j h1 h2 H hH hK g1 g2 (by omega) (by omega))) (by omega) w
          · exact bs_case n j h1 h2 H hH g1 g2 n0 n1 0 11 0 11 (Lib.hid (sign_out n j h1 h2 H hH hK g1 g2 (by omega))) (Lib.hid (signed_out n j h1 h2 H hH hK g1 g2 (by omega))) (by omega) w

end Go.Proofs.Ytilffmhmgoaejaa
