/- Contracts of package decimal and of the fact 'numbered', for the law DecimalRounds: what Round returns, at every call. -/
import Derived.Test.YtilffmhmgoaejaaAid
namespace Go.Proofs.Ytilffmhmgoaejaa
open Go.RowKit
set_option linter.unusedVariables false
set_option linter.unusedSimpArgs false
def inI (n : Int) : Bool := decide (-9007199254740992 ≤ n ∧ n ≤ 9007199254740992)
theorem inI_t {n : Int} (h : inI n = true) : -9007199254740992 ≤ n ∧ n ≤ 9007199254740992 := by simpa [inI] using h
theorem inI_f {n : Int} (h : inI n = false) : n < -9007199254740992 ∨ 9007199254740992 < n := by simp [inI] at h; omega
theorem right_l (n : Int) (w : World) : Calls Try.prog 17 #[.int .i64 n] w fun e w' => e = .returned (.bool (inI n)) ∧ w = w' := by
  go_enter Try.func17, Try.ntmps17
  go_wp2
  all_goals
    go_ret
    exact ⟨ret_bool (by simp [inI, *] <;> omega), rfl⟩
theorem right_d (n : Int) (w : World) : Calls Try.prog 66 #[.int .i64 n] w fun e w' => e = .returned (.bool (inI n)) ∧ w = w' := by
  go_enter Try.func66, Try.ntmps66
  go_wp2
  all_goals
    go_ret
    exact ⟨ret_bool (by simp [inI, *] <;> omega), rfl⟩
def p10 : Nat → Int
  | 0 => 1
  | k + 1 => 10 * p10 k
theorem p10_bd : ∀ k : Nat, k ≤ 15 → 1 ≤ p10 k ∧ p10 k ≤ 1000000000000000
  | 0, _ => by decide
  | 1, _ => by decide
  | 2, _ => by decide
  | 3, _ => by decide
  | 4, _ => by decide
  | 5, _ => by decide
  | 6, _ => by decide
  | 7, _ => by decide
  | 8, _ => by decide
  | 9, _ => by decide
  | 10, _ => by decide
  | 11, _ => by decide
  | 12, _ => by decide
  | 13, _ => by decide
  | 14, _ => by decide
  | 15, _ => by decide
  | k + 16, h => by omega
theorem ten_any (k : Nat) (hk : k ≤ 15) (w : World) : Calls Try.prog 18 #[.int .i64 k] w fun e w' => e = .returned (.int .i64 (p10 k)) ∧ w = w' := by
  go_enter Try.func18, Try.ntmps18
  go_wp2
  go_loop [3, 5] (fun o i => ∃ j : Nat, j ≤ k ∧ i = .int .i64 j ∧ o = .int .i64 (p10 j)) (fun _ i => k - (intOf i).toNat)
  case atStart => exact ⟨0, Nat.zero_le _, rfl, rfl⟩
  case round =>
    obtain ⟨j, hj, rfl, rfl⟩ := hrel
    by_cases hlt : j < k
    · have hb := p10_bd j (by omega)
      go_wp2
      go_round
      case rel => exact ⟨j + 1, by omega, by go_num, by rw [p10]; exact congrArg _ (by omega)⟩
      case measure => simp [intOf]; omega
    · go_wp2
      go_ret
      have : j = k := by omega
      subst this
      exact ⟨rfl, rfl⟩

/-- What Round returns. -/
def rndOk (n f t : Int) : Bool := decide (0 ≤ f ∧ f ≤ 15 ∧ 0 ≤ t ∧ t ≤ 15)
theorem round_bad (n f t : Int) (h : rndOk n f t = false) (w : World) : Calls Try.prog 15 #[.int .i64 n, .int .i64 f, .int .i64 t] w fun e w' => e = .returned (.tuple #[.int .i64 0, .int .i64 1]) ∧ w = w' := by
  have h' : f < 0 ∨ 15 < f ∨ t < 0 ∨ 15 < t := by simp [rndOk] at h; omega
  clear h
  go_enter Try.func15, Try.ntmps15
  go_wp2_with (first | (go_at_call 66; refine (right_d _ _).mono ?_; rintro e w' ⟨rfl, rfl⟩))
  all_goals (first | (exfalso; omega) | (go_ret2; exact ⟨rfl, rfl⟩))
theorem round_range (n f t : Int) (h : rndOk n f t = true) (hn : inI n = false) (w : World) : Calls Try.prog 15 #[.int .i64 n, .int .i64 f, .int .i64 t] w fun e w' => e = .returned (.tuple #[.int .i64 0, .int .i64 11]) ∧ w = w' := by
  have h' : 0 ≤ f ∧ f ≤ 15 ∧ 0 ≤ t ∧ t ≤ 15 := by simpa [rndOk] using h
  clear h
  obtain ⟨h1, h2, h3, h4⟩ := h'
  go_enter Try.func15, Try.ntmps15
  go_wp2_with (first | (go_at_call 66; refine (right_d _ _).mono ?_; rintro e w' ⟨rfl, rfl⟩))
  all_goals (first | (exfalso; omega) | (go_ret2; exact ⟨rfl, rfl⟩))

def Up (n : Int) (d : Nat) (w : World) (e : Ending) (w' : World) : Prop :=
  w = w' ∧ ((inI (n * p10 d) = true ∧ e = .returned (.tuple #[.int .i64 (n * p10 d), .int .i64 0])) ∨ (inI (n * p10 d) = false ∧ e = .returned (.tuple #[.int .i64 0, .int .i64 11])))
theorem p10_le (n : Int) (i d : Nat) (hid : i ≤ d) (h : inI (n * p10 i) = false) : inI (n * p10 d) = false := by
  induction d with
  | zero => obtain rfl : i = 0 := by omega
            exact h
  | succ d ih =>
    by_cases e : i = d + 1
    · exact e ▸ h
    · have := inI_f (ih (by omega))
      have e : n * p10 (d + 1) = 10 * (n * p10 d) := by rw [p10]; rw [Int.mul_left_comm]
      rw [e]
      simp [inI]; omega
theorem p10_up (n : Int) (d : Nat) : n * p10 (d + 1) = n * p10 d * 10 := by rw [p10, Int.mul_left_comm, Int.mul_comm]
theorem quo_bd (x P : Int) (hx : 0 ≤ x) (hP : 1 ≤ P) : 0 ≤ x / P ∧ x / P ≤ x := ⟨Int.ediv_nonneg hx (by omega), Int.ediv_le_self _ hx⟩
set_option maxHeartbeats 1000000 in
theorem round_up (n : Int) (f d : Nat) (hd : f + d ≤ 15) (hn : inI n = true) (w : World) : Calls Try.prog 15 #[.int .i64 n, .int .i64 f, .int .i64 (f + d : Nat)] w (Up n d w) := by
  have hn' := inI_t hn
  go_enter Try.func15, Try.ntmps15
  go_wp2_with (first | (go_at_call 66; refine (right_d _ _).mono ?_; rintro e w' ⟨rfl, rfl⟩))
  all_goals (try (exfalso; omega))
  go_loop [0, 1] (fun m i => ∃ j : Nat, j ≤ d ∧ i = .int .i64 (f + j : Nat) ∧ inI (n * p10 j) = true ∧ m = .int .i64 (n * p10 j)) (fun _ i => f + d - (intOf i).toNat)
  case atStart => exact ⟨0, Nat.zero_le _, by simp, by simpa [p10] using hn, by simp [p10]⟩
  case round =>
    obtain ⟨j, hj, rfl, hI, rfl⟩ := hrel
    have hI' := inI_t hI
    by_cases hlt : j < d
    · have hu := p10_up n j
      cases hnext : inI (n * p10 (j + 1)) with
      | true =>
        have hN := hnext
        rw [hu] at hN
        have HU : Hid (n * p10 (j + 1) = n * p10 j * 10) := hu
        have HX : Hid (inI (n * p10 (j + 1)) = true) := hnext
        clear hu hnext
        go_wp2_with (first | (go_at_call 66; refine (right_d _ _).mono ?_; rintro e w' ⟨rfl, rfl⟩))
        go_round
        case rel => exact ⟨j + 1, by omega, by go_num, HX.out, by rw [HU.out]⟩
        case measure => simp [intOf]; omega
      | false =>
        have hN := hnext
        rw [hu] at hN
        have HX := Lib.hid (p10_le n (j + 1) d (by omega) hnext)
        clear hu hnext
        go_wp2_with (first | (go_at_call 66; refine (right_d _ _).mono ?_; rintro e w' ⟨rfl, rfl⟩))
        go_ret2
        exact ⟨rfl, .inr ⟨HX.out, rfl⟩⟩
    · obtain rfl : j = d := by omega
      go_wp2
      go_rounds 1
      all_goals (try (exfalso; omega))
      all_goals (go_ret2; exact ⟨rfl, .inl ⟨hI, ret_ii rfl rfl⟩⟩)
/-- What Round makes of n where digits go; P is a power of 10. -/
def rdn (n P : Int) : Int := if n < 0 then -((-n + P / 2) / P) else (n + P / 2) / P
set_option maxHeartbeats 1000000 in
theorem round_down (n : Int) (t d : Nat) (hd : t + d ≤ 15) (hn : inI n = true) (w : World) : Calls Try.prog 15 #[.int .i64 n, .int .i64 (t + d : Nat), .int .i64 t] w fun e w' => e = .returned (.tuple #[.int .i64 (rdn n (p10 d)), .int .i64 0]) ∧ w = w' := by
  have hn' := inI_t hn
  go_enter Try.func15, Try.ntmps15
  go_wp2_with (first | (go_at_call 66; refine (right_d _ _).mono ?_; rintro e w' ⟨rfl, rfl⟩))
  all_goals (try (exfalso; omega))
  refine wp_loop_rounds 1 ?_
  rw [rounds_succ]
  go_wp2
  all_goals (try (exfalso; omega))
  go_loop [8, 1] (fun b i => ∃ j : Nat, j ≤ d ∧ i = .int .i64 (t + (d - j : Nat) : Nat) ∧ b = .int .i64 (p10 j)) (fun _ i => (intOf i).toNat)
  case atStart => exact ⟨0, Nat.zero_le _, by simp, rfl⟩
  case round =>
    obtain ⟨j, hj, rfl, rfl⟩ := hrel
    have hb := p10_bd j (by omega)
    by_cases hlt : j < d
    · go_wp2
      all_goals (try (exfalso; omega))
      go_round
      case rel => exact ⟨j + 1, by omega, by rw [show t + (d - (j + 1)) = t + (d - j) - 1 by omega]; exact congrArg _ (by omega), by rw [p10]; exact congrArg _ (by omega)⟩
      case measure => simp [intOf]; omega
    · obtain rfl : j = d := by omega
      go_wp2
      all_goals (try (exfalso; omega))
      all_goals (go_ret2; refine ⟨ret_ii ?_ rfl, rfl⟩)
      all_goals (unfold rdn; (first | rw [if_pos (by assumption)] | rw [if_neg (by omega)]); have HA := quo_bd (if n < 0 then -n + p10 j / 2 else n + p10 j / 2) (p10 j) (by split <;> omega) hb.1; (first | rw [if_pos (by assumption)] at HA | rw [if_neg (by omega)] at HA); (first | exact wrap_in (by omega) (by omega)))

set_option maxRecDepth 100000 in
theorem numbered_any (w : World) : Calls Try.prog 16 #[] w fun e w' => e = .returned (.bool true) ∧ Below w.heap.size w w' := by
  go_enter Try.func16, Try.ntmps16
  go_wp2
  go_rounds 3
  rw [run_convert_bytes_arg (P := Try.prog) _ 65 5 rfl rfl _ _ 2 _ [102, 102] rfl (by intro i hi; (rcases i with _|_|i) <;> first | (exfalso; omega) | (simp; rfl)) 9 rfl]
  go_wp2
  all_goals go_ret
  exact ⟨ret_bool (by decide +kernel), by go_grown⟩
end Go.Proofs.Ytilffmhmgoaejaa
