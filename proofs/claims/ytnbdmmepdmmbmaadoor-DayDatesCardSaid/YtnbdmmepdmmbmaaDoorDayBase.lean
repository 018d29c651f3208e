/- Contracts of day.Leap, day.Months, day.before and of the reference's Length. -/
import Derived.Test.YtnbdmmepdmmbmaaDoorAid
namespace Go.Proofs.YtnbdmmepdmmbmaaDoor
open Go.RowKit
set_option linter.unusedVariables false
set_option linter.unusedSimpArgs false
def leap (y : Int) : Bool := (y % 4 == 0 && y % 100 != 0) || y % 400 == 0
def months (y m : Int) : Int := if m < 1 ∨ 12 < m then 0 else if m = 2 then (if leap y then 29 else 28) else if m = 4 ∨ m = 6 ∨ m = 9 ∨ m = 11 then 30 else 31
def bef (y : Int) : Int := 365 * (y - 1) + (y - 1) / 4 - (y - 1) / 100 + (y - 1) / 400
theorem tmod0 (y n : Int) : (y.tmod n == 0) = (y % n == 0) := by
  rw [Bool.eq_iff_iff, beq_iff_eq, beq_iff_eq, ← Int.dvd_iff_tmod_eq_zero, Int.dvd_iff_emod_eq_zero]
theorem months_bd (y m : Int) : 0 ≤ months y m ∧ months y m ≤ 31 := by unfold months; repeat' split <;> omega
set_option maxHeartbeats 1000000 in
theorem leap_any (y : Int) (w : World) : Calls Tryd.prog 24 #[.int .i64 y] w fun e w' => e = .returned (.bool (leap y)) ∧ w' = w := by
  have e4 := tmod0 y 4
  have e100 := tmod0 y 100
  have e400 := tmod0 y 400
  have e102 : (y % 100 != 0) = !(y % 100 == 0) := rfl
  unfold leap
  cases h4 : (y % 4 == 0) <;> cases h100 : (y % 100 == 0) <;> cases h400 : (y % 400 == 0) <;> (rw [h4] at e4; rw [h100] at e100 e102; rw [h400] at e400)
  all_goals
    have e101 : (y.tmod 100 != 0) = !(y.tmod 100 == 0) := rfl
    rw [e100] at e101
    rw [e102]
    clear e102
    go_enter Tryd.func24, Tryd.ntmps24
    go_wp2
    go_ret
    exact ⟨rfl, rfl⟩
theorem months_cases (m : Int) : (m < 1 ∨ 12 < m) ∨ m = 1 ∨ m = 2 ∨ m = 3 ∨ m = 4 ∨ m = 5 ∨ m = 6 ∨ m = 7 ∨ m = 8 ∨ m = 9 ∨ m = 10 ∨ m = 11 ∨ m = 12 := by omega
set_option maxHeartbeats 2000000 in
theorem months_any (y m : Int) (w : World) : Calls Tryd.prog 26 #[.int .i64 y, .int .i64 m] w fun e w' => e = .returned (.int .i64 (months y m)) ∧ w' = w := by
  rcases months_cases m with h | h
  · have e : months y m = 0 := by unfold months; rw [if_pos h]
    rw [e]
    go_enter Tryd.func26, Tryd.ntmps26
    go_wp2
    all_goals try (exfalso; omega)
    all_goals (go_ret; exact ⟨rfl, rfl⟩)
  · by_cases h2 : m = 2
    · subst h2
      have e : months y 2 = if leap y then 29 else 28 := rfl
      rw [e]
      clear e h
      cases hl : leap y
      all_goals
        go_enter Tryd.func26, Tryd.ntmps26
        go_wp2_with (go_at_call 24; refine (leap_any y _).mono ?_; rw [hl]; rintro e w1 ⟨rfl, rfl⟩)
        go_ret
        exact ⟨rfl, rfl⟩
    · rcases h with rfl | rfl | rfl | rfl | rfl | rfl | rfl | rfl | rfl | rfl | rfl | rfl
      all_goals first | (exact absurd rfl h2) | skip
      all_goals
        go_enter Tryd.func26, Tryd.ntmps26
        go_wp2
        go_ret
        exact ⟨rfl, rfl⟩
theorem leap_alt (y : Int) : leap y = (y % 4 == 0 && (y % 400 == 0 || y % 100 != 0)) := by
  unfold leap
  cases h4 : (y % 4 == 0) <;> cases h100 : (y % 100 == 0) <;> cases h400 : (y % 400 == 0) <;> simp [bne, h100]
  all_goals (simp at h4 h100 h400; omega)
set_option maxHeartbeats 4000000 in
theorem length_any (y m : Int) (w : World) : Calls Tryd.prog 25 #[.int .i64 y, .int .i64 m] w fun e w' => e = .returned (.int .i64 (months y m)) ∧ Below w.heap.size w w' := by
  rcases months_cases m with h | h
  · have e : months y m = 0 := by unfold months; rw [if_pos h]
    rw [e]
    go_enter Tryd.func25, Tryd.ntmps25
    go_wp2
    all_goals try (exfalso; omega)
    all_goals (go_ret; exact ⟨rfl, Below.refl _ _⟩)
  · by_cases h2 : m = 2
    · subst h2
      have e : months y 2 = if leap y then 29 else 28 := rfl
      rw [e, leap_alt]
      clear e h
      have e4 := tmod0 y 4
      have e100 := tmod0 y 100
      have e400 := tmod0 y 400
      have e102 : (y % 100 != 0) = !(y % 100 == 0) := rfl
      cases h4 : (y % 4 == 0) <;> cases h100 : (y % 100 == 0) <;> cases h400 : (y % 400 == 0) <;> (rw [h4] at e4; rw [h100] at e100 e102; rw [h400] at e400)
      all_goals
        have e101 : (y.tmod 100 != 0) = !(y.tmod 100 == 0) := rfl
        rw [e100] at e101
        rw [e102]
        clear e102
        go_enter Tryd.func25, Tryd.ntmps25
        go_wp2
        go_ret
        exact ⟨rfl, blw_alloc (Below.refl _ _) _⟩
    · rcases h with rfl | rfl | rfl | rfl | rfl | rfl | rfl | rfl | rfl | rfl | rfl | rfl
      all_goals first | (exact absurd rfl h2) | skip
      all_goals
        go_enter Tryd.func25, Tryd.ntmps25
        go_wp2
        go_ret
        exact ⟨rfl, blw_alloc (Below.refl _ _) _⟩
set_option maxHeartbeats 1000000 in
theorem before_any (y : Int) (w : World) (h1 : 1 ≤ y) (h2 : y ≤ 100000) : Calls Tryd.prog 61 #[.int .i64 y] w fun e w' => e = .returned (.int .i64 (bef y)) ∧ w' = w := by
  unfold bef
  have t4 : (y - 1).tdiv 4 = (y - 1) / 4 := Int.tdiv_eq_ediv_of_nonneg (by omega)
  have t100 : (y - 1).tdiv 100 = (y - 1) / 100 := Int.tdiv_eq_ediv_of_nonneg (by omega)
  have t400 : (y - 1).tdiv 400 = (y - 1) / 400 := Int.tdiv_eq_ediv_of_nonneg (by omega)
  go_enter Tryd.func61, Tryd.ntmps61
  go_wp2
  go_ret
  refine ⟨?_, rfl⟩
  refine ret_int ?_
  simp only [t4, t100, t400]
def fitD (d : Int) : Int := if d < 0 then 0 else if 4194304 < d then 4194304 else d
set_option maxHeartbeats 1000000 in
theorem fit_any (d : Int) (w : World) : Calls Tryd.prog 62 #[.int .i64 d] w fun e w' => e = .returned (.int .i64 (fitD d)) ∧ w' = w := by
  unfold fitD
  go_enter Tryd.func62, Tryd.ntmps62
  go_wp2
  all_goals
    go_ret
    refine ⟨ret_int ?_, rfl⟩
    first | rfl | (repeat' split) <;> omega
end Go.Proofs.YtnbdmmepdmmbmaaDoor
