/- Contracts of day.Of and of the reference's Counted. -/
import Derived.Test.YtnbdmmepdmmbmaaDoorDayBase
namespace Go.Proofs.YtnbdmmepdmmbmaaDoor
open Go.RowKit
set_option linter.unusedVariables false
set_option linter.unusedSimpArgs false
/-- The days of the first k months. -/
def sumM (y : Int) : Nat → Int
  | 0 => 0
  | k + 1 => sumM y k + months y (k + 1 : Nat)
theorem sumM_bd (y : Int) : ∀ k, 0 ≤ sumM y k ∧ sumM y k ≤ 31 * k
  | 0 => by simp [sumM]
  | k + 1 => by
    have h1 := sumM_bd y k
    have h2 := months_bd y (k + 1 : Nat)
    unfold sumM; omega
theorem sumM_step (y : Int) (j : Nat) (h : 1 ≤ j) : sumM y j = sumM y (j - 1) + months y j := by
  obtain ⟨k, rfl⟩ : ∃ k, j = k + 1 := ⟨j - 1, by omega⟩
  rfl
theorem bef_bd (y : Int) (h1 : 1 ≤ y) (h2 : y ≤ 100000) : 0 ≤ bef y ∧ bef y ≤ 40000000 ∧ 365 * (y - 1) ≤ bef y := by unfold bef; omega
theorem months_in (y m : Int) (h : 1 ≤ months y m) : ∃ j : Nat, m = j ∧ 1 ≤ j ∧ j ≤ 12 := by
  by_cases q : m < 1 ∨ 12 < m
  · unfold months at h; rw [if_pos q] at h; omega
  · exact ⟨m.toNat, by omega, by omega, by omega⟩
/-- The day of a date. -/
def cnt (y : Int) (j : Nat) (k : Int) : Int := bef y + k - 1 + sumM y (j - 1)
def OfP (n f : Int) (w : World) (e : Ending) (w' : World) : Prop := e = .returned (.tuple #[.int .i64 n, .int .i64 f]) ∧ w' = w
set_option maxHeartbeats 2000000 in
theorem of_bad (y m k : Int) (w : World) (h : y < 1 ∨ 20000 < y ∨ k < 1 ∨ months y m < k) : Calls Tryd.prog 27 #[.int .i64 y, .int .i64 m, .int .i64 k] w (OfP 0 11 w) := by
  go_enter Tryd.func27, Tryd.ntmps27
  go_wp2_with (go_at_call 26; refine (months_any y m _).mono ?_; rintro e w1 ⟨rfl, hw⟩; subst w1)
  all_goals try (exfalso; omega)
  all_goals (go_ret2; exact ⟨rfl, rfl⟩)
set_option maxHeartbeats 2000000 in
theorem of_good (y k : Int) (m : Nat) (w : World) (h1 : 1 ≤ y) (h2 : y ≤ 20000) (h3 : 1 ≤ k) (h4 : k ≤ months y m) (h5 : 1 ≤ m) (h6 : m ≤ 12) (n f : Int)
    (hn : (4194304 < cnt y m k ∧ n = 0 ∧ f = 11) ∨ (cnt y m k ≤ 4194304 ∧ n = cnt y m k ∧ f = 0)) :
    Calls Tryd.prog 27 #[.int .i64 y, .int .i64 m, .int .i64 k] w (OfP n f w) := by
  obtain ⟨b0, b1, b2⟩ := bef_bd y h1 (by omega)
  have hm := months_bd y m
  unfold cnt at hn
  have HN := Lib.hid hn
  clear hn
  generalize hB : bef y = B at *
  go_enter Tryd.func27, Tryd.ntmps27
  go_wp2_with (first
    | (go_at_call 26; refine (months_any y m _).mono ?_; rintro e w1 ⟨rfl, hw⟩; subst w1)
    | (go_at_call 61; refine (before_any y _ h1 (by omega)).mono ?_; rw [hB]; rintro e w1 ⟨rfl, hw⟩; subst w1))
  all_goals try (exfalso; omega)
  go_loopw [8, 9] (fun n mm wr => ∃ j : Nat, 1 ≤ j ∧ j ≤ m ∧ mm = .int .i64 j ∧ n = .int .i64 (B + k - 1 + sumM y (j - 1)) ∧ wr = w) (fun _ mm _ => m - (intOf mm).toNat)
  case atStart => exact ⟨1, by omega, h5, rfl, by simp [sumM], rfl⟩
  case round =>
    obtain ⟨j, hj1, hj2, rfl, rfl, rfl⟩ := hrel
    have hs := sumM_bd y (j - 1)
    have hs2 := sumM_step y j hj1
    have hmj := months_bd y j
    by_cases hlt : j < m
    · go_wp2_with (go_at_call 26; refine (months_any y j _).mono ?_; rintro e w1 ⟨rfl, hw⟩; subst w1)
      go_roundw
      case rel => exact ⟨j + 1, by omega, by omega, by go_num, by rw [Nat.add_sub_cancel, hs2]; congr 1; omega, by first | rfl | trivial⟩
      case measure => simp [intOf]; omega
    · obtain rfl : j = m := by omega
      have HM := Lib.hid hs2
      clear hs2
      obtain ⟨q, hq⟩ : ∃ q, q = B + k - 1 + sumM y (j - 1) := ⟨_, rfl⟩
      have HN' : (4194304 < q ∧ n = 0 ∧ f = 11) ∨ (q ≤ 4194304 ∧ n = q ∧ f = 0) := by rw [hq]; exact HN.out
      rw [← hq]
      have HNN := Lib.hid HN'
      clear HN'
      go_wp2
      all_goals
        go_ret2
        have := HNN.out
        refine ⟨ret_ii ?_ ?_, by first | rfl | trivial⟩ <;> omega
set_option maxHeartbeats 2000000 in
theorem counted_any (y k : Int) (m : Nat) (w : World) (h1 : 1 ≤ y) (h2 : y ≤ 20000) (h3 : 1 ≤ k) (h4 : k ≤ 31) (h5 : 1 ≤ m) (h6 : m ≤ 12) :
    Calls Tryd.prog 28 #[.int .i64 y, .int .i64 m, .int .i64 k] w fun e w' => e = .returned (.int .i64 (cnt y m k)) ∧ Below w.heap.size w w' := by
  obtain ⟨b0, b1, b2⟩ := bef_bd y h1 (by omega)
  obtain ⟨u, hu⟩ : ∃ u : Int, u = y - 1 := ⟨_, rfl⟩
  have t1 : u.tdiv 400 = u / 400 := Int.tdiv_eq_ediv_of_nonneg (by omega)
  have t2 : u.tmod 400 = u % 400 := Int.tmod_eq_emod_of_nonneg (by omega)
  have t3 : u.tmod 100 = u % 100 := Int.tmod_eq_emod_of_nonneg (by omega)
  have t4 : u.tmod 4 = u % 4 := Int.tmod_eq_emod_of_nonneg (by omega)
  have t5 : (u % 400).tdiv 100 = u % 400 / 100 := Int.tdiv_eq_ediv_of_nonneg (by omega)
  have t6 : (u % 100).tdiv 4 = u % 100 / 4 := Int.tdiv_eq_ediv_of_nonneg (by omega)
  have hV : u / 400 * 146097 + u % 400 / 100 * 36524 + u % 100 / 4 * 1461 + u % 4 * 365 = bef y := by unfold bef; rw [hu]; omega
  have hw : IntKind.i64.wrap (y - 1) = u := by rw [IntWalk.i64_in _ (by omega)]; omega
  have hu0 : 0 ≤ u := by omega
  have hu1 : u ≤ 20000 := by omega
  have HU := Lib.hid hu
  have HV := Lib.hid hV
  clear hu hV
  unfold cnt
  generalize hB : bef y = B at *
  go_enter Tryd.func28, Tryd.ntmps28
  go_wp2
  go_loopw [8, 9] (fun n mm wr => ∃ j : Nat, 1 ≤ j ∧ j ≤ m ∧ mm = .int .i64 j ∧ n = .int .i64 (B + sumM y (j - 1)) ∧ Below w.heap.size w wr) (fun _ mm _ => m - (intOf mm).toNat)
  case atStart =>
    refine ⟨1, by omega, h5, rfl, ?_, Below.refl _ _⟩
    congr 1; have := HV.out; simp [sumM]; omega
  case round =>
    obtain ⟨j, hj1, hj2, rfl, rfl, hb⟩ := hrel
    have hs := sumM_bd y (j - 1)
    have hs2 := sumM_step y j hj1
    have hmj := months_bd y j
    by_cases hlt : j < m
    · go_wp2_with (go_at_call 25; refine (length_any y j _).mono ?_; rintro e w1 ⟨rfl, hb1⟩)
      go_roundw
      case rel => exact ⟨j + 1, by omega, by omega, by go_num, by rw [Nat.add_sub_cancel, hs2]; congr 1; omega, blw_then hb hb1⟩
      case measure => simp [intOf]; omega
    · obtain rfl : j = m := by omega
      go_wp2
      go_ret
      exact ⟨ret_int (by omega), hb⟩
end Go.Proofs.YtnbdmmepdmmbmaaDoor
