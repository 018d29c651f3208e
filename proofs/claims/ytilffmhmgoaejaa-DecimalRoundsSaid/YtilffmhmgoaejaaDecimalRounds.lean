/- The walk of the law DecimalRounds: at all numbers its call returns true. -/
import Derived.Test.YtilffmhmgoaejaaDecimal
namespace Go.Proofs.Ytilffmhmgoaejaa
open Go.RowKit
set_option linter.unusedVariables false
set_option linter.unusedSimpArgs false
theorem dr_law_bad (n f t : Int) (h : rndOk n f t = false) (w : World) : Calls Try.prog 4 #[.int .i64 n, .int .i64 f, .int .i64 t] w (Tr w) := by
  have h' : f < 0 ∨ 15 < f ∨ t < 0 ∨ 15 < t := by simp [rndOk] at h; omega
  have H := Lib.hid h
  clear h
  go_enter Try.func4, Try.ntmps4
  go_wp2_with (first | (go_at_call 15; refine (round_bad _ _ _ H.out _).mono ?_; rintro e w' ⟨rfl, rfl⟩) | (go_at_call 16; refine (numbered_any _).mono ?_; rintro e w' ⟨rfl, hb⟩))
  all_goals (try (exfalso; omega))
  all_goals (go_ret; exact tr_of rfl hb)
theorem dr_law_range (n f t : Int) (h : rndOk n f t = true) (hn : inI n = false) (w : World) : Calls Try.prog 4 #[.int .i64 n, .int .i64 f, .int .i64 t] w (Tr w) := by
  have h' : 0 ≤ f ∧ f ≤ 15 ∧ 0 ≤ t ∧ t ≤ 15 := by simpa [rndOk] using h
  have H := Lib.hid h
  have H2 := Lib.hid hn
  clear h
  obtain ⟨h1, h2, h3, h4⟩ := h'
  go_enter Try.func4, Try.ntmps4
  go_wp2_with (first | (go_at_call 15; refine (round_range _ _ _ H.out H2.out _).mono ?_; rintro e w' ⟨rfl, rfl⟩) | (go_at_call 16; refine (numbered_any _).mono ?_; rintro e w' ⟨rfl, hb⟩) | (go_at_call 17; refine (right_l _ _).mono ?_; rintro e w' ⟨rfl, rfl⟩))
  all_goals (try (exfalso; omega))
  all_goals (go_ret; exact tr_of rfl hb)
theorem dr_le_quo (n P : Int) (hP : 1 ≤ P) (h : inI (n * P) = true) : n ≤ 9007199254740992 / P ∧ -(9007199254740992 / P) ≤ n := by
  have := inI_t h
  constructor
  · exact (Int.le_ediv_iff_mul_le (by omega)).2 (by omega)
  · have : -n ≤ 9007199254740992 / P := (Int.le_ediv_iff_mul_le (by omega)).2 (by rw [Int.neg_mul]; omega)
    omega
theorem dr_gt_quo (n P : Int) (hP : 1 ≤ P) (h : inI (n * P) = false) : 9007199254740992 / P < n ∨ n < -(9007199254740992 / P) := by
  rcases inI_f h with h | h
  · right
    have : ¬ (-n ≤ 9007199254740992 / P) := fun g => by
      have := (Int.le_ediv_iff_mul_le (by omega)).1 g
      rw [Int.neg_mul] at this; omega
    omega
  · left
    have : ¬ (n ≤ 9007199254740992 / P) := fun g => by
      have := (Int.le_ediv_iff_mul_le (by omega)).1 g
      omega
    omega
theorem dr_quo_pos (P : Int) (hP : 1 ≤ P) : 0 ≤ 9007199254740992 / P ∧ 9007199254740992 / P ≤ 9007199254740992 := quo_bd _ _ (by omega) hP
theorem dr_ten_eq (x : Int) (k : Nat) (hx : x = k) (hk : k ≤ 15) (w : World) : Calls Try.prog 18 #[.int .i64 x] w fun e w' => e = .returned (.int .i64 (p10 k)) ∧ w = w' := by
  subst hx; exact ten_any k hk w
set_option maxHeartbeats 1000000 in
theorem dr_law_up (n : Int) (f d : Nat) (hd : f + d ≤ 15) (hn : inI n = true) (w : World) : Calls Try.prog 4 #[.int .i64 n, .int .i64 f, .int .i64 (f + d : Nat)] w (Tr w) := by
  have hn' := inI_t hn
  have H := Lib.hid hn
  have hb := p10_bd d (by omega)
  go_enter Try.func4, Try.ntmps4
  cases hI : inI (n * p10 d) with
  | true =>
    have hq := dr_le_quo _ _ hb.1 hI
    have hp := dr_quo_pos _ hb.1
    have hI' := inI_t hI
    have H1 := Lib.hid hI
    clear hI
    go_wp2_with (first | (go_at_call 15; refine (round_up n f d hd H.out _).mono ?_; rintro e w' ⟨rfl, ⟨_, rfl⟩ | ⟨hh, rfl⟩⟩) | (go_at_call 16; refine (numbered_any _).mono ?_; rintro e w' ⟨rfl, hb⟩) | (go_at_call 17; refine (right_l _ _).mono ?_; rintro e w' ⟨rfl, rfl⟩) | (go_at_call 18; refine (dr_ten_eq _ d (by omega) (by omega) _).mono ?_; rintro e w' ⟨rfl, rfl⟩))
    all_goals (try (exfalso; omega))
    all_goals (first | (exfalso; have := H1.out; simp_all; done) | (go_ret; exact tr_of rfl (by assumption)))
  | false =>
    have hq := dr_gt_quo _ _ hb.1 hI
    have hp := dr_quo_pos _ hb.1
    have H1 := Lib.hid hI
    clear hI
    go_wp2_with (first | (go_at_call 15; refine (round_up n f d hd H.out _).mono ?_; rintro e w' ⟨rfl, ⟨hh, rfl⟩ | ⟨hh, rfl⟩⟩) | (go_at_call 16; refine (numbered_any _).mono ?_; rintro e w' ⟨rfl, hb⟩) | (go_at_call 17; refine (right_l _ _).mono ?_; rintro e w' ⟨rfl, rfl⟩) | (go_at_call 18; refine (dr_ten_eq _ d (by omega) (by omega) _).mono ?_; rintro e w' ⟨rfl, rfl⟩))
    all_goals (try (exfalso; omega))
    all_goals (first | (exfalso; have := H1.out; simp_all; done) | (go_ret; exact tr_of rfl (by assumption)))

theorem rdn_facts (n : Int) (hn : inI n = true) : ∀ d : Nat, 1 ≤ d → d ≤ 15 → rdn n (p10 d) ≤ 9007199254740992 / p10 d + 1 ∧ -(9007199254740992 / p10 d) - 1 ≤ rdn n (p10 d) ∧
    -(p10 d) ≤ 2 * (n - rdn n (p10 d) * p10 d) ∧ 2 * (n - rdn n (p10 d) * p10 d) ≤ p10 d ∧ (2 * (n - rdn n (p10 d) * p10 d) = p10 d → n < 0) ∧ (2 * (n - rdn n (p10 d) * p10 d) = -(p10 d) → 0 < n) ∧ -9007199254740992 ≤ rdn n (p10 d) ∧ rdn n (p10 d) ≤ 9007199254740992 := by
  have hn' := inI_t hn
  intro d h1 h2
  have hd : d = 1 ∨ d = 2 ∨ d = 3 ∨ d = 4 ∨ d = 5 ∨ d = 6 ∨ d = 7 ∨ d = 8 ∨ d = 9 ∨ d = 10 ∨ d = 11 ∨ d = 12 ∨ d = 13 ∨ d = 14 ∨ d = 15 := by omega
  rcases hd with rfl | rfl | rfl | rfl | rfl | rfl | rfl | rfl | rfl | rfl | rfl | rfl | rfl | rfl | rfl <;>
    simp only [p10, rdn] <;> split <;> omega
set_option maxHeartbeats 1000000 in
theorem dr_law_down (n : Int) (t d : Nat) (hd : t + d ≤ 15) (h1 : 1 ≤ d) (hn : inI n = true) (w : World) : Calls Try.prog 4 #[.int .i64 n, .int .i64 (t + d : Nat), .int .i64 t] w (Tr w) := by
  have hn' := inI_t hn
  have H := Lib.hid hn
  have hb := p10_bd d (by omega)
  have hp := dr_quo_pos _ hb.1
  obtain ⟨f1, f2, f3, f4, f5, f6, f7, f8⟩ := rdn_facts n hn d h1 (by omega)
  have HC := Lib.hid (round_down n t d hd hn)
  generalize hM : rdn n (p10 d) = M at *
  generalize hP : p10 d = P at *
  have HP := Lib.hid hP
  have F5 := Lib.hid f5
  have F6 := Lib.hid f6
  have g1 : -9007199254740992 - P ≤ M * P := by omega
  have g2 : M * P ≤ 9007199254740992 + P := by omega
  have HI : Hid (inI M = true) := by show _ = _; simp [inI]; omega
  clear hP hM f5 f6
  go_enter Try.func4, Try.ntmps4
  go_wp2_with (first | (go_at_call 15; refine (HC.out _).mono ?_; rintro e w' ⟨rfl, rfl⟩) | (go_at_call 16; refine (numbered_any _).mono ?_; rintro e w' ⟨rfl, hb⟩) | (go_at_call 17; refine (right_l _ _).mono ?_; rintro e w' ⟨rfl, rfl⟩) | (go_at_call 18; refine (dr_ten_eq _ 0 (by omega) (by omega) _).mono ?_; rintro e w' ⟨rfl, rfl⟩) | (go_at_call 18; refine (dr_ten_eq _ d (by omega) (by omega) _).mono ?_; rw [HP.out]; rintro e w' ⟨rfl, rfl⟩))
  all_goals (try (exfalso; omega))
  all_goals (go_ret; refine tr_of ?_ (by assumption))
  all_goals (first | exact HI.out | (exfalso; have q5 := F5.out; have q6 := F6.out; omega))

theorem DecimalRounds_walk (n f t : Int) (w : World) (hn : (Lit.int .i64 n).wf = true) (hf : (Lit.int .i64 f).wf = true) (ht : (Lit.int .i64 t).wf = true) : Calls Try.prog 4 #[.int .i64 n, .int .i64 f, .int .i64 t] w (Tr w) := by
  cases h : rndOk n f t with
  | false => exact dr_law_bad n f t h w
  | true =>
    cases hI : inI n with
    | false => exact dr_law_range n f t h hI w
    | true =>
      have h' : 0 ≤ f ∧ f ≤ 15 ∧ 0 ≤ t ∧ t ≤ 15 := by simpa [rndOk] using h
      by_cases hle : f ≤ t
      · have := dr_law_up n f.toNat (t.toNat - f.toNat) (by omega) hI w
        rw [show ((f.toNat : Int)) = f by omega, show ((f.toNat + (t.toNat - f.toNat) : Nat) : Int) = t by omega] at this
        exact this
      · have := dr_law_down n t.toNat (f.toNat - t.toNat) (by omega) (by omega) hI w
        rw [show ((t.toNat : Int)) = t by omega, show ((t.toNat + (f.toNat - t.toNat) : Nat) : Int) = f by omega] at this
        exact this
end Go.Proofs.Ytilffmhmgoaejaa
