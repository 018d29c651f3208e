/- The walk of the law FloatNexts: at all bits its call returns true. -/
import Derived.Test.YtilffmhmgoaejaaFloat
namespace Go.Proofs.Ytilffmhmgoaejaa
open Go.RowKit
set_option linter.unusedVariables false
set_option linter.unusedSimpArgs false
theorem place_pos (b : Int) (h : 0 ≤ b) (w : World) : Calls Try.prog 22 #[.int .i64 b] w fun e w' => e = .returned (.int .i64 b) ∧ w = w' := by
  go_enter Try.func22, Try.ntmps22
  go_wp2
  go_ret
  exact ⟨rfl, rfl⟩
theorem place_neg (b : Int) (h : b < 0) (h0 : -9223372036854775808 ≤ b) (w : World) : Calls Try.prog 22 #[.int .i64 b] w fun e w' => e = .returned (.int .i64 (-9223372036854775808 - b)) ∧ w = w' := by
  go_enter Try.func22, Try.ntmps22
  go_wp2
  go_ret
  exact ⟨ret_int (by first | omega | (unfold wrap64; omega)), rfl⟩
theorem next_at {b x y : Int} {up : Bool} (h : nextR b up = (x, y)) (h0 : -9223372036854775808 ≤ b) (h1 : b ≤ 9223372036854775807) (w : World) : Calls Try.prog 19 #[.int .i64 b, .bool up] w fun e w' => e = .returned (.tuple #[.int .i64 x, .int .i64 y]) ∧ w = w' :=
  (next_any b up h0 h1 w).mono fun e w' ⟨he, hw⟩ => ⟨by rw [he, h], hw⟩
theorem fkind_small (b : Int) (h0 : -9223372036854775808 ≤ b) (h1 : b ≤ 9223372036854775807) : ¬ 3 ≤ fkind b ↔ (b < 0 ∧ b ≤ -4503599627370497) ∨ (0 ≤ b ∧ b ≤ 9218868437227405311) := by
  rw [fkind_big]; unfold fexp; omega
theorem nlaw_bad (b : Int) (up : Bool) (h0 : -9223372036854775808 ≤ b) (h1 : b ≤ 9223372036854775807) (hk : 3 ≤ fkind b) (w : World) : Calls Try.prog 5 #[.int .i64 b, .bool up] w (Tr w) := by
  have HN := Lib.hid (next_at (x := 0) (y := 11) (up := up) (by unfold nextR; rw [if_pos hk]) h0 h1)
  go_enter Try.func5, Try.ntmps5
  go_wp2_with (first | (go_at_call 19; refine (HN.out _).mono ?_; rintro e w' ⟨rfl, rfl⟩) | (go_at_call 20; refine (floats_any _).mono ?_; rintro e w' ⟨rfl, rfl⟩) | (go_at_call 21; refine (sort_any _ (by omega) (by omega) _).mono ?_; rintro e w' ⟨rfl, rfl⟩))
  go_ret
  exact tr_of rfl (Below.refl _ _)
theorem next_z (b : Int) (up : Bool) (h : b = 0 ∨ b = -9223372036854775808) : nextR b up = if up then (1, 0) else (-9223372036854775807, 0) := by
  unfold nextR; rw [if_neg ((fkind_small b (by omega) (by omega)).2 (by omega)), if_pos h]
theorem next_inc (b : Int) (up : Bool) (h0 : -9223372036854775808 ≤ b) (h1 : b ≤ 9223372036854775807) (hk : (b < 0 ∧ b ≤ -4503599627370497) ∨ (0 ≤ b ∧ b ≤ 9218868437227405311)) (h : ¬ (b = 0 ∨ b = -9223372036854775808)) (hd : decide (0 < b) = up) : nextR b up = if 3 ≤ fkind (b + 1) then (0, 11) else (b + 1, 0) := by
  unfold nextR; rw [if_neg ((fkind_small b h0 h1).2 hk), if_neg h, if_pos hd]
theorem next_dec (b : Int) (up : Bool) (h0 : -9223372036854775808 ≤ b) (h1 : b ≤ 9223372036854775807) (hk : (b < 0 ∧ b ≤ -4503599627370497) ∨ (0 ≤ b ∧ b ≤ 9218868437227405311)) (h : ¬ (b = 0 ∨ b = -9223372036854775808)) (hd : ¬ decide (0 < b) = up) : nextR b up = if 3 ≤ fkind (b - 1) then (0, 11) else (b - 1, 0) := by
  unfold nextR; rw [if_neg ((fkind_small b h0 h1).2 hk), if_neg h, if_neg hd]
theorem fk_no (b : Int) (h : (b < 0 ∧ -9223372036854775808 ≤ b ∧ b ≤ -4503599627370497) ∨ (0 ≤ b ∧ b ≤ 9218868437227405311)) : ¬ 3 ≤ fkind b := (fkind_small b (by omega) (by omega)).2 (by omega)
set_option maxHeartbeats 1000000 in
theorem nlaw_z_up (b : Int) (hb : b = 0 ∨ b = -9223372036854775808) (w : World) : Calls Try.prog 5 #[.int .i64 b, .bool true] w (Tr w) := by
  have HN := Lib.hid (next_at (x := 1) (y := 0) (next_z b true hb) (by omega) (by omega))
  have e1 : bits .or .i64 9218868437227405311 (-9223372036854775808) = -4503599627370497 := by decide +kernel
  have hk := fk_no b (by omega)
  rcases hb with rfl | rfl
  all_goals
    go_enter Try.func5, Try.ntmps5
    go_wp2_with (first | (go_at_call 19; refine (HN.out _).mono ?_; rintro e w' ⟨rfl, rfl⟩) | (go_at_call 20; refine (floats_any _).mono ?_; rintro e w' ⟨rfl, rfl⟩) | (go_at_call 21; refine (sort_any _ (by omega) (by omega) _).mono ?_; rintro e w' ⟨rfl, rfl⟩) | (go_at_call 22; refine (place_pos _ (by omega) _).mono ?_; rintro e w' ⟨rfl, rfl⟩) | (go_at_call 22; refine (place_neg _ (by omega) (by omega) _).mono ?_; rintro e w' ⟨rfl, rfl⟩))
    all_goals (go_ret; exact tr_of rfl (Below.refl _ _))
set_option maxHeartbeats 1000000 in
theorem nlaw_z_dn (b : Int) (hb : b = 0 ∨ b = -9223372036854775808) (w : World) : Calls Try.prog 5 #[.int .i64 b, .bool false] w (Tr w) := by
  have HN := Lib.hid (next_at (x := -9223372036854775807) (y := 0) (next_z b false hb) (by omega) (by omega))
  have e1 : bits .or .i64 9218868437227405311 (-9223372036854775808) = -4503599627370497 := by decide +kernel
  have hk := fk_no b (by omega)
  rcases hb with rfl | rfl
  all_goals
    go_enter Try.func5, Try.ntmps5
    go_wp2_with (first | (go_at_call 19; refine (HN.out _).mono ?_; rintro e w' ⟨rfl, rfl⟩) | (go_at_call 20; refine (floats_any _).mono ?_; rintro e w' ⟨rfl, rfl⟩) | (go_at_call 21; refine (sort_any _ (by omega) (by omega) _).mono ?_; rintro e w' ⟨rfl, rfl⟩) | (go_at_call 22; refine (place_pos _ (by omega) _).mono ?_; rintro e w' ⟨rfl, rfl⟩) | (go_at_call 22; refine (place_neg _ (by omega) (by omega) _).mono ?_; rintro e w' ⟨rfl, rfl⟩))
    all_goals (go_ret; exact tr_of rfl (Below.refl _ _))
set_option maxHeartbeats 1000000 in
theorem nlaw_p_up (b : Int) (hb : 0 < b ∧ b < 9218868437227405311) (w : World) : Calls Try.prog 5 #[.int .i64 b, .bool true] w (Tr w) := by
  have HN := Lib.hid (next_at (x := b + 1) (y := 0) ((next_inc b true (by omega) (by omega) (by omega) (by omega) (by simp; omega)).trans (if_neg (fk_no _ (by omega)))) (by omega) (by omega))
  have e1 : bits .or .i64 9218868437227405311 (-9223372036854775808) = -4503599627370497 := by decide +kernel
  have hk := fk_no b (by omega)
  obtain ⟨hb1, hb2⟩ := hb
  go_enter Try.func5, Try.ntmps5
  go_wp2_with (first | (go_at_call 19; refine (HN.out _).mono ?_; rintro e w' ⟨rfl, rfl⟩) | (go_at_call 20; refine (floats_any _).mono ?_; rintro e w' ⟨rfl, rfl⟩) | (go_at_call 21; refine (sort_any _ (by omega) (by omega) _).mono ?_; rintro e w' ⟨rfl, rfl⟩) | (go_at_call 22; refine (place_pos _ (by omega) _).mono ?_; rintro e w' ⟨rfl, rfl⟩) | (go_at_call 22; refine (place_neg _ (by omega) (by omega) _).mono ?_; rintro e w' ⟨rfl, rfl⟩))
  all_goals (go_ret; exact tr_of rfl (Below.refl _ _))
set_option maxHeartbeats 1000000 in
theorem nlaw_p_top (w : World) : Calls Try.prog 5 #[.int .i64 9218868437227405311, .bool true] w (Tr w) := by
  have HN := Lib.hid (next_at (b := 9218868437227405311) (up := true) (x := 0) (y := 11) (by decide +kernel) (by omega) (by omega))
  have e1 : bits .or .i64 9218868437227405311 (-9223372036854775808) = -4503599627370497 := by decide +kernel
  have hk : fkind 9218868437227405311 = 2 := by decide +kernel
  go_enter Try.func5, Try.ntmps5
  go_wp2_with (first | (go_at_call 19; refine (HN.out _).mono ?_; rintro e w' ⟨rfl, rfl⟩) | (go_at_call 20; refine (floats_any _).mono ?_; rintro e w' ⟨rfl, rfl⟩) | (go_at_call 21; refine (sort_any _ (by omega) (by omega) _).mono ?_; rintro e w' ⟨rfl, rfl⟩) | (go_at_call 22; refine (place_pos _ (by omega) _).mono ?_; rintro e w' ⟨rfl, rfl⟩) | (go_at_call 22; refine (place_neg _ (by omega) (by omega) _).mono ?_; rintro e w' ⟨rfl, rfl⟩))
  all_goals (go_ret; exact tr_of rfl (Below.refl _ _))
set_option maxHeartbeats 1000000 in
theorem nlaw_p_dn (b : Int) (hb : 0 < b ∧ b ≤ 9218868437227405311) (w : World) : Calls Try.prog 5 #[.int .i64 b, .bool false] w (Tr w) := by
  have HN := Lib.hid (next_at (x := b - 1) (y := 0) ((next_dec b false (by omega) (by omega) (by omega) (by omega) (by simp; omega)).trans (if_neg (fk_no _ (by omega)))) (by omega) (by omega))
  have e1 : bits .or .i64 9218868437227405311 (-9223372036854775808) = -4503599627370497 := by decide +kernel
  have hk := fk_no b (by omega)
  obtain ⟨hb1, hb2⟩ := hb
  go_enter Try.func5, Try.ntmps5
  go_wp2_with (first | (go_at_call 19; refine (HN.out _).mono ?_; rintro e w' ⟨rfl, rfl⟩) | (go_at_call 20; refine (floats_any _).mono ?_; rintro e w' ⟨rfl, rfl⟩) | (go_at_call 21; refine (sort_any _ (by omega) (by omega) _).mono ?_; rintro e w' ⟨rfl, rfl⟩) | (go_at_call 22; refine (place_pos _ (by omega) _).mono ?_; rintro e w' ⟨rfl, rfl⟩) | (go_at_call 22; refine (place_neg _ (by omega) (by omega) _).mono ?_; rintro e w' ⟨rfl, rfl⟩))
  all_goals (go_ret; exact tr_of rfl (Below.refl _ _))
set_option maxHeartbeats 1000000 in
theorem nlaw_m_dn (b : Int) (hb : -9223372036854775808 < b ∧ b < -4503599627370497) (w : World) : Calls Try.prog 5 #[.int .i64 b, .bool false] w (Tr w) := by
  have HN := Lib.hid (next_at (x := b + 1) (y := 0) ((next_inc b false (by omega) (by omega) (by omega) (by omega) (by simp; omega)).trans (if_neg (fk_no _ (by omega)))) (by omega) (by omega))
  have e1 : bits .or .i64 9218868437227405311 (-9223372036854775808) = -4503599627370497 := by decide +kernel
  have hk := fk_no b (by omega)
  obtain ⟨hb1, hb2⟩ := hb
  go_enter Try.func5, Try.ntmps5
  go_wp2_with (first | (go_at_call 19; refine (HN.out _).mono ?_; rintro e w' ⟨rfl, rfl⟩) | (go_at_call 20; refine (floats_any _).mono ?_; rintro e w' ⟨rfl, rfl⟩) | (go_at_call 21; refine (sort_any _ (by omega) (by omega) _).mono ?_; rintro e w' ⟨rfl, rfl⟩) | (go_at_call 22; refine (place_pos _ (by omega) _).mono ?_; rintro e w' ⟨rfl, rfl⟩) | (go_at_call 22; refine (place_neg _ (by omega) (by omega) _).mono ?_; rintro e w' ⟨rfl, rfl⟩))
  all_goals (go_ret; exact tr_of rfl (Below.refl _ _))
set_option maxHeartbeats 1000000 in
theorem nlaw_m_top (w : World) : Calls Try.prog 5 #[.int .i64 (-4503599627370497), .bool false] w (Tr w) := by
  have HN := Lib.hid (next_at (b := (-4503599627370497)) (up := false) (x := 0) (y := 11) (by decide +kernel) (by omega) (by omega))
  have e1 : bits .or .i64 9218868437227405311 (-9223372036854775808) = -4503599627370497 := by decide +kernel
  have hk : fkind (-4503599627370497) = 2 := by decide +kernel
  go_enter Try.func5, Try.ntmps5
  go_wp2_with (first | (go_at_call 19; refine (HN.out _).mono ?_; rintro e w' ⟨rfl, rfl⟩) | (go_at_call 20; refine (floats_any _).mono ?_; rintro e w' ⟨rfl, rfl⟩) | (go_at_call 21; refine (sort_any _ (by omega) (by omega) _).mono ?_; rintro e w' ⟨rfl, rfl⟩) | (go_at_call 22; refine (place_pos _ (by omega) _).mono ?_; rintro e w' ⟨rfl, rfl⟩) | (go_at_call 22; refine (place_neg _ (by omega) (by omega) _).mono ?_; rintro e w' ⟨rfl, rfl⟩))
  all_goals (go_ret; exact tr_of rfl (Below.refl _ _))
set_option maxHeartbeats 1000000 in
theorem nlaw_m_up (b : Int) (hb : -9223372036854775808 < b ∧ b ≤ -4503599627370497) (w : World) : Calls Try.prog 5 #[.int .i64 b, .bool true] w (Tr w) := by
  have HN := Lib.hid (next_at (x := b - 1) (y := 0) ((next_dec b true (by omega) (by omega) (by omega) (by omega) (by simp; omega)).trans (if_neg (fk_no _ (by omega)))) (by omega) (by omega))
  have e1 : bits .or .i64 9218868437227405311 (-9223372036854775808) = -4503599627370497 := by decide +kernel
  have hk := fk_no b (by omega)
  obtain ⟨hb1, hb2⟩ := hb
  go_enter Try.func5, Try.ntmps5
  go_wp2_with (first | (go_at_call 19; refine (HN.out _).mono ?_; rintro e w' ⟨rfl, rfl⟩) | (go_at_call 20; refine (floats_any _).mono ?_; rintro e w' ⟨rfl, rfl⟩) | (go_at_call 21; refine (sort_any _ (by omega) (by omega) _).mono ?_; rintro e w' ⟨rfl, rfl⟩) | (go_at_call 22; refine (place_pos _ (by omega) _).mono ?_; rintro e w' ⟨rfl, rfl⟩) | (go_at_call 22; refine (place_neg _ (by omega) (by omega) _).mono ?_; rintro e w' ⟨rfl, rfl⟩))
  all_goals (go_ret; exact tr_of rfl (Below.refl _ _))
theorem FloatNexts_walk (b : Int) (up : Bool) (w : World) (h : (Lit.int .i64 b).wf = true) : Calls Try.prog 5 #[.int .i64 b, .bool up] w (Tr w) := by
  obtain ⟨h0, h1⟩ := i64_of_wf h
  by_cases hk : 3 ≤ fkind b
  · exact nlaw_bad b up h0 h1 hk w
  · have hs := (fkind_small b h0 h1).1 hk
    by_cases hz : b = 0 ∨ b = -9223372036854775808
    · cases up
      · exact nlaw_z_dn b hz w
      · exact nlaw_z_up b hz w
    · by_cases hp : 0 < b
      · cases up
        · exact nlaw_p_dn b (by omega) w
        · by_cases e : b = 9218868437227405311
          · subst e; exact nlaw_p_top w
          · exact nlaw_p_up b (by omega) w
      · cases up
        · by_cases e : b = -4503599627370497
          · subst e; exact nlaw_m_top w
          · exact nlaw_m_dn b (by omega) w
        · exact nlaw_m_up b (by omega) w

end Go.Proofs.Ytilffmhmgoaejaa
