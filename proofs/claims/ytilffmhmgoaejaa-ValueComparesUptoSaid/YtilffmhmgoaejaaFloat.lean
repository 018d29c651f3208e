/- Contracts of package float: split, Kind, sign, Next, and of the reference's Fields and Sort; the fact 'floats'. -/
import Derived.Test.YtilffmhmgoaejaaAid
import Derived.Test.YtilffmhmgoaejaaBits64
import Derived.Test.YtilffmhmgoaejaaShelf
namespace Go.Proofs.Ytilffmhmgoaejaa
open Go.RowKit
set_option linter.unusedVariables false
set_option linter.unusedSimpArgs false
def fexp (b : Int) : Int := b / 4503599627370496 % 2048
def ffrac (b : Int) : Int := b % 4503599627370496
def fneg (b : Int) : Bool := decide (b < 0)
/-- The kind of bits: 0 zero, 1 small, 2 usual, 3 infinite, 4 no number. -/
def fkind (b : Int) : Int := if fexp b = 2047 then (if ffrac b = 0 then 3 else 4) else if 0 < fexp b then 2 else if 0 < ffrac b then 1 else 0
def fsign (b : Int) (m : Bool) : Int := if m then (if b < 0 then b else b - 9223372036854775808) else b
theorem split_any (b : Int) (w : World) : Calls Try.prog 76 #[.int .i64 b] w fun e w' => e = .returned (.tuple #[.bool (fneg b), .int .i64 (fexp b), .int .i64 (ffrac b)]) ∧ w = w' := by
  go_enter Try.func76, Try.ntmps76
  go_wp2
  go_ret3
  exact ⟨by rw [i64_and2047, i64_and52]; rfl, rfl⟩
theorem fexp_bd (b : Int) : 0 ≤ fexp b ∧ fexp b < 2048 := by unfold fexp; omega
theorem ffrac_bd (b : Int) : 0 ≤ ffrac b ∧ ffrac b < 4503599627370496 := by unfold ffrac; omega
theorem kind_any (b : Int) (w : World) : Calls Try.prog 37 #[.int .i64 b] w fun e w' => e = .returned (.int .i64 (fkind b)) ∧ w = w' := by
  have h1 := fexp_bd b
  have h2 := ffrac_bd b
  go_enter Try.func37, Try.ntmps37
  go_wp2_with (first | (go_at_call 76; refine (split_any _ _).mono ?_; rintro e w' ⟨rfl, rfl⟩))
  all_goals (go_ret; refine ⟨ret_int ?_, rfl⟩)
  all_goals (unfold fkind; repeat' split)
  all_goals (first | rfl | (exfalso; omega) | (exfalso; simp_all; done) | (exfalso; simp_all; omega))
def fsb (b : Int) : Int := if b < 0 then 1 else 0
theorem fields_any (b : Int) (h0 : -9223372036854775808 ≤ b) (h1 : b ≤ 9223372036854775807) (w : World) : Calls Try.prog 70 #[.int .i64 b] w fun e w' => e = .returned (.tuple #[.int .i64 (fsb b), .int .i64 (fexp b), .int .i64 (ffrac b)]) ∧ w = w' := by
  go_enter Try.func70, Try.ntmps70
  go_wp2
  go_ret3
  have e1 : wrap64 (IntKind.u64.wrap b / 9223372036854775808) = fsb b := by
    rw [IntKind.wrap_u64]; unfold wrap64 fsb; split <;> omega
  have e2 : wrap64 (IntKind.u64.wrap (IntKind.u64.wrap b * 2) / 9007199254740992) = fexp b := by
    rw [IntKind.wrap_u64, IntKind.wrap_u64]; unfold wrap64 fexp; omega
  have e3 : wrap64 (IntKind.u64.wrap (IntKind.u64.wrap b * 4096) / 4096) = ffrac b := by
    rw [IntKind.wrap_u64, IntKind.wrap_u64]; unfold wrap64 ffrac; omega
  exact ⟨by rw [← e1, ← e2, ← e3]; rfl, rfl⟩
theorem sort_any (b : Int) (h0 : -9223372036854775808 ≤ b) (h1 : b ≤ 9223372036854775807) (w : World) : Calls Try.prog 21 #[.int .i64 b] w fun e w' => e = .returned (.int .i64 (fkind b)) ∧ w = w' := by
  have h2 := fexp_bd b
  have h3 := ffrac_bd b
  go_enter Try.func21, Try.ntmps21
  go_wp2_with (first | (go_at_call 70; refine (fields_any _ (by omega) (by omega) _).mono ?_; rintro e w' ⟨rfl, rfl⟩))
  all_goals (go_ret; refine ⟨ret_int ?_, rfl⟩)
  all_goals (unfold fkind; repeat' split)
  all_goals (first | rfl | (exfalso; omega) | (exfalso; simp_all; done) | (exfalso; simp_all; omega))
theorem sign_any (b : Int) (m : Bool) (h0 : -9223372036854775808 ≤ b) (h1 : b ≤ 9223372036854775807) (w : World) : Calls Try.prog 68 #[.int .i64 b, .bool m] w fun e w' => e = .returned (.int .i64 (fsign b m)) ∧ w = w' := by
  go_enter Try.func68, Try.ntmps68
  cases m with
  | true => 
    go_wp2
    go_ret
    exact ⟨by rw [i64_sign _ h0 h1]; rfl, rfl⟩
  | false => 
    go_wp2
    go_ret
    exact ⟨rfl, rfl⟩
theorem len64_1 (w : World) : Calls Try.prog 102 #[.int .u64 1] w fun e w' => e = .returned (.int .i64 1) ∧ w = w' := by
  refine (Try.bits_Len64 1 _ (by omega) (by omega)).mono ?_
  rintro e w' ⟨rfl, rfl⟩
  exact ⟨by rw [show Lib.bitLen (1 : Int).toNat = 1 by decide]; rfl, rfl⟩
theorem floats_any (w : World) : Calls Try.prog 20 #[] w fun e w' => e = .returned (.bool true) ∧ w = w' := by
  have h1 : min (0 : Int) 5000 = 0 := by decide
  have h2 : max (-5000 : Int) 0 = 0 := by decide
  have h3 : max (-52 : Int) (-1074) = -52 := by decide
  have h4 : fsign 4607182418800017408 false = 4607182418800017408 := rfl
  go_enter Try.func20, Try.ntmps20
  go_wp2_with (first | (go_at_call 102; refine (len64_1 _).mono ?_; rintro e w' ⟨rfl, rfl⟩) | (go_at_call 68; refine (sign_any _ _ (by omega) (by omega) _).mono ?_; rintro e w' ⟨rfl, rfl⟩) | go_in)
  all_goals go_ret
  all_goals exact ⟨ret_bool (by decide +kernel), rfl⟩
def nextR (b : Int) (up : Bool) : Int × Int :=
  if 3 ≤ fkind b then (0, 11)
  else if b = 0 ∨ b = -9223372036854775808 then (if up then (1, 0) else (-9223372036854775807, 0))
  else if (decide (0 < b)) = up then (if 3 ≤ fkind (b + 1) then (0, 11) else (b + 1, 0))
  else (if 3 ≤ fkind (b - 1) then (0, 11) else (b - 1, 0))
def NextPost (b : Int) (up : Bool) (w : World) (e : Ending) (w' : World) : Prop := e = .returned (.tuple #[.int .i64 (nextR b up).1, .int .i64 (nextR b up).2]) ∧ w = w'
theorem next_post {b : Int} {up : Bool} {w : World} {x y : Int} (h : nextR b up = (x, y)) : NextPost b up w (.returned (.tuple #[.int .i64 x, .int .i64 y])) w := ⟨by rw [h], rfl⟩
theorem fkind_big (b : Int) : 3 ≤ fkind b ↔ fexp b = 2047 := by
  unfold fkind; repeat' split
  all_goals omega
set_option maxHeartbeats 1000000 in
theorem next_any (b : Int) (up : Bool) (h0 : -9223372036854775808 ≤ b) (h1 : b ≤ 9223372036854775807) (w : World) : Calls Try.prog 19 #[.int .i64 b, .bool up] w (NextPost b up w) := by
  have hk := fkind_big b
  have hb : ¬ 3 ≤ fkind b → b < 9223372036854775807 ∧ b ≠ -9223372036854775807 - 1 + 9223372036854775807 := fun h => by
    have : fexp b ≠ 2047 := fun e => h (hk.2 e)
    unfold fexp at this; omega
  have HB := Lib.hid hb
  clear hk hb
  by_cases hk : 3 ≤ fkind b
  · go_enter Try.func19, Try.ntmps19
    go_wp2_with (first | (go_at_call 37; refine (kind_any _ _).mono ?_; rintro e w' ⟨rfl, rfl⟩))
    go_ret2
    exact next_post (by unfold nextR; rw [if_pos hk])
  · have hb := (HB.out hk).1
    clear HB
    by_cases hm : b = -9223372036854775808
    · subst hm
      have HK := Lib.hid hk
      clear hk
      have e1 : fkind (-9223372036854775808) = 0 := by decide
      have e2 : fsign 1 true = -9223372036854775807 := by decide
      go_enter Try.func19, Try.ntmps19
      cases up
      all_goals go_wp2_with (first | (go_at_call 37; refine (kind_any _ _).mono ?_; rintro e w' ⟨rfl, rfl⟩) | (go_at_call 68; refine (sign_any _ _ (by omega) (by omega) _).mono ?_; rintro e w' ⟨rfl, rfl⟩))
      all_goals (go_ret2; exact next_post (by decide))
    · by_cases hz : b = 0
      · subst hz
        have e1 : fkind 0 = 0 := by decide
        have e2 : fsign 1 true = -9223372036854775807 := by decide
        clear hk
        go_enter Try.func19, Try.ntmps19
        cases up
        all_goals go_wp2_with (first | (go_at_call 37; refine (kind_any _ _).mono ?_; rintro e w' ⟨rfl, rfl⟩) | (go_at_call 68; refine (sign_any _ _ (by omega) (by omega) _).mono ?_; rintro e w' ⟨rfl, rfl⟩))
        all_goals (go_ret2; exact next_post (by decide))
      · have g1 : (b == -9223372036854775808) = false := by simpa using hm
        have g2 : (b == 0) = false := by simpa using hz
        have HM := Lib.hid hm
        have HZ := Lib.hid hz
        clear hm hz
        by_cases hp : 0 < b
        all_goals
          have h5 : -9223372036854775808 < b := by have := HM.out; omega
          go_enter Try.func19, Try.ntmps19
          cases up
          all_goals go_wp2_with (first | (go_at_call 37; refine (kind_any _ _).mono ?_; rintro e w' ⟨rfl, rfl⟩) | (go_at_call 68; refine (sign_any _ _ (by omega) (by omega) _).mono ?_; rintro e w' ⟨rfl, rfl⟩))
          all_goals first
            | (exfalso; have hx : (!decide (0 < b)) = false := by assumption
               simp at hx; omega)
            | (exfalso; have hx : (!decide (0 < b)) = true := by assumption
               simp at hx; omega)
            | (go_ret2; exact next_post (by
            have hm := HM.out
            have hz := HZ.out
            unfold nextR
            rw [if_neg (by omega), if_neg (by omega)]
            first
              | rw [if_pos (by simp; omega)]
              | rw [if_neg (by simp; omega)]
            first
              | rw [if_pos (by assumption)]
              | rw [if_neg (by omega)]))

end Go.Proofs.Ytilffmhmgoaejaa
