/- Contracts of day.year, day.Parts and of the reference's DateOf. -/
import Derived.Test.YtnbdmmepdmmbmaaDoorDayOf
namespace Go.Proofs.YtnbdmmepdmmbmaaDoor
open Go.RowKit
set_option linter.unusedVariables false
set_option linter.unusedSimpArgs false
theorem bef_mono (a b : Int) (h : 1 ≤ a) (h2 : a ≤ b) : bef a ≤ bef b := by unfold bef; omega
/-- The year of a day. -/
def Yr (D y : Int) : Prop := 1 ≤ y ∧ y ≤ 20000 ∧ bef y ≤ D ∧ D < bef (y + 1)
theorem Yr.unique {D y z : Int} (h : Yr D y) (k : Yr D z) : y = z := by
  obtain ⟨a1, _, a2, a3⟩ := h
  obtain ⟨b1, _, b2, b3⟩ := k
  rcases Int.lt_trichotomy y z with q | q | q
  · have := bef_mono (y + 1) z (by omega) (by omega); omega
  · exact q
  · have := bef_mono (z + 1) y (by omega) (by omega); omega
theorem sum12 (y : Int) (h : 1 ≤ y) : bef (y + 1) = bef y + sumM y 12 := by
  have e : sumM y 12 = 365 + (if leap y then 1 else 0) := by
    simp only [sumM, months]
    cases leap y <;> simp
  rw [e]
  cases hl : leap y
  · simp [leap] at hl
    unfold bef; simp; omega
  · simp [leap] at hl
    unfold bef; simp; omega
/-- A date: its year, its month, and the days ahead of it in the month. -/
structure Dt (D y : Int) (j : Nat) (r : Int) : Prop where
  yr : Yr D y
  j1 : 1 ≤ j
  j2 : j ≤ 12
  eq : D - bef y = sumM y (j - 1) + r
  r0 : 0 ≤ r
  r1 : r < months y j
theorem sumM_mono (y : Int) : ∀ {a b : Nat}, a ≤ b → sumM y a ≤ sumM y b
  | a, 0, h => by rw [Nat.le_zero.1 h]; exact Int.le_refl _
  | a, b + 1, h => by
    by_cases q : a = b + 1
    · rw [q]; exact Int.le_refl _
    · have := sumM_mono y (show a ≤ b by omega)
      have := months_bd y (b + 1 : Nat)
      show _ ≤ sumM y b + months y (b + 1 : Nat); omega
theorem Dt.unique {D y z : Int} {j k : Nat} {r s : Int} (h : Dt D y j r) (g : Dt D z k s) : y = z ∧ j = k ∧ r = s := by
  obtain rfl := h.yr.unique g.yr
  have h1 := h.j1; have h2 := h.eq; have h3 := h.r0; have h4 := h.r1
  have g1 := g.j1; have g2 := g.eq; have g3 := g.r0; have g4 := g.r1
  have hs := sumM_step y j h1
  have gs := sumM_step y k g1
  have : j = k := by
    rcases Nat.lt_trichotomy j k with q | q | q
    · have := sumM_mono y (show j ≤ k - 1 by omega); omega
    · exact q
    · have := sumM_mono y (show k ≤ j - 1 by omega); omega
  subst this
  exact ⟨rfl, rfl, by omega⟩
set_option maxHeartbeats 2000000 in
theorem year_any (d : Int) (w : World) (h0 : 0 ≤ d) (h1 : d ≤ 4194304) : Calls Tryd.prog 63 #[.int .i64 d] w fun e w' => ∃ y, e = .returned (.int .i64 y) ∧ Yr d y ∧ w' = w := by
  have t : d.tdiv 366 = d / 366 := Int.tdiv_eq_ediv_of_nonneg h0
  have hb : bef (d / 366 + 1) ≤ d := by unfold bef; omega
  obtain ⟨q, hq⟩ : ∃ q, q = d / 366 := ⟨_, rfl⟩
  rw [← hq] at t hb
  have q0 : 0 ≤ q := by omega
  have q1 : q ≤ 11460 := by omega
  clear hq
  go_enter Tryd.func63, Tryd.ntmps63
  go_wp2
  go_loopw [3] (fun y wr => ∃ z : Int, 1 ≤ z ∧ z ≤ 11493 ∧ y = .int .i64 z ∧ bef z ≤ d ∧ wr = w) (fun y _ => 20000 - (intOf y).toNat)
  case atStart => exact ⟨q + 1, by omega, by omega, rfl, hb, rfl⟩
  case round =>
    obtain ⟨z, z1, z2, rfl, hz, rfl⟩ := hrel
    obtain ⟨x, hx⟩ : ∃ x, x = bef (z + 1) := ⟨_, rfl⟩
    have hbd := bef_bd (z + 1) (by omega) (by omega)
    by_cases hle : x ≤ d
    · go_wp2_with (go_at_call 61; refine (before_any (z + 1) _ (by omega) (by omega)).mono ?_; rw [← hx]; rintro e w1 ⟨rfl, hw⟩; subst w1)
      all_goals try (exfalso; omega)
      go_roundw
      case rel => exact ⟨z + 1, by omega, by rw [← hx] at hbd; omega, by go_num, by rw [← hx]; exact hle, by first | rfl | trivial⟩
      case measure => simp [intOf]; omega
    · go_wp2_with (go_at_call 61; refine (before_any (z + 1) _ (by omega) (by omega)).mono ?_; rw [← hx]; rintro e w1 ⟨rfl, hw⟩; subst w1)
      all_goals try (exfalso; omega)
      go_ret
      exact ⟨z, rfl, ⟨z1, by omega, hz, by rw [← hx]; omega⟩, by first | rfl | trivial⟩
theorem fitD_bd (d : Int) : 0 ≤ fitD d ∧ fitD d ≤ 4194304 := by unfold fitD; split <;> (try split) <;> omega
theorem fitD_id (d : Int) (h0 : 0 ≤ d) (h1 : d ≤ 4194304) : fitD d = d := by unfold fitD; rw [if_neg (by omega), if_neg (by omega)]
def DtP (D : Int) (w : World) (e : Ending) (w' : World) : Prop := ∃ y j r, e = .returned (.tuple #[.int .i64 y, .int .i64 (j : Nat), .int .i64 (r + 1)]) ∧ Dt D y j r ∧ Below w.heap.size w w'
set_option maxHeartbeats 2000000 in
theorem parts_any' (d : Int) (w : World) : Calls Tryd.prog 29 #[.int .i64 d] w (DtP (fitD d) w) := by
  obtain ⟨D, hD⟩ : ∃ D, D = fitD d := ⟨_, rfl⟩
  obtain ⟨f0, f1⟩ := fitD_bd d
  have hfit := fun w => fit_any d w
  rw [← hD] at hfit f0 f1 ⊢
  clear hD
  go_enter Tryd.func29, Tryd.ntmps29
  go_wp2_with fail
  go_at_call 62
  refine (hfit _).mono ?_
  rintro e w1 ⟨rfl, hw⟩
  subst w1
  clear hfit
  go_wp2_with fail
  go_at_call 63
  refine (year_any D _ f0 f1).mono ?_
  rintro e w1 ⟨y, rfl, hy, hw⟩
  subst w1
  have HY := Lib.hid hy
  obtain ⟨y1, y2, y3, y4⟩ := hy
  have hs := sum12 y y1
  rw [hs] at y4
  obtain ⟨B, hB⟩ : ∃ B, B = bef y := ⟨_, rfl⟩
  have hbd := bef_bd y y1 (by omega)
  have hbf := before_any y w y1 (by omega)
  rw [← hB] at hbf hbd y3 y4
  have HBQ := Lib.hid hB
  clear hs hB
  go_wp2_with (go_at_call 61; refine hbf.mono ?_; rintro e w1 ⟨rfl, hw⟩; subst w1)
  go_loopw [0, 6] (fun r mm wr => ∃ (j : Nat) (x : Int), 1 ≤ j ∧ j ≤ 12 ∧ mm = .int .i64 j ∧ r = .int .i64 x ∧ 0 ≤ x ∧ D - B = sumM y (j - 1) + x ∧ wr = w) (fun _ mm _ => 12 - (intOf mm).toNat)
  case atStart => exact ⟨1, D - B, by omega, by omega, rfl, rfl, by omega, by simp [sumM], by first | rfl | trivial⟩
  case round =>
    obtain ⟨j, x, hj1, hj2, rfl, rfl, hx0, hx, rfl⟩ := hrel
    have hs := sumM_bd y (j - 1)
    have hs2 := sumM_step y j hj1
    have hmj := months_bd y j
    obtain ⟨q, hq⟩ : ∃ q, q = months y j := ⟨_, rfl⟩
    have hmo := fun w => months_any y j w
    rw [← hq] at hs2 hmj hmo
    have hxb : x ≤ 5000000 := by omega
    have h12' : j = 12 → x < q := fun h => by subst h; omega
    have HX := Lib.hid hx
    have HQ := Lib.hid hq
    have HS2 := Lib.hid hs2
    have H12 := Lib.hid h12'
    clear hx hq hs2 h12'
    by_cases hlt : x < q
    · go_wp2_with (go_at_call 26; refine (hmo _).mono ?_; rintro e w1 ⟨rfl, hw⟩; subst w1)
      all_goals try (exfalso; omega)
      exact bodyPost_ret (v := .tuple #[.int .i64 y, .int .i64 (j : Nat), .int .i64 (x + 1)]) (by simp [results, Tryd.results29, go_sem]) rfl ⟨y, j, x, rfl, ⟨HY.out, hj1, hj2, by rw [← HBQ.out]; exact HX.out, hx0, by rw [← HQ.out]; exact hlt⟩, Below.refl _ _⟩
    · have h12 : j < 12 := by
        rcases Nat.lt_or_ge j 12 with h | h
        · exact h
        · exact absurd (H12.out (by omega)) hlt
      go_wp2_with (go_at_call 26; refine (hmo _).mono ?_; rintro e w1 ⟨rfl, hw⟩; subst w1)
      all_goals try (exfalso; omega)
      go_roundw
      case rel => exact ⟨j + 1, x - q, by omega, by omega, by go_num, by go_num, by omega, by have := HX.out; rw [Nat.add_sub_cancel, HS2.out]; omega, by first | rfl | trivial⟩
      case measure => simp [intOf]; omega
theorem dt_cycle (D q1 r1 c1 r2 q2 r3 c3 r4 : Int) (h1 : D = 146097 * q1 + r1) (b1 : 0 ≤ r1 ∧ r1 < 146097) (hq1 : 0 ≤ q1 ∧ q1 ≤ 28) (h2 : r2 = r1 - 36524 * c1) (b2 : 0 ≤ r2) (hc1 : 0 ≤ c1 ∧ c1 ≤ 3) (x1 : c1 < 3 → r2 < 36524)
    (h3 : r2 = 1461 * q2 + r3) (b3 : 0 ≤ r3 ∧ r3 < 1461) (hq2 : 0 ≤ q2) (h4 : r4 = r3 - 365 * c3) (b4 : 0 ≤ r4) (hc3 : 0 ≤ c3 ∧ c3 ≤ 3) (x3 : c3 < 3 → r4 < 365) :
    Yr D (1 + q1 * 400 + 100 * c1 + q2 * 4 + c3) ∧ r4 = D - bef (1 + q1 * 400 + 100 * c1 + q2 * 4 + c3) := by
  have hq : q2 ≤ 24 := by omega
  have e4 : (q1 * 400 + 100 * c1 + q2 * 4 + c3) / 4 = 100 * q1 + 25 * c1 + q2 := by omega
  have e100 : (q1 * 400 + 100 * c1 + q2 * 4 + c3) / 100 = 4 * q1 + c1 := by omega
  have e400 : (q1 * 400 + 100 * c1 + q2 * 4 + c3) / 400 = q1 := by omega
  obtain ⟨Y, hY⟩ : ∃ Y, Y = q1 * 400 + 100 * c1 + q2 * 4 + c3 := ⟨_, rfl⟩
  rw [show 1 + q1 * 400 + 100 * c1 + q2 * 4 + c3 = Y + 1 by omega]
  rw [← hY] at e4 e100 e400
  have eb : bef (Y + 1) = 146097 * q1 + 36524 * c1 + 1461 * q2 + 365 * c3 := by
    unfold bef; rw [show Y + 1 - 1 = Y by omega, e4, e100, e400]; omega
  refine ⟨⟨by omega, by omega, by rw [eb]; omega, ?_⟩, by rw [eb]; omega⟩
  unfold bef
  rw [show Y + 1 + 1 - 1 = Y + 1 by omega]
  clear e4 e100 e400 eb
  by_cases k3 : c3 = 3
  · by_cases kq : q2 = 24
    · by_cases k1 : c1 = 3
      · have g4 : (Y + 1) / 4 = 100 * q1 + 100 := by omega
        have g100 : (Y + 1) / 100 = 4 * q1 + 4 := by omega
        have g400 : (Y + 1) / 400 = q1 + 1 := by omega
        rw [g4, g100, g400]; clear g4 g100 g400; omega
      · have g4 : (Y + 1) / 4 = 100 * q1 + 25 * c1 + 25 := by omega
        have g100 : (Y + 1) / 100 = 4 * q1 + c1 + 1 := by omega
        have g400 : (Y + 1) / 400 = q1 := by omega
        rw [g4, g100, g400]; clear g4 g100 g400; omega
    · have g4 : (Y + 1) / 4 = 100 * q1 + 25 * c1 + q2 + 1 := by omega
      have g100 : (Y + 1) / 100 = 4 * q1 + c1 := by omega
      have g400 : (Y + 1) / 400 = q1 := by omega
      rw [g4, g100, g400]; clear g4 g100 g400; omega
  · have g4 : (Y + 1) / 4 = 100 * q1 + 25 * c1 + q2 := by omega
    have g100 : (Y + 1) / 100 = 4 * q1 + c1 := by omega
    have g400 : (Y + 1) / 400 = q1 := by omega
    rw [g4, g100, g400]; clear g4 g100 g400; omega
set_option maxRecDepth 100000 in
set_option maxHeartbeats 1000000 in
theorem dateof_any (D : Int) (w : World) (f0 : 0 ≤ D) (f1 : D ≤ 4194304) : Calls Tryd.prog 30 #[.int .i64 D] w (DtP D w) := by
  obtain ⟨q1, r1, e1, e2, h1, b1, b1', hq1, hq1'⟩ : ∃ q1 r1 : Int, D.tdiv 146097 = q1 ∧ D.tmod 146097 = r1 ∧ D = 146097 * q1 + r1 ∧ 0 ≤ r1 ∧ r1 < 146097 ∧ 0 ≤ q1 ∧ q1 ≤ 28 :=
    ⟨_, _, rfl, rfl, by rw [Int.tdiv_eq_ediv_of_nonneg f0, Int.tmod_eq_emod_of_nonneg f0]; omega⟩
  obtain ⟨a1, e3, ha1, ha1', ha0⟩ : ∃ a1 : Int, r1.tdiv 36524 = a1 ∧ 36524 * a1 ≤ r1 ∧ r1 < 36524 * a1 + 36524 ∧ 0 ≤ a1 :=
    ⟨_, rfl, by rw [Int.tdiv_eq_ediv_of_nonneg b1]; omega⟩
  obtain ⟨c1, hc1⟩ : ∃ c1 : Int, c1 = min a1 3 := ⟨_, rfl⟩
  have hc1' : (a1 ≤ 3 ∧ c1 = a1) ∨ (a1 = 4 ∧ c1 = 3) := by omega
  obtain ⟨r2, h2⟩ : ∃ r2 : Int, r2 = r1 - 36524 * c1 := ⟨_, rfl⟩
  have b2 : 0 ≤ r2 := by omega
  obtain ⟨q2, r3, e4, e5, h3, b3, b3', hq2⟩ : ∃ q2 r3 : Int, r2.tdiv 1461 = q2 ∧ r2.tmod 1461 = r3 ∧ r2 = 1461 * q2 + r3 ∧ 0 ≤ r3 ∧ r3 < 1461 ∧ 0 ≤ q2 :=
    ⟨_, _, rfl, rfl, by rw [Int.tdiv_eq_ediv_of_nonneg b2, Int.tmod_eq_emod_of_nonneg b2]; omega⟩
  obtain ⟨a3, e6, ha3, ha3', ha30⟩ : ∃ a3 : Int, r3.tdiv 365 = a3 ∧ 365 * a3 ≤ r3 ∧ r3 < 365 * a3 + 365 ∧ 0 ≤ a3 :=
    ⟨_, rfl, by rw [Int.tdiv_eq_ediv_of_nonneg b3]; omega⟩
  obtain ⟨c3, hc3⟩ : ∃ c3 : Int, c3 = min a3 3 := ⟨_, rfl⟩
  have hc3' : (a3 ≤ 3 ∧ c3 = a3) ∨ (a3 = 4 ∧ c3 = 3) := by omega
  obtain ⟨r4, h4⟩ : ∃ r4 : Int, r4 = r3 - 365 * c3 := ⟨_, rfl⟩
  obtain ⟨hY, hr⟩ := dt_cycle D q1 r1 c1 r2 q2 r3 c3 r4 h1 ⟨b1, b1'⟩ ⟨hq1, hq1'⟩ h2 b2 (by omega) (by omega) h3 ⟨b3, b3'⟩ hq2 h4 (by omega) (by omega) (by omega)
  have hr4 : 0 ≤ r4 ∧ r4 ≤ 365 := by omega
  have hr2 : r2 ≤ 36524 := by omega
  have hq2' : q2 ≤ 25 := by omega
  have hcc : 0 ≤ c1 ∧ c1 ≤ 3 ∧ 0 ≤ c3 ∧ c3 ≤ 3 := by omega
  obtain ⟨Y, hYe⟩ : ∃ Y, Y = 1 + q1 * 400 + 100 * c1 + q2 * 4 + c3 := ⟨_, rfl⟩
  rw [← hYe] at hY hr
  have HY := Lib.hid hY
  have HR := Lib.hid hr
  have HYE := Lib.hid hYe
  have hs := sum12 Y hY.1
  have y4 := hY.2.2.2
  rw [hs] at y4
  have HS := Lib.hid (show r4 < sumM Y 12 by omega)
  have H4 := Lib.hid h4
  clear hY hr hYe hs y4 h1 h3 ha1 ha1' ha3 ha3' hc1 hc3
  obtain ⟨U, hU, hU1, hU2⟩ : ∃ U : Int, U = 1 + q1 * 400 + 100 * c1 ∧ 0 ≤ U ∧ U ≤ 20000 := ⟨_, rfl, by omega, by omega⟩
  have HU := Lib.hid hU
  have H2 := Lib.hid h2
  clear hU h2 h4
  rcases hc1' with ⟨k1, rfl⟩ | ⟨k1, rfl⟩ <;> rcases hc3' with ⟨k3, rfl⟩ | ⟨k3, rfl⟩
  all_goals
    first
      | (have e4' : (r1 - 36524 * c1).tdiv 1461 = q2 := by rw [← H2.out]; exact e4
         have e5' : (r1 - 36524 * c1).tmod 1461 = r3 := by rw [← H2.out]; exact e5)
      | (have e4' : (r1 - 109572).tdiv 1461 = q2 := by rw [show r1 - 109572 = r2 by have := H2.out; omega]; exact e4
         have e5' : (r1 - 109572).tmod 1461 = r3 := by rw [show r1 - 109572 = r2 by have := H2.out; omega]; exact e5)
    clear e4 e5
    first
      | have hye : 1 + q1 * 400 + 100 * c1 + q2 * 4 + c3 = Y := HYE.out.symm
      | have hye : 1 + q1 * 400 + 100 * c1 + q2 * 4 + 3 = Y := HYE.out.symm
      | have hye : 1 + q1 * 400 + 300 + q2 * 4 + c3 = Y := by have := HYE.out; omega
      | have hye : 1 + q1 * 400 + 300 + q2 * 4 + 3 = Y := by have := HYE.out; omega
    go_enter Tryd.func30, Tryd.ntmps30
    go_wp2
    all_goals try (exfalso; omega)
    go_loopw [0, 7] (fun r mm wr => ∃ (j : Nat) (x : Int), 1 ≤ j ∧ j ≤ 12 ∧ mm = .int .i64 j ∧ r = .int .i64 x ∧ 0 ≤ x ∧ D - bef Y = sumM Y (j - 1) + x ∧ Below w.heap.size w wr) (fun _ mm _ => 12 - (intOf mm).toNat)
    case atStart =>
      have h4 := H4.out
      exact ⟨1, r4, by omega, by omega, rfl, by congr 1; omega, hr4.1, by have := HR.out; simp [sumM]; omega, Below.refl _ _⟩
    case round =>
      obtain ⟨j, x, hj1, hj2, rfl, rfl, hx0, hx, hb⟩ := hrel
      have hs := sumM_bd Y (j - 1)
      have hs2 := sumM_step Y j hj1
      have hmj := months_bd Y j
      obtain ⟨q, hq⟩ : ∃ q, q = months Y j := ⟨_, rfl⟩
      have hmo := fun w => length_any Y j w
      rw [← hq] at hs2 hmj hmo
      have hxb : x ≤ 5000000 := by have := HR.out; omega
      have h12' : j = 12 → x < q := fun h => by subst h; have := HR.out; have := HS.out; omega
      have HX := Lib.hid hx
      have HQ := Lib.hid hq
      have HS2 := Lib.hid hs2
      have H12 := Lib.hid h12'
      have HB := Lib.hid hb
      clear hx hq hs2 h12' hb
      by_cases hlt : x < q
      · go_wp2_with (go_at_call 25; refine (hmo _).mono ?_; rintro e w1 ⟨rfl, hb1⟩; have HB := Lib.hid (blw_then HB.out hb1); clear hb1)
        all_goals try (exfalso; omega)
        exact bodyPost_ret (v := .tuple #[.int .i64 Y, .int .i64 (j : Nat), .int .i64 (x + 1)]) (by simp [results, Tryd.results30, go_sem]) rfl ⟨Y, j, x, rfl, ⟨HY.out, hj1, hj2, HX.out, hx0, by rw [← HQ.out]; exact hlt⟩, HB.out⟩
      · have h12 : j < 12 := by
          rcases Nat.lt_or_ge j 12 with h | h
          · exact h
          · exact absurd (H12.out (by omega)) hlt
        go_wp2_with (go_at_call 25; refine (hmo _).mono ?_; rintro e w1 ⟨rfl, hb1⟩; have HB := Lib.hid (blw_then HB.out hb1); clear hb1)
        all_goals try (exfalso; omega)
        go_roundw
        case rel => exact ⟨j + 1, x - q, by omega, by omega, by go_num, by go_num, by omega, by have := HX.out; rw [Nat.add_sub_cancel, HS2.out]; omega, HB.out⟩
        case measure => simp [intOf]; omega
end Go.Proofs.YtnbdmmepdmmbmaaDoor
