/- FloatMakes: what Make computes is what the reference asks. -/
import Derived.Test.YtnbdmmepdmmbmaaDoorPFmx4
import Derived.Test.YtnbdmmepdmmbmaaDoorFmNum
import Derived.Test.YtnbdmmepdmmbmaaDoorFmMake
import Derived.Test.YtnbdmmepdmmbmaaDoorFmFacts
namespace Go.Proofs.YtnbdmmepdmmbmaaDoor.PFm
open Go.RowKit Go.Proofs.YtnbdmmepdmmbmaaDoorW.PrintWords Go.Proofs.YtnbdmmepdmmbmaaDoorW.PrintLast Go.Proofs.YtnbdmmepdmmbmaaDoorW.PrintMore Go.Proofs.YtnbdmmepdmmbmaaDoor Go.Proofs.YtnbdmmepdmmbmaaDoor.Plug
set_option linter.unusedVariables false
set_option linter.unusedSimpArgs false
def sg1 (s : Bool) : Nat := if s = true then 1 else 0
theorem sgn_u64 (s : Bool) (b : Nat) (hb : b < 9223372036854775808) : IntKind.u64.wrap (sgn s b) = ((b + sg1 s * 9223372036854775808 : Nat) : Int) := by
  unfold sgn sg1
  rw [IntKind.wrap_u64]
  cases s
  · rw [if_neg (by decide), if_neg (by decide)]; omega
  · rw [if_pos rfl, if_pos rfl]; omega
theorem top_bit (x : Nat) (hx : x < 18446744073709551616) : wrap64 ((x : Int) / 9223372036854775808) = ((x / 9223372036854775808 : Nat) : Int) := by
  rw [wrap_eq (by omega) (by omega)]; omega
theorem mid_bits (x : Nat) (hx : x < 18446744073709551616) : wrap64 (IntKind.u64.wrap ((x : Int) * 2) / 9007199254740992) = ((x % 9223372036854775808 / 4503599627370496 : Nat) : Int) := by
  have e : IntKind.u64.wrap ((x : Int) * 2) = ((x % 9223372036854775808 * 2 : Nat) : Int) := by rw [IntKind.wrap_u64]; omega
  rw [e]
  have h : x % 9223372036854775808 < 9223372036854775808 := Nat.mod_lt _ (by decide)
  generalize x % 9223372036854775808 = y at *
  rw [wrap_eq (by omega) (by omega)]; omega
theorem low_bits (x : Nat) (hx : x < 18446744073709551616) : wrap64 (IntKind.u64.wrap ((x : Int) * 4096) / 4096) = ((x % 4503599627370496 : Nat) : Int) := by
  have e0 : x * 4096 % (4503599627370496 * 4096) = x % 4503599627370496 * 4096 := Nat.mul_mod_mul_right _ _ _
  have e : IntKind.u64.wrap ((x : Int) * 4096) = ((x % 4503599627370496 * 4096 : Nat) : Int) := by
    rw [IntKind.wrap_u64, ← e0]; rfl
  rw [e]
  have h : x % 4503599627370496 < 4503599627370496 := Nat.mod_lt _ (by decide)
  generalize x % 4503599627370496 = y at *
  rw [wrap_eq (by omega) (by omega)]; omega
theorem sgn_low (s : Bool) (b : Nat) : (b + sg1 s * 9223372036854775808) % 4503599627370496 = b % 4503599627370496 := by
  have e : sg1 s * 9223372036854775808 = 4503599627370496 * (sg1 s * 2048) := by unfold sg1; cases s <;> rfl
  rw [e, Nat.add_mul_mod_self_left]
theorem sgn_mid (s : Bool) (b : Nat) (hb : b < 9223372036854775808) : (b + sg1 s * 9223372036854775808) % 9223372036854775808 = b := by
  rw [Nat.add_mul_mod_self_right, Nat.mod_eq_of_lt hb]
theorem sgn_top (s : Bool) (b : Nat) (hb : b < 9223372036854775808) : b + sg1 s * 9223372036854775808 < 18446744073709551616 := by
  have : sg1 s ≤ 1 := by unfold sg1; split <;> decide
  omega
theorem Fields_f (s : Bool) (b : Nat) (hb : b < 9223372036854775808) : ∃ r, clapref1_Fields.f (sgn s b) = some (r, ((b / 4503599627370496 : Nat) : Int), ((b % 4503599627370496 : Nat) : Int)) := by
  unfold clapref1_Fields.f
  rw [sgn_u64 s b hb]
  have h := sgn_top s b hb
  rw [mid_bits _ h, low_bits _ h, sgn_low, sgn_mid s b hb]
  exact ⟨_, rfl⟩
theorem Sort_ev (s : Bool) (b : Nat) (hb : b ≤ most) : ∃ r, Ev (fun k => clapref1_Sort.f k (sgn s b)) r ∧ r ≤ 2 := by
  unfold most at hb
  obtain ⟨r0, hF⟩ := Fields_f s b (Nat.lt_of_le_of_lt hb (by decide))
  have hq : b / 4503599627370496 ≤ 2046 := by
    have := Nat.div_le_div_right (c := 4503599627370496) hb
    exact Nat.le_trans this (by decide)
  generalize b / 4503599627370496 = q at *
  generalize b % 4503599627370496 = f at *
  by_cases h1 : 0 < q
  · refine ⟨2, ?_, by decide⟩
    unfold clapref1_Sort.f
    refine Ev.opt hF ?_
    simp only [if_neg (show ¬ (q : Int) = 2047 by omega)]
    apply Ev.succ
    simp only [clapref1_Sort.j0, Bool.false_eq_true, if_false, if_neg (show ¬ (q : Int) = 2047 by omega), if_pos (show (q : Int) > 0 by omega)]
    exact Ev.now _
  · by_cases h2 : 0 < f
    · refine ⟨1, ?_, by decide⟩
      unfold clapref1_Sort.f
      refine Ev.opt hF ?_
      simp only [if_neg (show ¬ (q : Int) = 2047 by omega)]
      apply Ev.succ
      simp only [clapref1_Sort.j0, Bool.false_eq_true, if_false, if_neg (show ¬ (q : Int) = 2047 by omega), if_neg (show ¬ (q : Int) > 0 by omega), if_pos (show (f : Int) > 0 by omega)]
      exact Ev.now _
    · refine ⟨0, ?_, by decide⟩
      unfold clapref1_Sort.f
      refine Ev.opt hF ?_
      simp only [if_neg (show ¬ (q : Int) = 2047 by omega)]
      apply Ev.succ
      simp only [clapref1_Sort.j0, Bool.false_eq_true, if_false, if_neg (show ¬ (q : Int) = 2047 by omega), if_neg (show ¬ (q : Int) > 0 by omega), if_neg (show ¬ (f : Int) > 0 by omega)]
      exact Ev.now _
theorem p5_lt (x p : Nat) (h : x < 10 ^ p) : x * P5 < 10 ^ (p + 1075) := by
  rw [Nat.pow_add]
  exact Nat.mul_lt_mul'' h P5_lt
theorem half_ev (m q : Nat) (e : Int) (he : e = (q : Int) - 1075) (hq : q ≤ 2046) (hm : m < 9007199254740992) :
    Ev (fun k => (clapref1_Scaled.f k (m : Int) e).bind fun t130 => ((clapref1_Scaled.f k (wrap64 ((m : Int) + 1)) e).bind fun t131 => ((clapref1_plus.f t130 t131).bind fun t132 => (some t132)))) (D ((2 * m + 1) * 2 ^ q * P5)) := by
  have w1 : wrap64 ((m : Int) + 1) = ((m + 1 : Nat) : Int) := by rw [wrap_eq (by omega) (by omega)]; omega
  have s1 := Scaled_ev m e (by omega) (by omega) (by omega)
  have s2 := Scaled_ev (m + 1) e (by omega) (by omega) (by omega)
  have hq' : (1075 + e).toNat = q := by omega
  rw [hq'] at s1 s2
  have l1 : m * 2 ^ q * P5 < 10 ^ (16 + q + 1075) := p5_lt _ _ (lt_pow m 16 q 2 (Nat.lt_trans hm (by decide)) (by decide) (by decide))
  have l2 : (m + 1) * 2 ^ q * P5 < 10 ^ (16 + q + 1075) := p5_lt _ _ (lt_pow (m + 1) 16 q 2 (Nat.lt_of_le_of_lt hm (by decide)) (by decide) (by decide))
  have hp := plus_D _ _ _ l1 l2 (by omega)
  have hs : m * 2 ^ q * P5 + (m + 1) * 2 ^ q * P5 = (2 * m + 1) * 2 ^ q * P5 := by
    rw [← Nat.add_mul, ← Nat.add_mul]; congr 2; omega
  rw [hs] at hp
  simp only [w1]
  refine Ev.bind s1 (Ev.bind s2 (Ev.opt hp (Ev.now _)))
theorem Halfway_ev (b : Nat) (hb : b ≤ most) : Ev (fun k => clapref1_Halfway.f k (b : Int)) (D (hw b * P5)) := by
  unfold most at hb
  obtain ⟨r0, hF⟩ := Fields_f false b (Nat.lt_of_le_of_lt hb (by decide))
  rw [show sgn false b = (b : Int) from rfl] at hF
  have hq : b / 4503599627370496 ≤ 2046 := Nat.le_trans (Nat.div_le_div_right (c := 4503599627370496) hb) (by decide)
  have hf : b % 4503599627370496 < 4503599627370496 := Nat.mod_lt _ (by decide)
  have hS : clapref1_Split.f (b : Int) = some (if b < 4503599627370496 then ((b : Int), -1074) else (((4503599627370496 + b % 4503599627370496 : Nat) : Int), ((b / 4503599627370496 : Nat) : Int) - 1075)) := by
    unfold clapref1_Split.f
    rw [hF]
    simp only [Option.bind_some]
    by_cases h : b < 4503599627370496
    · rw [Nat.div_eq_of_lt h, Nat.mod_eq_of_lt h, if_pos (show ((0 : Nat) : Int) = 0 from rfl), if_pos h]
    · have h0 : 0 < b / 4503599627370496 := Nat.div_pos (Nat.le_of_not_lt h) (by decide)
      generalize b / 4503599627370496 = q at *
      generalize b % 4503599627370496 = f at *
      rw [if_neg (by omega), if_neg h, wrap_eq (by omega) (by omega), wrap_eq (by omega) (by omega)]
      rfl
  unfold clapref1_Halfway.f
  refine Ev.opt hS ?_
  unfold hw
  by_cases h : b < 4503599627370496
  · simp only [if_pos h]
    have := half_ev b 1 (-1074) (by decide) (by decide) (by omega)
    rw [Nat.pow_one] at this
    exact this
  · simp only [if_neg h]
    exact half_ev _ _ _ rfl hq (by omega)
theorem P5_cmp (x y : Nat) : decide (x * P5 < y * P5) = decide (x < y) := by
  rw [decide_eq_decide]
  exact Nat.mul_lt_mul_right P5_pos
theorem P5_inj (x y : Nat) : (x * P5 = y * P5) = (x = y) := propext ⟨fun h => Nat.eq_of_mul_eq_mul_right P5_pos h, fun h => by rw [h]⟩
theorem two_ev (x p : Nat) (hx : x < 10 ^ p) (hp : p ≤ 80000) : Ev (fun k => clapref1_times.f k (D (x * P5)) 2) (D (2 * x * P5)) := by
  have h := times_ev (x * P5) 2 (by decide) (Nat.le_trans (decL_len _ _ (p5_lt x p hx)) (by omega))
  rw [Nat.mul_comm (x * P5) 2, ← Nat.mul_assoc] at h
  exact h
theorem TooLarge_ev (x p : Nat) (hx : x < 10 ^ p) (hp : p ≤ 80000) : Ev (fun k => clapref1_TooLarge.f k (D (x * P5))) (!decide (2 * x < hw most)) := by
  unfold clapref1_TooLarge.f
  have h2 := Halfway_ev most (Nat.le_refl _)
  have h3 := less_D (2 * x * P5) (hw most * P5)
  rw [P5_cmp] at h3
  exact Ev.bind (two_ev x p hx hp) (Ev.bind h2 (Ev.opt h3 (Ev.now _)))
theorem low63 (s : Bool) (b : Nat) (hb : b < 9223372036854775808) : Go.bits .and .i64 (sgn s b) 9223372036854775807 = (b : Int) := by
  rw [i64_and63]
  unfold sgn
  cases s
  · rw [if_neg (by decide)]; omega
  · rw [if_pos rfl]; omega
theorem even_f (b : Nat) : ((Int.tmod (b : Int) 2) == 0) = decide (b % 2 = 0) := by
  rw [Int.tmod_eq_emod_of_nonneg (by omega), Bool.eq_iff_iff, beq_iff_eq, decide_eq_true_eq]; omega
theorem near_j0 (x b : Nat) (rest : Bool) (hb : b ≤ most) (c2 : 1 ≤ b → hw (b - 1) ≤ 2 * x ∧ (hw (b - 1) = 2 * x → rest = true ∨ b % 2 = 0)) :
    Ev (fun k => clapref1_Nearest.j0 k rest (b : Int) (D (2 * x * P5)) (decide (b % 2 = 0)) false) true := by
  apply Ev.succ
  by_cases h0 : b = 0
  · subst h0
    simp only [clapref1_Nearest.j0, Bool.false_eq_true, if_false, if_pos (show ((0 : Nat) : Int) = 0 from rfl)]
    exact Ev.now _
  · obtain ⟨d1, d2⟩ := c2 (by omega)
    have w1 : wrap64 ((b : Int) - 1) = ((b - 1 : Nat) : Int) := by
      unfold most at hb
      rw [wrap_eq (by omega) (by omega)]; omega
    have H := Halfway_ev (b - 1) (Nat.le_trans (Nat.sub_le _ _) hb)
    have hl := less_D (hw (b - 1) * P5) (2 * x * P5)
    rw [P5_cmp] at hl
    simp only [clapref1_Nearest.j0, Bool.false_eq_true, if_false, if_neg (show ¬ (b : Int) = 0 by omega), w1]
    refine Ev.bind H (Ev.opt hl ?_)
    by_cases q : hw (b - 1) < 2 * x
    · simp only [decide_eq_true q, if_true]
      exact Ev.now _
    · have e : hw (b - 1) = 2 * x := by omega
      simp only [decide_eq_false q, Bool.false_eq_true, if_false, D_inj, P5_inj, if_pos e]
      by_cases r : rest = true
      · simp only [if_pos r]; exact Ev.now _
      · have := (d2 e).resolve_left r
        simp only [if_neg r, decide_eq_true this]
        exact Ev.now _
theorem Nearest_ev (x b p : Nat) (s rest : Bool) (hb : b ≤ most) (hx : x < 10 ^ p) (hp : p ≤ 80000) (c1 : 2 * x ≤ hw b) (c1t : 2 * x = hw b → rest = false ∧ b % 2 = 0)
    (c2 : 1 ≤ b → hw (b - 1) ≤ 2 * x ∧ (hw (b - 1) = 2 * x → rest = true ∨ b % 2 = 0)) : Ev (fun k => clapref1_Nearest.f k (D (x * P5)) rest (sgn s b)) true := by
  have hb63 : b < 9223372036854775808 := Nat.lt_of_le_of_lt hb (by decide)
  have hl := less_D (hw b * P5) (2 * x * P5)
  rw [P5_cmp, decide_eq_false (by omega)] at hl
  have J := near_j0 x b rest hb c2
  unfold clapref1_Nearest.f
  simp only [low63 s b hb63, even_f]
  refine Ev.bind (two_ev x p hx hp) (Ev.bind (Halfway_ev b hb) (Ev.opt hl ?_))
  simp only [Bool.false_eq_true, if_false, D_inj, P5_inj]
  by_cases q : hw b = 2 * x
  · obtain ⟨r1, r2⟩ := c1t q.symm
    simp only [if_pos q, r1, Bool.false_eq_true, if_false]
    rw [r1] at J
    simp only [decide_eq_true r2, Bool.not_true]
    rw [decide_eq_true r2] at J
    exact J
  · simp only [if_neg q]
    exact J
theorem floats_ev : Ev (fun k => claplaw1_floats.f k) true := Ev.of (fun k => claplaw1_floats.mono k) (k := 10) (by decide +kernel)
theorem sgn_neg (s : Bool) (b : Nat) (hb : b < 9223372036854775808) : ((decide (sgn s b < 0)) == s) = true := by
  unfold sgn
  cases s
  · rw [if_neg (by decide), decide_eq_false (by omega)]; rfl
  · rw [if_pos rfl, decide_eq_true (by omega)]; rfl
theorem mask_ne (M k : Nat) (hk : k ≤ 63) : ((Go.bits .and .i64 (M : Int) (wrap64 ((wrap64 (2 ^ k)) - 1))) != 0) = decide (M % 2 ^ k ≠ 0) := by
  have e : wrap64 (wrap64 (2 ^ k) - 1) = 2 ^ k - 1 := by
    have hc : ((2 : Int) ^ k) = ((2 ^ k : Nat) : Int) := by simp
    have h1 := pow_le63 k hk
    rw [hc]
    generalize 2 ^ k = P at *
    have hP : 0 ≤ (P : Int) := by omega
    by_cases q : P = 9223372036854775808
    · have e1 : wrap64 (P : Int) = -9223372036854775808 := by unfold wrap64; omega
      rw [e1, show ((P : Int)) = 9223372036854775808 by omega]
      unfold wrap64
      omega
    · have e1 : wrap64 (P : Int) = P := wrap_eq (by omega) (by omega)
      rw [e1, wrap_eq (by omega) (by omega)]
  rw [i64_mask (M : Int) k hk _ e]
  have e2 : (M : Int) % 2 ^ k = ((M % 2 ^ k : Nat) : Int) := by rw [Int.natCast_emod, Int.natCast_pow]; rfl
  rw [e2, Bool.eq_iff_iff, bne_iff_ne, decide_eq_true_eq]
  omega
theorem law_neg (a0 : Bool) (a1 a2 : Int) (h : a1 < 0) : Ev (fun k => claplaw1_FloatMakes.f k a0 a1 a2) true := by
  have hM : Ev (fun k => float_Make.f k a0 a1 a2) (0, 1) := by
    unfold float_Make.f
    simp only [if_pos h]
    exact Ev.now _
  unfold claplaw1_FloatMakes.f
  refine Ev.bind hM (Ev.bind floats_ev ?_)
  simp only [if_true, decide_eq_true h]
  apply Ev.succ
  simp only [claplaw1_FloatMakes.j0, if_true]
  refine Ev.bind floats_ev ?_
  simp only [if_true]
  exact Ev.now _
theorem law_pos (s : Bool) (M : Nat) (e : Int) (hM : M < 9223372036854775808) (he0 : -9223372036854775808 ≤ e) (he1 : e ≤ 9223372036854775807) : Ev (fun k => claplaw1_FloatMakes.f k s (M : Int) e) true := by
  unfold claplaw1_FloatMakes.f
  refine Ev.bind (Make_ev s M e hM) (Ev.bind floats_ev ?_)
  simp only [if_true, decide_eq_false (show ¬ (M : Int) < 0 by omega)]
  apply Ev.succ
  have hcr1 : -1075 ≤ mx (-1075) (mn e 1100) := by unfold mx; split <;> omega
  have hcr2 : mx (-1075) (mn e 1100) ≤ 1100 := by unfold mx mn; split <;> (try split) <;> omega
  have hS := Scaled_ev M _ hM hcr1 hcr2
  have hM19 : M < 10 ^ 19 := Nat.lt_trans hM (by decide)
  simp only [claplaw1_FloatMakes.j0, Bool.false_eq_true, if_false]
  refine Ev.bind hS ?_
  by_cases he : e < -1075
  · simp only [if_pos he]
    have w1 : wrap64 (-1075 - e) = -1075 - e := wrap_eq (by omega) (by omega)
    obtain ⟨k, hk⟩ : ∃ k : Nat, mn (-1075 - e) 63 = k := ⟨(mn (-1075 - e) 63).toNat, by unfold mn; split <;> omega⟩
    have hk' : k = if 63 < -1075 - e then 63 else (-1075 - e).toNat := by unfold mn at hk; split at hk <;> split <;> omega
    have hk63 : k ≤ 63 := by rw [hk']; split <;> omega
    have hEc : mx (-5000) (mn e 5000) = if e < -5000 then -5000 else e := by
      unfold mx mn
      repeat' split
      all_goals omega
    have hbs : bOf M (mx (-5000) (mn e 5000)) ≤ most := b_small M _ hM (by rw [hEc]; split <;> omega)
    obtain ⟨⟨c1, c1t⟩, c2⟩ := facts_low M e _ k hM he hEc hk'
    generalize bOf M (mx (-5000) (mn e 5000)) = b at *
    have hb63 : b < 9223372036854775808 := Nat.lt_of_le_of_lt hbs (by decide)
    have hr : mres s b = (sgn s b, 0) := by unfold mres; rw [if_neg (by unfold most at hbs; omega)]
    obtain ⟨r, hSo, hr2⟩ := Sort_ev s b hbs
    have hdiv : (M : Int) / 2 ^ k = ((M / 2 ^ k : Nat) : Int) := by rw [Int.natCast_ediv, Int.natCast_pow]; rfl
    have hS2 := Scaled_ev (M / 2 ^ k) (-1075) (Nat.lt_of_le_of_lt (Nat.div_le_self _ _) hM) (by decide) (by decide)
    rw [show ((1075 : Int) + -1075).toNat = 0 by decide, Nat.pow_zero, Nat.mul_one] at hS2
    have hN := Nearest_ev (M / 2 ^ k) b 19 s (decide (M % 2 ^ k ≠ 0)) hbs (Nat.lt_of_le_of_lt (Nat.div_le_self _ _) hM19) (by decide) c1
      (fun q => ⟨decide_eq_false (by have := (c1t q).1; omega), (c1t q).2⟩) (fun q => ⟨(c2 q).1, fun y => ((c2 q).2 y).elim (fun z => Or.inl (decide_eq_true z)) Or.inr⟩)
    simp only [w1, hk, if_pos (show (0 : Int) ≤ (k : Int) by omega), hr, if_true, sgn_neg s b hb63, Int.toNat_natCast, hdiv, mask_ne M k hk63]
    refine Ev.bind hSo ?_
    simp only [if_pos hr2]
    refine Ev.bind hS2 (Ev.bind hN (Ev.now _))
  · simp only [if_neg he]
    have hEc : mx (-5000) (mn e 5000) = if 5000 < e then 5000 else e := by
      unfold mx mn
      repeat' split
      all_goals omega
    have hEr : mx (-1075) (mn e 1100) = if 1100 < e then 1100 else e := by
      unfold mx mn
      repeat' split
      all_goals omega
    obtain ⟨f1, f2⟩ := facts M e _ _ hM (by omega) hEc hEr
    have hxl : M * 2 ^ (1075 + mx (-1075) (mn e 1100)).toNat < 10 ^ (19 + (1075 + mx (-1075) (mn e 1100)).toNat) := lt_pow M 19 _ 2 hM19 (by decide) (by decide)
    have hpl : 19 + (1075 + mx (-1075) (mn e 1100)).toNat ≤ 80000 := by omega
    generalize M * 2 ^ (1075 + mx (-1075) (mn e 1100)).toNat = x at *
    generalize 19 + (1075 + mx (-1075) (mn e 1100)).toNat = p at *
    generalize bOf M (mx (-5000) (mn e 5000)) = b at *
    refine Ev.bind (TooLarge_ev x p hxl hpl) ?_
    by_cases hbig : most < b
    · have h1 := f1 hbig
      have hr : mres s b = (0, 11) := by unfold mres; rw [if_pos (by unfold most at hbig; omega)]
      simp only [decide_eq_false (show ¬ 2 * x < hw most by omega), Bool.not_false, if_true, hr]
      exact Ev.now _
    · have hbs : b ≤ most := by omega
      obtain ⟨h1, ⟨c1, c1t⟩, c2⟩ := f2 hbs
      have hb63 : b < 9223372036854775808 := Nat.lt_of_le_of_lt hbs (by decide)
      have hr : mres s b = (sgn s b, 0) := by unfold mres; rw [if_neg (by unfold most at hbs; omega)]
      obtain ⟨r, hSo, hr2⟩ := Sort_ev s b hbs
      have hN := Nearest_ev x b p s false hbs hxl hpl c1 (fun q => ⟨rfl, c1t q⟩) (fun q => ⟨(c2 q).1, fun y => Or.inr ((c2 q).2 y)⟩)
      simp only [decide_eq_true h1, Bool.not_true, Bool.false_eq_true, if_false, hr, if_true, sgn_neg s b hb63]
      refine Ev.bind hSo ?_
      simp only [if_pos hr2]
      refine Ev.bind hN (Ev.now _)
end Go.Proofs.YtnbdmmepdmmbmaaDoor.PFm
namespace Go.Proofs.YtnbdmmepdmmbmaaDoor.Pure
open Go.RowKit Go.Proofs.YtnbdmmepdmmbmaaDoor.PFm
theorem FloatMakes : claplaw1_FloatMakes.Pure := by
  intro a0 a1 a2 w1 w2
  obtain ⟨h1, h2⟩ := i64_of_wf w1
  obtain ⟨h3, h4⟩ := i64_of_wf w2
  by_cases h : a1 < 0
  · exact (law_neg a0 a1 a2 h).rounds
  · obtain ⟨M, rfl⟩ : ∃ M : Nat, a1 = M := ⟨a1.toNat, by omega⟩
    exact (law_pos a0 M a2 (by omega) h3 h4).rounds
end Go.Proofs.YtnbdmmepdmmbmaaDoor.Pure
namespace Go.Proofs.YtnbdmmepdmmbmaaDoor
open Go.RowKit
theorem FloatMakes_walk (a0 : Bool) (a1 a2 : Int) (w : World) (w1 : (Lit.int .i64 a1).wf = true) (w2 : (Lit.int .i64 a2).wf = true) : Calls Tryd.prog 5 #[.bool a0, .int .i64 a1, .int .i64 a2] w (Tr w) := PFm.claplaw1_FloatMakes.walk Pure.FloatMakes a0 a1 a2 w w1 w2
end Go.Proofs.YtnbdmmepdmmbmaaDoor
