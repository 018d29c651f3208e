/- What float.Make computes. No statement is proved here. -/
import Derived.Test.YtnbdmmepdmmbmaaDoorPFmx1
import Derived.Test.YtnbdmmepdmmbmaaDoorFmCore
import Derived.Test.YtnbdmmepdmmbmaaDoorBits64
import Derived.Test.YtnbdmmepdmmbmaaDoorPure
namespace Go.Proofs.YtnbdmmepdmmbmaaDoor.PFm
open Go.RowKit Go.Proofs.YtnbdmmepdmmbmaaDoorW.PrintWords Go.Proofs.YtnbdmmepdmmbmaaDoorW.PrintLast Go.Proofs.YtnbdmmepdmmbmaaDoorW.PrintMore Go.Proofs.YtnbdmmepdmmbmaaDoor Go.Proofs.YtnbdmmepdmmbmaaDoor.Plug
set_option linter.unusedVariables false
set_option linter.unusedSimpArgs false
/-- A number's bits with its sign. -/
def sgn (s : Bool) (b : Nat) : Int := if s = true then (b : Int) - 9223372036854775808 else b
def mres (s : Bool) (b : Nat) : Int × Int := if 9218868437227405312 ≤ b then (0, 11) else (sgn s b, 0)
theorem or_add52 (x y : Nat) (hy : y < 4503599627370496) (hxy : x * 4503599627370496 + y < 9223372036854775808) : bits .or .i64 ((x * 4503599627370496 : Nat) : Int) (y : Int) = ((x * 4503599627370496 + y : Nat) : Int) := by
  show IntKind.i64.wrap ((BitVec.ofInt 64 ((x * 4503599627370496 : Nat) : Int) ||| BitVec.ofInt 64 (y : Int)).toNat : Int) = _
  have e1 := toNat_ofInt64 ((x * 4503599627370496 : Nat) : Int)
  have e2 := toNat_ofInt64 (y : Int)
  have ex : (BitVec.ofInt 64 ((x * 4503599627370496 : Nat) : Int)).toNat = x * 4503599627370496 := by omega
  have ey : (BitVec.ofInt 64 (y : Int)).toNat = y := by omega
  have ej : x * 4503599627370496 ||| y = x * 4503599627370496 + y := by
    have := Nat.two_pow_add_eq_or_of_lt (i := 52) (b := y) hy x
    rw [Nat.mul_comm x]
    exact this.symm
  rw [BitVec.toNat_or, ex, ey, ej, IntKind.wrap_i64]
  omega
theorem sign_f (s : Bool) (b : Nat) (hb : b < 9223372036854775808) : float_sign.f (b : Int) s = some (sgn s b) := by
  unfold float_sign.f sgn
  cases s
  · rfl
  · rw [if_pos rfl, if_pos rfl, i64_sign _ (by omega) (by omega), if_neg (by omega)]
theorem mwrap (n : Int) (h1 : -1000000 ≤ n) (h2 : n ≤ 1000000) : wrap64 n = n := wrap_eq (by omega) (by omega)
theorem top_lt (L f : Nat) (hL : L ≤ 2046) (hf : f < 4503599627370496) : L * 4503599627370496 + f < 9218868437227405312 := by
  have : L * 4503599627370496 ≤ 2046 * 4503599627370496 := Nat.mul_le_mul_right _ hL
  omega
theorem top_ge (L f : Nat) (hL : 2047 ≤ L) : 9218868437227405312 ≤ L * 4503599627370496 + f := by
  have : 2047 * 4503599627370496 ≤ L * 4503599627370496 := Nat.mul_le_mul_right _ hL
  exact Nat.le_trans (by decide : 9218868437227405312 ≤ 2047 * 4503599627370496) (Nat.le_trans this (Nat.le_add_right _ _))
theorem j2_small (s : Bool) (last : Int) (m : Nat) (hm : m < 9007199254740992) : Ev (fun k => float_Make.j2 k s last (m : Int) true) (sgn s m, 0) := by
  apply Ev.succ
  have hw1 : wrap64 (m : Int) = m := wrap_eq (by omega) (by omega)
  simp only [float_Make.j2, if_pos trivial, hw1, sign_f s m (Nat.lt_trans hm (by decide)), Option.bind_some]
  exact Ev.now _
theorem j2_big (s : Bool) (last : Int) (L f : Nat) (hL : last + 1075 = L) (h6 : L ≤ 10000) (hf : f < 4503599627370496) : Ev (fun k => float_Make.j2 k s last ((4503599627370496 + f : Nat) : Int) false) (mres s (L * 4503599627370496 + f)) := by
  apply Ev.succ
  have e1 : wrap64 (wrap64 (last + 1074) + 1) = (L : Int) := by rw [mwrap (last + 1074) (by omega) (by omega), mwrap _ (by omega) (by omega)]; omega
  by_cases hbig : 2047 ≤ L
  · simp only [float_Make.j2, Bool.false_eq_true, if_false, e1, if_pos (show (L : Int) ≥ 2047 by omega)]
    rw [show mres s (L * 4503599627370496 + f) = (0, 11) by unfold mres; rw [if_pos (top_ge L f hbig)]]
    exact Ev.now _
  · have ht := top_lt L f (by omega) hf
    have hL0 : ((L * 4503599627370496 : Nat) : Int) = (L : Int) * 4503599627370496 := by omega
    have e2 : wrap64 ((L : Int) * 4503599627370496) = ((L * 4503599627370496 : Nat) : Int) := by
      rw [← hL0]
      generalize L * 4503599627370496 = x at *
      exact wrap_eq (by omega) (by omega)
    have e3 : wrap64 (IntKind.u64.wrap (((4503599627370496 + f : Nat) : Int) - 4503599627370496)) = (f : Int) := by
      rw [show (((4503599627370496 + f : Nat) : Int) - 4503599627370496) = (f : Int) by omega, IntKind.wrap_u64, wrap_eq (by omega) (by omega)]; omega
    have e4 := or_add52 L f hf (Nat.lt_trans ht (by decide))
    have e5 := sign_f s (L * 4503599627370496 + f) (Nat.lt_trans ht (by decide))
    simp only [float_Make.j2, Bool.false_eq_true, if_false, e1, if_neg (show ¬ (L : Int) ≥ 2047 by omega), e2, e3, e4, e5, Option.bind_some]
    rw [show mres s (L * 4503599627370496 + f) = (sgn s (L * 4503599627370496 + f), 0) by unfold mres; rw [if_neg (Nat.not_le_of_lt ht)]]
    exact Ev.now _
theorem make_j1 (s : Bool) (last : Int) (m : Nat) (h1 : -1074 ≤ last) (h2 : last ≤ 6000) (hm : m < 9007199254740992) (h : m < 4503599627370496 → m = 0 ∨ last = -1074) :
    Ev (fun k => float_Make.j1 k s last (m : Int)) (mres s (if m = 0 then 0 else ((last + 1075).toNat - 1) * 4503599627370496 + m)) := by
  apply Ev.succ
  by_cases h0 : m = 0
  · subst h0
    simp only [float_Make.j1, if_pos (show ((0 : Nat) : Int) = 0 from rfl), if_pos trivial]
    exact j2_small s last 0 (by decide)
  · simp only [float_Make.j1, if_neg (show ¬ (m : Int) = 0 by omega), if_neg h0]
    by_cases hs : m < 4503599627370496
    · have hl : last = -1074 := (h hs).elim (fun q => absurd q h0) id
      subst hl
      have e : ((-1074 : Int) + 1075).toNat - 1 = 0 := by decide
      have hd : decide ((m : Int) < 4503599627370496) = true := by rw [decide_eq_true_eq]; omega
      have hr : mres s m = (sgn s m, 0) := by unfold mres; rw [if_neg (by omega)]
      rw [e, Nat.zero_mul, Nat.zero_add, hr]
      simp only [hd]
      exact j2_small s _ m hm
    · obtain ⟨f, rfl⟩ : ∃ f : Nat, m = 4503599627370496 + f := ⟨m - 4503599627370496, by omega⟩
      have hd : decide (((4503599627370496 + f : Nat) : Int) < 4503599627370496) = false := by rw [decide_eq_false_iff_not]; omega
      clear h hs h0
      obtain ⟨L, hL⟩ : ∃ L : Nat, last + 1075 = (L : Int) + 1 := ⟨(last + 1074).toNat, by omega⟩
      have hb : ((last + 1075).toNat - 1) * 4503599627370496 + (4503599627370496 + f) = (L + 1) * 4503599627370496 + f := by
        rw [hL, show ((L : Int) + 1).toNat - 1 = L by omega, Nat.succ_mul, Nat.add_assoc]
      rw [hb]
      simp only [hd]
      exact j2_big s last (L + 1) f (by omega) (by omega) (by omega)
theorem carry_eq (last : Int) (h1 : -1074 ≤ last) : ((last + 1 + 1075).toNat - 1) * 4503599627370496 + 4503599627370496 = ((last + 1075).toNat - 1) * 4503599627370496 + 9007199254740992 := by
  obtain ⟨L, hL⟩ : ∃ L : Nat, last + 1075 = (L : Int) + 1 := ⟨(last + 1074).toNat, by omega⟩
  have e3 : 9007199254740992 = 4503599627370496 + 4503599627370496 := by decide
  rw [show last + 1 + 1075 = (L : Int) + 1 + 1 by omega, hL, show ((L : Int) + 1 + 1).toNat - 1 = L + 1 by omega, show ((L : Int) + 1).toNat - 1 = L by omega, e3]
  generalize 4503599627370496 = c
  rw [Nat.succ_mul, Nat.add_assoc]
theorem make_j0 (s : Bool) (last : Int) (m : Nat) (h1 : -1074 ≤ last) (h2 : last ≤ 5999) (hm : m ≤ 9007199254740992) (h : m < 4503599627370496 → m = 0 ∨ last = -1074) :
    Ev (fun k => float_Make.j0 k s last (m : Int)) (mres s (if m = 0 then 0 else ((last + 1075).toNat - 1) * 4503599627370496 + m)) := by
  apply Ev.succ
  by_cases q : m = 9007199254740992
  · have h0 : ¬ m = 0 := by omega
    have hi : (m : Int) = 9007199254740992 := by omega
    rw [if_neg h0]
    have e2 := carry_eq last h1
    rw [← q] at e2
    clear h hm h0 q
    obtain ⟨c, hc⟩ : ∃ c : Nat, c = 4503599627370496 := ⟨_, rfl⟩
    have J := make_j1 s (last + 1) c (by omega) (by omega) (by omega) (by omega)
    rw [if_neg (by omega)] at J
    have e1 : wrap64 (last + 1) = last + 1 := mwrap _ (by omega) (by omega)
    have hc2 : (c : Int) = 4503599627370496 := by omega
    rw [hc2] at J
    rw [hc, e2] at J
    simp only [float_Make.j0, if_pos hi, e1]
    exact J
  · simp only [float_Make.j0, if_neg (show ¬ (m : Int) = 9007199254740992 by omega)]
    exact make_j1 s last m h1 (by omega) (by omega) h
theorem u64_small (x : Int) (h0 : 0 ≤ x) (h1 : x < 18446744073709551616) : IntKind.u64.wrap x = x := by rw [IntKind.wrap_u64]; omega
theorem pow_le63 (k : Nat) (h : k ≤ 63) : 2 ^ k ≤ 9223372036854775808 := Nat.pow_le_pow_right (n := 2) (by decide) h
theorem u64_mask (M k : Nat) (hM : M < 9223372036854775808) (hk : k ≤ 63) : bits .and .u64 (M : Int) (((2 ^ k : Nat) : Int) - 1) = ((M % 2 ^ k : Nat) : Int) := by
  have h1 := pow_le63 k hk
  have h2 : 0 < 2 ^ k := Nat.pow_pos (by decide)
  have e : (((2 ^ k : Nat) : Int) - 1) = ((2 ^ k - 1 : Nat) : Int) := by omega
  rw [e, u64_and_nat M (2 ^ k - 1) (by omega) (by omega), Nat.and_two_pow_sub_one_eq_mod]
theorem u64_odd (x : Nat) (h : x < 9223372036854775808) : bits .and .u64 (x : Int) 1 = ((x % 2 : Nat) : Int) := u64_mask x 1 h (by decide)
theorem shl_nat (x k : Nat) (hk : k ≤ 63) (h : x * 2 ^ k < 18446744073709551616) : shl .u64 (x : Int) (k : Int) = ((x * 2 ^ k : Nat) : Int) := by
  unfold shl
  rw [show min ((k : Int)).toNat IntKind.u64.bits = k by rw [Int.toNat_natCast]; exact Nat.min_eq_left (Nat.le_trans hk (by decide))]
  have e : (x : Int) * 2 ^ k = ((x * 2 ^ k : Nat) : Int) := by rw [Int.natCast_mul, Int.natCast_pow]; rfl
  rw [e]
  exact u64_small _ (by omega) (by omega)
theorem shr_nat (x k : Nat) (hk : k ≤ 63) : shr .u64 (x : Int) (k : Int) = ((x / 2 ^ k : Nat) : Int) := by
  unfold shr
  rw [show min ((k : Int)).toNat IntKind.u64.bits = k by rw [Int.toNat_natCast]; exact Nat.min_eq_left (Nat.le_trans hk (by decide))]
  rw [Int.natCast_ediv, Int.natCast_pow]; rfl
theorem u64_succ (q : Nat) (h : q < 9223372036854775808) : IntKind.u64.wrap ((q : Int) + 1) = ((q + 1 : Nat) : Int) := by
  rw [u64_small _ (by omega) (by omega)]; omega
theorem Make_ev (s : Bool) (M : Nat) (e : Int) (hM : M < 9223372036854775808) : Ev (fun k => float_Make.f k s (M : Int) e) (mres s (bOf M (mx (-5000) (mn e 5000)))) := by
  have hE1 : -5000 ≤ mx (-5000) (mn e 5000) := by unfold mx; split <;> omega
  have hE2 : mx (-5000) (mn e 5000) ≤ 5000 := by unfold mx mn; split <;> (try split) <;> omega
  have hu : IntKind.u64.wrap (M : Int) = M := u64_small _ (by omega) (by omega)
  obtain ⟨b1, b2, b3⟩ := bits63 M hM
  unfold float_Make.f
  obtain ⟨E, hE⟩ : ∃ E, mx (-5000) (mn e 5000) = E := ⟨_, rfl⟩
  rw [hE] at hE1 hE2
  simp only [hE, hu]
  have hL : bits_Len64.f (M : Int) = some ((Lib.bitLen M : Nat) : Int) := by unfold bits_Len64.f; rw [if_pos (by omega), Int.toNat_natCast]
  simp only [if_neg (show ¬ (M : Int) < 0 by omega), hL, Option.bind_some]
  obtain ⟨l1, l2, l3⟩ := last_ge M E
  have hlast : mx (E + (Lib.bitLen M : Nat) - 53) (-1074) = lastOf M E := rfl
  have hl5 : lastOf M E ≤ 5999 := by
    by_cases q : -1074 < lastOf M E
    · have := l3 q; omega
    · omega
  have w1 : wrap64 (E + (Lib.bitLen M : Nat)) = E + (Lib.bitLen M : Nat) := mwrap _ (by omega) (by omega)
  have w2 : wrap64 (E + (Lib.bitLen M : Nat) - 53) = E + (Lib.bitLen M : Nat) - 53 := mwrap _ (by omega) (by omega)
  have w3 : wrap64 (lastOf M E - E) = lastOf M E - E := mwrap _ (by omega) (by omega)
  simp only [w1, w2, hlast, w3]
  have hb : bOf M E = if mOf M E = 0 then 0 else ((lastOf M E + 1075).toNat - 1) * 4503599627370496 + mOf M E := rfl
  rw [hb]
  have hml := m_le M E hM
  have hms : mOf M E < 4503599627370496 → mOf M E = 0 ∨ lastOf M E = -1074 := by
    intro q
    by_cases z : lastOf M E = -1074
    · exact Or.inr z
    · by_cases y : M = 0
      · subst y
        have := b_zero E
        rw [hb] at this
        split at this
        · rename_i x; exact Or.inl x
        · omega
      · have := (m_ge M E hM y (l3 (by omega))).1; omega
  have J := fun x => make_j0 s (lastOf M E) x l1 hl5
  by_cases c1 : lastOf M E - E > 63
  · have hm0 : mOf M E = 0 := by unfold mOf; rw [if_pos c1]
    simp only [if_pos c1, hm0]
    exact J 0 (by decide) (fun _ => Or.inl rfl)
  · simp only [if_neg c1]
    by_cases c2 : lastOf M E - E > 0
    · obtain ⟨k, hk⟩ : ∃ k : Nat, lastOf M E - E = k := ⟨(lastOf M E - E).toNat, by omega⟩
      have hk63 : k ≤ 63 := by omega
      have hm : mOf M E = rhe M k := by unfold mOf; rw [if_neg c1, if_pos c2, hk, Int.toNat_natCast]
      have w4 : wrap64 ((k : Int) - 1) = ((k - 1 : Nat) : Int) := by rw [mwrap _ (by omega) (by omega)]; omega
      have hp := pow_le63 k hk63
      have hpk : 0 < 2 ^ k := Nat.pow_pos (by decide)
      have s1 : shl .u64 1 (k : Int) = ((2 ^ k : Nat) : Int) := by
        have := shl_nat 1 k hk63 (by omega)
        rw [Nat.one_mul] at this; exact this
      have hp1 := pow_le63 (k - 1) (by omega)
      have s2 : shl .u64 1 ((k - 1 : Nat) : Int) = ((2 ^ (k - 1) : Nat) : Int) := by
        have := shl_nat 1 (k - 1) (by omega) (by omega)
        rw [Nat.one_mul] at this; exact this
      have s3 : shr .u64 (M : Int) (k : Int) = ((M / 2 ^ k : Nat) : Int) := shr_nat M k hk63
      have hdm : M / 2 ^ k < 9223372036854775808 := Nat.lt_of_le_of_lt (Nat.div_le_self _ _) hM
      have s4 : IntKind.u64.wrap (((2 ^ k : Nat) : Int) - 1) = ((2 ^ k : Nat) : Int) - 1 := u64_small _ (by omega) (by omega)
      have s5 := u64_mask M k hM hk63
      have s6 := u64_odd (M / 2 ^ k) hdm
      have s7 := u64_succ (M / 2 ^ k) hdm
      rw [hm] at hml hms ⊢
      simp only [hk, if_pos (show (k : Int) > 0 by omega), if_pos (show (0 : Int) ≤ k by omega), w4, if_pos (show (0 : Int) ≤ ((k - 1 : Nat) : Int) by omega), s1, s2, s3, s4, s5, s6, s7]
      have J' := J (rhe M k) hml hms
      unfold rhe at J' ⊢
      generalize M / 2 ^ k = q at *
      generalize M % 2 ^ k = r at *
      generalize 2 ^ (k - 1) = P at *
      by_cases d1 : r > P
      · simp only [if_pos (show ((r : Nat) : Int) > (P : Int) by omega)]
        rw [if_pos d1] at J' ⊢
        exact J'
      · simp only [if_neg (show ¬ ((r : Nat) : Int) > (P : Int) by omega)]
        rw [if_neg d1] at J' ⊢
        by_cases d2 : r = P
        · simp only [if_pos (show ((r : Nat) : Int) = (P : Int) by omega)]
          rw [if_pos d2] at J' ⊢
          by_cases d3 : q % 2 = 1
          · simp only [if_pos (show ((q % 2 : Nat) : Int) = 1 by omega)]
            rw [if_pos d3] at J' ⊢
            exact J'
          · simp only [if_neg (show ¬ ((q % 2 : Nat) : Int) = 1 by omega)]
            rw [if_neg d3] at J' ⊢
            exact J'
        · simp only [if_neg (show ¬ ((r : Nat) : Int) = (P : Int) by omega)]
          rw [if_neg d2] at J' ⊢
          exact J'
    · obtain ⟨j, hj⟩ : ∃ j : Nat, -(lastOf M E - E) = j := ⟨(-(lastOf M E - E)).toNat, by omega⟩
      have hm : mOf M E = M * 2 ^ j := by unfold mOf; rw [if_neg c1, if_neg c2, hj, Int.toNat_natCast]
      have w4 : wrap64 (-(lastOf M E - E)) = (j : Int) := by rw [hj, mwrap _ (by omega) (by omega)]
      have hj63 : j ≤ 63 := by omega
      rw [hm] at hml hms ⊢
      have s1 := shl_nat M j hj63 (by omega)
      simp only [if_neg c2, w4, if_pos (show (0 : Int) ≤ (j : Int) by omega), s1]
      exact J _ hml hms
end Go.Proofs.YtnbdmmepdmmbmaaDoor.PFm
