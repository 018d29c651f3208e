/- Rounding a mantissa to 53 bits, and the places halfway between neighbours. No program in sight. -/
import Derived.Lib.BitFns
import Derived.Test.YtnbdmmepdmmbmaaDoorAid
namespace Go.Proofs.YtnbdmmepdmmbmaaDoor
set_option linter.unusedVariables false
/-- Twice the place between the number with these bits and the next one, in units of 2^-1075. -/
def hw (b : Nat) : Nat := if b < 4503599627370496 then (2 * b + 1) * 2 else (2 * (4503599627370496 + b % 4503599627370496) + 1) * 2 ^ (b / 4503599627370496)
theorem hw_of (L m : Nat) (hL : 1 ≤ L) (hm : m < 9007199254740992) (h : 2 ≤ L → 4503599627370496 ≤ m) : hw ((L - 1) * 4503599627370496 + m) = (2 * m + 1) * 2 ^ L := by
  unfold hw
  by_cases q : m < 4503599627370496
  · obtain rfl : L = 1 := by omega
    rw [if_pos (by omega), show (1 - 1) * 4503599627370496 + m = m by omega]
  · obtain ⟨f, rfl⟩ : ∃ f, m = 4503599627370496 + f := ⟨m - 4503599627370496, by omega⟩
    have e : (L - 1) * 4503599627370496 + (4503599627370496 + f) = L * 4503599627370496 + f := by omega
    rw [e, if_neg (by omega), show (L * 4503599627370496 + f) % 4503599627370496 = f by omega, show (L * 4503599627370496 + f) / 4503599627370496 = L by omega]
theorem hw_parts (b : Nat) : ∃ L m, b = (L - 1) * 4503599627370496 + m ∧ 1 ≤ L ∧ m < 9007199254740992 ∧ (2 ≤ L → 4503599627370496 ≤ m) := by
  by_cases q : b < 4503599627370496
  · exact ⟨1, b, by omega, by omega, by omega, by omega⟩
  · exact ⟨b / 4503599627370496, 4503599627370496 + b % 4503599627370496, by omega, by omega, by omega, by omega⟩
theorem pow_S (L : Nat) : 2 ^ (L + 1) = 2 * 2 ^ L := by rw [Nat.pow_succ, Nat.mul_comm]
theorem hw_lt (b : Nat) : hw b < hw (b + 1) := by
  obtain ⟨L, m, hb, h1, h2, h3⟩ := hw_parts b
  have hp : 0 < 2 ^ L := Nat.pow_pos (by decide)
  by_cases q : m + 1 < 9007199254740992
  · have e : b + 1 = (L - 1) * 4503599627370496 + (m + 1) := by omega
    rw [e, hb, hw_of L m h1 h2 h3, hw_of L (m + 1) h1 q (by omega)]
    exact Nat.mul_lt_mul_of_pos_right (by omega) hp
  · have e : b + 1 = (L + 1 - 1) * 4503599627370496 + 4503599627370496 := by omega
    rw [e, hb, hw_of L m h1 h2 h3, hw_of (L + 1) 4503599627370496 (by omega) (by decide) (by omega), pow_S]
    obtain rfl : m = 9007199254740991 := by omega
    generalize 2 ^ L = P at hp
    omega
theorem hw_mono {a b : Nat} (h : a ≤ b) : hw a ≤ hw b := by
  induction b with
  | zero => rw [show a = 0 by omega]; exact Nat.le_refl _
  | succ b ih =>
    by_cases q : a = b + 1
    · rw [q]; exact Nat.le_refl _
    · exact Nat.le_trans (ih (by omega)) (Nat.le_of_lt (hw_lt b))
theorem hw_strict {a b : Nat} (h : a < b) : hw a < hw b := Nat.lt_of_lt_of_le (hw_lt a) (hw_mono h)
theorem hw_even (b : Nat) : ∃ h, hw b = 2 * h := by
  obtain ⟨L, m, hb, h1, h2, h3⟩ := hw_parts b
  rw [hb, hw_of L m h1 h2 h3, show L = (L - 1) + 1 by omega, pow_S]
  exact ⟨(2 * m + 1) * 2 ^ (L - 1), by rw [Nat.mul_left_comm]⟩
theorem mul3 (a P Q : Nat) : a * (2 * P) * Q = a * 2 * (P * Q) := by rw [← Nat.mul_assoc a 2 P, Nat.mul_assoc (a * 2)]
theorem mul4 (a P Q : Nat) : 2 * (a * P * Q) = a * (2 * P * Q) := by rw [Nat.mul_assoc a, Nat.mul_assoc 2, Nat.mul_left_comm]
theorem lit1 : (2 * 4503599627370496 + 1) * 2 = 18014398509481986 := by decide
theorem lit2 : 2 * 9007199254740991 + 1 = 18014398509481983 := by decide
theorem top_tie (A P : Nat) (hp : 0 < P) (p1 : 2 * A ≤ 18014398509481985 * P) : 2 * A < 18014398509481986 * P := by omega
theorem bot_tie (A P x : Nat) (hp : 0 < P) (h : 4503599627370496 * P ≤ A) (e : 2 * x = 18014398509481983 * P) : x < 2 * A := by
  have h2 : 18014398509481983 * P + P = 4 * (4503599627370496 * P) := by rw [← Nat.mul_assoc, ← Nat.succ_mul]
  generalize 4503599627370496 * P = Q at *
  generalize 18014398509481983 * P = R at *
  omega
theorem lit3 : 2 * 9007199254740992 + 1 = 18014398509481985 := by decide
theorem core_Q (L m S A Dd : Nat) (hS : S = L + Dd) (hL : 1 ≤ L) (hm : m ≤ 9007199254740992) (p1 : 2 * A ≤ (2 * m + 1) * 2 ^ S) (p1t : 2 * A = (2 * m + 1) * 2 ^ S → m % 2 = 0)
    (p2 : 2 * m * 2 ^ S ≤ 2 * A + 2 ^ S) (p2t : 2 * m * 2 ^ S = 2 * A + 2 ^ S → m % 2 = 0) (p3 : 2 ≤ L → 4503599627370496 ≤ m ∧ 4503599627370496 * 2 ^ S ≤ A) (b : Nat) (hb : b = (L - 1) * 4503599627370496 + m) :
    (2 * A ≤ hw b * 2 ^ Dd ∧ (2 * A = hw b * 2 ^ Dd → b % 2 = 0)) ∧ (1 ≤ b → hw (b - 1) * 2 ^ Dd ≤ 2 * A ∧ (hw (b - 1) * 2 ^ Dd = 2 * A → b % 2 = 0)) := by
  have hp : 0 < 2 ^ S := Nat.pow_pos (by decide)
  have hpe : 2 ^ S = 2 ^ L * 2 ^ Dd := by rw [hS, Nat.pow_add]
  have hbm : b % 2 = m % 2 := by omega
  constructor
  · by_cases q : m < 9007199254740992
    · have e : hw b * 2 ^ Dd = (2 * m + 1) * 2 ^ S := by rw [hb, hw_of L m hL q (fun z => (p3 z).1), hpe, Nat.mul_assoc]
      rw [e, hbm]
      exact ⟨p1, p1t⟩
    · obtain rfl : m = 9007199254740992 := by omega
      have e : hw b * 2 ^ Dd = 18014398509481986 * 2 ^ S := by
        rw [hb, show (L - 1) * 4503599627370496 + 9007199254740992 = (L + 1 - 1) * 4503599627370496 + 4503599627370496 by omega, hw_of (L + 1) 4503599627370496 (by omega) (by decide) (by omega), pow_S, hpe, mul3, lit1]
      rw [lit3] at p1
      have z := top_tie A _ hp p1
      rw [e]
      exact ⟨Nat.le_of_lt z, fun y => absurd y (Nat.ne_of_lt z)⟩
  · intro h1
    by_cases q : 2 ≤ L ∧ m = 4503599627370496
    · obtain ⟨q1, rfl⟩ := q
      obtain ⟨K, rfl⟩ : ∃ K, L = K + 1 := ⟨L - 1, by omega⟩
      have hA := (p3 q1).2
      have e : b - 1 = (K - 1) * 4503599627370496 + 9007199254740991 := by omega
      have e2 : 2 * (hw (b - 1) * 2 ^ Dd) = 18014398509481983 * 2 ^ S := by
        rw [e, hw_of K 9007199254740991 (by omega) (by decide) (by omega), hpe, pow_S, mul4, lit2]
      have z := bot_tie A _ _ hp hA e2
      exact ⟨Nat.le_of_lt z, fun y => absurd y (Nat.ne_of_lt z)⟩
    · have hm1 : 1 ≤ m := by
        rcases Nat.eq_zero_or_pos m with z | z
        · by_cases y : 2 ≤ L
          · have := (p3 y).1; omega
          · omega
        · exact z
      have e : b - 1 = (L - 1) * 4503599627370496 + (m - 1) := by omega
      have e2 : hw (b - 1) * 2 ^ Dd = (2 * (m - 1) + 1) * 2 ^ S := by
        rw [e, hw_of L (m - 1) hL (by omega) (fun z => by have := (p3 z).1; omega), hpe, Nat.mul_assoc]
      have e3 : (2 * (m - 1) + 1) * 2 ^ S + 2 ^ S = 2 * m * 2 ^ S := by
        conv => lhs; rw [← Nat.succ_mul]
        congr 1; omega
      rw [e2, hbm]
      constructor
      · omega
      · intro z; exact p2t (by omega)
/-- Half is rounded to even. -/
def rhe (M k : Nat) : Nat := if M % 2 ^ k > 2 ^ (k - 1) then M / 2 ^ k + 1 else if M % 2 ^ k = 2 ^ (k - 1) then (if M / 2 ^ k % 2 = 1 then M / 2 ^ k + 1 else M / 2 ^ k) else M / 2 ^ k
theorem rhe_ge (M k : Nat) : M / 2 ^ k ≤ rhe M k := by
  unfold rhe; split; · omega
  split
  · split <;> omega
  · omega
theorem rhe_le (M k : Nat) : rhe M k ≤ M / 2 ^ k + 1 := by
  unfold rhe; split; · omega
  split
  · split <;> omega
  · omega
theorem rhe_core (M k : Nat) (hk : 1 ≤ k) : 2 * M ≤ (2 * rhe M k + 1) * 2 ^ k ∧ (2 * M = (2 * rhe M k + 1) * 2 ^ k → rhe M k % 2 = 0) ∧ 2 * rhe M k * 2 ^ k ≤ 2 * M + 2 ^ k ∧ (2 * rhe M k * 2 ^ k = 2 * M + 2 ^ k → rhe M k % 2 = 0) := by
  obtain ⟨j, rfl⟩ : ∃ j, k = j + 1 := ⟨k - 1, by omega⟩
  have hd := Nat.div_add_mod M (2 ^ (j + 1))
  have hr := Nat.mod_lt M (show 2 ^ (j + 1) > 0 from Nat.pow_pos (by decide))
  unfold rhe
  rw [show j + 1 - 1 = j by omega]
  rw [pow_S] at *
  generalize M % (2 * 2 ^ j) = r at *
  generalize M / (2 * 2 ^ j) = q at *
  generalize 2 ^ j = P at *
  have e0 : 2 * P * q = 2 * (q * P) := by rw [Nat.mul_assoc, Nat.mul_comm P q]
  have e1 : (2 * q + 1) * (2 * P) = 4 * (q * P) + 2 * P := by rw [Nat.add_mul, Nat.one_mul, Nat.mul_mul_mul_comm]
  have e2 : (2 * (q + 1) + 1) * (2 * P) = 4 * (q * P) + 6 * P := by
    rw [Nat.add_mul, Nat.one_mul, Nat.mul_mul_mul_comm, Nat.add_mul]; omega
  have e3 : 2 * q * (2 * P) = 4 * (q * P) := by rw [Nat.mul_mul_mul_comm]
  have e4 : 2 * (q + 1) * (2 * P) = 4 * (q * P) + 4 * P := by rw [Nat.mul_mul_mul_comm, Nat.add_mul]; omega
  rw [e0] at hd
  split
  · rw [e2, e4]; refine ⟨?_, ?_, ?_, ?_⟩ <;> (try intro _) <;> omega
  · split
    · split
      · rw [e2, e4]; refine ⟨?_, ?_, ?_, ?_⟩ <;> (try intro _) <;> omega
      · rw [e1, e3]; refine ⟨?_, ?_, ?_, ?_⟩ <;> (try intro _) <;> omega
    · rw [e1, e3]; refine ⟨?_, ?_, ?_, ?_⟩ <;> (try intro _) <;> omega
theorem bitLen_bounds : ∀ (n M : Nat), M < 2 ^ n → n ≤ 64 → Lib.bitLen M ≤ n ∧ M < 2 ^ Lib.bitLen M ∧ (M ≠ 0 → 2 ^ (Lib.bitLen M - 1) ≤ M ∧ 1 ≤ Lib.bitLen M)
  | 0, M, h, _ => by
    obtain rfl : M = 0 := by simpa using h
    exact ⟨Nat.le_of_eq rfl, by decide, fun q => absurd rfl q⟩
  | n + 1, M, h, hn => by
    by_cases q : M = 0
    · subst q
      exact ⟨Nat.zero_le _, by decide, fun q => absurd rfl q⟩
    · have h64 : M < 2 ^ 64 := Nat.lt_of_lt_of_le h (Nat.pow_le_pow_right (by decide) hn)
      obtain ⟨i1, i2, i3⟩ := bitLen_bounds n (M / 2) (by rw [Nat.pow_succ] at h; omega) (by omega)
      rw [Lib.bitLen_half M q h64]
      refine ⟨by omega, ?_, fun _ => ⟨?_, by omega⟩⟩
      · rw [Nat.add_comm, pow_S]; omega
      · by_cases z : M / 2 = 0
        · rw [z, show Lib.bitLen 0 = 0 from rfl]; show 2 ^ 0 ≤ M; omega
        · obtain ⟨j1, j2⟩ := i3 z
          rw [show 1 + Lib.bitLen (M / 2) - 1 = (Lib.bitLen (M / 2) - 1) + 1 by omega, pow_S]; omega
/-- The exponent of the last bit that is kept. -/
def lastOf (M : Nat) (E : Int) : Int := if E + Lib.bitLen M - 53 < -1074 then -1074 else E + Lib.bitLen M - 53
def mOf (M : Nat) (E : Int) : Nat := if lastOf M E - E > 63 then 0 else if lastOf M E - E > 0 then rhe M (lastOf M E - E).toNat else M * 2 ^ (-(lastOf M E - E)).toNat
def bOf (M : Nat) (E : Int) : Nat := if mOf M E = 0 then 0 else ((lastOf M E + 1075).toNat - 1) * 4503599627370496 + mOf M E
theorem last_ge (M : Nat) (E : Int) : -1074 ≤ lastOf M E ∧ E + Lib.bitLen M - 53 ≤ lastOf M E ∧ (-1074 < lastOf M E → lastOf M E = E + Lib.bitLen M - 53) := by
  unfold lastOf; split <;> omega
theorem bits63 (M : Nat) (h : M < 9223372036854775808) : Lib.bitLen M ≤ 63 ∧ M < 2 ^ Lib.bitLen M ∧ (M ≠ 0 → 2 ^ (Lib.bitLen M - 1) ≤ M ∧ 1 ≤ Lib.bitLen M) := bitLen_bounds 63 M h (by decide)
theorem m_le (M : Nat) (E : Int) (h : M < 9223372036854775808) : mOf M E ≤ 9007199254740992 := by
  obtain ⟨b1, b2, b3⟩ := bits63 M h
  obtain ⟨l1, l2, l3⟩ := last_ge M E
  unfold mOf
  split
  · omega
  · split
    · obtain ⟨k, hk⟩ : ∃ k, (lastOf M E - E).toNat = k := ⟨_, rfl⟩
      rw [hk]
      have h1 := rhe_le M k
      have h2 : M < 9007199254740992 * 2 ^ k := by
        refine Nat.lt_of_lt_of_le b2 ?_
        rw [show 9007199254740992 * 2 ^ k = 2 ^ (53 + k) by rw [Nat.pow_add]]
        exact Nat.pow_le_pow_right (by decide) (by omega)
      have h3 : M / 2 ^ k < 9007199254740992 := Nat.div_lt_of_lt_mul (by rw [Nat.mul_comm]; exact h2)
      omega
    · obtain ⟨j, hj⟩ : ∃ j, (-(lastOf M E - E)).toNat = j := ⟨_, rfl⟩
      rw [hj]
      have h2 : M * 2 ^ j ≤ 2 ^ Lib.bitLen M * 2 ^ j := Nat.mul_le_mul_right _ (Nat.le_of_lt b2)
      rw [← Nat.pow_add] at h2
      exact Nat.le_trans h2 (Nat.pow_le_pow_right (by decide) (show Lib.bitLen M + j ≤ 53 by omega))
theorem m_ge (M : Nat) (E : Int) (h : M < 9223372036854775808) (h0 : M ≠ 0) (hl : lastOf M E = E + Lib.bitLen M - 53) : 4503599627370496 ≤ mOf M E ∧ (0 < lastOf M E - E → 4503599627370496 * 2 ^ (lastOf M E - E).toNat ≤ M) := by
  obtain ⟨b1, b2, b3⟩ := bits63 M h
  obtain ⟨b3, b4⟩ := b3 h0
  unfold mOf
  rw [if_neg (by omega)]
  split
  · obtain ⟨k, hk⟩ : ∃ k, (lastOf M E - E).toNat = k := ⟨_, rfl⟩
    rw [hk]
    have h1 := rhe_ge M k
    have h2 : 4503599627370496 * 2 ^ k ≤ M := by
      refine Nat.le_trans (Nat.le_of_eq ?_) b3
      rw [show Lib.bitLen M - 1 = 52 + k by omega, Nat.pow_add]
    have h3 : 4503599627370496 ≤ M / 2 ^ k := (Nat.le_div_iff_mul_le (Nat.pow_pos (by decide))).2 h2
    exact ⟨by omega, fun _ => h2⟩
  · obtain ⟨j, hj⟩ : ∃ j, (-(lastOf M E - E)).toNat = j := ⟨_, rfl⟩
    rw [hj]
    refine ⟨?_, fun q => absurd q (by omega)⟩
    have h2 : 2 ^ (Lib.bitLen M - 1) * 2 ^ j ≤ M * 2 ^ j := Nat.mul_le_mul_right _ b3
    rw [← Nat.pow_add, show Lib.bitLen M - 1 + j = 52 by omega] at h2
    exact h2
theorem b_high (M : Nat) (E : Int) (h : M < 9223372036854775808) (h0 : M ≠ 0) (hE : 1100 < E) : 9218868437227405312 ≤ bOf M E := by
  obtain ⟨b1, b2, b3⟩ := bits63 M h
  obtain ⟨b3, b4⟩ := b3 h0
  obtain ⟨l1, l2, l3⟩ := last_ge M E
  have hl := l3 (by omega)
  obtain ⟨m1, -⟩ := m_ge M E h h0 hl
  unfold bOf
  rw [if_neg (by omega)]
  omega
theorem b_low (M : Nat) (E : Int) (h : M < 9223372036854775808) (hE : E < -1137) : bOf M E = 0 := by
  obtain ⟨b1, b2, b3⟩ := bits63 M h
  obtain ⟨l1, l2, l3⟩ := last_ge M E
  have e : lastOf M E - E > 63 := by omega
  unfold bOf mOf
  rw [if_pos e, if_pos rfl]
theorem b_zero (E : Int) : bOf 0 E = 0 := by
  have hr : ∀ k, rhe 0 k = 0 := fun k => by
    have hp : 0 < 2 ^ (k - 1) := Nat.pow_pos (by decide)
    unfold rhe
    rw [Nat.zero_mod, Nat.zero_div, if_neg (by omega), if_neg (by omega)]
  have : mOf 0 E = 0 := by
    unfold mOf
    split
    · rfl
    · split
      · exact hr _
      · exact Nat.zero_mul _
  unfold bOf
  rw [if_pos this]
theorem b_core (M : Nat) (E : Int) (h : M < 9223372036854775808) (h0 : M ≠ 0) (hE : -1137 ≤ E) (t Dd : Nat) (ht : t = (1075 + E).toNat) (hD : Dd = (-(1075 + E)).toNat) :
    (2 * (M * 2 ^ t) ≤ hw (bOf M E) * 2 ^ Dd ∧ (2 * (M * 2 ^ t) = hw (bOf M E) * 2 ^ Dd → bOf M E % 2 = 0)) ∧ (1 ≤ bOf M E → hw (bOf M E - 1) * 2 ^ Dd ≤ 2 * (M * 2 ^ t) ∧ (hw (bOf M E - 1) * 2 ^ Dd = 2 * (M * 2 ^ t) → bOf M E % 2 = 0)) := by
  obtain ⟨b1, b2, b3⟩ := bits63 M h
  obtain ⟨b3, b4⟩ := b3 h0
  obtain ⟨l1, l2, l3⟩ := last_ge M E
  have hml := m_le M E h
  have hmg := fun q => m_ge M E h h0 (l3 q)
  have hb : bOf M E = ((lastOf M E + 1075).toNat - 1) * 4503599627370496 + mOf M E := by
    unfold bOf
    split
    · rename_i q
      rw [q]
      by_cases z : -1074 < lastOf M E
      · have := (hmg z).1; omega
      · omega
    · rfl
  obtain ⟨L, hL⟩ : ∃ L, (lastOf M E + 1075).toNat = L := ⟨_, rfl⟩
  rw [hL] at hb
  have hk63 : ¬ lastOf M E - E > 63 := by
    intro q
    by_cases z : -1074 < lastOf M E
    · have := l3 z; omega
    · omega
  have htp : 0 < 2 ^ t := Nat.pow_pos (by decide)
  by_cases hk : lastOf M E - E > 0
  · obtain ⟨k, hk'⟩ : ∃ k, (lastOf M E - E).toNat = k := ⟨_, rfl⟩
    have hm : mOf M E = rhe M k := by unfold mOf; rw [if_neg hk63, if_pos hk, hk']
    obtain ⟨r1, r2, r3, r4⟩ := rhe_core M k (by omega)
    rw [← hm] at r1 r2 r3 r4
    have eS : 2 ^ (k + t) = 2 ^ k * 2 ^ t := Nat.pow_add _ _ _
    have a1 : 2 * (M * 2 ^ t) = 2 * M * 2 ^ t := (Nat.mul_assoc _ _ _).symm
    have a2 : (2 * mOf M E + 1) * (2 ^ k * 2 ^ t) = (2 * mOf M E + 1) * 2 ^ k * 2 ^ t := (Nat.mul_assoc _ _ _).symm
    have a3 : 2 * mOf M E * (2 ^ k * 2 ^ t) = 2 * mOf M E * 2 ^ k * 2 ^ t := (Nat.mul_assoc _ _ _).symm
    have a4 : 2 * M * 2 ^ t + 2 ^ k * 2 ^ t = (2 * M + 2 ^ k) * 2 ^ t := (Nat.add_mul _ _ _).symm
    refine core_Q L (mOf M E) (k + t) (M * 2 ^ t) Dd (by omega) (by omega) hml ?_ ?_ ?_ ?_ ?_ _ hb
    · rw [eS, a1, a2]; exact Nat.mul_le_mul_right _ r1
    · rw [eS, a1, a2]; intro z; exact r2 (Nat.eq_of_mul_eq_mul_right htp z)
    · rw [eS, a1, a3, a4]; exact Nat.mul_le_mul_right _ r3
    · rw [eS, a1, a3, a4]; intro z; exact r4 (Nat.eq_of_mul_eq_mul_right htp z)
    · intro z
      obtain ⟨g1, g2⟩ := hmg (by omega)
      refine ⟨g1, ?_⟩
      rw [eS, ← Nat.mul_assoc]
      have := g2 hk
      rw [hk'] at this
      exact Nat.mul_le_mul_right _ this
  · obtain ⟨j, hj⟩ : ∃ j, (-(lastOf M E - E)).toNat = j := ⟨_, rfl⟩
    have hm : mOf M E = M * 2 ^ j := by unfold mOf; rw [if_neg hk63, if_neg hk, hj]
    have hA : M * 2 ^ t = mOf M E * 2 ^ L := by
      rw [hm, Nat.mul_assoc, ← Nat.pow_add, show j + L = t by omega]
    have hLp : 0 < 2 ^ L := Nat.pow_pos (by decide)
    rw [hA]
    refine core_Q L (mOf M E) L (mOf M E * 2 ^ L) Dd (by omega) (by omega) hml ?_ ?_ ?_ ?_ ?_ _ hb
    · rw [← Nat.mul_assoc]; exact Nat.mul_le_mul_right _ (by omega)
    · rw [← Nat.mul_assoc]; intro z; exact absurd (Nat.eq_of_mul_eq_mul_right hLp z) (by omega)
    · rw [Nat.mul_assoc]; omega
    · rw [Nat.mul_assoc]; intro z; omega
    · intro z
      obtain ⟨g1, -⟩ := hmg (by omega)
      exact ⟨g1, Nat.mul_le_mul_right _ g1⟩
end Go.Proofs.YtnbdmmepdmmbmaaDoor
