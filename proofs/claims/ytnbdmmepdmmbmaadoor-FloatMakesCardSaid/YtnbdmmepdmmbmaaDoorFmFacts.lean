/- What the rounded number and the scaled mantissa have to do with each other. No program in sight. -/
import Derived.Test.YtnbdmmepdmmbmaaDoorFmCore
namespace Go.Proofs.YtnbdmmepdmmbmaaDoor
set_option linter.unusedVariables false
theorem hw_zero : hw 0 = 2 := rfl
theorem core_any (M : Nat) (E : Int) (h : M < 9223372036854775808) (hE : -1137 ≤ E) (t Dd : Nat) (ht : t = (1075 + E).toNat) (hD : Dd = (-(1075 + E)).toNat) :
    (2 * (M * 2 ^ t) ≤ hw (bOf M E) * 2 ^ Dd ∧ (2 * (M * 2 ^ t) = hw (bOf M E) * 2 ^ Dd → bOf M E % 2 = 0)) ∧ (1 ≤ bOf M E → hw (bOf M E - 1) * 2 ^ Dd ≤ 2 * (M * 2 ^ t) ∧ (hw (bOf M E - 1) * 2 ^ Dd = 2 * (M * 2 ^ t) → bOf M E % 2 = 0)) := by
  by_cases h0 : M = 0
  · subst h0
    rw [b_zero E, Nat.zero_mul, Nat.mul_zero]
    exact ⟨⟨Nat.zero_le _, fun _ => rfl⟩, fun q => absurd q (by decide)⟩
  · exact b_core M E h h0 hE t Dd ht hD
/-- The bits of the greatest finite number. -/
def most : Nat := 9218868437227405311
theorem most_odd : most % 2 = 1 := by decide
theorem hw_most : hw most = 18014398509481983 * 2 ^ 2046 := by
  have e : most = (2046 - 1) * 4503599627370496 + 9007199254740991 := by decide
  rw [e, hw_of 2046 9007199254740991 (by decide) (by decide) (fun _ => by decide), lit2]
theorem pow_any (a b c x : Nat) (h : a + b ≤ c) (hx : x ≤ 2 ^ a) : x * 2 ^ b ≤ 2 ^ c := by
  refine Nat.le_trans (Nat.mul_le_mul_right _ hx) ?_
  rw [← Nat.pow_add]
  exact Nat.pow_le_pow_right (by decide) h
theorem most_le (a b M : Nat) (h : a + 54 ≤ b) (hM : 0 < M) : 18014398509481983 * 2 ^ a ≤ 2 * (M * 2 ^ b) := by
  have h1 := pow_any 54 a b 18014398509481983 (by omega) (by decide)
  have h2 : 1 * 2 ^ b ≤ M * 2 ^ b := Nat.mul_le_mul_right _ hM
  generalize 2 ^ b = B at *
  omega
theorem b_small (M : Nat) (E : Int) (h : M < 9223372036854775808) (hE : E ≤ -1000) : bOf M E ≤ most := by
  obtain ⟨b1, b2, b3⟩ := bits63 M h
  obtain ⟨l1, l2, l3⟩ := last_ge M E
  have hm := m_le M E h
  unfold bOf
  split
  · exact Nat.zero_le _
  · have hL : (lastOf M E + 1075).toNat - 1 ≤ 100 := by
      by_cases z : -1074 < lastOf M E
      · have := l3 z; omega
      · omega
    have h2 : ((lastOf M E + 1075).toNat - 1) * 4503599627370496 ≤ 100 * 4503599627370496 := Nat.mul_le_mul_right _ hL
    exact Nat.le_trans (Nat.add_le_add h2 hm) (by decide)
theorem facts (M : Nat) (e E E' : Int) (h : M < 9223372036854775808) (he : -1075 ≤ e) (hE : E = if 5000 < e then 5000 else e) (hE' : E' = if 1100 < e then 1100 else e) :
    (most < bOf M E → hw most ≤ 2 * (M * 2 ^ (1075 + E').toNat)) ∧ (bOf M E ≤ most → 2 * (M * 2 ^ (1075 + E').toNat) < hw most ∧ (2 * (M * 2 ^ (1075 + E').toNat) ≤ hw (bOf M E) ∧ (2 * (M * 2 ^ (1075 + E').toNat) = hw (bOf M E) → bOf M E % 2 = 0)) ∧ (1 ≤ bOf M E → hw (bOf M E - 1) ≤ 2 * (M * 2 ^ (1075 + E').toNat) ∧ (hw (bOf M E - 1) = 2 * (M * 2 ^ (1075 + E').toNat) → bOf M E % 2 = 0))) := by
  by_cases h0 : M = 0
  · subst h0
    rw [b_zero E, Nat.zero_mul, Nat.mul_zero]
    refine ⟨fun q => absurd q (by decide), fun _ => ⟨?_, ⟨Nat.zero_le _, fun _ => rfl⟩, fun q => absurd q (by decide)⟩⟩
    exact Nat.lt_of_le_of_lt (Nat.zero_le _) (hw_strict (show 0 < most by decide))
  · by_cases hbig : 1100 < e
    · have hb := b_high M E h h0 (by rw [hE]; split <;> omega)
      have eE' : E' = 1100 := by rw [hE', if_pos hbig]
      rw [eE']
      refine ⟨fun _ => ?_, fun q => absurd q (by unfold most; omega)⟩
      rw [hw_most, show ((1075 : Int) + 1100).toNat = 2175 by decide]
      exact most_le 2046 2175 M (by decide) (Nat.pos_of_ne_zero h0)
    · have eE : E = e := by rw [hE]; split <;> omega
      have eE' : E' = e := by rw [hE', if_neg hbig]
      rw [eE, eE']
      have C := core_any M e h (by omega) (1075 + e).toNat 0 rfl (by omega)
      rw [Nat.pow_zero, Nat.mul_one, Nat.mul_one] at C
      generalize 2 * (M * 2 ^ (1075 + e).toNat) = X at *
      generalize bOf M e = b at *
      obtain ⟨⟨c1, c2⟩, c3⟩ := C
      constructor
      · intro q
        exact Nat.le_trans (hw_mono (by omega)) (c3 (by omega)).1
      · intro q
        refine ⟨?_, ⟨c1, c2⟩, c3⟩
        rcases Nat.lt_or_ge X (hw most) with z | z
        · exact z
        · exfalso
          have h1 := hw_mono q
          have h2 := c2 (by omega)
          have h3 : b = most := by
            rcases Nat.lt_or_ge b most with y | y
            · have := hw_strict y; omega
            · omega
          rw [h3, most_odd] at h2
          exact absurd h2 (by decide)
/-- The same below 2^-1075: a rest is cut off. -/
theorem facts_low (M : Nat) (e E : Int) (k : Nat) (h : M < 9223372036854775808) (he : e < -1075) (hE : E = if e < -5000 then -5000 else e) (hk : k = if 63 < -1075 - e then 63 else (-1075 - e).toNat) :
    (2 * (M / 2 ^ k) ≤ hw (bOf M E) ∧ (2 * (M / 2 ^ k) = hw (bOf M E) → M % 2 ^ k = 0 ∧ bOf M E % 2 = 0)) ∧ (1 ≤ bOf M E → hw (bOf M E - 1) ≤ 2 * (M / 2 ^ k) ∧ (hw (bOf M E - 1) = 2 * (M / 2 ^ k) → M % 2 ^ k ≠ 0 ∨ bOf M E % 2 = 0)) := by
  by_cases hlow : e < -1137
  · have hb : bOf M E = 0 := b_low M E h (by rw [hE]; split <;> omega)
    have hk63 : k = 63 := by rw [hk]; split <;> omega
    rw [hb, hk63]
    have hd : M / 2 ^ 63 = 0 := Nat.div_eq_of_lt h
    rw [hd, hw_zero]
    exact ⟨⟨by decide, fun q => absurd q (by decide)⟩, fun q => absurd q (by decide)⟩
  · have eE : E = e := by rw [hE, if_neg (by omega)]
    have ek : k = (-(1075 + e)).toNat := by rw [hk, if_neg (by omega)]; congr 1; omega
    have C := core_any M e h (by omega) 0 k (by omega) ek
    rw [eE]
    rw [Nat.pow_zero, Nat.mul_one] at C
    have hd := Nat.div_add_mod M (2 ^ k)
    have hp : 0 < 2 ^ k := Nat.pow_pos (by decide)
    have hr := Nat.mod_lt M hp
    generalize M / 2 ^ k = q at *
    generalize M % 2 ^ k = r at *
    generalize bOf M e = b at *
    obtain ⟨⟨c1, c2⟩, c3⟩ := C
    obtain ⟨a, ha⟩ := hw_even b
    obtain ⟨a', ha'⟩ := hw_even (b - 1)
    rw [ha] at c1 c2 ⊢
    rw [ha'] at c3 ⊢
    rw [Nat.mul_assoc] at c1 c2 c3
    clear ek hk hlow he eE
    generalize 2 ^ k = P at *
    rw [Nat.mul_comm P q] at hd
    have d1 : M ≤ a * P := by omega
    have d2 : M = a * P → b % 2 = 0 := fun z => c2 (by rw [z])
    have d3 : 1 ≤ b → a' * P ≤ M ∧ (a' * P = M → b % 2 = 0) := fun z => ⟨by have := (c3 z).1; omega, fun y => (c3 z).2 (by rw [y])⟩
    clear c1 c2 c3
    have q1 : q ≤ a := by
      rcases Nat.lt_or_ge a q with z | z
      · have : (a + 1) * P ≤ q * P := Nat.mul_le_mul_right _ z
        rw [Nat.add_mul, Nat.one_mul] at this; omega
      · exact z
    refine ⟨⟨by omega, ?_⟩, ?_⟩
    · intro z
      obtain rfl : q = a := by omega
      have : M = q * P := by omega
      exact ⟨by omega, d2 this⟩
    · intro z
      obtain ⟨f1, f2⟩ := d3 z
      have q2 : a' ≤ q := by
        rcases Nat.lt_or_ge q a' with y | y
        · have : (q + 1) * P ≤ a' * P := Nat.mul_le_mul_right _ y
          rw [Nat.add_mul, Nat.one_mul] at this; omega
        · exact y
      refine ⟨by omega, fun y => ?_⟩
      obtain rfl : a' = q := by omega
      by_cases x : r = 0
      · exact Or.inr (f2 (by omega))
      · exact Or.inl x
end Go.Proofs.YtnbdmmepdmmbmaaDoor
