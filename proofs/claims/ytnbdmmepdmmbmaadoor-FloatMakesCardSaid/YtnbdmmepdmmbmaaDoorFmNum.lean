/- What the reference's scaled numbers compute. No statement is proved here. -/
import Derived.Test.YtnbdmmepdmmbmaaDoorFmEv
namespace Go.Proofs.YtnbdmmepdmmbmaaDoor.PFm
open Go.RowKit Go.Proofs.YtnbdmmepdmmbmaaDoorW.PrintWords Go.Proofs.YtnbdmmepdmmbmaaDoorW.PrintLast Go.Proofs.YtnbdmmepdmmbmaaDoorW.PrintMore Go.Proofs.YtnbdmmepdmmbmaaDoor Go.Proofs.YtnbdmmepdmmbmaaDoor.Plug
set_option linter.unusedVariables false
set_option linter.unusedSimpArgs false
theorem power_loop (b : Nat) (hb : b ≤ 5) : ∀ (e n p : Nat), n < 10 ^ p → p + e ≤ 900000 → Ev (fun k => clapref1_power.l0 k (D n) (b : Int) (e : Int)) (D (n * b ^ e)) := by
  intro e
  induction e using Nat.strongRecOn with
  | _ e ih =>
    intro n p hn hp
    apply Ev.succ
    have hbb : b * b ≤ 25 := Nat.mul_le_mul hb hb
    by_cases h2 : 2 ≤ e
    · have e1 := wmul b b (Nat.le_trans hbb (by decide))
      have e2 : wrap64 ((e : Int) - 2) = ((e - 2 : Nat) : Int) := by rw [wrap_eq (by omega) (by omega)]; omega
      have e3 : n * b ^ e = n * (b * b) * b ^ (e - 2) := by
        conv => lhs; rw [show e = 2 + (e - 2) by omega, Nat.pow_add]
        rw [show b ^ 2 = b * b by rw [Nat.pow_succ, Nat.pow_one], Nat.mul_assoc n]
      have hn2 : n * (b * b) < 10 ^ (p + 2) := by
        rw [Nat.pow_add]
        exact Nat.lt_of_le_of_lt (Nat.mul_le_mul_left n (Nat.le_trans hbb (by decide : 25 ≤ 10 ^ 2))) (Nat.mul_lt_mul_of_pos_right hn (by decide))
      have IH := ih (e - 2) (by omega) (n * (b * b)) (p + 2) hn2 (by omega)
      rw [e3]
      have hl := decL_len n p hn
      have T := times_ev n (b * b) hbb (by omega)
      simp only [clapref1_power.l0, if_pos (show (e : Int) ≥ 2 by omega), e1, e2]
      exact Ev.bind T IH
    · have hl := decL_len n p hn
      by_cases h1 : e = 1
      · subst h1
        have T := times_ev n b (by omega) (by omega)
        simp only [clapref1_power.l0, if_neg (show ¬ ((1 : Nat) : Int) ≥ 2 by decide), if_pos (show ((1 : Nat) : Int) = 1 from rfl)]
        rw [Nat.pow_one]
        exact Ev.bind T (Ev.now _)
      · obtain rfl : e = 0 := by omega
        simp only [clapref1_power.l0, if_neg (show ¬ ((0 : Nat) : Int) ≥ 2 by decide), if_neg (show ¬ ((0 : Nat) : Int) = 1 by decide)]
        rw [Nat.pow_zero, Nat.mul_one]
        exact Ev.now _
theorem power_ev (b e n p : Nat) (hb : b ≤ 5) (hn : n < 10 ^ p) (hp : p + e ≤ 900000) : Ev (fun k => clapref1_power.f k (D n) (b : Int) (e : Int)) (D (n * b ^ e)) := power_loop b hb e n p hn hp
theorem decL_shift (n k : Nat) (h : n ≠ 0) : decL n ++ List.replicate k 48 = decL (n * 10 ^ k) := by
  have hv : valL (decL n ++ List.replicate k 48) = n * 10 ^ k := by
    rw [valL_append, valL_zeros, decL_val, List.length_replicate, Nat.add_zero]
  have hz : digL (List.replicate k 48) := by
    intro c hc
    rw [(List.mem_replicate.1 hc).2]; decide
  rw [← hv]
  refine canon _ _ rfl (digL_append (decL_dig n) hz) ?_
  intro c t e
  cases hd : decL n with
  | nil => exact absurd ((decL_nil n).1 hd) h
  | cons x y =>
    rw [hd] at e
    injection e with e1 _
    rw [← e1]
    exact decL_head n x y hd
theorem D_zero : D 0 = ⟨#[]⟩ := by unfold D; rw [decL_zero]
theorem zeros_D (n k : Nat) (hk : k ≤ 1000000) : clapref1_zeros.f (D n) (k : Int) = some (if n = 0 then D 0 else ⟨(List.replicate k 48).toArray⟩) := by
  unfold clapref1_zeros.f
  rw [lb_D]
  by_cases h : n = 0
  · rw [if_pos ((decL_nil n).2 h), if_pos h, D_zero]
  · rw [if_neg (fun q => h ((decL_nil n).1 q)), if_pos (by omega), if_neg h, Int.toNat_natCast]
theorem D_join (n v k : Nat) (h : n = 0 → v = 0) : (D v ++ (if v = 0 then D 0 else (⟨(List.replicate k 48).toArray⟩ : ByteArray))) = D (v * 10 ^ k) := by
  apply lb_ext
  rw [lb_append, lb_D, lb_D]
  by_cases q : v = 0
  · rw [if_pos q, q, Nat.zero_mul, decL_zero, lb_D, decL_zero]; rfl
  · rw [if_neg q, lb_mk, decL_shift _ _ q]
/-- Five, 1075 times. -/
def P5 : Nat := 5 ^ 1075
theorem pow5_pos (k : Nat) : 0 < 5 ^ k := Nat.pow_pos (by decide)
theorem pow5_lt (k : Nat) (h : k ≠ 0) : 5 ^ k < 10 ^ k := Nat.pow_lt_pow_left (by decide) h
theorem up_any (M e k : Nat) : M * 2 ^ e * 10 ^ k = M * 2 ^ (k + e) * 5 ^ k := by
  rw [show (10 : Nat) = 2 * 5 from rfl, Nat.mul_pow, Nat.add_comm k e, Nat.pow_add, Nat.mul_assoc, Nat.mul_assoc, Nat.mul_assoc]
theorem P5_pos : 0 < P5 := by unfold P5; exact pow5_pos 1075
theorem P5_lt : P5 < 10 ^ 1075 := by unfold P5; exact pow5_lt 1075 (by decide)
attribute [irreducible] P5
theorem ten_up (M e : Nat) : M * 2 ^ e * 10 ^ 1075 = M * 2 ^ (1075 + e) * P5 := by
  unfold P5
  exact up_any M e 1075
theorem ten_down (M j : Nat) (h : j ≤ 1075) : M * 5 ^ j * 10 ^ (1075 - j) = M * 2 ^ (1075 - j) * P5 := by
  unfold P5
  have e : (5 : Nat) ^ 1075 = 5 ^ j * 5 ^ (1075 - j) := by rw [← Nat.pow_add, show j + (1075 - j) = 1075 by omega]
  rw [e, show (10 : Nat) = 2 * 5 from rfl, Nat.mul_pow]
  generalize 5 ^ j = a
  generalize (5 : Nat) ^ (1075 - j) = b
  generalize (2 : Nat) ^ (1075 - j) = c
  rw [Nat.mul_assoc, Nat.mul_assoc, ← Nat.mul_assoc a c b, Nat.mul_comm a c, Nat.mul_assoc c a b]
theorem size_join (n v k : Nat) (p : Nat) (hv : v < 10 ^ p) (hp : p ≤ 900000) (hk : k ≤ 1000000) : (D v).size + (if n = 0 then D 0 else (⟨(List.replicate k 48).toArray⟩ : ByteArray)).size ≤ 9223372036854775807 := by
  have h1 := decL_len v p hv
  rw [D_size]
  by_cases q : n = 0
  · rw [if_pos q, D_size, decL_zero, List.length_nil]; omega
  · rw [if_neg q]
    have : (⟨(List.replicate k 48).toArray⟩ : ByteArray).size = k := by rw [← lb_len, lb_mk, List.length_replicate]
    omega
theorem lt_pow (M p e b : Nat) (hM : M < 10 ^ p) (hb : b ≤ 10) (hb0 : 0 < b) : M * b ^ e < 10 ^ (p + e) := by
  rw [Nat.pow_add]
  exact Nat.lt_of_le_of_lt (Nat.mul_le_mul_left M (Nat.pow_le_pow_left hb e)) (Nat.mul_lt_mul_of_pos_right hM (Nat.pow_pos (by decide)))
theorem Scaled_ev (M : Nat) (e : Int) (hM : M < 9223372036854775808) (h1 : -1075 ≤ e) (h2 : e ≤ 1100) : Ev (fun k => clapref1_Scaled.f k (M : Int) e) (D (M * 2 ^ (1075 + e).toNat * P5)) := by
  obtain ⟨s, hs, ds, vs, -, -⟩ := numeral_ev M hM
  have hc := clean_D s ds
  rw [vs] at hc
  have hM19 : M < 10 ^ 19 := Nat.lt_of_lt_of_le hM (by decide)
  unfold clapref1_Scaled.f
  refine Ev.bind hs (Ev.opt hc ?_)
  by_cases h : e ≥ 0
  · obtain ⟨j, rfl⟩ : ∃ j : Nat, e = j := ⟨e.toNat, by omega⟩
    simp only [if_pos h]
    have hP := power_ev 2 j M 19 (by decide) hM19 (by omega)
    have hZ := zeros_D M 1075 (by decide)
    have hsz := size_join M (M * 2 ^ j) 1075 (19 + j) (lt_pow M 19 j 2 hM19 (by decide) (by decide)) (by omega) (by decide)
    have hj : D (M * 2 ^ j) ++ (if M = 0 then D 0 else (⟨(List.replicate 1075 48).toArray⟩ : ByteArray)) = D (M * 2 ^ (1075 + j) * P5) := by
      have q : (M * 2 ^ j = 0) = (M = 0) := by
        rw [Nat.mul_eq_zero]; simp
      rw [← ten_up, ← D_join M (M * 2 ^ j) 1075 (fun z => by rw [z, Nat.zero_mul])]
      simp only [q]
    refine Ev.bind hP (Ev.opt hZ ?_)
    simp only [if_pos hsz, hj]
    rw [show ((1075 : Int) + (j : Int)).toNat = 1075 + j by omega]
    exact Ev.now _
  · obtain ⟨j, rfl, hj0⟩ : ∃ j : Nat, e = -(j : Int) ∧ j ≤ 1075 := ⟨(-e).toNat, by omega, by omega⟩
    simp only [if_neg h]
    have e1 : wrap64 (- -(j : Int)) = (j : Int) := by rw [wrap_eq (by omega) (by omega)]; omega
    have e2 : wrap64 (1075 + -(j : Int)) = ((1075 - j : Nat) : Int) := by rw [wrap_eq (by omega) (by omega)]; omega
    have hP := power_ev 5 j M 19 (by decide) hM19 (by omega)
    have hZ := zeros_D (M * 5 ^ j) (1075 - j) (by omega)
    have hsz := size_join (M * 5 ^ j) (M * 5 ^ j) (1075 - j) (19 + j) (lt_pow M 19 j 5 hM19 (by decide) (by decide)) (by omega) (by omega)
    have hj : D (M * 5 ^ j) ++ (if M * 5 ^ j = 0 then D 0 else (⟨(List.replicate (1075 - j) 48).toArray⟩ : ByteArray)) = D (M * 2 ^ (1075 - j) * P5) := by
      rw [← ten_down M j hj0, ← D_join M (M * 5 ^ j) (1075 - j) (fun z => by rw [z, Nat.zero_mul])]
    simp only [e1, e2]
    refine Ev.bind hP (Ev.opt hZ ?_)
    simp only [if_pos hsz, hj]
    rw [show ((1075 : Int) + -(j : Int)).toNat = 1075 - j by omega]
    exact Ev.now _
theorem bytesLess_val : ∀ a b : List UInt8, a.length = b.length → digL a → digL b → Op.bytesLess a b = decide (valL a < valL b)
  | [], [], _, _, _ => by simp [Op.bytesLess, valL]
  | [], _ :: _, h, _, _ => by simp at h
  | _ :: _, [], h, _, _ => by simp at h
  | c :: x, d :: y, h, ha, hb => by
    have hl : x.length = y.length := by simpa using h
    have hdx : digL x := fun z hz => ha z (by simp [hz])
    have hdy : digL y := fun z hz => hb z (by simp [hz])
    have hc := ha c (by simp)
    have hd := hb d (by simp)
    have hx := valL_lt x hdx
    have hy := valL_lt y hdy
    have IH := bytesLess_val x y hl hdx hdy
    simp only [Op.bytesLess, valL, IH, hl]
    rw [hl] at hx
    generalize 10 ^ y.length = P at hx hy ⊢
    rcases Nat.lt_trichotomy c.toNat d.toNat with q | q | q
    · have h1 : (c.toNat - 48 + 1) * P ≤ (d.toNat - 48) * P := Nat.mul_le_mul_right _ (by omega)
      rw [Nat.add_mul, Nat.one_mul] at h1
      have h2 : (c < d) := UInt8.lt_iff_toNat_lt.2 q
      simp only [h2, decide_true, Bool.true_or]
      symm
      rw [decide_eq_true_eq]; omega
    · obtain rfl : c = d := UInt8.toNat_inj.1 q
      have h2 : ¬ (c < c) := fun z => absurd (UInt8.lt_iff_toNat_lt.1 z) (by omega)
      simp only [h2, decide_false, Bool.false_or, beq_self_eq_true, Bool.true_and]
      rw [decide_eq_decide]; omega
    · have h1 : (d.toNat - 48 + 1) * P ≤ (c.toNat - 48) * P := Nat.mul_le_mul_right _ (by omega)
      rw [Nat.add_mul, Nat.one_mul] at h1
      have h2 : ¬ (c < d) := fun z => absurd (UInt8.lt_iff_toNat_lt.1 z) (by omega)
      have h3 : (c == d) = false := by
        rw [beq_eq_false_iff_ne]; intro z; rw [z] at q; omega
      simp only [h2, decide_false, Bool.false_or, h3, Bool.false_and]
      symm
      rw [decide_eq_false_iff_not]; omega
theorem less_D (m n : Nat) : clapref1_less.f (D m) (D n) = some (decide (m < n)) := by
  unfold clapref1_less.f
  rw [D_size, D_size, lb_toList, lb_toList, lb_D, lb_D]
  by_cases h : (decL m).length = (decL n).length
  · rw [if_pos (by omega), bytesLess_val _ _ h (decL_dig m) (decL_dig n), decL_val, decL_val]
  · rw [if_neg (by omega)]
    congr 1
    rw [decide_eq_decide]
    constructor
    · intro q; exact decL_lt_len (by omega)
    · intro q
      rcases Nat.lt_or_ge (decL m).length (decL n).length with z | z
      · omega
      · have := decL_lt_len (m := n) (n := m) (by omega)
        omega
theorem D_inj (m n : Nat) : ((D m).toList = (D n).toList) = (m = n) := by
  rw [lb_toList, lb_toList, lb_D, lb_D]
  exact propext ⟨decL_inj, fun h => by rw [h]⟩
theorem plus_D (a b p : Nat) (ha : a < 10 ^ p) (hb : b < 10 ^ p) (hp : p ≤ 100000) : clapref1_plus.f (D a) (D b) = some (D (a + b)) := by
  unfold clapref1_plus.f
  have h1 := decL_len a p ha
  have h2 := decL_len b p hb
  rw [lb_D, lb_D, if_pos ⟨by rw [D_size]; omega, by rw [D_size]; omega, (digB_iff _).2 (decL_dig a), (digB_iff _).2 (decL_dig b)⟩, decL_val, decL_val]
  rfl
end Go.Proofs.YtnbdmmepdmmbmaaDoor.PFm
