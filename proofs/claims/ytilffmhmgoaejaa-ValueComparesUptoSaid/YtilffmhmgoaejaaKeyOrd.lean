/- Keys are ordered as Cmp says: the bytes of a value's key against its parts. No statement is proved here. -/
import Derived.Test.YtilffmhmgoaejaaPlugCmpA
import Derived.Test.YtilffmhmgoaejaaPlugKey
import Derived.Test.YtilffmhmgoaejaaValOpen
import Derived.Test.YtilffmhmgoaejaaFloat
namespace Go.Proofs.Ytilffmhmgoaejaa.PVal
open Go.RowKit Go.Proofs.YtilffmhmgoaejaaW.PrintWords Go.Proofs.YtilffmhmgoaejaaW.PrintLast Go.Proofs.YtilffmhmgoaejaaW.PrintMore Go.Proofs.Ytilffmhmgoaejaa Go.Proofs.Ytilffmhmgoaejaa.Plug
set_option linter.unusedVariables false
set_option linter.unusedSimpArgs false
/-! strings are compared byte by byte -/
theorem cmp_pre (a x y : List UInt8) : Lib.compareBytes (a ++ x) (a ++ y) = Lib.compareBytes x y := by
  induction a with
  | nil => rfl
  | cons b t ih =>
    show (if b < b then (-1 : Int) else if b < b then 1 else Lib.compareBytes (t ++ x) (t ++ y)) = _
    rw [if_neg (UInt8.lt_irrefl b), if_neg (UInt8.lt_irrefl b), ih]
theorem cmp_suf (x y s t : List UInt8) (h : x.length = y.length) : Lib.compareBytes (x ++ s) (y ++ t) = if Lib.compareBytes x y = 0 then Lib.compareBytes s t else Lib.compareBytes x y := by
  induction x generalizing y with
  | nil =>
    have : y = [] := List.length_eq_zero_iff.1 h.symm
    subst this; rfl
  | cons a x ih =>
    cases y with
    | nil => simp at h
    | cons b y =>
      show (if a < b then (-1 : Int) else if b < a then 1 else Lib.compareBytes (x ++ s) (y ++ t)) = if (if a < b then (-1 : Int) else if b < a then 1 else Lib.compareBytes x y) = 0 then _ else (if a < b then (-1 : Int) else if b < a then 1 else Lib.compareBytes x y)
      by_cases q1 : a < b
      · simp only [if_pos q1]; rfl
      · by_cases q2 : b < a
        · simp only [if_neg q1, if_pos q2]; rfl
        · simp only [if_neg q1, if_neg q2]
          exact ih y (by simpa using h)
theorem cmp_self (x : List UInt8) : Lib.compareBytes x x = 0 := by
  have := cmp_pre x [] []
  simpa [Lib.compareBytes] using this
theorem cmp_one (a b : Nat) (ha : a < 256) (hb : b < 256) : Lib.compareBytes [UInt8.ofNat a] [UInt8.ofNat b] = if a < b then -1 else if b < a then 1 else 0 := by
  show (if UInt8.ofNat a < UInt8.ofNat b then (-1 : Int) else if UInt8.ofNat b < UInt8.ofNat a then 1 else 0) = _
  have e : ∀ x y : Nat, x < 256 → y < 256 → (UInt8.ofNat x < UInt8.ofNat y ↔ x < y) := fun x y hx hy => by
    rw [UInt8.lt_iff_toNat_lt, UInt8.toNat_ofNat', UInt8.toNat_ofNat']; omega
  simp only [e a b ha hb, e b a hb ha]
theorem cmp_be8 (n m : Nat) (j : Nat) (hj : j ≤ 8) : Lib.compareBytes (be8 n j) (be8 m j) = if n / 2 ^ (8 * (8 - j)) % 256 ^ j < m / 2 ^ (8 * (8 - j)) % 256 ^ j then -1 else if m / 2 ^ (8 * (8 - j)) % 256 ^ j < n / 2 ^ (8 * (8 - j)) % 256 ^ j then 1 else 0 := by
  induction j with
  | zero => simp [be8, Lib.compareBytes, Nat.mod_one]
  | succ j ih =>
    have ih := ih (by omega)
    rw [be8_succ, be8_succ, cmp_suf _ _ _ _ (by rw [be8_len, be8_len]), ih]
    have ob : ∀ x : Nat, UInt8.ofNat x = UInt8.ofNat (x % 256) := fun x => by
      apply UInt8.toNat_inj.1; rw [UInt8.toNat_ofNat', UInt8.toNat_ofNat']; omega
    rw [ob (n / _), ob (m / _), cmp_one _ _ (Nat.mod_lt _ (by decide)) (Nat.mod_lt _ (by decide))]
    have e8 : 8 * (8 - j) = 8 * (8 - (j + 1)) + 8 := by omega
    have e7 : 8 * (7 - j) = 8 * (8 - (j + 1)) := by omega
    have step : ∀ x : Nat, x / 2 ^ (8 * (8 - (j + 1))) % 256 ^ (j + 1) = (x / 2 ^ (8 * (8 - j)) % 256 ^ j) * 256 + x / 2 ^ (8 * (7 - j)) % 256 := fun x => by
      rw [e8, e7, Nat.pow_add 2 _ 8, ← Nat.div_div_eq_div_mul x]
      generalize x / 2 ^ (8 * (8 - (j + 1))) = y
      rw [Nat.pow_succ, Nat.mul_comm (256 ^ j) 256, Nat.mod_mul, show (2 : Nat) ^ 8 = 256 from rfl]
      omega
    rw [step n, step m]
    have b1 := Nat.mod_lt (n / 2 ^ (8 * (7 - j))) (show 0 < 256 by decide)
    have b2 := Nat.mod_lt (m / 2 ^ (8 * (7 - j))) (show 0 < 256 by decide)
    generalize n / 2 ^ (8 * (8 - j)) % 256 ^ j = p at *
    generalize m / 2 ^ (8 * (8 - j)) % 256 ^ j = q at *
    generalize n / 2 ^ (8 * (7 - j)) % 256 = u at *
    generalize m / 2 ^ (8 * (7 - j)) % 256 = v at *
    by_cases c1 : p < q
    · rw [if_pos c1, if_neg (by decide), if_pos (by omega)]
    · by_cases c2 : q < p
      · rw [if_neg c1, if_pos c2, if_neg (by decide), if_neg (by omega), if_pos (by omega)]
      · rw [if_neg c1, if_neg c2, if_pos rfl]
        obtain rfl : p = q := by omega
        by_cases c3 : u < v
        · rw [if_pos c3, if_pos (by omega)]
        · by_cases c4 : v < u
          · rw [if_neg c3, if_pos c4, if_neg (by omega), if_pos (by omega)]
          · rw [if_neg c3, if_neg c4, if_neg (by omega), if_neg (by omega)]
/-- Numbers of 64 bits are ordered as their bytes. -/
theorem cmp_num (n m : Nat) (hn : n < 18446744073709551616) (hm : m < 18446744073709551616) (s t : List UInt8) :
    Lib.compareBytes (be8 n 8 ++ s) (be8 m 8 ++ t) = if n < m then -1 else if m < n then 1 else Lib.compareBytes s t := by
  rw [cmp_suf _ _ _ _ (by rw [be8_len, be8_len]), cmp_be8 n m 8 (by decide)]
  simp only [Nat.sub_self, Nat.mul_zero, Nat.pow_zero, Nat.div_one]
  rw [show (256 : Nat) ^ 8 = 18446744073709551616 by decide, Nat.mod_eq_of_lt hn, Nat.mod_eq_of_lt hm]
  by_cases c1 : n < m
  · rw [if_pos c1, if_pos c1, if_neg (by decide)]
  · by_cases c2 : m < n
    · rw [if_neg c1, if_pos c2, if_neg (by decide), if_neg c1, if_pos c2]
    · rw [if_neg c1, if_neg c2, if_pos rfl, if_neg c1, if_neg c2]
/-! numbers -/
theorem u64_xor (x : Int) (h : 0 ≤ x ∧ x < 18446744073709551616) : Go.bits .xor .u64 IntKind.u64.max x = 18446744073709551615 - x := by
  obtain ⟨n, rfl⟩ : ∃ n : Nat, x = n := ⟨x.toNat, by omega⟩
  show IntKind.u64.wrap ((BitVec.ofInt 64 (IntKind.u64.max) ^^^ BitVec.ofInt 64 (n : Int)).toNat : Int) = _
  have e1 : BitVec.ofInt 64 IntKind.u64.max = BitVec.allOnes 64 := by decide
  rw [e1, BitVec.allOnes_xor, BitVec.toNat_not, BitVec.ofInt_natCast, BitVec.toNat_ofNat, IntKind.wrap_u64]
  omega
theorem u64_high (x : Int) (h : 0 ≤ x ∧ x < 9223372036854775808) : Go.bits .or .u64 x 9223372036854775808 = x + 9223372036854775808 := by
  obtain ⟨n, rfl⟩ : ∃ n : Nat, x = n := ⟨x.toNat, by omega⟩
  show IntKind.u64.wrap ((BitVec.ofInt 64 (n : Int) ||| BitVec.ofInt 64 9223372036854775808).toNat : Int) = _
  have e2 : (BitVec.ofInt 64 9223372036854775808).toNat = 2 ^ 63 := by decide
  rw [BitVec.toNat_or, e2, BitVec.ofInt_natCast, BitVec.toNat_ofNat, IntKind.wrap_u64, Nat.mod_eq_of_lt (show n < 2 ^ 64 by omega), Nat.or_comm]
  rw [nat_join 63 (2 ^ 63) n (by decide) (by omega)]
  omega
/-- What stands for a float's bits. -/
def ordZ (a : Int) : Int := if a < 0 then -1 - (a + 9223372036854775808) else a
theorem keyN_flt (a : Int) (h : -9223372036854775808 ≤ a ∧ a ≤ 9223372036854775807) : (keyN 3 a : Int) = ordZ a + 9223372036854775808 ∧ keyN 3 a < 18446744073709551616 := by
  have hw : IntKind.u64.wrap a = a % 18446744073709551616 := IntKind.wrap_u64 a
  unfold ordZ
  by_cases q : a < 0
  · rw [keyN_a rfl q, hw, u64_xor _ (by omega), if_pos q]; omega
  · rw [keyN_b rfl q, hw, u64_high _ (by omega), if_neg q]; omega

theorem or2_assoc (a b c : Int) : or2 (or2 a b) c = or2 a (or2 b c) := by
  unfold or2
  by_cases h : a = 0
  · rw [if_pos h, if_pos h]
  · rw [if_neg h, if_neg h, if_neg h]
theorem cmp_num2 (n m : Nat) (x y : Int) (hn : n < 18446744073709551616) (hm : m < 18446744073709551616) (hx : (n : Int) = x + 9223372036854775808) (hy : (m : Int) = y + 9223372036854775808) (s t : List UInt8) :
    Lib.compareBytes (be8 n 8 ++ s) (be8 m 8 ++ t) = or2 (cmpI x y) (Lib.compareBytes s t) := by
  rw [cmp_num n m hn hm]
  unfold or2 cmpI
  by_cases q1 : x < y
  · rw [if_pos (show n < m by omega), if_pos q1]; rfl
  · by_cases q2 : x > y
    · rw [if_neg (show ¬ n < m by omega), if_pos (show m < n by omega), if_neg q1, if_pos q2]; rfl
    · rw [if_neg (show ¬ n < m by omega), if_neg (show ¬ m < n by omega), if_neg q1, if_neg q2]; rfl
theorem keyK_eq (k : Int) (h : -9223372036854775808 ≤ k ∧ k ≤ 9223372036854775807) : (keyK k : Int) = k + 9223372036854775808 ∧ keyK k < 18446744073709551616 := by
  unfold keyK
  rw [IntKind.wrap_u64, IntKind.wrap_u64]
  omega
theorem ordI_eq (n : Int) (h : -9223372036854775808 ≤ n ∧ n ≤ 9223372036854775807) : ordI n = ordZ n := by
  unfold ordI ordZ
  by_cases q : n < 0
  · rw [if_pos q, if_pos q, show Go.bits .and .i64 n 9223372036854775807 = n % 9223372036854775808 from i64_and63 n]
    unfold wrap64; omega
  · rw [if_neg q, if_neg q]
theorem keyN_eq (k n : Int) (h : -9223372036854775808 ≤ n ∧ n ≤ 9223372036854775807) : (keyN k n : Int) = ordK k n + 9223372036854775808 ∧ keyN k n < 18446744073709551616 := by
  unfold ordK
  by_cases h3 : k = 3
  · subst h3
    rw [if_pos rfl, ordI_eq n h]
    exact keyN_flt n h
  · rw [if_neg h3, keyN_c h3, IntKind.wrap_u64, IntKind.wrap_u64]
    omega
theorem cmp_hd (a : UInt8) (x y : List UInt8) : Lib.compareBytes (a :: x) (a :: y) = Lib.compareBytes x y := cmp_pre [a] x y
theorem cmp_tx : ∀ (s t x y : List UInt8), Lib.compareBytes (tx s ++ 0 :: x) (tx t ++ 0 :: y) = or2 (Lib.compareBytes s t) (Lib.compareBytes x y)
  | [], [], x, y => cmp_hd 0 x y
  | [], b :: t, x, y => by
    show Lib.compareBytes (0 :: x) (1 :: b :: (tx t ++ 0 :: y)) = or2 (-1) _
    rfl
  | a :: s, [], x, y => by
    show Lib.compareBytes (1 :: a :: (tx s ++ 0 :: x)) (0 :: y) = or2 1 _
    rfl
  | a :: s, b :: t, x, y => by
    have e : Lib.compareBytes (tx (a :: s) ++ 0 :: x) (tx (b :: t) ++ 0 :: y) = Lib.compareBytes (1 :: a :: (tx s ++ 0 :: x)) (1 :: b :: (tx t ++ 0 :: y)) := rfl
    rw [e, cmp_hd]
    have ih := cmp_tx s t x y
    show (if a < b then (-1 : Int) else if b < a then 1 else Lib.compareBytes (tx s ++ 0 :: x) (tx t ++ 0 :: y)) = or2 (if a < b then (-1 : Int) else if b < a then 1 else Lib.compareBytes s t) _
    by_cases q1 : a < b
    · rw [if_pos q1, if_pos q1]; rfl
    · by_cases q2 : b < a
      · rw [if_neg q1, if_pos q2, if_neg q1, if_pos q2]; rfl
      · rw [if_neg q1, if_neg q2, if_neg q1, if_neg q2]; exact ih
theorem cmp_keyFs (d : Nat) (IH : ∀ a b : S52g S63, szV a ≤ d → rgV a → rgV b → ∀ s t, Lib.compareBytes (keyV a ++ s) (keyV b ++ t) = or2 (cmpV a b) (Lib.compareBytes s t)) :
    ∀ (l m : List S63), szFs l ≤ d → rgFs l → rgFs m → ∀ s t, Lib.compareBytes (keyFs l ++ 0 :: s) (keyFs m ++ 0 :: t) = or2 (cmpFs l m) (Lib.compareBytes s t)
  | [], [], _, _, _, s, t => cmp_hd 0 s t
  | [], g :: u, _, _, _, s, t => by
    have e : keyFs (g :: u) = 1 :: (tx (lb g.f0) ++ [0] ++ keyV g.f1 ++ keyFs u) := by show keyF g ++ keyFs u = _; rw [keyF_eq]; simp
    rw [e]
    rfl
  | f :: l, [], _, _, _, s, t => by
    have e : keyFs (f :: l) = 1 :: (tx (lb f.f0) ++ [0] ++ keyV f.f1 ++ keyFs l) := by show keyF f ++ keyFs l = _; rw [keyF_eq]; simp
    rw [e]
    rfl
  | f :: l, g :: m, h, h1, h2, s, t => by
    have e1 : keyFs (f :: l) ++ 0 :: s = 1 :: (tx (lb f.f0) ++ 0 :: (keyV f.f1 ++ (keyFs l ++ 0 :: s))) := by show keyF f ++ keyFs l ++ 0 :: s = _; rw [keyF_eq]; simp
    have e2 : keyFs (g :: m) ++ 0 :: t = 1 :: (tx (lb g.f0) ++ 0 :: (keyV g.f1 ++ (keyFs m ++ 0 :: t))) := by show keyF g ++ keyFs m ++ 0 :: t = _; rw [keyF_eq]; simp
    have hs : szFs (f :: l) = szF f + szFs l := rfl
    rw [e1, e2, cmp_hd, cmp_tx, IH f.f1 g.f1 (by rw [← szF_eq]; omega) (by rw [← rgF_eq]; exact h1.1) (by rw [← rgF_eq]; exact h2.1), cmp_keyFs d IH l m (by omega) h1.2 h2.2]
    show _ = or2 (or2 (cmpF f g) (cmpFs l m)) _
    rw [cmpF_eq, or2_assoc, or2_assoc]
    rfl
theorem cmp_keyV (d : Nat) : ∀ a b : S52g S63, szV a ≤ d → rgV a → rgV b → ∀ s t, Lib.compareBytes (keyV a ++ s) (keyV b ++ t) = or2 (cmpV a b) (Lib.compareBytes s t) := by
  induction d with
  | zero => intro a b h; rw [szV_eq] at h; omega
  | succ d ih =>
    intro a b h ha hb s t
    rw [rgV_eq] at ha hb
    rw [szV_eq] at h
    obtain ⟨ka, na, fa⟩ := ha
    obtain ⟨kb, nb, fb⟩ := hb
    obtain ⟨k1, k2⟩ := keyK_eq a.f0 (i64_of_wf ka)
    obtain ⟨k3, k4⟩ := keyK_eq b.f0 (i64_of_wf kb)
    obtain ⟨n1, n2⟩ := keyN_eq a.f0 a.f1 (i64_of_wf na)
    have e1 : keyV a ++ s = be8 (keyK a.f0) 8 ++ (be8 (keyN a.f0 a.f1) 8 ++ (tx (lb a.f2) ++ 0 :: (keyFs a.f3 ++ 0 :: s))) := by rw [keyV_eq]; simp
    have e2 : keyV b ++ t = be8 (keyK b.f0) 8 ++ (be8 (keyN b.f0 b.f1) 8 ++ (tx (lb b.f2) ++ 0 :: (keyFs b.f3 ++ 0 :: t))) := by rw [keyV_eq]; simp
    rw [e1, e2, cmp_num2 _ _ a.f0 b.f0 k2 k4 k1 k3, cmpV_eq, or2_assoc, or2_assoc]
    by_cases hk : a.f0 = b.f0
    · rw [← hk]
      obtain ⟨n3, n4⟩ := keyN_eq a.f0 b.f1 (i64_of_wf nb)
      rw [cmp_num2 _ _ _ _ n2 n4 n1 n3, cmp_tx, cmp_keyFs d ih a.f3 b.f3 (by omega) fa fb, or2_assoc]
      rfl
    · have : cmpI a.f0 b.f0 ≠ 0 := by unfold cmpI; split <;> first | decide | (split <;> first | decide | omega)
      unfold or2
      rw [if_neg this, if_neg this]
theorem cmp_keys (a b : S52g S63) (ha : rgV a) (hb : rgV b) : Lib.compareBytes (keyV a) (keyV b) = cmpV a b := by
  have := cmp_keyV _ a b (Nat.le_refl _) ha hb [] []
  rw [List.append_nil, List.append_nil] at this
  rw [this]
  exact or2_0 _
end Go.Proofs.Ytilffmhmgoaejaa.PVal
