/- The law FloatParts: at all bits its call returns true: the walk, and the plain lemmas that it needs. -/
import Derived.Test.YtilffmhmgoaejaaPlugKey
import Derived.Test.YtilffmhmgoaejaaFloat
import Derived.Deep.DeepCutAuto
import Derived.Deep.CutBlock
import Derived.Deep.RegionWith
namespace Go.Proofs.Ytilffmhmgoaejaa.PVal
open Go.RowKit Go.Proofs.YtilffmhmgoaejaaW.PrintWords Go.Proofs.YtilffmhmgoaejaaW.PrintLast Go.Proofs.YtilffmhmgoaejaaW.PrintMore Go.Proofs.Ytilffmhmgoaejaa Go.Proofs.Ytilffmhmgoaejaa.Plug
set_option linter.unusedVariables false
set_option linter.unusedSimpArgs false
/-! strings are compared byte by byte -/
theorem cmp_pre (a x y : List UInt8) : Lib.compareBytes (a ++ x) (a ++ y) = Lib.compareBytes x y := by
  induction a with
  | nil => rfl
  | cons b t ih =>
    show (if b < b then (-1 : Int) else if b < b then 1 else Lib.compareBytes (t ++ x) (t ++ y)) = _
    rw [if_neg (UInt8.lt_irrefl b), if_neg (UInt8.lt_irrefl b), ih]
theorem cmp_suf (x y s t : List UInt8) (h : x.length = y.length) : Lib.compareBytes (x ++ s) (y ++ t) = if Lib.compareBytes x y = 0 then Lib.compareBytes s t else Lib.compareBytes x y := by
  induction x generalizing y with
  | nil =>
    have : y = [] := List.length_eq_zero_iff.1 h.symm
    subst this; rfl
  | cons a x ih =>
    cases y with
    | nil => simp at h
    | cons b y =>
      show (if a < b then (-1 : Int) else if b < a then 1 else Lib.compareBytes (x ++ s) (y ++ t)) = if (if a < b then (-1 : Int) else if b < a then 1 else Lib.compareBytes x y) = 0 then _ else (if a < b then (-1 : Int) else if b < a then 1 else Lib.compareBytes x y)
      by_cases q1 : a < b
      · simp only [if_pos q1]; rfl
      · by_cases q2 : b < a
        · simp only [if_neg q1, if_pos q2]; rfl
        · simp only [if_neg q1, if_neg q2]
          exact ih y (by simpa using h)
theorem cmp_self (x : List UInt8) : Lib.compareBytes x x = 0 := by
  have := cmp_pre x [] []
  simpa [Lib.compareBytes] using this
theorem cmp_one (a b : Nat) (ha : a < 256) (hb : b < 256) : Lib.compareBytes [UInt8.ofNat a] [UInt8.ofNat b] = if a < b then -1 else if b < a then 1 else 0 := by
  show (if UInt8.ofNat a < UInt8.ofNat b then (-1 : Int) else if UInt8.ofNat b < UInt8.ofNat a then 1 else 0) = _
  have e : ∀ x y : Nat, x < 256 → y < 256 → (UInt8.ofNat x < UInt8.ofNat y ↔ x < y) := fun x y hx hy => by
    rw [UInt8.lt_iff_toNat_lt, UInt8.toNat_ofNat', UInt8.toNat_ofNat']; omega
  simp only [e a b ha hb, e b a hb ha]
theorem cmp_be8 (n m : Nat) (j : Nat) (hj : j ≤ 8) : Lib.compareBytes (be8 n j) (be8 m j) = if n / 2 ^ (8 * (8 - j)) % 256 ^ j < m / 2 ^ (8 * (8 - j)) % 256 ^ j then -1 else if m / 2 ^ (8 * (8 - j)) % 256 ^ j < n / 2 ^ (8 * (8 - j)) % 256 ^ j then 1 else 0 := by
  induction j with
  | zero => simp [be8, Lib.compareBytes, Nat.mod_one]
  | succ j ih =>
    have ih := ih (by omega)
    rw [be8_succ, be8_succ, cmp_suf _ _ _ _ (by rw [be8_len, be8_len]), ih]
    have ob : ∀ x : Nat, UInt8.ofNat x = UInt8.ofNat (x % 256) := fun x => by
      apply UInt8.toNat_inj.1; rw [UInt8.toNat_ofNat', UInt8.toNat_ofNat']; omega
    rw [ob (n / _), ob (m / _), cmp_one _ _ (Nat.mod_lt _ (by decide)) (Nat.mod_lt _ (by decide))]
    have e8 : 8 * (8 - j) = 8 * (8 - (j + 1)) + 8 := by omega
    have e7 : 8 * (7 - j) = 8 * (8 - (j + 1)) := by omega
    have step : ∀ x : Nat, x / 2 ^ (8 * (8 - (j + 1))) % 256 ^ (j + 1) = (x / 2 ^ (8 * (8 - j)) % 256 ^ j) * 256 + x / 2 ^ (8 * (7 - j)) % 256 := fun x => by
      rw [e8, e7, Nat.pow_add 2 _ 8, ← Nat.div_div_eq_div_mul x]
      generalize x / 2 ^ (8 * (8 - (j + 1))) = y
      rw [Nat.pow_succ, Nat.mul_comm (256 ^ j) 256, Nat.mod_mul, show (2 : Nat) ^ 8 = 256 from rfl]
      omega
    rw [step n, step m]
    have b1 := Nat.mod_lt (n / 2 ^ (8 * (7 - j))) (show 0 < 256 by decide)
    have b2 := Nat.mod_lt (m / 2 ^ (8 * (7 - j))) (show 0 < 256 by decide)
    generalize n / 2 ^ (8 * (8 - j)) % 256 ^ j = p at *
    generalize m / 2 ^ (8 * (8 - j)) % 256 ^ j = q at *
    generalize n / 2 ^ (8 * (7 - j)) % 256 = u at *
    generalize m / 2 ^ (8 * (7 - j)) % 256 = v at *
    by_cases c1 : p < q
    · rw [if_pos c1, if_neg (by decide), if_pos (by omega)]
    · by_cases c2 : q < p
      · rw [if_neg c1, if_pos c2, if_neg (by decide), if_neg (by omega), if_pos (by omega)]
      · rw [if_neg c1, if_neg c2, if_pos rfl]
        obtain rfl : p = q := by omega
        by_cases c3 : u < v
        · rw [if_pos c3, if_pos (by omega)]
        · by_cases c4 : v < u
          · rw [if_neg c3, if_pos c4, if_neg (by omega), if_pos (by omega)]
          · rw [if_neg c3, if_neg c4, if_neg (by omega), if_neg (by omega)]
/-- Numbers of 64 bits are ordered as their bytes. -/
theorem cmp_num (n m : Nat) (hn : n < 18446744073709551616) (hm : m < 18446744073709551616) (s t : List UInt8) :
    Lib.compareBytes (be8 n 8 ++ s) (be8 m 8 ++ t) = if n < m then -1 else if m < n then 1 else Lib.compareBytes s t := by
  rw [cmp_suf _ _ _ _ (by rw [be8_len, be8_len]), cmp_be8 n m 8 (by decide)]
  simp only [Nat.sub_self, Nat.mul_zero, Nat.pow_zero, Nat.div_one]
  rw [show (256 : Nat) ^ 8 = 18446744073709551616 by decide, Nat.mod_eq_of_lt hn, Nat.mod_eq_of_lt hm]
  by_cases c1 : n < m
  · rw [if_pos c1, if_pos c1, if_neg (by decide)]
  · by_cases c2 : m < n
    · rw [if_neg c1, if_pos c2, if_neg (by decide), if_neg c1, if_pos c2]
    · rw [if_neg c1, if_neg c2, if_pos rfl, if_neg c1, if_neg c2]
/-! numbers -/
theorem u64_xor (x : Int) (h : 0 ≤ x ∧ x < 18446744073709551616) : Go.bits .xor .u64 IntKind.u64.max x = 18446744073709551615 - x := by
  obtain ⟨n, rfl⟩ : ∃ n : Nat, x = n := ⟨x.toNat, by omega⟩
  show IntKind.u64.wrap ((BitVec.ofInt 64 (IntKind.u64.max) ^^^ BitVec.ofInt 64 (n : Int)).toNat : Int) = _
  have e1 : BitVec.ofInt 64 IntKind.u64.max = BitVec.allOnes 64 := by decide
  rw [e1, BitVec.allOnes_xor, BitVec.toNat_not, BitVec.ofInt_natCast, BitVec.toNat_ofNat, IntKind.wrap_u64]
  omega
theorem u64_high (x : Int) (h : 0 ≤ x ∧ x < 9223372036854775808) : Go.bits .or .u64 x 9223372036854775808 = x + 9223372036854775808 := by
  obtain ⟨n, rfl⟩ : ∃ n : Nat, x = n := ⟨x.toNat, by omega⟩
  show IntKind.u64.wrap ((BitVec.ofInt 64 (n : Int) ||| BitVec.ofInt 64 9223372036854775808).toNat : Int) = _
  have e2 : (BitVec.ofInt 64 9223372036854775808).toNat = 2 ^ 63 := by decide
  rw [BitVec.toNat_or, e2, BitVec.ofInt_natCast, BitVec.toNat_ofNat, IntKind.wrap_u64, Nat.mod_eq_of_lt (show n < 2 ^ 64 by omega), Nat.or_comm]
  rw [nat_join 63 (2 ^ 63) n (by decide) (by omega)]
  omega
/-- What stands for a float's bits. -/
def ordZ (a : Int) : Int := if a < 0 then -1 - (a + 9223372036854775808) else a
theorem keyN_flt (a : Int) (h : -9223372036854775808 ≤ a ∧ a ≤ 9223372036854775807) : (keyN 3 a : Int) = ordZ a + 9223372036854775808 ∧ keyN 3 a < 18446744073709551616 := by
  have hw : IntKind.u64.wrap a = a % 18446744073709551616 := IntKind.wrap_u64 a
  unfold ordZ
  by_cases q : a < 0
  · rw [keyN_a rfl q, hw, u64_xor _ (by omega), if_pos q]; omega
  · rw [keyN_b rfl q, hw, u64_high _ (by omega), if_neg q]; omega
theorem key_cmp (a b : Int) (ha : -9223372036854775808 ≤ a ∧ a ≤ 9223372036854775807) (hb : -9223372036854775808 ≤ b ∧ b ≤ 9223372036854775807) :
    Lib.compareBytes (keyV ⟨3, a, ⟨#[]⟩, []⟩) (keyV ⟨3, b, ⟨#[]⟩, []⟩) = if ordZ a < ordZ b then -1 else if ordZ a > ordZ b then 1 else 0 := by
  rw [keyV_eq, keyV_eq]
  simp only [List.append_assoc]
  rw [cmp_pre]
  obtain ⟨a1, a2⟩ := keyN_flt a ha
  obtain ⟨b1, b2⟩ := keyN_flt b hb
  rw [cmp_num _ _ a2 b2, cmp_self]
  by_cases q1 : ordZ a < ordZ b
  · rw [if_pos q1, if_pos (by omega)]
  · by_cases q2 : ordZ a > ordZ b
    · rw [if_neg q1, if_pos q2, if_neg (by omega), if_pos (by omega)]
    · rw [if_neg q1, if_neg q2, if_neg (by omega), if_neg (by omega)]
theorem i64_or52 (f : Int) (h : 0 ≤ f ∧ f < 4503599627370496) : Go.bits .or .i64 f 4503599627370496 = 4503599627370496 + f := by
  obtain ⟨n, rfl⟩ : ∃ n : Nat, f = n := ⟨f.toNat, by omega⟩
  show IntKind.i64.wrap ((BitVec.ofInt 64 (n : Int) ||| BitVec.ofInt 64 4503599627370496).toNat : Int) = _
  have e2 : (BitVec.ofInt 64 4503599627370496).toNat = 2 ^ 52 := by decide
  rw [BitVec.toNat_or, e2, BitVec.ofInt_natCast, BitVec.toNat_ofNat, Nat.mod_eq_of_lt (show n < 2 ^ 64 by omega), Nat.or_comm, nat_join 52 (2 ^ 52) n (by decide) (by omega), IntKind.wrap_i64]
  omega
def orderPost (a : Int) (w : World) (e : Ending) (w' : World) : Prop := e = .returned (.int .i64 (ordZ a)) ∧ w = w'
theorem order_any (a : Int) (h : -9223372036854775808 ≤ a ∧ a ≤ 9223372036854775807) (w : World) : Calls Try.prog 77 #[.int .i64 a] w (orderPost a w) := by
  have e1 : Go.bits .and .i64 a 9223372036854775807 = a % 9223372036854775808 := i64_and63 a
  by_cases q : a < 0
  · have HZ := Lib.hid (show ordZ a = -1 - (a + 9223372036854775808) by unfold ordZ; rw [if_pos q])
    have e2 : a % 9223372036854775808 = a + 9223372036854775808 := by omega
    go_enter Try.func77, Try.ntmps77
    go_wp2
    go_ret
    exact ⟨ret_int (by rw [HZ.out] <;> (first | omega | (unfold wrap64; omega))), rfl⟩
  · have HZ := Lib.hid (show ordZ a = a by unfold ordZ; rw [if_neg q])
    go_enter Try.func77, Try.ntmps77
    go_wp2
    go_ret
    exact ⟨ret_int HZ.out.symm, rfl⟩
def cmpZ (a b : Int) : Int := if ordZ a < ordZ b then -1 else if ordZ a > ordZ b then 1 else 0
def cmpPost (a b : Int) (w : World) (e : Ending) (w' : World) : Prop := e = .returned (.int .i64 (cmpZ a b)) ∧ w = w'
theorem cmpF_any (a b : Int) (ha : -9223372036854775808 ≤ a ∧ a ≤ 9223372036854775807) (hb : -9223372036854775808 ≤ b ∧ b ≤ 9223372036854775807) (w : World) : Calls Try.prog 38 #[.int .i64 a, .int .i64 b] w (cmpPost a b w) := by
  have HA := Lib.hid (fun w => order_any a ha w)
  have HB := Lib.hid (fun w => order_any b hb w)
  have hz : ∀ x, -9223372036854775808 ≤ x ∧ x ≤ 9223372036854775807 → -9223372036854775808 ≤ ordZ x ∧ ordZ x ≤ 9223372036854775807 := fun x h => by unfold ordZ; split <;> omega
  have za := hz a ha
  have zb := hz b hb
  clear hz
  have h3 : ordZ a < ordZ b ∨ ordZ b < ordZ a ∨ ordZ a = ordZ b := by omega
  have HZ := Lib.hid (show cmpZ a b = if ordZ a < ordZ b then -1 else if ordZ a > ordZ b then 1 else 0 from rfl)
  rcases h3 with h | h | h
  · go_enter Try.func38, Try.ntmps38
    go_wp2_with (go_at_call 77; refine (order_any _ (by first | exact ha | exact hb) _).mono ?_; rintro e w' ⟨rfl, rfl⟩)
    all_goals try (exfalso; omega)
    all_goals (go_ret; exact ⟨ret_int (by rw [HZ.out, if_pos h]), rfl⟩)
  · have h' : ¬ ordZ a < ordZ b := by omega
    go_enter Try.func38, Try.ntmps38
    go_wp2_with (go_at_call 77; refine (order_any _ (by first | exact ha | exact hb) _).mono ?_; rintro e w' ⟨rfl, rfl⟩)
    all_goals try (exfalso; omega)
    all_goals (go_ret; exact ⟨ret_int (by rw [HZ.out, if_neg (show ¬ ordZ a < ordZ b by omega), if_pos h]), rfl⟩)
  · have h1 : ¬ ordZ a < ordZ b := by omega
    have h2 : ¬ ordZ b < ordZ a := by omega
    have H := Lib.hid h
    clear h
    go_enter Try.func38, Try.ntmps38
    go_wp2_with (go_at_call 77; refine (order_any _ (by first | exact ha | exact hb) _).mono ?_; rintro e w' ⟨rfl, rfl⟩)
    all_goals try (exfalso; omega)
    all_goals (go_ret; exact ⟨ret_int (by rw [HZ.out, if_neg (show ¬ ordZ a < ordZ b by omega), if_neg (show ¬ ordZ a > ordZ b by omega)]), rfl⟩)
/-- What Parts tells. -/
def pB (a : Int) : Bool := if fexp a = 2047 then false else fneg a
def pM (a : Int) : Int := if fexp a = 2047 then 0 else if fexp a = 0 then ffrac a else 4503599627370496 + ffrac a
def pX (a : Int) : Int := if fexp a = 2047 then 0 else if fexp a = 0 then -1074 else fexp a - 1075
def pE (a : Int) : Int := if fexp a = 2047 then 11 else 0
def PartsPost (a : Int) (w : World) (e : Ending) (w' : World) : Prop := e = .returned (.tuple #[.bool (pB a), .int .i64 (pM a), .int .i64 (pX a), .int .i64 (pE a)]) ∧ w = w'
theorem parts_any (a : Int) (w : World) : Calls Try.prog 36 #[.int .i64 a] w (PartsPost a w) := by
  have h1 := fexp_bd a
  have h2 := ffrac_bd a
  have e1 := i64_or52 (ffrac a) h2
  have HV := Lib.hid (show pB a = (if fexp a = 2047 then false else fneg a) ∧ pM a = (if fexp a = 2047 then 0 else if fexp a = 0 then ffrac a else 4503599627370496 + ffrac a) ∧ pX a = (if fexp a = 2047 then 0 else if fexp a = 0 then -1074 else fexp a - 1075) ∧ pE a = (if fexp a = 2047 then 11 else 0) from ⟨rfl, rfl, rfl, rfl⟩)
  by_cases q : fexp a = 2047
  · have q1 : (fexp a == 2047) = true := by simpa using q
    have Q := Lib.hid q
    clear q
    go_enter Try.func36, Try.ntmps36
    go_wp2_with (go_at_call 76; refine (split_any _ _).mono ?_; rintro e w' ⟨rfl, rfl⟩)
    obtain ⟨v1, v2, v3, v4⟩ := HV.out
    rw [if_pos Q.out] at v1 v2 v3 v4
    unfold PartsPost
    rw [v1, v2, v3, v4]
    exact bodyPost_ret (v := .tuple #[.bool false, .int .i64 0, .int .i64 0, .int .i64 11]) (by simp [results, Try.results36, go_sem]) rfl ⟨rfl, rfl⟩
  · have q1 : (fexp a == 2047) = false := by simpa using q
    have Q := Lib.hid q
    clear q
    by_cases z : fexp a = 0
    · have z1 : (fexp a == 0) = true := by simpa using z
      have Z := Lib.hid z
      clear z
      go_enter Try.func36, Try.ntmps36
      go_wp2_with (go_at_call 76; refine (split_any _ _).mono ?_; rintro e w' ⟨rfl, rfl⟩)
      obtain ⟨v1, v2, v3, v4⟩ := HV.out
      rw [if_neg Q.out] at v1 v2 v3 v4
      rw [if_pos Z.out] at v2 v3
      unfold PartsPost
      rw [v1, v2, v3, v4]
      exact bodyPost_ret (v := .tuple #[.bool (fneg a), .int .i64 (ffrac a), .int .i64 (-1074), .int .i64 0]) (by simp [results, Try.results36, go_sem]) rfl ⟨rfl, rfl⟩
    · have z1 : (fexp a == 0) = false := by simpa using z
      have Z := Lib.hid z
      clear z
      go_enter Try.func36, Try.ntmps36
      go_wp2_with (go_at_call 76; refine (split_any _ _).mono ?_; rintro e w' ⟨rfl, rfl⟩)
      obtain ⟨v1, v2, v3, v4⟩ := HV.out
      rw [if_neg Q.out] at v1 v2 v3 v4
      rw [if_neg Z.out] at v2 v3
      unfold PartsPost
      rw [v1, v2, v3, v4]
      exact bodyPost_ret (v := .tuple #[.bool (fneg a), .int .i64 (4503599627370496 + ffrac a), .int .i64 (fexp a - 1075), .int .i64 0]) (by simp [results, Try.results36, go_sem]; omega) rfl ⟨rfl, rfl⟩
def SplitPost (a : Int) (w : World) (e : Ending) (w' : World) : Prop := e = .returned (.tuple #[.int .i64 (if fexp a = 0 then ffrac a else 4503599627370496 + ffrac a), .int .i64 (if fexp a = 0 then -1074 else fexp a - 1075)]) ∧ w = w'
theorem rsplit_any (a : Int) (ha : -9223372036854775808 ≤ a ∧ a ≤ 9223372036854775807) (w : World) : Calls Try.prog 41 #[.int .i64 a] w (SplitPost a w) := by
  have h1 := fexp_bd a
  have h2 := ffrac_bd a
  by_cases z : fexp a = 0
  · have z1 : (fexp a == 0) = true := by simpa using z
    have Z := Lib.hid z
    clear z
    go_enter Try.func41, Try.ntmps41
    go_wp2_with (go_at_call 70; refine (fields_any _ ha.1 ha.2 _).mono ?_; rintro e w' ⟨rfl, rfl⟩)
    unfold SplitPost
    rw [if_pos Z.out, if_pos Z.out]
    go_ret2
    exact ⟨rfl, rfl⟩
  · have z1 : (fexp a == 0) = false := by simpa using z
    have Z := Lib.hid z
    clear z
    go_enter Try.func41, Try.ntmps41
    go_wp2_with (go_at_call 70; refine (fields_any _ ha.1 ha.2 _).mono ?_; rintro e w' ⟨rfl, rfl⟩)
    unfold SplitPost
    rw [if_neg Z.out, if_neg Z.out]
    go_ret2
    exact ⟨rfl, rfl⟩
theorem keyZ_any (a : Int) (w : World) : Calls Try.prog 40 #[.agg #[.int .i64 3, .int .i64 a, .string ⟨#[]⟩, .slice none 0 0]] w (KeyPost (keyV ⟨3, a, ⟨#[]⟩, []⟩) w) :=
  key_any 1 ⟨3, a, ⟨#[]⟩, []⟩ none 0 w (by rw [szV_eq]; simp [szFs]) (by rw [keyV_eq]; simp [be8_len, tx, lb, keyFs]) ⟨rfl, by simp, fun h => by simp at h⟩ (Nat.le_refl _)
def kb (a : Int) : ByteArray := ⟨(keyV ⟨3, a, ⟨#[]⟩, []⟩).toArray⟩
def KbPost (a : Int) (w : World) (e : Ending) (w' : World) : Prop := e = .returned (.string (kb a)) ∧ Below w.heap.size w w'
theorem kb_any (a : Int) (w : World) : Calls Try.prog 40 #[.agg #[.int .i64 3, .int .i64 a, .string ⟨#[]⟩, .slice none 0 0]] w (KbPost a w) := by
  refine (keyZ_any a w).mono ?_
  rintro e w' ⟨S, rfl, hS, hb⟩
  have : S = kb a := lb_ext (by rw [hS]; unfold kb; rw [lb_mk])
  exact ⟨by rw [this], hb⟩
theorem kb_cmp (a b : Int) (ha : -9223372036854775808 ≤ a ∧ a ≤ 9223372036854775807) (hb : -9223372036854775808 ≤ b ∧ b ≤ 9223372036854775807) : Lib.compareBytes (kb a).data.toList (kb b).data.toList = cmpZ a b := by
  have := key_cmp a b ha hb
  unfold cmpZ; rw [← this]; unfold kb; rfl
set_option maxHeartbeats 8000000 in
set_option maxRecDepth 1000000 in
theorem fp_walk (a b : Int) (ha : -9223372036854775808 ≤ a ∧ a ≤ 9223372036854775807) (hb : -9223372036854775808 ≤ b ∧ b ≤ 9223372036854775807) (w : World) : Calls Try.prog 9 #[.int .i64 a, .int .i64 b] w (Tr w) := by
  have hu52 := Try.underlying52
  have HC := Lib.hid (kb_cmp a b ha hb)
  have hk : (fkind a != fkind a) = false := by simp
  go_enter Try.func9, Try.ntmps9
  go_wp2_with (go_at_call 36; refine (parts_any _ _).mono ?_; rintro e w' ⟨rfl, rfl⟩)
  obtain ⟨gb, hgb⟩ : ∃ gb, gb = w.heap.size := ⟨_, rfl⟩
  obtain ⟨w2, hw2⟩ : ∃ w2, w2 = (w.alloc (.cells #[.int .i64 3, .int .i64 a, .string ⟨#[]⟩, .slice none 0 0] 52)).alloc (.cells #[.int .i64 3, .int .i64 b, .string ⟨#[]⟩, .slice none 0 0] 52) := ⟨_, rfl⟩
  rw [← hgb, ← hw2]
  have HB2 := Lib.hid (show Below w.heap.size w w2 by rw [hw2]; exact blw_alloc (blw_alloc (Below.refl _ _) _) _)
  have hz : gb < w2.heap.size := by rw [hw2, hgb]; simp; omega
  have hz1 : gb + 1 < w2.heap.size := by rw [hw2, hgb]; simp
  have blkA : w2.heap[gb]? = some (.cells #[.int .i64 3, .int .i64 a, .string ⟨#[]⟩, .slice none 0 0] 52 (0, 0)) := by rw [hw2, hgb]; exact (Below.heap_alloc _ _ _ (by simp)).trans (heap_alloc_new w _)
  have blkB : w2.heap[gb + 1]? = some (.cells #[.int .i64 3, .int .i64 b, .string ⟨#[]⟩, .slice none 0 0] 52 (0, 0)) := by
    have := heap_alloc_new (w.alloc (.cells #[.int .i64 3, .int .i64 a, .string ⟨#[]⟩, .slice none 0 0] 52)) (.cells #[.int .i64 3, .int .i64 b, .string ⟨#[]⟩, .slice none 0 0] 52)
    rw [hw2, hgb]; simpa using this
  clear hw2 hgb
  go_upto_region 3 with (fail)
  go_cut [43] from 24 to 43 (fun c wx => c = .bool false ∧ Below w.heap.size w wx)
  case first =>
    have a0 := (blk_cell blkA 0).trans rfl
    have a1 := (blk_cell blkA 1).trans rfl
    have a2 := (blk_cell blkA 2).trans rfl
    have a3 := (blk_cell blkA 3).trans rfl
    have b0 := (blk_cell blkB 0).trans rfl
    have b1 := (blk_cell blkB 1).trans rfl
    have b2 := (blk_cell blkB 2).trans rfl
    have b3 := (blk_cell blkB 3).trans rfl
    go_region_with ((first
      | (go_at_call 20; refine (floats_any _).mono ?_; rintro e w' ⟨rfl, rfl⟩)
      | (go_at_call 37; refine (kind_any _ _).mono ?_; rintro e w' ⟨rfl, rfl⟩)
      | (go_at_call 21; refine (sort_any _ ha.1 ha.2 _).mono ?_; rintro e w' ⟨rfl, rfl⟩)
      | (go_at_call 38; refine (cmpF_any _ _ ha hb _).mono ?_; rintro e w' ⟨rfl, rfl⟩)
      | (go_at_call 39; refine (Try.strings_Compare _ _ _).mono ?_; rintro e w' ⟨rfl, rfl⟩)
      | (go_at_call 40; go_loud (refine (kb_any _ _).mono ?_; rintro e wk ⟨rfl, hbel⟩; replace blkA := (hbel.block gb hz).trans blkA; replace blkB := (hbel.block (gb + 1) hz1).trans blkB; replace hz := Nat.lt_of_lt_of_le hz hbel.size; replace hz1 := Nat.lt_of_lt_of_le hz1 hbel.size; replace HB2 := Lib.hid (show Below w.heap.size w wk by first | exact blw_then HB2.out hbel | exact blw_then (blw_drew HB2.out) hbel); clear hbel; clear a0 a1 a2 a3 b0 b1 b2 b3; have a0 := (blk_cell blkA 0).trans rfl; have a1 := (blk_cell blkA 1).trans rfl; have a2 := (blk_cell blkA 2).trans rfl; have a3 := (blk_cell blkA 3).trans rfl; have b0 := (blk_cell blkB 0).trans rfl; have b1 := (blk_cell blkB 1).trans rfl; have b2 := (blk_cell blkB 2).trans rfl; have b3 := (blk_cell blkB 3).trans rfl))))
    all_goals
      go_wp2_with fail
      go_meet
      exact ⟨by first | rfl | (rw [HC.out]; simp; done) | (simp [HC.out]; done), by first | exact HB2.out | exact blw_drew HB2.out⟩
  case rest =>
    obtain ⟨rfl, HW⟩ := hcut
    have HW := Lib.hid HW
    clear blkA blkB hz hz1
    have h1 := fexp_bd a
    have h2 := ffrac_bd a
    by_cases q : fexp a = 2047
    · have p1 : pB a = false := by unfold pB; rw [if_pos q]
      have p2 : pM a = 0 := by unfold pM; rw [if_pos q]
      have p3 : pX a = 0 := by unfold pX; rw [if_pos q]
      have p4 : pE a = 11 := by unfold pE; rw [if_pos q]
      have p5 : 2 < fkind a := by unfold fkind; rw [if_pos q]; split <;> decide
      clear q
      go_wp2_with (go_at_call 21; refine (sort_any _ ha.1 ha.2 _).mono ?_; rintro e w' ⟨rfl, rfl⟩)
      all_goals try (exfalso; omega)
      all_goals (go_ret; exact ⟨rfl, HW.out⟩)
    · have p1 : pB a = decide (a < 0) := by unfold pB; rw [if_neg q]; rfl
      have p4 : pE a = 0 := by unfold pE; rw [if_neg q]
      have p5 : fkind a ≤ 2 := by unfold fkind; rw [if_neg q]; split <;> (try split) <;> decide
      have p2 : (if fexp a = 0 then ffrac a else 4503599627370496 + ffrac a) = pM a := by unfold pM; rw [if_neg q]
      have p3 : (if fexp a = 0 then -1074 else fexp a - 1075) = pX a := by unfold pX; rw [if_neg q]
      have HSP := Lib.hid (fun w => show Calls Try.prog 41 #[.int .i64 a] w fun e w' => e = .returned (.tuple #[.int .i64 (pM a), .int .i64 (pX a)]) ∧ w = w' from (rsplit_any a ha w).mono fun e w' h => ⟨by rw [h.1, p2, p3], h.2⟩)
      clear q p2 p3
      go_wp2_with (first
        | (go_at_call 21; refine (sort_any _ ha.1 ha.2 _).mono ?_; rintro e w' ⟨rfl, rfl⟩)
        | (go_at_call 41; refine (HSP.out _).mono ?_; rintro e w' ⟨rfl, rfl⟩))
      all_goals try (exfalso; omega)
      all_goals (go_ret; exact ⟨rfl, HW.out⟩)
theorem floatParts_walk (a b : Int) (w : World) (ha : (Lit.int .i64 a).wf = true) (hb : (Lit.int .i64 b).wf = true) : Calls Try.prog 9 #[.int .i64 a, .int .i64 b] w (Tr w) :=
  fp_walk a b (i64_of_wf ha) (i64_of_wf hb) w
end Go.Proofs.Ytilffmhmgoaejaa.PVal
namespace Go.Proofs.Ytilffmhmgoaejaa
open Go.RowKit
theorem FloatParts_walk (a b : Int) (w : World) (ha : (Lit.int .i64 a).wf = true) (hb : (Lit.int .i64 b).wf = true) : Calls Try.prog 9 #[.int .i64 a, .int .i64 b] w (Tr w) := PVal.floatParts_walk a b w ha hb
end Go.Proofs.Ytilffmhmgoaejaa
