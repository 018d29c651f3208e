/- Numbers as decimal digits, the highest one first, without zeros in front. No program in sight. -/
import Derived.Lib.TrimByte
import Derived.Test.YtnbdmmepdmmbmaaDoorAid
namespace Go.Proofs.YtnbdmmepdmmbmaaDoor
set_option linter.unusedVariables false
/-- The number of digits. -/
def valL : List UInt8 → Nat
  | [] => 0
  | c :: t => (c.toNat - 48) * 10 ^ t.length + valL t
def digL (l : List UInt8) : Prop := ∀ c ∈ l, 48 ≤ c.toNat ∧ c.toNat ≤ 57
def decL (n : Nat) : List UInt8 := if h : n = 0 then [] else decL (n / 10) ++ [UInt8.ofNat (48 + n % 10)]
termination_by n
decreasing_by omega
theorem decL_zero : decL 0 = [] := by unfold decL; rw [dif_pos rfl]
theorem decL_pos (n : Nat) (h : n ≠ 0) : decL n = decL (n / 10) ++ [UInt8.ofNat (48 + n % 10)] := by
  conv => lhs; unfold decL
  rw [dif_neg h]
theorem digL_nil : digL [] := fun c h => absurd h (by simp)
theorem digL_append {a b : List UInt8} (ha : digL a) (hb : digL b) : digL (a ++ b) := fun c hc => (List.mem_append.1 hc).elim (ha c) (hb c)
theorem digL_one (d : Nat) (h : d < 10) : digL [UInt8.ofNat (48 + d)] := by
  intro c hc
  rw [List.mem_singleton] at hc
  subst hc
  rw [UInt8.toNat_ofNat']; omega
theorem valL_lt : ∀ l : List UInt8, digL l → valL l < 10 ^ l.length
  | [], _ => by simp [valL]
  | c :: t, h => by
    have h1 := h c (by simp)
    have h2 := valL_lt t (fun x hx => h x (by simp [hx]))
    have h3 : (c.toNat - 48) * 10 ^ t.length ≤ 9 * 10 ^ t.length := Nat.mul_le_mul_right _ (by omega)
    simp only [valL, List.length_cons, Nat.pow_succ]; omega
theorem valL_append (a b : List UInt8) : valL (a ++ b) = valL a * 10 ^ b.length + valL b := by
  induction a with
  | nil => simp [valL]
  | cons c t ih =>
    simp only [List.cons_append, valL, ih, List.length_append, Nat.pow_add, Nat.add_mul, Nat.mul_assoc, Nat.add_assoc]
theorem valL_zeros (k : Nat) : valL (List.replicate k 48) = 0 := by
  induction k with
  | zero => rfl
  | succ k ih => simp only [List.replicate_succ, valL, ih, show (UInt8.toNat 48 - 48) = 0 from rfl, Nat.zero_mul]
theorem decL_dig (n : Nat) : digL (decL n) := by
  induction n using Nat.strongRecOn with
  | _ n ih =>
    by_cases h : n = 0
    · subst h; rw [decL_zero]; exact digL_nil
    · rw [decL_pos n h]; exact digL_append (ih _ (by omega)) (digL_one _ (Nat.mod_lt _ (by decide)))
theorem decL_val (n : Nat) : valL (decL n) = n := by
  induction n using Nat.strongRecOn with
  | _ n ih =>
    by_cases h : n = 0
    · subst h; rw [decL_zero]; rfl
    · rw [decL_pos n h, valL_append, ih _ (by omega)]
      simp only [List.length_singleton, valL, List.length_nil, Nat.pow_one, Nat.pow_zero, Nat.mul_one, Nat.add_zero, UInt8.toNat_ofNat']
      omega
theorem decL_inj {m n : Nat} (h : decL m = decL n) : m = n := by rw [← decL_val m, h, decL_val]
theorem decL_nil (n : Nat) : decL n = [] ↔ n = 0 := by
  constructor
  · intro h; have := decL_val n; rw [h] at this; exact this.symm
  · intro h; rw [h, decL_zero]
theorem decL_head (n : Nat) : ∀ c t, decL n = c :: t → c ≠ 48 := by
  induction n using Nat.strongRecOn with
  | _ n ih =>
    intro c t h
    by_cases h0 : n = 0
    · subst h0; rw [decL_zero] at h; cases h
    · rw [decL_pos n h0] at h
      by_cases h1 : n / 10 = 0
      · rw [h1, decL_zero] at h
        simp only [List.nil_append, List.cons.injEq] at h
        intro q
        have := h.1
        rw [q] at this
        have := congrArg UInt8.toNat this
        rw [UInt8.toNat_ofNat'] at this
        have e : (48 : UInt8).toNat = 48 := rfl
        omega
      · cases hd : decL (n / 10) with
        | nil => exact absurd ((decL_nil _).1 hd) h1
        | cons x y =>
          rw [hd] at h
          injection h with e1 _
          rw [← e1]
          exact ih (n / 10) (by omega) x y hd
/-- Digits without a zero in front are those of their number. -/
theorem canon : ∀ (k : Nat) (l : List UInt8), l.length = k → digL l → (∀ c t, l = c :: t → c ≠ 48) → l = decL (valL l) := by
  intro k
  induction k with
  | zero => intro l hl _ _; obtain rfl : l = [] := List.eq_nil_of_length_eq_zero hl; exact decL_zero.symm
  | succ k ih =>
    intro l hl hd hh
    obtain ⟨t, c, rfl⟩ : ∃ t c, l = t ++ [c] := ⟨l.dropLast, l.getLast (by intro q; rw [q] at hl; simp at hl), (List.dropLast_concat_getLast _).symm⟩
    have hc := hd c (by simp)
    have hdt : digL t := fun x hx => hd x (by simp [hx])
    have hv : valL (t ++ [c]) = valL t * 10 + (c.toNat - 48) := by
      rw [valL_append]; simp [valL]
    have ht : t = decL (valL t) := by
      refine ih t (by simp at hl; omega) hdt (fun x y hxy => ?_)
      exact hh x (y ++ [c]) (by rw [hxy]; rfl)
    have hne : valL (t ++ [c]) ≠ 0 := by
      rw [hv]
      intro q
      have h1 : valL t = 0 := by omega
      rw [h1, decL_zero] at ht
      have := hh c [] (by rw [ht]; rfl)
      exact this (UInt8.toNat_inj.1 (by show c.toNat = 48; omega))
    rw [decL_pos _ hne, hv]
    have e1 : (valL t * 10 + (c.toNat - 48)) / 10 = valL t := by omega
    have e2 : UInt8.ofNat (48 + (valL t * 10 + (c.toNat - 48)) % 10) = c := by
      apply UInt8.toNat_inj.1
      rw [UInt8.toNat_ofNat']; omega
    rw [e1, e2, ← ht]
theorem trim_dec (l : List UInt8) (h : digL l) : Lib.trimLeftB l 48 = decL (valL l) := by
  unfold Lib.trimLeftB
  induction l with
  | nil => rw [show valL [] = 0 from rfl, decL_zero]; rfl
  | cons c t ih =>
    by_cases q : c = 48
    · subst q
      have : ((48 : UInt8) == 48) = true := rfl
      rw [List.dropWhile_cons_of_pos (by simp), ih (fun x hx => h x (by simp [hx]))]
      congr 1
      simp [valL]
    · rw [List.dropWhile_cons_of_neg (by simpa using q)]
      exact canon _ (c :: t) rfl h (fun x y e => by injection e with e1 _; rw [← e1]; exact q)
theorem decL_len (n k : Nat) (h : n < 10 ^ k) : (decL n).length ≤ k := by
  induction k generalizing n with
  | zero => simp at h; rw [h, decL_zero]; simp
  | succ k ih =>
    by_cases h0 : n = 0
    · subst h0; rw [decL_zero]; simp
    · rw [decL_pos n h0, List.length_append, List.length_singleton]
      have := ih (n / 10) (by rw [Nat.pow_succ] at h; omega)
      omega
theorem decL_ge (n k : Nat) (h : (decL n).length ≤ k) : n < 10 ^ k := by
  have h1 := valL_lt _ (decL_dig n)
  rw [decL_val] at h1
  exact Nat.lt_of_lt_of_le h1 (Nat.pow_le_pow_right (by decide) h)
/-- Filled up with zeros in front. -/
def padL (n : Nat) (l : List UInt8) : List UInt8 := List.replicate (n - l.length) 48 ++ l
theorem padL_val (n : Nat) (l : List UInt8) : valL (padL n l) = valL l := by unfold padL; rw [valL_append, valL_zeros]; simp
theorem padL_len (n : Nat) (l : List UInt8) (h : l.length ≤ n) : (padL n l).length = n := by unfold padL; simp; omega
theorem padL_dig (n : Nat) (l : List UInt8) (h : digL l) : digL (padL n l) := by
  intro c hc
  unfold padL at hc
  rcases List.mem_append.1 hc with q | q
  · rw [(List.mem_replicate.1 q).2]; decide
  · exact h c q
def dig1 (l : List UInt8) (i : Nat) : Nat := (l.getD i 48).toNat - 48
theorem valL_drop (l : List UInt8) (i : Nat) (h : i < l.length) : valL (l.drop i) = dig1 l i * 10 ^ (l.length - i - 1) + valL (l.drop (i + 1)) := by
  rw [List.drop_eq_getElem_cons h]
  simp only [valL, List.length_drop, dig1, List.getD_eq_getElem?_getD, List.getElem?_eq_getElem h, Option.getD_some]
  rw [show l.length - (i + 1) = l.length - i - 1 by omega]
theorem dig1_le (l : List UInt8) (i : Nat) (h : digL l) : dig1 l i ≤ 9 := by
  unfold dig1
  by_cases q : i < l.length
  · have := h (l.getD i 48) (by rw [List.getD_eq_getElem?_getD, List.getElem?_eq_getElem q]; exact List.getElem_mem q)
    omega
  · rw [List.getD_eq_getElem?_getD, List.getElem?_eq_none (by omega)]; decide
/-- The digit of a number at a place of n places. -/
theorem pad_get (n i : Nat) (l : List UInt8) (h : l.length ≤ n) (hi : i < n) : dig1 (padL n l) i = if n - l.length ≤ i then dig1 l (i - (n - l.length)) else 0 := by
  unfold padL dig1
  rw [List.getD_eq_getElem?_getD, List.getElem?_append]
  simp only [List.length_replicate]
  by_cases q : n - l.length ≤ i
  · rw [if_neg (by omega), if_pos q, List.getD_eq_getElem?_getD]
  · rw [if_pos (by omega), if_neg q, List.getElem?_replicate, if_pos (by omega)]; rfl
/-- Digits are less by their length, then by bytes. -/
theorem decL_lt_len {m n : Nat} (h : (decL m).length < (decL n).length) : m < n := by
  rcases Nat.lt_or_ge m n with q | q
  · exact q
  · have h1 := decL_ge m _ (Nat.le_refl _)
    have h2 := decL_len n (decL m).length (by omega)
    omega
end Go.Proofs.YtnbdmmepdmmbmaaDoor
