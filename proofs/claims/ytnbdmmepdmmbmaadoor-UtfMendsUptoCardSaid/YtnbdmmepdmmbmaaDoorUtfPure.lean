/- The plain side of UTF-8: what the printed functions of utf and of its reference compute. No statement is proved here. -/
import Derived.Test.YtnbdmmepdmmbmaaDoorPure
namespace Go.Proofs.YtnbdmmepdmmbmaaDoor
open Go.RowKit Go.Proofs.YtnbdmmepdmmbmaaDoorW.PrintWords Go.Proofs.YtnbdmmepdmmbmaaDoorW.PrintLast
set_option linter.unusedVariables false
set_option linter.unusedSimpArgs false
/-- Can a number be encoded? -/
def okZ (r : Int) : Bool := decide (0 ≤ r ∧ r ≤ 1114111 ∧ (r < 55296 ∨ 57343 < r))
/-- The bytes of an encoding, as numbers. -/
def encZ (r : Int) : List Int :=
  if r < 128 then [r] else if r < 2048 then [192 + r / 64, 128 + r % 64]
  else if r < 65536 then [224 + r / 4096, 128 + r / 64 % 64, 128 + r % 64]
  else [240 + r / 262144, 128 + r / 4096 % 64, 128 + r / 64 % 64, 128 + r % 64]
def encU (r : Int) : List UInt8 := if okZ r = true then (encZ r).map (fun n => UInt8.ofNat n.toNat) else []
theorem okZ_iff (r : Int) : okZ r = true ↔ 0 ≤ r ∧ r ≤ 1114111 ∧ (r < 55296 ∨ 57343 < r) := by simp [okZ]
/-- The decoder: the code point at the beginning of bytes, and how many it has; 0: there is none. -/
def nxI (n c0 c1 c2 c3 : Int) : Int × Int :=
  if c0 < 128 then (c0, 1)
  else if 192 ≤ c0 ∧ c0 < 224 then (if 2 ≤ n ∧ c1 / 64 = 2 ∧ 128 ≤ c0 % 32 * 64 + c1 % 64 then (c0 % 32 * 64 + c1 % 64, 2) else (0, 0))
  else if 224 ≤ c0 ∧ c0 < 240 then (if 3 ≤ n ∧ c1 / 64 = 2 ∧ c2 / 64 = 2 ∧ 2048 ≤ (c0 % 16 * 64 + c1 % 64) * 64 + c2 % 64 ∧ okZ ((c0 % 16 * 64 + c1 % 64) * 64 + c2 % 64) = true then ((c0 % 16 * 64 + c1 % 64) * 64 + c2 % 64, 3) else (0, 0))
  else if 240 ≤ c0 ∧ c0 < 248 then (if 4 ≤ n ∧ c1 / 64 = 2 ∧ c2 / 64 = 2 ∧ c3 / 64 = 2 ∧ 65536 ≤ ((c0 % 8 * 64 + c1 % 64) * 64 + c2 % 64) * 64 + c3 % 64 ∧ okZ (((c0 % 8 * 64 + c1 % 64) * 64 + c2 % 64) * 64 + c3 % 64) = true then (((c0 % 8 * 64 + c1 % 64) * 64 + c2 % 64) * 64 + c3 % 64, 4) else (0, 0))
  else (0, 0)
def nxL (l : List UInt8) : Int × Int := nxI l.length (nb8 l 0) (nb8 l 1) (nb8 l 2) (nb8 l 3)
/-- The number that n bytes would stand for. -/
def candZ (n : Nat) (c0 c1 c2 c3 : Int) : Int :=
  match n with
  | 1 => c0
  | 2 => (c0 - 192) * 64 + c1 - 128
  | 3 => ((c0 - 224) * 64 + c1 - 128) * 64 + c2 - 128
  | _ => (((c0 - 240) * 64 + c1 - 128) * 64 + c2 - 128) * 64 + c3 - 128
theorem cz1 (c0 c1 c2 c3 : Int) : candZ 1 c0 c1 c2 c3 = c0 := rfl
theorem cz2 (c0 c1 c2 c3 : Int) : candZ 2 c0 c1 c2 c3 = (c0 - 192) * 64 + c1 - 128 := rfl
theorem cz3 (c0 c1 c2 c3 : Int) : candZ 3 c0 c1 c2 c3 = ((c0 - 224) * 64 + c1 - 128) * 64 + c2 - 128 := rfl
theorem cz4 (c0 c1 c2 c3 : Int) : candZ 4 c0 c1 c2 c3 = (((c0 - 240) * 64 + c1 - 128) * 64 + c2 - 128) * 64 + c3 - 128 := rfl
theorem nxI_cand (n c0 c1 c2 c3 : Int) (h0 : 0 ≤ c0 ∧ c0 < 256) (h1 : 0 ≤ c1 ∧ c1 < 256) (h2 : 0 ≤ c2 ∧ c2 < 256) (h3 : 0 ≤ c3 ∧ c3 < 256) :
    (nxI n c0 c1 c2 c3 = (0, 0) ∨ (nxI n c0 c1 c2 c3 = (candZ 1 c0 c1 c2 c3, 1) ∧ c0 < 128) ∨ (nxI n c0 c1 c2 c3 = (candZ 2 c0 c1 c2 c3, 2) ∧ 2 ≤ n ∧ 192 ≤ c0) ∨ (nxI n c0 c1 c2 c3 = (candZ 3 c0 c1 c2 c3, 3) ∧ 3 ≤ n ∧ 224 ≤ c0) ∨ (nxI n c0 c1 c2 c3 = (candZ 4 c0 c1 c2 c3, 4) ∧ 4 ≤ n ∧ 240 ≤ c0)) := by
  unfold nxI
  simp only [cz1, cz2, cz3, cz4]
  repeat' split
  all_goals first
    | exact .inl rfl
    | exact .inr (.inl ⟨rfl, by omega⟩)
    | exact .inr (.inr (.inl ⟨by rw [Prod.mk.injEq]; omega, by omega, by omega⟩))
    | exact .inr (.inr (.inr (.inl ⟨by rw [Prod.mk.injEq]; omega, by omega, by omega⟩)))
    | exact .inr (.inr (.inr (.inr ⟨by rw [Prod.mk.injEq]; omega, by omega, by omega⟩)))
/-- The encoding of what n bytes would stand for is these bytes just where the decoder says so. -/
theorem enc_match (n : Int) (c0 c1 c2 c3 : Int) (hn : 1 ≤ n) (h0 : 0 ≤ c0 ∧ c0 < 256) (h1 : 0 ≤ c1 ∧ c1 < 256) (h2 : 0 ≤ c2 ∧ c2 < 256) (h3 : 0 ≤ c3 ∧ c3 < 256) :
    (okZ (candZ 1 c0 c1 c2 c3) = true ∧ encZ (candZ 1 c0 c1 c2 c3) = [c0] ↔ nxI n c0 c1 c2 c3 = (candZ 1 c0 c1 c2 c3, 1))
    ∧ (2 ≤ n → (okZ (candZ 2 c0 c1 c2 c3) = true ∧ encZ (candZ 2 c0 c1 c2 c3) = [c0, c1] ↔ nxI n c0 c1 c2 c3 = (candZ 2 c0 c1 c2 c3, 2)))
    ∧ (3 ≤ n → (okZ (candZ 3 c0 c1 c2 c3) = true ∧ encZ (candZ 3 c0 c1 c2 c3) = [c0, c1, c2] ↔ nxI n c0 c1 c2 c3 = (candZ 3 c0 c1 c2 c3, 3)))
    ∧ (4 ≤ n → (okZ (candZ 4 c0 c1 c2 c3) = true ∧ encZ (candZ 4 c0 c1 c2 c3) = [c0, c1, c2, c3] ↔ nxI n c0 c1 c2 c3 = (candZ 4 c0 c1 c2 c3, 4))) := by
  refine ⟨?_, fun hn2 => ?_, fun hn3 => ?_, fun hn4 => ?_⟩
  · have e := cz1 c0 c1 c2 c3
    generalize candZ 1 c0 c1 c2 c3 = r at e ⊢
    unfold nxI encZ
    simp only [okZ_iff]
    constructor
    · rintro ⟨ho, he⟩
      repeat' split at he
      all_goals (try simp only [List.cons.injEq, and_true, List.cons_ne_nil, and_false, reduceCtorEq] at he)
      rw [if_pos (by omega)]
      exact Prod.ext (by show (_ : Int) = _; omega) rfl
    · intro h
      repeat' split at h
      all_goals (try simp only [Prod.mk.injEq] at h)
      all_goals try (exfalso; omega)
      rw [if_pos (by omega)]
      exact ⟨by omega, by simp only [List.cons.injEq, and_true]; omega⟩
  · have e := cz2 c0 c1 c2 c3
    generalize candZ 2 c0 c1 c2 c3 = r at e ⊢
    unfold nxI encZ
    simp only [okZ_iff]
    constructor
    · rintro ⟨ho, he⟩
      repeat' split at he
      all_goals (try simp only [List.cons.injEq, and_true, List.cons_ne_nil, and_false, reduceCtorEq] at he)
      rw [if_neg (by omega), if_pos (by omega), if_pos (by omega)]
      exact Prod.ext (by show (_ : Int) = _; omega) rfl
    · intro h
      repeat' split at h
      all_goals (try simp only [Prod.mk.injEq] at h)
      all_goals try (exfalso; omega)
      rw [if_neg (by omega), if_pos (by omega)]
      exact ⟨by omega, by simp only [List.cons.injEq, and_true]; omega⟩
  · have e := cz3 c0 c1 c2 c3
    generalize candZ 3 c0 c1 c2 c3 = r at e ⊢
    unfold nxI encZ
    simp only [okZ_iff]
    constructor
    · rintro ⟨ho, he⟩
      repeat' split at he
      all_goals (try simp only [List.cons.injEq, and_true, List.cons_ne_nil, and_false, reduceCtorEq] at he)
      rw [if_neg (by omega), if_neg (by omega), if_pos (by omega), if_pos (by omega)]
      exact Prod.ext (by show (_ : Int) = _; omega) rfl
    · intro h
      repeat' split at h
      all_goals (try simp only [Prod.mk.injEq] at h)
      all_goals try (exfalso; omega)
      rw [if_neg (by omega), if_neg (by omega), if_pos (by omega)]
      exact ⟨by omega, by simp only [List.cons.injEq, and_true]; omega⟩
  · have e := cz4 c0 c1 c2 c3
    generalize candZ 4 c0 c1 c2 c3 = r at e ⊢
    unfold nxI encZ
    simp only [okZ_iff]
    constructor
    · rintro ⟨ho, he⟩
      repeat' split at he
      all_goals (try simp only [List.cons.injEq, and_true, List.cons_ne_nil, and_false, reduceCtorEq] at he)
      rw [if_neg (by omega), if_neg (by omega), if_neg (by omega), if_pos (by omega), if_pos (by omega)]
      exact Prod.ext (by show (_ : Int) = _; omega) rfl
    · intro h
      repeat' split at h
      all_goals (try simp only [Prod.mk.injEq] at h)
      all_goals try (exfalso; omega)
      rw [if_neg (by omega), if_neg (by omega), if_neg (by omega)]
      exact ⟨by omega, by simp only [List.cons.injEq, and_true]; omega⟩
end Go.Proofs.YtnbdmmepdmmbmaaDoor
