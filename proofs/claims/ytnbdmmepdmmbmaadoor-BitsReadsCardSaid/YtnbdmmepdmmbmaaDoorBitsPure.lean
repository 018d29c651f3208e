/- Strings of bits as bytes, in plain Lean: packing, reading, and that both are inverse. No program. -/
import Derived.Test.YtnbdmmepdmmbmaaDoorAid
namespace Go.Proofs.YtnbdmmepdmmbmaaDoor
set_option linter.unusedVariables false
set_option linter.unusedSimpArgs false
/-- Byte i as a number; 0 beyond the end. -/
def nb (D : List UInt8) (i : Nat) : Nat := (D.getD i 0).toNat
theorem nb_lt (D : List UInt8) (i : Nat) : nb D i < 256 := (D.getD i 0).toNat_lt
/-- Bit i of bytes, the highest bit of a byte first. -/
def ub (D : List UInt8) (i : Nat) : Bool := nb D (i / 8) / 2 ^ (7 - i % 8) % 2 == 1
def grown (D : List UInt8) (k : Nat) : List UInt8 := if k % 8 = 0 then D ++ [0] else D
/-- Bit b is put behind k bits. -/
def packAdd (D : List UInt8) (k : Nat) (b : Bool) : List UInt8 := (grown D k).set (k / 8) (UInt8.ofNat (nb (grown D k) (k / 8) + if b then 2 ^ (7 - k % 8) else 0))
def packFrom (D : List UInt8) (k : Nat) : List Bool → List UInt8
  | [] => D
  | b :: l => packFrom (packAdd D k b) (k + 1) l
def pack (l : List Bool) : List UInt8 := packFrom [] 0 l
theorem packFrom_append (l m : List Bool) : ∀ (D : List UInt8) (k : Nat), packFrom D k (l ++ m) = packFrom (packFrom D k l) (k + l.length) m := by
  induction l with
  | nil => intro D k; rfl
  | cons b l ih => intro D k; simp only [List.cons_append, packFrom, List.length_cons]; rw [ih]; congr 1; omega
theorem pack_snoc (l : List Bool) (b : Bool) : pack (l ++ [b]) = packAdd (pack l) l.length b := by
  unfold pack; rw [packFrom_append]; simp [packFrom]
theorem nb_set (D : List UInt8) (j : Nat) (x : Nat) (hx : x < 256) (i : Nat) : nb (D.set j (UInt8.ofNat x)) i = if j = i ∧ j < D.length then x else nb D i := by
  unfold nb
  simp only [List.getD_eq_getElem?_getD, List.getElem?_set]
  by_cases h : j = i
  · subst h
    by_cases h2 : j < D.length
    · simp [h2]; omega
    · simp [h2, List.getElem?_eq_none (Nat.le_of_not_lt h2)]
  · simp [h]
theorem nb_app (D : List UInt8) (i : Nat) : nb (D ++ [0]) i = nb D i := by
  unfold nb
  simp only [List.getD_eq_getElem?_getD, List.getElem?_append]
  by_cases h : i < D.length
  · simp [h]
  · simp only [h, if_false]
    rw [List.getElem?_eq_none (Nat.le_of_not_lt h)]
    cases h2 : i - D.length with
    | zero => simp
    | succ n => simp
theorem nb_grown (D : List UInt8) (k i : Nat) : nb (grown D k) i = nb D i := by
  unfold grown; split
  · exact nb_app D i
  · rfl
theorem nb_beyond (D : List UInt8) (i : Nat) (h : D.length ≤ i) : nb D i = 0 := by
  unfold nb; simp [List.getD_eq_getElem?_getD, List.getElem?_eq_none h]
theorem grown_length (D : List UInt8) (k : Nat) : (grown D k).length = D.length + if k % 8 = 0 then 1 else 0 := by
  unfold grown; split <;> simp
/-- What holds of the packed bytes of k bits. -/
structure Packed (l : List Bool) (D : List UInt8) : Prop where
  len : D.length = (l.length + 7) / 8
  bits : ∀ i, i < l.length → ub D i = l.getD i false
  rest : ∀ i, l.length ≤ i → ub D i = false
theorem low_zero (x r : Nat) (hr : r < 8) (h : ∀ j, r ≤ j → j < 8 → x / 2 ^ (7 - j) % 2 ≠ 1) : x % 2 ^ (8 - r) = 0 := by
  have key : ∀ m, m ≤ 8 - r → x % 2 ^ m = 0 := by
    intro m
    induction m with
    | zero => intro _; omega
    | succ m ih =>
      intro hm
      have h1 := h (7 - m) (by omega) (by omega)
      rw [show 7 - (7 - m) = m by omega] at h1
      rw [Nat.mod_pow_succ, ih (by omega), show x / 2 ^ m % 2 = 0 by omega]
      omega
  exact key _ (Nat.le_refl _)
theorem add_bit (x r : Nat) (hr : r < 8) (hx : x < 256) (h : x % 2 ^ (8 - r) = 0) (b : Bool) : (x + if b then 2 ^ (7 - r) else 0) < 256 ∧
    ∀ j, j < 8 → (((x + if b then 2 ^ (7 - r) else 0) / 2 ^ (7 - j) % 2 == 1) = if j = r then b else (x / 2 ^ (7 - j) % 2 == 1)) := by
  have hr : r = 0 ∨ r = 1 ∨ r = 2 ∨ r = 3 ∨ r = 4 ∨ r = 5 ∨ r = 6 ∨ r = 7 := by omega
  cases b with
  | false =>
    refine ⟨by simpa using hx, fun j hj => ?_⟩
    by_cases e : j = r
    · subst e
      have : x / 2 ^ (7 - j) % 2 = 0 := by
        rcases hr with rfl | rfl | rfl | rfl | rfl | rfl | rfl | rfl <;> simp only [Nat.reduceSub, Nat.reducePow] at h ⊢ <;> omega
      simp [this]
    · simp [e]
  | true =>
    simp only [if_true]
    refine ⟨by rcases hr with rfl | rfl | rfl | rfl | rfl | rfl | rfl | rfl <;> simp only [Nat.reduceSub, Nat.reducePow] at h ⊢ <;> omega, fun j hj => ?_⟩
    have hj : j = 0 ∨ j = 1 ∨ j = 2 ∨ j = 3 ∨ j = 4 ∨ j = 5 ∨ j = 6 ∨ j = 7 := by omega
    rw [Bool.eq_iff_iff]
    rcases hr with rfl | rfl | rfl | rfl | rfl | rfl | rfl | rfl <;> rcases hj with rfl | rfl | rfl | rfl | rfl | rfl | rfl | rfl <;> simp only [Nat.reduceSub, Nat.reducePow] at h ⊢ <;> simp <;> omega
theorem Packed.low {l : List Bool} {D : List UInt8} (h : Packed l D) : nb D (l.length / 8) % 2 ^ (8 - l.length % 8) = 0 := by
  refine low_zero _ _ (by omega) fun j h1 h2 => ?_
  have := h.rest (l.length / 8 * 8 + j) (by omega)
  unfold ub at this
  rw [show (l.length / 8 * 8 + j) / 8 = l.length / 8 by omega, show (l.length / 8 * 8 + j) % 8 = j by omega] at this
  simpa using this
theorem Packed.snoc {l : List Bool} {D : List UInt8} (h : Packed l D) (b : Bool) : Packed (l ++ [b]) (packAdd D l.length b) := by
  have hl := h.len
  have hlow := h.low
  obtain ⟨g1, g2⟩ := add_bit (nb D (l.length / 8)) (l.length % 8) (by omega) (nb_lt _ _) hlow b
  have glen := grown_length D l.length
  have hub : ∀ i, ub (packAdd D l.length b) i = if i = l.length then b else ub D i := by
    intro i
    unfold ub packAdd
    rw [nb_grown, nb_set _ _ _ g1, nb_grown]
    by_cases e : l.length / 8 = i / 8
    · rw [if_pos ⟨e, by rw [glen]; split <;> omega⟩, g2 (i % 8) (by omega)]
      by_cases e2 : i = l.length
      · rw [if_pos (by omega), if_pos e2]
      · rw [if_neg (by omega), if_neg e2, e]
    · rw [if_neg (fun q => e q.1), if_neg (by omega)]
  refine ⟨?_, fun i hi => ?_, fun i hi => ?_⟩
  · unfold packAdd; rw [List.length_set, glen, hl]; simp only [List.length_append, List.length_cons, List.length_nil]; split <;> omega
  · rw [hub]
    simp only [List.length_append, List.length_cons, List.length_nil] at hi
    by_cases e : i = l.length
    · rw [if_pos e, e]; simp [List.getD_eq_getElem?_getD]
    · rw [if_neg e, h.bits i (by omega)]; simp [List.getD_eq_getElem?_getD, List.getElem?_append, show i < l.length by omega]
  · simp only [List.length_append, List.length_cons, List.length_nil] at hi
    rw [hub, if_neg (by omega)]
    exact h.rest i (by omega)
theorem packed_nil : Packed [] [] := ⟨rfl, fun i hi => by simp at hi, fun i _ => by simp [ub, nb]⟩
theorem packed_from (m : List Bool) : ∀ (l : List Bool) (D : List UInt8), Packed l D → Packed (l ++ m) (packFrom D l.length m) := by
  induction m with
  | nil => intro l D h; simpa [packFrom] using h
  | cons b m ih =>
    intro l D h
    have := ih (l ++ [b]) _ (h.snoc b)
    simpa [packFrom] using this
theorem packed_pack (l : List Bool) : Packed l (pack l) := packed_from l [] [] packed_nil
theorem byte_ext {x y : Nat} (hx : x < 256) (hy : y < 256) (h : ∀ j, j < 8 → (x / 2 ^ (7 - j) % 2 == 1) = (y / 2 ^ (7 - j) % 2 == 1)) : x = y := by
  have h' : ∀ j, j < 8 → x / 2 ^ (7 - j) % 2 = y / 2 ^ (7 - j) % 2 := fun j hj => by
    have := h j hj
    rw [Bool.eq_iff_iff] at this
    simp at this
    omega
  have h0 := h' 0 (by omega); have h1 := h' 1 (by omega); have h2 := h' 2 (by omega); have h3 := h' 3 (by omega); have h4 := h' 4 (by omega); have h5 := h' 5 (by omega); have h6 := h' 6 (by omega); have h7 := h' 7 (by omega)
  simp only [Nat.reduceSub, Nat.reducePow] at h0 h1 h2 h3 h4 h5 h6 h7
  omega
theorem bytes_ext {D E : List UInt8} (hl : D.length = E.length) (h : ∀ i, i < 8 * D.length → ub D i = ub E i) : D = E := by
  apply List.ext_getElem hl
  intro i h1 h2
  have e : nb D i = nb E i := byte_ext (nb_lt _ _) (nb_lt _ _) fun j hj => by
    have := h (8 * i + j) (by omega)
    unfold ub at this
    rwa [show (8 * i + j) / 8 = i by omega, show (8 * i + j) % 8 = j by omega] at this
  unfold nb at e
  rw [List.getD_eq_getElem?_getD, List.getD_eq_getElem?_getD, List.getElem?_eq_getElem h1, List.getElem?_eq_getElem h2] at e
  exact UInt8.toNat_inj.1 e
theorem Packed.eq {l : List Bool} {D E : List UInt8} (h : Packed l D) (g : Packed l E) : D = E := by
  refine bytes_ext (by rw [h.len, g.len]) fun i hi => ?_
  by_cases e : i < l.length
  · rw [h.bits i e, g.bits i e]
  · rw [h.rest i (by omega), g.rest i (by omega)]
theorem Packed.pack_eq {l : List Bool} {D : List UInt8} (h : Packed l D) : pack l = D := (packed_pack l).eq h
/-- The first k bits of bytes. -/
def unp (D : List UInt8) (k : Nat) : List Bool := (List.range k).map (ub D)
theorem unp_length (D : List UInt8) (k : Nat) : (unp D k).length = k := by simp [unp]
theorem unp_getD (D : List UInt8) (k i : Nat) (h : i < k) : (unp D k).getD i false = ub D i := by
  simp [unp, List.getD_eq_getElem?_getD, List.getElem?_map, List.getElem?_range h]
theorem unp_succ (D : List UInt8) (k : Nat) : unp D (k + 1) = unp D k ++ [ub D k] := by simp [unp, List.range_succ]
/-- Bytes are right for k bits: as many as needed, and nothing behind. -/
theorem packed_unp (D : List UInt8) (k : Nat) (hl : D.length = (k + 7) / 8) (h : ∀ i, k ≤ i → ub D i = false) : Packed (unp D k) D :=
  ⟨by rw [unp_length]; exact hl, fun i hi => by rw [unp_length] at hi; exact (unp_getD D k i hi).symm, fun i hi => by rw [unp_length] at hi; exact h i hi⟩
end Go.Proofs.YtnbdmmepdmmbmaaDoor
