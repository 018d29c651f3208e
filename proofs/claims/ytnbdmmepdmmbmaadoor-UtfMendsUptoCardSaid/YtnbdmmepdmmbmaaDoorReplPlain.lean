/- strings.ReplaceAll byte by byte; lines and returns. No statement is proved here. -/
import Derived.Lib.Replace
import Derived.Test.YtnbdmmepdmmbmaaDoorAid
namespace Go.Proofs.YtnbdmmepdmmbmaaDoor
open Go.Lib
set_option linter.unusedVariables false
/-- All instances of old replaced. -/
def rA (old new s : List UInt8) : List UInt8 := replaceK old new (count s old) s
theorem rA_all {old new : List UInt8} (h : old ≠ new) (s : List UInt8) : replaceAll s old new = rA old new s := by
  unfold replaceAll replace rA replaceNum
  rw [if_neg (by simpa using h), if_pos (.inl (by decide))]
theorem rA_nil {old new : List UInt8} (h : old ≠ []) : rA old new [] = [] := by
  have hi : index [] old = -1 := by
    unfold index; cases old with
    | nil => exact absurd rfl h
    | cons a t => rfl
  unfold rA; rw [count_miss hi]; rfl
theorem rA_hit {old new : List UInt8} (h : old ≠ []) (b : UInt8) (l : List UInt8) (hp : old.isPrefixOf (b :: l) = true) : rA old new (b :: l) = new ++ rA old new ((b :: l).drop old.length) := by
  have hi : index (b :: l) old = ((0 : Nat) : Int) := by unfold index; rw [if_pos hp]; rfl
  unfold rA
  rw [count_hit h hi, Nat.add_comm, replaceK_hit old new _ _ 0 hi]
  simp
theorem rA_miss {old new : List UInt8} (h : old ≠ []) (b : UInt8) (l : List UInt8) (hp : old.isPrefixOf (b :: l) = false) : rA old new (b :: l) = b :: rA old new l := by
  have e : index (b :: l) old = if index l old == -1 then -1 else index l old + 1 := by
    conv => lhs; unfold index
    rw [if_neg (by rw [hp]; decide)]
  have hge := index_ge l old
  by_cases hm : index l old = -1
  · have hi : index (b :: l) old = -1 := by rw [e, if_pos (beq_iff_eq.2 hm)]
    unfold rA
    rw [count_miss hi, count_miss hm]; rfl
  · obtain ⟨i, hl⟩ : ∃ i : Nat, index l old = i := ⟨(index l old).toNat, by omega⟩
    have hi : index (b :: l) old = ((i + 1 : Nat) : Int) := by rw [e, if_neg (fun q => hm (beq_iff_eq.1 q)), hl]; rfl
    unfold rA
    rw [count_hit h hi, count_hit h hl, Nat.add_comm 1, Nat.add_comm 1, replaceK_hit old new _ _ (i + 1) hi, replaceK_hit old new _ _ i hl]
    have e1 : (b :: l).drop (i + 1 + old.length) = l.drop (i + old.length) := by rw [show i + 1 + old.length = (i + old.length) + 1 by omega]; rfl
    rw [e1]; simp
/-- One byte is replaced. -/
theorem rA_one (c : UInt8) (new : List UInt8) : ∀ s : List UInt8, rA [c] new s = s.flatMap fun x => if x = c then new else [x]
  | [] => rA_nil (by simp)
  | x :: t => by
    by_cases h : x = c
    · rw [rA_hit (by simp) x t (by simp [List.isPrefixOf, h]), List.flatMap_cons, if_pos h]
      show new ++ rA [c] new t = _
      rw [rA_one c new t]
    · rw [rA_miss (by simp) x t (by simp [List.isPrefixOf]; exact fun q => h q.symm), List.flatMap_cons, if_neg h, rA_one c new t]; rfl
/-- What Lines writes, behind a byte. -/
def linesP : UInt8 → List UInt8 → List UInt8
  | _, [] => []
  | p, x :: t => (if x = 13 then [10] else if x = 10 ∧ p = 13 then [] else [x]) ++ linesP x t
def lf (x : UInt8) : List UInt8 := if x = 13 then [10] else [x]
theorem lines_law : ∀ (n : Nat) (s : List UInt8), s.length ≤ n → ∀ p : UInt8, (p ≠ 13 → (rA [13, 10] [10] s).flatMap lf = linesP p s) ∧ (p = 13 → ∀ t, s = 10 :: t → (rA [13, 10] [10] t).flatMap lf = linesP 13 s) ∧ ((∀ t, s ≠ 10 :: t) → (rA [13, 10] [10] s).flatMap lf = linesP p s) := by
  intro n
  induction n with
  | zero =>
    intro s hs p
    obtain rfl : s = [] := List.eq_nil_of_length_eq_zero (by omega)
    rw [rA_nil (by simp)]
    exact ⟨fun _ => rfl, fun _ t h => by simp at h, fun _ => rfl⟩
  | succ n ih =>
    intro s hs p
    cases s with
    | nil =>
      rw [rA_nil (by simp)]
      exact ⟨fun _ => rfl, fun _ t h => by simp at h, fun _ => rfl⟩
    | cons x t =>
      simp only [List.length_cons] at hs
      obtain ⟨ih1, ih2, ih3⟩ := ih t (by omega) x
      -- the row read from x on, whatever stood before, unless x is a line feed behind a carriage return
      have main : (x ≠ 10 ∨ p ≠ 13) → (rA [13, 10] [10] (x :: t)).flatMap lf = linesP p (x :: t) := by
        intro hx
        by_cases h13 : x = 13
        · subst h13
          have el : linesP p (13 :: t) = 10 :: linesP 13 t := by simp [linesP]
          rw [el]
          by_cases h10 : ∃ u, t = 10 :: u
          · obtain ⟨u, rfl⟩ := h10
            rw [rA_hit (by simp) 13 (10 :: u) (by simp [List.isPrefixOf])]
            show ([10] ++ rA [13, 10] [10] u).flatMap lf = _
            rw [List.flatMap_append, ih2 rfl u rfl]; rfl
          · have hne : ∀ u, t ≠ 10 :: u := fun u q => h10 ⟨u, q⟩
            rw [rA_miss (by simp) 13 t (by cases t with | nil => rfl | cons y u => simp [List.isPrefixOf]; intro q; exact hne u (by rw [← q])), List.flatMap_cons, ih3 hne]; rfl
        · have el : linesP p (x :: t) = [x] ++ linesP x t := by
            show (if x = 13 then [10] else if x = 10 ∧ p = 13 then [] else [x]) ++ linesP x t = _
            rw [if_neg h13, if_neg (fun q => by rcases hx with h | h; exact h q.1; exact h q.2)]
          rw [el, rA_miss (by simp) x t (by simp [List.isPrefixOf]; intro q; exact absurd q.symm h13), List.flatMap_cons, ih1 h13]
          unfold lf; rw [if_neg h13]
      refine ⟨fun hp => main (.inr hp), fun hp u hu => ?_, fun hne => main (.inl fun q => hne t (by rw [q]))⟩
      injection hu with h1 h2
      subst h1; subst h2
      have el : linesP 13 (10 :: t) = linesP 10 t := by
        show (if (10 : UInt8) = 13 then [10] else if (10 : UInt8) = 10 ∧ (13 : UInt8) = 13 then [] else [10]) ++ linesP 10 t = _
        rw [if_neg (by decide), if_pos ⟨rfl, rfl⟩]; rfl
      rw [el]; exact ih1 (by decide)
/-- Lines is the two replacements. -/
theorem lines_eq (s : List UInt8) : replaceAll (replaceAll s [13, 10] [10]) [13] [10] = linesP 0 s := by
  rw [rA_all (by decide), rA_all (by decide), rA_one]
  exact (lines_law s.length s (Nat.le_refl _) 0).1 (by decide)
/-- Returns is one replacement. -/
def retL (s : List UInt8) : List UInt8 := s.flatMap fun x => if x = 10 then [13, 10] else [x]
theorem ret_eq (s : List UInt8) : replaceAll s [10] [13, 10] = retL s := by
  rw [rA_all (by decide), rA_one]; rfl
end Go.Proofs.YtnbdmmepdmmbmaaDoor
