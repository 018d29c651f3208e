/- Named is Name. No statement is proved here. -/
import Derived.Test.YticdlpkjjokbcaaPNamx6
import Derived.Test.YticdlpkjjokbcaaPlugName
import Derived.Test.YticdlpkjjokbcaaPure
namespace Go.Proofs.Yticdlpkjjokbcaa.PNam
open Go.RowKit Go.Proofs.YticdlpkjjokbcaaW.PrintWords Go.Proofs.YticdlpkjjokbcaaW.PrintLast Go.Proofs.YticdlpkjjokbcaaW.PrintMore Go.Proofs.Yticdlpkjjokbcaa Go.Proofs.Yticdlpkjjokbcaa.Plug
open Go.Proofs.Yticdlpkjjokbcaa.PVal (nameB nameB_eq nameB_long nmC)
set_option linter.unusedVariables false
set_option linter.unusedSimpArgs false
def lets1 : List UInt8 := [97, 98, 99, 100, 101, 102, 103, 104, 105, 106, 107, 108, 109, 110, 111, 112, 113, 114, 115, 116, 117, 118, 119, 120, 121, 122]
def lets2 : List UInt8 := [97, 98, 99, 100, 101, 102, 103, 104, 105, 106, 107, 108, 109, 110, 111, 112, 113, 114, 115, 116, 117, 118, 119, 120, 121, 122, 48, 49, 50, 51, 52, 53, 54, 55, 56, 57, 45]
theorem lets1_all : ∀ n : Nat, n < 256 → decide (0 ≤ Lib.indexByte lets1 (UInt8.ofNat n)) = (decide (97 ≤ n) && decide (n ≤ 122)) := by decide +kernel
theorem lets2_all : ∀ n : Nat, n < 256 → decide (0 ≤ Lib.indexByte lets2 (UInt8.ofNat n)) = nmC (UInt8.ofNat n) := by decide +kernel
theorem lets1_eq (c : UInt8) : decide (0 ≤ Lib.indexByte lets1 c) = (decide (97 ≤ c.toNat) && decide (c.toNat ≤ 122)) := by
  have := lets1_all c.toNat c.toNat_lt
  rwa [UInt8.ofNat_toNat] at this
theorem lets2_eq (c : UInt8) : decide (0 ≤ Lib.indexByte lets2 c) = nmC c := by
  have := lets2_all c.toNat c.toNat_lt
  rwa [UInt8.ofNat_toNat] at this
theorem has_one (a t : ByteArray) (c : UInt8) (h : t.data.toList = [c]) : strings_Contains.f a t = some (decide (0 ≤ Lib.indexByte (lb a) c)) := by
  unfold strings_Contains.f
  rw [h]
theorem ext_one (s : ByteArray) (i : Nat) (h : i < s.data.toList.length) : (s.extract i (i + 1)).data.toList = [s.data.toList[i]] := by
  have : (s.extract i (i + 1)).data.toList = (s.data.toList.drop i).take (i + 1 - i) := lb_extract s i (i + 1)
  rw [this, List.drop_eq_getElem_cons h, show i + 1 - i = 1 by omega]; rfl
def L1 : ByteArray := ⟨#[97, 98, 99, 100, 101, 102, 103, 104, 105, 106, 107, 108, 109, 110, 111, 112, 113, 114, 115, 116, 117, 118, 119, 120, 121, 122]⟩
def L2 : ByteArray := ⟨#[97, 98, 99, 100, 101, 102, 103, 104, 105, 106, 107, 108, 109, 110, 111, 112, 113, 114, 115, 116, 117, 118, 119, 120, 121, 122, 48, 49, 50, 51, 52, 53, 54, 55, 56, 57, 45]⟩
theorem has1 (s : ByteArray) (h : 0 < (lb s).length) : strings_Contains.f L1 (s.extract 0 1) = some (decide (97 ≤ (lb s)[0].toNat) && decide ((lb s)[0].toNat ≤ 122)) := (has_one _ _ _ (ext_one s 0 h)).trans (congrArg some (lets1_eq _))
theorem has2 (s : ByteArray) (i : Nat) (h : i < (lb s).length) : strings_Contains.f L2 (s.extract i (i + 1)) = some (nmC (lb s)[i]) := (has_one _ _ _ (ext_one s i h)).trans (congrArg some (lets2_eq _))
theorem named_l0 (s : ByteArray) (hs : s.size ≤ 16) : ∀ (d i : Nat), s.size - i ≤ d → i ≤ s.size → Ev (fun k => clapref1_Named.l0 k s (s.size : Int) i) ((lb s).drop i |>.all nmC) := by
  have hD : (lb s).length = s.size := lb_len s
  intro d
  induction d with
  | zero =>
    intro i h1 h2
    obtain rfl : i = s.size := by omega
    apply Ev.succ
    simp only [clapref1_Named.l0, if_neg (show ¬ (s.size : Int) < s.size by omega)]
    rw [List.drop_of_length_le (by omega)]
    exact Ev.now _
  | succ d ih =>
    intro i h1 h2
    by_cases q : i < s.size
    · apply Ev.succ
      have hi : i < (lb s).length := by omega
      simp only [clapref1_Named.l0, if_pos (show (i : Int) < s.size by omega), if_pos (show (0 : Int) ≤ i by omega)]
      rw [wrap_eq (by omega) (by omega)]
      simp only [if_pos (show (i : Int) ≤ i + 1 by omega), if_pos (show (i : Int) + 1 ≤ s.size by omega)]
      rw [show ((i : Int) + 1).toNat = i + 1 by omega, Int.toNat_natCast]
      have e2 := has2 s i hi
      unfold L2 at e2
      simp only [e2, Option.bind_some]
      rw [List.drop_eq_getElem_cons hi, List.all_cons]
      by_cases z : nmC (lb s)[i] = true
      · simp only [if_pos z, z, Bool.true_and]
        exact_mod_cast ih (i + 1) (by omega) (by omega)
      · rw [Bool.not_eq_true] at z
        simp only [z, Bool.false_and, Bool.false_eq_true, if_false]
        exact Ev.now _
    · obtain rfl : i = s.size := by omega
      apply Ev.succ
      simp only [clapref1_Named.l0, if_neg (show ¬ (s.size : Int) < s.size by omega)]
      rw [List.drop_of_length_le (by omega)]
      exact Ev.now _
theorem named_ev (s : ByteArray) : Ev (fun k => clapref1_Named.f k s) (nameB s) := by
  have hD : (lb s).length = s.size := lb_len s
  unfold clapref1_Named.f
  rcases Nat.eq_zero_or_pos s.size with h0 | h0
  · simp only [if_pos (show (s.size : Int) = 0 by omega)]
    apply Ev.succ
    simp only [clapref1_Named.j0, if_true]
    have : nameB s = false := by have e := List.length_eq_zero_iff.1 (show (lb s).length = 0 by omega); unfold nameB; simp only [lb] at e; rw [e]
    rw [this]; exact Ev.now _
  · simp only [if_neg (show ¬ (s.size : Int) = 0 by omega)]
    rcases Nat.lt_or_ge 16 s.size with h1 | h1
    · simp only [if_pos (show (s.size : Int) > 16 by omega)]
      apply Ev.succ
      simp only [clapref1_Named.j0, if_true]
      rw [nameB_long s h1]; exact Ev.now _
    · have hi : 0 < (lb s).length := by omega
      simp only [if_neg (show ¬ (s.size : Int) > 16 by omega), if_pos (show (0 : Int) ≤ 1 by omega), if_pos (show (1 : Int) ≤ s.size by omega)]
      have e2 := has1 s hi
      unfold L1 at e2
      simp only [e2, Option.bind_some, Int.reduceLE, if_true]
      rw [nameB_eq s h0]
      have e0 : s[0] = (lb s)[0] := rfl
      rw [e0]
      by_cases z : (decide (97 ≤ (lb s)[0].toNat) && decide ((lb s)[0].toNat ≤ 122)) = true
      · apply Ev.succ
        have h16 : decide (s.size ≤ 16) = true := by simpa using h1
        rw [Bool.and_assoc (decide (s.size ≤ 16)), z, h16]
        simp only [clapref1_Named.j0, Bool.not_true, Bool.false_eq_true, if_false, Bool.true_and]
        have := named_l0 s h1 s.size 0 (by omega) (by omega)
        simpa using this
      · apply Ev.succ
        rw [Bool.not_eq_true] at z
        rw [Bool.and_assoc (decide (s.size ≤ 16)), z]
        simp only [clapref1_Named.j0, Bool.not_false, if_true, Bool.and_false, Bool.false_and]
        exact Ev.now _
theorem named_any (s : ByteArray) (w : World) : Calls Try.prog 18 #[.string s] w fun e w' => e = .returned (.bool (nameB s)) ∧ Below w.heap.size w w' := by
  obtain ⟨k, h⟩ := (named_ev s).rounds
  refine (clapref1_Named.calls k s (nameB s) w h).mono ?_
  rintro e w' ⟨rfl, ⟨nd, rfl⟩⟩
  exact ⟨rfl, blw_drewN (Below.refl _ _) nd⟩
theorem named_short (s : ByteArray) (h : nameB s = true) : s.size ≤ 16 := by
  rcases Nat.lt_or_ge 16 s.size with q | q
  · have := nameB_long s (by omega)
    rw [this] at h; cases h
  · exact q
end Go.Proofs.Yticdlpkjjokbcaa.PNam
