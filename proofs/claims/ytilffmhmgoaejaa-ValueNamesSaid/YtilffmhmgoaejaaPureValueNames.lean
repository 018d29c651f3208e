/- The plain law of ValueNames: Name is Named; Scalar is the list. No statement is proved here. -/
import Derived.Test.YtilffmhmgoaejaaPValx8
import Derived.Test.YtilffmhmgoaejaaValFact
namespace Go.Proofs.Ytilffmhmgoaejaa.Pure
open Go.RowKit Go.Proofs.Ytilffmhmgoaejaa.PVal Go.Proofs.YtilffmhmgoaejaaW.PrintWords Go.Proofs.YtilffmhmgoaejaaW.PrintLast Go.Proofs.YtilffmhmgoaejaaW.PrintMore Go.Proofs.Ytilffmhmgoaejaa Go.Proofs.Ytilffmhmgoaejaa.Plug
theorem rd7 (i : Nat) : rd ([0, 1, 2, 3, 4, 5, 11] : List Int) (i : Int) = ([0, 1, 2, 3, 4, 5, 11] : List Int).getD i 0 := by
  unfold rd
  rw [Int.toNat_natCast]
theorem idx_ev (a : Int) : Ev (fun k => slices_Contains_int_int.f k ([0, 1, 2, 3, 4, 5, 11] : List Int) a) (decide (0 ≤ a ∧ a ≤ 5 ∨ a = 11)) := by
  have step : ∀ (i : Nat) (r : Int), i < 7 → (a = ([0, 1, 2, 3, 4, 5, 11] : List Int).getD i 0 → r = i) → (a ≠ ([0, 1, 2, 3, 4, 5, 11] : List Int).getD i 0 → Ev (fun k => slices_Index_int_int.l0 k ([0, 1, 2, 3, 4, 5, 11] : List Int) a 7 ((i : Int) + 1)) r) → Ev (fun k => slices_Index_int_int.l0 k ([0, 1, 2, 3, 4, 5, 11] : List Int) a 7 (i : Int)) r := by
    intro i r hi h1 h2
    apply Ev.succ
    simp only [slices_Index_int_int.l0, if_pos (show (i : Int) < 7 by omega), if_pos (show (0 : Int) ≤ i by omega), if_pos (show (i : Int) < (([0, 1, 2, 3, 4, 5, 11] : List Int).length : Int) by show (i : Int) < 7; omega), rd7 i]
    rw [wrap_eq (by omega) (by omega)]
    by_cases z : a = ([0, 1, 2, 3, 4, 5, 11] : List Int).getD i 0
    · simp only [if_pos z, h1 z]; exact Ev.now _
    · simp only [if_neg z]; exact h2 z
  have last : Ev (fun k => slices_Index_int_int.l0 k ([0, 1, 2, 3, 4, 5, 11] : List Int) a 7 7) (-1) := by
    apply Ev.succ
    simp only [slices_Index_int_int.l0, if_neg (show ¬ (7 : Int) < 7 by omega)]
    exact Ev.now _
  by_cases c : 0 ≤ a ∧ a ≤ 5 ∨ a = 11
  · rw [decide_eq_true c]
    have : ∃ r : Int, 0 ≤ r ∧ Ev (fun k => slices_Index_int_int.l0 k ([0, 1, 2, 3, 4, 5, 11] : List Int) a 7 0) r := by
      rcases (show a = 0 ∨ a = 1 ∨ a = 2 ∨ a = 3 ∨ a = 4 ∨ a = 5 ∨ a = 11 by omega) with rfl | rfl | rfl | rfl | rfl | rfl | rfl
      · exact ⟨0, by decide, Ev.of (slices_Index_int_int.mono_l · _ _ _ _) (k := 10) (by kernel_rfl)⟩
      · exact ⟨1, by decide, Ev.of (slices_Index_int_int.mono_l · _ _ _ _) (k := 10) (by kernel_rfl)⟩
      · exact ⟨2, by decide, Ev.of (slices_Index_int_int.mono_l · _ _ _ _) (k := 10) (by kernel_rfl)⟩
      · exact ⟨3, by decide, Ev.of (slices_Index_int_int.mono_l · _ _ _ _) (k := 10) (by kernel_rfl)⟩
      · exact ⟨4, by decide, Ev.of (slices_Index_int_int.mono_l · _ _ _ _) (k := 10) (by kernel_rfl)⟩
      · exact ⟨5, by decide, Ev.of (slices_Index_int_int.mono_l · _ _ _ _) (k := 10) (by kernel_rfl)⟩
      · exact ⟨6, by decide, Ev.of (slices_Index_int_int.mono_l · _ _ _ _) (k := 10) (by kernel_rfl)⟩
    obtain ⟨r, hr, h⟩ := this
    unfold slices_Contains_int_int.f slices_Index_int_int.f
    refine Ev.bind h ?_
    rw [decide_eq_true (show r ≥ 0 from hr)]
    exact Ev.now _
  · rw [decide_eq_false c]
    unfold slices_Contains_int_int.f slices_Index_int_int.f
    have h : Ev (fun k => slices_Index_int_int.l0 k ([0, 1, 2, 3, 4, 5, 11] : List Int) a 7 0) (-1) := by
      refine step 0 _ (by decide) (fun e => by simp at e; omega) (fun _ => ?_)
      refine step 1 _ (by decide) (fun e => by simp at e; omega) (fun _ => ?_)
      refine step 2 _ (by decide) (fun e => by simp at e; omega) (fun _ => ?_)
      refine step 3 _ (by decide) (fun e => by simp at e; omega) (fun _ => ?_)
      refine step 4 _ (by decide) (fun e => by simp at e; omega) (fun _ => ?_)
      refine step 5 _ (by decide) (fun e => by simp at e; omega) (fun _ => ?_)
      refine step 6 _ (by decide) (fun e => by simp at e; omega) (fun _ => ?_)
      exact last
    refine Ev.bind h ?_
    exact Ev.now _
theorem scalar_f (a : Int) : value_Scalar.f a = some (decide (0 ≤ a ∧ a ≤ 5 ∨ a = 11)) := by
  unfold value_Scalar.f
  by_cases h0 : a ≥ 0
  · by_cases h1 : a ≤ 5
    · rw [if_pos h0, if_pos h1, decide_eq_true (by omega)]
    · rw [if_pos h0, if_neg h1]; congr 1; rw [Bool.eq_iff_iff]; simp; omega
  · rw [if_neg h0]; congr 1; rw [Bool.eq_iff_iff]; simp; omega
/-- Name and Scalar against the reference. -/
theorem ValueNames : claplaw1_ValueNames.Pure := by
  intro s a _ _
  refine Ev.rounds (g := fun k => claplaw1_ValueNames.f k s a) ?_
  unfold claplaw1_ValueNames.f
  refine Ev.bind (idx_ev a) ?_
  refine Ev.bind values_ev ?_
  simp only [if_true, value_Name.f, Option.bind_some]
  refine Ev.bind (named_ev s) ?_
  simp only [beq_self_eq_true, if_true, scalar_f, Option.bind_some]
  exact Ev.now _
end Go.Proofs.Ytilffmhmgoaejaa.Pure
