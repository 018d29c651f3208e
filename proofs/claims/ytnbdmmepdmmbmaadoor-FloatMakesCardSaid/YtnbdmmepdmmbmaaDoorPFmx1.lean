-- Printed by myprint.py (a program of this work, wip/myprint.py) out of the translation; Lean checks it.
import Derived.Test.YtnbdmmepdmmbmaaDoorPFmx0
import Derived.Test.YtnbdmmepdmmbmaaDoorPlugLen
namespace Go.Proofs.YtnbdmmepdmmbmaaDoor.PFm
open Go.RowKit Go.Proofs.YtnbdmmepdmmbmaaDoor Go.Proofs.YtnbdmmepdmmbmaaDoor.Plug Go.Proofs.YtnbdmmepdmmbmaaDoorW.PrintWords Go.Proofs.YtnbdmmepdmmbmaaDoorW.PrintLast Go.Proofs.YtnbdmmepdmmbmaaDoorW.PrintMore
attribute [local go_sem] max2_int min2_int max_two min_two max_three min_three max_four min_four   -- for this text's walks alone
set_option linter.unusedVariables false
set_option linter.unusedSimpArgs false

/-! ### float_sign: function 51 -/
def float_sign.f (a0 : Int) (a1 : Bool) : Option (Int) := if a1 = true then (some (Go.bits .or .i64 a0 (-9223372036854775808))) else (some a0)
set_option maxHeartbeats 8000000 in
set_option maxRecDepth 100000 in
theorem float_sign.calls (a0 : Int) (a1 : Bool) (r : Int) (w : World) (h : float_sign.f a0 a1 = some r) :
    Calls Tryd.prog 51 #[.int .i64 a0, .bool a1] w fun e w' => e = .returned (.int .i64 r) ∧ Drawn0 w w' := by
  have H : (if a1 = true then (some (Go.bits .or .i64 a0 (-9223372036854775808))) else (some a0)) = some r := h
  clear h
  by_cases c3 : a1 = true
  · subst c3
    have H1 : (some (Go.bits .or .i64 a0 (-9223372036854775808))) = some r := by rw [if_pos rfl] at H; exact H
    clear H
    have H := H1
    clear H1
    obtain rfl := Option.some.inj H
    go_enter Tryd.func51, Tryd.ntmps51
    go_wp2
    go_ret
    exact ⟨by first | rfl | (simp; done) | (simp [*]; done) | (simp only [bytes_bne_nil, bytes_beq_nil]; first | done | (congr 1; done) | (congr 1; grind)), by repeat (first | exact Drawn0.refl _ | apply Drawn0.step)⟩
  · replace c3 := Bool.eq_false_iff.mpr c3
    subst c3
    have H1 : (some a0) = some r := by rw [if_neg (show ¬ (false = true) by decide)] at H; exact H
    clear H
    have H := H1
    clear H1
    obtain rfl := Option.some.inj H
    go_enter Tryd.func51, Tryd.ntmps51
    go_wp2
    go_ret
    exact ⟨by first | rfl | (simp; done) | (simp [*]; done) | (simp only [bytes_bne_nil, bytes_beq_nil]; first | done | (congr 1; done) | (congr 1; grind)), by repeat (first | exact Drawn0.refl _ | apply Drawn0.step)⟩

/-! ### float_Make: function 17 -/
mutual
def float_Make.j0 : Nat → Bool → Int → Int → Option (Int × Int)
  | 0, _, _, _ => none
  | k + 1, x0, x9, x10 => if x10 = 9007199254740992 then (float_Make.j1 k x0 (wrap64 (x9 + 1)) 4503599627370496) else (float_Make.j1 k x0 x9 x10)
def float_Make.j1 : Nat → Bool → Int → Int → Option (Int × Int)
  | 0, _, _, _ => none
  | k + 1, x0, x9, x10 => if x10 = 0 then (float_Make.j2 k x0 x9 x10 true) else (float_Make.j2 k x0 x9 x10 (decide (x10 < 4503599627370496)))
def float_Make.j2 : Nat → Bool → Int → Int → Bool → Option (Int × Int)
  | 0, _, _, _, _ => none
  | k + 1, x0, x9, x10, x72 => if x72 = true then ((float_sign.f (wrap64 (x10)) x0).bind fun t102 => (some (t102, 0))) else (if (wrap64 ((wrap64 (x9 + 1074)) + 1)) ≥ 2047 then (some (0, 11)) else ((float_sign.f (Go.bits .or .i64 (wrap64 ((wrap64 ((wrap64 (x9 + 1074)) + 1)) * 4503599627370496)) (wrap64 (IntKind.u64.wrap (x10 - 4503599627370496)))) x0).bind fun t103 => (some (t103, 0))))
end
def float_Make.f (k : Nat) (a0 : Bool) (a1 : Int) (a2 : Int) : Option (Int × Int) := if a1 < 0 then (some (0, 1)) else ((bits_Len64.f (IntKind.u64.wrap (a1))).bind fun t101 => (if (wrap64 ((mx (wrap64 ((wrap64 ((mx (-5000) (mn a2 5000)) + t101)) - 53)) (-1074)) - (mx (-5000) (mn a2 5000)))) > 63 then (float_Make.j0 k a0 (mx (wrap64 ((wrap64 ((mx (-5000) (mn a2 5000)) + t101)) - 53)) (-1074)) 0) else (if (wrap64 ((mx (wrap64 ((wrap64 ((mx (-5000) (mn a2 5000)) + t101)) - 53)) (-1074)) - (mx (-5000) (mn a2 5000)))) > 0 then (if 0 ≤ (wrap64 ((mx (wrap64 ((wrap64 ((mx (-5000) (mn a2 5000)) + t101)) - 53)) (-1074)) - (mx (-5000) (mn a2 5000)))) then (if 0 ≤ (wrap64 ((wrap64 ((mx (wrap64 ((wrap64 ((mx (-5000) (mn a2 5000)) + t101)) - 53)) (-1074)) - (mx (-5000) (mn a2 5000)))) - 1)) then (if (Go.bits .and .u64 (IntKind.u64.wrap (a1)) (IntKind.u64.wrap ((shl .u64 1 (wrap64 ((mx (wrap64 ((wrap64 ((mx (-5000) (mn a2 5000)) + t101)) - 53)) (-1074)) - (mx (-5000) (mn a2 5000))))) - 1))) > (shl .u64 1 (wrap64 ((wrap64 ((mx (wrap64 ((wrap64 ((mx (-5000) (mn a2 5000)) + t101)) - 53)) (-1074)) - (mx (-5000) (mn a2 5000)))) - 1))) then (float_Make.j0 k a0 (mx (wrap64 ((wrap64 ((mx (-5000) (mn a2 5000)) + t101)) - 53)) (-1074)) (IntKind.u64.wrap ((shr .u64 (IntKind.u64.wrap (a1)) (wrap64 ((mx (wrap64 ((wrap64 ((mx (-5000) (mn a2 5000)) + t101)) - 53)) (-1074)) - (mx (-5000) (mn a2 5000))))) + 1))) else (if (Go.bits .and .u64 (IntKind.u64.wrap (a1)) (IntKind.u64.wrap ((shl .u64 1 (wrap64 ((mx (wrap64 ((wrap64 ((mx (-5000) (mn a2 5000)) + t101)) - 53)) (-1074)) - (mx (-5000) (mn a2 5000))))) - 1))) = (shl .u64 1 (wrap64 ((wrap64 ((mx (wrap64 ((wrap64 ((mx (-5000) (mn a2 5000)) + t101)) - 53)) (-1074)) - (mx (-5000) (mn a2 5000)))) - 1))) then (if (Go.bits .and .u64 (shr .u64 (IntKind.u64.wrap (a1)) (wrap64 ((mx (wrap64 ((wrap64 ((mx (-5000) (mn a2 5000)) + t101)) - 53)) (-1074)) - (mx (-5000) (mn a2 5000))))) 1) = 1 then (float_Make.j0 k a0 (mx (wrap64 ((wrap64 ((mx (-5000) (mn a2 5000)) + t101)) - 53)) (-1074)) (IntKind.u64.wrap ((shr .u64 (IntKind.u64.wrap (a1)) (wrap64 ((mx (wrap64 ((wrap64 ((mx (-5000) (mn a2 5000)) + t101)) - 53)) (-1074)) - (mx (-5000) (mn a2 5000))))) + 1))) else (float_Make.j0 k a0 (mx (wrap64 ((wrap64 ((mx (-5000) (mn a2 5000)) + t101)) - 53)) (-1074)) (shr .u64 (IntKind.u64.wrap (a1)) (wrap64 ((mx (wrap64 ((wrap64 ((mx (-5000) (mn a2 5000)) + t101)) - 53)) (-1074)) - (mx (-5000) (mn a2 5000))))))) else (float_Make.j0 k a0 (mx (wrap64 ((wrap64 ((mx (-5000) (mn a2 5000)) + t101)) - 53)) (-1074)) (shr .u64 (IntKind.u64.wrap (a1)) (wrap64 ((mx (wrap64 ((wrap64 ((mx (-5000) (mn a2 5000)) + t101)) - 53)) (-1074)) - (mx (-5000) (mn a2 5000)))))))) else (none)) else (none)) else (if 0 ≤ (wrap64 (-(wrap64 ((mx (wrap64 ((wrap64 ((mx (-5000) (mn a2 5000)) + t101)) - 53)) (-1074)) - (mx (-5000) (mn a2 5000)))))) then (float_Make.j0 k a0 (mx (wrap64 ((wrap64 ((mx (-5000) (mn a2 5000)) + t101)) - 53)) (-1074)) (shl .u64 (IntKind.u64.wrap (a1)) (wrap64 (-(wrap64 ((mx (wrap64 ((wrap64 ((mx (-5000) (mn a2 5000)) + t101)) - 53)) (-1074)) - (mx (-5000) (mn a2 5000)))))))) else (none)))))
theorem float_Make.mono_l : ∀ k, (∀ y0 y1 y2, LeO (float_Make.j0 k y0 y1 y2) (float_Make.j0 (k + 1) y0 y1 y2)) ∧ (∀ y0 y1 y2, LeO (float_Make.j1 k y0 y1 y2) (float_Make.j1 (k + 1) y0 y1 y2)) ∧ (∀ y0 y1 y2 y3, LeO (float_Make.j2 k y0 y1 y2 y3) (float_Make.j2 (k + 1) y0 y1 y2 y3))
  | 0 => ⟨fun _ _ _ r h => by simp [float_Make.j0] at h, fun _ _ _ r h => by simp [float_Make.j1] at h, fun _ _ _ _ r h => by simp [float_Make.j2] at h⟩
  | k + 1 => by
    obtain ⟨ih0, ih1, ih2⟩ := float_Make.mono_l k
    refine ⟨?_, ?_, ?_⟩
    · intro y0 y1 y2
      unfold float_Make.j0
      repeat' first
      | (with_reducible exact ih0 _ _ _)
      | (with_reducible exact ih1 _ _ _)
      | (with_reducible exact ih2 _ _ _ _)
      | (with_reducible exact LeO.refl _)
      | (with_reducible exact LeO.none _)
      | (with_reducible refine LeO.ite ?_ ?_)
      | (with_reducible refine LeO.bind ?_ (fun _ => ?_))
      | exact ih0 _ _ _
      | exact ih1 _ _ _
      | exact ih2 _ _ _ _
      | exact LeO.none _
      | refine LeO.ite ?_ ?_
      | refine LeO.bind ?_ (fun _ => ?_)
    · intro y0 y1 y2
      unfold float_Make.j1
      repeat' first
      | (with_reducible exact ih0 _ _ _)
      | (with_reducible exact ih1 _ _ _)
      | (with_reducible exact ih2 _ _ _ _)
      | (with_reducible exact LeO.refl _)
      | (with_reducible exact LeO.none _)
      | (with_reducible refine LeO.ite ?_ ?_)
      | (with_reducible refine LeO.bind ?_ (fun _ => ?_))
      | exact ih0 _ _ _
      | exact ih1 _ _ _
      | exact ih2 _ _ _ _
      | exact LeO.none _
      | refine LeO.ite ?_ ?_
      | refine LeO.bind ?_ (fun _ => ?_)
    · intro y0 y1 y2 y3
      unfold float_Make.j2
      repeat' first
      | (with_reducible exact ih0 _ _ _)
      | (with_reducible exact ih1 _ _ _)
      | (with_reducible exact ih2 _ _ _ _)
      | (with_reducible exact LeO.refl _)
      | (with_reducible exact LeO.none _)
      | (with_reducible refine LeO.ite ?_ ?_)
      | (with_reducible refine LeO.bind ?_ (fun _ => ?_))
      | exact ih0 _ _ _
      | exact ih1 _ _ _
      | exact ih2 _ _ _ _
      | exact LeO.none _
      | refine LeO.ite ?_ ?_
      | refine LeO.bind ?_ (fun _ => ?_)
theorem float_Make.mono : ∀ a0 a1 a2 k, LeO (float_Make.f k a0 a1 a2) (float_Make.f (k + 1) a0 a1 a2) := by
  intro a0 a1 a2 k
  obtain ⟨ih0, ih1, ih2⟩ := float_Make.mono_l k
  unfold float_Make.f
  repeat' first
      | (with_reducible exact ih0 _ _ _)
      | (with_reducible exact ih1 _ _ _)
      | (with_reducible exact ih2 _ _ _ _)
      | (with_reducible exact LeO.refl _)
      | (with_reducible exact LeO.none _)
      | (with_reducible refine LeO.ite ?_ ?_)
      | (with_reducible refine LeO.bind ?_ (fun _ => ?_))
      | exact ih0 _ _ _
      | exact ih1 _ _ _
      | exact ih2 _ _ _ _
      | exact LeO.none _
      | refine LeO.ite ?_ ?_
      | refine LeO.bind ?_ (fun _ => ?_)
set_option maxHeartbeats 8000000 in
set_option maxRecDepth 100000 in
theorem float_Make.calls (k : Nat) (a0 : Bool) (a1 : Int) (a2 : Int) (r1 : Int) (r2 : Int) (w : World) (h : float_Make.f k a0 a1 a2 = some (r1, r2)) :
    Calls Tryd.prog 17 #[.bool a0, .int .i64 a1, .int .i64 a2] w fun e w' => e = .returned (.tuple #[.int .i64 r1, .int .i64 r2]) ∧ Below w.heap.size w w' := by
  have HB := Aside0.mk (Below.refl w.heap.size w)
  have H : (if a1 < 0 then (some (0, 1)) else ((bits_Len64.f (IntKind.u64.wrap (a1))).bind fun t101 => (if (wrap64 ((mx (wrap64 ((wrap64 ((mx (-5000) (mn a2 5000)) + t101)) - 53)) (-1074)) - (mx (-5000) (mn a2 5000)))) > 63 then (float_Make.j0 k a0 (mx (wrap64 ((wrap64 ((mx (-5000) (mn a2 5000)) + t101)) - 53)) (-1074)) 0) else (if (wrap64 ((mx (wrap64 ((wrap64 ((mx (-5000) (mn a2 5000)) + t101)) - 53)) (-1074)) - (mx (-5000) (mn a2 5000)))) > 0 then (if 0 ≤ (wrap64 ((mx (wrap64 ((wrap64 ((mx (-5000) (mn a2 5000)) + t101)) - 53)) (-1074)) - (mx (-5000) (mn a2 5000)))) then (if 0 ≤ (wrap64 ((wrap64 ((mx (wrap64 ((wrap64 ((mx (-5000) (mn a2 5000)) + t101)) - 53)) (-1074)) - (mx (-5000) (mn a2 5000)))) - 1)) then (if (Go.bits .and .u64 (IntKind.u64.wrap (a1)) (IntKind.u64.wrap ((shl .u64 1 (wrap64 ((mx (wrap64 ((wrap64 ((mx (-5000) (mn a2 5000)) + t101)) - 53)) (-1074)) - (mx (-5000) (mn a2 5000))))) - 1))) > (shl .u64 1 (wrap64 ((wrap64 ((mx (wrap64 ((wrap64 ((mx (-5000) (mn a2 5000)) + t101)) - 53)) (-1074)) - (mx (-5000) (mn a2 5000)))) - 1))) then (float_Make.j0 k a0 (mx (wrap64 ((wrap64 ((mx (-5000) (mn a2 5000)) + t101)) - 53)) (-1074)) (IntKind.u64.wrap ((shr .u64 (IntKind.u64.wrap (a1)) (wrap64 ((mx (wrap64 ((wrap64 ((mx (-5000) (mn a2 5000)) + t101)) - 53)) (-1074)) - (mx (-5000) (mn a2 5000))))) + 1))) else (if (Go.bits .and .u64 (IntKind.u64.wrap (a1)) (IntKind.u64.wrap ((shl .u64 1 (wrap64 ((mx (wrap64 ((wrap64 ((mx (-5000) (mn a2 5000)) + t101)) - 53)) (-1074)) - (mx (-5000) (mn a2 5000))))) - 1))) = (shl .u64 1 (wrap64 ((wrap64 ((mx (wrap64 ((wrap64 ((mx (-5000) (mn a2 5000)) + t101)) - 53)) (-1074)) - (mx (-5000) (mn a2 5000)))) - 1))) then (if (Go.bits .and .u64 (shr .u64 (IntKind.u64.wrap (a1)) (wrap64 ((mx (wrap64 ((wrap64 ((mx (-5000) (mn a2 5000)) + t101)) - 53)) (-1074)) - (mx (-5000) (mn a2 5000))))) 1) = 1 then (float_Make.j0 k a0 (mx (wrap64 ((wrap64 ((mx (-5000) (mn a2 5000)) + t101)) - 53)) (-1074)) (IntKind.u64.wrap ((shr .u64 (IntKind.u64.wrap (a1)) (wrap64 ((mx (wrap64 ((wrap64 ((mx (-5000) (mn a2 5000)) + t101)) - 53)) (-1074)) - (mx (-5000) (mn a2 5000))))) + 1))) else (float_Make.j0 k a0 (mx (wrap64 ((wrap64 ((mx (-5000) (mn a2 5000)) + t101)) - 53)) (-1074)) (shr .u64 (IntKind.u64.wrap (a1)) (wrap64 ((mx (wrap64 ((wrap64 ((mx (-5000) (mn a2 5000)) + t101)) - 53)) (-1074)) - (mx (-5000) (mn a2 5000))))))) else (float_Make.j0 k a0 (mx (wrap64 ((wrap64 ((mx (-5000) (mn a2 5000)) + t101)) - 53)) (-1074)) (shr .u64 (IntKind.u64.wrap (a1)) (wrap64 ((mx (wrap64 ((wrap64 ((mx (-5000) (mn a2 5000)) + t101)) - 53)) (-1074)) - (mx (-5000) (mn a2 5000)))))))) else (none)) else (none)) else (if 0 ≤ (wrap64 (-(wrap64 ((mx (wrap64 ((wrap64 ((mx (-5000) (mn a2 5000)) + t101)) - 53)) (-1074)) - (mx (-5000) (mn a2 5000)))))) then (float_Make.j0 k a0 (mx (wrap64 ((wrap64 ((mx (-5000) (mn a2 5000)) + t101)) - 53)) (-1074)) (shl .u64 (IntKind.u64.wrap (a1)) (wrap64 (-(wrap64 ((mx (wrap64 ((wrap64 ((mx (-5000) (mn a2 5000)) + t101)) - 53)) (-1074)) - (mx (-5000) (mn a2 5000)))))))) else (none)))))) = some (r1, r2) := h
  clear h
  by_cases c4 : a1 < 0
  · rw [if_pos c4] at H
    have c4b0 : decide (a1 < 0) = true := decide_eq_true c4
    clear c4
    simp only [Option.some.injEq, Prod.mk.injEq] at H
    obtain ⟨rfl, rfl⟩ := H
    go_enter Tryd.func17, Tryd.ntmps17
    go_wp2
    repeat (go_quiet (fail); try go_wp2)
    go_ret2
    exact ⟨by first | rfl | (simp [errW_none, errW_some] <;> rfl) | (simp [*, errW_none, errW_some] <;> rfl), by repeat (first | (with_reducible first | exact HB.out | apply below_alloc | apply pw_below_drewN | apply below_drew1) | exact HB.out)⟩
  · rw [if_neg c4] at H
    have c4b0 : decide (a1 < 0) = false := decide_eq_false c4
    clear c4
    obtain ⟨ji5, hji5⟩ : ∃ j_ : Int, (mn a2 5000) = j_ := ⟨_, rfl⟩
    replace H : ((bits_Len64.f (IntKind.u64.wrap (a1))).bind fun t101 => (if (wrap64 ((mx (wrap64 ((wrap64 ((mx (-5000) (ji5)) + t101)) - 53)) (-1074)) - (mx (-5000) (ji5)))) > 63 then (float_Make.j0 k a0 (mx (wrap64 ((wrap64 ((mx (-5000) (ji5)) + t101)) - 53)) (-1074)) 0) else (if (wrap64 ((mx (wrap64 ((wrap64 ((mx (-5000) (ji5)) + t101)) - 53)) (-1074)) - (mx (-5000) (ji5)))) > 0 then (if 0 ≤ (wrap64 ((mx (wrap64 ((wrap64 ((mx (-5000) (ji5)) + t101)) - 53)) (-1074)) - (mx (-5000) (ji5)))) then (if 0 ≤ (wrap64 ((wrap64 ((mx (wrap64 ((wrap64 ((mx (-5000) (ji5)) + t101)) - 53)) (-1074)) - (mx (-5000) (ji5)))) - 1)) then (if (Go.bits .and .u64 (IntKind.u64.wrap (a1)) (IntKind.u64.wrap ((shl .u64 1 (wrap64 ((mx (wrap64 ((wrap64 ((mx (-5000) (ji5)) + t101)) - 53)) (-1074)) - (mx (-5000) (ji5))))) - 1))) > (shl .u64 1 (wrap64 ((wrap64 ((mx (wrap64 ((wrap64 ((mx (-5000) (ji5)) + t101)) - 53)) (-1074)) - (mx (-5000) (ji5)))) - 1))) then (float_Make.j0 k a0 (mx (wrap64 ((wrap64 ((mx (-5000) (ji5)) + t101)) - 53)) (-1074)) (IntKind.u64.wrap ((shr .u64 (IntKind.u64.wrap (a1)) (wrap64 ((mx (wrap64 ((wrap64 ((mx (-5000) (ji5)) + t101)) - 53)) (-1074)) - (mx (-5000) (ji5))))) + 1))) else (if (Go.bits .and .u64 (IntKind.u64.wrap (a1)) (IntKind.u64.wrap ((shl .u64 1 (wrap64 ((mx (wrap64 ((wrap64 ((mx (-5000) (ji5)) + t101)) - 53)) (-1074)) - (mx (-5000) (ji5))))) - 1))) = (shl .u64 1 (wrap64 ((wrap64 ((mx (wrap64 ((wrap64 ((mx (-5000) (ji5)) + t101)) - 53)) (-1074)) - (mx (-5000) (ji5)))) - 1))) then (if (Go.bits .and .u64 (shr .u64 (IntKind.u64.wrap (a1)) (wrap64 ((mx (wrap64 ((wrap64 ((mx (-5000) (ji5)) + t101)) - 53)) (-1074)) - (mx (-5000) (ji5))))) 1) = 1 then (float_Make.j0 k a0 (mx (wrap64 ((wrap64 ((mx (-5000) (ji5)) + t101)) - 53)) (-1074)) (IntKind.u64.wrap ((shr .u64 (IntKind.u64.wrap (a1)) (wrap64 ((mx (wrap64 ((wrap64 ((mx (-5000) (ji5)) + t101)) - 53)) (-1074)) - (mx (-5000) (ji5))))) + 1))) else (float_Make.j0 k a0 (mx (wrap64 ((wrap64 ((mx (-5000) (ji5)) + t101)) - 53)) (-1074)) (shr .u64 (IntKind.u64.wrap (a1)) (wrap64 ((mx (wrap64 ((wrap64 ((mx (-5000) (ji5)) + t101)) - 53)) (-1074)) - (mx (-5000) (ji5))))))) else (float_Make.j0 k a0 (mx (wrap64 ((wrap64 ((mx (-5000) (ji5)) + t101)) - 53)) (-1074)) (shr .u64 (IntKind.u64.wrap (a1)) (wrap64 ((mx (wrap64 ((wrap64 ((mx (-5000) (ji5)) + t101)) - 53)) (-1074)) - (mx (-5000) (ji5)))))))) else (none)) else (none)) else (if 0 ≤ (wrap64 (-(wrap64 ((mx (wrap64 ((wrap64 ((mx (-5000) (ji5)) + t101)) - 53)) (-1074)) - (mx (-5000) (ji5)))))) then (float_Make.j0 k a0 (mx (wrap64 ((wrap64 ((mx (-5000) (ji5)) + t101)) - 53)) (-1074)) (shl .u64 (IntKind.u64.wrap (a1)) (wrap64 (-(wrap64 ((mx (wrap64 ((wrap64 ((mx (-5000) (ji5)) + t101)) - 53)) (-1074)) - (mx (-5000) (ji5)))))))) else (none))))) = some (r1, r2) := by first | (rw [hji5] at H; exact H) | (simp only [hji5] at H ⊢; exact H)
    (try (have hji5h : ji5 ≤ 5000 := by (rw [← hji5]; unfold mn; (repeat' split) <;> omega)))
    (try (have hji5g : ji5 ≤ 64 := by omega))
    have hji5_ : (if 5000 < a2 then 5000 else a2) = ji5 := hji5
    obtain ⟨ji6, hji6⟩ : ∃ j_ : Int, (mx (-5000) (ji5)) = j_ := ⟨_, rfl⟩
    replace H : ((bits_Len64.f (IntKind.u64.wrap (a1))).bind fun t101 => (if (wrap64 ((mx (wrap64 ((wrap64 ((ji6) + t101)) - 53)) (-1074)) - (ji6))) > 63 then (float_Make.j0 k a0 (mx (wrap64 ((wrap64 ((ji6) + t101)) - 53)) (-1074)) 0) else (if (wrap64 ((mx (wrap64 ((wrap64 ((ji6) + t101)) - 53)) (-1074)) - (ji6))) > 0 then (if 0 ≤ (wrap64 ((mx (wrap64 ((wrap64 ((ji6) + t101)) - 53)) (-1074)) - (ji6))) then (if 0 ≤ (wrap64 ((wrap64 ((mx (wrap64 ((wrap64 ((ji6) + t101)) - 53)) (-1074)) - (ji6))) - 1)) then (if (Go.bits .and .u64 (IntKind.u64.wrap (a1)) (IntKind.u64.wrap ((shl .u64 1 (wrap64 ((mx (wrap64 ((wrap64 ((ji6) + t101)) - 53)) (-1074)) - (ji6)))) - 1))) > (shl .u64 1 (wrap64 ((wrap64 ((mx (wrap64 ((wrap64 ((ji6) + t101)) - 53)) (-1074)) - (ji6))) - 1))) then (float_Make.j0 k a0 (mx (wrap64 ((wrap64 ((ji6) + t101)) - 53)) (-1074)) (IntKind.u64.wrap ((shr .u64 (IntKind.u64.wrap (a1)) (wrap64 ((mx (wrap64 ((wrap64 ((ji6) + t101)) - 53)) (-1074)) - (ji6)))) + 1))) else (if (Go.bits .and .u64 (IntKind.u64.wrap (a1)) (IntKind.u64.wrap ((shl .u64 1 (wrap64 ((mx (wrap64 ((wrap64 ((ji6) + t101)) - 53)) (-1074)) - (ji6)))) - 1))) = (shl .u64 1 (wrap64 ((wrap64 ((mx (wrap64 ((wrap64 ((ji6) + t101)) - 53)) (-1074)) - (ji6))) - 1))) then (if (Go.bits .and .u64 (shr .u64 (IntKind.u64.wrap (a1)) (wrap64 ((mx (wrap64 ((wrap64 ((ji6) + t101)) - 53)) (-1074)) - (ji6)))) 1) = 1 then (float_Make.j0 k a0 (mx (wrap64 ((wrap64 ((ji6) + t101)) - 53)) (-1074)) (IntKind.u64.wrap ((shr .u64 (IntKind.u64.wrap (a1)) (wrap64 ((mx (wrap64 ((wrap64 ((ji6) + t101)) - 53)) (-1074)) - (ji6)))) + 1))) else (float_Make.j0 k a0 (mx (wrap64 ((wrap64 ((ji6) + t101)) - 53)) (-1074)) (shr .u64 (IntKind.u64.wrap (a1)) (wrap64 ((mx (wrap64 ((wrap64 ((ji6) + t101)) - 53)) (-1074)) - (ji6)))))) else (float_Make.j0 k a0 (mx (wrap64 ((wrap64 ((ji6) + t101)) - 53)) (-1074)) (shr .u64 (IntKind.u64.wrap (a1)) (wrap64 ((mx (wrap64 ((wrap64 ((ji6) + t101)) - 53)) (-1074)) - (ji6))))))) else (none)) else (none)) else (if 0 ≤ (wrap64 (-(wrap64 ((mx (wrap64 ((wrap64 ((ji6) + t101)) - 53)) (-1074)) - (ji6))))) then (float_Make.j0 k a0 (mx (wrap64 ((wrap64 ((ji6) + t101)) - 53)) (-1074)) (shl .u64 (IntKind.u64.wrap (a1)) (wrap64 (-(wrap64 ((mx (wrap64 ((wrap64 ((ji6) + t101)) - 53)) (-1074)) - (ji6))))))) else (none))))) = some (r1, r2) := by first | (rw [hji6] at H; exact H) | (simp only [hji6] at H ⊢; exact H)
    have hji6_ : (if (-5000) < (ji5) then (ji5) else (-5000)) = ji6 := hji6
    replace H := Option.bind_eq_some_iff.mp H
    obtain ⟨t101, A70, H⟩ := H
    replace H : (if (wrap64 ((mx (wrap64 ((wrap64 ((ji6) + t101)) - 53)) (-1074)) - (ji6))) > 63 then (float_Make.j0 k a0 (mx (wrap64 ((wrap64 ((ji6) + t101)) - 53)) (-1074)) 0) else (if (wrap64 ((mx (wrap64 ((wrap64 ((ji6) + t101)) - 53)) (-1074)) - (ji6))) > 0 then (if 0 ≤ (wrap64 ((mx (wrap64 ((wrap64 ((ji6) + t101)) - 53)) (-1074)) - (ji6))) then (if 0 ≤ (wrap64 ((wrap64 ((mx (wrap64 ((wrap64 ((ji6) + t101)) - 53)) (-1074)) - (ji6))) - 1)) then (if (Go.bits .and .u64 (IntKind.u64.wrap (a1)) (IntKind.u64.wrap ((shl .u64 1 (wrap64 ((mx (wrap64 ((wrap64 ((ji6) + t101)) - 53)) (-1074)) - (ji6)))) - 1))) > (shl .u64 1 (wrap64 ((wrap64 ((mx (wrap64 ((wrap64 ((ji6) + t101)) - 53)) (-1074)) - (ji6))) - 1))) then (float_Make.j0 k a0 (mx (wrap64 ((wrap64 ((ji6) + t101)) - 53)) (-1074)) (IntKind.u64.wrap ((shr .u64 (IntKind.u64.wrap (a1)) (wrap64 ((mx (wrap64 ((wrap64 ((ji6) + t101)) - 53)) (-1074)) - (ji6)))) + 1))) else (if (Go.bits .and .u64 (IntKind.u64.wrap (a1)) (IntKind.u64.wrap ((shl .u64 1 (wrap64 ((mx (wrap64 ((wrap64 ((ji6) + t101)) - 53)) (-1074)) - (ji6)))) - 1))) = (shl .u64 1 (wrap64 ((wrap64 ((mx (wrap64 ((wrap64 ((ji6) + t101)) - 53)) (-1074)) - (ji6))) - 1))) then (if (Go.bits .and .u64 (shr .u64 (IntKind.u64.wrap (a1)) (wrap64 ((mx (wrap64 ((wrap64 ((ji6) + t101)) - 53)) (-1074)) - (ji6)))) 1) = 1 then (float_Make.j0 k a0 (mx (wrap64 ((wrap64 ((ji6) + t101)) - 53)) (-1074)) (IntKind.u64.wrap ((shr .u64 (IntKind.u64.wrap (a1)) (wrap64 ((mx (wrap64 ((wrap64 ((ji6) + t101)) - 53)) (-1074)) - (ji6)))) + 1))) else (float_Make.j0 k a0 (mx (wrap64 ((wrap64 ((ji6) + t101)) - 53)) (-1074)) (shr .u64 (IntKind.u64.wrap (a1)) (wrap64 ((mx (wrap64 ((wrap64 ((ji6) + t101)) - 53)) (-1074)) - (ji6)))))) else (float_Make.j0 k a0 (mx (wrap64 ((wrap64 ((ji6) + t101)) - 53)) (-1074)) (shr .u64 (IntKind.u64.wrap (a1)) (wrap64 ((mx (wrap64 ((wrap64 ((ji6) + t101)) - 53)) (-1074)) - (ji6))))))) else (none)) else (none)) else (if 0 ≤ (wrap64 (-(wrap64 ((mx (wrap64 ((wrap64 ((ji6) + t101)) - 53)) (-1074)) - (ji6))))) then (float_Make.j0 k a0 (mx (wrap64 ((wrap64 ((ji6) + t101)) - 53)) (-1074)) (shl .u64 (IntKind.u64.wrap (a1)) (wrap64 (-(wrap64 ((mx (wrap64 ((wrap64 ((ji6) + t101)) - 53)) (-1074)) - (ji6))))))) else (none)))) = some (r1, r2) := H
    have A7 := Aside0.mk A70
    clear A70
    obtain ⟨ji8, hji8⟩ : ∃ j_ : Int, (mx (wrap64 ((wrap64 ((ji6) + t101)) - 53)) (-1074)) = j_ := ⟨_, rfl⟩
    replace H : (if (wrap64 ((ji8) - (ji6))) > 63 then (float_Make.j0 k a0 ji8 0) else (if (wrap64 ((ji8) - (ji6))) > 0 then (if 0 ≤ (wrap64 ((ji8) - (ji6))) then (if 0 ≤ (wrap64 ((wrap64 ((ji8) - (ji6))) - 1)) then (if (Go.bits .and .u64 (IntKind.u64.wrap (a1)) (IntKind.u64.wrap ((shl .u64 1 (wrap64 ((ji8) - (ji6)))) - 1))) > (shl .u64 1 (wrap64 ((wrap64 ((ji8) - (ji6))) - 1))) then (float_Make.j0 k a0 ji8 (IntKind.u64.wrap ((shr .u64 (IntKind.u64.wrap (a1)) (wrap64 ((ji8) - (ji6)))) + 1))) else (if (Go.bits .and .u64 (IntKind.u64.wrap (a1)) (IntKind.u64.wrap ((shl .u64 1 (wrap64 ((ji8) - (ji6)))) - 1))) = (shl .u64 1 (wrap64 ((wrap64 ((ji8) - (ji6))) - 1))) then (if (Go.bits .and .u64 (shr .u64 (IntKind.u64.wrap (a1)) (wrap64 ((ji8) - (ji6)))) 1) = 1 then (float_Make.j0 k a0 ji8 (IntKind.u64.wrap ((shr .u64 (IntKind.u64.wrap (a1)) (wrap64 ((ji8) - (ji6)))) + 1))) else (float_Make.j0 k a0 ji8 (shr .u64 (IntKind.u64.wrap (a1)) (wrap64 ((ji8) - (ji6)))))) else (float_Make.j0 k a0 ji8 (shr .u64 (IntKind.u64.wrap (a1)) (wrap64 ((ji8) - (ji6))))))) else (none)) else (none)) else (if 0 ≤ (wrap64 (-(wrap64 ((ji8) - (ji6))))) then (float_Make.j0 k a0 ji8 (shl .u64 (IntKind.u64.wrap (a1)) (wrap64 (-(wrap64 ((ji8) - (ji6))))))) else (none)))) = some (r1, r2) := by first | (rw [hji8] at H; exact H) | (simp only [hji8] at H ⊢; exact H)
    (try rw [hji8] at A7)
    have hji8_ : (if (wrap64 ((wrap64 ((ji6) + t101)) - 53)) < (-1074) then (-1074) else (wrap64 ((wrap64 ((ji6) + t101)) - 53))) = ji8 := hji8
    have HC9 := Aside0.mk H
    clear H
    go_enter Tryd.func17, Tryd.ntmps17
    go_upto_block 0 with (first | (go_at_call 50; (with_reducible refine (bits_Len64.calls (IntKind.u64.wrap (a1)) t101 _ A7.out).mono ?_); rintro e w' ⟨rfl, ⟨nd, rfl⟩⟩; (try first | exact ⟨rfl, _, World.drewN_drewN _ _ _⟩ | exact ⟨rfl, _, Eq.trans (World.drewN_drewN _ _ _) (congrArg (World.drewN _) (Nat.add_assoc _ _ _))⟩)))
    repeat (go_quiet (first | (go_at_call 50; (with_reducible refine (bits_Len64.calls (IntKind.u64.wrap (a1)) t101 _ A7.out).mono ?_); rintro e w' ⟨rfl, ⟨nd, rfl⟩⟩; (try first | exact ⟨rfl, _, World.drewN_drewN _ _ _⟩ | exact ⟨rfl, _, Eq.trans (World.drewN_drewN _ _ _) (congrArg (World.drewN _) (Nat.add_assoc _ _ _))⟩))); go_upto_block 0 with (first | (go_at_call 50; (with_reducible refine (bits_Len64.calls (IntKind.u64.wrap (a1)) t101 _ A7.out).mono ?_); rintro e w' ⟨rfl, ⟨nd, rfl⟩⟩; (try first | exact ⟨rfl, _, World.drewN_drewN _ _ _⟩ | exact ⟨rfl, _, Eq.trans (World.drewN_drewN _ _ _) (congrArg (World.drewN _) (Nat.add_assoc _ _ _))⟩))))
    (try simp only [Act.put, List.setIfInBounds_toArray, List.set_cons_zero, List.set_cons_succ])
    go_cut [10] (fun v10 wc => ∃ (kq : Nat) (x10_8 : Int), v10 = .int .u64 x10_8 ∧ Aside0 (float_Make.j0 kq a0 ji8 x10_8 = some (r1, r2)) ∧ Aside0 (kq ≤ k) ∧ Aside0 (Below w.heap.size w wc))
    case first =>
      have H := HC9.out
      clear HC9
      by_cases c10 : (wrap64 ((ji8) - (ji6))) > 63
      · rw [if_pos c10] at H
        have c10b0 : decide (63 < (wrap64 ((ji8) - (ji6)))) = true := decide_eq_true c10
        clear c10
        (first | rw [c10b0] | (simp only [i64_w, i32_w]; rw [c10b0]) | skip)
        have H' := Aside0.mk H
        clear H
        go_wp2
        repeat (go_quiet (fail); try go_wp2)
        go_meet
        case rel => exact ⟨_, (0), (by first | rfl | (simp; done) | (simp [*]; done) | (simp only [bytes_bne_nil, bytes_beq_nil]; first | done | (congr 1; done) | (congr 1; grind))), H', ⟨by first | omega | exact Nat.le_refl _⟩, ⟨by repeat (first | (with_reducible first | exact HB.out | apply below_alloc | apply pw_below_drewN | apply below_drew1) | exact HB.out)⟩⟩
      · rw [if_neg c10] at H
        have c10b0 : decide (63 < (wrap64 ((ji8) - (ji6)))) = false := decide_eq_false c10
        clear c10
        (first | rw [c10b0] | (simp only [i64_w, i32_w]; rw [c10b0]) | skip)
        by_cases c11 : (wrap64 ((ji8) - (ji6))) > 0
        · rw [if_pos c11] at H
          have c11b0 : decide (0 < (wrap64 ((ji8) - (ji6)))) = true := decide_eq_true c11
          clear c11
          obtain ⟨ji12, hji12⟩ : ∃ j_ : Int, (wrap64 ((ji8) - (ji6))) = j_ := ⟨_, rfl⟩
          replace H : (if 0 ≤ (ji12) then (if 0 ≤ (wrap64 ((ji12) - 1)) then (if (Go.bits .and .u64 (IntKind.u64.wrap (a1)) (IntKind.u64.wrap ((shl .u64 1 (ji12)) - 1))) > (shl .u64 1 (wrap64 ((ji12) - 1))) then (float_Make.j0 k a0 ji8 (IntKind.u64.wrap ((shr .u64 (IntKind.u64.wrap (a1)) (ji12)) + 1))) else (if (Go.bits .and .u64 (IntKind.u64.wrap (a1)) (IntKind.u64.wrap ((shl .u64 1 (ji12)) - 1))) = (shl .u64 1 (wrap64 ((ji12) - 1))) then (if (Go.bits .and .u64 (shr .u64 (IntKind.u64.wrap (a1)) (ji12)) 1) = 1 then (float_Make.j0 k a0 ji8 (IntKind.u64.wrap ((shr .u64 (IntKind.u64.wrap (a1)) (ji12)) + 1))) else (float_Make.j0 k a0 ji8 (shr .u64 (IntKind.u64.wrap (a1)) (ji12)))) else (float_Make.j0 k a0 ji8 (shr .u64 (IntKind.u64.wrap (a1)) (ji12))))) else (none)) else (none)) = some (r1, r2) := by first | (rw [hji12] at H; exact H) | (simp only [hji12] at H ⊢; exact H)
          (try rw [hji12] at c10b0)
          (try rw [hji12] at c11b0)
          have hji12w : (IntKind.i64.wrap ((ji8) - (ji6))) = ji12 := (i64_w _).trans hji12
          by_cases c13 : 0 ≤ (ji12)
          · rw [if_pos c13] at H
            have c13b0 := eq_true c13
            have c13b1 : decide (0 ≤ (ji12)) = true := decide_eq_true c13
            clear c13
            obtain ⟨ji14, hji14⟩ : ∃ j_ : Int, (shl .u64 1 (ji12)) = j_ := ⟨_, rfl⟩
            replace H : (if 0 ≤ (wrap64 ((ji12) - 1)) then (if (Go.bits .and .u64 (IntKind.u64.wrap (a1)) (IntKind.u64.wrap ((ji14) - 1))) > (shl .u64 1 (wrap64 ((ji12) - 1))) then (float_Make.j0 k a0 ji8 (IntKind.u64.wrap ((shr .u64 (IntKind.u64.wrap (a1)) (ji12)) + 1))) else (if (Go.bits .and .u64 (IntKind.u64.wrap (a1)) (IntKind.u64.wrap ((ji14) - 1))) = (shl .u64 1 (wrap64 ((ji12) - 1))) then (if (Go.bits .and .u64 (shr .u64 (IntKind.u64.wrap (a1)) (ji12)) 1) = 1 then (float_Make.j0 k a0 ji8 (IntKind.u64.wrap ((shr .u64 (IntKind.u64.wrap (a1)) (ji12)) + 1))) else (float_Make.j0 k a0 ji8 (shr .u64 (IntKind.u64.wrap (a1)) (ji12)))) else (float_Make.j0 k a0 ji8 (shr .u64 (IntKind.u64.wrap (a1)) (ji12))))) else (none)) = some (r1, r2) := by first | (rw [hji14] at H; exact H) | (simp only [hji14] at H ⊢; exact H)
            have hji14_ : (IntKind.u64.wrap (1 * 2 ^ min (ji12).toNat 64)) = ji14 := hji14
            have hji14z : (ji12) ≤ 64 → (IntKind.u64.wrap (1 * 2 ^ (ji12).toNat)) = ji14 := shl_small hji14
            have hji14u : (IntKind.u64.wrap (2 ^ min (ji12).toNat 64)) = ji14 := by have h_ := hji14_; rw [Int.one_mul] at h_; exact h_
            have hji14v : (ji12) ≤ 64 → (IntKind.u64.wrap (2 ^ (ji12).toNat)) = ji14 := fun hle_ => by have h_ := hji14z hle_; rw [Int.one_mul] at h_; exact h_
            obtain ⟨ji15, hji15⟩ : ∃ j_ : Int, (wrap64 ((ji12) - 1)) = j_ := ⟨_, rfl⟩
            replace H : (if 0 ≤ (ji15) then (if (Go.bits .and .u64 (IntKind.u64.wrap (a1)) (IntKind.u64.wrap ((ji14) - 1))) > (shl .u64 1 (ji15)) then (float_Make.j0 k a0 ji8 (IntKind.u64.wrap ((shr .u64 (IntKind.u64.wrap (a1)) (ji12)) + 1))) else (if (Go.bits .and .u64 (IntKind.u64.wrap (a1)) (IntKind.u64.wrap ((ji14) - 1))) = (shl .u64 1 (ji15)) then (if (Go.bits .and .u64 (shr .u64 (IntKind.u64.wrap (a1)) (ji12)) 1) = 1 then (float_Make.j0 k a0 ji8 (IntKind.u64.wrap ((shr .u64 (IntKind.u64.wrap (a1)) (ji12)) + 1))) else (float_Make.j0 k a0 ji8 (shr .u64 (IntKind.u64.wrap (a1)) (ji12)))) else (float_Make.j0 k a0 ji8 (shr .u64 (IntKind.u64.wrap (a1)) (ji12))))) else (none)) = some (r1, r2) := by first | (rw [hji15] at H; exact H) | (simp only [hji15] at H ⊢; exact H)
            have hji15w : (IntKind.i64.wrap ((ji12) - 1)) = ji15 := (i64_w _).trans hji15
            by_cases c16 : 0 ≤ (ji15)
            · rw [if_pos c16] at H
              have c16b0 := eq_true c16
              have c16b1 : decide (0 ≤ (ji15)) = true := decide_eq_true c16
              clear c16
              obtain ⟨ji17, hji17⟩ : ∃ j_ : Int, (shl .u64 1 (ji15)) = j_ := ⟨_, rfl⟩
              replace H : (if (Go.bits .and .u64 (IntKind.u64.wrap (a1)) (IntKind.u64.wrap ((ji14) - 1))) > (ji17) then (float_Make.j0 k a0 ji8 (IntKind.u64.wrap ((shr .u64 (IntKind.u64.wrap (a1)) (ji12)) + 1))) else (if (Go.bits .and .u64 (IntKind.u64.wrap (a1)) (IntKind.u64.wrap ((ji14) - 1))) = (ji17) then (if (Go.bits .and .u64 (shr .u64 (IntKind.u64.wrap (a1)) (ji12)) 1) = 1 then (float_Make.j0 k a0 ji8 (IntKind.u64.wrap ((shr .u64 (IntKind.u64.wrap (a1)) (ji12)) + 1))) else (float_Make.j0 k a0 ji8 (shr .u64 (IntKind.u64.wrap (a1)) (ji12)))) else (float_Make.j0 k a0 ji8 (shr .u64 (IntKind.u64.wrap (a1)) (ji12))))) = some (r1, r2) := by first | (rw [hji17] at H; exact H) | (simp only [hji17] at H ⊢; exact H)
              have hji17_ : (IntKind.u64.wrap (1 * 2 ^ min (ji15).toNat 64)) = ji17 := hji17
              have hji17z : (ji15) ≤ 64 → (IntKind.u64.wrap (1 * 2 ^ (ji15).toNat)) = ji17 := shl_small hji17
              have hji17u : (IntKind.u64.wrap (2 ^ min (ji15).toNat 64)) = ji17 := by have h_ := hji17_; rw [Int.one_mul] at h_; exact h_
              have hji17v : (ji15) ≤ 64 → (IntKind.u64.wrap (2 ^ (ji15).toNat)) = ji17 := fun hle_ => by have h_ := hji17z hle_; rw [Int.one_mul] at h_; exact h_
              have c18b0 := eq_true (of_decide_eq_true (by first | (with_reducible assumption) | assumption) : 0 ≤ (ji12))
              obtain ⟨ji19, hji19⟩ : ∃ j_ : Int, (shr .u64 (IntKind.u64.wrap (a1)) (ji12)) = j_ := ⟨_, rfl⟩
              replace H : (if (Go.bits .and .u64 (IntKind.u64.wrap (a1)) (IntKind.u64.wrap ((ji14) - 1))) > (ji17) then (float_Make.j0 k a0 ji8 (IntKind.u64.wrap ((ji19) + 1))) else (if (Go.bits .and .u64 (IntKind.u64.wrap (a1)) (IntKind.u64.wrap ((ji14) - 1))) = (ji17) then (if (Go.bits .and .u64 (ji19) 1) = 1 then (float_Make.j0 k a0 ji8 (IntKind.u64.wrap ((ji19) + 1))) else (float_Make.j0 k a0 ji8 ji19)) else (float_Make.j0 k a0 ji8 ji19))) = some (r1, r2) := by first | (rw [hji19] at H; exact H) | (simp only [hji19] at H ⊢; exact H)
              have hji19_ : ((IntKind.u64.wrap (a1)) / 2 ^ min (ji12).toNat 64) = ji19 := hji19
              have hji19z : (ji12) ≤ 64 → ((IntKind.u64.wrap (a1)) / 2 ^ (ji12).toNat) = ji19 := shr_small hji19
              by_cases c20 : (Go.bits .and .u64 (IntKind.u64.wrap (a1)) (IntKind.u64.wrap ((ji14) - 1))) > (ji17)
              · rw [if_pos c20] at H
                have c20b0 : decide ((ji17) < (Go.bits .and .u64 (IntKind.u64.wrap (a1)) (IntKind.u64.wrap ((ji14) - 1)))) = true := decide_eq_true c20
                clear c20
                have H' := Aside0.mk H
                clear H
                go_wp2
                repeat (go_quiet (fail); try go_wp2)
                go_meet
                case rel => exact ⟨_, (IntKind.u64.wrap ((ji19) + 1)), (by first | rfl | (simp; done) | (simp only [← hji19] <;> (first | rfl | simp)) | (simp [*]; done) | (simp only [bytes_bne_nil, bytes_beq_nil]; first | done | (congr 1; done) | (congr 1; grind))), H', ⟨by first | omega | exact Nat.le_refl _⟩, ⟨by repeat (first | (with_reducible first | exact HB.out | apply below_alloc | apply pw_below_drewN | apply below_drew1) | exact HB.out)⟩⟩
              · rw [if_neg c20] at H
                have c20b0 : decide ((ji17) < (Go.bits .and .u64 (IntKind.u64.wrap (a1)) (IntKind.u64.wrap ((ji14) - 1)))) = false := decide_eq_false c20
                clear c20
                by_cases c21 : (Go.bits .and .u64 (IntKind.u64.wrap (a1)) (IntKind.u64.wrap ((ji14) - 1))) = (ji17)
                · rw [if_pos c21] at H
                  have c21b0 : ((Go.bits .and .u64 (IntKind.u64.wrap (a1)) (IntKind.u64.wrap ((ji14) - 1))) == (ji17)) = true := beq_iff_eq.mpr c21
                  have c21b1 : ((Go.bits .and .u64 (IntKind.u64.wrap (a1)) (IntKind.u64.wrap ((ji14) - 1))) != (ji17)) = false := bne_eq_false_iff_eq.mpr c21
                  clear c21
                  by_cases c22 : (Go.bits .and .u64 (ji19) 1) = 1
                  · rw [if_pos c22] at H
                    have c22b0 : ((Go.bits .and .u64 (ji19) 1) == 1) = true := beq_iff_eq.mpr c22
                    have c22b1 : ((Go.bits .and .u64 (ji19) 1) != 1) = false := bne_eq_false_iff_eq.mpr c22
                    clear c22
                    have H' := Aside0.mk H
                    clear H
                    go_wp2
                    repeat (go_quiet (fail); try go_wp2)
                    go_meet
                    case rel => exact ⟨_, (IntKind.u64.wrap ((ji19) + 1)), (by first | rfl | (simp; done) | (simp only [← hji19] <;> (first | rfl | simp)) | (simp [*]; done) | (simp only [bytes_bne_nil, bytes_beq_nil]; first | done | (congr 1; done) | (congr 1; grind))), H', ⟨by first | omega | exact Nat.le_refl _⟩, ⟨by repeat (first | (with_reducible first | exact HB.out | apply below_alloc | apply pw_below_drewN | apply below_drew1) | exact HB.out)⟩⟩
                  · rw [if_neg c22] at H
                    have c22b0 : ((Go.bits .and .u64 (ji19) 1) == 1) = false := beq_eq_false_iff_ne.mpr c22
                    have c22b1 : ((Go.bits .and .u64 (ji19) 1) != 1) = true := bne_iff_ne.mpr c22
                    have H' := Aside0.mk H
                    clear H
                    go_wp2
                    repeat (go_quiet (fail); try go_wp2)
                    go_meet
                    case rel => exact ⟨_, (ji19), (by first | rfl | (simp; done) | (simp only [← hji19] <;> (first | rfl | simp)) | (simp [*]; done) | (simp only [bytes_bne_nil, bytes_beq_nil]; first | done | (congr 1; done) | (congr 1; grind))), H', ⟨by first | omega | exact Nat.le_refl _⟩, ⟨by repeat (first | (with_reducible first | exact HB.out | apply below_alloc | apply pw_below_drewN | apply below_drew1) | exact HB.out)⟩⟩
                · rw [if_neg c21] at H
                  have c21b0 : ((Go.bits .and .u64 (IntKind.u64.wrap (a1)) (IntKind.u64.wrap ((ji14) - 1))) == (ji17)) = false := beq_eq_false_iff_ne.mpr c21
                  have c21b1 : ((Go.bits .and .u64 (IntKind.u64.wrap (a1)) (IntKind.u64.wrap ((ji14) - 1))) != (ji17)) = true := bne_iff_ne.mpr c21
                  have H' := Aside0.mk H
                  clear H
                  go_wp2
                  repeat (go_quiet (fail); try go_wp2)
                  go_meet
                  case rel => exact ⟨_, (ji19), (by first | rfl | (simp; done) | (simp only [← hji19] <;> (first | rfl | simp)) | (simp [*]; done) | (simp only [bytes_bne_nil, bytes_beq_nil]; first | done | (congr 1; done) | (congr 1; grind))), H', ⟨by first | omega | exact Nat.le_refl _⟩, ⟨by repeat (first | (with_reducible first | exact HB.out | apply below_alloc | apply pw_below_drewN | apply below_drew1) | exact HB.out)⟩⟩
            · rw [if_neg c16] at H
              exact absurd H (by simp)
          · rw [if_neg c13] at H
            exact absurd H (by simp)
        · rw [if_neg c11] at H
          have c11b0 : decide (0 < (wrap64 ((ji8) - (ji6)))) = false := decide_eq_false c11
          clear c11
          obtain ⟨ji23, hji23⟩ : ∃ j_ : Int, (wrap64 (-(wrap64 ((ji8) - (ji6))))) = j_ := ⟨_, rfl⟩
          replace H : (if 0 ≤ (ji23) then (float_Make.j0 k a0 ji8 (shl .u64 (IntKind.u64.wrap (a1)) (ji23))) else (none)) = some (r1, r2) := by first | (rw [hji23] at H; exact H) | (simp only [hji23] at H ⊢; exact H)
          have hji23w : (IntKind.i64.wrap (-(wrap64 ((ji8) - (ji6))))) = ji23 := (i64_w _).trans hji23
          by_cases c24 : 0 ≤ (ji23)
          · rw [if_pos c24] at H
            have c24b0 := eq_true c24
            have c24b1 : decide (0 ≤ (ji23)) = true := decide_eq_true c24
            clear c24
            obtain ⟨ji25, hji25⟩ : ∃ j_ : Int, (shl .u64 (IntKind.u64.wrap (a1)) (ji23)) = j_ := ⟨_, rfl⟩
            replace H : (float_Make.j0 k a0 ji8 ji25) = some (r1, r2) := by first | (rw [hji25] at H; exact H) | (simp only [hji25] at H ⊢; exact H)
            have hji25_ : (IntKind.u64.wrap ((IntKind.u64.wrap (a1)) * 2 ^ min (ji23).toNat 64)) = ji25 := hji25
            have hji25z : (ji23) ≤ 64 → (IntKind.u64.wrap ((IntKind.u64.wrap (a1)) * 2 ^ (ji23).toNat)) = ji25 := shl_small hji25
            have H' := Aside0.mk H
            clear H
            go_wp2
            repeat (go_quiet (fail); try go_wp2)
            go_meet
            case rel => exact ⟨_, (ji25), (by first | rfl | (simp; done) | (simp only [← hji25] <;> (first | rfl | simp)) | (simp [*]; done) | (simp only [bytes_bne_nil, bytes_beq_nil]; first | done | (congr 1; done) | (congr 1; grind))), H', ⟨by first | omega | exact Nat.le_refl _⟩, ⟨by repeat (first | (with_reducible first | exact HB.out | apply below_alloc | apply pw_below_drewN | apply below_drew1) | exact HB.out)⟩⟩
          · rw [if_neg c24] at H
            exact absurd H (by simp)
    case rest =>
      clear HC9
      try clear c1
      try clear c2
      try clear p2
      try clear c4
      try clear c4b0
      try clear p6
      try clear c10
      try clear c10b0
      try clear c11
      try clear c11b0
      try clear c13
      try clear c13b0
      try clear c13b1
      try clear c16
      try clear c16b0
      try clear c16b1
      try clear c17
      try clear c18
      try clear c18b0
      try clear c20
      try clear c20b0
      try clear c21
      try clear c21b0
      try clear c21b1
      try clear c22
      try clear c22b0
      try clear c22b1
      try clear c24
      try clear c24b0
      try clear c24b1
      obtain ⟨kq, x10_8, rfl, HA, HJ8, HB⟩ := hcut
      cases kq with
      | zero => exact absurd HA.out (by simp [float_Make.j0])
      | succ kj8 =>
        have H := HA.out
        clear HA
        simp only [float_Make.j0] at H
        have HC26 := Aside0.mk H
        clear H
        go_upto_if 69 with (fail)
        repeat (go_quiet (fail); go_upto_if 69 with (fail))
        go_cut [9, 10] (fun v9 v10 wc => ∃ (kq : Nat) (x9_25 : Int) (x10_25 : Int), v9 = .int .i64 x9_25 ∧ v10 = .int .u64 x10_25 ∧ Aside0 (float_Make.j1 kq a0 x9_25 x10_25 = some (r1, r2)) ∧ Aside0 (kq ≤ kj8) ∧ Aside0 (Below w.heap.size w wc))
        case first =>
          have H := HC26.out
          clear HC26
          by_cases c27 : x10_8 = 9007199254740992
          · rw [if_pos c27] at H
            have c27b0 : (x10_8 == 9007199254740992) = true := beq_iff_eq.mpr c27
            have c27b1 : (x10_8 != 9007199254740992) = false := bne_eq_false_iff_eq.mpr c27
            clear c27
            (first | rw [c27b0] | (simp only [i64_w, i32_w]; rw [c27b0]) | skip)
            have H' := Aside0.mk H
            clear H
            go_wp2
            repeat (go_quiet (fail); try go_wp2)
            go_meet
            case rel => exact ⟨_, (wrap64 (ji8 + 1)), (4503599627370496), (by first | rfl | (simp; done) | (simp only [← hji8] <;> (first | rfl | simp)) | (simp [*]; done) | (simp only [bytes_bne_nil, bytes_beq_nil]; first | done | (congr 1; done) | (congr 1; grind))), (by first | rfl | (simp; done) | (simp [*]; done) | (simp only [bytes_bne_nil, bytes_beq_nil]; first | done | (congr 1; done) | (congr 1; grind))), H', ⟨by have := HJ8.out; first | omega | exact Nat.le_refl _⟩, ⟨by repeat (first | (with_reducible first | exact HB.out | apply below_alloc | apply pw_below_drewN | apply below_drew1) | exact HB.out)⟩⟩
          · rw [if_neg c27] at H
            have c27b0 : (x10_8 == 9007199254740992) = false := beq_eq_false_iff_ne.mpr c27
            have c27b1 : (x10_8 != 9007199254740992) = true := bne_iff_ne.mpr c27
            (first | rw [c27b0] | (simp only [i64_w, i32_w]; rw [c27b0]) | skip)
            have H' := Aside0.mk H
            clear H
            go_wp2
            repeat (go_quiet (fail); try go_wp2)
            go_meet
            case rel => exact ⟨_, (ji8), (x10_8), (by first | rfl | (simp; done) | (simp only [← hji8] <;> (first | rfl | simp)) | (simp [*]; done) | (simp only [bytes_bne_nil, bytes_beq_nil]; first | done | (congr 1; done) | (congr 1; grind))), (by first | rfl | (simp; done) | (simp [*]; done) | (simp only [bytes_bne_nil, bytes_beq_nil]; first | done | (congr 1; done) | (congr 1; grind))), H', ⟨by have := HJ8.out; first | omega | exact Nat.le_refl _⟩, ⟨by repeat (first | (with_reducible first | exact HB.out | apply below_alloc | apply pw_below_drewN | apply below_drew1) | exact HB.out)⟩⟩
        case rest =>
          clear HC26
          try clear c1
          try clear c2
          try clear p2
          try clear c4
          try clear c4b0
          try clear p6
          try clear c10
          try clear c10b0
          try clear c11
          try clear c11b0
          try clear c13
          try clear c13b0
          try clear c13b1
          try clear c16
          try clear c16b0
          try clear c16b1
          try clear c17
          try clear c18
          try clear c18b0
          try clear c20
          try clear c20b0
          try clear c21
          try clear c21b0
          try clear c21b1
          try clear c22
          try clear c22b0
          try clear c22b1
          try clear c24
          try clear c24b0
          try clear c24b1
          try clear c27
          try clear c27b0
          try clear c27b1
          try clear p2
          try clear p6
          obtain ⟨kq, x9_25, x10_25, rfl, rfl, HA, HJ25, HB⟩ := hcut
          cases kq with
          | zero => exact absurd HA.out (by simp [float_Make.j1])
          | succ kj25 =>
            have H := HA.out
            clear HA
            simp only [float_Make.j1] at H
            have HC28 := Aside0.mk H
            clear H
            go_upto_region 18 with (fail)
            repeat (go_quiet (fail); go_upto_region 18 with (fail))
            go_cut [72] (fun v72 wc => ∃ (kq : Nat) (x72_27 : Bool), v72 = .bool x72_27 ∧ Aside0 (float_Make.j2 kq a0 x9_25 x10_25 x72_27 = some (r1, r2)) ∧ Aside0 (kq ≤ kj25) ∧ Aside0 (Below w.heap.size w wc))
            case first =>
              have H := HC28.out
              clear HC28
              by_cases c29 : x10_25 = 0
              · rw [if_pos c29] at H
                have c29b0 : (x10_25 == 0) = true := beq_iff_eq.mpr c29
                have c29b1 : (x10_25 != 0) = false := bne_eq_false_iff_eq.mpr c29
                clear c29
                (first | rw [c29b0] | (simp only [i64_w, i32_w]; rw [c29b0]) | skip)
                have H' := Aside0.mk H
                clear H
                go_wp2
                repeat (go_quiet (fail); try go_wp2)
                go_meet
                case rel => exact ⟨_, (true), (by first | rfl | (simp; done) | (simp [*]; done) | (simp only [bytes_bne_nil, bytes_beq_nil]; first | done | (congr 1; done) | (congr 1; grind))), H', ⟨by have := HJ8.out; have := HJ25.out; first | omega | exact Nat.le_refl _⟩, ⟨by repeat (first | (with_reducible first | exact HB.out | apply below_alloc | apply pw_below_drewN | apply below_drew1) | exact HB.out)⟩⟩
              · rw [if_neg c29] at H
                have c29b0 : (x10_25 == 0) = false := beq_eq_false_iff_ne.mpr c29
                have c29b1 : (x10_25 != 0) = true := bne_iff_ne.mpr c29
                (first | rw [c29b0] | (simp only [i64_w, i32_w]; rw [c29b0]) | skip)
                have H' := Aside0.mk H
                clear H
                go_wp2
                repeat (go_quiet (fail); try go_wp2)
                go_meet
                case rel => exact ⟨_, (decide (x10_25 < 4503599627370496)), (by first | rfl | (simp; done) | (simp [*]; done) | (simp only [bytes_bne_nil, bytes_beq_nil]; first | done | (congr 1; done) | (congr 1; grind))), H', ⟨by have := HJ8.out; have := HJ25.out; first | omega | exact Nat.le_refl _⟩, ⟨by repeat (first | (with_reducible first | exact HB.out | apply below_alloc | apply pw_below_drewN | apply below_drew1) | exact HB.out)⟩⟩
            case rest =>
              clear HC28
              try clear c1
              try clear c2
              try clear p2
              try clear c4
              try clear c4b0
              try clear p6
              try clear c10
              try clear c10b0
              try clear c11
              try clear c11b0
              try clear c13
              try clear c13b0
              try clear c13b1
              try clear c16
              try clear c16b0
              try clear c16b1
              try clear c17
              try clear c18
              try clear c18b0
              try clear c20
              try clear c20b0
              try clear c21
              try clear c21b0
              try clear c21b1
              try clear c22
              try clear c22b0
              try clear c22b1
              try clear c24
              try clear c24b0
              try clear c24b1
              try clear c27
              try clear c27b0
              try clear c27b1
              try clear c29
              try clear c29b0
              try clear c29b1
              try clear p2
              try clear p6
              obtain ⟨kq, x72_27, rfl, HA, HJ27, HB⟩ := hcut
              cases kq with
              | zero => exact absurd HA.out (by simp [float_Make.j2])
              | succ kj27 =>
                have H := HA.out
                clear HA
                simp only [float_Make.j2] at H
                by_cases c30 : x72_27 = true
                · subst c30
                  have H1 : ((float_sign.f (wrap64 (x10_25)) a0).bind fun t102 => (some (t102, 0))) = some (r1, r2) := by rw [if_pos rfl] at H; exact H
                  clear H
                  have H := H1
                  clear H1
                  replace H := Option.bind_eq_some_iff.mp H
                  obtain ⟨t102, A310, H⟩ := H
                  replace H : (some (t102, 0)) = some (r1, r2) := H
                  have A31 := Aside0.mk A310
                  clear A310
                  simp only [Option.some.injEq, Prod.mk.injEq] at H
                  obtain ⟨rfl, rfl⟩ := H
                  go_wp2_with (first | (go_at_call 51; (with_reducible refine (float_sign.calls (wrap64 (x10_25)) a0 t102 _ A31.out).mono ?_); rintro e w' ⟨rfl, ⟨nd, rfl⟩⟩; (try first | exact ⟨rfl, _, World.drewN_drewN _ _ _⟩ | exact ⟨rfl, _, Eq.trans (World.drewN_drewN _ _ _) (congrArg (World.drewN _) (Nat.add_assoc _ _ _))⟩)))
                  repeat (go_quiet (first | (go_at_call 51; (with_reducible refine (float_sign.calls (wrap64 (x10_25)) a0 t102 _ A31.out).mono ?_); rintro e w' ⟨rfl, ⟨nd, rfl⟩⟩; (try first | exact ⟨rfl, _, World.drewN_drewN _ _ _⟩ | exact ⟨rfl, _, Eq.trans (World.drewN_drewN _ _ _) (congrArg (World.drewN _) (Nat.add_assoc _ _ _))⟩))); try go_wp2_with (first | (go_at_call 51; (with_reducible refine (float_sign.calls (wrap64 (x10_25)) a0 t102 _ A31.out).mono ?_); rintro e w' ⟨rfl, ⟨nd, rfl⟩⟩; (try first | exact ⟨rfl, _, World.drewN_drewN _ _ _⟩ | exact ⟨rfl, _, Eq.trans (World.drewN_drewN _ _ _) (congrArg (World.drewN _) (Nat.add_assoc _ _ _))⟩))))
                  go_ret2
                  exact ⟨by first | rfl | (simp [errW_none, errW_some] <;> rfl) | (simp only [← hji5, ← hji6, ← hji8]; first | rfl | (simp [errW_none, errW_some] <;> rfl)) | (simp [*, errW_none, errW_some] <;> rfl), by repeat (first | (with_reducible first | exact HB.out | apply below_alloc | apply pw_below_drewN | apply below_drew1) | exact HB.out)⟩
                · replace c30 := Bool.eq_false_iff.mpr c30
                  subst c30
                  have H1 : (if (wrap64 ((wrap64 (x9_25 + 1074)) + 1)) ≥ 2047 then (some (0, 11)) else ((float_sign.f (Go.bits .or .i64 (wrap64 ((wrap64 ((wrap64 (x9_25 + 1074)) + 1)) * 4503599627370496)) (wrap64 (IntKind.u64.wrap (x10_25 - 4503599627370496)))) a0).bind fun t103 => (some (t103, 0)))) = some (r1, r2) := by rw [if_neg (show ¬ (false = true) by decide)] at H; exact H
                  clear H
                  have H := H1
                  clear H1
                  by_cases c32 : (wrap64 ((wrap64 (x9_25 + 1074)) + 1)) ≥ 2047
                  · rw [if_pos c32] at H
                    have c32b0 : decide (2047 ≤ (wrap64 ((wrap64 (x9_25 + 1074)) + 1))) = true := decide_eq_true c32
                    clear c32
                    simp only [Option.some.injEq, Prod.mk.injEq] at H
                    obtain ⟨rfl, rfl⟩ := H
                    go_wp2
                    repeat (go_quiet (fail); try go_wp2)
                    go_ret2
                    exact ⟨by first | rfl | (simp [errW_none, errW_some] <;> rfl) | (simp only [← hji5, ← hji6, ← hji8]; first | rfl | (simp [errW_none, errW_some] <;> rfl)) | (simp [*, errW_none, errW_some] <;> rfl), by repeat (first | (with_reducible first | exact HB.out | apply below_alloc | apply pw_below_drewN | apply below_drew1) | exact HB.out)⟩
                  · rw [if_neg c32] at H
                    have c32b0 : decide (2047 ≤ (wrap64 ((wrap64 (x9_25 + 1074)) + 1))) = false := decide_eq_false c32
                    clear c32
                    replace H := Option.bind_eq_some_iff.mp H
                    obtain ⟨t103, A330, H⟩ := H
                    replace H : (some (t103, 0)) = some (r1, r2) := H
                    have A33 := Aside0.mk A330
                    clear A330
                    simp only [Option.some.injEq, Prod.mk.injEq] at H
                    obtain ⟨rfl, rfl⟩ := H
                    go_wp2_with (first | (go_at_call 51; (with_reducible refine (float_sign.calls (Go.bits .or .i64 (wrap64 ((wrap64 ((wrap64 (x9_25 + 1074)) + 1)) * 4503599627370496)) (wrap64 (IntKind.u64.wrap (x10_25 - 4503599627370496)))) a0 t103 _ A33.out).mono ?_); rintro e w' ⟨rfl, ⟨nd, rfl⟩⟩; (try first | exact ⟨rfl, _, World.drewN_drewN _ _ _⟩ | exact ⟨rfl, _, Eq.trans (World.drewN_drewN _ _ _) (congrArg (World.drewN _) (Nat.add_assoc _ _ _))⟩)))
                    repeat (go_quiet (first | (go_at_call 51; (with_reducible refine (float_sign.calls (Go.bits .or .i64 (wrap64 ((wrap64 ((wrap64 (x9_25 + 1074)) + 1)) * 4503599627370496)) (wrap64 (IntKind.u64.wrap (x10_25 - 4503599627370496)))) a0 t103 _ A33.out).mono ?_); rintro e w' ⟨rfl, ⟨nd, rfl⟩⟩; (try first | exact ⟨rfl, _, World.drewN_drewN _ _ _⟩ | exact ⟨rfl, _, Eq.trans (World.drewN_drewN _ _ _) (congrArg (World.drewN _) (Nat.add_assoc _ _ _))⟩))); try go_wp2_with (first | (go_at_call 51; (with_reducible refine (float_sign.calls (Go.bits .or .i64 (wrap64 ((wrap64 ((wrap64 (x9_25 + 1074)) + 1)) * 4503599627370496)) (wrap64 (IntKind.u64.wrap (x10_25 - 4503599627370496)))) a0 t103 _ A33.out).mono ?_); rintro e w' ⟨rfl, ⟨nd, rfl⟩⟩; (try first | exact ⟨rfl, _, World.drewN_drewN _ _ _⟩ | exact ⟨rfl, _, Eq.trans (World.drewN_drewN _ _ _) (congrArg (World.drewN _) (Nat.add_assoc _ _ _))⟩))))
                    go_ret2
                    exact ⟨by first | rfl | (simp [errW_none, errW_some] <;> rfl) | (simp only [← hji5, ← hji6, ← hji8]; first | rfl | (simp [errW_none, errW_some] <;> rfl)) | (simp [*, errW_none, errW_some] <;> rfl), by repeat (first | (with_reducible first | exact HB.out | apply below_alloc | apply pw_below_drewN | apply below_drew1) | exact HB.out)⟩

/-! ### claplaw1_floats: function 18 -/
def claplaw1_floats.f (k : Nat)  : Option (Bool) := (float_Make.f k false 1 0).bind fun bt104 => (if bt104.2 = 0 then (some (bt104.1 == 4607182418800017408)) else (some false))
theorem claplaw1_floats.mono : ∀ k, LeO (claplaw1_floats.f k ) (claplaw1_floats.f (k + 1) ) := by
  intro  k
  unfold claplaw1_floats.f
  repeat' first
      | (with_reducible exact float_Make.mono _ _ _ _)
      | (with_reducible exact LeO.refl _)
      | (with_reducible exact LeO.none _)
      | (with_reducible refine LeO.ite ?_ ?_)
      | (with_reducible refine LeO.bind ?_ (fun _ => ?_))
      | exact float_Make.mono _ _ _ _
      | exact LeO.none _
      | refine LeO.ite ?_ ?_
      | refine LeO.bind ?_ (fun _ => ?_)
set_option maxHeartbeats 8000000 in
set_option maxRecDepth 100000 in
theorem claplaw1_floats.calls (k : Nat)  (r : Bool) (w : World) (h : claplaw1_floats.f k  = some r) :
    Calls Tryd.prog 18 #[] w fun e w' => e = .returned (.bool r) ∧ Below w.heap.size w w' := by
  have HB := Aside0.mk (Below.refl w.heap.size w)
  have H : ((float_Make.f k false 1 0).bind fun bt104 => (if bt104.2 = 0 then (some (bt104.1 == 4607182418800017408)) else (some false))) = some r := h
  clear h
  replace H := Option.bind_eq_some_iff.mp H
  obtain ⟨⟨t104, t105⟩, A10, H⟩ := H
  replace H : (if t105 = 0 then (some (t104 == 4607182418800017408)) else (some false)) = some r := H
  have A1 := Aside0.mk A10
  clear A10
  by_cases c2 : t105 = 0
  · rw [if_pos c2] at H
    have c2b0 : (t105 == 0) = true := beq_iff_eq.mpr c2
    have c2b1 : (t105 != 0) = false := bne_eq_false_iff_eq.mpr c2
    clear c2
    obtain rfl := Option.some.inj H
    go_enter Tryd.func18, Tryd.ntmps18
    go_wp2_with (first | ((with_reducible refine gate_callee (f := 17) rfl ?_); refine goesL_ (some 4) rfl rfl Tryd.func17 (by kernel_rfl) rfl #[.bool false, .int .i64 1, .int .i64 0] rfl (by (try simp only [List.map_toArray, List.map_cons, List.map_nil]); first | done | rfl | (simp only [List.length_drop, List.length_take]; rfl)) ?_; (with_reducible refine (float_Make.calls k false 1 0 t104 t105 _ A1.out).mono ?_); rintro e w3 ⟨rfl, hb⟩; refine ⟨_, rfl, ?_⟩; have n0_ := Aside0.mk (below_step (by repeat (first | (with_reducible first | exact HB.out | apply below_alloc | apply pw_below_drewN | apply below_drew1) | exact HB.out)) hb); clear HB; have HB := n0_; clear n0_; (try clear hb); (try clear hb2); (try clear hk); (try clear hi)))
    go_ret
    exact ⟨by first | rfl | (simp [errW_none, errW_some] <;> rfl) | (simp [*, errW_none, errW_some] <;> rfl), by repeat (first | (with_reducible first | exact HB.out | apply below_alloc | apply pw_below_drewN | apply below_drew1) | exact HB.out)⟩
  · rw [if_neg c2] at H
    have c2b0 : (t105 == 0) = false := beq_eq_false_iff_ne.mpr c2
    have c2b1 : (t105 != 0) = true := bne_iff_ne.mpr c2
    obtain rfl := Option.some.inj H
    go_enter Tryd.func18, Tryd.ntmps18
    go_wp2_with (first | ((with_reducible refine gate_callee (f := 17) rfl ?_); refine goesL_ (some 4) rfl rfl Tryd.func17 (by kernel_rfl) rfl #[.bool false, .int .i64 1, .int .i64 0] rfl (by (try simp only [List.map_toArray, List.map_cons, List.map_nil]); first | done | rfl | (simp only [List.length_drop, List.length_take]; rfl)) ?_; (with_reducible refine (float_Make.calls k false 1 0 t104 t105 _ A1.out).mono ?_); rintro e w4 ⟨rfl, hb⟩; refine ⟨_, rfl, ?_⟩; have n0_ := Aside0.mk (below_step (by repeat (first | (with_reducible first | exact HB.out | apply below_alloc | apply pw_below_drewN | apply below_drew1) | exact HB.out)) hb); clear HB; have HB := n0_; clear n0_; (try clear hb); (try clear hb2); (try clear hk); (try clear hi)))
    go_ret
    exact ⟨by first | rfl | (simp [errW_none, errW_some] <;> rfl) | (simp [*, errW_none, errW_some] <;> rfl), by repeat (first | (with_reducible first | exact HB.out | apply below_alloc | apply pw_below_drewN | apply below_drew1) | exact HB.out)⟩

end Go.Proofs.YtnbdmmepdmmbmaaDoor.PFm
