/- The plain law of ValueCompares: Cmp is the order of the keys; a copy has the same key. No statement is proved here. -/
import Derived.Test.YtilffmhmgoaejaaPValx7
import Derived.Test.YtilffmhmgoaejaaValueGets
import Derived.Test.YtilffmhmgoaejaaKeyOrd
namespace Go.Proofs.Ytilffmhmgoaejaa.PVal
open Go.RowKit Go.Proofs.YtilffmhmgoaejaaW.PrintWords Go.Proofs.YtilffmhmgoaejaaW.PrintLast Go.Proofs.YtilffmhmgoaejaaW.PrintMore Go.Proofs.Ytilffmhmgoaejaa Go.Proofs.Ytilffmhmgoaejaa.Plug
set_option linter.unusedVariables false
set_option linter.unusedSimpArgs false
theorem ValueCompares (a b : S52g S63) (ha : wtV a ≤ 1048576) (ra : rgV a) (hb : wtV b ≤ 1048576) (rb : rgV b) : ∃ k, claplaw1_ValueCompares.f k a.f0 a.f1 a.f2 a.f3 b.f0 b.f1 b.f2 b.f3 = some true := by
  refine Ev.rounds (g := fun k => claplaw1_ValueCompares.f k a.f0 a.f1 a.f2 a.f3 b.f0 b.f1 b.f2 b.f3) ?_
  have ea : (⟨a.f0, a.f1, a.f2, a.f3⟩ : S52g S63) = a := by cases a; rfl
  have eb : (⟨b.f0, b.f1, b.f2, b.f3⟩ : S52g S63) = b := by cases b; rfl
  have hc : value_Cmp.f a.f0 a.f1 a.f2 a.f3 b.f0 b.f1 b.f2 b.f3 = some (cmpV a b) := by unfold value_Cmp.f; rw [ea, eb]
  have hs : strings_Compare.f ⟨(keyV a).toArray⟩ ⟨(keyV b).toArray⟩ = some (cmpV a b) := by
    unfold strings_Compare.f
    rw [lb_mk, lb_mk, cmp_keys a b ra rb]
  unfold claplaw1_ValueCompares.f value_Same.f
  simp only [key_f a ha, key_f b hb, hs, hc, copy_f a ha, Option.bind_some]
  refine Ev.bind values_ev ?_
  simp only [if_true, beq_self_eq_true]
  exact Ev.now _
end Go.Proofs.Ytilffmhmgoaejaa.PVal
