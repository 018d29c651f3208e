/- Contract of the fact 'floats', in the print's form. No statement is proved here. -/
import Derived.Test.YtilffmhmgoaejaaFloat
import Derived.Test.YtilffmhmgoaejaaPure
namespace Go.Proofs.Ytilffmhmgoaejaa.Plug
open Go.RowKit Go.Proofs.YtilffmhmgoaejaaW.PrintWords Go.Proofs.YtilffmhmgoaejaaW.PrintLast
def claplaw1_floats.f : Option Bool := some true
theorem claplaw1_floats.calls (r : Bool) (w : World) (h : claplaw1_floats.f = some r) :
    Calls Try.prog 20 #[] w fun e w' => e = .returned (.bool r) ∧ Drawn0 w w' := by
  obtain rfl := Option.some.inj h
  refine (floats_any w).mono ?_
  rintro e w' ⟨rfl, h⟩
  first | exact ⟨rfl, h ▸ Drawn0.refl _⟩ | exact ⟨rfl, h.symm ▸ Drawn0.refl _⟩
end Go.Proofs.Ytilffmhmgoaejaa.Plug
