/- The law Names of package claplaw1: the closed Go function returns true, whatever the memory it is called in. No conditions. -/
import Derived.Test.YtilffmhmgoaejaaPNamesx1
namespace Go.Proofs.Ytilffmhmgoaejaa.Pure
open Go.RowKit Go.Proofs.Ytilffmhmgoaejaa.PNames Go.Proofs.YtilffmhmgoaejaaW.PrintWords Go.Proofs.YtilffmhmgoaejaaW.PrintLast

/-- YOURS: ∃ k, claplaw1_Names.f k  = some true
What it reaches (each with k first where it has rounds; `.mono`: more rounds tell the same; `.l0`, ..: its loops, with `.mono_l`): claplaw1_Names.f -/
theorem Names : claplaw1_Names.Pure := by
  exact ⟨21, by decide +kernel⟩

end Go.Proofs.Ytilffmhmgoaejaa.Pure
