/- Plain facts on values: the closed fact of the laws. No statement is proved here. -/
import Derived.Test.YtilffmhmgoaejaaPValx4
import Derived.Test.YtilffmhmgoaejaaPure
namespace Go.Proofs.Ytilffmhmgoaejaa.PVal
open Go.RowKit Go.Proofs.YtilffmhmgoaejaaW.PrintWords Go.Proofs.YtilffmhmgoaejaaW.PrintLast Go.Proofs.YtilffmhmgoaejaaW.PrintMore Go.Proofs.Ytilffmhmgoaejaa Go.Proofs.Ytilffmhmgoaejaa.Plug
set_option linter.unusedVariables false
set_option linter.unusedSimpArgs false
theorem values_ev : Ev (fun k => claplaw1_values.f k) true := Ev.of claplaw1_values.mono (k := 12) (by kernel_rfl)
end Go.Proofs.Ytilffmhmgoaejaa.PVal
