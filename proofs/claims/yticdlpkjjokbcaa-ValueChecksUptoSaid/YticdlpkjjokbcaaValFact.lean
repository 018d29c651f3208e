/- Plain facts on values: the closed fact of the laws. No statement is proved here. -/
import Derived.Test.YticdlpkjjokbcaaPValx5
import Derived.Test.YticdlpkjjokbcaaPure
namespace Go.Proofs.Yticdlpkjjokbcaa.PVal
open Go.RowKit Go.Proofs.YticdlpkjjokbcaaW.PrintWords Go.Proofs.YticdlpkjjokbcaaW.PrintLast Go.Proofs.YticdlpkjjokbcaaW.PrintMore Go.Proofs.Yticdlpkjjokbcaa Go.Proofs.Yticdlpkjjokbcaa.Plug
set_option linter.unusedVariables false
set_option linter.unusedSimpArgs false
theorem values_ev : Ev (fun k => claplaw1_values.f k) true := Ev.of claplaw1_values.mono (k := 12) (by kernel_rfl)
end Go.Proofs.Yticdlpkjjokbcaa.PVal
