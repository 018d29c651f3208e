-- Printed by myprint.py (a program of this work, wip/myprint.py) out of the translation; Lean checks it.
import Derived.Test.YtnbdmmepdmmbmaaDoorPUtfx0
import Derived.Test.YtnbdmmepdmmbmaaDoorPUtfx1
import Derived.Test.YtnbdmmepdmmbmaaDoorPUtfx2
namespace Go.Proofs.YtnbdmmepdmmbmaaDoor.PUtf
open Go.RowKit Go.Proofs.YtnbdmmepdmmbmaaDoor Go.Proofs.YtnbdmmepdmmbmaaDoor.Plug Go.Proofs.YtnbdmmepdmmbmaaDoorW.PrintWords Go.Proofs.YtnbdmmepdmmbmaaDoorW.PrintLast Go.Proofs.YtnbdmmepdmmbmaaDoorW.PrintMore
attribute [local go_sem] max2_int min2_int max_two min_two max_three min_three max_four min_four   -- for this text's walks alone
set_option linter.unusedVariables false
set_option linter.unusedSimpArgs false

end Go.Proofs.YtnbdmmepdmmbmaaDoor.PUtf
