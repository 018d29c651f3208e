-- Printed by myprint.py (a program of this work, wip/myprint.py) out of the translation; Lean checks it.
import Derived.Test.YtnbdmmepdmmbmaaDoorProg
import Derived.Below
import Derived.Deep.Draws
import Derived.Deep.AppendLies
import Derived.Maps.AppendAt
import Derived.OwnWalk
import Derived.Laws.BytesArg
import Derived.Laws.MakeOwn
import Derived.Laws.OwnMore
import Derived.Deep.OwnRows
import Derived.Tactics
import Derived.Lib.ConvBytes
import Derived.Laws.Slices
import Derived.WalkKit
import Derived.KernelRfl
import Derived.RowKit3
import Derived.Deep.LoopGhost
import Derived.Deep.QuietTactic
import Derived.BigQuiet
import Derived.WideLaws
import Derived.Deep.DeepCutAuto
import Derived.Deep.CutBlock
import Derived.Deep.RegionHeld3
import Derived.Laws.Rows
import Derived.Lib.AppendStr
import Derived.ArgAppend
import Derived.Laws.IdiomCopy
import Derived.OrdersHeld
import Derived.Laws.BitsLemmas
import Derived.RowKit
import Derived.Test.YtnbdmmepdmmbmaaDoorPure
import Derived.Test.YtnbdmmepdmmbmaaDoorWWords
import Derived.Test.YtnbdmmepdmmbmaaDoorWLast
import Derived.Test.YtnbdmmepdmmbmaaDoorWTab
import Derived.Test.YtnbdmmepdmmbmaaDoorWFour
import Derived.Test.YtnbdmmepdmmbmaaDoorWQPut
import Derived.Test.YtnbdmmepdmmbmaaDoorWApart
import Derived.Test.YtnbdmmepdmmbmaaDoorWArr
import Derived.Test.YtnbdmmepdmmbmaaDoorWZeros
import Derived.Test.YtnbdmmepdmmbmaaDoorWFoot
import Derived.Test.YtnbdmmepdmmbmaaDoorWKept
import Derived.Test.YtnbdmmepdmmbmaaDoorWShare
import Derived.Test.YtnbdmmepdmmbmaaDoorWN
import Derived.Test.YtnbdmmepdmmbmaaDoorWFootNe
import Derived.Test.YtnbdmmepdmmbmaaDoorWAt
import Derived.Test.YtnbdmmepdmmbmaaDoorWEqStruct
import Derived.Test.YtnbdmmepdmmbmaaDoorWRepsOne
import Derived.Test.YtnbdmmepdmmbmaaDoorWInv
import Derived.Test.YtnbdmmepdmmbmaaDoorWInvWords
import Derived.Test.YtnbdmmepdmmbmaaDoorWGuard
import Derived.Test.YtnbdmmepdmmbmaaDoorWNEv
import Derived.Test.YtnbdmmepdmmbmaaDoorWMore
namespace Go.Proofs.YtnbdmmepdmmbmaaDoor.PFm
open Go.RowKit Go.Proofs.YtnbdmmepdmmbmaaDoor Go.Proofs.YtnbdmmepdmmbmaaDoor.Plug Go.Proofs.YtnbdmmepdmmbmaaDoorW.PrintWords Go.Proofs.YtnbdmmepdmmbmaaDoorW.PrintLast Go.Proofs.YtnbdmmepdmmbmaaDoorW.PrintMore
attribute [local go_sem] max2_int min2_int max_two min_two max_three min_three max_four min_four   -- for this text's walks alone
set_option linter.unusedVariables false
set_option linter.unusedSimpArgs false



def errW : Option Int → Value
  | none => .nilIface
  | some c => .iface 0 (.int .i64 c)
theorem errW_none : errW none = .nilIface := rfl
theorem errW_some (c : Int) : errW (some c) = .iface 0 (.int .i64 c) := rfl

theorem info5 : (Tryd.prog.info? 5).map (fun i => (i.zero, i.size, i.bytes)) = some (some (.int .u8 0), 1, 1) := by kernel_rfl
-- the values' own types

end Go.Proofs.YtnbdmmepdmmbmaaDoor.PFm
