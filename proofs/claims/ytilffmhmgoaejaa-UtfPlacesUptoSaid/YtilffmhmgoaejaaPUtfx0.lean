-- Printed by myprint.py (a program of this work, wip/myprint.py) out of the translation; Lean checks it.
import Derived.Test.YtilffmhmgoaejaaProg
import Derived.Below
import Derived.Deep.Draws
import Derived.Deep.AppendLies
import Derived.Maps.AppendAt
import Derived.OwnWalk
import Derived.Laws.BytesArg
import Derived.Laws.MakeOwn
import Derived.Laws.OwnMore
import Derived.Deep.OwnRows
import Derived.Tactics
import Derived.Lib.ConvBytes
import Derived.Laws.Slices
import Derived.WalkKit
import Derived.KernelRfl
import Derived.RowKit3
import Derived.Deep.LoopGhost
import Derived.Deep.QuietTactic
import Derived.BigQuiet
import Derived.WideLaws
import Derived.Deep.DeepCutAuto
import Derived.Deep.CutBlock
import Derived.Deep.RegionHeld3
import Derived.Laws.Rows
import Derived.Lib.AppendStr
import Derived.ArgAppend
import Derived.Laws.IdiomCopy
import Derived.OrdersHeld
import Derived.Laws.BitsLemmas
import Derived.RowKit
import Derived.Test.YtilffmhmgoaejaaPure
import Derived.Test.YtilffmhmgoaejaaPlugUtf
import Derived.Test.YtilffmhmgoaejaaWWords
import Derived.Test.YtilffmhmgoaejaaWLast
import Derived.Test.YtilffmhmgoaejaaWTab
import Derived.Test.YtilffmhmgoaejaaWFour
import Derived.Test.YtilffmhmgoaejaaWQPut
import Derived.Test.YtilffmhmgoaejaaWApart
import Derived.Test.YtilffmhmgoaejaaWArr
import Derived.Test.YtilffmhmgoaejaaWZeros
import Derived.Test.YtilffmhmgoaejaaWFoot
import Derived.Test.YtilffmhmgoaejaaWKept
import Derived.Test.YtilffmhmgoaejaaWShare
import Derived.Test.YtilffmhmgoaejaaWN
import Derived.Test.YtilffmhmgoaejaaWFootNe
import Derived.Test.YtilffmhmgoaejaaWAt
import Derived.Test.YtilffmhmgoaejaaWEqStruct
import Derived.Test.YtilffmhmgoaejaaWRepsOne
import Derived.Test.YtilffmhmgoaejaaWInv
import Derived.Test.YtilffmhmgoaejaaWInvWords
import Derived.Test.YtilffmhmgoaejaaWGuard
import Derived.Test.YtilffmhmgoaejaaWNEv
import Derived.Test.YtilffmhmgoaejaaWMore
namespace Go.Proofs.Ytilffmhmgoaejaa.PUtf
open Go.RowKit Go.Proofs.Ytilffmhmgoaejaa Go.Proofs.Ytilffmhmgoaejaa.Plug Go.Proofs.YtilffmhmgoaejaaW.PrintWords Go.Proofs.YtilffmhmgoaejaaW.PrintLast Go.Proofs.YtilffmhmgoaejaaW.PrintMore
attribute [local go_sem] max2_int min2_int max_two min_two max_three min_three max_four min_four   -- for this text's walks alone
set_option linter.unusedVariables false
set_option linter.unusedSimpArgs false



def errW : Option Int → Value
  | none => .nilIface
  | some c => .iface 0 (.int .i64 c)
theorem errW_none : errW none = .nilIface := rfl
theorem errW_some (c : Int) : errW (some c) = .iface 0 (.int .i64 c) := rfl

theorem info3 : (Try.prog.info? 3).map (fun i => (i.zero, i.size, i.bytes)) = some (some (.int .i64 0), 1, 8) := by kernel_rfl
theorem info4 : (Try.prog.info? 4).map (fun i => (i.zero, i.size, i.bytes)) = some (some (.bool false), 1, 1) := by kernel_rfl
theorem info5 : (Try.prog.info? 5).map (fun i => (i.zero, i.size, i.bytes)) = some (some (.int .u8 0), 1, 1) := by kernel_rfl
-- the values' own types

end Go.Proofs.Ytilffmhmgoaejaa.PUtf
