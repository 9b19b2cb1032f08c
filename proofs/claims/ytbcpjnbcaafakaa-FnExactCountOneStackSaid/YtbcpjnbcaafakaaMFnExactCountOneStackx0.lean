/- The functions that FnExactCountOneStack comes to, with a walk for each. Made by this session's own program (wip/tools/mk.py), in the form of the kit's print; walks named in NOTES.md were written by hand. -/
import Derived.Test.YtbcpjnbcaafakaaProg
import Derived.Below
import Derived.Deep.Draws
import Derived.Deep.AppendLies
import Derived.Maps.AppendAt
import Derived.OwnWalk
import Derived.Laws.BytesArg
import Derived.Laws.MakeOwn
import Derived.Laws.OwnMore
import Derived.Deep.OwnRows
import Derived.Tactics
import Derived.Lib.ConvBytes
import Derived.Laws.Slices
import Derived.WalkKit
import Derived.KernelRfl
import Derived.RowKit3
import Derived.Deep.LoopGhost
import Derived.Deep.QuietTactic
import Derived.BigQuiet
import Derived.WideLaws
import Derived.Deep.DeepCutAuto
import Derived.Deep.CutBlock
import Derived.Deep.RegionHeld3
import Derived.Laws.Rows
import Derived.Lib.AppendStr
import Derived.ArgAppend
import Derived.Laws.IdiomCopy
import Derived.OrdersHeld
import Derived.Laws.BitsLemmas
import Derived.RowKit
import Derived.Test.YtbcpjnbcaafakaaWWords
import Derived.Test.YtbcpjnbcaafakaaWLast
import Derived.Test.YtbcpjnbcaafakaaWTab
import Derived.Test.YtbcpjnbcaafakaaWFour
import Derived.Test.YtbcpjnbcaafakaaWQPut
import Derived.Test.YtbcpjnbcaafakaaWApart
import Derived.Test.YtbcpjnbcaafakaaWArr
import Derived.Test.YtbcpjnbcaafakaaWZeros
import Derived.Test.YtbcpjnbcaafakaaWFoot
import Derived.Test.YtbcpjnbcaafakaaWKept
import Derived.Test.YtbcpjnbcaafakaaWShare
import Derived.Test.YtbcpjnbcaafakaaWN
import Derived.Test.YtbcpjnbcaafakaaWFootNe
import Derived.Test.YtbcpjnbcaafakaaWAt
import Derived.Test.YtbcpjnbcaafakaaWEqStruct
import Derived.Test.YtbcpjnbcaafakaaWRepsOne
import Derived.Test.YtbcpjnbcaafakaaWInv
import Derived.Test.YtbcpjnbcaafakaaWInvWords
import Derived.Test.YtbcpjnbcaafakaaWGuard
import Derived.Test.YtbcpjnbcaafakaaWNEv
import Derived.Test.YtbcpjnbcaafakaaWMore
namespace Go.Proofs.Ytbcpjnbcaafakaa.MFnExactCountOneStack
open Go.RowKit Go.Proofs.YtbcpjnbcaafakaaW.PrintWords Go.Proofs.YtbcpjnbcaafakaaW.PrintLast Go.Proofs.YtbcpjnbcaafakaaW.PrintMore
attribute [local go_sem] max2_int min2_int max_two min_two max_three min_three max_four min_four   -- for this text's walks alone
set_option linter.unusedVariables false
set_option linter.unusedSimpArgs false



def errW : Option Int → Value
  | none => .nilIface
  | some c => .iface 0 (.int .i64 c)
theorem errW_none : errW none = .nilIface := rfl
theorem errW_some (c : Int) : errW (some c) = .iface 0 (.int .i64 c) := rfl

theorem info3 : (Try.prog.info? 3).map (fun i => (i.zero, i.size, i.bytes)) = some (some (.int .i64 0), 1, 8) := by kernel_rfl
-- the values' own types

end Go.Proofs.Ytbcpjnbcaafakaa.MFnExactCountOneStack
