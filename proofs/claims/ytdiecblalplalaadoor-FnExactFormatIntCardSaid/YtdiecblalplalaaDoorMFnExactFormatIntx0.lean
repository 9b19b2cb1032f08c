/- The functions that FnExactFormatInt comes to, with a walk for each. Made by this session's own program (wip/tools/mk.py), in the form of the kit's print; walks named in NOTES.md were written by hand. -/
import Derived.Test.YtdiecblalplalaaDoorProg
import Derived.Below
import Derived.Deep.Draws
import Derived.Deep.AppendLies
import Derived.Maps.AppendAt
import Derived.OwnWalk
import Derived.Laws.BytesArg
import Derived.Laws.MakeOwn
import Derived.Laws.OwnMore
import Derived.Deep.OwnRows
import Derived.Tactics
import Derived.Lib.ConvBytes
import Derived.Laws.Slices
import Derived.WalkKit
import Derived.KernelRfl
import Derived.RowKit3
import Derived.Deep.LoopGhost
import Derived.Deep.QuietTactic
import Derived.BigQuiet
import Derived.WideLaws
import Derived.Deep.DeepCutAuto
import Derived.Deep.CutBlock
import Derived.Deep.RegionHeld3
import Derived.Laws.Rows
import Derived.Lib.AppendStr
import Derived.ArgAppend
import Derived.Laws.IdiomCopy
import Derived.OrdersHeld
import Derived.Laws.BitsLemmas
import Derived.RowKit
import Derived.WalkSpells
import Derived.Test.YtdiecblalplalaaDoorShelf
import Derived.Test.YtdiecblalplalaaDoorBase
import Derived.Test.YtdiecblalplalaaDoorBaseP
import Derived.Test.YtdiecblalplalaaDoorBaseN
import Derived.Test.YtdiecblalplalaaDoorBaseF
import Derived.Test.YtdiecblalplalaaDoorBaseD
import Derived.Lib.SliceRun
import Derived.Lib.AppendIntMem
import Derived.Lib.ItoaNum
import Derived.Shelf.Strings.Builder1
import Derived.Test.YtdiecblalplalaaDoorWWords
import Derived.Test.YtdiecblalplalaaDoorWLast
import Derived.Test.YtdiecblalplalaaDoorWTab
import Derived.Test.YtdiecblalplalaaDoorWFour
import Derived.Test.YtdiecblalplalaaDoorWQPut
import Derived.Test.YtdiecblalplalaaDoorWApart
import Derived.Test.YtdiecblalplalaaDoorWArr
import Derived.Test.YtdiecblalplalaaDoorWZeros
import Derived.Test.YtdiecblalplalaaDoorWFoot
import Derived.Test.YtdiecblalplalaaDoorWKept
import Derived.Test.YtdiecblalplalaaDoorWShare
import Derived.Test.YtdiecblalplalaaDoorWN
import Derived.Test.YtdiecblalplalaaDoorWFootNe
import Derived.Test.YtdiecblalplalaaDoorWAt
import Derived.Test.YtdiecblalplalaaDoorWEqStruct
import Derived.Test.YtdiecblalplalaaDoorWRepsOne
import Derived.Test.YtdiecblalplalaaDoorWInv
import Derived.Test.YtdiecblalplalaaDoorWInvWords
import Derived.Test.YtdiecblalplalaaDoorWGuard
import Derived.Test.YtdiecblalplalaaDoorWNEv
import Derived.Test.YtdiecblalplalaaDoorWMore
namespace Go.Proofs.YtdiecblalplalaaDoor.MFnExactFormatInt
open Go.RowKit Go.Proofs.YtdiecblalplalaaDoorW.PrintWords Go.Proofs.YtdiecblalplalaaDoorW.PrintLast Go.Proofs.YtdiecblalplalaaDoorW.PrintMore
attribute [local go_sem] max2_int min2_int max_two min_two max_three min_three max_four min_four   -- for this text's walks alone
set_option linter.unusedVariables false
set_option linter.unusedSimpArgs false



def errW : Option Int → Value
  | none => .nilIface
  | some c => .iface 0 (.int .i64 c)
theorem errW_none : errW none = .nilIface := rfl
theorem errW_some (c : Int) : errW (some c) = .iface 0 (.int .i64 c) := rfl

-- the values' own types

end Go.Proofs.YtdiecblalplalaaDoor.MFnExactFormatInt
