/- The functions that FnExactParseInt comes to, with a walk for each. Made by this session's own program (wip/tools/mk.py), in the form of the kit's print; walks named in NOTES.md were written by hand. -/
import Derived.Test.YtjaplmgbhmgpiaaDoorProg
import Derived.Below
import Derived.Deep.Draws
import Derived.Deep.AppendLies
import Derived.Maps.AppendAt
import Derived.OwnWalk
import Derived.Laws.BytesArg
import Derived.Laws.MakeOwn
import Derived.Laws.OwnMore
import Derived.Deep.OwnRows
import Derived.Tactics
import Derived.Lib.ConvBytes
import Derived.Laws.Slices
import Derived.WalkKit
import Derived.KernelRfl
import Derived.RowKit3
import Derived.Deep.LoopGhost
import Derived.Deep.QuietTactic
import Derived.BigQuiet
import Derived.WideLaws
import Derived.Deep.DeepCutAuto
import Derived.Deep.CutBlock
import Derived.Deep.RegionHeld3
import Derived.Laws.Rows
import Derived.Lib.AppendStr
import Derived.ArgAppend
import Derived.Laws.IdiomCopy
import Derived.OrdersHeld
import Derived.Laws.BitsLemmas
import Derived.RowKit
import Derived.WalkSpells
import Derived.Test.YtjaplmgbhmgpiaaDoorShelf
import Derived.Test.YtjaplmgbhmgpiaaDoorBase
import Derived.Test.YtjaplmgbhmgpiaaDoorBaseP
import Derived.Test.YtjaplmgbhmgpiaaDoorBaseN
import Derived.Test.YtjaplmgbhmgpiaaDoorBaseF
import Derived.Lib.AppendIntMem
import Derived.Lib.ItoaNum
import Derived.Test.YtjaplmgbhmgpiaaDoorBaseD
import Derived.Lib.SliceRun
import Derived.Lib.AtoiAll
import Derived.Lib.AtoiErrMem
import Derived.Shelf.Strings.Builder1
import Derived.Test.YtjaplmgbhmgpiaaDoorWWords
import Derived.Test.YtjaplmgbhmgpiaaDoorWLast
import Derived.Test.YtjaplmgbhmgpiaaDoorWTab
import Derived.Test.YtjaplmgbhmgpiaaDoorWFour
import Derived.Test.YtjaplmgbhmgpiaaDoorWQPut
import Derived.Test.YtjaplmgbhmgpiaaDoorWApart
import Derived.Test.YtjaplmgbhmgpiaaDoorWArr
import Derived.Test.YtjaplmgbhmgpiaaDoorWZeros
import Derived.Test.YtjaplmgbhmgpiaaDoorWFoot
import Derived.Test.YtjaplmgbhmgpiaaDoorWKept
import Derived.Test.YtjaplmgbhmgpiaaDoorWShare
import Derived.Test.YtjaplmgbhmgpiaaDoorWN
import Derived.Test.YtjaplmgbhmgpiaaDoorWFootNe
import Derived.Test.YtjaplmgbhmgpiaaDoorWAt
import Derived.Test.YtjaplmgbhmgpiaaDoorWEqStruct
import Derived.Test.YtjaplmgbhmgpiaaDoorWRepsOne
import Derived.Test.YtjaplmgbhmgpiaaDoorWInv
import Derived.Test.YtjaplmgbhmgpiaaDoorWInvWords
import Derived.Test.YtjaplmgbhmgpiaaDoorWGuard
import Derived.Test.YtjaplmgbhmgpiaaDoorWNEv
import Derived.Test.YtjaplmgbhmgpiaaDoorWMore
namespace Go.Proofs.YtjaplmgbhmgpiaaDoor.MFnExactParseInt
open Go.RowKit Go.Proofs.YtjaplmgbhmgpiaaDoorW.PrintWords Go.Proofs.YtjaplmgbhmgpiaaDoorW.PrintLast Go.Proofs.YtjaplmgbhmgpiaaDoorW.PrintMore
attribute [local go_sem] max2_int min2_int max_two min_two max_three min_three max_four min_four   -- for this text's walks alone
set_option linter.unusedVariables false
set_option linter.unusedSimpArgs false



def errW : Option Int → Value
  | none => .nilIface
  | some c => .iface 0 (.int .i64 c)
theorem errW_none : errW none = .nilIface := rfl
theorem errW_some (c : Int) : errW (some c) = .iface 0 (.int .i64 c) := rfl

-- the values' own types

end Go.Proofs.YtjaplmgbhmgpiaaDoor.MFnExactParseInt
