/- The functions that FnExactSortingWord comes to, with a walk for each. Made by this session's own program (wip/tools/mk.py), in the form of the kit's print; walks named in NOTES.md were written by hand. -/
import Derived.Test.YtcocnmolojcoaaaProg
import Derived.Below
import Derived.Deep.Draws
import Derived.Deep.AppendLies
import Derived.Maps.AppendAt
import Derived.OwnWalk
import Derived.Laws.BytesArg
import Derived.Laws.MakeOwn
import Derived.Laws.OwnMore
import Derived.Deep.OwnRows
import Derived.Tactics
import Derived.Lib.ConvBytes
import Derived.Laws.Slices
import Derived.WalkKit
import Derived.KernelRfl
import Derived.RowKit3
import Derived.Deep.LoopGhost
import Derived.Deep.QuietTactic
import Derived.BigQuiet
import Derived.WideLaws
import Derived.Deep.DeepCutAuto
import Derived.Deep.CutBlock
import Derived.Deep.RegionHeld3
import Derived.Laws.Rows
import Derived.Lib.AppendStr
import Derived.ArgAppend
import Derived.Laws.IdiomCopy
import Derived.OrdersHeld
import Derived.Laws.BitsLemmas
import Derived.RowKit
import Derived.WalkSpells
import Derived.Test.YtcocnmolojcoaaaShelf
import Derived.Test.YtcocnmolojcoaaaWWords
import Derived.Test.YtcocnmolojcoaaaWLast
import Derived.Test.YtcocnmolojcoaaaWTab
import Derived.Test.YtcocnmolojcoaaaWFour
import Derived.Test.YtcocnmolojcoaaaWQPut
import Derived.Test.YtcocnmolojcoaaaWApart
import Derived.Test.YtcocnmolojcoaaaWArr
import Derived.Test.YtcocnmolojcoaaaWZeros
import Derived.Test.YtcocnmolojcoaaaWFoot
import Derived.Test.YtcocnmolojcoaaaWKept
import Derived.Test.YtcocnmolojcoaaaWShare
import Derived.Test.YtcocnmolojcoaaaWN
import Derived.Test.YtcocnmolojcoaaaWFootNe
import Derived.Test.YtcocnmolojcoaaaWAt
import Derived.Test.YtcocnmolojcoaaaWEqStruct
import Derived.Test.YtcocnmolojcoaaaWRepsOne
import Derived.Test.YtcocnmolojcoaaaWInv
import Derived.Test.YtcocnmolojcoaaaWInvWords
import Derived.Test.YtcocnmolojcoaaaWGuard
import Derived.Test.YtcocnmolojcoaaaWNEv
import Derived.Test.YtcocnmolojcoaaaWMore
namespace Go.Proofs.Ytcocnmolojcoaaa.MFnExactSortingWord
open Go.RowKit Go.Proofs.YtcocnmolojcoaaaW.PrintWords Go.Proofs.YtcocnmolojcoaaaW.PrintLast Go.Proofs.YtcocnmolojcoaaaW.PrintMore
attribute [local go_sem] max2_int min2_int max_two min_two max_three min_three max_four min_four   -- for this text's walks alone
set_option linter.unusedVariables false
set_option linter.unusedSimpArgs false



def errW : Option Int → Value
  | none => .nilIface
  | some c => .iface 0 (.int .i64 c)
theorem errW_none : errW none = .nilIface := rfl
theorem errW_some (c : Int) : errW (some c) = .iface 0 (.int .i64 c) := rfl

theorem info3 : (Try.prog.info? 3).map (fun i => (i.zero, i.size, i.bytes)) = some (some (.int .i64 0), 1, 8) := by kernel_rfl
theorem info5 : (Try.prog.info? 5).map (fun i => (i.zero, i.size, i.bytes)) = some (some (.int .u8 0), 1, 1) := by kernel_rfl
-- the values' own types

end Go.Proofs.Ytcocnmolojcoaaa.MFnExactSortingWord
