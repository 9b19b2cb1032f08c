/- The word by which numbers come out of others. No condition. -/
import Derived.Test.YtlkddcabjcejdaaBase
import Derived.Test.YtlkddcabjcejdaaBaseW
import Derived.Test.YtlkddcabjcejdaaBaseR
namespace Go.Proofs.Ytlkddcabjcejdaa.Base
open Go.RowKit Go.Proofs.YtlkddcabjcejdaaW.PrintWords
set_option linter.unusedVariables false
set_option linter.unusedSimpArgs false
/-- target, what has not come in, the stack (its top ahead), the word so far -/
def toGo : Nat → List Int → List Int → List Int → List Int → List Int × Bool
  | 0, _, _, _, out => (out, true)
  | _ + 1, [], _, _, out => (out, true)
  | m + 1, n :: t, order, stack, out =>
    if stack.head? = some n then toGo m t order stack.tail (out ++ [79])
    else match order with
      | [] => ([], false)
      | c :: o => toGo m (n :: t) o (c :: stack) (out ++ [73])
def toL (a b : List Int) : List Int × Bool := toGo (a.length + b.length) b a [] []
def toW (a b : List Int) : ByteArray × Bool := (strOfNums (toL a b).1, (toL a b).2)
def toR (a b : List Int) : ByteArray × Bool := if isOrd a = true ∧ isOrd b = true ∧ a.length = b.length then toW a b else ((⟨#[]⟩ : ByteArray), false)
end Go.Proofs.Ytlkddcabjcejdaa.Base
