/- Words for the walks at this seat: of what the kit prints there, what this session's claims name. -/
import Derived.Test.YtlkddcabjcejdaaWInv
import Derived.Test.YtlkddcabjcejdaaWFootNe
namespace Go.Proofs.YtlkddcabjcejdaaW.PrintWords
open Go.RowKit
end Go.Proofs.YtlkddcabjcejdaaW.PrintWords
namespace Go.Proofs.YtlkddcabjcejdaaW.PrintLast
section
variable {ops : Array Oper} {a : Act} {o og : Oper} {g : Nat} {t : Tmp} {u : Bool}
end
end Go.Proofs.YtlkddcabjcejdaaW.PrintLast
