/- Words for the walks at this seat: of what the kit prints there, what this session's claims name. -/
import Derived.Test.YtlkddcabjcejdaaWTab
/-! ### 56. Four, five, six operations that may come up next, in any order -/
namespace Go.Proofs.YtlkddcabjcejdaaW.PrintLast
section
variable {P : Program} {ops : Array Oper} {Q : Exit → Act → World → Prop} {md : Region.Mode} {S : World → Prop} {ds : List Nat} {T : Bool × List (List Nat × List Nat)}
end
end Go.Proofs.YtlkddcabjcejdaaW.PrintLast
