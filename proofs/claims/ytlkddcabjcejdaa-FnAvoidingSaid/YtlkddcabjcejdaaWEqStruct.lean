/- Words for the walks at this seat: of what the kit prints there, what this session's claims name. -/
import Derived.Test.YtlkddcabjcejdaaWWords
import Derived.Laws.StructEq
/-! ### 53. '==' of structs as_ one Bool -/
namespace Go.Proofs.YtlkddcabjcejdaaW.PrintWords
open Go.RowKit
section
variable {P : Program} {d : Nat} {xs ys : Array Value} {f : Field} {fs : List Field} {a b : Value} {r s : Bool} {w : World}
end
end Go.Proofs.YtlkddcabjcejdaaW.PrintWords
