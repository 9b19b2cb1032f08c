/-
  No cell of these rows narrows 'for every input' (looked for: loops, veiled, ifaces, maps, wideKeys, modest, calm, conditions, laid).
  DERIVED. THE GIVEN ROWS OF THIS SEAT. 11 by the template 'for every input the law returns true; each argument reads behind the call as it read before'; 0 by the template 'total and deterministic' (their statements: YtlkddcabjcejdaaTotals.lean).
  GIVEN WITH THE SEED: the statements are not yours to turn. If you find one false, say at which input.
  Laid BY PROGRAM, IN A SANDBOX (cutbox-rows.mjs): the forced cells as the released guide's own fill.sh prints them over the translation 1035443573560b79… (all of the seat's roots in one cut). By AI agents, Wed Nov 11 2026. No macro, syntax, notation, axiom, sorry.
-/
import Derived.Test.YtlkddcabjcejdaaChecked
import GoSem.Claim
import GoSem.ClaimJoined
import GoSem.ClaimMapViews
import Derived.JoinedTies
import Derived.KernelRfl
namespace Go.Proofs.Ytlkddcabjcejdaa
/- THE CELL 'sum', in the pinned program and in every row, IS THE sha256 OF THE DUMP (.gsa) THAT YtlkddcabjcejdaaProg.lean LOADS. Nothing in Lean hashes anything: it is a label: what it is worth is what the hold of that sum in a sandbox is worth. -/
noncomputable def Try.pinned : Pinned := { name := "ytlkddcabjcejdaa", sum := "1035443573560b79ef1966e3d02587a365f8c7f757f68fb66432fb93f08e030d", checked := Try.checked }
namespace Rows
def none {H : Type} : Left H := { results := [], args := [] }

/-- 'laws.FnExactFewestQueues': WHATEVER THE INPUT: true; the input reads as it did. -/
def fnExactFewestQueuesSpec : ChangeSpec := { name := "fnExactFewestQueues", fn := fun _ => fun
  | [d] => { results := [.lit (.bool true)], args := [d] }
  | _ => none }
def fnExactFewestQueuesRow : OpenClaim := { program := "ytlkddcabjcejdaa", sum := "1035443573560b79ef1966e3d02587a365f8c7f757f68fb66432fb93f08e030d", func := "loop.example/g01286/laws.FnExactFewestQueues", spec := "fnExactFewestQueues", unfollowed := true, recurses := true, apart := false }
def FnExactFewestQueuesSaid : Prop := fnExactFewestQueuesRow.holds Try.pinned (OpenSpec.ofChange fnExactFewestQueuesSpec)

/-- ITS FALSE NEIGHBOUR: 'it returns false'. Refute it at one input. -/
def fnExactFewestQueuesWrong : ChangeSpec := { name := "fnExactFewestQueues", fn := fun _ => fun
  | [d] => { results := [.lit (.bool false)], args := [d] }
  | _ => none }
def FnExactFewestQueuesWrongFalsely : Prop := fnExactFewestQueuesRow.holds Try.pinned (OpenSpec.ofChange fnExactFewestQueuesWrong)

/-- 'laws.FnExactRunsOf': WHATEVER THE INPUT: true; the input reads as it did. -/
def fnExactRunsOfSpec : ChangeSpec := { name := "fnExactRunsOf", fn := fun _ => fun
  | [d] => { results := [.lit (.bool true)], args := [d] }
  | _ => none }
def fnExactRunsOfRow : OpenClaim := { program := "ytlkddcabjcejdaa", sum := "1035443573560b79ef1966e3d02587a365f8c7f757f68fb66432fb93f08e030d", func := "loop.example/g01286/laws.FnExactRunsOf", spec := "fnExactRunsOf", apart := false }
def FnExactRunsOfSaid : Prop := fnExactRunsOfRow.holds Try.pinned (OpenSpec.ofChange fnExactRunsOfSpec)

/-- ITS FALSE NEIGHBOUR: 'it returns false'. Refute it at one input. -/
def fnExactRunsOfWrong : ChangeSpec := { name := "fnExactRunsOf", fn := fun _ => fun
  | [d] => { results := [.lit (.bool false)], args := [d] }
  | _ => none }
def FnExactRunsOfWrongFalsely : Prop := fnExactRunsOfRow.holds Try.pinned (OpenSpec.ofChange fnExactRunsOfWrong)

/-- 'laws.FnExactBadTriple': WHATEVER THE INPUT: true; the input reads as it did. -/
def fnExactBadTripleSpec : ChangeSpec := { name := "fnExactBadTriple", fn := fun _ => fun
  | [d] => { results := [.lit (.bool true)], args := [d] }
  | _ => none }
def fnExactBadTripleRow : OpenClaim := { program := "ytlkddcabjcejdaa", sum := "1035443573560b79ef1966e3d02587a365f8c7f757f68fb66432fb93f08e030d", func := "loop.example/g01286/laws.FnExactBadTriple", spec := "fnExactBadTriple", unfollowed := true, recurses := true, apart := false }
def FnExactBadTripleSaid : Prop := fnExactBadTripleRow.holds Try.pinned (OpenSpec.ofChange fnExactBadTripleSpec)

/-- ITS FALSE NEIGHBOUR: 'it returns false'. Refute it at one input. -/
def fnExactBadTripleWrong : ChangeSpec := { name := "fnExactBadTriple", fn := fun _ => fun
  | [d] => { results := [.lit (.bool false)], args := [d] }
  | _ => none }
def FnExactBadTripleWrongFalsely : Prop := fnExactBadTripleRow.holds Try.pinned (OpenSpec.ofChange fnExactBadTripleWrong)

/-- 'laws.FnExactOutputsOf': WHATEVER THE INPUT: true; the input reads as it did. -/
def fnExactOutputsOfSpec : ChangeSpec := { name := "fnExactOutputsOf", fn := fun _ => fun
  | [d] => { results := [.lit (.bool true)], args := [d] }
  | _ => none }
def fnExactOutputsOfRow : OpenClaim := { program := "ytlkddcabjcejdaa", sum := "1035443573560b79ef1966e3d02587a365f8c7f757f68fb66432fb93f08e030d", func := "loop.example/g01286/laws.FnExactOutputsOf", spec := "fnExactOutputsOf", unfollowed := true, recurses := true, apart := false }
def FnExactOutputsOfSaid : Prop := fnExactOutputsOfRow.holds Try.pinned (OpenSpec.ofChange fnExactOutputsOfSpec)

/-- ITS FALSE NEIGHBOUR: 'it returns false'. Refute it at one input. -/
def fnExactOutputsOfWrong : ChangeSpec := { name := "fnExactOutputsOf", fn := fun _ => fun
  | [d] => { results := [.lit (.bool false)], args := [d] }
  | _ => none }
def FnExactOutputsOfWrongFalsely : Prop := fnExactOutputsOfRow.holds Try.pinned (OpenSpec.ofChange fnExactOutputsOfWrong)

/-- 'laws.FnExactPatternsIn': WHATEVER THE INPUT: true; the input reads as it did. -/
def fnExactPatternsInSpec : ChangeSpec := { name := "fnExactPatternsIn", fn := fun _ => fun
  | [d1, d2] => { results := [.lit (.bool true)], args := [d1, d2] }
  | _ => none }
def fnExactPatternsInRow : OpenClaim := { program := "ytlkddcabjcejdaa", sum := "1035443573560b79ef1966e3d02587a365f8c7f757f68fb66432fb93f08e030d", func := "loop.example/g01286/laws.FnExactPatternsIn", spec := "fnExactPatternsIn", unfollowed := true, recurses := true, apart := false }
def FnExactPatternsInSaid : Prop := fnExactPatternsInRow.holds Try.pinned (OpenSpec.ofChange fnExactPatternsInSpec)

/-- ITS FALSE NEIGHBOUR: 'it returns false'. Refute it at one input. -/
def fnExactPatternsInWrong : ChangeSpec := { name := "fnExactPatternsIn", fn := fun _ => fun
  | [d1, d2] => { results := [.lit (.bool false)], args := [d1, d2] }
  | _ => none }
def FnExactPatternsInWrongFalsely : Prop := fnExactPatternsInRow.holds Try.pinned (OpenSpec.ofChange fnExactPatternsInWrong)

/-- 'laws.FnSweeps': WHATEVER THE INPUT: true; the input reads as it did. -/
def fnSweepsSpec : ChangeSpec := { name := "fnSweeps", fn := fun _ => fun
  | [d] => { results := [.lit (.bool true)], args := [d] }
  | _ => none }
def fnSweepsRow : OpenClaim := { program := "ytlkddcabjcejdaa", sum := "1035443573560b79ef1966e3d02587a365f8c7f757f68fb66432fb93f08e030d", func := "loop.example/g01286/laws.FnSweeps", spec := "fnSweeps", unfollowed := true, recurses := true, apart := false }
def FnSweepsSaid : Prop := fnSweepsRow.holds Try.pinned (OpenSpec.ofChange fnSweepsSpec)

/-- ITS FALSE NEIGHBOUR: 'it returns false'. Refute it at one input. -/
def fnSweepsWrong : ChangeSpec := { name := "fnSweeps", fn := fun _ => fun
  | [d] => { results := [.lit (.bool false)], args := [d] }
  | _ => none }
def FnSweepsWrongFalsely : Prop := fnSweepsRow.holds Try.pinned (OpenSpec.ofChange fnSweepsWrong)

/-- 'laws.FnOrders': WHATEVER THE INPUT: true; the input reads as it did. -/
def fnOrdersSpec : ChangeSpec := { name := "fnOrders", fn := fun _ => fun
  | [d] => { results := [.lit (.bool true)], args := [d] }
  | _ => none }
def fnOrdersRow : OpenClaim := { program := "ytlkddcabjcejdaa", sum := "1035443573560b79ef1966e3d02587a365f8c7f757f68fb66432fb93f08e030d", func := "loop.example/g01286/laws.FnOrders", spec := "fnOrders", inPlace := ["internal/abi.NoEscape"], recurses := true, apart := false }
def FnOrdersSaid : Prop := fnOrdersRow.holds Try.pinned (OpenSpec.ofChange fnOrdersSpec)

/-- ITS FALSE NEIGHBOUR: 'it returns false'. Refute it at one input. -/
def fnOrdersWrong : ChangeSpec := { name := "fnOrders", fn := fun _ => fun
  | [d] => { results := [.lit (.bool false)], args := [d] }
  | _ => none }
def FnOrdersWrongFalsely : Prop := fnOrdersRow.holds Try.pinned (OpenSpec.ofChange fnOrdersWrong)

/-- 'laws.FnOneStack': WHATEVER THE INPUT: true; the input reads as it did. -/
def fnOneStackSpec : ChangeSpec := { name := "fnOneStack", fn := fun _ => fun
  | [d] => { results := [.lit (.bool true)], args := [d] }
  | _ => none }
def fnOneStackRow : OpenClaim := { program := "ytlkddcabjcejdaa", sum := "1035443573560b79ef1966e3d02587a365f8c7f757f68fb66432fb93f08e030d", func := "loop.example/g01286/laws.FnOneStack", spec := "fnOneStack", unfollowed := true, recurses := true, apart := false }
def FnOneStackSaid : Prop := fnOneStackRow.holds Try.pinned (OpenSpec.ofChange fnOneStackSpec)

/-- ITS FALSE NEIGHBOUR: 'it returns false'. Refute it at one input. -/
def fnOneStackWrong : ChangeSpec := { name := "fnOneStack", fn := fun _ => fun
  | [d] => { results := [.lit (.bool false)], args := [d] }
  | _ => none }
def FnOneStackWrongFalsely : Prop := fnOneStackRow.holds Try.pinned (OpenSpec.ofChange fnOneStackWrong)

/-- 'laws.FnStackWords': WHATEVER THE INPUT: true; the input reads as it did. -/
def fnStackWordsSpec : ChangeSpec := { name := "fnStackWords", fn := fun _ => fun
  | [d] => { results := [.lit (.bool true)], args := [d] }
  | _ => none }
def fnStackWordsRow : OpenClaim := { program := "ytlkddcabjcejdaa", sum := "1035443573560b79ef1966e3d02587a365f8c7f757f68fb66432fb93f08e030d", func := "loop.example/g01286/laws.FnStackWords", spec := "fnStackWords", unfollowed := true, recurses := true, apart := false }
def FnStackWordsSaid : Prop := fnStackWordsRow.holds Try.pinned (OpenSpec.ofChange fnStackWordsSpec)

/-- ITS FALSE NEIGHBOUR: 'it returns false'. Refute it at one input. -/
def fnStackWordsWrong : ChangeSpec := { name := "fnStackWords", fn := fun _ => fun
  | [d] => { results := [.lit (.bool false)], args := [d] }
  | _ => none }
def FnStackWordsWrongFalsely : Prop := fnStackWordsRow.holds Try.pinned (OpenSpec.ofChange fnStackWordsWrong)

/-- 'laws.FnAvoiding': WHATEVER THE INPUT: true; the input reads as it did. -/
def fnAvoidingSpec : ChangeSpec := { name := "fnAvoiding", fn := fun _ => fun
  | [d] => { results := [.lit (.bool true)], args := [d] }
  | _ => none }
def fnAvoidingRow : OpenClaim := { program := "ytlkddcabjcejdaa", sum := "1035443573560b79ef1966e3d02587a365f8c7f757f68fb66432fb93f08e030d", func := "loop.example/g01286/laws.FnAvoiding", spec := "fnAvoiding", unfollowed := true, recurses := true, apart := false }
def FnAvoidingSaid : Prop := fnAvoidingRow.holds Try.pinned (OpenSpec.ofChange fnAvoidingSpec)

/-- ITS FALSE NEIGHBOUR: 'it returns false'. Refute it at one input. -/
def fnAvoidingWrong : ChangeSpec := { name := "fnAvoiding", fn := fun _ => fun
  | [d] => { results := [.lit (.bool false)], args := [d] }
  | _ => none }
def FnAvoidingWrongFalsely : Prop := fnAvoidingRow.holds Try.pinned (OpenSpec.ofChange fnAvoidingWrong)

/-- 'laws.FnContained': WHATEVER THE INPUT: true; the input reads as it did. -/
def fnContainedSpec : ChangeSpec := { name := "fnContained", fn := fun _ => fun
  | [d] => { results := [.lit (.bool true)], args := [d] }
  | _ => none }
def fnContainedRow : OpenClaim := { program := "ytlkddcabjcejdaa", sum := "1035443573560b79ef1966e3d02587a365f8c7f757f68fb66432fb93f08e030d", func := "loop.example/g01286/laws.FnContained", spec := "fnContained", unfollowed := true, recurses := true, apart := false }
def FnContainedSaid : Prop := fnContainedRow.holds Try.pinned (OpenSpec.ofChange fnContainedSpec)

/-- ITS FALSE NEIGHBOUR: 'it returns false'. Refute it at one input. -/
def fnContainedWrong : ChangeSpec := { name := "fnContained", fn := fun _ => fun
  | [d] => { results := [.lit (.bool false)], args := [d] }
  | _ => none }
def FnContainedWrongFalsely : Prop := fnContainedRow.holds Try.pinned (OpenSpec.ofChange fnContainedWrong)

/- THE SECOND FORM. 'bulk': how many values and letters a reading holds, each counted each time it is reached (what is shared counts as often as it is met; a slice's spare places count too). A statement '..UptoSaid' is the law's where the arguments, and the package variables that the reading takes, are together of bulk at most 1048576: NARROWER than '..Said'. Prove '..Said' where nothing that the law and all that it calls make is longer than what came in: it says more and counts as full. Else prove '..UptoSaid'. A law counts once. -/
mutual
def uptoBulk {H : Type} : DataW H → Nat
  | .lit (.string bytes) => bytes.length + 1
  | .lit _ => 1
  | .nil => 1
  | .ptr d => uptoBulk d + 1
  | .slice elems spare => uptoBulkAll elems + uptoBulkAll spare + 1
  | .agg parts => uptoBulkAll parts + 1
  | .iface _ d => uptoBulk d + 1
  | .map entries => uptoBulkEntries entries + 1
  | .held _ => 1
def uptoBulkAll {H : Type} : List (DataW H) → Nat
  | [] => 0
  | d :: r => uptoBulk d + uptoBulkAll r
def uptoBulkEntries {H : Type} : List (Lit × DataW H) → Nat
  | [] => 0
  | x :: r => uptoBulkEntry x + uptoBulkEntries r
def uptoBulkEntry {H : Type} : Lit × DataW H → Nat
  | (.string bytes, d) => bytes.length + uptoBulk d + 1
  | (_, d) => uptoBulk d + 1
 end
def uptoSmall : (H : Type) → List (DataW H) → Bool := fun _ ds => decide (uptoBulkAll ds ≤ 1048576)
def OpenSpec.upto (s : _root_.Go.ChangeSpec) : _root_.Go.OpenSpec := { _root_.Go.OpenSpec.ofChange s with cond := some uptoSmall }

/-- 'laws.FnExactFewestQueues', WHERE WHAT IT READS IS OF BULK AT MOST 1048576: true; the input reads as it did. -/
def fnExactFewestQueuesUptoRow : OpenClaim := { program := "ytlkddcabjcejdaa", sum := "1035443573560b79ef1966e3d02587a365f8c7f757f68fb66432fb93f08e030d", func := "loop.example/g01286/laws.FnExactFewestQueues", spec := "fnExactFewestQueues", unfollowed := true, recurses := true, apart := false, narrowed := true }
def FnExactFewestQueuesUptoSaid : Prop := fnExactFewestQueuesUptoRow.holds Try.pinned (OpenSpec.upto fnExactFewestQueuesSpec)

/-- 'laws.FnExactRunsOf', WHERE WHAT IT READS IS OF BULK AT MOST 1048576: true; the input reads as it did. -/
def fnExactRunsOfUptoRow : OpenClaim := { program := "ytlkddcabjcejdaa", sum := "1035443573560b79ef1966e3d02587a365f8c7f757f68fb66432fb93f08e030d", func := "loop.example/g01286/laws.FnExactRunsOf", spec := "fnExactRunsOf", apart := false, narrowed := true }
def FnExactRunsOfUptoSaid : Prop := fnExactRunsOfUptoRow.holds Try.pinned (OpenSpec.upto fnExactRunsOfSpec)

/-- 'laws.FnExactBadTriple', WHERE WHAT IT READS IS OF BULK AT MOST 1048576: true; the input reads as it did. -/
def fnExactBadTripleUptoRow : OpenClaim := { program := "ytlkddcabjcejdaa", sum := "1035443573560b79ef1966e3d02587a365f8c7f757f68fb66432fb93f08e030d", func := "loop.example/g01286/laws.FnExactBadTriple", spec := "fnExactBadTriple", unfollowed := true, recurses := true, apart := false, narrowed := true }
def FnExactBadTripleUptoSaid : Prop := fnExactBadTripleUptoRow.holds Try.pinned (OpenSpec.upto fnExactBadTripleSpec)

/-- 'laws.FnExactOutputsOf', WHERE WHAT IT READS IS OF BULK AT MOST 1048576: true; the input reads as it did. -/
def fnExactOutputsOfUptoRow : OpenClaim := { program := "ytlkddcabjcejdaa", sum := "1035443573560b79ef1966e3d02587a365f8c7f757f68fb66432fb93f08e030d", func := "loop.example/g01286/laws.FnExactOutputsOf", spec := "fnExactOutputsOf", unfollowed := true, recurses := true, apart := false, narrowed := true }
def FnExactOutputsOfUptoSaid : Prop := fnExactOutputsOfUptoRow.holds Try.pinned (OpenSpec.upto fnExactOutputsOfSpec)

/-- 'laws.FnExactPatternsIn', WHERE WHAT IT READS IS OF BULK AT MOST 1048576: true; the input reads as it did. -/
def fnExactPatternsInUptoRow : OpenClaim := { program := "ytlkddcabjcejdaa", sum := "1035443573560b79ef1966e3d02587a365f8c7f757f68fb66432fb93f08e030d", func := "loop.example/g01286/laws.FnExactPatternsIn", spec := "fnExactPatternsIn", unfollowed := true, recurses := true, apart := false, narrowed := true }
def FnExactPatternsInUptoSaid : Prop := fnExactPatternsInUptoRow.holds Try.pinned (OpenSpec.upto fnExactPatternsInSpec)

/-- 'laws.FnSweeps', WHERE WHAT IT READS IS OF BULK AT MOST 1048576: true; the input reads as it did. -/
def fnSweepsUptoRow : OpenClaim := { program := "ytlkddcabjcejdaa", sum := "1035443573560b79ef1966e3d02587a365f8c7f757f68fb66432fb93f08e030d", func := "loop.example/g01286/laws.FnSweeps", spec := "fnSweeps", unfollowed := true, recurses := true, apart := false, narrowed := true }
def FnSweepsUptoSaid : Prop := fnSweepsUptoRow.holds Try.pinned (OpenSpec.upto fnSweepsSpec)

/-- 'laws.FnOrders', WHERE WHAT IT READS IS OF BULK AT MOST 1048576: true; the input reads as it did. -/
def fnOrdersUptoRow : OpenClaim := { program := "ytlkddcabjcejdaa", sum := "1035443573560b79ef1966e3d02587a365f8c7f757f68fb66432fb93f08e030d", func := "loop.example/g01286/laws.FnOrders", spec := "fnOrders", inPlace := ["internal/abi.NoEscape"], recurses := true, apart := false, narrowed := true }
def FnOrdersUptoSaid : Prop := fnOrdersUptoRow.holds Try.pinned (OpenSpec.upto fnOrdersSpec)

/-- 'laws.FnOneStack', WHERE WHAT IT READS IS OF BULK AT MOST 1048576: true; the input reads as it did. -/
def fnOneStackUptoRow : OpenClaim := { program := "ytlkddcabjcejdaa", sum := "1035443573560b79ef1966e3d02587a365f8c7f757f68fb66432fb93f08e030d", func := "loop.example/g01286/laws.FnOneStack", spec := "fnOneStack", unfollowed := true, recurses := true, apart := false, narrowed := true }
def FnOneStackUptoSaid : Prop := fnOneStackUptoRow.holds Try.pinned (OpenSpec.upto fnOneStackSpec)

/-- 'laws.FnStackWords', WHERE WHAT IT READS IS OF BULK AT MOST 1048576: true; the input reads as it did. -/
def fnStackWordsUptoRow : OpenClaim := { program := "ytlkddcabjcejdaa", sum := "1035443573560b79ef1966e3d02587a365f8c7f757f68fb66432fb93f08e030d", func := "loop.example/g01286/laws.FnStackWords", spec := "fnStackWords", unfollowed := true, recurses := true, apart := false, narrowed := true }
def FnStackWordsUptoSaid : Prop := fnStackWordsUptoRow.holds Try.pinned (OpenSpec.upto fnStackWordsSpec)

/-- 'laws.FnAvoiding', WHERE WHAT IT READS IS OF BULK AT MOST 1048576: true; the input reads as it did. -/
def fnAvoidingUptoRow : OpenClaim := { program := "ytlkddcabjcejdaa", sum := "1035443573560b79ef1966e3d02587a365f8c7f757f68fb66432fb93f08e030d", func := "loop.example/g01286/laws.FnAvoiding", spec := "fnAvoiding", unfollowed := true, recurses := true, apart := false, narrowed := true }
def FnAvoidingUptoSaid : Prop := fnAvoidingUptoRow.holds Try.pinned (OpenSpec.upto fnAvoidingSpec)

/-- 'laws.FnContained', WHERE WHAT IT READS IS OF BULK AT MOST 1048576: true; the input reads as it did. -/
def fnContainedUptoRow : OpenClaim := { program := "ytlkddcabjcejdaa", sum := "1035443573560b79ef1966e3d02587a365f8c7f757f68fb66432fb93f08e030d", func := "loop.example/g01286/laws.FnContained", spec := "fnContained", unfollowed := true, recurses := true, apart := false, narrowed := true }
def FnContainedUptoSaid : Prop := fnContainedUptoRow.holds Try.pinned (OpenSpec.upto fnContainedSpec)

end Rows
end Go.Proofs.Ytlkddcabjcejdaa
