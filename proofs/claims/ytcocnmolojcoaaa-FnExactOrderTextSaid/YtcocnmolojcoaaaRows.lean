/-
  No cell of these rows narrows 'for every input' (looked for: loops, veiled, ifaces, maps, wideKeys, modest, calm, conditions, laid).
  DERIVED. THE GIVEN ROWS OF THIS SEAT. 12 by the template 'for every input the law returns true; each argument reads behind the call as it read before'; 0 by the template 'total and deterministic' (their statements: YtcocnmolojcoaaaTotals.lean).
  GIVEN WITH THE SEED: the statements are not yours to turn. If you find one false, say at which input.
  Laid BY PROGRAM, IN A SANDBOX (cutbox-rows.mjs): the forced cells as the released guide's own fill.sh prints them over the translation fb5704fdd2bdbda7… (all of the seat's roots in one cut). By AI agents, Wed Nov 11 2026. No macro, syntax, notation, axiom, sorry.
-/
import Derived.Test.YtcocnmolojcoaaaChecked
import GoSem.Claim
import GoSem.ClaimJoined
import GoSem.ClaimMapViews
import Derived.JoinedTies
import Derived.KernelRfl
namespace Go.Proofs.Ytcocnmolojcoaaa
/- THE CELL 'sum', in the pinned program and in every row, IS THE sha256 OF THE DUMP (.gsa) THAT YtcocnmolojcoaaaProg.lean LOADS. Nothing in Lean hashes anything: it is a label: what it is worth is what the hold of that sum in a sandbox is worth. -/
noncomputable def Try.pinned : Pinned := { name := "ytcocnmolojcoaaa", sum := "fb5704fdd2bdbda7d8029bbe00cdb8b99e8dce5312585e9b9f903f496af8ed41", checked := Try.checked }
namespace Rows
def none {H : Type} : Left H := { results := [], args := [] }

/-- 'laws.FnExactShapeOf': WHATEVER THE INPUT: true; the input reads as it did. -/
def fnExactShapeOfSpec : ChangeSpec := { name := "fnExactShapeOf", fn := fun _ => fun
  | [d] => { results := [.lit (.bool true)], args := [d] }
  | _ => none }
def fnExactShapeOfRow : OpenClaim := { program := "ytcocnmolojcoaaa", sum := "fb5704fdd2bdbda7d8029bbe00cdb8b99e8dce5312585e9b9f903f496af8ed41", func := "loop.example/g01286/laws.FnExactShapeOf", spec := "fnExactShapeOf", apart := false }
def FnExactShapeOfSaid : Prop := fnExactShapeOfRow.holds Try.pinned (OpenSpec.ofChange fnExactShapeOfSpec)

/-- ITS FALSE NEIGHBOUR: 'it returns false'. Refute it at one input. -/
def fnExactShapeOfWrong : ChangeSpec := { name := "fnExactShapeOf", fn := fun _ => fun
  | [d] => { results := [.lit (.bool false)], args := [d] }
  | _ => none }
def FnExactShapeOfWrongFalsely : Prop := fnExactShapeOfRow.holds Try.pinned (OpenSpec.ofChange fnExactShapeOfWrong)

/-- 'laws.FnExactOrderAt': WHATEVER THE INPUT: true; the input reads as it did. -/
def fnExactOrderAtSpec : ChangeSpec := { name := "fnExactOrderAt", fn := fun _ => fun
  | [d1, d2] => { results := [.lit (.bool true)], args := [d1, d2] }
  | _ => none }
def fnExactOrderAtRow : OpenClaim := { program := "ytcocnmolojcoaaa", sum := "fb5704fdd2bdbda7d8029bbe00cdb8b99e8dce5312585e9b9f903f496af8ed41", func := "loop.example/g01286/laws.FnExactOrderAt", spec := "fnExactOrderAt", apart := false }
def FnExactOrderAtSaid : Prop := fnExactOrderAtRow.holds Try.pinned (OpenSpec.ofChange fnExactOrderAtSpec)

/-- ITS FALSE NEIGHBOUR: 'it returns false'. Refute it at one input. -/
def fnExactOrderAtWrong : ChangeSpec := { name := "fnExactOrderAt", fn := fun _ => fun
  | [d1, d2] => { results := [.lit (.bool false)], args := [d1, d2] }
  | _ => none }
def FnExactOrderAtWrongFalsely : Prop := fnExactOrderAtRow.holds Try.pinned (OpenSpec.ofChange fnExactOrderAtWrong)

/-- 'laws.FnExactBlocksOf': WHATEVER THE INPUT: true; the input reads as it did. -/
def fnExactBlocksOfSpec : ChangeSpec := { name := "fnExactBlocksOf", fn := fun _ => fun
  | [d] => { results := [.lit (.bool true)], args := [d] }
  | _ => none }
def fnExactBlocksOfRow : OpenClaim := { program := "ytcocnmolojcoaaa", sum := "fb5704fdd2bdbda7d8029bbe00cdb8b99e8dce5312585e9b9f903f496af8ed41", func := "loop.example/g01286/laws.FnExactBlocksOf", spec := "fnExactBlocksOf", apart := false }
def FnExactBlocksOfSaid : Prop := fnExactBlocksOfRow.holds Try.pinned (OpenSpec.ofChange fnExactBlocksOfSpec)

/-- ITS FALSE NEIGHBOUR: 'it returns false'. Refute it at one input. -/
def fnExactBlocksOfWrong : ChangeSpec := { name := "fnExactBlocksOf", fn := fun _ => fun
  | [d] => { results := [.lit (.bool false)], args := [d] }
  | _ => none }
def FnExactBlocksOfWrongFalsely : Prop := fnExactBlocksOfRow.holds Try.pinned (OpenSpec.ofChange fnExactBlocksOfWrong)

/-- 'laws.FnExactInsertLast': WHATEVER THE INPUT: true; the input reads as it did. -/
def fnExactInsertLastSpec : ChangeSpec := { name := "fnExactInsertLast", fn := fun _ => fun
  | [d1, d2] => { results := [.lit (.bool true)], args := [d1, d2] }
  | _ => none }
def fnExactInsertLastRow : OpenClaim := { program := "ytcocnmolojcoaaa", sum := "fb5704fdd2bdbda7d8029bbe00cdb8b99e8dce5312585e9b9f903f496af8ed41", func := "loop.example/g01286/laws.FnExactInsertLast", spec := "fnExactInsertLast", apart := false }
def FnExactInsertLastSaid : Prop := fnExactInsertLastRow.holds Try.pinned (OpenSpec.ofChange fnExactInsertLastSpec)

/-- ITS FALSE NEIGHBOUR: 'it returns false'. Refute it at one input. -/
def fnExactInsertLastWrong : ChangeSpec := { name := "fnExactInsertLast", fn := fun _ => fun
  | [d1, d2] => { results := [.lit (.bool false)], args := [d1, d2] }
  | _ => none }
def FnExactInsertLastWrongFalsely : Prop := fnExactInsertLastRow.holds Try.pinned (OpenSpec.ofChange fnExactInsertLastWrong)

/-- 'laws.FnExactFewestQueues': WHATEVER THE INPUT: true; the input reads as it did. -/
def fnExactFewestQueuesSpec : ChangeSpec := { name := "fnExactFewestQueues", fn := fun _ => fun
  | [d] => { results := [.lit (.bool true)], args := [d] }
  | _ => none }
def fnExactFewestQueuesRow : OpenClaim := { program := "ytcocnmolojcoaaa", sum := "fb5704fdd2bdbda7d8029bbe00cdb8b99e8dce5312585e9b9f903f496af8ed41", func := "loop.example/g01286/laws.FnExactFewestQueues", spec := "fnExactFewestQueues", unfollowed := true, recurses := true, apart := false }
def FnExactFewestQueuesSaid : Prop := fnExactFewestQueuesRow.holds Try.pinned (OpenSpec.ofChange fnExactFewestQueuesSpec)

/-- ITS FALSE NEIGHBOUR: 'it returns false'. Refute it at one input. -/
def fnExactFewestQueuesWrong : ChangeSpec := { name := "fnExactFewestQueues", fn := fun _ => fun
  | [d] => { results := [.lit (.bool false)], args := [d] }
  | _ => none }
def FnExactFewestQueuesWrongFalsely : Prop := fnExactFewestQueuesRow.holds Try.pinned (OpenSpec.ofChange fnExactFewestQueuesWrong)

/-- 'laws.FnExactRankOfWord': WHATEVER THE INPUT: true; the input reads as it did. -/
def fnExactRankOfWordSpec : ChangeSpec := { name := "fnExactRankOfWord", fn := fun _ => fun
  | [d] => { results := [.lit (.bool true)], args := [d] }
  | _ => none }
def fnExactRankOfWordRow : OpenClaim := { program := "ytcocnmolojcoaaa", sum := "fb5704fdd2bdbda7d8029bbe00cdb8b99e8dce5312585e9b9f903f496af8ed41", func := "loop.example/g01286/laws.FnExactRankOfWord", spec := "fnExactRankOfWord", recurses := true, apart := false }
def FnExactRankOfWordSaid : Prop := fnExactRankOfWordRow.holds Try.pinned (OpenSpec.ofChange fnExactRankOfWordSpec)

/-- ITS FALSE NEIGHBOUR: 'it returns false'. Refute it at one input. -/
def fnExactRankOfWordWrong : ChangeSpec := { name := "fnExactRankOfWord", fn := fun _ => fun
  | [d] => { results := [.lit (.bool false)], args := [d] }
  | _ => none }
def FnExactRankOfWordWrongFalsely : Prop := fnExactRankOfWordRow.holds Try.pinned (OpenSpec.ofChange fnExactRankOfWordWrong)

/-- 'laws.FnExactCountQueueWays': WHATEVER THE INPUT: true; the input reads as it did. -/
def fnExactCountQueueWaysSpec : ChangeSpec := { name := "fnExactCountQueueWays", fn := fun _ => fun
  | [d1, d2] => { results := [.lit (.bool true)], args := [d1, d2] }
  | _ => none }
def fnExactCountQueueWaysRow : OpenClaim := { program := "ytcocnmolojcoaaa", sum := "fb5704fdd2bdbda7d8029bbe00cdb8b99e8dce5312585e9b9f903f496af8ed41", func := "loop.example/g01286/laws.FnExactCountQueueWays", spec := "fnExactCountQueueWays", recurses := true, apart := false }
def FnExactCountQueueWaysSaid : Prop := fnExactCountQueueWaysRow.holds Try.pinned (OpenSpec.ofChange fnExactCountQueueWaysSpec)

/-- ITS FALSE NEIGHBOUR: 'it returns false'. Refute it at one input. -/
def fnExactCountQueueWaysWrong : ChangeSpec := { name := "fnExactCountQueueWays", fn := fun _ => fun
  | [d1, d2] => { results := [.lit (.bool false)], args := [d1, d2] }
  | _ => none }
def FnExactCountQueueWaysWrongFalsely : Prop := fnExactCountQueueWaysRow.holds Try.pinned (OpenSpec.ofChange fnExactCountQueueWaysWrong)

/-- 'laws.FnExactBackOrder': WHATEVER THE INPUT: true; the input reads as it did. -/
def fnExactBackOrderSpec : ChangeSpec := { name := "fnExactBackOrder", fn := fun _ => fun
  | [d] => { results := [.lit (.bool true)], args := [d] }
  | _ => none }
def fnExactBackOrderRow : OpenClaim := { program := "ytcocnmolojcoaaa", sum := "fb5704fdd2bdbda7d8029bbe00cdb8b99e8dce5312585e9b9f903f496af8ed41", func := "loop.example/g01286/laws.FnExactBackOrder", spec := "fnExactBackOrder", apart := false }
def FnExactBackOrderSaid : Prop := fnExactBackOrderRow.holds Try.pinned (OpenSpec.ofChange fnExactBackOrderSpec)

/-- ITS FALSE NEIGHBOUR: 'it returns false'. Refute it at one input. -/
def fnExactBackOrderWrong : ChangeSpec := { name := "fnExactBackOrder", fn := fun _ => fun
  | [d] => { results := [.lit (.bool false)], args := [d] }
  | _ => none }
def FnExactBackOrderWrongFalsely : Prop := fnExactBackOrderRow.holds Try.pinned (OpenSpec.ofChange fnExactBackOrderWrong)

/-- 'laws.FnExactSortingWord': WHATEVER THE INPUT: true; the input reads as it did. -/
def fnExactSortingWordSpec : ChangeSpec := { name := "fnExactSortingWord", fn := fun _ => fun
  | [d] => { results := [.lit (.bool true)], args := [d] }
  | _ => none }
def fnExactSortingWordRow : OpenClaim := { program := "ytcocnmolojcoaaa", sum := "fb5704fdd2bdbda7d8029bbe00cdb8b99e8dce5312585e9b9f903f496af8ed41", func := "loop.example/g01286/laws.FnExactSortingWord", spec := "fnExactSortingWord", apart := false }
def FnExactSortingWordSaid : Prop := fnExactSortingWordRow.holds Try.pinned (OpenSpec.ofChange fnExactSortingWordSpec)

/-- ITS FALSE NEIGHBOUR: 'it returns false'. Refute it at one input. -/
def fnExactSortingWordWrong : ChangeSpec := { name := "fnExactSortingWord", fn := fun _ => fun
  | [d] => { results := [.lit (.bool false)], args := [d] }
  | _ => none }
def FnExactSortingWordWrongFalsely : Prop := fnExactSortingWordRow.holds Try.pinned (OpenSpec.ofChange fnExactSortingWordWrong)

/-- 'laws.FnExactOrderText': WHATEVER THE INPUT: true; the input reads as it did. -/
def fnExactOrderTextSpec : ChangeSpec := { name := "fnExactOrderText", fn := fun _ => fun
  | [d] => { results := [.lit (.bool true)], args := [d] }
  | _ => none }
def fnExactOrderTextRow : OpenClaim := { program := "ytcocnmolojcoaaa", sum := "fb5704fdd2bdbda7d8029bbe00cdb8b99e8dce5312585e9b9f903f496af8ed41", func := "loop.example/g01286/laws.FnExactOrderText", spec := "fnExactOrderText", inPlace := ["internal/abi.NoEscape"], recurses := true, apart := false }
def FnExactOrderTextSaid : Prop := fnExactOrderTextRow.holds Try.pinned (OpenSpec.ofChange fnExactOrderTextSpec)

/-- ITS FALSE NEIGHBOUR: 'it returns false'. Refute it at one input. -/
def fnExactOrderTextWrong : ChangeSpec := { name := "fnExactOrderText", fn := fun _ => fun
  | [d] => { results := [.lit (.bool false)], args := [d] }
  | _ => none }
def FnExactOrderTextWrongFalsely : Prop := fnExactOrderTextRow.holds Try.pinned (OpenSpec.ofChange fnExactOrderTextWrong)

/-- 'laws.FnExactOrderOfWord': WHATEVER THE INPUT: true; the input reads as it did. -/
def fnExactOrderOfWordSpec : ChangeSpec := { name := "fnExactOrderOfWord", fn := fun _ => fun
  | [d] => { results := [.lit (.bool true)], args := [d] }
  | _ => none }
def fnExactOrderOfWordRow : OpenClaim := { program := "ytcocnmolojcoaaa", sum := "fb5704fdd2bdbda7d8029bbe00cdb8b99e8dce5312585e9b9f903f496af8ed41", func := "loop.example/g01286/laws.FnExactOrderOfWord", spec := "fnExactOrderOfWord", apart := false }
def FnExactOrderOfWordSaid : Prop := fnExactOrderOfWordRow.holds Try.pinned (OpenSpec.ofChange fnExactOrderOfWordSpec)

/-- ITS FALSE NEIGHBOUR: 'it returns false'. Refute it at one input. -/
def fnExactOrderOfWordWrong : ChangeSpec := { name := "fnExactOrderOfWord", fn := fun _ => fun
  | [d] => { results := [.lit (.bool false)], args := [d] }
  | _ => none }
def FnExactOrderOfWordWrongFalsely : Prop := fnExactOrderOfWordRow.holds Try.pinned (OpenSpec.ofChange fnExactOrderOfWordWrong)

/-- 'laws.FnExactRankOfOrder': WHATEVER THE INPUT: true; the input reads as it did. -/
def fnExactRankOfOrderSpec : ChangeSpec := { name := "fnExactRankOfOrder", fn := fun _ => fun
  | [d] => { results := [.lit (.bool true)], args := [d] }
  | _ => none }
def fnExactRankOfOrderRow : OpenClaim := { program := "ytcocnmolojcoaaa", sum := "fb5704fdd2bdbda7d8029bbe00cdb8b99e8dce5312585e9b9f903f496af8ed41", func := "loop.example/g01286/laws.FnExactRankOfOrder", spec := "fnExactRankOfOrder", apart := false }
def FnExactRankOfOrderSaid : Prop := fnExactRankOfOrderRow.holds Try.pinned (OpenSpec.ofChange fnExactRankOfOrderSpec)

/-- ITS FALSE NEIGHBOUR: 'it returns false'. Refute it at one input. -/
def fnExactRankOfOrderWrong : ChangeSpec := { name := "fnExactRankOfOrder", fn := fun _ => fun
  | [d] => { results := [.lit (.bool false)], args := [d] }
  | _ => none }
def FnExactRankOfOrderWrongFalsely : Prop := fnExactRankOfOrderRow.holds Try.pinned (OpenSpec.ofChange fnExactRankOfOrderWrong)

/- THE SECOND FORM. 'bulk': how many values and letters a reading holds, each counted each time it is reached (what is shared counts as often as it is met; a slice's spare places count too). A statement '..UptoSaid' is the law's where the arguments, and the package variables that the reading takes, are together of bulk at most 1048576: NARROWER than '..Said'. Prove '..Said' where nothing that the law and all that it calls make is longer than what came in: it says more and counts as full. Else prove '..UptoSaid'. A law counts once. -/
mutual
def uptoBulk {H : Type} : DataW H → Nat
  | .lit (.string bytes) => bytes.length + 1
  | .lit _ => 1
  | .nil => 1
  | .ptr d => uptoBulk d + 1
  | .slice elems spare => uptoBulkAll elems + uptoBulkAll spare + 1
  | .agg parts => uptoBulkAll parts + 1
  | .iface _ d => uptoBulk d + 1
  | .map entries => uptoBulkEntries entries + 1
  | .held _ => 1
def uptoBulkAll {H : Type} : List (DataW H) → Nat
  | [] => 0
  | d :: r => uptoBulk d + uptoBulkAll r
def uptoBulkEntries {H : Type} : List (Lit × DataW H) → Nat
  | [] => 0
  | x :: r => uptoBulkEntry x + uptoBulkEntries r
def uptoBulkEntry {H : Type} : Lit × DataW H → Nat
  | (.string bytes, d) => bytes.length + uptoBulk d + 1
  | (_, d) => uptoBulk d + 1
 end
def uptoSmall : (H : Type) → List (DataW H) → Bool := fun _ ds => decide (uptoBulkAll ds ≤ 1048576)
def OpenSpec.upto (s : _root_.Go.ChangeSpec) : _root_.Go.OpenSpec := { _root_.Go.OpenSpec.ofChange s with cond := some uptoSmall }

/-- 'laws.FnExactShapeOf', WHERE WHAT IT READS IS OF BULK AT MOST 1048576: true; the input reads as it did. -/
def fnExactShapeOfUptoRow : OpenClaim := { program := "ytcocnmolojcoaaa", sum := "fb5704fdd2bdbda7d8029bbe00cdb8b99e8dce5312585e9b9f903f496af8ed41", func := "loop.example/g01286/laws.FnExactShapeOf", spec := "fnExactShapeOf", apart := false, narrowed := true }
def FnExactShapeOfUptoSaid : Prop := fnExactShapeOfUptoRow.holds Try.pinned (OpenSpec.upto fnExactShapeOfSpec)

/-- 'laws.FnExactOrderAt', WHERE WHAT IT READS IS OF BULK AT MOST 1048576: true; the input reads as it did. -/
def fnExactOrderAtUptoRow : OpenClaim := { program := "ytcocnmolojcoaaa", sum := "fb5704fdd2bdbda7d8029bbe00cdb8b99e8dce5312585e9b9f903f496af8ed41", func := "loop.example/g01286/laws.FnExactOrderAt", spec := "fnExactOrderAt", apart := false, narrowed := true }
def FnExactOrderAtUptoSaid : Prop := fnExactOrderAtUptoRow.holds Try.pinned (OpenSpec.upto fnExactOrderAtSpec)

/-- 'laws.FnExactBlocksOf', WHERE WHAT IT READS IS OF BULK AT MOST 1048576: true; the input reads as it did. -/
def fnExactBlocksOfUptoRow : OpenClaim := { program := "ytcocnmolojcoaaa", sum := "fb5704fdd2bdbda7d8029bbe00cdb8b99e8dce5312585e9b9f903f496af8ed41", func := "loop.example/g01286/laws.FnExactBlocksOf", spec := "fnExactBlocksOf", apart := false, narrowed := true }
def FnExactBlocksOfUptoSaid : Prop := fnExactBlocksOfUptoRow.holds Try.pinned (OpenSpec.upto fnExactBlocksOfSpec)

/-- 'laws.FnExactInsertLast', WHERE WHAT IT READS IS OF BULK AT MOST 1048576: true; the input reads as it did. -/
def fnExactInsertLastUptoRow : OpenClaim := { program := "ytcocnmolojcoaaa", sum := "fb5704fdd2bdbda7d8029bbe00cdb8b99e8dce5312585e9b9f903f496af8ed41", func := "loop.example/g01286/laws.FnExactInsertLast", spec := "fnExactInsertLast", apart := false, narrowed := true }
def FnExactInsertLastUptoSaid : Prop := fnExactInsertLastUptoRow.holds Try.pinned (OpenSpec.upto fnExactInsertLastSpec)

/-- 'laws.FnExactFewestQueues', WHERE WHAT IT READS IS OF BULK AT MOST 1048576: true; the input reads as it did. -/
def fnExactFewestQueuesUptoRow : OpenClaim := { program := "ytcocnmolojcoaaa", sum := "fb5704fdd2bdbda7d8029bbe00cdb8b99e8dce5312585e9b9f903f496af8ed41", func := "loop.example/g01286/laws.FnExactFewestQueues", spec := "fnExactFewestQueues", unfollowed := true, recurses := true, apart := false, narrowed := true }
def FnExactFewestQueuesUptoSaid : Prop := fnExactFewestQueuesUptoRow.holds Try.pinned (OpenSpec.upto fnExactFewestQueuesSpec)

/-- 'laws.FnExactRankOfWord', WHERE WHAT IT READS IS OF BULK AT MOST 1048576: true; the input reads as it did. -/
def fnExactRankOfWordUptoRow : OpenClaim := { program := "ytcocnmolojcoaaa", sum := "fb5704fdd2bdbda7d8029bbe00cdb8b99e8dce5312585e9b9f903f496af8ed41", func := "loop.example/g01286/laws.FnExactRankOfWord", spec := "fnExactRankOfWord", recurses := true, apart := false, narrowed := true }
def FnExactRankOfWordUptoSaid : Prop := fnExactRankOfWordUptoRow.holds Try.pinned (OpenSpec.upto fnExactRankOfWordSpec)

/-- 'laws.FnExactCountQueueWays', WHERE WHAT IT READS IS OF BULK AT MOST 1048576: true; the input reads as it did. -/
def fnExactCountQueueWaysUptoRow : OpenClaim := { program := "ytcocnmolojcoaaa", sum := "fb5704fdd2bdbda7d8029bbe00cdb8b99e8dce5312585e9b9f903f496af8ed41", func := "loop.example/g01286/laws.FnExactCountQueueWays", spec := "fnExactCountQueueWays", recurses := true, apart := false, narrowed := true }
def FnExactCountQueueWaysUptoSaid : Prop := fnExactCountQueueWaysUptoRow.holds Try.pinned (OpenSpec.upto fnExactCountQueueWaysSpec)

/-- 'laws.FnExactBackOrder', WHERE WHAT IT READS IS OF BULK AT MOST 1048576: true; the input reads as it did. -/
def fnExactBackOrderUptoRow : OpenClaim := { program := "ytcocnmolojcoaaa", sum := "fb5704fdd2bdbda7d8029bbe00cdb8b99e8dce5312585e9b9f903f496af8ed41", func := "loop.example/g01286/laws.FnExactBackOrder", spec := "fnExactBackOrder", apart := false, narrowed := true }
def FnExactBackOrderUptoSaid : Prop := fnExactBackOrderUptoRow.holds Try.pinned (OpenSpec.upto fnExactBackOrderSpec)

/-- 'laws.FnExactSortingWord', WHERE WHAT IT READS IS OF BULK AT MOST 1048576: true; the input reads as it did. -/
def fnExactSortingWordUptoRow : OpenClaim := { program := "ytcocnmolojcoaaa", sum := "fb5704fdd2bdbda7d8029bbe00cdb8b99e8dce5312585e9b9f903f496af8ed41", func := "loop.example/g01286/laws.FnExactSortingWord", spec := "fnExactSortingWord", apart := false, narrowed := true }
def FnExactSortingWordUptoSaid : Prop := fnExactSortingWordUptoRow.holds Try.pinned (OpenSpec.upto fnExactSortingWordSpec)

/-- 'laws.FnExactOrderText', WHERE WHAT IT READS IS OF BULK AT MOST 1048576: true; the input reads as it did. -/
def fnExactOrderTextUptoRow : OpenClaim := { program := "ytcocnmolojcoaaa", sum := "fb5704fdd2bdbda7d8029bbe00cdb8b99e8dce5312585e9b9f903f496af8ed41", func := "loop.example/g01286/laws.FnExactOrderText", spec := "fnExactOrderText", inPlace := ["internal/abi.NoEscape"], recurses := true, apart := false, narrowed := true }
def FnExactOrderTextUptoSaid : Prop := fnExactOrderTextUptoRow.holds Try.pinned (OpenSpec.upto fnExactOrderTextSpec)

/-- 'laws.FnExactOrderOfWord', WHERE WHAT IT READS IS OF BULK AT MOST 1048576: true; the input reads as it did. -/
def fnExactOrderOfWordUptoRow : OpenClaim := { program := "ytcocnmolojcoaaa", sum := "fb5704fdd2bdbda7d8029bbe00cdb8b99e8dce5312585e9b9f903f496af8ed41", func := "loop.example/g01286/laws.FnExactOrderOfWord", spec := "fnExactOrderOfWord", apart := false, narrowed := true }
def FnExactOrderOfWordUptoSaid : Prop := fnExactOrderOfWordUptoRow.holds Try.pinned (OpenSpec.upto fnExactOrderOfWordSpec)

/-- 'laws.FnExactRankOfOrder', WHERE WHAT IT READS IS OF BULK AT MOST 1048576: true; the input reads as it did. -/
def fnExactRankOfOrderUptoRow : OpenClaim := { program := "ytcocnmolojcoaaa", sum := "fb5704fdd2bdbda7d8029bbe00cdb8b99e8dce5312585e9b9f903f496af8ed41", func := "loop.example/g01286/laws.FnExactRankOfOrder", spec := "fnExactRankOfOrder", apart := false, narrowed := true }
def FnExactRankOfOrderUptoSaid : Prop := fnExactRankOfOrderUptoRow.holds Try.pinned (OpenSpec.upto fnExactRankOfOrderSpec)

end Rows
end Go.Proofs.Ytcocnmolojcoaaa
