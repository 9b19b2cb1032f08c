/-
  No cell of these rows narrows 'for every input' (looked for: loops, veiled, ifaces, maps, wideKeys, modest, calm, conditions, laid).
  DERIVED. THE GIVEN ROWS OF THIS SEAT. 12 by the template 'for every input the law returns true; each argument reads behind the call as it read before'; 0 by the template 'total and deterministic' (their statements: YtmkgigagfhhgcaaTotals.lean).
  GIVEN WITH THE SEED: the statements are not yours to turn. If you find one false, say at which input.
  Laid BY PROGRAM, IN A SANDBOX (cutbox-rows.mjs): the forced cells as the released guide's own fill.sh prints them over the translation 2f1d405cc97ef7d0… (all of the seat's roots in one cut). By AI agents, Wed Nov 11 2026. No macro, syntax, notation, axiom, sorry.
-/
import Derived.Test.YtmkgigagfhhgcaaChecked
import GoSem.Claim
import GoSem.ClaimJoined
import GoSem.ClaimMapViews
import Derived.JoinedTies
import Derived.KernelRfl
namespace Go.Proofs.Ytmkgigagfhhgcaa
/- THE CELL 'sum', in the pinned program and in every row, IS THE sha256 OF THE DUMP (.gsa) THAT YtmkgigagfhhgcaaProg.lean LOADS. Nothing in Lean hashes anything: it is a label: what it is worth is what the hold of that sum in a sandbox is worth. -/
noncomputable def Try.pinned : Pinned := { name := "ytmkgigagfhhgcaa", sum := "2f1d405cc97ef7d07e7cf75e09b0c0470a2618fde47b375c64386ea6416c1ed6", checked := Try.checked }
namespace Rows
def none {H : Type} : Left H := { results := [], args := [] }

/-- 'laws.FnExactSplitString': WHATEVER THE INPUT: true; the input reads as it did. -/
def fnExactSplitStringSpec : ChangeSpec := { name := "fnExactSplitString", fn := fun _ => fun
  | [d1, d2] => { results := [.lit (.bool true)], args := [d1, d2] }
  | _ => none }
def fnExactSplitStringRow : OpenClaim := { program := "ytmkgigagfhhgcaa", sum := "2f1d405cc97ef7d07e7cf75e09b0c0470a2618fde47b375c64386ea6416c1ed6", func := "loop.example/g01286/laws.FnExactSplitString", spec := "fnExactSplitString", apart := false }
def FnExactSplitStringSaid : Prop := fnExactSplitStringRow.holds Try.pinned (OpenSpec.ofChange fnExactSplitStringSpec)

/-- ITS FALSE NEIGHBOUR: 'it returns false'. Refute it at one input. -/
def fnExactSplitStringWrong : ChangeSpec := { name := "fnExactSplitString", fn := fun _ => fun
  | [d1, d2] => { results := [.lit (.bool false)], args := [d1, d2] }
  | _ => none }
def FnExactSplitStringWrongFalsely : Prop := fnExactSplitStringRow.holds Try.pinned (OpenSpec.ofChange fnExactSplitStringWrong)

/-- 'laws.FnExactWordAt': WHATEVER THE INPUT: true; the input reads as it did. -/
def fnExactWordAtSpec : ChangeSpec := { name := "fnExactWordAt", fn := fun _ => fun
  | [d1, d2] => { results := [.lit (.bool true)], args := [d1, d2] }
  | _ => none }
def fnExactWordAtRow : OpenClaim := { program := "ytmkgigagfhhgcaa", sum := "2f1d405cc97ef7d07e7cf75e09b0c0470a2618fde47b375c64386ea6416c1ed6", func := "loop.example/g01286/laws.FnExactWordAt", spec := "fnExactWordAt", recurses := true, apart := false }
def FnExactWordAtSaid : Prop := fnExactWordAtRow.holds Try.pinned (OpenSpec.ofChange fnExactWordAtSpec)

/-- ITS FALSE NEIGHBOUR: 'it returns false'. Refute it at one input. -/
def fnExactWordAtWrong : ChangeSpec := { name := "fnExactWordAt", fn := fun _ => fun
  | [d1, d2] => { results := [.lit (.bool false)], args := [d1, d2] }
  | _ => none }
def FnExactWordAtWrongFalsely : Prop := fnExactWordAtRow.holds Try.pinned (OpenSpec.ofChange fnExactWordAtWrong)

/-- 'laws.FnExactMirrorWord': WHATEVER THE INPUT: true; the input reads as it did. -/
def fnExactMirrorWordSpec : ChangeSpec := { name := "fnExactMirrorWord", fn := fun _ => fun
  | [d] => { results := [.lit (.bool true)], args := [d] }
  | _ => none }
def fnExactMirrorWordRow : OpenClaim := { program := "ytmkgigagfhhgcaa", sum := "2f1d405cc97ef7d07e7cf75e09b0c0470a2618fde47b375c64386ea6416c1ed6", func := "loop.example/g01286/laws.FnExactMirrorWord", spec := "fnExactMirrorWord", apart := false }
def FnExactMirrorWordSaid : Prop := fnExactMirrorWordRow.holds Try.pinned (OpenSpec.ofChange fnExactMirrorWordSpec)

/-- ITS FALSE NEIGHBOUR: 'it returns false'. Refute it at one input. -/
def fnExactMirrorWordWrong : ChangeSpec := { name := "fnExactMirrorWord", fn := fun _ => fun
  | [d] => { results := [.lit (.bool false)], args := [d] }
  | _ => none }
def FnExactMirrorWordWrongFalsely : Prop := fnExactMirrorWordRow.holds Try.pinned (OpenSpec.ofChange fnExactMirrorWordWrong)

/-- 'laws.FnExactWordsOf': WHATEVER THE INPUT: true; the input reads as it did. -/
def fnExactWordsOfSpec : ChangeSpec := { name := "fnExactWordsOf", fn := fun _ => fun
  | [d] => { results := [.lit (.bool true)], args := [d] }
  | _ => none }
def fnExactWordsOfRow : OpenClaim := { program := "ytmkgigagfhhgcaa", sum := "2f1d405cc97ef7d07e7cf75e09b0c0470a2618fde47b375c64386ea6416c1ed6", func := "loop.example/g01286/laws.FnExactWordsOf", spec := "fnExactWordsOf", recurses := true, apart := false }
def FnExactWordsOfSaid : Prop := fnExactWordsOfRow.holds Try.pinned (OpenSpec.ofChange fnExactWordsOfSpec)

/-- ITS FALSE NEIGHBOUR: 'it returns false'. Refute it at one input. -/
def fnExactWordsOfWrong : ChangeSpec := { name := "fnExactWordsOf", fn := fun _ => fun
  | [d] => { results := [.lit (.bool false)], args := [d] }
  | _ => none }
def FnExactWordsOfWrongFalsely : Prop := fnExactWordsOfRow.holds Try.pinned (OpenSpec.ofChange fnExactWordsOfWrong)

/-- 'laws.FnExactCountInversions': WHATEVER THE INPUT: true; the input reads as it did. -/
def fnExactCountInversionsSpec : ChangeSpec := { name := "fnExactCountInversions", fn := fun _ => fun
  | [d] => { results := [.lit (.bool true)], args := [d] }
  | _ => none }
def fnExactCountInversionsRow : OpenClaim := { program := "ytmkgigagfhhgcaa", sum := "2f1d405cc97ef7d07e7cf75e09b0c0470a2618fde47b375c64386ea6416c1ed6", func := "loop.example/g01286/laws.FnExactCountInversions", spec := "fnExactCountInversions", apart := false }
def FnExactCountInversionsSaid : Prop := fnExactCountInversionsRow.holds Try.pinned (OpenSpec.ofChange fnExactCountInversionsSpec)

/-- ITS FALSE NEIGHBOUR: 'it returns false'. Refute it at one input. -/
def fnExactCountInversionsWrong : ChangeSpec := { name := "fnExactCountInversions", fn := fun _ => fun
  | [d] => { results := [.lit (.bool false)], args := [d] }
  | _ => none }
def FnExactCountInversionsWrongFalsely : Prop := fnExactCountInversionsRow.holds Try.pinned (OpenSpec.ofChange fnExactCountInversionsWrong)

/-- 'laws.FnExactParseOrder': WHATEVER THE INPUT: true; the input reads as it did. -/
def fnExactParseOrderSpec : ChangeSpec := { name := "fnExactParseOrder", fn := fun _ => fun
  | [d] => { results := [.lit (.bool true)], args := [d] }
  | _ => none }
def fnExactParseOrderRow : OpenClaim := { program := "ytmkgigagfhhgcaa", sum := "2f1d405cc97ef7d07e7cf75e09b0c0470a2618fde47b375c64386ea6416c1ed6", func := "loop.example/g01286/laws.FnExactParseOrder", spec := "fnExactParseOrder", apart := false }
def FnExactParseOrderSaid : Prop := fnExactParseOrderRow.holds Try.pinned (OpenSpec.ofChange fnExactParseOrderSpec)

/-- ITS FALSE NEIGHBOUR: 'it returns false'. Refute it at one input. -/
def fnExactParseOrderWrong : ChangeSpec := { name := "fnExactParseOrder", fn := fun _ => fun
  | [d] => { results := [.lit (.bool false)], args := [d] }
  | _ => none }
def FnExactParseOrderWrongFalsely : Prop := fnExactParseOrderRow.holds Try.pinned (OpenSpec.ofChange fnExactParseOrderWrong)

/-- 'laws.FnExactOtherOrder': WHATEVER THE INPUT: true; the input reads as it did. -/
def fnExactOtherOrderSpec : ChangeSpec := { name := "fnExactOtherOrder", fn := fun _ => fun
  | [d] => { results := [.lit (.bool true)], args := [d] }
  | _ => none }
def fnExactOtherOrderRow : OpenClaim := { program := "ytmkgigagfhhgcaa", sum := "2f1d405cc97ef7d07e7cf75e09b0c0470a2618fde47b375c64386ea6416c1ed6", func := "loop.example/g01286/laws.FnExactOtherOrder", spec := "fnExactOtherOrder", apart := false }
def FnExactOtherOrderSaid : Prop := fnExactOtherOrderRow.holds Try.pinned (OpenSpec.ofChange fnExactOtherOrderSpec)

/-- ITS FALSE NEIGHBOUR: 'it returns false'. Refute it at one input. -/
def fnExactOtherOrderWrong : ChangeSpec := { name := "fnExactOtherOrder", fn := fun _ => fun
  | [d] => { results := [.lit (.bool false)], args := [d] }
  | _ => none }
def FnExactOtherOrderWrongFalsely : Prop := fnExactOtherOrderRow.holds Try.pinned (OpenSpec.ofChange fnExactOtherOrderWrong)

/-- 'laws.FnExactComposeOrders': WHATEVER THE INPUT: true; the input reads as it did. -/
def fnExactComposeOrdersSpec : ChangeSpec := { name := "fnExactComposeOrders", fn := fun _ => fun
  | [d1, d2] => { results := [.lit (.bool true)], args := [d1, d2] }
  | _ => none }
def fnExactComposeOrdersRow : OpenClaim := { program := "ytmkgigagfhhgcaa", sum := "2f1d405cc97ef7d07e7cf75e09b0c0470a2618fde47b375c64386ea6416c1ed6", func := "loop.example/g01286/laws.FnExactComposeOrders", spec := "fnExactComposeOrders", apart := false }
def FnExactComposeOrdersSaid : Prop := fnExactComposeOrdersRow.holds Try.pinned (OpenSpec.ofChange fnExactComposeOrdersSpec)

/-- ITS FALSE NEIGHBOUR: 'it returns false'. Refute it at one input. -/
def fnExactComposeOrdersWrong : ChangeSpec := { name := "fnExactComposeOrders", fn := fun _ => fun
  | [d1, d2] => { results := [.lit (.bool false)], args := [d1, d2] }
  | _ => none }
def FnExactComposeOrdersWrongFalsely : Prop := fnExactComposeOrdersRow.holds Try.pinned (OpenSpec.ofChange fnExactComposeOrdersWrong)

/-- 'laws.FnExactInverseOrder': WHATEVER THE INPUT: true; the input reads as it did. -/
def fnExactInverseOrderSpec : ChangeSpec := { name := "fnExactInverseOrder", fn := fun _ => fun
  | [d] => { results := [.lit (.bool true)], args := [d] }
  | _ => none }
def fnExactInverseOrderRow : OpenClaim := { program := "ytmkgigagfhhgcaa", sum := "2f1d405cc97ef7d07e7cf75e09b0c0470a2618fde47b375c64386ea6416c1ed6", func := "loop.example/g01286/laws.FnExactInverseOrder", spec := "fnExactInverseOrder", apart := false }
def FnExactInverseOrderSaid : Prop := fnExactInverseOrderRow.holds Try.pinned (OpenSpec.ofChange fnExactInverseOrderSpec)

/-- ITS FALSE NEIGHBOUR: 'it returns false'. Refute it at one input. -/
def fnExactInverseOrderWrong : ChangeSpec := { name := "fnExactInverseOrder", fn := fun _ => fun
  | [d] => { results := [.lit (.bool false)], args := [d] }
  | _ => none }
def FnExactInverseOrderWrongFalsely : Prop := fnExactInverseOrderRow.holds Try.pinned (OpenSpec.ofChange fnExactInverseOrderWrong)

/-- 'laws.FnExactRecordPlaces': WHATEVER THE INPUT: true; the input reads as it did. -/
def fnExactRecordPlacesSpec : ChangeSpec := { name := "fnExactRecordPlaces", fn := fun _ => fun
  | [d] => { results := [.lit (.bool true)], args := [d] }
  | _ => none }
def fnExactRecordPlacesRow : OpenClaim := { program := "ytmkgigagfhhgcaa", sum := "2f1d405cc97ef7d07e7cf75e09b0c0470a2618fde47b375c64386ea6416c1ed6", func := "loop.example/g01286/laws.FnExactRecordPlaces", spec := "fnExactRecordPlaces", apart := false }
def FnExactRecordPlacesSaid : Prop := fnExactRecordPlacesRow.holds Try.pinned (OpenSpec.ofChange fnExactRecordPlacesSpec)

/-- ITS FALSE NEIGHBOUR: 'it returns false'. Refute it at one input. -/
def fnExactRecordPlacesWrong : ChangeSpec := { name := "fnExactRecordPlaces", fn := fun _ => fun
  | [d] => { results := [.lit (.bool false)], args := [d] }
  | _ => none }
def FnExactRecordPlacesWrongFalsely : Prop := fnExactRecordPlacesRow.holds Try.pinned (OpenSpec.ofChange fnExactRecordPlacesWrong)

/-- 'laws.FnExactSweepWord': WHATEVER THE INPUT: true; the input reads as it did. -/
def fnExactSweepWordSpec : ChangeSpec := { name := "fnExactSweepWord", fn := fun _ => fun
  | [d] => { results := [.lit (.bool true)], args := [d] }
  | _ => none }
def fnExactSweepWordRow : OpenClaim := { program := "ytmkgigagfhhgcaa", sum := "2f1d405cc97ef7d07e7cf75e09b0c0470a2618fde47b375c64386ea6416c1ed6", func := "loop.example/g01286/laws.FnExactSweepWord", spec := "fnExactSweepWord", unfollowed := true, recurses := true, apart := false }
def FnExactSweepWordSaid : Prop := fnExactSweepWordRow.holds Try.pinned (OpenSpec.ofChange fnExactSweepWordSpec)

/-- ITS FALSE NEIGHBOUR: 'it returns false'. Refute it at one input. -/
def fnExactSweepWordWrong : ChangeSpec := { name := "fnExactSweepWord", fn := fun _ => fun
  | [d] => { results := [.lit (.bool false)], args := [d] }
  | _ => none }
def FnExactSweepWordWrongFalsely : Prop := fnExactSweepWordRow.holds Try.pinned (OpenSpec.ofChange fnExactSweepWordWrong)

/-- 'laws.FnExactWordTo': WHATEVER THE INPUT: true; the input reads as it did. -/
def fnExactWordToSpec : ChangeSpec := { name := "fnExactWordTo", fn := fun _ => fun
  | [d1, d2] => { results := [.lit (.bool true)], args := [d1, d2] }
  | _ => none }
def fnExactWordToRow : OpenClaim := { program := "ytmkgigagfhhgcaa", sum := "2f1d405cc97ef7d07e7cf75e09b0c0470a2618fde47b375c64386ea6416c1ed6", func := "loop.example/g01286/laws.FnExactWordTo", spec := "fnExactWordTo", apart := false }
def FnExactWordToSaid : Prop := fnExactWordToRow.holds Try.pinned (OpenSpec.ofChange fnExactWordToSpec)

/-- ITS FALSE NEIGHBOUR: 'it returns false'. Refute it at one input. -/
def fnExactWordToWrong : ChangeSpec := { name := "fnExactWordTo", fn := fun _ => fun
  | [d1, d2] => { results := [.lit (.bool false)], args := [d1, d2] }
  | _ => none }
def FnExactWordToWrongFalsely : Prop := fnExactWordToRow.holds Try.pinned (OpenSpec.ofChange fnExactWordToWrong)

/- THE SECOND FORM. 'bulk': how many values and letters a reading holds, each counted each time it is reached (what is shared counts as often as it is met; a slice's spare places count too). A statement '..UptoSaid' is the law's where the arguments, and the package variables that the reading takes, are together of bulk at most 1048576: NARROWER than '..Said'. Prove '..Said' where nothing that the law and all that it calls make is longer than what came in: it says more and counts as full. Else prove '..UptoSaid'. A law counts once. -/
mutual
def uptoBulk {H : Type} : DataW H → Nat
  | .lit (.string bytes) => bytes.length + 1
  | .lit _ => 1
  | .nil => 1
  | .ptr d => uptoBulk d + 1
  | .slice elems spare => uptoBulkAll elems + uptoBulkAll spare + 1
  | .agg parts => uptoBulkAll parts + 1
  | .iface _ d => uptoBulk d + 1
  | .map entries => uptoBulkEntries entries + 1
  | .held _ => 1
def uptoBulkAll {H : Type} : List (DataW H) → Nat
  | [] => 0
  | d :: r => uptoBulk d + uptoBulkAll r
def uptoBulkEntries {H : Type} : List (Lit × DataW H) → Nat
  | [] => 0
  | x :: r => uptoBulkEntry x + uptoBulkEntries r
def uptoBulkEntry {H : Type} : Lit × DataW H → Nat
  | (.string bytes, d) => bytes.length + uptoBulk d + 1
  | (_, d) => uptoBulk d + 1
 end
def uptoSmall : (H : Type) → List (DataW H) → Bool := fun _ ds => decide (uptoBulkAll ds ≤ 1048576)
def OpenSpec.upto (s : _root_.Go.ChangeSpec) : _root_.Go.OpenSpec := { _root_.Go.OpenSpec.ofChange s with cond := some uptoSmall }

/-- 'laws.FnExactSplitString', WHERE WHAT IT READS IS OF BULK AT MOST 1048576: true; the input reads as it did. -/
def fnExactSplitStringUptoRow : OpenClaim := { program := "ytmkgigagfhhgcaa", sum := "2f1d405cc97ef7d07e7cf75e09b0c0470a2618fde47b375c64386ea6416c1ed6", func := "loop.example/g01286/laws.FnExactSplitString", spec := "fnExactSplitString", apart := false, narrowed := true }
def FnExactSplitStringUptoSaid : Prop := fnExactSplitStringUptoRow.holds Try.pinned (OpenSpec.upto fnExactSplitStringSpec)

/-- 'laws.FnExactWordAt', WHERE WHAT IT READS IS OF BULK AT MOST 1048576: true; the input reads as it did. -/
def fnExactWordAtUptoRow : OpenClaim := { program := "ytmkgigagfhhgcaa", sum := "2f1d405cc97ef7d07e7cf75e09b0c0470a2618fde47b375c64386ea6416c1ed6", func := "loop.example/g01286/laws.FnExactWordAt", spec := "fnExactWordAt", recurses := true, apart := false, narrowed := true }
def FnExactWordAtUptoSaid : Prop := fnExactWordAtUptoRow.holds Try.pinned (OpenSpec.upto fnExactWordAtSpec)

/-- 'laws.FnExactMirrorWord', WHERE WHAT IT READS IS OF BULK AT MOST 1048576: true; the input reads as it did. -/
def fnExactMirrorWordUptoRow : OpenClaim := { program := "ytmkgigagfhhgcaa", sum := "2f1d405cc97ef7d07e7cf75e09b0c0470a2618fde47b375c64386ea6416c1ed6", func := "loop.example/g01286/laws.FnExactMirrorWord", spec := "fnExactMirrorWord", apart := false, narrowed := true }
def FnExactMirrorWordUptoSaid : Prop := fnExactMirrorWordUptoRow.holds Try.pinned (OpenSpec.upto fnExactMirrorWordSpec)

/-- 'laws.FnExactWordsOf', WHERE WHAT IT READS IS OF BULK AT MOST 1048576: true; the input reads as it did. -/
def fnExactWordsOfUptoRow : OpenClaim := { program := "ytmkgigagfhhgcaa", sum := "2f1d405cc97ef7d07e7cf75e09b0c0470a2618fde47b375c64386ea6416c1ed6", func := "loop.example/g01286/laws.FnExactWordsOf", spec := "fnExactWordsOf", recurses := true, apart := false, narrowed := true }
def FnExactWordsOfUptoSaid : Prop := fnExactWordsOfUptoRow.holds Try.pinned (OpenSpec.upto fnExactWordsOfSpec)

/-- 'laws.FnExactCountInversions', WHERE WHAT IT READS IS OF BULK AT MOST 1048576: true; the input reads as it did. -/
def fnExactCountInversionsUptoRow : OpenClaim := { program := "ytmkgigagfhhgcaa", sum := "2f1d405cc97ef7d07e7cf75e09b0c0470a2618fde47b375c64386ea6416c1ed6", func := "loop.example/g01286/laws.FnExactCountInversions", spec := "fnExactCountInversions", apart := false, narrowed := true }
def FnExactCountInversionsUptoSaid : Prop := fnExactCountInversionsUptoRow.holds Try.pinned (OpenSpec.upto fnExactCountInversionsSpec)

/-- 'laws.FnExactParseOrder', WHERE WHAT IT READS IS OF BULK AT MOST 1048576: true; the input reads as it did. -/
def fnExactParseOrderUptoRow : OpenClaim := { program := "ytmkgigagfhhgcaa", sum := "2f1d405cc97ef7d07e7cf75e09b0c0470a2618fde47b375c64386ea6416c1ed6", func := "loop.example/g01286/laws.FnExactParseOrder", spec := "fnExactParseOrder", apart := false, narrowed := true }
def FnExactParseOrderUptoSaid : Prop := fnExactParseOrderUptoRow.holds Try.pinned (OpenSpec.upto fnExactParseOrderSpec)

/-- 'laws.FnExactOtherOrder', WHERE WHAT IT READS IS OF BULK AT MOST 1048576: true; the input reads as it did. -/
def fnExactOtherOrderUptoRow : OpenClaim := { program := "ytmkgigagfhhgcaa", sum := "2f1d405cc97ef7d07e7cf75e09b0c0470a2618fde47b375c64386ea6416c1ed6", func := "loop.example/g01286/laws.FnExactOtherOrder", spec := "fnExactOtherOrder", apart := false, narrowed := true }
def FnExactOtherOrderUptoSaid : Prop := fnExactOtherOrderUptoRow.holds Try.pinned (OpenSpec.upto fnExactOtherOrderSpec)

/-- 'laws.FnExactComposeOrders', WHERE WHAT IT READS IS OF BULK AT MOST 1048576: true; the input reads as it did. -/
def fnExactComposeOrdersUptoRow : OpenClaim := { program := "ytmkgigagfhhgcaa", sum := "2f1d405cc97ef7d07e7cf75e09b0c0470a2618fde47b375c64386ea6416c1ed6", func := "loop.example/g01286/laws.FnExactComposeOrders", spec := "fnExactComposeOrders", apart := false, narrowed := true }
def FnExactComposeOrdersUptoSaid : Prop := fnExactComposeOrdersUptoRow.holds Try.pinned (OpenSpec.upto fnExactComposeOrdersSpec)

/-- 'laws.FnExactInverseOrder', WHERE WHAT IT READS IS OF BULK AT MOST 1048576: true; the input reads as it did. -/
def fnExactInverseOrderUptoRow : OpenClaim := { program := "ytmkgigagfhhgcaa", sum := "2f1d405cc97ef7d07e7cf75e09b0c0470a2618fde47b375c64386ea6416c1ed6", func := "loop.example/g01286/laws.FnExactInverseOrder", spec := "fnExactInverseOrder", apart := false, narrowed := true }
def FnExactInverseOrderUptoSaid : Prop := fnExactInverseOrderUptoRow.holds Try.pinned (OpenSpec.upto fnExactInverseOrderSpec)

/-- 'laws.FnExactRecordPlaces', WHERE WHAT IT READS IS OF BULK AT MOST 1048576: true; the input reads as it did. -/
def fnExactRecordPlacesUptoRow : OpenClaim := { program := "ytmkgigagfhhgcaa", sum := "2f1d405cc97ef7d07e7cf75e09b0c0470a2618fde47b375c64386ea6416c1ed6", func := "loop.example/g01286/laws.FnExactRecordPlaces", spec := "fnExactRecordPlaces", apart := false, narrowed := true }
def FnExactRecordPlacesUptoSaid : Prop := fnExactRecordPlacesUptoRow.holds Try.pinned (OpenSpec.upto fnExactRecordPlacesSpec)

/-- 'laws.FnExactSweepWord', WHERE WHAT IT READS IS OF BULK AT MOST 1048576: true; the input reads as it did. -/
def fnExactSweepWordUptoRow : OpenClaim := { program := "ytmkgigagfhhgcaa", sum := "2f1d405cc97ef7d07e7cf75e09b0c0470a2618fde47b375c64386ea6416c1ed6", func := "loop.example/g01286/laws.FnExactSweepWord", spec := "fnExactSweepWord", unfollowed := true, recurses := true, apart := false, narrowed := true }
def FnExactSweepWordUptoSaid : Prop := fnExactSweepWordUptoRow.holds Try.pinned (OpenSpec.upto fnExactSweepWordSpec)

/-- 'laws.FnExactWordTo', WHERE WHAT IT READS IS OF BULK AT MOST 1048576: true; the input reads as it did. -/
def fnExactWordToUptoRow : OpenClaim := { program := "ytmkgigagfhhgcaa", sum := "2f1d405cc97ef7d07e7cf75e09b0c0470a2618fde47b375c64386ea6416c1ed6", func := "loop.example/g01286/laws.FnExactWordTo", spec := "fnExactWordTo", apart := false, narrowed := true }
def FnExactWordToUptoSaid : Prop := fnExactWordToUptoRow.holds Try.pinned (OpenSpec.upto fnExactWordToSpec)

end Rows
end Go.Proofs.Ytmkgigagfhhgcaa
