/-
  No cell of these rows narrows 'for every input' (looked for: loops, veiled, ifaces, maps, wideKeys, modest, calm, conditions, laid).
  DERIVED. THE GIVEN ROWS OF THIS SEAT. 9 by the template 'for every input the law returns true; each argument reads behind the call as it read before'; 0 by the template 'total and deterministic' (their statements: YtjaplmgbhmgpiaaTotals.lean).
  GIVEN WITH THE SEED: the statements are not yours to turn. If you find one false, say at which input.
  Laid BY PROGRAM, IN A SANDBOX (cutbox-rows.mjs): the forced cells as the released guide's own fill.sh prints them over the translation e325f0de6da55b2e… (all of the seat's roots in one cut). By AI agents, Wed Nov 11 2026. No macro, syntax, notation, axiom, sorry.
-/
import Derived.Test.YtjaplmgbhmgpiaaChecked
import GoSem.Claim
import GoSem.ClaimJoined
import GoSem.ClaimMapViews
import Derived.JoinedTies
import Derived.KernelRfl
namespace Go.Proofs.Ytjaplmgbhmgpiaa
/- THE CELL 'sum', in the pinned program and in every row, IS THE sha256 OF THE DUMP (.gsa) THAT YtjaplmgbhmgpiaaProg.lean LOADS. Nothing in Lean hashes anything: it is a label: what it is worth is what the hold of that sum in a sandbox is worth. -/
noncomputable def Try.pinned : Pinned := { name := "ytjaplmgbhmgpiaa", sum := "e325f0de6da55b2e10d2a7457358fb99cd5859e50c8eb1e0a794774eed739b18", checked := Try.checked }
namespace Rows
def none {H : Type} : Left H := { results := [], args := [] }

/-- 'laws.FnExactFewestDrops': WHATEVER THE INPUT: true; the input reads as it did. -/
def fnExactFewestDropsSpec : ChangeSpec := { name := "fnExactFewestDrops", fn := fun _ => fun
  | [d1, d2] => { results := [.lit (.bool true)], args := [d1, d2] }
  | _ => none }
def fnExactFewestDropsRow : OpenClaim := { program := "ytjaplmgbhmgpiaa", sum := "e325f0de6da55b2e10d2a7457358fb99cd5859e50c8eb1e0a794774eed739b18", func := "loop.example/g01286/laws.FnExactFewestDrops", spec := "fnExactFewestDrops", unfollowed := true, recurses := true, apart := false }
def FnExactFewestDropsSaid : Prop := fnExactFewestDropsRow.holds Try.pinned (OpenSpec.ofChange fnExactFewestDropsSpec)

/-- ITS FALSE NEIGHBOUR: 'it returns false'. Refute it at one input. -/
def fnExactFewestDropsWrong : ChangeSpec := { name := "fnExactFewestDrops", fn := fun _ => fun
  | [d1, d2] => { results := [.lit (.bool false)], args := [d1, d2] }
  | _ => none }
def FnExactFewestDropsWrongFalsely : Prop := fnExactFewestDropsRow.holds Try.pinned (OpenSpec.ofChange fnExactFewestDropsWrong)

/-- 'laws.FnSplitJoin': WHATEVER THE INPUT: true; the input reads as it did. -/
def fnSplitJoinSpec : ChangeSpec := { name := "fnSplitJoin", fn := fun _ => fun
  | [d] => { results := [.lit (.bool true)], args := [d] }
  | _ => none }
def fnSplitJoinRow : OpenClaim := { program := "ytjaplmgbhmgpiaa", sum := "e325f0de6da55b2e10d2a7457358fb99cd5859e50c8eb1e0a794774eed739b18", func := "loop.example/g01286/laws.FnSplitJoin", spec := "fnSplitJoin", inPlace := ["internal/bytealg.IndexByteString", "internal/bytealg.IndexString", "internal/abi.NoEscape", "internal/bytealg.MakeNoZero"], named := ["internal/bytealg.MaxLen"], apart := false }
def FnSplitJoinSaid : Prop := fnSplitJoinRow.holds Try.pinned (OpenSpec.ofChange fnSplitJoinSpec)

/-- ITS FALSE NEIGHBOUR: 'it returns false'. Refute it at one input. -/
def fnSplitJoinWrong : ChangeSpec := { name := "fnSplitJoin", fn := fun _ => fun
  | [d] => { results := [.lit (.bool false)], args := [d] }
  | _ => none }
def FnSplitJoinWrongFalsely : Prop := fnSplitJoinRow.holds Try.pinned (OpenSpec.ofChange fnSplitJoinWrong)

/-- 'laws.FnExactCountChildren': WHATEVER THE INPUT: true; the input reads as it did. -/
def fnExactCountChildrenSpec : ChangeSpec := { name := "fnExactCountChildren", fn := fun _ => fun
  | [d1, d2] => { results := [.lit (.bool true)], args := [d1, d2] }
  | _ => none }
def fnExactCountChildrenRow : OpenClaim := { program := "ytjaplmgbhmgpiaa", sum := "e325f0de6da55b2e10d2a7457358fb99cd5859e50c8eb1e0a794774eed739b18", func := "loop.example/g01286/laws.FnExactCountChildren", spec := "fnExactCountChildren", unfollowed := true, recurses := true, apart := false }
def FnExactCountChildrenSaid : Prop := fnExactCountChildrenRow.holds Try.pinned (OpenSpec.ofChange fnExactCountChildrenSpec)

/-- ITS FALSE NEIGHBOUR: 'it returns false'. Refute it at one input. -/
def fnExactCountChildrenWrong : ChangeSpec := { name := "fnExactCountChildren", fn := fun _ => fun
  | [d1, d2] => { results := [.lit (.bool false)], args := [d1, d2] }
  | _ => none }
def FnExactCountChildrenWrongFalsely : Prop := fnExactCountChildrenRow.holds Try.pinned (OpenSpec.ofChange fnExactCountChildrenWrong)

/-- 'laws.FnExactSweptFrom': WHATEVER THE INPUT: true; the input reads as it did. -/
def fnExactSweptFromSpec : ChangeSpec := { name := "fnExactSweptFrom", fn := fun _ => fun
  | [d] => { results := [.lit (.bool true)], args := [d] }
  | _ => none }
def fnExactSweptFromRow : OpenClaim := { program := "ytjaplmgbhmgpiaa", sum := "e325f0de6da55b2e10d2a7457358fb99cd5859e50c8eb1e0a794774eed739b18", func := "loop.example/g01286/laws.FnExactSweptFrom", spec := "fnExactSweptFrom", unfollowed := true, recurses := true, apart := false }
def FnExactSweptFromSaid : Prop := fnExactSweptFromRow.holds Try.pinned (OpenSpec.ofChange fnExactSweptFromSpec)

/-- ITS FALSE NEIGHBOUR: 'it returns false'. Refute it at one input. -/
def fnExactSweptFromWrong : ChangeSpec := { name := "fnExactSweptFrom", fn := fun _ => fun
  | [d] => { results := [.lit (.bool false)], args := [d] }
  | _ => none }
def FnExactSweptFromWrongFalsely : Prop := fnExactSweptFromRow.holds Try.pinned (OpenSpec.ofChange fnExactSweptFromWrong)

/-- 'laws.FnExactMostPlaces': WHATEVER THE INPUT: true; the input reads as it did. -/
def fnExactMostPlacesSpec : ChangeSpec := { name := "fnExactMostPlaces", fn := fun _ => fun
  | [d1, d2] => { results := [.lit (.bool true)], args := [d1, d2] }
  | _ => none }
def fnExactMostPlacesRow : OpenClaim := { program := "ytjaplmgbhmgpiaa", sum := "e325f0de6da55b2e10d2a7457358fb99cd5859e50c8eb1e0a794774eed739b18", func := "loop.example/g01286/laws.FnExactMostPlaces", spec := "fnExactMostPlaces", unfollowed := true, recurses := true, apart := false }
def FnExactMostPlacesSaid : Prop := fnExactMostPlacesRow.holds Try.pinned (OpenSpec.ofChange fnExactMostPlacesSpec)

/-- ITS FALSE NEIGHBOUR: 'it returns false'. Refute it at one input. -/
def fnExactMostPlacesWrong : ChangeSpec := { name := "fnExactMostPlaces", fn := fun _ => fun
  | [d1, d2] => { results := [.lit (.bool false)], args := [d1, d2] }
  | _ => none }
def FnExactMostPlacesWrongFalsely : Prop := fnExactMostPlacesRow.holds Try.pinned (OpenSpec.ofChange fnExactMostPlacesWrong)

/-- 'laws.FnExactCountAvoiding': WHATEVER THE INPUT: true; the input reads as it did. -/
def fnExactCountAvoidingSpec : ChangeSpec := { name := "fnExactCountAvoiding", fn := fun _ => fun
  | [d1, d2] => { results := [.lit (.bool true)], args := [d1, d2] }
  | _ => none }
def fnExactCountAvoidingRow : OpenClaim := { program := "ytjaplmgbhmgpiaa", sum := "e325f0de6da55b2e10d2a7457358fb99cd5859e50c8eb1e0a794774eed739b18", func := "loop.example/g01286/laws.FnExactCountAvoiding", spec := "fnExactCountAvoiding", unfollowed := true, recurses := true, apart := false }
def FnExactCountAvoidingSaid : Prop := fnExactCountAvoidingRow.holds Try.pinned (OpenSpec.ofChange fnExactCountAvoidingSpec)

/-- ITS FALSE NEIGHBOUR: 'it returns false'. Refute it at one input. -/
def fnExactCountAvoidingWrong : ChangeSpec := { name := "fnExactCountAvoiding", fn := fun _ => fun
  | [d1, d2] => { results := [.lit (.bool false)], args := [d1, d2] }
  | _ => none }
def FnExactCountAvoidingWrongFalsely : Prop := fnExactCountAvoidingRow.holds Try.pinned (OpenSpec.ofChange fnExactCountAvoidingWrong)

/-- 'laws.FnExactFirstAvoiding': WHATEVER THE INPUT: true; the input reads as it did. -/
def fnExactFirstAvoidingSpec : ChangeSpec := { name := "fnExactFirstAvoiding", fn := fun _ => fun
  | [d1, d2] => { results := [.lit (.bool true)], args := [d1, d2] }
  | _ => none }
def fnExactFirstAvoidingRow : OpenClaim := { program := "ytjaplmgbhmgpiaa", sum := "e325f0de6da55b2e10d2a7457358fb99cd5859e50c8eb1e0a794774eed739b18", func := "loop.example/g01286/laws.FnExactFirstAvoiding", spec := "fnExactFirstAvoiding", unfollowed := true, recurses := true, apart := false }
def FnExactFirstAvoidingSaid : Prop := fnExactFirstAvoidingRow.holds Try.pinned (OpenSpec.ofChange fnExactFirstAvoidingSpec)

/-- ITS FALSE NEIGHBOUR: 'it returns false'. Refute it at one input. -/
def fnExactFirstAvoidingWrong : ChangeSpec := { name := "fnExactFirstAvoiding", fn := fun _ => fun
  | [d1, d2] => { results := [.lit (.bool false)], args := [d1, d2] }
  | _ => none }
def FnExactFirstAvoidingWrongFalsely : Prop := fnExactFirstAvoidingRow.holds Try.pinned (OpenSpec.ofChange fnExactFirstAvoidingWrong)

/-- 'laws.FnExactOutputsOf': WHATEVER THE INPUT: true; the input reads as it did. -/
def fnExactOutputsOfSpec : ChangeSpec := { name := "fnExactOutputsOf", fn := fun _ => fun
  | [d] => { results := [.lit (.bool true)], args := [d] }
  | _ => none }
def fnExactOutputsOfRow : OpenClaim := { program := "ytjaplmgbhmgpiaa", sum := "e325f0de6da55b2e10d2a7457358fb99cd5859e50c8eb1e0a794774eed739b18", func := "loop.example/g01286/laws.FnExactOutputsOf", spec := "fnExactOutputsOf", unfollowed := true, recurses := true, apart := false }
def FnExactOutputsOfSaid : Prop := fnExactOutputsOfRow.holds Try.pinned (OpenSpec.ofChange fnExactOutputsOfSpec)

/-- ITS FALSE NEIGHBOUR: 'it returns false'. Refute it at one input. -/
def fnExactOutputsOfWrong : ChangeSpec := { name := "fnExactOutputsOf", fn := fun _ => fun
  | [d] => { results := [.lit (.bool false)], args := [d] }
  | _ => none }
def FnExactOutputsOfWrongFalsely : Prop := fnExactOutputsOfRow.holds Try.pinned (OpenSpec.ofChange fnExactOutputsOfWrong)

/-- 'laws.FnExactPatternsIn': WHATEVER THE INPUT: true; the input reads as it did. -/
def fnExactPatternsInSpec : ChangeSpec := { name := "fnExactPatternsIn", fn := fun _ => fun
  | [d1, d2] => { results := [.lit (.bool true)], args := [d1, d2] }
  | _ => none }
def fnExactPatternsInRow : OpenClaim := { program := "ytjaplmgbhmgpiaa", sum := "e325f0de6da55b2e10d2a7457358fb99cd5859e50c8eb1e0a794774eed739b18", func := "loop.example/g01286/laws.FnExactPatternsIn", spec := "fnExactPatternsIn", unfollowed := true, recurses := true, apart := false }
def FnExactPatternsInSaid : Prop := fnExactPatternsInRow.holds Try.pinned (OpenSpec.ofChange fnExactPatternsInSpec)

/-- ITS FALSE NEIGHBOUR: 'it returns false'. Refute it at one input. -/
def fnExactPatternsInWrong : ChangeSpec := { name := "fnExactPatternsIn", fn := fun _ => fun
  | [d1, d2] => { results := [.lit (.bool false)], args := [d1, d2] }
  | _ => none }
def FnExactPatternsInWrongFalsely : Prop := fnExactPatternsInRow.holds Try.pinned (OpenSpec.ofChange fnExactPatternsInWrong)

/- THE SECOND FORM. 'bulk': how many values and letters a reading holds, each counted each time it is reached (what is shared counts as often as it is met; a slice's spare places count too). A statement '..UptoSaid' is the law's where the arguments, and the package variables that the reading takes, are together of bulk at most 1048576: NARROWER than '..Said'. Prove '..Said' where nothing that the law and all that it calls make is longer than what came in: it says more and counts as full. Else prove '..UptoSaid'. A law counts once. -/
mutual
def uptoBulk {H : Type} : DataW H → Nat
  | .lit (.string bytes) => bytes.length + 1
  | .lit _ => 1
  | .nil => 1
  | .ptr d => uptoBulk d + 1
  | .slice elems spare => uptoBulkAll elems + uptoBulkAll spare + 1
  | .agg parts => uptoBulkAll parts + 1
  | .iface _ d => uptoBulk d + 1
  | .map entries => uptoBulkEntries entries + 1
  | .held _ => 1
def uptoBulkAll {H : Type} : List (DataW H) → Nat
  | [] => 0
  | d :: r => uptoBulk d + uptoBulkAll r
def uptoBulkEntries {H : Type} : List (Lit × DataW H) → Nat
  | [] => 0
  | x :: r => uptoBulkEntry x + uptoBulkEntries r
def uptoBulkEntry {H : Type} : Lit × DataW H → Nat
  | (.string bytes, d) => bytes.length + uptoBulk d + 1
  | (_, d) => uptoBulk d + 1
 end
def uptoSmall : (H : Type) → List (DataW H) → Bool := fun _ ds => decide (uptoBulkAll ds ≤ 1048576)
def OpenSpec.upto (s : _root_.Go.ChangeSpec) : _root_.Go.OpenSpec := { _root_.Go.OpenSpec.ofChange s with cond := some uptoSmall }

/-- 'laws.FnExactFewestDrops', WHERE WHAT IT READS IS OF BULK AT MOST 1048576: true; the input reads as it did. -/
def fnExactFewestDropsUptoRow : OpenClaim := { program := "ytjaplmgbhmgpiaa", sum := "e325f0de6da55b2e10d2a7457358fb99cd5859e50c8eb1e0a794774eed739b18", func := "loop.example/g01286/laws.FnExactFewestDrops", spec := "fnExactFewestDrops", unfollowed := true, recurses := true, apart := false, narrowed := true }
def FnExactFewestDropsUptoSaid : Prop := fnExactFewestDropsUptoRow.holds Try.pinned (OpenSpec.upto fnExactFewestDropsSpec)

/-- 'laws.FnSplitJoin', WHERE WHAT IT READS IS OF BULK AT MOST 1048576: true; the input reads as it did. -/
def fnSplitJoinUptoRow : OpenClaim := { program := "ytjaplmgbhmgpiaa", sum := "e325f0de6da55b2e10d2a7457358fb99cd5859e50c8eb1e0a794774eed739b18", func := "loop.example/g01286/laws.FnSplitJoin", spec := "fnSplitJoin", inPlace := ["internal/bytealg.IndexByteString", "internal/bytealg.IndexString", "internal/abi.NoEscape", "internal/bytealg.MakeNoZero"], named := ["internal/bytealg.MaxLen"], apart := false, narrowed := true }
def FnSplitJoinUptoSaid : Prop := fnSplitJoinUptoRow.holds Try.pinned (OpenSpec.upto fnSplitJoinSpec)

/-- 'laws.FnExactCountChildren', WHERE WHAT IT READS IS OF BULK AT MOST 1048576: true; the input reads as it did. -/
def fnExactCountChildrenUptoRow : OpenClaim := { program := "ytjaplmgbhmgpiaa", sum := "e325f0de6da55b2e10d2a7457358fb99cd5859e50c8eb1e0a794774eed739b18", func := "loop.example/g01286/laws.FnExactCountChildren", spec := "fnExactCountChildren", unfollowed := true, recurses := true, apart := false, narrowed := true }
def FnExactCountChildrenUptoSaid : Prop := fnExactCountChildrenUptoRow.holds Try.pinned (OpenSpec.upto fnExactCountChildrenSpec)

/-- 'laws.FnExactSweptFrom', WHERE WHAT IT READS IS OF BULK AT MOST 1048576: true; the input reads as it did. -/
def fnExactSweptFromUptoRow : OpenClaim := { program := "ytjaplmgbhmgpiaa", sum := "e325f0de6da55b2e10d2a7457358fb99cd5859e50c8eb1e0a794774eed739b18", func := "loop.example/g01286/laws.FnExactSweptFrom", spec := "fnExactSweptFrom", unfollowed := true, recurses := true, apart := false, narrowed := true }
def FnExactSweptFromUptoSaid : Prop := fnExactSweptFromUptoRow.holds Try.pinned (OpenSpec.upto fnExactSweptFromSpec)

/-- 'laws.FnExactMostPlaces', WHERE WHAT IT READS IS OF BULK AT MOST 1048576: true; the input reads as it did. -/
def fnExactMostPlacesUptoRow : OpenClaim := { program := "ytjaplmgbhmgpiaa", sum := "e325f0de6da55b2e10d2a7457358fb99cd5859e50c8eb1e0a794774eed739b18", func := "loop.example/g01286/laws.FnExactMostPlaces", spec := "fnExactMostPlaces", unfollowed := true, recurses := true, apart := false, narrowed := true }
def FnExactMostPlacesUptoSaid : Prop := fnExactMostPlacesUptoRow.holds Try.pinned (OpenSpec.upto fnExactMostPlacesSpec)

/-- 'laws.FnExactCountAvoiding', WHERE WHAT IT READS IS OF BULK AT MOST 1048576: true; the input reads as it did. -/
def fnExactCountAvoidingUptoRow : OpenClaim := { program := "ytjaplmgbhmgpiaa", sum := "e325f0de6da55b2e10d2a7457358fb99cd5859e50c8eb1e0a794774eed739b18", func := "loop.example/g01286/laws.FnExactCountAvoiding", spec := "fnExactCountAvoiding", unfollowed := true, recurses := true, apart := false, narrowed := true }
def FnExactCountAvoidingUptoSaid : Prop := fnExactCountAvoidingUptoRow.holds Try.pinned (OpenSpec.upto fnExactCountAvoidingSpec)

/-- 'laws.FnExactFirstAvoiding', WHERE WHAT IT READS IS OF BULK AT MOST 1048576: true; the input reads as it did. -/
def fnExactFirstAvoidingUptoRow : OpenClaim := { program := "ytjaplmgbhmgpiaa", sum := "e325f0de6da55b2e10d2a7457358fb99cd5859e50c8eb1e0a794774eed739b18", func := "loop.example/g01286/laws.FnExactFirstAvoiding", spec := "fnExactFirstAvoiding", unfollowed := true, recurses := true, apart := false, narrowed := true }
def FnExactFirstAvoidingUptoSaid : Prop := fnExactFirstAvoidingUptoRow.holds Try.pinned (OpenSpec.upto fnExactFirstAvoidingSpec)

/-- 'laws.FnExactOutputsOf', WHERE WHAT IT READS IS OF BULK AT MOST 1048576: true; the input reads as it did. -/
def fnExactOutputsOfUptoRow : OpenClaim := { program := "ytjaplmgbhmgpiaa", sum := "e325f0de6da55b2e10d2a7457358fb99cd5859e50c8eb1e0a794774eed739b18", func := "loop.example/g01286/laws.FnExactOutputsOf", spec := "fnExactOutputsOf", unfollowed := true, recurses := true, apart := false, narrowed := true }
def FnExactOutputsOfUptoSaid : Prop := fnExactOutputsOfUptoRow.holds Try.pinned (OpenSpec.upto fnExactOutputsOfSpec)

/-- 'laws.FnExactPatternsIn', WHERE WHAT IT READS IS OF BULK AT MOST 1048576: true; the input reads as it did. -/
def fnExactPatternsInUptoRow : OpenClaim := { program := "ytjaplmgbhmgpiaa", sum := "e325f0de6da55b2e10d2a7457358fb99cd5859e50c8eb1e0a794774eed739b18", func := "loop.example/g01286/laws.FnExactPatternsIn", spec := "fnExactPatternsIn", unfollowed := true, recurses := true, apart := false, narrowed := true }
def FnExactPatternsInUptoSaid : Prop := fnExactPatternsInUptoRow.holds Try.pinned (OpenSpec.upto fnExactPatternsInSpec)

end Rows
end Go.Proofs.Ytjaplmgbhmgpiaa
