/-
  No cell of these rows narrows 'for every input' (looked for: loops, veiled, ifaces, maps, wideKeys, modest, calm, conditions, laid).
  DERIVED. THE GIVEN ROWS OF THIS SEAT. 11 by the template 'for every input the law returns true; each argument reads behind the call as it read before'; 0 by the template 'total and deterministic' (their statements: YtdiecblalplalaaTotals.lean).
  GIVEN WITH THE SEED: the statements are not yours to turn. If you find one false, say at which input.
  Laid BY PROGRAM, IN A SANDBOX (cutbox-rows.mjs): the forced cells as the released guide's own fill.sh prints them over the translation 27367dca759d7ac6… (all of the seat's roots in one cut). By AI agents, Wed Nov 11 2026. No macro, syntax, notation, axiom, sorry.
-/
import Derived.Test.YtdiecblalplalaaChecked
import GoSem.Claim
import GoSem.ClaimJoined
import GoSem.ClaimMapViews
import Derived.JoinedTies
import Derived.KernelRfl
namespace Go.Proofs.Ytdiecblalplalaa
/- THE CELL 'sum', in the pinned program and in every row, IS THE sha256 OF THE DUMP (.gsa) THAT YtdiecblalplalaaProg.lean LOADS. Nothing in Lean hashes anything: it is a label: what it is worth is what the hold of that sum in a sandbox is worth. -/
noncomputable def Try.pinned : Pinned := { name := "ytdiecblalplalaa", sum := "27367dca759d7ac6fb17ab13cd830e9363ac0c11eeb01d9405cbae862674cb9d", checked := Try.checked }
namespace Rows
def none {H : Type} : Left H := { results := [], args := [] }

/-- 'laws.FnExactRunsOf': WHATEVER THE INPUT: true; the input reads as it did. -/
def fnExactRunsOfSpec : ChangeSpec := { name := "fnExactRunsOf", fn := fun _ => fun
  | [d] => { results := [.lit (.bool true)], args := [d] }
  | _ => none }
def fnExactRunsOfRow : OpenClaim := { program := "ytdiecblalplalaa", sum := "27367dca759d7ac6fb17ab13cd830e9363ac0c11eeb01d9405cbae862674cb9d", func := "loop.example/g01286/laws.FnExactRunsOf", spec := "fnExactRunsOf", apart := false }
def FnExactRunsOfSaid : Prop := fnExactRunsOfRow.holds Try.pinned (OpenSpec.ofChange fnExactRunsOfSpec)

/-- ITS FALSE NEIGHBOUR: 'it returns false'. Refute it at one input. -/
def fnExactRunsOfWrong : ChangeSpec := { name := "fnExactRunsOf", fn := fun _ => fun
  | [d] => { results := [.lit (.bool false)], args := [d] }
  | _ => none }
def FnExactRunsOfWrongFalsely : Prop := fnExactRunsOfRow.holds Try.pinned (OpenSpec.ofChange fnExactRunsOfWrong)

/-- 'laws.FnExactSweepOrder': WHATEVER THE INPUT: true; the input reads as it did. -/
def fnExactSweepOrderSpec : ChangeSpec := { name := "fnExactSweepOrder", fn := fun _ => fun
  | [d] => { results := [.lit (.bool true)], args := [d] }
  | _ => none }
def fnExactSweepOrderRow : OpenClaim := { program := "ytdiecblalplalaa", sum := "27367dca759d7ac6fb17ab13cd830e9363ac0c11eeb01d9405cbae862674cb9d", func := "loop.example/g01286/laws.FnExactSweepOrder", spec := "fnExactSweepOrder", unfollowed := true, recurses := true, apart := false }
def FnExactSweepOrderSaid : Prop := fnExactSweepOrderRow.holds Try.pinned (OpenSpec.ofChange fnExactSweepOrderSpec)

/-- ITS FALSE NEIGHBOUR: 'it returns false'. Refute it at one input. -/
def fnExactSweepOrderWrong : ChangeSpec := { name := "fnExactSweepOrder", fn := fun _ => fun
  | [d] => { results := [.lit (.bool false)], args := [d] }
  | _ => none }
def FnExactSweepOrderWrongFalsely : Prop := fnExactSweepOrderRow.holds Try.pinned (OpenSpec.ofChange fnExactSweepOrderWrong)

/-- 'laws.FnExactIsSortable': WHATEVER THE INPUT: true; the input reads as it did. -/
def fnExactIsSortableSpec : ChangeSpec := { name := "fnExactIsSortable", fn := fun _ => fun
  | [d] => { results := [.lit (.bool true)], args := [d] }
  | _ => none }
def fnExactIsSortableRow : OpenClaim := { program := "ytdiecblalplalaa", sum := "27367dca759d7ac6fb17ab13cd830e9363ac0c11eeb01d9405cbae862674cb9d", func := "loop.example/g01286/laws.FnExactIsSortable", spec := "fnExactIsSortable", unfollowed := true, recurses := true, apart := false }
def FnExactIsSortableSaid : Prop := fnExactIsSortableRow.holds Try.pinned (OpenSpec.ofChange fnExactIsSortableSpec)

/-- ITS FALSE NEIGHBOUR: 'it returns false'. Refute it at one input. -/
def fnExactIsSortableWrong : ChangeSpec := { name := "fnExactIsSortable", fn := fun _ => fun
  | [d] => { results := [.lit (.bool false)], args := [d] }
  | _ => none }
def FnExactIsSortableWrongFalsely : Prop := fnExactIsSortableRow.holds Try.pinned (OpenSpec.ofChange fnExactIsSortableWrong)

/-- 'laws.FnExactRunWord': WHATEVER THE INPUT: true; the input reads as it did. -/
def fnExactRunWordSpec : ChangeSpec := { name := "fnExactRunWord", fn := fun _ => fun
  | [d1, d2] => { results := [.lit (.bool true)], args := [d1, d2] }
  | _ => none }
def fnExactRunWordRow : OpenClaim := { program := "ytdiecblalplalaa", sum := "27367dca759d7ac6fb17ab13cd830e9363ac0c11eeb01d9405cbae862674cb9d", func := "loop.example/g01286/laws.FnExactRunWord", spec := "fnExactRunWord", apart := false }
def FnExactRunWordSaid : Prop := fnExactRunWordRow.holds Try.pinned (OpenSpec.ofChange fnExactRunWordSpec)

/-- ITS FALSE NEIGHBOUR: 'it returns false'. Refute it at one input. -/
def fnExactRunWordWrong : ChangeSpec := { name := "fnExactRunWord", fn := fun _ => fun
  | [d1, d2] => { results := [.lit (.bool false)], args := [d1, d2] }
  | _ => none }
def FnExactRunWordWrongFalsely : Prop := fnExactRunWordRow.holds Try.pinned (OpenSpec.ofChange fnExactRunWordWrong)

/-- 'laws.FnExactBadTriple': WHATEVER THE INPUT: true; the input reads as it did. -/
def fnExactBadTripleSpec : ChangeSpec := { name := "fnExactBadTriple", fn := fun _ => fun
  | [d] => { results := [.lit (.bool true)], args := [d] }
  | _ => none }
def fnExactBadTripleRow : OpenClaim := { program := "ytdiecblalplalaa", sum := "27367dca759d7ac6fb17ab13cd830e9363ac0c11eeb01d9405cbae862674cb9d", func := "loop.example/g01286/laws.FnExactBadTriple", spec := "fnExactBadTriple", unfollowed := true, recurses := true, apart := false }
def FnExactBadTripleSaid : Prop := fnExactBadTripleRow.holds Try.pinned (OpenSpec.ofChange fnExactBadTripleSpec)

/-- ITS FALSE NEIGHBOUR: 'it returns false'. Refute it at one input. -/
def fnExactBadTripleWrong : ChangeSpec := { name := "fnExactBadTriple", fn := fun _ => fun
  | [d] => { results := [.lit (.bool false)], args := [d] }
  | _ => none }
def FnExactBadTripleWrongFalsely : Prop := fnExactBadTripleRow.holds Try.pinned (OpenSpec.ofChange fnExactBadTripleWrong)

/-- 'laws.FnExactCountSweeps': WHATEVER THE INPUT: true; the input reads as it did. -/
def fnExactCountSweepsSpec : ChangeSpec := { name := "fnExactCountSweeps", fn := fun _ => fun
  | [d] => { results := [.lit (.bool true)], args := [d] }
  | _ => none }
def fnExactCountSweepsRow : OpenClaim := { program := "ytdiecblalplalaa", sum := "27367dca759d7ac6fb17ab13cd830e9363ac0c11eeb01d9405cbae862674cb9d", func := "loop.example/g01286/laws.FnExactCountSweeps", spec := "fnExactCountSweeps", unfollowed := true, recurses := true, apart := false }
def FnExactCountSweepsSaid : Prop := fnExactCountSweepsRow.holds Try.pinned (OpenSpec.ofChange fnExactCountSweepsSpec)

/-- ITS FALSE NEIGHBOUR: 'it returns false'. Refute it at one input. -/
def fnExactCountSweepsWrong : ChangeSpec := { name := "fnExactCountSweeps", fn := fun _ => fun
  | [d] => { results := [.lit (.bool false)], args := [d] }
  | _ => none }
def FnExactCountSweepsWrongFalsely : Prop := fnExactCountSweepsRow.holds Try.pinned (OpenSpec.ofChange fnExactCountSweepsWrong)

/-- 'laws.FnExactContainsPattern': WHATEVER THE INPUT: true; the input reads as it did. -/
def fnExactContainsPatternSpec : ChangeSpec := { name := "fnExactContainsPattern", fn := fun _ => fun
  | [d1, d2] => { results := [.lit (.bool true)], args := [d1, d2] }
  | _ => none }
def fnExactContainsPatternRow : OpenClaim := { program := "ytdiecblalplalaa", sum := "27367dca759d7ac6fb17ab13cd830e9363ac0c11eeb01d9405cbae862674cb9d", func := "loop.example/g01286/laws.FnExactContainsPattern", spec := "fnExactContainsPattern", unfollowed := true, recurses := true, apart := false }
def FnExactContainsPatternSaid : Prop := fnExactContainsPatternRow.holds Try.pinned (OpenSpec.ofChange fnExactContainsPatternSpec)

/-- ITS FALSE NEIGHBOUR: 'it returns false'. Refute it at one input. -/
def fnExactContainsPatternWrong : ChangeSpec := { name := "fnExactContainsPattern", fn := fun _ => fun
  | [d1, d2] => { results := [.lit (.bool false)], args := [d1, d2] }
  | _ => none }
def FnExactContainsPatternWrongFalsely : Prop := fnExactContainsPatternRow.holds Try.pinned (OpenSpec.ofChange fnExactContainsPatternWrong)

/-- 'laws.FnExactCountPlaces': WHATEVER THE INPUT: true; the input reads as it did. -/
def fnExactCountPlacesSpec : ChangeSpec := { name := "fnExactCountPlaces", fn := fun _ => fun
  | [d1, d2] => { results := [.lit (.bool true)], args := [d1, d2] }
  | _ => none }
def fnExactCountPlacesRow : OpenClaim := { program := "ytdiecblalplalaa", sum := "27367dca759d7ac6fb17ab13cd830e9363ac0c11eeb01d9405cbae862674cb9d", func := "loop.example/g01286/laws.FnExactCountPlaces", spec := "fnExactCountPlaces", unfollowed := true, recurses := true, apart := false }
def FnExactCountPlacesSaid : Prop := fnExactCountPlacesRow.holds Try.pinned (OpenSpec.ofChange fnExactCountPlacesSpec)

/-- ITS FALSE NEIGHBOUR: 'it returns false'. Refute it at one input. -/
def fnExactCountPlacesWrong : ChangeSpec := { name := "fnExactCountPlaces", fn := fun _ => fun
  | [d1, d2] => { results := [.lit (.bool false)], args := [d1, d2] }
  | _ => none }
def FnExactCountPlacesWrongFalsely : Prop := fnExactCountPlacesRow.holds Try.pinned (OpenSpec.ofChange fnExactCountPlacesWrong)

/-- 'laws.FnExactFirstPlaces': WHATEVER THE INPUT: true; the input reads as it did. -/
def fnExactFirstPlacesSpec : ChangeSpec := { name := "fnExactFirstPlaces", fn := fun _ => fun
  | [d1, d2] => { results := [.lit (.bool true)], args := [d1, d2] }
  | _ => none }
def fnExactFirstPlacesRow : OpenClaim := { program := "ytdiecblalplalaa", sum := "27367dca759d7ac6fb17ab13cd830e9363ac0c11eeb01d9405cbae862674cb9d", func := "loop.example/g01286/laws.FnExactFirstPlaces", spec := "fnExactFirstPlaces", unfollowed := true, recurses := true, apart := false }
def FnExactFirstPlacesSaid : Prop := fnExactFirstPlacesRow.holds Try.pinned (OpenSpec.ofChange fnExactFirstPlacesSpec)

/-- ITS FALSE NEIGHBOUR: 'it returns false'. Refute it at one input. -/
def fnExactFirstPlacesWrong : ChangeSpec := { name := "fnExactFirstPlaces", fn := fun _ => fun
  | [d1, d2] => { results := [.lit (.bool false)], args := [d1, d2] }
  | _ => none }
def FnExactFirstPlacesWrongFalsely : Prop := fnExactFirstPlacesRow.holds Try.pinned (OpenSpec.ofChange fnExactFirstPlacesWrong)

/-- 'laws.FnExactJoinStrings': WHATEVER THE INPUT: true; the input reads as it did. -/
def fnExactJoinStringsSpec : ChangeSpec := { name := "fnExactJoinStrings", fn := fun _ => fun
  | [d1, d2] => { results := [.lit (.bool true)], args := [d1, d2] }
  | _ => none }
def fnExactJoinStringsRow : OpenClaim := { program := "ytdiecblalplalaa", sum := "27367dca759d7ac6fb17ab13cd830e9363ac0c11eeb01d9405cbae862674cb9d", func := "loop.example/g01286/laws.FnExactJoinStrings", spec := "fnExactJoinStrings", inPlace := ["internal/bytealg.IndexByteString", "internal/bytealg.IndexString", "internal/abi.NoEscape", "internal/bytealg.MakeNoZero"], named := ["internal/bytealg.MaxLen"], apart := false }
def FnExactJoinStringsSaid : Prop := fnExactJoinStringsRow.holds Try.pinned (OpenSpec.ofChange fnExactJoinStringsSpec)

/-- ITS FALSE NEIGHBOUR: 'it returns false'. Refute it at one input. -/
def fnExactJoinStringsWrong : ChangeSpec := { name := "fnExactJoinStrings", fn := fun _ => fun
  | [d1, d2] => { results := [.lit (.bool false)], args := [d1, d2] }
  | _ => none }
def FnExactJoinStringsWrongFalsely : Prop := fnExactJoinStringsRow.holds Try.pinned (OpenSpec.ofChange fnExactJoinStringsWrong)

/-- 'laws.FnExactAvoidsAll': WHATEVER THE INPUT: true; the input reads as it did. -/
def fnExactAvoidsAllSpec : ChangeSpec := { name := "fnExactAvoidsAll", fn := fun _ => fun
  | [d1, d2] => { results := [.lit (.bool true)], args := [d1, d2] }
  | _ => none }
def fnExactAvoidsAllRow : OpenClaim := { program := "ytdiecblalplalaa", sum := "27367dca759d7ac6fb17ab13cd830e9363ac0c11eeb01d9405cbae862674cb9d", func := "loop.example/g01286/laws.FnExactAvoidsAll", spec := "fnExactAvoidsAll", unfollowed := true, recurses := true, apart := false }
def FnExactAvoidsAllSaid : Prop := fnExactAvoidsAllRow.holds Try.pinned (OpenSpec.ofChange fnExactAvoidsAllSpec)

/-- ITS FALSE NEIGHBOUR: 'it returns false'. Refute it at one input. -/
def fnExactAvoidsAllWrong : ChangeSpec := { name := "fnExactAvoidsAll", fn := fun _ => fun
  | [d1, d2] => { results := [.lit (.bool false)], args := [d1, d2] }
  | _ => none }
def FnExactAvoidsAllWrongFalsely : Prop := fnExactAvoidsAllRow.holds Try.pinned (OpenSpec.ofChange fnExactAvoidsAllWrong)

/- THE SECOND FORM. 'bulk': how many values and letters a reading holds, each counted each time it is reached (what is shared counts as often as it is met; a slice's spare places count too). A statement '..UptoSaid' is the law's where the arguments, and the package variables that the reading takes, are together of bulk at most 1048576: NARROWER than '..Said'. Prove '..Said' where nothing that the law and all that it calls make is longer than what came in: it says more and counts as full. Else prove '..UptoSaid'. A law counts once. -/
mutual
def uptoBulk {H : Type} : DataW H → Nat
  | .lit (.string bytes) => bytes.length + 1
  | .lit _ => 1
  | .nil => 1
  | .ptr d => uptoBulk d + 1
  | .slice elems spare => uptoBulkAll elems + uptoBulkAll spare + 1
  | .agg parts => uptoBulkAll parts + 1
  | .iface _ d => uptoBulk d + 1
  | .map entries => uptoBulkEntries entries + 1
  | .held _ => 1
def uptoBulkAll {H : Type} : List (DataW H) → Nat
  | [] => 0
  | d :: r => uptoBulk d + uptoBulkAll r
def uptoBulkEntries {H : Type} : List (Lit × DataW H) → Nat
  | [] => 0
  | x :: r => uptoBulkEntry x + uptoBulkEntries r
def uptoBulkEntry {H : Type} : Lit × DataW H → Nat
  | (.string bytes, d) => bytes.length + uptoBulk d + 1
  | (_, d) => uptoBulk d + 1
 end
def uptoSmall : (H : Type) → List (DataW H) → Bool := fun _ ds => decide (uptoBulkAll ds ≤ 1048576)
def OpenSpec.upto (s : _root_.Go.ChangeSpec) : _root_.Go.OpenSpec := { _root_.Go.OpenSpec.ofChange s with cond := some uptoSmall }

/-- 'laws.FnExactRunsOf', WHERE WHAT IT READS IS OF BULK AT MOST 1048576: true; the input reads as it did. -/
def fnExactRunsOfUptoRow : OpenClaim := { program := "ytdiecblalplalaa", sum := "27367dca759d7ac6fb17ab13cd830e9363ac0c11eeb01d9405cbae862674cb9d", func := "loop.example/g01286/laws.FnExactRunsOf", spec := "fnExactRunsOf", apart := false, narrowed := true }
def FnExactRunsOfUptoSaid : Prop := fnExactRunsOfUptoRow.holds Try.pinned (OpenSpec.upto fnExactRunsOfSpec)

/-- 'laws.FnExactSweepOrder', WHERE WHAT IT READS IS OF BULK AT MOST 1048576: true; the input reads as it did. -/
def fnExactSweepOrderUptoRow : OpenClaim := { program := "ytdiecblalplalaa", sum := "27367dca759d7ac6fb17ab13cd830e9363ac0c11eeb01d9405cbae862674cb9d", func := "loop.example/g01286/laws.FnExactSweepOrder", spec := "fnExactSweepOrder", unfollowed := true, recurses := true, apart := false, narrowed := true }
def FnExactSweepOrderUptoSaid : Prop := fnExactSweepOrderUptoRow.holds Try.pinned (OpenSpec.upto fnExactSweepOrderSpec)

/-- 'laws.FnExactIsSortable', WHERE WHAT IT READS IS OF BULK AT MOST 1048576: true; the input reads as it did. -/
def fnExactIsSortableUptoRow : OpenClaim := { program := "ytdiecblalplalaa", sum := "27367dca759d7ac6fb17ab13cd830e9363ac0c11eeb01d9405cbae862674cb9d", func := "loop.example/g01286/laws.FnExactIsSortable", spec := "fnExactIsSortable", unfollowed := true, recurses := true, apart := false, narrowed := true }
def FnExactIsSortableUptoSaid : Prop := fnExactIsSortableUptoRow.holds Try.pinned (OpenSpec.upto fnExactIsSortableSpec)

/-- 'laws.FnExactRunWord', WHERE WHAT IT READS IS OF BULK AT MOST 1048576: true; the input reads as it did. -/
def fnExactRunWordUptoRow : OpenClaim := { program := "ytdiecblalplalaa", sum := "27367dca759d7ac6fb17ab13cd830e9363ac0c11eeb01d9405cbae862674cb9d", func := "loop.example/g01286/laws.FnExactRunWord", spec := "fnExactRunWord", apart := false, narrowed := true }
def FnExactRunWordUptoSaid : Prop := fnExactRunWordUptoRow.holds Try.pinned (OpenSpec.upto fnExactRunWordSpec)

/-- 'laws.FnExactBadTriple', WHERE WHAT IT READS IS OF BULK AT MOST 1048576: true; the input reads as it did. -/
def fnExactBadTripleUptoRow : OpenClaim := { program := "ytdiecblalplalaa", sum := "27367dca759d7ac6fb17ab13cd830e9363ac0c11eeb01d9405cbae862674cb9d", func := "loop.example/g01286/laws.FnExactBadTriple", spec := "fnExactBadTriple", unfollowed := true, recurses := true, apart := false, narrowed := true }
def FnExactBadTripleUptoSaid : Prop := fnExactBadTripleUptoRow.holds Try.pinned (OpenSpec.upto fnExactBadTripleSpec)

/-- 'laws.FnExactCountSweeps', WHERE WHAT IT READS IS OF BULK AT MOST 1048576: true; the input reads as it did. -/
def fnExactCountSweepsUptoRow : OpenClaim := { program := "ytdiecblalplalaa", sum := "27367dca759d7ac6fb17ab13cd830e9363ac0c11eeb01d9405cbae862674cb9d", func := "loop.example/g01286/laws.FnExactCountSweeps", spec := "fnExactCountSweeps", unfollowed := true, recurses := true, apart := false, narrowed := true }
def FnExactCountSweepsUptoSaid : Prop := fnExactCountSweepsUptoRow.holds Try.pinned (OpenSpec.upto fnExactCountSweepsSpec)

/-- 'laws.FnExactContainsPattern', WHERE WHAT IT READS IS OF BULK AT MOST 1048576: true; the input reads as it did. -/
def fnExactContainsPatternUptoRow : OpenClaim := { program := "ytdiecblalplalaa", sum := "27367dca759d7ac6fb17ab13cd830e9363ac0c11eeb01d9405cbae862674cb9d", func := "loop.example/g01286/laws.FnExactContainsPattern", spec := "fnExactContainsPattern", unfollowed := true, recurses := true, apart := false, narrowed := true }
def FnExactContainsPatternUptoSaid : Prop := fnExactContainsPatternUptoRow.holds Try.pinned (OpenSpec.upto fnExactContainsPatternSpec)

/-- 'laws.FnExactCountPlaces', WHERE WHAT IT READS IS OF BULK AT MOST 1048576: true; the input reads as it did. -/
def fnExactCountPlacesUptoRow : OpenClaim := { program := "ytdiecblalplalaa", sum := "27367dca759d7ac6fb17ab13cd830e9363ac0c11eeb01d9405cbae862674cb9d", func := "loop.example/g01286/laws.FnExactCountPlaces", spec := "fnExactCountPlaces", unfollowed := true, recurses := true, apart := false, narrowed := true }
def FnExactCountPlacesUptoSaid : Prop := fnExactCountPlacesUptoRow.holds Try.pinned (OpenSpec.upto fnExactCountPlacesSpec)

/-- 'laws.FnExactFirstPlaces', WHERE WHAT IT READS IS OF BULK AT MOST 1048576: true; the input reads as it did. -/
def fnExactFirstPlacesUptoRow : OpenClaim := { program := "ytdiecblalplalaa", sum := "27367dca759d7ac6fb17ab13cd830e9363ac0c11eeb01d9405cbae862674cb9d", func := "loop.example/g01286/laws.FnExactFirstPlaces", spec := "fnExactFirstPlaces", unfollowed := true, recurses := true, apart := false, narrowed := true }
def FnExactFirstPlacesUptoSaid : Prop := fnExactFirstPlacesUptoRow.holds Try.pinned (OpenSpec.upto fnExactFirstPlacesSpec)

/-- 'laws.FnExactJoinStrings', WHERE WHAT IT READS IS OF BULK AT MOST 1048576: true; the input reads as it did. -/
def fnExactJoinStringsUptoRow : OpenClaim := { program := "ytdiecblalplalaa", sum := "27367dca759d7ac6fb17ab13cd830e9363ac0c11eeb01d9405cbae862674cb9d", func := "loop.example/g01286/laws.FnExactJoinStrings", spec := "fnExactJoinStrings", inPlace := ["internal/bytealg.IndexByteString", "internal/bytealg.IndexString", "internal/abi.NoEscape", "internal/bytealg.MakeNoZero"], named := ["internal/bytealg.MaxLen"], apart := false, narrowed := true }
def FnExactJoinStringsUptoSaid : Prop := fnExactJoinStringsUptoRow.holds Try.pinned (OpenSpec.upto fnExactJoinStringsSpec)

/-- 'laws.FnExactAvoidsAll', WHERE WHAT IT READS IS OF BULK AT MOST 1048576: true; the input reads as it did. -/
def fnExactAvoidsAllUptoRow : OpenClaim := { program := "ytdiecblalplalaa", sum := "27367dca759d7ac6fb17ab13cd830e9363ac0c11eeb01d9405cbae862674cb9d", func := "loop.example/g01286/laws.FnExactAvoidsAll", spec := "fnExactAvoidsAll", unfollowed := true, recurses := true, apart := false, narrowed := true }
def FnExactAvoidsAllUptoSaid : Prop := fnExactAvoidsAllUptoRow.holds Try.pinned (OpenSpec.upto fnExactAvoidsAllSpec)

end Rows
end Go.Proofs.Ytdiecblalplalaa
