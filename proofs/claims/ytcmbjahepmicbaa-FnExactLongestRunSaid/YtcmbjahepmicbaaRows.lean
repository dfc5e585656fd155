/-
  No cell of these rows narrows 'for every input' (looked for: loops, veiled, ifaces, maps, wideKeys, modest, calm, conditions, laid).
  DERIVED. THE GIVEN ROWS OF THIS SEAT. 12 by the template 'for every input the law returns true; each argument reads behind the call as it read before'; 0 by the template 'total and deterministic' (their statements: YtcmbjahepmicbaaTotals.lean).
  GIVEN WITH THE SEED: the statements are not yours to turn. If you find one false, say at which input.
  Laid BY PROGRAM, IN A SANDBOX (cutbox-rows.mjs): the forced cells as the released guide's own fill.sh prints them over the translation 3aca18b3412787b1… (all of the seat's roots in one cut). By AI agents, Wed Nov 11 2026. No macro, syntax, notation, axiom, sorry.
-/
import Derived.Test.YtcmbjahepmicbaaChecked
import GoSem.Claim
import GoSem.ClaimJoined
import GoSem.ClaimMapViews
import Derived.JoinedTies
import Derived.KernelRfl
namespace Go.Proofs.Ytcmbjahepmicbaa
/- THE CELL 'sum', in the pinned program and in every row, IS THE sha256 OF THE DUMP (.gsa) THAT YtcmbjahepmicbaaProg.lean LOADS. Nothing in Lean hashes anything: it is a label: what it is worth is what the hold of that sum in a sandbox is worth. -/
noncomputable def Try.pinned : Pinned := { name := "ytcmbjahepmicbaa", sum := "3aca18b3412787b11e30b4912e8aae3d1bb8cc6fce5848f8873b20406b280d1b", checked := Try.checked }
namespace Rows
def none {H : Type} : Left H := { results := [], args := [] }

/-- 'laws.FnExactOppositeAround': WHATEVER THE INPUT: true; the input reads as it did. -/
def fnExactOppositeAroundSpec : ChangeSpec := { name := "fnExactOppositeAround", fn := fun _ => fun
  | [d1, d2] => { results := [.lit (.bool true)], args := [d1, d2] }
  | _ => none }
def fnExactOppositeAroundRow : OpenClaim := { program := "ytcmbjahepmicbaa", sum := "3aca18b3412787b11e30b4912e8aae3d1bb8cc6fce5848f8873b20406b280d1b", func := "loop.example/g01395/laws.FnExactOppositeAround", spec := "fnExactOppositeAround", apart := false }
def FnExactOppositeAroundSaid : Prop := fnExactOppositeAroundRow.holds Try.pinned (OpenSpec.ofChange fnExactOppositeAroundSpec)

/-- ITS FALSE NEIGHBOUR: 'it returns false'. Refute it at one input. -/
def fnExactOppositeAroundWrong : ChangeSpec := { name := "fnExactOppositeAround", fn := fun _ => fun
  | [d1, d2] => { results := [.lit (.bool false)], args := [d1, d2] }
  | _ => none }
def FnExactOppositeAroundWrongFalsely : Prop := fnExactOppositeAroundRow.holds Try.pinned (OpenSpec.ofChange fnExactOppositeAroundWrong)

/-- 'laws.FnExactSumOfHouses': WHATEVER THE INPUT: true; the input reads as it did. -/
def fnExactSumOfHousesSpec : ChangeSpec := { name := "fnExactSumOfHouses", fn := fun _ => fun
  | [d1, d2, d3] => { results := [.lit (.bool true)], args := [d1, d2, d3] }
  | _ => none }
def fnExactSumOfHousesRow : OpenClaim := { program := "ytcmbjahepmicbaa", sum := "3aca18b3412787b11e30b4912e8aae3d1bb8cc6fce5848f8873b20406b280d1b", func := "loop.example/g01395/laws.FnExactSumOfHouses", spec := "fnExactSumOfHouses", apart := false }
def FnExactSumOfHousesSaid : Prop := fnExactSumOfHousesRow.holds Try.pinned (OpenSpec.ofChange fnExactSumOfHousesSpec)

/-- ITS FALSE NEIGHBOUR: 'it returns false'. Refute it at one input. -/
def fnExactSumOfHousesWrong : ChangeSpec := { name := "fnExactSumOfHouses", fn := fun _ => fun
  | [d1, d2, d3] => { results := [.lit (.bool false)], args := [d1, d2, d3] }
  | _ => none }
def FnExactSumOfHousesWrongFalsely : Prop := fnExactSumOfHousesRow.holds Try.pinned (OpenSpec.ofChange fnExactSumOfHousesWrong)

/-- 'laws.FnExactMiddleHouse': WHATEVER THE INPUT: true; the input reads as it did. -/
def fnExactMiddleHouseSpec : ChangeSpec := { name := "fnExactMiddleHouse", fn := fun _ => fun
  | [d1, d2] => { results := [.lit (.bool true)], args := [d1, d2] }
  | _ => none }
def fnExactMiddleHouseRow : OpenClaim := { program := "ytcmbjahepmicbaa", sum := "3aca18b3412787b11e30b4912e8aae3d1bb8cc6fce5848f8873b20406b280d1b", func := "loop.example/g01395/laws.FnExactMiddleHouse", spec := "fnExactMiddleHouse", apart := false }
def FnExactMiddleHouseSaid : Prop := fnExactMiddleHouseRow.holds Try.pinned (OpenSpec.ofChange fnExactMiddleHouseSpec)

/-- ITS FALSE NEIGHBOUR: 'it returns false'. Refute it at one input. -/
def fnExactMiddleHouseWrong : ChangeSpec := { name := "fnExactMiddleHouse", fn := fun _ => fun
  | [d1, d2] => { results := [.lit (.bool false)], args := [d1, d2] }
  | _ => none }
def FnExactMiddleHouseWrongFalsely : Prop := fnExactMiddleHouseRow.holds Try.pinned (OpenSpec.ofChange fnExactMiddleHouseWrong)

/-- 'laws.FnExactSumLeft': WHATEVER THE INPUT: true; the input reads as it did. -/
def fnExactSumLeftSpec : ChangeSpec := { name := "fnExactSumLeft", fn := fun _ => fun
  | [d1, d2, d3] => { results := [.lit (.bool true)], args := [d1, d2, d3] }
  | _ => none }
def fnExactSumLeftRow : OpenClaim := { program := "ytcmbjahepmicbaa", sum := "3aca18b3412787b11e30b4912e8aae3d1bb8cc6fce5848f8873b20406b280d1b", func := "loop.example/g01395/laws.FnExactSumLeft", spec := "fnExactSumLeft", apart := false }
def FnExactSumLeftSaid : Prop := fnExactSumLeftRow.holds Try.pinned (OpenSpec.ofChange fnExactSumLeftSpec)

/-- ITS FALSE NEIGHBOUR: 'it returns false'. Refute it at one input. -/
def fnExactSumLeftWrong : ChangeSpec := { name := "fnExactSumLeft", fn := fun _ => fun
  | [d1, d2, d3] => { results := [.lit (.bool false)], args := [d1, d2, d3] }
  | _ => none }
def FnExactSumLeftWrongFalsely : Prop := fnExactSumLeftRow.holds Try.pinned (OpenSpec.ofChange fnExactSumLeftWrong)

/-- 'laws.FnExactSumRight': WHATEVER THE INPUT: true; the input reads as it did. -/
def fnExactSumRightSpec : ChangeSpec := { name := "fnExactSumRight", fn := fun _ => fun
  | [d1, d2, d3] => { results := [.lit (.bool true)], args := [d1, d2, d3] }
  | _ => none }
def fnExactSumRightRow : OpenClaim := { program := "ytcmbjahepmicbaa", sum := "3aca18b3412787b11e30b4912e8aae3d1bb8cc6fce5848f8873b20406b280d1b", func := "loop.example/g01395/laws.FnExactSumRight", spec := "fnExactSumRight", apart := false }
def FnExactSumRightSaid : Prop := fnExactSumRightRow.holds Try.pinned (OpenSpec.ofChange fnExactSumRightSpec)

/-- ITS FALSE NEIGHBOUR: 'it returns false'. Refute it at one input. -/
def fnExactSumRightWrong : ChangeSpec := { name := "fnExactSumRight", fn := fun _ => fun
  | [d1, d2, d3] => { results := [.lit (.bool false)], args := [d1, d2, d3] }
  | _ => none }
def FnExactSumRightWrongFalsely : Prop := fnExactSumRightRow.holds Try.pinned (OpenSpec.ofChange fnExactSumRightWrong)

/-- 'laws.FnExactOppositeOdd': WHATEVER THE INPUT: true; the input reads as it did. -/
def fnExactOppositeOddSpec : ChangeSpec := { name := "fnExactOppositeOdd", fn := fun _ => fun
  | [d] => { results := [.lit (.bool true)], args := [d] }
  | _ => none }
def fnExactOppositeOddRow : OpenClaim := { program := "ytcmbjahepmicbaa", sum := "3aca18b3412787b11e30b4912e8aae3d1bb8cc6fce5848f8873b20406b280d1b", func := "loop.example/g01395/laws.FnExactOppositeOdd", spec := "fnExactOppositeOdd", apart := false }
def FnExactOppositeOddSaid : Prop := fnExactOppositeOddRow.holds Try.pinned (OpenSpec.ofChange fnExactOppositeOddSpec)

/-- ITS FALSE NEIGHBOUR: 'it returns false'. Refute it at one input. -/
def fnExactOppositeOddWrong : ChangeSpec := { name := "fnExactOppositeOdd", fn := fun _ => fun
  | [d] => { results := [.lit (.bool false)], args := [d] }
  | _ => none }
def FnExactOppositeOddWrongFalsely : Prop := fnExactOppositeOddRow.holds Try.pinned (OpenSpec.ofChange fnExactOppositeOddWrong)

/-- 'laws.FnExactNeighbourSums': WHATEVER THE INPUT: true; the input reads as it did. -/
def fnExactNeighbourSumsSpec : ChangeSpec := { name := "fnExactNeighbourSums", fn := fun _ => fun
  | [d1, d2] => { results := [.lit (.bool true)], args := [d1, d2] }
  | _ => none }
def fnExactNeighbourSumsRow : OpenClaim := { program := "ytcmbjahepmicbaa", sum := "3aca18b3412787b11e30b4912e8aae3d1bb8cc6fce5848f8873b20406b280d1b", func := "loop.example/g01395/laws.FnExactNeighbourSums", spec := "fnExactNeighbourSums", apart := false }
def FnExactNeighbourSumsSaid : Prop := fnExactNeighbourSumsRow.holds Try.pinned (OpenSpec.ofChange fnExactNeighbourSumsSpec)

/-- ITS FALSE NEIGHBOUR: 'it returns false'. Refute it at one input. -/
def fnExactNeighbourSumsWrong : ChangeSpec := { name := "fnExactNeighbourSums", fn := fun _ => fun
  | [d1, d2] => { results := [.lit (.bool false)], args := [d1, d2] }
  | _ => none }
def FnExactNeighbourSumsWrongFalsely : Prop := fnExactNeighbourSumsRow.holds Try.pinned (OpenSpec.ofChange fnExactNeighbourSumsWrong)

/-- 'laws.FnExactMissingHouse': WHATEVER THE INPUT: true; the input reads as it did. -/
def fnExactMissingHouseSpec : ChangeSpec := { name := "fnExactMissingHouse", fn := fun _ => fun
  | [d] => { results := [.lit (.bool true)], args := [d] }
  | _ => none }
def fnExactMissingHouseRow : OpenClaim := { program := "ytcmbjahepmicbaa", sum := "3aca18b3412787b11e30b4912e8aae3d1bb8cc6fce5848f8873b20406b280d1b", func := "loop.example/g01395/laws.FnExactMissingHouse", spec := "fnExactMissingHouse", apart := false }
def FnExactMissingHouseSaid : Prop := fnExactMissingHouseRow.holds Try.pinned (OpenSpec.ofChange fnExactMissingHouseSpec)

/-- ITS FALSE NEIGHBOUR: 'it returns false'. Refute it at one input. -/
def fnExactMissingHouseWrong : ChangeSpec := { name := "fnExactMissingHouse", fn := fun _ => fun
  | [d] => { results := [.lit (.bool false)], args := [d] }
  | _ => none }
def FnExactMissingHouseWrongFalsely : Prop := fnExactMissingHouseRow.holds Try.pinned (OpenSpec.ofChange fnExactMissingHouseWrong)

/-- 'laws.FnExactCountRuns': WHATEVER THE INPUT: true; the input reads as it did. -/
def fnExactCountRunsSpec : ChangeSpec := { name := "fnExactCountRuns", fn := fun _ => fun
  | [d] => { results := [.lit (.bool true)], args := [d] }
  | _ => none }
def fnExactCountRunsRow : OpenClaim := { program := "ytcmbjahepmicbaa", sum := "3aca18b3412787b11e30b4912e8aae3d1bb8cc6fce5848f8873b20406b280d1b", func := "loop.example/g01395/laws.FnExactCountRuns", spec := "fnExactCountRuns", apart := false }
def FnExactCountRunsSaid : Prop := fnExactCountRunsRow.holds Try.pinned (OpenSpec.ofChange fnExactCountRunsSpec)

/-- ITS FALSE NEIGHBOUR: 'it returns false'. Refute it at one input. -/
def fnExactCountRunsWrong : ChangeSpec := { name := "fnExactCountRuns", fn := fun _ => fun
  | [d] => { results := [.lit (.bool false)], args := [d] }
  | _ => none }
def FnExactCountRunsWrongFalsely : Prop := fnExactCountRunsRow.holds Try.pinned (OpenSpec.ofChange fnExactCountRunsWrong)

/-- 'laws.FnExactLastForSum': WHATEVER THE INPUT: true; the input reads as it did. -/
def fnExactLastForSumSpec : ChangeSpec := { name := "fnExactLastForSum", fn := fun _ => fun
  | [d1, d2] => { results := [.lit (.bool true)], args := [d1, d2] }
  | _ => none }
def fnExactLastForSumRow : OpenClaim := { program := "ytcmbjahepmicbaa", sum := "3aca18b3412787b11e30b4912e8aae3d1bb8cc6fce5848f8873b20406b280d1b", func := "loop.example/g01395/laws.FnExactLastForSum", spec := "fnExactLastForSum", apart := false }
def FnExactLastForSumSaid : Prop := fnExactLastForSumRow.holds Try.pinned (OpenSpec.ofChange fnExactLastForSumSpec)

/-- ITS FALSE NEIGHBOUR: 'it returns false'. Refute it at one input. -/
def fnExactLastForSumWrong : ChangeSpec := { name := "fnExactLastForSum", fn := fun _ => fun
  | [d1, d2] => { results := [.lit (.bool false)], args := [d1, d2] }
  | _ => none }
def FnExactLastForSumWrongFalsely : Prop := fnExactLastForSumRow.holds Try.pinned (OpenSpec.ofChange fnExactLastForSumWrong)

/-- 'laws.FnExactStreetOfSum': WHATEVER THE INPUT: true; the input reads as it did. -/
def fnExactStreetOfSumSpec : ChangeSpec := { name := "fnExactStreetOfSum", fn := fun _ => fun
  | [d] => { results := [.lit (.bool true)], args := [d] }
  | _ => none }
def fnExactStreetOfSumRow : OpenClaim := { program := "ytcmbjahepmicbaa", sum := "3aca18b3412787b11e30b4912e8aae3d1bb8cc6fce5848f8873b20406b280d1b", func := "loop.example/g01395/laws.FnExactStreetOfSum", spec := "fnExactStreetOfSum", apart := false }
def FnExactStreetOfSumSaid : Prop := fnExactStreetOfSumRow.holds Try.pinned (OpenSpec.ofChange fnExactStreetOfSumSpec)

/-- ITS FALSE NEIGHBOUR: 'it returns false'. Refute it at one input. -/
def fnExactStreetOfSumWrong : ChangeSpec := { name := "fnExactStreetOfSum", fn := fun _ => fun
  | [d] => { results := [.lit (.bool false)], args := [d] }
  | _ => none }
def FnExactStreetOfSumWrongFalsely : Prop := fnExactStreetOfSumRow.holds Try.pinned (OpenSpec.ofChange fnExactStreetOfSumWrong)

/-- 'laws.FnExactLongestRun': WHATEVER THE INPUT: true; the input reads as it did. -/
def fnExactLongestRunSpec : ChangeSpec := { name := "fnExactLongestRun", fn := fun _ => fun
  | [d] => { results := [.lit (.bool true)], args := [d] }
  | _ => none }
def fnExactLongestRunRow : OpenClaim := { program := "ytcmbjahepmicbaa", sum := "3aca18b3412787b11e30b4912e8aae3d1bb8cc6fce5848f8873b20406b280d1b", func := "loop.example/g01395/laws.FnExactLongestRun", spec := "fnExactLongestRun", apart := false }
def FnExactLongestRunSaid : Prop := fnExactLongestRunRow.holds Try.pinned (OpenSpec.ofChange fnExactLongestRunSpec)

/-- ITS FALSE NEIGHBOUR: 'it returns false'. Refute it at one input. -/
def fnExactLongestRunWrong : ChangeSpec := { name := "fnExactLongestRun", fn := fun _ => fun
  | [d] => { results := [.lit (.bool false)], args := [d] }
  | _ => none }
def FnExactLongestRunWrongFalsely : Prop := fnExactLongestRunRow.holds Try.pinned (OpenSpec.ofChange fnExactLongestRunWrong)

/- THE SECOND FORM. 'bulk': how many values and letters a reading holds, each counted each time it is reached (what is shared counts as often as it is met; a slice's spare places count too). A statement '..UptoSaid' is the law's where the arguments, and the package variables that the reading takes, are together of bulk at most 1048576: NARROWER than '..Said'. Prove '..Said' where nothing that the law and all that it calls make is longer than what came in: it says more and counts as full. Else prove '..UptoSaid'. A law counts once. -/
mutual
def uptoBulk {H : Type} : DataW H → Nat
  | .lit (.string bytes) => bytes.length + 1
  | .lit _ => 1
  | .nil => 1
  | .ptr d => uptoBulk d + 1
  | .slice elems spare => uptoBulkAll elems + uptoBulkAll spare + 1
  | .agg parts => uptoBulkAll parts + 1
  | .iface _ d => uptoBulk d + 1
  | .map entries => uptoBulkEntries entries + 1
  | .held _ => 1
def uptoBulkAll {H : Type} : List (DataW H) → Nat
  | [] => 0
  | d :: r => uptoBulk d + uptoBulkAll r
def uptoBulkEntries {H : Type} : List (Lit × DataW H) → Nat
  | [] => 0
  | x :: r => uptoBulkEntry x + uptoBulkEntries r
def uptoBulkEntry {H : Type} : Lit × DataW H → Nat
  | (.string bytes, d) => bytes.length + uptoBulk d + 1
  | (_, d) => uptoBulk d + 1
 end
def uptoSmall : (H : Type) → List (DataW H) → Bool := fun _ ds => decide (uptoBulkAll ds ≤ 1048576)
def OpenSpec.upto (s : _root_.Go.ChangeSpec) : _root_.Go.OpenSpec := { _root_.Go.OpenSpec.ofChange s with cond := some uptoSmall }

/-- 'laws.FnExactOppositeAround', WHERE WHAT IT READS IS OF BULK AT MOST 1048576: true; the input reads as it did. -/
def fnExactOppositeAroundUptoRow : OpenClaim := { program := "ytcmbjahepmicbaa", sum := "3aca18b3412787b11e30b4912e8aae3d1bb8cc6fce5848f8873b20406b280d1b", func := "loop.example/g01395/laws.FnExactOppositeAround", spec := "fnExactOppositeAround", apart := false, narrowed := true }
def FnExactOppositeAroundUptoSaid : Prop := fnExactOppositeAroundUptoRow.holds Try.pinned (OpenSpec.upto fnExactOppositeAroundSpec)

/-- 'laws.FnExactSumOfHouses', WHERE WHAT IT READS IS OF BULK AT MOST 1048576: true; the input reads as it did. -/
def fnExactSumOfHousesUptoRow : OpenClaim := { program := "ytcmbjahepmicbaa", sum := "3aca18b3412787b11e30b4912e8aae3d1bb8cc6fce5848f8873b20406b280d1b", func := "loop.example/g01395/laws.FnExactSumOfHouses", spec := "fnExactSumOfHouses", apart := false, narrowed := true }
def FnExactSumOfHousesUptoSaid : Prop := fnExactSumOfHousesUptoRow.holds Try.pinned (OpenSpec.upto fnExactSumOfHousesSpec)

/-- 'laws.FnExactMiddleHouse', WHERE WHAT IT READS IS OF BULK AT MOST 1048576: true; the input reads as it did. -/
def fnExactMiddleHouseUptoRow : OpenClaim := { program := "ytcmbjahepmicbaa", sum := "3aca18b3412787b11e30b4912e8aae3d1bb8cc6fce5848f8873b20406b280d1b", func := "loop.example/g01395/laws.FnExactMiddleHouse", spec := "fnExactMiddleHouse", apart := false, narrowed := true }
def FnExactMiddleHouseUptoSaid : Prop := fnExactMiddleHouseUptoRow.holds Try.pinned (OpenSpec.upto fnExactMiddleHouseSpec)

/-- 'laws.FnExactSumLeft', WHERE WHAT IT READS IS OF BULK AT MOST 1048576: true; the input reads as it did. -/
def fnExactSumLeftUptoRow : OpenClaim := { program := "ytcmbjahepmicbaa", sum := "3aca18b3412787b11e30b4912e8aae3d1bb8cc6fce5848f8873b20406b280d1b", func := "loop.example/g01395/laws.FnExactSumLeft", spec := "fnExactSumLeft", apart := false, narrowed := true }
def FnExactSumLeftUptoSaid : Prop := fnExactSumLeftUptoRow.holds Try.pinned (OpenSpec.upto fnExactSumLeftSpec)

/-- 'laws.FnExactSumRight', WHERE WHAT IT READS IS OF BULK AT MOST 1048576: true; the input reads as it did. -/
def fnExactSumRightUptoRow : OpenClaim := { program := "ytcmbjahepmicbaa", sum := "3aca18b3412787b11e30b4912e8aae3d1bb8cc6fce5848f8873b20406b280d1b", func := "loop.example/g01395/laws.FnExactSumRight", spec := "fnExactSumRight", apart := false, narrowed := true }
def FnExactSumRightUptoSaid : Prop := fnExactSumRightUptoRow.holds Try.pinned (OpenSpec.upto fnExactSumRightSpec)

/-- 'laws.FnExactOppositeOdd', WHERE WHAT IT READS IS OF BULK AT MOST 1048576: true; the input reads as it did. -/
def fnExactOppositeOddUptoRow : OpenClaim := { program := "ytcmbjahepmicbaa", sum := "3aca18b3412787b11e30b4912e8aae3d1bb8cc6fce5848f8873b20406b280d1b", func := "loop.example/g01395/laws.FnExactOppositeOdd", spec := "fnExactOppositeOdd", apart := false, narrowed := true }
def FnExactOppositeOddUptoSaid : Prop := fnExactOppositeOddUptoRow.holds Try.pinned (OpenSpec.upto fnExactOppositeOddSpec)

/-- 'laws.FnExactNeighbourSums', WHERE WHAT IT READS IS OF BULK AT MOST 1048576: true; the input reads as it did. -/
def fnExactNeighbourSumsUptoRow : OpenClaim := { program := "ytcmbjahepmicbaa", sum := "3aca18b3412787b11e30b4912e8aae3d1bb8cc6fce5848f8873b20406b280d1b", func := "loop.example/g01395/laws.FnExactNeighbourSums", spec := "fnExactNeighbourSums", apart := false, narrowed := true }
def FnExactNeighbourSumsUptoSaid : Prop := fnExactNeighbourSumsUptoRow.holds Try.pinned (OpenSpec.upto fnExactNeighbourSumsSpec)

/-- 'laws.FnExactMissingHouse', WHERE WHAT IT READS IS OF BULK AT MOST 1048576: true; the input reads as it did. -/
def fnExactMissingHouseUptoRow : OpenClaim := { program := "ytcmbjahepmicbaa", sum := "3aca18b3412787b11e30b4912e8aae3d1bb8cc6fce5848f8873b20406b280d1b", func := "loop.example/g01395/laws.FnExactMissingHouse", spec := "fnExactMissingHouse", apart := false, narrowed := true }
def FnExactMissingHouseUptoSaid : Prop := fnExactMissingHouseUptoRow.holds Try.pinned (OpenSpec.upto fnExactMissingHouseSpec)

/-- 'laws.FnExactCountRuns', WHERE WHAT IT READS IS OF BULK AT MOST 1048576: true; the input reads as it did. -/
def fnExactCountRunsUptoRow : OpenClaim := { program := "ytcmbjahepmicbaa", sum := "3aca18b3412787b11e30b4912e8aae3d1bb8cc6fce5848f8873b20406b280d1b", func := "loop.example/g01395/laws.FnExactCountRuns", spec := "fnExactCountRuns", apart := false, narrowed := true }
def FnExactCountRunsUptoSaid : Prop := fnExactCountRunsUptoRow.holds Try.pinned (OpenSpec.upto fnExactCountRunsSpec)

/-- 'laws.FnExactLastForSum', WHERE WHAT IT READS IS OF BULK AT MOST 1048576: true; the input reads as it did. -/
def fnExactLastForSumUptoRow : OpenClaim := { program := "ytcmbjahepmicbaa", sum := "3aca18b3412787b11e30b4912e8aae3d1bb8cc6fce5848f8873b20406b280d1b", func := "loop.example/g01395/laws.FnExactLastForSum", spec := "fnExactLastForSum", apart := false, narrowed := true }
def FnExactLastForSumUptoSaid : Prop := fnExactLastForSumUptoRow.holds Try.pinned (OpenSpec.upto fnExactLastForSumSpec)

/-- 'laws.FnExactStreetOfSum', WHERE WHAT IT READS IS OF BULK AT MOST 1048576: true; the input reads as it did. -/
def fnExactStreetOfSumUptoRow : OpenClaim := { program := "ytcmbjahepmicbaa", sum := "3aca18b3412787b11e30b4912e8aae3d1bb8cc6fce5848f8873b20406b280d1b", func := "loop.example/g01395/laws.FnExactStreetOfSum", spec := "fnExactStreetOfSum", apart := false, narrowed := true }
def FnExactStreetOfSumUptoSaid : Prop := fnExactStreetOfSumUptoRow.holds Try.pinned (OpenSpec.upto fnExactStreetOfSumSpec)

/-- 'laws.FnExactLongestRun', WHERE WHAT IT READS IS OF BULK AT MOST 1048576: true; the input reads as it did. -/
def fnExactLongestRunUptoRow : OpenClaim := { program := "ytcmbjahepmicbaa", sum := "3aca18b3412787b11e30b4912e8aae3d1bb8cc6fce5848f8873b20406b280d1b", func := "loop.example/g01395/laws.FnExactLongestRun", spec := "fnExactLongestRun", apart := false, narrowed := true }
def FnExactLongestRunUptoSaid : Prop := fnExactLongestRunUptoRow.holds Try.pinned (OpenSpec.upto fnExactLongestRunSpec)

end Rows
end Go.Proofs.Ytcmbjahepmicbaa
