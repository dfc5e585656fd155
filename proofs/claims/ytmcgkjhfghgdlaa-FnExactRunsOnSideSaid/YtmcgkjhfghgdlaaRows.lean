/-
  No cell of these rows narrows 'for every input' (looked for: loops, veiled, ifaces, maps, wideKeys, modest, calm, conditions, laid).
  DERIVED. THE GIVEN ROWS OF THIS SEAT. 7 by the template 'for every input the law returns true; each argument reads behind the call as it read before'; 0 by the template 'total and deterministic' (their statements: YtmcgkjhfghgdlaaTotals.lean).
  GIVEN WITH THE SEED: the statements are not yours to turn. If you find one false, say at which input.
  Laid BY PROGRAM, IN A SANDBOX (cutbox-rows.mjs): the forced cells as the released guide's own fill.sh prints them over the translation 09fd02c995c05250… (all of the seat's roots in one cut). By AI agents, Wed Nov 11 2026. No macro, syntax, notation, axiom, sorry.
-/
import Derived.Test.YtmcgkjhfghgdlaaChecked
import GoSem.Claim
import GoSem.ClaimJoined
import GoSem.ClaimMapViews
import Derived.JoinedTies
import Derived.KernelRfl
namespace Go.Proofs.Ytmcgkjhfghgdlaa
/- THE CELL 'sum', in the pinned program and in every row, IS THE sha256 OF THE DUMP (.gsa) THAT YtmcgkjhfghgdlaaProg.lean LOADS. Nothing in Lean hashes anything: it is a label: what it is worth is what the hold of that sum in a sandbox is worth. -/
noncomputable def Try.pinned : Pinned := { name := "ytmcgkjhfghgdlaa", sum := "09fd02c995c05250837539593a9e141b13459b2cda74bd5baee7fa8581d37297", checked := Try.checked }
namespace Rows
def none {H : Type} : Left H := { results := [], args := [] }

/-- 'laws.FnExactDoubleSum': WHATEVER THE INPUT: true; the input reads as it did. -/
def fnExactDoubleSumSpec : ChangeSpec := { name := "fnExactDoubleSum", fn := fun _ => fun
  | [d1, d2] => { results := [.lit (.bool true)], args := [d1, d2] }
  | _ => none }
def fnExactDoubleSumRow : OpenClaim := { program := "ytmcgkjhfghgdlaa", sum := "09fd02c995c05250837539593a9e141b13459b2cda74bd5baee7fa8581d37297", func := "loop.example/g01395/laws.FnExactDoubleSum", spec := "fnExactDoubleSum", apart := false }
def FnExactDoubleSumSaid : Prop := fnExactDoubleSumRow.holds Try.pinned (OpenSpec.ofChange fnExactDoubleSumSpec)

/-- ITS FALSE NEIGHBOUR: 'it returns false'. Refute it at one input. -/
def fnExactDoubleSumWrong : ChangeSpec := { name := "fnExactDoubleSum", fn := fun _ => fun
  | [d1, d2] => { results := [.lit (.bool false)], args := [d1, d2] }
  | _ => none }
def FnExactDoubleSumWrongFalsely : Prop := fnExactDoubleSumRow.holds Try.pinned (OpenSpec.ofChange fnExactDoubleSumWrong)

/-- 'laws.FnExactBalancedHouse': WHATEVER THE INPUT: true; the input reads as it did. -/
def fnExactBalancedHouseSpec : ChangeSpec := { name := "fnExactBalancedHouse", fn := fun _ => fun
  | [d1, d2] => { results := [.lit (.bool true)], args := [d1, d2] }
  | _ => none }
def fnExactBalancedHouseRow : OpenClaim := { program := "ytmcgkjhfghgdlaa", sum := "09fd02c995c05250837539593a9e141b13459b2cda74bd5baee7fa8581d37297", func := "loop.example/g01395/laws.FnExactBalancedHouse", spec := "fnExactBalancedHouse", apart := false }
def FnExactBalancedHouseSaid : Prop := fnExactBalancedHouseRow.holds Try.pinned (OpenSpec.ofChange fnExactBalancedHouseSpec)

/-- ITS FALSE NEIGHBOUR: 'it returns false'. Refute it at one input. -/
def fnExactBalancedHouseWrong : ChangeSpec := { name := "fnExactBalancedHouse", fn := fun _ => fun
  | [d1, d2] => { results := [.lit (.bool false)], args := [d1, d2] }
  | _ => none }
def FnExactBalancedHouseWrongFalsely : Prop := fnExactBalancedHouseRow.holds Try.pinned (OpenSpec.ofChange fnExactBalancedHouseWrong)

/-- 'laws.FnExactSquareStreets': WHATEVER THE INPUT: true; the input reads as it did. -/
def fnExactSquareStreetsSpec : ChangeSpec := { name := "fnExactSquareStreets", fn := fun _ => fun
  | [d] => { results := [.lit (.bool true)], args := [d] }
  | _ => none }
def fnExactSquareStreetsRow : OpenClaim := { program := "ytmcgkjhfghgdlaa", sum := "09fd02c995c05250837539593a9e141b13459b2cda74bd5baee7fa8581d37297", func := "loop.example/g01395/laws.FnExactSquareStreets", spec := "fnExactSquareStreets", apart := false }
def FnExactSquareStreetsSaid : Prop := fnExactSquareStreetsRow.holds Try.pinned (OpenSpec.ofChange fnExactSquareStreetsSpec)

/-- ITS FALSE NEIGHBOUR: 'it returns false'. Refute it at one input. -/
def fnExactSquareStreetsWrong : ChangeSpec := { name := "fnExactSquareStreets", fn := fun _ => fun
  | [d] => { results := [.lit (.bool false)], args := [d] }
  | _ => none }
def FnExactSquareStreetsWrongFalsely : Prop := fnExactSquareStreetsRow.holds Try.pinned (OpenSpec.ofChange fnExactSquareStreetsWrong)

/-- 'laws.FnExactBalancedOdd': WHATEVER THE INPUT: true; the input reads as it did. -/
def fnExactBalancedOddSpec : ChangeSpec := { name := "fnExactBalancedOdd", fn := fun _ => fun
  | [d] => { results := [.lit (.bool true)], args := [d] }
  | _ => none }
def fnExactBalancedOddRow : OpenClaim := { program := "ytmcgkjhfghgdlaa", sum := "09fd02c995c05250837539593a9e141b13459b2cda74bd5baee7fa8581d37297", func := "loop.example/g01395/laws.FnExactBalancedOdd", spec := "fnExactBalancedOdd", apart := false }
def FnExactBalancedOddSaid : Prop := fnExactBalancedOddRow.holds Try.pinned (OpenSpec.ofChange fnExactBalancedOddSpec)

/-- ITS FALSE NEIGHBOUR: 'it returns false'. Refute it at one input. -/
def fnExactBalancedOddWrong : ChangeSpec := { name := "fnExactBalancedOdd", fn := fun _ => fun
  | [d] => { results := [.lit (.bool false)], args := [d] }
  | _ => none }
def FnExactBalancedOddWrongFalsely : Prop := fnExactBalancedOddRow.holds Try.pinned (OpenSpec.ofChange fnExactBalancedOddWrong)

/-- 'laws.FnExactBalancedStreets': WHATEVER THE INPUT: true; the input reads as it did. -/
def fnExactBalancedStreetsSpec : ChangeSpec := { name := "fnExactBalancedStreets", fn := fun _ => fun
  | [d] => { results := [.lit (.bool true)], args := [d] }
  | _ => none }
def fnExactBalancedStreetsRow : OpenClaim := { program := "ytmcgkjhfghgdlaa", sum := "09fd02c995c05250837539593a9e141b13459b2cda74bd5baee7fa8581d37297", func := "loop.example/g01395/laws.FnExactBalancedStreets", spec := "fnExactBalancedStreets", apart := false }
def FnExactBalancedStreetsSaid : Prop := fnExactBalancedStreetsRow.holds Try.pinned (OpenSpec.ofChange fnExactBalancedStreetsSpec)

/-- ITS FALSE NEIGHBOUR: 'it returns false'. Refute it at one input. -/
def fnExactBalancedStreetsWrong : ChangeSpec := { name := "fnExactBalancedStreets", fn := fun _ => fun
  | [d] => { results := [.lit (.bool false)], args := [d] }
  | _ => none }
def FnExactBalancedStreetsWrongFalsely : Prop := fnExactBalancedStreetsRow.holds Try.pinned (OpenSpec.ofChange fnExactBalancedStreetsWrong)

/-- 'laws.FnExactRunsOnSide': WHATEVER THE INPUT: true; the input reads as it did. -/
def fnExactRunsOnSideSpec : ChangeSpec := { name := "fnExactRunsOnSide", fn := fun _ => fun
  | [d] => { results := [.lit (.bool true)], args := [d] }
  | _ => none }
def fnExactRunsOnSideRow : OpenClaim := { program := "ytmcgkjhfghgdlaa", sum := "09fd02c995c05250837539593a9e141b13459b2cda74bd5baee7fa8581d37297", func := "loop.example/g01395/laws.FnExactRunsOnSide", spec := "fnExactRunsOnSide", apart := false }
def FnExactRunsOnSideSaid : Prop := fnExactRunsOnSideRow.holds Try.pinned (OpenSpec.ofChange fnExactRunsOnSideSpec)

/-- ITS FALSE NEIGHBOUR: 'it returns false'. Refute it at one input. -/
def fnExactRunsOnSideWrong : ChangeSpec := { name := "fnExactRunsOnSide", fn := fun _ => fun
  | [d] => { results := [.lit (.bool false)], args := [d] }
  | _ => none }
def FnExactRunsOnSideWrongFalsely : Prop := fnExactRunsOnSideRow.holds Try.pinned (OpenSpec.ofChange fnExactRunsOnSideWrong)

/-- 'laws.FnExactRunsWithSum': WHATEVER THE INPUT: true; the input reads as it did. -/
def fnExactRunsWithSumSpec : ChangeSpec := { name := "fnExactRunsWithSum", fn := fun _ => fun
  | [d] => { results := [.lit (.bool true)], args := [d] }
  | _ => none }
def fnExactRunsWithSumRow : OpenClaim := { program := "ytmcgkjhfghgdlaa", sum := "09fd02c995c05250837539593a9e141b13459b2cda74bd5baee7fa8581d37297", func := "loop.example/g01395/laws.FnExactRunsWithSum", spec := "fnExactRunsWithSum", apart := false }
def FnExactRunsWithSumSaid : Prop := fnExactRunsWithSumRow.holds Try.pinned (OpenSpec.ofChange fnExactRunsWithSumSpec)

/-- ITS FALSE NEIGHBOUR: 'it returns false'. Refute it at one input. -/
def fnExactRunsWithSumWrong : ChangeSpec := { name := "fnExactRunsWithSum", fn := fun _ => fun
  | [d] => { results := [.lit (.bool false)], args := [d] }
  | _ => none }
def FnExactRunsWithSumWrongFalsely : Prop := fnExactRunsWithSumRow.holds Try.pinned (OpenSpec.ofChange fnExactRunsWithSumWrong)

/- THE SECOND FORM. 'bulk': how many values and letters a reading holds, each counted each time it is reached (what is shared counts as often as it is met; a slice's spare places count too). A statement '..UptoSaid' is the law's where the arguments, and the package variables that the reading takes, are together of bulk at most 1048576: NARROWER than '..Said'. Prove '..Said' where nothing that the law and all that it calls make is longer than what came in: it says more and counts as full. Else prove '..UptoSaid'. A law counts once. -/
mutual
def uptoBulk {H : Type} : DataW H → Nat
  | .lit (.string bytes) => bytes.length + 1
  | .lit _ => 1
  | .nil => 1
  | .ptr d => uptoBulk d + 1
  | .slice elems spare => uptoBulkAll elems + uptoBulkAll spare + 1
  | .agg parts => uptoBulkAll parts + 1
  | .iface _ d => uptoBulk d + 1
  | .map entries => uptoBulkEntries entries + 1
  | .held _ => 1
def uptoBulkAll {H : Type} : List (DataW H) → Nat
  | [] => 0
  | d :: r => uptoBulk d + uptoBulkAll r
def uptoBulkEntries {H : Type} : List (Lit × DataW H) → Nat
  | [] => 0
  | x :: r => uptoBulkEntry x + uptoBulkEntries r
def uptoBulkEntry {H : Type} : Lit × DataW H → Nat
  | (.string bytes, d) => bytes.length + uptoBulk d + 1
  | (_, d) => uptoBulk d + 1
 end
def uptoSmall : (H : Type) → List (DataW H) → Bool := fun _ ds => decide (uptoBulkAll ds ≤ 1048576)
def OpenSpec.upto (s : _root_.Go.ChangeSpec) : _root_.Go.OpenSpec := { _root_.Go.OpenSpec.ofChange s with cond := some uptoSmall }

/-- 'laws.FnExactDoubleSum', WHERE WHAT IT READS IS OF BULK AT MOST 1048576: true; the input reads as it did. -/
def fnExactDoubleSumUptoRow : OpenClaim := { program := "ytmcgkjhfghgdlaa", sum := "09fd02c995c05250837539593a9e141b13459b2cda74bd5baee7fa8581d37297", func := "loop.example/g01395/laws.FnExactDoubleSum", spec := "fnExactDoubleSum", apart := false, narrowed := true }
def FnExactDoubleSumUptoSaid : Prop := fnExactDoubleSumUptoRow.holds Try.pinned (OpenSpec.upto fnExactDoubleSumSpec)

/-- 'laws.FnExactBalancedHouse', WHERE WHAT IT READS IS OF BULK AT MOST 1048576: true; the input reads as it did. -/
def fnExactBalancedHouseUptoRow : OpenClaim := { program := "ytmcgkjhfghgdlaa", sum := "09fd02c995c05250837539593a9e141b13459b2cda74bd5baee7fa8581d37297", func := "loop.example/g01395/laws.FnExactBalancedHouse", spec := "fnExactBalancedHouse", apart := false, narrowed := true }
def FnExactBalancedHouseUptoSaid : Prop := fnExactBalancedHouseUptoRow.holds Try.pinned (OpenSpec.upto fnExactBalancedHouseSpec)

/-- 'laws.FnExactSquareStreets', WHERE WHAT IT READS IS OF BULK AT MOST 1048576: true; the input reads as it did. -/
def fnExactSquareStreetsUptoRow : OpenClaim := { program := "ytmcgkjhfghgdlaa", sum := "09fd02c995c05250837539593a9e141b13459b2cda74bd5baee7fa8581d37297", func := "loop.example/g01395/laws.FnExactSquareStreets", spec := "fnExactSquareStreets", apart := false, narrowed := true }
def FnExactSquareStreetsUptoSaid : Prop := fnExactSquareStreetsUptoRow.holds Try.pinned (OpenSpec.upto fnExactSquareStreetsSpec)

/-- 'laws.FnExactBalancedOdd', WHERE WHAT IT READS IS OF BULK AT MOST 1048576: true; the input reads as it did. -/
def fnExactBalancedOddUptoRow : OpenClaim := { program := "ytmcgkjhfghgdlaa", sum := "09fd02c995c05250837539593a9e141b13459b2cda74bd5baee7fa8581d37297", func := "loop.example/g01395/laws.FnExactBalancedOdd", spec := "fnExactBalancedOdd", apart := false, narrowed := true }
def FnExactBalancedOddUptoSaid : Prop := fnExactBalancedOddUptoRow.holds Try.pinned (OpenSpec.upto fnExactBalancedOddSpec)

/-- 'laws.FnExactBalancedStreets', WHERE WHAT IT READS IS OF BULK AT MOST 1048576: true; the input reads as it did. -/
def fnExactBalancedStreetsUptoRow : OpenClaim := { program := "ytmcgkjhfghgdlaa", sum := "09fd02c995c05250837539593a9e141b13459b2cda74bd5baee7fa8581d37297", func := "loop.example/g01395/laws.FnExactBalancedStreets", spec := "fnExactBalancedStreets", apart := false, narrowed := true }
def FnExactBalancedStreetsUptoSaid : Prop := fnExactBalancedStreetsUptoRow.holds Try.pinned (OpenSpec.upto fnExactBalancedStreetsSpec)

/-- 'laws.FnExactRunsOnSide', WHERE WHAT IT READS IS OF BULK AT MOST 1048576: true; the input reads as it did. -/
def fnExactRunsOnSideUptoRow : OpenClaim := { program := "ytmcgkjhfghgdlaa", sum := "09fd02c995c05250837539593a9e141b13459b2cda74bd5baee7fa8581d37297", func := "loop.example/g01395/laws.FnExactRunsOnSide", spec := "fnExactRunsOnSide", apart := false, narrowed := true }
def FnExactRunsOnSideUptoSaid : Prop := fnExactRunsOnSideUptoRow.holds Try.pinned (OpenSpec.upto fnExactRunsOnSideSpec)

/-- 'laws.FnExactRunsWithSum', WHERE WHAT IT READS IS OF BULK AT MOST 1048576: true; the input reads as it did. -/
def fnExactRunsWithSumUptoRow : OpenClaim := { program := "ytmcgkjhfghgdlaa", sum := "09fd02c995c05250837539593a9e141b13459b2cda74bd5baee7fa8581d37297", func := "loop.example/g01395/laws.FnExactRunsWithSum", spec := "fnExactRunsWithSum", apart := false, narrowed := true }
def FnExactRunsWithSumUptoSaid : Prop := fnExactRunsWithSumUptoRow.holds Try.pinned (OpenSpec.upto fnExactRunsWithSumSpec)

end Rows
end Go.Proofs.Ytmcgkjhfghgdlaa
