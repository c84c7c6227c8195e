/-
  No cell of these rows narrows 'for every input' (looked for: loops, veiled, ifaces, maps, wideKeys, modest, calm, conditions, laid).
  DERIVED. THE GIVEN ROWS OF THIS SEAT. 12 by the template 'for every input the law returns true; each argument reads behind the call as it read before'; 0 by the template 'total and deterministic' (their statements: YtfdidelonilnmaaTotals.lean).
  GIVEN WITH THE SEED: the statements are not yours to turn. If you find one false, say at which input.
  Laid BY PROGRAM, IN A SANDBOX (cutbox-rows.mjs): the forced cells as the released guide's own fill.sh prints them over the translation 71eec49cd032e74e… (all of the seat's roots in one cut). By AI agents, Wed Nov 11 2026. No macro, syntax, notation, axiom, sorry.
-/
import Derived.Test.YtfdidelonilnmaaChecked
import GoSem.Claim
import GoSem.ClaimJoined
import GoSem.ClaimMapViews
import Derived.JoinedTies
import Derived.KernelRfl
namespace Go.Proofs.Ytfdidelonilnmaa
/- THE CELL 'sum', in the pinned program and in every row, IS THE sha256 OF THE DUMP (.gsa) THAT YtfdidelonilnmaaProg.lean LOADS. Nothing in Lean hashes anything: it is a label: what it is worth is what the hold of that sum in a sandbox is worth. -/
noncomputable def Try.pinned : Pinned := { name := "ytfdidelonilnmaa", sum := "71eec49cd032e74e969ed38e3fc808bbd3bc4e162dc99f79824d5fc52e7ccb30", checked := Try.checked }
namespace Rows
def none {H : Type} : Left H := { results := [], args := [] }

/-- 'laws.FnExactIsUse': WHATEVER THE INPUT: true; the input reads as it did. -/
def fnExactIsUseSpec : ChangeSpec := { name := "fnExactIsUse", fn := fun _ => fun
  | [d] => { results := [.lit (.bool true)], args := [d] }
  | _ => none }
def fnExactIsUseRow : OpenClaim := { program := "ytfdidelonilnmaa", sum := "71eec49cd032e74e969ed38e3fc808bbd3bc4e162dc99f79824d5fc52e7ccb30", func := "loop.example/g01131/laws.FnExactIsUse", spec := "fnExactIsUse", apart := false }
def FnExactIsUseSaid : Prop := fnExactIsUseRow.holds Try.pinned (OpenSpec.ofChange fnExactIsUseSpec)

/-- ITS FALSE NEIGHBOUR: 'it returns false'. Refute it at one input. -/
def fnExactIsUseWrong : ChangeSpec := { name := "fnExactIsUse", fn := fun _ => fun
  | [d] => { results := [.lit (.bool false)], args := [d] }
  | _ => none }
def FnExactIsUseWrongFalsely : Prop := fnExactIsUseRow.holds Try.pinned (OpenSpec.ofChange fnExactIsUseWrong)

/-- 'laws.FnExactIsConcave': WHATEVER THE INPUT: true; the input reads as it did. -/
def fnExactIsConcaveSpec : ChangeSpec := { name := "fnExactIsConcave", fn := fun _ => fun
  | [d] => { results := [.lit (.bool true)], args := [d] }
  | _ => none }
def fnExactIsConcaveRow : OpenClaim := { program := "ytfdidelonilnmaa", sum := "71eec49cd032e74e969ed38e3fc808bbd3bc4e162dc99f79824d5fc52e7ccb30", func := "loop.example/g01131/laws.FnExactIsConcave", spec := "fnExactIsConcave", apart := false }
def FnExactIsConcaveSaid : Prop := fnExactIsConcaveRow.holds Try.pinned (OpenSpec.ofChange fnExactIsConcaveSpec)

/-- ITS FALSE NEIGHBOUR: 'it returns false'. Refute it at one input. -/
def fnExactIsConcaveWrong : ChangeSpec := { name := "fnExactIsConcave", fn := fun _ => fun
  | [d] => { results := [.lit (.bool false)], args := [d] }
  | _ => none }
def FnExactIsConcaveWrongFalsely : Prop := fnExactIsConcaveRow.holds Try.pinned (OpenSpec.ofChange fnExactIsConcaveWrong)

/-- 'laws.FnExactIsRising': WHATEVER THE INPUT: true; the input reads as it did. -/
def fnExactIsRisingSpec : ChangeSpec := { name := "fnExactIsRising", fn := fun _ => fun
  | [d] => { results := [.lit (.bool true)], args := [d] }
  | _ => none }
def fnExactIsRisingRow : OpenClaim := { program := "ytfdidelonilnmaa", sum := "71eec49cd032e74e969ed38e3fc808bbd3bc4e162dc99f79824d5fc52e7ccb30", func := "loop.example/g01131/laws.FnExactIsRising", spec := "fnExactIsRising", apart := false }
def FnExactIsRisingSaid : Prop := fnExactIsRisingRow.holds Try.pinned (OpenSpec.ofChange fnExactIsRisingSpec)

/-- ITS FALSE NEIGHBOUR: 'it returns false'. Refute it at one input. -/
def fnExactIsRisingWrong : ChangeSpec := { name := "fnExactIsRising", fn := fun _ => fun
  | [d] => { results := [.lit (.bool false)], args := [d] }
  | _ => none }
def FnExactIsRisingWrongFalsely : Prop := fnExactIsRisingRow.holds Try.pinned (OpenSpec.ofChange fnExactIsRisingWrong)

/-- 'laws.FnExactPurseSpread': WHATEVER THE INPUT: true; the input reads as it did. -/
def fnExactPurseSpreadSpec : ChangeSpec := { name := "fnExactPurseSpread", fn := fun _ => fun
  | [d1, d2, d3, d4, d5, d6] => { results := [.lit (.bool true)], args := [d1, d2, d3, d4, d5, d6] }
  | _ => none }
def fnExactPurseSpreadRow : OpenClaim := { program := "ytfdidelonilnmaa", sum := "71eec49cd032e74e969ed38e3fc808bbd3bc4e162dc99f79824d5fc52e7ccb30", func := "loop.example/g01131/laws.FnExactPurseSpread", spec := "fnExactPurseSpread", apart := false }
def FnExactPurseSpreadSaid : Prop := fnExactPurseSpreadRow.holds Try.pinned (OpenSpec.ofChange fnExactPurseSpreadSpec)

/-- ITS FALSE NEIGHBOUR: 'it returns false'. Refute it at one input. -/
def fnExactPurseSpreadWrong : ChangeSpec := { name := "fnExactPurseSpread", fn := fun _ => fun
  | [d1, d2, d3, d4, d5, d6] => { results := [.lit (.bool false)], args := [d1, d2, d3, d4, d5, d6] }
  | _ => none }
def FnExactPurseSpreadWrongFalsely : Prop := fnExactPurseSpreadRow.holds Try.pinned (OpenSpec.ofChange fnExactPurseSpreadWrong)

/-- 'laws.FnExactMeanUse': WHATEVER THE INPUT: true; the input reads as it did. -/
def fnExactMeanUseSpec : ChangeSpec := { name := "fnExactMeanUse", fn := fun _ => fun
  | [d1, d2] => { results := [.lit (.bool true)], args := [d1, d2] }
  | _ => none }
def fnExactMeanUseRow : OpenClaim := { program := "ytfdidelonilnmaa", sum := "71eec49cd032e74e969ed38e3fc808bbd3bc4e162dc99f79824d5fc52e7ccb30", func := "loop.example/g01131/laws.FnExactMeanUse", spec := "fnExactMeanUse", apart := false }
def FnExactMeanUseSaid : Prop := fnExactMeanUseRow.holds Try.pinned (OpenSpec.ofChange fnExactMeanUseSpec)

/-- ITS FALSE NEIGHBOUR: 'it returns false'. Refute it at one input. -/
def fnExactMeanUseWrong : ChangeSpec := { name := "fnExactMeanUse", fn := fun _ => fun
  | [d1, d2] => { results := [.lit (.bool false)], args := [d1, d2] }
  | _ => none }
def FnExactMeanUseWrongFalsely : Prop := fnExactMeanUseRow.holds Try.pinned (OpenSpec.ofChange fnExactMeanUseWrong)

/-- 'laws.FnExactSureCoins': WHATEVER THE INPUT: true; the input reads as it did. -/
def fnExactSureCoinsSpec : ChangeSpec := { name := "fnExactSureCoins", fn := fun _ => fun
  | [d1, d2] => { results := [.lit (.bool true)], args := [d1, d2] }
  | _ => none }
def fnExactSureCoinsRow : OpenClaim := { program := "ytfdidelonilnmaa", sum := "71eec49cd032e74e969ed38e3fc808bbd3bc4e162dc99f79824d5fc52e7ccb30", func := "loop.example/g01131/laws.FnExactSureCoins", spec := "fnExactSureCoins", apart := false }
def FnExactSureCoinsSaid : Prop := fnExactSureCoinsRow.holds Try.pinned (OpenSpec.ofChange fnExactSureCoinsSpec)

/-- ITS FALSE NEIGHBOUR: 'it returns false'. Refute it at one input. -/
def fnExactSureCoinsWrong : ChangeSpec := { name := "fnExactSureCoins", fn := fun _ => fun
  | [d1, d2] => { results := [.lit (.bool false)], args := [d1, d2] }
  | _ => none }
def FnExactSureCoinsWrongFalsely : Prop := fnExactSureCoinsRow.holds Try.pinned (OpenSpec.ofChange fnExactSureCoinsWrong)

/-- 'laws.FnExactStakeLoss': WHATEVER THE INPUT: true; the input reads as it did. -/
def fnExactStakeLossSpec : ChangeSpec := { name := "fnExactStakeLoss", fn := fun _ => fun
  | [d1, d2, d3, d4, d5, d6] => { results := [.lit (.bool true)], args := [d1, d2, d3, d4, d5, d6] }
  | _ => none }
def fnExactStakeLossRow : OpenClaim := { program := "ytfdidelonilnmaa", sum := "71eec49cd032e74e969ed38e3fc808bbd3bc4e162dc99f79824d5fc52e7ccb30", func := "loop.example/g01131/laws.FnExactStakeLoss", spec := "fnExactStakeLoss", apart := false }
def FnExactStakeLossSaid : Prop := fnExactStakeLossRow.holds Try.pinned (OpenSpec.ofChange fnExactStakeLossSpec)

/-- ITS FALSE NEIGHBOUR: 'it returns false'. Refute it at one input. -/
def fnExactStakeLossWrong : ChangeSpec := { name := "fnExactStakeLoss", fn := fun _ => fun
  | [d1, d2, d3, d4, d5, d6] => { results := [.lit (.bool false)], args := [d1, d2, d3, d4, d5, d6] }
  | _ => none }
def FnExactStakeLossWrongFalsely : Prop := fnExactStakeLossRow.holds Try.pinned (OpenSpec.ofChange fnExactStakeLossWrong)

/-- 'laws.FnExactUseStake': WHATEVER THE INPUT: true; the input reads as it did. -/
def fnExactUseStakeSpec : ChangeSpec := { name := "fnExactUseStake", fn := fun _ => fun
  | [d1, d2, d3, d4, d5] => { results := [.lit (.bool true)], args := [d1, d2, d3, d4, d5] }
  | _ => none }
def fnExactUseStakeRow : OpenClaim := { program := "ytfdidelonilnmaa", sum := "71eec49cd032e74e969ed38e3fc808bbd3bc4e162dc99f79824d5fc52e7ccb30", func := "loop.example/g01131/laws.FnExactUseStake", spec := "fnExactUseStake", apart := false }
def FnExactUseStakeSaid : Prop := fnExactUseStakeRow.holds Try.pinned (OpenSpec.ofChange fnExactUseStakeSpec)

/-- ITS FALSE NEIGHBOUR: 'it returns false'. Refute it at one input. -/
def fnExactUseStakeWrong : ChangeSpec := { name := "fnExactUseStake", fn := fun _ => fun
  | [d1, d2, d3, d4, d5] => { results := [.lit (.bool false)], args := [d1, d2, d3, d4, d5] }
  | _ => none }
def FnExactUseStakeWrongFalsely : Prop := fnExactUseStakeRow.holds Try.pinned (OpenSpec.ofChange fnExactUseStakeWrong)

/-- 'laws.FnExactUseTable': WHATEVER THE INPUT: true; the input reads as it did. -/
def fnExactUseTableSpec : ChangeSpec := { name := "fnExactUseTable", fn := fun _ => fun
  | [d1, d2, d3, d4] => { results := [.lit (.bool true)], args := [d1, d2, d3, d4] }
  | _ => none }
def fnExactUseTableRow : OpenClaim := { program := "ytfdidelonilnmaa", sum := "71eec49cd032e74e969ed38e3fc808bbd3bc4e162dc99f79824d5fc52e7ccb30", func := "loop.example/g01131/laws.FnExactUseTable", spec := "fnExactUseTable", apart := false }
def FnExactUseTableSaid : Prop := fnExactUseTableRow.holds Try.pinned (OpenSpec.ofChange fnExactUseTableSpec)

/-- ITS FALSE NEIGHBOUR: 'it returns false'. Refute it at one input. -/
def fnExactUseTableWrong : ChangeSpec := { name := "fnExactUseTable", fn := fun _ => fun
  | [d1, d2, d3, d4] => { results := [.lit (.bool false)], args := [d1, d2, d3, d4] }
  | _ => none }
def FnExactUseTableWrongFalsely : Prop := fnExactUseTableRow.holds Try.pinned (OpenSpec.ofChange fnExactUseTableWrong)

/-- 'laws.FnExactStakePlan': WHATEVER THE INPUT: true; the input reads as it did. -/
def fnExactStakePlanSpec : ChangeSpec := { name := "fnExactStakePlan", fn := fun _ => fun
  | [d1, d2, d3, d4] => { results := [.lit (.bool true)], args := [d1, d2, d3, d4] }
  | _ => none }
def fnExactStakePlanRow : OpenClaim := { program := "ytfdidelonilnmaa", sum := "71eec49cd032e74e969ed38e3fc808bbd3bc4e162dc99f79824d5fc52e7ccb30", func := "loop.example/g01131/laws.FnExactStakePlan", spec := "fnExactStakePlan", apart := false }
def FnExactStakePlanSaid : Prop := fnExactStakePlanRow.holds Try.pinned (OpenSpec.ofChange fnExactStakePlanSpec)

/-- ITS FALSE NEIGHBOUR: 'it returns false'. Refute it at one input. -/
def fnExactStakePlanWrong : ChangeSpec := { name := "fnExactStakePlan", fn := fun _ => fun
  | [d1, d2, d3, d4] => { results := [.lit (.bool false)], args := [d1, d2, d3, d4] }
  | _ => none }
def FnExactStakePlanWrongFalsely : Prop := fnExactStakePlanRow.holds Try.pinned (OpenSpec.ofChange fnExactStakePlanWrong)

/-- 'laws.FnUseStakes': WHATEVER THE INPUT: true; the input reads as it did. -/
def fnUseStakesSpec : ChangeSpec := { name := "fnUseStakes", fn := fun _ => fun
  | [d] => { results := [.lit (.bool true)], args := [d] }
  | _ => none }
def fnUseStakesRow : OpenClaim := { program := "ytfdidelonilnmaa", sum := "71eec49cd032e74e969ed38e3fc808bbd3bc4e162dc99f79824d5fc52e7ccb30", func := "loop.example/g01131/laws.FnUseStakes", spec := "fnUseStakes", apart := false }
def FnUseStakesSaid : Prop := fnUseStakesRow.holds Try.pinned (OpenSpec.ofChange fnUseStakesSpec)

/-- ITS FALSE NEIGHBOUR: 'it returns false'. Refute it at one input. -/
def fnUseStakesWrong : ChangeSpec := { name := "fnUseStakes", fn := fun _ => fun
  | [d] => { results := [.lit (.bool false)], args := [d] }
  | _ => none }
def FnUseStakesWrongFalsely : Prop := fnUseStakesRow.holds Try.pinned (OpenSpec.ofChange fnUseStakesWrong)

/-- 'laws.FnUses': WHATEVER THE INPUT: true; the input reads as it did. -/
def fnUsesSpec : ChangeSpec := { name := "fnUses", fn := fun _ => fun
  | [d] => { results := [.lit (.bool true)], args := [d] }
  | _ => none }
def fnUsesRow : OpenClaim := { program := "ytfdidelonilnmaa", sum := "71eec49cd032e74e969ed38e3fc808bbd3bc4e162dc99f79824d5fc52e7ccb30", func := "loop.example/g01131/laws.FnUses", spec := "fnUses", apart := false }
def FnUsesSaid : Prop := fnUsesRow.holds Try.pinned (OpenSpec.ofChange fnUsesSpec)

/-- ITS FALSE NEIGHBOUR: 'it returns false'. Refute it at one input. -/
def fnUsesWrong : ChangeSpec := { name := "fnUses", fn := fun _ => fun
  | [d] => { results := [.lit (.bool false)], args := [d] }
  | _ => none }
def FnUsesWrongFalsely : Prop := fnUsesRow.holds Try.pinned (OpenSpec.ofChange fnUsesWrong)

/- THE SECOND FORM. 'bulk': how many values and letters a reading holds, each counted each time it is reached (what is shared counts as often as it is met; a slice's spare places count too). A statement '..UptoSaid' is the law's where the arguments, and the package variables that the reading takes, are together of bulk at most 1048576: NARROWER than '..Said'. Prove '..Said' where nothing that the law and all that it calls make is longer than what came in: it says more and counts as full. Else prove '..UptoSaid'. A law counts once. -/
mutual
def uptoBulk {H : Type} : DataW H → Nat
  | .lit (.string bytes) => bytes.length + 1
  | .lit _ => 1
  | .nil => 1
  | .ptr d => uptoBulk d + 1
  | .slice elems spare => uptoBulkAll elems + uptoBulkAll spare + 1
  | .agg parts => uptoBulkAll parts + 1
  | .iface _ d => uptoBulk d + 1
  | .map entries => uptoBulkEntries entries + 1
  | .held _ => 1
def uptoBulkAll {H : Type} : List (DataW H) → Nat
  | [] => 0
  | d :: r => uptoBulk d + uptoBulkAll r
def uptoBulkEntries {H : Type} : List (Lit × DataW H) → Nat
  | [] => 0
  | x :: r => uptoBulkEntry x + uptoBulkEntries r
def uptoBulkEntry {H : Type} : Lit × DataW H → Nat
  | (.string bytes, d) => bytes.length + uptoBulk d + 1
  | (_, d) => uptoBulk d + 1
 end
def uptoSmall : (H : Type) → List (DataW H) → Bool := fun _ ds => decide (uptoBulkAll ds ≤ 1048576)
def OpenSpec.upto (s : _root_.Go.ChangeSpec) : _root_.Go.OpenSpec := { _root_.Go.OpenSpec.ofChange s with cond := some uptoSmall }

/-- 'laws.FnExactIsUse', WHERE WHAT IT READS IS OF BULK AT MOST 1048576: true; the input reads as it did. -/
def fnExactIsUseUptoRow : OpenClaim := { program := "ytfdidelonilnmaa", sum := "71eec49cd032e74e969ed38e3fc808bbd3bc4e162dc99f79824d5fc52e7ccb30", func := "loop.example/g01131/laws.FnExactIsUse", spec := "fnExactIsUse", apart := false, narrowed := true }
def FnExactIsUseUptoSaid : Prop := fnExactIsUseUptoRow.holds Try.pinned (OpenSpec.upto fnExactIsUseSpec)

/-- 'laws.FnExactIsConcave', WHERE WHAT IT READS IS OF BULK AT MOST 1048576: true; the input reads as it did. -/
def fnExactIsConcaveUptoRow : OpenClaim := { program := "ytfdidelonilnmaa", sum := "71eec49cd032e74e969ed38e3fc808bbd3bc4e162dc99f79824d5fc52e7ccb30", func := "loop.example/g01131/laws.FnExactIsConcave", spec := "fnExactIsConcave", apart := false, narrowed := true }
def FnExactIsConcaveUptoSaid : Prop := fnExactIsConcaveUptoRow.holds Try.pinned (OpenSpec.upto fnExactIsConcaveSpec)

/-- 'laws.FnExactIsRising', WHERE WHAT IT READS IS OF BULK AT MOST 1048576: true; the input reads as it did. -/
def fnExactIsRisingUptoRow : OpenClaim := { program := "ytfdidelonilnmaa", sum := "71eec49cd032e74e969ed38e3fc808bbd3bc4e162dc99f79824d5fc52e7ccb30", func := "loop.example/g01131/laws.FnExactIsRising", spec := "fnExactIsRising", apart := false, narrowed := true }
def FnExactIsRisingUptoSaid : Prop := fnExactIsRisingUptoRow.holds Try.pinned (OpenSpec.upto fnExactIsRisingSpec)

/-- 'laws.FnExactPurseSpread', WHERE WHAT IT READS IS OF BULK AT MOST 1048576: true; the input reads as it did. -/
def fnExactPurseSpreadUptoRow : OpenClaim := { program := "ytfdidelonilnmaa", sum := "71eec49cd032e74e969ed38e3fc808bbd3bc4e162dc99f79824d5fc52e7ccb30", func := "loop.example/g01131/laws.FnExactPurseSpread", spec := "fnExactPurseSpread", apart := false, narrowed := true }
def FnExactPurseSpreadUptoSaid : Prop := fnExactPurseSpreadUptoRow.holds Try.pinned (OpenSpec.upto fnExactPurseSpreadSpec)

/-- 'laws.FnExactMeanUse', WHERE WHAT IT READS IS OF BULK AT MOST 1048576: true; the input reads as it did. -/
def fnExactMeanUseUptoRow : OpenClaim := { program := "ytfdidelonilnmaa", sum := "71eec49cd032e74e969ed38e3fc808bbd3bc4e162dc99f79824d5fc52e7ccb30", func := "loop.example/g01131/laws.FnExactMeanUse", spec := "fnExactMeanUse", apart := false, narrowed := true }
def FnExactMeanUseUptoSaid : Prop := fnExactMeanUseUptoRow.holds Try.pinned (OpenSpec.upto fnExactMeanUseSpec)

/-- 'laws.FnExactSureCoins', WHERE WHAT IT READS IS OF BULK AT MOST 1048576: true; the input reads as it did. -/
def fnExactSureCoinsUptoRow : OpenClaim := { program := "ytfdidelonilnmaa", sum := "71eec49cd032e74e969ed38e3fc808bbd3bc4e162dc99f79824d5fc52e7ccb30", func := "loop.example/g01131/laws.FnExactSureCoins", spec := "fnExactSureCoins", apart := false, narrowed := true }
def FnExactSureCoinsUptoSaid : Prop := fnExactSureCoinsUptoRow.holds Try.pinned (OpenSpec.upto fnExactSureCoinsSpec)

/-- 'laws.FnExactStakeLoss', WHERE WHAT IT READS IS OF BULK AT MOST 1048576: true; the input reads as it did. -/
def fnExactStakeLossUptoRow : OpenClaim := { program := "ytfdidelonilnmaa", sum := "71eec49cd032e74e969ed38e3fc808bbd3bc4e162dc99f79824d5fc52e7ccb30", func := "loop.example/g01131/laws.FnExactStakeLoss", spec := "fnExactStakeLoss", apart := false, narrowed := true }
def FnExactStakeLossUptoSaid : Prop := fnExactStakeLossUptoRow.holds Try.pinned (OpenSpec.upto fnExactStakeLossSpec)

/-- 'laws.FnExactUseStake', WHERE WHAT IT READS IS OF BULK AT MOST 1048576: true; the input reads as it did. -/
def fnExactUseStakeUptoRow : OpenClaim := { program := "ytfdidelonilnmaa", sum := "71eec49cd032e74e969ed38e3fc808bbd3bc4e162dc99f79824d5fc52e7ccb30", func := "loop.example/g01131/laws.FnExactUseStake", spec := "fnExactUseStake", apart := false, narrowed := true }
def FnExactUseStakeUptoSaid : Prop := fnExactUseStakeUptoRow.holds Try.pinned (OpenSpec.upto fnExactUseStakeSpec)

/-- 'laws.FnExactUseTable', WHERE WHAT IT READS IS OF BULK AT MOST 1048576: true; the input reads as it did. -/
def fnExactUseTableUptoRow : OpenClaim := { program := "ytfdidelonilnmaa", sum := "71eec49cd032e74e969ed38e3fc808bbd3bc4e162dc99f79824d5fc52e7ccb30", func := "loop.example/g01131/laws.FnExactUseTable", spec := "fnExactUseTable", apart := false, narrowed := true }
def FnExactUseTableUptoSaid : Prop := fnExactUseTableUptoRow.holds Try.pinned (OpenSpec.upto fnExactUseTableSpec)

/-- 'laws.FnExactStakePlan', WHERE WHAT IT READS IS OF BULK AT MOST 1048576: true; the input reads as it did. -/
def fnExactStakePlanUptoRow : OpenClaim := { program := "ytfdidelonilnmaa", sum := "71eec49cd032e74e969ed38e3fc808bbd3bc4e162dc99f79824d5fc52e7ccb30", func := "loop.example/g01131/laws.FnExactStakePlan", spec := "fnExactStakePlan", apart := false, narrowed := true }
def FnExactStakePlanUptoSaid : Prop := fnExactStakePlanUptoRow.holds Try.pinned (OpenSpec.upto fnExactStakePlanSpec)

/-- 'laws.FnUseStakes', WHERE WHAT IT READS IS OF BULK AT MOST 1048576: true; the input reads as it did. -/
def fnUseStakesUptoRow : OpenClaim := { program := "ytfdidelonilnmaa", sum := "71eec49cd032e74e969ed38e3fc808bbd3bc4e162dc99f79824d5fc52e7ccb30", func := "loop.example/g01131/laws.FnUseStakes", spec := "fnUseStakes", apart := false, narrowed := true }
def FnUseStakesUptoSaid : Prop := fnUseStakesUptoRow.holds Try.pinned (OpenSpec.upto fnUseStakesSpec)

/-- 'laws.FnUses', WHERE WHAT IT READS IS OF BULK AT MOST 1048576: true; the input reads as it did. -/
def fnUsesUptoRow : OpenClaim := { program := "ytfdidelonilnmaa", sum := "71eec49cd032e74e969ed38e3fc808bbd3bc4e162dc99f79824d5fc52e7ccb30", func := "loop.example/g01131/laws.FnUses", spec := "fnUses", apart := false, narrowed := true }
def FnUsesUptoSaid : Prop := fnUsesUptoRow.holds Try.pinned (OpenSpec.upto fnUsesSpec)

end Rows
end Go.Proofs.Ytfdidelonilnmaa
