/-
  No cell of these rows narrows 'for every input' (looked for: loops, veiled, ifaces, maps, wideKeys, modest, calm, conditions, laid).
  DERIVED. THE GIVEN ROWS OF THIS SEAT. 12 by the template 'for every input the law returns true; each argument reads behind the call as it read before'; 0 by the template 'total and deterministic' (their statements: YtojipjjfndgbhaaTotals.lean).
  GIVEN WITH THE SEED: the statements are not yours to turn. If you find one false, say at which input.
  Laid BY PROGRAM, IN A SANDBOX (cutbox-rows.mjs): the forced cells as the released guide's own fill.sh prints them over the translation 4eb0fc63f07d1674… (all of the seat's roots in one cut). By AI agents, Wed Nov 11 2026. No macro, syntax, notation, axiom, sorry.
-/
import Derived.Test.YtojipjjfndgbhaaChecked
import GoSem.Claim
import GoSem.ClaimJoined
import GoSem.ClaimMapViews
import Derived.JoinedTies
import Derived.KernelRfl
namespace Go.Proofs.Ytojipjjfndgbhaa
/- THE CELL 'sum', in the pinned program and in every row, IS THE sha256 OF THE DUMP (.gsa) THAT YtojipjjfndgbhaaProg.lean LOADS. Nothing in Lean hashes anything: it is a label: what it is worth is what the hold of that sum in a sandbox is worth. -/
noncomputable def Try.pinned : Pinned := { name := "ytojipjjfndgbhaa", sum := "4eb0fc63f07d1674510dc0c206f30ebc1c4b976caf6f1cec237b946d6ceaa7e0", checked := Try.checked }
namespace Rows
def none {H : Type} : Left H := { results := [], args := [] }

/-- 'laws.FnExactIsHouse': WHATEVER THE INPUT: true; the input reads as it did. -/
def fnExactIsHouseSpec : ChangeSpec := { name := "fnExactIsHouse", fn := fun _ => fun
  | [d] => { results := [.lit (.bool true)], args := [d] }
  | _ => none }
def fnExactIsHouseRow : OpenClaim := { program := "ytojipjjfndgbhaa", sum := "4eb0fc63f07d1674510dc0c206f30ebc1c4b976caf6f1cec237b946d6ceaa7e0", func := "loop.example/g01131/laws.FnExactIsHouse", spec := "fnExactIsHouse", apart := false }
def FnExactIsHouseSaid : Prop := fnExactIsHouseRow.holds Try.pinned (OpenSpec.ofChange fnExactIsHouseSpec)

/-- ITS FALSE NEIGHBOUR: 'it returns false'. Refute it at one input. -/
def fnExactIsHouseWrong : ChangeSpec := { name := "fnExactIsHouse", fn := fun _ => fun
  | [d] => { results := [.lit (.bool false)], args := [d] }
  | _ => none }
def FnExactIsHouseWrongFalsely : Prop := fnExactIsHouseRow.holds Try.pinned (OpenSpec.ofChange fnExactIsHouseWrong)

/-- 'laws.FnExactNewHouse': WHATEVER THE INPUT: true; the input reads as it did. -/
def fnExactNewHouseSpec : ChangeSpec := { name := "fnExactNewHouse", fn := fun _ => fun
  | [d1, d2] => { results := [.lit (.bool true)], args := [d1, d2] }
  | _ => none }
def fnExactNewHouseRow : OpenClaim := { program := "ytojipjjfndgbhaa", sum := "4eb0fc63f07d1674510dc0c206f30ebc1c4b976caf6f1cec237b946d6ceaa7e0", func := "loop.example/g01131/laws.FnExactNewHouse", spec := "fnExactNewHouse", apart := false }
def FnExactNewHouseSaid : Prop := fnExactNewHouseRow.holds Try.pinned (OpenSpec.ofChange fnExactNewHouseSpec)

/-- ITS FALSE NEIGHBOUR: 'it returns false'. Refute it at one input. -/
def fnExactNewHouseWrong : ChangeSpec := { name := "fnExactNewHouse", fn := fun _ => fun
  | [d1, d2] => { results := [.lit (.bool false)], args := [d1, d2] }
  | _ => none }
def FnExactNewHouseWrongFalsely : Prop := fnExactNewHouseRow.holds Try.pinned (OpenSpec.ofChange fnExactNewHouseWrong)

/-- 'laws.FnExactPriceMean': WHATEVER THE INPUT: true; the input reads as it did. -/
def fnExactPriceMeanSpec : ChangeSpec := { name := "fnExactPriceMean", fn := fun _ => fun
  | [d] => { results := [.lit (.bool true)], args := [d] }
  | _ => none }
def fnExactPriceMeanRow : OpenClaim := { program := "ytojipjjfndgbhaa", sum := "4eb0fc63f07d1674510dc0c206f30ebc1c4b976caf6f1cec237b946d6ceaa7e0", func := "loop.example/g01131/laws.FnExactPriceMean", spec := "fnExactPriceMean", apart := false }
def FnExactPriceMeanSaid : Prop := fnExactPriceMeanRow.holds Try.pinned (OpenSpec.ofChange fnExactPriceMeanSpec)

/-- ITS FALSE NEIGHBOUR: 'it returns false'. Refute it at one input. -/
def fnExactPriceMeanWrong : ChangeSpec := { name := "fnExactPriceMean", fn := fun _ => fun
  | [d] => { results := [.lit (.bool false)], args := [d] }
  | _ => none }
def FnExactPriceMeanWrongFalsely : Prop := fnExactPriceMeanRow.holds Try.pinned (OpenSpec.ofChange fnExactPriceMeanWrong)

/-- 'laws.FnExactHouseValue': WHATEVER THE INPUT: true; the input reads as it did. -/
def fnExactHouseValueSpec : ChangeSpec := { name := "fnExactHouseValue", fn := fun _ => fun
  | [d] => { results := [.lit (.bool true)], args := [d] }
  | _ => none }
def fnExactHouseValueRow : OpenClaim := { program := "ytojipjjfndgbhaa", sum := "4eb0fc63f07d1674510dc0c206f30ebc1c4b976caf6f1cec237b946d6ceaa7e0", func := "loop.example/g01131/laws.FnExactHouseValue", spec := "fnExactHouseValue", apart := false }
def FnExactHouseValueSaid : Prop := fnExactHouseValueRow.holds Try.pinned (OpenSpec.ofChange fnExactHouseValueSpec)

/-- ITS FALSE NEIGHBOUR: 'it returns false'. Refute it at one input. -/
def fnExactHouseValueWrong : ChangeSpec := { name := "fnExactHouseValue", fn := fun _ => fun
  | [d] => { results := [.lit (.bool false)], args := [d] }
  | _ => none }
def FnExactHouseValueWrongFalsely : Prop := fnExactHouseValueRow.holds Try.pinned (OpenSpec.ofChange fnExactHouseValueWrong)

/-- 'laws.FnExactShouldStop': WHATEVER THE INPUT: true; the input reads as it did. -/
def fnExactShouldStopSpec : ChangeSpec := { name := "fnExactShouldStop", fn := fun _ => fun
  | [d] => { results := [.lit (.bool true)], args := [d] }
  | _ => none }
def fnExactShouldStopRow : OpenClaim := { program := "ytojipjjfndgbhaa", sum := "4eb0fc63f07d1674510dc0c206f30ebc1c4b976caf6f1cec237b946d6ceaa7e0", func := "loop.example/g01131/laws.FnExactShouldStop", spec := "fnExactShouldStop", apart := false }
def FnExactShouldStopSaid : Prop := fnExactShouldStopRow.holds Try.pinned (OpenSpec.ofChange fnExactShouldStopSpec)

/-- ITS FALSE NEIGHBOUR: 'it returns false'. Refute it at one input. -/
def fnExactShouldStopWrong : ChangeSpec := { name := "fnExactShouldStop", fn := fun _ => fun
  | [d] => { results := [.lit (.bool false)], args := [d] }
  | _ => none }
def FnExactShouldStopWrongFalsely : Prop := fnExactShouldStopRow.holds Try.pinned (OpenSpec.ofChange fnExactShouldStopWrong)

/-- 'laws.FnExactLargestMean': WHATEVER THE INPUT: true; the input reads as it did. -/
def fnExactLargestMeanSpec : ChangeSpec := { name := "fnExactLargestMean", fn := fun _ => fun
  | [d1, d2] => { results := [.lit (.bool true)], args := [d1, d2] }
  | _ => none }
def fnExactLargestMeanRow : OpenClaim := { program := "ytojipjjfndgbhaa", sum := "4eb0fc63f07d1674510dc0c206f30ebc1c4b976caf6f1cec237b946d6ceaa7e0", func := "loop.example/g01131/laws.FnExactLargestMean", spec := "fnExactLargestMean", apart := false }
def FnExactLargestMeanSaid : Prop := fnExactLargestMeanRow.holds Try.pinned (OpenSpec.ofChange fnExactLargestMeanSpec)

/-- ITS FALSE NEIGHBOUR: 'it returns false'. Refute it at one input. -/
def fnExactLargestMeanWrong : ChangeSpec := { name := "fnExactLargestMean", fn := fun _ => fun
  | [d1, d2] => { results := [.lit (.bool false)], args := [d1, d2] }
  | _ => none }
def FnExactLargestMeanWrongFalsely : Prop := fnExactLargestMeanRow.holds Try.pinned (OpenSpec.ofChange fnExactLargestMeanWrong)

/-- 'laws.FnExactLargestChance': WHATEVER THE INPUT: true; the input reads as it did. -/
def fnExactLargestChanceSpec : ChangeSpec := { name := "fnExactLargestChance", fn := fun _ => fun
  | [d1, d2, d3] => { results := [.lit (.bool true)], args := [d1, d2, d3] }
  | _ => none }
def fnExactLargestChanceRow : OpenClaim := { program := "ytojipjjfndgbhaa", sum := "4eb0fc63f07d1674510dc0c206f30ebc1c4b976caf6f1cec237b946d6ceaa7e0", func := "loop.example/g01131/laws.FnExactLargestChance", spec := "fnExactLargestChance", apart := false }
def FnExactLargestChanceSaid : Prop := fnExactLargestChanceRow.holds Try.pinned (OpenSpec.ofChange fnExactLargestChanceSpec)

/-- ITS FALSE NEIGHBOUR: 'it returns false'. Refute it at one input. -/
def fnExactLargestChanceWrong : ChangeSpec := { name := "fnExactLargestChance", fn := fun _ => fun
  | [d1, d2, d3] => { results := [.lit (.bool false)], args := [d1, d2, d3] }
  | _ => none }
def FnExactLargestChanceWrongFalsely : Prop := fnExactLargestChanceRow.holds Try.pinned (OpenSpec.ofChange fnExactLargestChanceWrong)

/-- 'laws.FnExactDealHouse': WHATEVER THE INPUT: true; the input reads as it did. -/
def fnExactDealHouseSpec : ChangeSpec := { name := "fnExactDealHouse", fn := fun _ => fun
  | [d1, d2] => { results := [.lit (.bool true)], args := [d1, d2] }
  | _ => none }
def fnExactDealHouseRow : OpenClaim := { program := "ytojipjjfndgbhaa", sum := "4eb0fc63f07d1674510dc0c206f30ebc1c4b976caf6f1cec237b946d6ceaa7e0", func := "loop.example/g01131/laws.FnExactDealHouse", spec := "fnExactDealHouse", apart := false }
def FnExactDealHouseSaid : Prop := fnExactDealHouseRow.holds Try.pinned (OpenSpec.ofChange fnExactDealHouseSpec)

/-- ITS FALSE NEIGHBOUR: 'it returns false'. Refute it at one input. -/
def fnExactDealHouseWrong : ChangeSpec := { name := "fnExactDealHouse", fn := fun _ => fun
  | [d1, d2] => { results := [.lit (.bool false)], args := [d1, d2] }
  | _ => none }
def FnExactDealHouseWrongFalsely : Prop := fnExactDealHouseRow.holds Try.pinned (OpenSpec.ofChange fnExactDealHouseWrong)

/-- 'laws.FnExactDealAll': WHATEVER THE INPUT: true; the input reads as it did. -/
def fnExactDealAllSpec : ChangeSpec := { name := "fnExactDealAll", fn := fun _ => fun
  | [d1, d2] => { results := [.lit (.bool true)], args := [d1, d2] }
  | _ => none }
def fnExactDealAllRow : OpenClaim := { program := "ytojipjjfndgbhaa", sum := "4eb0fc63f07d1674510dc0c206f30ebc1c4b976caf6f1cec237b946d6ceaa7e0", func := "loop.example/g01131/laws.FnExactDealAll", spec := "fnExactDealAll", apart := false }
def FnExactDealAllSaid : Prop := fnExactDealAllRow.holds Try.pinned (OpenSpec.ofChange fnExactDealAllSpec)

/-- ITS FALSE NEIGHBOUR: 'it returns false'. Refute it at one input. -/
def fnExactDealAllWrong : ChangeSpec := { name := "fnExactDealAll", fn := fun _ => fun
  | [d1, d2] => { results := [.lit (.bool false)], args := [d1, d2] }
  | _ => none }
def FnExactDealAllWrongFalsely : Prop := fnExactDealAllRow.holds Try.pinned (OpenSpec.ofChange fnExactDealAllWrong)

/-- 'laws.FnLargest': WHATEVER THE INPUT: true; the input reads as it did. -/
def fnLargestSpec : ChangeSpec := { name := "fnLargest", fn := fun _ => fun
  | [d] => { results := [.lit (.bool true)], args := [d] }
  | _ => none }
def fnLargestRow : OpenClaim := { program := "ytojipjjfndgbhaa", sum := "4eb0fc63f07d1674510dc0c206f30ebc1c4b976caf6f1cec237b946d6ceaa7e0", func := "loop.example/g01131/laws.FnLargest", spec := "fnLargest", apart := false }
def FnLargestSaid : Prop := fnLargestRow.holds Try.pinned (OpenSpec.ofChange fnLargestSpec)

/-- ITS FALSE NEIGHBOUR: 'it returns false'. Refute it at one input. -/
def fnLargestWrong : ChangeSpec := { name := "fnLargest", fn := fun _ => fun
  | [d] => { results := [.lit (.bool false)], args := [d] }
  | _ => none }
def FnLargestWrongFalsely : Prop := fnLargestRow.holds Try.pinned (OpenSpec.ofChange fnLargestWrong)

/-- 'laws.FnHouses': WHATEVER THE INPUT: true; the input reads as it did. -/
def fnHousesSpec : ChangeSpec := { name := "fnHouses", fn := fun _ => fun
  | [d] => { results := [.lit (.bool true)], args := [d] }
  | _ => none }
def fnHousesRow : OpenClaim := { program := "ytojipjjfndgbhaa", sum := "4eb0fc63f07d1674510dc0c206f30ebc1c4b976caf6f1cec237b946d6ceaa7e0", func := "loop.example/g01131/laws.FnHouses", spec := "fnHouses", apart := false }
def FnHousesSaid : Prop := fnHousesRow.holds Try.pinned (OpenSpec.ofChange fnHousesSpec)

/-- ITS FALSE NEIGHBOUR: 'it returns false'. Refute it at one input. -/
def fnHousesWrong : ChangeSpec := { name := "fnHouses", fn := fun _ => fun
  | [d] => { results := [.lit (.bool false)], args := [d] }
  | _ => none }
def FnHousesWrongFalsely : Prop := fnHousesRow.holds Try.pinned (OpenSpec.ofChange fnHousesWrong)

/-- 'laws.FnHouseValues': WHATEVER THE INPUT: true; the input reads as it did. -/
def fnHouseValuesSpec : ChangeSpec := { name := "fnHouseValues", fn := fun _ => fun
  | [d] => { results := [.lit (.bool true)], args := [d] }
  | _ => none }
def fnHouseValuesRow : OpenClaim := { program := "ytojipjjfndgbhaa", sum := "4eb0fc63f07d1674510dc0c206f30ebc1c4b976caf6f1cec237b946d6ceaa7e0", func := "loop.example/g01131/laws.FnHouseValues", spec := "fnHouseValues", apart := false }
def FnHouseValuesSaid : Prop := fnHouseValuesRow.holds Try.pinned (OpenSpec.ofChange fnHouseValuesSpec)

/-- ITS FALSE NEIGHBOUR: 'it returns false'. Refute it at one input. -/
def fnHouseValuesWrong : ChangeSpec := { name := "fnHouseValues", fn := fun _ => fun
  | [d] => { results := [.lit (.bool false)], args := [d] }
  | _ => none }
def FnHouseValuesWrongFalsely : Prop := fnHouseValuesRow.holds Try.pinned (OpenSpec.ofChange fnHouseValuesWrong)

/- THE SECOND FORM. 'bulk': how many values and letters a reading holds, each counted each time it is reached (what is shared counts as often as it is met; a slice's spare places count too). A statement '..UptoSaid' is the law's where the arguments, and the package variables that the reading takes, are together of bulk at most 1048576: NARROWER than '..Said'. Prove '..Said' where nothing that the law and all that it calls make is longer than what came in: it says more and counts as full. Else prove '..UptoSaid'. A law counts once. -/
mutual
def uptoBulk {H : Type} : DataW H → Nat
  | .lit (.string bytes) => bytes.length + 1
  | .lit _ => 1
  | .nil => 1
  | .ptr d => uptoBulk d + 1
  | .slice elems spare => uptoBulkAll elems + uptoBulkAll spare + 1
  | .agg parts => uptoBulkAll parts + 1
  | .iface _ d => uptoBulk d + 1
  | .map entries => uptoBulkEntries entries + 1
  | .held _ => 1
def uptoBulkAll {H : Type} : List (DataW H) → Nat
  | [] => 0
  | d :: r => uptoBulk d + uptoBulkAll r
def uptoBulkEntries {H : Type} : List (Lit × DataW H) → Nat
  | [] => 0
  | x :: r => uptoBulkEntry x + uptoBulkEntries r
def uptoBulkEntry {H : Type} : Lit × DataW H → Nat
  | (.string bytes, d) => bytes.length + uptoBulk d + 1
  | (_, d) => uptoBulk d + 1
 end
def uptoSmall : (H : Type) → List (DataW H) → Bool := fun _ ds => decide (uptoBulkAll ds ≤ 1048576)
def OpenSpec.upto (s : _root_.Go.ChangeSpec) : _root_.Go.OpenSpec := { _root_.Go.OpenSpec.ofChange s with cond := some uptoSmall }

/-- 'laws.FnExactIsHouse', WHERE WHAT IT READS IS OF BULK AT MOST 1048576: true; the input reads as it did. -/
def fnExactIsHouseUptoRow : OpenClaim := { program := "ytojipjjfndgbhaa", sum := "4eb0fc63f07d1674510dc0c206f30ebc1c4b976caf6f1cec237b946d6ceaa7e0", func := "loop.example/g01131/laws.FnExactIsHouse", spec := "fnExactIsHouse", apart := false, narrowed := true }
def FnExactIsHouseUptoSaid : Prop := fnExactIsHouseUptoRow.holds Try.pinned (OpenSpec.upto fnExactIsHouseSpec)

/-- 'laws.FnExactNewHouse', WHERE WHAT IT READS IS OF BULK AT MOST 1048576: true; the input reads as it did. -/
def fnExactNewHouseUptoRow : OpenClaim := { program := "ytojipjjfndgbhaa", sum := "4eb0fc63f07d1674510dc0c206f30ebc1c4b976caf6f1cec237b946d6ceaa7e0", func := "loop.example/g01131/laws.FnExactNewHouse", spec := "fnExactNewHouse", apart := false, narrowed := true }
def FnExactNewHouseUptoSaid : Prop := fnExactNewHouseUptoRow.holds Try.pinned (OpenSpec.upto fnExactNewHouseSpec)

/-- 'laws.FnExactPriceMean', WHERE WHAT IT READS IS OF BULK AT MOST 1048576: true; the input reads as it did. -/
def fnExactPriceMeanUptoRow : OpenClaim := { program := "ytojipjjfndgbhaa", sum := "4eb0fc63f07d1674510dc0c206f30ebc1c4b976caf6f1cec237b946d6ceaa7e0", func := "loop.example/g01131/laws.FnExactPriceMean", spec := "fnExactPriceMean", apart := false, narrowed := true }
def FnExactPriceMeanUptoSaid : Prop := fnExactPriceMeanUptoRow.holds Try.pinned (OpenSpec.upto fnExactPriceMeanSpec)

/-- 'laws.FnExactHouseValue', WHERE WHAT IT READS IS OF BULK AT MOST 1048576: true; the input reads as it did. -/
def fnExactHouseValueUptoRow : OpenClaim := { program := "ytojipjjfndgbhaa", sum := "4eb0fc63f07d1674510dc0c206f30ebc1c4b976caf6f1cec237b946d6ceaa7e0", func := "loop.example/g01131/laws.FnExactHouseValue", spec := "fnExactHouseValue", apart := false, narrowed := true }
def FnExactHouseValueUptoSaid : Prop := fnExactHouseValueUptoRow.holds Try.pinned (OpenSpec.upto fnExactHouseValueSpec)

/-- 'laws.FnExactShouldStop', WHERE WHAT IT READS IS OF BULK AT MOST 1048576: true; the input reads as it did. -/
def fnExactShouldStopUptoRow : OpenClaim := { program := "ytojipjjfndgbhaa", sum := "4eb0fc63f07d1674510dc0c206f30ebc1c4b976caf6f1cec237b946d6ceaa7e0", func := "loop.example/g01131/laws.FnExactShouldStop", spec := "fnExactShouldStop", apart := false, narrowed := true }
def FnExactShouldStopUptoSaid : Prop := fnExactShouldStopUptoRow.holds Try.pinned (OpenSpec.upto fnExactShouldStopSpec)

/-- 'laws.FnExactLargestMean', WHERE WHAT IT READS IS OF BULK AT MOST 1048576: true; the input reads as it did. -/
def fnExactLargestMeanUptoRow : OpenClaim := { program := "ytojipjjfndgbhaa", sum := "4eb0fc63f07d1674510dc0c206f30ebc1c4b976caf6f1cec237b946d6ceaa7e0", func := "loop.example/g01131/laws.FnExactLargestMean", spec := "fnExactLargestMean", apart := false, narrowed := true }
def FnExactLargestMeanUptoSaid : Prop := fnExactLargestMeanUptoRow.holds Try.pinned (OpenSpec.upto fnExactLargestMeanSpec)

/-- 'laws.FnExactLargestChance', WHERE WHAT IT READS IS OF BULK AT MOST 1048576: true; the input reads as it did. -/
def fnExactLargestChanceUptoRow : OpenClaim := { program := "ytojipjjfndgbhaa", sum := "4eb0fc63f07d1674510dc0c206f30ebc1c4b976caf6f1cec237b946d6ceaa7e0", func := "loop.example/g01131/laws.FnExactLargestChance", spec := "fnExactLargestChance", apart := false, narrowed := true }
def FnExactLargestChanceUptoSaid : Prop := fnExactLargestChanceUptoRow.holds Try.pinned (OpenSpec.upto fnExactLargestChanceSpec)

/-- 'laws.FnExactDealHouse', WHERE WHAT IT READS IS OF BULK AT MOST 1048576: true; the input reads as it did. -/
def fnExactDealHouseUptoRow : OpenClaim := { program := "ytojipjjfndgbhaa", sum := "4eb0fc63f07d1674510dc0c206f30ebc1c4b976caf6f1cec237b946d6ceaa7e0", func := "loop.example/g01131/laws.FnExactDealHouse", spec := "fnExactDealHouse", apart := false, narrowed := true }
def FnExactDealHouseUptoSaid : Prop := fnExactDealHouseUptoRow.holds Try.pinned (OpenSpec.upto fnExactDealHouseSpec)

/-- 'laws.FnExactDealAll', WHERE WHAT IT READS IS OF BULK AT MOST 1048576: true; the input reads as it did. -/
def fnExactDealAllUptoRow : OpenClaim := { program := "ytojipjjfndgbhaa", sum := "4eb0fc63f07d1674510dc0c206f30ebc1c4b976caf6f1cec237b946d6ceaa7e0", func := "loop.example/g01131/laws.FnExactDealAll", spec := "fnExactDealAll", apart := false, narrowed := true }
def FnExactDealAllUptoSaid : Prop := fnExactDealAllUptoRow.holds Try.pinned (OpenSpec.upto fnExactDealAllSpec)

/-- 'laws.FnLargest', WHERE WHAT IT READS IS OF BULK AT MOST 1048576: true; the input reads as it did. -/
def fnLargestUptoRow : OpenClaim := { program := "ytojipjjfndgbhaa", sum := "4eb0fc63f07d1674510dc0c206f30ebc1c4b976caf6f1cec237b946d6ceaa7e0", func := "loop.example/g01131/laws.FnLargest", spec := "fnLargest", apart := false, narrowed := true }
def FnLargestUptoSaid : Prop := fnLargestUptoRow.holds Try.pinned (OpenSpec.upto fnLargestSpec)

/-- 'laws.FnHouses', WHERE WHAT IT READS IS OF BULK AT MOST 1048576: true; the input reads as it did. -/
def fnHousesUptoRow : OpenClaim := { program := "ytojipjjfndgbhaa", sum := "4eb0fc63f07d1674510dc0c206f30ebc1c4b976caf6f1cec237b946d6ceaa7e0", func := "loop.example/g01131/laws.FnHouses", spec := "fnHouses", apart := false, narrowed := true }
def FnHousesUptoSaid : Prop := fnHousesUptoRow.holds Try.pinned (OpenSpec.upto fnHousesSpec)

/-- 'laws.FnHouseValues', WHERE WHAT IT READS IS OF BULK AT MOST 1048576: true; the input reads as it did. -/
def fnHouseValuesUptoRow : OpenClaim := { program := "ytojipjjfndgbhaa", sum := "4eb0fc63f07d1674510dc0c206f30ebc1c4b976caf6f1cec237b946d6ceaa7e0", func := "loop.example/g01131/laws.FnHouseValues", spec := "fnHouseValues", apart := false, narrowed := true }
def FnHouseValuesUptoSaid : Prop := fnHouseValuesUptoRow.holds Try.pinned (OpenSpec.upto fnHouseValuesSpec)

end Rows
end Go.Proofs.Ytojipjjfndgbhaa
