/-
  No cell of these rows narrows 'for every input' (looked for: loops, veiled, ifaces, maps, wideKeys, modest, calm, conditions, laid).
  DERIVED. THE GIVEN ROWS OF THIS SEAT. 7 by the template 'for every input the law returns true; each argument reads behind the call as it read before'; 0 by the template 'total and deterministic' (their statements: YtfjonnpaoeillaaTotals.lean).
  GIVEN WITH THE SEED: the statements are not yours to turn. If you find one false, say at which input.
  Laid BY PROGRAM, IN A SANDBOX (cutbox-rows.mjs): the forced cells as the released guide's own fill.sh prints them over the translation 421eb4cad65cc686… (all of the seat's roots in one cut). By AI agents, Wed Nov 11 2026. No macro, syntax, notation, axiom, sorry.
-/
import Derived.Test.YtfjonnpaoeillaaChecked
import GoSem.Claim
import GoSem.ClaimJoined
import GoSem.ClaimMapViews
import Derived.JoinedTies
import Derived.KernelRfl
namespace Go.Proofs.Ytfjonnpaoeillaa
/- THE CELL 'sum', in the pinned program and in every row, IS THE sha256 OF THE DUMP (.gsa) THAT YtfjonnpaoeillaaProg.lean LOADS. Nothing in Lean hashes anything: it is a label: what it is worth is what the hold of that sum in a sandbox is worth. -/
noncomputable def Try.pinned : Pinned := { name := "ytfjonnpaoeillaa", sum := "421eb4cad65cc686c1e25130c406ad9b3605476dc80a2c78d3e19a3c41e58d1d", checked := Try.checked }
namespace Rows
def none {H : Type} : Left H := { results := [], args := [] }

/-- 'laws.FnExactIsFairBet': WHATEVER THE INPUT: true; the input reads as it did. -/
def fnExactIsFairBetSpec : ChangeSpec := { name := "fnExactIsFairBet", fn := fun _ => fun
  | [d1, d2, d3, d4] => { results := [.lit (.bool true)], args := [d1, d2, d3, d4] }
  | _ => none }
def fnExactIsFairBetRow : OpenClaim := { program := "ytfjonnpaoeillaa", sum := "421eb4cad65cc686c1e25130c406ad9b3605476dc80a2c78d3e19a3c41e58d1d", func := "loop.example/g01131/laws.FnExactIsFairBet", spec := "fnExactIsFairBet", apart := false }
def FnExactIsFairBetSaid : Prop := fnExactIsFairBetRow.holds Try.pinned (OpenSpec.ofChange fnExactIsFairBetSpec)

/-- ITS FALSE NEIGHBOUR: 'it returns false'. Refute it at one input. -/
def fnExactIsFairBetWrong : ChangeSpec := { name := "fnExactIsFairBet", fn := fun _ => fun
  | [d1, d2, d3, d4] => { results := [.lit (.bool false)], args := [d1, d2, d3, d4] }
  | _ => none }
def FnExactIsFairBetWrongFalsely : Prop := fnExactIsFairBetRow.holds Try.pinned (OpenSpec.ofChange fnExactIsFairBetWrong)

/-- 'laws.FnExactGrowthOf': WHATEVER THE INPUT: true; the input reads as it did. -/
def fnExactGrowthOfSpec : ChangeSpec := { name := "fnExactGrowthOf", fn := fun _ => fun
  | [d1, d2, d3, d4, d5, d6] => { results := [.lit (.bool true)], args := [d1, d2, d3, d4, d5, d6] }
  | _ => none }
def fnExactGrowthOfRow : OpenClaim := { program := "ytfjonnpaoeillaa", sum := "421eb4cad65cc686c1e25130c406ad9b3605476dc80a2c78d3e19a3c41e58d1d", func := "loop.example/g01131/laws.FnExactGrowthOf", spec := "fnExactGrowthOf", apart := false }
def FnExactGrowthOfSaid : Prop := fnExactGrowthOfRow.holds Try.pinned (OpenSpec.ofChange fnExactGrowthOfSpec)

/-- ITS FALSE NEIGHBOUR: 'it returns false'. Refute it at one input. -/
def fnExactGrowthOfWrong : ChangeSpec := { name := "fnExactGrowthOf", fn := fun _ => fun
  | [d1, d2, d3, d4, d5, d6] => { results := [.lit (.bool false)], args := [d1, d2, d3, d4, d5, d6] }
  | _ => none }
def FnExactGrowthOfWrongFalsely : Prop := fnExactGrowthOfRow.holds Try.pinned (OpenSpec.ofChange fnExactGrowthOfWrong)

/-- 'laws.FnExactBestShare': WHATEVER THE INPUT: true; the input reads as it did. -/
def fnExactBestShareSpec : ChangeSpec := { name := "fnExactBestShare", fn := fun _ => fun
  | [d1, d2, d3, d4, d5] => { results := [.lit (.bool true)], args := [d1, d2, d3, d4, d5] }
  | _ => none }
def fnExactBestShareRow : OpenClaim := { program := "ytfjonnpaoeillaa", sum := "421eb4cad65cc686c1e25130c406ad9b3605476dc80a2c78d3e19a3c41e58d1d", func := "loop.example/g01131/laws.FnExactBestShare", spec := "fnExactBestShare", apart := false }
def FnExactBestShareSaid : Prop := fnExactBestShareRow.holds Try.pinned (OpenSpec.ofChange fnExactBestShareSpec)

/-- ITS FALSE NEIGHBOUR: 'it returns false'. Refute it at one input. -/
def fnExactBestShareWrong : ChangeSpec := { name := "fnExactBestShare", fn := fun _ => fun
  | [d1, d2, d3, d4, d5] => { results := [.lit (.bool false)], args := [d1, d2, d3, d4, d5] }
  | _ => none }
def FnExactBestShareWrongFalsely : Prop := fnExactBestShareRow.holds Try.pinned (OpenSpec.ofChange fnExactBestShareWrong)

/-- 'laws.FnExactFairShare': WHATEVER THE INPUT: true; the input reads as it did. -/
def fnExactFairShareSpec : ChangeSpec := { name := "fnExactFairShare", fn := fun _ => fun
  | [d1, d2, d3, d4] => { results := [.lit (.bool true)], args := [d1, d2, d3, d4] }
  | _ => none }
def fnExactFairShareRow : OpenClaim := { program := "ytfjonnpaoeillaa", sum := "421eb4cad65cc686c1e25130c406ad9b3605476dc80a2c78d3e19a3c41e58d1d", func := "loop.example/g01131/laws.FnExactFairShare", spec := "fnExactFairShare", apart := false }
def FnExactFairShareSaid : Prop := fnExactFairShareRow.holds Try.pinned (OpenSpec.ofChange fnExactFairShareSpec)

/-- ITS FALSE NEIGHBOUR: 'it returns false'. Refute it at one input. -/
def fnExactFairShareWrong : ChangeSpec := { name := "fnExactFairShare", fn := fun _ => fun
  | [d1, d2, d3, d4] => { results := [.lit (.bool false)], args := [d1, d2, d3, d4] }
  | _ => none }
def FnExactFairShareWrongFalsely : Prop := fnExactFairShareRow.holds Try.pinned (OpenSpec.ofChange fnExactFairShareWrong)

/-- 'laws.FnExactSplitGrowth': WHATEVER THE INPUT: true; the input reads as it did. -/
def fnExactSplitGrowthSpec : ChangeSpec := { name := "fnExactSplitGrowth", fn := fun _ => fun
  | [d1, d2] => { results := [.lit (.bool true)], args := [d1, d2] }
  | _ => none }
def fnExactSplitGrowthRow : OpenClaim := { program := "ytfjonnpaoeillaa", sum := "421eb4cad65cc686c1e25130c406ad9b3605476dc80a2c78d3e19a3c41e58d1d", func := "loop.example/g01131/laws.FnExactSplitGrowth", spec := "fnExactSplitGrowth", apart := false }
def FnExactSplitGrowthSaid : Prop := fnExactSplitGrowthRow.holds Try.pinned (OpenSpec.ofChange fnExactSplitGrowthSpec)

/-- ITS FALSE NEIGHBOUR: 'it returns false'. Refute it at one input. -/
def fnExactSplitGrowthWrong : ChangeSpec := { name := "fnExactSplitGrowth", fn := fun _ => fun
  | [d1, d2] => { results := [.lit (.bool false)], args := [d1, d2] }
  | _ => none }
def FnExactSplitGrowthWrongFalsely : Prop := fnExactSplitGrowthRow.holds Try.pinned (OpenSpec.ofChange fnExactSplitGrowthWrong)

/-- 'laws.FnExactBestSplit': WHATEVER THE INPUT: true; the input reads as it did. -/
def fnExactBestSplitSpec : ChangeSpec := { name := "fnExactBestSplit", fn := fun _ => fun
  | [d1, d2] => { results := [.lit (.bool true)], args := [d1, d2] }
  | _ => none }
def fnExactBestSplitRow : OpenClaim := { program := "ytfjonnpaoeillaa", sum := "421eb4cad65cc686c1e25130c406ad9b3605476dc80a2c78d3e19a3c41e58d1d", func := "loop.example/g01131/laws.FnExactBestSplit", spec := "fnExactBestSplit", recurses := true, apart := false }
def FnExactBestSplitSaid : Prop := fnExactBestSplitRow.holds Try.pinned (OpenSpec.ofChange fnExactBestSplitSpec)

/-- ITS FALSE NEIGHBOUR: 'it returns false'. Refute it at one input. -/
def fnExactBestSplitWrong : ChangeSpec := { name := "fnExactBestSplit", fn := fun _ => fun
  | [d1, d2] => { results := [.lit (.bool false)], args := [d1, d2] }
  | _ => none }
def FnExactBestSplitWrongFalsely : Prop := fnExactBestSplitRow.holds Try.pinned (OpenSpec.ofChange fnExactBestSplitWrong)

/-- 'laws.FnShares': WHATEVER THE INPUT: true; the input reads as it did. -/
def fnSharesSpec : ChangeSpec := { name := "fnShares", fn := fun _ => fun
  | [d] => { results := [.lit (.bool true)], args := [d] }
  | _ => none }
def fnSharesRow : OpenClaim := { program := "ytfjonnpaoeillaa", sum := "421eb4cad65cc686c1e25130c406ad9b3605476dc80a2c78d3e19a3c41e58d1d", func := "loop.example/g01131/laws.FnShares", spec := "fnShares", recurses := true, apart := false }
def FnSharesSaid : Prop := fnSharesRow.holds Try.pinned (OpenSpec.ofChange fnSharesSpec)

/-- ITS FALSE NEIGHBOUR: 'it returns false'. Refute it at one input. -/
def fnSharesWrong : ChangeSpec := { name := "fnShares", fn := fun _ => fun
  | [d] => { results := [.lit (.bool false)], args := [d] }
  | _ => none }
def FnSharesWrongFalsely : Prop := fnSharesRow.holds Try.pinned (OpenSpec.ofChange fnSharesWrong)

/- THE SECOND FORM. 'bulk': how many values and letters a reading holds, each counted each time it is reached (what is shared counts as often as it is met; a slice's spare places count too). A statement '..UptoSaid' is the law's where the arguments, and the package variables that the reading takes, are together of bulk at most 1048576: NARROWER than '..Said'. Prove '..Said' where nothing that the law and all that it calls make is longer than what came in: it says more and counts as full. Else prove '..UptoSaid'. A law counts once. -/
mutual
def uptoBulk {H : Type} : DataW H → Nat
  | .lit (.string bytes) => bytes.length + 1
  | .lit _ => 1
  | .nil => 1
  | .ptr d => uptoBulk d + 1
  | .slice elems spare => uptoBulkAll elems + uptoBulkAll spare + 1
  | .agg parts => uptoBulkAll parts + 1
  | .iface _ d => uptoBulk d + 1
  | .map entries => uptoBulkEntries entries + 1
  | .held _ => 1
def uptoBulkAll {H : Type} : List (DataW H) → Nat
  | [] => 0
  | d :: r => uptoBulk d + uptoBulkAll r
def uptoBulkEntries {H : Type} : List (Lit × DataW H) → Nat
  | [] => 0
  | x :: r => uptoBulkEntry x + uptoBulkEntries r
def uptoBulkEntry {H : Type} : Lit × DataW H → Nat
  | (.string bytes, d) => bytes.length + uptoBulk d + 1
  | (_, d) => uptoBulk d + 1
 end
def uptoSmall : (H : Type) → List (DataW H) → Bool := fun _ ds => decide (uptoBulkAll ds ≤ 1048576)
def OpenSpec.upto (s : _root_.Go.ChangeSpec) : _root_.Go.OpenSpec := { _root_.Go.OpenSpec.ofChange s with cond := some uptoSmall }

/-- 'laws.FnExactIsFairBet', WHERE WHAT IT READS IS OF BULK AT MOST 1048576: true; the input reads as it did. -/
def fnExactIsFairBetUptoRow : OpenClaim := { program := "ytfjonnpaoeillaa", sum := "421eb4cad65cc686c1e25130c406ad9b3605476dc80a2c78d3e19a3c41e58d1d", func := "loop.example/g01131/laws.FnExactIsFairBet", spec := "fnExactIsFairBet", apart := false, narrowed := true }
def FnExactIsFairBetUptoSaid : Prop := fnExactIsFairBetUptoRow.holds Try.pinned (OpenSpec.upto fnExactIsFairBetSpec)

/-- 'laws.FnExactGrowthOf', WHERE WHAT IT READS IS OF BULK AT MOST 1048576: true; the input reads as it did. -/
def fnExactGrowthOfUptoRow : OpenClaim := { program := "ytfjonnpaoeillaa", sum := "421eb4cad65cc686c1e25130c406ad9b3605476dc80a2c78d3e19a3c41e58d1d", func := "loop.example/g01131/laws.FnExactGrowthOf", spec := "fnExactGrowthOf", apart := false, narrowed := true }
def FnExactGrowthOfUptoSaid : Prop := fnExactGrowthOfUptoRow.holds Try.pinned (OpenSpec.upto fnExactGrowthOfSpec)

/-- 'laws.FnExactBestShare', WHERE WHAT IT READS IS OF BULK AT MOST 1048576: true; the input reads as it did. -/
def fnExactBestShareUptoRow : OpenClaim := { program := "ytfjonnpaoeillaa", sum := "421eb4cad65cc686c1e25130c406ad9b3605476dc80a2c78d3e19a3c41e58d1d", func := "loop.example/g01131/laws.FnExactBestShare", spec := "fnExactBestShare", apart := false, narrowed := true }
def FnExactBestShareUptoSaid : Prop := fnExactBestShareUptoRow.holds Try.pinned (OpenSpec.upto fnExactBestShareSpec)

/-- 'laws.FnExactFairShare', WHERE WHAT IT READS IS OF BULK AT MOST 1048576: true; the input reads as it did. -/
def fnExactFairShareUptoRow : OpenClaim := { program := "ytfjonnpaoeillaa", sum := "421eb4cad65cc686c1e25130c406ad9b3605476dc80a2c78d3e19a3c41e58d1d", func := "loop.example/g01131/laws.FnExactFairShare", spec := "fnExactFairShare", apart := false, narrowed := true }
def FnExactFairShareUptoSaid : Prop := fnExactFairShareUptoRow.holds Try.pinned (OpenSpec.upto fnExactFairShareSpec)

/-- 'laws.FnExactSplitGrowth', WHERE WHAT IT READS IS OF BULK AT MOST 1048576: true; the input reads as it did. -/
def fnExactSplitGrowthUptoRow : OpenClaim := { program := "ytfjonnpaoeillaa", sum := "421eb4cad65cc686c1e25130c406ad9b3605476dc80a2c78d3e19a3c41e58d1d", func := "loop.example/g01131/laws.FnExactSplitGrowth", spec := "fnExactSplitGrowth", apart := false, narrowed := true }
def FnExactSplitGrowthUptoSaid : Prop := fnExactSplitGrowthUptoRow.holds Try.pinned (OpenSpec.upto fnExactSplitGrowthSpec)

/-- 'laws.FnExactBestSplit', WHERE WHAT IT READS IS OF BULK AT MOST 1048576: true; the input reads as it did. -/
def fnExactBestSplitUptoRow : OpenClaim := { program := "ytfjonnpaoeillaa", sum := "421eb4cad65cc686c1e25130c406ad9b3605476dc80a2c78d3e19a3c41e58d1d", func := "loop.example/g01131/laws.FnExactBestSplit", spec := "fnExactBestSplit", recurses := true, apart := false, narrowed := true }
def FnExactBestSplitUptoSaid : Prop := fnExactBestSplitUptoRow.holds Try.pinned (OpenSpec.upto fnExactBestSplitSpec)

/-- 'laws.FnShares', WHERE WHAT IT READS IS OF BULK AT MOST 1048576: true; the input reads as it did. -/
def fnSharesUptoRow : OpenClaim := { program := "ytfjonnpaoeillaa", sum := "421eb4cad65cc686c1e25130c406ad9b3605476dc80a2c78d3e19a3c41e58d1d", func := "loop.example/g01131/laws.FnShares", spec := "fnShares", recurses := true, apart := false, narrowed := true }
def FnSharesUptoSaid : Prop := fnSharesUptoRow.holds Try.pinned (OpenSpec.upto fnSharesSpec)

end Rows
end Go.Proofs.Ytfjonnpaoeillaa
