/-
  No cell of these rows narrows 'for every input' (looked for: loops, veiled, ifaces, maps, wideKeys, modest, calm, conditions, laid).
  DERIVED. THE GIVEN ROWS OF THIS SEAT. 13 by the template 'for every input the law returns true; each argument reads behind the call as it read before'; 0 by the template 'total and deterministic' (their statements: YtboekndojgbkfaaTotals.lean).
  GIVEN WITH THE SEED: the statements are not yours to turn. If you find one false, say at which input.
  Laid BY PROGRAM, IN A SANDBOX (cutbox-rows.mjs): the forced cells as the released guide's own fill.sh prints them over the translation 830d451a57b5cfe0… (all of the seat's roots in one cut). By AI agents, Wed Nov 11 2026. No macro, syntax, notation, axiom, sorry.
-/
import Derived.Test.YtboekndojgbkfaaChecked
import GoSem.Claim
import GoSem.ClaimJoined
import GoSem.ClaimMapViews
import Derived.JoinedTies
import Derived.KernelRfl
namespace Go.Proofs.Ytboekndojgbkfaa
/- THE CELL 'sum', in the pinned program and in every row, IS THE sha256 OF THE DUMP (.gsa) THAT YtboekndojgbkfaaProg.lean LOADS. Nothing in Lean hashes anything: it is a label: what it is worth is what the hold of that sum in a sandbox is worth. -/
noncomputable def Try.pinned : Pinned := { name := "ytboekndojgbkfaa", sum := "830d451a57b5cfe0c43280197dea4deea0717f78ff0317b3f7294f13d4063a1a", checked := Try.checked }
namespace Rows
def none {H : Type} : Left H := { results := [], args := [] }

/-- 'laws.FnExactIsWider': WHATEVER THE INPUT: true; the input reads as it did. -/
def fnExactIsWiderSpec : ChangeSpec := { name := "fnExactIsWider", fn := fun _ => fun
  | [d1, d2] => { results := [.lit (.bool true)], args := [d1, d2] }
  | _ => none }
def fnExactIsWiderRow : OpenClaim := { program := "ytboekndojgbkfaa", sum := "830d451a57b5cfe0c43280197dea4deea0717f78ff0317b3f7294f13d4063a1a", func := "loop.example/g01131/laws.FnExactIsWider", spec := "fnExactIsWider", apart := false }
def FnExactIsWiderSaid : Prop := fnExactIsWiderRow.holds Try.pinned (OpenSpec.ofChange fnExactIsWiderSpec)

/-- ITS FALSE NEIGHBOUR: 'it returns false'. Refute it at one input. -/
def fnExactIsWiderWrong : ChangeSpec := { name := "fnExactIsWider", fn := fun _ => fun
  | [d1, d2] => { results := [.lit (.bool false)], args := [d1, d2] }
  | _ => none }
def FnExactIsWiderWrongFalsely : Prop := fnExactIsWiderRow.holds Try.pinned (OpenSpec.ofChange fnExactIsWiderWrong)

/-- 'laws.FnExactIsPlan': WHATEVER THE INPUT: true; the input reads as it did. -/
def fnExactIsPlanSpec : ChangeSpec := { name := "fnExactIsPlan", fn := fun _ => fun
  | [d1, d2, d3] => { results := [.lit (.bool true)], args := [d1, d2, d3] }
  | _ => none }
def fnExactIsPlanRow : OpenClaim := { program := "ytboekndojgbkfaa", sum := "830d451a57b5cfe0c43280197dea4deea0717f78ff0317b3f7294f13d4063a1a", func := "loop.example/g01131/laws.FnExactIsPlan", spec := "fnExactIsPlan", apart := false }
def FnExactIsPlanSaid : Prop := fnExactIsPlanRow.holds Try.pinned (OpenSpec.ofChange fnExactIsPlanSpec)

/-- ITS FALSE NEIGHBOUR: 'it returns false'. Refute it at one input. -/
def fnExactIsPlanWrong : ChangeSpec := { name := "fnExactIsPlan", fn := fun _ => fun
  | [d1, d2, d3] => { results := [.lit (.bool false)], args := [d1, d2, d3] }
  | _ => none }
def FnExactIsPlanWrongFalsely : Prop := fnExactIsPlanRow.holds Try.pinned (OpenSpec.ofChange fnExactIsPlanWrong)

/-- 'laws.FnExactArePotentials': WHATEVER THE INPUT: true; the input reads as it did. -/
def fnExactArePotentialsSpec : ChangeSpec := { name := "fnExactArePotentials", fn := fun _ => fun
  | [d1, d2, d3, d4, d5] => { results := [.lit (.bool true)], args := [d1, d2, d3, d4, d5] }
  | _ => none }
def fnExactArePotentialsRow : OpenClaim := { program := "ytboekndojgbkfaa", sum := "830d451a57b5cfe0c43280197dea4deea0717f78ff0317b3f7294f13d4063a1a", func := "loop.example/g01131/laws.FnExactArePotentials", spec := "fnExactArePotentials", apart := false }
def FnExactArePotentialsSaid : Prop := fnExactArePotentialsRow.holds Try.pinned (OpenSpec.ofChange fnExactArePotentialsSpec)

/-- ITS FALSE NEIGHBOUR: 'it returns false'. Refute it at one input. -/
def fnExactArePotentialsWrong : ChangeSpec := { name := "fnExactArePotentials", fn := fun _ => fun
  | [d1, d2, d3, d4, d5] => { results := [.lit (.bool false)], args := [d1, d2, d3, d4, d5] }
  | _ => none }
def FnExactArePotentialsWrongFalsely : Prop := fnExactArePotentialsRow.holds Try.pinned (OpenSpec.ofChange fnExactArePotentialsWrong)

/-- 'laws.FnExactKeptUnits': WHATEVER THE INPUT: true; the input reads as it did. -/
def fnExactKeptUnitsSpec : ChangeSpec := { name := "fnExactKeptUnits", fn := fun _ => fun
  | [d1, d2, d3] => { results := [.lit (.bool true)], args := [d1, d2, d3] }
  | _ => none }
def fnExactKeptUnitsRow : OpenClaim := { program := "ytboekndojgbkfaa", sum := "830d451a57b5cfe0c43280197dea4deea0717f78ff0317b3f7294f13d4063a1a", func := "loop.example/g01131/laws.FnExactKeptUnits", spec := "fnExactKeptUnits", apart := false }
def FnExactKeptUnitsSaid : Prop := fnExactKeptUnitsRow.holds Try.pinned (OpenSpec.ofChange fnExactKeptUnitsSpec)

/-- ITS FALSE NEIGHBOUR: 'it returns false'. Refute it at one input. -/
def fnExactKeptUnitsWrong : ChangeSpec := { name := "fnExactKeptUnits", fn := fun _ => fun
  | [d1, d2, d3] => { results := [.lit (.bool false)], args := [d1, d2, d3] }
  | _ => none }
def FnExactKeptUnitsWrongFalsely : Prop := fnExactKeptUnitsRow.holds Try.pinned (OpenSpec.ofChange fnExactKeptUnitsWrong)

/-- 'laws.FnExactIsUpward': WHATEVER THE INPUT: true; the input reads as it did. -/
def fnExactIsUpwardSpec : ChangeSpec := { name := "fnExactIsUpward", fn := fun _ => fun
  | [d1, d2, d3] => { results := [.lit (.bool true)], args := [d1, d2, d3] }
  | _ => none }
def fnExactIsUpwardRow : OpenClaim := { program := "ytboekndojgbkfaa", sum := "830d451a57b5cfe0c43280197dea4deea0717f78ff0317b3f7294f13d4063a1a", func := "loop.example/g01131/laws.FnExactIsUpward", spec := "fnExactIsUpward", apart := false }
def FnExactIsUpwardSaid : Prop := fnExactIsUpwardRow.holds Try.pinned (OpenSpec.ofChange fnExactIsUpwardSpec)

/-- ITS FALSE NEIGHBOUR: 'it returns false'. Refute it at one input. -/
def fnExactIsUpwardWrong : ChangeSpec := { name := "fnExactIsUpward", fn := fun _ => fun
  | [d1, d2, d3] => { results := [.lit (.bool false)], args := [d1, d2, d3] }
  | _ => none }
def FnExactIsUpwardWrongFalsely : Prop := fnExactIsUpwardRow.holds Try.pinned (OpenSpec.ofChange fnExactIsUpwardWrong)

/-- 'laws.FnExactSortedPlan': WHATEVER THE INPUT: true; the input reads as it did. -/
def fnExactSortedPlanSpec : ChangeSpec := { name := "fnExactSortedPlan", fn := fun _ => fun
  | [d1, d2] => { results := [.lit (.bool true)], args := [d1, d2] }
  | _ => none }
def fnExactSortedPlanRow : OpenClaim := { program := "ytboekndojgbkfaa", sum := "830d451a57b5cfe0c43280197dea4deea0717f78ff0317b3f7294f13d4063a1a", func := "loop.example/g01131/laws.FnExactSortedPlan", spec := "fnExactSortedPlan", apart := false }
def FnExactSortedPlanSaid : Prop := fnExactSortedPlanRow.holds Try.pinned (OpenSpec.ofChange fnExactSortedPlanSpec)

/-- ITS FALSE NEIGHBOUR: 'it returns false'. Refute it at one input. -/
def fnExactSortedPlanWrong : ChangeSpec := { name := "fnExactSortedPlan", fn := fun _ => fun
  | [d1, d2] => { results := [.lit (.bool false)], args := [d1, d2] }
  | _ => none }
def FnExactSortedPlanWrongFalsely : Prop := fnExactSortedPlanRow.holds Try.pinned (OpenSpec.ofChange fnExactSortedPlanWrong)

/-- 'laws.FnExactIsCentred': WHATEVER THE INPUT: true; the input reads as it did. -/
def fnExactIsCentredSpec : ChangeSpec := { name := "fnExactIsCentred", fn := fun _ => fun
  | [d1, d2, d3] => { results := [.lit (.bool true)], args := [d1, d2, d3] }
  | _ => none }
def fnExactIsCentredRow : OpenClaim := { program := "ytboekndojgbkfaa", sum := "830d451a57b5cfe0c43280197dea4deea0717f78ff0317b3f7294f13d4063a1a", func := "loop.example/g01131/laws.FnExactIsCentred", spec := "fnExactIsCentred", apart := false }
def FnExactIsCentredSaid : Prop := fnExactIsCentredRow.holds Try.pinned (OpenSpec.ofChange fnExactIsCentredSpec)

/-- ITS FALSE NEIGHBOUR: 'it returns false'. Refute it at one input. -/
def fnExactIsCentredWrong : ChangeSpec := { name := "fnExactIsCentred", fn := fun _ => fun
  | [d1, d2, d3] => { results := [.lit (.bool false)], args := [d1, d2, d3] }
  | _ => none }
def FnExactIsCentredWrongFalsely : Prop := fnExactIsCentredRow.holds Try.pinned (OpenSpec.ofChange fnExactIsCentredWrong)

/-- 'laws.FnExactKeepingPlan': WHATEVER THE INPUT: true; the input reads as it did. -/
def fnExactKeepingPlanSpec : ChangeSpec := { name := "fnExactKeepingPlan", fn := fun _ => fun
  | [d1, d2] => { results := [.lit (.bool true)], args := [d1, d2] }
  | _ => none }
def fnExactKeepingPlanRow : OpenClaim := { program := "ytboekndojgbkfaa", sum := "830d451a57b5cfe0c43280197dea4deea0717f78ff0317b3f7294f13d4063a1a", func := "loop.example/g01131/laws.FnExactKeepingPlan", spec := "fnExactKeepingPlan", apart := false }
def FnExactKeepingPlanSaid : Prop := fnExactKeepingPlanRow.holds Try.pinned (OpenSpec.ofChange fnExactKeepingPlanSpec)

/-- ITS FALSE NEIGHBOUR: 'it returns false'. Refute it at one input. -/
def fnExactKeepingPlanWrong : ChangeSpec := { name := "fnExactKeepingPlan", fn := fun _ => fun
  | [d1, d2] => { results := [.lit (.bool false)], args := [d1, d2] }
  | _ => none }
def FnExactKeepingPlanWrongFalsely : Prop := fnExactKeepingPlanRow.holds Try.pinned (OpenSpec.ofChange fnExactKeepingPlanWrong)

/-- 'laws.FnExactPlanCost': WHATEVER THE INPUT: true; the input reads as it did. -/
def fnExactPlanCostSpec : ChangeSpec := { name := "fnExactPlanCost", fn := fun _ => fun
  | [d1, d2, d3, d4] => { results := [.lit (.bool true)], args := [d1, d2, d3, d4] }
  | _ => none }
def fnExactPlanCostRow : OpenClaim := { program := "ytboekndojgbkfaa", sum := "830d451a57b5cfe0c43280197dea4deea0717f78ff0317b3f7294f13d4063a1a", func := "loop.example/g01131/laws.FnExactPlanCost", spec := "fnExactPlanCost", apart := false }
def FnExactPlanCostSaid : Prop := fnExactPlanCostRow.holds Try.pinned (OpenSpec.ofChange fnExactPlanCostSpec)

/-- ITS FALSE NEIGHBOUR: 'it returns false'. Refute it at one input. -/
def fnExactPlanCostWrong : ChangeSpec := { name := "fnExactPlanCost", fn := fun _ => fun
  | [d1, d2, d3, d4] => { results := [.lit (.bool false)], args := [d1, d2, d3, d4] }
  | _ => none }
def FnExactPlanCostWrongFalsely : Prop := fnExactPlanCostRow.holds Try.pinned (OpenSpec.ofChange fnExactPlanCostWrong)

/-- 'laws.FnExactLeastCost': WHATEVER THE INPUT: true; the input reads as it did. -/
def fnExactLeastCostSpec : ChangeSpec := { name := "fnExactLeastCost", fn := fun _ => fun
  | [d1, d2, d3] => { results := [.lit (.bool true)], args := [d1, d2, d3] }
  | _ => none }
def fnExactLeastCostRow : OpenClaim := { program := "ytboekndojgbkfaa", sum := "830d451a57b5cfe0c43280197dea4deea0717f78ff0317b3f7294f13d4063a1a", func := "loop.example/g01131/laws.FnExactLeastCost", spec := "fnExactLeastCost", apart := false }
def FnExactLeastCostSaid : Prop := fnExactLeastCostRow.holds Try.pinned (OpenSpec.ofChange fnExactLeastCostSpec)

/-- ITS FALSE NEIGHBOUR: 'it returns false'. Refute it at one input. -/
def fnExactLeastCostWrong : ChangeSpec := { name := "fnExactLeastCost", fn := fun _ => fun
  | [d1, d2, d3] => { results := [.lit (.bool false)], args := [d1, d2, d3] }
  | _ => none }
def FnExactLeastCostWrongFalsely : Prop := fnExactLeastCostRow.holds Try.pinned (OpenSpec.ofChange fnExactLeastCostWrong)

/-- 'laws.FnPlans': WHATEVER THE INPUT: true; the input reads as it did. -/
def fnPlansSpec : ChangeSpec := { name := "fnPlans", fn := fun _ => fun
  | [d] => { results := [.lit (.bool true)], args := [d] }
  | _ => none }
def fnPlansRow : OpenClaim := { program := "ytboekndojgbkfaa", sum := "830d451a57b5cfe0c43280197dea4deea0717f78ff0317b3f7294f13d4063a1a", func := "loop.example/g01131/laws.FnPlans", spec := "fnPlans", apart := false }
def FnPlansSaid : Prop := fnPlansRow.holds Try.pinned (OpenSpec.ofChange fnPlansSpec)

/-- ITS FALSE NEIGHBOUR: 'it returns false'. Refute it at one input. -/
def fnPlansWrong : ChangeSpec := { name := "fnPlans", fn := fun _ => fun
  | [d] => { results := [.lit (.bool false)], args := [d] }
  | _ => none }
def FnPlansWrongFalsely : Prop := fnPlansRow.holds Try.pinned (OpenSpec.ofChange fnPlansWrong)

/-- 'laws.FnOrders': WHATEVER THE INPUT: true; the input reads as it did. -/
def fnOrdersSpec : ChangeSpec := { name := "fnOrders", fn := fun _ => fun
  | [d] => { results := [.lit (.bool true)], args := [d] }
  | _ => none }
def fnOrdersRow : OpenClaim := { program := "ytboekndojgbkfaa", sum := "830d451a57b5cfe0c43280197dea4deea0717f78ff0317b3f7294f13d4063a1a", func := "loop.example/g01131/laws.FnOrders", spec := "fnOrders", apart := false }
def FnOrdersSaid : Prop := fnOrdersRow.holds Try.pinned (OpenSpec.ofChange fnOrdersSpec)

/-- ITS FALSE NEIGHBOUR: 'it returns false'. Refute it at one input. -/
def fnOrdersWrong : ChangeSpec := { name := "fnOrders", fn := fun _ => fun
  | [d] => { results := [.lit (.bool false)], args := [d] }
  | _ => none }
def FnOrdersWrongFalsely : Prop := fnOrdersRow.holds Try.pinned (OpenSpec.ofChange fnOrdersWrong)

/-- 'laws.FnTransport': WHATEVER THE INPUT: true; the input reads as it did. -/
def fnTransportSpec : ChangeSpec := { name := "fnTransport", fn := fun _ => fun
  | [d] => { results := [.lit (.bool true)], args := [d] }
  | _ => none }
def fnTransportRow : OpenClaim := { program := "ytboekndojgbkfaa", sum := "830d451a57b5cfe0c43280197dea4deea0717f78ff0317b3f7294f13d4063a1a", func := "loop.example/g01131/laws.FnTransport", spec := "fnTransport", apart := false }
def FnTransportSaid : Prop := fnTransportRow.holds Try.pinned (OpenSpec.ofChange fnTransportSpec)

/-- ITS FALSE NEIGHBOUR: 'it returns false'. Refute it at one input. -/
def fnTransportWrong : ChangeSpec := { name := "fnTransport", fn := fun _ => fun
  | [d] => { results := [.lit (.bool false)], args := [d] }
  | _ => none }
def FnTransportWrongFalsely : Prop := fnTransportRow.holds Try.pinned (OpenSpec.ofChange fnTransportWrong)

/- THE SECOND FORM. 'bulk': how many values and letters a reading holds, each counted each time it is reached (what is shared counts as often as it is met; a slice's spare places count too). A statement '..UptoSaid' is the law's where the arguments, and the package variables that the reading takes, are together of bulk at most 1048576: NARROWER than '..Said'. Prove '..Said' where nothing that the law and all that it calls make is longer than what came in: it says more and counts as full. Else prove '..UptoSaid'. A law counts once. -/
mutual
def uptoBulk {H : Type} : DataW H → Nat
  | .lit (.string bytes) => bytes.length + 1
  | .lit _ => 1
  | .nil => 1
  | .ptr d => uptoBulk d + 1
  | .slice elems spare => uptoBulkAll elems + uptoBulkAll spare + 1
  | .agg parts => uptoBulkAll parts + 1
  | .iface _ d => uptoBulk d + 1
  | .map entries => uptoBulkEntries entries + 1
  | .held _ => 1
def uptoBulkAll {H : Type} : List (DataW H) → Nat
  | [] => 0
  | d :: r => uptoBulk d + uptoBulkAll r
def uptoBulkEntries {H : Type} : List (Lit × DataW H) → Nat
  | [] => 0
  | x :: r => uptoBulkEntry x + uptoBulkEntries r
def uptoBulkEntry {H : Type} : Lit × DataW H → Nat
  | (.string bytes, d) => bytes.length + uptoBulk d + 1
  | (_, d) => uptoBulk d + 1
 end
def uptoSmall : (H : Type) → List (DataW H) → Bool := fun _ ds => decide (uptoBulkAll ds ≤ 1048576)
def OpenSpec.upto (s : _root_.Go.ChangeSpec) : _root_.Go.OpenSpec := { _root_.Go.OpenSpec.ofChange s with cond := some uptoSmall }

/-- 'laws.FnExactIsWider', WHERE WHAT IT READS IS OF BULK AT MOST 1048576: true; the input reads as it did. -/
def fnExactIsWiderUptoRow : OpenClaim := { program := "ytboekndojgbkfaa", sum := "830d451a57b5cfe0c43280197dea4deea0717f78ff0317b3f7294f13d4063a1a", func := "loop.example/g01131/laws.FnExactIsWider", spec := "fnExactIsWider", apart := false, narrowed := true }
def FnExactIsWiderUptoSaid : Prop := fnExactIsWiderUptoRow.holds Try.pinned (OpenSpec.upto fnExactIsWiderSpec)

/-- 'laws.FnExactIsPlan', WHERE WHAT IT READS IS OF BULK AT MOST 1048576: true; the input reads as it did. -/
def fnExactIsPlanUptoRow : OpenClaim := { program := "ytboekndojgbkfaa", sum := "830d451a57b5cfe0c43280197dea4deea0717f78ff0317b3f7294f13d4063a1a", func := "loop.example/g01131/laws.FnExactIsPlan", spec := "fnExactIsPlan", apart := false, narrowed := true }
def FnExactIsPlanUptoSaid : Prop := fnExactIsPlanUptoRow.holds Try.pinned (OpenSpec.upto fnExactIsPlanSpec)

/-- 'laws.FnExactArePotentials', WHERE WHAT IT READS IS OF BULK AT MOST 1048576: true; the input reads as it did. -/
def fnExactArePotentialsUptoRow : OpenClaim := { program := "ytboekndojgbkfaa", sum := "830d451a57b5cfe0c43280197dea4deea0717f78ff0317b3f7294f13d4063a1a", func := "loop.example/g01131/laws.FnExactArePotentials", spec := "fnExactArePotentials", apart := false, narrowed := true }
def FnExactArePotentialsUptoSaid : Prop := fnExactArePotentialsUptoRow.holds Try.pinned (OpenSpec.upto fnExactArePotentialsSpec)

/-- 'laws.FnExactKeptUnits', WHERE WHAT IT READS IS OF BULK AT MOST 1048576: true; the input reads as it did. -/
def fnExactKeptUnitsUptoRow : OpenClaim := { program := "ytboekndojgbkfaa", sum := "830d451a57b5cfe0c43280197dea4deea0717f78ff0317b3f7294f13d4063a1a", func := "loop.example/g01131/laws.FnExactKeptUnits", spec := "fnExactKeptUnits", apart := false, narrowed := true }
def FnExactKeptUnitsUptoSaid : Prop := fnExactKeptUnitsUptoRow.holds Try.pinned (OpenSpec.upto fnExactKeptUnitsSpec)

/-- 'laws.FnExactIsUpward', WHERE WHAT IT READS IS OF BULK AT MOST 1048576: true; the input reads as it did. -/
def fnExactIsUpwardUptoRow : OpenClaim := { program := "ytboekndojgbkfaa", sum := "830d451a57b5cfe0c43280197dea4deea0717f78ff0317b3f7294f13d4063a1a", func := "loop.example/g01131/laws.FnExactIsUpward", spec := "fnExactIsUpward", apart := false, narrowed := true }
def FnExactIsUpwardUptoSaid : Prop := fnExactIsUpwardUptoRow.holds Try.pinned (OpenSpec.upto fnExactIsUpwardSpec)

/-- 'laws.FnExactSortedPlan', WHERE WHAT IT READS IS OF BULK AT MOST 1048576: true; the input reads as it did. -/
def fnExactSortedPlanUptoRow : OpenClaim := { program := "ytboekndojgbkfaa", sum := "830d451a57b5cfe0c43280197dea4deea0717f78ff0317b3f7294f13d4063a1a", func := "loop.example/g01131/laws.FnExactSortedPlan", spec := "fnExactSortedPlan", apart := false, narrowed := true }
def FnExactSortedPlanUptoSaid : Prop := fnExactSortedPlanUptoRow.holds Try.pinned (OpenSpec.upto fnExactSortedPlanSpec)

/-- 'laws.FnExactIsCentred', WHERE WHAT IT READS IS OF BULK AT MOST 1048576: true; the input reads as it did. -/
def fnExactIsCentredUptoRow : OpenClaim := { program := "ytboekndojgbkfaa", sum := "830d451a57b5cfe0c43280197dea4deea0717f78ff0317b3f7294f13d4063a1a", func := "loop.example/g01131/laws.FnExactIsCentred", spec := "fnExactIsCentred", apart := false, narrowed := true }
def FnExactIsCentredUptoSaid : Prop := fnExactIsCentredUptoRow.holds Try.pinned (OpenSpec.upto fnExactIsCentredSpec)

/-- 'laws.FnExactKeepingPlan', WHERE WHAT IT READS IS OF BULK AT MOST 1048576: true; the input reads as it did. -/
def fnExactKeepingPlanUptoRow : OpenClaim := { program := "ytboekndojgbkfaa", sum := "830d451a57b5cfe0c43280197dea4deea0717f78ff0317b3f7294f13d4063a1a", func := "loop.example/g01131/laws.FnExactKeepingPlan", spec := "fnExactKeepingPlan", apart := false, narrowed := true }
def FnExactKeepingPlanUptoSaid : Prop := fnExactKeepingPlanUptoRow.holds Try.pinned (OpenSpec.upto fnExactKeepingPlanSpec)

/-- 'laws.FnExactPlanCost', WHERE WHAT IT READS IS OF BULK AT MOST 1048576: true; the input reads as it did. -/
def fnExactPlanCostUptoRow : OpenClaim := { program := "ytboekndojgbkfaa", sum := "830d451a57b5cfe0c43280197dea4deea0717f78ff0317b3f7294f13d4063a1a", func := "loop.example/g01131/laws.FnExactPlanCost", spec := "fnExactPlanCost", apart := false, narrowed := true }
def FnExactPlanCostUptoSaid : Prop := fnExactPlanCostUptoRow.holds Try.pinned (OpenSpec.upto fnExactPlanCostSpec)

/-- 'laws.FnExactLeastCost', WHERE WHAT IT READS IS OF BULK AT MOST 1048576: true; the input reads as it did. -/
def fnExactLeastCostUptoRow : OpenClaim := { program := "ytboekndojgbkfaa", sum := "830d451a57b5cfe0c43280197dea4deea0717f78ff0317b3f7294f13d4063a1a", func := "loop.example/g01131/laws.FnExactLeastCost", spec := "fnExactLeastCost", apart := false, narrowed := true }
def FnExactLeastCostUptoSaid : Prop := fnExactLeastCostUptoRow.holds Try.pinned (OpenSpec.upto fnExactLeastCostSpec)

/-- 'laws.FnPlans', WHERE WHAT IT READS IS OF BULK AT MOST 1048576: true; the input reads as it did. -/
def fnPlansUptoRow : OpenClaim := { program := "ytboekndojgbkfaa", sum := "830d451a57b5cfe0c43280197dea4deea0717f78ff0317b3f7294f13d4063a1a", func := "loop.example/g01131/laws.FnPlans", spec := "fnPlans", apart := false, narrowed := true }
def FnPlansUptoSaid : Prop := fnPlansUptoRow.holds Try.pinned (OpenSpec.upto fnPlansSpec)

/-- 'laws.FnOrders', WHERE WHAT IT READS IS OF BULK AT MOST 1048576: true; the input reads as it did. -/
def fnOrdersUptoRow : OpenClaim := { program := "ytboekndojgbkfaa", sum := "830d451a57b5cfe0c43280197dea4deea0717f78ff0317b3f7294f13d4063a1a", func := "loop.example/g01131/laws.FnOrders", spec := "fnOrders", apart := false, narrowed := true }
def FnOrdersUptoSaid : Prop := fnOrdersUptoRow.holds Try.pinned (OpenSpec.upto fnOrdersSpec)

/-- 'laws.FnTransport', WHERE WHAT IT READS IS OF BULK AT MOST 1048576: true; the input reads as it did. -/
def fnTransportUptoRow : OpenClaim := { program := "ytboekndojgbkfaa", sum := "830d451a57b5cfe0c43280197dea4deea0717f78ff0317b3f7294f13d4063a1a", func := "loop.example/g01131/laws.FnTransport", spec := "fnTransport", apart := false, narrowed := true }
def FnTransportUptoSaid : Prop := fnTransportUptoRow.holds Try.pinned (OpenSpec.upto fnTransportSpec)

end Rows
end Go.Proofs.Ytboekndojgbkfaa
