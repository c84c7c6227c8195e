import Derived.Test.YtboekndojgbkfaaPlan3
/- Contracts of IsAbove. -/
set_option linter.unusedVariables false
namespace Go.Proofs.Ytboekndojgbkfaa
open Go.ChangeShapes Go.WideShapes Go.ChangeAt Go.RowKit

def aboB (p q : List Int) : Bool := (List.range p.length).all fun s => decide (sumTo p (s + 1) ≤ sumTo q (s + 1))
theorem aboB_iff {p q : List Int} : aboB p q = true ↔ ∀ s, s < p.length → sumTo p (s + 1) ≤ sumTo q (s + 1) := by simp [aboB]
theorem aboB_no {p q : List Int} {s : Nat} (hs : s < p.length) (h : sumTo q (s + 1) < sumTo p (s + 1)) : aboB p q = false := by
  rw [Bool.eq_false_iff]; intro hp; have := aboB_iff.1 hp s hs; omega
def aboV (p q : List Int) : Bool := alikeB p q && aboB p q
