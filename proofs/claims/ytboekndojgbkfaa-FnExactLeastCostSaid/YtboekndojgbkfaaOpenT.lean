import Derived.Test.YtboekndojgbkfaaTable
import Derived.Deep.Matrix
/- A table that came in reads as a list of lists. -/
set_option linter.unusedVariables false
namespace Go.Proofs.Ytboekndojgbkfaa
open Go.ChangeShapes Go.WideShapes Go.ChangeAt Go.RowKit

theorem SS.of_nil (w : World) : SS w none 0 0 [] := ⟨rfl, Nat.le_refl _, by omega, .inl rfl⟩
theorem SS.of_open {w : World} {base : Nat} {a : Addr} {len cap : Nat} {A : Nat → Option Addr} {L C : Nat → Nat} {Z : Nat → List Int} (hl : len ≤ cap) (hm : cap ≤ maxLen)
    (hr : ∀ r, r < cap → w.cell? (a.add r) = some (.slice (A r) (L r) (C r)) ∧ L r ≤ C r ∧ C r ≤ maxLen ∧ (Z r).length = C r ∧ (∀ n ∈ Z r, (Lit.int .i64 n).wf = true) ∧ (A r = none → C r = 0) ∧
        ∀ a', A r = some a' → base ≤ a'.block ∧ ∀ c, c < C r → w.cell? (a'.add c) = some (.int .i64 ((Z r).getD c 0))) :
    SS w (some a) len cap ((List.range len).map fun r => (Z r).take (L r)) := by
  refine ⟨by simp, hl, by unfold maxLen at hm; omega, ?_⟩
  by_cases h0 : len = 0
  · exact .inl h0
  · obtain ⟨b, off, spot⟩ := a
    have hspot : spot = none := by
      have := World.cell?_spot (hr 0 (by omega)).1
      simpa [Addr.add] using this
    subst hspot
    refine .inr ⟨b, off, rfl, fun i hi => ?_⟩
    obtain ⟨h1, h2, h3, h4, h5, h6, h7⟩ := hr i (by omega)
    rw [addr_add] at h1
    have hn : nthL ((List.range len).map fun r => (Z r).take (L r)) i = (Z i).take (L i) := by simp [nthL, hi]
    refine ⟨_, _, _, h1, ?_⟩
    rw [hn]
    cases hA : A i with
    | none =>
      have hc := h6 hA
      have hL : L i = 0 := by omega
      rw [hc, hL]; simp; exact SL.of_nil _
    | some a' => exact SL.of_open h2 h3 h4 (fun c hc => (h7 a' hA).2 c (by omega)) h5
end Go.Proofs.Ytboekndojgbkfaa
