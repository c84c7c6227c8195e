import Derived.Test.YtolnloeapbplkaaOpenS
/- Records and logs that came in: their fields as strings and numbers. -/
set_option linter.unusedVariables false
namespace Go.Proofs.Ytolnloeapbplkaa
open Go.ChangeShapes Go.WideShapes Go.ChangeAt Go.RowKit Go.Deep

section
variable {H : Type} {enc : TypeId × Value → H} {w : World} {base : Nat} {held : Bool}
theorem str_of_trod {n : Nat} {c : Value} {y : DataW H × List MemPlace} (h : DataW.trod enc Try.prog w base (fun _ => true) held n 9 [c] = some y) : ∃ s, c = .string s ∧ s.size ≤ maxLen := by
  obtain ⟨s, hc, _, hw⟩ := DataW.trod_string Try.underlying9 h
  simp only [List.cons.injEq, and_true] at hc
  exact ⟨s, hc, hw⟩

set_option maxRecDepth 100000 in
theorem open_logrecord {r : Reach} {b0 : Nat} {v : Value} {d : DataW H} {pl : List MemPlace} (hv : Value.okWide Try.prog w r b0 23 v) (h : DataW.Trod enc Try.prog w base (fun _ => true) held 23 v d pl) :
    ∃ s t, v = .agg #[.string s, .string t] ∧ s.size ≤ maxLen ∧ t.size ≤ maxLen := by
  obtain ⟨cs, rfl, hsz⟩ := okWide_struct Try.underlying23 hv
  have e : Try.prog.cellsOf 23 = 2 := by kernel_rfl
  rw [e] at hsz
  obtain ⟨l⟩ := cs
  match l, hsz with
  | [c0, c1], _ =>
    obtain ⟨fuel, hf⟩ := h
    obtain ⟨xs, k, _, _, _, hlen, hg⟩ := DataW.trod_struct Try.underlying23 hf
    obtain ⟨y0, hy0⟩ := some_of_len (i := 0) hlen (by decide)
    obtain ⟨y1, hy1⟩ := some_of_len (i := 1) hlen (by decide)
    have e1 : Try.prog.cellsOf 9 = 1 := by kernel_rfl
    have g0 : DataW.trod enc Try.prog w base (fun _ => true) held k 9 (([c0, c1].drop 0).take (Try.prog.cellsOf 9)) = xs[0]? := hg 0 _ rfl
    have g1 : DataW.trod enc Try.prog w base (fun _ => true) held k 9 (([c0, c1].drop 1).take (Try.prog.cellsOf 9)) = xs[1]? := hg 1 _ rfl
    rw [e1, hy0] at g0
    rw [e1, hy1] at g1
    obtain ⟨s, rfl, is⟩ := str_of_trod g0
    obtain ⟨t, rfl, it⟩ := str_of_trod g1
    exact ⟨s, t, rfl, is, it⟩

end
end Go.Proofs.Ytolnloeapbplkaa
