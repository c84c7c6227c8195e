import Derived.Test.YtolnloeapbplkaaDoorOpenS
/- Records and logs that came in: their fields as strings and numbers. -/
set_option linter.unusedVariables false
namespace Go.Proofs.YtolnloeapbplkaaDoor
open Go.ChangeShapes Go.WideShapes Go.ChangeAt Go.RowKit Go.Deep

section
variable {H : Type} {enc : TypeId × Value → H} {w : World} {base : Nat} {held : Bool}
theorem str_of_trod {n : Nat} {c : Value} {y : DataW H × List MemPlace} (h : DataW.trod enc Tryd.prog w base (fun _ => true) held n 9 [c] = some y) : ∃ s, c = .string s ∧ s.size ≤ maxLen := by
  obtain ⟨s, hc, _, hw⟩ := DataW.trod_string Tryd.underlying9 h
  simp only [List.cons.injEq, and_true] at hc
  exact ⟨s, hc, hw⟩

set_option maxRecDepth 100000 in
theorem open_logrecord {r : Reach} {b0 : Nat} {v : Value} {d : DataW H} {pl : List MemPlace} (hv : Value.okWide Tryd.prog w r b0 70 v) (h : DataW.Trod enc Tryd.prog w base (fun _ => true) held 70 v d pl) :
    ∃ s t, v = .agg #[.string s, .string t] ∧ s.size ≤ maxLen ∧ t.size ≤ maxLen := by
  obtain ⟨cs, rfl, hsz⟩ := okWide_struct Tryd.underlying70 hv
  have e : Tryd.prog.cellsOf 70 = 2 := by kernel_rfl
  rw [e] at hsz
  obtain ⟨l⟩ := cs
  match l, hsz with
  | [c0, c1], _ =>
    obtain ⟨fuel, hf⟩ := h
    obtain ⟨xs, k, _, _, _, hlen, hg⟩ := DataW.trod_struct Tryd.underlying70 hf
    obtain ⟨y0, hy0⟩ := some_of_len (i := 0) hlen (by decide)
    obtain ⟨y1, hy1⟩ := some_of_len (i := 1) hlen (by decide)
    have e1 : Tryd.prog.cellsOf 9 = 1 := by kernel_rfl
    have g0 : DataW.trod enc Tryd.prog w base (fun _ => true) held k 9 (([c0, c1].drop 0).take (Tryd.prog.cellsOf 9)) = xs[0]? := hg 0 _ rfl
    have g1 : DataW.trod enc Tryd.prog w base (fun _ => true) held k 9 (([c0, c1].drop 1).take (Tryd.prog.cellsOf 9)) = xs[1]? := hg 1 _ rfl
    rw [e1, hy0] at g0
    rw [e1, hy1] at g1
    obtain ⟨s, rfl, is⟩ := str_of_trod g0
    obtain ⟨t, rfl, it⟩ := str_of_trod g1
    exact ⟨s, t, rfl, is, it⟩

set_option maxRecDepth 100000 in
theorem open_log {r : Reach} {b0 : Nat} {v : Value} {d : DataW H} {pl : List MemPlace} (hv : Value.okWide Tryd.prog w r b0 57 v) (h : DataW.Trod enc Tryd.prog w base (fun _ => true) held 57 v d pl) :
    ∃ s t k, v = .agg #[.string s, .string t, .int .i64 k] ∧ s.size ≤ maxLen ∧ t.size ≤ maxLen ∧ I64 k := by
  obtain ⟨cs, rfl, hsz⟩ := okWide_struct Tryd.underlying57 hv
  have e : Tryd.prog.cellsOf 57 = 3 := by kernel_rfl
  rw [e] at hsz
  obtain ⟨l⟩ := cs
  match l, hsz with
  | [c0, c1, c2], _ =>
    obtain ⟨fuel, hf⟩ := h
    obtain ⟨xs, k, _, _, _, hlen, hg⟩ := DataW.trod_struct Tryd.underlying57 hf
    obtain ⟨y0, hy0⟩ := some_of_len (i := 0) hlen (by decide)
    obtain ⟨y1, hy1⟩ := some_of_len (i := 1) hlen (by decide)
    obtain ⟨y2, hy2⟩ := some_of_len (i := 2) hlen (by decide)
    have e1 : Tryd.prog.cellsOf 9 = 1 := by kernel_rfl
    have e2 : Tryd.prog.cellsOf 3 = 1 := by kernel_rfl
    have g0 : DataW.trod enc Tryd.prog w base (fun _ => true) held k 9 (([c0, c1, c2].drop 0).take (Tryd.prog.cellsOf 9)) = xs[0]? := hg 0 _ rfl
    have g1 : DataW.trod enc Tryd.prog w base (fun _ => true) held k 9 (([c0, c1, c2].drop 1).take (Tryd.prog.cellsOf 9)) = xs[1]? := hg 1 _ rfl
    have g2 : DataW.trod enc Tryd.prog w base (fun _ => true) held k 3 (([c0, c1, c2].drop 2).take (Tryd.prog.cellsOf 3)) = xs[2]? := hg 2 _ rfl
    rw [e1, hy0] at g0
    rw [e1, hy1] at g1
    rw [e2, hy2] at g2
    obtain ⟨s, rfl, is⟩ := str_of_trod g0
    obtain ⟨t, rfl, it⟩ := str_of_trod g1
    obtain ⟨k, rfl, ik⟩ := int_of_trod g2
    exact ⟨s, t, k, rfl, is, it, ik⟩

end
end Go.Proofs.YtolnloeapbplkaaDoor
