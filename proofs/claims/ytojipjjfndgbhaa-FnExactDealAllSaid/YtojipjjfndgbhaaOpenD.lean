import Derived.Test.YtojipjjfndgbhaaDeals
import Derived.Deep.Slices
/- Slices of deals that came in. -/
set_option linter.unusedVariables false
namespace Go.Proofs.Ytojipjjfndgbhaa
open Go.ChangeShapes Go.WideShapes Go.ChangeAt Go.RowKit Go.Deep
section
variable {H : Type} {enc : TypeId × Value → H} {w : World} {base : Nat} {held : Bool}
set_option maxRecDepth 100000 in
theorem deal_of_trod {n : Nat} {c0 c1 c2 : Value} {y : DataW H × List MemPlace} (hf : DataW.trod enc Try.prog w base (fun _ => true) held n 56 [c0, c1, c2] = some y) :
    ∃ z : D3, c0 = .int .i64 z.1 ∧ c1 = .int .i64 z.2.1 ∧ c2 = .int .i64 z.2.2 ∧ I64D z := by
  obtain ⟨xs, k, _, _, _, hlen, hg⟩ := DataW.trod_struct Try.underlying56 hf
  obtain ⟨y0, hy0⟩ := some_of_len (i := 0) hlen (by decide)
  obtain ⟨y1, hy1⟩ := some_of_len (i := 1) hlen (by decide)
  obtain ⟨y2, hy2⟩ := some_of_len (i := 2) hlen (by decide)
  have e1 : Try.prog.cellsOf 3 = 1 := by kernel_rfl
  have g0 : DataW.trod enc Try.prog w base (fun _ => true) held k 3 (([c0, c1, c2].drop 0).take (Try.prog.cellsOf 3)) = xs[0]? := hg 0 _ rfl
  have g1 : DataW.trod enc Try.prog w base (fun _ => true) held k 3 (([c0, c1, c2].drop 1).take (Try.prog.cellsOf 3)) = xs[1]? := hg 1 _ rfl
  have g2 : DataW.trod enc Try.prog w base (fun _ => true) held k 3 (([c0, c1, c2].drop 2).take (Try.prog.cellsOf 3)) = xs[2]? := hg 2 _ rfl
  rw [e1, hy0] at g0
  rw [e1, hy1] at g1
  rw [e1, hy2] at g2
  obtain ⟨x, rfl, ix⟩ := int_of_trod g0
  obtain ⟨s, rfl, is⟩ := int_of_trod g1
  obtain ⟨u, rfl, iu⟩ := int_of_trod g2
  exact ⟨(x, s, u), rfl, rfl, rfl, ix, is, iu⟩
set_option maxRecDepth 100000 in
theorem open_deals {r : Reach} {b0 : Nat} {v : Value} {d : DataW H} {pl : List MemPlace} (hv : Value.okWide Try.prog w r b0 61 v) (h : DataW.Trod enc Try.prog w base (fun _ => true) held 61 v d pl) :
    ∃ (y : Option Addr) (k e : Nat) (ds : List D3), v = .slice y k e ∧ SD w y k e ds := by
  obtain ⟨y, k, e, rfl⟩ := okWide_slice Try.underlying61 hv
  obtain ⟨fuel, hf⟩ := h
  have hf' : DataW.trod enc Try.prog w base (fun _ => true) held fuel 61 [.slice y k e] = some (d, pl) := by simpa [Value.cells] using hf
  rcases open_slice Try.underlying61 hf' with ⟨hcs, _⟩ | ⟨a, len, cap, m, n, D, Pl, hcs, _, hl, hm, hmm, _, hx⟩
  · simp only [List.cons.injEq, and_true, Value.slice.injEq] at hcs
    obtain ⟨rfl, rfl, rfl⟩ := hcs
    exact ⟨none, 0, 0, [], rfl, SD.of_nil _⟩
  · simp only [List.cons.injEq, and_true, Value.slice.injEq] at hcs
    obtain ⟨rfl, rfl, rfl⟩ := hcs
    have e3 : Try.prog.cellsOf 56 = 3 := by kernel_rfl
    rw [e3] at hx
    have hmc : m = e := by simpa using hmm
    have hall : ∀ i, i < k → ∃ z : D3, I64D z ∧ w.cell? (a.add (i * 3)) = some (.int .i64 z.1) ∧ w.cell? (a.add (i * 3 + 1)) = some (.int .i64 z.2.1) ∧ w.cell? (a.add (i * 3 + 2)) = some (.int .i64 z.2.2) := by
      intro i hi
      obtain ⟨cs', h1, h2⟩ := hx i (by omega)
      obtain ⟨_, hlen, hcell⟩ := World.cells?_some h1
      match cs', hlen with
      | [c0, c1, c2], _ =>
        obtain ⟨z, rfl, rfl, rfl, hz⟩ := deal_of_trod h2
        have q0 := hcell 0 (by omega); have q1 := hcell 1 (by omega); have q2 := hcell 2 (by omega)
        rw [add_add] at q0 q1 q2
        exact ⟨z, hz, q0, q1, q2⟩
    obtain ⟨f, hf⟩ := choose_lt hall
    refine ⟨some a, k, e, (List.range k).map f, rfl, ⟨by simp, hl, by unfold maxLen at hm; omega, fun z hz => ?_, ?_⟩⟩
    · obtain ⟨i, hi, rfl⟩ := List.mem_map.1 hz
      exact (hf i (by simpa using hi)).1
    · by_cases h0 : k = 0
      · exact .inl h0
      · obtain ⟨b, off, spot⟩ := a
        have hspot : spot = none := by
          have := World.cell?_spot (hf 0 (by omega)).2.1
          simpa [Addr.add] using this
        subst hspot
        refine .inr ⟨b, off, rfl, fun i hi => ?_⟩
        have hn : nthD ((List.range k).map f) i = f i := by simp [nthD, hi]
        obtain ⟨_, p0, p1, p2⟩ := hf i hi
        rw [addr_add] at p0 p1 p2
        rw [hn]
        exact ⟨p0, by rw [Nat.add_assoc]; exact p1, by rw [Nat.add_assoc]; exact p2⟩
end
end Go.Proofs.Ytojipjjfndgbhaa
