import Derived.Test.YtojipjjfndgbhaaBase
import Derived.ProofKit
import Derived.OpenShut
import Derived.ShutString
import Derived.ChangeOld
import Derived.Deep.Fields
/- Structs that came in: their fields as lists and numbers. -/
set_option linter.unusedVariables false
namespace Go.Proofs.Ytojipjjfndgbhaa
open Go.ChangeShapes Go.WideShapes Go.ChangeAt Go.RowKit Go.Deep

section
variable {H : Type} {enc : TypeId × Value → H} {w : World} {base : Nat} {held : Bool}
theorem sl_of_trod {n : Nat} {c : Value} {y : DataW H × List MemPlace} (h : DataW.trod enc Try.prog w base (fun _ => true) held n 22 [c] = some y) : ∃ a len cap zs, c = .slice a len cap ∧ SL w a len cap zs := by
  rcases open_ints Try.underlying22 Try.underlying3 (by kernel_rfl) h with ⟨hcs, _⟩ | ⟨x, l, cp, zs, hcs, _, hl, hm, hz, _, hcell, hwz⟩
  · simp only [List.cons.injEq, and_true] at hcs
    exact ⟨none, 0, 0, [], hcs, SL.of_nil _⟩
  · simp only [List.cons.injEq, and_true] at hcs
    exact ⟨some x, l, cp, _, hcs, SL.of_open hl hm (by simpa using hz) hcell hwz⟩
theorem int_of_trod {n : Nat} {c : Value} {y : DataW H × List MemPlace} (h : DataW.trod enc Try.prog w base (fun _ => true) held n 3 [c] = some y) : ∃ k, c = .int .i64 k ∧ I64 k := by
  obtain ⟨k, hc, _, hw⟩ := DataW.trod_int Try.underlying3 h
  simp only [List.cons.injEq, and_true] at hc
  exact ⟨k, hc, I64.of_wf hw⟩
theorem some_of_len {α : Type} {xs : List α} {i n : Nat} (h : xs.length = n) (hi : i < n) : ∃ y, xs[i]? = some y := ⟨xs[i], List.getElem?_eq_getElem (by omega)⟩

set_option maxRecDepth 100000 in
theorem tree_of_trod {n : Nat} {c0 c1 : Value} {y : DataW H × List MemPlace} (h : DataW.trod enc Try.prog w base (fun _ => true) held n 24 [c0, c1] = some y) :
    ∃ p l c q m d P W, c0 = .slice p l c ∧ c1 = .slice q m d ∧ SL w p l c P ∧ SL w q m d W := by
  obtain ⟨xs, k, _, _, _, hlen, hg⟩ := DataW.trod_struct Try.underlying24 h
  obtain ⟨y0, hy0⟩ := some_of_len (i := 0) hlen (by decide)
  obtain ⟨y1, hy1⟩ := some_of_len (i := 1) hlen (by decide)
  have e0 : Try.prog.cellsOf 22 = 1 := by kernel_rfl
  have g0 : DataW.trod enc Try.prog w base (fun _ => true) held k 22 (([c0, c1].drop 0).take (Try.prog.cellsOf 22)) = xs[0]? := hg 0 _ rfl
  have g1 : DataW.trod enc Try.prog w base (fun _ => true) held k 22 (([c0, c1].drop 1).take (Try.prog.cellsOf 22)) = xs[1]? := hg 1 _ rfl
  rw [e0, hy0] at g0
  rw [e0, hy1] at g1
  obtain ⟨p, l, c, P, rfl, hP⟩ := sl_of_trod g0
  obtain ⟨q, m, d, W, rfl, hW⟩ := sl_of_trod g1
  exact ⟨p, l, c, q, m, d, P, W, rfl, rfl, hP, hW⟩

set_option maxRecDepth 100000 in
theorem open_tree {r : Reach} {b0 : Nat} {v : Value} {d : DataW H} {pl : List MemPlace} (hv : Value.okWide Try.prog w r b0 24 v) (h : DataW.Trod enc Try.prog w base (fun _ => true) held 24 v d pl) :
    ∃ p l c q m d P W, v = .agg #[.slice p l c, .slice q m d] ∧ SL w p l c P ∧ SL w q m d W := by
  obtain ⟨cs, rfl, hsz⟩ := okWide_struct Try.underlying24 hv
  have e : Try.prog.cellsOf 24 = 2 := by kernel_rfl
  rw [e] at hsz
  obtain ⟨l⟩ := cs
  match l, hsz with
  | [c0, c1], _ =>
    obtain ⟨fuel, hf⟩ := h
    obtain ⟨p, l, c, q, m, d, P, W, rfl, rfl, hP, hW⟩ := tree_of_trod (by simpa [Value.cells] using hf)
    exact ⟨p, l, c, q, m, d, P, W, rfl, hP, hW⟩

set_option maxRecDepth 100000 in
theorem open_house {r : Reach} {b0 : Nat} {v : Value} {d : DataW H} {pl : List MemPlace} (hv : Value.okWide Try.prog w r b0 26 v) (h : DataW.Trod enc Try.prog w base (fun _ => true) held 26 v d pl) :
    ∃ p l c P q m d W a k b X x s u z, v = .agg #[.slice p l c, .slice q m d, .slice a k b, .int .i64 x, .int .i64 s, .int .i64 u, .int .i64 z] ∧ SL w p l c P ∧ SL w q m d W ∧ SL w a k b X ∧ I64 x ∧ I64 s ∧ I64 u ∧ I64 z := by
  obtain ⟨cs, rfl, hsz⟩ := okWide_struct Try.underlying26 hv
  have e : Try.prog.cellsOf 26 = 7 := by kernel_rfl
  rw [e] at hsz
  obtain ⟨l⟩ := cs
  match l, hsz with
  | [c0, c1, c2, c3, c4, c5, c6], _ =>
    obtain ⟨fuel, hf⟩ := h
    obtain ⟨xs, k, _, _, _, hlen, hg⟩ := DataW.trod_struct Try.underlying26 hf
    obtain ⟨y0, hy0⟩ := some_of_len (i := 0) hlen (by decide)
    obtain ⟨y1, hy1⟩ := some_of_len (i := 1) hlen (by decide)
    obtain ⟨y2, hy2⟩ := some_of_len (i := 2) hlen (by decide)
    obtain ⟨y3, hy3⟩ := some_of_len (i := 3) hlen (by decide)
    obtain ⟨y4, hy4⟩ := some_of_len (i := 4) hlen (by decide)
    obtain ⟨y5, hy5⟩ := some_of_len (i := 5) hlen (by decide)
    have e0 : Try.prog.cellsOf 22 = 1 := by kernel_rfl
    have e1 : Try.prog.cellsOf 3 = 1 := by kernel_rfl
    have e2 : Try.prog.cellsOf 24 = 2 := by kernel_rfl
    have g0 : DataW.trod enc Try.prog w base (fun _ => true) held k 24 (([c0, c1, c2, c3, c4, c5, c6].drop 0).take (Try.prog.cellsOf 24)) = xs[0]? := hg 0 _ rfl
    have g1 : DataW.trod enc Try.prog w base (fun _ => true) held k 22 (([c0, c1, c2, c3, c4, c5, c6].drop 2).take (Try.prog.cellsOf 22)) = xs[1]? := hg 1 _ rfl
    have g2 : DataW.trod enc Try.prog w base (fun _ => true) held k 3 (([c0, c1, c2, c3, c4, c5, c6].drop 3).take (Try.prog.cellsOf 3)) = xs[2]? := hg 2 _ rfl
    have g3 : DataW.trod enc Try.prog w base (fun _ => true) held k 3 (([c0, c1, c2, c3, c4, c5, c6].drop 4).take (Try.prog.cellsOf 3)) = xs[3]? := hg 3 _ rfl
    have g4 : DataW.trod enc Try.prog w base (fun _ => true) held k 3 (([c0, c1, c2, c3, c4, c5, c6].drop 5).take (Try.prog.cellsOf 3)) = xs[4]? := hg 4 _ rfl
    have g5 : DataW.trod enc Try.prog w base (fun _ => true) held k 3 (([c0, c1, c2, c3, c4, c5, c6].drop 6).take (Try.prog.cellsOf 3)) = xs[5]? := hg 5 _ rfl
    rw [e2, hy0] at g0
    rw [e0, hy1] at g1
    rw [e1, hy2] at g2
    rw [e1, hy3] at g3
    rw [e1, hy4] at g4
    rw [e1, hy5] at g5
    obtain ⟨p, l, c, q, m, d, P, W, rfl, rfl, hP, hW⟩ := tree_of_trod g0
    obtain ⟨a, k, b, X, rfl, hX⟩ := sl_of_trod g1
    obtain ⟨x, rfl, ix⟩ := int_of_trod g2
    obtain ⟨s, rfl, is⟩ := int_of_trod g3
    obtain ⟨u, rfl, iu⟩ := int_of_trod g4
    obtain ⟨z, rfl, iz⟩ := int_of_trod g5
    exact ⟨p, l, c, P, q, m, d, W, a, k, b, X, x, s, u, z, rfl, hP, hW, hX, ix, is, iu, iz⟩

set_option maxRecDepth 100000 in
theorem open_deal {r : Reach} {b0 : Nat} {v : Value} {d : DataW H} {pl : List MemPlace} (hv : Value.okWide Try.prog w r b0 56 v) (h : DataW.Trod enc Try.prog w base (fun _ => true) held 56 v d pl) :
    ∃ x s u, v = .agg #[.int .i64 x, .int .i64 s, .int .i64 u] ∧ I64 x ∧ I64 s ∧ I64 u := by
  obtain ⟨cs, rfl, hsz⟩ := okWide_struct Try.underlying56 hv
  have e : Try.prog.cellsOf 56 = 3 := by kernel_rfl
  rw [e] at hsz
  obtain ⟨l⟩ := cs
  match l, hsz with
  | [c0, c1, c2], _ =>
    obtain ⟨fuel, hf⟩ := h
    obtain ⟨xs, k, _, _, _, hlen, hg⟩ := DataW.trod_struct Try.underlying56 hf
    obtain ⟨y0, hy0⟩ := some_of_len (i := 0) hlen (by decide)
    obtain ⟨y1, hy1⟩ := some_of_len (i := 1) hlen (by decide)
    obtain ⟨y2, hy2⟩ := some_of_len (i := 2) hlen (by decide)
    have e1 : Try.prog.cellsOf 3 = 1 := by kernel_rfl
    have g0 : DataW.trod enc Try.prog w base (fun _ => true) held k 3 (([c0, c1, c2].drop 0).take (Try.prog.cellsOf 3)) = xs[0]? := hg 0 _ rfl
    have g1 : DataW.trod enc Try.prog w base (fun _ => true) held k 3 (([c0, c1, c2].drop 1).take (Try.prog.cellsOf 3)) = xs[1]? := hg 1 _ rfl
    have g2 : DataW.trod enc Try.prog w base (fun _ => true) held k 3 (([c0, c1, c2].drop 2).take (Try.prog.cellsOf 3)) = xs[2]? := hg 2 _ rfl
    rw [e1, hy0] at g0
    rw [e1, hy1] at g1
    rw [e1, hy2] at g2
    obtain ⟨x, rfl, ix⟩ := int_of_trod g0
    obtain ⟨s, rfl, is⟩ := int_of_trod g1
    obtain ⟨u, rfl, iu⟩ := int_of_trod g2
    exact ⟨x, s, u, rfl, ix, is, iu⟩

end
end Go.Proofs.Ytojipjjfndgbhaa
