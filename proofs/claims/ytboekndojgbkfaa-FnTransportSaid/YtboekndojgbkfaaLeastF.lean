import Derived.Test.YtboekndojgbkfaaLeastS
/- A flow in the memory: a table and two lists. -/
set_option linter.unusedVariables false
namespace Go.Proofs.Ytboekndojgbkfaa
open Go.ChangeShapes Go.WideShapes Go.ChangeAt Go.RowKit
section
variable {F B : Int} {n : Nat} {C X : Nat → Nat → Int} {p q h l : Nat → Int}
theorem Flow.left (H : Flow n C X p q h l B F) (hpq : sumG n p = sumG n q) : sumG n h = sumG n l := by
  have e1 : sumG n (fun i => sumG n (X i)) = sumG n p - sumG n h := by rw [sumG_congr H.rows, sumG_sub]
  have e2 : sumG n (fun k => sumG n fun i => X i k) = sumG n q - sumG n l := by rw [sumG_congr H.cols, sumG_sub]
  have e3 := sumG_swap n n X
  have e4 : sumG n (fun i => sumG n (X i)) = sumG n (fun k => sumG n fun i => X i k) := e3
  omega
theorem Flow.none (H : Flow n C X p q h l B F) (h0 : sumG n h = 0) (l0 : sumG n l = 0) : (∀ i, i < n → h i = 0) ∧ ∀ k, k < n → l k = 0 := by
  refine ⟨fun i hi => ?_, fun k hk => ?_⟩
  · have := sumG_one H.hpos hi; have := H.hpos i hi; omega
  · have := sumG_one H.lpos hk; have := H.lpos k hk; omega
theorem Flow.cell_le (H : Flow n C X p q h l B F) {i k : Nat} (hi : i < n) (hk : k < n) : X i k ≤ p i := by
  have h1 := H.rows i hi
  have h2 := sumG_one (f := X i) (fun k hk => H.pos i k hi hk) hk
  have := H.hpos i hi
  omega
end
/-- A table and two lists of the call's own. -/
structure FlI (w : World) (B H gt gh gl n ct ch cl : Nat) (X : Nat → Nat → Int) (h l : Nat → Int) (wr : World) : Prop where
  oX : OwnSS B H wr (some ⟨gt, 0, none⟩) n ct (tab n X)
  oh : Own w.heap.size wr (some ⟨gh, 0, none⟩) n ch (lst n h)
  ol : Own w.heap.size wr (some ⟨gl, 0, none⟩) n cl (lst n l)
  f : Fr w wr
  lo : w.heap.size ≤ B
  hh : H ≤ gh
  hl : H ≤ gl
  ne : gh ≠ gl
  sh : w.heap.size ≤ H
section
variable {w wr w' : World} {B H gt gh gl n ct ch cl i k : Nat} {X : Nat → Nat → Int} {h l : Nat → Int}
theorem FlI.fr (S : FlI w B H gt gh gl n ct ch cl X h l wr) (k : Fr wr w') : FlI w B H gt gh gl n ct ch cl X h l w' :=
  ⟨S.oX.fr k, S.oh.fr k, S.ol.fr k, S.f.trans k, S.lo, S.hh, S.hl, S.ne, S.sh⟩
theorem FlI.drew (S : FlI w B H gt gh gl n ct ch cl X h l wr) : FlI w B H gt gh gl n ct ch cl X h l wr.drew := S.fr (Fr.drewN _ 1)
theorem FlI.cellh (S : FlI w B H gt gh gl n ct ch cl X h l wr) (hi : i < n) : wr.cell? ⟨gh, i, none⟩ = some (.int .i64 (h i)) := by
  have := S.oh.cellAt rfl hi; rwa [lst_nth _ hi] at this
theorem FlI.celll (S : FlI w B H gt gh gl n ct ch cl X h l wr) (hi : i < n) : wr.cell? ⟨gl, i, none⟩ = some (.int .i64 (l i)) := by
  have := S.ol.cellAt rfl hi; rwa [lst_nth _ hi] at this
theorem FlI.seth (S : FlI w B H gt gh gl n ct ch cl X h l wr) (hi : i < n) {v : Int} (hv : I64 v) : FlI w B H gt gh gl n ct ch cl X (updI h i v) l (wr.setCell ⟨gh, i, none⟩ (.int .i64 v)) := by
  have h1 := S.hh; have h2 := S.sh
  refine ⟨S.oX.put (p := ⟨gh, i, none⟩) (.inr h1) _, ?_, S.ol.setOther (p := ⟨gh, i, none⟩) (fun e => S.ne (by injection e with e; exact e.symm)) _, S.f.setCell (p := ⟨gh, i, none⟩) (by show w.heap.size ≤ gh; omega) _, S.lo, S.hh, S.hl, S.ne, S.sh⟩
  rw [← lst_set]; exact S.oh.set rfl hi hv
theorem FlI.setl (S : FlI w B H gt gh gl n ct ch cl X h l wr) (hi : i < n) {v : Int} (hv : I64 v) : FlI w B H gt gh gl n ct ch cl X h (updI l i v) (wr.setCell ⟨gl, i, none⟩ (.int .i64 v)) := by
  have h1 := S.hl; have h2 := S.sh
  refine ⟨S.oX.put (p := ⟨gl, i, none⟩) (.inr h1) _, S.oh.setOther (p := ⟨gl, i, none⟩) (fun e => S.ne (by injection e)) _, ?_, S.f.setCell (p := ⟨gl, i, none⟩) (by show w.heap.size ≤ gl; omega) _, S.lo, S.hh, S.hl, S.ne, S.sh⟩
  rw [← lst_set]; exact S.ol.set rfl hi hv
/-- One number of the table: where it lies, and that it may be set. -/
theorem FlI.spot (S : FlI w B H gt gh gl n ct ch cl X h l wr) (hi : i < n) (hk : k < n) :
    ∃ r cr, wr.cell? ⟨gt, i, none⟩ = some (.slice (some ⟨r, 0, none⟩) n cr) ∧ wr.cell? ⟨r, k, none⟩ = some (.int .i64 (X i k)) ∧ wr.frozen? ⟨r, k, none⟩ = false ∧ r < H ∧
      ∀ v, I64 v → FlI w B H gt gh gl n ct ch cl (upd2 X i k v) h l (wr.setCell ⟨r, k, none⟩ (.int .i64 v)) := by
  obtain ⟨gt', r, cr, hta, hc1, hc2, hfz, hB, hH, hB2, hH2, hset⟩ := S.oX.spot (fun i hi => tab_rowLen X hi) hi hk
  injection hta with hta; injection hta with hta; subst hta
  rw [tab_cell X hi hk] at hc2
  refine ⟨r, cr, hc1, hc2, hfz, hH, fun v hv => ?_⟩
  have h1 := S.hh; have h2 := S.hl; have h3 := S.lo
  refine ⟨by rw [← tab_set X hi]; exact hset v hv, S.oh.setOther (p := ⟨r, k, none⟩) (fun e => by injection e with e; change gh = r at e; omega) _, S.ol.setOther (p := ⟨r, k, none⟩) (fun e => by injection e with e; change gl = r at e; omega) _, S.f.setCell (p := ⟨r, k, none⟩) (by show w.heap.size ≤ r; omega) _, S.lo, S.hh, S.hl, S.ne, S.sh⟩
end
end Go.Proofs.Ytboekndojgbkfaa
