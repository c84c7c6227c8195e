import Derived.Test.YtojipjjfndgbhaaLists
/- Slices of bools of the call's own. -/
set_option linter.unusedVariables false
namespace Go.Proofs.Ytojipjjfndgbhaa
open Go.ChangeShapes Go.WideShapes Go.ChangeAt Go.RowKit

def nthB (xs : List Bool) (i : Nat) : Bool := xs[i]?.getD false
theorem nthB_eq {xs : List Bool} {i : Nat} (h : i < xs.length) : nthB xs i = xs[i] := by simp [nthB, h]
theorem nthB_set_same {xs : List Bool} {i : Nat} (h : i < xs.length) (x : Bool) : nthB (xs.set i x) i = x := by simp [nthB, h]
theorem nthB_set_ne {xs : List Bool} {i j : Nat} (h : i ≠ j) (x : Bool) : nthB (xs.set i x) j = nthB xs j := by simp [nthB, h]

structure OwnB (B : Nat) (w : World) (a : Option Addr) (n cap : Nat) (xs : List Bool) : Prop where
  row : w.ownsRow B 4 1 (.slice a n cap) n (xs.map Value.bool)

section
variable {B : Nat} {w w' : World} {a : Option Addr} {n cap : Nat} {xs : List Bool}
theorem OwnB.len (h : OwnB B w a n cap xs) : xs.length = n := by simpa using h.row.1
theorem OwnB.cases (h : OwnB B w a n cap xs) : (a = none ∧ n = 0 ∧ cap = 0 ∧ xs = []) ∨
    ∃ g cur, a = some ⟨g, 0, none⟩ ∧ B ≤ g ∧ w.heap[g]? = some (.cells cur 4 (0, 0)) ∧ n ≤ cap ∧ cap ≤ maxLen ∧ cur.size = cap ∧ cur.toList.take n = xs.map Value.bool := by
  have hl := h.len
  obtain ⟨⟨h1, h2⟩⟩ := h
  rcases h2 with ⟨h2, h3⟩ | ⟨g, cap', cur, h2, h3, h4, h5, h6, h7, h8⟩
  · simp only [Value.slice.injEq] at h2
    obtain ⟨rfl, rfl, rfl⟩ := h2
    exact .inl ⟨rfl, rfl, rfl, List.length_eq_zero_iff.1 hl⟩
  · simp only [Value.slice.injEq] at h2
    obtain ⟨rfl, _, rfl⟩ := h2
    exact .inr ⟨g, cur, rfl, h3, h4, h5, h6, by simpa using h7, by simpa using h8⟩
theorem OwnB.cellAt (h : OwnB B w a n cap xs) {g : Nat} (ha : a = some ⟨g, 0, none⟩) {i : Nat} (hi : i < n) : w.cell? ⟨g, i, none⟩ = some (.bool (nthB xs i)) := by
  have hl := h.len
  have hc := h.row.cells (g := g) (by simp [Value.ownBlock, ha]) i (.bool (nthB xs i)) (by rw [nthB_eq (by omega)]; simp [hl ▸ hi])
  have hadd : (⟨g, 0, none⟩ : Addr).add i = ⟨g, i, none⟩ := by unfold Addr.add; split <;> simp_all
  rwa [hadd] at hc
theorem OwnB.blk (h : OwnB B w a n cap xs) : ∀ k, blkOf a = some k → B ≤ k ∧ k < w.heap.size := by
  intro k hk
  refine h.row.lt k ?_
  cases a with
  | none => simp [blkOf] at hk
  | some x => simpa [blkOf, Value.ownBlock] using hk
theorem OwnB.op (h : OwnB B w a n cap xs) (hn : 0 < n) : ∃ g, a = some ⟨g, 0, none⟩ ∧ B ≤ g ∧ g < w.heap.size ∧ (∀ i, i < n → w.cell? ⟨g, i, none⟩ = some (.bool (nthB xs i))) ∧ ∀ i, w.frozen? ⟨g, i, none⟩ = false := by
  rcases h.cases with ⟨rfl, rfl, rfl, rfl⟩ | ⟨g, cur, ha, h3, h4, h5, h6, h7, h8⟩
  · omega
  · exact ⟨g, ha, h3, (Array.getElem?_eq_some_iff.1 h4).1, fun i hi => h.cellAt ha hi, fun i => by simp [World.frozen?, h4]⟩
theorem OwnB.grown {row : Option Nat} (h : OwnB B w a n cap xs) (g : w.grownBy w' row) (hne : blkOf a = none ∨ blkOf a ≠ row) : OwnB B w' a n cap xs :=
  ⟨h.row.kept g (by cases a with | none => simp [Value.ownBlock] | some x => simpa [blkOf, Value.ownBlock] using hne)⟩
theorem OwnB.fr (h : OwnB B w a n cap xs) (f : Fr w w') : OwnB B w' a n cap xs := by
  refine ⟨⟨h.row.1, ?_⟩⟩
  rcases h.row.2 with h2 | ⟨g, cap', cur, h2, h3, h4, h5⟩
  · exact .inl h2
  · refine .inr ⟨g, cap', cur, h2, h3, ?_, h5⟩
    rw [f.block g (Array.getElem?_eq_some_iff.1 h4).1]; exact h4
theorem OwnB.mono {B' : Nat} (h : OwnB B w a n cap xs) (hB : B' ≤ B) : OwnB B' w a n cap xs := by
  refine ⟨⟨h.row.1, ?_⟩⟩
  rcases h.row.2 with h2 | ⟨g, cap', cur, h2, h3, h4, h5⟩
  · exact .inl h2
  · exact .inr ⟨g, cap', cur, h2, Nat.le_trans hB h3, h4, h5⟩
theorem OwnB.drewN (h : OwnB B w a n cap xs) (k : Nat) : OwnB B (w.drewN k) a n cap xs := h.fr (Fr.drewN _ _)
theorem OwnB.set (h : OwnB B w a n cap xs) {g : Nat} (ha : a = some ⟨g, 0, none⟩) {i : Nat} (hi : i < n) (v : Bool) : OwnB B (w.setCell ⟨g, i, none⟩ (.bool v)) a n cap (xs.set i v) := by
  have hl := h.len
  rcases h.cases with ⟨rfl, rfl, rfl, rfl⟩ | ⟨g', cur, ha', h3, h4, h5, h6, h7, h8⟩
  · omega
  · rw [ha] at ha'
    simp only [Option.some.injEq, Addr.mk.injEq, and_true] at ha'
    obtain rfl := ha'
    refine ⟨⟨by simp [hl], .inr ⟨g, cap, cur.setIfInBounds i (.bool v), by rw [ha], h3, ?_, h5, h6, by simpa using h7, ?_⟩⟩⟩
    · simp [World.setCell, Array.getElem?_modify, h4]
    · simp only [Nat.mul_one, Array.toList_setIfInBounds]
      rw [List.map_set, ← h8, List.take_set]
theorem OwnB.setOther (h : OwnB B w a n cap xs) {p : Addr} (hp : blkOf a ≠ some p.block) (v : Value) : OwnB B (w.setCell p v) a n cap xs :=
  h.grown (grownBy_setCell (grownBy_refl w (some p.block)) rfl v) (.inr hp)
theorem OwnB.within (h : OwnB B w a n cap xs) : Within a B w.heap.size := h.blk
theorem OwnB.made (w : World) (n : Nat) (hB : B ≤ w.heap.size) (hm : n ≤ maxLen) : OwnB B (w.alloc (.cells (madeCells #[.bool false] n) 4)) (some ⟨w.heap.size, 0, none⟩) n n (List.replicate n false) := by
  refine ⟨⟨by simp, .inr ⟨w.heap.size, n, madeCells #[.bool false] n, rfl, hB, heap_alloc_new w _, Nat.le_refl _, hm, by simp [size_madeCells], ?_⟩⟩⟩
  simp [toList_madeCells_one]
end
theorem infoBool : (Try.prog.info? 4).map (fun i => (i.zero, i.size, i.bytes)) = some (some (.bool false), 1, 1) := by kernel_rfl
def RetB (xs : List Bool) (w : World) (e : Ending) (w' : World) : Prop := ∃ a n cap, e = .returned (.slice a n cap) ∧ OwnB w.heap.size w' a n cap xs ∧ Fr w w' ∧ n ≤ 1048576
end Go.Proofs.Ytojipjjfndgbhaa
