import Derived.Test.YtojipjjfndgbhaaRows
import Derived.WalkKit
import Derived.ProofKit
import Derived.OpenShut
import Derived.ChangeOld
import Derived.Below
import Derived.OneCell
import Derived.Deep.QuietTactic
import Derived.Deep.RegionWith
import Derived.Deep.OwnRows
import Derived.BigQuiet
import Derived.Lib.Hide
import Derived.WalkLawsBesides
import Derived.LoopTactic
/- The ground of this seat's proofs: slices of integers as lists, what a call may do to memory, small lemmas. No statement is proved here. -/
set_option linter.unusedVariables false
namespace Go.Proofs.Ytojipjjfndgbhaa
open Go.ChangeShapes Go.WideShapes Go.ChangeAt Go.RowKit

def I64 (x : Int) : Prop := -9223372036854775808 ≤ x ∧ x ≤ 9223372036854775807

theorem I64.of_wf {x : Int} (h : (Lit.int .i64 x).wf = true) : I64 x := by
  have := bounds_i64 h
  unfold I64; omega

theorem I64.wrap (x : Int) : I64 (wrap64 x) := by unfold I64 wrap64; omega

theorem ret_int {k : IntKind} {a b : Int} (h : a = b) : Ending.returned (.int k a) = .returned (.int k b) := by rw [h]
theorem ret_bool {a b : Bool} (h : a = b) : Ending.returned (.bool a) = .returned (.bool b) := by rw [h]

/-- What a call that writes to nothing that was there does to memory. -/
def Fr (w w' : World) : Prop := Below w.heap.size w w'
theorem Fr.refl (w : World) : Fr w w := Below.refl _ _
theorem Fr.trans {a b c : World} (h : Fr a b) (k : Fr b c) : Fr a c := Below.trans h (Below.mono k h.size)
theorem Fr.drewN (w : World) (n : Nat) : Fr w (w.drewN n) := ⟨rfl, rfl, rfl, Nat.le_refl _, fun _ _ => rfl⟩
theorem Fr.size {a b : World} (h : Fr a b) : a.heap.size ≤ b.heap.size := Below.size h
theorem Fr.alloc {a b : World} (h : Fr a b) (o : Obj) : Fr a (b.alloc o) := Below.alloc h h.size o
theorem Fr.drew' {a b : World} (h : Fr a b) (n : Nat) : Fr a (b.drewN n) := h.trans (Fr.drewN _ _)
theorem Fr.grown {a b c : World} {row : Option Nat} (h : Fr a b) (hg : b.grownBy c row) (hr : ∀ k, row = some k → a.heap.size ≤ k) : Fr a c := Below.grown h hg h.size hr
theorem Fr.setCell {a b : World} (h : Fr a b) {p : Addr} (hp : a.heap.size ≤ p.block) (u : Value) : Fr a (b.setCell p u) := Below.setCell h hp u

theorem addr_add (b off j : Nat) : (⟨b, off, none⟩ : Addr).add j = ⟨b, off + j, none⟩ := by unfold Addr.add; split <;> simp_all

/-- The i-th number of a list: a plain definition, closed to simp. -/
def nth (xs : List Int) (i : Nat) : Int := xs[i]?.getD 0

theorem nth_eq {xs : List Int} {i : Nat} (h : i < xs.length) : nth xs i = xs[i] := by simp [nth, h]
theorem nth_mem {xs : List Int} {i : Nat} (h : i < xs.length) : nth xs i ∈ xs := by rw [nth_eq h]; exact List.getElem_mem h
theorem nth_out {xs : List Int} {i : Nat} (h : xs.length ≤ i) : nth xs i = 0 := by simp [nth, h]

theorem grownBy_refl (w : World) (row : Option Nat) : w.grownBy w row := ⟨rfl, rfl, rfl, Nat.le_refl _, fun _ _ _ => rfl⟩
theorem grownBy_setCell {w w' : World} {row : Option Nat} (h : w.grownBy w' row) {p : Addr} (hp : row = some p.block) (u : Value) : w.grownBy (w'.setCell p u) row :=
  ⟨h.os, h.tape, h.output, by simpa [World.setCell] using h.size, fun k hk hne => by rw [Below.heap_setCell _ _ _ _ (by intro e; exact hne (by rw [hp, e]))]; exact h.block k hk hne⟩
theorem grownBy_drewN {w w' : World} {row : Option Nat} (h : w.grownBy w' row) (n : Nat) : w.grownBy (w'.drewN n) row := ⟨h.os, h.tape, h.output, h.size, h.block⟩
theorem Fr.grownBy {w w' : World} (h : Fr w w') (row : Option Nat) : w.grownBy w' row := ⟨h.os, h.tape, h.output, h.size, fun k hk _ => h.block k hk⟩
theorem grownBy_trans {a b c : World} {row : Option Nat} (h : a.grownBy b row) (k : b.grownBy c row) : a.grownBy c row :=
  ⟨k.os.trans h.os, k.tape.trans h.tape, k.output.trans h.output, Nat.le_trans h.size k.size, fun i hi hne => (k.block i (Nat.lt_of_lt_of_le hi h.size) hne).trans (h.block i hi hne)⟩

theorem Fr.newCell {w w1 : World} {cs : Array Value} {t : TypeId} (f : Fr (w.alloc (.cells cs t)) w1) {j : Nat} {v : Value} (h : cs[j]? = some v) : w1.cell? ⟨w.heap.size, j, none⟩ = some v := by
  have h1 : w1.heap[w.heap.size]? = some (.cells cs t (0, 0)) := by rw [f.block _ (by simp)]; exact heap_alloc_new w _
  rw [cell_of_row w1 w.heap.size j cs t (0, 0) h1]; exact h
theorem Fr.newFree {w w1 : World} {cs : Array Value} {t : TypeId} (f : Fr (w.alloc (.cells cs t)) w1) (j : Nat) : w1.frozen? ⟨w.heap.size, j, none⟩ = false := by
  have h1 : w1.heap[w.heap.size]? = some (.cells cs t (0, 0)) := by rw [f.block _ (by simp)]; exact heap_alloc_new w _
  simp [World.frozen?, h1]
theorem Fr.newSize {w w1 : World} {o : Obj} (f : Fr (w.alloc o) w1) : w.heap.size < w1.heap.size := by have := f.size; simp at this; omega

theorem Fr.keep {w w1 : World} (f : Fr w w1) {p : Addr} {v : Value} (h : w.cell? p = some v) : w1.cell? p = some v := by
  rw [Below.cell f (World.block_lt_of_cell? w _ h)]; exact h
theorem Fr.keepA {w w1 : World} {o : Obj} (f : Fr (w.alloc o) w1) {p : Addr} {v : Value} (h : w.cell? p = some v) : w1.cell? p = some v := (((Fr.refl w).alloc o).trans f).keep h

/-- A call that at most draws. -/
def Qt (w w' : World) : Prop := ∃ m, w' = w.drewN m
theorem Qt.refl (w : World) : Qt w w := ⟨0, rfl⟩
theorem Qt.drewN {a b : World} (h : Qt a b) (n : Nat) : Qt a (b.drewN n) := by obtain ⟨m, rfl⟩ := h; exact ⟨m + n, by rw [World.drewN_drewN]⟩
theorem Qt.trans {a b c : World} (h : Qt a b) (k : Qt b c) : Qt a c := by obtain ⟨m, rfl⟩ := k; exact h.drewN m
theorem Qt.fr {a b : World} (h : Qt a b) : Fr a b := by obtain ⟨m, rfl⟩ := h; exact Fr.drewN _ _
theorem qof {P : Program} {f : FuncId} {args : Array Value} {w : World} {n : Nat} {v : Value} (h : Calls P f args (w.drewN n) fun e w' => e = .returned v ∧ Qt (w.drewN n) w') :
    Calls P f args (w.drewN n) fun e w'' => e = .returned v ∧ ∃ m, w'' = w.drewN m := Calls.quiet_of h
theorem qofe {P : Program} {f : FuncId} {args : Array Value} {w : World} {n : Nat} {v : Value} (h : Calls P f args (w.drewN n) fun e w' => e = .returned v ∧ w.drewN n = w') :
    Calls P f args (w.drewN n) fun e w'' => e = .returned v ∧ ∃ m, w'' = w.drewN m := h.mono fun _ _ ⟨he, hm⟩ => ⟨he, n, hm.symm⟩
theorem toFrQ {P : Program} {f : FuncId} {args : Array Value} {w : World} {v : Ending} (h : Calls P f args w fun e w' => e = v ∧ Qt w w') : Calls P f args w fun e w' => e = v ∧ Fr w w' :=
  h.mono fun _ _ ⟨he, hw⟩ => ⟨he, hw.fr⟩

theorem beq_nat (n m : Nat) : ((n : Int) == (m : Int)) = (n == m) := by rw [Bool.eq_iff_iff]; simp; omega
theorem eq_of_bne {n m : Nat} (h : ((n : Int) != (m : Int)) = false) : n = m := by
  have : (n : Int) = (m : Int) := by simpa using h
  omega
theorem beq_bne (n m : Nat) : (n == m) = !((n : Int) != (m : Int)) := by rw [← beq_nat]; simp [bne]

/-- The least number below n that has a property, else n. -/
def leastI (P : Nat → Bool) (n : Nat) : Nat := ((List.range n).find? P).getD n
theorem leastI_eq {P : Nat → Bool} {n i : Nat} (hi : i < n) (h : P i = true) (hl : ∀ j, j < i → P j = false) : leastI P n = i := by
  have : (List.range n).find? P = some i := by
    rw [List.find?_range_eq_some]
    exact ⟨h, by simpa using hi, fun j hj => by rw [hl j hj]; rfl⟩
  rw [leastI, this]; rfl

theorem toFr {P : Program} {f : FuncId} {args : Array Value} {w : World} {v : Ending} (h : Calls P f args w fun e w' => e = v ∧ w = w') : Calls P f args w fun e w' => e = v ∧ Fr w w' :=
  h.mono fun _ _ ⟨he, hw⟩ => ⟨he, hw ▸ Fr.refl _⟩

/-- A slice of integers reads as a list. -/
structure SL (w : World) (a : Option Addr) (n cap : Nat) (xs : List Int) : Prop where
  len : xs.length = n
  le : n ≤ cap
  mx : cap ≤ 9223372036854775807
  rng : ∀ x ∈ xs, I64 x
  nil : a = none → n = 0 ∧ cap = 0
  cells : n = 0 ∨ ∃ b off, a = some ⟨b, off, none⟩ ∧ ∀ i, i < n → w.cell? ⟨b, off + i, none⟩ = some (.int .i64 (nth xs i))

theorem SL.rngAt {w : World} {a : Option Addr} {n cap : Nat} {xs : List Int} (h : SL w a n cap xs) (i : Nat) : I64 (nth xs i) := by
  by_cases hi : i < xs.length
  · exact h.rng _ (nth_mem hi)
  · rw [nth_out (by omega)]; simp [I64]

theorem SL.fr {w w' : World} {a : Option Addr} {n cap : Nat} {xs : List Int} (h : SL w a n cap xs) (f : Fr w w') : SL w' a n cap xs := by
  obtain ⟨h1, h2, h3, h4, h6, h5⟩ := h
  refine ⟨h1, h2, h3, h4, h6, ?_⟩
  rcases h5 with h5 | ⟨b, off, rfl, hc⟩
  · exact .inl h5
  · refine .inr ⟨b, off, rfl, fun i hi => ?_⟩
    have hx := hc i hi
    have hlt := World.block_lt_of_cell? w _ hx
    rw [Below.cell f hlt]; exact hx

theorem SL.of_nil (w : World) : SL w none 0 0 [] := ⟨rfl, Nat.le_refl _, by omega, by simp, fun _ => ⟨rfl, rfl⟩, .inl rfl⟩

theorem SL.of_open {w : World} {x : Addr} {len cap : Nat} {zs : List Int} (hl : len ≤ cap) (hm : cap ≤ maxLen) (hz : zs.length = cap)
    (hc : ∀ i, i < zs.length → w.cell? (x.add i) = some (.int .i64 (zs.getD i 0))) (hw : ∀ n ∈ zs, (Lit.int .i64 n).wf = true) : SL w (some x) len cap (zs.take len) := by
  refine ⟨by simp; omega, hl, by unfold maxLen at hm; omega, fun y hy => I64.of_wf (hw y (List.mem_of_mem_take hy)), fun h => (by cases h), ?_⟩
  by_cases h0 : len = 0
  · exact .inl h0
  · obtain ⟨b, off, spot⟩ := x
    have hspot : spot = none := by
      have := World.cell?_spot (hc 0 (by omega))
      simpa [Addr.add] using this
    subst hspot
    refine .inr ⟨b, off, rfl, fun i hi => ?_⟩
    have := hc i (by omega)
    have hadd : (⟨b, off, none⟩ : Addr).add i = ⟨b, off + i, none⟩ := by unfold Addr.add; split <;> simp_all
    rw [hadd] at this
    rw [this]
    simp [nth, hi]

theorem SL.drewN {w : World} {a : Option Addr} {n cap : Nat} {xs : List Int} (h : SL w a n cap xs) (k : Nat) : SL (w.drewN k) a n cap xs := h.fr (Fr.drewN _ _)
theorem SL.qt {w w' : World} {a : Option Addr} {n cap : Nat} {xs : List Int} (h : SL w a n cap xs) (k : Qt w w') : SL w' a n cap xs := h.fr k.fr

def blkOf (a : Option Addr) : Option Nat := a.map (·.block)

theorem SL.grown {w w' : World} {a : Option Addr} {n cap : Nat} {xs : List Int} {row : Option Nat} (h : SL w a n cap xs) (g : w.grownBy w' row) (hne : blkOf a = none ∨ blkOf a ≠ row) : SL w' a n cap xs := by
  obtain ⟨h1, h2, h3, h4, h6, h5⟩ := h
  refine ⟨h1, h2, h3, h4, h6, ?_⟩
  rcases h5 with h5 | ⟨b, off, rfl, hc⟩
  · exact .inl h5
  · refine .inr ⟨b, off, rfl, fun i hi => ?_⟩
    exact g.cell (hc i hi) (by simpa [blkOf] using hne)

/-- A slice of integers in memory of the call's own. -/
structure Own (B : Nat) (w : World) (a : Option Addr) (n cap : Nat) (xs : List Int) : Prop where
  row : w.ownsRow B 3 1 (.slice a n cap) n (xs.map (Value.int .i64))
  rng : ∀ x ∈ xs, I64 x

section
variable {B : Nat} {w w' : World} {a : Option Addr} {n cap : Nat} {xs : List Int}

theorem Own.len (h : Own B w a n cap xs) : xs.length = n := by simpa using h.row.1

theorem Own.cases (h : Own B w a n cap xs) : (a = none ∧ n = 0 ∧ cap = 0 ∧ xs = []) ∨
    ∃ g cur, a = some ⟨g, 0, none⟩ ∧ B ≤ g ∧ w.heap[g]? = some (.cells cur 3 (0, 0)) ∧ n ≤ cap ∧ cap ≤ maxLen ∧ cur.size = cap ∧ cur.toList.take n = xs.map (Value.int .i64) := by
  have hl := h.len
  obtain ⟨⟨h1, h2⟩, _⟩ := h
  rcases h2 with ⟨h2, h3⟩ | ⟨g, cap', cur, h2, h3, h4, h5, h6, h7, h8⟩
  · simp only [Value.slice.injEq] at h2
    obtain ⟨rfl, rfl, rfl⟩ := h2
    exact .inl ⟨rfl, rfl, rfl, List.length_eq_zero_iff.1 hl⟩
  · simp only [Value.slice.injEq] at h2
    obtain ⟨rfl, _, rfl⟩ := h2
    exact .inr ⟨g, cur, rfl, h3, h4, h5, h6, by simpa using h7, by simpa using h8⟩

theorem Own.cellAt (h : Own B w a n cap xs) {g : Nat} (ha : a = some ⟨g, 0, none⟩) {i : Nat} (hi : i < n) : w.cell? ⟨g, i, none⟩ = some (.int .i64 (nth xs i)) := by
  have hl := h.len
  have hc := h.row.cells (g := g) (by simp [Value.ownBlock, ha]) i (.int .i64 (nth xs i)) (by rw [nth_eq (by omega)]; simp [hl ▸ hi])
  have hadd : (⟨g, 0, none⟩ : Addr).add i = ⟨g, i, none⟩ := by unfold Addr.add; split <;> simp_all
  rwa [hadd] at hc

theorem Own.sl (h : Own B w a n cap xs) : SL w a n cap xs := by
  have hl := h.len
  rcases h.cases with ⟨rfl, rfl, rfl, rfl⟩ | ⟨g, cur, rfl, h3, h4, h5, h6, h7, h8⟩
  · exact ⟨rfl, Nat.le_refl _, by omega, by simp, fun _ => ⟨rfl, rfl⟩, .inl rfl⟩
  · exact ⟨hl, h5, by unfold maxLen at h6; omega, h.rng, fun h => (by cases h), .inr ⟨g, 0, rfl, fun i hi => by simpa using h.cellAt rfl hi⟩⟩

theorem Own.blk (h : Own B w a n cap xs) : ∀ k, blkOf a = some k → B ≤ k ∧ k < w.heap.size := by
  intro k hk
  refine h.row.lt k ?_
  cases a with
  | none => simp [blkOf] at hk
  | some x => simpa [blkOf, Value.ownBlock] using hk

theorem Own.op (h : Own B w a n cap xs) (hn : 0 < n) : ∃ g, a = some ⟨g, 0, none⟩ ∧ B ≤ g ∧ g < w.heap.size ∧ (∀ i, i < n → w.cell? ⟨g, i, none⟩ = some (.int .i64 (nth xs i))) ∧ ∀ i, w.frozen? ⟨g, i, none⟩ = false := by
  rcases h.cases with ⟨rfl, rfl, rfl, rfl⟩ | ⟨g, cur, ha, h3, h4, h5, h6, h7, h8⟩
  · omega
  · exact ⟨g, ha, h3, (Array.getElem?_eq_some_iff.1 h4).1, fun i hi => h.cellAt ha hi, fun i => by simp [World.frozen?, h4]⟩

theorem Own.frz {g : Nat} (h : Own B w (some ⟨g, 0, none⟩) n cap xs) (i : Nat) : w.frozen? ⟨g, i, none⟩ = false := by
  rcases h.cases with ⟨h1, _⟩ | ⟨g', cur, ha, _, h4, _⟩
  · cases h1
  · simp only [Option.some.injEq, Addr.mk.injEq, and_true] at ha
    subst ha
    simp [World.frozen?, h4]

theorem Own.grown {row : Option Nat} (h : Own B w a n cap xs) (g : w.grownBy w' row) (hne : blkOf a = none ∨ blkOf a ≠ row) : Own B w' a n cap xs :=
  ⟨h.row.kept g (by cases a with | none => simp [Value.ownBlock] | some x => simpa [blkOf, Value.ownBlock] using hne), h.rng⟩

theorem Own.fr (h : Own B w a n cap xs) (f : Fr w w') : Own B w' a n cap xs := by
  refine ⟨⟨h.row.1, ?_⟩, h.rng⟩
  rcases h.row.2 with h2 | ⟨g, cap', cur, h2, h3, h4, h5⟩
  · exact .inl h2
  · refine .inr ⟨g, cap', cur, h2, h3, ?_, h5⟩
    rw [f.block g (Array.getElem?_eq_some_iff.1 h4).1]; exact h4

theorem Own.mono {B' : Nat} (h : Own B w a n cap xs) (hB : B' ≤ B) : Own B' w a n cap xs := by
  refine ⟨⟨h.row.1, ?_⟩, h.rng⟩
  rcases h.row.2 with h2 | ⟨g, cap', cur, h2, h3, h4, h5⟩
  · exact .inl h2
  · exact .inr ⟨g, cap', cur, h2, Nat.le_trans hB h3, h4, h5⟩

theorem Own.drewN (h : Own B w a n cap xs) (k : Nat) : Own B (w.drewN k) a n cap xs := h.fr (Fr.drewN _ _)

/-- A store into it. -/
theorem Own.set (h : Own B w a n cap xs) {g : Nat} (ha : a = some ⟨g, 0, none⟩) {i : Nat} (hi : i < n) {v : Int} (hv : I64 v) : Own B (w.setCell ⟨g, i, none⟩ (.int .i64 v)) a n cap (xs.set i v) := by
  have hl := h.len
  rcases h.cases with ⟨rfl, rfl, rfl, rfl⟩ | ⟨g', cur, ha', h3, h4, h5, h6, h7, h8⟩
  · omega
  · rw [ha] at ha'
    simp only [Option.some.injEq, Addr.mk.injEq, and_true] at ha'
    obtain rfl := ha'
    refine ⟨⟨by simp [hl], .inr ⟨g, cap, cur.setIfInBounds i (.int .i64 v), by rw [ha], h3, ?_, h5, h6, by simpa using h7, ?_⟩⟩, ?_⟩
    · simp [World.setCell, Array.getElem?_modify, h4]
    · simp only [Nat.mul_one, Array.toList_setIfInBounds]
      rw [List.map_set, ← h8, List.take_set]
    · intro x hx
      rcases List.mem_or_eq_of_mem_set hx with hx | rfl
      · exact h.rng x hx
      · exact hv

/-- A store into another block. -/
theorem Own.setOther (h : Own B w a n cap xs) {p : Addr} (hp : blkOf a ≠ some p.block) (v : Value) : Own B (w.setCell p v) a n cap xs :=
  h.grown (grownBy_setCell (grownBy_refl w (some p.block)) rfl v) (.inr hp)
theorem SL.setOther (h : SL w a n cap xs) {p : Addr} (hp : blkOf a ≠ some p.block) (v : Value) : SL (w.setCell p v) a n cap xs :=
  h.grown (grownBy_setCell (grownBy_refl w (some p.block)) rfl v) (.inr hp)

/-- New memory: an empty literal. -/
theorem Own.made0 (w : World) (hB : B ≤ w.heap.size) : Own B (w.alloc (.cells #[] 3)) (some ⟨w.heap.size, 0, none⟩) 0 0 [] :=
  ⟨⟨by simp, .inr ⟨w.heap.size, 0, #[], rfl, hB, heap_alloc_new w _, Nat.le_refl _, by unfold maxLen; omega, by simp, by simp⟩⟩, by simp⟩

/-- New memory: make of integers. -/
theorem Own.made (w : World) (n : Nat) (hB : B ≤ w.heap.size) (hm : n ≤ maxLen) : Own B (w.alloc (.cells (madeCells #[.int .i64 0] n) 3)) (some ⟨w.heap.size, 0, none⟩) n n (List.replicate n 0) := by
  refine ⟨⟨by simp, .inr ⟨w.heap.size, n, madeCells #[.int .i64 0] n, rfl, hB, heap_alloc_new w _, Nat.le_refl _, hm, by simp [size_madeCells], ?_⟩⟩, ?_⟩
  · simp [toList_madeCells_one]
  · intro x hx
    have := List.eq_of_mem_replicate hx
    subst this; simp [I64]
end

/-- Results: a new slice; a new slice and a bool; an integer and a bool. -/
def RetS (xs : List Int) (w : World) (e : Ending) (w' : World) : Prop := ∃ a n cap, e = .returned (.slice a n cap) ∧ Own w.heap.size w' a n cap xs ∧ Fr w w' ∧ n ≤ 1048576
def RetSB (xs : List Int) (b : Bool) (w : World) (e : Ending) (w' : World) : Prop := ∃ a n cap, e = .returned (.tuple #[.slice a n cap, .bool b]) ∧ Own w.heap.size w' a n cap xs ∧ Fr w w' ∧ n ≤ 1048576

/-- The blocks of a slice lie from lo on and below hi. -/
def Within (a : Option Addr) (lo hi : Nat) : Prop := ∀ k, blkOf a = some k → lo ≤ k ∧ k < hi
theorem Own.within {B : Nat} {w : World} {a : Option Addr} {n cap : Nat} {xs : List Int} (h : Own B w a n cap xs) : Within a B w.heap.size := h.blk
theorem Own.skip {B : Nat} {w w' : World} {a b : Option Addr} {n cap lo hi lo' hi' : Nat} {xs : List Int} (h : Own B w a n cap xs) (g : w.grownBy w' (blkOf b)) (ha : Within a lo hi) (hb : Within b lo' hi')
    (hd : hi ≤ lo' ∨ hi' ≤ lo) : Own B w' a n cap xs := by
  refine h.grown g ?_
  cases hx : blkOf a with
  | none => exact .inl rfl
  | some k =>
    refine .inr fun e => ?_
    have h1 := ha k hx; have h2 := hb k e.symm; omega
theorem Fr.grownW {w0 w w' : World} {b : Option Addr} {lo hi : Nat} (h : Fr w0 w) (g : w.grownBy w' (blkOf b)) (hb : Within b lo hi) (hd : w0.heap.size ≤ lo) : Fr w0 w' :=
  h.grown g fun k hk => by have := hb k hk; omega

theorem infoInt : (Try.prog.info? 3).map (fun i => (i.zero, i.size, i.bytes)) = some (some (.int .i64 0), 1, 8) := by kernel_rfl

theorem take_snoc (xs : List Int) (k : Nat) (h : k < xs.length) : xs.take (k+1) = xs.take k ++ [nth xs k] := by
  rw [List.take_succ_eq_append_getElem h, nth_eq h]
end Go.Proofs.Ytojipjjfndgbhaa
/- Contracts of the small functions that many statements reach: intervals, sums, copies, and the comparisons of the laws. -/
set_option linter.unusedVariables false
namespace Go.Proofs.Ytojipjjfndgbhaa
open Go.ChangeShapes Go.WideShapes Go.ChangeAt Go.RowKit

def inB (n lo hi : Int) : Bool := decide (lo ≤ n) && decide (n ≤ hi)
theorem inB_iff {n lo hi : Int} : inB n lo hi = true ↔ lo ≤ n ∧ n ≤ hi := by simp [inB]
theorem inB_no {n lo hi : Int} : inB n lo hi = false ↔ ¬ (lo ≤ n ∧ n ≤ hi) := by simp only [inB, Bool.and_eq_false_iff, decide_eq_false_iff_not]; omega

theorem within_any (n lo hi : Int) (w : World) :
    Calls Try.prog 72 #[.int .i64 n, .int .i64 lo, .int .i64 hi] w fun e w' => e = .returned (.bool (inB n lo hi)) ∧ w = w' := by
  go_enter Try.func72, Try.ntmps72
  go_wp2
  all_goals (go_ret; exact ⟨by simp [inB, *] <;> omega, rfl⟩)

theorem l1In_any (n lo hi : Int) (w : World) :
    Calls Try.prog 88 #[.int .i64 n, .int .i64 lo, .int .i64 hi] w fun e w' => e = .returned (.bool (inB n lo hi)) ∧ w = w' := by
  go_enter Try.func88, Try.ntmps88
  go_wp2
  all_goals (go_ret; exact ⟨by simp [inB, *] <;> omega, rfl⟩)

theorem l1Most_any (a b : Int) (w : World) :
    Calls Try.prog 128 #[.int .i64 a, .int .i64 b] w fun e w' => e = .returned (.int .i64 (max a b)) ∧ w = w' := by
  go_enter Try.func128, Try.ntmps128
  go_wp2
  all_goals (go_ret; exact ⟨ret_int (by omega), rfl⟩)

theorem l1Least_any (a b : Int) (w : World) :
    Calls Try.prog 99 #[.int .i64 a, .int .i64 b] w fun e w' => e = .returned (.int .i64 (min a b)) ∧ w = w' := by
  go_enter Try.func99, Try.ntmps99
  go_wp2
  all_goals (go_ret; exact ⟨ret_int (by omega), rfl⟩)

def wsum (xs : List Int) : Int := xs.foldl (fun a x => wrap64 (a + x)) 0

theorem wsum_snoc (xs : List Int) (k : Nat) (h : k < xs.length) : wsum (xs.take (k+1)) = wrap64 (wsum (xs.take k) + nth xs k) := by
  rw [take_snoc xs k h]; simp [wsum, List.foldl_append]

theorem wsum_rng (xs : List Int) : I64 (wsum xs) := by
  rcases List.eq_nil_or_concat xs with rfl | ⟨ys, y, rfl⟩
  · simp [wsum, I64]
  · simp only [wsum, List.concat_eq_append, List.foldl_append, List.foldl_cons, List.foldl_nil]; exact I64.wrap _

/-- The sum without wraps. -/
def sumTo (xs : List Int) : Nat → Int
  | 0 => 0
  | k + 1 => sumTo xs k + nth xs k
theorem sumTo_bd {xs : List Int} {M : Int} (hM : 0 ≤ M) (h : ∀ x ∈ xs, 0 ≤ x ∧ x ≤ M) (k : Nat) : 0 ≤ sumTo xs k ∧ sumTo xs k ≤ M * k := by
  induction k with
  | zero => simp [sumTo]
  | succ k ih =>
    have hk : 0 ≤ nth xs k ∧ nth xs k ≤ M := by
      by_cases hi : k < xs.length
      · exact h _ (nth_mem hi)
      · rw [nth_out (by omega)]; omega
    have : M * ((k + 1 : Nat) : Int) = M * k + M := by rw [Int.natCast_add, Int.mul_add]; simp
    simp only [sumTo]; omega
theorem wsum_take {xs : List Int} {M : Int} (hM : 0 ≤ M) (h : ∀ x ∈ xs, 0 ≤ x ∧ x ≤ M) (hs : M * xs.length ≤ 9223372036854775807) (k : Nat) (hk : k ≤ xs.length) : wsum (xs.take k) = sumTo xs k := by
  induction k with
  | zero => rfl
  | succ k ih =>
    have h1 := sumTo_bd hM h (k + 1)
    have h2 : M * ((k + 1 : Nat) : Int) ≤ M * xs.length := Int.mul_le_mul_of_nonneg_left (by omega) hM
    rw [wsum_snoc xs k (by omega), ih (by omega)]
    simp only [sumTo] at h1 ⊢
    unfold wrap64; omega
theorem wsum_eq {xs : List Int} {M : Int} (hM : 0 ≤ M) (h : ∀ x ∈ xs, 0 ≤ x ∧ x ≤ M) (hs : M * xs.length ≤ 9223372036854775807) : wsum xs = sumTo xs xs.length := by
  have := wsum_take hM h hs xs.length (Nat.le_refl _)
  rwa [List.take_length] at this

def allB (xs : List Int) (lo hi : Int) : Bool := xs.all fun x => inB x lo hi

theorem allB_iff {xs : List Int} {lo hi : Int} : allB xs lo hi = true ↔ ∀ x ∈ xs, lo ≤ x ∧ x ≤ hi := by simp [allB, inB]

theorem allB_snoc (xs : List Int) (lo hi : Int) (k : Nat) (h : k < xs.length) : allB (xs.take (k+1)) lo hi = (allB (xs.take k) lo hi && inB (nth xs k) lo hi) := by
  rw [take_snoc xs k h]; simp [allB, List.all_append]

theorem allB_no {xs : List Int} {lo hi : Int} {k : Nat} (h : k < xs.length) (hk : inB (nth xs k) lo hi = false) : allB xs lo hi = false := by
  rw [Bool.eq_false_iff]; intro hc
  have := (allB_iff.1 hc) _ (nth_mem h)
  rw [← inB_iff, hk] at this; simp at this

theorem allWithin_any (w : World) (a : Option Addr) (n cap : Nat) (xs : List Int) (lo hi : Int) (h : SL w a n cap xs) :
    Calls Try.prog 108 #[.slice a n cap, .int .i64 lo, .int .i64 hi] w fun e w' => e = .returned (.bool (allB xs lo hi)) ∧ w = w' := by
  obtain ⟨hlen, hle, hmx, hrng, _, hcells⟩ := h
  have Hlen := Lib.hid hlen; clear hlen
  go_enter Try.func108, Try.ntmps108
  go_wp2
  go_loop [11] (fun i => ∃ k : Nat, k ≤ n ∧ i = .int .i64 k ∧ Hid (allB (xs.take k) lo hi = true)) (fun i => n - (intOf i).toNat)
  case atStart => exact ⟨0, Nat.zero_le _, rfl, Lib.hid rfl⟩
  case round =>
    obtain ⟨k, hk, rfl, hall⟩ := hrel
    by_cases hlt : k < n
    · obtain ⟨b, off, rfl, hc⟩ := hcells.resolve_left (by omega)
      have hc := hc k hlt
      have hks := Hlen.out ▸ hlt
      have HS := Lib.hid (allB_snoc xs lo hi k hks)
      cases hb : inB (nth xs k) lo hi with
      | true =>
        have HB := Lib.hid hb
        go_wp2_with (go_at_call 72; refine (within_any _ _ _ _).mono ?_; rintro e w' ⟨rfl, rfl⟩)
        go_round
        case rel => exact ⟨k + 1, by omega, by go_num, Lib.hid (by rw [HS.out, hall.out, HB.out]; rfl)⟩
        case measure => simp [intOf]; omega
      | false =>
        have HB := Lib.hid hb
        go_wp2_with (go_at_call 72; refine (within_any _ _ _ _).mono ?_; rintro e w' ⟨rfl, rfl⟩)
        go_ret
        exact ⟨ret_bool (allB_no hks HB.out).symm, rfl⟩
    · go_wp2
      go_ret
      exact ⟨ret_bool (by rw [← List.take_of_length_le (l := xs) (i := k) (by rw [Hlen.out]; omega)]; exact hall.out.symm), rfl⟩

end Go.Proofs.Ytojipjjfndgbhaa
