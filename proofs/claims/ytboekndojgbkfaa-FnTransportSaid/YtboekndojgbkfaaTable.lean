import Derived.Test.YtboekndojgbkfaaLists
import Derived.Laws.AppendOwn
import Derived.Laws.AppendOwnNone
import Derived.ArgAppend
/- Tables: slices of slices of integers, read and of the call's own; append; the laws' functions on them. -/
set_option linter.unusedVariables false
namespace Go.Proofs.Ytboekndojgbkfaa
open Go.ChangeShapes Go.WideShapes Go.ChangeAt Go.RowKit

def nthL (xss : List (List Int)) (i : Nat) : List Int := xss[i]?.getD []
theorem nthL_eq {xss : List (List Int)} {i : Nat} (h : i < xss.length) : nthL xss i = xss[i] := by simp [nthL, h]
theorem nthL_app_lt {xss yss : List (List Int)} {i : Nat} (h : i < xss.length) : nthL (xss ++ yss) i = nthL xss i := by simp [nthL, List.getElem?_append_left h]
theorem nthL_app_at (xss : List (List Int)) (x : List Int) : nthL (xss ++ [x]) xss.length = x := by simp [nthL]
theorem nthL_set_same {xss : List (List Int)} {i : Nat} (h : i < xss.length) (x : List Int) : nthL (xss.set i x) i = x := by simp [nthL, h]
theorem nthL_set_ne {xss : List (List Int)} {i j : Nat} (h : i ≠ j) (x : List Int) : nthL (xss.set i x) j = nthL xss j := by simp [nthL, h]

/-- A slice of slices of integers reads as a list of lists. -/
structure SS (w : World) (a : Option Addr) (n cap : Nat) (xss : List (List Int)) : Prop where
  len : xss.length = n
  le : n ≤ cap
  mx : cap ≤ 9223372036854775807
  rows : n = 0 ∨ ∃ b off, a = some ⟨b, off, none⟩ ∧ ∀ i, i < n → ∃ p m c, w.cell? ⟨b, off + i, none⟩ = some (.slice p m c) ∧ SL w p m c (nthL xss i)

theorem SS.fr {w w' : World} {a : Option Addr} {n cap : Nat} {xss : List (List Int)} (h : SS w a n cap xss) (f : Fr w w') : SS w' a n cap xss := by
  obtain ⟨h1, h2, h3, h4⟩ := h
  refine ⟨h1, h2, h3, ?_⟩
  rcases h4 with h4 | ⟨b, off, rfl, hc⟩
  · exact .inl h4
  · refine .inr ⟨b, off, rfl, fun i hi => ?_⟩
    obtain ⟨p, m, c, hx, hs⟩ := hc i hi
    exact ⟨p, m, c, f.keep hx, hs.fr f⟩
theorem SS.qt {w w' : World} {a : Option Addr} {n cap : Nat} {xss : List (List Int)} (h : SS w a n cap xss) (k : Qt w w') : SS w' a n cap xss := h.fr k.fr
theorem SS.drewN {w : World} {a : Option Addr} {n cap : Nat} {xss : List (List Int)} (h : SS w a n cap xss) (k : Nat) : SS (w.drewN k) a n cap xss := h.fr (Fr.drewN _ _)

def Apart (a b : Option Addr) : Prop := ∀ k, blkOf a = some k → blkOf b = some k → False
def rowV (r : Option Addr × Nat × Nat) : Value := .slice r.1 r.2.1 r.2.2
def rget (rs : List (Option Addr × Nat × Nat)) (i : Nat) : Option Addr × Nat × Nat := rs[i]?.getD (none, 0, 0)

/-- A table in memory of the call's own: all its blocks lie from B on and below H; no two rows share one. -/
structure OwnSS (B H : Nat) (w : World) (a : Option Addr) (n cap : Nat) (xss : List (List Int)) : Prop where
  len : xss.length = n
  ex : ∃ rs : List (Option Addr × Nat × Nat), w.ownsRow B 22 1 (.slice a n cap) n (rs.map rowV) ∧
    (∀ i, i < n → Own B w (rget rs i).1 (rget rs i).2.1 (rget rs i).2.2 (nthL xss i)) ∧
    Within a B H ∧ (∀ i, i < n → Within (rget rs i).1 B H) ∧ (∀ i, i < n → Apart (rget rs i).1 a) ∧ (∀ i j, i < n → j < n → i ≠ j → Apart (rget rs i).1 (rget rs j).1)

section
variable {B H : Nat} {w w' : World} {a : Option Addr} {n cap : Nat} {xss : List (List Int)}

theorem ownsRow_fr {B : Nat} {e : TypeId} {v : Value} {n : Nat} {xs : List Value} (h : w.ownsRow B e 1 v n xs) (f : Fr w w') : w'.ownsRow B e 1 v n xs := by
  refine ⟨h.1, ?_⟩
  rcases h.2 with h2 | ⟨g, cap', cur, h2, h3, h4, h5⟩
  · exact .inl h2
  · exact .inr ⟨g, cap', cur, h2, h3, by rw [f.block g (Array.getElem?_eq_some_iff.1 h4).1]; exact h4, h5⟩

theorem OwnSS.fr (h : OwnSS B H w a n cap xss) (f : Fr w w') : OwnSS B H w' a n cap xss := by
  obtain ⟨h0, rs, h1, h2, h3⟩ := h
  exact ⟨h0, rs, ownsRow_fr h1 f, fun i hi => (h2 i hi).fr f, h3⟩

theorem OwnSS.upto {H' : Nat} (h : OwnSS B H w a n cap xss) (hH : H ≤ H') : OwnSS B H' w a n cap xss := by
  obtain ⟨h0, rs, h1, h2, h3, h4, h5⟩ := h
  exact ⟨h0, rs, h1, h2, fun k hk => by have := h3 k hk; omega, fun i hi k hk => by have := h4 i hi k hk; omega, h5⟩

theorem ownsRow_lo {B B' : Nat} {e : TypeId} {v : Value} {n : Nat} {xs : List Value} (h : w.ownsRow B e 1 v n xs) (hB : B' ≤ B) : w.ownsRow B' e 1 v n xs := by
  refine ⟨h.1, ?_⟩
  rcases h.2 with h2 | ⟨g, cap', cur, h2, h3, h4⟩
  · exact .inl h2
  · exact .inr ⟨g, cap', cur, h2, Nat.le_trans hB h3, h4⟩
theorem OwnSS.mono {B' : Nat} (h : OwnSS B H w a n cap xss) (hB : B' ≤ B) : OwnSS B' H w a n cap xss := by
  obtain ⟨h0, rs, h1, h2, h3, h4, h5⟩ := h
  exact ⟨h0, rs, ownsRow_lo h1 hB, fun i hi => (h2 i hi).mono hB, fun k hk => by have := h3 k hk; omega, fun i hi k hk => by have := h4 i hi k hk; omega, h5⟩

theorem OwnSS.shape (h : OwnSS B H w a n cap xss) : (a = none ∧ n = 0 ∧ cap = 0) ∨ ∃ g, a = some ⟨g, 0, none⟩ ∧ n ≤ cap ∧ cap ≤ maxLen := by
  obtain ⟨h0, rs, ⟨h1, h2⟩, _⟩ := h
  rcases h2 with ⟨h2, h3⟩ | ⟨g, cap', cur, h2, h3, h4, h5, h6, _⟩
  · simp only [Value.slice.injEq] at h2
    obtain ⟨rfl, rfl, rfl⟩ := h2
    exact .inl ⟨rfl, rfl, rfl⟩
  · simp only [Value.slice.injEq] at h2
    obtain ⟨rfl, _, rfl⟩ := h2
    exact .inr ⟨g, rfl, h5, h6⟩

/-- A row of it. -/
theorem OwnSS.rowAt (h : OwnSS B H w a n cap xss) {i : Nat} (hi : i < n) : ∃ g p m c, a = some ⟨g, 0, none⟩ ∧ w.cell? ⟨g, i, none⟩ = some (.slice p m c) ∧ Own B w p m c (nthL xss i) ∧ Within p B H ∧ B ≤ g ∧ g < H := by
  have hs := h.shape
  obtain ⟨h0, rs, h1, h2, h3, h4, h5⟩ := h
  rcases hs with ⟨rfl, rfl, rfl⟩ | ⟨g, rfl, _⟩
  · omega
  · have hg := h3 g rfl
    have hl : rs.length = n := by simpa using h1.1
    refine ⟨g, (rget rs i).1, (rget rs i).2.1, (rget rs i).2.2, rfl, ?_, h2 i hi, h4 i hi, hg.1, hg.2⟩
    have hc := h1.cells (g := g) (by simp [Value.ownBlock]) i (rowV (rget rs i)) (by simp [rget, hl ▸ hi])
    have hadd : (⟨g, 0, none⟩ : Addr).add i = ⟨g, i, none⟩ := by unfold Addr.add; split <;> simp_all
    rwa [hadd] at hc

theorem OwnSS.ss (h : OwnSS B H w a n cap xss) : SS w a n cap xss := by
  refine ⟨h.len, ?_, ?_, ?_⟩
  · rcases h.shape with ⟨_, rfl, rfl⟩ | ⟨g, _, h1, _⟩ <;> omega
  · rcases h.shape with ⟨_, rfl, rfl⟩ | ⟨g, _, _, h1⟩
    · omega
    · unfold maxLen at h1; omega
  · by_cases h0 : n = 0
    · exact .inl h0
    · obtain ⟨g, p, m, c, rfl, _⟩ := h.rowAt (i := 0) (by omega)
      refine .inr ⟨g, 0, rfl, fun i hi => ?_⟩
      obtain ⟨g', p, m, c, hg, hc, ho, _⟩ := h.rowAt hi
      simp only [Option.some.injEq, Addr.mk.injEq, and_true] at hg
      subst hg
      exact ⟨p, m, c, by simpa using hc, ho.sl⟩

/-- What happens in blocks from B on and below H alone. -/
structure GrownIn (B H : Nat) (w w' : World) : Prop where
  os : w'.os = w.os
  tape : w'.tape = w.tape
  output : w'.output = w.output
  size : w.heap.size ≤ w'.heap.size
  block : ∀ k, k < w.heap.size → ¬ (B ≤ k ∧ k < H) → w'.heap[k]? = w.heap[k]?
theorem GrownIn.refl (B H : Nat) (w : World) : GrownIn B H w w := ⟨rfl, rfl, rfl, Nat.le_refl _, fun _ _ _ => rfl⟩
theorem GrownIn.trans {B H : Nat} {x y z : World} (h : GrownIn B H x y) (k : GrownIn B H y z) : GrownIn B H x z :=
  ⟨k.os.trans h.os, k.tape.trans h.tape, k.output.trans h.output, Nat.le_trans h.size k.size, fun i hi hne => (k.block i (Nat.lt_of_lt_of_le hi h.size) hne).trans (h.block i hi hne)⟩
theorem GrownIn.of {B H : Nat} {p : Option Addr} (g : w.grownBy w' (blkOf p)) (hp : Within p B H) : GrownIn B H w w' :=
  ⟨g.os, g.tape, g.output, g.size, fun k hk hne => g.block k hk fun e => hne (hp k e.symm)⟩
theorem Fr.grownSS {w0 w w' : World} {lo hi : Nat} (h : Fr w0 w) (g : GrownIn lo hi w w') (hd : w0.heap.size ≤ lo) : Fr w0 w' :=
  Below.trans h ⟨g.os, g.tape, g.output, g.size, fun k hk => g.block k (Nat.lt_of_lt_of_le hk h.size) (by omega)⟩

theorem Own.skipSS {a : Option Addr} {n cap lo hi lo' hi' : Nat} {xs : List Int} (h : Own B w a n cap xs) (g : GrownIn lo' hi' w w') (ha : Within a lo hi) (hd : hi ≤ lo' ∨ hi' ≤ lo) : Own B w' a n cap xs := by
  refine ⟨⟨h.row.1, ?_⟩, h.rng⟩
  rcases h.row.2 with h2 | ⟨b, cap', cur, h2, h3, h4, h5⟩
  · exact .inl h2
  · refine .inr ⟨b, cap', cur, h2, h3, ?_, h5⟩
    simp only [Value.slice.injEq] at h2
    have := ha b (by rw [h2.1]; rfl)
    rw [g.block b (Array.getElem?_eq_some_iff.1 h4).1 (by omega)]; exact h4
theorem ownsRow_skip {a : Option Addr} {n cap lo hi lo' hi' : Nat} {e : TypeId} {xs : List Value} (h : w.ownsRow B e 1 (.slice a n cap) n xs) (g : GrownIn lo' hi' w w') (ha : Within a lo hi) (hd : hi ≤ lo' ∨ hi' ≤ lo) : w'.ownsRow B e 1 (.slice a n cap) n xs := by
  refine ⟨h.1, ?_⟩
  rcases h.2 with h2 | ⟨b, cap', cur, h2, h3, h4, h5⟩
  · exact .inl h2
  · refine .inr ⟨b, cap', cur, h2, h3, ?_, h5⟩
    simp only [Value.slice.injEq] at h2
    have := ha b (by rw [h2.1]; rfl)
    rw [g.block b (Array.getElem?_eq_some_iff.1 h4).1 (by omega)]; exact h4
theorem OwnSS.skipIn {lo' hi' : Nat} (h : OwnSS B H w a n cap xss) (g : GrownIn lo' hi' w w') (hd : H ≤ lo' ∨ hi' ≤ B) : OwnSS B H w' a n cap xss := by
  obtain ⟨h0, rs, h1, h2, h3, h4, h5⟩ := h
  exact ⟨h0, rs, ownsRow_skip h1 g h3 hd, fun i hi => (h2 i hi).skipSS g (h4 i hi) hd, h3, h4, h5⟩
theorem OwnSS.skip {b : Option Addr} {lo' hi' : Nat} (h : OwnSS B H w a n cap xss) (g : w.grownBy w' (blkOf b)) (hb : Within b lo' hi') (hd : H ≤ lo' ∨ hi' ≤ B) : OwnSS B H w' a n cap xss :=
  h.skipIn (GrownIn.of g hb) hd

/-- The block of a slice lies below lo or from hi on. -/
def OutB (p : Option Addr) (lo hi : Nat) : Prop := ∀ k, blkOf p = some k → k < lo ∨ hi ≤ k
theorem OwnSS.keep {p : Option Addr} (h : OwnSS B H w a n cap xss) (g : w.grownBy w' (blkOf p)) (hp : OutB p B H) : OwnSS B H w' a n cap xss := by
  obtain ⟨h0, rs, h1, h2, h3, h4, h5⟩ := h
  have key : ∀ q : Option Addr, Within q B H → blkOf q = none ∨ blkOf q ≠ blkOf p := by
    intro q hq
    cases hx : blkOf q with
    | none => exact .inl rfl
    | some k => exact .inr fun e => by have := hq k hx; have := hp k e.symm; omega
  refine ⟨h0, rs, h1.kept g ?_, fun i hi => (h2 i hi).grown g (key _ (h4 i hi)), h3, h4, h5⟩
  have := key a h3
  cases a with
  | none => simp [Value.ownBlock]
  | some y => simpa [blkOf, Value.ownBlock] using this

/-- A row of it is written. -/
theorem OwnSS.setRow (h : OwnSS B H w a n cap xss) {i : Nat} (hi : i < n) {g : Nat} (ha : a = some ⟨g, 0, none⟩) {p : Option Addr} {m c : Nat} (hc : w.cell? ⟨g, i, none⟩ = some (.slice p m c)) {x : List Int}
    (ho : Own B w' p m c x) (hg : w.grownBy w' (blkOf p)) : OwnSS B H w' a n cap (xss.set i x) := by
  obtain ⟨h0, rs, h1, h2, h3, h4, h5, h6⟩ := h
  have hl : rs.length = n := by simpa using h1.1
  have hcc := h1.cells (g := g) (by simp [Value.ownBlock, ha]) i (rowV (rget rs i)) (by simp [rget, hl ▸ hi])
  have hadd : (⟨g, 0, none⟩ : Addr).add i = ⟨g, i, none⟩ := by unfold Addr.add; split <;> simp_all
  rw [hadd, hc] at hcc
  simp only [rowV, Option.some.injEq, Value.slice.injEq] at hcc
  obtain ⟨rfl, rfl, rfl⟩ := hcc
  have key : ∀ q : Option Addr, Apart (rget rs i).1 q → blkOf q = none ∨ blkOf q ≠ blkOf (rget rs i).1 := by
    intro q hq
    cases hx : blkOf q with
    | none => exact .inl rfl
    | some k => exact .inr fun e => hq k e.symm hx
  refine ⟨by simpa using h0, rs, ?_, fun j hj => ?_, h3, h4, h5, h6⟩
  · refine h1.kept hg ?_
    have := key a (h5 i hi)
    cases a with
    | none => simp [Value.ownBlock]
    | some y => simpa [blkOf, Value.ownBlock] using this
  · by_cases e : i = j
    · subst e; rw [nthL_set_same (by omega)]; exact ho
    · rw [nthL_set_ne e]; exact (h2 j hj).grown hg (key _ (h6 i j hi hj e))

/-- The empty table. -/
theorem OwnSS.nil (B H : Nat) (w : World) : OwnSS B H w none 0 0 [] :=
  ⟨rfl, [], World.ownsRow_nil _ _ _ _, fun i hi => by omega, fun k hk => by simp [blkOf] at hk, fun i hi => by omega, fun i hi => by omega, fun i j hi => by omega⟩
theorem OwnSS.made0 (w : World) (hB : B ≤ w.heap.size) (hH : w.heap.size < H) : OwnSS B H (w.alloc (.cells #[] 22)) (some ⟨w.heap.size, 0, none⟩) 0 0 [] :=
  ⟨rfl, [], ⟨by simp, .inr ⟨w.heap.size, 0, #[], rfl, hB, heap_alloc_new w _, Nat.le_refl _, by unfold maxLen; omega, by simp, by simp⟩⟩, fun i hi => by omega, fun k hk => by simp [blkOf] at hk; omega, fun i hi => by omega, fun i hi => by omega, fun i j hi => by omega⟩

/-- A table of one row. -/
theorem OwnSS.one {p : Option Addr} {m c : Nat} {x : List Int} (ho : Own B w p m c x) (hB : B ≤ w.heap.size) : OwnSS B (w.heap.size + 1) (w.alloc (.cells #[.slice p m c] 22)) (some ⟨w.heap.size, 0, none⟩) 1 1 [x] := by
  have hw := ho.within
  refine ⟨rfl, [(p, m, c)], ⟨by simp, .inr ⟨w.heap.size, 1, #[.slice p m c], rfl, hB, heap_alloc_new w _, Nat.le_refl _, by unfold maxLen; omega, by simp, by simp [rowV]⟩⟩, fun i hi => ?_, fun k hk => ?_, fun i hi => ?_, fun i hi => ?_, fun i j hi hj hne => by omega⟩
  · obtain rfl : i = 0 := by omega
    exact ho.fr ((Fr.refl w).alloc _)
  · simp [blkOf] at hk; omega
  · obtain rfl : i = 0 := by omega
    intro k hk; have := hw k hk; omega
  · obtain rfl : i = 0 := by omega
    intro k hk hk'; have := hw k hk; simp [blkOf] at hk'; omega

/-- What an append of a row to it gives. -/
theorem OwnSS.snoc {p : Option Addr} {m c g' c' : Nat} {x : List Int} {rs : List (Option Addr × Nat × Nat)}
    (h0 : xss.length = n) (h2 : ∀ i, i < n → Own B w (rget rs i).1 (rget rs i).2.1 (rget rs i).2.2 (nthL xss i)) (h4 : ∀ i, i < n → Within (rget rs i).1 B H) (h5 : ∀ i, i < n → Apart (rget rs i).1 a) (h3 : Within a B H)
    (h6 : ∀ i j, i < n → j < n → i ≠ j → Apart (rget rs i).1 (rget rs j).1) (hl : rs.length = n)
    (hr : w'.ownsRow B 22 1 (.slice (some ⟨g', 0, none⟩) (n + 1) c') (n + 1) (rs.map rowV ++ [rowV (p, m, c)])) (hg : w.grownBy w' (blkOf a)) (hnew : blkOf a = some g' ∨ w.heap.size ≤ g') (hH : H ≤ w.heap.size)
    (ho : Own B w p m c x) (hp : Within p H w.heap.size) (hB : B ≤ H) : OwnSS B w'.heap.size w' (some ⟨g', 0, none⟩) (n + 1) c' (xss ++ [x]) := by
  have hsz := hg.size
  have hlt := hr.lt g' (by simp [Value.ownBlock])
  have key : ∀ q : Option Addr, Apart q a → blkOf q = none ∨ blkOf q ≠ blkOf a := by
    intro q hq
    cases hx : blkOf q with
    | none => exact .inl rfl
    | some k => exact .inr fun e => hq k hx e.symm
  have hpa : Apart p a := fun k h1 h7 => by have := hp k h1; have := h3 k h7; omega
  have hrl : ∀ i, i < n → rget (rs ++ [(p, m, c)]) i = rget rs i := fun i hi => by simp [rget, List.getElem?_append_left (hl ▸ hi)]
  have hrn : rget (rs ++ [(p, m, c)]) n = (p, m, c) := by subst hl; simp [rget]
  have hng : ∀ q : Option Addr, Within q B w.heap.size → Apart q a → Apart q (some ⟨g', 0, none⟩) := by
    intro q hq hqa k hk hk'
    simp only [blkOf, Option.map_some, Option.some.injEq] at hk'
    subst hk'
    rcases hnew with e | e
    · exact hqa _ hk e
    · have := hq _ hk; omega
  refine ⟨by simp [h0], rs ++ [(p, m, c)], by simpa using hr, fun i hi => ?_, fun k hk => ?_, fun i hi => ?_, fun i hi => ?_, fun i j hi hj hne => ?_⟩
  · by_cases e : i < n
    · rw [hrl i e, nthL_app_lt (by omega)]
      exact (h2 i e).grown hg (key _ (h5 i e))
    · have : i = n := by omega
      subst this
      rw [hrn]
      have := nthL_app_at xss x
      rw [h0] at this; rw [this]
      exact ho.grown hg (key _ hpa)
  · simp only [blkOf, Option.map_some, Option.some.injEq] at hk; subst hk; omega
  · by_cases e : i < n
    · rw [hrl i e]; intro k hk; have := h4 i e k hk; omega
    · have : i = n := by omega
      subst this
      rw [hrn]; intro k hk; have := hp k hk; omega
  · by_cases e : i < n
    · rw [hrl i e]; exact hng _ (fun k hk => by have := h4 i e k hk; omega) (h5 i e)
    · have : i = n := by omega
      subst this
      rw [hrn]; exact hng _ (fun k hk => by have := hp k hk; omega) hpa
  · by_cases e : i < n
    · rw [hrl i e]
      by_cases e' : j < n
      · rw [hrl j e']; exact h6 i j e e' hne
      · have : j = n := by omega
        subst this
        rw [hrn]; intro k h1 h7; have := h4 i e k h1; have := hp k h7; omega
    · have : i = n := by omega
      subst this
      by_cases e' : j < i
      · rw [hrn, hrl j e']; intro k h1 h7; have := h4 j e' k h7; have := hp k h1; omega
      · omega
end

/-! ### append -/
theorem ap_own {P : Program} (w : World) {ops : Array Oper} {rest : List Oper} {o : Oper} {act : Act} {Q : Exit → Act → World → Prop} (hgd : o.guard = none) (s x : Operand) (t e : TypeId)
    (ho : o.op = .call { callee := .builtin .append, args := #[s, x], argTypes := #[t, t] })
    (i : TypeInfo) (z : Value) (by_ : Nat) (ht : P.underlying t = some (.slice e)) (hi : P.info? e = some i) (hz : i.zero = some z) (hsize : i.size = 1) (hby : i.bytes = by_) (hzs : z.cells.size = 1)
    (B : Nat) (p : Option Addr) (n c : Nat) (xs : List Value) (hs : act.eval s = .slice p n c) (hown : w.ownsRow B e 1 (.slice p n c) n xs)
    (ad : Addr) (m cc : Nat) (news : List Value) (hx : act.eval x = .slice (some ad) m cc) (hl : news.length = m) (hnews : ∀ j u, news[j]? = some u → w.cell? (ad.add j) = some u) (h1 : ∀ u ∈ news, u.oneCell' = true)
    (hm : 0 < m) (h63 : n + m ≤ maxLen) (hbytes : (n + m) * by_ ≤ 140737488355328) (hbase : B ≤ w.heap.size)
    (h : ∀ g c' w', w'.ownsRow B e 1 (.slice (some ⟨g, 0, none⟩) (n + m) c') (n + m) (xs ++ news) → w.grownBy w' (blkOf p) → (blkOf p = some g ∨ w.heap.size ≤ g) → wpList P ops Q rest (act.put o.dst (.slice (some ⟨g, 0, none⟩) (n + m) c')) w') :
    wpList P ops Q (o :: rest) act w := by
  have hfin : ∀ v' w', w'.ownsRow w.heap.size e 1 v' (n + m) (xs ++ news) → w.grownBy w' none → wpList P ops Q rest (act.put o.dst v') w' := by
    intro v' w' r1 r2
    rcases r1.2 with ⟨_, h0⟩ | ⟨g, cap', cur, rfl, h3, _⟩
    · omega
    · refine h g cap' w' (ownsRow_lo r1 hbase) ⟨r2.os, r2.tape, r2.output, r2.size, fun k hk _ => r2.block k hk (by simp)⟩ (.inr h3)
  rcases hown.2 with ⟨h2, h3⟩ | ⟨g, cap, cur, h2, h3, h4, h5, h6, h7, h8⟩
  · simp only [Value.slice.injEq] at h2
    obtain ⟨rfl, rfl, rfl⟩ := h2
    exact wpList_append_grows w hgd s x t ho e i z 1 by_ ht hi hz hsize hby hzs (by omega) none 0 0 xs hs (fun _ => ⟨rfl, rfl⟩) hown.1 (fun b hb => by cases hb) ad m cc news hx (by omega) hnews h1 (by omega) h63 hbytes hfin
  · simp only [Value.slice.injEq] at h2
    obtain ⟨rfl, _, rfl⟩ := h2
    by_cases hroom : n + m ≤ c
    · have hfit : n * i.size + news.length ≤ cur.size := by rw [hsize, hl, h7]; omega
      have hr := run_append_room (P := P) w t o.type e i ht hi g n c cur h4 ad m cc news (by rw [hsize]; omega) hnews h1 hroom hfit
      refine wpList_plain hgd fun K hK => ?_
      unfold Oper.wp
      simp [execOp, ho, resolve, invoke, builtin, hs, hx, hr, Result.andThen]
      refine hK _ _ (h g c _ ⟨?_, .inr ⟨g, c, _, rfl, h3, setRow_heap w g cur _ e _ h4, hroom, h6, ?_, ?_⟩⟩ ⟨rfl, rfl, rfl, by simp, fun k _ hk => setRow_other w g k _ (fun e => hk (by simp [blkOf, e]))⟩ (.inl rfl))
      · rw [List.length_append, hown.1]; omega
      · simp only [List.size_toArray, List.length_append, List.length_take, List.length_drop, Array.length_toList]
        have := hown.1
        simp only [hsize] at *
        omega
      · have hlen : (xs ++ news).length = (n + m) * 1 := by rw [List.length_append, hown.1]; omega
        rw [hsize, h8]
        rw [← List.append_assoc, ← hlen]
        exact List.take_left
    · refine wpList_append_grows w hgd s x t ho e i z 1 by_ ht hi hz hsize hby hzs (by omega) (some ⟨g, 0, none⟩) n c xs hs (fun hb => by cases hb) hown.1 (fun b hb => ?_) ad m cc news hx (by omega) hnews h1 (by omega) h63 hbytes hfin
      obtain rfl : (⟨g, 0, none⟩ : Addr) = b := by simpa using hb
      exact hown.cells (g := g) rfl

theorem infoRow : (Try.prog.info? 22).map (fun i => (i.zero, i.size, i.bytes)) = some (some (.slice none 0 0), 1, 24) := by kernel_rfl

/-- append of one integer to a slice of the call's own. -/
theorem ap_int (W : World) {ops : Array Oper} {rest : List Oper} {o : Oper} {act : Act} {Q : Exit → Act → World → Prop} (hgd : o.guard = none) (s x : Operand)
    (ho : o.op = .call { callee := .builtin .append, args := #[s, x], argTypes := #[22, 22] }) (B : Nat) (p : Option Addr) (n c : Nat) (xs : List Int) (z : Int)
    (hs : act.eval s = .slice p n c) (hx : act.eval x = .slice (some ⟨W.heap.size, 0, none⟩) 1 1) (hown : Own B W p n c xs) (hB : B ≤ W.heap.size) (hz : I64 z) (hn : n ≤ 1048576)
    (h : ∀ g c' w', Own B w' (some ⟨g, 0, none⟩) (n + 1) c' (xs ++ [z]) → W.grownBy w' (blkOf p) → (blkOf p = some g ∨ W.heap.size ≤ g) → wpList Try.prog ops Q rest (act.put o.dst (.slice (some ⟨g, 0, none⟩) (n + 1) c')) w') :
    wpList Try.prog ops Q (o :: rest) act (W.alloc (.cells #[.int .i64 z] 3)) := by
  obtain ⟨i0, hi, hz0, hz1, hz2⟩ := info_parts infoInt
  refine ap_own _ hgd s x 22 3 ho i0 (.int .i64 0) 8 Try.underlying22 hi hz0 hz1 hz2 rfl B p n c _ hs (hown.row.alloc _) ⟨W.heap.size, 0, none⟩ 1 1 [.int .i64 z] hx rfl ?_ ?_ (by omega) (by unfold maxLen; omega) (by omega) (by simp; omega) ?_
  · intro j u hu
    have hj : j = 0 := by
      rcases j with _ | j
      · rfl
      · simp at hu
    subst hj
    have hadd : (⟨W.heap.size, 0, none⟩ : Addr).add 0 = ⟨W.heap.size, 0, none⟩ := by simp [Addr.add]
    rw [hadd, cell_of_row _ W.heap.size 0 #[.int .i64 z] 3 (0, 0) (heap_alloc_new W _)]
    simpa using hu
  · intro u hu; simp at hu; subst hu; rfl
  · intro g c' w' h1 h2 h3
    have hg : W.grownBy w' (blkOf p) := grownBy_trans (World.grownBy_alloc W _ _) h2
    refine h g c' w' ⟨by simpa using h1, ?_⟩ hg ?_
    · intro y hy
      rcases List.mem_append.1 hy with hy | hy
      · exact hown.rng y hy
      · simp at hy; subst hy; exact hz
    · rcases h3 with h3 | h3
      · exact .inl h3
      · right; simp at h3; omega

/-- append of all of a list that is read to a slice of the call's own. -/
theorem ap_cat (w : World) {ops : Array Oper} {rest : List Oper} {o : Oper} {act : Act} {Q : Exit → Act → World → Prop} (hgd : o.guard = none) (s x : Operand)
    (ho : o.op = .call { callee := .builtin .append, args := #[s, x], argTypes := #[22, 22] }) (B : Nat) (p : Option Addr) (n c : Nat) (xs : List Int) (q : Option Addr) (m d : Nat) (ys : List Int)
    (hs : act.eval s = .slice p n c) (hx : act.eval x = .slice q m d) (hown : Own B w p n c xs) (hB : B ≤ w.heap.size) (hq : SL w q m d ys) (hm : 0 < m) (hn : n + m ≤ 1048576)
    (h : ∀ g c' w', Own B w' (some ⟨g, 0, none⟩) (n + m) c' (xs ++ ys) → w.grownBy w' (blkOf p) → (blkOf p = some g ∨ w.heap.size ≤ g) → wpList Try.prog ops Q rest (act.put o.dst (.slice (some ⟨g, 0, none⟩) (n + m) c')) w') :
    wpList Try.prog ops Q (o :: rest) act w := by
  obtain ⟨i0, hi, hz0, hz1, hz2⟩ := info_parts infoInt
  obtain ⟨b, off, rfl, hc⟩ := hq.cells.resolve_left (by omega)
  have hl := hq.len
  refine ap_own _ hgd s x 22 3 ho i0 (.int .i64 0) 8 Try.underlying22 hi hz0 hz1 hz2 rfl B p n c _ hs hown.row ⟨b, off, none⟩ m d (ys.map (Value.int .i64)) hx (by simpa using hl) ?_ ?_ hm (by unfold maxLen; omega) (by omega) hB ?_
  · intro j u hu
    have hj : j < ys.length := by
      rcases Nat.lt_or_ge j ys.length with hlt | hge
      · exact hlt
      · simp [hge] at hu
    rw [addr_add, hc j (by omega), nth_eq hj]
    simpa [hj] using hu
  · intro u hu
    obtain ⟨y, _, rfl⟩ := List.mem_map.1 hu
    rfl
  · intro g c' w' h1 h2 h3
    refine h g c' w' ⟨by simpa using h1, ?_⟩ h2 h3
    intro y hy
    rcases List.mem_append.1 hy with hy | hy
    · exact hown.rng y hy
    · exact hq.rng y hy

/-- append of a row to a table of the call's own. -/
theorem ap_row (W : World) {ops : Array Oper} {rest : List Oper} {o : Oper} {act : Act} {Q : Exit → Act → World → Prop} (hgd : o.guard = none) (s x : Operand)
    (ho : o.op = .call { callee := .builtin .append, args := #[s, x], argTypes := #[27, 27] }) (B H : Nat) (a : Option Addr) (n cap : Nat) (xss : List (List Int)) (p : Option Addr) (m c : Nat) (r : List Int)
    (hs : act.eval s = .slice a n cap) (hx : act.eval x = .slice (some ⟨W.heap.size, 0, none⟩) 1 1) (hown : OwnSS B H W a n cap xss) (hB : B ≤ H) (hH : H ≤ W.heap.size) (hr : Own B W p m c r) (hp : Within p H W.heap.size) (hn : n ≤ 1048576)
    (h : ∀ g c' w', OwnSS B w'.heap.size w' (some ⟨g, 0, none⟩) (n + 1) c' (xss ++ [r]) → W.grownBy w' (blkOf a) → (blkOf a = some g ∨ W.heap.size ≤ g) → wpList Try.prog ops Q rest (act.put o.dst (.slice (some ⟨g, 0, none⟩) (n + 1) c')) w') :
    wpList Try.prog ops Q (o :: rest) act (W.alloc (.cells #[.slice p m c] 22)) := by
  obtain ⟨i0, hi, hz0, hz1, hz2⟩ := info_parts infoRow
  obtain ⟨h0, rs, h1, h2, h3, h4, h5, h6⟩ := hown
  have hl : rs.length = n := by simpa using h1.1
  refine ap_own _ hgd s x 27 22 ho i0 (.slice none 0 0) 24 Try.underlying27 hi hz0 hz1 hz2 rfl B a n cap _ hs (h1.alloc _) ⟨W.heap.size, 0, none⟩ 1 1 [.slice p m c] hx rfl ?_ ?_ (by omega) (by unfold maxLen; omega) (by omega) (by simp; omega) ?_
  · intro j u hu
    have hj : j = 0 := by
      rcases j with _ | j
      · rfl
      · simp at hu
    subst hj
    have hadd : (⟨W.heap.size, 0, none⟩ : Addr).add 0 = ⟨W.heap.size, 0, none⟩ := by simp [Addr.add]
    rw [hadd, cell_of_row _ W.heap.size 0 #[.slice p m c] 22 (0, 0) (heap_alloc_new W _)]
    simpa using hu
  · intro u hu; simp at hu; subst hu; rfl
  · intro g c' w' k1 k2 k3
    have hg : W.grownBy w' (blkOf a) := grownBy_trans (World.grownBy_alloc W _ _) k2
    have hnew : blkOf a = some g ∨ W.heap.size ≤ g := by
      rcases k3 with k3 | k3
      · exact .inl k3
      · right; simp at k3; omega
    exact h g c' w' (OwnSS.snoc h0 h2 h4 h5 h3 h6 hl k1 hg hnew hH hr hp hB) hg hnew

/-- append of a row to a table of the call's own; the size of memory under a name. -/
theorem ap_rowN (W : World) (N : Nat) (hN : W.heap.size = N) {ops : Array Oper} {rest : List Oper} {o : Oper} {act : Act} {Q : Exit → Act → World → Prop} (hgd : o.guard = none) (s x : Operand)
    (ho : o.op = .call { callee := .builtin .append, args := #[s, x], argTypes := #[27, 27] }) (B H : Nat) (a : Option Addr) (n cap : Nat) (xss : List (List Int)) (p : Option Addr) (m c : Nat) (r : List Int)
    (hs : act.eval s = .slice a n cap) (hx : act.eval x = .slice (some ⟨N, 0, none⟩) 1 1) (hown : OwnSS B H W a n cap xss) (hB : B ≤ H) (hH : H ≤ W.heap.size) (hr : Own B W p m c r) (hp : Within p H W.heap.size) (hn : n ≤ 1048576)
    (h : ∀ g c' w', OwnSS B w'.heap.size w' (some ⟨g, 0, none⟩) (n + 1) c' (xss ++ [r]) → W.grownBy w' (blkOf a) → (blkOf a = some g ∨ W.heap.size ≤ g) → wpList Try.prog ops Q rest (act.put o.dst (.slice (some ⟨g, 0, none⟩) (n + 1) c')) w') :
    wpList Try.prog ops Q (o :: rest) act (W.alloc (.cells #[.slice p m c] 22)) := by
  subst hN
  exact ap_row W hgd s x ho B H a n cap xss p m c r hs hx hown hB hH hr hp hn h

/-- Results: a new table; a new table and a bool. -/
def tot (xss : List (List Int)) : Nat := (xss.map List.length).sum
def RetSS (xss : List (List Int)) (w : World) (e : Ending) (w' : World) : Prop := ∃ a n cap, e = .returned (.slice a n cap) ∧ OwnSS w.heap.size w'.heap.size w' a n cap xss ∧ Fr w w' ∧ tot xss ≤ 1048576 ∧ n ≤ 1048576
def RetSSB (xss : List (List Int)) (b : Bool) (w : World) (e : Ending) (w' : World) : Prop := ∃ a n cap, e = .returned (.tuple #[.slice a n cap, .bool b]) ∧ OwnSS w.heap.size w'.heap.size w' a n cap xss ∧ Fr w w' ∧ tot xss ≤ 1048576 ∧ n ≤ 1048576

end Go.Proofs.Ytboekndojgbkfaa
