import Derived.Test.YtojipjjfndgbhaaDealAll2
/- Houses of the call's own in a range of blocks: what the laws' helpers do to them. -/
set_option linter.unusedVariables false
namespace Go.Proofs.Ytojipjjfndgbhaa
open Go.ChangeShapes Go.WideShapes Go.ChangeAt Go.RowKit

/-- A house whose slices lie from lo on and below hi. -/
structure HIn (lo hi : Nat) (w : World) (p : Option Addr) (n c : Nat) (q : Option Addr) (m d : Nat) (a : Option Addr) (l b : Nat) (P W X : List Int) : Prop where
  own : ∃ M N, lo ≤ M ∧ M ≤ N ∧ N ≤ hi ∧ hi ≤ w.heap.size ∧ Own lo w p n c P ∧ Own M w q m d W ∧ Own N w a l b X ∧ Within p lo M ∧ Within q M N ∧ Within a N hi
  le : n ≤ 1048576 ∧ m ≤ 1048576 ∧ l ≤ 1048576
section
variable {lo hi : Nat} {w w' : World} {p : Option Addr} {n c : Nat} {q : Option Addr} {m d : Nat} {a : Option Addr} {l b : Nat} {P W X : List Int}
theorem HIn.fr (h : HIn lo hi w p n c q m d a l b P W X) (f : Fr w w') : HIn lo hi w' p n c q m d a l b P W X := by
  obtain ⟨⟨M, N, h1, h2, h3, h4, o1, o2, o3, i⟩, hl⟩ := h
  exact ⟨⟨M, N, h1, h2, h3, by have := f.size; omega, o1.fr f, o2.fr f, o3.fr f, i⟩, hl⟩
theorem HIn.skip {lo' hi' : Nat} (h : HIn lo hi w p n c q m d a l b P W X) (g : GrownIn lo' hi' w w') (hd : hi ≤ lo' ∨ hi' ≤ lo) : HIn lo hi w' p n c q m d a l b P W X := by
  obtain ⟨⟨M, N, h1, h2, h3, h4, o1, o2, o3, i1, i2, i3⟩, hl⟩ := h
  exact ⟨⟨M, N, h1, h2, h3, by have := g.size; omega, o1.skipSS g i1 (by omega), o2.skipSS g i2 (by omega), o3.skipSS g i3 (by omega), i1, i2, i3⟩, hl⟩
theorem HIn.sl1 (h : HIn lo hi w p n c q m d a l b P W X) : SL w p n c P := by obtain ⟨⟨M, N, h1, h2, h3, h4, o1, o2, o3, i⟩, hl⟩ := h; exact o1.sl
theorem HIn.sl2 (h : HIn lo hi w p n c q m d a l b P W X) : SL w q m d W := by obtain ⟨⟨M, N, h1, h2, h3, h4, o1, o2, o3, i⟩, hl⟩ := h; exact o2.sl
theorem HIn.sl3 (h : HIn lo hi w p n c q m d a l b P W X) : SL w a l b X := by obtain ⟨⟨M, N, h1, h2, h3, h4, o1, o2, o3, i⟩, hl⟩ := h; exact o3.sl
theorem HIn.lt (h : HIn lo hi w p n c q m d a l b P W X) : lo ≤ hi ∧ hi ≤ w.heap.size := by obtain ⟨⟨M, N, h1, h2, h3, h4, _⟩, hl⟩ := h; omega
end
theorem OwnD.skipIn {B lo hi lo' hi' : Nat} {w w' : World} {a : Option Addr} {n cap : Nat} {xs : List D3} (h : OwnD B w a n cap xs) (g : GrownIn lo' hi' w w') (ha : Within a lo hi) (hd : hi ≤ lo' ∨ hi' ≤ lo) : OwnD B w' a n cap xs := by
  refine ⟨⟨h.row.1, ?_⟩, h.rng⟩
  rcases h.row.2 with h2 | ⟨b, cap', cur, h2, h3, h4, h5⟩
  · exact .inl h2
  · refine .inr ⟨b, cap', cur, h2, h3, ?_, h5⟩
    simp only [Value.slice.injEq] at h2
    have := ha b (by rw [h2.1]; rfl)
    rw [g.block b (Array.getElem?_eq_some_iff.1 h4).1 (by omega)]; exact h4
theorem toHouse_in (w : World) (p q a : Option Addr) (n c m d l b : Nat) (P W X : List Int) (x s u v : Int) (hP : SL w p n c P) (hW : SL w q m d W) (hX : SL w a l b X) (hn : n ≤ 1048576) (hm : m ≤ 1048576) (hl : l ≤ 1048576) :
    Calls Try.prog 17 #[.agg #[.slice p n c, .slice q m d, .slice a l b, .int .i64 x, .int .i64 s, .int .i64 u, .int .i64 v]] w fun e w' => ∃ (p' : Option Addr) (n' c' : Nat) (q' : Option Addr) (m' d' : Nat) (a' : Option Addr) (l' b' : Nat),
      e = .returned (.agg #[.slice p' n' c', .slice q' m' d', .slice a' l' b', .int .i64 x, .int .i64 s, .int .i64 u, .int .i64 v]) ∧ HIn w.heap.size w'.heap.size w' p' n' c' q' m' d' a' l' b' P W X ∧ Fr w w' := by
  refine (toHouse_any w p q a n c m d l b P W X x s u v hP hW hX hn hm hl).mono ?_
  rintro e w' ⟨p0, n0, c0, q0, m0, d0, a0, l0, b0, M, N, rfl, o1, o2, o3, W1, W2, y1, y2, y3, f, x1, x2, x3⟩
  exact ⟨p0, n0, c0, q0, m0, d0, a0, l0, b0, rfl, ⟨⟨M, N, y1, y2, y3, Nat.le_refl _, o1, o2, o3, W1, W2, o3.within⟩, x1, x2, x3⟩, f⟩
theorem RetHIB.hin {h : HSt} {i : Nat} {bb : Bool} {w : World} {e : Ending} {w' : World} (H : RetHIB h i bb w e w') : ∃ (p' : Option Addr) (n' c' : Nat) (q' : Option Addr) (m' d' : Nat) (a' : Option Addr) (l' b' : Nat),
    e = .returned (.tuple #[.agg #[.slice p' n' c', .slice q' m' d', .slice a' l' b', .int .i64 h.t, .int .i64 h.s, .int .i64 h.u, .int .i64 h.v], .int .i64 i, .bool bb]) ∧ HIn w.heap.size w'.heap.size w' p' n' c' q' m' d' a' l' b' h.P h.W h.X ∧ Fr w w' := by
  obtain ⟨p0, n0, c0, q0, m0, d0, a0, l0, b0, M, N, rfl, o1, o2, o3, W1, W2, y1, y2, y3, f, x1, x2, x3⟩ := H
  exact ⟨p0, n0, c0, q0, m0, d0, a0, l0, b0, rfl, ⟨⟨M, N, y1, y2, y3, Nat.le_refl _, o1, o2, o3, W1, W2, o3.within⟩, x1, x2, x3⟩, f⟩
theorem markHouse_in (lo hi : Nat) (w : World) (p q a : Option Addr) (n c m d l b : Nat) (P W X : List Int) (x s u v : Int) (h : HIn lo hi w p n c q m d a l b P W X) :
    Calls Try.prog 29 #[.agg #[.slice p n c, .slice q m d, .slice a l b, .int .i64 x, .int .i64 s, .int .i64 u, .int .i64 v], .int .i64 1] w fun e w' => e = .returned (.int .i64 (1 + n + m + l)) ∧ HIn lo hi w' p n c q m d a l b (marks 1 n) (marks (1 + n) m) (marks (1 + n + m) l) ∧ GrownIn lo hi w w' := by
  obtain ⟨⟨M, N, h1, h2, h3, h4, o1, o2, o3, i1, i2, i3⟩, e1, e2, e3⟩ := h
  refine (markHouse_any lo M N hi w p q a n c m d l b P W X x s u v 1 o1 o2 o3 i1 i2 i3 h1 h2 h3 h4 (by omega) (by omega) e1 e2 e3).mono ?_
  rintro e w' ⟨rfl, o4, o5, o6, g⟩
  exact ⟨rfl, ⟨⟨M, N, h1, h2, h3, by have := g.size; omega, o4, o5, o6, i1, i2, i3⟩, e1, e2, e3⟩, g⟩
theorem heldHouse_in (lo hi : Nat) (w : World) (p q a : Option Addr) (n c m d l b : Nat) (x s u v : Int) (h : HIn lo hi w p n c q m d a l b (marks 1 n) (marks (1 + n) m) (marks (1 + n + m) l)) :
    Calls Try.prog 30 #[.agg #[.slice p n c, .slice q m d, .slice a l b, .int .i64 x, .int .i64 s, .int .i64 u, .int .i64 v], .int .i64 1] w fun e w' => e = .returned (.int .i64 (1 + n + m + l)) ∧ Fr w w' :=
  heldHouse_any w p q a n c m d l b x s u v 1 h.sl1 h.sl2 h.sl3 (by omega) (by omega) h.le.1 h.le.2.1 h.le.2.2
theorem eqHouse_in {lo hi lo' hi' : Nat} (w : World) (p q a p' q' a' : Option Addr) (n c m d l b n' c' m' d' l' b' : Nat) (P W X : List Int) (x s u v : Int) (h : HIn lo hi w p n c q m d a l b P W X) (h' : HIn lo' hi' w p' n' c' q' m' d' a' l' b' P W X) :
    Calls Try.prog 19 #[.agg #[.slice p n c, .slice q m d, .slice a l b, .int .i64 x, .int .i64 s, .int .i64 u, .int .i64 v], .agg #[.slice p' n' c', .slice q' m' d', .slice a' l' b', .int .i64 x, .int .i64 s, .int .i64 u, .int .i64 v]] w fun e w' => e = .returned (.bool true) ∧ Fr w w' :=
  eqHouse_same w p q a p' q' a' n c m d l b n' c' m' d' l' b' P W X x s u v h.sl1 h.sl2 h.sl3 h'.sl1 h'.sl2 h'.sl3
end Go.Proofs.Ytojipjjfndgbhaa
