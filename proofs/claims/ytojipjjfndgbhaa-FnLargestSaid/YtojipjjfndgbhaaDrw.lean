import Derived.Test.YtojipjjfndgbhaaCur
/- Draws from literals, and what a draw leaves as it was. -/
set_option linter.unusedVariables false
namespace Go.Proofs.Ytojipjjfndgbhaa
open Go.ChangeShapes Go.WideShapes Go.ChangeAt Go.RowKit

/-- Between two worlds of a draw the cursor in block g has gone on, and all else that was there stands. -/
structure Dr (g A : Nat) (w w' : World) : Prop where
  cur : Cur g A w'
  grow : w.grownBy w' (some g)
section
variable {g A : Nat} {w w' w'' : World}
theorem Dr.refl (h : Cur g A w) : Dr g A w w := ⟨h, grownBy_refl _ _⟩
theorem Dr.mono {A' : Nat} (h : Dr g A w w') (hA : A ≤ A') : Dr g A' w w' := ⟨h.cur.mono hA, h.grow⟩
theorem Dr.fr (h : Dr g A w w') (f : Fr w' w'') : Dr g A w w'' := ⟨h.cur.fr f, grown_fr h.grow f⟩
theorem Dr.alloc (h : Dr g A w w') (o : Obj) : Dr g A w (w'.alloc o) := h.fr ((Fr.refl _).alloc _)
theorem Dr.drewN (h : Dr g A w w') (m : Nat) : Dr g A w (w'.drewN m) := h.fr (Fr.drewN _ _)
theorem Dr.trans {A' : Nat} (h : Dr g A w w') (k : Dr g A' w' w'') : Dr g A' w w'' := ⟨k.cur, grownBy_trans h.grow k.grow⟩
theorem Dr.size (h : Dr g A w w') : w.heap.size ≤ w'.heap.size := h.grow.size
theorem Dr.lt (h : Dr g A w w') : g < w'.heap.size := h.cur.lt
theorem Dr.set (h : Dr g A w w') {q : Addr} (hq : w.heap.size ≤ q.block) (hg : g < w.heap.size) (v : Value) : Dr g A w (w'.setCell q v) :=
  ⟨h.cur.setCell (Nat.lt_of_lt_of_le hg hq) v, grown_set h.grow hq v⟩
theorem Dr.sl {p : Option Addr} {n c : Nat} {xs : List Int} (h : Dr g A w w') (s : SL w p n c xs) (hp : ∀ k, blkOf p = some k → k ≠ g) : SL w' p n c xs := s.grown h.grow (by
  cases e : blkOf p with
  | none => exact .inl rfl
  | some k => exact .inr (fun e2 => hp k e (by cases e2; rfl)))
theorem Dr.own {B : Nat} {p : Option Addr} {n c : Nat} {xs : List Int} (h : Dr g A w w') (s : Own B w p n c xs) (hB : g < B) : Own B w' p n c xs := s.grown h.grow (by
  cases e : blkOf p with
  | none => exact .inl rfl
  | some k => exact .inr (fun e2 => by have := (s.blk k e).1; cases e2; omega))
end
/-- The draw's end: the cursor was made in the call. -/
theorem Dr.ends {g A : Nat} {w w' : World} {o : Obj} (h : Dr g A (w.alloc o) w') (hg : g = w.heap.size) : Fr w w' :=
  ((Fr.refl w).alloc o).grown h.grow (fun k e => by cases e; omega)
theorem next_dr {g A : Nat} {w0 : World} (w : World) (h : Dr g A w0 w) (hA : A ≤ 1000000000000000) :
    Calls Try.prog 137 #[.pointer (some ⟨g, 0, none⟩)] w fun e w' => ∃ r : Int, e = .returned (.int .i64 r) ∧ (0 ≤ r ∧ r ≤ 255) ∧ Dr g (A + 1) w0 w' ∧ Dr g (A + 1) w w' := by
  refine (next_any g A w h.cur hA).mono ?_
  rintro e w' ⟨r, rfl, h0, h1, hC, gg⟩
  exact ⟨r, rfl, ⟨h0, h1⟩, ⟨hC, grownBy_trans h.grow gg⟩, ⟨hC, gg⟩⟩
theorem pick_dr {g A : Nat} {w0 : World} (w : World) (n : Int) (h : Dr g A w0 w) (hA : A ≤ 1000000000000) (hn : I64 n) :
    Calls Try.prog 105 #[.pointer (some ⟨g, 0, none⟩), .int .i64 n] w fun e w' => ∃ r : Int, e = .returned (.int .i64 r) ∧ (0 ≤ r ∧ (r < n ∨ r = 0)) ∧ Dr g (A + 2) w0 w' ∧ Dr g (A + 2) w w' := by
  refine (pick_any g A n w h.cur hA hn).mono ?_
  rintro e w' ⟨r, rfl, h0, h1, hC, gg⟩
  exact ⟨r, rfl, ⟨h0, h1⟩, ⟨hC, grownBy_trans h.grow gg⟩, ⟨hC, gg⟩⟩
theorem one_dr {g A : Nat} {w0 : World} (w : World) (n : Int) (h : Dr g A w0 w) (hA : A ≤ 1000000000000) (hn : I64 n) :
    Calls Try.prog 98 #[.pointer (some ⟨g, 0, none⟩), .int .i64 n] w fun e w' => ∃ b : Bool, e = .returned (.bool b) ∧ Dr g (A + 2) w0 w' ∧ Dr g (A + 2) w w' := by
  refine (one_any g A n w h.cur hA hn).mono ?_
  rintro e w' ⟨r, rfl, hC, gg⟩
  exact ⟨r, rfl, ⟨hC, grownBy_trans h.grow gg⟩, ⟨hC, gg⟩⟩
/-- One of the numbers of a literal. -/
theorem among_dr {g A : Nat} {w0 : World} (V : World) (lo hi : Int) (L : List Int) (cs : Array Value) (b n c : Nat) (h : Dr g A w0 V) (hA : A ≤ 1000000000000) (hcs : cs = (L.map (Value.int .i64)).toArray) (hn : n = L.length) (hn0 : 0 < L.length) (hn2 : L.length ≤ 1000) (hb : b = V.heap.size)
    (hq : (L.all fun x => decide (lo ≤ x) && decide (x ≤ hi)) = true) :
    Calls Try.prog 96 #[.pointer (some ⟨g, 0, none⟩), .slice (some ⟨b, 0, none⟩) n c] (V.alloc (.cells cs 3)) fun e w' => ∃ x : Int, e = .returned (.int .i64 x) ∧ (lo ≤ x ∧ x ≤ hi) ∧ Dr g (A + 2) w0 w' ∧ Dr g (A + 2) V w' := by
  subst hcs; subst hn; subst hb
  have hlt := h.cur.lt
  have f := (Fr.refl V).alloc (.cells (L.map (Value.int .i64)).toArray 3)
  refine (among_any g A V.heap.size L.length c (fun x => lo ≤ x ∧ x ≤ hi) _ (h.cur.fr f) hA hn0 (by omega) (by omega) (fun i hi => ?_)).mono ?_
  · refine ⟨L[i], ?_, ?_⟩
    · rw [cell_of_row _ _ _ _ _ _ (heap_alloc_new _ _)]; simp [hi]
    · have := List.all_eq_true.1 hq L[i] (List.getElem_mem hi)
      simpa using this
  · rintro e w' ⟨x, rfl, hx, hC, gg⟩
    have g2 := grownBy_trans (f.grownBy (some g)) gg
    exact ⟨x, rfl, hx, ⟨hC, grownBy_trans h.grow g2⟩, ⟨hC, g2⟩⟩
/-- The cursor's start. -/
theorem Dr.start {w : World} {p : Option Addr} {n c : Nat} {zs : List Int} (h : SLB w p n c zs) : Dr w.heap.size 0 (w.alloc (.cells #[.slice p n c, .int .i64 0, .int .u64 0] 110)) (w.alloc (.cells #[.slice p n c, .int .i64 0, .int .u64 0] 110)) := Dr.refl (Cur.start h)
theorem I64.small {x lo hi : Int} (h : lo ≤ x ∧ x ≤ hi) (h0 : -9223372036854775808 ≤ lo) (h1 : hi ≤ 9223372036854775807) : I64 x := by unfold I64; omega
end Go.Proofs.Ytojipjjfndgbhaa
