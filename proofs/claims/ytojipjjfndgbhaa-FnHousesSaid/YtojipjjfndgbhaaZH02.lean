import Derived.Test.YtojipjjfndgbhaaZH01
import Derived.BigQuiet
import Derived.Deep.QuietTactic
import Derived.Laws.BitsAllLaws
import Derived.Deep.LoopGhost
import Derived.Laws.OwnMore
/- The reference's cursor over bytes: what it reads, picks. -/
set_option linter.unusedVariables false
namespace Go.Proofs.Ytojipjjfndgbhaa
open Go.ChangeShapes Go.WideShapes Go.ChangeAt Go.RowKit

/-- A slice of bytes reads as a list. -/
structure SLB (w : World) (a : Option Addr) (n cap : Nat) (xs : List Int) : Prop where
  len : xs.length = n
  le : n ≤ cap
  mx : cap ≤ 9223372036854775807
  rng : ∀ x ∈ xs, 0 ≤ x ∧ x ≤ 255
  nil : a = none → n = 0 ∧ cap = 0
  cells : n = 0 ∨ ∃ b off, a = some ⟨b, off, none⟩ ∧ ∀ i, i < n → w.cell? ⟨b, off + i, none⟩ = some (.int .u8 (nth xs i))
theorem SLB.of_nil (w : World) : SLB w none 0 0 [] := ⟨rfl, Nat.le_refl _, by omega, by simp, fun _ => ⟨rfl, rfl⟩, .inl rfl⟩
theorem SLB.of_open {w : World} {x : Addr} {len cap : Nat} {zs : List Int} (hl : len ≤ cap) (hm : cap ≤ maxLen) (hz : zs.length = cap)
    (hc : ∀ i, i < zs.length → w.cell? (x.add i) = some (.int .u8 (zs.getD i 0))) (hw : ∀ n ∈ zs, (Lit.int .u8 n).wf = true) : SLB w (some x) len cap (zs.take len) := by
  refine ⟨by simp; omega, hl, by unfold maxLen at hm; omega, fun y hy => ?_, fun h => (by cases h), ?_⟩
  · have := bounds_u8 (hw y (List.mem_of_mem_take hy)); omega
  · by_cases h0 : len = 0
    · exact .inl h0
    · obtain ⟨b, off, spot⟩ := x
      have hspot : spot = none := by
        have := World.cell?_spot (hc 0 (by omega))
        simpa [Addr.add] using this
      subst hspot
      refine .inr ⟨b, off, rfl, fun i hi => ?_⟩
      have := hc i (by omega)
      rw [addr_add] at this
      rw [this]
      simp [nth, hi]
theorem SLB.grown {w w' : World} {a : Option Addr} {n cap : Nat} {xs : List Int} {row : Option Nat} (h : SLB w a n cap xs) (g : w.grownBy w' row) (hne : n = 0 ∨ blkOf a = none ∨ blkOf a ≠ row) : SLB w' a n cap xs := by
  obtain ⟨h1, h2, h3, h4, h6, h5⟩ := h
  refine ⟨h1, h2, h3, h4, h6, ?_⟩
  rcases h5 with h5 | ⟨b, off, rfl, hc⟩
  · exact .inl h5
  · by_cases h0 : n = 0
    · exact .inl h0
    · exact .inr ⟨b, off, rfl, fun i hi => g.cell (hc i hi) (by have := hne.resolve_left h0; simpa [blkOf] using this)⟩
theorem SLB.fr {w w' : World} {a : Option Addr} {n cap : Nat} {xs : List Int} (h : SLB w a n cap xs) (f : Fr w w') : SLB w' a n cap xs := by
  obtain ⟨h1, h2, h3, h4, h6, h5⟩ := h
  refine ⟨h1, h2, h3, h4, h6, ?_⟩
  rcases h5 with h5 | ⟨b, off, rfl, hc⟩
  · exact .inl h5
  · exact .inr ⟨b, off, rfl, fun i hi => f.keep (hc i hi)⟩

theorem SLB.blkLt {w : World} {a : Option Addr} {n cap : Nat} {xs : List Int} (h : SLB w a n cap xs) : n = 0 ∨ ∀ k, blkOf a = some k → k < w.heap.size := by
  rcases h.cells with h0 | ⟨b, off, rfl, hc⟩
  · exact .inl h0
  · by_cases h0 : n = 0
    · exact .inl h0
    · exact .inr (fun k hk => by cases hk; exact World.block_lt_of_cell? w _ (hc 0 (by omega)))
/-- The cursor lies in block g; it stands no further than A. -/
def Cur (g A : Nat) (w : World) : Prop := ∃ (p : Option Addr) (n c : Nat) (zs : List Int) (i : Nat) (z : Int), w.heap[g]? = some (.cells #[.slice p n c, .int .i64 i, .int .u64 z] 110 (0, 0)) ∧
  SLB w p n c zs ∧ (n = 0 ∨ ∀ k, blkOf p = some k → k < g) ∧ i ≤ A ∧ 0 ≤ z ∧ z ≤ 18446744073709551615
theorem Cur.lt {g A : Nat} {w : World} (h : Cur g A w) : g < w.heap.size := by
  obtain ⟨p, n, c, zs, i, z, h, _⟩ := h; exact (Array.getElem?_eq_some_iff.1 h).1
theorem Cur.mono {g A A' : Nat} {w : World} (h : Cur g A w) (hA : A ≤ A') : Cur g A' w := by
  obtain ⟨p, n, c, zs, i, z, h1, h2, h3, h4, h5⟩ := h; exact ⟨p, n, c, zs, i, z, h1, h2, h3, by omega, h5⟩
theorem Cur.grown {g A : Nat} {w w' : World} {row : Option Nat} (h : Cur g A w) (hg : w.grownBy w' row) (hr : ∀ k, row = some k → g < k) : Cur g A w' := by
  have hlt := h.lt
  obtain ⟨p, n, c, zs, i, z, h1, h2, h3, h4, h5⟩ := h
  have hne : row ≠ some g := fun e => by have := hr g e; omega
  refine ⟨p, n, c, zs, i, z, by rw [hg.block g hlt (Ne.symm hne)]; exact h1, h2.grown hg ?_, h3, h4, h5⟩
  rcases h3 with h0 | h3
  · exact .inl h0
  · right
    cases e : blkOf p with
    | none => exact .inl rfl
    | some k => exact .inr (fun e2 => by have := h3 k e; have := hr k e2.symm; omega)
theorem Cur.fr {g A : Nat} {w w' : World} (h : Cur g A w) (f : Fr w w') : Cur g A w' := h.grown (f.grownBy none) (fun _ e => by cases e)
theorem Cur.setCell {g A : Nat} {w : World} (h : Cur g A w) {q : Addr} (hq : g < q.block) (v : Value) : Cur g A (w.setCell q v) :=
  h.grown (grownBy_setCell (grownBy_refl w (some q.block)) rfl v) (fun k e => by cases e; exact hq)
theorem Cur.start {w : World} {p : Option Addr} {n c : Nat} {zs : List Int} (h : SLB w p n c zs) : Cur w.heap.size 0 (w.alloc (.cells #[.slice p n c, .int .i64 0, .int .u64 0] 110)) :=
  ⟨p, n, c, zs, 0, 0, heap_alloc_new w _, h.fr ((Fr.refl w).alloc _), h.blkLt, Nat.le_refl _, by omega, by omega⟩

theorem grown_drew {w w' : World} {row : Option Nat} (h : w.grownBy w' row) (m : Nat) : w.grownBy (w'.drewN m) row := grownBy_drewN h m
theorem cur_next {g A : Nat} {w : World} {p : Option Addr} {n c : Nat} {zs : List Int} {i : Nat} {z : Int} (h1 : w.heap[g]? = some (.cells #[.slice p n c, .int .i64 i, .int .u64 z] 110 (0, 0))) (h2 : SLB w p n c zs) (h3 : n = 0 ∨ ∀ k, blkOf p = some k → k < g) (h4 : i ≤ A) (m1 m2 : Nat) (z' : Int) (hz : 0 ≤ z' ∧ z' ≤ 18446744073709551615) :
    Cur g (A + 1) ((((w.drewN m1).setCell ⟨g, 1, none⟩ (.int .i64 ((i : Int) + 1))).setCell ⟨g, 2, none⟩ (.int .u64 z')).drewN m2) ∧ w.grownBy ((((w.drewN m1).setCell ⟨g, 1, none⟩ (.int .i64 ((i : Int) + 1))).setCell ⟨g, 2, none⟩ (.int .u64 z')).drewN m2) (some g) := by
  have hg : w.grownBy ((((w.drewN m1).setCell ⟨g, 1, none⟩ (.int .i64 ((i : Int) + 1))).setCell ⟨g, 2, none⟩ (.int .u64 z')).drewN m2) (some g) :=
    grownBy_drewN (grownBy_setCell (grownBy_setCell (grownBy_drewN (grownBy_refl w (some g)) m1) (p := ⟨g, 1, none⟩) rfl _) (p := ⟨g, 2, none⟩) rfl _) m2
  refine ⟨⟨p, n, c, zs, i + 1, z', ?_, h2.grown hg ?_, h3, by omega, hz⟩, hg⟩
  · have e : ((((w.drewN m1).setCell ⟨g, 1, none⟩ (.int .i64 ((i : Int) + 1))).setCell ⟨g, 2, none⟩ (.int .u64 z')).drewN m2).heap = (((w.setCell ⟨g, 1, none⟩ (.int .i64 ((i : Int) + 1))).setCell ⟨g, 2, none⟩ (.int .u64 z'))).heap := rfl
    rw [e]
    simp [World.setCell, Array.getElem?_modify, h1]
  · rcases h3 with h0 | h3
    · exact .inl h0
    · right
      cases e : blkOf p with
      | none => exact .inl rfl
      | some k => exact .inr (fun e2 => by have := h3 k e; cases e2; omega)
theorem and_255 (x : Int) (h0 : 0 ≤ x) (h1 : x ≤ 18446744073709551615) : 0 ≤ wrap64 (bits .and .u64 x 255) ∧ wrap64 (bits .and .u64 x 255) ≤ 255 := by
  rw [u64_and x 255 h0 (by omega) (by omega) (by omega)]
  have : x.toNat &&& (255 : Int).toNat ≤ 255 := Nat.and_le_right
  unfold wrap64; omega
theorem wrap_u64 (x : Int) : 0 ≤ IntKind.u64.wrap x ∧ IntKind.u64.wrap x ≤ 18446744073709551615 := by
  have h : (Lit.int .u64 (IntKind.u64.wrap x)).wf = true := wf_wrap _ _
  have := bounds_u64 h
  omega

theorem grown_set {w w4 : World} {row : Option Nat} (h1 : w.grownBy w4 row) {q : Addr} (hq : w.heap.size ≤ q.block) (v : Value) : w.grownBy (w4.setCell q v) row := by
  refine ⟨h1.os, h1.tape, h1.output, by have := h1.size; simpa using this, fun k hk hne => ?_⟩
  rw [Below.heap_setCell _ _ _ _ (by omega)]
  exact h1.block k hk hne
theorem grown_fr {w w1 w2 : World} {row : Option Nat} (h : w.grownBy w1 row) (f : Fr w1 w2) : w.grownBy w2 row := grownBy_trans h (f.grownBy _)
set_option maxRecDepth 100000 in
theorem next_any (g A : Nat) (w : World) (hC : Cur g A w) (hA : A ≤ 1000000000000000) :
    Calls Try.prog 137 #[.pointer (some ⟨g, 0, none⟩)] w fun e w' => ∃ r : Int, e = .returned (.int .i64 r) ∧ 0 ≤ r ∧ r ≤ 255 ∧ Cur g (A + 1) w' ∧ w.grownBy w' (some g) := by
  obtain ⟨p, n, c, zs, i, z, h1, h2, h3, h4, h5, h6⟩ := hC
  have c0 : w.cell? ⟨g, 0, none⟩ = some (.slice p n c) := by rw [cell_of_row w g 0 _ _ _ h1]; rfl
  have c1 : w.cell? ⟨g, 1, none⟩ = some (.int .i64 i) := by rw [cell_of_row w g 1 _ _ _ h1]; rfl
  have c2 : w.cell? ⟨g, 2, none⟩ = some (.int .u64 z) := by rw [cell_of_row w g 2 _ _ _ h1]; rfl
  have q1 : w.frozen? ⟨g, 1, none⟩ = false := by unfold World.frozen?; rw [h1]; rfl
  have q2 : w.frozen? ⟨g, 2, none⟩ = false := by unfold World.frozen?; rw [h1]; rfl
  have hcap := h2.le; have hmx := h2.mx
  by_cases hlt : i < n
  · obtain ⟨b, off, rfl, hc⟩ := h2.cells.resolve_left (by omega)
    have hb := hc i hlt
    have hr := h2.rng _ (nth_mem (by rw [h2.len]; exact hlt))
    have i0 : (0 : Int) ≤ (i : Int) := by omega
    have i1 : (i : Int) < (n : Int) := by omega
    clear hc
    go_enter Try.func137, Try.ntmps137
    have hri : (i : Int) + 1 ≤ (n : Int) := by omega
    go_wp2_with fail
    go_quiet (fail)
    go_wp2_with fail
    go_quiet (fail)
    go_wp2_with fail
    go_quiet (fail)
    go_wp2
    go_ret
    exact ⟨_, rfl, hr.1, hr.2, (cur_next h1 h2 h3 h4 _ _ _ (wrap_u64 _)).1, (cur_next h1 h2 h3 h4 _ _ _ (wrap_u64 _)).2⟩
  · have i1 : ¬ (i : Int) < (n : Int) := by omega
    have hri : ¬ (i : Int) + 1 ≤ (n : Int) := by omega
    go_enter Try.func137, Try.ntmps137
    go_wp2_with fail
    go_quiet (fail)
    go_wp2_with fail
    go_quiet (fail)
    go_wp2
    go_ret
    have hw := wrap_u64 (IntKind.u64.wrap (IntKind.u64.wrap (z * 6364136223846793005)) + 462197)
    have ha := and_255 (IntKind.u64.wrap (IntKind.u64.wrap (IntKind.u64.wrap (z * 6364136223846793005)) + 462197) / 1099511627776) (by omega) (by omega)
    exact ⟨_, rfl, ha.1, ha.2, (cur_next h1 h2 h3 h4 _ _ _ (wrap_u64 _)).1, (cur_next h1 h2 h3 h4 _ _ _ (wrap_u64 _)).2⟩

/-- A pick: a number from 0 to n - 1. -/
theorem pick_any (g A : Nat) (n : Int) (w : World) (hC : Cur g A w) (hA : A ≤ 1000000000000) (hn : I64 n) :
    Calls Try.prog 105 #[.pointer (some ⟨g, 0, none⟩), .int .i64 n] w fun e w' => ∃ r : Int, e = .returned (.int .i64 r) ∧ 0 ≤ r ∧ (r < n ∨ r = 0) ∧ Cur g (A + 2) w' ∧ w.grownBy w' (some g) := by
  unfold I64 at hn
  by_cases h1 : n ≤ 1
  · go_enter Try.func105, Try.ntmps105
    go_wp2
    go_ret
    exact ⟨0, rfl, by omega, .inr rfl, hC.mono (by omega), grownBy_refl _ _⟩
  · by_cases h2 : (200 : Int) < n
    · go_enter Try.func105, Try.ntmps105
      go_wp2_with fail
      refine (next_any g A w hC (by omega)).mono ?_
      rintro e w1 ⟨r, rfl, hr0, hr1, hC1, g1⟩
      go_wp2_with fail
      refine (next_any g (A + 1) w1 hC1 (by omega)).mono ?_
      rintro e w2 ⟨q, rfl, hq0, hq1, hC2, g2⟩
      go_wp2
      go_ret
      exact ⟨_, rfl, Int.emod_nonneg _ (by omega), .inl (Int.emod_lt_of_pos _ (by omega)), hC2, grownBy_trans g1 g2⟩
    · go_enter Try.func105, Try.ntmps105
      go_wp2_with fail
      refine (next_any g A w hC (by omega)).mono ?_
      rintro e w1 ⟨r, rfl, hr0, hr1, hC1, g1⟩
      go_wp2
      go_ret
      exact ⟨_, rfl, Int.emod_nonneg _ (by omega), .inl (Int.emod_lt_of_pos _ (by omega)), hC1.mono (by omega), g1⟩

theorem one_any (g A : Nat) (n : Int) (w : World) (hC : Cur g A w) (hA : A ≤ 1000000000000) (hn : I64 n) :
    Calls Try.prog 98 #[.pointer (some ⟨g, 0, none⟩), .int .i64 n] w fun e w' => ∃ b : Bool, e = .returned (.bool b) ∧ Cur g (A + 2) w' ∧ w.grownBy w' (some g) := by
  go_enter Try.func98, Try.ntmps98
  go_wp2_with fail
  refine (pick_any g A n w hC hA hn).mono ?_
  rintro e w1 ⟨r, rfl, hr0, hr1, hC1, g1⟩
  go_wp2
  go_ret
  exact ⟨_, rfl, hC1, g1⟩

/-- One of some numbers. -/
theorem among_any (g A : Nat) (b n c : Nat) (Q : Int → Prop) (w : World) (hC : Cur g A w) (hA : A ≤ 1000000000000) (hn : 0 < n) (hn2 : n ≤ 1000000) (hb : b ≠ g) (hL : ∀ i, i < n → ∃ x, w.cell? ⟨b, i, none⟩ = some (.int .i64 x) ∧ Q x) :
    Calls Try.prog 96 #[.pointer (some ⟨g, 0, none⟩), .slice (some ⟨b, 0, none⟩) n c] w fun e w' => ∃ x : Int, e = .returned (.int .i64 x) ∧ Q x ∧ Cur g (A + 2) w' ∧ w.grownBy w' (some g) := by
  have hnb : b ≠ g := hb
  go_enter Try.func96, Try.ntmps96
  go_wp2_with fail
  refine (pick_any g A n w hC hA (by unfold I64; omega)).mono ?_
  rintro e w1 ⟨r, rfl, hr0, hr1, hC1, g1⟩
  obtain ⟨q, rfl⟩ := Int.eq_ofNat_of_zero_le hr0
  have hq : q < n := by omega
  obtain ⟨x, hx, hQ⟩ := hL q hq
  have hx1 := g1.cell hx (by simp; exact fun e => hb e)
  have i1 : (q : Int) < (n : Int) := by omega
  clear hL hx hr1
  go_wp2
  go_ret
  exact ⟨x, rfl, hQ, hC1, g1⟩

end Go.Proofs.Ytojipjjfndgbhaa
/- Draws from literals, and what a draw leaves as it was. -/
set_option linter.unusedVariables false
namespace Go.Proofs.Ytojipjjfndgbhaa
open Go.ChangeShapes Go.WideShapes Go.ChangeAt Go.RowKit

/-- Between two worlds of a draw the cursor in block g has gone on, and all else that was there stands. -/
structure Dr (g A : Nat) (w w' : World) : Prop where
  cur : Cur g A w'
  grow : w.grownBy w' (some g)
section
variable {g A : Nat} {w w' w'' : World}
theorem Dr.refl (h : Cur g A w) : Dr g A w w := ⟨h, grownBy_refl _ _⟩
theorem Dr.mono {A' : Nat} (h : Dr g A w w') (hA : A ≤ A') : Dr g A' w w' := ⟨h.cur.mono hA, h.grow⟩
theorem Dr.fr (h : Dr g A w w') (f : Fr w' w'') : Dr g A w w'' := ⟨h.cur.fr f, grown_fr h.grow f⟩
theorem Dr.alloc (h : Dr g A w w') (o : Obj) : Dr g A w (w'.alloc o) := h.fr ((Fr.refl _).alloc _)
theorem Dr.drewN (h : Dr g A w w') (m : Nat) : Dr g A w (w'.drewN m) := h.fr (Fr.drewN _ _)
theorem Dr.trans {A' : Nat} (h : Dr g A w w') (k : Dr g A' w' w'') : Dr g A' w w'' := ⟨k.cur, grownBy_trans h.grow k.grow⟩
theorem Dr.size (h : Dr g A w w') : w.heap.size ≤ w'.heap.size := h.grow.size
theorem Dr.lt (h : Dr g A w w') : g < w'.heap.size := h.cur.lt
theorem Dr.set (h : Dr g A w w') {q : Addr} (hq : w.heap.size ≤ q.block) (hg : g < w.heap.size) (v : Value) : Dr g A w (w'.setCell q v) :=
  ⟨h.cur.setCell (Nat.lt_of_lt_of_le hg hq) v, grown_set h.grow hq v⟩
theorem Dr.sl {p : Option Addr} {n c : Nat} {xs : List Int} (h : Dr g A w w') (s : SL w p n c xs) (hp : ∀ k, blkOf p = some k → k ≠ g) : SL w' p n c xs := s.grown h.grow (by
  cases e : blkOf p with
  | none => exact .inl rfl
  | some k => exact .inr (fun e2 => hp k e (by cases e2; rfl)))
theorem Dr.own {B : Nat} {p : Option Addr} {n c : Nat} {xs : List Int} (h : Dr g A w w') (s : Own B w p n c xs) (hB : g < B) : Own B w' p n c xs := s.grown h.grow (by
  cases e : blkOf p with
  | none => exact .inl rfl
  | some k => exact .inr (fun e2 => by have := (s.blk k e).1; cases e2; omega))
end
/-- The draw's end: the cursor was made in the call. -/
theorem Dr.ends {g A : Nat} {w w' : World} {o : Obj} (h : Dr g A (w.alloc o) w') (hg : g = w.heap.size) : Fr w w' :=
  ((Fr.refl w).alloc o).grown h.grow (fun k e => by cases e; omega)
theorem next_dr {g A : Nat} {w0 : World} (w : World) (h : Dr g A w0 w) (hA : A ≤ 1000000000000000) :
    Calls Try.prog 137 #[.pointer (some ⟨g, 0, none⟩)] w fun e w' => ∃ r : Int, e = .returned (.int .i64 r) ∧ (0 ≤ r ∧ r ≤ 255) ∧ Dr g (A + 1) w0 w' ∧ Dr g (A + 1) w w' := by
  refine (next_any g A w h.cur hA).mono ?_
  rintro e w' ⟨r, rfl, h0, h1, hC, gg⟩
  exact ⟨r, rfl, ⟨h0, h1⟩, ⟨hC, grownBy_trans h.grow gg⟩, ⟨hC, gg⟩⟩
theorem pick_dr {g A : Nat} {w0 : World} (w : World) (n : Int) (h : Dr g A w0 w) (hA : A ≤ 1000000000000) (hn : I64 n) :
    Calls Try.prog 105 #[.pointer (some ⟨g, 0, none⟩), .int .i64 n] w fun e w' => ∃ r : Int, e = .returned (.int .i64 r) ∧ (0 ≤ r ∧ (r < n ∨ r = 0)) ∧ Dr g (A + 2) w0 w' ∧ Dr g (A + 2) w w' := by
  refine (pick_any g A n w h.cur hA hn).mono ?_
  rintro e w' ⟨r, rfl, h0, h1, hC, gg⟩
  exact ⟨r, rfl, ⟨h0, h1⟩, ⟨hC, grownBy_trans h.grow gg⟩, ⟨hC, gg⟩⟩
theorem one_dr {g A : Nat} {w0 : World} (w : World) (n : Int) (h : Dr g A w0 w) (hA : A ≤ 1000000000000) (hn : I64 n) :
    Calls Try.prog 98 #[.pointer (some ⟨g, 0, none⟩), .int .i64 n] w fun e w' => ∃ b : Bool, e = .returned (.bool b) ∧ Dr g (A + 2) w0 w' ∧ Dr g (A + 2) w w' := by
  refine (one_any g A n w h.cur hA hn).mono ?_
  rintro e w' ⟨r, rfl, hC, gg⟩
  exact ⟨r, rfl, ⟨hC, grownBy_trans h.grow gg⟩, ⟨hC, gg⟩⟩
/-- One of the numbers of a literal. -/
theorem among_dr {g A : Nat} {w0 : World} (V : World) (lo hi : Int) (L : List Int) (cs : Array Value) (b n c : Nat) (h : Dr g A w0 V) (hA : A ≤ 1000000000000) (hcs : cs = (L.map (Value.int .i64)).toArray) (hn : n = L.length) (hn0 : 0 < L.length) (hn2 : L.length ≤ 1000) (hb : b = V.heap.size)
    (hq : (L.all fun x => decide (lo ≤ x) && decide (x ≤ hi)) = true) :
    Calls Try.prog 96 #[.pointer (some ⟨g, 0, none⟩), .slice (some ⟨b, 0, none⟩) n c] (V.alloc (.cells cs 3)) fun e w' => ∃ x : Int, e = .returned (.int .i64 x) ∧ (lo ≤ x ∧ x ≤ hi) ∧ Dr g (A + 2) w0 w' ∧ Dr g (A + 2) V w' := by
  subst hcs; subst hn; subst hb
  have hlt := h.cur.lt
  have f := (Fr.refl V).alloc (.cells (L.map (Value.int .i64)).toArray 3)
  refine (among_any g A V.heap.size L.length c (fun x => lo ≤ x ∧ x ≤ hi) _ (h.cur.fr f) hA hn0 (by omega) (by omega) (fun i hi => ?_)).mono ?_
  · refine ⟨L[i], ?_, ?_⟩
    · rw [cell_of_row _ _ _ _ _ _ (heap_alloc_new _ _)]; simp [hi]
    · have := List.all_eq_true.1 hq L[i] (List.getElem_mem hi)
      simpa using this
  · rintro e w' ⟨x, rfl, hx, hC, gg⟩
    have g2 := grownBy_trans (f.grownBy (some g)) gg
    exact ⟨x, rfl, hx, ⟨hC, grownBy_trans h.grow g2⟩, ⟨hC, g2⟩⟩
/-- The cursor's start. -/
theorem Dr.start {w : World} {p : Option Addr} {n c : Nat} {zs : List Int} (h : SLB w p n c zs) : Dr w.heap.size 0 (w.alloc (.cells #[.slice p n c, .int .i64 0, .int .u64 0] 110)) (w.alloc (.cells #[.slice p n c, .int .i64 0, .int .u64 0] 110)) := Dr.refl (Cur.start h)
theorem I64.small {x lo hi : Int} (h : lo ≤ x ∧ x ≤ hi) (h0 : -9223372036854775808 ≤ lo) (h1 : hi ≤ 9223372036854775807) : I64 x := by unfold I64; omega
end Go.Proofs.Ytojipjjfndgbhaa
/- Contracts of the laws' own list functions: a copy, the comparison, the marking and its check. -/
set_option linter.unusedVariables false
namespace Go.Proofs.Ytojipjjfndgbhaa
open Go.ChangeShapes Go.WideShapes Go.ChangeAt Go.RowKit

theorem copy_step (xs : List Int) (n k : Nat) (hn : xs.length = n) (hk : k < n) :
    (xs.take k ++ List.replicate (n - k) (0 : Int)).set k (nth xs k) = xs.take (k + 1) ++ List.replicate (n - (k + 1)) 0 := by
  have h1 : (xs.take k).length = k := by simp; omega
  rw [take_snoc xs k (by omega), List.set_append_right _ _ (by omega), h1, Nat.sub_self]
  rw [show n - k = (n - (k+1)) + 1 by omega, List.replicate_succ]
  simp

theorem copy_cell (xs : List Int) (n k : Nat) (w : World) (g : Nat) (B cap : Nat) (hn : xs.length = n) (hk : k < n)
    (ho : Own B w (some ⟨g, 0, none⟩) n cap (xs.take k ++ List.replicate (n - k) (0 : Int))) : ∃ u, w.cell? ⟨g, k, none⟩ = some u := ⟨_, ho.cellAt rfl hk⟩

theorem toIntS_any (w : World) (a : Option Addr) (n cap : Nat) (xs : List Int) (h : SL w a n cap xs) (hm : n ≤ 1048576) :
    Calls Try.prog 23 #[.slice a n cap] w (RetS xs w) := by
  have H := h
  obtain ⟨hlen, hle, hmx, hrng, _, hcells⟩ := h
  have Hlen := Lib.hid hlen; clear hlen
  have hmk := run_make_row' 22 3 (.int .i64 0) 8 Try.underlying22 infoInt rfl .i64 .i64 n (by omega) (by omega)
  go_enter Try.func23, Try.ntmps23
  go_wp2
  clear hmk
  have hmade := Own.made w n (Nat.le_refl _) (by unfold maxLen; omega)
  have hfr := (Fr.refl w).alloc (.cells (madeCells #[.int .i64 0] n) 3)
  go_loopw [4] (fun i wr => ∃ k : Nat, k ≤ n ∧ i = .int .i64 k ∧ Own w.heap.size wr (some ⟨w.heap.size, 0, none⟩) n n (xs.take k ++ List.replicate (n - k) 0) ∧ Fr w wr) (fun i _ => n - (intOf i).toNat)
  case atStart => exact ⟨0, Nat.zero_le _, rfl, by simpa using hmade, hfr⟩
  case round =>
    clear hmade hfr
    obtain ⟨k, hk, rfl, ho, hf⟩ := hrel
    by_cases hlt : k < n
    · obtain ⟨b, off, rfl, hc⟩ := (H.fr hf).cells.resolve_left (by omega)
      have hc := hc k hlt
      obtain ⟨g, hg, hB, hlt2, hcell, hfro⟩ := ho.op (by omega)
      obtain ⟨rfl⟩ : w.heap.size = g := by simpa using hg
      have hcell := hcell k hlt
      have hfro := hfro k
      have hI := H.rngAt k
      go_wp2
      go_roundw
      case rel =>
        refine ⟨k + 1, by omega, by go_num, ?_, hf.setCell (Nat.le_refl _) _⟩
        rw [← copy_step xs n k Hlen.out hlt]
        exact ho.set rfl hlt hI
      case measure => simp [intOf]; omega
    · go_wp2
      go_ret
      have : k = n := by omega
      subst this
      rw [Nat.sub_self, List.replicate_zero, List.append_nil, List.take_of_length_le (by rw [Hlen.out]; omega)] at ho
      exact ⟨_, _, _, rfl, ho, hf, hm⟩

/-- Two lists are the same up to k. -/
def sameTo (xs ys : List Int) (k : Nat) : Prop := ∀ i, i < k → nth xs i = nth ys i
theorem sameTo_all {xs ys : List Int} (hl : xs.length = ys.length) (h : sameTo xs ys xs.length) : xs = ys := by
  apply List.ext_getElem hl
  intro i h1 h2
  have := h i h1
  rwa [nth_eq h1, nth_eq h2] at this

theorem eqIntS_qt (w : World) (a b : Option Addr) (n c m d : Nat) (xs ys : List Int) (h : SL w a n c xs) (k : SL w b m d ys) :
    Calls Try.prog 26 #[.slice a n c, .slice b m d] w fun e w' => e = .returned (.bool (decide (xs = ys))) ∧ Qt w w' := by
  have Hx := h; have Hy := k
  have Hxl := Lib.hid h.len; have Hyl := Lib.hid k.len
  have hxm : n ≤ 9223372036854775807 := by have := h.le; have := h.mx; omega
  have hym : m ≤ 9223372036854775807 := by have := k.le; have := k.mx; omega
  clear h k
  by_cases hne : n = m
  · subst hne
    go_enter Try.func26, Try.ntmps26
    go_wp2
    go_loopw [5] (fun i wr => ∃ k : Nat, k ≤ n ∧ i = .int .i64 k ∧ Hid (sameTo xs ys k) ∧ Qt w wr) (fun i _ => n - (intOf i).toNat)
    case atStart => exact ⟨0, Nat.zero_le _, rfl, Lib.hid (fun i hi => by omega), Qt.refl _⟩
    case round =>
      obtain ⟨k, hk, rfl, hs, hf⟩ := hrel
      by_cases hlt : k < n
      · obtain ⟨b1, o1, rfl, hc1⟩ := (Hx.qt hf).cells.resolve_left (by omega)
        obtain ⟨b2, o2, rfl, hc2⟩ := (Hy.qt hf).cells.resolve_left (by omega)
        have hc1 := hc1 k hlt
        have hc2 := hc2 k hlt
        have hi1 : (0 : Int) ≤ (k : Int) := by omega
        have hi2 : (k : Int) < (n : Int) := by omega
        by_cases he : nth xs k = nth ys k
        · have HE := Lib.hid he
          have hb : (nth xs k != nth ys k) = false := by simp [he]
          clear he
          go_wp2
          go_quiet (fail)
          go_wp2
          go_roundw
          case rel => exact ⟨k + 1, by omega, by go_num, Lib.hid (fun i hi => by by_cases e : i = k; (· subst e; exact HE.out); (· exact hs.out i (by omega))), hf.drewN _⟩
          case measure => simp [intOf]; omega
        · have HE := Lib.hid he
          have hb : (nth xs k != nth ys k) = true := by simp [he]
          clear he
          go_wp2
          go_quiet (fail)
          go_wp2
          go_ret
          exact ⟨ret_bool (by symm; rw [decide_eq_false_iff_not]; intro e; exact HE.out (by rw [e])), hf.drewN _⟩
      · go_wp2
        go_ret
        have : k = n := by omega
        subst this
        exact ⟨ret_bool (by symm; rw [decide_eq_true_eq]; exact sameTo_all (by rw [Hxl.out, Hyl.out]) (by rw [Hxl.out]; exact hs.out)), hf⟩
  · have hb : ((n : Int) != (m : Int)) = true := by simp; omega
    have HN := Lib.hid hne
    clear hne
    go_enter Try.func26, Try.ntmps26
    go_wp2
    go_ret
    exact ⟨ret_bool (by symm; rw [decide_eq_false_iff_not]; intro e; exact HN.out (by rw [← Hxl.out, ← Hyl.out, e])), Qt.refl _⟩

theorem eqIntS_any (w : World) (a b : Option Addr) (n c m d : Nat) (xs ys : List Int) (h : SL w a n c xs) (k : SL w b m d ys) :
    Calls Try.prog 26 #[.slice a n c, .slice b m d] w fun e w' => e = .returned (.bool (decide (xs = ys))) ∧ Fr w w' := toFrQ (eqIntS_qt w a b n c m d xs ys h k)

/-- k, k + 1, ..: n numbers. -/
def marks (k : Int) (n : Nat) : List Int := (List.range n).map fun i : Nat => k + (i : Int)
theorem marks_len (k : Int) (n : Nat) : (marks k n).length = n := by simp [marks]
theorem marks_nth (k : Int) (n i : Nat) (h : i < n) : nth (marks k n) i = k + i := by simp [nth, marks, h]
theorem marks_snoc (k : Int) (n : Nat) : marks k (n+1) = marks k n ++ [k + (n : Int)] := by simp [marks, List.range_succ]
theorem mark_step (xs : List Int) (k : Int) (n j : Nat) (hn : xs.length = n) (hj : j < n) :
    (marks k j ++ xs.drop j).set j (k + j) = marks k (j + 1) ++ xs.drop (j + 1) := by
  rw [List.set_append_right _ _ (by simp [marks_len]), marks_len, Nat.sub_self, marks_snoc, List.drop_eq_getElem_cons (by omega)]
  rw [List.set_cons_zero, List.append_assoc]; rfl

theorem markIntS_any (B : Nat) (w : World) (a : Option Addr) (n c : Nat) (xs : List Int) (k : Int) (ho : Own B w a n c xs) (h0 : 0 ≤ k) (h1 : k ≤ 1000000000000) (h2 : n ≤ 1000000000000) :
    Calls Try.prog 28 #[.slice a n c, .int .i64 k] w fun e w' => e = .returned (.int .i64 (k + n)) ∧ Own B w' a n c (marks k n) ∧ w.grownBy w' (blkOf a) := by
  have Hl := Lib.hid ho.len
  go_enter Try.func28, Try.ntmps28
  go_wp2
  go_loopw [1, 5] (fun q i wr => ∃ j : Nat, j ≤ n ∧ i = .int .i64 j ∧ q = .int .i64 (k + j) ∧ Own B wr a n c (marks k j ++ xs.drop j) ∧ w.grownBy wr (blkOf a)) (fun _ i _ => n - (intOf i).toNat)
  case atStart => exact ⟨0, Nat.zero_le _, rfl, by simp, by simpa [marks] using ho, grownBy_refl _ _⟩
  case round =>
    clear ho
    obtain ⟨j, hj, rfl, rfl, ho, hg⟩ := hrel
    by_cases hlt : j < n
    · obtain ⟨g, rfl, hB, hlt2, hcell, hfro⟩ := ho.op (by omega)
      have hcell := hcell j hlt
      have hfro := hfro j
      go_wp2
      go_roundw
      case rel =>
        refine ⟨j + 1, by omega, by go_num, by go_num, ?_, grownBy_setCell hg (p := ⟨g, j, none⟩) rfl _⟩
        rw [← mark_step xs k n j Hl.out hlt]
        exact ho.set rfl hlt (by unfold I64; omega)
      case measure => simp [intOf]; omega
    · go_wp2
      go_ret
      have : j = n := by omega
      subst this
      rw [List.drop_eq_nil_of_le (by rw [Hl.out]; omega), List.append_nil] at ho
      exact ⟨rfl, ho, hg⟩

/-- What heldIntS answers of marks that stand. -/
theorem heldIntS_any (w : World) (a : Option Addr) (n c : Nat) (k : Int) (h : SL w a n c (marks k n)) (h0 : 0 ≤ k) (h1 : k ≤ 1000000000000) (h2 : n ≤ 1000000000000) :
    Calls Try.prog 77 #[.slice a n c, .int .i64 k] w fun e w' => e = .returned (.int .i64 (k + n)) ∧ w = w' := by
  go_enter Try.func77, Try.ntmps77
  go_wp2
  go_loop [1, 5] (fun q i => ∃ j : Nat, j ≤ n ∧ i = .int .i64 j ∧ q = .int .i64 (k + j)) (fun _ i => n - (intOf i).toNat)
  case atStart => exact ⟨0, Nat.zero_le _, rfl, by simp⟩
  case round =>
    obtain ⟨j, hj, rfl, rfl⟩ := hrel
    by_cases hlt : j < n
    · obtain ⟨b, off, rfl, hc0⟩ := h.cells.resolve_left (by omega)
      have hc := hc0 j hlt
      clear hc0
      rw [marks_nth k n j hlt] at hc
      go_wp2
      go_round
      case rel => exact ⟨j + 1, by omega, by go_num, by go_num⟩
      case measure => simp [intOf]; omega
    · go_wp2
      go_ret
      have : j = n := by omega
      subst this
      exact ⟨rfl, rfl⟩

end Go.Proofs.Ytojipjjfndgbhaa
/- Slices of bools of the call's own. -/
set_option linter.unusedVariables false
namespace Go.Proofs.Ytojipjjfndgbhaa
open Go.ChangeShapes Go.WideShapes Go.ChangeAt Go.RowKit

def nthB (xs : List Bool) (i : Nat) : Bool := xs[i]?.getD false
theorem nthB_eq {xs : List Bool} {i : Nat} (h : i < xs.length) : nthB xs i = xs[i] := by simp [nthB, h]
theorem nthB_set_same {xs : List Bool} {i : Nat} (h : i < xs.length) (x : Bool) : nthB (xs.set i x) i = x := by simp [nthB, h]
theorem nthB_set_ne {xs : List Bool} {i j : Nat} (h : i ≠ j) (x : Bool) : nthB (xs.set i x) j = nthB xs j := by simp [nthB, h]

structure OwnB (B : Nat) (w : World) (a : Option Addr) (n cap : Nat) (xs : List Bool) : Prop where
  row : w.ownsRow B 4 1 (.slice a n cap) n (xs.map Value.bool)

section
variable {B : Nat} {w w' : World} {a : Option Addr} {n cap : Nat} {xs : List Bool}
theorem OwnB.len (h : OwnB B w a n cap xs) : xs.length = n := by simpa using h.row.1
theorem OwnB.cases (h : OwnB B w a n cap xs) : (a = none ∧ n = 0 ∧ cap = 0 ∧ xs = []) ∨
    ∃ g cur, a = some ⟨g, 0, none⟩ ∧ B ≤ g ∧ w.heap[g]? = some (.cells cur 4 (0, 0)) ∧ n ≤ cap ∧ cap ≤ maxLen ∧ cur.size = cap ∧ cur.toList.take n = xs.map Value.bool := by
  have hl := h.len
  obtain ⟨⟨h1, h2⟩⟩ := h
  rcases h2 with ⟨h2, h3⟩ | ⟨g, cap', cur, h2, h3, h4, h5, h6, h7, h8⟩
  · simp only [Value.slice.injEq] at h2
    obtain ⟨rfl, rfl, rfl⟩ := h2
    exact .inl ⟨rfl, rfl, rfl, List.length_eq_zero_iff.1 hl⟩
  · simp only [Value.slice.injEq] at h2
    obtain ⟨rfl, _, rfl⟩ := h2
    exact .inr ⟨g, cur, rfl, h3, h4, h5, h6, by simpa using h7, by simpa using h8⟩
theorem OwnB.cellAt (h : OwnB B w a n cap xs) {g : Nat} (ha : a = some ⟨g, 0, none⟩) {i : Nat} (hi : i < n) : w.cell? ⟨g, i, none⟩ = some (.bool (nthB xs i)) := by
  have hl := h.len
  have hc := h.row.cells (g := g) (by simp [Value.ownBlock, ha]) i (.bool (nthB xs i)) (by rw [nthB_eq (by omega)]; simp [hl ▸ hi])
  have hadd : (⟨g, 0, none⟩ : Addr).add i = ⟨g, i, none⟩ := by unfold Addr.add; split <;> simp_all
  rwa [hadd] at hc
theorem OwnB.blk (h : OwnB B w a n cap xs) : ∀ k, blkOf a = some k → B ≤ k ∧ k < w.heap.size := by
  intro k hk
  refine h.row.lt k ?_
  cases a with
  | none => simp [blkOf] at hk
  | some x => simpa [blkOf, Value.ownBlock] using hk
theorem OwnB.op (h : OwnB B w a n cap xs) (hn : 0 < n) : ∃ g, a = some ⟨g, 0, none⟩ ∧ B ≤ g ∧ g < w.heap.size ∧ (∀ i, i < n → w.cell? ⟨g, i, none⟩ = some (.bool (nthB xs i))) ∧ ∀ i, w.frozen? ⟨g, i, none⟩ = false := by
  rcases h.cases with ⟨rfl, rfl, rfl, rfl⟩ | ⟨g, cur, ha, h3, h4, h5, h6, h7, h8⟩
  · omega
  · exact ⟨g, ha, h3, (Array.getElem?_eq_some_iff.1 h4).1, fun i hi => h.cellAt ha hi, fun i => by simp [World.frozen?, h4]⟩
theorem OwnB.grown {row : Option Nat} (h : OwnB B w a n cap xs) (g : w.grownBy w' row) (hne : blkOf a = none ∨ blkOf a ≠ row) : OwnB B w' a n cap xs :=
  ⟨h.row.kept g (by cases a with | none => simp [Value.ownBlock] | some x => simpa [blkOf, Value.ownBlock] using hne)⟩
theorem OwnB.fr (h : OwnB B w a n cap xs) (f : Fr w w') : OwnB B w' a n cap xs := by
  refine ⟨⟨h.row.1, ?_⟩⟩
  rcases h.row.2 with h2 | ⟨g, cap', cur, h2, h3, h4, h5⟩
  · exact .inl h2
  · refine .inr ⟨g, cap', cur, h2, h3, ?_, h5⟩
    rw [f.block g (Array.getElem?_eq_some_iff.1 h4).1]; exact h4
theorem OwnB.mono {B' : Nat} (h : OwnB B w a n cap xs) (hB : B' ≤ B) : OwnB B' w a n cap xs := by
  refine ⟨⟨h.row.1, ?_⟩⟩
  rcases h.row.2 with h2 | ⟨g, cap', cur, h2, h3, h4, h5⟩
  · exact .inl h2
  · exact .inr ⟨g, cap', cur, h2, Nat.le_trans hB h3, h4, h5⟩
theorem OwnB.drewN (h : OwnB B w a n cap xs) (k : Nat) : OwnB B (w.drewN k) a n cap xs := h.fr (Fr.drewN _ _)
theorem OwnB.set (h : OwnB B w a n cap xs) {g : Nat} (ha : a = some ⟨g, 0, none⟩) {i : Nat} (hi : i < n) (v : Bool) : OwnB B (w.setCell ⟨g, i, none⟩ (.bool v)) a n cap (xs.set i v) := by
  have hl := h.len
  rcases h.cases with ⟨rfl, rfl, rfl, rfl⟩ | ⟨g', cur, ha', h3, h4, h5, h6, h7, h8⟩
  · omega
  · rw [ha] at ha'
    simp only [Option.some.injEq, Addr.mk.injEq, and_true] at ha'
    obtain rfl := ha'
    refine ⟨⟨by simp [hl], .inr ⟨g, cap, cur.setIfInBounds i (.bool v), by rw [ha], h3, ?_, h5, h6, by simpa using h7, ?_⟩⟩⟩
    · simp [World.setCell, Array.getElem?_modify, h4]
    · simp only [Nat.mul_one, Array.toList_setIfInBounds]
      rw [List.map_set, ← h8, List.take_set]
theorem OwnB.setOther (h : OwnB B w a n cap xs) {p : Addr} (hp : blkOf a ≠ some p.block) (v : Value) : OwnB B (w.setCell p v) a n cap xs :=
  h.grown (grownBy_setCell (grownBy_refl w (some p.block)) rfl v) (.inr hp)
theorem OwnB.within (h : OwnB B w a n cap xs) : Within a B w.heap.size := h.blk
theorem OwnB.made (w : World) (n : Nat) (hB : B ≤ w.heap.size) (hm : n ≤ maxLen) : OwnB B (w.alloc (.cells (madeCells #[.bool false] n) 4)) (some ⟨w.heap.size, 0, none⟩) n n (List.replicate n false) := by
  refine ⟨⟨by simp, .inr ⟨w.heap.size, n, madeCells #[.bool false] n, rfl, hB, heap_alloc_new w _, Nat.le_refl _, hm, by simp [size_madeCells], ?_⟩⟩⟩
  simp [toList_madeCells_one]
end
theorem infoBool : (Try.prog.info? 4).map (fun i => (i.zero, i.size, i.bytes)) = some (some (.bool false), 1, 1) := by kernel_rfl
def RetB (xs : List Bool) (w : World) (e : Ending) (w' : World) : Prop := ∃ a n cap, e = .returned (.slice a n cap) ∧ OwnB w.heap.size w' a n cap xs ∧ Fr w w' ∧ n ≤ 1048576
end Go.Proofs.Ytojipjjfndgbhaa
