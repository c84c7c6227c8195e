import Derived.Test.YtojipjjfndgbhaaCore
import Derived.BigQuiet
import Derived.Deep.QuietTactic
import Derived.Laws.BitsAllLaws
/- The reference's cursor over bytes: what it reads, picks. -/
set_option linter.unusedVariables false
namespace Go.Proofs.Ytojipjjfndgbhaa
open Go.ChangeShapes Go.WideShapes Go.ChangeAt Go.RowKit

/-- A slice of bytes reads as a list. -/
structure SLB (w : World) (a : Option Addr) (n cap : Nat) (xs : List Int) : Prop where
  len : xs.length = n
  le : n ≤ cap
  mx : cap ≤ 9223372036854775807
  rng : ∀ x ∈ xs, 0 ≤ x ∧ x ≤ 255
  nil : a = none → n = 0 ∧ cap = 0
  cells : n = 0 ∨ ∃ b off, a = some ⟨b, off, none⟩ ∧ ∀ i, i < n → w.cell? ⟨b, off + i, none⟩ = some (.int .u8 (nth xs i))
theorem SLB.of_nil (w : World) : SLB w none 0 0 [] := ⟨rfl, Nat.le_refl _, by omega, by simp, fun _ => ⟨rfl, rfl⟩, .inl rfl⟩
theorem SLB.of_open {w : World} {x : Addr} {len cap : Nat} {zs : List Int} (hl : len ≤ cap) (hm : cap ≤ maxLen) (hz : zs.length = cap)
    (hc : ∀ i, i < zs.length → w.cell? (x.add i) = some (.int .u8 (zs.getD i 0))) (hw : ∀ n ∈ zs, (Lit.int .u8 n).wf = true) : SLB w (some x) len cap (zs.take len) := by
  refine ⟨by simp; omega, hl, by unfold maxLen at hm; omega, fun y hy => ?_, fun h => (by cases h), ?_⟩
  · have := bounds_u8 (hw y (List.mem_of_mem_take hy)); omega
  · by_cases h0 : len = 0
    · exact .inl h0
    · obtain ⟨b, off, spot⟩ := x
      have hspot : spot = none := by
        have := World.cell?_spot (hc 0 (by omega))
        simpa [Addr.add] using this
      subst hspot
      refine .inr ⟨b, off, rfl, fun i hi => ?_⟩
      have := hc i (by omega)
      rw [addr_add] at this
      rw [this]
      simp [nth, hi]
theorem SLB.grown {w w' : World} {a : Option Addr} {n cap : Nat} {xs : List Int} {row : Option Nat} (h : SLB w a n cap xs) (g : w.grownBy w' row) (hne : n = 0 ∨ blkOf a = none ∨ blkOf a ≠ row) : SLB w' a n cap xs := by
  obtain ⟨h1, h2, h3, h4, h6, h5⟩ := h
  refine ⟨h1, h2, h3, h4, h6, ?_⟩
  rcases h5 with h5 | ⟨b, off, rfl, hc⟩
  · exact .inl h5
  · by_cases h0 : n = 0
    · exact .inl h0
    · exact .inr ⟨b, off, rfl, fun i hi => g.cell (hc i hi) (by have := hne.resolve_left h0; simpa [blkOf] using this)⟩
theorem SLB.fr {w w' : World} {a : Option Addr} {n cap : Nat} {xs : List Int} (h : SLB w a n cap xs) (f : Fr w w') : SLB w' a n cap xs := by
  obtain ⟨h1, h2, h3, h4, h6, h5⟩ := h
  refine ⟨h1, h2, h3, h4, h6, ?_⟩
  rcases h5 with h5 | ⟨b, off, rfl, hc⟩
  · exact .inl h5
  · exact .inr ⟨b, off, rfl, fun i hi => f.keep (hc i hi)⟩

theorem SLB.blkLt {w : World} {a : Option Addr} {n cap : Nat} {xs : List Int} (h : SLB w a n cap xs) : n = 0 ∨ ∀ k, blkOf a = some k → k < w.heap.size := by
  rcases h.cells with h0 | ⟨b, off, rfl, hc⟩
  · exact .inl h0
  · by_cases h0 : n = 0
    · exact .inl h0
    · exact .inr (fun k hk => by cases hk; exact World.block_lt_of_cell? w _ (hc 0 (by omega)))
/-- The cursor lies in block g; it stands no further than A. -/
def Cur (g A : Nat) (w : World) : Prop := ∃ (p : Option Addr) (n c : Nat) (zs : List Int) (i : Nat) (z : Int), w.heap[g]? = some (.cells #[.slice p n c, .int .i64 i, .int .u64 z] 110 (0, 0)) ∧
  SLB w p n c zs ∧ (n = 0 ∨ ∀ k, blkOf p = some k → k < g) ∧ i ≤ A ∧ 0 ≤ z ∧ z ≤ 18446744073709551615
theorem Cur.lt {g A : Nat} {w : World} (h : Cur g A w) : g < w.heap.size := by
  obtain ⟨p, n, c, zs, i, z, h, _⟩ := h; exact (Array.getElem?_eq_some_iff.1 h).1
theorem Cur.mono {g A A' : Nat} {w : World} (h : Cur g A w) (hA : A ≤ A') : Cur g A' w := by
  obtain ⟨p, n, c, zs, i, z, h1, h2, h3, h4, h5⟩ := h; exact ⟨p, n, c, zs, i, z, h1, h2, h3, by omega, h5⟩
theorem Cur.grown {g A : Nat} {w w' : World} {row : Option Nat} (h : Cur g A w) (hg : w.grownBy w' row) (hr : ∀ k, row = some k → g < k) : Cur g A w' := by
  have hlt := h.lt
  obtain ⟨p, n, c, zs, i, z, h1, h2, h3, h4, h5⟩ := h
  have hne : row ≠ some g := fun e => by have := hr g e; omega
  refine ⟨p, n, c, zs, i, z, by rw [hg.block g hlt (Ne.symm hne)]; exact h1, h2.grown hg ?_, h3, h4, h5⟩
  rcases h3 with h0 | h3
  · exact .inl h0
  · right
    cases e : blkOf p with
    | none => exact .inl rfl
    | some k => exact .inr (fun e2 => by have := h3 k e; have := hr k e2.symm; omega)
theorem Cur.fr {g A : Nat} {w w' : World} (h : Cur g A w) (f : Fr w w') : Cur g A w' := h.grown (f.grownBy none) (fun _ e => by cases e)
theorem Cur.setCell {g A : Nat} {w : World} (h : Cur g A w) {q : Addr} (hq : g < q.block) (v : Value) : Cur g A (w.setCell q v) :=
  h.grown (grownBy_setCell (grownBy_refl w (some q.block)) rfl v) (fun k e => by cases e; exact hq)
theorem Cur.start {w : World} {p : Option Addr} {n c : Nat} {zs : List Int} (h : SLB w p n c zs) : Cur w.heap.size 0 (w.alloc (.cells #[.slice p n c, .int .i64 0, .int .u64 0] 110)) :=
  ⟨p, n, c, zs, 0, 0, heap_alloc_new w _, h.fr ((Fr.refl w).alloc _), h.blkLt, Nat.le_refl _, by omega, by omega⟩

theorem grown_drew {w w' : World} {row : Option Nat} (h : w.grownBy w' row) (m : Nat) : w.grownBy (w'.drewN m) row := grownBy_drewN h m
theorem cur_next {g A : Nat} {w : World} {p : Option Addr} {n c : Nat} {zs : List Int} {i : Nat} {z : Int} (h1 : w.heap[g]? = some (.cells #[.slice p n c, .int .i64 i, .int .u64 z] 110 (0, 0))) (h2 : SLB w p n c zs) (h3 : n = 0 ∨ ∀ k, blkOf p = some k → k < g) (h4 : i ≤ A) (m1 m2 : Nat) (z' : Int) (hz : 0 ≤ z' ∧ z' ≤ 18446744073709551615) :
    Cur g (A + 1) ((((w.drewN m1).setCell ⟨g, 1, none⟩ (.int .i64 ((i : Int) + 1))).setCell ⟨g, 2, none⟩ (.int .u64 z')).drewN m2) ∧ w.grownBy ((((w.drewN m1).setCell ⟨g, 1, none⟩ (.int .i64 ((i : Int) + 1))).setCell ⟨g, 2, none⟩ (.int .u64 z')).drewN m2) (some g) := by
  have hg : w.grownBy ((((w.drewN m1).setCell ⟨g, 1, none⟩ (.int .i64 ((i : Int) + 1))).setCell ⟨g, 2, none⟩ (.int .u64 z')).drewN m2) (some g) :=
    grownBy_drewN (grownBy_setCell (grownBy_setCell (grownBy_drewN (grownBy_refl w (some g)) m1) (p := ⟨g, 1, none⟩) rfl _) (p := ⟨g, 2, none⟩) rfl _) m2
  refine ⟨⟨p, n, c, zs, i + 1, z', ?_, h2.grown hg ?_, h3, by omega, hz⟩, hg⟩
  · have e : ((((w.drewN m1).setCell ⟨g, 1, none⟩ (.int .i64 ((i : Int) + 1))).setCell ⟨g, 2, none⟩ (.int .u64 z')).drewN m2).heap = (((w.setCell ⟨g, 1, none⟩ (.int .i64 ((i : Int) + 1))).setCell ⟨g, 2, none⟩ (.int .u64 z'))).heap := rfl
    rw [e]
    simp [World.setCell, Array.getElem?_modify, h1]
  · rcases h3 with h0 | h3
    · exact .inl h0
    · right
      cases e : blkOf p with
      | none => exact .inl rfl
      | some k => exact .inr (fun e2 => by have := h3 k e; cases e2; omega)
theorem and_255 (x : Int) (h0 : 0 ≤ x) (h1 : x ≤ 18446744073709551615) : 0 ≤ wrap64 (bits .and .u64 x 255) ∧ wrap64 (bits .and .u64 x 255) ≤ 255 := by
  rw [u64_and x 255 h0 (by omega) (by omega) (by omega)]
  have : x.toNat &&& (255 : Int).toNat ≤ 255 := Nat.and_le_right
  unfold wrap64; omega
theorem wrap_u64 (x : Int) : 0 ≤ IntKind.u64.wrap x ∧ IntKind.u64.wrap x ≤ 18446744073709551615 := by
  have h : (Lit.int .u64 (IntKind.u64.wrap x)).wf = true := wf_wrap _ _
  have := bounds_u64 h
  omega

theorem grown_set {w w4 : World} {row : Option Nat} (h1 : w.grownBy w4 row) {q : Addr} (hq : w.heap.size ≤ q.block) (v : Value) : w.grownBy (w4.setCell q v) row := by
  refine ⟨h1.os, h1.tape, h1.output, by have := h1.size; simpa using this, fun k hk hne => ?_⟩
  rw [Below.heap_setCell _ _ _ _ (by omega)]
  exact h1.block k hk hne
theorem grown_fr {w w1 w2 : World} {row : Option Nat} (h : w.grownBy w1 row) (f : Fr w1 w2) : w.grownBy w2 row := grownBy_trans h (f.grownBy _)
set_option maxRecDepth 100000 in
theorem next_any (g A : Nat) (w : World) (hC : Cur g A w) (hA : A ≤ 1000000000000000) :
    Calls Try.prog 137 #[.pointer (some ⟨g, 0, none⟩)] w fun e w' => ∃ r : Int, e = .returned (.int .i64 r) ∧ 0 ≤ r ∧ r ≤ 255 ∧ Cur g (A + 1) w' ∧ w.grownBy w' (some g) := by
  obtain ⟨p, n, c, zs, i, z, h1, h2, h3, h4, h5, h6⟩ := hC
  have c0 : w.cell? ⟨g, 0, none⟩ = some (.slice p n c) := by rw [cell_of_row w g 0 _ _ _ h1]; rfl
  have c1 : w.cell? ⟨g, 1, none⟩ = some (.int .i64 i) := by rw [cell_of_row w g 1 _ _ _ h1]; rfl
  have c2 : w.cell? ⟨g, 2, none⟩ = some (.int .u64 z) := by rw [cell_of_row w g 2 _ _ _ h1]; rfl
  have q1 : w.frozen? ⟨g, 1, none⟩ = false := by unfold World.frozen?; rw [h1]; rfl
  have q2 : w.frozen? ⟨g, 2, none⟩ = false := by unfold World.frozen?; rw [h1]; rfl
  have hcap := h2.le; have hmx := h2.mx
  by_cases hlt : i < n
  · obtain ⟨b, off, rfl, hc⟩ := h2.cells.resolve_left (by omega)
    have hb := hc i hlt
    have hr := h2.rng _ (nth_mem (by rw [h2.len]; exact hlt))
    have i0 : (0 : Int) ≤ (i : Int) := by omega
    have i1 : (i : Int) < (n : Int) := by omega
    clear hc
    go_enter Try.func137, Try.ntmps137
    have hri : (i : Int) + 1 ≤ (n : Int) := by omega
    go_wp2_with fail
    go_quiet (fail)
    go_wp2_with fail
    go_quiet (fail)
    go_wp2_with fail
    go_quiet (fail)
    go_wp2
    go_ret
    exact ⟨_, rfl, hr.1, hr.2, (cur_next h1 h2 h3 h4 _ _ _ (wrap_u64 _)).1, (cur_next h1 h2 h3 h4 _ _ _ (wrap_u64 _)).2⟩
  · have i1 : ¬ (i : Int) < (n : Int) := by omega
    have hri : ¬ (i : Int) + 1 ≤ (n : Int) := by omega
    go_enter Try.func137, Try.ntmps137
    go_wp2_with fail
    go_quiet (fail)
    go_wp2_with fail
    go_quiet (fail)
    go_wp2
    go_ret
    have hw := wrap_u64 (IntKind.u64.wrap (IntKind.u64.wrap (z * 6364136223846793005)) + 462197)
    have ha := and_255 (IntKind.u64.wrap (IntKind.u64.wrap (IntKind.u64.wrap (z * 6364136223846793005)) + 462197) / 1099511627776) (by omega) (by omega)
    exact ⟨_, rfl, ha.1, ha.2, (cur_next h1 h2 h3 h4 _ _ _ (wrap_u64 _)).1, (cur_next h1 h2 h3 h4 _ _ _ (wrap_u64 _)).2⟩

/-- A pick: a number from 0 to n - 1. -/
theorem pick_any (g A : Nat) (n : Int) (w : World) (hC : Cur g A w) (hA : A ≤ 1000000000000) (hn : I64 n) :
    Calls Try.prog 105 #[.pointer (some ⟨g, 0, none⟩), .int .i64 n] w fun e w' => ∃ r : Int, e = .returned (.int .i64 r) ∧ 0 ≤ r ∧ (r < n ∨ r = 0) ∧ Cur g (A + 2) w' ∧ w.grownBy w' (some g) := by
  unfold I64 at hn
  by_cases h1 : n ≤ 1
  · go_enter Try.func105, Try.ntmps105
    go_wp2
    go_ret
    exact ⟨0, rfl, by omega, .inr rfl, hC.mono (by omega), grownBy_refl _ _⟩
  · by_cases h2 : (200 : Int) < n
    · go_enter Try.func105, Try.ntmps105
      go_wp2_with fail
      refine (next_any g A w hC (by omega)).mono ?_
      rintro e w1 ⟨r, rfl, hr0, hr1, hC1, g1⟩
      go_wp2_with fail
      refine (next_any g (A + 1) w1 hC1 (by omega)).mono ?_
      rintro e w2 ⟨q, rfl, hq0, hq1, hC2, g2⟩
      go_wp2
      go_ret
      exact ⟨_, rfl, Int.emod_nonneg _ (by omega), .inl (Int.emod_lt_of_pos _ (by omega)), hC2, grownBy_trans g1 g2⟩
    · go_enter Try.func105, Try.ntmps105
      go_wp2_with fail
      refine (next_any g A w hC (by omega)).mono ?_
      rintro e w1 ⟨r, rfl, hr0, hr1, hC1, g1⟩
      go_wp2
      go_ret
      exact ⟨_, rfl, Int.emod_nonneg _ (by omega), .inl (Int.emod_lt_of_pos _ (by omega)), hC1.mono (by omega), g1⟩

theorem one_any (g A : Nat) (n : Int) (w : World) (hC : Cur g A w) (hA : A ≤ 1000000000000) (hn : I64 n) :
    Calls Try.prog 98 #[.pointer (some ⟨g, 0, none⟩), .int .i64 n] w fun e w' => ∃ b : Bool, e = .returned (.bool b) ∧ Cur g (A + 2) w' ∧ w.grownBy w' (some g) := by
  go_enter Try.func98, Try.ntmps98
  go_wp2_with fail
  refine (pick_any g A n w hC hA hn).mono ?_
  rintro e w1 ⟨r, rfl, hr0, hr1, hC1, g1⟩
  go_wp2
  go_ret
  exact ⟨_, rfl, hC1, g1⟩

/-- One of some numbers. -/
theorem among_any (g A : Nat) (b n c : Nat) (Q : Int → Prop) (w : World) (hC : Cur g A w) (hA : A ≤ 1000000000000) (hn : 0 < n) (hn2 : n ≤ 1000000) (hb : b ≠ g) (hL : ∀ i, i < n → ∃ x, w.cell? ⟨b, i, none⟩ = some (.int .i64 x) ∧ Q x) :
    Calls Try.prog 96 #[.pointer (some ⟨g, 0, none⟩), .slice (some ⟨b, 0, none⟩) n c] w fun e w' => ∃ x : Int, e = .returned (.int .i64 x) ∧ Q x ∧ Cur g (A + 2) w' ∧ w.grownBy w' (some g) := by
  have hnb : b ≠ g := hb
  go_enter Try.func96, Try.ntmps96
  go_wp2_with fail
  refine (pick_any g A n w hC hA (by unfold I64; omega)).mono ?_
  rintro e w1 ⟨r, rfl, hr0, hr1, hC1, g1⟩
  obtain ⟨q, rfl⟩ := Int.eq_ofNat_of_zero_le hr0
  have hq : q < n := by omega
  obtain ⟨x, hx, hQ⟩ := hL q hq
  have hx1 := g1.cell hx (by simp; exact fun e => hb e)
  have i1 : (q : Int) < (n : Int) := by omega
  clear hL hx hr1
  go_wp2
  go_ret
  exact ⟨x, rfl, hQ, hC1, g1⟩

end Go.Proofs.Ytojipjjfndgbhaa
