import Derived.Test.YtojipjjfndgbhaaZH17
import Derived.Test.YtojipjjfndgbhaaZH20
import Derived.Test.YtojipjjfndgbhaaZH23
/- Houses that are being drawn: what is kept. -/
set_option linter.unusedVariables false
namespace Go.Proofs.Ytojipjjfndgbhaa
open Go.ChangeShapes Go.WideShapes Go.ChangeAt Go.RowKit
def I64H (h : HSt) : Prop := I64 h.t ∧ I64 h.s ∧ I64 h.u ∧ I64 h.v
/-- A house of a call's own: its prices lie apart from its tree. -/
structure HsN (L B : Nat) (w : World) (p q a : Option Addr) (n c m d l b : Nat) (h : HSt) : Prop where
  op : Own B w p n c h.P
  oq : Own B w q m d h.W
  ox : Own B w a l b h.X
  ap : Apart p a
  aq : Apart q a
  I : I64H h
  le : n ≤ L ∧ m ≤ L ∧ l ≤ L
section
variable {L L' B B' g A : Nat} {w w' : World} {p q a : Option Addr} {n c m d l b : Nat} {h : HSt}
theorem HsN.fr (H : HsN L B w p q a n c m d l b h) (f : Fr w w') : HsN L B w' p q a n c m d l b h := ⟨H.op.fr f, H.oq.fr f, H.ox.fr f, H.ap, H.aq, H.I, H.le⟩
theorem HsN.dr (H : HsN L B w p q a n c m d l b h) (E : Dr g A w w') (hg : g < B) : HsN L B w' p q a n c m d l b h := ⟨E.own H.op hg, E.own H.oq hg, E.own H.ox hg, H.ap, H.aq, H.I, H.le⟩
theorem HsN.mono (H : HsN L B w p q a n c m d l b h) (hB : B' ≤ B) (hL : L ≤ L') : HsN L' B' w p q a n c m d l b h := ⟨H.op.mono hB, H.oq.mono hB, H.ox.mono hB, H.ap, H.aq, H.I, by have := H.le; omega⟩
/-- A store elsewhere. -/
theorem HsN.other (H : HsN L B w p q a n c m d l b h) {k : Addr} (h1 : blkOf p ≠ some k.block) (h2 : blkOf q ≠ some k.block) (h3 : blkOf a ≠ some k.block) (v : Value) : HsN L B (w.setCell k v) p q a n c m d l b h :=
  ⟨H.op.setOther h1 v, H.oq.setOther h2 v, H.ox.setOther h3 v, H.ap, H.aq, H.I, H.le⟩
theorem HsN.set7 (H : HsN L B w p q a n c m d l b h) {k : Nat} (hk : blkOf p ≠ some k ∧ blkOf q ≠ some k ∧ blkOf a ≠ some k) (v0 v1 v2 v3 v4 v5 v6 : Value) :
    HsN L B (((((((w.setCell ⟨k, 0, none⟩ v0).setCell ⟨k, 1, none⟩ v1).setCell ⟨k, 2, none⟩ v2).setCell ⟨k, 3, none⟩ v3).setCell ⟨k, 4, none⟩ v4).setCell ⟨k, 5, none⟩ v5).setCell ⟨k, 6, none⟩ v6) p q a n c m d l b h := by
  obtain ⟨h1, h2, h3⟩ := hk
  exact ((((((H.other (k := ⟨k, 0, none⟩) h1 h2 h3 v0).other (k := ⟨k, 1, none⟩) h1 h2 h3 v1).other (k := ⟨k, 2, none⟩) h1 h2 h3 v2).other (k := ⟨k, 3, none⟩) h1 h2 h3 v3).other (k := ⟨k, 4, none⟩) h1 h2 h3 v4).other (k := ⟨k, 5, none⟩) h1 h2 h3 v5).other (k := ⟨k, 6, none⟩) h1 h2 h3 v6
/-- Its slices lie in no block below its floor. -/
theorem HsN.low (H : HsN L B w p q a n c m d l b h) {k : Nat} (hk : k < B) : blkOf p ≠ some k ∧ blkOf q ≠ some k ∧ blkOf a ≠ some k :=
  ⟨fun e => by have := (H.op.blk k e).1; omega, fun e => by have := (H.oq.blk k e).1; omega, fun e => by have := (H.ox.blk k e).1; omega⟩
theorem HsN.high (H : HsN L B w p q a n c m d l b h) {k : Nat} (hk : w.heap.size ≤ k) : blkOf p ≠ some k ∧ blkOf q ≠ some k ∧ blkOf a ≠ some k :=
  ⟨fun e => by have := (H.op.blk k e).2; omega, fun e => by have := (H.oq.blk k e).2; omega, fun e => by have := (H.ox.blk k e).2; omega⟩
theorem Dr.set7 {w0 w1 : World} {k : Nat} (D : Dr g A w0 w1) (hk : w0.heap.size ≤ k) (hg : g < w0.heap.size) (v0 v1 v2 v3 v4 v5 v6 : Value) :
    Dr g A w0 (((((((w1.setCell ⟨k, 0, none⟩ v0).setCell ⟨k, 1, none⟩ v1).setCell ⟨k, 2, none⟩ v2).setCell ⟨k, 3, none⟩ v3).setCell ⟨k, 4, none⟩ v4).setCell ⟨k, 5, none⟩ v5).setCell ⟨k, 6, none⟩ v6) :=
  ((((((D.set (q := ⟨k, 0, none⟩) hk hg v0).set (q := ⟨k, 1, none⟩) hk hg v1).set (q := ⟨k, 2, none⟩) hk hg v2).set (q := ⟨k, 3, none⟩) hk hg v3).set (q := ⟨k, 4, none⟩) hk hg v4).set (q := ⟨k, 5, none⟩) hk hg v5).set (q := ⟨k, 6, none⟩) hk hg v6
end
/-- A new house and a bool: a good one is valid. -/
def RetN (w : World) (e : Ending) (w' : World) : Prop := ∃ (h : HSt) (bb : Bool) (p q a : Option Addr) (n c m d l b : Nat),
  e = .returned (.tuple #[.agg #[.slice p n c, .slice q m d, .slice a l b, .int .i64 h.t, .int .i64 h.s, .int .i64 h.u, .int .i64 h.v], .bool bb]) ∧ (bb = true → hOk h = true) ∧ HsN 50 w.heap.size w' p q a n c m d l b h ∧ Fr w w'
theorem RetHB.retN {P W X : List Int} {x s u v : Int} {bb : Bool} {w w' : World} {e : Ending} (H : RetHB P W X x s u v bb w e w') (hok : bb = true → houseB P W X x s u v = true) (hI : I64 x ∧ I64 s ∧ I64 u ∧ I64 v) (hl : P.length ≤ 50 ∧ W.length ≤ 50 ∧ X.length ≤ 50) : RetN w e w' := by
  obtain ⟨p, n, c, q, m, d, a, l, k, M, N, rfl, o1, o2, o3, W1, W2, y1, y2, y3, f, _⟩ := H
  refine ⟨⟨P, W, X, x, s, u, v⟩, bb, p, q, a, n, c, m, d, l, k, rfl, hok, ⟨o1, o2.mono y1, o3.mono (by omega), fun z e1 e2 => ?_, fun z e1 e2 => ?_, hI, ?_⟩, f⟩
  · have := W1 z e1; have := (o3.blk z e2).1; omega
  · have := W2 z e1; have := (o3.blk z e2).1; omega
  · have h1 := o1.len; have h2 := o2.len; have h3 := o3.len
    omega
theorem hOk_len {h : HSt} (ho : hOk h = true) : h.P.length ≤ 24 ∧ h.W.length ≤ 24 ∧ h.X.length ≤ 24 := by
  have h2 : houseB h.P h.W h.X h.t h.s h.u h.v = true := ho
  simp only [houseB, Bool.and_eq_true] at h2
  have := l3B_len h2.1.1.1.1
  omega
theorem zeroI : I64 0 := by unfold I64; omega
theorem l12Do_st (w : World) (p q a : Option Addr) (n c m d l b : Nat) (h : HSt) (kd A B : Int) (hP : SL w p n c h.P) (hW : SL w q m d h.W) (hX : SL w a l b h.X) (ho : hOk h = true) (hz : I64 kd ∧ I64 A ∧ I64 B) :
    Calls Try.prog 92 #[.agg #[.slice p n c, .slice q m d, .slice a l b, .int .i64 h.t, .int .i64 h.s, .int .i64 h.u, .int .i64 h.v], .agg #[.int .i64 kd, .int .i64 A, .int .i64 B]] w (RetN w) := by
  obtain ⟨i1, i2, i3, i4⟩ := hOk_bd ho
  refine (l12Do_any w p q a n c m d l b h.P h.W h.X h.t h.s h.u h.v kd A B hP hW hX i1 i2 i3 i4 hz.1 hz.2.1 hz.2.2 ho).mono ?_
  intro e w' H
  cases hg : goB h.P h.W h.X h.t h.s h.u h.v kd A B
  · rw [hg] at H
    exact RetHB.retN H (fun e => by cases e) ⟨zeroI, zeroI, zeroI, zeroI⟩ (by simp [nhV])
  · have h1 : hOk (hStep h (kd, A, B)) = true := hGo_ok (h := h) (d := (kd, A, B)) hg
    rw [hg] at H
    exact RetHB.retN H (fun _ => h1) (hOk_bd h1) (by have := hOk_len h1; exact ⟨Nat.le_trans this.1 (by omega), Nat.le_trans this.2.1 (by omega), Nat.le_trans this.2.2 (by omega)⟩)
theorem NewHouse_st (w : World) (p q : Option Addr) (n c m d : Nat) (P W : List Int) (a : Option Addr) (l b : Nat) (X : List Int) (hP : SL w p n c P) (hW : SL w q m d W) (hX : SL w a l b X) :
    Calls Try.prog 21 #[.agg #[.slice p n c, .slice q m d], .slice a l b] w (RetN w) := by
  refine (spec_NewHouse_any w p q n c m d P W a l b X hP hW hX).mono ?_
  intro e w' H
  cases hg : l3B P W X
  · rw [hg] at H
    exact RetHB.retN H (fun e => by cases e) ⟨zeroI, zeroI, zeroI, zeroI⟩ (by simp [nhV])
  · have h1 : houseB P W X 0 0 0 0 = true := by rw [houseB_zero]; exact hg
    have hl := l3B_len hg
    rw [hg] at H
    exact RetHB.retN H (fun _ => h1) ⟨zeroI, zeroI, zeroI, zeroI⟩ (by simp only [nhV, cond_true]; omega)
/-- A house in a box, that is being drawn. -/
structure HoI (L : Nat) (w : World) (g A k : Nat) (p q a : Option Addr) (n c m d l b : Nat) (h : HSt) (wr : World) : Prop where
  B : Blk wr k #[.slice p n c, .slice q m d, .slice a l b, .int .i64 h.t, .int .i64 h.s, .int .i64 h.u, .int .i64 h.v] 31
  N : HsN L w.heap.size wr p q a n c m d l b h
  ne : blkOf p ≠ some k ∧ blkOf q ≠ some k ∧ blkOf a ≠ some k
  D : Dr g A w wr
  lo : w.heap.size ≤ k
section
variable {L L' g A A' k : Nat} {w wr w' : World} {p q a : Option Addr} {n c m d l b : Nat} {h : HSt}
theorem HoI.mono (H : HoI L w g A k p q a n c m d l b h wr) (hA : A ≤ A') : HoI L w g A' k p q a n c m d l b h wr := ⟨H.B, H.N, H.ne, H.D.mono hA, H.lo⟩
theorem HoI.fr (H : HoI L w g A k p q a n c m d l b h wr) (f : Fr wr w') : HoI L w g A k p q a n c m d l b h w' := ⟨H.B.fr f, H.N.fr f, H.ne, H.D.fr f, H.lo⟩
theorem HoI.step (H : HoI L w g A k p q a n c m d l b h wr) (hg : g < w.heap.size) (E : Dr g A' wr w') : HoI L w g A' k p q a n c m d l b h w' := by
  have := H.lo
  exact ⟨E.blk H.B (by omega), H.N.dr E hg, H.ne, H.D.trans E, H.lo⟩
theorem HoI.set7 (H : HoI L w g A k p q a n c m d l b h wr) (hg : g < w.heap.size) {j : Nat} (hj : w.heap.size ≤ j) (hk : j ≠ k) (hn : blkOf p ≠ some j ∧ blkOf q ≠ some j ∧ blkOf a ≠ some j) (v0 v1 v2 v3 v4 v5 v6 : Value) :
    HoI L w g A k p q a n c m d l b h (((((((wr.setCell ⟨j, 0, none⟩ v0).setCell ⟨j, 1, none⟩ v1).setCell ⟨j, 2, none⟩ v2).setCell ⟨j, 3, none⟩ v3).setCell ⟨j, 4, none⟩ v4).setCell ⟨j, 5, none⟩ v5).setCell ⟨j, 6, none⟩ v6) :=
  ⟨H.B.other7 hk _ _ _ _ _ _ _, H.N.set7 hn _ _ _ _ _ _ _, H.ne, H.D.set7 hj hg _ _ _ _ _ _ _, H.lo⟩
theorem HoI.setT (H : HoI L w g A k p q a n c m d l b h wr) (hg : g < w.heap.size) {z : Int} (hz : I64 z) : HoI L w g A k p q a n c m d l b ⟨h.P, h.W, h.X, z, h.s, h.u, h.v⟩ (wr.setCell ⟨k, 3, none⟩ (.int .i64 z)) := by
  have E := H.B.set 3 (.int .i64 z)
  simp only [List.setIfInBounds_toArray, List.set_cons_zero, List.set_cons_succ] at E
  have N := H.N.other (k := ⟨k, 3, none⟩) H.ne.1 H.ne.2.1 H.ne.2.2 (.int .i64 z)
  exact ⟨E, ⟨N.op, N.oq, N.ox, N.ap, N.aq, ⟨hz, H.N.I.2⟩, N.le⟩, H.ne, H.D.set (q := ⟨k, 3, none⟩) H.lo hg _, H.lo⟩
theorem HoI.setS (H : HoI L w g A k p q a n c m d l b h wr) (hg : g < w.heap.size) {z : Int} (hz : I64 z) : HoI L w g A k p q a n c m d l b ⟨h.P, h.W, h.X, h.t, z, h.u, h.v⟩ (wr.setCell ⟨k, 4, none⟩ (.int .i64 z)) := by
  have E := H.B.set 4 (.int .i64 z)
  simp only [List.setIfInBounds_toArray, List.set_cons_zero, List.set_cons_succ] at E
  have N := H.N.other (k := ⟨k, 4, none⟩) H.ne.1 H.ne.2.1 H.ne.2.2 (.int .i64 z)
  exact ⟨E, ⟨N.op, N.oq, N.ox, N.ap, N.aq, ⟨H.N.I.1, hz, H.N.I.2.2⟩, N.le⟩, H.ne, H.D.set (q := ⟨k, 4, none⟩) H.lo hg _, H.lo⟩
theorem HoI.setU (H : HoI L w g A k p q a n c m d l b h wr) (hg : g < w.heap.size) {z : Int} (hz : I64 z) : HoI L w g A k p q a n c m d l b ⟨h.P, h.W, h.X, h.t, h.s, z, h.v⟩ (wr.setCell ⟨k, 5, none⟩ (.int .i64 z)) := by
  have E := H.B.set 5 (.int .i64 z)
  simp only [List.setIfInBounds_toArray, List.set_cons_zero, List.set_cons_succ] at E
  have N := H.N.other (k := ⟨k, 5, none⟩) H.ne.1 H.ne.2.1 H.ne.2.2 (.int .i64 z)
  exact ⟨E, ⟨N.op, N.oq, N.ox, N.ap, N.aq, ⟨H.N.I.1, H.N.I.2.1, hz, H.N.I.2.2.2⟩, N.le⟩, H.ne, H.D.set (q := ⟨k, 5, none⟩) H.lo hg _, H.lo⟩
theorem HoI.setV (H : HoI L w g A k p q a n c m d l b h wr) (hg : g < w.heap.size) {z : Int} (hz : I64 z) : HoI L w g A k p q a n c m d l b ⟨h.P, h.W, h.X, h.t, h.s, h.u, z⟩ (wr.setCell ⟨k, 6, none⟩ (.int .i64 z)) := by
  have E := H.B.set 6 (.int .i64 z)
  simp only [List.setIfInBounds_toArray, List.set_cons_zero, List.set_cons_succ] at E
  have N := H.N.other (k := ⟨k, 6, none⟩) H.ne.1 H.ne.2.1 H.ne.2.2 (.int .i64 z)
  exact ⟨E, ⟨N.op, N.oq, N.ox, N.ap, N.aq, ⟨H.N.I.1, H.N.I.2.1, H.N.I.2.2.1, hz⟩, N.le⟩, H.ne, H.D.set (q := ⟨k, 6, none⟩) H.lo hg _, H.lo⟩
theorem HoI.appX (H : HoI L w g A k p q a n c m d l b h wr) (hg : g < w.heap.size) {g' c' : Nat} {X' : List Int} (ho : Own w.heap.size w' (some ⟨g', 0, none⟩) (l + 1) c' X') (hgr : wr.grownBy w' (blkOf a)) (hnew : blkOf a = some g' ∨ wr.heap.size ≤ g') :
    HoI (L + 1) w g A k p q (some ⟨g', 0, none⟩) n c m d (l + 1) c' ⟨h.P, h.W, X', h.t, h.s, h.u, h.v⟩ (w'.setCell ⟨k, 2, none⟩ (.slice (some ⟨g', 0, none⟩) (l + 1) c')) := by
  have hlt := H.B.lt
  have hne : g' ≠ k := by
    rintro rfl
    rcases hnew with e | e
    · exact H.ne.2.2 e
    · omega
  have E := (H.B.grown hgr H.ne.2.2).set 2 (.slice (some ⟨g', 0, none⟩) (l + 1) c')
  simp only [List.setIfInBounds_toArray, List.set_cons_zero, List.set_cons_succ] at E
  have hx : blkOf (some ⟨g', 0, none⟩ : Option Addr) ≠ some k := fun e => hne (by injection e)
  have o1 := (own_row H.N.op hgr (fun z e1 e2 => H.N.ap z e2 e1)).setOther (p := ⟨k, 2, none⟩) H.ne.1 (.slice (some ⟨g', 0, none⟩) (l + 1) c')
  have o2 := (own_row H.N.oq hgr (fun z e1 e2 => H.N.aq z e2 e1)).setOther (p := ⟨k, 2, none⟩) H.ne.2.1 (.slice (some ⟨g', 0, none⟩) (l + 1) c')
  have o3 := ho.setOther (p := ⟨k, 2, none⟩) hx (.slice (some ⟨g', 0, none⟩) (l + 1) c')
  refine ⟨E, ⟨o1, o2, o3, fun z e1 e2 => ?_, fun z e1 e2 => ?_, H.N.I, by have := H.N.le; omega⟩, ⟨H.ne.1, H.ne.2.1, hx⟩, (H.D.app hgr (fun z e => (H.N.ox.blk z e).1) hg).set (q := ⟨k, 2, none⟩) H.lo hg _, H.lo⟩
  · obtain rfl : g' = z := by simpa [blkOf] using e2
    rcases hnew with e | e
    · exact H.N.ap g' e1 e
    · have := (H.N.op.blk g' e1).2; omega
  · obtain rfl : g' = z := by simpa [blkOf] using e2
    rcases hnew with e | e
    · exact H.N.aq g' e1 e
    · have := (H.N.oq.blk g' e1).2; omega
theorem HoI.wide (H : HoI L w g A k p q a n c m d l b h wr) (hL : L ≤ L') : HoI L' w g A k p q a n c m d l b h wr := ⟨H.B, H.N.mono (Nat.le_refl _) hL, H.ne, H.D, H.lo⟩
theorem HoI.c0 (H : HoI L w g A k p q a n c m d l b h wr) : wr.cell? ⟨k, 0, none⟩ = some (.slice p n c) := H.B.cell (j := 0) rfl
theorem HoI.c1 (H : HoI L w g A k p q a n c m d l b h wr) : wr.cell? ⟨k, 1, none⟩ = some (.slice q m d) := H.B.cell (j := 1) rfl
theorem HoI.c2 (H : HoI L w g A k p q a n c m d l b h wr) : wr.cell? ⟨k, 2, none⟩ = some (.slice a l b) := H.B.cell (j := 2) rfl
theorem HoI.c3 (H : HoI L w g A k p q a n c m d l b h wr) : wr.cell? ⟨k, 3, none⟩ = some (.int .i64 h.t) := H.B.cell (j := 3) rfl
theorem HoI.c4 (H : HoI L w g A k p q a n c m d l b h wr) : wr.cell? ⟨k, 4, none⟩ = some (.int .i64 h.s) := H.B.cell (j := 4) rfl
theorem HoI.c5 (H : HoI L w g A k p q a n c m d l b h wr) : wr.cell? ⟨k, 5, none⟩ = some (.int .i64 h.u) := H.B.cell (j := 5) rfl
theorem HoI.c6 (H : HoI L w g A k p q a n c m d l b h wr) : wr.cell? ⟨k, 6, none⟩ = some (.int .i64 h.v) := H.B.cell (j := 6) rfl
theorem HoI.all (H : HoI L w g A k p q a n c m d l b h wr) : wr.cell? ⟨k, 0, none⟩ = some (.slice p n c) ∧ wr.cell? ⟨k, 1, none⟩ = some (.slice q m d) ∧ wr.cell? ⟨k, 2, none⟩ = some (.slice a l b) ∧ wr.cell? ⟨k, 3, none⟩ = some (.int .i64 h.t) ∧ wr.cell? ⟨k, 4, none⟩ = some (.int .i64 h.s) ∧ wr.cell? ⟨k, 5, none⟩ = some (.int .i64 h.u) ∧ wr.cell? ⟨k, 6, none⟩ = some (.int .i64 h.v) := ⟨H.c0, H.c1, H.c2, H.c3, H.c4, H.c5, H.c6⟩
theorem HoI.all7 (H : HoI L w g A k p q a n c m d l b h wr) {j : Nat} (hj : j ≠ k) (v0 v1 v2 v3 v4 v5 v6 : Value) :
    (((((((wr.setCell ⟨j, 0, none⟩ v0).setCell ⟨j, 1, none⟩ v1).setCell ⟨j, 2, none⟩ v2).setCell ⟨j, 3, none⟩ v3).setCell ⟨j, 4, none⟩ v4).setCell ⟨j, 5, none⟩ v5).setCell ⟨j, 6, none⟩ v6).cell? ⟨k, 0, none⟩ = some (.slice p n c) ∧
    (((((((wr.setCell ⟨j, 0, none⟩ v0).setCell ⟨j, 1, none⟩ v1).setCell ⟨j, 2, none⟩ v2).setCell ⟨j, 3, none⟩ v3).setCell ⟨j, 4, none⟩ v4).setCell ⟨j, 5, none⟩ v5).setCell ⟨j, 6, none⟩ v6).cell? ⟨k, 1, none⟩ = some (.slice q m d) ∧
    (((((((wr.setCell ⟨j, 0, none⟩ v0).setCell ⟨j, 1, none⟩ v1).setCell ⟨j, 2, none⟩ v2).setCell ⟨j, 3, none⟩ v3).setCell ⟨j, 4, none⟩ v4).setCell ⟨j, 5, none⟩ v5).setCell ⟨j, 6, none⟩ v6).cell? ⟨k, 2, none⟩ = some (.slice a l b) ∧
    (((((((wr.setCell ⟨j, 0, none⟩ v0).setCell ⟨j, 1, none⟩ v1).setCell ⟨j, 2, none⟩ v2).setCell ⟨j, 3, none⟩ v3).setCell ⟨j, 4, none⟩ v4).setCell ⟨j, 5, none⟩ v5).setCell ⟨j, 6, none⟩ v6).cell? ⟨k, 3, none⟩ = some (.int .i64 h.t) ∧
    (((((((wr.setCell ⟨j, 0, none⟩ v0).setCell ⟨j, 1, none⟩ v1).setCell ⟨j, 2, none⟩ v2).setCell ⟨j, 3, none⟩ v3).setCell ⟨j, 4, none⟩ v4).setCell ⟨j, 5, none⟩ v5).setCell ⟨j, 6, none⟩ v6).cell? ⟨k, 4, none⟩ = some (.int .i64 h.s) ∧
    (((((((wr.setCell ⟨j, 0, none⟩ v0).setCell ⟨j, 1, none⟩ v1).setCell ⟨j, 2, none⟩ v2).setCell ⟨j, 3, none⟩ v3).setCell ⟨j, 4, none⟩ v4).setCell ⟨j, 5, none⟩ v5).setCell ⟨j, 6, none⟩ v6).cell? ⟨k, 5, none⟩ = some (.int .i64 h.u) ∧
    (((((((wr.setCell ⟨j, 0, none⟩ v0).setCell ⟨j, 1, none⟩ v1).setCell ⟨j, 2, none⟩ v2).setCell ⟨j, 3, none⟩ v3).setCell ⟨j, 4, none⟩ v4).setCell ⟨j, 5, none⟩ v5).setCell ⟨j, 6, none⟩ v6).cell? ⟨k, 6, none⟩ = some (.int .i64 h.v) :=
  ⟨(cell7 _ _ _ _ _ _ _ hj).trans H.c0, (cell7 _ _ _ _ _ _ _ hj).trans H.c1, (cell7 _ _ _ _ _ _ _ hj).trans H.c2, (cell7 _ _ _ _ _ _ _ hj).trans H.c3, (cell7 _ _ _ _ _ _ _ hj).trans H.c4, (cell7 _ _ _ _ _ _ _ hj).trans H.c5, (cell7 _ _ _ _ _ _ _ hj).trans H.c6⟩
/-- The box holds another house, of the call's own. -/
theorem HoI.put {p' q' a' : Option Addr} {n' c' m' d' l' b' B : Nat} {h' : HSt} (H : HoI L w g A k p q a n c m d l b h wr) (hg : g < w.heap.size) (N : HsN L' B wr p' q' a' n' c' m' d' l' b' h') (hB : w.heap.size ≤ B) (hk : blkOf p' ≠ some k ∧ blkOf q' ≠ some k ∧ blkOf a' ≠ some k) :
    HoI L' w g A k p' q' a' n' c' m' d' l' b' h' (((((((wr.setCell ⟨k, 0, none⟩ (.slice p' n' c')).setCell ⟨k, 1, none⟩ (.slice q' m' d')).setCell ⟨k, 2, none⟩ (.slice a' l' b')).setCell ⟨k, 3, none⟩ (.int .i64 h'.t)).setCell ⟨k, 4, none⟩ (.int .i64 h'.s)).setCell ⟨k, 5, none⟩ (.int .i64 h'.u)).setCell ⟨k, 6, none⟩ (.int .i64 h'.v)) :=
  ⟨H.B.set7 _ _ _ _ _ _ _, (N.mono hB (Nat.le_refl _)).set7 hk _ _ _ _ _ _ _, hk, H.D.set7 H.lo hg _ _ _ _ _ _ _, H.lo⟩
end
/-- A house, its old box and its new one. -/
structure NxI (L : Nat) (w : World) (g A k j : Nat) (p q a : Option Addr) (n c m d l b : Nat) (h : HSt) (B : Nat) (p' q' a' : Option Addr) (n' c' m' d' l' b' : Nat) (h' : HSt) (wr : World) : Prop where
  S : HoI L w g A k p q a n c m d l b h wr
  Z : Blk wr j #[.slice p' n' c', .slice q' m' d', .slice a' l' b', .int .i64 h'.t, .int .i64 h'.s, .int .i64 h'.u, .int .i64 h'.v] 31
  N : HsN 50 B wr p' q' a' n' c' m' d' l' b' h'
theorem NxI.made {L g A k B B0 : Nat} {w wr : World} {p q a p' q' a' : Option Addr} {n c m d l b n' c' m' d' l' b' : Nat} {h h' : HSt} (S : HoI L w g A k p q a n c m d l b h wr) (N : HsN 50 B0 wr p' q' a' n' c' m' d' l' b' h') (hB : B ≤ B0) :
    NxI L w g A k wr.heap.size p q a n c m d l b h B p' q' a' n' c' m' d' l' b' h' (wr.alloc (.cells #[.slice p' n' c', .slice q' m' d', .slice a' l' b', .int .i64 h'.t, .int .i64 h'.s, .int .i64 h'.u, .int .i64 h'.v] 31)) :=
  ⟨S.fr ((Fr.refl _).alloc _), Blk.new _ _ _, (N.mono hB (Nat.le_refl _)).fr ((Fr.refl _).alloc _)⟩
theorem NxI.of {L g A k j B B0 : Nat} {w wr : World} {p q a p' q' a' : Option Addr} {n c m d l b n' c' m' d' l' b' : Nat} {h h' : HSt} {z0 z1 z2 z3 z4 z5 z6 : Value} (S : HoI L w g A k p q a n c m d l b h wr) (Z : Blk wr j #[z0, z1, z2, z3, z4, z5, z6] 31) (N : HsN 50 B0 wr p' q' a' n' c' m' d' l' b' h') (hB : B ≤ B0) (hg : g < w.heap.size) (hj : w.heap.size ≤ j) (hk : j ≠ k) (hn : blkOf p ≠ some j ∧ blkOf q ≠ some j ∧ blkOf a ≠ some j) (hjB : j < B0) :
    NxI L w g A k j p q a n c m d l b h B p' q' a' n' c' m' d' l' b' h' (((((((wr.setCell ⟨j, 0, none⟩ (.slice p' n' c')).setCell ⟨j, 1, none⟩ (.slice q' m' d')).setCell ⟨j, 2, none⟩ (.slice a' l' b')).setCell ⟨j, 3, none⟩ (.int .i64 h'.t)).setCell ⟨j, 4, none⟩ (.int .i64 h'.s)).setCell ⟨j, 5, none⟩ (.int .i64 h'.u)).setCell ⟨j, 6, none⟩ (.int .i64 h'.v)) :=
  ⟨S.set7 hg hj hk hn _ _ _ _ _ _ _, Z.set7 _ _ _ _ _ _ _, (N.mono hB (Nat.le_refl _)).set7 (N.low hjB) _ _ _ _ _ _ _⟩
theorem HoI.made {L g A B : Nat} {w wr : World} {p q a : Option Addr} {n c m d l b : Nat} {h : HSt} (N : HsN L B wr p q a n c m d l b h) (hB : w.heap.size ≤ B) (D : Dr g A w wr) :
    HoI L w g A wr.heap.size p q a n c m d l b h (wr.alloc (.cells #[.slice p n c, .slice q m d, .slice a l b, .int .i64 h.t, .int .i64 h.s, .int .i64 h.u, .int .i64 h.v] 31)) :=
  ⟨Blk.new _ _ _, (N.mono hB (Nat.le_refl _)).fr ((Fr.refl _).alloc _), N.high (Nat.le_refl _), D.fr ((Fr.refl _).alloc _), D.size⟩
/-- A box of zeros that gets a house. -/
theorem HoI.of {L g A k B : Nat} {w wr : World} {p q a : Option Addr} {n c m d l b : Nat} {h : HSt} {z0 z1 z2 z3 z4 z5 z6 : Value} (Z : Blk wr k #[z0, z1, z2, z3, z4, z5, z6] 31) (N : HsN L B wr p q a n c m d l b h) (hB : w.heap.size ≤ B) (hk : blkOf p ≠ some k ∧ blkOf q ≠ some k ∧ blkOf a ≠ some k) (D : Dr g A w wr) (hg : g < w.heap.size) (lo : w.heap.size ≤ k) :
    HoI L w g A k p q a n c m d l b h (((((((wr.setCell ⟨k, 0, none⟩ (.slice p n c)).setCell ⟨k, 1, none⟩ (.slice q m d)).setCell ⟨k, 2, none⟩ (.slice a l b)).setCell ⟨k, 3, none⟩ (.int .i64 h.t)).setCell ⟨k, 4, none⟩ (.int .i64 h.s)).setCell ⟨k, 5, none⟩ (.int .i64 h.u)).setCell ⟨k, 6, none⟩ (.int .i64 h.v)) :=
  ⟨Z.set7 _ _ _ _ _ _ _, (N.mono hB (Nat.le_refl _)).set7 hk _ _ _ _ _ _ _, hk, D.set7 lo hg _ _ _ _ _ _ _, lo⟩
end Go.Proofs.Ytojipjjfndgbhaa
