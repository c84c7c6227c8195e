import Derived.Test.YtojipjjfndgbhaaZV05
/- Contracts of houses of their own: own, l12Own, NewHouse. -/
set_option linter.unusedVariables false
namespace Go.Proofs.Ytojipjjfndgbhaa
open Go.ChangeShapes Go.WideShapes Go.ChangeAt Go.RowKit

set_option maxRecDepth 100000 in
set_option maxHeartbeats 1000000 in
theorem own_any (w : World) (p q a : Option Addr) (n c m d l b : Nat) (P W X : List Int) (x s u v : Int) (hP : SL w p n c P) (hW : SL w q m d W) (hX : SL w a l b X) (hn : n ≤ 1048576) (hm : m ≤ 1048576) (hl : l ≤ 1048576) :
    Calls Try.prog 75 #[.agg #[.slice p n c, .slice q m d, .slice a l b, .int .i64 x, .int .i64 s, .int .i64 u, .int .i64 v]] w (RetH P W X x s u v w) := by
  have hb0 := (Blk.new w #[.slice p n c, .slice q m d, .slice a l b, .int .i64 x, .int .i64 s, .int .i64 u, .int .i64 v] 31).alloc (.cells #[.slice none 0 0, .slice none 0 0, .slice none 0 0, .int .i64 0, .int .i64 0, .int .i64 0, .int .i64 0] 31)
  have hb1 := Blk.new (w.alloc (.cells #[.slice p n c, .slice q m d, .slice a l b, .int .i64 x, .int .i64 s, .int .i64 u, .int .i64 v] 31)) #[.slice none 0 0, .slice none 0 0, .slice none 0 0, .int .i64 0, .int .i64 0, .int .i64 0, .int .i64 0] 31
  have hfr : Fr w ((w.alloc (.cells #[.slice p n c, .slice q m d, .slice a l b, .int .i64 x, .int .i64 s, .int .i64 u, .int .i64 v] 31)).alloc (.cells #[.slice none 0 0, .slice none 0 0, .slice none 0 0, .int .i64 0, .int .i64 0, .int .i64 0, .int .i64 0] 31)) := ((Fr.refl w).alloc _).alloc _
  simp only [World.size_alloc] at hb1
  have H0 := Lib.hid hb0; have H1 := Lib.hid hb1
  clear hb0 hb1
  have hP1 := (hP.fr hfr).drewN 1
  have hW1 := (hW.fr hfr).drewN 1
  go_enter Try.func75, Try.ntmps75
  go_wp2
  generalize hw1 : ((w.alloc (.cells #[.slice p n c, .slice q m d, .slice a l b, .int .i64 x, .int .i64 s, .int .i64 u, .int .i64 v] 31)).alloc (.cells #[.slice none 0 0, .slice none 0 0, .slice none 0 0, .int .i64 0, .int .i64 0, .int .i64 0, .int .i64 0] 31)) = w1 at H0 H1 hfr hP1 hW1 ⊢
  have z1 : w1.heap.size = w.heap.size + 1 + 1 := by rw [← hw1]; simp
  clear hw1
  have Z1 := Lib.hid z1
  clear z1
  have c0 := H0.out.cell (j := 0) rfl
  have c1 := H0.out.cell (j := 1) rfl
  have d0 := (H0.out.fr (Fr.drewN w1 1)).cell (j := 0) rfl
  have d1 := (H0.out.fr (Fr.drewN w1 1)).cell (j := 1) rfl
  go_region_with (first
    | (go_at_call_of 115 (Value.slice p n c); refine (copied_any _ _ _ _ _ hP1 hn).mono ?_; rintro e w2 ⟨a1, n1, c1', rfl, o1, f1, m1⟩; have k0 := (H0.out.fr ((Fr.drewN w1 1).trans f1)).cell (j := 0) rfl; have k1 := (H0.out.fr ((Fr.drewN w1 1).trans f1)).cell (j := 1) rfl)
    | (go_at_call_of 115 (Value.slice q m d); refine (copied_any _ _ _ _ _ (hW1.fr f1) hm).mono ?_; rintro e w3 ⟨a2, n2, c2', rfl, o2, f2, m2⟩; have B0 := Lib.hid (H0.out.fr (((Fr.drewN w1 1).trans f1).trans f2)); have B1 := Lib.hid (H1.out.fr (((Fr.drewN w1 1).trans f1).trans f2)); have j0 := B0.out.cell (j := 0) rfl; have j1 := B0.out.cell (j := 1) rfl; have q0 := B0.out.free 0; have q1 := B0.out.free 1))
  all_goals
    have z2 := f1.size
    have z3 := f2.size
    have z1 := Z1.out
    have z2' : w1.heap.size ≤ w2.heap.size := by simpa using z2
    have hF3 := (((hfr.trans ((Fr.drewN w1 1).trans f1)).trans f2).setCell (p := ⟨w.heap.size, 0, none⟩) (Nat.le_refl _) (.slice a1 n1 c1')).setCell (p := ⟨w.heap.size, 1, none⟩) (Nat.le_refl _) (.slice a2 n2 c2')
    have E0 := Lib.hid ((B0.out.set 0 (.slice a1 n1 c1')).set 1 (.slice a2 n2 c2'))
    have E1 := Lib.hid ((B1.out.other (p := ⟨w.heap.size, 0, none⟩) (by simp) (.slice a1 n1 c1')).other (p := ⟨w.heap.size, 1, none⟩) (by simp) (.slice a2 n2 c2'))
    have o1b := ((o1.mono (B' := w1.heap.size) (by simp)).fr f2).past (p := ⟨w.heap.size, 0, none⟩) (by simp; omega) (.slice a1 n1 c1') |>.past (p := ⟨w.heap.size, 1, none⟩) (by simp; omega) (.slice a2 n2 c2')
    have o2b := o2.past (p := ⟨w.heap.size, 0, none⟩) (by simp; omega) (.slice a1 n1 c1') |>.past (p := ⟨w.heap.size, 1, none⟩) (by simp; omega) (.slice a2 n2 c2')
    have W1 : Within a1 w.heap.size w2.heap.size := fun k hk => by have := o1.blk k hk; simp at this; omega
    have W2 : Within a2 w2.heap.size w3.heap.size := o2.within
    generalize hw4 : ((w3.setCell ⟨w.heap.size, 0, none⟩ (.slice a1 n1 c1')).setCell ⟨w.heap.size, 1, none⟩ (.slice a2 n2 c2')) = w4 at hF3 E0 E1 o1b o2b ⊢
    have z4 : w4.heap.size = w3.heap.size := by rw [← hw4]; simp
    have Z4 := Lib.hid z4
    clear hw4 z4 z1 z2 c0 c1 d0 d1 k0 k1 j0 j1 q0 q1 B0 B1 o1 o2 f1 f2
    have e2 := E0.out.cell (j := 2) (v := .slice a l b) rfl
    go_wp2_with fail
    refine (copied_any _ _ _ _ _ (hX.fr hF3) hl).mono ?_
    rintro e w5 ⟨a3, n3, c3', rfl, o3, f3, m3⟩
    have z5 := f3.size
    have G0 := E0.out.fr f3
    have G1 := E1.out.fr f3
    simp only [List.setIfInBounds_toArray, List.set_cons_zero, List.set_cons_succ] at G0
    clear e2
    have k0 := G0.cell (j := 0) rfl; have k1 := G0.cell (j := 1) rfl; have k2 := G0.cell (j := 2) rfl; have k3 := G0.cell (j := 3) rfl; have k4 := G0.cell (j := 4) rfl; have k5 := G0.cell (j := 5) rfl; have k6 := G0.cell (j := 6) rfl
    have q2 := G0.free 2
    have j0 := G1.cell (j := 0) rfl; have j1 := G1.cell (j := 1) rfl; have j2 := G1.cell (j := 2) rfl; have j3 := G1.cell (j := 3) rfl; have j4 := G1.cell (j := 4) rfl; have j5 := G1.cell (j := 5) rfl; have j6 := G1.cell (j := 6) rfl
    have i0 := G1.free 0; have i1 := G1.free 1; have i2 := G1.free 2; have i3 := G1.free 3; have i4 := G1.free 4; have i5 := G1.free 5; have i6 := G1.free 6
    have D1 := Lib.hid G1
    clear G0 G1
    go_wp2
    have E := ((((((((D1.out.other (p := ⟨w.heap.size, 2, none⟩) (by simp) (.slice a3 n3 c3')).set 0 (.slice a1 n1 c1')).set 1 (.slice a2 n2 c2')).set 2 (.slice a3 n3 c3')).set 3 (.int .i64 x)).set 4 (.int .i64 s)).set 5 (.int .i64 u)).set 6 (.int .i64 v))
    simp only [List.setIfInBounds_toArray, List.set_cons_zero, List.set_cons_succ] at E
    refine bodyPost_ret (results_H Try.results75 _ _ (w.heap.size + 1) _ _ _ _ _ _ _ rfl (E.cell rfl) (E.cell rfl) (E.cell rfl) (E.cell rfl) (E.cell rfl) (E.cell rfl) (E.cell rfl)) rfl ?_
    have z4 := Z4.out
    have z1 := Z1.out
    refine ⟨a1, n1, c1', a2, n2, c2', a3, n3, c3', w2.heap.size, w3.heap.size, rfl, ?_, ?_, ?_, W1, W2, by omega, by omega, by simp; omega, ?_, m1, m2, m3⟩
    · refine Own.mono ?_ (show w.heap.size ≤ w1.heap.size by omega)
      iterate 8 refine Own.past ?_ (by dsimp only; omega) _
      exact o1b.fr f3
    · iterate 8 refine Own.past ?_ (by dsimp only; omega) _
      exact o2b.fr f3
    · rw [← z4]
      iterate 8 refine Own.past ?_ (by dsimp only; omega) _
      exact o3
    · iterate 8 refine Fr.setCell ?_ (by dsimp only; omega) _
      exact hF3.trans f3

set_option maxRecDepth 100000 in
set_option maxHeartbeats 1000000 in
theorem l12Own_any (w : World) (p q a : Option Addr) (n c m d l b : Nat) (P W X : List Int) (x s u v : Int) (hP : SL w p n c P) (hW : SL w q m d W) (hX : SL w a l b X) (hn : n ≤ 1048576) (hm : m ≤ 1048576) (hl : l ≤ 1048576) :
    Calls Try.prog 74 #[.agg #[.slice p n c, .slice q m d, .slice a l b, .int .i64 x, .int .i64 s, .int .i64 u, .int .i64 v]] w (RetH P W X x s u v w) := by
  have hb0 := ((Blk.new w #[.slice p n c, .slice q m d, .slice a l b, .int .i64 x, .int .i64 s, .int .i64 u, .int .i64 v] 31).alloc (.cells #[.slice none 0 0, .slice none 0 0, .slice none 0 0, .int .i64 0, .int .i64 0, .int .i64 0, .int .i64 0] 31)).alloc (.cells #[.slice p n c, .slice q m d, .slice a l b, .int .i64 x, .int .i64 s, .int .i64 u, .int .i64 v] 31)
  have hb1 := (Blk.new (w.alloc (.cells #[.slice p n c, .slice q m d, .slice a l b, .int .i64 x, .int .i64 s, .int .i64 u, .int .i64 v] 31)) #[.slice none 0 0, .slice none 0 0, .slice none 0 0, .int .i64 0, .int .i64 0, .int .i64 0, .int .i64 0] 31).alloc (.cells #[.slice p n c, .slice q m d, .slice a l b, .int .i64 x, .int .i64 s, .int .i64 u, .int .i64 v] 31)
  have hb2 := Blk.new ((w.alloc (.cells #[.slice p n c, .slice q m d, .slice a l b, .int .i64 x, .int .i64 s, .int .i64 u, .int .i64 v] 31)).alloc (.cells #[.slice none 0 0, .slice none 0 0, .slice none 0 0, .int .i64 0, .int .i64 0, .int .i64 0, .int .i64 0] 31)) #[.slice p n c, .slice q m d, .slice a l b, .int .i64 x, .int .i64 s, .int .i64 u, .int .i64 v] 31
  have hfr : Fr w (((w.alloc (.cells #[.slice p n c, .slice q m d, .slice a l b, .int .i64 x, .int .i64 s, .int .i64 u, .int .i64 v] 31)).alloc (.cells #[.slice none 0 0, .slice none 0 0, .slice none 0 0, .int .i64 0, .int .i64 0, .int .i64 0, .int .i64 0] 31)).alloc (.cells #[.slice p n c, .slice q m d, .slice a l b, .int .i64 x, .int .i64 s, .int .i64 u, .int .i64 v] 31)) := (((Fr.refl w).alloc _).alloc _).alloc _
  simp only [World.size_alloc] at hb1 hb2
  have H0 := Lib.hid hb0; have H1 := Lib.hid hb1; have H2 := Lib.hid hb2
  clear hb0 hb1 hb2
  have hP1 := (hP.fr hfr).drewN 1
  have hW1 := (hW.fr hfr).drewN 1
  go_enter Try.func74, Try.ntmps74
  go_wp2
  generalize hw1 : (((w.alloc (.cells #[.slice p n c, .slice q m d, .slice a l b, .int .i64 x, .int .i64 s, .int .i64 u, .int .i64 v] 31)).alloc (.cells #[.slice none 0 0, .slice none 0 0, .slice none 0 0, .int .i64 0, .int .i64 0, .int .i64 0, .int .i64 0] 31)).alloc (.cells #[.slice p n c, .slice q m d, .slice a l b, .int .i64 x, .int .i64 s, .int .i64 u, .int .i64 v] 31)) = w1 at H0 H1 H2 hfr hP1 hW1 ⊢
  have z1 : w1.heap.size = w.heap.size + 1 + 1 + 1 := by rw [← hw1]; simp
  clear hw1
  have Z1 := Lib.hid z1
  clear z1
  have c0 := H0.out.cell (j := 0) rfl
  have c1 := H0.out.cell (j := 1) rfl
  have d0 := (H0.out.fr (Fr.drewN w1 1)).cell (j := 0) rfl
  have d1 := (H0.out.fr (Fr.drewN w1 1)).cell (j := 1) rfl
  go_region_with (first
    | (go_at_call_of 114 (Value.slice p n c); refine (l1Own_any _ _ _ _ _ hP1 hn).mono ?_; rintro e w2 ⟨a1, n1, c1', rfl, o1, f1, m1⟩; have k0 := (H0.out.fr ((Fr.drewN w1 1).trans f1)).cell (j := 0) rfl; have k1 := (H0.out.fr ((Fr.drewN w1 1).trans f1)).cell (j := 1) rfl)
    | (go_at_call_of 114 (Value.slice q m d); refine (l1Own_any _ _ _ _ _ (hW1.fr f1) hm).mono ?_; rintro e w3 ⟨a2, n2, c2', rfl, o2, f2, m2⟩; have B0 := Lib.hid (H0.out.fr (((Fr.drewN w1 1).trans f1).trans f2)); have B1 := Lib.hid (H1.out.fr (((Fr.drewN w1 1).trans f1).trans f2)); have B2 := Lib.hid (H2.out.fr (((Fr.drewN w1 1).trans f1).trans f2)); have j0 := B2.out.cell (j := 0) rfl; have j1 := B2.out.cell (j := 1) rfl; have q0 := B2.out.free 0; have q1 := B2.out.free 1))
  all_goals
    have z2 := f1.size
    have z3 := f2.size
    have z1 := Z1.out
    have z2' : w1.heap.size ≤ w2.heap.size := by simpa using z2
    have hF3 := (((hfr.trans ((Fr.drewN w1 1).trans f1)).trans f2).setCell (p := ⟨w.heap.size + 1 + 1, 0, none⟩) (by dsimp only; omega) (.slice a1 n1 c1')).setCell (p := ⟨w.heap.size + 1 + 1, 1, none⟩) (by dsimp only; omega) (.slice a2 n2 c2')
    have E0 := Lib.hid ((B0.out.other (p := ⟨w.heap.size + 1 + 1, 0, none⟩) (by dsimp only; omega) (.slice a1 n1 c1')).other (p := ⟨w.heap.size + 1 + 1, 1, none⟩) (by dsimp only; omega) (.slice a2 n2 c2'))
    have E1 := Lib.hid ((B1.out.other (p := ⟨w.heap.size + 1 + 1, 0, none⟩) (by dsimp only; omega) (.slice a1 n1 c1')).other (p := ⟨w.heap.size + 1 + 1, 1, none⟩) (by dsimp only; omega) (.slice a2 n2 c2'))
    have E2 := Lib.hid ((B2.out.set 0 (.slice a1 n1 c1')).set 1 (.slice a2 n2 c2'))
    have o1b := ((o1.mono (B' := w1.heap.size) (by simp)).fr f2).past (p := ⟨w.heap.size + 1 + 1, 0, none⟩) (by dsimp only; omega) (.slice a1 n1 c1') |>.past (p := ⟨w.heap.size + 1 + 1, 1, none⟩) (by dsimp only; omega) (.slice a2 n2 c2')
    have o2b := o2.past (p := ⟨w.heap.size + 1 + 1, 0, none⟩) (by dsimp only; omega) (.slice a1 n1 c1') |>.past (p := ⟨w.heap.size + 1 + 1, 1, none⟩) (by dsimp only; omega) (.slice a2 n2 c2')
    have W1 : Within a1 w.heap.size w2.heap.size := fun k hk => by have := o1.blk k hk; simp at this; omega
    have W2 : Within a2 w2.heap.size w3.heap.size := o2.within
    generalize hw4 : ((w3.setCell ⟨w.heap.size + 1 + 1, 0, none⟩ (.slice a1 n1 c1')).setCell ⟨w.heap.size + 1 + 1, 1, none⟩ (.slice a2 n2 c2')) = w4 at hF3 E0 E1 E2 o1b o2b ⊢
    have z4 : w4.heap.size = w3.heap.size := by rw [← hw4]; simp
    have Z4 := Lib.hid z4
    clear hw4 z4 z1 z2 c0 c1 d0 d1 k0 k1 j0 j1 q0 q1 B0 B1 B2 o1 o2 f1 f2
    have e2 := E0.out.cell (j := 2) (v := .slice a l b) rfl
    go_wp2_with fail
    refine (l1Own_any _ _ _ _ _ (hX.fr hF3) hl).mono ?_
    rintro e w5 ⟨a3, n3, c3', rfl, o3, f3, m3⟩
    have z5 := f3.size
    have G0 := E2.out.fr f3
    have G1 := E1.out.fr f3
    simp only [List.setIfInBounds_toArray, List.set_cons_zero, List.set_cons_succ] at G0
    clear e2
    have k0 := G0.cell (j := 0) rfl; have k1 := G0.cell (j := 1) rfl; have k2 := G0.cell (j := 2) rfl; have k3 := G0.cell (j := 3) rfl; have k4 := G0.cell (j := 4) rfl; have k5 := G0.cell (j := 5) rfl; have k6 := G0.cell (j := 6) rfl
    have q2 := G0.free 2
    have j0 := G1.cell (j := 0) rfl; have j1 := G1.cell (j := 1) rfl; have j2 := G1.cell (j := 2) rfl; have j3 := G1.cell (j := 3) rfl; have j4 := G1.cell (j := 4) rfl; have j5 := G1.cell (j := 5) rfl; have j6 := G1.cell (j := 6) rfl
    have i0 := G1.free 0; have i1 := G1.free 1; have i2 := G1.free 2; have i3 := G1.free 3; have i4 := G1.free 4; have i5 := G1.free 5; have i6 := G1.free 6
    have D1 := Lib.hid G1
    clear G0 G1
    go_wp2
    have E := ((((((((D1.out.other (p := ⟨w.heap.size + 1 + 1, 2, none⟩) (by simp) (.slice a3 n3 c3')).set 0 (.slice a1 n1 c1')).set 1 (.slice a2 n2 c2')).set 2 (.slice a3 n3 c3')).set 3 (.int .i64 x)).set 4 (.int .i64 s)).set 5 (.int .i64 u)).set 6 (.int .i64 v))
    simp only [List.setIfInBounds_toArray, List.set_cons_zero, List.set_cons_succ] at E
    refine bodyPost_ret (results_H Try.results74 _ _ (w.heap.size + 1) _ _ _ _ _ _ _ rfl (E.cell rfl) (E.cell rfl) (E.cell rfl) (E.cell rfl) (E.cell rfl) (E.cell rfl) (E.cell rfl)) rfl ?_
    have z4 := Z4.out
    have z1 := Z1.out
    refine ⟨a1, n1, c1', a2, n2, c2', a3, n3, c3', w2.heap.size, w3.heap.size, rfl, ?_, ?_, ?_, W1, W2, by omega, by omega, by simp; omega, ?_, m1, m2, m3⟩
    · refine Own.mono ?_ (show w.heap.size ≤ w1.heap.size by omega)
      iterate 8 refine Own.past ?_ (by dsimp only; omega) _
      exact o1b.fr f3
    · iterate 8 refine Own.past ?_ (by dsimp only; omega) _
      exact o2b.fr f3
    · rw [← z4]
      iterate 8 refine Own.past ?_ (by dsimp only; omega) _
      exact o3
    · iterate 8 refine Fr.setCell ?_ (by dsimp only; omega) _
      exact hF3.trans f3

theorem results_HB {fn : Func} {k r : Nat} (hr : fn.results = #[.cell k 31, .tmp r]) (tmps : Array Value) (w : World) (g : Nat) (v0 v1 v2 v3 v4 v5 v6 : Value) (bb : Value) (h : tmps[k]?.getD undef = .pointer (some ⟨g, 0, none⟩)) (hb : tmps[r]?.getD undef = bb)
    (h0 : w.cell? ⟨g, 0, none⟩ = some v0) (h1 : w.cell? ⟨g, 1, none⟩ = some v1) (h2 : w.cell? ⟨g, 2, none⟩ = some v2) (h3 : w.cell? ⟨g, 3, none⟩ = some v3) (h4 : w.cell? ⟨g, 4, none⟩ = some v4) (h5 : w.cell? ⟨g, 5, none⟩ = some v5) (h6 : w.cell? ⟨g, 6, none⟩ = some v6) :
    (results fn tmps).run Try.prog w = .ok (.tuple #[.agg #[v0, v1, v2, v3, v4, v5, v6], bb]) w := by
  simp [results, hr, go_sem, h, hb, h0, h1, h2, h3, h4, h5, h6]
/-- A new house and a bool. -/
def RetHB (P W X : List Int) (x s u v : Int) (bb : Bool) (w : World) (e : Ending) (w' : World) : Prop := ∃ (p : Option Addr) (n c : Nat) (q : Option Addr) (m d : Nat) (a : Option Addr) (l k M N : Nat),
  e = .returned (.tuple #[.agg #[.slice p n c, .slice q m d, .slice a l k, .int .i64 x, .int .i64 s, .int .i64 u, .int .i64 v], .bool bb]) ∧
  Own w.heap.size w' p n c P ∧ Own M w' q m d W ∧ Own N w' a l k X ∧ Within p w.heap.size M ∧ Within q M N ∧ w.heap.size ≤ M ∧ M ≤ N ∧ N ≤ w'.heap.size ∧ Fr w w' ∧ n ≤ 1048576 ∧ m ≤ 1048576 ∧ l ≤ 1048576

end Go.Proofs.Ytojipjjfndgbhaa
/- Contracts of NewHouse. -/
set_option linter.unusedVariables false
namespace Go.Proofs.Ytojipjjfndgbhaa
open Go.ChangeShapes Go.WideShapes Go.ChangeAt Go.RowKit

theorem l3B_iff {P W X : List Int} : l3B P W X = true ↔ treeB P W = true ∧ procB P X = true := by rw [l3B, Bool.and_eq_true]
theorem l3B_len {P W X : List Int} (h : l3B P W X = true) : 1 ≤ P.length ∧ P.length ≤ 24 ∧ W.length = P.length ∧ X.length = P.length := by
  obtain ⟨h1, h2⟩ := l3B_iff.1 h
  obtain ⟨g1, g2, _⟩ := treeB_iff.1 h1
  exact ⟨g1.1, g1.2, g2, (procB_iff.1 h2).1⟩
theorem houseB_zero (P W X : List Int) : houseB P W X 0 0 0 0 = l3B P W X := by
  cases h : l3B P W X
  · rw [houseB, h]; rfl
  · have hl := l3B_len h
    have h1 : inB 0 0 ((P.length : Int) - 1) = true := inB_iff.2 (by omega)
    rw [houseB, h, h1]; rfl
def nhV (b : Bool) (P : List Int) : List Int := bif b then P else []

set_option maxRecDepth 100000 in
theorem impl_NewHouse_any (w : World) (p q : Option Addr) (n c m d : Nat) (P W : List Int) (a : Option Addr) (l b : Nat) (X : List Int) (hP : SL w p n c P) (hW : SL w q m d W) (hX : SL w a l b X) :
    Calls Try.prog 24 #[.agg #[.slice p n c, .slice q m d], .slice a l b] w (RetHB (nhV (l3B P W X) P) (nhV (l3B P W X) W) (nhV (l3B P W X) X) 0 0 0 0 (l3B P W X) w) := by
  have HP := Lib.hid hP.len; have HW := Lib.hid hW.len; have HX := Lib.hid hX.len
  have HZ := Lib.hid (houseB_zero P W X)
  have hfr : Fr w (((w.alloc (.cells #[.slice p n c, .slice q m d] 29)).alloc (.cells #[.slice none 0 0, .slice none 0 0, .slice none 0 0, .int .i64 0, .int .i64 0, .int .i64 0, .int .i64 0] 31)).alloc (.cells #[.slice p n c, .slice q m d, .slice a l b, .int .i64 0, .int .i64 0, .int .i64 0, .int .i64 0] 31)) := (((Fr.refl w).alloc _).alloc _).alloc _
  have hb1 := (Blk.new (w.alloc (.cells #[.slice p n c, .slice q m d] 29)) #[.slice none 0 0, .slice none 0 0, .slice none 0 0, .int .i64 0, .int .i64 0, .int .i64 0, .int .i64 0] 31).alloc (.cells #[.slice p n c, .slice q m d, .slice a l b, .int .i64 0, .int .i64 0, .int .i64 0, .int .i64 0] 31)
  have hb2 := Blk.new ((w.alloc (.cells #[.slice p n c, .slice q m d] 29)).alloc (.cells #[.slice none 0 0, .slice none 0 0, .slice none 0 0, .int .i64 0, .int .i64 0, .int .i64 0, .int .i64 0] 31)) #[.slice p n c, .slice q m d, .slice a l b, .int .i64 0, .int .i64 0, .int .i64 0, .int .i64 0] 31
  simp only [World.size_alloc] at hb1 hb2
  have H1 := Lib.hid hb1; have H2 := Lib.hid hb2
  clear hb1 hb2
  go_enter Try.func24, Try.ntmps24
  go_wp2_with fail
  refine (impl_IsHouse_any _ _ _ _ _ _ _ _ _ _ _ _ _ (hP.fr hfr) (hW.fr hfr) (hX.fr hfr) 0 0 0 0).mono ?_
  rintro e w1 ⟨rfl, f1⟩
  have z1 := f1.size
  have G1 := H1.out.fr f1
  have G2 := H2.out.fr f1
  rw [HZ.out]
  cases h : l3B P W X
  · have HL := Lib.hid h
    have j0 := G1.cell (j := 0) rfl; have j1 := G1.cell (j := 1) rfl; have j2 := G1.cell (j := 2) rfl; have j3 := G1.cell (j := 3) rfl; have j4 := G1.cell (j := 4) rfl; have j5 := G1.cell (j := 5) rfl; have j6 := G1.cell (j := 6) rfl
    have i0 := G1.free 0; have i1 := G1.free 1; have i2 := G1.free 2; have i3 := G1.free 3; have i4 := G1.free 4; have i5 := G1.free 5; have i6 := G1.free 6
    have D1 := Lib.hid G1
    clear G1 G2 h
    go_wp2
    have E := (((((((D1.out.set 0 (.slice none 0 0)).set 1 (.slice none 0 0)).set 2 (.slice none 0 0)).set 3 (.int .i64 0)).set 4 (.int .i64 0)).set 5 (.int .i64 0)).set 6 (.int .i64 0))
    simp only [List.setIfInBounds_toArray, List.set_cons_zero, List.set_cons_succ] at E
    refine bodyPost_ret (results_HB Try.results24 _ _ (w.heap.size + 1) _ _ _ _ _ _ _ _ rfl rfl (E.cell rfl) (E.cell rfl) (E.cell rfl) (E.cell rfl) (E.cell rfl) (E.cell rfl) (E.cell rfl)) rfl ?_
    rw [HL.out]
    have hn : ∀ B w', Own B w' none 0 0 [] := fun B w' => ⟨World.ownsRow_nil _ _ _ _, by simp⟩
    refine ⟨none, 0, 0, none, 0, 0, none, 0, 0, w.heap.size, w.heap.size, rfl, hn _ _, hn _ _, hn _ _, fun k hk => by simp [blkOf] at hk, fun k hk => by simp [blkOf] at hk, Nat.le_refl _, Nat.le_refl _, ?_, ?_, by omega, by omega, by omega⟩
    · have := (hfr.trans f1).size; simpa using this
    · iterate 7 refine Fr.setCell ?_ (by dsimp only; omega) _
      exact hfr.trans f1
  · have HL := Lib.hid h
    have hl := l3B_len h
    rw [HP.out] at hl
    have hl2 : m ≤ 1048576 := by rw [← HW.out]; omega
    have hl3 : l ≤ 1048576 := by rw [← HX.out]; omega
    have k0 := G2.cell (j := 0) rfl; have k1 := G2.cell (j := 1) rfl; have k2 := G2.cell (j := 2) rfl; have k3 := G2.cell (j := 3) rfl; have k4 := G2.cell (j := 4) rfl; have k5 := G2.cell (j := 5) rfl; have k6 := G2.cell (j := 6) rfl
    have g1 := Lib.hid G1
    clear G1 G2
    have hF1 := hfr.trans f1
    go_wp2_with fail
    clear h k0 k1 k2 k3 k4 k5 k6
    refine (own_any _ _ _ _ _ _ _ _ _ _ _ _ _ _ _ _ _ (hP.fr hF1) (hW.fr hF1) (hX.fr hF1) (by omega) hl2 hl3).mono ?_
    rintro e w2 ⟨p2, n2, c2, q2, m2, d2, a2, l2, b2, M, N, rfl, o1, o2, o3, W1, W2, y1, y2, y3, f2, e1, e2, e3⟩
    have G1 := g1.out.fr f2
    have j0 := G1.cell (j := 0) rfl; have j1 := G1.cell (j := 1) rfl; have j2 := G1.cell (j := 2) rfl; have j3 := G1.cell (j := 3) rfl; have j4 := G1.cell (j := 4) rfl; have j5 := G1.cell (j := 5) rfl; have j6 := G1.cell (j := 6) rfl
    have i0 := G1.free 0; have i1 := G1.free 1; have i2 := G1.free 2; have i3 := G1.free 3; have i4 := G1.free 4; have i5 := G1.free 5; have i6 := G1.free 6
    have D1 := Lib.hid G1
    clear G1
    go_wp2
    have E := (((((((D1.out.set 0 (.slice p2 n2 c2)).set 1 (.slice q2 m2 d2)).set 2 (.slice a2 l2 b2)).set 3 (.int .i64 0)).set 4 (.int .i64 0)).set 5 (.int .i64 0)).set 6 (.int .i64 0))
    simp only [List.setIfInBounds_toArray, List.set_cons_zero, List.set_cons_succ] at E
    refine bodyPost_ret (results_HB Try.results24 _ _ (w.heap.size + 1) _ _ _ _ _ _ _ _ rfl rfl (E.cell rfl) (E.cell rfl) (E.cell rfl) (E.cell rfl) (E.cell rfl) (E.cell rfl) (E.cell rfl)) rfl ?_
    simp only [World.size_alloc] at z1
    rw [HL.out]
    refine ⟨p2, n2, c2, q2, m2, d2, a2, l2, b2, M, N, rfl, ?_, ?_, ?_, fun k hk => by have := W1 k hk; omega, W2, by omega, y2, by simpa using y3, ?_, e1, e2, e3⟩
    · refine Own.mono ?_ (show w.heap.size ≤ w1.heap.size by omega)
      iterate 7 refine Own.past ?_ (by dsimp only; omega) _
      exact o1
    · iterate 7 refine Own.past ?_ (by dsimp only; omega) _
      exact o2
    · iterate 7 refine Own.past ?_ (by dsimp only; omega) _
      exact o3
    · iterate 7 refine Fr.setCell ?_ (by dsimp only; omega) _
      exact hF1.trans f2

set_option maxRecDepth 100000 in
theorem spec_NewHouse_any (w : World) (p q : Option Addr) (n c m d : Nat) (P W : List Int) (a : Option Addr) (l b : Nat) (X : List Int) (hP : SL w p n c P) (hW : SL w q m d W) (hX : SL w a l b X) :
    Calls Try.prog 21 #[.agg #[.slice p n c, .slice q m d], .slice a l b] w (RetHB (nhV (l3B P W X) P) (nhV (l3B P W X) W) (nhV (l3B P W X) X) 0 0 0 0 (l3B P W X) w) := by
  have HP := Lib.hid hP.len; have HW := Lib.hid hW.len; have HX := Lib.hid hX.len
  have hfr : Fr w ((w.alloc (.cells #[.slice p n c, .slice q m d] 29)).alloc (.cells #[.slice none 0 0, .slice none 0 0, .slice none 0 0, .int .i64 0, .int .i64 0, .int .i64 0, .int .i64 0] 31)) := ((Fr.refl w).alloc _).alloc _
  have hb0 := (Blk.new w #[.slice p n c, .slice q m d] 29).alloc (.cells #[.slice none 0 0, .slice none 0 0, .slice none 0 0, .int .i64 0, .int .i64 0, .int .i64 0, .int .i64 0] 31)
  have hb1 := Blk.new (w.alloc (.cells #[.slice p n c, .slice q m d] 29)) #[.slice none 0 0, .slice none 0 0, .slice none 0 0, .int .i64 0, .int .i64 0, .int .i64 0, .int .i64 0] 31
  simp only [World.size_alloc] at hb1
  have H0 := Lib.hid hb0; have H1 := Lib.hid hb1
  clear hb0 hb1
  go_enter Try.func21, Try.ntmps21
  go_wp2_with fail
  refine (l3Good_any _ _ _ _ _ _ _ _ _ _ _ _ _ (hP.fr hfr) (hW.fr hfr) (hX.fr hfr)).mono ?_
  rintro e w1 ⟨rfl, f1⟩
  have z1 := f1.size
  have G0 := H0.out.fr f1
  have G1 := H1.out.fr f1
  cases h : l3B P W X
  · have HL := Lib.hid h
    have j0 := G1.cell (j := 0) rfl; have j1 := G1.cell (j := 1) rfl; have j2 := G1.cell (j := 2) rfl; have j3 := G1.cell (j := 3) rfl; have j4 := G1.cell (j := 4) rfl; have j5 := G1.cell (j := 5) rfl; have j6 := G1.cell (j := 6) rfl
    have i0 := G1.free 0; have i1 := G1.free 1; have i2 := G1.free 2; have i3 := G1.free 3; have i4 := G1.free 4; have i5 := G1.free 5; have i6 := G1.free 6
    have D1 := Lib.hid G1
    clear G1 G0 h
    go_wp2
    have E := (((((((D1.out.set 0 (.slice none 0 0)).set 1 (.slice none 0 0)).set 2 (.slice none 0 0)).set 3 (.int .i64 0)).set 4 (.int .i64 0)).set 5 (.int .i64 0)).set 6 (.int .i64 0))
    simp only [List.setIfInBounds_toArray, List.set_cons_zero, List.set_cons_succ] at E
    refine bodyPost_ret (results_HB Try.results21 _ _ (w.heap.size + 1) _ _ _ _ _ _ _ _ rfl rfl (E.cell rfl) (E.cell rfl) (E.cell rfl) (E.cell rfl) (E.cell rfl) (E.cell rfl) (E.cell rfl)) rfl ?_
    rw [HL.out]
    have hn : ∀ B w', Own B w' none 0 0 [] := fun B w' => ⟨World.ownsRow_nil _ _ _ _, by simp⟩
    refine ⟨none, 0, 0, none, 0, 0, none, 0, 0, w.heap.size, w.heap.size, rfl, hn _ _, hn _ _, hn _ _, fun k hk => by simp [blkOf] at hk, fun k hk => by simp [blkOf] at hk, Nat.le_refl _, Nat.le_refl _, ?_, ?_, by omega, by omega, by omega⟩
    · have := (hfr.trans f1).size; simpa using this
    · iterate 7 refine Fr.setCell ?_ (by dsimp only; omega) _
      exact hfr.trans f1
  · have HL := Lib.hid h
    have hl := l3B_len h
    rw [HP.out] at hl
    have hl2 : m ≤ 1048576 := by rw [← HW.out]; omega
    have hl3 : l ≤ 1048576 := by rw [← HX.out]; omega
    have k0 := G0.cell (j := 0) rfl; have k1 := G0.cell (j := 1) rfl
    have g1 := Lib.hid G1
    clear G1 G0
    have hF1 := hfr.trans f1
    go_wp2_with fail
    clear h k0 k1
    refine (l12Own_any _ _ _ _ _ _ _ _ _ _ _ _ _ _ _ _ _ (hP.fr hF1) (hW.fr hF1) (hX.fr hF1) (by omega) hl2 hl3).mono ?_
    rintro e w2 ⟨p2, n2, c2, q2, m2, d2, a2, l2, b2, M, N, rfl, o1, o2, o3, W1, W2, y1, y2, y3, f2, e1, e2, e3⟩
    have G1 := g1.out.fr f2
    have j0 := G1.cell (j := 0) rfl; have j1 := G1.cell (j := 1) rfl; have j2 := G1.cell (j := 2) rfl; have j3 := G1.cell (j := 3) rfl; have j4 := G1.cell (j := 4) rfl; have j5 := G1.cell (j := 5) rfl; have j6 := G1.cell (j := 6) rfl
    have i0 := G1.free 0; have i1 := G1.free 1; have i2 := G1.free 2; have i3 := G1.free 3; have i4 := G1.free 4; have i5 := G1.free 5; have i6 := G1.free 6
    have D1 := Lib.hid G1
    clear G1
    go_wp2
    have E := (((((((D1.out.set 0 (.slice p2 n2 c2)).set 1 (.slice q2 m2 d2)).set 2 (.slice a2 l2 b2)).set 3 (.int .i64 0)).set 4 (.int .i64 0)).set 5 (.int .i64 0)).set 6 (.int .i64 0))
    simp only [List.setIfInBounds_toArray, List.set_cons_zero, List.set_cons_succ] at E
    refine bodyPost_ret (results_HB Try.results21 _ _ (w.heap.size + 1) _ _ _ _ _ _ _ _ rfl rfl (E.cell rfl) (E.cell rfl) (E.cell rfl) (E.cell rfl) (E.cell rfl) (E.cell rfl) (E.cell rfl)) rfl ?_
    simp only [World.size_alloc] at z1
    rw [HL.out]
    refine ⟨p2, n2, c2, q2, m2, d2, a2, l2, b2, M, N, rfl, ?_, ?_, ?_, fun k hk => by have := W1 k hk; omega, W2, by omega, y2, by simpa using y3, ?_, e1, e2, e3⟩
    · refine Own.mono ?_ (show w.heap.size ≤ w1.heap.size by omega)
      iterate 7 refine Own.past ?_ (by dsimp only; omega) _
      exact o1
    · iterate 7 refine Own.past ?_ (by dsimp only; omega) _
      exact o2
    · iterate 7 refine Own.past ?_ (by dsimp only; omega) _
      exact o3
    · iterate 7 refine Fr.setCell ?_ (by dsimp only; omega) _
      exact hF1.trans f2

end Go.Proofs.Ytojipjjfndgbhaa
/- Contracts of PriceMean. -/
set_option linter.unusedVariables false
namespace Go.Proofs.Ytojipjjfndgbhaa
open Go.ChangeShapes Go.WideShapes Go.ChangeAt Go.RowKit

theorem results_FB {fn : Func} {k r : Nat} (hr : fn.results = #[.cell k 46, .tmp r]) (tmps : Array Value) (w : World) (g : Nat) (v0 v1 : Value) (bb : Value) (h : tmps[k]?.getD undef = .pointer (some ⟨g, 0, none⟩)) (hb : tmps[r]?.getD undef = bb)
    (h0 : w.cell? ⟨g, 0, none⟩ = some v0) (h1 : w.cell? ⟨g, 1, none⟩ = some v1) : (results fn tmps).run Try.prog w = .ok (.tuple #[.agg #[v0, v1], bb]) w := by
  simp [results, hr, go_sem, h, hb, h0, h1]
theorem results_F {fn : Func} {k : Nat} (hr : fn.results = #[.cell k 46]) (tmps : Array Value) (w : World) (g : Nat) (v0 v1 : Value) (h : tmps[k]?.getD undef = .pointer (some ⟨g, 0, none⟩))
    (h0 : w.cell? ⟨g, 0, none⟩ = some v0) (h1 : w.cell? ⟨g, 1, none⟩ = some v1) : (results fn tmps).run Try.prog w = .ok (.agg #[v0, v1]) w := by
  simp [results, hr, go_sem, h, h0, h1]

/-- The prices of the first k ends. -/
def pvTo (P X : List Int) (k : Nat) : List Int := (List.range k).map fun i => nth X (nth (endsM P) i).toNat
def pvM (P X : List Int) : List Int := pvTo P X (endsM P).length
theorem pvTo_len (P X : List Int) (k : Nat) : (pvTo P X k).length = k := by simp [pvTo]
theorem pvTo_succ (P X : List Int) (k : Nat) : pvTo P X (k + 1) = pvTo P X k ++ [nth X (nth (endsM P) k).toNat] := by simp [pvTo, List.range_succ]
theorem pv_bd {P X : List Int} (h : ∀ i, -999 ≤ nth X i ∧ nth X i ≤ 999) (k i : Nat) : -999 ≤ nth (pvTo P X k) i ∧ nth (pvTo P X k) i ≤ 999 := by
  by_cases hi : i < k
  · have : nth (pvTo P X k) i = nth X (nth (endsM P) i).toNat := by rw [nth_eq (by rw [pvTo_len]; exact hi)]; simp [pvTo]
    rw [this]; exact h _
  · rw [nth_out (by rw [pvTo_len]; omega)]; omega
def pmV (P W X : List Int) (x s u v : Int) : Int × Int := bif houseB P W X x s u v then meanP P W (pvM P X) x.toNat else (0, 0)
theorem houseB_parts {P W X : List Int} {x s u v : Int} (h : houseB P W X x s u v = true) : treeB P W = true ∧ procB P X = true ∧ 0 ≤ x ∧ x < P.length := by
  simp only [houseB, l3B, Bool.and_eq_true, inB_iff] at h
  obtain ⟨⟨⟨⟨⟨h1, h2⟩, h3⟩, _⟩, _⟩, _⟩ := h
  exact ⟨h1, h2, by omega, by omega⟩
theorem meansM_nth {P W V : List Int} {i : Nat} (h : i < P.length) : nthP (meansM P W V) i = meanP P W V i := by simp [nthP, meansM, meansTo, h]
theorem meansM_len (P W V : List Int) : (meansM P W V).length = P.length := by simp [meansM, meansTo]

set_option maxRecDepth 100000 in
set_option maxHeartbeats 1000000 in
theorem impl_PriceMean_any (w : World) (p q a : Option Addr) (n c m d l b : Nat) (P W X : List Int) (x s u v : Int) (hP : SL w p n c P) (hW : SL w q m d W) (hX : SL w a l b X) :
    Calls Try.prog 32 #[.agg #[.slice p n c, .slice q m d, .slice a l b, .int .i64 x, .int .i64 s, .int .i64 u, .int .i64 v]] w fun e w' => e = .returned (.tuple #[.agg #[.int .i64 (pmV P W X x s u v).1, .int .i64 (pmV P W X x s u v).2], .bool (houseB P W X x s u v)]) ∧ Fr w w' := by
  have HP := Lib.hid hP.len
  have HX := Lib.hid hX.len
  have hfr : Fr w ((w.alloc (.cells #[.slice p n c, .slice q m d, .slice a l b, .int .i64 x, .int .i64 s, .int .i64 u, .int .i64 v] 31)).alloc (.cells #[.int .i64 0, .int .i64 0] 46)) := ((Fr.refl w).alloc _).alloc _
  have hb0 := (Blk.new w #[.slice p n c, .slice q m d, .slice a l b, .int .i64 x, .int .i64 s, .int .i64 u, .int .i64 v] 31).alloc (.cells #[.int .i64 0, .int .i64 0] 46)
  have hb1 := Blk.new (w.alloc (.cells #[.slice p n c, .slice q m d, .slice a l b, .int .i64 x, .int .i64 s, .int .i64 u, .int .i64 v] 31)) #[.int .i64 0, .int .i64 0] 46
  rw [World.size_alloc] at hb1
  have H0 := Lib.hid hb0; have H1 := Lib.hid hb1
  clear hb0 hb1
  have c0 := H0.out.cell (j := 0) rfl; have c1 := H0.out.cell (j := 1) rfl; have c2 := H0.out.cell (j := 2) rfl; have c3 := H0.out.cell (j := 3) rfl; have c4 := H0.out.cell (j := 4) rfl; have c5 := H0.out.cell (j := 5) rfl; have c6 := H0.out.cell (j := 6) rfl
  go_enter Try.func32, Try.ntmps32
  go_wp2_with fail
  clear c0 c1 c2 c3 c4 c5 c6
  refine (impl_IsHouse_any _ _ _ _ _ _ _ _ _ _ _ _ _ (hP.fr hfr) (hW.fr hfr) (hX.fr hfr) _ _ _ _).mono ?_
  rintro e w1 ⟨rfl, f1⟩
  have hF1 := hfr.trans f1
  have G0 := Lib.hid (H0.out.fr f1); have G1 := Lib.hid (H1.out.fr f1)
  cases h : houseB P W X x s u v
  · have HB := Lib.hid h
    have HH : Hid (pmV P W X x s u v = (0, 0)) := Lib.hid (by rw [pmV, h]; rfl)
    have j0 := G1.out.cell (j := 0) rfl; have j1 := G1.out.cell (j := 1) rfl
    have i0 := G1.out.free 0; have i1 := G1.out.free 1
    go_wp2
    have E := (G1.out.set 0 (.int .i64 0)).set 1 (.int .i64 0)
    refine bodyPost_ret (results_FB Try.results32 _ _ (w.heap.size + 1) (.int .i64 0) (.int .i64 0) _ rfl rfl (E.cell rfl) (E.cell rfl)) rfl ?_
    refine ⟨by rw [HH.out, HB.out]; rfl, ?_⟩
    iterate 2 refine Fr.setCell ?_ (by dsimp only; omega) _
    exact hF1
  · have HB := Lib.hid h
    obtain ⟨t1, t2, t3, t4⟩ := houseB_parts h
    have HH : Hid (pmV P W X x s u v = meanP P W (pvM P X) x.toNat) := Lib.hid (by rw [pmV, h]; rfl)
    have Ht := Lib.hid t1
    have Hv := Lib.hid (nth_bd (procB_iff.1 t2).2 (by omega) (by omega))
    obtain ⟨g1, _, g3, _⟩ := treeB_iff.1 t1
    have Hp := Lib.hid g3
    have hln : l = n := by rw [← HX.out, ← HP.out]; exact (procB_iff.1 t2).1
    subst hln
    rw [HP.out] at g1 t4
    obtain ⟨y, rfl⟩ := Int.eq_ofNat_of_zero_le t3
    clear t1 t2 g3 t3
    have k0 := G0.out.cell (j := 0) rfl; have k1 := G0.out.cell (j := 1) rfl
    have c0 := (G0.out.alloc (.cells #[] 3)).cell (j := 0) rfl; have c1 := (G0.out.alloc (.cells #[] 3)).cell (j := 1) rfl
    have hm0 := Own.made0 (B := w1.heap.size) w1 (Nat.le_refl _)
    have hfa : Fr w1 (w1.alloc (.cells #[] 3)) := (Fr.refl _).alloc _
    go_wp2_with fail
    clear k0 k1 c0 c1 h
    refine (ends_any _ _ _ _ _ _ _ _ (hP.fr (hF1.trans hfa)) Hp.out (by omega)).mono ?_
    rintro e w2 ⟨a2, n2, c2, rfl, o2, f2, m2⟩
    have Hn2 := Lib.hid o2.len
    have z2 := f2.size
    simp only [World.size_alloc] at z2 o2
    have hm2 := hm0.fr f2
    have F2 : Fr w1 w2 := hfa.trans f2
    have x2 := o2.within
    go_wp2
    go_loopw [4, 16] (fun vv i wr => ∃ (k cc : Nat) (ap : Option Addr), k ≤ n2 ∧ i = .int .i64 k ∧ vv = .slice ap k cc ∧ Own w1.heap.size wr ap k cc (pvTo P X k) ∧ SL wr a2 n2 c2 (endsM P) ∧ Apart ap a2 ∧ Fr w1 wr) (fun _ i _ => n2 - (intOf i).toNat)
    case atStart => exact ⟨0, 0, _, by omega, rfl, rfl, by simpa [pvTo] using hm2, o2.sl, fun k h1 h2 => by simp [blkOf] at h1; have := x2 k h2; omega, F2⟩
    case round =>
      have B2 : Hid (∀ k, blkOf a2 = some k → k < w2.heap.size) := Lib.hid (fun k hk => (x2 k hk).2)
      clear hm0 hm2 o2 F2 f2 hfa
      obtain ⟨k, cc, ap, hk, rfl, rfl, oP, he, apE, hF⟩ := hrel
      have hFw := hF1.trans hF
      by_cases hlt : k < n2
      · obtain ⟨z, hz, hzl, _⟩ := ends_nth (P := P) (i := k) (by rw [Hn2.out]; exact hlt)
        rw [HP.out] at hzl
        obtain ⟨b2, of2, rfl, hce⟩ := he.cells.resolve_left (by omega)
        replace hce := hce k hlt
        have HS : Hid (pvTo P X (k + 1) = pvTo P X k ++ [nth X z]) := Lib.hid (by rw [pvTo_succ, hz]; rfl)
        rw [hz] at hce
        clear hz
        obtain ⟨bx, ox, rfl, hcx⟩ := (hX.fr hFw).cells.resolve_left (by omega)
        replace hcx := hcx z hzl
        have k2 := (G0.out.fr hF).cell (j := 2) rfl
        have b1 := Hv.out z
        have hsz := hF.size
        go_wp2_with (at_builtin; refine ap_int _ rfl _ _ rfl w1.heap.size ap k cc _ _ rfl rfl oP hsz (by unfold I64; omega) (by omega) ?_)
        intro g' c' w' q1 q2 q3
        have he2 := he.grown q2 (by
          cases hx : blkOf (some (⟨b2, of2, none⟩ : Addr)) with
          | none => exact .inl rfl
          | some zz => exact .inr fun e => apE zz e.symm hx)
        have ap2 : Apart (some ⟨g', 0, none⟩) (some ⟨b2, of2, none⟩) := by
          intro zz h1 h2
          simp only [blkOf, Option.map_some, Option.some.injEq] at h1
          subst h1
          rcases q3 with h | h
          · exact apE _ h h2
          · have := World.block_lt_of_cell? wr _ hce
            simp only [blkOf, Option.map_some, Option.some.injEq] at h2
            simp only at this; omega
        have hF3 := hF.grown q2 (fun zz hzz => (oP.blk zz hzz).1)
        go_wp2
        go_roundw
        case rel => exact ⟨k + 1, c', _, by omega, by go_num, rfl, by rw [HS.out]; exact q1, he2, ap2, hF3⟩
        case measure => simp [intOf]; omega
      · obtain rfl : k = n2 := by omega
        have HM : Hid (pvTo P X k = pvM P X) := Lib.hid (by rw [pvM, Hn2.out])
        rw [HM.out] at oP
        have J0 := Lib.hid (G0.out.fr hF); have J1 := Lib.hid (G1.out.fr hF)
        have c0 := J0.out.cell (j := 0) rfl; have c1 := J0.out.cell (j := 1) rfl; have c2' := J0.out.cell (j := 3) rfl
        have j0 := J1.out.cell (j := 0) rfl; have j1 := J1.out.cell (j := 1) rfl
        have fz0 := J1.out.free 0; have fz1 := J1.out.free 1
        have hP1 := hP.fr hFw
        have hW1 := hW.fr hFw
        have hvv : Hid (∀ i, -999 ≤ nth (pvM P X) i ∧ nth (pvM P X) i ≤ 999) := Lib.hid (fun i => pv_bd Hv.out _ i)
        go_wp2
        have d0 := (J0.out.fr (Fr.drewN wr 1)).cell (j := 0) rfl; have d1 := (J0.out.fr (Fr.drewN wr 1)).cell (j := 1) rfl; have d2 := (J0.out.fr (Fr.drewN wr 1)).cell (j := 3) rfl
        go_region_with
          ((go_at_call 81; refine (means_any _ _ _ _ _ _ _ _ _ _ _ _ _ (hP1.fr (by first | exact (Fr.refl wr).drew' 1 | exact Fr.drewN wr 1)) (hW1.fr (by first | exact (Fr.refl wr).drew' 1 | exact Fr.drewN wr 1)) (oP.sl.fr (by first | exact (Fr.refl wr).drew' 1 | exact Fr.drewN wr 1)) Ht.out Hn2.out.symm hvv.out).mono ?_; rintro e w3 ⟨a3, n3, c3, rfl, o3, f3', _⟩; have f3 : Fr wr w3 := (by first | exact ((Fr.refl wr).drew' 1).trans f3' | exact (Fr.drewN wr 1).trans f3'); have N3 : n3 = l := (by rw [← o3.len, meansM_len, HP.out]); subst N3; obtain ⟨g3, rfl, hg1, hg2, hcap, hc3⟩ := o3.op (by omega); obtain ⟨hy0, hy1⟩ := hc3 y (by omega); rw [meansM_nth (by rw [HP.out]; omega), Nat.mul_comm 2 y] at hy0 hy1; have ha3 := f3.size; have k2 := (J0.out.fr f3).cell (j := 3) rfl; have p0 := (J1.out.fr f3).cell (j := 0) rfl; have p1 := (J1.out.fr f3).cell (j := 1) rfl; have q0 := (J1.out.fr f3).free 0; have q1 := (J1.out.fr f3).free 1))
        all_goals
          have E := ((J1.out.fr f3).set 0 (.int .i64 (meanP P W (pvM P X) y).1)).set 1 (.int .i64 (meanP P W (pvM P X) y).2)
          simp only [List.setIfInBounds_toArray, List.set_cons_zero, List.set_cons_succ] at E
          go_wp2
          refine bodyPost_ret (results_FB Try.results32 _ _ (w.heap.size + 1) (.int .i64 (meanP P W (pvM P X) y).1) (.int .i64 (meanP P W (pvM P X) y).2) _ rfl rfl (E.cell rfl) (E.cell rfl)) rfl ?_
          refine ⟨by rw [HH.out, HB.out]; rfl, ?_⟩
          iterate 2 refine Fr.setCell ?_ (by dsimp only; omega) _
          exact hFw.trans f3

end Go.Proofs.Ytojipjjfndgbhaa
/- Deals of houses: plain part. -/
set_option linter.unusedVariables false
namespace Go.Proofs.Ytojipjjfndgbhaa
open Go.ChangeShapes Go.WideShapes Go.ChangeAt Go.RowKit

def mayB (P : List Int) (t kd A B : Int) : Bool :=
  if kd = 1 then (B == 0) && decide (A ∈ kidsTo P t.toNat P.length)
  else if kd = 2 then B == 0
  else if kd = 3 then (B == 0) && inB A (-999) 999
  else if kd = 4 then (A == 0) && (B == 0)
  else if kd = 5 then inB A 0 ((P.length : Int) - 1)
  else if kd = 6 then decide (A ∈ endsM P)
  else false
def dW (W : List Int) (kd A B : Int) : List Int := if kd = 6 then W.set A.toNat B else W
def dX (X : List Int) (kd A B : Int) : List Int := if kd = 5 then X.set A.toNat B else X
def dAt (t kd A : Int) : Int := if kd = 1 then A else if kd = 4 then 0 else t
def dSt (s kd A : Int) : Int := if kd = 2 then A else s
def dPu (X : List Int) (t s u kd A : Int) : Int := if kd = 1 then u + s * (nth X A.toNat - nth X t.toNat) else if kd = 3 then u + A else u
def doneB (P W X : List Int) (t s u v kd A B : Int) : Bool := houseB P (dW W kd A B) (dX X kd A B) (dAt t kd A) (dSt s kd A) (dPu X t s u kd A) (v + 1)
/-- A deal of a valid house is possible. -/
def goB (P W X : List Int) (t s u v kd A B : Int) : Bool := mayB P t kd A B && doneB P W X t s u v kd A B
def dealB (P W X : List Int) (t s u v kd A B : Int) : Bool := houseB P W X t s u v && goB P W X t s u v kd A B
def dV (b : Bool) (x : Int) : Int := bif b then x else 0
theorem kids_mem {P : List Int} {x k : Nat} {A : Int} : A ∈ kidsTo P x k ↔ ∃ y : Nat, A = (y : Int) ∧ y < k ∧ nth P y = (x : Int) := by
  simp only [kidsTo, List.mem_map, List.mem_filter, List.mem_range, beq_iff_eq]
  exact ⟨fun ⟨y, ⟨h1, h2⟩, h3⟩ => ⟨y, h3.symm, h1, h2⟩, fun ⟨y, h3, h1, h2⟩ => ⟨y, ⟨h1, h2⟩, h3.symm⟩⟩
theorem ends_mem {P : List Int} {A : Int} : A ∈ endsM P ↔ ∃ y : Nat, A = (y : Int) ∧ y < P.length ∧ endB P y = true := by
  simp only [endsM, endsTo, List.mem_map, List.mem_filter, List.mem_range]
  exact ⟨fun ⟨y, ⟨h1, h2⟩, h3⟩ => ⟨y, h3.symm, h1, h2⟩, fun ⟨y, h3, h1, h2⟩ => ⟨y, ⟨h1, h2⟩, h3.symm⟩⟩
theorem ends_wei {P W : List Int} (h : treeB P W = true) {A : Int} : A ∈ endsM P ↔ inB A 0 ((P.length : Int) - 1) = true ∧ 0 < nth W A.toNat := by
  rw [ends_mem, inB_iff]
  constructor
  · rintro ⟨y, rfl, hy, he⟩
    have := weiOk_bd ((treeB_iff.1 h).2.2.2 y hy)
    exact ⟨by omega, by rw [Int.toNat_natCast]; exact this.2.2.1 he⟩
  · rintro ⟨h1, h2⟩
    obtain ⟨y, rfl⟩ := Int.eq_ofNat_of_zero_le h1.1
    rw [Int.toNat_natCast] at h2
    have hy : y < P.length := by omega
    exact ⟨y, rfl, hy, (weiOk_bd ((treeB_iff.1 h).2.2.2 y hy)).2.2.2 h2⟩
theorem houseB_all {P W X : List Int} {x s u v : Int} (h : houseB P W X x s u v = true) : (0 ≤ x ∧ x < P.length) ∧ (-20 ≤ s ∧ s ≤ 20) ∧ (-1000000 ≤ u ∧ u ≤ 1000000) ∧ (0 ≤ v ∧ v ≤ 1000) := by
  simp only [houseB, l3B, Bool.and_eq_true, inB_iff] at h
  obtain ⟨⟨⟨⟨⟨h1, h2⟩, h3⟩, h4⟩, h5⟩, h6⟩ := h
  exact ⟨by omega, h4, h5, h6⟩
theorem dPu_bd {s x y : Int} (hs : -20 ≤ s ∧ s ≤ 20) (hx : -999 ≤ x ∧ x ≤ 999) (hy : -999 ≤ y ∧ y ≤ 999) : -39960 ≤ s * (x - y) ∧ s * (x - y) ≤ 39960 := by
  have := natAbs_mul_le (M := 20) (N := 1998) (show ((s).natAbs : Int) ≤ 20 by omega) (show ((x - y).natAbs : Int) ≤ 1998 by omega)
  omega
end Go.Proofs.Ytojipjjfndgbhaa
