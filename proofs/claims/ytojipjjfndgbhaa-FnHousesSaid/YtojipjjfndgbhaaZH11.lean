import Derived.Test.YtojipjjfndgbhaaZH10
/- Contracts of houses of their own: own, l12Own, NewHouse. -/
set_option linter.unusedVariables false
namespace Go.Proofs.Ytojipjjfndgbhaa
open Go.ChangeShapes Go.WideShapes Go.ChangeAt Go.RowKit

set_option maxRecDepth 100000 in
set_option maxHeartbeats 1000000 in
theorem own_any (w : World) (p q a : Option Addr) (n c m d l b : Nat) (P W X : List Int) (x s u v : Int) (hP : SL w p n c P) (hW : SL w q m d W) (hX : SL w a l b X) (hn : n ≤ 1048576) (hm : m ≤ 1048576) (hl : l ≤ 1048576) :
    Calls Try.prog 75 #[.agg #[.slice p n c, .slice q m d, .slice a l b, .int .i64 x, .int .i64 s, .int .i64 u, .int .i64 v]] w (RetH P W X x s u v w) := by
  have hb0 := (Blk.new w #[.slice p n c, .slice q m d, .slice a l b, .int .i64 x, .int .i64 s, .int .i64 u, .int .i64 v] 31).alloc (.cells #[.slice none 0 0, .slice none 0 0, .slice none 0 0, .int .i64 0, .int .i64 0, .int .i64 0, .int .i64 0] 31)
  have hb1 := Blk.new (w.alloc (.cells #[.slice p n c, .slice q m d, .slice a l b, .int .i64 x, .int .i64 s, .int .i64 u, .int .i64 v] 31)) #[.slice none 0 0, .slice none 0 0, .slice none 0 0, .int .i64 0, .int .i64 0, .int .i64 0, .int .i64 0] 31
  have hfr : Fr w ((w.alloc (.cells #[.slice p n c, .slice q m d, .slice a l b, .int .i64 x, .int .i64 s, .int .i64 u, .int .i64 v] 31)).alloc (.cells #[.slice none 0 0, .slice none 0 0, .slice none 0 0, .int .i64 0, .int .i64 0, .int .i64 0, .int .i64 0] 31)) := ((Fr.refl w).alloc _).alloc _
  simp only [World.size_alloc] at hb1
  have H0 := Lib.hid hb0; have H1 := Lib.hid hb1
  clear hb0 hb1
  have hP1 := (hP.fr hfr).drewN 1
  have hW1 := (hW.fr hfr).drewN 1
  go_enter Try.func75, Try.ntmps75
  go_wp2
  generalize hw1 : ((w.alloc (.cells #[.slice p n c, .slice q m d, .slice a l b, .int .i64 x, .int .i64 s, .int .i64 u, .int .i64 v] 31)).alloc (.cells #[.slice none 0 0, .slice none 0 0, .slice none 0 0, .int .i64 0, .int .i64 0, .int .i64 0, .int .i64 0] 31)) = w1 at H0 H1 hfr hP1 hW1 ⊢
  have z1 : w1.heap.size = w.heap.size + 1 + 1 := by rw [← hw1]; simp
  clear hw1
  have Z1 := Lib.hid z1
  clear z1
  have c0 := H0.out.cell (j := 0) rfl
  have c1 := H0.out.cell (j := 1) rfl
  have d0 := (H0.out.fr (Fr.drewN w1 1)).cell (j := 0) rfl
  have d1 := (H0.out.fr (Fr.drewN w1 1)).cell (j := 1) rfl
  go_region_with (first
    | (go_at_call_of 115 (Value.slice p n c); refine (copied_any _ _ _ _ _ hP1 hn).mono ?_; rintro e w2 ⟨a1, n1, c1', rfl, o1, f1, m1⟩; have k0 := (H0.out.fr ((Fr.drewN w1 1).trans f1)).cell (j := 0) rfl; have k1 := (H0.out.fr ((Fr.drewN w1 1).trans f1)).cell (j := 1) rfl)
    | (go_at_call_of 115 (Value.slice q m d); refine (copied_any _ _ _ _ _ (hW1.fr f1) hm).mono ?_; rintro e w3 ⟨a2, n2, c2', rfl, o2, f2, m2⟩; have B0 := Lib.hid (H0.out.fr (((Fr.drewN w1 1).trans f1).trans f2)); have B1 := Lib.hid (H1.out.fr (((Fr.drewN w1 1).trans f1).trans f2)); have j0 := B0.out.cell (j := 0) rfl; have j1 := B0.out.cell (j := 1) rfl; have q0 := B0.out.free 0; have q1 := B0.out.free 1))
  all_goals
    have z2 := f1.size
    have z3 := f2.size
    have z1 := Z1.out
    have z2' : w1.heap.size ≤ w2.heap.size := by simpa using z2
    have hF3 := (((hfr.trans ((Fr.drewN w1 1).trans f1)).trans f2).setCell (p := ⟨w.heap.size, 0, none⟩) (Nat.le_refl _) (.slice a1 n1 c1')).setCell (p := ⟨w.heap.size, 1, none⟩) (Nat.le_refl _) (.slice a2 n2 c2')
    have E0 := Lib.hid ((B0.out.set 0 (.slice a1 n1 c1')).set 1 (.slice a2 n2 c2'))
    have E1 := Lib.hid ((B1.out.other (p := ⟨w.heap.size, 0, none⟩) (by simp) (.slice a1 n1 c1')).other (p := ⟨w.heap.size, 1, none⟩) (by simp) (.slice a2 n2 c2'))
    have o1b := ((o1.mono (B' := w1.heap.size) (by simp)).fr f2).past (p := ⟨w.heap.size, 0, none⟩) (by simp; omega) (.slice a1 n1 c1') |>.past (p := ⟨w.heap.size, 1, none⟩) (by simp; omega) (.slice a2 n2 c2')
    have o2b := o2.past (p := ⟨w.heap.size, 0, none⟩) (by simp; omega) (.slice a1 n1 c1') |>.past (p := ⟨w.heap.size, 1, none⟩) (by simp; omega) (.slice a2 n2 c2')
    have W1 : Within a1 w.heap.size w2.heap.size := fun k hk => by have := o1.blk k hk; simp at this; omega
    have W2 : Within a2 w2.heap.size w3.heap.size := o2.within
    generalize hw4 : ((w3.setCell ⟨w.heap.size, 0, none⟩ (.slice a1 n1 c1')).setCell ⟨w.heap.size, 1, none⟩ (.slice a2 n2 c2')) = w4 at hF3 E0 E1 o1b o2b ⊢
    have z4 : w4.heap.size = w3.heap.size := by rw [← hw4]; simp
    have Z4 := Lib.hid z4
    clear hw4 z4 z1 z2 c0 c1 d0 d1 k0 k1 j0 j1 q0 q1 B0 B1 o1 o2 f1 f2
    have e2 := E0.out.cell (j := 2) (v := .slice a l b) rfl
    go_wp2_with fail
    refine (copied_any _ _ _ _ _ (hX.fr hF3) hl).mono ?_
    rintro e w5 ⟨a3, n3, c3', rfl, o3, f3, m3⟩
    have z5 := f3.size
    have G0 := E0.out.fr f3
    have G1 := E1.out.fr f3
    simp only [List.setIfInBounds_toArray, List.set_cons_zero, List.set_cons_succ] at G0
    clear e2
    have k0 := G0.cell (j := 0) rfl; have k1 := G0.cell (j := 1) rfl; have k2 := G0.cell (j := 2) rfl; have k3 := G0.cell (j := 3) rfl; have k4 := G0.cell (j := 4) rfl; have k5 := G0.cell (j := 5) rfl; have k6 := G0.cell (j := 6) rfl
    have q2 := G0.free 2
    have j0 := G1.cell (j := 0) rfl; have j1 := G1.cell (j := 1) rfl; have j2 := G1.cell (j := 2) rfl; have j3 := G1.cell (j := 3) rfl; have j4 := G1.cell (j := 4) rfl; have j5 := G1.cell (j := 5) rfl; have j6 := G1.cell (j := 6) rfl
    have i0 := G1.free 0; have i1 := G1.free 1; have i2 := G1.free 2; have i3 := G1.free 3; have i4 := G1.free 4; have i5 := G1.free 5; have i6 := G1.free 6
    have D1 := Lib.hid G1
    clear G0 G1
    go_wp2
    have E := ((((((((D1.out.other (p := ⟨w.heap.size, 2, none⟩) (by simp) (.slice a3 n3 c3')).set 0 (.slice a1 n1 c1')).set 1 (.slice a2 n2 c2')).set 2 (.slice a3 n3 c3')).set 3 (.int .i64 x)).set 4 (.int .i64 s)).set 5 (.int .i64 u)).set 6 (.int .i64 v))
    simp only [List.setIfInBounds_toArray, List.set_cons_zero, List.set_cons_succ] at E
    refine bodyPost_ret (results_H Try.results75 _ _ (w.heap.size + 1) _ _ _ _ _ _ _ rfl (E.cell rfl) (E.cell rfl) (E.cell rfl) (E.cell rfl) (E.cell rfl) (E.cell rfl) (E.cell rfl)) rfl ?_
    have z4 := Z4.out
    have z1 := Z1.out
    refine ⟨a1, n1, c1', a2, n2, c2', a3, n3, c3', w2.heap.size, w3.heap.size, rfl, ?_, ?_, ?_, W1, W2, by omega, by omega, by simp; omega, ?_, m1, m2, m3⟩
    · refine Own.mono ?_ (show w.heap.size ≤ w1.heap.size by omega)
      iterate 8 refine Own.past ?_ (by dsimp only; omega) _
      exact o1b.fr f3
    · iterate 8 refine Own.past ?_ (by dsimp only; omega) _
      exact o2b.fr f3
    · rw [← z4]
      iterate 8 refine Own.past ?_ (by dsimp only; omega) _
      exact o3
    · iterate 8 refine Fr.setCell ?_ (by dsimp only; omega) _
      exact hF3.trans f3

set_option maxRecDepth 100000 in
set_option maxHeartbeats 1000000 in
theorem l12Own_any (w : World) (p q a : Option Addr) (n c m d l b : Nat) (P W X : List Int) (x s u v : Int) (hP : SL w p n c P) (hW : SL w q m d W) (hX : SL w a l b X) (hn : n ≤ 1048576) (hm : m ≤ 1048576) (hl : l ≤ 1048576) :
    Calls Try.prog 74 #[.agg #[.slice p n c, .slice q m d, .slice a l b, .int .i64 x, .int .i64 s, .int .i64 u, .int .i64 v]] w (RetH P W X x s u v w) := by
  have hb0 := ((Blk.new w #[.slice p n c, .slice q m d, .slice a l b, .int .i64 x, .int .i64 s, .int .i64 u, .int .i64 v] 31).alloc (.cells #[.slice none 0 0, .slice none 0 0, .slice none 0 0, .int .i64 0, .int .i64 0, .int .i64 0, .int .i64 0] 31)).alloc (.cells #[.slice p n c, .slice q m d, .slice a l b, .int .i64 x, .int .i64 s, .int .i64 u, .int .i64 v] 31)
  have hb1 := (Blk.new (w.alloc (.cells #[.slice p n c, .slice q m d, .slice a l b, .int .i64 x, .int .i64 s, .int .i64 u, .int .i64 v] 31)) #[.slice none 0 0, .slice none 0 0, .slice none 0 0, .int .i64 0, .int .i64 0, .int .i64 0, .int .i64 0] 31).alloc (.cells #[.slice p n c, .slice q m d, .slice a l b, .int .i64 x, .int .i64 s, .int .i64 u, .int .i64 v] 31)
  have hb2 := Blk.new ((w.alloc (.cells #[.slice p n c, .slice q m d, .slice a l b, .int .i64 x, .int .i64 s, .int .i64 u, .int .i64 v] 31)).alloc (.cells #[.slice none 0 0, .slice none 0 0, .slice none 0 0, .int .i64 0, .int .i64 0, .int .i64 0, .int .i64 0] 31)) #[.slice p n c, .slice q m d, .slice a l b, .int .i64 x, .int .i64 s, .int .i64 u, .int .i64 v] 31
  have hfr : Fr w (((w.alloc (.cells #[.slice p n c, .slice q m d, .slice a l b, .int .i64 x, .int .i64 s, .int .i64 u, .int .i64 v] 31)).alloc (.cells #[.slice none 0 0, .slice none 0 0, .slice none 0 0, .int .i64 0, .int .i64 0, .int .i64 0, .int .i64 0] 31)).alloc (.cells #[.slice p n c, .slice q m d, .slice a l b, .int .i64 x, .int .i64 s, .int .i64 u, .int .i64 v] 31)) := (((Fr.refl w).alloc _).alloc _).alloc _
  simp only [World.size_alloc] at hb1 hb2
  have H0 := Lib.hid hb0; have H1 := Lib.hid hb1; have H2 := Lib.hid hb2
  clear hb0 hb1 hb2
  have hP1 := (hP.fr hfr).drewN 1
  have hW1 := (hW.fr hfr).drewN 1
  go_enter Try.func74, Try.ntmps74
  go_wp2
  generalize hw1 : (((w.alloc (.cells #[.slice p n c, .slice q m d, .slice a l b, .int .i64 x, .int .i64 s, .int .i64 u, .int .i64 v] 31)).alloc (.cells #[.slice none 0 0, .slice none 0 0, .slice none 0 0, .int .i64 0, .int .i64 0, .int .i64 0, .int .i64 0] 31)).alloc (.cells #[.slice p n c, .slice q m d, .slice a l b, .int .i64 x, .int .i64 s, .int .i64 u, .int .i64 v] 31)) = w1 at H0 H1 H2 hfr hP1 hW1 ⊢
  have z1 : w1.heap.size = w.heap.size + 1 + 1 + 1 := by rw [← hw1]; simp
  clear hw1
  have Z1 := Lib.hid z1
  clear z1
  have c0 := H0.out.cell (j := 0) rfl
  have c1 := H0.out.cell (j := 1) rfl
  have d0 := (H0.out.fr (Fr.drewN w1 1)).cell (j := 0) rfl
  have d1 := (H0.out.fr (Fr.drewN w1 1)).cell (j := 1) rfl
  go_region_with (first
    | (go_at_call_of 114 (Value.slice p n c); refine (l1Own_any _ _ _ _ _ hP1 hn).mono ?_; rintro e w2 ⟨a1, n1, c1', rfl, o1, f1, m1⟩; have k0 := (H0.out.fr ((Fr.drewN w1 1).trans f1)).cell (j := 0) rfl; have k1 := (H0.out.fr ((Fr.drewN w1 1).trans f1)).cell (j := 1) rfl)
    | (go_at_call_of 114 (Value.slice q m d); refine (l1Own_any _ _ _ _ _ (hW1.fr f1) hm).mono ?_; rintro e w3 ⟨a2, n2, c2', rfl, o2, f2, m2⟩; have B0 := Lib.hid (H0.out.fr (((Fr.drewN w1 1).trans f1).trans f2)); have B1 := Lib.hid (H1.out.fr (((Fr.drewN w1 1).trans f1).trans f2)); have B2 := Lib.hid (H2.out.fr (((Fr.drewN w1 1).trans f1).trans f2)); have j0 := B2.out.cell (j := 0) rfl; have j1 := B2.out.cell (j := 1) rfl; have q0 := B2.out.free 0; have q1 := B2.out.free 1))
  all_goals
    have z2 := f1.size
    have z3 := f2.size
    have z1 := Z1.out
    have z2' : w1.heap.size ≤ w2.heap.size := by simpa using z2
    have hF3 := (((hfr.trans ((Fr.drewN w1 1).trans f1)).trans f2).setCell (p := ⟨w.heap.size + 1 + 1, 0, none⟩) (by dsimp only; omega) (.slice a1 n1 c1')).setCell (p := ⟨w.heap.size + 1 + 1, 1, none⟩) (by dsimp only; omega) (.slice a2 n2 c2')
    have E0 := Lib.hid ((B0.out.other (p := ⟨w.heap.size + 1 + 1, 0, none⟩) (by dsimp only; omega) (.slice a1 n1 c1')).other (p := ⟨w.heap.size + 1 + 1, 1, none⟩) (by dsimp only; omega) (.slice a2 n2 c2'))
    have E1 := Lib.hid ((B1.out.other (p := ⟨w.heap.size + 1 + 1, 0, none⟩) (by dsimp only; omega) (.slice a1 n1 c1')).other (p := ⟨w.heap.size + 1 + 1, 1, none⟩) (by dsimp only; omega) (.slice a2 n2 c2'))
    have E2 := Lib.hid ((B2.out.set 0 (.slice a1 n1 c1')).set 1 (.slice a2 n2 c2'))
    have o1b := ((o1.mono (B' := w1.heap.size) (by simp)).fr f2).past (p := ⟨w.heap.size + 1 + 1, 0, none⟩) (by dsimp only; omega) (.slice a1 n1 c1') |>.past (p := ⟨w.heap.size + 1 + 1, 1, none⟩) (by dsimp only; omega) (.slice a2 n2 c2')
    have o2b := o2.past (p := ⟨w.heap.size + 1 + 1, 0, none⟩) (by dsimp only; omega) (.slice a1 n1 c1') |>.past (p := ⟨w.heap.size + 1 + 1, 1, none⟩) (by dsimp only; omega) (.slice a2 n2 c2')
    have W1 : Within a1 w.heap.size w2.heap.size := fun k hk => by have := o1.blk k hk; simp at this; omega
    have W2 : Within a2 w2.heap.size w3.heap.size := o2.within
    generalize hw4 : ((w3.setCell ⟨w.heap.size + 1 + 1, 0, none⟩ (.slice a1 n1 c1')).setCell ⟨w.heap.size + 1 + 1, 1, none⟩ (.slice a2 n2 c2')) = w4 at hF3 E0 E1 E2 o1b o2b ⊢
    have z4 : w4.heap.size = w3.heap.size := by rw [← hw4]; simp
    have Z4 := Lib.hid z4
    clear hw4 z4 z1 z2 c0 c1 d0 d1 k0 k1 j0 j1 q0 q1 B0 B1 B2 o1 o2 f1 f2
    have e2 := E0.out.cell (j := 2) (v := .slice a l b) rfl
    go_wp2_with fail
    refine (l1Own_any _ _ _ _ _ (hX.fr hF3) hl).mono ?_
    rintro e w5 ⟨a3, n3, c3', rfl, o3, f3, m3⟩
    have z5 := f3.size
    have G0 := E2.out.fr f3
    have G1 := E1.out.fr f3
    simp only [List.setIfInBounds_toArray, List.set_cons_zero, List.set_cons_succ] at G0
    clear e2
    have k0 := G0.cell (j := 0) rfl; have k1 := G0.cell (j := 1) rfl; have k2 := G0.cell (j := 2) rfl; have k3 := G0.cell (j := 3) rfl; have k4 := G0.cell (j := 4) rfl; have k5 := G0.cell (j := 5) rfl; have k6 := G0.cell (j := 6) rfl
    have q2 := G0.free 2
    have j0 := G1.cell (j := 0) rfl; have j1 := G1.cell (j := 1) rfl; have j2 := G1.cell (j := 2) rfl; have j3 := G1.cell (j := 3) rfl; have j4 := G1.cell (j := 4) rfl; have j5 := G1.cell (j := 5) rfl; have j6 := G1.cell (j := 6) rfl
    have i0 := G1.free 0; have i1 := G1.free 1; have i2 := G1.free 2; have i3 := G1.free 3; have i4 := G1.free 4; have i5 := G1.free 5; have i6 := G1.free 6
    have D1 := Lib.hid G1
    clear G0 G1
    go_wp2
    have E := ((((((((D1.out.other (p := ⟨w.heap.size + 1 + 1, 2, none⟩) (by simp) (.slice a3 n3 c3')).set 0 (.slice a1 n1 c1')).set 1 (.slice a2 n2 c2')).set 2 (.slice a3 n3 c3')).set 3 (.int .i64 x)).set 4 (.int .i64 s)).set 5 (.int .i64 u)).set 6 (.int .i64 v))
    simp only [List.setIfInBounds_toArray, List.set_cons_zero, List.set_cons_succ] at E
    refine bodyPost_ret (results_H Try.results74 _ _ (w.heap.size + 1) _ _ _ _ _ _ _ rfl (E.cell rfl) (E.cell rfl) (E.cell rfl) (E.cell rfl) (E.cell rfl) (E.cell rfl) (E.cell rfl)) rfl ?_
    have z4 := Z4.out
    have z1 := Z1.out
    refine ⟨a1, n1, c1', a2, n2, c2', a3, n3, c3', w2.heap.size, w3.heap.size, rfl, ?_, ?_, ?_, W1, W2, by omega, by omega, by simp; omega, ?_, m1, m2, m3⟩
    · refine Own.mono ?_ (show w.heap.size ≤ w1.heap.size by omega)
      iterate 8 refine Own.past ?_ (by dsimp only; omega) _
      exact o1b.fr f3
    · iterate 8 refine Own.past ?_ (by dsimp only; omega) _
      exact o2b.fr f3
    · rw [← z4]
      iterate 8 refine Own.past ?_ (by dsimp only; omega) _
      exact o3
    · iterate 8 refine Fr.setCell ?_ (by dsimp only; omega) _
      exact hF3.trans f3

theorem results_HB {fn : Func} {k r : Nat} (hr : fn.results = #[.cell k 31, .tmp r]) (tmps : Array Value) (w : World) (g : Nat) (v0 v1 v2 v3 v4 v5 v6 : Value) (bb : Value) (h : tmps[k]?.getD undef = .pointer (some ⟨g, 0, none⟩)) (hb : tmps[r]?.getD undef = bb)
    (h0 : w.cell? ⟨g, 0, none⟩ = some v0) (h1 : w.cell? ⟨g, 1, none⟩ = some v1) (h2 : w.cell? ⟨g, 2, none⟩ = some v2) (h3 : w.cell? ⟨g, 3, none⟩ = some v3) (h4 : w.cell? ⟨g, 4, none⟩ = some v4) (h5 : w.cell? ⟨g, 5, none⟩ = some v5) (h6 : w.cell? ⟨g, 6, none⟩ = some v6) :
    (results fn tmps).run Try.prog w = .ok (.tuple #[.agg #[v0, v1, v2, v3, v4, v5, v6], bb]) w := by
  simp [results, hr, go_sem, h, hb, h0, h1, h2, h3, h4, h5, h6]
/-- A new house and a bool. -/
def RetHB (P W X : List Int) (x s u v : Int) (bb : Bool) (w : World) (e : Ending) (w' : World) : Prop := ∃ (p : Option Addr) (n c : Nat) (q : Option Addr) (m d : Nat) (a : Option Addr) (l k M N : Nat),
  e = .returned (.tuple #[.agg #[.slice p n c, .slice q m d, .slice a l k, .int .i64 x, .int .i64 s, .int .i64 u, .int .i64 v], .bool bb]) ∧
  Own w.heap.size w' p n c P ∧ Own M w' q m d W ∧ Own N w' a l k X ∧ Within p w.heap.size M ∧ Within q M N ∧ w.heap.size ≤ M ∧ M ≤ N ∧ N ≤ w'.heap.size ∧ Fr w w' ∧ n ≤ 1048576 ∧ m ≤ 1048576 ∧ l ≤ 1048576

end Go.Proofs.Ytojipjjfndgbhaa
/- Contracts of NewHouse. -/
set_option linter.unusedVariables false
namespace Go.Proofs.Ytojipjjfndgbhaa
open Go.ChangeShapes Go.WideShapes Go.ChangeAt Go.RowKit

theorem l3B_iff {P W X : List Int} : l3B P W X = true ↔ treeB P W = true ∧ procB P X = true := by rw [l3B, Bool.and_eq_true]
theorem l3B_len {P W X : List Int} (h : l3B P W X = true) : 1 ≤ P.length ∧ P.length ≤ 24 ∧ W.length = P.length ∧ X.length = P.length := by
  obtain ⟨h1, h2⟩ := l3B_iff.1 h
  obtain ⟨g1, g2, _⟩ := treeB_iff.1 h1
  exact ⟨g1.1, g1.2, g2, (procB_iff.1 h2).1⟩
theorem houseB_zero (P W X : List Int) : houseB P W X 0 0 0 0 = l3B P W X := by
  cases h : l3B P W X
  · rw [houseB, h]; rfl
  · have hl := l3B_len h
    have h1 : inB 0 0 ((P.length : Int) - 1) = true := inB_iff.2 (by omega)
    rw [houseB, h, h1]; rfl
def nhV (b : Bool) (P : List Int) : List Int := bif b then P else []

set_option maxRecDepth 100000 in
theorem impl_NewHouse_any (w : World) (p q : Option Addr) (n c m d : Nat) (P W : List Int) (a : Option Addr) (l b : Nat) (X : List Int) (hP : SL w p n c P) (hW : SL w q m d W) (hX : SL w a l b X) :
    Calls Try.prog 24 #[.agg #[.slice p n c, .slice q m d], .slice a l b] w (RetHB (nhV (l3B P W X) P) (nhV (l3B P W X) W) (nhV (l3B P W X) X) 0 0 0 0 (l3B P W X) w) := by
  have HP := Lib.hid hP.len; have HW := Lib.hid hW.len; have HX := Lib.hid hX.len
  have HZ := Lib.hid (houseB_zero P W X)
  have hfr : Fr w (((w.alloc (.cells #[.slice p n c, .slice q m d] 29)).alloc (.cells #[.slice none 0 0, .slice none 0 0, .slice none 0 0, .int .i64 0, .int .i64 0, .int .i64 0, .int .i64 0] 31)).alloc (.cells #[.slice p n c, .slice q m d, .slice a l b, .int .i64 0, .int .i64 0, .int .i64 0, .int .i64 0] 31)) := (((Fr.refl w).alloc _).alloc _).alloc _
  have hb1 := (Blk.new (w.alloc (.cells #[.slice p n c, .slice q m d] 29)) #[.slice none 0 0, .slice none 0 0, .slice none 0 0, .int .i64 0, .int .i64 0, .int .i64 0, .int .i64 0] 31).alloc (.cells #[.slice p n c, .slice q m d, .slice a l b, .int .i64 0, .int .i64 0, .int .i64 0, .int .i64 0] 31)
  have hb2 := Blk.new ((w.alloc (.cells #[.slice p n c, .slice q m d] 29)).alloc (.cells #[.slice none 0 0, .slice none 0 0, .slice none 0 0, .int .i64 0, .int .i64 0, .int .i64 0, .int .i64 0] 31)) #[.slice p n c, .slice q m d, .slice a l b, .int .i64 0, .int .i64 0, .int .i64 0, .int .i64 0] 31
  simp only [World.size_alloc] at hb1 hb2
  have H1 := Lib.hid hb1; have H2 := Lib.hid hb2
  clear hb1 hb2
  go_enter Try.func24, Try.ntmps24
  go_wp2_with fail
  refine (impl_IsHouse_any _ _ _ _ _ _ _ _ _ _ _ _ _ (hP.fr hfr) (hW.fr hfr) (hX.fr hfr) 0 0 0 0).mono ?_
  rintro e w1 ⟨rfl, f1⟩
  have z1 := f1.size
  have G1 := H1.out.fr f1
  have G2 := H2.out.fr f1
  rw [HZ.out]
  cases h : l3B P W X
  · have HL := Lib.hid h
    have j0 := G1.cell (j := 0) rfl; have j1 := G1.cell (j := 1) rfl; have j2 := G1.cell (j := 2) rfl; have j3 := G1.cell (j := 3) rfl; have j4 := G1.cell (j := 4) rfl; have j5 := G1.cell (j := 5) rfl; have j6 := G1.cell (j := 6) rfl
    have i0 := G1.free 0; have i1 := G1.free 1; have i2 := G1.free 2; have i3 := G1.free 3; have i4 := G1.free 4; have i5 := G1.free 5; have i6 := G1.free 6
    have D1 := Lib.hid G1
    clear G1 G2 h
    go_wp2
    have E := (((((((D1.out.set 0 (.slice none 0 0)).set 1 (.slice none 0 0)).set 2 (.slice none 0 0)).set 3 (.int .i64 0)).set 4 (.int .i64 0)).set 5 (.int .i64 0)).set 6 (.int .i64 0))
    simp only [List.setIfInBounds_toArray, List.set_cons_zero, List.set_cons_succ] at E
    refine bodyPost_ret (results_HB Try.results24 _ _ (w.heap.size + 1) _ _ _ _ _ _ _ _ rfl rfl (E.cell rfl) (E.cell rfl) (E.cell rfl) (E.cell rfl) (E.cell rfl) (E.cell rfl) (E.cell rfl)) rfl ?_
    rw [HL.out]
    have hn : ∀ B w', Own B w' none 0 0 [] := fun B w' => ⟨World.ownsRow_nil _ _ _ _, by simp⟩
    refine ⟨none, 0, 0, none, 0, 0, none, 0, 0, w.heap.size, w.heap.size, rfl, hn _ _, hn _ _, hn _ _, fun k hk => by simp [blkOf] at hk, fun k hk => by simp [blkOf] at hk, Nat.le_refl _, Nat.le_refl _, ?_, ?_, by omega, by omega, by omega⟩
    · have := (hfr.trans f1).size; simpa using this
    · iterate 7 refine Fr.setCell ?_ (by dsimp only; omega) _
      exact hfr.trans f1
  · have HL := Lib.hid h
    have hl := l3B_len h
    rw [HP.out] at hl
    have hl2 : m ≤ 1048576 := by rw [← HW.out]; omega
    have hl3 : l ≤ 1048576 := by rw [← HX.out]; omega
    have k0 := G2.cell (j := 0) rfl; have k1 := G2.cell (j := 1) rfl; have k2 := G2.cell (j := 2) rfl; have k3 := G2.cell (j := 3) rfl; have k4 := G2.cell (j := 4) rfl; have k5 := G2.cell (j := 5) rfl; have k6 := G2.cell (j := 6) rfl
    have g1 := Lib.hid G1
    clear G1 G2
    have hF1 := hfr.trans f1
    go_wp2_with fail
    clear h k0 k1 k2 k3 k4 k5 k6
    refine (own_any _ _ _ _ _ _ _ _ _ _ _ _ _ _ _ _ _ (hP.fr hF1) (hW.fr hF1) (hX.fr hF1) (by omega) hl2 hl3).mono ?_
    rintro e w2 ⟨p2, n2, c2, q2, m2, d2, a2, l2, b2, M, N, rfl, o1, o2, o3, W1, W2, y1, y2, y3, f2, e1, e2, e3⟩
    have G1 := g1.out.fr f2
    have j0 := G1.cell (j := 0) rfl; have j1 := G1.cell (j := 1) rfl; have j2 := G1.cell (j := 2) rfl; have j3 := G1.cell (j := 3) rfl; have j4 := G1.cell (j := 4) rfl; have j5 := G1.cell (j := 5) rfl; have j6 := G1.cell (j := 6) rfl
    have i0 := G1.free 0; have i1 := G1.free 1; have i2 := G1.free 2; have i3 := G1.free 3; have i4 := G1.free 4; have i5 := G1.free 5; have i6 := G1.free 6
    have D1 := Lib.hid G1
    clear G1
    go_wp2
    have E := (((((((D1.out.set 0 (.slice p2 n2 c2)).set 1 (.slice q2 m2 d2)).set 2 (.slice a2 l2 b2)).set 3 (.int .i64 0)).set 4 (.int .i64 0)).set 5 (.int .i64 0)).set 6 (.int .i64 0))
    simp only [List.setIfInBounds_toArray, List.set_cons_zero, List.set_cons_succ] at E
    refine bodyPost_ret (results_HB Try.results24 _ _ (w.heap.size + 1) _ _ _ _ _ _ _ _ rfl rfl (E.cell rfl) (E.cell rfl) (E.cell rfl) (E.cell rfl) (E.cell rfl) (E.cell rfl) (E.cell rfl)) rfl ?_
    simp only [World.size_alloc] at z1
    rw [HL.out]
    refine ⟨p2, n2, c2, q2, m2, d2, a2, l2, b2, M, N, rfl, ?_, ?_, ?_, fun k hk => by have := W1 k hk; omega, W2, by omega, y2, by simpa using y3, ?_, e1, e2, e3⟩
    · refine Own.mono ?_ (show w.heap.size ≤ w1.heap.size by omega)
      iterate 7 refine Own.past ?_ (by dsimp only; omega) _
      exact o1
    · iterate 7 refine Own.past ?_ (by dsimp only; omega) _
      exact o2
    · iterate 7 refine Own.past ?_ (by dsimp only; omega) _
      exact o3
    · iterate 7 refine Fr.setCell ?_ (by dsimp only; omega) _
      exact hF1.trans f2

set_option maxRecDepth 100000 in
theorem spec_NewHouse_any (w : World) (p q : Option Addr) (n c m d : Nat) (P W : List Int) (a : Option Addr) (l b : Nat) (X : List Int) (hP : SL w p n c P) (hW : SL w q m d W) (hX : SL w a l b X) :
    Calls Try.prog 21 #[.agg #[.slice p n c, .slice q m d], .slice a l b] w (RetHB (nhV (l3B P W X) P) (nhV (l3B P W X) W) (nhV (l3B P W X) X) 0 0 0 0 (l3B P W X) w) := by
  have HP := Lib.hid hP.len; have HW := Lib.hid hW.len; have HX := Lib.hid hX.len
  have hfr : Fr w ((w.alloc (.cells #[.slice p n c, .slice q m d] 29)).alloc (.cells #[.slice none 0 0, .slice none 0 0, .slice none 0 0, .int .i64 0, .int .i64 0, .int .i64 0, .int .i64 0] 31)) := ((Fr.refl w).alloc _).alloc _
  have hb0 := (Blk.new w #[.slice p n c, .slice q m d] 29).alloc (.cells #[.slice none 0 0, .slice none 0 0, .slice none 0 0, .int .i64 0, .int .i64 0, .int .i64 0, .int .i64 0] 31)
  have hb1 := Blk.new (w.alloc (.cells #[.slice p n c, .slice q m d] 29)) #[.slice none 0 0, .slice none 0 0, .slice none 0 0, .int .i64 0, .int .i64 0, .int .i64 0, .int .i64 0] 31
  simp only [World.size_alloc] at hb1
  have H0 := Lib.hid hb0; have H1 := Lib.hid hb1
  clear hb0 hb1
  go_enter Try.func21, Try.ntmps21
  go_wp2_with fail
  refine (l3Good_any _ _ _ _ _ _ _ _ _ _ _ _ _ (hP.fr hfr) (hW.fr hfr) (hX.fr hfr)).mono ?_
  rintro e w1 ⟨rfl, f1⟩
  have z1 := f1.size
  have G0 := H0.out.fr f1
  have G1 := H1.out.fr f1
  cases h : l3B P W X
  · have HL := Lib.hid h
    have j0 := G1.cell (j := 0) rfl; have j1 := G1.cell (j := 1) rfl; have j2 := G1.cell (j := 2) rfl; have j3 := G1.cell (j := 3) rfl; have j4 := G1.cell (j := 4) rfl; have j5 := G1.cell (j := 5) rfl; have j6 := G1.cell (j := 6) rfl
    have i0 := G1.free 0; have i1 := G1.free 1; have i2 := G1.free 2; have i3 := G1.free 3; have i4 := G1.free 4; have i5 := G1.free 5; have i6 := G1.free 6
    have D1 := Lib.hid G1
    clear G1 G0 h
    go_wp2
    have E := (((((((D1.out.set 0 (.slice none 0 0)).set 1 (.slice none 0 0)).set 2 (.slice none 0 0)).set 3 (.int .i64 0)).set 4 (.int .i64 0)).set 5 (.int .i64 0)).set 6 (.int .i64 0))
    simp only [List.setIfInBounds_toArray, List.set_cons_zero, List.set_cons_succ] at E
    refine bodyPost_ret (results_HB Try.results21 _ _ (w.heap.size + 1) _ _ _ _ _ _ _ _ rfl rfl (E.cell rfl) (E.cell rfl) (E.cell rfl) (E.cell rfl) (E.cell rfl) (E.cell rfl) (E.cell rfl)) rfl ?_
    rw [HL.out]
    have hn : ∀ B w', Own B w' none 0 0 [] := fun B w' => ⟨World.ownsRow_nil _ _ _ _, by simp⟩
    refine ⟨none, 0, 0, none, 0, 0, none, 0, 0, w.heap.size, w.heap.size, rfl, hn _ _, hn _ _, hn _ _, fun k hk => by simp [blkOf] at hk, fun k hk => by simp [blkOf] at hk, Nat.le_refl _, Nat.le_refl _, ?_, ?_, by omega, by omega, by omega⟩
    · have := (hfr.trans f1).size; simpa using this
    · iterate 7 refine Fr.setCell ?_ (by dsimp only; omega) _
      exact hfr.trans f1
  · have HL := Lib.hid h
    have hl := l3B_len h
    rw [HP.out] at hl
    have hl2 : m ≤ 1048576 := by rw [← HW.out]; omega
    have hl3 : l ≤ 1048576 := by rw [← HX.out]; omega
    have k0 := G0.cell (j := 0) rfl; have k1 := G0.cell (j := 1) rfl
    have g1 := Lib.hid G1
    clear G1 G0
    have hF1 := hfr.trans f1
    go_wp2_with fail
    clear h k0 k1
    refine (l12Own_any _ _ _ _ _ _ _ _ _ _ _ _ _ _ _ _ _ (hP.fr hF1) (hW.fr hF1) (hX.fr hF1) (by omega) hl2 hl3).mono ?_
    rintro e w2 ⟨p2, n2, c2, q2, m2, d2, a2, l2, b2, M, N, rfl, o1, o2, o3, W1, W2, y1, y2, y3, f2, e1, e2, e3⟩
    have G1 := g1.out.fr f2
    have j0 := G1.cell (j := 0) rfl; have j1 := G1.cell (j := 1) rfl; have j2 := G1.cell (j := 2) rfl; have j3 := G1.cell (j := 3) rfl; have j4 := G1.cell (j := 4) rfl; have j5 := G1.cell (j := 5) rfl; have j6 := G1.cell (j := 6) rfl
    have i0 := G1.free 0; have i1 := G1.free 1; have i2 := G1.free 2; have i3 := G1.free 3; have i4 := G1.free 4; have i5 := G1.free 5; have i6 := G1.free 6
    have D1 := Lib.hid G1
    clear G1
    go_wp2
    have E := (((((((D1.out.set 0 (.slice p2 n2 c2)).set 1 (.slice q2 m2 d2)).set 2 (.slice a2 l2 b2)).set 3 (.int .i64 0)).set 4 (.int .i64 0)).set 5 (.int .i64 0)).set 6 (.int .i64 0))
    simp only [List.setIfInBounds_toArray, List.set_cons_zero, List.set_cons_succ] at E
    refine bodyPost_ret (results_HB Try.results21 _ _ (w.heap.size + 1) _ _ _ _ _ _ _ _ rfl rfl (E.cell rfl) (E.cell rfl) (E.cell rfl) (E.cell rfl) (E.cell rfl) (E.cell rfl) (E.cell rfl)) rfl ?_
    simp only [World.size_alloc] at z1
    rw [HL.out]
    refine ⟨p2, n2, c2, q2, m2, d2, a2, l2, b2, M, N, rfl, ?_, ?_, ?_, fun k hk => by have := W1 k hk; omega, W2, by omega, y2, by simpa using y3, ?_, e1, e2, e3⟩
    · refine Own.mono ?_ (show w.heap.size ≤ w1.heap.size by omega)
      iterate 7 refine Own.past ?_ (by dsimp only; omega) _
      exact o1
    · iterate 7 refine Own.past ?_ (by dsimp only; omega) _
      exact o2
    · iterate 7 refine Own.past ?_ (by dsimp only; omega) _
      exact o3
    · iterate 7 refine Fr.setCell ?_ (by dsimp only; omega) _
      exact hF1.trans f2

end Go.Proofs.Ytojipjjfndgbhaa
