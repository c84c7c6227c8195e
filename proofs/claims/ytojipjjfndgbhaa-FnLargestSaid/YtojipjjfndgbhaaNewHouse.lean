import Derived.Test.YtojipjjfndgbhaaOwn
/- Contracts of NewHouse. -/
set_option linter.unusedVariables false
namespace Go.Proofs.Ytojipjjfndgbhaa
open Go.ChangeShapes Go.WideShapes Go.ChangeAt Go.RowKit

theorem l3B_iff {P W X : List Int} : l3B P W X = true ↔ treeB P W = true ∧ procB P X = true := by rw [l3B, Bool.and_eq_true]
theorem l3B_len {P W X : List Int} (h : l3B P W X = true) : 1 ≤ P.length ∧ P.length ≤ 24 ∧ W.length = P.length ∧ X.length = P.length := by
  obtain ⟨h1, h2⟩ := l3B_iff.1 h
  obtain ⟨g1, g2, _⟩ := treeB_iff.1 h1
  exact ⟨g1.1, g1.2, g2, (procB_iff.1 h2).1⟩
theorem houseB_zero (P W X : List Int) : houseB P W X 0 0 0 0 = l3B P W X := by
  cases h : l3B P W X
  · rw [houseB, h]; rfl
  · have hl := l3B_len h
    have h1 : inB 0 0 ((P.length : Int) - 1) = true := inB_iff.2 (by omega)
    rw [houseB, h, h1]; rfl
def nhV (b : Bool) (P : List Int) : List Int := bif b then P else []

set_option maxRecDepth 100000 in
theorem impl_NewHouse_any (w : World) (p q : Option Addr) (n c m d : Nat) (P W : List Int) (a : Option Addr) (l b : Nat) (X : List Int) (hP : SL w p n c P) (hW : SL w q m d W) (hX : SL w a l b X) :
    Calls Try.prog 24 #[.agg #[.slice p n c, .slice q m d], .slice a l b] w (RetHB (nhV (l3B P W X) P) (nhV (l3B P W X) W) (nhV (l3B P W X) X) 0 0 0 0 (l3B P W X) w) := by
  have HP := Lib.hid hP.len; have HW := Lib.hid hW.len; have HX := Lib.hid hX.len
  have HZ := Lib.hid (houseB_zero P W X)
  have hfr : Fr w (((w.alloc (.cells #[.slice p n c, .slice q m d] 29)).alloc (.cells #[.slice none 0 0, .slice none 0 0, .slice none 0 0, .int .i64 0, .int .i64 0, .int .i64 0, .int .i64 0] 31)).alloc (.cells #[.slice p n c, .slice q m d, .slice a l b, .int .i64 0, .int .i64 0, .int .i64 0, .int .i64 0] 31)) := (((Fr.refl w).alloc _).alloc _).alloc _
  have hb1 := (Blk.new (w.alloc (.cells #[.slice p n c, .slice q m d] 29)) #[.slice none 0 0, .slice none 0 0, .slice none 0 0, .int .i64 0, .int .i64 0, .int .i64 0, .int .i64 0] 31).alloc (.cells #[.slice p n c, .slice q m d, .slice a l b, .int .i64 0, .int .i64 0, .int .i64 0, .int .i64 0] 31)
  have hb2 := Blk.new ((w.alloc (.cells #[.slice p n c, .slice q m d] 29)).alloc (.cells #[.slice none 0 0, .slice none 0 0, .slice none 0 0, .int .i64 0, .int .i64 0, .int .i64 0, .int .i64 0] 31)) #[.slice p n c, .slice q m d, .slice a l b, .int .i64 0, .int .i64 0, .int .i64 0, .int .i64 0] 31
  simp only [World.size_alloc] at hb1 hb2
  have H1 := Lib.hid hb1; have H2 := Lib.hid hb2
  clear hb1 hb2
  go_enter Try.func24, Try.ntmps24
  go_wp2_with fail
  refine (impl_IsHouse_any _ _ _ _ _ _ _ _ _ _ _ _ _ (hP.fr hfr) (hW.fr hfr) (hX.fr hfr) 0 0 0 0).mono ?_
  rintro e w1 ⟨rfl, f1⟩
  have z1 := f1.size
  have G1 := H1.out.fr f1
  have G2 := H2.out.fr f1
  rw [HZ.out]
  cases h : l3B P W X
  · have HL := Lib.hid h
    have j0 := G1.cell (j := 0) rfl; have j1 := G1.cell (j := 1) rfl; have j2 := G1.cell (j := 2) rfl; have j3 := G1.cell (j := 3) rfl; have j4 := G1.cell (j := 4) rfl; have j5 := G1.cell (j := 5) rfl; have j6 := G1.cell (j := 6) rfl
    have i0 := G1.free 0; have i1 := G1.free 1; have i2 := G1.free 2; have i3 := G1.free 3; have i4 := G1.free 4; have i5 := G1.free 5; have i6 := G1.free 6
    have D1 := Lib.hid G1
    clear G1 G2 h
    go_wp2
    have E := (((((((D1.out.set 0 (.slice none 0 0)).set 1 (.slice none 0 0)).set 2 (.slice none 0 0)).set 3 (.int .i64 0)).set 4 (.int .i64 0)).set 5 (.int .i64 0)).set 6 (.int .i64 0))
    simp only [List.setIfInBounds_toArray, List.set_cons_zero, List.set_cons_succ] at E
    refine bodyPost_ret (results_HB Try.results24 _ _ (w.heap.size + 1) _ _ _ _ _ _ _ _ rfl rfl (E.cell rfl) (E.cell rfl) (E.cell rfl) (E.cell rfl) (E.cell rfl) (E.cell rfl) (E.cell rfl)) rfl ?_
    rw [HL.out]
    have hn : ∀ B w', Own B w' none 0 0 [] := fun B w' => ⟨World.ownsRow_nil _ _ _ _, by simp⟩
    refine ⟨none, 0, 0, none, 0, 0, none, 0, 0, w.heap.size, w.heap.size, rfl, hn _ _, hn _ _, hn _ _, fun k hk => by simp [blkOf] at hk, fun k hk => by simp [blkOf] at hk, Nat.le_refl _, Nat.le_refl _, ?_, ?_, by omega, by omega, by omega⟩
    · have := (hfr.trans f1).size; simpa using this
    · iterate 7 refine Fr.setCell ?_ (by dsimp only; omega) _
      exact hfr.trans f1
  · have HL := Lib.hid h
    have hl := l3B_len h
    rw [HP.out] at hl
    have hl2 : m ≤ 1048576 := by rw [← HW.out]; omega
    have hl3 : l ≤ 1048576 := by rw [← HX.out]; omega
    have k0 := G2.cell (j := 0) rfl; have k1 := G2.cell (j := 1) rfl; have k2 := G2.cell (j := 2) rfl; have k3 := G2.cell (j := 3) rfl; have k4 := G2.cell (j := 4) rfl; have k5 := G2.cell (j := 5) rfl; have k6 := G2.cell (j := 6) rfl
    have g1 := Lib.hid G1
    clear G1 G2
    have hF1 := hfr.trans f1
    go_wp2_with fail
    clear h k0 k1 k2 k3 k4 k5 k6
    refine (own_any _ _ _ _ _ _ _ _ _ _ _ _ _ _ _ _ _ (hP.fr hF1) (hW.fr hF1) (hX.fr hF1) (by omega) hl2 hl3).mono ?_
    rintro e w2 ⟨p2, n2, c2, q2, m2, d2, a2, l2, b2, M, N, rfl, o1, o2, o3, W1, W2, y1, y2, y3, f2, e1, e2, e3⟩
    have G1 := g1.out.fr f2
    have j0 := G1.cell (j := 0) rfl; have j1 := G1.cell (j := 1) rfl; have j2 := G1.cell (j := 2) rfl; have j3 := G1.cell (j := 3) rfl; have j4 := G1.cell (j := 4) rfl; have j5 := G1.cell (j := 5) rfl; have j6 := G1.cell (j := 6) rfl
    have i0 := G1.free 0; have i1 := G1.free 1; have i2 := G1.free 2; have i3 := G1.free 3; have i4 := G1.free 4; have i5 := G1.free 5; have i6 := G1.free 6
    have D1 := Lib.hid G1
    clear G1
    go_wp2
    have E := (((((((D1.out.set 0 (.slice p2 n2 c2)).set 1 (.slice q2 m2 d2)).set 2 (.slice a2 l2 b2)).set 3 (.int .i64 0)).set 4 (.int .i64 0)).set 5 (.int .i64 0)).set 6 (.int .i64 0))
    simp only [List.setIfInBounds_toArray, List.set_cons_zero, List.set_cons_succ] at E
    refine bodyPost_ret (results_HB Try.results24 _ _ (w.heap.size + 1) _ _ _ _ _ _ _ _ rfl rfl (E.cell rfl) (E.cell rfl) (E.cell rfl) (E.cell rfl) (E.cell rfl) (E.cell rfl) (E.cell rfl)) rfl ?_
    simp only [World.size_alloc] at z1
    rw [HL.out]
    refine ⟨p2, n2, c2, q2, m2, d2, a2, l2, b2, M, N, rfl, ?_, ?_, ?_, fun k hk => by have := W1 k hk; omega, W2, by omega, y2, by simpa using y3, ?_, e1, e2, e3⟩
    · refine Own.mono ?_ (show w.heap.size ≤ w1.heap.size by omega)
      iterate 7 refine Own.past ?_ (by dsimp only; omega) _
      exact o1
    · iterate 7 refine Own.past ?_ (by dsimp only; omega) _
      exact o2
    · iterate 7 refine Own.past ?_ (by dsimp only; omega) _
      exact o3
    · iterate 7 refine Fr.setCell ?_ (by dsimp only; omega) _
      exact hF1.trans f2

set_option maxRecDepth 100000 in
theorem spec_NewHouse_any (w : World) (p q : Option Addr) (n c m d : Nat) (P W : List Int) (a : Option Addr) (l b : Nat) (X : List Int) (hP : SL w p n c P) (hW : SL w q m d W) (hX : SL w a l b X) :
    Calls Try.prog 21 #[.agg #[.slice p n c, .slice q m d], .slice a l b] w (RetHB (nhV (l3B P W X) P) (nhV (l3B P W X) W) (nhV (l3B P W X) X) 0 0 0 0 (l3B P W X) w) := by
  have HP := Lib.hid hP.len; have HW := Lib.hid hW.len; have HX := Lib.hid hX.len
  have hfr : Fr w ((w.alloc (.cells #[.slice p n c, .slice q m d] 29)).alloc (.cells #[.slice none 0 0, .slice none 0 0, .slice none 0 0, .int .i64 0, .int .i64 0, .int .i64 0, .int .i64 0] 31)) := ((Fr.refl w).alloc _).alloc _
  have hb0 := (Blk.new w #[.slice p n c, .slice q m d] 29).alloc (.cells #[.slice none 0 0, .slice none 0 0, .slice none 0 0, .int .i64 0, .int .i64 0, .int .i64 0, .int .i64 0] 31)
  have hb1 := Blk.new (w.alloc (.cells #[.slice p n c, .slice q m d] 29)) #[.slice none 0 0, .slice none 0 0, .slice none 0 0, .int .i64 0, .int .i64 0, .int .i64 0, .int .i64 0] 31
  simp only [World.size_alloc] at hb1
  have H0 := Lib.hid hb0; have H1 := Lib.hid hb1
  clear hb0 hb1
  go_enter Try.func21, Try.ntmps21
  go_wp2_with fail
  refine (l3Good_any _ _ _ _ _ _ _ _ _ _ _ _ _ (hP.fr hfr) (hW.fr hfr) (hX.fr hfr)).mono ?_
  rintro e w1 ⟨rfl, f1⟩
  have z1 := f1.size
  have G0 := H0.out.fr f1
  have G1 := H1.out.fr f1
  cases h : l3B P W X
  · have HL := Lib.hid h
    have j0 := G1.cell (j := 0) rfl; have j1 := G1.cell (j := 1) rfl; have j2 := G1.cell (j := 2) rfl; have j3 := G1.cell (j := 3) rfl; have j4 := G1.cell (j := 4) rfl; have j5 := G1.cell (j := 5) rfl; have j6 := G1.cell (j := 6) rfl
    have i0 := G1.free 0; have i1 := G1.free 1; have i2 := G1.free 2; have i3 := G1.free 3; have i4 := G1.free 4; have i5 := G1.free 5; have i6 := G1.free 6
    have D1 := Lib.hid G1
    clear G1 G0 h
    go_wp2
    have E := (((((((D1.out.set 0 (.slice none 0 0)).set 1 (.slice none 0 0)).set 2 (.slice none 0 0)).set 3 (.int .i64 0)).set 4 (.int .i64 0)).set 5 (.int .i64 0)).set 6 (.int .i64 0))
    simp only [List.setIfInBounds_toArray, List.set_cons_zero, List.set_cons_succ] at E
    refine bodyPost_ret (results_HB Try.results21 _ _ (w.heap.size + 1) _ _ _ _ _ _ _ _ rfl rfl (E.cell rfl) (E.cell rfl) (E.cell rfl) (E.cell rfl) (E.cell rfl) (E.cell rfl) (E.cell rfl)) rfl ?_
    rw [HL.out]
    have hn : ∀ B w', Own B w' none 0 0 [] := fun B w' => ⟨World.ownsRow_nil _ _ _ _, by simp⟩
    refine ⟨none, 0, 0, none, 0, 0, none, 0, 0, w.heap.size, w.heap.size, rfl, hn _ _, hn _ _, hn _ _, fun k hk => by simp [blkOf] at hk, fun k hk => by simp [blkOf] at hk, Nat.le_refl _, Nat.le_refl _, ?_, ?_, by omega, by omega, by omega⟩
    · have := (hfr.trans f1).size; simpa using this
    · iterate 7 refine Fr.setCell ?_ (by dsimp only; omega) _
      exact hfr.trans f1
  · have HL := Lib.hid h
    have hl := l3B_len h
    rw [HP.out] at hl
    have hl2 : m ≤ 1048576 := by rw [← HW.out]; omega
    have hl3 : l ≤ 1048576 := by rw [← HX.out]; omega
    have k0 := G0.cell (j := 0) rfl; have k1 := G0.cell (j := 1) rfl
    have g1 := Lib.hid G1
    clear G1 G0
    have hF1 := hfr.trans f1
    go_wp2_with fail
    clear h k0 k1
    refine (l12Own_any _ _ _ _ _ _ _ _ _ _ _ _ _ _ _ _ _ (hP.fr hF1) (hW.fr hF1) (hX.fr hF1) (by omega) hl2 hl3).mono ?_
    rintro e w2 ⟨p2, n2, c2, q2, m2, d2, a2, l2, b2, M, N, rfl, o1, o2, o3, W1, W2, y1, y2, y3, f2, e1, e2, e3⟩
    have G1 := g1.out.fr f2
    have j0 := G1.cell (j := 0) rfl; have j1 := G1.cell (j := 1) rfl; have j2 := G1.cell (j := 2) rfl; have j3 := G1.cell (j := 3) rfl; have j4 := G1.cell (j := 4) rfl; have j5 := G1.cell (j := 5) rfl; have j6 := G1.cell (j := 6) rfl
    have i0 := G1.free 0; have i1 := G1.free 1; have i2 := G1.free 2; have i3 := G1.free 3; have i4 := G1.free 4; have i5 := G1.free 5; have i6 := G1.free 6
    have D1 := Lib.hid G1
    clear G1
    go_wp2
    have E := (((((((D1.out.set 0 (.slice p2 n2 c2)).set 1 (.slice q2 m2 d2)).set 2 (.slice a2 l2 b2)).set 3 (.int .i64 0)).set 4 (.int .i64 0)).set 5 (.int .i64 0)).set 6 (.int .i64 0))
    simp only [List.setIfInBounds_toArray, List.set_cons_zero, List.set_cons_succ] at E
    refine bodyPost_ret (results_HB Try.results21 _ _ (w.heap.size + 1) _ _ _ _ _ _ _ _ rfl rfl (E.cell rfl) (E.cell rfl) (E.cell rfl) (E.cell rfl) (E.cell rfl) (E.cell rfl) (E.cell rfl)) rfl ?_
    simp only [World.size_alloc] at z1
    rw [HL.out]
    refine ⟨p2, n2, c2, q2, m2, d2, a2, l2, b2, M, N, rfl, ?_, ?_, ?_, fun k hk => by have := W1 k hk; omega, W2, by omega, y2, by simpa using y3, ?_, e1, e2, e3⟩
    · refine Own.mono ?_ (show w.heap.size ≤ w1.heap.size by omega)
      iterate 7 refine Own.past ?_ (by dsimp only; omega) _
      exact o1
    · iterate 7 refine Own.past ?_ (by dsimp only; omega) _
      exact o2
    · iterate 7 refine Own.past ?_ (by dsimp only; omega) _
      exact o3
    · iterate 7 refine Fr.setCell ?_ (by dsimp only; omega) _
      exact hF1.trans f2

end Go.Proofs.Ytojipjjfndgbhaa
