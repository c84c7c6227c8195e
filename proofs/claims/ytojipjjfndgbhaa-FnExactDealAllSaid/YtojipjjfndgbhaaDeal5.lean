import Derived.Test.YtojipjjfndgbhaaDeal4
/- Contracts of the reference's l12Do and DealHouse. -/
set_option linter.unusedVariables false
namespace Go.Proofs.Ytojipjjfndgbhaa
open Go.ChangeShapes Go.WideShapes Go.ChangeAt Go.RowKit

set_option maxRecDepth 100000 in
set_option maxHeartbeats 4000000 in
theorem l12Do_any (w : World) (p q a : Option Addr) (n c m d l b : Nat) (P W X : List Int) (x s u v kd A B : Int) (hP : SL w p n c P) (hW : SL w q m d W) (hX : SL w a l b X) (hx : I64 x) (hs : I64 s) (hu : I64 u) (hv : I64 v) (hk : I64 kd) (hA : I64 A) (hB : I64 B) (h : houseB P W X x s u v = true) :
    Calls Try.prog 92 #[.agg #[.slice p n c, .slice q m d, .slice a l b, .int .i64 x, .int .i64 s, .int .i64 u, .int .i64 v], .agg #[.int .i64 kd, .int .i64 A, .int .i64 B]] w (RetHB (nhV (goB P W X x s u v kd A B) P) (nhV (goB P W X x s u v kd A B) (dW W kd A B)) (nhV (goB P W X x s u v kd A B) (dX X kd A B)) (dV (goB P W X x s u v kd A B) (dAt x kd A)) (dV (goB P W X x s u v kd A B) (dSt s kd A)) (dV (goB P W X x s u v kd A B) (dPu X x s u kd A)) (dV (goB P W X x s u v kd A B) (v + 1)) (goB P W X x s u v kd A B) w) := by
  have HP := Lib.hid hP.len; have HW := Lib.hid hW.len; have HX := Lib.hid hX.len
  have hfr : Fr w (((w.alloc (.cells #[.slice p n c, .slice q m d, .slice a l b, .int .i64 x, .int .i64 s, .int .i64 u, .int .i64 v] 31)).alloc (.cells #[.int .i64 kd, .int .i64 A, .int .i64 B] 58)).alloc (.cells #[.slice none 0 0, .slice none 0 0, .slice none 0 0, .int .i64 0, .int .i64 0, .int .i64 0, .int .i64 0] 31)) := (((Fr.refl w).alloc _).alloc _).alloc _
  have hb0 := ((Blk.new w #[.slice p n c, .slice q m d, .slice a l b, .int .i64 x, .int .i64 s, .int .i64 u, .int .i64 v] 31).alloc (.cells #[.int .i64 kd, .int .i64 A, .int .i64 B] 58)).alloc (.cells #[.slice none 0 0, .slice none 0 0, .slice none 0 0, .int .i64 0, .int .i64 0, .int .i64 0, .int .i64 0] 31)
  have hb1 := (Blk.new (w.alloc (.cells #[.slice p n c, .slice q m d, .slice a l b, .int .i64 x, .int .i64 s, .int .i64 u, .int .i64 v] 31)) #[.int .i64 kd, .int .i64 A, .int .i64 B] 58).alloc (.cells #[.slice none 0 0, .slice none 0 0, .slice none 0 0, .int .i64 0, .int .i64 0, .int .i64 0, .int .i64 0] 31)
  have hb2 := Blk.new ((w.alloc (.cells #[.slice p n c, .slice q m d, .slice a l b, .int .i64 x, .int .i64 s, .int .i64 u, .int .i64 v] 31)).alloc (.cells #[.int .i64 kd, .int .i64 A, .int .i64 B] 58)) #[.slice none 0 0, .slice none 0 0, .slice none 0 0, .int .i64 0, .int .i64 0, .int .i64 0, .int .i64 0] 31
  simp only [World.size_alloc] at hb1 hb2
  have H0 := Lib.hid hb0; have H1 := Lib.hid hb1; have H2 := Lib.hid hb2
  clear hb0 hb1 hb2
  have HH := Lib.hid h
  obtain ⟨-, r1, r2, r3⟩ := houseB_all h
  have hfz := hfr.size
  simp only [World.size_alloc] at hfz
  have k0 := H0.out.cell (j := 0) rfl; have k1 := H0.out.cell (j := 1) rfl; have k2 := H0.out.cell (j := 2) rfl; have k3 := H0.out.cell (j := 3) rfl; have k4 := H0.out.cell (j := 4) rfl; have k5 := H0.out.cell (j := 5) rfl; have k6 := H0.out.cell (j := 6) rfl
  have n0 := H1.out.cell (j := 0) rfl; have n1 := H1.out.cell (j := 1) rfl; have n2 := H1.out.cell (j := 2) rfl
  clear h
  go_enter Try.func92, Try.ntmps92
  go_wp2_with fail
  clear k0 k1 k2 k3 k4 k5 k6 n0 n1 n2
  refine (l12May_any _ _ _ _ _ _ _ _ _ _ _ _ _ _ _ _ _ kd A B (hP.fr hfr) (hW.fr hfr) (hX.fr hfr) HH.out).mono ?_
  rintro e w1 ⟨rfl, f1⟩
  have z1 := f1.size
  simp only [World.size_alloc] at z1
  have hF1 := hfr.trans f1
  have G0 := Lib.hid (H0.out.fr f1); have G1 := Lib.hid (H1.out.fr f1); have G2 := Lib.hid (H2.out.fr f1)
  clear H0 H1 H2 f1
  cases hmay : mayB P x kd A B
  · have HL : Hid (goB P W X x s u v kd A B = false) := Lib.hid (by rw [goB, hmay]; rfl)
    have j0 := G2.out.cell (j := 0) rfl; have j1 := G2.out.cell (j := 1) rfl; have j2 := G2.out.cell (j := 2) rfl; have j3 := G2.out.cell (j := 3) rfl; have j4 := G2.out.cell (j := 4) rfl; have j5 := G2.out.cell (j := 5) rfl; have j6 := G2.out.cell (j := 6) rfl
    have i0 := G2.out.free 0; have i1 := G2.out.free 1; have i2 := G2.out.free 2; have i3 := G2.out.free 3; have i4 := G2.out.free 4; have i5 := G2.out.free 5; have i6 := G2.out.free 6
    clear hmay
    go_wp2
    have E := (((((((G2.out.set 0 (.slice none 0 0)).set 1 (.slice none 0 0)).set 2 (.slice none 0 0)).set 3 (.int .i64 0)).set 4 (.int .i64 0)).set 5 (.int .i64 0)).set 6 (.int .i64 0))
    simp only [List.setIfInBounds_toArray, List.set_cons_zero, List.set_cons_succ] at E
    refine bodyPost_ret (results_HB Try.results92 _ _ (w.heap.size + 1 + 1) _ _ _ _ _ _ _ _ rfl rfl (E.cell rfl) (E.cell rfl) (E.cell rfl) (E.cell rfl) (E.cell rfl) (E.cell rfl) (E.cell rfl)) rfl ?_
    rw [HL.out]
    refine ⟨none, 0, 0, none, 0, 0, none, 0, 0, w.heap.size, w.heap.size, rfl, Own.nil _ _, Own.nil _ _, Own.nil _ _, fun k hk => by simp [blkOf] at hk, fun k hk => by simp [blkOf] at hk, Nat.le_refl _, Nat.le_refl _, ?_, ?_, by omega, by omega, by omega⟩
    · have := hF1.size; simpa using this
    · iterate 7 refine Fr.setCell ?_ (by dsimp only; omega) _
      exact hF1
  · have HM := Lib.hid hmay
    have k0 := G0.out.cell (j := 0) rfl; have k1 := G0.out.cell (j := 1) rfl; have k2 := G0.out.cell (j := 2) rfl; have k3 := G0.out.cell (j := 3) rfl; have k4 := G0.out.cell (j := 4) rfl; have k5 := G0.out.cell (j := 5) rfl; have k6 := G0.out.cell (j := 6) rfl
    have n0 := G1.out.cell (j := 0) rfl; have n1 := G1.out.cell (j := 1) rfl; have n2 := G1.out.cell (j := 2) rfl
    go_wp2_with fail
    clear k0 k1 k2 k3 k4 k5 k6 n0 n1 n2 hmay
    refine (l12Make_any _ _ _ _ _ _ _ _ _ _ _ _ _ _ _ _ _ kd A B (hP.fr hF1) (hW.fr hF1) (hX.fr hF1) hx hs hu hv hk hA hB HH.out HM.out).mono ?_
    rintro e w2 ⟨p2, n2, c2, q2, m2, d2, a2, l2, b2, M, N, rfl, o1, o2, o3, W1, W2, y1, y2, y3, f2, e1, e2, e3⟩
    have z2 := f2.size
    have W3 := o3.within
    have hne1 : blkOf p2 ≠ some w2.heap.size := fun e => by have := W1 _ e; omega
    have hne2 : blkOf q2 ≠ some w2.heap.size := fun e => by have := W2 _ e; omega
    have hne3 : blkOf a2 ≠ some w2.heap.size := fun e => by have := W3 _ e; omega
    go_upto_region 4 with fail
    have fa : Fr w2 (w2.alloc (.cells #[.slice p2 n2 c2, .slice q2 m2 d2, .slice a2 l2 b2, .int .i64 (dAt x kd A), .int .i64 (dSt s kd A), .int .i64 (dPu X x s u kd A), .int .i64 v] 31)) := (Fr.refl _).alloc _
    have bG := Lib.hid (Blk.new w2 #[.slice p2 n2 c2, .slice q2 m2 d2, .slice a2 l2 b2, .int .i64 (dAt x kd A), .int .i64 (dSt s kd A), .int .i64 (dPu X x s u kd A), .int .i64 v] 31)
    have z3 := World.size_alloc w2 (.cells #[.slice p2 n2 c2, .slice q2 m2 d2, .slice a2 l2 b2, .int .i64 (dAt x kd A), .int .i64 (dSt s kd A), .int .i64 (dPu X x s u kd A), .int .i64 v] 31)
    generalize hw3 : w2.alloc (.cells #[.slice p2 n2 c2, .slice q2 m2 d2, .slice a2 l2 b2, .int .i64 (dAt x kd A), .int .i64 (dSt s kd A), .int .i64 (dPu X x s u kd A), .int .i64 v] 31) = w3 at fa bG z3 ⊢
    clear hw3
    have F3 := (hF1.trans f2).trans fa
    replace o1 := o1.fr fa; replace o2 := o2.fr fa; replace o3 := o3.fr fa
    have B0 := Lib.hid ((G0.out.fr f2).fr fa); have B2 := Lib.hid ((G2.out.fr f2).fr fa)
    have gne : w.heap.size ≠ w2.heap.size := by omega
    have gne2 : w.heap.size + 1 + 1 ≠ w2.heap.size := by omega
    have gne' : w2.heap.size ≠ w.heap.size + 1 + 1 := by omega
    clear f2 fa G0 G1 G2
    have q0 := bG.out.cell (j := 0) rfl; have q1 := bG.out.cell (j := 1) rfl; have q2x := bG.out.cell (j := 2) rfl; have q3 := bG.out.cell (j := 3) rfl; have q4 := bG.out.cell (j := 4) rfl; have q5 := bG.out.cell (j := 5) rfl; have q6 := bG.out.cell (j := 6) rfl
    have f6 := bG.out.free 6
    have k6 := B0.out.cell (j := 6) rfl
    have o1s := o1.setOther (p := ⟨w2.heap.size, 6, none⟩) hne1 (.int .i64 (v + 1))
    have o2s := o2.setOther (p := ⟨w2.heap.size, 6, none⟩) hne2 (.int .i64 (v + 1))
    have o3s := o3.setOther (p := ⟨w2.heap.size, 6, none⟩) hne3 (.int .i64 (v + 1))
    have hFs := F3.setCell (p := ⟨w2.heap.size, 6, none⟩) (by dsimp only; omega) (.int .i64 (v + 1))
    have HGs := Lib.hid (bG.out.set 6 (.int .i64 (v + 1)))
    have H2s := Lib.hid (B2.out.other (p := ⟨w2.heap.size, 6, none⟩) gne' (.int .i64 (v + 1)))
    go_wp2_with fail
    clear q0 q1 q2x q3 q4 q5 q6 f6 k6
    refine (l12Good_any _ _ _ _ _ _ _ _ _ _ _ _ _ o1s.sl o2s.sl o3s.sl _ _ _ _).mono ?_
    rintro e w5 ⟨rfl, f5⟩
    have z5 := f5.size
    simp only [World.size_setCell] at z5
    have HD : Hid (houseB P (dW W kd A B) (dX X kd A B) (dAt x kd A) (dSt s kd A) (dPu X x s u kd A) (v + 1) = goB P W X x s u v kd A B) := Lib.hid (by rw [goB, HM.out, doneB]; rfl)
    rw [HD.out]
    replace o1s := o1s.fr f5; replace o2s := o2s.fr f5; replace o3s := o3s.fr f5; replace hFs := hFs.trans f5
    have HGf := Lib.hid (HGs.out.fr f5); have H2f := Lib.hid (H2s.out.fr f5)
    have j0 := H2f.out.cell (j := 0) rfl; have j1 := H2f.out.cell (j := 1) rfl; have j2 := H2f.out.cell (j := 2) rfl; have j3 := H2f.out.cell (j := 3) rfl; have j4 := H2f.out.cell (j := 4) rfl; have j5 := H2f.out.cell (j := 5) rfl; have j6 := H2f.out.cell (j := 6) rfl
    have i0 := H2f.out.free 0; have i1 := H2f.out.free 1; have i2 := H2f.out.free 2; have i3 := H2f.out.free 3; have i4 := H2f.out.free 4; have i5 := H2f.out.free 5; have i6 := H2f.out.free 6
    clear o1 o2 o3 F3 bG B0 B2 HGs H2s f5
    cases hd : goB P W X x s u v kd A B
    · have HL := Lib.hid hd
      clear hd
      go_wp2
      have E := (((((((H2f.out.set 0 (.slice none 0 0)).set 1 (.slice none 0 0)).set 2 (.slice none 0 0)).set 3 (.int .i64 0)).set 4 (.int .i64 0)).set 5 (.int .i64 0)).set 6 (.int .i64 0))
      simp only [List.setIfInBounds_toArray, List.set_cons_zero, List.set_cons_succ] at E
      refine bodyPost_ret (results_HB Try.results92 _ _ (w.heap.size + 1 + 1) _ _ _ _ _ _ _ _ rfl rfl (E.cell rfl) (E.cell rfl) (E.cell rfl) (E.cell rfl) (E.cell rfl) (E.cell rfl) (E.cell rfl)) rfl ?_
      rw [HL.out]
      refine ⟨none, 0, 0, none, 0, 0, none, 0, 0, w.heap.size, w.heap.size, rfl, Own.nil _ _, Own.nil _ _, Own.nil _ _, fun k hk => by simp [blkOf] at hk, fun k hk => by simp [blkOf] at hk, Nat.le_refl _, Nat.le_refl _, ?_, ?_, by omega, by omega, by omega⟩
      · have := hFs.size; simpa using this
      · iterate 7 refine Fr.setCell ?_ (by dsimp only; omega) _
        exact hFs
    · have HL := Lib.hid hd
      simp only [List.setIfInBounds_toArray, List.set_cons_zero, List.set_cons_succ] at HGf
      have q0 := HGf.out.cell (j := 0) rfl; have q1 := HGf.out.cell (j := 1) rfl; have q2x := HGf.out.cell (j := 2) rfl; have q3 := HGf.out.cell (j := 3) rfl; have q4 := HGf.out.cell (j := 4) rfl; have q5 := HGf.out.cell (j := 5) rfl; have q6 := HGf.out.cell (j := 6) rfl
      clear hd
      go_wp2
      have E := (((((((H2f.out.set 0 (.slice p2 n2 c2)).set 1 (.slice q2 m2 d2)).set 2 (.slice a2 l2 b2)).set 3 (.int .i64 (dAt x kd A))).set 4 (.int .i64 (dSt s kd A))).set 5 (.int .i64 (dPu X x s u kd A))).set 6 (.int .i64 (v + 1)))
      simp only [List.setIfInBounds_toArray, List.set_cons_zero, List.set_cons_succ] at E
      refine bodyPost_ret (results_HB Try.results92 _ _ (w.heap.size + 1 + 1) _ _ _ _ _ _ _ _ rfl rfl (E.cell rfl) (E.cell rfl) (E.cell rfl) (E.cell rfl) (E.cell rfl) (E.cell rfl) (E.cell rfl)) rfl ?_
      rw [HL.out]
      refine ⟨p2, n2, c2, q2, m2, d2, a2, l2, b2, M, N, rfl, ?_, ?_, ?_, fun k hk => by have := W1 k hk; omega, W2, by omega, y2, by simp; omega, ?_, e1, e2, e3⟩
      · refine Own.mono ?_ (show w.heap.size ≤ w1.heap.size by omega)
        iterate 7 refine Own.past ?_ (by dsimp only; omega) _
        exact o1s
      · iterate 7 refine Own.past ?_ (by dsimp only; omega) _
        exact o2s
      · iterate 7 refine Own.past ?_ (by dsimp only; omega) _
        exact o3s
      · iterate 7 refine Fr.setCell ?_ (by dsimp only; omega) _
        exact hFs

set_option maxRecDepth 100000 in
set_option maxHeartbeats 4000000 in
theorem spec_DealHouse_any (w : World) (p q a : Option Addr) (n c m d l b : Nat) (P W X : List Int) (x s u v kd A B : Int) (hP : SL w p n c P) (hW : SL w q m d W) (hX : SL w a l b X) (hx : I64 x) (hs : I64 s) (hu : I64 u) (hv : I64 v) (hk : I64 kd) (hA : I64 A) (hB : I64 B) :
    Calls Try.prog 42 #[.agg #[.slice p n c, .slice q m d, .slice a l b, .int .i64 x, .int .i64 s, .int .i64 u, .int .i64 v], .agg #[.int .i64 kd, .int .i64 A, .int .i64 B]] w (RetHB (nhV (dealB P W X x s u v kd A B) P) (nhV (dealB P W X x s u v kd A B) (dW W kd A B)) (nhV (dealB P W X x s u v kd A B) (dX X kd A B)) (dV (dealB P W X x s u v kd A B) (dAt x kd A)) (dV (dealB P W X x s u v kd A B) (dSt s kd A)) (dV (dealB P W X x s u v kd A B) (dPu X x s u kd A)) (dV (dealB P W X x s u v kd A B) (v + 1)) (dealB P W X x s u v kd A B) w) := by
  have HP := Lib.hid hP.len; have HW := Lib.hid hW.len; have HX := Lib.hid hX.len
  have hfr : Fr w (((w.alloc (.cells #[.slice p n c, .slice q m d, .slice a l b, .int .i64 x, .int .i64 s, .int .i64 u, .int .i64 v] 31)).alloc (.cells #[.int .i64 kd, .int .i64 A, .int .i64 B] 58)).alloc (.cells #[.slice none 0 0, .slice none 0 0, .slice none 0 0, .int .i64 0, .int .i64 0, .int .i64 0, .int .i64 0] 31)) := (((Fr.refl w).alloc _).alloc _).alloc _
  have hb0 := ((Blk.new w #[.slice p n c, .slice q m d, .slice a l b, .int .i64 x, .int .i64 s, .int .i64 u, .int .i64 v] 31).alloc (.cells #[.int .i64 kd, .int .i64 A, .int .i64 B] 58)).alloc (.cells #[.slice none 0 0, .slice none 0 0, .slice none 0 0, .int .i64 0, .int .i64 0, .int .i64 0, .int .i64 0] 31)
  have hb1 := (Blk.new (w.alloc (.cells #[.slice p n c, .slice q m d, .slice a l b, .int .i64 x, .int .i64 s, .int .i64 u, .int .i64 v] 31)) #[.int .i64 kd, .int .i64 A, .int .i64 B] 58).alloc (.cells #[.slice none 0 0, .slice none 0 0, .slice none 0 0, .int .i64 0, .int .i64 0, .int .i64 0, .int .i64 0] 31)
  have hb2 := Blk.new ((w.alloc (.cells #[.slice p n c, .slice q m d, .slice a l b, .int .i64 x, .int .i64 s, .int .i64 u, .int .i64 v] 31)).alloc (.cells #[.int .i64 kd, .int .i64 A, .int .i64 B] 58)) #[.slice none 0 0, .slice none 0 0, .slice none 0 0, .int .i64 0, .int .i64 0, .int .i64 0, .int .i64 0] 31
  simp only [World.size_alloc] at hb1 hb2
  have H0 := Lib.hid hb0; have H1 := Lib.hid hb1; have H2 := Lib.hid hb2
  clear hb0 hb1 hb2
  have hfz := hfr.size
  simp only [World.size_alloc] at hfz
  have k0 := H0.out.cell (j := 0) rfl; have k1 := H0.out.cell (j := 1) rfl; have k2 := H0.out.cell (j := 2) rfl; have k3 := H0.out.cell (j := 3) rfl; have k4 := H0.out.cell (j := 4) rfl; have k5 := H0.out.cell (j := 5) rfl; have k6 := H0.out.cell (j := 6) rfl
  go_enter Try.func42, Try.ntmps42
  go_wp2_with fail
  clear k0 k1 k2 k3 k4 k5 k6
  refine (l12Good_any _ _ _ _ _ _ _ _ _ _ _ _ _ (hP.fr hfr) (hW.fr hfr) (hX.fr hfr) _ _ _ _).mono ?_
  rintro e w1 ⟨rfl, f1⟩
  have z1 := f1.size
  simp only [World.size_alloc] at z1
  have hF1 := hfr.trans f1
  have G0 := Lib.hid (H0.out.fr f1); have G1 := Lib.hid (H1.out.fr f1); have G2 := Lib.hid (H2.out.fr f1)
  clear H0 H1 H2 f1
  cases h : houseB P W X x s u v
  · have HL : Hid (dealB P W X x s u v kd A B = false) := Lib.hid (by rw [dealB, h]; rfl)
    have j0 := G2.out.cell (j := 0) rfl; have j1 := G2.out.cell (j := 1) rfl; have j2 := G2.out.cell (j := 2) rfl; have j3 := G2.out.cell (j := 3) rfl; have j4 := G2.out.cell (j := 4) rfl; have j5 := G2.out.cell (j := 5) rfl; have j6 := G2.out.cell (j := 6) rfl
    have i0 := G2.out.free 0; have i1 := G2.out.free 1; have i2 := G2.out.free 2; have i3 := G2.out.free 3; have i4 := G2.out.free 4; have i5 := G2.out.free 5; have i6 := G2.out.free 6
    clear h
    go_wp2
    have E := (((((((G2.out.set 0 (.slice none 0 0)).set 1 (.slice none 0 0)).set 2 (.slice none 0 0)).set 3 (.int .i64 0)).set 4 (.int .i64 0)).set 5 (.int .i64 0)).set 6 (.int .i64 0))
    simp only [List.setIfInBounds_toArray, List.set_cons_zero, List.set_cons_succ] at E
    refine bodyPost_ret (results_HB Try.results42 _ _ (w.heap.size + 1 + 1) _ _ _ _ _ _ _ _ rfl rfl (E.cell rfl) (E.cell rfl) (E.cell rfl) (E.cell rfl) (E.cell rfl) (E.cell rfl) (E.cell rfl)) rfl ?_
    rw [HL.out]
    refine ⟨none, 0, 0, none, 0, 0, none, 0, 0, w.heap.size, w.heap.size, rfl, Own.nil _ _, Own.nil _ _, Own.nil _ _, fun k hk => by simp [blkOf] at hk, fun k hk => by simp [blkOf] at hk, Nat.le_refl _, Nat.le_refl _, ?_, ?_, by omega, by omega, by omega⟩
    · have := hF1.size; simpa using this
    · iterate 7 refine Fr.setCell ?_ (by dsimp only; omega) _
      exact hF1
  · have HH := Lib.hid h
    have HD : Hid (dealB P W X x s u v kd A B = goB P W X x s u v kd A B) := Lib.hid (by rw [dealB, h]; rfl)
    have k0 := G0.out.cell (j := 0) rfl; have k1 := G0.out.cell (j := 1) rfl; have k2 := G0.out.cell (j := 2) rfl; have k3 := G0.out.cell (j := 3) rfl; have k4 := G0.out.cell (j := 4) rfl; have k5 := G0.out.cell (j := 5) rfl; have k6 := G0.out.cell (j := 6) rfl
    have n0 := G1.out.cell (j := 0) rfl; have n1 := G1.out.cell (j := 1) rfl; have n2 := G1.out.cell (j := 2) rfl
    go_wp2_with fail
    clear k0 k1 k2 k3 k4 k5 k6 n0 n1 n2 h
    refine (l12Do_any _ _ _ _ _ _ _ _ _ _ _ _ _ _ _ _ _ kd A B (hP.fr hF1) (hW.fr hF1) (hX.fr hF1) hx hs hu hv hk hA hB HH.out).mono ?_
    rw [← HD.out]
    rintro e w2 ⟨p2, n2, c2, q2, m2, d2, a2, l2, b2, M, N, rfl, o1, o2, o3, W1, W2, y1, y2, y3, f2, e1, e2, e3⟩
    have z2 := f2.size
    have H2f := Lib.hid (G2.out.fr f2)
    have j0 := H2f.out.cell (j := 0) rfl; have j1 := H2f.out.cell (j := 1) rfl; have j2 := H2f.out.cell (j := 2) rfl; have j3 := H2f.out.cell (j := 3) rfl; have j4 := H2f.out.cell (j := 4) rfl; have j5 := H2f.out.cell (j := 5) rfl; have j6 := H2f.out.cell (j := 6) rfl
    have i0 := H2f.out.free 0; have i1 := H2f.out.free 1; have i2 := H2f.out.free 2; have i3 := H2f.out.free 3; have i4 := H2f.out.free 4; have i5 := H2f.out.free 5; have i6 := H2f.out.free 6
    go_wp2
    have E := (((((((H2f.out.set 0 (.slice p2 n2 c2)).set 1 (.slice q2 m2 d2)).set 2 (.slice a2 l2 b2)).set 3 (.int .i64 (dV (dealB P W X x s u v kd A B) (dAt x kd A)))).set 4 (.int .i64 (dV (dealB P W X x s u v kd A B) (dSt s kd A)))).set 5 (.int .i64 (dV (dealB P W X x s u v kd A B) (dPu X x s u kd A)))).set 6 (.int .i64 (dV (dealB P W X x s u v kd A B) (v + 1))))
    simp only [List.setIfInBounds_toArray, List.set_cons_zero, List.set_cons_succ] at E
    refine bodyPost_ret (results_HB Try.results42 _ _ (w.heap.size + 1 + 1) _ _ _ _ _ _ _ _ rfl rfl (E.cell rfl) (E.cell rfl) (E.cell rfl) (E.cell rfl) (E.cell rfl) (E.cell rfl) (E.cell rfl)) rfl ?_
    refine ⟨p2, n2, c2, q2, m2, d2, a2, l2, b2, M, N, rfl, ?_, ?_, ?_, fun k hk => by have := W1 k hk; omega, W2, by omega, y2, by simp; omega, ?_, e1, e2, e3⟩
    · refine Own.mono ?_ (show w.heap.size ≤ w1.heap.size by omega)
      iterate 7 refine Own.past ?_ (by dsimp only; omega) _
      exact o1
    · iterate 7 refine Own.past ?_ (by dsimp only; omega) _
      exact o2
    · iterate 7 refine Own.past ?_ (by dsimp only; omega) _
      exact o3
    · iterate 7 refine Fr.setCell ?_ (by dsimp only; omega) _
      exact hF1.trans f2

end Go.Proofs.Ytojipjjfndgbhaa
