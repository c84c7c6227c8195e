import Derived.Test.YtojipjjfndgbhaaZH15
import Derived.Deep.RegionHeld3
import Derived.Deep.DeepCutAuto
import Derived.Test.YtojipjjfndgbhaaZH03
/- Contracts of the reference's l12Do and DealHouse. -/
set_option linter.unusedVariables false
namespace Go.Proofs.Ytojipjjfndgbhaa
open Go.ChangeShapes Go.WideShapes Go.ChangeAt Go.RowKit

set_option maxRecDepth 100000 in
set_option maxHeartbeats 4000000 in
theorem l12Do_any (w : World) (p q a : Option Addr) (n c m d l b : Nat) (P W X : List Int) (x s u v kd A B : Int) (hP : SL w p n c P) (hW : SL w q m d W) (hX : SL w a l b X) (hx : I64 x) (hs : I64 s) (hu : I64 u) (hv : I64 v) (hk : I64 kd) (hA : I64 A) (hB : I64 B) (h : houseB P W X x s u v = true) :
    Calls Try.prog 92 #[.agg #[.slice p n c, .slice q m d, .slice a l b, .int .i64 x, .int .i64 s, .int .i64 u, .int .i64 v], .agg #[.int .i64 kd, .int .i64 A, .int .i64 B]] w (RetHB (nhV (goB P W X x s u v kd A B) P) (nhV (goB P W X x s u v kd A B) (dW W kd A B)) (nhV (goB P W X x s u v kd A B) (dX X kd A B)) (dV (goB P W X x s u v kd A B) (dAt x kd A)) (dV (goB P W X x s u v kd A B) (dSt s kd A)) (dV (goB P W X x s u v kd A B) (dPu X x s u kd A)) (dV (goB P W X x s u v kd A B) (v + 1)) (goB P W X x s u v kd A B) w) := by
  have HP := Lib.hid hP.len; have HW := Lib.hid hW.len; have HX := Lib.hid hX.len
  have hfr : Fr w (((w.alloc (.cells #[.slice p n c, .slice q m d, .slice a l b, .int .i64 x, .int .i64 s, .int .i64 u, .int .i64 v] 31)).alloc (.cells #[.int .i64 kd, .int .i64 A, .int .i64 B] 58)).alloc (.cells #[.slice none 0 0, .slice none 0 0, .slice none 0 0, .int .i64 0, .int .i64 0, .int .i64 0, .int .i64 0] 31)) := (((Fr.refl w).alloc _).alloc _).alloc _
  have hb0 := ((Blk.new w #[.slice p n c, .slice q m d, .slice a l b, .int .i64 x, .int .i64 s, .int .i64 u, .int .i64 v] 31).alloc (.cells #[.int .i64 kd, .int .i64 A, .int .i64 B] 58)).alloc (.cells #[.slice none 0 0, .slice none 0 0, .slice none 0 0, .int .i64 0, .int .i64 0, .int .i64 0, .int .i64 0] 31)
  have hb1 := (Blk.new (w.alloc (.cells #[.slice p n c, .slice q m d, .slice a l b, .int .i64 x, .int .i64 s, .int .i64 u, .int .i64 v] 31)) #[.int .i64 kd, .int .i64 A, .int .i64 B] 58).alloc (.cells #[.slice none 0 0, .slice none 0 0, .slice none 0 0, .int .i64 0, .int .i64 0, .int .i64 0, .int .i64 0] 31)
  have hb2 := Blk.new ((w.alloc (.cells #[.slice p n c, .slice q m d, .slice a l b, .int .i64 x, .int .i64 s, .int .i64 u, .int .i64 v] 31)).alloc (.cells #[.int .i64 kd, .int .i64 A, .int .i64 B] 58)) #[.slice none 0 0, .slice none 0 0, .slice none 0 0, .int .i64 0, .int .i64 0, .int .i64 0, .int .i64 0] 31
  simp only [World.size_alloc] at hb1 hb2
  have H0 := Lib.hid hb0; have H1 := Lib.hid hb1; have H2 := Lib.hid hb2
  clear hb0 hb1 hb2
  have HH := Lib.hid h
  obtain ⟨-, r1, r2, r3⟩ := houseB_all h
  have hfz := hfr.size
  simp only [World.size_alloc] at hfz
  have k0 := H0.out.cell (j := 0) rfl; have k1 := H0.out.cell (j := 1) rfl; have k2 := H0.out.cell (j := 2) rfl; have k3 := H0.out.cell (j := 3) rfl; have k4 := H0.out.cell (j := 4) rfl; have k5 := H0.out.cell (j := 5) rfl; have k6 := H0.out.cell (j := 6) rfl
  have n0 := H1.out.cell (j := 0) rfl; have n1 := H1.out.cell (j := 1) rfl; have n2 := H1.out.cell (j := 2) rfl
  clear h
  go_enter Try.func92, Try.ntmps92
  go_wp2_with fail
  clear k0 k1 k2 k3 k4 k5 k6 n0 n1 n2
  refine (l12May_any _ _ _ _ _ _ _ _ _ _ _ _ _ _ _ _ _ kd A B (hP.fr hfr) (hW.fr hfr) (hX.fr hfr) HH.out).mono ?_
  rintro e w1 ⟨rfl, f1⟩
  have z1 := f1.size
  simp only [World.size_alloc] at z1
  have hF1 := hfr.trans f1
  have G0 := Lib.hid (H0.out.fr f1); have G1 := Lib.hid (H1.out.fr f1); have G2 := Lib.hid (H2.out.fr f1)
  clear H0 H1 H2 f1
  cases hmay : mayB P x kd A B
  · have HL : Hid (goB P W X x s u v kd A B = false) := Lib.hid (by rw [goB, hmay]; rfl)
    have j0 := G2.out.cell (j := 0) rfl; have j1 := G2.out.cell (j := 1) rfl; have j2 := G2.out.cell (j := 2) rfl; have j3 := G2.out.cell (j := 3) rfl; have j4 := G2.out.cell (j := 4) rfl; have j5 := G2.out.cell (j := 5) rfl; have j6 := G2.out.cell (j := 6) rfl
    have i0 := G2.out.free 0; have i1 := G2.out.free 1; have i2 := G2.out.free 2; have i3 := G2.out.free 3; have i4 := G2.out.free 4; have i5 := G2.out.free 5; have i6 := G2.out.free 6
    clear hmay
    go_wp2
    have E := (((((((G2.out.set 0 (.slice none 0 0)).set 1 (.slice none 0 0)).set 2 (.slice none 0 0)).set 3 (.int .i64 0)).set 4 (.int .i64 0)).set 5 (.int .i64 0)).set 6 (.int .i64 0))
    simp only [List.setIfInBounds_toArray, List.set_cons_zero, List.set_cons_succ] at E
    refine bodyPost_ret (results_HB Try.results92 _ _ (w.heap.size + 1 + 1) _ _ _ _ _ _ _ _ rfl rfl (E.cell rfl) (E.cell rfl) (E.cell rfl) (E.cell rfl) (E.cell rfl) (E.cell rfl) (E.cell rfl)) rfl ?_
    rw [HL.out]
    refine ⟨none, 0, 0, none, 0, 0, none, 0, 0, w.heap.size, w.heap.size, rfl, Own.nil _ _, Own.nil _ _, Own.nil _ _, fun k hk => by simp [blkOf] at hk, fun k hk => by simp [blkOf] at hk, Nat.le_refl _, Nat.le_refl _, ?_, ?_, by omega, by omega, by omega⟩
    · have := hF1.size; simpa using this
    · iterate 7 refine Fr.setCell ?_ (by dsimp only; omega) _
      exact hF1
  · have HM := Lib.hid hmay
    have k0 := G0.out.cell (j := 0) rfl; have k1 := G0.out.cell (j := 1) rfl; have k2 := G0.out.cell (j := 2) rfl; have k3 := G0.out.cell (j := 3) rfl; have k4 := G0.out.cell (j := 4) rfl; have k5 := G0.out.cell (j := 5) rfl; have k6 := G0.out.cell (j := 6) rfl
    have n0 := G1.out.cell (j := 0) rfl; have n1 := G1.out.cell (j := 1) rfl; have n2 := G1.out.cell (j := 2) rfl
    go_wp2_with fail
    clear k0 k1 k2 k3 k4 k5 k6 n0 n1 n2 hmay
    refine (l12Make_any _ _ _ _ _ _ _ _ _ _ _ _ _ _ _ _ _ kd A B (hP.fr hF1) (hW.fr hF1) (hX.fr hF1) hx hs hu hv hk hA hB HH.out HM.out).mono ?_
    rintro e w2 ⟨p2, n2, c2, q2, m2, d2, a2, l2, b2, M, N, rfl, o1, o2, o3, W1, W2, y1, y2, y3, f2, e1, e2, e3⟩
    have z2 := f2.size
    have W3 := o3.within
    have hne1 : blkOf p2 ≠ some w2.heap.size := fun e => by have := W1 _ e; omega
    have hne2 : blkOf q2 ≠ some w2.heap.size := fun e => by have := W2 _ e; omega
    have hne3 : blkOf a2 ≠ some w2.heap.size := fun e => by have := W3 _ e; omega
    go_upto_region 4 with fail
    have fa : Fr w2 (w2.alloc (.cells #[.slice p2 n2 c2, .slice q2 m2 d2, .slice a2 l2 b2, .int .i64 (dAt x kd A), .int .i64 (dSt s kd A), .int .i64 (dPu X x s u kd A), .int .i64 v] 31)) := (Fr.refl _).alloc _
    have bG := Lib.hid (Blk.new w2 #[.slice p2 n2 c2, .slice q2 m2 d2, .slice a2 l2 b2, .int .i64 (dAt x kd A), .int .i64 (dSt s kd A), .int .i64 (dPu X x s u kd A), .int .i64 v] 31)
    have z3 := World.size_alloc w2 (.cells #[.slice p2 n2 c2, .slice q2 m2 d2, .slice a2 l2 b2, .int .i64 (dAt x kd A), .int .i64 (dSt s kd A), .int .i64 (dPu X x s u kd A), .int .i64 v] 31)
    generalize hw3 : w2.alloc (.cells #[.slice p2 n2 c2, .slice q2 m2 d2, .slice a2 l2 b2, .int .i64 (dAt x kd A), .int .i64 (dSt s kd A), .int .i64 (dPu X x s u kd A), .int .i64 v] 31) = w3 at fa bG z3 ⊢
    clear hw3
    have F3 := (hF1.trans f2).trans fa
    replace o1 := o1.fr fa; replace o2 := o2.fr fa; replace o3 := o3.fr fa
    have B0 := Lib.hid ((G0.out.fr f2).fr fa); have B2 := Lib.hid ((G2.out.fr f2).fr fa)
    have gne : w.heap.size ≠ w2.heap.size := by omega
    have gne2 : w.heap.size + 1 + 1 ≠ w2.heap.size := by omega
    have gne' : w2.heap.size ≠ w.heap.size + 1 + 1 := by omega
    clear f2 fa G0 G1 G2
    have q0 := bG.out.cell (j := 0) rfl; have q1 := bG.out.cell (j := 1) rfl; have q2x := bG.out.cell (j := 2) rfl; have q3 := bG.out.cell (j := 3) rfl; have q4 := bG.out.cell (j := 4) rfl; have q5 := bG.out.cell (j := 5) rfl; have q6 := bG.out.cell (j := 6) rfl
    have f6 := bG.out.free 6
    have k6 := B0.out.cell (j := 6) rfl
    have o1s := o1.setOther (p := ⟨w2.heap.size, 6, none⟩) hne1 (.int .i64 (v + 1))
    have o2s := o2.setOther (p := ⟨w2.heap.size, 6, none⟩) hne2 (.int .i64 (v + 1))
    have o3s := o3.setOther (p := ⟨w2.heap.size, 6, none⟩) hne3 (.int .i64 (v + 1))
    have hFs := F3.setCell (p := ⟨w2.heap.size, 6, none⟩) (by dsimp only; omega) (.int .i64 (v + 1))
    have HGs := Lib.hid (bG.out.set 6 (.int .i64 (v + 1)))
    have H2s := Lib.hid (B2.out.other (p := ⟨w2.heap.size, 6, none⟩) gne' (.int .i64 (v + 1)))
    go_wp2_with fail
    clear q0 q1 q2x q3 q4 q5 q6 f6 k6
    refine (l12Good_any _ _ _ _ _ _ _ _ _ _ _ _ _ o1s.sl o2s.sl o3s.sl _ _ _ _).mono ?_
    rintro e w5 ⟨rfl, f5⟩
    have z5 := f5.size
    simp only [World.size_setCell] at z5
    have HD : Hid (houseB P (dW W kd A B) (dX X kd A B) (dAt x kd A) (dSt s kd A) (dPu X x s u kd A) (v + 1) = goB P W X x s u v kd A B) := Lib.hid (by rw [goB, HM.out, doneB]; rfl)
    rw [HD.out]
    replace o1s := o1s.fr f5; replace o2s := o2s.fr f5; replace o3s := o3s.fr f5; replace hFs := hFs.trans f5
    have HGf := Lib.hid (HGs.out.fr f5); have H2f := Lib.hid (H2s.out.fr f5)
    have j0 := H2f.out.cell (j := 0) rfl; have j1 := H2f.out.cell (j := 1) rfl; have j2 := H2f.out.cell (j := 2) rfl; have j3 := H2f.out.cell (j := 3) rfl; have j4 := H2f.out.cell (j := 4) rfl; have j5 := H2f.out.cell (j := 5) rfl; have j6 := H2f.out.cell (j := 6) rfl
    have i0 := H2f.out.free 0; have i1 := H2f.out.free 1; have i2 := H2f.out.free 2; have i3 := H2f.out.free 3; have i4 := H2f.out.free 4; have i5 := H2f.out.free 5; have i6 := H2f.out.free 6
    clear o1 o2 o3 F3 bG B0 B2 HGs H2s f5
    cases hd : goB P W X x s u v kd A B
    · have HL := Lib.hid hd
      clear hd
      go_wp2
      have E := (((((((H2f.out.set 0 (.slice none 0 0)).set 1 (.slice none 0 0)).set 2 (.slice none 0 0)).set 3 (.int .i64 0)).set 4 (.int .i64 0)).set 5 (.int .i64 0)).set 6 (.int .i64 0))
      simp only [List.setIfInBounds_toArray, List.set_cons_zero, List.set_cons_succ] at E
      refine bodyPost_ret (results_HB Try.results92 _ _ (w.heap.size + 1 + 1) _ _ _ _ _ _ _ _ rfl rfl (E.cell rfl) (E.cell rfl) (E.cell rfl) (E.cell rfl) (E.cell rfl) (E.cell rfl) (E.cell rfl)) rfl ?_
      rw [HL.out]
      refine ⟨none, 0, 0, none, 0, 0, none, 0, 0, w.heap.size, w.heap.size, rfl, Own.nil _ _, Own.nil _ _, Own.nil _ _, fun k hk => by simp [blkOf] at hk, fun k hk => by simp [blkOf] at hk, Nat.le_refl _, Nat.le_refl _, ?_, ?_, by omega, by omega, by omega⟩
      · have := hFs.size; simpa using this
      · iterate 7 refine Fr.setCell ?_ (by dsimp only; omega) _
        exact hFs
    · have HL := Lib.hid hd
      simp only [List.setIfInBounds_toArray, List.set_cons_zero, List.set_cons_succ] at HGf
      have q0 := HGf.out.cell (j := 0) rfl; have q1 := HGf.out.cell (j := 1) rfl; have q2x := HGf.out.cell (j := 2) rfl; have q3 := HGf.out.cell (j := 3) rfl; have q4 := HGf.out.cell (j := 4) rfl; have q5 := HGf.out.cell (j := 5) rfl; have q6 := HGf.out.cell (j := 6) rfl
      clear hd
      go_wp2
      have E := (((((((H2f.out.set 0 (.slice p2 n2 c2)).set 1 (.slice q2 m2 d2)).set 2 (.slice a2 l2 b2)).set 3 (.int .i64 (dAt x kd A))).set 4 (.int .i64 (dSt s kd A))).set 5 (.int .i64 (dPu X x s u kd A))).set 6 (.int .i64 (v + 1)))
      simp only [List.setIfInBounds_toArray, List.set_cons_zero, List.set_cons_succ] at E
      refine bodyPost_ret (results_HB Try.results92 _ _ (w.heap.size + 1 + 1) _ _ _ _ _ _ _ _ rfl rfl (E.cell rfl) (E.cell rfl) (E.cell rfl) (E.cell rfl) (E.cell rfl) (E.cell rfl) (E.cell rfl)) rfl ?_
      rw [HL.out]
      refine ⟨p2, n2, c2, q2, m2, d2, a2, l2, b2, M, N, rfl, ?_, ?_, ?_, fun k hk => by have := W1 k hk; omega, W2, by omega, y2, by simp; omega, ?_, e1, e2, e3⟩
      · refine Own.mono ?_ (show w.heap.size ≤ w1.heap.size by omega)
        iterate 7 refine Own.past ?_ (by dsimp only; omega) _
        exact o1s
      · iterate 7 refine Own.past ?_ (by dsimp only; omega) _
        exact o2s
      · iterate 7 refine Own.past ?_ (by dsimp only; omega) _
        exact o3s
      · iterate 7 refine Fr.setCell ?_ (by dsimp only; omega) _
        exact hFs

set_option maxRecDepth 100000 in
set_option maxHeartbeats 4000000 in
theorem spec_DealHouse_any (w : World) (p q a : Option Addr) (n c m d l b : Nat) (P W X : List Int) (x s u v kd A B : Int) (hP : SL w p n c P) (hW : SL w q m d W) (hX : SL w a l b X) (hx : I64 x) (hs : I64 s) (hu : I64 u) (hv : I64 v) (hk : I64 kd) (hA : I64 A) (hB : I64 B) :
    Calls Try.prog 42 #[.agg #[.slice p n c, .slice q m d, .slice a l b, .int .i64 x, .int .i64 s, .int .i64 u, .int .i64 v], .agg #[.int .i64 kd, .int .i64 A, .int .i64 B]] w (RetHB (nhV (dealB P W X x s u v kd A B) P) (nhV (dealB P W X x s u v kd A B) (dW W kd A B)) (nhV (dealB P W X x s u v kd A B) (dX X kd A B)) (dV (dealB P W X x s u v kd A B) (dAt x kd A)) (dV (dealB P W X x s u v kd A B) (dSt s kd A)) (dV (dealB P W X x s u v kd A B) (dPu X x s u kd A)) (dV (dealB P W X x s u v kd A B) (v + 1)) (dealB P W X x s u v kd A B) w) := by
  have HP := Lib.hid hP.len; have HW := Lib.hid hW.len; have HX := Lib.hid hX.len
  have hfr : Fr w (((w.alloc (.cells #[.slice p n c, .slice q m d, .slice a l b, .int .i64 x, .int .i64 s, .int .i64 u, .int .i64 v] 31)).alloc (.cells #[.int .i64 kd, .int .i64 A, .int .i64 B] 58)).alloc (.cells #[.slice none 0 0, .slice none 0 0, .slice none 0 0, .int .i64 0, .int .i64 0, .int .i64 0, .int .i64 0] 31)) := (((Fr.refl w).alloc _).alloc _).alloc _
  have hb0 := ((Blk.new w #[.slice p n c, .slice q m d, .slice a l b, .int .i64 x, .int .i64 s, .int .i64 u, .int .i64 v] 31).alloc (.cells #[.int .i64 kd, .int .i64 A, .int .i64 B] 58)).alloc (.cells #[.slice none 0 0, .slice none 0 0, .slice none 0 0, .int .i64 0, .int .i64 0, .int .i64 0, .int .i64 0] 31)
  have hb1 := (Blk.new (w.alloc (.cells #[.slice p n c, .slice q m d, .slice a l b, .int .i64 x, .int .i64 s, .int .i64 u, .int .i64 v] 31)) #[.int .i64 kd, .int .i64 A, .int .i64 B] 58).alloc (.cells #[.slice none 0 0, .slice none 0 0, .slice none 0 0, .int .i64 0, .int .i64 0, .int .i64 0, .int .i64 0] 31)
  have hb2 := Blk.new ((w.alloc (.cells #[.slice p n c, .slice q m d, .slice a l b, .int .i64 x, .int .i64 s, .int .i64 u, .int .i64 v] 31)).alloc (.cells #[.int .i64 kd, .int .i64 A, .int .i64 B] 58)) #[.slice none 0 0, .slice none 0 0, .slice none 0 0, .int .i64 0, .int .i64 0, .int .i64 0, .int .i64 0] 31
  simp only [World.size_alloc] at hb1 hb2
  have H0 := Lib.hid hb0; have H1 := Lib.hid hb1; have H2 := Lib.hid hb2
  clear hb0 hb1 hb2
  have hfz := hfr.size
  simp only [World.size_alloc] at hfz
  have k0 := H0.out.cell (j := 0) rfl; have k1 := H0.out.cell (j := 1) rfl; have k2 := H0.out.cell (j := 2) rfl; have k3 := H0.out.cell (j := 3) rfl; have k4 := H0.out.cell (j := 4) rfl; have k5 := H0.out.cell (j := 5) rfl; have k6 := H0.out.cell (j := 6) rfl
  go_enter Try.func42, Try.ntmps42
  go_wp2_with fail
  clear k0 k1 k2 k3 k4 k5 k6
  refine (l12Good_any _ _ _ _ _ _ _ _ _ _ _ _ _ (hP.fr hfr) (hW.fr hfr) (hX.fr hfr) _ _ _ _).mono ?_
  rintro e w1 ⟨rfl, f1⟩
  have z1 := f1.size
  simp only [World.size_alloc] at z1
  have hF1 := hfr.trans f1
  have G0 := Lib.hid (H0.out.fr f1); have G1 := Lib.hid (H1.out.fr f1); have G2 := Lib.hid (H2.out.fr f1)
  clear H0 H1 H2 f1
  cases h : houseB P W X x s u v
  · have HL : Hid (dealB P W X x s u v kd A B = false) := Lib.hid (by rw [dealB, h]; rfl)
    have j0 := G2.out.cell (j := 0) rfl; have j1 := G2.out.cell (j := 1) rfl; have j2 := G2.out.cell (j := 2) rfl; have j3 := G2.out.cell (j := 3) rfl; have j4 := G2.out.cell (j := 4) rfl; have j5 := G2.out.cell (j := 5) rfl; have j6 := G2.out.cell (j := 6) rfl
    have i0 := G2.out.free 0; have i1 := G2.out.free 1; have i2 := G2.out.free 2; have i3 := G2.out.free 3; have i4 := G2.out.free 4; have i5 := G2.out.free 5; have i6 := G2.out.free 6
    clear h
    go_wp2
    have E := (((((((G2.out.set 0 (.slice none 0 0)).set 1 (.slice none 0 0)).set 2 (.slice none 0 0)).set 3 (.int .i64 0)).set 4 (.int .i64 0)).set 5 (.int .i64 0)).set 6 (.int .i64 0))
    simp only [List.setIfInBounds_toArray, List.set_cons_zero, List.set_cons_succ] at E
    refine bodyPost_ret (results_HB Try.results42 _ _ (w.heap.size + 1 + 1) _ _ _ _ _ _ _ _ rfl rfl (E.cell rfl) (E.cell rfl) (E.cell rfl) (E.cell rfl) (E.cell rfl) (E.cell rfl) (E.cell rfl)) rfl ?_
    rw [HL.out]
    refine ⟨none, 0, 0, none, 0, 0, none, 0, 0, w.heap.size, w.heap.size, rfl, Own.nil _ _, Own.nil _ _, Own.nil _ _, fun k hk => by simp [blkOf] at hk, fun k hk => by simp [blkOf] at hk, Nat.le_refl _, Nat.le_refl _, ?_, ?_, by omega, by omega, by omega⟩
    · have := hF1.size; simpa using this
    · iterate 7 refine Fr.setCell ?_ (by dsimp only; omega) _
      exact hF1
  · have HH := Lib.hid h
    have HD : Hid (dealB P W X x s u v kd A B = goB P W X x s u v kd A B) := Lib.hid (by rw [dealB, h]; rfl)
    have k0 := G0.out.cell (j := 0) rfl; have k1 := G0.out.cell (j := 1) rfl; have k2 := G0.out.cell (j := 2) rfl; have k3 := G0.out.cell (j := 3) rfl; have k4 := G0.out.cell (j := 4) rfl; have k5 := G0.out.cell (j := 5) rfl; have k6 := G0.out.cell (j := 6) rfl
    have n0 := G1.out.cell (j := 0) rfl; have n1 := G1.out.cell (j := 1) rfl; have n2 := G1.out.cell (j := 2) rfl
    go_wp2_with fail
    clear k0 k1 k2 k3 k4 k5 k6 n0 n1 n2 h
    refine (l12Do_any _ _ _ _ _ _ _ _ _ _ _ _ _ _ _ _ _ kd A B (hP.fr hF1) (hW.fr hF1) (hX.fr hF1) hx hs hu hv hk hA hB HH.out).mono ?_
    rw [← HD.out]
    rintro e w2 ⟨p2, n2, c2, q2, m2, d2, a2, l2, b2, M, N, rfl, o1, o2, o3, W1, W2, y1, y2, y3, f2, e1, e2, e3⟩
    have z2 := f2.size
    have H2f := Lib.hid (G2.out.fr f2)
    have j0 := H2f.out.cell (j := 0) rfl; have j1 := H2f.out.cell (j := 1) rfl; have j2 := H2f.out.cell (j := 2) rfl; have j3 := H2f.out.cell (j := 3) rfl; have j4 := H2f.out.cell (j := 4) rfl; have j5 := H2f.out.cell (j := 5) rfl; have j6 := H2f.out.cell (j := 6) rfl
    have i0 := H2f.out.free 0; have i1 := H2f.out.free 1; have i2 := H2f.out.free 2; have i3 := H2f.out.free 3; have i4 := H2f.out.free 4; have i5 := H2f.out.free 5; have i6 := H2f.out.free 6
    go_wp2
    have E := (((((((H2f.out.set 0 (.slice p2 n2 c2)).set 1 (.slice q2 m2 d2)).set 2 (.slice a2 l2 b2)).set 3 (.int .i64 (dV (dealB P W X x s u v kd A B) (dAt x kd A)))).set 4 (.int .i64 (dV (dealB P W X x s u v kd A B) (dSt s kd A)))).set 5 (.int .i64 (dV (dealB P W X x s u v kd A B) (dPu X x s u kd A)))).set 6 (.int .i64 (dV (dealB P W X x s u v kd A B) (v + 1))))
    simp only [List.setIfInBounds_toArray, List.set_cons_zero, List.set_cons_succ] at E
    refine bodyPost_ret (results_HB Try.results42 _ _ (w.heap.size + 1 + 1) _ _ _ _ _ _ _ _ rfl rfl (E.cell rfl) (E.cell rfl) (E.cell rfl) (E.cell rfl) (E.cell rfl) (E.cell rfl) (E.cell rfl)) rfl ?_
    refine ⟨p2, n2, c2, q2, m2, d2, a2, l2, b2, M, N, rfl, ?_, ?_, ?_, fun k hk => by have := W1 k hk; omega, W2, by omega, y2, by simp; omega, ?_, e1, e2, e3⟩
    · refine Own.mono ?_ (show w.heap.size ≤ w1.heap.size by omega)
      iterate 7 refine Own.past ?_ (by dsimp only; omega) _
      exact o1
    · iterate 7 refine Own.past ?_ (by dsimp only; omega) _
      exact o2
    · iterate 7 refine Own.past ?_ (by dsimp only; omega) _
      exact o3
    · iterate 7 refine Fr.setCell ?_ (by dsimp only; omega) _
      exact hF1.trans f2

end Go.Proofs.Ytojipjjfndgbhaa
/- Contracts of the laws' functions on deals; stores of whole houses. -/
set_option linter.unusedVariables false
namespace Go.Proofs.Ytojipjjfndgbhaa
open Go.ChangeShapes Go.WideShapes Go.ChangeAt Go.RowKit

theorem Own.set7 {L g : Nat} {w : World} {a : Option Addr} {n cap : Nat} {xs : List Int} (h : Own L w a n cap xs) (hg : g < L) (v0 v1 v2 v3 v4 v5 v6 : Value) :
    Own L (((((((w.setCell ⟨g, 0, none⟩ v0).setCell ⟨g, 1, none⟩ v1).setCell ⟨g, 2, none⟩ v2).setCell ⟨g, 3, none⟩ v3).setCell ⟨g, 4, none⟩ v4).setCell ⟨g, 5, none⟩ v5).setCell ⟨g, 6, none⟩ v6) a n cap xs := by
  iterate 7 refine Own.past ?_ (by dsimp only; omega) _
  exact h
theorem Fr.set7 {w0 w : World} {g : Nat} (h : Fr w0 w) (hg : w0.heap.size ≤ g) (v0 v1 v2 v3 v4 v5 v6 : Value) :
    Fr w0 (((((((w.setCell ⟨g, 0, none⟩ v0).setCell ⟨g, 1, none⟩ v1).setCell ⟨g, 2, none⟩ v2).setCell ⟨g, 3, none⟩ v3).setCell ⟨g, 4, none⟩ v4).setCell ⟨g, 5, none⟩ v5).setCell ⟨g, 6, none⟩ v6) := by
  iterate 7 refine Fr.setCell ?_ (by dsimp only; omega) _
  exact h
theorem Blk.set7 {w : World} {g : Nat} {T : TypeId} {z0 z1 z2 z3 z4 z5 z6 : Value} (h : Blk w g #[z0, z1, z2, z3, z4, z5, z6] T) (v0 v1 v2 v3 v4 v5 v6 : Value) :
    Blk (((((((w.setCell ⟨g, 0, none⟩ v0).setCell ⟨g, 1, none⟩ v1).setCell ⟨g, 2, none⟩ v2).setCell ⟨g, 3, none⟩ v3).setCell ⟨g, 4, none⟩ v4).setCell ⟨g, 5, none⟩ v5).setCell ⟨g, 6, none⟩ v6) g #[v0, v1, v2, v3, v4, v5, v6] T := by
  have E := ((((((h.set 0 v0).set 1 v1).set 2 v2).set 3 v3).set 4 v4).set 5 v5).set 6 v6
  simpa only [List.setIfInBounds_toArray, List.set_cons_zero, List.set_cons_succ] using E
theorem Blk.other7 {w : World} {g g' : Nat} {cs : Array Value} {T : TypeId} (h : Blk w g' cs T) (hne : g ≠ g') (v0 v1 v2 v3 v4 v5 v6 : Value) :
    Blk (((((((w.setCell ⟨g, 0, none⟩ v0).setCell ⟨g, 1, none⟩ v1).setCell ⟨g, 2, none⟩ v2).setCell ⟨g, 3, none⟩ v3).setCell ⟨g, 4, none⟩ v4).setCell ⟨g, 5, none⟩ v5).setCell ⟨g, 6, none⟩ v6) g' cs T :=
  ((((((h.other (p := ⟨g, 0, none⟩) hne v0).other (p := ⟨g, 1, none⟩) hne v1).other (p := ⟨g, 2, none⟩) hne v2).other (p := ⟨g, 3, none⟩) hne v3).other (p := ⟨g, 4, none⟩) hne v4).other (p := ⟨g, 5, none⟩) hne v5).other (p := ⟨g, 6, none⟩) hne v6
theorem cell7 {w : World} {g b j : Nat} (v0 v1 v2 v3 v4 v5 v6 : Value) (hne : g ≠ b) :
    (((((((w.setCell ⟨g, 0, none⟩ v0).setCell ⟨g, 1, none⟩ v1).setCell ⟨g, 2, none⟩ v2).setCell ⟨g, 3, none⟩ v3).setCell ⟨g, 4, none⟩ v4).setCell ⟨g, 5, none⟩ v5).setCell ⟨g, 6, none⟩ v6).cell? ⟨b, j, none⟩ = w.cell? ⟨b, j, none⟩ := by
  have e : ∀ (x : World) (i : Nat) (v : Value), (x.setCell ⟨g, i, none⟩ v).cell? ⟨b, j, none⟩ = x.cell? ⟨b, j, none⟩ := fun x i v => by
    apply World.cell?_setCell_other; intro h; simp only [Addr.mk.injEq] at h; exact hne h.1
  rw [e, e, e, e, e, e, e]
theorem results_D {fn : Func} {k : Nat} (hr : fn.results = #[.cell k 58]) (tmps : Array Value) (w : World) (g : Nat) (v0 v1 v2 : Value) (h : tmps[k]?.getD undef = .pointer (some ⟨g, 0, none⟩))
    (h0 : w.cell? ⟨g, 0, none⟩ = some v0) (h1 : w.cell? ⟨g, 1, none⟩ = some v1) (h2 : w.cell? ⟨g, 2, none⟩ = some v2) : (results fn tmps).run Try.prog w = .ok (.agg #[v0, v1, v2]) w := by
  simp [results, hr, go_sem, h, h0, h1, h2]

set_option maxRecDepth 100000 in
theorem toDeal_any (w : World) (x y z : Int) :
    Calls Try.prog 43 #[.agg #[.int .i64 x, .int .i64 y, .int .i64 z]] w fun e w' => e = .returned (.agg #[.int .i64 x, .int .i64 y, .int .i64 z]) ∧ Fr w w' := by
  have hb1 := (Blk.new (w.alloc (.cells #[.int .i64 x, .int .i64 y, .int .i64 z] 56)) #[.int .i64 x, .int .i64 y, .int .i64 z] 58).alloc (.cells #[.int .i64 x, .int .i64 y, .int .i64 z] 58)
  simp only [World.size_alloc] at hb1
  have H1 := Lib.hid hb1
  clear hb1
  go_enter Try.func43, Try.ntmps43
  go_wp2
  refine bodyPost_ret (results_D Try.results43 _ _ (w.heap.size + 1) _ _ _ rfl (H1.out.cell rfl) (H1.out.cell rfl) (H1.out.cell rfl)) rfl ?_
  exact ⟨rfl, (((Fr.refl w).alloc _).alloc _).alloc _⟩

end Go.Proofs.Ytojipjjfndgbhaa
/- Caps over trees: plain part. -/
set_option linter.unusedVariables false
namespace Go.Proofs.Ytojipjjfndgbhaa
open Go.ChangeShapes Go.WideShapes Go.ChangeAt Go.RowKit

/-- A node's sum times its payment. -/
def payS (P W X : List Int) (x : Nat) : Int := nth (gathM P W) x * nth X x
def capStep (P : List Int) (S F : Nat → Int) (x : Nat) : Int := if endB P x = true then S x else max (S x) (kidSum P F x (P.length - 1))
def capI (P W X : List Int) : Nat → Nat → Int
  | 0 => payS P W X
  | i + 1 => capStep P (payS P W X) (capI P W X i)
def capL (P W X : List Int) (i : Nat) : List Int := (List.range P.length).map (capI P W X i)
def capM (P W X : List Int) : List Int := capL P W X 24
theorem capL_len (P W X : List Int) (i : Nat) : (capL P W X i).length = P.length := by simp [capL]
theorem capL_nth {P W X : List Int} {i x : Nat} (h : x < P.length) : nth (capL P W X i) x = capI P W X i x := by
  rw [nth_eq (by rw [capL_len]; exact h)]; simp [capL]
theorem kidSum_congr {P : List Int} {F G : Nat → Int} {z : Nat} (hp : parB P = true) (h : ∀ y, z < y → y < P.length → F y = G y) (j : Nat) (hj : j + 1 ≤ P.length) : kidSum P F z j = kidSum P G z j := by
  induction j with
  | zero => rfl
  | succ j ih =>
    simp only [kidSum]; rw [ih (by omega)]
    split
    · rename_i e; rw [h _ (par_lt hp (by omega) e) (by omega)]
    · rfl
theorem cap_stay {P W X : List Int} (hp : parB P = true) (i : Nat) : ∀ x, x < P.length → P.length - x ≤ i → capI P W X (i + 1) x = capI P W X i x := by
  induction i with
  | zero => intro x hx h; omega
  | succ i ih =>
    intro x hx h
    show capStep P (payS P W X) (capI P W X (i + 1)) x = capStep P (payS P W X) (capI P W X i) x
    rw [capStep, capStep, kidSum_congr hp (fun y h1 h2 => ih y h2 (by omega)) _ (by omega)]
/-- The last round's numbers satisfy the recurrence. -/
theorem cap_rec {P W X : List Int} (hp : parB P = true) (hn : P.length ≤ 24) (x : Nat) (hx : x < P.length) : nth (capM P W X) x = if endB P x = true then payS P W X x else max (payS P W X x) (kidSum P (nth (capM P W X)) x (P.length - 1)) := by
  rw [capM, capL_nth hx, ← cap_stay hp 24 x hx (by omega)]
  show capStep P (payS P W X) (capI P W X 24) x = _
  rw [capStep, kidSum_congr hp (fun y h1 h2 => (capL_nth (P := P) (W := W) (X := X) (i := 24) h2).symm) _ (by omega)]
theorem kidSum_abs {P W X : List Int} {F : Nat → Int} {z : Nat} (ht : treeB P W = true) (hF : ∀ y, z < y → y < P.length → -(999 * nth (gathM P W) y) ≤ F y ∧ F y ≤ 999 * nth (gathM P W) y) (j : Nat) (hj : j + 1 ≤ P.length) :
    -(999 * kidSum P (nth (gathM P W)) z j) ≤ kidSum P F z j ∧ kidSum P F z j ≤ 999 * kidSum P (nth (gathM P W)) z j := by
  obtain ⟨h1, h2, h3, h4⟩ := treeB_iff.1 ht
  induction j with
  | zero => simp [kidSum]
  | succ j ih =>
    have := ih (by omega)
    simp only [kidSum]
    split
    · rename_i e; have := hF _ (par_lt h3 (by omega) e) (by omega); omega
    · omega
theorem kidSum_mono {P : List Int} {F : Nat → Int} {z : Nat} (h : ∀ y, z < y → y < P.length → 0 ≤ F y) (hp : parB P = true) (j k : Nat) (hk : k + 1 ≤ P.length) (hj : j ≤ k) : kidSum P F z j ≤ kidSum P F z k := by
  induction k with
  | zero => obtain rfl : j = 0 := by omega
            exact Int.le_refl _
  | succ k ih =>
    by_cases e : j = k + 1
    · subst e; exact Int.le_refl _
    · have h1 := ih (by omega) (by omega)
      simp only [kidSum]
      split
      · rename_i e2; have := h _ (par_lt hp (by omega) e2) (by omega); omega
      · omega
theorem pay_bd {P W X : List Int} (ht : treeB P W = true) (hX : ∀ i, -999 ≤ nth X i ∧ nth X i ≤ 999) (x : Nat) (hx : x < P.length) : -(999 * nth (gathM P W) x) ≤ payS P W X x ∧ payS P W X x ≤ 999 * nth (gathM P W) x := by
  have h1 := sums_pos ht x hx
  have h2 := hX x
  rw [payS]
  have h3 : nth (gathM P W) x * nth X x ≤ nth (gathM P W) x * 999 := Int.mul_le_mul_of_nonneg_left h2.2 (by omega)
  have h4 : nth (gathM P W) x * (-999) ≤ nth (gathM P W) x * nth X x := Int.mul_le_mul_of_nonneg_left h2.1 (by omega)
  omega
theorem cap_bd {P W X : List Int} (ht : treeB P W = true) (hX : ∀ i, -999 ≤ nth X i ∧ nth X i ≤ 999) (i : Nat) : ∀ x, x < P.length → -(999 * nth (gathM P W) x) ≤ capI P W X i x ∧ capI P W X i x ≤ 999 * nth (gathM P W) x := by
  obtain ⟨h1, h2, h3, h4⟩ := treeB_iff.1 ht
  induction i with
  | zero => intro x hx; exact pay_bd ht hX x hx
  | succ i ih =>
    intro x hx
    have hp := pay_bd ht hX x hx
    show _ ≤ capStep P (payS P W X) (capI P W X i) x ∧ capStep P (payS P W X) (capI P W X i) x ≤ _
    rw [capStep]
    split
    · exact hp
    · have hk := kidSum_abs (X := X) (z := x) ht (fun y _ hy => ih y hy) (P.length - 1) (by omega)
      have hr := gath_rec (a := W) h3 h2 x hx
      have hw := tree_wei ht x
      omega
/-- Partial sums of children stay small. -/
theorem kid_small {P W X : List Int} {F : Nat → Int} (ht : treeB P W = true) (hF : ∀ y, y < P.length → -(999 * nth (gathM P W) y) ≤ F y ∧ F y ≤ 999 * nth (gathM P W) y) (z j : Nat) (hz : z < P.length) (hj : j + 1 ≤ P.length) :
    -479520 ≤ kidSum P F z j ∧ kidSum P F z j ≤ 479520 := by
  obtain ⟨h1, h2, h3, h4⟩ := treeB_iff.1 ht
  have hk := kidSum_abs (X := X) (z := z) ht (fun y _ hy => hF y hy) j hj
  have hm := kidSum_mono (F := nth (gathM P W)) (z := z) (fun y _ hy => by have := sums_pos ht y hy; omega) h3 j (P.length - 1) (by omega) (by omega)
  have hr := gath_rec (a := W) h3 h2 z hz
  have hw := tree_wei ht z
  have hs := sums_le ht z
  omega
theorem cap_small {P W X : List Int} (ht : treeB P W = true) (hX : ∀ i, -999 ≤ nth X i ∧ nth X i ≤ 999) (i x : Nat) (hx : x < P.length) : -479520 ≤ capI P W X i x ∧ capI P W X i x ≤ 479520 := by
  have := cap_bd ht hX i x hx
  have := sums_le ht x
  omega
/-- The first k numbers of F, then noughts. -/
def preL (P : List Int) (F : Nat → Int) (k : Nat) : List Int := (List.range P.length).map fun x => if x < k then F x else 0
theorem preL_len (P : List Int) (F : Nat → Int) (k : Nat) : (preL P F k).length = P.length := by simp [preL]
theorem preL_zero (P : List Int) (F : Nat → Int) : preL P F 0 = List.replicate P.length 0 := by
  apply List.ext_getElem <;> simp [preL]
theorem preL_set {P : List Int} {F : Nat → Int} {k : Nat} : (preL P F k).set k (F k) = preL P F (k + 1) := by
  apply List.ext_getElem
  · simp [preL]
  · intro i h1 h2
    simp only [preL, List.getElem_set, List.getElem_map, List.getElem_range]
    by_cases e : k = i
    · subst e; simp
    · simp only [e, if_false]
      by_cases h : i < k
      · rw [if_pos h, if_pos (by omega)]
      · rw [if_neg h, if_neg (by omega)]
theorem preL_all (P : List Int) (F : Nat → Int) : preL P F P.length = (List.range P.length).map F := by
  apply List.ext_getElem
  · simp [preL]
  · intro i h1 h2
    simp only [preL, List.length_map, List.length_range] at h1
    simp [preL, h1]
/-- The sums of the children among the last j nodes, of all nodes. -/
def kidL (P : List Int) (F : Nat → Int) (j : Nat) : List Int := (List.range P.length).map fun z => kidSum P F z j
theorem kidL_len (P : List Int) (F : Nat → Int) (j : Nat) : (kidL P F j).length = P.length := by simp [kidL]
theorem kidL_nth {P : List Int} {F : Nat → Int} {j z : Nat} (h : z < P.length) : nth (kidL P F j) z = kidSum P F z j := by
  rw [nth_eq (by rw [kidL_len]; exact h)]; simp [kidL]
theorem kidL_zero (P : List Int) (F : Nat → Int) : kidL P F 0 = List.replicate P.length 0 := by
  apply List.ext_getElem <;> simp [kidL, kidSum]
theorem kidL_step {P : List Int} {F : Nat → Int} {j y : Nat} (hy : nth P (P.length - 1 - j) = (y : Int)) (hl : y < P.length) : (kidL P F j).set y (nth (kidL P F j) y + F (P.length - 1 - j)) = kidL P F (j + 1) := by
  rw [kidL_nth hl]
  apply List.ext_getElem
  · simp [kidL]
  · intro i h1 h2
    simp only [kidL, List.getElem_set, List.getElem_map, List.getElem_range, kidSum]
    by_cases e : y = i
    · subst e; rw [if_pos rfl, if_pos hy]
    · rw [if_neg e, if_neg (by omega)]; omega
end Go.Proofs.Ytojipjjfndgbhaa
