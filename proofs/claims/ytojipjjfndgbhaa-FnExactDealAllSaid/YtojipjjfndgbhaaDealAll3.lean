import Derived.Test.YtojipjjfndgbhaaHIn
import Derived.Deep.RegionHeld3
/- The law FnExactDealAll. -/
set_option linter.unusedVariables false
namespace Go.Proofs.Ytojipjjfndgbhaa
open Go.ChangeShapes Go.WideShapes Go.ChangeAt Go.RowKit
set_option maxRecDepth 100000 in
set_option maxHeartbeats 2000000 in
theorem walk_FnExactDealAll (p : Option Addr) (n c : Nat) (P : List Int) (q : Option Addr) (m d : Nat) (W : List Int) (a : Option Addr) (l b : Nat) (X : List Int) (x s u v : Int) (y : Option Addr) (k e : Nat) (ds : List D3) (w : World) (hP : SL w p n c P) (hW : SL w q m d W) (hX : SL w a l b X) (ix : I64 x) (is : I64 s) (iu : I64 u) (iv : I64 v) (hD : SD w y k e ds) :
    Calls Try.prog 11 #[.agg #[.slice p n c, .slice q m d, .slice a l b, .int .i64 x, .int .i64 s, .int .i64 u, .int .i64 v], .slice y k e] w fun e w' => e = .returned (.bool true) ∧ Fr w w' := by
  have hfr : Fr w (w.alloc (.cells #[.slice p n c, .slice q m d, .slice a l b, .int .i64 x, .int .i64 s, .int .i64 u, .int .i64 v] 26)) := (Fr.refl w).alloc _
  have B0 := Blk.new w #[.slice p n c, .slice q m d, .slice a l b, .int .i64 x, .int .i64 s, .int .i64 u, .int .i64 v] 26
  have hn := hP.le; have hn2 := hP.mx; have hm := hW.le; have hm2 := hW.mx; have hl := hX.le; have hl2 := hX.mx
  have hk1 := hD.le; have hk2 := hD.mx
  by_cases hz : szH n m l 1048576 < 0
  · go_enter Try.func11, Try.ntmps11
    go_wp2_with fail
    refine (szHouse_any _ _ _ _ _ _ _ _ _ _ _ _ _ _ _ (by omega) (by omega) (by omega) (by omega) (by omega)).mono ?_
    rintro e w1 ⟨rfl, f1⟩
    go_wp2
    go_ret
    exact ⟨rfl, hfr.trans f1⟩
  · obtain ⟨y1, y2, y3, y4⟩ := szH_fit hz
    have y5 := szH_rng n m l 1048576 (by omega)
    by_cases hz2 : szI k (szH n m l 1048576) < 0
    · go_enter Try.func11, Try.ntmps11
      go_wp2_with fail
      refine (szHouse_any _ _ _ _ _ _ _ _ _ _ _ _ _ _ _ (by omega) (by omega) (by omega) (by omega) (by omega)).mono ?_
      rintro e w1 ⟨rfl, f1⟩
      clear y4
      generalize szH n m l 1048576 = zz at hz hz2 y5 ⊢
      go_wp2_with fail
      refine (szDealS_any _ _ _ _ _ (by omega) (by omega) (by omega)).mono ?_
      rintro e w2 ⟨rfl, rfl⟩
      go_wp2
      go_ret
      exact ⟨rfl, hfr.trans f1⟩
    · have y6 := (szI_fit hz2).1
      have hkk : k ≤ 1048576 := by omega
      have SH := Lib.hid (fun V p q a n c m d l b => spec_DealAll_any V p q a n c m d l b ⟨P, W, X, x, s, u, v⟩)
      have IH := Lib.hid (fun V p q a n c m d l b => impl_DealAll_any V p q a n c m d l b ⟨P, W, X, x, s, u, v⟩)
      have HD := Lib.hid hD
      generalize hh1 : allH ⟨P, W, X, x, s, u, v⟩ ds = g
      go_enter Try.func11, Try.ntmps11
      go_wp2_with fail
      refine (szHouse_any _ _ _ _ _ _ _ _ _ _ _ _ _ _ _ (by omega) (by omega) (by omega) (by omega) (by omega)).mono ?_
      rintro e w1 ⟨rfl, f1⟩
      replace B0 := B0.fr f1
      have F := hfr.trans f1
      clear y4 f1 hfr hD
      generalize szH n m l 1048576 = zz at hz hz2 y5 y6 ⊢
      go_wp2_with fail
      refine (szDealS_any _ _ _ _ _ (by omega) (by omega) (by omega)).mono ?_
      rintro e w2 ⟨rfl, rfl⟩
      generalize szI k zz = zz2 at hz2 ⊢
      have kz0 := B0.cell (j := 0) (v := .slice p n c) rfl; have kz1 := B0.cell (j := 1) (v := .slice q m d) rfl; have kz2 := B0.cell (j := 2) (v := .slice a l b) rfl; have kz3 := B0.cell (j := 3) (v := .int .i64 x) rfl; have kz4 := B0.cell (j := 4) (v := .int .i64 s) rfl; have kz5 := B0.cell (j := 5) (v := .int .i64 u) rfl; have kz6 := B0.cell (j := 6) (v := .int .i64 v) rfl
      go_wp2_with fail
      clear kz0 kz1 kz2 kz3 kz4 kz5 kz6
      refine (toHouse_in _ _ _ _ _ _ _ _ _ _ P W X x s u v (hP.fr F) (hW.fr F) (hX.fr F) (by omega) (by omega) (by omega)).mono ?_
      rintro e w2 ⟨p1, n1, c1, q1, m1, d1, a1, l1, b1, rfl, h1, f⟩
      have zf1 := F.size
      have zs1 := f.size
      replace B0 := B0.fr f
      replace F := F.trans f
      clear f
      go_wp2_with fail
      refine (toDealS_any _ _ _ _ ds (HD.out.fr F) hkk).mono ?_
      rintro e w3 ⟨y2, k2, e2, rfl, o2, f, hk2⟩
      have hb2 : Within y2 _ _ := o2.blk
      have zs2 := f.size
      replace B0 := B0.fr f
      replace h1 := h1.fr f
      replace F := F.trans f
      clear f
      go_wp2_with fail
      refine ((SH.out _ _ _ _ _ _ _ _ _ _ h1.sl1 h1.sl2 h1.sl3 h1.le.1 h1.le.2.1 h1.le.2.2 y2 k2 e2 ds o2.sd hk2).mono (fun e w' H => RetHIB.hin H)).mono ?_
      try simp only [hh1]
      rintro e w4 ⟨p3, n3, c3, q3, m3, d3, a3, l3, b3, rfl, h3, f⟩
      have zs3 := f.size
      replace B0 := B0.fr f
      replace h1 := h1.fr f
      replace o2 := o2.fr f
      replace F := F.trans f
      clear f
      clear h1 o2 SH
      have nB6x : w.heap.size < w4.heap.size := by have := B0.lt; exact this
      have fa : Fr w4 (w4.alloc (.cells #[.slice p3 n3 c3, .slice q3 m3 d3, .slice a3 l3 b3, .int .i64 g.t, .int .i64 g.s, .int .i64 g.u, .int .i64 g.v] 31)) := (Fr.refl _).alloc _
      have zaB6 := World.size_alloc w4 (.cells #[.slice p3 n3 c3, .slice q3 m3 d3, .slice a3 l3 b3, .int .i64 g.t, .int .i64 g.s, .int .i64 g.u, .int .i64 g.v] 31)
      have zbB6 := And.intro (Nat.le_of_eq zaB6) (Nat.le_of_eq zaB6.symm); clear zaB6
      have B6 := Blk.new w4 #[.slice p3 n3 c3, .slice q3 m3 d3, .slice a3 l3 b3, .int .i64 g.t, .int .i64 g.s, .int .i64 g.u, .int .i64 g.v] 31
      have nB6 : w.heap.size ≤ w4.heap.size := F.size
      have zs4 := fa.size
      replace B0 := B0.fr fa
      replace h3 := h3.fr fa
      replace F := F.trans fa
      clear fa
      have kz0 := B0.cell (j := 0) (v := .slice p n c) rfl; have kz1 := B0.cell (j := 1) (v := .slice q m d) rfl; have kz2 := B0.cell (j := 2) (v := .slice a l b) rfl; have kz3 := B0.cell (j := 3) (v := .int .i64 x) rfl; have kz4 := B0.cell (j := 4) (v := .int .i64 s) rfl; have kz5 := B0.cell (j := 5) (v := .int .i64 u) rfl; have kz6 := B0.cell (j := 6) (v := .int .i64 v) rfl
      go_wp2_with fail
      clear kz0 kz1 kz2 kz3 kz4 kz5 kz6
      refine (toHouse_in _ _ _ _ _ _ _ _ _ _ P W X x s u v (hP.fr F) (hW.fr F) (hX.fr F) (by omega) (by omega) (by omega)).mono ?_
      rintro e w6 ⟨p4, n4, c4, q4, m4, d4, a4, l4, b4, rfl, h4, f⟩
      have zf4 := F.size
      have zs5 := f.size
      replace B0 := B0.fr f
      replace h3 := h3.fr f
      replace B6 := B6.fr f
      replace F := F.trans f
      clear f
      have nB9x : w.heap.size < w6.heap.size := by have := B0.lt; exact this
      have fa : Fr w6 (w6.alloc (.cells #[.slice p4 n4 c4, .slice q4 m4 d4, .slice a4 l4 b4, .int .i64 x, .int .i64 s, .int .i64 u, .int .i64 v] 31)) := (Fr.refl _).alloc _
      have zaB9 := World.size_alloc w6 (.cells #[.slice p4 n4 c4, .slice q4 m4 d4, .slice a4 l4 b4, .int .i64 x, .int .i64 s, .int .i64 u, .int .i64 v] 31)
      have zbB9 := And.intro (Nat.le_of_eq zaB9) (Nat.le_of_eq zaB9.symm); clear zaB9
      have B9 := Blk.new w6 #[.slice p4 n4 c4, .slice q4 m4 d4, .slice a4 l4 b4, .int .i64 x, .int .i64 s, .int .i64 u, .int .i64 v] 31
      have nB9 : w.heap.size ≤ w6.heap.size := F.size
      have zs6 := fa.size
      replace B0 := B0.fr fa
      replace h3 := h3.fr fa
      replace B6 := B6.fr fa
      replace h4 := h4.fr fa
      replace F := F.trans fa
      clear fa
      go_wp2_with fail
      refine (toDealS_any _ _ _ _ ds (HD.out.fr F) hkk).mono ?_
      rintro e w8 ⟨y5, k5, e5, rfl, o5, f, hk5⟩
      have hb5 : Within y5 _ _ := o5.blk
      have zs7 := f.size
      replace B0 := B0.fr f
      replace h3 := h3.fr f
      replace B6 := B6.fr f
      replace h4 := h4.fr f
      replace B9 := B9.fr f
      replace F := F.trans f
      clear f
      have kx0 := B9.cell (j := 0) (v := .slice p4 n4 c4) rfl; have kx1 := B9.cell (j := 1) (v := .slice q4 m4 d4) rfl; have kx2 := B9.cell (j := 2) (v := .slice a4 l4 b4) rfl; have kx3 := B9.cell (j := 3) (v := .int .i64 x) rfl; have kx4 := B9.cell (j := 4) (v := .int .i64 s) rfl; have kx5 := B9.cell (j := 5) (v := .int .i64 u) rfl; have kx6 := B9.cell (j := 6) (v := .int .i64 v) rfl
      go_wp2_with fail
      clear kx0 kx1 kx2 kx3 kx4 kx5 kx6
      refine ((IH.out _ _ _ _ _ _ _ _ _ _ h4.sl1 h4.sl2 h4.sl3 h4.le.1 h4.le.2.1 h4.le.2.2 y5 k5 e5 ds o5.sd hk5).mono (fun e w' H => RetHIB.hin H)).mono ?_
      try simp only [hh1]
      rintro e w9 ⟨p6, n6, c6, q6, m6, d6, a6, l6, b6, rfl, h6, f⟩
      have zs8 := f.size
      replace B0 := B0.fr f
      replace h3 := h3.fr f
      replace B6 := B6.fr f
      replace h4 := h4.fr f
      replace B9 := B9.fr f
      replace o5 := o5.fr f
      replace F := F.trans f
      clear f
      have nB11x : w.heap.size < w9.heap.size := by have := B0.lt; exact this
      have fa : Fr w9 (w9.alloc (.cells #[.slice p6 n6 c6, .slice q6 m6 d6, .slice a6 l6 b6, .int .i64 g.t, .int .i64 g.s, .int .i64 g.u, .int .i64 g.v] 31)) := (Fr.refl _).alloc _
      have zaB11 := World.size_alloc w9 (.cells #[.slice p6 n6 c6, .slice q6 m6 d6, .slice a6 l6 b6, .int .i64 g.t, .int .i64 g.s, .int .i64 g.u, .int .i64 g.v] 31)
      have zbB11 := And.intro (Nat.le_of_eq zaB11) (Nat.le_of_eq zaB11.symm); clear zaB11
      have B11 := Blk.new w9 #[.slice p6 n6 c6, .slice q6 m6 d6, .slice a6 l6 b6, .int .i64 g.t, .int .i64 g.s, .int .i64 g.u, .int .i64 g.v] 31
      have nB11 : w.heap.size ≤ w9.heap.size := F.size
      have zs9 := fa.size
      replace B0 := B0.fr fa
      replace h3 := h3.fr fa
      replace B6 := B6.fr fa
      replace h4 := h4.fr fa
      replace B9 := B9.fr fa
      replace o5 := o5.fr fa
      replace h6 := h6.fr fa
      replace F := F.trans fa
      clear fa
      have kx0 := B11.cell (j := 0) (v := .slice p6 n6 c6) rfl; have kx1 := B11.cell (j := 1) (v := .slice q6 m6 d6) rfl; have kx2 := B11.cell (j := 2) (v := .slice a6 l6 b6) rfl; have kx3 := B11.cell (j := 3) (v := .int .i64 g.t) rfl; have kx4 := B11.cell (j := 4) (v := .int .i64 g.s) rfl; have kx5 := B11.cell (j := 5) (v := .int .i64 g.u) rfl; have kx6 := B11.cell (j := 6) (v := .int .i64 g.v) rfl
      have ky0 := B6.cell (j := 0) (v := .slice p3 n3 c3) rfl; have ky1 := B6.cell (j := 1) (v := .slice q3 m3 d3) rfl; have ky2 := B6.cell (j := 2) (v := .slice a3 l3 b3) rfl; have ky3 := B6.cell (j := 3) (v := .int .i64 g.t) rfl; have ky4 := B6.cell (j := 4) (v := .int .i64 g.s) rfl; have ky5 := B6.cell (j := 5) (v := .int .i64 g.u) rfl; have ky6 := B6.cell (j := 6) (v := .int .i64 g.v) rfl
      go_wp2_with fail
      clear kx0 kx1 kx2 kx3 kx4 kx5 kx6
      clear ky0 ky1 ky2 ky3 ky4 ky5 ky6
      refine (eqHouse_in _ _ _ _ _ _ _ _ _ _ _ _ _ _ _ _ _ _ _ g.P g.W g.X g.t g.s g.u g.v h6 h3).mono ?_
      rintro e w11 ⟨rfl, f⟩
      have zs10 := f.size
      replace B0 := B0.fr f
      replace h3 := h3.fr f
      replace B6 := B6.fr f
      replace h4 := h4.fr f
      replace B9 := B9.fr f
      replace o5 := o5.fr f
      replace h6 := h6.fr f
      replace B11 := B11.fr f
      replace F := F.trans f
      clear f
      have kx0 := B9.cell (j := 0) (v := .slice p4 n4 c4) rfl; have kx1 := B9.cell (j := 1) (v := .slice q4 m4 d4) rfl; have kx2 := B9.cell (j := 2) (v := .slice a4 l4 b4) rfl; have kx3 := B9.cell (j := 3) (v := .int .i64 x) rfl; have kx4 := B9.cell (j := 4) (v := .int .i64 s) rfl; have kx5 := B9.cell (j := 5) (v := .int .i64 u) rfl; have kx6 := B9.cell (j := 6) (v := .int .i64 v) rfl
      have kz0 := B0.cell (j := 0) (v := .slice p n c) rfl; have kz1 := B0.cell (j := 1) (v := .slice q m d) rfl; have kz2 := B0.cell (j := 2) (v := .slice a l b) rfl; have kz3 := B0.cell (j := 3) (v := .int .i64 x) rfl; have kz4 := B0.cell (j := 4) (v := .int .i64 s) rfl; have kz5 := B0.cell (j := 5) (v := .int .i64 u) rfl; have kz6 := B0.cell (j := 6) (v := .int .i64 v) rfl
      have tP := hP.fr (F.drew' 1); have tW := hW.fr (F.drew' 1); have tX := hX.fr (F.drew' 1)
      have h4d := h4.fr (Fr.drewN _ 1)
      go_upto_region 14 with fail
      go_region_held3 (fun w' => w'.cell? ⟨w6.heap.size, 0, none⟩ = some (.slice p4 n4 c4) ∧ w'.cell? ⟨w6.heap.size, 1, none⟩ = some (.slice q4 m4 d4) ∧ w'.cell? ⟨w6.heap.size, 2, none⟩ = some (.slice a4 l4 b4) ∧ w'.cell? ⟨w6.heap.size, 3, none⟩ = some (.int .i64 x) ∧ w'.cell? ⟨w6.heap.size, 4, none⟩ = some (.int .i64 s) ∧ w'.cell? ⟨w6.heap.size, 5, none⟩ = some (.int .i64 u) ∧ w'.cell? ⟨w6.heap.size, 6, none⟩ = some (.int .i64 v) ∧ w'.cell? ⟨w.heap.size, 0, none⟩ = some (.slice p n c) ∧ w'.cell? ⟨w.heap.size, 1, none⟩ = some (.slice q m d) ∧ w'.cell? ⟨w.heap.size, 2, none⟩ = some (.slice a l b) ∧ w'.cell? ⟨w.heap.size, 3, none⟩ = some (.int .i64 x) ∧ w'.cell? ⟨w.heap.size, 4, none⟩ = some (.int .i64 s) ∧ w'.cell? ⟨w.heap.size, 5, none⟩ = some (.int .i64 u) ∧ w'.cell? ⟨w.heap.size, 6, none⟩ = some (.int .i64 v))
          (first | (with_reducible exact ⟨FB.keep kx0, FB.keep kx1, FB.keep kx2, FB.keep kx3, FB.keep kx4, FB.keep kx5, FB.keep kx6, FB.keep kz0, FB.keep kz1, FB.keep kz2, FB.keep kz3, FB.keep kz4, FB.keep kz5, FB.keep kz6⟩) | (with_reducible exact ⟨FA.keep kx0, FA.keep kx1, FA.keep kx2, FA.keep kx3, FA.keep kx4, FA.keep kx5, FA.keep kx6, FA.keep kz0, FA.keep kz1, FA.keep kz2, FA.keep kz3, FA.keep kz4, FA.keep kz5, FA.keep kz6⟩) | go_keep)
          (first
            | (go_at_call 17; refine (toHouse_in _ _ _ _ _ _ _ _ _ _ P W X x s u v tP tW tX (by omega) (by omega) (by omega)).mono ?_; rintro e wa ⟨p7, n7, c7, q7, m7, d7, a7, l7, b7, rfl, h7, fa⟩; have FA : Fr w11 wa := (by first | exact fa | exact ((Fr.refl w11).drew' 1).trans fa))
            | (go_at_call 19; refine (eqHouse_in _ _ _ _ _ _ _ _ _ _ _ _ _ _ _ _ _ _ _ P W X x s u v (h4d.fr fa) h7).mono ?_; rintro e wb ⟨rfl, fb⟩; have FB : Fr w11 wb := FA.trans fb))
      clear kx0 kx1 kx2 kx3 kx4 kx5 kx6
      clear kz0 kz1 kz2 kz3 kz4 kz5 kz6
      have f := FB
      clear fa fb FA FB tP tW tX h4d h7
      have zs11 := f.size
      replace B0 := B0.fr f
      replace h3 := h3.fr f
      replace B6 := B6.fr f
      replace h4 := h4.fr f
      replace B9 := B9.fr f
      replace o5 := o5.fr f
      replace h6 := h6.fr f
      replace B11 := B11.fr f
      replace F := F.trans f
      clear f
      go_wp2_with fail
      refine (toDealS_any _ _ _ _ ds (HD.out.fr F) hkk).mono ?_
      rintro e w14 ⟨y8, k8, e8, rfl, o8, f, hk8⟩
      have hb8 : Within y8 _ _ := o8.blk
      have zs12 := f.size
      replace B0 := B0.fr f
      replace h3 := h3.fr f
      replace B6 := B6.fr f
      replace h4 := h4.fr f
      replace B9 := B9.fr f
      replace o5 := o5.fr f
      replace h6 := h6.fr f
      replace B11 := B11.fr f
      replace F := F.trans f
      clear f
      obtain rfl : k5 = k8 := by rw [← o5.len, ← o8.len]
      go_wp2_with fail
      refine (eqDealS_same _ _ _ _ _ _ ds o5.sd o8.sd).mono ?_
      rintro e w15 ⟨rfl, f⟩
      have zs13 := f.size
      replace B0 := B0.fr f
      replace h3 := h3.fr f
      replace B6 := B6.fr f
      replace h4 := h4.fr f
      replace B9 := B9.fr f
      replace o5 := o5.fr f
      replace h6 := h6.fr f
      replace B11 := B11.fr f
      replace o8 := o8.fr f
      replace F := F.trans f
      clear f
      clear o8
      have kx0 := B9.cell (j := 0) (v := .slice p4 n4 c4) rfl; have kx1 := B9.cell (j := 1) (v := .slice q4 m4 d4) rfl; have kx2 := B9.cell (j := 2) (v := .slice a4 l4 b4) rfl; have kx3 := B9.cell (j := 3) (v := .int .i64 x) rfl; have kx4 := B9.cell (j := 4) (v := .int .i64 s) rfl; have kx5 := B9.cell (j := 5) (v := .int .i64 u) rfl; have kx6 := B9.cell (j := 6) (v := .int .i64 v) rfl
      go_wp2_with fail
      clear kx0 kx1 kx2 kx3 kx4 kx5 kx6
      have z4 := h4.lt; have z3 := h3.lt; have z6 := h6.lt; have zB := F.size; 
      refine (markHouse_in _ _ _ _ _ _ _ _ _ _ _ _ P W X x s u v h4).mono ?_
      rintro e w16 ⟨rfl, hm4, GI⟩
      replace B0 := B0.skipIn GI (by omega)
      replace B6 := B6.skipIn GI (by omega)
      replace B11 := B11.skipIn GI (by omega)
      replace h3 := h3.skip GI (by omega)
      replace h6 := h6.skip GI (by omega)
      have zs := GI.size
      replace F := F.grownSS GI (by omega)
      replace o5 : OwnD _ _ y5 k5 e5 ds := o5.skipIn GI hb5 (by omega)
      clear GI h4 B9
      have hq1 : (0 : Int) ≤ 1 + (n4 : Int) + m4 + l4 := by omega
      have hq2 : 1 + (n4 : Int) + m4 + l4 ≤ 1000000000000 := by have := hm4.le; omega
      generalize 1 + (n4 : Int) + m4 + l4 = kk at hq1 hq2 hm4 ⊢
      clear hm4
      go_wp2_with fail
      refine (markDealS_any _ _ _ _ _ ds kk o5 hq1 hq2 hk5).mono ?_
      rintro e w17 ⟨⟨qq, rfl, hqq⟩, gg⟩
      have GI := GrownIn.of gg hb5
      replace B0 := B0.skipIn GI (by omega)
      replace B6 := B6.skipIn GI (by omega)
      replace B11 := B11.skipIn GI (by omega)
      replace h3 := h3.skip GI (by omega)
      replace h6 := h6.skip GI (by omega)
      have zs2 := GI.size
      replace F := F.grownSS GI (by omega)
      clear GI gg o5 hb5
      have hqq2 : ¬ qq < 0 := by omega
      have kx0 := B11.cell (j := 0) (v := .slice p6 n6 c6) rfl; have kx1 := B11.cell (j := 1) (v := .slice q6 m6 d6) rfl; have kx2 := B11.cell (j := 2) (v := .slice a6 l6 b6) rfl; have kx3 := B11.cell (j := 3) (v := .int .i64 g.t) rfl; have kx4 := B11.cell (j := 4) (v := .int .i64 g.s) rfl; have kx5 := B11.cell (j := 5) (v := .int .i64 g.u) rfl; have kx6 := B11.cell (j := 6) (v := .int .i64 g.v) rfl
      have ky0 := B6.cell (j := 0) (v := .slice p3 n3 c3) rfl; have ky1 := B6.cell (j := 1) (v := .slice q3 m3 d3) rfl; have ky2 := B6.cell (j := 2) (v := .slice a3 l3 b3) rfl; have ky3 := B6.cell (j := 3) (v := .int .i64 g.t) rfl; have ky4 := B6.cell (j := 4) (v := .int .i64 g.s) rfl; have ky5 := B6.cell (j := 5) (v := .int .i64 g.u) rfl; have ky6 := B6.cell (j := 6) (v := .int .i64 g.v) rfl
      go_wp2_with fail
      clear kx0 kx1 kx2 kx3 kx4 kx5 kx6
      clear ky0 ky1 ky2 ky3 ky4 ky5 ky6
      refine (eqHouse_in _ _ _ _ _ _ _ _ _ _ _ _ _ _ _ _ _ _ _ g.P g.W g.X g.t g.s g.u g.v h6 h3).mono ?_
      rintro e w18 ⟨rfl, f⟩
      have zs14 := f.size
      replace B0 := B0.fr f
      replace h3 := h3.fr f
      replace B6 := B6.fr f
      replace h6 := h6.fr f
      replace B11 := B11.fr f
      replace F := F.trans f
      clear f
      have kx0 := B11.cell (j := 0) (v := .slice p6 n6 c6) rfl; have kx1 := B11.cell (j := 1) (v := .slice q6 m6 d6) rfl; have kx2 := B11.cell (j := 2) (v := .slice a6 l6 b6) rfl; have kx3 := B11.cell (j := 3) (v := .int .i64 g.t) rfl; have kx4 := B11.cell (j := 4) (v := .int .i64 g.s) rfl; have kx5 := B11.cell (j := 5) (v := .int .i64 g.u) rfl; have kx6 := B11.cell (j := 6) (v := .int .i64 g.v) rfl
      go_wp2_with fail
      clear kx0 kx1 kx2 kx3 kx4 kx5 kx6
      have z3 := h3.lt; have z6 := h6.lt
      refine (markHouse_in _ _ _ _ _ _ _ _ _ _ _ _ g.P g.W g.X g.t g.s g.u g.v h6).mono ?_
      rintro e w19 ⟨rfl, hm6, GI⟩
      replace B0 := B0.skipIn GI (by omega)
      replace B6 := B6.skipIn GI (by omega)
      replace B11 := B11.skipIn GI (by omega)
      replace h3 := h3.skip GI (by omega)
      have zs3 := GI.size
      replace F := F.grownSS GI (by omega)
      clear GI h6
      have kx0 := B11.cell (j := 0) (v := .slice p6 n6 c6) rfl; have kx1 := B11.cell (j := 1) (v := .slice q6 m6 d6) rfl; have kx2 := B11.cell (j := 2) (v := .slice a6 l6 b6) rfl; have kx3 := B11.cell (j := 3) (v := .int .i64 g.t) rfl; have kx4 := B11.cell (j := 4) (v := .int .i64 g.s) rfl; have kx5 := B11.cell (j := 5) (v := .int .i64 g.u) rfl; have kx6 := B11.cell (j := 6) (v := .int .i64 g.v) rfl
      have hq3 : ¬ (1 + (n6 : Int) + m6 + l6) < 0 := by omega
      go_wp2_with fail
      clear kx0 kx1 kx2 kx3 kx4 kx5 kx6
      refine (heldHouse_in _ _ _ _ _ _ _ _ _ _ _ _ g.t g.s g.u g.v hm6).mono ?_
      rintro e w20 ⟨rfl, f⟩
      have zs15 := f.size
      replace B0 := B0.fr f
      replace h3 := h3.fr f
      replace B6 := B6.fr f
      replace B11 := B11.fr f
      replace hm6 := hm6.fr f
      replace F := F.trans f
      clear f
      have kz0 := B0.cell (j := 0) (v := .slice p n c) rfl; have kz1 := B0.cell (j := 1) (v := .slice q m d) rfl; have kz2 := B0.cell (j := 2) (v := .slice a l b) rfl; have kz3 := B0.cell (j := 3) (v := .int .i64 x) rfl; have kz4 := B0.cell (j := 4) (v := .int .i64 s) rfl; have kz5 := B0.cell (j := 5) (v := .int .i64 u) rfl; have kz6 := B0.cell (j := 6) (v := .int .i64 v) rfl
      go_wp2_with fail
      clear kz0 kz1 kz2 kz3 kz4 kz5 kz6
      refine (toHouse_in _ _ _ _ _ _ _ _ _ _ P W X x s u v (hP.fr F) (hW.fr F) (hX.fr F) (by omega) (by omega) (by omega)).mono ?_
      rintro e w21 ⟨p9, n9, c9, q9, m9, d9, a9, l9, b9, rfl, h9, f⟩
      have zf9 := F.size
      have zs16 := f.size
      replace B0 := B0.fr f
      replace h3 := h3.fr f
      replace B6 := B6.fr f
      replace B11 := B11.fr f
      replace hm6 := hm6.fr f
      replace F := F.trans f
      clear f
      go_wp2_with fail
      refine (toDealS_any _ _ _ _ ds (HD.out.fr F) hkk).mono ?_
      rintro e w22 ⟨y10, k10, e10, rfl, o10, f, hk10⟩
      have hb10 : Within y10 _ _ := o10.blk
      have zs17 := f.size
      replace B0 := B0.fr f
      replace h3 := h3.fr f
      replace B6 := B6.fr f
      replace B11 := B11.fr f
      replace hm6 := hm6.fr f
      replace h9 := h9.fr f
      replace F := F.trans f
      clear f
      go_wp2_with fail
      refine ((IH.out _ _ _ _ _ _ _ _ _ _ h9.sl1 h9.sl2 h9.sl3 h9.le.1 h9.le.2.1 h9.le.2.2 y10 k10 e10 ds o10.sd hk10).mono (fun e w' H => RetHIB.hin H)).mono ?_
      try simp only [hh1]
      rintro e w23 ⟨p12, n12, c12, q12, m12, d12, a12, l12, b12, rfl, h12, f⟩
      have zs18 := f.size
      replace B0 := B0.fr f
      replace h3 := h3.fr f
      replace B6 := B6.fr f
      replace B11 := B11.fr f
      replace hm6 := hm6.fr f
      replace h9 := h9.fr f
      replace o10 := o10.fr f
      replace F := F.trans f
      clear f
      have nB17x : w.heap.size < w23.heap.size := by have := B0.lt; exact this
      have fa : Fr w23 (w23.alloc (.cells #[.slice p12 n12 c12, .slice q12 m12 d12, .slice a12 l12 b12, .int .i64 g.t, .int .i64 g.s, .int .i64 g.u, .int .i64 g.v] 31)) := (Fr.refl _).alloc _
      have zaB17 := World.size_alloc w23 (.cells #[.slice p12 n12 c12, .slice q12 m12 d12, .slice a12 l12 b12, .int .i64 g.t, .int .i64 g.s, .int .i64 g.u, .int .i64 g.v] 31)
      have zbB17 := And.intro (Nat.le_of_eq zaB17) (Nat.le_of_eq zaB17.symm); clear zaB17
      have B17 := Blk.new w23 #[.slice p12 n12 c12, .slice q12 m12 d12, .slice a12 l12 b12, .int .i64 g.t, .int .i64 g.s, .int .i64 g.u, .int .i64 g.v] 31
      have nB17 : w.heap.size ≤ w23.heap.size := F.size
      have zs19 := fa.size
      replace B0 := B0.fr fa
      replace h3 := h3.fr fa
      replace B6 := B6.fr fa
      replace B11 := B11.fr fa
      replace hm6 := hm6.fr fa
      replace h9 := h9.fr fa
      replace o10 := o10.fr fa
      replace h12 := h12.fr fa
      replace F := F.trans fa
      clear fa
      have kx0 := B17.cell (j := 0) (v := .slice p12 n12 c12) rfl; have kx1 := B17.cell (j := 1) (v := .slice q12 m12 d12) rfl; have kx2 := B17.cell (j := 2) (v := .slice a12 l12 b12) rfl; have kx3 := B17.cell (j := 3) (v := .int .i64 g.t) rfl; have kx4 := B17.cell (j := 4) (v := .int .i64 g.s) rfl; have kx5 := B17.cell (j := 5) (v := .int .i64 g.u) rfl; have kx6 := B17.cell (j := 6) (v := .int .i64 g.v) rfl
      have ky0 := B6.cell (j := 0) (v := .slice p3 n3 c3) rfl; have ky1 := B6.cell (j := 1) (v := .slice q3 m3 d3) rfl; have ky2 := B6.cell (j := 2) (v := .slice a3 l3 b3) rfl; have ky3 := B6.cell (j := 3) (v := .int .i64 g.t) rfl; have ky4 := B6.cell (j := 4) (v := .int .i64 g.s) rfl; have ky5 := B6.cell (j := 5) (v := .int .i64 g.u) rfl; have ky6 := B6.cell (j := 6) (v := .int .i64 g.v) rfl
      go_wp2_with fail
      clear kx0 kx1 kx2 kx3 kx4 kx5 kx6
      clear ky0 ky1 ky2 ky3 ky4 ky5 ky6
      refine (eqHouse_in _ _ _ _ _ _ _ _ _ _ _ _ _ _ _ _ _ _ _ g.P g.W g.X g.t g.s g.u g.v h12 h3).mono ?_
      rintro e w25 ⟨rfl, f⟩
      have zs20 := f.size
      replace B0 := B0.fr f
      replace h3 := h3.fr f
      replace B6 := B6.fr f
      replace B11 := B11.fr f
      replace hm6 := hm6.fr f
      replace h9 := h9.fr f
      replace o10 := o10.fr f
      replace h12 := h12.fr f
      replace B17 := B17.fr f
      replace F := F.trans f
      clear f
      have kx0 := B11.cell (j := 0) (v := .slice p6 n6 c6) rfl; have kx1 := B11.cell (j := 1) (v := .slice q6 m6 d6) rfl; have kx2 := B11.cell (j := 2) (v := .slice a6 l6 b6) rfl; have kx3 := B11.cell (j := 3) (v := .int .i64 g.t) rfl; have kx4 := B11.cell (j := 4) (v := .int .i64 g.s) rfl; have kx5 := B11.cell (j := 5) (v := .int .i64 g.u) rfl; have kx6 := B11.cell (j := 6) (v := .int .i64 g.v) rfl
      go_wp2_with fail
      clear kx0 kx1 kx2 kx3 kx4 kx5 kx6
      refine (heldHouse_in _ _ _ _ _ _ _ _ _ _ _ _ g.t g.s g.u g.v hm6).mono ?_
      rintro e w26 ⟨rfl, f⟩
      have zs21 := f.size
      replace B0 := B0.fr f
      replace h3 := h3.fr f
      replace B6 := B6.fr f
      replace B11 := B11.fr f
      replace hm6 := hm6.fr f
      replace h9 := h9.fr f
      replace o10 := o10.fr f
      replace h12 := h12.fr f
      replace B17 := B17.fr f
      replace F := F.trans f
      clear f
      go_wp2
      go_ret
      exact ⟨rfl, F⟩
end Go.Proofs.Ytojipjjfndgbhaa
