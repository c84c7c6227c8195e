import Derived.Test.YtolnloeapbplkaaDoorCons2
/- The law FnExactIsValidConsole. -/
set_option linter.unusedVariables false
namespace Go.Proofs.YtolnloeapbplkaaDoor
open Go.ChangeShapes Go.WideShapes Go.ChangeAt Go.RowKit
set_option maxRecDepth 100000 in
set_option maxHeartbeats 2000000 in
theorem walk_FnExactIsValidConsole (p : Option Addr) (n c : Nat) (P : List Int) (q : Option Addr) (m d : Nat) (W : List Int) (a : Option Addr) (l b : Nat) (X : List Int) (x s u v : Int) (sd sp : ByteArray) (z : Int) (w : World) (hE : Env w) (hP : SL w p n c P) (hW : SL w q m d W) (hX : SL w a l b X) (ix : I64 x) (is : I64 s) (iu : I64 u) (iv : I64 v) (hd : sd.size ≤ maxLen) (hp : sp.size ≤ maxLen) (iz : I64 z) :
    Calls Tryd.prog 5 #[.agg #[.slice p n c, .slice q m d, .slice a l b, .int .i64 x, .int .i64 s, .int .i64 u, .int .i64 v, .string sd, .string sp, .int .i64 z]] w fun e w' => e = .returned (.bool true) ∧ Fr w w' := by
  unfold maxLen at hd hp
  have hfr : Fr w (w.alloc (.cells #[.slice p n c, .slice q m d, .slice a l b, .int .i64 x, .int .i64 s, .int .i64 u, .int .i64 v, .string sd, .string sp, .int .i64 z] 59)) := (Fr.refl w).alloc _
  have B0 := Blk.new w #[.slice p n c, .slice q m d, .slice a l b, .int .i64 x, .int .i64 s, .int .i64 u, .int .i64 v, .string sd, .string sp, .int .i64 z] 59
  have hn := hP.le; have hn2 := hP.mx; have hm := hW.le; have hm2 := hW.mx; have hl := hX.le; have hl2 := hX.mx
  by_cases hz : szC n m l sd.size sp.size 1048576 < 0
  · go_enter Tryd.func5, Tryd.ntmps5
    go_wp2_with fail
    refine (szConsole_any _ _ _ _ _ _ _ _ _ _ _ _ _ _ _ _ _ _ (by omega) (by omega) (by omega) (by omega) (by omega) (by omega) (by omega)).mono ?_
    rintro e w1 ⟨rfl, f1⟩
    go_wp2
    go_ret
    exact ⟨rfl, hfr.trans f1⟩
  · obtain ⟨y1, y2, y3, y4⟩ := szC_fit hz
    have y5 : sd.size + sp.size ≤ 1048576 := by omega
    go_enter Tryd.func5, Tryd.ntmps5
    go_wp2_with fail
    refine (szConsole_any _ _ _ _ _ _ _ _ _ _ _ _ _ _ _ _ _ _ (by omega) (by omega) (by omega) (by omega) (by omega) (by omega) (by omega)).mono ?_
    rintro e w1 ⟨rfl, f1⟩
    generalize szC n m l sd.size sp.size 1048576 = zz at hz ⊢
    replace B0 := B0.fr f1
    have F := hfr.trans f1
    clear f1 hfr
    have kc0 := B0.cell (j := 0) (v := .slice p n c) rfl
    have kc1 := B0.cell (j := 1) (v := .slice q m d) rfl
    have kc2 := B0.cell (j := 2) (v := .slice a l b) rfl
    have kc3 := B0.cell (j := 3) (v := .int .i64 x) rfl
    have kc4 := B0.cell (j := 4) (v := .int .i64 s) rfl
    have kc5 := B0.cell (j := 5) (v := .int .i64 u) rfl
    have kc6 := B0.cell (j := 6) (v := .int .i64 v) rfl
    have kc7 := B0.cell (j := 7) (v := .string sd) rfl
    have kc8 := B0.cell (j := 8) (v := .string sp) rfl
    have kc9 := B0.cell (j := 9) (v := .int .i64 z) rfl
    go_wp2_with fail
    refine (toConsole_any _ _ _ _ _ _ _ _ _ _ _ _ _ x s u v sd sp z (hP.fr F) (hW.fr F) (hX.fr F) (by omega) (by omega) (by omega)).mono ?_
    rintro e w2 ⟨p1, n1, c1, q1, m1, d1, a1, l1, b1, M1, N1, rfl, o1, r1, s1, W1, W2, k1, k2, k3, f2, j1, j2, j3⟩
    go_wp2_with fail
    refine (spec_IsValidConsole_any _ _ _ _ _ _ _ _ _ _ _ _ _ o1.sl r1.sl s1.sl x s u v sd sp z y5).mono ?_
    rintro e w3 ⟨rfl, f3⟩
    have HIM : Hid (∀ (V : World) (p q a : Option Addr) (n c m d l k : Nat), SL V p n c P → SL V q m d W → SL V a l k X → Env V → Calls Tryd.prog 41 #[.agg #[.slice p n c, .slice q m d, .slice a l k, .int .i64 x, .int .i64 s, .int .i64 u, .int .i64 v, .string sd, .string sp, .int .i64 z]] V fun e w' => e = .returned (.bool (consB P W X x s u v sd sp z)) ∧ Fr V w') := Lib.hid (fun V p q a n c m d l k h1 h2 h3 h => impl_IsValidConsole_any V p q a n c m d l k P W X h1 h2 h3 x s u v sd sp z y5 h)
    generalize consB P W X x s u v sd sp z = V at HIM ⊢
    replace B0 := (B0.fr f2).fr f3
    replace F := (F.trans f2).trans f3
    clear kc0 kc1 kc2 kc3 kc4 kc5 kc6 kc7 kc8 kc9
    clear f2 f3 o1 r1 s1 W1 W2 k1 k2 k3
    have kc0 := B0.cell (j := 0) (v := .slice p n c) rfl
    have kc1 := B0.cell (j := 1) (v := .slice q m d) rfl
    have kc2 := B0.cell (j := 2) (v := .slice a l b) rfl
    have kc3 := B0.cell (j := 3) (v := .int .i64 x) rfl
    have kc4 := B0.cell (j := 4) (v := .int .i64 s) rfl
    have kc5 := B0.cell (j := 5) (v := .int .i64 u) rfl
    have kc6 := B0.cell (j := 6) (v := .int .i64 v) rfl
    have kc7 := B0.cell (j := 7) (v := .string sd) rfl
    have kc8 := B0.cell (j := 8) (v := .string sp) rfl
    have kc9 := B0.cell (j := 9) (v := .int .i64 z) rfl
    go_wp2_with fail
    refine (toConsole_any _ _ _ _ _ _ _ _ _ _ _ _ _ x s u v sd sp z (hP.fr F) (hW.fr F) (hX.fr F) (by omega) (by omega) (by omega)).mono ?_
    rintro e w4 ⟨p2, n2, c2, q2, m2, d2, a2, l2, b2, M2, N2, rfl, o2, r2, s2, W1, W2, k1, k2, k3, f4, j1, j2, j3⟩
    have fa : Fr w4 (w4.alloc (.cells #[.slice p2 n2 c2, .slice q2 m2 d2, .slice a2 l2 b2, .int .i64 x, .int .i64 s, .int .i64 u, .int .i64 v, .string sd, .string sp, .int .i64 z] 66)) := (Fr.refl _).alloc _
    have D0 := Blk.new w4 #[.slice p2 n2 c2, .slice q2 m2 d2, .slice a2 l2 b2, .int .i64 x, .int .i64 s, .int .i64 u, .int .i64 v, .string sd, .string sp, .int .i64 z] 66
    replace B0 := (B0.fr f4).fr fa
    replace F := (F.trans f4).trans fa
    replace o2 := o2.fr fa; replace r2 := r2.fr fa; replace s2 := s2.fr fa
    clear kc0 kc1 kc2 kc3 kc4 kc5 kc6 kc7 kc8 kc9
    clear f4 W1 W2 k1 k2 k3
    have e0 := D0.cell (j := 0) (v := .slice p2 n2 c2) rfl
    have e1 := D0.cell (j := 1) (v := .slice q2 m2 d2) rfl
    have e2 := D0.cell (j := 2) (v := .slice a2 l2 b2) rfl
    have e3 := D0.cell (j := 3) (v := .int .i64 x) rfl
    have e4 := D0.cell (j := 4) (v := .int .i64 s) rfl
    have e5 := D0.cell (j := 5) (v := .int .i64 u) rfl
    have e6 := D0.cell (j := 6) (v := .int .i64 v) rfl
    have e7 := D0.cell (j := 7) (v := .string sd) rfl
    have e8 := D0.cell (j := 8) (v := .string sp) rfl
    have e9 := D0.cell (j := 9) (v := .int .i64 z) rfl
    go_wp2_with fail
    refine (HIM.out _ _ _ _ _ _ _ _ _ _ o2.sl r2.sl s2.sl (hE.fr F)).mono ?_
    rintro e w5 ⟨rfl, f5⟩
    replace B0 := B0.fr f5
    replace D0 := D0.fr f5
    replace F := F.trans f5
    replace o2 := o2.fr f5; replace r2 := r2.fr f5; replace s2 := s2.fr f5
    clear e0 e1 e2 e3 e4 e5 e6 e7 e8 e9
    clear f5 fa HIM
    have kc0 := B0.cell (j := 0) (v := .slice p n c) rfl
    have kc1 := B0.cell (j := 1) (v := .slice q m d) rfl
    have kc2 := B0.cell (j := 2) (v := .slice a l b) rfl
    have kc3 := B0.cell (j := 3) (v := .int .i64 x) rfl
    have kc4 := B0.cell (j := 4) (v := .int .i64 s) rfl
    have kc5 := B0.cell (j := 5) (v := .int .i64 u) rfl
    have kc6 := B0.cell (j := 6) (v := .int .i64 v) rfl
    have kc7 := B0.cell (j := 7) (v := .string sd) rfl
    have kc8 := B0.cell (j := 8) (v := .string sp) rfl
    have kc9 := B0.cell (j := 9) (v := .int .i64 z) rfl
    have e0 := D0.cell (j := 0) (v := .slice p2 n2 c2) rfl
    have e1 := D0.cell (j := 1) (v := .slice q2 m2 d2) rfl
    have e2 := D0.cell (j := 2) (v := .slice a2 l2 b2) rfl
    have e3 := D0.cell (j := 3) (v := .int .i64 x) rfl
    have e4 := D0.cell (j := 4) (v := .int .i64 s) rfl
    have e5 := D0.cell (j := 5) (v := .int .i64 u) rfl
    have e6 := D0.cell (j := 6) (v := .int .i64 v) rfl
    have e7 := D0.cell (j := 7) (v := .string sd) rfl
    have e8 := D0.cell (j := 8) (v := .string sp) rfl
    have e9 := D0.cell (j := 9) (v := .int .i64 z) rfl
    have tP := hP.fr (F.drew' 1); have tW := hW.fr (F.drew' 1); have tX := hX.fr (F.drew' 1)
    go_upto_region 10 with fail
    go_region_held3 (fun w' => w'.cell? ⟨w4.heap.size, 0, none⟩ = some (.slice p2 n2 c2) ∧ w'.cell? ⟨w4.heap.size, 1, none⟩ = some (.slice q2 m2 d2) ∧ w'.cell? ⟨w4.heap.size, 2, none⟩ = some (.slice a2 l2 b2) ∧ w'.cell? ⟨w4.heap.size, 3, none⟩ = some (.int .i64 x) ∧ w'.cell? ⟨w4.heap.size, 4, none⟩ = some (.int .i64 s) ∧ w'.cell? ⟨w4.heap.size, 5, none⟩ = some (.int .i64 u) ∧ w'.cell? ⟨w4.heap.size, 6, none⟩ = some (.int .i64 v) ∧ w'.cell? ⟨w4.heap.size, 7, none⟩ = some (.string sd) ∧ w'.cell? ⟨w4.heap.size, 8, none⟩ = some (.string sp) ∧ w'.cell? ⟨w4.heap.size, 9, none⟩ = some (.int .i64 z) ∧ w'.cell? ⟨w.heap.size, 0, none⟩ = some (.slice p n c) ∧ w'.cell? ⟨w.heap.size, 1, none⟩ = some (.slice q m d) ∧ w'.cell? ⟨w.heap.size, 2, none⟩ = some (.slice a l b) ∧ w'.cell? ⟨w.heap.size, 3, none⟩ = some (.int .i64 x) ∧ w'.cell? ⟨w.heap.size, 4, none⟩ = some (.int .i64 s) ∧ w'.cell? ⟨w.heap.size, 5, none⟩ = some (.int .i64 u) ∧ w'.cell? ⟨w.heap.size, 6, none⟩ = some (.int .i64 v) ∧ w'.cell? ⟨w.heap.size, 7, none⟩ = some (.string sd) ∧ w'.cell? ⟨w.heap.size, 8, none⟩ = some (.string sp) ∧ w'.cell? ⟨w.heap.size, 9, none⟩ = some (.int .i64 z))
      (first | go_keep | (exact ⟨f7.keep (f6.keep e0), f7.keep (f6.keep e1), f7.keep (f6.keep e2), f7.keep (f6.keep e3), f7.keep (f6.keep e4), f7.keep (f6.keep e5), f7.keep (f6.keep e6), f7.keep (f6.keep e7), f7.keep (f6.keep e8), f7.keep (f6.keep e9), f7.keep (f6.keep kc0), f7.keep (f6.keep kc1), f7.keep (f6.keep kc2), f7.keep (f6.keep kc3), f7.keep (f6.keep kc4), f7.keep (f6.keep kc5), f7.keep (f6.keep kc6), f7.keep (f6.keep kc7), f7.keep (f6.keep kc8), f7.keep (f6.keep kc9)⟩) | (exact ⟨f6.keep e0, f6.keep e1, f6.keep e2, f6.keep e3, f6.keep e4, f6.keep e5, f6.keep e6, f6.keep e7, f6.keep e8, f6.keep e9, f6.keep kc0, f6.keep kc1, f6.keep kc2, f6.keep kc3, f6.keep kc4, f6.keep kc5, f6.keep kc6, f6.keep kc7, f6.keep kc8, f6.keep kc9⟩))
      (first
        | (go_at_call 40; refine (toConsole_any _ _ _ _ _ _ _ _ _ _ _ _ _ x s u v sd sp z tP tW tX (by omega) (by omega) (by omega)).mono ?_; rintro e w6 ⟨p3, n3, c3, q3, m3, d3, a3, l3, b3, M3, N3, rfl, o3, r3, s3, W1, W2, k1, k2, k3, f6, j4, j5, j6⟩)
        | (go_at_call 42; refine (eqConsole_same _ _ _ _ _ _ _ _ _ _ _ _ _ _ _ _ _ _ _ _ _ _ x s u v sd sp z ((o2.drewN 1).fr f6).sl ((r2.drewN 1).fr f6).sl ((s2.drewN 1).fr f6).sl o3.sl r3.sl s3.sl).mono ?_; rintro e w7 ⟨rfl, f7⟩))
    clear kc0 kc1 kc2 kc3 kc4 kc5 kc6 kc7 kc8 kc9
    clear e0 e1 e2 e3 e4 e5 e6 e7 e8 e9
    go_wp2
    go_ret
    exact ⟨rfl, ((F.drew' 1).trans f6).trans f7⟩
end Go.Proofs.YtolnloeapbplkaaDoor
