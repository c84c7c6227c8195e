import Derived.Test.YtboekndojgbkfaaPlan4
import Derived.Test.YtboekndojgbkfaaTabIn
/- The walk of laws.FnExactArePotentials: the Go text returns true and writes to nothing that was there. -/
set_option linter.unusedVariables false
namespace Go.Proofs.Ytboekndojgbkfaa
open Go.ChangeShapes Go.WideShapes Go.ChangeAt Go.RowKit

theorem walk_FnExactArePotentials (p0 : Option Addr) (q0 r0 : Nat) (x0 : List Int) (p1 : Option Addr) (q1 r1 : Nat) (x1 : List Int) (p2 : Option Addr) (q2 r2 : Nat) (x2 : List Int) (p3 : Option Addr) (q3 r3 : Nat) (x3 : List Int) (p4 : Option Addr) (q4 r4 : Nat) (x4 : List (List Int)) (w : World) (s0 : SL w p0 q0 r0 x0) (s1 : SL w p1 q1 r1 x1) (s2 : SL w p2 q2 r2 x2) (s3 : SL w p3 q3 r3 x3) (s4 : SS w p4 q4 r4 x4) :
    Calls Try.prog 5 #[.slice p0 q0 r0, .slice p1 q1 r1, .slice p2 q2 r2, .slice p3 q3 r3, .slice p4 q4 r4] w fun e w' => e = .returned (.bool true) ∧ Fr w w' := by
  have hF := Fr.refl w
  by_cases hn0 : q0 ≤ 1048576
  rotate_left
  · go_enter Try.func5, Try.ntmps5
    go_wp2_with fail
    go_ret
    exact ⟨rfl, hF⟩
  by_cases hn1 : q1 ≤ 1048576
  rotate_left
  · go_enter Try.func5, Try.ntmps5
    go_wp2_with fail
    go_ret
    exact ⟨rfl, hF⟩
  by_cases hn2 : q2 ≤ 1048576
  rotate_left
  · go_enter Try.func5, Try.ntmps5
    go_wp2_with fail
    go_ret
    exact ⟨rfl, hF⟩
  by_cases hn3 : q3 ≤ 1048576
  rotate_left
  · go_enter Try.func5, Try.ntmps5
    go_wp2_with fail
    go_ret
    exact ⟨rfl, hF⟩
  by_cases hn4 : szSS x4 1048576 < 0
  · go_enter Try.func5, Try.ntmps5
    go_wp2_with fail
    refine (szIntSS_any _ _ _ _ _ _ (s4.fr hF) (by omega) (by omega)).mono ?_
    rintro e w' ⟨rfl, fz⟩
    replace hF := hF.trans fz
    clear fz
    go_wp2_with fail
    go_ret
    exact ⟨rfl, hF⟩
  have hr4 := szSS_rng hn4 (by omega) (by omega)
  replace hn4 := szSS_fit hn4 (by omega)
  go_enter Try.func5, Try.ntmps5
  go_wp2_with fail
  refine (szIntSS_any _ _ _ _ _ _ (s4.fr hF) (by omega) (by omega)).mono ?_
  rintro e w' ⟨rfl, fz⟩
  replace hF := hF.trans fz
  clear fz
  go_wp2_with fail
  refine (toIntS_any _ _ _ _ _ (s0.fr hF) hn0).mono ?_
  rintro e w1 ⟨a1, n1, c1, rfl, o1, f1, m1⟩
  have l1 := o1.within
  have B1 := hF.size
  have z1 := f1.size
  replace hF := hF.trans f1
  clear f1
  go_wp2_with fail
  refine (toIntS_any _ _ _ _ _ (s1.fr hF) hn1).mono ?_
  rintro e w2 ⟨a2, n2, c2, rfl, o2, f2, m2⟩
  replace o1 := o1.fr f2
  have l2 := o2.within
  have B2 := hF.size
  have z2 := f2.size
  replace hF := hF.trans f2
  clear f2
  go_wp2_with fail
  refine (toIntS_any _ _ _ _ _ (s2.fr hF) hn2).mono ?_
  rintro e w3 ⟨a3, n3, c3, rfl, o3, f3, m3⟩
  replace o1 := o1.fr f3
  replace o2 := o2.fr f3
  have l3 := o3.within
  have B3 := hF.size
  have z3 := f3.size
  replace hF := hF.trans f3
  clear f3
  go_wp2_with fail
  refine (toIntS_any _ _ _ _ _ (s3.fr hF) hn3).mono ?_
  rintro e w4 ⟨a4, n4, c4, rfl, o4, f4, m4⟩
  replace o1 := o1.fr f4
  replace o2 := o2.fr f4
  replace o3 := o3.fr f4
  have l4 := o4.within
  have B4 := hF.size
  have z4 := f4.size
  replace hF := hF.trans f4
  clear f4
  go_wp2_with fail
  refine (toIntSS_any _ _ _ _ _ (s4.fr hF) hn4).mono ?_
  rintro e w5 ⟨a5, n5, c5, rfl, o5, f5, t5, m5⟩
  replace o1 := o1.fr f5
  replace o2 := o2.fr f5
  replace o3 := o3.fr f5
  replace o4 := o4.fr f5
  have B5 := hF.size
  have z5 := f5.size
  replace hF := hF.trans f5
  clear f5
  go_wp2_with fail
  refine (spec_ArePotentials_any _ _ _ _ _ _ _ _ _ _ _ _ _ _ _ _ _ _ _ _ _ o1.sl o2.sl o3.sl o4.sl o5.ss).mono ?_
  rintro e w6 ⟨rfl, f6⟩
  replace o1 := o1.fr f6
  replace o2 := o2.fr f6
  replace o3 := o3.fr f6
  replace o4 := o4.fr f6
  replace o5 := o5.fr f6
  have z6 := f6.size
  replace hF := hF.trans f6
  clear f6
  go_wp2_with fail
  refine (toIntS_any _ _ _ _ _ (s0.fr hF) hn0).mono ?_
  rintro e w7 ⟨a7, n7, c7, rfl, o7, f7, m7⟩
  replace o1 := o1.fr f7
  replace o2 := o2.fr f7
  replace o3 := o3.fr f7
  replace o4 := o4.fr f7
  replace o5 := o5.fr f7
  have l7 := o7.within
  have B7 := hF.size
  have z7 := f7.size
  replace hF := hF.trans f7
  clear f7
  go_wp2_with fail
  refine (toIntS_any _ _ _ _ _ (s1.fr hF) hn1).mono ?_
  rintro e w8 ⟨a8, n8, c8, rfl, o8, f8, m8⟩
  replace o1 := o1.fr f8
  replace o2 := o2.fr f8
  replace o3 := o3.fr f8
  replace o4 := o4.fr f8
  replace o5 := o5.fr f8
  replace o7 := o7.fr f8
  have l8 := o8.within
  have B8 := hF.size
  have z8 := f8.size
  replace hF := hF.trans f8
  clear f8
  go_wp2_with fail
  refine (toIntS_any _ _ _ _ _ (s2.fr hF) hn2).mono ?_
  rintro e w9 ⟨a9, n9, c9, rfl, o9, f9, m9⟩
  replace o1 := o1.fr f9
  replace o2 := o2.fr f9
  replace o3 := o3.fr f9
  replace o4 := o4.fr f9
  replace o5 := o5.fr f9
  replace o7 := o7.fr f9
  replace o8 := o8.fr f9
  have l9 := o9.within
  have B9 := hF.size
  have z9 := f9.size
  replace hF := hF.trans f9
  clear f9
  go_wp2_with fail
  refine (toIntS_any _ _ _ _ _ (s3.fr hF) hn3).mono ?_
  rintro e w10 ⟨a10, n10, c10, rfl, o10, f10, m10⟩
  replace o1 := o1.fr f10
  replace o2 := o2.fr f10
  replace o3 := o3.fr f10
  replace o4 := o4.fr f10
  replace o5 := o5.fr f10
  replace o7 := o7.fr f10
  replace o8 := o8.fr f10
  replace o9 := o9.fr f10
  have l10 := o10.within
  have B10 := hF.size
  have z10 := f10.size
  replace hF := hF.trans f10
  clear f10
  go_wp2_with fail
  refine (toIntSS_any _ _ _ _ _ (s4.fr hF) hn4).mono ?_
  rintro e w11 ⟨a11, n11, c11, rfl, o11, f11, t11, m11⟩
  replace o1 := o1.fr f11
  replace o2 := o2.fr f11
  replace o3 := o3.fr f11
  replace o4 := o4.fr f11
  replace o5 := o5.fr f11
  replace o7 := o7.fr f11
  replace o8 := o8.fr f11
  replace o9 := o9.fr f11
  replace o10 := o10.fr f11
  have B11 := hF.size
  have z11 := f11.size
  replace hF := hF.trans f11
  clear f11
  go_wp2_with fail
  refine (impl_ArePotentials_any _ _ _ _ _ _ _ _ _ _ _ _ _ _ _ _ _ _ _ _ _ o7.sl o8.sl o9.sl o10.sl o11.ss).mono ?_
  rintro e w12 ⟨rfl, f12⟩
  replace o1 := o1.fr f12
  replace o2 := o2.fr f12
  replace o3 := o3.fr f12
  replace o4 := o4.fr f12
  replace o5 := o5.fr f12
  replace o7 := o7.fr f12
  replace o8 := o8.fr f12
  replace o9 := o9.fr f12
  replace o10 := o10.fr f12
  replace o11 := o11.fr f12
  have z12 := f12.size
  replace hF := hF.trans f12
  clear f12
  go_wp2_with fail
  refine (toIntS_any _ _ _ _ _ (s0.fr hF) hn0).mono ?_
  rintro e w13 ⟨a13, n13, c13, rfl, o13, f13, m13⟩
  replace o1 := o1.fr f13
  replace o2 := o2.fr f13
  replace o3 := o3.fr f13
  replace o4 := o4.fr f13
  replace o5 := o5.fr f13
  replace o7 := o7.fr f13
  replace o8 := o8.fr f13
  replace o9 := o9.fr f13
  replace o10 := o10.fr f13
  replace o11 := o11.fr f13
  have l13 := o13.within
  have B13 := hF.size
  have z13 := f13.size
  replace hF := hF.trans f13
  clear f13
  go_wp2_with fail
  refine (eqIntS_any _ _ _ _ _ _ _ _ _ o7.sl o13.sl).mono ?_
  rintro e w14 ⟨rfl, f14⟩
  replace o1 := o1.fr f14
  replace o2 := o2.fr f14
  replace o3 := o3.fr f14
  replace o4 := o4.fr f14
  replace o5 := o5.fr f14
  replace o7 := o7.fr f14
  replace o8 := o8.fr f14
  replace o9 := o9.fr f14
  replace o10 := o10.fr f14
  replace o11 := o11.fr f14
  replace o13 := o13.fr f14
  have z14 := f14.size
  replace hF := hF.trans f14
  clear f14
  go_wp2_with fail
  refine (toIntS_any _ _ _ _ _ (s1.fr hF) hn1).mono ?_
  rintro e w15 ⟨a15, n15, c15, rfl, o15, f15, m15⟩
  replace o1 := o1.fr f15
  replace o2 := o2.fr f15
  replace o3 := o3.fr f15
  replace o4 := o4.fr f15
  replace o5 := o5.fr f15
  replace o7 := o7.fr f15
  replace o8 := o8.fr f15
  replace o9 := o9.fr f15
  replace o10 := o10.fr f15
  replace o11 := o11.fr f15
  replace o13 := o13.fr f15
  have l15 := o15.within
  have B15 := hF.size
  have z15 := f15.size
  replace hF := hF.trans f15
  clear f15
  go_wp2_with fail
  refine (eqIntS_any _ _ _ _ _ _ _ _ _ o8.sl o15.sl).mono ?_
  rintro e w16 ⟨rfl, f16⟩
  replace o1 := o1.fr f16
  replace o2 := o2.fr f16
  replace o3 := o3.fr f16
  replace o4 := o4.fr f16
  replace o5 := o5.fr f16
  replace o7 := o7.fr f16
  replace o8 := o8.fr f16
  replace o9 := o9.fr f16
  replace o10 := o10.fr f16
  replace o11 := o11.fr f16
  replace o13 := o13.fr f16
  replace o15 := o15.fr f16
  have z16 := f16.size
  replace hF := hF.trans f16
  clear f16
  go_wp2_with fail
  refine (toIntS_any _ _ _ _ _ (s2.fr hF) hn2).mono ?_
  rintro e w17 ⟨a17, n17, c17, rfl, o17, f17, m17⟩
  replace o1 := o1.fr f17
  replace o2 := o2.fr f17
  replace o3 := o3.fr f17
  replace o4 := o4.fr f17
  replace o5 := o5.fr f17
  replace o7 := o7.fr f17
  replace o8 := o8.fr f17
  replace o9 := o9.fr f17
  replace o10 := o10.fr f17
  replace o11 := o11.fr f17
  replace o13 := o13.fr f17
  replace o15 := o15.fr f17
  have l17 := o17.within
  have B17 := hF.size
  have z17 := f17.size
  replace hF := hF.trans f17
  clear f17
  go_wp2_with fail
  refine (eqIntS_any _ _ _ _ _ _ _ _ _ o9.sl o17.sl).mono ?_
  rintro e w18 ⟨rfl, f18⟩
  replace o1 := o1.fr f18
  replace o2 := o2.fr f18
  replace o3 := o3.fr f18
  replace o4 := o4.fr f18
  replace o5 := o5.fr f18
  replace o7 := o7.fr f18
  replace o8 := o8.fr f18
  replace o9 := o9.fr f18
  replace o10 := o10.fr f18
  replace o11 := o11.fr f18
  replace o13 := o13.fr f18
  replace o15 := o15.fr f18
  replace o17 := o17.fr f18
  have z18 := f18.size
  replace hF := hF.trans f18
  clear f18
  go_wp2_with fail
  refine (toIntS_any _ _ _ _ _ (s3.fr hF) hn3).mono ?_
  rintro e w19 ⟨a19, n19, c19, rfl, o19, f19, m19⟩
  replace o1 := o1.fr f19
  replace o2 := o2.fr f19
  replace o3 := o3.fr f19
  replace o4 := o4.fr f19
  replace o5 := o5.fr f19
  replace o7 := o7.fr f19
  replace o8 := o8.fr f19
  replace o9 := o9.fr f19
  replace o10 := o10.fr f19
  replace o11 := o11.fr f19
  replace o13 := o13.fr f19
  replace o15 := o15.fr f19
  replace o17 := o17.fr f19
  have l19 := o19.within
  have B19 := hF.size
  have z19 := f19.size
  replace hF := hF.trans f19
  clear f19
  go_wp2_with fail
  refine (eqIntS_any _ _ _ _ _ _ _ _ _ o10.sl o19.sl).mono ?_
  rintro e w20 ⟨rfl, f20⟩
  replace o1 := o1.fr f20
  replace o2 := o2.fr f20
  replace o3 := o3.fr f20
  replace o4 := o4.fr f20
  replace o5 := o5.fr f20
  replace o7 := o7.fr f20
  replace o8 := o8.fr f20
  replace o9 := o9.fr f20
  replace o10 := o10.fr f20
  replace o11 := o11.fr f20
  replace o13 := o13.fr f20
  replace o15 := o15.fr f20
  replace o17 := o17.fr f20
  replace o19 := o19.fr f20
  have z20 := f20.size
  replace hF := hF.trans f20
  clear f20
  go_wp2_with fail
  refine (toIntSS_any _ _ _ _ _ (s4.fr hF) hn4).mono ?_
  rintro e w21 ⟨a21, n21, c21, rfl, o21, f21, t21, m21⟩
  replace o1 := o1.fr f21
  replace o2 := o2.fr f21
  replace o3 := o3.fr f21
  replace o4 := o4.fr f21
  replace o5 := o5.fr f21
  replace o7 := o7.fr f21
  replace o8 := o8.fr f21
  replace o9 := o9.fr f21
  replace o10 := o10.fr f21
  replace o11 := o11.fr f21
  replace o13 := o13.fr f21
  replace o15 := o15.fr f21
  replace o17 := o17.fr f21
  replace o19 := o19.fr f21
  have B21 := hF.size
  have z21 := f21.size
  replace hF := hF.trans f21
  clear f21
  go_wp2_with fail
  refine (eqIntSS_any _ _ _ _ _ _ _ _ _ o11.ss o21.ss).mono ?_
  rintro e w22 ⟨rfl, f22⟩
  replace o1 := o1.fr f22
  replace o2 := o2.fr f22
  replace o3 := o3.fr f22
  replace o4 := o4.fr f22
  replace o5 := o5.fr f22
  replace o7 := o7.fr f22
  replace o8 := o8.fr f22
  replace o9 := o9.fr f22
  replace o10 := o10.fr f22
  replace o11 := o11.fr f22
  replace o13 := o13.fr f22
  replace o15 := o15.fr f22
  replace o17 := o17.fr f22
  replace o19 := o19.fr f22
  replace o21 := o21.fr f22
  have z22 := f22.size
  replace hF := hF.trans f22
  clear f22
  go_wp2_with fail
  go_ret
  exact ⟨rfl, hF⟩
end Go.Proofs.Ytboekndojgbkfaa
