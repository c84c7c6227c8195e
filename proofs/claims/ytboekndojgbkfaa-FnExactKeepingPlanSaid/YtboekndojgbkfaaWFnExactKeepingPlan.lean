import Derived.Test.YtboekndojgbkfaaFill4
import Derived.Test.YtboekndojgbkfaaTabIn
/- The walk of laws.FnExactKeepingPlan: the Go text returns true and writes to nothing that was there. -/
set_option linter.unusedVariables false
namespace Go.Proofs.Ytboekndojgbkfaa
open Go.ChangeShapes Go.WideShapes Go.ChangeAt Go.RowKit

set_option maxRecDepth 100000 in
theorem walk_FnExactKeepingPlan (p0 : Option Addr) (q0 r0 : Nat) (x0 : List Int) (p1 : Option Addr) (q1 r1 : Nat) (x1 : List Int) (w : World) (s0 : SL w p0 q0 r0 x0) (s1 : SL w p1 q1 r1 x1) :
    Calls Try.prog 10 #[.slice p0 q0 r0, .slice p1 q1 r1] w fun e w' => e = .returned (.bool true) ∧ Fr w w' := by
  have hF := Fr.refl w
  by_cases hn0 : q0 ≤ 1048576
  rotate_left
  · go_enter Try.func10, Try.ntmps10
    go_wp2_with fail
    go_ret
    exact ⟨rfl, hF⟩
  by_cases hn1 : q1 ≤ 1048576
  rotate_left
  · go_enter Try.func10, Try.ntmps10
    go_wp2_with fail
    go_ret
    exact ⟨rfl, hF⟩
  go_enter Try.func10, Try.ntmps10
  go_wp2_with fail
  refine (toIntS_any _ _ _ _ _ (s0.fr hF) hn0).mono ?_
  rintro e w1 ⟨a1, n1, c1, rfl, o1, f1, m1⟩
  have l1 := o1.within
  have B1 := hF.size
  have z1 := f1.size
  replace hF := hF.trans f1
  clear f1
  go_wp2_with fail
  refine (toIntS_any _ _ _ _ _ (s1.fr hF) hn1).mono ?_
  rintro e w2 ⟨a2, n2, c2, rfl, o2, f2, m2⟩
  replace o1 := o1.fr f2
  have l2 := o2.within
  have B2 := hF.size
  have z2 := f2.size
  replace hF := hF.trans f2
  clear f2
  go_wp2_with fail
  refine (spec_KeepingPlan_any _ _ _ _ _ _ _ _ _ o1.sl o2.sl).mono ?_
  rintro e w3 ⟨a3, n3, c3, rfl, o3, f3, t3, m3⟩
  replace o1 := o1.fr f3
  replace o2 := o2.fr f3
  have B3 := hF.size
  have z3 := f3.size
  replace hF := hF.trans f3
  clear f3
  go_wp2_with fail
  refine (toIntS_any _ _ _ _ _ (s0.fr hF) hn0).mono ?_
  rintro e w4 ⟨a4, n4, c4, rfl, o4, f4, m4⟩
  replace o1 := o1.fr f4
  replace o2 := o2.fr f4
  replace o3 := o3.fr f4
  have l4 := o4.within
  have B4 := hF.size
  have z4 := f4.size
  replace hF := hF.trans f4
  clear f4
  go_wp2_with fail
  refine (toIntS_any _ _ _ _ _ (s1.fr hF) hn1).mono ?_
  rintro e w5 ⟨a5, n5, c5, rfl, o5, f5, m5⟩
  replace o1 := o1.fr f5
  replace o2 := o2.fr f5
  replace o3 := o3.fr f5
  replace o4 := o4.fr f5
  have l5 := o5.within
  have B5 := hF.size
  have z5 := f5.size
  replace hF := hF.trans f5
  clear f5
  go_wp2_with fail
  refine (impl_KeepingPlan_any _ _ _ _ _ _ _ _ _ o4.sl o5.sl).mono ?_
  rintro e w6 ⟨a6, n6, c6, rfl, o6, f6, t6, m6⟩
  replace o1 := o1.fr f6
  replace o2 := o2.fr f6
  replace o3 := o3.fr f6
  replace o4 := o4.fr f6
  replace o5 := o5.fr f6
  have B6 := hF.size
  have z6 := f6.size
  replace hF := hF.trans f6
  clear f6
  go_wp2_with fail
  refine (eqIntSS_any _ _ _ _ _ _ _ _ _ o6.ss o3.ss).mono ?_
  rintro e w7 ⟨rfl, f7⟩
  replace o1 := o1.fr f7
  replace o2 := o2.fr f7
  replace o3 := o3.fr f7
  replace o4 := o4.fr f7
  replace o5 := o5.fr f7
  replace o6 := o6.fr f7
  have z7 := f7.size
  replace hF := hF.trans f7
  clear f7
  go_wp2_with fail
  refine (toIntS_any _ _ _ _ _ (s0.fr hF) hn0).mono ?_
  rintro e w8 ⟨a8, n8, c8, rfl, o8, f8, m8⟩
  replace o1 := o1.fr f8
  replace o2 := o2.fr f8
  replace o3 := o3.fr f8
  replace o4 := o4.fr f8
  replace o5 := o5.fr f8
  replace o6 := o6.fr f8
  have l8 := o8.within
  have B8 := hF.size
  have z8 := f8.size
  replace hF := hF.trans f8
  clear f8
  go_wp2_with fail
  refine (eqIntS_any _ _ _ _ _ _ _ _ _ o4.sl o8.sl).mono ?_
  rintro e w9 ⟨rfl, f9⟩
  replace o1 := o1.fr f9
  replace o2 := o2.fr f9
  replace o3 := o3.fr f9
  replace o4 := o4.fr f9
  replace o5 := o5.fr f9
  replace o6 := o6.fr f9
  replace o8 := o8.fr f9
  have z9 := f9.size
  replace hF := hF.trans f9
  clear f9
  go_wp2_with fail
  refine (toIntS_any _ _ _ _ _ (s1.fr hF) hn1).mono ?_
  rintro e w10 ⟨a10, n10, c10, rfl, o10, f10, m10⟩
  replace o1 := o1.fr f10
  replace o2 := o2.fr f10
  replace o3 := o3.fr f10
  replace o4 := o4.fr f10
  replace o5 := o5.fr f10
  replace o6 := o6.fr f10
  replace o8 := o8.fr f10
  have l10 := o10.within
  have B10 := hF.size
  have z10 := f10.size
  replace hF := hF.trans f10
  clear f10
  go_wp2_with fail
  refine (eqIntS_any _ _ _ _ _ _ _ _ _ o5.sl o10.sl).mono ?_
  rintro e w11 ⟨rfl, f11⟩
  replace o1 := o1.fr f11
  replace o2 := o2.fr f11
  replace o3 := o3.fr f11
  replace o4 := o4.fr f11
  replace o5 := o5.fr f11
  replace o6 := o6.fr f11
  replace o8 := o8.fr f11
  replace o10 := o10.fr f11
  have z11 := f11.size
  replace hF := hF.trans f11
  clear f11
  go_wp2_with fail
  have y4 := o4
  refine (markIntS_any _ _ _ _ _ _ 1 o4 (by omega) (by omega) (by omega)).mono ?_
  rintro e w12 ⟨rfl, oo, g12⟩
  replace o1 := o1.skip g12 l1 l4 (by omega)
  replace o2 := o2.skip g12 l2 l4 (by omega)
  replace o3 := o3.skip g12 l4 (by omega)
  replace o5 := o5.skip g12 l5 l4 (by omega)
  replace o6 := o6.skip g12 l4 (by omega)
  replace o8 := o8.skip g12 l8 l4 (by omega)
  replace o10 := o10.skip g12 l10 l4 (by omega)
  have z12 := g12.size
  replace hF := hF.grownW g12 l4 (by omega)
  clear y4 o4 g12
  have o4 := oo
  clear oo
  go_wp2_with fail
  have y5 := o5
  refine (markIntS_any _ _ _ _ _ _ (1 + (n4 : Int)) o5 (by omega) (by omega) (by omega)).mono ?_
  rintro e w13 ⟨rfl, oo, g13⟩
  replace o1 := o1.skip g13 l1 l5 (by omega)
  replace o2 := o2.skip g13 l2 l5 (by omega)
  replace o3 := o3.skip g13 l5 (by omega)
  replace o4 := o4.skip g13 l4 l5 (by omega)
  replace o6 := o6.skip g13 l5 (by omega)
  replace o8 := o8.skip g13 l8 l5 (by omega)
  replace o10 := o10.skip g13 l10 l5 (by omega)
  have z13 := g13.size
  replace hF := hF.grownW g13 l5 (by omega)
  clear y5 o5 g13
  have o5 := oo
  clear oo
  go_wp2_with fail
  refine (eqIntSS_any _ _ _ _ _ _ _ _ _ o6.ss o3.ss).mono ?_
  rintro e w14 ⟨rfl, f14⟩
  replace o1 := o1.fr f14
  replace o2 := o2.fr f14
  replace o3 := o3.fr f14
  replace o4 := o4.fr f14
  replace o5 := o5.fr f14
  replace o6 := o6.fr f14
  replace o8 := o8.fr f14
  replace o10 := o10.fr f14
  have z14 := f14.size
  replace hF := hF.trans f14
  clear f14
  go_wp2_with fail
  have y6 := o6
  refine (markIntSS_any _ _ _ _ _ _ _ 1 o6 (by omega) (by omega) t6 m6).mono ?_
  rintro e w15 ⟨rfl, oo, g15⟩
  replace o1 := o1.skipSS g15 l1 (by omega)
  replace o2 := o2.skipSS g15 l2 (by omega)
  replace o3 := o3.skipIn g15 (by omega)
  replace o4 := o4.skipSS g15 l4 (by omega)
  replace o5 := o5.skipSS g15 l5 (by omega)
  replace o8 := o8.skipSS g15 l8 (by omega)
  replace o10 := o10.skipSS g15 l10 (by omega)
  have z15 := g15.size
  replace hF := hF.grownSS g15 (by omega)
  clear y6 o6 g15
  have o6 := oo
  clear oo
  go_wp2_with fail
  refine (heldIntSS_of _ _ _ _ _ 1 o6.ss (by omega) (by omega) t6).mono ?_
  rintro e w' ⟨rfl, rfl⟩
  go_wp2_with fail
  refine (toIntS_any _ _ _ _ _ (s0.fr hF) hn0).mono ?_
  rintro e w16 ⟨a16, n16, c16, rfl, o16, f16, m16⟩
  replace o1 := o1.fr f16
  replace o2 := o2.fr f16
  replace o3 := o3.fr f16
  replace o4 := o4.fr f16
  replace o5 := o5.fr f16
  replace o6 := o6.fr f16
  replace o8 := o8.fr f16
  replace o10 := o10.fr f16
  have l16 := o16.within
  have B16 := hF.size
  have z16 := f16.size
  replace hF := hF.trans f16
  clear f16
  go_wp2_with fail
  refine (toIntS_any _ _ _ _ _ (s1.fr hF) hn1).mono ?_
  rintro e w17 ⟨a17, n17, c17, rfl, o17, f17, m17⟩
  replace o1 := o1.fr f17
  replace o2 := o2.fr f17
  replace o3 := o3.fr f17
  replace o4 := o4.fr f17
  replace o5 := o5.fr f17
  replace o6 := o6.fr f17
  replace o8 := o8.fr f17
  replace o10 := o10.fr f17
  replace o16 := o16.fr f17
  have l17 := o17.within
  have B17 := hF.size
  have z17 := f17.size
  replace hF := hF.trans f17
  clear f17
  go_wp2_with fail
  refine (impl_KeepingPlan_any _ _ _ _ _ _ _ _ _ o16.sl o17.sl).mono ?_
  rintro e w18 ⟨a18, n18, c18, rfl, o18, f18, t18, m18⟩
  replace o1 := o1.fr f18
  replace o2 := o2.fr f18
  replace o3 := o3.fr f18
  replace o4 := o4.fr f18
  replace o5 := o5.fr f18
  replace o6 := o6.fr f18
  replace o8 := o8.fr f18
  replace o10 := o10.fr f18
  replace o16 := o16.fr f18
  replace o17 := o17.fr f18
  have B18 := hF.size
  have z18 := f18.size
  replace hF := hF.trans f18
  clear f18
  go_wp2_with fail
  refine (eqIntSS_any _ _ _ _ _ _ _ _ _ o18.ss o3.ss).mono ?_
  rintro e w19 ⟨rfl, f19⟩
  replace o1 := o1.fr f19
  replace o2 := o2.fr f19
  replace o3 := o3.fr f19
  replace o4 := o4.fr f19
  replace o5 := o5.fr f19
  replace o6 := o6.fr f19
  replace o8 := o8.fr f19
  replace o10 := o10.fr f19
  replace o16 := o16.fr f19
  replace o17 := o17.fr f19
  replace o18 := o18.fr f19
  have z19 := f19.size
  replace hF := hF.trans f19
  clear f19
  go_wp2_with fail
  refine (heldIntSS_of _ _ _ _ _ 1 o6.ss (by omega) (by omega) t6).mono ?_
  rintro e w' ⟨rfl, rfl⟩
  go_wp2_with fail
  go_ret
  exact ⟨rfl, hF⟩
end Go.Proofs.Ytboekndojgbkfaa
