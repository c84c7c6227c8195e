import Derived.Test.YtboekndojgbkfaaLeastI
import Derived.Test.YtboekndojgbkfaaLeastE
import Derived.Test.YtboekndojgbkfaaTabIn
/- The walk of laws.FnExactLeastCost: the Go text returns true and writes to nothing that was there. -/
set_option linter.unusedVariables false
namespace Go.Proofs.Ytboekndojgbkfaa
open Go.ChangeShapes Go.WideShapes Go.ChangeAt Go.RowKit

set_option maxRecDepth 100000 in
theorem walk_FnExactLeastCost (p0 : Option Addr) (q0 r0 : Nat) (x0 : List Int) (p1 : Option Addr) (q1 r1 : Nat) (x1 : List Int) (p2 : Option Addr) (q2 r2 : Nat) (x2 : List (List Int)) (w : World) (s0 : SL w p0 q0 r0 x0) (s1 : SL w p1 q1 r1 x1) (s2 : SS w p2 q2 r2 x2) :
    Calls Try.prog 12 #[.slice p0 q0 r0, .slice p1 q1 r1, .slice p2 q2 r2] w fun e w' => e = .returned (.bool true) ∧ Fr w w' := by
  have hF := Fr.refl w
  by_cases hn0 : q0 ≤ 1048576
  rotate_left
  · go_enter Try.func12, Try.ntmps12
    go_wp2_with fail
    go_ret
    exact ⟨rfl, hF⟩
  by_cases hn1 : q1 ≤ 1048576
  rotate_left
  · go_enter Try.func12, Try.ntmps12
    go_wp2_with fail
    go_ret
    exact ⟨rfl, hF⟩
  by_cases hn2 : szSS x2 1048576 < 0
  · go_enter Try.func12, Try.ntmps12
    go_wp2_with fail
    refine (szIntSS_any _ _ _ _ _ _ (s2.fr hF) (by omega) (by omega)).mono ?_
    rintro e w' ⟨rfl, fz⟩
    replace hF := hF.trans fz
    clear fz
    go_wp2_with fail
    go_ret
    exact ⟨rfl, hF⟩
  have hr2 := szSS_rng hn2 (by omega) (by omega)
  replace hn2 := szSS_fit hn2 (by omega)
  go_enter Try.func12, Try.ntmps12
  go_wp2_with fail
  refine (szIntSS_any _ _ _ _ _ _ (s2.fr hF) (by omega) (by omega)).mono ?_
  rintro e w' ⟨rfl, fz⟩
  replace hF := hF.trans fz
  clear fz
  go_wp2_with fail
  refine (toIntS_any _ _ _ _ _ (s0.fr hF) hn0).mono ?_
  rintro e w1 ⟨a1, n1, c1, rfl, o1, f1, m1⟩
  have l1 := o1.within
  have B1 := hF.size
  have z1 := f1.size
  replace hF := hF.trans f1
  clear f1
  go_wp2_with fail
  refine (toIntS_any _ _ _ _ _ (s1.fr hF) hn1).mono ?_
  rintro e w2 ⟨a2, n2, c2, rfl, o2, f2, m2⟩
  replace o1 := o1.fr f2
  have l2 := o2.within
  have B2 := hF.size
  have z2 := f2.size
  replace hF := hF.trans f2
  clear f2
  go_wp2_with fail
  refine (toIntSS_any _ _ _ _ _ (s2.fr hF) hn2).mono ?_
  rintro e w3 ⟨a3, n3, c3, rfl, o3, f3, t3, m3⟩
  replace o1 := o1.fr f3
  replace o2 := o2.fr f3
  have B3 := hF.size
  have z3 := f3.size
  replace hF := hF.trans f3
  clear f3
  go_wp2_with fail
  refine (spec_LeastCost_any _ _ _ _ _ _ _ _ _ _ _ _ _ o1.sl o2.sl o3.ss).mono ?_
  rintro e w4 ⟨rfl, f4⟩
  replace o1 := o1.fr f4
  replace o2 := o2.fr f4
  replace o3 := o3.fr f4
  have z4 := f4.size
  replace hF := hF.trans f4
  clear f4
  go_wp2_with fail
  refine (toIntS_any _ _ _ _ _ (s0.fr hF) hn0).mono ?_
  rintro e w5 ⟨a5, n5, c5, rfl, o5, f5, m5⟩
  replace o1 := o1.fr f5
  replace o2 := o2.fr f5
  replace o3 := o3.fr f5
  have l5 := o5.within
  have B5 := hF.size
  have z5 := f5.size
  replace hF := hF.trans f5
  clear f5
  go_wp2_with fail
  refine (toIntS_any _ _ _ _ _ (s1.fr hF) hn1).mono ?_
  rintro e w6 ⟨a6, n6, c6, rfl, o6, f6, m6⟩
  replace o1 := o1.fr f6
  replace o2 := o2.fr f6
  replace o3 := o3.fr f6
  replace o5 := o5.fr f6
  have l6 := o6.within
  have B6 := hF.size
  have z6 := f6.size
  replace hF := hF.trans f6
  clear f6
  go_wp2_with fail
  refine (toIntSS_any _ _ _ _ _ (s2.fr hF) hn2).mono ?_
  rintro e w7 ⟨a7, n7, c7, rfl, o7, f7, t7, m7⟩
  replace o1 := o1.fr f7
  replace o2 := o2.fr f7
  replace o3 := o3.fr f7
  replace o5 := o5.fr f7
  replace o6 := o6.fr f7
  have B7 := hF.size
  have z7 := f7.size
  replace hF := hF.trans f7
  clear f7
  go_wp2_with fail
  refine (impl_LeastCost_any _ _ _ _ _ _ _ _ _ _ _ _ _ o5.sl o6.sl o7.ss).mono ?_
  rintro e w8 ⟨rfl, f8⟩
  replace o1 := o1.fr f8
  replace o2 := o2.fr f8
  replace o3 := o3.fr f8
  replace o5 := o5.fr f8
  replace o6 := o6.fr f8
  replace o7 := o7.fr f8
  have z8 := f8.size
  replace hF := hF.trans f8
  clear f8
  go_wp2_with fail
  refine (toIntS_any _ _ _ _ _ (s0.fr hF) hn0).mono ?_
  rintro e w9 ⟨a9, n9, c9, rfl, o9, f9, m9⟩
  replace o1 := o1.fr f9
  replace o2 := o2.fr f9
  replace o3 := o3.fr f9
  replace o5 := o5.fr f9
  replace o6 := o6.fr f9
  replace o7 := o7.fr f9
  have l9 := o9.within
  have B9 := hF.size
  have z9 := f9.size
  replace hF := hF.trans f9
  clear f9
  go_wp2_with fail
  refine (eqIntS_any _ _ _ _ _ _ _ _ _ o5.sl o9.sl).mono ?_
  rintro e w10 ⟨rfl, f10⟩
  replace o1 := o1.fr f10
  replace o2 := o2.fr f10
  replace o3 := o3.fr f10
  replace o5 := o5.fr f10
  replace o6 := o6.fr f10
  replace o7 := o7.fr f10
  replace o9 := o9.fr f10
  have z10 := f10.size
  replace hF := hF.trans f10
  clear f10
  go_wp2_with fail
  refine (toIntS_any _ _ _ _ _ (s1.fr hF) hn1).mono ?_
  rintro e w11 ⟨a11, n11, c11, rfl, o11, f11, m11⟩
  replace o1 := o1.fr f11
  replace o2 := o2.fr f11
  replace o3 := o3.fr f11
  replace o5 := o5.fr f11
  replace o6 := o6.fr f11
  replace o7 := o7.fr f11
  replace o9 := o9.fr f11
  have l11 := o11.within
  have B11 := hF.size
  have z11 := f11.size
  replace hF := hF.trans f11
  clear f11
  go_wp2_with fail
  refine (eqIntS_any _ _ _ _ _ _ _ _ _ o6.sl o11.sl).mono ?_
  rintro e w12 ⟨rfl, f12⟩
  replace o1 := o1.fr f12
  replace o2 := o2.fr f12
  replace o3 := o3.fr f12
  replace o5 := o5.fr f12
  replace o6 := o6.fr f12
  replace o7 := o7.fr f12
  replace o9 := o9.fr f12
  replace o11 := o11.fr f12
  have z12 := f12.size
  replace hF := hF.trans f12
  clear f12
  go_wp2_with fail
  refine (toIntSS_any _ _ _ _ _ (s2.fr hF) hn2).mono ?_
  rintro e w13 ⟨a13, n13, c13, rfl, o13, f13, t13, m13⟩
  replace o1 := o1.fr f13
  replace o2 := o2.fr f13
  replace o3 := o3.fr f13
  replace o5 := o5.fr f13
  replace o6 := o6.fr f13
  replace o7 := o7.fr f13
  replace o9 := o9.fr f13
  replace o11 := o11.fr f13
  have B13 := hF.size
  have z13 := f13.size
  replace hF := hF.trans f13
  clear f13
  go_wp2_with fail
  refine (eqIntSS_any _ _ _ _ _ _ _ _ _ o7.ss o13.ss).mono ?_
  rintro e w14 ⟨rfl, f14⟩
  replace o1 := o1.fr f14
  replace o2 := o2.fr f14
  replace o3 := o3.fr f14
  replace o5 := o5.fr f14
  replace o6 := o6.fr f14
  replace o7 := o7.fr f14
  replace o9 := o9.fr f14
  replace o11 := o11.fr f14
  replace o13 := o13.fr f14
  have z14 := f14.size
  replace hF := hF.trans f14
  clear f14
  go_wp2_with fail
  go_ret
  exact ⟨rfl, hF⟩
end Go.Proofs.Ytboekndojgbkfaa
