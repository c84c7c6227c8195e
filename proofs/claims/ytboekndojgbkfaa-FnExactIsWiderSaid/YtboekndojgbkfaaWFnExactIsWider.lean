import Derived.Test.YtboekndojgbkfaaPlan4
import Derived.Test.YtboekndojgbkfaaTabIn
/- The walk of laws.FnExactIsWider: the Go text returns true and writes to nothing that was there. -/
set_option linter.unusedVariables false
namespace Go.Proofs.Ytboekndojgbkfaa
open Go.ChangeShapes Go.WideShapes Go.ChangeAt Go.RowKit

theorem walk_FnExactIsWider (p0 : Option Addr) (q0 r0 : Nat) (x0 : List Int) (p1 : Option Addr) (q1 r1 : Nat) (x1 : List Int) (w : World) (s0 : SL w p0 q0 r0 x0) (s1 : SL w p1 q1 r1 x1) :
    Calls Try.prog 3 #[.slice p0 q0 r0, .slice p1 q1 r1] w fun e w' => e = .returned (.bool true) ∧ Fr w w' := by
  have hF := Fr.refl w
  by_cases hn0 : q0 ≤ 1048576
  rotate_left
  · go_enter Try.func3, Try.ntmps3
    go_wp2_with fail
    go_ret
    exact ⟨rfl, hF⟩
  by_cases hn1 : q1 ≤ 1048576
  rotate_left
  · go_enter Try.func3, Try.ntmps3
    go_wp2_with fail
    go_ret
    exact ⟨rfl, hF⟩
  go_enter Try.func3, Try.ntmps3
  go_wp2_with fail
  refine (toIntS_any _ _ _ _ _ (s0.fr hF) hn0).mono ?_
  rintro e w1 ⟨a1, n1, c1, rfl, o1, f1, m1⟩
  have l1 := o1.within
  have B1 := hF.size
  have z1 := f1.size
  replace hF := hF.trans f1
  clear f1
  go_wp2_with fail
  refine (toIntS_any _ _ _ _ _ (s1.fr hF) hn1).mono ?_
  rintro e w2 ⟨a2, n2, c2, rfl, o2, f2, m2⟩
  replace o1 := o1.fr f2
  have l2 := o2.within
  have B2 := hF.size
  have z2 := f2.size
  replace hF := hF.trans f2
  clear f2
  go_wp2_with fail
  refine (spec_IsWider_any _ _ _ _ _ _ _ _ _ o1.sl o2.sl).mono ?_
  rintro e w3 ⟨rfl, f3⟩
  replace o1 := o1.fr f3
  replace o2 := o2.fr f3
  have z3 := f3.size
  replace hF := hF.trans f3
  clear f3
  go_wp2_with fail
  refine (toIntS_any _ _ _ _ _ (s0.fr hF) hn0).mono ?_
  rintro e w4 ⟨a4, n4, c4, rfl, o4, f4, m4⟩
  replace o1 := o1.fr f4
  replace o2 := o2.fr f4
  have l4 := o4.within
  have B4 := hF.size
  have z4 := f4.size
  replace hF := hF.trans f4
  clear f4
  go_wp2_with fail
  refine (toIntS_any _ _ _ _ _ (s1.fr hF) hn1).mono ?_
  rintro e w5 ⟨a5, n5, c5, rfl, o5, f5, m5⟩
  replace o1 := o1.fr f5
  replace o2 := o2.fr f5
  replace o4 := o4.fr f5
  have l5 := o5.within
  have B5 := hF.size
  have z5 := f5.size
  replace hF := hF.trans f5
  clear f5
  go_wp2_with fail
  refine (impl_IsWider_any _ _ _ _ _ _ _ _ _ o4.sl o5.sl).mono ?_
  rintro e w6 ⟨rfl, f6⟩
  replace o1 := o1.fr f6
  replace o2 := o2.fr f6
  replace o4 := o4.fr f6
  replace o5 := o5.fr f6
  have z6 := f6.size
  replace hF := hF.trans f6
  clear f6
  go_wp2_with fail
  refine (toIntS_any _ _ _ _ _ (s0.fr hF) hn0).mono ?_
  rintro e w7 ⟨a7, n7, c7, rfl, o7, f7, m7⟩
  replace o1 := o1.fr f7
  replace o2 := o2.fr f7
  replace o4 := o4.fr f7
  replace o5 := o5.fr f7
  have l7 := o7.within
  have B7 := hF.size
  have z7 := f7.size
  replace hF := hF.trans f7
  clear f7
  go_wp2_with fail
  refine (eqIntS_any _ _ _ _ _ _ _ _ _ o4.sl o7.sl).mono ?_
  rintro e w8 ⟨rfl, f8⟩
  replace o1 := o1.fr f8
  replace o2 := o2.fr f8
  replace o4 := o4.fr f8
  replace o5 := o5.fr f8
  replace o7 := o7.fr f8
  have z8 := f8.size
  replace hF := hF.trans f8
  clear f8
  go_wp2_with fail
  refine (toIntS_any _ _ _ _ _ (s1.fr hF) hn1).mono ?_
  rintro e w9 ⟨a9, n9, c9, rfl, o9, f9, m9⟩
  replace o1 := o1.fr f9
  replace o2 := o2.fr f9
  replace o4 := o4.fr f9
  replace o5 := o5.fr f9
  replace o7 := o7.fr f9
  have l9 := o9.within
  have B9 := hF.size
  have z9 := f9.size
  replace hF := hF.trans f9
  clear f9
  go_wp2_with fail
  refine (eqIntS_any _ _ _ _ _ _ _ _ _ o5.sl o9.sl).mono ?_
  rintro e w10 ⟨rfl, f10⟩
  replace o1 := o1.fr f10
  replace o2 := o2.fr f10
  replace o4 := o4.fr f10
  replace o5 := o5.fr f10
  replace o7 := o7.fr f10
  replace o9 := o9.fr f10
  have z10 := f10.size
  replace hF := hF.trans f10
  clear f10
  go_wp2_with fail
  go_ret
  exact ⟨rfl, hF⟩
end Go.Proofs.Ytboekndojgbkfaa
