import Derived.Test.YtfdidelonilnmaaLoss
/- The walk of laws.FnExactStakeLoss: the Go text returns true and writes to nothing that was there. -/
set_option linter.unusedVariables false
namespace Go.Proofs.Ytfdidelonilnmaa
open Go.ChangeShapes Go.WideShapes Go.ChangeAt Go.RowKit

theorem walk_FnExactStakeLoss (p0 : Option Addr) (q0 r0 : Nat) (x0 : List Int) (a1 : Int) (a2 : Int) (a3 : Int) (a4 : Int) (a5 : Int) (w : World) (s0 : SL w p0 q0 r0 x0) (i1 : I64 a1) (i2 : I64 a2) (i3 : I64 a3) (i4 : I64 a4) (i5 : I64 a5) :
    Calls Try.prog 9 #[.slice p0 q0 r0, .int .i64 a1, .int .i64 a2, .int .i64 a3, .int .i64 a4, .int .i64 a5] w fun e w' => e = .returned (.bool true) ∧ Fr w w' := by
  have hF := Fr.refl w
  by_cases hn0 : q0 ≤ 1048576
  rotate_left
  · go_enter Try.func9, Try.ntmps9
    go_wp2_with fail
    go_ret
    exact ⟨rfl, hF⟩
  go_enter Try.func9, Try.ntmps9
  go_wp2_with fail
  refine (toIntS_any _ _ _ _ _ (s0.fr hF) hn0).mono ?_
  rintro e w1 ⟨a1, n1, c1, rfl, o1, f1, m1⟩
  have l1 := o1.within
  have B1 := hF.size
  have z1 := f1.size
  replace hF := hF.trans f1
  clear f1
  go_wp2_with fail
  refine (spec_StakeLoss_any _ _ _ _ _ _ _ _ _ _ o1.sl i1 i2 i3 i4 i5).mono ?_
  rintro e w2 ⟨rfl, f2⟩
  replace o1 := o1.fr f2
  have z2 := f2.size
  replace hF := hF.trans f2
  clear f2
  go_wp2_with fail
  refine (toIntS_any _ _ _ _ _ (s0.fr hF) hn0).mono ?_
  rintro e w3 ⟨a3, n3, c3, rfl, o3, f3, m3⟩
  replace o1 := o1.fr f3
  have l3 := o3.within
  have B3 := hF.size
  have z3 := f3.size
  replace hF := hF.trans f3
  clear f3
  go_wp2_with fail
  refine (impl_StakeLoss_any _ _ _ _ _ _ _ _ _ _ o3.sl i1 i2 i3 i4 i5).mono ?_
  rintro e w4 ⟨rfl, f4⟩
  replace o1 := o1.fr f4
  replace o3 := o3.fr f4
  have z4 := f4.size
  replace hF := hF.trans f4
  clear f4
  go_wp2_with fail
  refine (toIntS_any _ _ _ _ _ (s0.fr hF) hn0).mono ?_
  rintro e w5 ⟨a5, n5, c5, rfl, o5, f5, m5⟩
  replace o1 := o1.fr f5
  replace o3 := o3.fr f5
  have l5 := o5.within
  have B5 := hF.size
  have z5 := f5.size
  replace hF := hF.trans f5
  clear f5
  go_wp2_with fail
  refine (eqIntS_any _ _ _ _ _ _ _ _ _ o3.sl o5.sl).mono ?_
  rintro e w6 ⟨rfl, f6⟩
  replace o1 := o1.fr f6
  replace o3 := o3.fr f6
  replace o5 := o5.fr f6
  have z6 := f6.size
  replace hF := hF.trans f6
  clear f6
  go_wp2_with fail
  go_ret
  exact ⟨rfl, hF⟩
end Go.Proofs.Ytfdidelonilnmaa
