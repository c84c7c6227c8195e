import Derived.Test.YtfjonnpaoeillaaBestSplit
/- The walk of laws.FnExactBestSplit: the Go text returns true and writes to nothing that was there. -/
set_option linter.unusedVariables false
namespace Go.Proofs.Ytfjonnpaoeillaa
open Go.ChangeShapes Go.WideShapes Go.ChangeAt Go.RowKit

theorem walk_FnExactBestSplit (p0 : Option Addr) (q0 r0 : Nat) (x0 : List Int) (a1 : Int) (w : World) (s0 : SL w p0 q0 r0 x0) (i1 : I64 a1) :
    Calls Try.prog 8 #[.slice p0 q0 r0, .int .i64 a1] w fun e w' => e = .returned (.bool true) ∧ Fr w w' := by
  have hF := Fr.refl w
  by_cases hn0 : q0 ≤ 1048576
  rotate_left
  · go_enter Try.func8, Try.ntmps8
    go_wp2_with fail
    go_ret
    exact ⟨rfl, hF⟩
  go_enter Try.func8, Try.ntmps8
  go_wp2_with fail
  refine (toIntS_any _ _ _ _ _ (s0.fr hF) hn0).mono ?_
  rintro e w1 ⟨a1, n1, c1, rfl, o1, f1, m1⟩
  have l1 := o1.within
  have B1 := hF.size
  have z1 := f1.size
  replace hF := hF.trans f1
  clear f1
  go_wp2_with fail
  refine (spec_BestSplit_any _ _ _ _ _ _ o1.sl i1).mono ?_
  rintro e w2 ⟨a2, n2, c2, rfl, o2, f2, m2⟩
  replace o1 := o1.fr f2
  have l2 := o2.within
  have B2 := hF.size
  have z2 := f2.size
  replace hF := hF.trans f2
  clear f2
  go_wp2_with fail
  refine (toIntS_any _ _ _ _ _ (s0.fr hF) hn0).mono ?_
  rintro e w3 ⟨a3, n3, c3, rfl, o3, f3, m3⟩
  replace o1 := o1.fr f3
  replace o2 := o2.fr f3
  have l3 := o3.within
  have B3 := hF.size
  have z3 := f3.size
  replace hF := hF.trans f3
  clear f3
  go_wp2_with fail
  refine (impl_BestSplit_any _ _ _ _ _ _ o3.sl i1).mono ?_
  rintro e w4 ⟨a4, n4, c4, rfl, o4, f4, m4⟩
  replace o1 := o1.fr f4
  replace o2 := o2.fr f4
  replace o3 := o3.fr f4
  have l4 := o4.within
  have B4 := hF.size
  have z4 := f4.size
  replace hF := hF.trans f4
  clear f4
  go_wp2_with fail
  refine (eqIntS_any _ _ _ _ _ _ _ _ _ o4.sl o2.sl).mono ?_
  rintro e w5 ⟨rfl, f5⟩
  replace o1 := o1.fr f5
  replace o2 := o2.fr f5
  replace o3 := o3.fr f5
  replace o4 := o4.fr f5
  have z5 := f5.size
  replace hF := hF.trans f5
  clear f5
  go_wp2_with fail
  refine (toIntS_any _ _ _ _ _ (s0.fr hF) hn0).mono ?_
  rintro e w6 ⟨a6, n6, c6, rfl, o6, f6, m6⟩
  replace o1 := o1.fr f6
  replace o2 := o2.fr f6
  replace o3 := o3.fr f6
  replace o4 := o4.fr f6
  have l6 := o6.within
  have B6 := hF.size
  have z6 := f6.size
  replace hF := hF.trans f6
  clear f6
  go_wp2_with fail
  refine (eqIntS_any _ _ _ _ _ _ _ _ _ o3.sl o6.sl).mono ?_
  rintro e w7 ⟨rfl, f7⟩
  replace o1 := o1.fr f7
  replace o2 := o2.fr f7
  replace o3 := o3.fr f7
  replace o4 := o4.fr f7
  replace o6 := o6.fr f7
  have z7 := f7.size
  replace hF := hF.trans f7
  clear f7
  go_wp2_with fail
  have y3 := o3
  refine (markIntS_any _ _ _ _ _ _ 1 o3 (by omega) (by omega) (by omega)).mono ?_
  rintro e w8 ⟨rfl, oo, g8⟩
  replace o1 := o1.skip g8 l1 l3 (by omega)
  replace o2 := o2.skip g8 l2 l3 (by omega)
  replace o4 := o4.skip g8 l4 l3 (by omega)
  replace o6 := o6.skip g8 l6 l3 (by omega)
  have z8 := g8.size
  replace hF := hF.grownW g8 l3 (by omega)
  clear y3 o3 g8
  have o3 := oo
  clear oo
  go_wp2_with fail
  refine (eqIntS_any _ _ _ _ _ _ _ _ _ o4.sl o2.sl).mono ?_
  rintro e w9 ⟨rfl, f9⟩
  replace o1 := o1.fr f9
  replace o2 := o2.fr f9
  replace o3 := o3.fr f9
  replace o4 := o4.fr f9
  replace o6 := o6.fr f9
  have z9 := f9.size
  replace hF := hF.trans f9
  clear f9
  go_wp2_with fail
  have y4 := o4
  refine (markIntS_any _ _ _ _ _ _ 1 o4 (by omega) (by omega) (by omega)).mono ?_
  rintro e w10 ⟨rfl, oo, g10⟩
  replace o1 := o1.skip g10 l1 l4 (by omega)
  replace o2 := o2.skip g10 l2 l4 (by omega)
  replace o3 := o3.skip g10 l3 l4 (by omega)
  replace o6 := o6.skip g10 l6 l4 (by omega)
  have z10 := g10.size
  replace hF := hF.grownW g10 l4 (by omega)
  clear y4 o4 g10
  have o4 := oo
  clear oo
  go_wp2_with fail
  refine (heldIntS_any _ _ _ _ 1 o4.sl (by omega) (by omega) (by omega)).mono ?_
  rintro e w' ⟨rfl, rfl⟩
  go_wp2_with fail
  refine (toIntS_any _ _ _ _ _ (s0.fr hF) hn0).mono ?_
  rintro e w11 ⟨a11, n11, c11, rfl, o11, f11, m11⟩
  replace o1 := o1.fr f11
  replace o2 := o2.fr f11
  replace o3 := o3.fr f11
  replace o4 := o4.fr f11
  replace o6 := o6.fr f11
  have l11 := o11.within
  have B11 := hF.size
  have z11 := f11.size
  replace hF := hF.trans f11
  clear f11
  go_wp2_with fail
  refine (impl_BestSplit_any _ _ _ _ _ _ o11.sl i1).mono ?_
  rintro e w12 ⟨a12, n12, c12, rfl, o12, f12, m12⟩
  replace o1 := o1.fr f12
  replace o2 := o2.fr f12
  replace o3 := o3.fr f12
  replace o4 := o4.fr f12
  replace o6 := o6.fr f12
  replace o11 := o11.fr f12
  have l12 := o12.within
  have B12 := hF.size
  have z12 := f12.size
  replace hF := hF.trans f12
  clear f12
  go_wp2_with fail
  refine (eqIntS_any _ _ _ _ _ _ _ _ _ o12.sl o2.sl).mono ?_
  rintro e w13 ⟨rfl, f13⟩
  replace o1 := o1.fr f13
  replace o2 := o2.fr f13
  replace o3 := o3.fr f13
  replace o4 := o4.fr f13
  replace o6 := o6.fr f13
  replace o11 := o11.fr f13
  replace o12 := o12.fr f13
  have z13 := f13.size
  replace hF := hF.trans f13
  clear f13
  go_wp2_with fail
  refine (heldIntS_any _ _ _ _ 1 o4.sl (by omega) (by omega) (by omega)).mono ?_
  rintro e w' ⟨rfl, rfl⟩
  go_wp2_with fail
  go_ret
  exact ⟨rfl, hF⟩
end Go.Proofs.Ytfjonnpaoeillaa
