import Derived.Test.YtfdidelonilnmaaPurse
/- The walk of laws.FnExactPurseSpread: the Go text returns true and writes to nothing that was there. -/
set_option linter.unusedVariables false
namespace Go.Proofs.Ytfdidelonilnmaa
open Go.ChangeShapes Go.WideShapes Go.ChangeAt Go.RowKit

theorem walk_FnExactPurseSpread (a0 : Int) (a1 : Int) (a2 : Int) (a3 : Int) (a4 : Int) (a5 : Int) (w : World) (i0 : I64 a0) (i1 : I64 a1) (i2 : I64 a2) (i3 : I64 a3) (i4 : I64 a4) (i5 : I64 a5) :
    Calls Try.prog 6 #[.int .i64 a0, .int .i64 a1, .int .i64 a2, .int .i64 a3, .int .i64 a4, .int .i64 a5] w fun e w' => e = .returned (.bool true) ∧ Fr w w' := by
  have hF := Fr.refl w
  go_enter Try.func6, Try.ntmps6
  go_wp2_with fail
  refine (spec_PurseSpread_any _ _ _ _ _ _ _ i0 i1 i2 i3 i4 i5).mono ?_
  rintro e w1 ⟨a1, n1, c1, rfl, o1, f1, m1⟩
  have l1 := o1.within
  have B1 := hF.size
  have z1 := f1.size
  replace hF := hF.trans f1
  clear f1
  go_wp2_with fail
  refine (impl_PurseSpread_any _ _ _ _ _ _ _ i0 i1 i2 i3 i4 i5).mono ?_
  rintro e w2 ⟨a2, n2, c2, rfl, o2, f2, m2⟩
  replace o1 := o1.fr f2
  have l2 := o2.within
  have B2 := hF.size
  have z2 := f2.size
  replace hF := hF.trans f2
  clear f2
  go_wp2_with fail
  refine (eqIntS_any _ _ _ _ _ _ _ _ _ o2.sl o1.sl).mono ?_
  rintro e w3 ⟨rfl, f3⟩
  replace o1 := o1.fr f3
  replace o2 := o2.fr f3
  have z3 := f3.size
  replace hF := hF.trans f3
  clear f3
  go_wp2_with fail
  have y2 := o2
  refine (markIntS_any _ _ _ _ _ _ 1 o2 (by omega) (by omega) (by omega)).mono ?_
  rintro e w4 ⟨rfl, oo, g4⟩
  replace o1 := o1.skip g4 l1 l2 (by omega)
  have z4 := g4.size
  replace hF := hF.grownW g4 l2 (by omega)
  clear y2 o2 g4
  have o2 := oo
  clear oo
  go_wp2_with fail
  refine (heldIntS_any _ _ _ _ 1 o2.sl (by omega) (by omega) (by omega)).mono ?_
  rintro e w' ⟨rfl, rfl⟩
  go_wp2_with fail
  refine (impl_PurseSpread_any _ _ _ _ _ _ _ i0 i1 i2 i3 i4 i5).mono ?_
  rintro e w5 ⟨a5, n5, c5, rfl, o5, f5, m5⟩
  replace o1 := o1.fr f5
  replace o2 := o2.fr f5
  have l5 := o5.within
  have B5 := hF.size
  have z5 := f5.size
  replace hF := hF.trans f5
  clear f5
  go_wp2_with fail
  refine (eqIntS_any _ _ _ _ _ _ _ _ _ o5.sl o1.sl).mono ?_
  rintro e w6 ⟨rfl, f6⟩
  replace o1 := o1.fr f6
  replace o2 := o2.fr f6
  replace o5 := o5.fr f6
  have z6 := f6.size
  replace hF := hF.trans f6
  clear f6
  go_wp2_with fail
  refine (heldIntS_any _ _ _ _ 1 o2.sl (by omega) (by omega) (by omega)).mono ?_
  rintro e w' ⟨rfl, rfl⟩
  go_wp2_with fail
  go_ret
  exact ⟨rfl, hF⟩
end Go.Proofs.Ytfdidelonilnmaa
