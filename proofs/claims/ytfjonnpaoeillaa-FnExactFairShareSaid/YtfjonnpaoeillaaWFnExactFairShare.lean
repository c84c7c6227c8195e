import Derived.Test.YtfjonnpaoeillaaShare
/- The walk of laws.FnExactFairShare: the Go text returns true and writes to nothing that was there. -/
set_option linter.unusedVariables false
namespace Go.Proofs.Ytfjonnpaoeillaa
open Go.ChangeShapes Go.WideShapes Go.ChangeAt Go.RowKit

theorem walk_FnExactFairShare (a0 : Int) (a1 : Int) (a2 : Int) (a3 : Int) (w : World) (i0 : I64 a0) (i1 : I64 a1) (i2 : I64 a2) (i3 : I64 a3) :
    Calls Try.prog 6 #[.int .i64 a0, .int .i64 a1, .int .i64 a2, .int .i64 a3] w fun e w' => e = .returned (.bool true) ∧ Fr w w' := by
  have hF := Fr.refl w
  go_enter Try.func6, Try.ntmps6
  go_wp2_with fail
  refine (spec_FairShare_any _ _ _ _ _ i0 i1 i2 i3).mono ?_
  rintro e w1 ⟨rfl, f1⟩
  have z1 := f1.size
  replace hF := hF.trans f1
  clear f1
  go_wp2_with fail
  refine (impl_FairShare_any _ _ _ _ _ i0 i1 i2 i3).mono ?_
  rintro e w2 ⟨rfl, f2⟩
  have b10 := f2.newCell (j := 0) rfl
  have b11 := f2.newCell (j := 1) rfl
  have n1001 := f2.newSize
  have fx2 := ((Fr.refl _).alloc _).trans f2
  clear f2
  have f2 := fx2
  clear fx2
  have z2 := f2.size
  replace hF := hF.trans f2
  clear f2
  go_wp2_with fail
  refine (eqIntA2_same _ _ _).mono ?_
  rintro e w3 ⟨rfl, f3⟩
  replace b10 := f3.keepA b10
  replace b11 := f3.keepA b11
  have b20 := f3.newCell (j := 0) rfl
  have b21 := f3.newCell (j := 1) rfl
  have n1002 := f3.newSize
  have fx3 := ((Fr.refl _).alloc _).trans f3
  clear f3
  have f3 := fx3
  clear fx3
  have z3 := f3.size
  replace hF := hF.trans f3
  clear f3
  go_wp2_with fail
  go_ret
  exact ⟨rfl, hF⟩
end Go.Proofs.Ytfjonnpaoeillaa
