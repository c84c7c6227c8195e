import Derived.Test.YtfjonnpaoeillaaShare
/- The walk of laws.FnExactBestShare: the Go text returns true and writes to nothing that was there. -/
set_option linter.unusedVariables false
namespace Go.Proofs.Ytfjonnpaoeillaa
open Go.ChangeShapes Go.WideShapes Go.ChangeAt Go.RowKit

theorem walk_FnExactBestShare (a0 : Int) (a1 : Int) (a2 : Int) (a3 : Int) (a4 : Int) (w : World) (i0 : I64 a0) (i1 : I64 a1) (i2 : I64 a2) (i3 : I64 a3) (i4 : I64 a4) :
    Calls Try.prog 5 #[.int .i64 a0, .int .i64 a1, .int .i64 a2, .int .i64 a3, .int .i64 a4] w fun e w' => e = .returned (.bool true) ∧ Fr w w' := by
  have hF := Fr.refl w
  go_enter Try.func5, Try.ntmps5
  go_wp2_with fail
  refine (spec_BestShare_any _ _ _ _ _ _ i0 i1 i2 i3 i4).mono ?_
  rintro e w1 ⟨rfl, f1⟩
  have z1 := f1.size
  replace hF := hF.trans f1
  clear f1
  go_wp2_with fail
  refine (impl_BestShare_any _ _ _ _ _ _ i0 i1 i2 i3 i4).mono ?_
  rintro e w2 ⟨rfl, f2⟩
  have z2 := f2.size
  replace hF := hF.trans f2
  clear f2
  go_wp2_with fail
  go_ret
  exact ⟨rfl, hF⟩
end Go.Proofs.Ytfjonnpaoeillaa
