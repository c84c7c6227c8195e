import Derived.Test.YtolnloeapbplkaaDoorLine
/- The law FnExactEncodeRecord. -/
set_option linter.unusedVariables false
namespace Go.Proofs.YtolnloeapbplkaaDoor
open Go.ChangeShapes Go.WideShapes Go.ChangeAt Go.RowKit

theorem walk_FnExactEncodeRecord (k : Int) (s t : ByteArray) (w : World) (hE : Env w) (hk : I64 k) (hs : s.size ≤ maxLen) (ht : t.size ≤ maxLen) :
    Calls Tryd.prog 6 #[.int .i64 k, .agg #[.string s, .string t]] w fun e w' => e = .returned (.bool true) ∧ Fr w w' := by
  unfold maxLen at hs ht
  have hfr : Fr w (w.alloc (.cells #[.string s, .string t] 70)) := (Fr.refl w).alloc _
  by_cases hz : szR s.size t.size 1048576 < 0
  · go_enter Tryd.func6, Tryd.ntmps6
    go_wp2_with fail
    refine (szLogRecord_any s t _ _ (by omega) (by omega) (by omega) (by omega)).mono ?_
    rintro e w1 ⟨rfl, f1⟩
    go_wp2
    go_ret
    exact ⟨rfl, hfr.trans f1⟩
  · obtain ⟨z1, z2, _⟩ := szR_fit hz
    go_enter Tryd.func6, Tryd.ntmps6
    go_wp2_with fail
    refine (szLogRecord_any s t _ _ (by omega) (by omega) (by omega) (by omega)).mono ?_
    rintro e w1 ⟨rfl, f1⟩
    have c0 := f1.newCell (j := 0) (v := .string s) rfl; have c1 := f1.newCell (j := 1) (v := .string t) rfl
    go_wp2_with fail
    refine (toLogRecord_any s t _).mono ?_
    rintro e w2 ⟨rfl, f2⟩
    go_wp2_with fail
    refine (spec_EncodeRecord_any k s t _ (by omega) (by omega)).mono ?_
    rintro e w3 ⟨rfl, f3⟩
    replace c0 := f3.keep (f2.keep c0); replace c1 := f3.keep (f2.keep c1)
    go_wp2_with fail
    refine (toLogRecord_any s t _).mono ?_
    rintro e w4 ⟨rfl, f4⟩
    go_wp2_with fail
    refine (EncodeRecord_any k s t _ (by omega) (by omega) (hE.fr ((((hfr.trans f1).trans f2).trans f3).trans f4))).mono ?_
    rintro e w5 ⟨rfl, f5⟩
    go_wp2
    go_ret
    exact ⟨rfl, ((((hfr.trans f1).trans f2).trans f3).trans f4).trans f5⟩

end Go.Proofs.YtolnloeapbplkaaDoor
