import Derived.Test.YtolnloeapbplkaaDoorLog2
/- The laws FnExactSyncLog and FnExactRecoverLog. -/
set_option linter.unusedVariables false
namespace Go.Proofs.YtolnloeapbplkaaDoor
open Go.ChangeShapes Go.WideShapes Go.ChangeAt Go.RowKit

theorem eqLog_same (s t : ByteArray) (k : Int) (w : World) :
    Calls Tryd.prog 45 #[.agg #[.string s, .string t, .int .i64 k], .agg #[.string s, .string t, .int .i64 k]] w fun e w' => e = .returned (.bool true) ∧ Fr w w' := by
  have h := eqLog_any s t s t k k w
  simpa using h
set_option maxRecDepth 100000 in
theorem walk_FnExactSyncLog (s t : ByteArray) (k : Int) (w : World) (hE : Env w) (hs : s.size ≤ maxLen) (ht : t.size ≤ maxLen) (hk : I64 k) :
    Calls Tryd.prog 10 #[.agg #[.string s, .string t, .int .i64 k]] w fun e w' => e = .returned (.bool true) ∧ Fr w w' := by
  unfold maxLen at hs ht
  have hfr : Fr w (w.alloc (.cells #[.string s, .string t, .int .i64 k] 57)) := (Fr.refl w).alloc _
  have B0 := Box.new w #[.string s, .string t, .int .i64 k] 57
  by_cases hz : szR s.size t.size 1048576 < 0
  · go_enter Tryd.func10, Tryd.ntmps10
    go_wp2_with fail
    refine (szLog_any s t k _ _ (by omega) (by omega) (by omega) (by omega)).mono ?_
    rintro e w1 ⟨rfl, f1⟩
    go_wp2
    go_ret
    exact ⟨rfl, hfr.trans f1⟩
  · obtain ⟨z1, z2, _⟩ := szR_fit hz
    have z3 : s.size + t.size ≤ 1048576 := by omega
    go_enter Tryd.func10, Tryd.ntmps10
    go_wp2_with fail
    refine (szLog_any s t k _ _ (by omega) (by omega) (by omega) (by omega)).mono ?_
    rintro e w1 ⟨rfl, f1⟩
    replace B0 := B0.fr f1
    have F1 := hfr.trans f1
    clear f1
    have c0 := B0.cell (j := 0) (v := .string s) rfl; have c1 := B0.cell (j := 1) (v := .string t) rfl; have c2 := B0.cell (j := 2) (v := .int .i64 k) rfl
    go_wp2_with fail
    refine (toLog_any s t k _).mono ?_
    rintro e w2 ⟨rfl, f2⟩
    go_wp2_with fail
    refine (spec_SyncLog_any s t k _ z3 (hE.fr (F1.trans f2))).mono ?_
    rintro e w3 ⟨rfl, f3⟩
    have HIM := Lib.hid (fun W (h : Env W) => impl_SyncLog_any s t k W z3 h)
    generalize (syncV s t k).1 = x at HIM ⊢
    generalize (syncV s t k).2 = y at HIM ⊢
    generalize logB (bl s) (bl t) k = b at HIM ⊢
    have D0 := Box.new w3 #[.string x, .string e0, .int .i64 y] 33
    have f4 : Fr w3 (w3.alloc (.cells #[.string x, .string e0, .int .i64 y] 33)) := (Fr.refl w3).alloc _
    replace B0 := ((B0.fr f2).fr f3).fr f4
    have F3 := ((F1.trans f2).trans f3).trans f4
    clear f2 f3 f4 c0 c1 c2 F1
    have c0 := B0.cell (j := 0) (v := .string s) rfl; have c1 := B0.cell (j := 1) (v := .string t) rfl; have c2 := B0.cell (j := 2) (v := .int .i64 k) rfl
    go_wp2_with fail
    refine (toLog_any s t k _).mono ?_
    rintro e w4 ⟨rfl, f4⟩
    go_wp2_with fail
    refine (HIM.out _ (hE.fr (F3.trans f4))).mono ?_
    rintro e w5 ⟨rfl, f5⟩
    have E0 := Box.new w5 #[.string x, .string e0, .int .i64 y] 33
    have f6 : Fr w5 (w5.alloc (.cells #[.string x, .string e0, .int .i64 y] 33)) := (Fr.refl w5).alloc _
    have f46 := (f4.trans f5).trans f6
    replace D0 := D0.fr f46
    have F6 := F3.trans f46
    clear f46 f6 f5 f4 c0 c1 c2 B0 HIM
    have d0 := D0.cell (j := 0) (v := .string x) rfl; have d1 := D0.cell (j := 1) (v := .string e0) rfl; have d2 := D0.cell (j := 2) (v := .int .i64 y) rfl
    have g0 := E0.cell (j := 0) (v := .string x) rfl; have g1 := E0.cell (j := 1) (v := .string e0) rfl; have g2 := E0.cell (j := 2) (v := .int .i64 y) rfl
    go_wp2_with fail
    refine (eqLog_same x e0 y _).mono ?_
    rintro e w7 ⟨rfl, f7⟩
    clear d0 d1 d2 g0 g1 g2 E0 D0
    go_wp2
    go_ret
    exact ⟨rfl, F6.trans f7⟩
set_option maxRecDepth 100000 in
theorem walk_FnExactRecoverLog (s : ByteArray) (w : World) (hE : Env w) (hs : s.size ≤ maxLen) :
    Calls Tryd.prog 7 #[.string s] w fun e w' => e = .returned (.bool true) ∧ Fr w w' := by
  unfold maxLen at hs
  by_cases hz : s.size ≤ 1048576
  · have hzi : ¬ (1048576 : Int) < (s.size : Int) := by omega
    go_enter Tryd.func7, Tryd.ntmps7
    go_wp2_with fail
    refine (spec_RecoverLog_any s _ hs).mono ?_
    rintro e w1 ⟨rfl, f1⟩
    have HR := Lib.hid (fun W => impl_RecoverLog_any s W hs)
    unfold RetRec at HR
    generalize recL s = x at HR ⊢
    generalize ((recC (bl s) : Nat) : Int) = y at HR ⊢
    generalize ((recN (bl s) : Nat) : Int) = z at HR ⊢
    generalize decide (s.size ≤ 30000) = b at HR ⊢
    have D0 := Box.new w1 #[.string x, .string e0, .int .i64 y] 33
    have f2 : Fr w1 (w1.alloc (.cells #[.string x, .string e0, .int .i64 y] 33)) := (Fr.refl w1).alloc _
    have F2 := f1.trans f2
    have HE := Lib.hid (hE.fr F2)
    go_wp2_with fail
    refine (HR.out _ HE.out).mono ?_
    rintro e w3 ⟨rfl, f3⟩
    replace D0 := D0.fr f3
    have E0 := Box.new w3 #[.string x, .string e0, .int .i64 y] 33
    have f4 : Fr w3 (w3.alloc (.cells #[.string x, .string e0, .int .i64 y] 33)) := (Fr.refl w3).alloc _
    replace D0 := D0.fr f4
    have F4 := (F2.trans f3).trans f4
    have d0 := D0.cell (j := 0) (v := .string x) rfl; have d1 := D0.cell (j := 1) (v := .string e0) rfl; have d2 := D0.cell (j := 2) (v := .int .i64 y) rfl
    have g0 := E0.cell (j := 0) (v := .string x) rfl; have g1 := E0.cell (j := 1) (v := .string e0) rfl; have g2 := E0.cell (j := 2) (v := .int .i64 y) rfl
    go_wp2_with fail
    refine (eqLog_same x e0 y _).mono ?_
    rintro e w5 ⟨rfl, f5⟩
    clear d0 d1 d2 g0 g1 g2 E0 D0 HE HR
    go_wp2
    go_ret
    exact ⟨rfl, F4.trans f5⟩
  · have hzi : (1048576 : Int) < (s.size : Int) := by omega
    go_enter Tryd.func7, Tryd.ntmps7
    go_wp2
    go_ret
    exact ⟨rfl, Fr.refl _⟩

end Go.Proofs.YtolnloeapbplkaaDoor
