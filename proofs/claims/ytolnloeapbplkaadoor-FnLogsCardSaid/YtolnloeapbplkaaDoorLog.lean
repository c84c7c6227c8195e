import Derived.Test.YtolnloeapbplkaaDoorVal
/- Contracts of the laws' helpers for logs; the law FnExactIsValidLog. -/
set_option linter.unusedVariables false
namespace Go.Proofs.YtolnloeapbplkaaDoor
open Go.ChangeShapes Go.WideShapes Go.ChangeAt Go.RowKit

theorem Box.set3 {w : World} {g : Nat} {t : TypeId} {z0 z1 z2 : Value} (h : Box w g #[z0, z1, z2] t) (v0 v1 v2 : Value) : Box (((w.setCell ⟨g, 0, none⟩ v0).setCell ⟨g, 1, none⟩ v1).setCell ⟨g, 2, none⟩ v2) g #[v0, v1, v2] t := by
  have E := ((h.set 0 v0).set 1 v1).set 2 v2
  simpa only [List.setIfInBounds_toArray, List.set_cons_zero, List.set_cons_succ] using E
theorem Fr.set3 {w0 w : World} {g : Nat} (h : Fr w0 w) (hg : w0.heap.size ≤ g) (v0 v1 v2 : Value) : Fr w0 (((w.setCell ⟨g, 0, none⟩ v0).setCell ⟨g, 1, none⟩ v1).setCell ⟨g, 2, none⟩ v2) := by
  iterate 3 refine Fr.setCell ?_ (by dsimp only; omega) _
  exact h
theorem results_L {fn : Func} {k : Nat} (hr : fn.results = #[.cell k 33]) (tmps : Array Value) (w : World) (g : Nat) (v0 v1 v2 : Value) (h : tmps[k]?.getD undef = .pointer (some ⟨g, 0, none⟩))
    (hB : Box w g #[v0, v1, v2] 33) : (results fn tmps).run Tryd.prog w = .ok (.agg #[v0, v1, v2]) w := by
  have h0 := hB.cell (j := 0) (v := v0) rfl
  have h1 := hB.cell (j := 1) (v := v1) rfl
  have h2 := hB.cell (j := 2) (v := v2) rfl
  simp [results, hr, go_sem, h, h0, h1, h2]
theorem szLog_any (s t : ByteArray) (k : Int) (l : Int) (w : World) (hs : s.size ≤ 9223372036854775807) (ht : t.size ≤ 9223372036854775807) (h0 : 0 ≤ l) (h1 : l ≤ 1048576) :
    Calls Tryd.prog 46 #[.agg #[.string s, .string t, .int .i64 k], .int .i64 l] w fun e w' => e = .returned (.int .i64 (szR s.size t.size l)) ∧ Fr w w' := by
  have hfr : Fr w (w.alloc (.cells #[.string s, .string t, .int .i64 k] 57)) := (Fr.refl w).alloc _
  by_cases a1 : l - (s.size : Int) < 0
  · have HV : Hid (szR s.size t.size l = -1) := Lib.hid (by rw [szR, if_pos a1])
    go_enter Tryd.func46, Tryd.ntmps46
    go_wp2
    go_ret
    exact ⟨by rw [HV.out]; rfl, hfr⟩
  · by_cases a2 : l - (s.size : Int) - t.size < 0
    · have HV : Hid (szR s.size t.size l = -1) := Lib.hid (by rw [szR, if_neg a1, if_pos a2])
      go_enter Tryd.func46, Tryd.ntmps46
      go_wp2
      go_ret
      exact ⟨by rw [HV.out]; rfl, hfr⟩
    · have HV : Hid (szR s.size t.size l = l - (s.size : Int) - t.size) := Lib.hid (by rw [szR, if_neg a1, if_neg a2])
      go_enter Tryd.func46, Tryd.ntmps46
      go_wp2
      go_ret
      exact ⟨by rw [HV.out]; rfl, hfr⟩

set_option maxRecDepth 100000 in
theorem toLog_any (s t : ByteArray) (k : Int) (w : World) :
    Calls Tryd.prog 47 #[.agg #[.string s, .string t, .int .i64 k]] w fun e w' => e = .returned (.agg #[.string s, .string t, .int .i64 k]) ∧ Fr w w' := by
  have B0 := Box.new (w.alloc (.cells #[.string s, .string t, .int .i64 k] 57)) #[.string s, .string t, .int .i64 k] 33
  rw [show (w.alloc (.cells #[.string s, .string t, .int .i64 k] 57)).heap.size = w.heap.size + 1 by simp] at B0
  have B1 := Lib.hid (B0.fr ((Fr.refl _).alloc (.cells #[.string s, .string t, .int .i64 k] 33)))
  clear B0
  go_enter Tryd.func47, Tryd.ntmps47
  go_wp2
  refine bodyPost_ret (results_L Tryd.results47 _ _ (w.heap.size + 1) _ _ _ rfl B1.out) rfl ?_
  exact ⟨rfl, (((Fr.refl w).alloc _).alloc _).alloc _⟩
theorem eqLog_any (s t s' t' : ByteArray) (k k' : Int) (w : World) :
    Calls Tryd.prog 45 #[.agg #[.string s, .string t, .int .i64 k], .agg #[.string s', .string t', .int .i64 k']] w fun e w' => e = .returned (.bool ((bl s == bl s') && ((bl t == bl t') && (k == k')))) ∧ Fr w w' := by
  have hfr : Fr w ((w.alloc (.cells #[.string s, .string t, .int .i64 k] 33)).alloc (.cells #[.string s', .string t', .int .i64 k'] 33)) := ((Fr.refl w).alloc _).alloc _
  cases h1 : (bl s == bl s')
  · have hb : (!(s.toList == s'.toList)) = true := by rw [str_eq, h1]; rfl
    clear h1
    go_enter Tryd.func45, Tryd.ntmps45
    go_wp2
    go_ret
    exact ⟨rfl, hfr⟩
  · have hb : (s.toList == s'.toList) = true := by rw [str_eq, h1]
    have hb2 : (s.toList != s'.toList) = false := by rw [bne, hb]; rfl
    cases h2 : (bl t == bl t')
    · have hc : (!(t.toList == t'.toList)) = true := by rw [str_eq, h2]; rfl
      clear h1 h2
      go_enter Tryd.func45, Tryd.ntmps45
      go_wp2
      go_ret
      exact ⟨rfl, hfr⟩
    · have hc : (t.toList == t'.toList) = true := by rw [str_eq, h2]
      have hc2 : (t.toList != t'.toList) = false := by rw [bne, hc]; rfl
      cases h3 : (k == k')
      · have hd : k ≠ k' := by simpa using h3
        clear h1 h2
        go_enter Tryd.func45, Tryd.ntmps45
        go_wp2
        go_ret
        exact ⟨rfl, hfr⟩
      · have hd : k = k' := by simpa using h3
        subst hd
        clear h1 h2 h3
        go_enter Tryd.func45, Tryd.ntmps45
        go_wp2
        go_ret
        exact ⟨rfl, hfr⟩
theorem walk_FnExactIsValidLog (s t : ByteArray) (k : Int) (w : World) (hE : Env w) (hs : s.size ≤ maxLen) (ht : t.size ≤ maxLen) (hk : I64 k) :
    Calls Tryd.prog 8 #[.agg #[.string s, .string t, .int .i64 k]] w fun e w' => e = .returned (.bool true) ∧ Fr w w' := by
  unfold maxLen at hs ht
  have hfr : Fr w (w.alloc (.cells #[.string s, .string t, .int .i64 k] 57)) := (Fr.refl w).alloc _
  have B0 := Box.new w #[.string s, .string t, .int .i64 k] 57
  by_cases hz : szR s.size t.size 1048576 < 0
  · go_enter Tryd.func8, Tryd.ntmps8
    go_wp2_with fail
    refine (szLog_any s t k _ _ (by omega) (by omega) (by omega) (by omega)).mono ?_
    rintro e w1 ⟨rfl, f1⟩
    go_wp2
    go_ret
    exact ⟨rfl, hfr.trans f1⟩
  · obtain ⟨z1, z2, _⟩ := szR_fit hz
    have z3 : s.size + t.size ≤ 1048576 := by omega
    go_enter Tryd.func8, Tryd.ntmps8
    go_wp2_with fail
    refine (szLog_any s t k _ _ (by omega) (by omega) (by omega) (by omega)).mono ?_
    rintro e w1 ⟨rfl, f1⟩
    replace B0 := B0.fr f1
    have F1 := hfr.trans f1
    clear f1
    have c0 := B0.cell (j := 0) (v := .string s) rfl; have c1 := B0.cell (j := 1) (v := .string t) rfl; have c2 := B0.cell (j := 2) (v := .int .i64 k) rfl
    go_wp2_with fail
    refine (toLog_any s t k _).mono ?_
    rintro e w2 ⟨rfl, f2⟩
    go_wp2_with fail
    refine (spec_IsValidLog_any s t k _ z3).mono ?_
    rintro e w3 ⟨rfl, f3⟩
    replace B0 := (B0.fr f2).fr f3
    have F3 := (F1.trans f2).trans f3
    clear f2 f3 c0 c1 c2 F1
    have c0 := B0.cell (j := 0) (v := .string s) rfl; have c1 := B0.cell (j := 1) (v := .string t) rfl; have c2 := B0.cell (j := 2) (v := .int .i64 k) rfl
    go_wp2_with fail
    refine (toLog_any s t k _).mono ?_
    rintro e w4 ⟨rfl, f4⟩
    go_wp2_with fail
    refine (IsValidLog_any s t k _ z3 (hE.fr (F3.trans f4))).mono ?_
    rintro e w5 ⟨rfl, f5⟩
    go_wp2
    go_ret
    exact ⟨rfl, (F3.trans f4).trans f5⟩

end Go.Proofs.YtolnloeapbplkaaDoor
