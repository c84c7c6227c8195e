import Derived.Test.YtolnloeapbplkaaRec
/- Contracts of records: the reference's, and the law's own functions. -/
set_option linter.unusedVariables false
namespace Go.Proofs.Ytolnloeapbplkaa
open Go.ChangeShapes Go.WideShapes Go.ChangeAt Go.RowKit

theorem recB_spec (c r : List UInt8) : recB (c, r) = (!c.isEmpty && (bytB c 160 && (!decide ((64 : UInt8) ∈ c) && bytB r 200))) := by
  rw [bytB_rep, recB]
  cases hr : repB r
  · simp
  · rw [Bool.and_true, Bool.and_true, Bool.eq_iff_iff, cmdB_iff, bytB]
    simp only [Bool.and_eq_true, Bool.not_eq_true', List.isEmpty_eq_false_iff, decide_eq_true_eq, decide_eq_false_iff_not, List.all_eq_true, bne_iff_ne, ne_eq]
    constructor
    · rintro ⟨h1, h2, h3⟩
      exact ⟨h1, ⟨fun x hx => ⟨(h3 x hx).1, (h3 x hx).2.1⟩, by omega⟩, fun hm => (h3 64 hm).2.2 rfl⟩
    · rintro ⟨h1, ⟨h2, h3⟩, h4⟩
      exact ⟨h1, by omega, fun x hx => ⟨(h2 x hx).1, (h2 x hx).2, fun e => h4 (e ▸ hx)⟩⟩

theorem l12Record_any (s t : ByteArray) (w : World) (hs : s.size ≤ 9223372036854775807) (ht : t.size ≤ 9223372036854775807) :
    Calls Try.prog 18 #[.agg #[.string s, .string t]] w fun e w' => e = .returned (.bool (recB (bl s, bl t))) ∧ Fr w w' := by
  have hfr : Fr w (w.alloc (.cells #[.string s, .string t] 26)) := (Fr.refl w).alloc _
  have HR := Lib.hid (recB_spec (bl s) (bl t))
  by_cases h0 : s.size = 0
  · have HV : Hid (recB (bl s, bl t) = false) := Lib.hid (by rw [HR.out, (bl_empty s).2 h0]; rfl)
    have h1 := toList_empty h0
    have h2 : s.toList.isEmpty = true := by rw [h1]; rfl
    clear h0
    go_enter Try.func18, Try.ntmps18
    go_wp2
    go_ret
    exact ⟨by rw [HV.out]; rfl, hfr⟩
  · have HE : Hid ((bl s).isEmpty = false) := Lib.hid (by rw [List.isEmpty_eq_false_iff]; exact fun e => h0 ((bl_empty s).1 e))
    have h2 := toList_ne h0
    have h3 : ¬ s.toList = [] := fun e => by rw [e] at h2; cases h2
    clear h0
    cases a1 : bytB (bl s) 160 <;> cases a2 : decide ((64 : UInt8) ∈ bl s) <;> cases a3 : bytB (bl t) 200
    all_goals
      have HV := Lib.hid (show recB (bl s, bl t) = _ from by rw [HR.out, HE.out, a1, a2, a3])
      have A2 : (64 : Nat) = (64 : UInt8).toNat := rfl
      go_enter Try.func18, Try.ntmps18
      go_wp2_with (first
        | (go_at_call 35; refine (l12Bytes_any _ _ _ (by assumption)).mono ?_; rintro e w' ⟨rfl, rfl⟩)
        | (go_at_call 36; refine (l1Stands_any _ 64 _ (by assumption)).mono ?_; rintro e w' ⟨rfl, rfl⟩))
      go_ret
      exact ⟨by rw [HV.out]; rfl, hfr⟩

theorem spec_IsValidRecord_any (s t : ByteArray) (w : World) (hs : s.size ≤ 9223372036854775807) (ht : t.size ≤ 9223372036854775807) :
    Calls Try.prog 6 #[.agg #[.string s, .string t]] w fun e w' => e = .returned (.bool (recB (bl s, bl t))) ∧ Fr w w' := by
  have hfr : Fr w (w.alloc (.cells #[.string s, .string t] 26)) := (Fr.refl w).alloc _
  go_enter Try.func6, Try.ntmps6
  go_wp2_with fail
  refine (l12Record_any s t _ hs ht).mono ?_
  rintro e w1 ⟨rfl, f1⟩
  go_wp2
  go_ret
  exact ⟨rfl, hfr.trans f1⟩

def szR (n m : Nat) (l : Int) : Int := if l - n < 0 then -1 else if l - n - m < 0 then -1 else l - n - m
theorem szR_fit {n m : Nat} {l : Int} (h : ¬ szR n m l < 0) : (n : Int) ≤ l ∧ (n : Int) + m ≤ l ∧ szR n m l = l - n - m := by
  unfold szR at h ⊢
  by_cases h1 : l - (n : Int) < 0
  · rw [if_pos h1] at h; simp at h
  · rw [if_neg h1] at h ⊢
    by_cases h2 : l - (n : Int) - m < 0
    · rw [if_pos h2] at h; simp at h
    · rw [if_neg h2]; omega
theorem szLogRecord_any (s t : ByteArray) (l : Int) (w : World) (hs : s.size ≤ 9223372036854775807) (ht : t.size ≤ 9223372036854775807) (h0 : 0 ≤ l) (h1 : l ≤ 1048576) :
    Calls Try.prog 5 #[.agg #[.string s, .string t], .int .i64 l] w fun e w' => e = .returned (.int .i64 (szR s.size t.size l)) ∧ Fr w w' := by
  have hfr : Fr w (w.alloc (.cells #[.string s, .string t] 23)) := (Fr.refl w).alloc _
  by_cases a1 : l - (s.size : Int) < 0
  · have HV : Hid (szR s.size t.size l = -1) := Lib.hid (by rw [szR, if_pos a1])
    go_enter Try.func5, Try.ntmps5
    go_wp2
    go_ret
    exact ⟨by rw [HV.out]; rfl, hfr⟩
  · by_cases a2 : l - (s.size : Int) - t.size < 0
    · have HV : Hid (szR s.size t.size l = -1) := Lib.hid (by rw [szR, if_neg a1, if_pos a2])
      go_enter Try.func5, Try.ntmps5
      go_wp2
      go_ret
      exact ⟨by rw [HV.out]; rfl, hfr⟩
    · have HV : Hid (szR s.size t.size l = l - (s.size : Int) - t.size) := Lib.hid (by rw [szR, if_neg a1, if_neg a2])
      go_enter Try.func5, Try.ntmps5
      go_wp2
      go_ret
      exact ⟨by rw [HV.out]; rfl, hfr⟩

theorem results_R {fn : Func} {k : Nat} (hr : fn.results = #[.cell k 26]) (tmps : Array Value) (w : World) (g : Nat) (v0 v1 : Value) (h : tmps[k]?.getD undef = .pointer (some ⟨g, 0, none⟩))
    (h0 : w.cell? ⟨g, 0, none⟩ = some v0) (h1 : w.cell? ⟨g, 1, none⟩ = some v1) : (results fn tmps).run Try.prog w = .ok (.agg #[v0, v1]) w := by
  simp [results, hr, go_sem, h, h0, h1]
set_option maxRecDepth 100000 in
theorem toLogRecord_any (s t : ByteArray) (w : World) :
    Calls Try.prog 7 #[.agg #[.string s, .string t]] w fun e w' => e = .returned (.agg #[.string s, .string t]) ∧ Fr w w' := by
  have h1 : ((w.alloc (.cells #[.string s, .string t] 23)).alloc (.cells #[.string s, .string t] 26)).heap[w.heap.size + 1]? = some (.cells #[.string s, .string t] 26 (0, 0)) := by
    have := heap_alloc_new (w.alloc (.cells #[.string s, .string t] 23)) (.cells #[.string s, .string t] 26)
    rwa [World.size_alloc] at this
  have f1 : Fr ((w.alloc (.cells #[.string s, .string t] 23)).alloc (.cells #[.string s, .string t] 26)) (((w.alloc (.cells #[.string s, .string t] 23)).alloc (.cells #[.string s, .string t] 26)).alloc (.cells #[.string s, .string t] 26)) := (Fr.refl _).alloc _
  have c0 := Lib.hid (f1.keep (cell_of_row _ (w.heap.size + 1) 0 _ _ (0, 0) h1))
  have c1 := Lib.hid (f1.keep (cell_of_row _ (w.heap.size + 1) 1 _ _ (0, 0) h1))
  clear h1 f1
  go_enter Try.func7, Try.ntmps7
  go_wp2
  refine bodyPost_ret (results_R Try.results7 _ _ (w.heap.size + 1) _ _ rfl c0.out c1.out) rfl ?_
  exact ⟨rfl, (((Fr.refl w).alloc _).alloc _).alloc _⟩

theorem walk_FnExactIsValidRecord (s t : ByteArray) (w : World) (hs : s.size ≤ maxLen) (ht : t.size ≤ maxLen) :
    Calls Try.prog 3 #[.agg #[.string s, .string t]] w fun e w' => e = .returned (.bool true) ∧ Fr w w' := by
  unfold maxLen at hs ht
  have hfr : Fr w (w.alloc (.cells #[.string s, .string t] 23)) := (Fr.refl w).alloc _
  by_cases hz : szR s.size t.size 1048576 < 0
  · go_enter Try.func3, Try.ntmps3
    go_wp2_with fail
    refine (szLogRecord_any s t _ _ (by omega) (by omega) (by omega) (by omega)).mono ?_
    rintro e w1 ⟨rfl, f1⟩
    go_wp2
    go_ret
    exact ⟨rfl, hfr.trans f1⟩
  · go_enter Try.func3, Try.ntmps3
    go_wp2_with fail
    refine (szLogRecord_any s t _ _ (by omega) (by omega) (by omega) (by omega)).mono ?_
    rintro e w1 ⟨rfl, f1⟩
    have c0 := f1.newCell (j := 0) (v := .string s) rfl; have c1 := f1.newCell (j := 1) (v := .string t) rfl
    go_wp2_with fail
    refine (toLogRecord_any s t _).mono ?_
    rintro e w2 ⟨rfl, f2⟩
    go_wp2_with fail
    refine (spec_IsValidRecord_any s t _ (by omega) (by omega)).mono ?_
    rintro e w3 ⟨rfl, f3⟩
    replace c0 := f3.keep (f2.keep c0); replace c1 := f3.keep (f2.keep c1)
    go_wp2_with fail
    refine (toLogRecord_any s t _).mono ?_
    rintro e w4 ⟨rfl, f4⟩
    go_wp2_with fail
    refine (impl_IsValidRecord_any s t _ (by omega) (by omega)).mono ?_
    rintro e w5 ⟨rfl, f5⟩
    go_wp2
    go_ret
    exact ⟨rfl, ((((hfr.trans f1).trans f2).trans f3).trans f4).trans f5⟩

end Go.Proofs.Ytolnloeapbplkaa
