import Derived.Test.YtolnloeapbplkaaDoorRec
/- Contracts of records: the reference's, and the law's own functions. -/
set_option linter.unusedVariables false
namespace Go.Proofs.YtolnloeapbplkaaDoor
open Go.ChangeShapes Go.WideShapes Go.ChangeAt Go.RowKit

theorem recB_spec (c r : List UInt8) : recB (c, r) = (!c.isEmpty && (bytB c 160 && (!decide ((64 : UInt8) ∈ c) && bytB r 200))) := by
  rw [bytB_rep, recB]
  cases hr : repB r
  · simp
  · rw [Bool.and_true, Bool.and_true, Bool.eq_iff_iff, cmdB_iff, bytB]
    simp only [Bool.and_eq_true, Bool.not_eq_true', List.isEmpty_eq_false_iff, decide_eq_true_eq, decide_eq_false_iff_not, List.all_eq_true, bne_iff_ne, ne_eq]
    constructor
    · rintro ⟨h1, h2, h3⟩
      exact ⟨h1, ⟨fun x hx => ⟨(h3 x hx).1, (h3 x hx).2.1⟩, by omega⟩, fun hm => (h3 64 hm).2.2 rfl⟩
    · rintro ⟨h1, ⟨h2, h3⟩, h4⟩
      exact ⟨h1, by omega, fun x hx => ⟨(h2 x hx).1, (h2 x hx).2, fun e => h4 (e ▸ hx)⟩⟩

theorem l12Record_any (s t : ByteArray) (w : World) (hs : s.size ≤ 9223372036854775807) (ht : t.size ≤ 9223372036854775807) :
    Calls Tryd.prog 57 #[.agg #[.string s, .string t]] w fun e w' => e = .returned (.bool (recB (bl s, bl t))) ∧ Fr w w' := by
  have hfr : Fr w (w.alloc (.cells #[.string s, .string t] 25)) := (Fr.refl w).alloc _
  have HR := Lib.hid (recB_spec (bl s) (bl t))
  by_cases h0 : s.size = 0
  · have HV : Hid (recB (bl s, bl t) = false) := Lib.hid (by rw [HR.out, (bl_empty s).2 h0]; rfl)
    have h1 := toList_empty h0
    have h2 : s.toList.isEmpty = true := by rw [h1]; rfl
    clear h0
    go_enter Tryd.func57, Tryd.ntmps57
    go_wp2
    go_ret
    exact ⟨by rw [HV.out]; rfl, hfr⟩
  · have HE : Hid ((bl s).isEmpty = false) := Lib.hid (by rw [List.isEmpty_eq_false_iff]; exact fun e => h0 ((bl_empty s).1 e))
    have h2 := toList_ne h0
    have h3 : ¬ s.toList = [] := fun e => by rw [e] at h2; cases h2
    clear h0
    cases a1 : bytB (bl s) 160 <;> cases a2 : decide ((64 : UInt8) ∈ bl s) <;> cases a3 : bytB (bl t) 200
    all_goals
      have HV := Lib.hid (show recB (bl s, bl t) = _ from by rw [HR.out, HE.out, a1, a2, a3])
      have A2 : (64 : Nat) = (64 : UInt8).toNat := rfl
      go_enter Tryd.func57, Tryd.ntmps57
      go_wp2_with (first
        | (go_at_call 81; refine (l12Bytes_any _ _ _ (by assumption)).mono ?_; rintro e w' ⟨rfl, rfl⟩)
        | (go_at_call 82; refine (l1Stands_any _ 64 _ (by assumption)).mono ?_; rintro e w' ⟨rfl, rfl⟩))
      go_ret
      exact ⟨by rw [HV.out]; rfl, hfr⟩

theorem spec_IsValidRecord_any (s t : ByteArray) (w : World) (hs : s.size ≤ 9223372036854775807) (ht : t.size ≤ 9223372036854775807) :
    Calls Tryd.prog 24 #[.agg #[.string s, .string t]] w fun e w' => e = .returned (.bool (recB (bl s, bl t))) ∧ Fr w w' := by
  have hfr : Fr w (w.alloc (.cells #[.string s, .string t] 25)) := (Fr.refl w).alloc _
  go_enter Tryd.func24, Tryd.ntmps24
  go_wp2_with fail
  refine (l12Record_any s t _ hs ht).mono ?_
  rintro e w1 ⟨rfl, f1⟩
  go_wp2
  go_ret
  exact ⟨rfl, hfr.trans f1⟩

def szR (n m : Nat) (l : Int) : Int := if l - n < 0 then -1 else if l - n - m < 0 then -1 else l - n - m
theorem szR_fit {n m : Nat} {l : Int} (h : ¬ szR n m l < 0) : (n : Int) ≤ l ∧ (n : Int) + m ≤ l ∧ szR n m l = l - n - m := by
  unfold szR at h ⊢
  by_cases h1 : l - (n : Int) < 0
  · rw [if_pos h1] at h; simp at h
  · rw [if_neg h1] at h ⊢
    by_cases h2 : l - (n : Int) - m < 0
    · rw [if_pos h2] at h; simp at h
    · rw [if_neg h2]; omega
theorem szLogRecord_any (s t : ByteArray) (l : Int) (w : World) (hs : s.size ≤ 9223372036854775807) (ht : t.size ≤ 9223372036854775807) (h0 : 0 ≤ l) (h1 : l ≤ 1048576) :
    Calls Tryd.prog 43 #[.agg #[.string s, .string t], .int .i64 l] w fun e w' => e = .returned (.int .i64 (szR s.size t.size l)) ∧ Fr w w' := by
  have hfr : Fr w (w.alloc (.cells #[.string s, .string t] 70)) := (Fr.refl w).alloc _
  by_cases a1 : l - (s.size : Int) < 0
  · have HV : Hid (szR s.size t.size l = -1) := Lib.hid (by rw [szR, if_pos a1])
    go_enter Tryd.func43, Tryd.ntmps43
    go_wp2
    go_ret
    exact ⟨by rw [HV.out]; rfl, hfr⟩
  · by_cases a2 : l - (s.size : Int) - t.size < 0
    · have HV : Hid (szR s.size t.size l = -1) := Lib.hid (by rw [szR, if_neg a1, if_pos a2])
      go_enter Tryd.func43, Tryd.ntmps43
      go_wp2
      go_ret
      exact ⟨by rw [HV.out]; rfl, hfr⟩
    · have HV : Hid (szR s.size t.size l = l - (s.size : Int) - t.size) := Lib.hid (by rw [szR, if_neg a1, if_neg a2])
      go_enter Tryd.func43, Tryd.ntmps43
      go_wp2
      go_ret
      exact ⟨by rw [HV.out]; rfl, hfr⟩

theorem results_R {fn : Func} {k : Nat} (hr : fn.results = #[.cell k 25]) (tmps : Array Value) (w : World) (g : Nat) (v0 v1 : Value) (h : tmps[k]?.getD undef = .pointer (some ⟨g, 0, none⟩))
    (h0 : w.cell? ⟨g, 0, none⟩ = some v0) (h1 : w.cell? ⟨g, 1, none⟩ = some v1) : (results fn tmps).run Tryd.prog w = .ok (.agg #[v0, v1]) w := by
  simp [results, hr, go_sem, h, h0, h1]
set_option maxRecDepth 100000 in
theorem toLogRecord_any (s t : ByteArray) (w : World) :
    Calls Tryd.prog 44 #[.agg #[.string s, .string t]] w fun e w' => e = .returned (.agg #[.string s, .string t]) ∧ Fr w w' := by
  have h1 : ((w.alloc (.cells #[.string s, .string t] 70)).alloc (.cells #[.string s, .string t] 25)).heap[w.heap.size + 1]? = some (.cells #[.string s, .string t] 25 (0, 0)) := by
    have := heap_alloc_new (w.alloc (.cells #[.string s, .string t] 70)) (.cells #[.string s, .string t] 25)
    rwa [World.size_alloc] at this
  have f1 : Fr ((w.alloc (.cells #[.string s, .string t] 70)).alloc (.cells #[.string s, .string t] 25)) (((w.alloc (.cells #[.string s, .string t] 70)).alloc (.cells #[.string s, .string t] 25)).alloc (.cells #[.string s, .string t] 25)) := (Fr.refl _).alloc _
  have c0 := Lib.hid (f1.keep (cell_of_row _ (w.heap.size + 1) 0 _ _ (0, 0) h1))
  have c1 := Lib.hid (f1.keep (cell_of_row _ (w.heap.size + 1) 1 _ _ (0, 0) h1))
  clear h1 f1
  go_enter Tryd.func44, Tryd.ntmps44
  go_wp2
  refine bodyPost_ret (results_R Tryd.results44 _ _ (w.heap.size + 1) _ _ rfl c0.out c1.out) rfl ?_
  exact ⟨rfl, (((Fr.refl w).alloc _).alloc _).alloc _⟩

end Go.Proofs.YtolnloeapbplkaaDoor
