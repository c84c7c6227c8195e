import Derived.Test.YtojipjjfndgbhaaTree3
/- Contracts of houses: l3Good, IsHouse. -/
set_option linter.unusedVariables false
namespace Go.Proofs.Ytojipjjfndgbhaa
open Go.ChangeShapes Go.WideShapes Go.ChangeAt Go.RowKit

def l3B (P W X : List Int) : Bool := treeB P W && procB P X
def houseB (P W X : List Int) (a s u k : Int) : Bool := l3B P W X && inB a 0 ((P.length : Int) - 1) && inB s (-20) 20 && inB u (-1000000) 1000000 && inB k 0 1000

theorem l3Good_any (w : World) (p q a : Option Addr) (n c m d l k : Nat) (P W X : List Int) (hP : SL w p n c P) (hW : SL w q m d W) (hX : SL w a l k X) :
    Calls Try.prog 73 #[.agg #[.slice p n c, .slice q m d], .slice a l k] w fun e w' => e = .returned (.bool (l3B P W X)) ∧ Fr w w' := by
  have HP := Lib.hid hP.len; have HX := Lib.hid hX.len
  have hn : n ≤ 9223372036854775807 := by have := hP.le; have := hP.mx; omega
  have hl : l ≤ 9223372036854775807 := by have := hX.le; have := hX.mx; omega
  have hfr : Fr w (w.alloc (.cells #[.slice p n c, .slice q m d] 29)) := (Fr.refl w).alloc _
  go_enter Try.func73, Try.ntmps73
  go_wp2
  go_loop [5] (fun i => ∃ j : Nat, j ≤ l ∧ i = .int .i64 j ∧ Hid (allB (X.take j) (-999) 999 = true)) (fun i => l - (intOf i).toNat)
  case atStart => exact ⟨0, Nat.zero_le _, rfl, Lib.hid rfl⟩
  case round =>
    obtain ⟨j, hj, rfl, ha⟩ := hrel
    by_cases hlt : j < l
    · obtain ⟨b, off, rfl, hc⟩ := (hX.fr hfr).cells.resolve_left (by omega)
      replace hc := hc j hlt
      have hks : j < X.length := by rw [HX.out]; exact hlt
      have HS := Lib.hid (allB_snoc X (-999) 999 j hks)
      have HKS := Lib.hid hks
      clear hks
      cases hb : inB (nth X j) (-999) 999
      · have HV : Hid (l3B P W X = false) := Lib.hid (by rw [l3B, procB, allB_no HKS.out hb]; simp)
        go_wp2_with (go_at_call 88; refine (l1In_any _ _ _ _).mono ?_; rintro e w' ⟨rfl, rfl⟩)
        go_ret
        exact ⟨by rw [HV.out]; rfl, hfr⟩
      · have HB := Lib.hid hb
        go_wp2_with (go_at_call 88; refine (l1In_any _ _ _ _).mono ?_; rintro e w' ⟨rfl, rfl⟩)
        go_round
        case rel => exact ⟨j + 1, by omega, by go_num, Lib.hid (by rw [HS.out, ha.out, HB.out]; rfl)⟩
        case measure => simp [intOf]; omega
    · obtain rfl : j = l := by omega
      have HA : Hid (allB X (-999) 999 = true) := Lib.hid (by rw [← List.take_of_length_le (l := X) (i := j) (by rw [HX.out]; omega)]; exact ha.out)
      go_wp2_with fail
      refine (l2Good_any _ _ _ _ _ _ _ _ _ (hP.fr hfr) (hW.fr hfr)).mono ?_
      rintro e w1 ⟨rfl, f1⟩
      have hbox := f1.newCell (j := 0) (v := .slice p n c) rfl
      have HV : Hid (l3B P W X = (treeB P W && (j == n))) := Lib.hid (by rw [l3B, procB, HA.out, HP.out, HX.out, Bool.and_true])
      cases ht : treeB P W
      · have HV2 : Hid (l3B P W X = false) := Lib.hid (by rw [HV.out, ht]; rfl)
        go_wp2
        go_ret
        exact ⟨by rw [HV2.out]; rfl, hfr.trans f1⟩
      · have HV2 : Hid (l3B P W X = ((j : Int) == (n : Int))) := Lib.hid (by rw [HV.out, ht, beq_nat]; rfl)
        go_wp2
        go_ret
        exact ⟨by rw [HV2.out]; rfl, hfr.trans f1⟩

set_option maxRecDepth 100000 in
theorem impl_IsHouse_any (w : World) (p q a : Option Addr) (n c m d l k : Nat) (P W X : List Int) (hP : SL w p n c P) (hW : SL w q m d W) (hX : SL w a l k X) (x s u v : Int) :
    Calls Try.prog 18 #[.agg #[.slice p n c, .slice q m d, .slice a l k, .int .i64 x, .int .i64 s, .int .i64 u, .int .i64 v]] w fun e w' => e = .returned (.bool (houseB P W X x s u v)) ∧ Fr w w' := by
  have HP := Lib.hid hP.len
  have hfr : Fr w (w.alloc (.cells #[.slice p n c, .slice q m d, .slice a l k, .int .i64 x, .int .i64 s, .int .i64 u, .int .i64 v] 31)) := (Fr.refl w).alloc _
  have hP1 := hP.fr hfr
  have hW1 := hW.fr hfr
  have hX1 := hX.fr hfr
  have HV : Hid (houseB P W X x s u v = (treeB P W && procB P X && inB x 0 ((n : Int) - 1) && inB s (-20) 20 && inB u (-1000000) 1000000 && inB v 0 1000)) := Lib.hid (by rw [houseB, l3B, HP.out])
  go_enter Try.func18, Try.ntmps18
  go_wp2_with fail
  refine (IsTree_any _ _ _ _ _ _ _ _ _ hP1 hW1).mono ?_
  rintro e w1 ⟨rfl, f1⟩
  have b10 := f1.newCell (j := 0) (v := .slice p n c) rfl
  have b11 := f1.newCell (j := 1) (v := .slice q m d) rfl
  have b12 := f1.newCell (j := 2) (v := .slice a l k) rfl
  have b13 := f1.newCell (j := 3) (v := .int .i64 x) rfl
  have b14 := f1.newCell (j := 4) (v := .int .i64 s) rfl
  have b15 := f1.newCell (j := 5) (v := .int .i64 u) rfl
  have b16 := f1.newCell (j := 6) (v := .int .i64 v) rfl
  cases h1 : treeB P W
  · have HV2 : Hid (houseB P W X x s u v = false) := Lib.hid (by rw [HV.out, h1]; rfl)
    go_wp2
    go_ret
    exact ⟨by rw [HV2.out]; rfl, hfr.trans f1⟩
  have H1 := Lib.hid h1
  go_wp2_with fail
  refine (isProcess_any _ _ _ _ _ _ _ _ _ _ _ W _ (hP1.fr f1) (hX1.fr f1)).mono ?_
  rintro e w2 ⟨rfl, f2⟩
  replace b10 := f2.keep b10; replace b11 := f2.keep b11; replace b13 := f2.keep b13; replace b14 := f2.keep b14; replace b15 := f2.keep b15; replace b16 := f2.keep b16
  cases h2 : procB P X
  · have HV2 : Hid (houseB P W X x s u v = false) := Lib.hid (by rw [HV.out, H1.out, h2]; rfl)
    go_wp2
    go_ret
    exact ⟨by rw [HV2.out]; rfl, (hfr.trans f1).trans f2⟩
  have H2 := Lib.hid h2
  go_wp2_with fail
  refine (isNode_any _ _ _ _ _ _ _ _ W (hP1.fr (f1.trans f2)) _).mono ?_
  rintro e w3 ⟨rfl, f3⟩
  replace b14 := f3.keep b14; replace b15 := f3.keep b15; replace b16 := f3.keep b16
  have hF := ((hfr.trans f1).trans f2).trans f3
  cases h3 : inB x 0 ((n : Int) - 1) <;> cases h4 : inB s (-20) 20 <;> cases h5 : inB u (-1000000) 1000000
  all_goals
    have HV2 := Lib.hid (show houseB P W X x s u v = _ from by rw [HV.out, H1.out, H2.out, h3, h4, h5])
    go_wp2_with (go_at_call 72; refine (within_any _ _ _ _).mono ?_; rintro e w' ⟨rfl, rfl⟩)
    go_ret
    exact ⟨by rw [HV2.out]; rfl, hF⟩

set_option maxRecDepth 100000 in
theorem l12Good_any (w : World) (p q a : Option Addr) (n c m d l k : Nat) (P W X : List Int) (hP : SL w p n c P) (hW : SL w q m d W) (hX : SL w a l k X) (x s u v : Int) :
    Calls Try.prog 68 #[.agg #[.slice p n c, .slice q m d, .slice a l k, .int .i64 x, .int .i64 s, .int .i64 u, .int .i64 v]] w fun e w' => e = .returned (.bool (houseB P W X x s u v)) ∧ Fr w w' := by
  have HP := Lib.hid hP.len
  have HX := Lib.hid hX.len
  have hl : l ≤ 9223372036854775807 := by have := hX.le; have := hX.mx; omega
  have hfr : Fr w (w.alloc (.cells #[.slice p n c, .slice q m d, .slice a l k, .int .i64 x, .int .i64 s, .int .i64 u, .int .i64 v] 31)) := (Fr.refl w).alloc _
  have HV : Hid (houseB P W X x s u v = (l3B P W X && inB x 0 ((n : Int) - 1) && inB s (-20) 20 && inB u (-1000000) 1000000 && inB v 0 1000)) := Lib.hid (by rw [houseB, HP.out])
  go_enter Try.func68, Try.ntmps68
  go_wp2_with fail
  refine (l3Good_any _ _ _ _ _ _ _ _ _ _ _ _ _ (hP.fr hfr) (hW.fr hfr) (hX.fr hfr)).mono ?_
  rintro e w1 ⟨rfl, f1⟩
  have b12 := f1.newCell (j := 2) (v := .slice a l k) rfl
  have b13 := f1.newCell (j := 3) (v := .int .i64 x) rfl
  have b14 := f1.newCell (j := 4) (v := .int .i64 s) rfl
  have b15 := f1.newCell (j := 5) (v := .int .i64 u) rfl
  have b16 := f1.newCell (j := 6) (v := .int .i64 v) rfl
  cases h1 : l3B P W X
  · have HV2 : Hid (houseB P W X x s u v = false) := Lib.hid (by rw [HV.out, h1]; rfl)
    go_wp2
    go_ret
    exact ⟨by rw [HV2.out]; rfl, hfr.trans f1⟩
  have hln : l = n := by
    rw [l3B, Bool.and_eq_true] at h1
    rw [← HX.out, ← HP.out]; exact (procB_iff.1 h1.2).1
  have H1 := Lib.hid h1
  subst hln
  have hF := hfr.trans f1
  cases h3 : inB x 0 ((l : Int) - 1) <;> cases h4 : inB s (-20) 20 <;> cases h5 : inB u (-1000000) 1000000
  all_goals
    have HV2 := Lib.hid (show houseB P W X x s u v = _ from by rw [HV.out, H1.out, h3, h4, h5])
    go_wp2_with (go_at_call 88; refine (l1In_any _ _ _ _).mono ?_; rintro e w' ⟨rfl, rfl⟩)
    go_ret
    exact ⟨by rw [HV2.out]; rfl, hF⟩

theorem spec_IsHouse_any (w : World) (p q a : Option Addr) (n c m d l k : Nat) (P W X : List Int) (hP : SL w p n c P) (hW : SL w q m d W) (hX : SL w a l k X) (x s u v : Int) :
    Calls Try.prog 16 #[.agg #[.slice p n c, .slice q m d, .slice a l k, .int .i64 x, .int .i64 s, .int .i64 u, .int .i64 v]] w fun e w' => e = .returned (.bool (houseB P W X x s u v)) ∧ Fr w w' := by
  have hfr : Fr w (w.alloc (.cells #[.slice p n c, .slice q m d, .slice a l k, .int .i64 x, .int .i64 s, .int .i64 u, .int .i64 v] 31)) := (Fr.refl w).alloc _
  go_enter Try.func16, Try.ntmps16
  go_wp2_with fail
  refine (l12Good_any _ _ _ _ _ _ _ _ _ _ _ _ _ (hP.fr hfr) (hW.fr hfr) (hX.fr hfr) _ _ _ _).mono ?_
  rintro e w1 ⟨rfl, f1⟩
  go_wp2
  go_ret
  exact ⟨rfl, hfr.trans f1⟩

end Go.Proofs.Ytojipjjfndgbhaa
