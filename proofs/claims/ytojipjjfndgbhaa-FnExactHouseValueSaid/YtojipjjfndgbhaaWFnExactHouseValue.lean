import Derived.Test.YtojipjjfndgbhaaEnv4
import Derived.Test.YtojipjjfndgbhaaOpenS
import Derived.Deep.RegionHeld3
/- The walk of laws.FnExactHouseValue: the Go text returns true and writes to nothing that was there. -/
set_option linter.unusedVariables false
namespace Go.Proofs.Ytojipjjfndgbhaa
open Go.ChangeShapes Go.WideShapes Go.ChangeAt Go.RowKit

set_option maxRecDepth 100000 in
set_option maxHeartbeats 4000000 in
theorem walk_FnExactHouseValue (pa0_0 : Option Addr) (qa0_0 ra0_0 : Nat) (xa0_0 : List Int) (pa0_1 : Option Addr) (qa0_1 ra0_1 : Nat) (xa0_1 : List Int) (pa0_2 : Option Addr) (qa0_2 ra0_2 : Nat) (xa0_2 : List Int) (ya0_0 : Int) (ya0_1 : Int) (ya0_2 : Int) (ya0_3 : Int) (w : World) (sa0_0 : SL w pa0_0 qa0_0 ra0_0 xa0_0) (sa0_1 : SL w pa0_1 qa0_1 ra0_1 xa0_1) (sa0_2 : SL w pa0_2 qa0_2 ra0_2 xa0_2) (ia0_0 : I64 ya0_0) (ia0_1 : I64 ya0_1) (ia0_2 : I64 ya0_2) (ia0_3 : I64 ya0_3) :
    Calls Try.prog 6 #[.agg #[.slice pa0_0 qa0_0 ra0_0, .slice pa0_1 qa0_1 ra0_1, .slice pa0_2 qa0_2 ra0_2, .int .i64 ya0_0, .int .i64 ya0_1, .int .i64 ya0_2, .int .i64 ya0_3]] w fun e w' => e = .returned (.bool true) ∧ Fr w w' := by
  have hF0 : Fr w (w.alloc (.cells #[.slice pa0_0 qa0_0 ra0_0, .slice pa0_1 qa0_1 ra0_1, .slice pa0_2 qa0_2 ra0_2, .int .i64 ya0_0, .int .i64 ya0_1, .int .i64 ya0_2, .int .i64 ya0_3] 26)) := (Fr.refl w).alloc _
  have BxaH0 := Blk.new w #[.slice pa0_0 qa0_0 ra0_0, .slice pa0_1 qa0_1 ra0_1, .slice pa0_2 qa0_2 ra0_2, .int .i64 ya0_0, .int .i64 ya0_1, .int .i64 ya0_2, .int .i64 ya0_3] 26
  have BxaH := Lib.hid BxaH0; clear BxaH0
  have na0_0 : qa0_0 ≤ 9223372036854775807 := by have := sa0_0.le; have := sa0_0.mx; omega
  have na0_1 : qa0_1 ≤ 9223372036854775807 := by have := sa0_1.le; have := sa0_1.mx; omega
  have na0_2 : qa0_2 ≤ 9223372036854775807 := by have := sa0_2.le; have := sa0_2.mx; omega
  by_cases hz0 : szH qa0_0 qa0_1 qa0_2 1048576 < 0
  · go_enter Try.func6, Try.ntmps6
    go_wp2_with fail
    refine (szHouse_any _ _ _ _ _ _ _ _ _ _ _ _ _ _ _ na0_0 na0_1 na0_2 (by omega) (by omega)).mono ?_
    rintro e v0 ⟨rfl, hv0⟩
    have hF1 := hF0.trans hv0
    go_wp2
    go_ret
    exact ⟨rfl, hF1⟩
  have hr0 := szH_rng qa0_0 qa0_1 qa0_2 1048576 (by omega)
  have hf0 := szH_fit hz0
  go_enter Try.func6, Try.ntmps6
  go_wp2_with fail
  refine (szHouse_any _ _ _ _ _ _ _ _ _ _ _ _ _ _ _ na0_0 na0_1 na0_2 (by omega) (by omega)).mono ?_
  rintro e v0 ⟨rfl, hv0⟩
  have hF1 := hF0.trans hv0
  replace BxaH := Lib.hid (BxaH.out.fr hv0)
  have hF := hF1
  have zz := hF.size
  have naH := BxaH.out.lt
  have HZ0 := Lib.hid hf0.2.2.2
  obtain ⟨hb0_0, hb0_1, hb0_2, -⟩ := hf0
  have kaH_0 := BxaH.out.cell (j := 0) (v := .slice pa0_0 qa0_0 ra0_0) rfl
  have kaH_1 := BxaH.out.cell (j := 1) (v := .slice pa0_1 qa0_1 ra0_1) rfl
  have kaH_2 := BxaH.out.cell (j := 2) (v := .slice pa0_2 qa0_2 ra0_2) rfl
  have kaH_3 := BxaH.out.cell (j := 3) (v := .int .i64 ya0_0) rfl
  have kaH_4 := BxaH.out.cell (j := 4) (v := .int .i64 ya0_1) rfl
  have kaH_5 := BxaH.out.cell (j := 5) (v := .int .i64 ya0_2) rfl
  have kaH_6 := BxaH.out.cell (j := 6) (v := .int .i64 ya0_3) rfl
  have hFx := hF
  go_wp2_with fail
  clear kaH_0 kaH_1 kaH_2 kaH_3 kaH_4 kaH_5 kaH_6
  refine (toHouse_any _ _ _ _ _ _ _ _ _ _ _ _ _ _ _ _ _ (sa0_0.fr hFx) (sa0_1.fr hFx) (sa0_2.fr hFx) (by omega) (by omega) (by omega)).mono ?_
  rintro e w1 ⟨p1_0, q1_0, r1_0, p1_1, q1_1, r1_1, p1_2, q1_2, r1_2, M1_0, M1_1, rfl, o1_0, o1_1, o1_2, l1_0, l1_1, y1_0, y1_1, y1_2, f1, e1_0, e1_1, e1_2⟩
  replace BxaH := Lib.hid (BxaH.out.fr f1)
  have g1 := hF.size
  have z1 := f1.size
  replace hF := hF.trans f1
  clear f1
  have kaH_0 := BxaH.out.cell (j := 0) (v := .slice pa0_0 qa0_0 ra0_0) rfl
  have kaH_1 := BxaH.out.cell (j := 1) (v := .slice pa0_1 qa0_1 ra0_1) rfl
  have kaH_2 := BxaH.out.cell (j := 2) (v := .slice pa0_2 qa0_2 ra0_2) rfl
  have kaH_3 := BxaH.out.cell (j := 3) (v := .int .i64 ya0_0) rfl
  have kaH_4 := BxaH.out.cell (j := 4) (v := .int .i64 ya0_1) rfl
  have kaH_5 := BxaH.out.cell (j := 5) (v := .int .i64 ya0_2) rfl
  have kaH_6 := BxaH.out.cell (j := 6) (v := .int .i64 ya0_3) rfl
  clear hFx
  have l1_2 := o1_2.within
  have hFx := hF
  go_wp2_with fail
  clear kaH_0 kaH_1 kaH_2 kaH_3 kaH_4 kaH_5 kaH_6
  refine (spec_HouseValue_any _ _ _ _ _ _ _ _ _ _ _ _ _ _ _ _ _ o1_0.sl o1_1.sl o1_2.sl).mono ?_
  rintro e w2 ⟨rfl, f2⟩
  replace BxaH := Lib.hid (BxaH.out.fr f2)
  replace o1_0 := o1_0.fr f2
  replace o1_1 := o1_1.fr f2
  replace o1_2 := o1_2.fr f2
  have z2 := f2.size
  replace hF := hF.trans f2
  clear f2
  have kaH_0 := BxaH.out.cell (j := 0) (v := .slice pa0_0 qa0_0 ra0_0) rfl
  have kaH_1 := BxaH.out.cell (j := 1) (v := .slice pa0_1 qa0_1 ra0_1) rfl
  have kaH_2 := BxaH.out.cell (j := 2) (v := .slice pa0_2 qa0_2 ra0_2) rfl
  have kaH_3 := BxaH.out.cell (j := 3) (v := .int .i64 ya0_0) rfl
  have kaH_4 := BxaH.out.cell (j := 4) (v := .int .i64 ya0_1) rfl
  have kaH_5 := BxaH.out.cell (j := 5) (v := .int .i64 ya0_2) rfl
  have kaH_6 := BxaH.out.cell (j := 6) (v := .int .i64 ya0_3) rfl
  clear hFx
  clear kaH_0 kaH_1 kaH_2 kaH_3 kaH_4 kaH_5 kaH_6
  have kaH_0 := (BxaH.out.alloc (.cells #[.int .i64 (hvV xa0_0 xa0_1 xa0_2 ya0_0 ya0_1 ya0_2 ya0_3).1, .int .i64 (hvV xa0_0 xa0_1 xa0_2 ya0_0 ya0_1 ya0_2 ya0_3).2] 46)).cell (j := 0) (v := .slice pa0_0 qa0_0 ra0_0) rfl
  have kaH_1 := (BxaH.out.alloc (.cells #[.int .i64 (hvV xa0_0 xa0_1 xa0_2 ya0_0 ya0_1 ya0_2 ya0_3).1, .int .i64 (hvV xa0_0 xa0_1 xa0_2 ya0_0 ya0_1 ya0_2 ya0_3).2] 46)).cell (j := 1) (v := .slice pa0_1 qa0_1 ra0_1) rfl
  have kaH_2 := (BxaH.out.alloc (.cells #[.int .i64 (hvV xa0_0 xa0_1 xa0_2 ya0_0 ya0_1 ya0_2 ya0_3).1, .int .i64 (hvV xa0_0 xa0_1 xa0_2 ya0_0 ya0_1 ya0_2 ya0_3).2] 46)).cell (j := 2) (v := .slice pa0_2 qa0_2 ra0_2) rfl
  have kaH_3 := (BxaH.out.alloc (.cells #[.int .i64 (hvV xa0_0 xa0_1 xa0_2 ya0_0 ya0_1 ya0_2 ya0_3).1, .int .i64 (hvV xa0_0 xa0_1 xa0_2 ya0_0 ya0_1 ya0_2 ya0_3).2] 46)).cell (j := 3) (v := .int .i64 ya0_0) rfl
  have kaH_4 := (BxaH.out.alloc (.cells #[.int .i64 (hvV xa0_0 xa0_1 xa0_2 ya0_0 ya0_1 ya0_2 ya0_3).1, .int .i64 (hvV xa0_0 xa0_1 xa0_2 ya0_0 ya0_1 ya0_2 ya0_3).2] 46)).cell (j := 4) (v := .int .i64 ya0_1) rfl
  have kaH_5 := (BxaH.out.alloc (.cells #[.int .i64 (hvV xa0_0 xa0_1 xa0_2 ya0_0 ya0_1 ya0_2 ya0_3).1, .int .i64 (hvV xa0_0 xa0_1 xa0_2 ya0_0 ya0_1 ya0_2 ya0_3).2] 46)).cell (j := 5) (v := .int .i64 ya0_2) rfl
  have kaH_6 := (BxaH.out.alloc (.cells #[.int .i64 (hvV xa0_0 xa0_1 xa0_2 ya0_0 ya0_1 ya0_2 ya0_3).1, .int .i64 (hvV xa0_0 xa0_1 xa0_2 ya0_0 ya0_1 ya0_2 ya0_3).2] 46)).cell (j := 6) (v := .int .i64 ya0_3) rfl
  have hFx := hF.alloc (.cells #[.int .i64 (hvV xa0_0 xa0_1 xa0_2 ya0_0 ya0_1 ya0_2 ya0_3).1, .int .i64 (hvV xa0_0 xa0_1 xa0_2 ya0_0 ya0_1 ya0_2 ya0_3).2] 46)
  go_wp2_with fail
  clear kaH_0 kaH_1 kaH_2 kaH_3 kaH_4 kaH_5 kaH_6
  refine (toHouse_any _ _ _ _ _ _ _ _ _ _ _ _ _ _ _ _ _ (sa0_0.fr hFx) (sa0_1.fr hFx) (sa0_2.fr hFx) (by omega) (by omega) (by omega)).mono ?_
  rintro e w3 ⟨p3_0, q3_0, r3_0, p3_1, q3_1, r3_1, p3_2, q3_2, r3_2, M3_0, M3_1, rfl, o3_0, o3_1, o3_2, l3_0, l3_1, y3_0, y3_1, y3_2, f3, e3_0, e3_1, e3_2⟩
  have Bxw0 := Lib.hid ((Blk.new w2 #[.int .i64 (hvV xa0_0 xa0_1 xa0_2 ya0_0 ya0_1 ya0_2 ya0_3).1, .int .i64 (hvV xa0_0 xa0_1 xa0_2 ya0_0 ya0_1 ya0_2 ya0_3).2] 46).fr f3)
  have fx3 := ((Fr.refl _).alloc (.cells #[.int .i64 (hvV xa0_0 xa0_1 xa0_2 ya0_0 ya0_1 ya0_2 ya0_3).1, .int .i64 (hvV xa0_0 xa0_1 xa0_2 ya0_0 ya0_1 ya0_2 ya0_3).2] 46)).trans f3
  have nw0 := Bxw0.out.lt
  have ha3 : w2.heap.size + 1 ≤ (w2.alloc (.cells #[.int .i64 (hvV xa0_0 xa0_1 xa0_2 ya0_0 ya0_1 ya0_2 ya0_3).1, .int .i64 (hvV xa0_0 xa0_1 xa0_2 ya0_0 ya0_1 ya0_2 ya0_3).2] 46)).heap.size ∧ (w2.alloc (.cells #[.int .i64 (hvV xa0_0 xa0_1 xa0_2 ya0_0 ya0_1 ya0_2 ya0_3).1, .int .i64 (hvV xa0_0 xa0_1 xa0_2 ya0_0 ya0_1 ya0_2 ya0_3).2] 46)).heap.size ≤ w2.heap.size + 1 := by simp
  have za3 := f3.size
  clear f3; have f3 := fx3; clear fx3
  replace BxaH := Lib.hid (BxaH.out.fr f3)
  replace o1_0 := o1_0.fr f3
  replace o1_1 := o1_1.fr f3
  replace o1_2 := o1_2.fr f3
  have g3 := hF.size
  have z3 := f3.size
  replace hF := hF.trans f3
  clear f3
  have kaH_0 := BxaH.out.cell (j := 0) (v := .slice pa0_0 qa0_0 ra0_0) rfl
  have kaH_1 := BxaH.out.cell (j := 1) (v := .slice pa0_1 qa0_1 ra0_1) rfl
  have kaH_2 := BxaH.out.cell (j := 2) (v := .slice pa0_2 qa0_2 ra0_2) rfl
  have kaH_3 := BxaH.out.cell (j := 3) (v := .int .i64 ya0_0) rfl
  have kaH_4 := BxaH.out.cell (j := 4) (v := .int .i64 ya0_1) rfl
  have kaH_5 := BxaH.out.cell (j := 5) (v := .int .i64 ya0_2) rfl
  have kaH_6 := BxaH.out.cell (j := 6) (v := .int .i64 ya0_3) rfl
  have kw0_0 := Bxw0.out.cell (j := 0) (v := .int .i64 (hvV xa0_0 xa0_1 xa0_2 ya0_0 ya0_1 ya0_2 ya0_3).1) rfl
  have kw0_1 := Bxw0.out.cell (j := 1) (v := .int .i64 (hvV xa0_0 xa0_1 xa0_2 ya0_0 ya0_1 ya0_2 ya0_3).2) rfl
  clear hFx
  have l3_2 := o3_2.within
  clear kaH_0 kaH_1 kaH_2 kaH_3 kaH_4 kaH_5 kaH_6 kw0_0 kw0_1
  have kaH_0 := (BxaH.out.alloc (.cells #[.slice p3_0 q3_0 r3_0, .slice p3_1 q3_1 r3_1, .slice p3_2 q3_2 r3_2, .int .i64 (ya0_0), .int .i64 (ya0_1), .int .i64 (ya0_2), .int .i64 (ya0_3)] 31)).cell (j := 0) (v := .slice pa0_0 qa0_0 ra0_0) rfl
  have kaH_1 := (BxaH.out.alloc (.cells #[.slice p3_0 q3_0 r3_0, .slice p3_1 q3_1 r3_1, .slice p3_2 q3_2 r3_2, .int .i64 (ya0_0), .int .i64 (ya0_1), .int .i64 (ya0_2), .int .i64 (ya0_3)] 31)).cell (j := 1) (v := .slice pa0_1 qa0_1 ra0_1) rfl
  have kaH_2 := (BxaH.out.alloc (.cells #[.slice p3_0 q3_0 r3_0, .slice p3_1 q3_1 r3_1, .slice p3_2 q3_2 r3_2, .int .i64 (ya0_0), .int .i64 (ya0_1), .int .i64 (ya0_2), .int .i64 (ya0_3)] 31)).cell (j := 2) (v := .slice pa0_2 qa0_2 ra0_2) rfl
  have kaH_3 := (BxaH.out.alloc (.cells #[.slice p3_0 q3_0 r3_0, .slice p3_1 q3_1 r3_1, .slice p3_2 q3_2 r3_2, .int .i64 (ya0_0), .int .i64 (ya0_1), .int .i64 (ya0_2), .int .i64 (ya0_3)] 31)).cell (j := 3) (v := .int .i64 ya0_0) rfl
  have kaH_4 := (BxaH.out.alloc (.cells #[.slice p3_0 q3_0 r3_0, .slice p3_1 q3_1 r3_1, .slice p3_2 q3_2 r3_2, .int .i64 (ya0_0), .int .i64 (ya0_1), .int .i64 (ya0_2), .int .i64 (ya0_3)] 31)).cell (j := 4) (v := .int .i64 ya0_1) rfl
  have kaH_5 := (BxaH.out.alloc (.cells #[.slice p3_0 q3_0 r3_0, .slice p3_1 q3_1 r3_1, .slice p3_2 q3_2 r3_2, .int .i64 (ya0_0), .int .i64 (ya0_1), .int .i64 (ya0_2), .int .i64 (ya0_3)] 31)).cell (j := 5) (v := .int .i64 ya0_2) rfl
  have kaH_6 := (BxaH.out.alloc (.cells #[.slice p3_0 q3_0 r3_0, .slice p3_1 q3_1 r3_1, .slice p3_2 q3_2 r3_2, .int .i64 (ya0_0), .int .i64 (ya0_1), .int .i64 (ya0_2), .int .i64 (ya0_3)] 31)).cell (j := 6) (v := .int .i64 ya0_3) rfl
  have kw0_0 := (Bxw0.out.alloc (.cells #[.slice p3_0 q3_0 r3_0, .slice p3_1 q3_1 r3_1, .slice p3_2 q3_2 r3_2, .int .i64 (ya0_0), .int .i64 (ya0_1), .int .i64 (ya0_2), .int .i64 (ya0_3)] 31)).cell (j := 0) (v := .int .i64 (hvV xa0_0 xa0_1 xa0_2 ya0_0 ya0_1 ya0_2 ya0_3).1) rfl
  have kw0_1 := (Bxw0.out.alloc (.cells #[.slice p3_0 q3_0 r3_0, .slice p3_1 q3_1 r3_1, .slice p3_2 q3_2 r3_2, .int .i64 (ya0_0), .int .i64 (ya0_1), .int .i64 (ya0_2), .int .i64 (ya0_3)] 31)).cell (j := 1) (v := .int .i64 (hvV xa0_0 xa0_1 xa0_2 ya0_0 ya0_1 ya0_2 ya0_3).2) rfl
  have hFx := hF.alloc (.cells #[.slice p3_0 q3_0 r3_0, .slice p3_1 q3_1 r3_1, .slice p3_2 q3_2 r3_2, .int .i64 (ya0_0), .int .i64 (ya0_1), .int .i64 (ya0_2), .int .i64 (ya0_3)] 31)
  go_wp2_with fail
  clear kaH_0 kaH_1 kaH_2 kaH_3 kaH_4 kaH_5 kaH_6 kw0_0 kw0_1
  refine (impl_HouseValue_any _ _ _ _ _ _ _ _ _ _ _ _ _ _ _ _ _ (o3_0.fr ((Fr.refl _).alloc _)).sl (o3_1.fr ((Fr.refl _).alloc _)).sl (o3_2.fr ((Fr.refl _).alloc _)).sl).mono ?_
  rintro e w4 ⟨rfl, f4⟩
  have Bxx0 := Lib.hid ((Blk.new w3 #[.slice p3_0 q3_0 r3_0, .slice p3_1 q3_1 r3_1, .slice p3_2 q3_2 r3_2, .int .i64 (ya0_0), .int .i64 (ya0_1), .int .i64 (ya0_2), .int .i64 (ya0_3)] 31).fr f4)
  have fx4 := ((Fr.refl _).alloc (.cells #[.slice p3_0 q3_0 r3_0, .slice p3_1 q3_1 r3_1, .slice p3_2 q3_2 r3_2, .int .i64 (ya0_0), .int .i64 (ya0_1), .int .i64 (ya0_2), .int .i64 (ya0_3)] 31)).trans f4
  have nx0 := Bxx0.out.lt
  have ha4 : w3.heap.size + 1 ≤ (w3.alloc (.cells #[.slice p3_0 q3_0 r3_0, .slice p3_1 q3_1 r3_1, .slice p3_2 q3_2 r3_2, .int .i64 (ya0_0), .int .i64 (ya0_1), .int .i64 (ya0_2), .int .i64 (ya0_3)] 31)).heap.size ∧ (w3.alloc (.cells #[.slice p3_0 q3_0 r3_0, .slice p3_1 q3_1 r3_1, .slice p3_2 q3_2 r3_2, .int .i64 (ya0_0), .int .i64 (ya0_1), .int .i64 (ya0_2), .int .i64 (ya0_3)] 31)).heap.size ≤ w3.heap.size + 1 := by simp
  have za4 := f4.size
  clear f4; have f4 := fx4; clear fx4
  replace BxaH := Lib.hid (BxaH.out.fr f4)
  replace Bxw0 := Lib.hid (Bxw0.out.fr f4)
  replace o1_0 := o1_0.fr f4
  replace o1_1 := o1_1.fr f4
  replace o1_2 := o1_2.fr f4
  replace o3_0 := o3_0.fr f4
  replace o3_1 := o3_1.fr f4
  replace o3_2 := o3_2.fr f4
  have z4 := f4.size
  replace hF := hF.trans f4
  clear f4
  have kaH_0 := BxaH.out.cell (j := 0) (v := .slice pa0_0 qa0_0 ra0_0) rfl
  have kaH_1 := BxaH.out.cell (j := 1) (v := .slice pa0_1 qa0_1 ra0_1) rfl
  have kaH_2 := BxaH.out.cell (j := 2) (v := .slice pa0_2 qa0_2 ra0_2) rfl
  have kaH_3 := BxaH.out.cell (j := 3) (v := .int .i64 ya0_0) rfl
  have kaH_4 := BxaH.out.cell (j := 4) (v := .int .i64 ya0_1) rfl
  have kaH_5 := BxaH.out.cell (j := 5) (v := .int .i64 ya0_2) rfl
  have kaH_6 := BxaH.out.cell (j := 6) (v := .int .i64 ya0_3) rfl
  have kw0_0 := Bxw0.out.cell (j := 0) (v := .int .i64 (hvV xa0_0 xa0_1 xa0_2 ya0_0 ya0_1 ya0_2 ya0_3).1) rfl
  have kw0_1 := Bxw0.out.cell (j := 1) (v := .int .i64 (hvV xa0_0 xa0_1 xa0_2 ya0_0 ya0_1 ya0_2 ya0_3).2) rfl
  have kx0_0 := Bxx0.out.cell (j := 0) (v := .slice p3_0 q3_0 r3_0) rfl
  have kx0_1 := Bxx0.out.cell (j := 1) (v := .slice p3_1 q3_1 r3_1) rfl
  have kx0_2 := Bxx0.out.cell (j := 2) (v := .slice p3_2 q3_2 r3_2) rfl
  have kx0_3 := Bxx0.out.cell (j := 3) (v := .int .i64 (ya0_0)) rfl
  have kx0_4 := Bxx0.out.cell (j := 4) (v := .int .i64 (ya0_1)) rfl
  have kx0_5 := Bxx0.out.cell (j := 5) (v := .int .i64 (ya0_2)) rfl
  have kx0_6 := Bxx0.out.cell (j := 6) (v := .int .i64 (ya0_3)) rfl
  clear hFx
  clear kaH_0 kaH_1 kaH_2 kaH_3 kaH_4 kaH_5 kaH_6 kw0_0 kw0_1 kx0_0 kx0_1 kx0_2 kx0_3 kx0_4 kx0_5 kx0_6
  have kaH_0 := (BxaH.out.alloc (.cells #[.int .i64 (hvV xa0_0 xa0_1 xa0_2 ya0_0 ya0_1 ya0_2 ya0_3).1, .int .i64 (hvV xa0_0 xa0_1 xa0_2 ya0_0 ya0_1 ya0_2 ya0_3).2] 46)).cell (j := 0) (v := .slice pa0_0 qa0_0 ra0_0) rfl
  have kaH_1 := (BxaH.out.alloc (.cells #[.int .i64 (hvV xa0_0 xa0_1 xa0_2 ya0_0 ya0_1 ya0_2 ya0_3).1, .int .i64 (hvV xa0_0 xa0_1 xa0_2 ya0_0 ya0_1 ya0_2 ya0_3).2] 46)).cell (j := 1) (v := .slice pa0_1 qa0_1 ra0_1) rfl
  have kaH_2 := (BxaH.out.alloc (.cells #[.int .i64 (hvV xa0_0 xa0_1 xa0_2 ya0_0 ya0_1 ya0_2 ya0_3).1, .int .i64 (hvV xa0_0 xa0_1 xa0_2 ya0_0 ya0_1 ya0_2 ya0_3).2] 46)).cell (j := 2) (v := .slice pa0_2 qa0_2 ra0_2) rfl
  have kaH_3 := (BxaH.out.alloc (.cells #[.int .i64 (hvV xa0_0 xa0_1 xa0_2 ya0_0 ya0_1 ya0_2 ya0_3).1, .int .i64 (hvV xa0_0 xa0_1 xa0_2 ya0_0 ya0_1 ya0_2 ya0_3).2] 46)).cell (j := 3) (v := .int .i64 ya0_0) rfl
  have kaH_4 := (BxaH.out.alloc (.cells #[.int .i64 (hvV xa0_0 xa0_1 xa0_2 ya0_0 ya0_1 ya0_2 ya0_3).1, .int .i64 (hvV xa0_0 xa0_1 xa0_2 ya0_0 ya0_1 ya0_2 ya0_3).2] 46)).cell (j := 4) (v := .int .i64 ya0_1) rfl
  have kaH_5 := (BxaH.out.alloc (.cells #[.int .i64 (hvV xa0_0 xa0_1 xa0_2 ya0_0 ya0_1 ya0_2 ya0_3).1, .int .i64 (hvV xa0_0 xa0_1 xa0_2 ya0_0 ya0_1 ya0_2 ya0_3).2] 46)).cell (j := 5) (v := .int .i64 ya0_2) rfl
  have kaH_6 := (BxaH.out.alloc (.cells #[.int .i64 (hvV xa0_0 xa0_1 xa0_2 ya0_0 ya0_1 ya0_2 ya0_3).1, .int .i64 (hvV xa0_0 xa0_1 xa0_2 ya0_0 ya0_1 ya0_2 ya0_3).2] 46)).cell (j := 6) (v := .int .i64 ya0_3) rfl
  have kw0_0 := (Bxw0.out.alloc (.cells #[.int .i64 (hvV xa0_0 xa0_1 xa0_2 ya0_0 ya0_1 ya0_2 ya0_3).1, .int .i64 (hvV xa0_0 xa0_1 xa0_2 ya0_0 ya0_1 ya0_2 ya0_3).2] 46)).cell (j := 0) (v := .int .i64 (hvV xa0_0 xa0_1 xa0_2 ya0_0 ya0_1 ya0_2 ya0_3).1) rfl
  have kw0_1 := (Bxw0.out.alloc (.cells #[.int .i64 (hvV xa0_0 xa0_1 xa0_2 ya0_0 ya0_1 ya0_2 ya0_3).1, .int .i64 (hvV xa0_0 xa0_1 xa0_2 ya0_0 ya0_1 ya0_2 ya0_3).2] 46)).cell (j := 1) (v := .int .i64 (hvV xa0_0 xa0_1 xa0_2 ya0_0 ya0_1 ya0_2 ya0_3).2) rfl
  have kx0_0 := (Bxx0.out.alloc (.cells #[.int .i64 (hvV xa0_0 xa0_1 xa0_2 ya0_0 ya0_1 ya0_2 ya0_3).1, .int .i64 (hvV xa0_0 xa0_1 xa0_2 ya0_0 ya0_1 ya0_2 ya0_3).2] 46)).cell (j := 0) (v := .slice p3_0 q3_0 r3_0) rfl
  have kx0_1 := (Bxx0.out.alloc (.cells #[.int .i64 (hvV xa0_0 xa0_1 xa0_2 ya0_0 ya0_1 ya0_2 ya0_3).1, .int .i64 (hvV xa0_0 xa0_1 xa0_2 ya0_0 ya0_1 ya0_2 ya0_3).2] 46)).cell (j := 1) (v := .slice p3_1 q3_1 r3_1) rfl
  have kx0_2 := (Bxx0.out.alloc (.cells #[.int .i64 (hvV xa0_0 xa0_1 xa0_2 ya0_0 ya0_1 ya0_2 ya0_3).1, .int .i64 (hvV xa0_0 xa0_1 xa0_2 ya0_0 ya0_1 ya0_2 ya0_3).2] 46)).cell (j := 2) (v := .slice p3_2 q3_2 r3_2) rfl
  have kx0_3 := (Bxx0.out.alloc (.cells #[.int .i64 (hvV xa0_0 xa0_1 xa0_2 ya0_0 ya0_1 ya0_2 ya0_3).1, .int .i64 (hvV xa0_0 xa0_1 xa0_2 ya0_0 ya0_1 ya0_2 ya0_3).2] 46)).cell (j := 3) (v := .int .i64 (ya0_0)) rfl
  have kx0_4 := (Bxx0.out.alloc (.cells #[.int .i64 (hvV xa0_0 xa0_1 xa0_2 ya0_0 ya0_1 ya0_2 ya0_3).1, .int .i64 (hvV xa0_0 xa0_1 xa0_2 ya0_0 ya0_1 ya0_2 ya0_3).2] 46)).cell (j := 4) (v := .int .i64 (ya0_1)) rfl
  have kx0_5 := (Bxx0.out.alloc (.cells #[.int .i64 (hvV xa0_0 xa0_1 xa0_2 ya0_0 ya0_1 ya0_2 ya0_3).1, .int .i64 (hvV xa0_0 xa0_1 xa0_2 ya0_0 ya0_1 ya0_2 ya0_3).2] 46)).cell (j := 5) (v := .int .i64 (ya0_2)) rfl
  have kx0_6 := (Bxx0.out.alloc (.cells #[.int .i64 (hvV xa0_0 xa0_1 xa0_2 ya0_0 ya0_1 ya0_2 ya0_3).1, .int .i64 (hvV xa0_0 xa0_1 xa0_2 ya0_0 ya0_1 ya0_2 ya0_3).2] 46)).cell (j := 6) (v := .int .i64 (ya0_3)) rfl
  have hFx := hF.alloc (.cells #[.int .i64 (hvV xa0_0 xa0_1 xa0_2 ya0_0 ya0_1 ya0_2 ya0_3).1, .int .i64 (hvV xa0_0 xa0_1 xa0_2 ya0_0 ya0_1 ya0_2 ya0_3).2] 46)
  go_wp2_with fail
  clear kaH_0 kaH_1 kaH_2 kaH_3 kaH_4 kaH_5 kaH_6 kw0_0 kw0_1 kx0_0 kx0_1 kx0_2 kx0_3 kx0_4 kx0_5 kx0_6
  refine (eqIntA2_same _ _ _).mono ?_
  rintro e w5 ⟨rfl, f5⟩
  have Bxg0 := Lib.hid ((Blk.new w4 #[.int .i64 (hvV xa0_0 xa0_1 xa0_2 ya0_0 ya0_1 ya0_2 ya0_3).1, .int .i64 (hvV xa0_0 xa0_1 xa0_2 ya0_0 ya0_1 ya0_2 ya0_3).2] 46).fr f5)
  have fx5 := ((Fr.refl _).alloc (.cells #[.int .i64 (hvV xa0_0 xa0_1 xa0_2 ya0_0 ya0_1 ya0_2 ya0_3).1, .int .i64 (hvV xa0_0 xa0_1 xa0_2 ya0_0 ya0_1 ya0_2 ya0_3).2] 46)).trans f5
  have ng0 := Bxg0.out.lt
  have ha5 : w4.heap.size + 1 ≤ (w4.alloc (.cells #[.int .i64 (hvV xa0_0 xa0_1 xa0_2 ya0_0 ya0_1 ya0_2 ya0_3).1, .int .i64 (hvV xa0_0 xa0_1 xa0_2 ya0_0 ya0_1 ya0_2 ya0_3).2] 46)).heap.size ∧ (w4.alloc (.cells #[.int .i64 (hvV xa0_0 xa0_1 xa0_2 ya0_0 ya0_1 ya0_2 ya0_3).1, .int .i64 (hvV xa0_0 xa0_1 xa0_2 ya0_0 ya0_1 ya0_2 ya0_3).2] 46)).heap.size ≤ w4.heap.size + 1 := by simp
  have za5 := f5.size
  clear f5; have f5 := fx5; clear fx5
  replace BxaH := Lib.hid (BxaH.out.fr f5)
  replace Bxw0 := Lib.hid (Bxw0.out.fr f5)
  replace Bxx0 := Lib.hid (Bxx0.out.fr f5)
  replace o1_0 := o1_0.fr f5
  replace o1_1 := o1_1.fr f5
  replace o1_2 := o1_2.fr f5
  replace o3_0 := o3_0.fr f5
  replace o3_1 := o3_1.fr f5
  replace o3_2 := o3_2.fr f5
  have z5 := f5.size
  replace hF := hF.trans f5
  clear f5
  have kaH_0 := BxaH.out.cell (j := 0) (v := .slice pa0_0 qa0_0 ra0_0) rfl
  have kaH_1 := BxaH.out.cell (j := 1) (v := .slice pa0_1 qa0_1 ra0_1) rfl
  have kaH_2 := BxaH.out.cell (j := 2) (v := .slice pa0_2 qa0_2 ra0_2) rfl
  have kaH_3 := BxaH.out.cell (j := 3) (v := .int .i64 ya0_0) rfl
  have kaH_4 := BxaH.out.cell (j := 4) (v := .int .i64 ya0_1) rfl
  have kaH_5 := BxaH.out.cell (j := 5) (v := .int .i64 ya0_2) rfl
  have kaH_6 := BxaH.out.cell (j := 6) (v := .int .i64 ya0_3) rfl
  have kw0_0 := Bxw0.out.cell (j := 0) (v := .int .i64 (hvV xa0_0 xa0_1 xa0_2 ya0_0 ya0_1 ya0_2 ya0_3).1) rfl
  have kw0_1 := Bxw0.out.cell (j := 1) (v := .int .i64 (hvV xa0_0 xa0_1 xa0_2 ya0_0 ya0_1 ya0_2 ya0_3).2) rfl
  have kx0_0 := Bxx0.out.cell (j := 0) (v := .slice p3_0 q3_0 r3_0) rfl
  have kx0_1 := Bxx0.out.cell (j := 1) (v := .slice p3_1 q3_1 r3_1) rfl
  have kx0_2 := Bxx0.out.cell (j := 2) (v := .slice p3_2 q3_2 r3_2) rfl
  have kx0_3 := Bxx0.out.cell (j := 3) (v := .int .i64 (ya0_0)) rfl
  have kx0_4 := Bxx0.out.cell (j := 4) (v := .int .i64 (ya0_1)) rfl
  have kx0_5 := Bxx0.out.cell (j := 5) (v := .int .i64 (ya0_2)) rfl
  have kx0_6 := Bxx0.out.cell (j := 6) (v := .int .i64 (ya0_3)) rfl
  have kg0_0 := Bxg0.out.cell (j := 0) (v := .int .i64 (hvV xa0_0 xa0_1 xa0_2 ya0_0 ya0_1 ya0_2 ya0_3).1) rfl
  have kg0_1 := Bxg0.out.cell (j := 1) (v := .int .i64 (hvV xa0_0 xa0_1 xa0_2 ya0_0 ya0_1 ya0_2 ya0_3).2) rfl
  clear hFx
  go_wp2
  clear kaH_0 kaH_1 kaH_2 kaH_3 kaH_4 kaH_5 kaH_6 kw0_0 kw0_1 kx0_0 kx0_1 kx0_2 kx0_3 kx0_4 kx0_5 kx0_6 kg0_0 kg0_1
  have kx0_0 := Bxx0.out.cell (j := 0) (v := .slice p3_0 q3_0 r3_0) rfl
  have kx0_1 := Bxx0.out.cell (j := 1) (v := .slice p3_1 q3_1 r3_1) rfl
  have kx0_2 := Bxx0.out.cell (j := 2) (v := .slice p3_2 q3_2 r3_2) rfl
  have kx0_3 := Bxx0.out.cell (j := 3) (v := .int .i64 (ya0_0)) rfl
  have kx0_4 := Bxx0.out.cell (j := 4) (v := .int .i64 (ya0_1)) rfl
  have kx0_5 := Bxx0.out.cell (j := 5) (v := .int .i64 (ya0_2)) rfl
  have kx0_6 := Bxx0.out.cell (j := 6) (v := .int .i64 (ya0_3)) rfl
  have kaH_0 := BxaH.out.cell (j := 0) (v := .slice pa0_0 qa0_0 ra0_0) rfl
  have kaH_1 := BxaH.out.cell (j := 1) (v := .slice pa0_1 qa0_1 ra0_1) rfl
  have kaH_2 := BxaH.out.cell (j := 2) (v := .slice pa0_2 qa0_2 ra0_2) rfl
  have kaH_3 := BxaH.out.cell (j := 3) (v := .int .i64 ya0_0) rfl
  have kaH_4 := BxaH.out.cell (j := 4) (v := .int .i64 ya0_1) rfl
  have kaH_5 := BxaH.out.cell (j := 5) (v := .int .i64 ya0_2) rfl
  have kaH_6 := BxaH.out.cell (j := 6) (v := .int .i64 ya0_3) rfl
  have ta0_0 := (sa0_0.fr hF).drewN 1
  have ta0_1 := (sa0_1.fr hF).drewN 1
  have ta0_2 := (sa0_2.fr hF).drewN 1
  go_region_held3 (fun w' => w'.cell? ⟨w3.heap.size, 0, none⟩ = some (.slice p3_0 q3_0 r3_0) ∧ w'.cell? ⟨w3.heap.size, 1, none⟩ = some (.slice p3_1 q3_1 r3_1) ∧ w'.cell? ⟨w3.heap.size, 2, none⟩ = some (.slice p3_2 q3_2 r3_2) ∧ w'.cell? ⟨w3.heap.size, 3, none⟩ = some (.int .i64 (ya0_0)) ∧ w'.cell? ⟨w3.heap.size, 4, none⟩ = some (.int .i64 (ya0_1)) ∧ w'.cell? ⟨w3.heap.size, 5, none⟩ = some (.int .i64 (ya0_2)) ∧ w'.cell? ⟨w3.heap.size, 6, none⟩ = some (.int .i64 (ya0_3)) ∧ w'.cell? ⟨w.heap.size, 0, none⟩ = some (.slice pa0_0 qa0_0 ra0_0) ∧ w'.cell? ⟨w.heap.size, 1, none⟩ = some (.slice pa0_1 qa0_1 ra0_1) ∧ w'.cell? ⟨w.heap.size, 2, none⟩ = some (.slice pa0_2 qa0_2 ra0_2) ∧ w'.cell? ⟨w.heap.size, 3, none⟩ = some (.int .i64 ya0_0) ∧ w'.cell? ⟨w.heap.size, 4, none⟩ = some (.int .i64 ya0_1) ∧ w'.cell? ⟨w.heap.size, 5, none⟩ = some (.int .i64 ya0_2) ∧ w'.cell? ⟨w.heap.size, 6, none⟩ = some (.int .i64 ya0_3))
    (first
      | go_keep
      | (exact ⟨f7.keep (f6.keep kx0_0), f7.keep (f6.keep kx0_1), f7.keep (f6.keep kx0_2), f7.keep (f6.keep kx0_3), f7.keep (f6.keep kx0_4), f7.keep (f6.keep kx0_5), f7.keep (f6.keep kx0_6), f7.keep (f6.keep kaH_0), f7.keep (f6.keep kaH_1), f7.keep (f6.keep kaH_2), f7.keep (f6.keep kaH_3), f7.keep (f6.keep kaH_4), f7.keep (f6.keep kaH_5), f7.keep (f6.keep kaH_6)⟩)
      | (exact ⟨f6.keep kx0_0, f6.keep kx0_1, f6.keep kx0_2, f6.keep kx0_3, f6.keep kx0_4, f6.keep kx0_5, f6.keep kx0_6, f6.keep kaH_0, f6.keep kaH_1, f6.keep kaH_2, f6.keep kaH_3, f6.keep kaH_4, f6.keep kaH_5, f6.keep kaH_6⟩))
    (first
      | (go_at_call 17; refine (toHouse_any _ _ _ _ _ _ _ _ _ _ _ _ _ _ _ _ _ ta0_0 ta0_1 ta0_2 (by omega) (by omega) (by omega)).mono ?_; rintro e w6 ⟨p6_0, q6_0, r6_0, p6_1, q6_1, r6_1, p6_2, q6_2, r6_2, M6_0, M6_1, rfl, o6_0, o6_1, o6_2, l6_0, l6_1, y6_0, y6_1, y6_2, f6, e6_0, e6_1, e6_2⟩)
      | (go_at_call 19; refine (eqHouse_same _ _ _ _ _ _ _ _ _ _ _ _ _ _ _ _ _ _ _ _ _ _ _ _ _ _ ((o3_0.drewN 1).fr f6).sl ((o3_1.drewN 1).fr f6).sl ((o3_2.drewN 1).fr f6).sl o6_0.sl o6_1.sl o6_2.sl).mono ?_; rintro e w7 ⟨rfl, f7⟩))
  clear kx0_0 kx0_1 kx0_2 kx0_3 kx0_4 kx0_5 kx0_6 kaH_0 kaH_1 kaH_2 kaH_3 kaH_4 kaH_5 kaH_6 ta0_0 ta0_1 ta0_2
  have ff7 := ((Fr.drewN _ 1).trans f6).trans f7
  replace BxaH := Lib.hid (BxaH.out.fr ff7)
  replace Bxw0 := Lib.hid (Bxw0.out.fr ff7)
  replace Bxx0 := Lib.hid (Bxx0.out.fr ff7)
  replace Bxg0 := Lib.hid (Bxg0.out.fr ff7)
  replace o1_0 := o1_0.fr ff7
  replace o1_1 := o1_1.fr ff7
  replace o1_2 := o1_2.fr ff7
  replace o3_0 := o3_0.fr ff7
  replace o3_1 := o3_1.fr ff7
  replace o3_2 := o3_2.fr ff7
  have z7 := ff7.size
  replace hF := hF.trans ff7
  clear ff7 f6 f7 o6_0 o6_1 o6_2 l6_0 l6_1
  have kaH_0 := BxaH.out.cell (j := 0) (v := .slice pa0_0 qa0_0 ra0_0) rfl
  have kaH_1 := BxaH.out.cell (j := 1) (v := .slice pa0_1 qa0_1 ra0_1) rfl
  have kaH_2 := BxaH.out.cell (j := 2) (v := .slice pa0_2 qa0_2 ra0_2) rfl
  have kaH_3 := BxaH.out.cell (j := 3) (v := .int .i64 ya0_0) rfl
  have kaH_4 := BxaH.out.cell (j := 4) (v := .int .i64 ya0_1) rfl
  have kaH_5 := BxaH.out.cell (j := 5) (v := .int .i64 ya0_2) rfl
  have kaH_6 := BxaH.out.cell (j := 6) (v := .int .i64 ya0_3) rfl
  have kx0_0 := Bxx0.out.cell (j := 0) (v := .slice p3_0 q3_0 r3_0) rfl
  have kx0_1 := Bxx0.out.cell (j := 1) (v := .slice p3_1 q3_1 r3_1) rfl
  have kx0_2 := Bxx0.out.cell (j := 2) (v := .slice p3_2 q3_2 r3_2) rfl
  have kx0_3 := Bxx0.out.cell (j := 3) (v := .int .i64 (ya0_0)) rfl
  have kx0_4 := Bxx0.out.cell (j := 4) (v := .int .i64 (ya0_1)) rfl
  have kx0_5 := Bxx0.out.cell (j := 5) (v := .int .i64 (ya0_2)) rfl
  have kx0_6 := Bxx0.out.cell (j := 6) (v := .int .i64 (ya0_3)) rfl
  go_wp2_with fail
  go_ret
  exact ⟨rfl, hF⟩
end Go.Proofs.Ytojipjjfndgbhaa
