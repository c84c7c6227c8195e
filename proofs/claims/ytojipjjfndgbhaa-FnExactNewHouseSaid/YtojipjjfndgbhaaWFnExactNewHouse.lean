import Derived.Test.YtojipjjfndgbhaaNewHouse
import Derived.Deep.RegionHeld3
/- The walk of laws.FnExactNewHouse: the Go text returns true and writes to nothing that was there. -/
set_option linter.unusedVariables false
namespace Go.Proofs.Ytojipjjfndgbhaa
open Go.ChangeShapes Go.WideShapes Go.ChangeAt Go.RowKit

set_option maxRecDepth 100000 in
set_option maxHeartbeats 4000000 in
theorem walk_FnExactNewHouse (pa0_0 : Option Addr) (qa0_0 ra0_0 : Nat) (xa0_0 : List Int) (pa0_1 : Option Addr) (qa0_1 ra0_1 : Nat) (xa0_1 : List Int) (pa1_0 : Option Addr) (qa1_0 ra1_0 : Nat) (xa1_0 : List Int) (w : World) (sa0_0 : SL w pa0_0 qa0_0 ra0_0 xa0_0) (sa0_1 : SL w pa0_1 qa0_1 ra0_1 xa0_1) (sa1_0 : SL w pa1_0 qa1_0 ra1_0 xa1_0) :
    Calls Try.prog 4 #[.agg #[.slice pa0_0 qa0_0 ra0_0, .slice pa0_1 qa0_1 ra0_1], .slice pa1_0 qa1_0 ra1_0] w fun e w' => e = .returned (.bool true) ∧ Fr w w' := by
  have hF0 : Fr w (w.alloc (.cells #[.slice pa0_0 qa0_0 ra0_0, .slice pa0_1 qa0_1 ra0_1] 24)) := (Fr.refl w).alloc _
  have BxaT0 := Blk.new w #[.slice pa0_0 qa0_0 ra0_0, .slice pa0_1 qa0_1 ra0_1] 24
  have BxaT := Lib.hid BxaT0; clear BxaT0
  have na0_0 : qa0_0 ≤ 9223372036854775807 := by have := sa0_0.le; have := sa0_0.mx; omega
  have na0_1 : qa0_1 ≤ 9223372036854775807 := by have := sa0_1.le; have := sa0_1.mx; omega
  have na1_0 : qa1_0 ≤ 9223372036854775807 := by have := sa1_0.le; have := sa1_0.mx; omega
  by_cases hn1_0 : qa1_0 ≤ 1048576
  rotate_left
  · go_enter Try.func4, Try.ntmps4
    go_wp2_with fail
    go_ret
    exact ⟨rfl, hF0⟩
  by_cases hz0 : szT qa0_0 qa0_1 1048576 < 0
  · go_enter Try.func4, Try.ntmps4
    go_wp2_with fail
    refine (szTree_any _ _ _ _ _ _ _ _ na0_0 na0_1 (by omega) (by omega)).mono ?_
    rintro e v0 ⟨rfl, hv0⟩
    have hF1 := hF0.trans hv0
    go_wp2
    go_ret
    exact ⟨rfl, hF1⟩
  have hr0 := szT_rng qa0_0 qa0_1 1048576 (by omega)
  have hf0 := szT_fit hz0
  go_enter Try.func4, Try.ntmps4
  go_wp2_with fail
  refine (szTree_any _ _ _ _ _ _ _ _ na0_0 na0_1 (by omega) (by omega)).mono ?_
  rintro e v0 ⟨rfl, hv0⟩
  have hF1 := hF0.trans hv0
  replace BxaT := Lib.hid (BxaT.out.fr hv0)
  have hF := hF1
  have zz := hF.size
  have naT := BxaT.out.lt
  have HZ0 := Lib.hid hf0.2.2
  obtain ⟨hb0_0, hb0_1, -⟩ := hf0
  have kaT_0 := BxaT.out.cell (j := 0) (v := .slice pa0_0 qa0_0 ra0_0) rfl
  have kaT_1 := BxaT.out.cell (j := 1) (v := .slice pa0_1 qa0_1 ra0_1) rfl
  have hFx := hF
  go_wp2_with fail
  clear kaT_0 kaT_1
  refine (toTree_any _ _ _ _ _ _ _ _ _ (sa0_0.fr hFx) (sa0_1.fr hFx) (by omega) (by omega)).mono ?_
  rintro e w1 ⟨p1_0, q1_0, r1_0, p1_1, q1_1, r1_1, M1_0, rfl, o1_0, o1_1, l1_0, y1_0, y1_1, f1, e1_0, e1_1⟩
  replace BxaT := Lib.hid (BxaT.out.fr f1)
  have g1 := hF.size
  have z1 := f1.size
  replace hF := hF.trans f1
  clear f1
  have kaT_0 := BxaT.out.cell (j := 0) (v := .slice pa0_0 qa0_0 ra0_0) rfl
  have kaT_1 := BxaT.out.cell (j := 1) (v := .slice pa0_1 qa0_1 ra0_1) rfl
  clear hFx
  have l1_1 := o1_1.within
  have hFx := hF
  go_wp2_with fail
  clear kaT_0 kaT_1
  refine (toIntS_any _ _ _ _ _ (sa1_0.fr hFx) (by omega)).mono ?_
  rintro e w2 ⟨p2_0, q2_0, r2_0, rfl, o2_0, f2, e2_0⟩
  replace BxaT := Lib.hid (BxaT.out.fr f2)
  replace o1_0 := o1_0.fr f2
  replace o1_1 := o1_1.fr f2
  have g2 := hF.size
  have z2 := f2.size
  replace hF := hF.trans f2
  clear f2
  have kaT_0 := BxaT.out.cell (j := 0) (v := .slice pa0_0 qa0_0 ra0_0) rfl
  have kaT_1 := BxaT.out.cell (j := 1) (v := .slice pa0_1 qa0_1 ra0_1) rfl
  clear hFx
  have l2_0 := o2_0.within
  have hFx := hF
  go_wp2_with fail
  clear kaT_0 kaT_1
  refine (spec_NewHouse_any _ _ _ _ _ _ _ _ _ _ _ _ _ o1_0.sl o1_1.sl o2_0.sl).mono ?_
  rintro e w3 ⟨p3_0, q3_0, r3_0, p3_1, q3_1, r3_1, p3_2, q3_2, r3_2, M3_0, M3_1, rfl, o3_0, o3_1, o3_2, l3_0, l3_1, y3_0, y3_1, y3_2, f3, e3_0, e3_1, e3_2⟩
  replace BxaT := Lib.hid (BxaT.out.fr f3)
  replace o1_0 := o1_0.fr f3
  replace o1_1 := o1_1.fr f3
  replace o2_0 := o2_0.fr f3
  have g3 := hF.size
  have z3 := f3.size
  replace hF := hF.trans f3
  clear f3
  have kaT_0 := BxaT.out.cell (j := 0) (v := .slice pa0_0 qa0_0 ra0_0) rfl
  have kaT_1 := BxaT.out.cell (j := 1) (v := .slice pa0_1 qa0_1 ra0_1) rfl
  clear hFx
  have l3_2 := o3_2.within
  clear kaT_0 kaT_1
  have kaT_0 := (BxaT.out.alloc (.cells #[.slice p3_0 q3_0 r3_0, .slice p3_1 q3_1 r3_1, .slice p3_2 q3_2 r3_2, .int .i64 (0), .int .i64 (0), .int .i64 (0), .int .i64 (0)] 31)).cell (j := 0) (v := .slice pa0_0 qa0_0 ra0_0) rfl
  have kaT_1 := (BxaT.out.alloc (.cells #[.slice p3_0 q3_0 r3_0, .slice p3_1 q3_1 r3_1, .slice p3_2 q3_2 r3_2, .int .i64 (0), .int .i64 (0), .int .i64 (0), .int .i64 (0)] 31)).cell (j := 1) (v := .slice pa0_1 qa0_1 ra0_1) rfl
  have hFx := hF.alloc (.cells #[.slice p3_0 q3_0 r3_0, .slice p3_1 q3_1 r3_1, .slice p3_2 q3_2 r3_2, .int .i64 (0), .int .i64 (0), .int .i64 (0), .int .i64 (0)] 31)
  go_wp2_with fail
  clear kaT_0 kaT_1
  refine (toTree_any _ _ _ _ _ _ _ _ _ (sa0_0.fr hFx) (sa0_1.fr hFx) (by omega) (by omega)).mono ?_
  rintro e w4 ⟨p4_0, q4_0, r4_0, p4_1, q4_1, r4_1, M4_0, rfl, o4_0, o4_1, l4_0, y4_0, y4_1, f4, e4_0, e4_1⟩
  have Bxw0 := Lib.hid ((Blk.new w3 #[.slice p3_0 q3_0 r3_0, .slice p3_1 q3_1 r3_1, .slice p3_2 q3_2 r3_2, .int .i64 (0), .int .i64 (0), .int .i64 (0), .int .i64 (0)] 31).fr f4)
  have fx4 := ((Fr.refl _).alloc (.cells #[.slice p3_0 q3_0 r3_0, .slice p3_1 q3_1 r3_1, .slice p3_2 q3_2 r3_2, .int .i64 (0), .int .i64 (0), .int .i64 (0), .int .i64 (0)] 31)).trans f4
  have nw0 := Bxw0.out.lt
  have ha4 : w3.heap.size + 1 ≤ (w3.alloc (.cells #[.slice p3_0 q3_0 r3_0, .slice p3_1 q3_1 r3_1, .slice p3_2 q3_2 r3_2, .int .i64 (0), .int .i64 (0), .int .i64 (0), .int .i64 (0)] 31)).heap.size ∧ (w3.alloc (.cells #[.slice p3_0 q3_0 r3_0, .slice p3_1 q3_1 r3_1, .slice p3_2 q3_2 r3_2, .int .i64 (0), .int .i64 (0), .int .i64 (0), .int .i64 (0)] 31)).heap.size ≤ w3.heap.size + 1 := by simp
  have za4 := f4.size
  clear f4; have f4 := fx4; clear fx4
  replace BxaT := Lib.hid (BxaT.out.fr f4)
  replace o1_0 := o1_0.fr f4
  replace o1_1 := o1_1.fr f4
  replace o2_0 := o2_0.fr f4
  replace o3_0 := o3_0.fr f4
  replace o3_1 := o3_1.fr f4
  replace o3_2 := o3_2.fr f4
  have g4 := hF.size
  have z4 := f4.size
  replace hF := hF.trans f4
  clear f4
  have kaT_0 := BxaT.out.cell (j := 0) (v := .slice pa0_0 qa0_0 ra0_0) rfl
  have kaT_1 := BxaT.out.cell (j := 1) (v := .slice pa0_1 qa0_1 ra0_1) rfl
  have kw0_0 := Bxw0.out.cell (j := 0) (v := .slice p3_0 q3_0 r3_0) rfl
  have kw0_1 := Bxw0.out.cell (j := 1) (v := .slice p3_1 q3_1 r3_1) rfl
  have kw0_2 := Bxw0.out.cell (j := 2) (v := .slice p3_2 q3_2 r3_2) rfl
  have kw0_3 := Bxw0.out.cell (j := 3) (v := .int .i64 (0)) rfl
  have kw0_4 := Bxw0.out.cell (j := 4) (v := .int .i64 (0)) rfl
  have kw0_5 := Bxw0.out.cell (j := 5) (v := .int .i64 (0)) rfl
  have kw0_6 := Bxw0.out.cell (j := 6) (v := .int .i64 (0)) rfl
  clear hFx
  have l4_1 := o4_1.within
  clear kaT_0 kaT_1 kw0_0 kw0_1 kw0_2 kw0_3 kw0_4 kw0_5 kw0_6
  have kaT_0 := (BxaT.out.alloc (.cells #[.slice p4_0 q4_0 r4_0, .slice p4_1 q4_1 r4_1] 29)).cell (j := 0) (v := .slice pa0_0 qa0_0 ra0_0) rfl
  have kaT_1 := (BxaT.out.alloc (.cells #[.slice p4_0 q4_0 r4_0, .slice p4_1 q4_1 r4_1] 29)).cell (j := 1) (v := .slice pa0_1 qa0_1 ra0_1) rfl
  have kw0_0 := (Bxw0.out.alloc (.cells #[.slice p4_0 q4_0 r4_0, .slice p4_1 q4_1 r4_1] 29)).cell (j := 0) (v := .slice p3_0 q3_0 r3_0) rfl
  have kw0_1 := (Bxw0.out.alloc (.cells #[.slice p4_0 q4_0 r4_0, .slice p4_1 q4_1 r4_1] 29)).cell (j := 1) (v := .slice p3_1 q3_1 r3_1) rfl
  have kw0_2 := (Bxw0.out.alloc (.cells #[.slice p4_0 q4_0 r4_0, .slice p4_1 q4_1 r4_1] 29)).cell (j := 2) (v := .slice p3_2 q3_2 r3_2) rfl
  have kw0_3 := (Bxw0.out.alloc (.cells #[.slice p4_0 q4_0 r4_0, .slice p4_1 q4_1 r4_1] 29)).cell (j := 3) (v := .int .i64 (0)) rfl
  have kw0_4 := (Bxw0.out.alloc (.cells #[.slice p4_0 q4_0 r4_0, .slice p4_1 q4_1 r4_1] 29)).cell (j := 4) (v := .int .i64 (0)) rfl
  have kw0_5 := (Bxw0.out.alloc (.cells #[.slice p4_0 q4_0 r4_0, .slice p4_1 q4_1 r4_1] 29)).cell (j := 5) (v := .int .i64 (0)) rfl
  have kw0_6 := (Bxw0.out.alloc (.cells #[.slice p4_0 q4_0 r4_0, .slice p4_1 q4_1 r4_1] 29)).cell (j := 6) (v := .int .i64 (0)) rfl
  have hFx := hF.alloc (.cells #[.slice p4_0 q4_0 r4_0, .slice p4_1 q4_1 r4_1] 29)
  go_wp2_with fail
  clear kaT_0 kaT_1 kw0_0 kw0_1 kw0_2 kw0_3 kw0_4 kw0_5 kw0_6
  refine (toIntS_any _ _ _ _ _ (sa1_0.fr hFx) (by omega)).mono ?_
  rintro e w5 ⟨p5_0, q5_0, r5_0, rfl, o5_0, f5, e5_0⟩
  have Bxx0 := Lib.hid ((Blk.new w4 #[.slice p4_0 q4_0 r4_0, .slice p4_1 q4_1 r4_1] 29).fr f5)
  have fx5 := ((Fr.refl _).alloc (.cells #[.slice p4_0 q4_0 r4_0, .slice p4_1 q4_1 r4_1] 29)).trans f5
  have nx0 := Bxx0.out.lt
  have ha5 : w4.heap.size + 1 ≤ (w4.alloc (.cells #[.slice p4_0 q4_0 r4_0, .slice p4_1 q4_1 r4_1] 29)).heap.size ∧ (w4.alloc (.cells #[.slice p4_0 q4_0 r4_0, .slice p4_1 q4_1 r4_1] 29)).heap.size ≤ w4.heap.size + 1 := by simp
  have za5 := f5.size
  clear f5; have f5 := fx5; clear fx5
  replace BxaT := Lib.hid (BxaT.out.fr f5)
  replace Bxw0 := Lib.hid (Bxw0.out.fr f5)
  replace o1_0 := o1_0.fr f5
  replace o1_1 := o1_1.fr f5
  replace o2_0 := o2_0.fr f5
  replace o3_0 := o3_0.fr f5
  replace o3_1 := o3_1.fr f5
  replace o3_2 := o3_2.fr f5
  replace o4_0 := o4_0.fr f5
  replace o4_1 := o4_1.fr f5
  have g5 := hF.size
  have z5 := f5.size
  replace hF := hF.trans f5
  clear f5
  have kaT_0 := BxaT.out.cell (j := 0) (v := .slice pa0_0 qa0_0 ra0_0) rfl
  have kaT_1 := BxaT.out.cell (j := 1) (v := .slice pa0_1 qa0_1 ra0_1) rfl
  have kw0_0 := Bxw0.out.cell (j := 0) (v := .slice p3_0 q3_0 r3_0) rfl
  have kw0_1 := Bxw0.out.cell (j := 1) (v := .slice p3_1 q3_1 r3_1) rfl
  have kw0_2 := Bxw0.out.cell (j := 2) (v := .slice p3_2 q3_2 r3_2) rfl
  have kw0_3 := Bxw0.out.cell (j := 3) (v := .int .i64 (0)) rfl
  have kw0_4 := Bxw0.out.cell (j := 4) (v := .int .i64 (0)) rfl
  have kw0_5 := Bxw0.out.cell (j := 5) (v := .int .i64 (0)) rfl
  have kw0_6 := Bxw0.out.cell (j := 6) (v := .int .i64 (0)) rfl
  have kx0_0 := Bxx0.out.cell (j := 0) (v := .slice p4_0 q4_0 r4_0) rfl
  have kx0_1 := Bxx0.out.cell (j := 1) (v := .slice p4_1 q4_1 r4_1) rfl
  clear hFx
  have l5_0 := o5_0.within
  have hFx := hF
  go_wp2_with fail
  clear kaT_0 kaT_1 kw0_0 kw0_1 kw0_2 kw0_3 kw0_4 kw0_5 kw0_6 kx0_0 kx0_1
  refine (impl_NewHouse_any _ _ _ _ _ _ _ _ _ _ _ _ _ o4_0.sl o4_1.sl o5_0.sl).mono ?_
  rintro e w6 ⟨p6_0, q6_0, r6_0, p6_1, q6_1, r6_1, p6_2, q6_2, r6_2, M6_0, M6_1, rfl, o6_0, o6_1, o6_2, l6_0, l6_1, y6_0, y6_1, y6_2, f6, e6_0, e6_1, e6_2⟩
  replace BxaT := Lib.hid (BxaT.out.fr f6)
  replace Bxw0 := Lib.hid (Bxw0.out.fr f6)
  replace Bxx0 := Lib.hid (Bxx0.out.fr f6)
  replace o1_0 := o1_0.fr f6
  replace o1_1 := o1_1.fr f6
  replace o2_0 := o2_0.fr f6
  replace o3_0 := o3_0.fr f6
  replace o3_1 := o3_1.fr f6
  replace o3_2 := o3_2.fr f6
  replace o4_0 := o4_0.fr f6
  replace o4_1 := o4_1.fr f6
  replace o5_0 := o5_0.fr f6
  have g6 := hF.size
  have z6 := f6.size
  replace hF := hF.trans f6
  clear f6
  have kaT_0 := BxaT.out.cell (j := 0) (v := .slice pa0_0 qa0_0 ra0_0) rfl
  have kaT_1 := BxaT.out.cell (j := 1) (v := .slice pa0_1 qa0_1 ra0_1) rfl
  have kw0_0 := Bxw0.out.cell (j := 0) (v := .slice p3_0 q3_0 r3_0) rfl
  have kw0_1 := Bxw0.out.cell (j := 1) (v := .slice p3_1 q3_1 r3_1) rfl
  have kw0_2 := Bxw0.out.cell (j := 2) (v := .slice p3_2 q3_2 r3_2) rfl
  have kw0_3 := Bxw0.out.cell (j := 3) (v := .int .i64 (0)) rfl
  have kw0_4 := Bxw0.out.cell (j := 4) (v := .int .i64 (0)) rfl
  have kw0_5 := Bxw0.out.cell (j := 5) (v := .int .i64 (0)) rfl
  have kw0_6 := Bxw0.out.cell (j := 6) (v := .int .i64 (0)) rfl
  have kx0_0 := Bxx0.out.cell (j := 0) (v := .slice p4_0 q4_0 r4_0) rfl
  have kx0_1 := Bxx0.out.cell (j := 1) (v := .slice p4_1 q4_1 r4_1) rfl
  clear hFx
  have l6_2 := o6_2.within
  clear kaT_0 kaT_1 kw0_0 kw0_1 kw0_2 kw0_3 kw0_4 kw0_5 kw0_6 kx0_0 kx0_1
  have kaT_0 := (BxaT.out.alloc (.cells #[.slice p6_0 q6_0 r6_0, .slice p6_1 q6_1 r6_1, .slice p6_2 q6_2 r6_2, .int .i64 (0), .int .i64 (0), .int .i64 (0), .int .i64 (0)] 31)).cell (j := 0) (v := .slice pa0_0 qa0_0 ra0_0) rfl
  have kaT_1 := (BxaT.out.alloc (.cells #[.slice p6_0 q6_0 r6_0, .slice p6_1 q6_1 r6_1, .slice p6_2 q6_2 r6_2, .int .i64 (0), .int .i64 (0), .int .i64 (0), .int .i64 (0)] 31)).cell (j := 1) (v := .slice pa0_1 qa0_1 ra0_1) rfl
  have kw0_0 := (Bxw0.out.alloc (.cells #[.slice p6_0 q6_0 r6_0, .slice p6_1 q6_1 r6_1, .slice p6_2 q6_2 r6_2, .int .i64 (0), .int .i64 (0), .int .i64 (0), .int .i64 (0)] 31)).cell (j := 0) (v := .slice p3_0 q3_0 r3_0) rfl
  have kw0_1 := (Bxw0.out.alloc (.cells #[.slice p6_0 q6_0 r6_0, .slice p6_1 q6_1 r6_1, .slice p6_2 q6_2 r6_2, .int .i64 (0), .int .i64 (0), .int .i64 (0), .int .i64 (0)] 31)).cell (j := 1) (v := .slice p3_1 q3_1 r3_1) rfl
  have kw0_2 := (Bxw0.out.alloc (.cells #[.slice p6_0 q6_0 r6_0, .slice p6_1 q6_1 r6_1, .slice p6_2 q6_2 r6_2, .int .i64 (0), .int .i64 (0), .int .i64 (0), .int .i64 (0)] 31)).cell (j := 2) (v := .slice p3_2 q3_2 r3_2) rfl
  have kw0_3 := (Bxw0.out.alloc (.cells #[.slice p6_0 q6_0 r6_0, .slice p6_1 q6_1 r6_1, .slice p6_2 q6_2 r6_2, .int .i64 (0), .int .i64 (0), .int .i64 (0), .int .i64 (0)] 31)).cell (j := 3) (v := .int .i64 (0)) rfl
  have kw0_4 := (Bxw0.out.alloc (.cells #[.slice p6_0 q6_0 r6_0, .slice p6_1 q6_1 r6_1, .slice p6_2 q6_2 r6_2, .int .i64 (0), .int .i64 (0), .int .i64 (0), .int .i64 (0)] 31)).cell (j := 4) (v := .int .i64 (0)) rfl
  have kw0_5 := (Bxw0.out.alloc (.cells #[.slice p6_0 q6_0 r6_0, .slice p6_1 q6_1 r6_1, .slice p6_2 q6_2 r6_2, .int .i64 (0), .int .i64 (0), .int .i64 (0), .int .i64 (0)] 31)).cell (j := 5) (v := .int .i64 (0)) rfl
  have kw0_6 := (Bxw0.out.alloc (.cells #[.slice p6_0 q6_0 r6_0, .slice p6_1 q6_1 r6_1, .slice p6_2 q6_2 r6_2, .int .i64 (0), .int .i64 (0), .int .i64 (0), .int .i64 (0)] 31)).cell (j := 6) (v := .int .i64 (0)) rfl
  have kx0_0 := (Bxx0.out.alloc (.cells #[.slice p6_0 q6_0 r6_0, .slice p6_1 q6_1 r6_1, .slice p6_2 q6_2 r6_2, .int .i64 (0), .int .i64 (0), .int .i64 (0), .int .i64 (0)] 31)).cell (j := 0) (v := .slice p4_0 q4_0 r4_0) rfl
  have kx0_1 := (Bxx0.out.alloc (.cells #[.slice p6_0 q6_0 r6_0, .slice p6_1 q6_1 r6_1, .slice p6_2 q6_2 r6_2, .int .i64 (0), .int .i64 (0), .int .i64 (0), .int .i64 (0)] 31)).cell (j := 1) (v := .slice p4_1 q4_1 r4_1) rfl
  have hFx := hF.alloc (.cells #[.slice p6_0 q6_0 r6_0, .slice p6_1 q6_1 r6_1, .slice p6_2 q6_2 r6_2, .int .i64 (0), .int .i64 (0), .int .i64 (0), .int .i64 (0)] 31)
  go_wp2_with fail
  clear kaT_0 kaT_1 kw0_0 kw0_1 kw0_2 kw0_3 kw0_4 kw0_5 kw0_6 kx0_0 kx0_1
  refine (eqHouse_same _ _ _ _ _ _ _ _ _ _ _ _ _ _ _ _ _ _ _ _ _ _ _ _ _ _ (o6_0.fr ((Fr.refl _).alloc _)).sl (o6_1.fr ((Fr.refl _).alloc _)).sl (o6_2.fr ((Fr.refl _).alloc _)).sl (o3_0.fr ((Fr.refl _).alloc _)).sl (o3_1.fr ((Fr.refl _).alloc _)).sl (o3_2.fr ((Fr.refl _).alloc _)).sl).mono ?_
  rintro e w7 ⟨rfl, f7⟩
  have Bxg0 := Lib.hid ((Blk.new w6 #[.slice p6_0 q6_0 r6_0, .slice p6_1 q6_1 r6_1, .slice p6_2 q6_2 r6_2, .int .i64 (0), .int .i64 (0), .int .i64 (0), .int .i64 (0)] 31).fr f7)
  have fx7 := ((Fr.refl _).alloc (.cells #[.slice p6_0 q6_0 r6_0, .slice p6_1 q6_1 r6_1, .slice p6_2 q6_2 r6_2, .int .i64 (0), .int .i64 (0), .int .i64 (0), .int .i64 (0)] 31)).trans f7
  have ng0 := Bxg0.out.lt
  have ha7 : w6.heap.size + 1 ≤ (w6.alloc (.cells #[.slice p6_0 q6_0 r6_0, .slice p6_1 q6_1 r6_1, .slice p6_2 q6_2 r6_2, .int .i64 (0), .int .i64 (0), .int .i64 (0), .int .i64 (0)] 31)).heap.size ∧ (w6.alloc (.cells #[.slice p6_0 q6_0 r6_0, .slice p6_1 q6_1 r6_1, .slice p6_2 q6_2 r6_2, .int .i64 (0), .int .i64 (0), .int .i64 (0), .int .i64 (0)] 31)).heap.size ≤ w6.heap.size + 1 := by simp
  have za7 := f7.size
  clear f7; have f7 := fx7; clear fx7
  replace BxaT := Lib.hid (BxaT.out.fr f7)
  replace Bxw0 := Lib.hid (Bxw0.out.fr f7)
  replace Bxx0 := Lib.hid (Bxx0.out.fr f7)
  replace o1_0 := o1_0.fr f7
  replace o1_1 := o1_1.fr f7
  replace o2_0 := o2_0.fr f7
  replace o3_0 := o3_0.fr f7
  replace o3_1 := o3_1.fr f7
  replace o3_2 := o3_2.fr f7
  replace o4_0 := o4_0.fr f7
  replace o4_1 := o4_1.fr f7
  replace o5_0 := o5_0.fr f7
  replace o6_0 := o6_0.fr f7
  replace o6_1 := o6_1.fr f7
  replace o6_2 := o6_2.fr f7
  have z7 := f7.size
  replace hF := hF.trans f7
  clear f7
  have kaT_0 := BxaT.out.cell (j := 0) (v := .slice pa0_0 qa0_0 ra0_0) rfl
  have kaT_1 := BxaT.out.cell (j := 1) (v := .slice pa0_1 qa0_1 ra0_1) rfl
  have kw0_0 := Bxw0.out.cell (j := 0) (v := .slice p3_0 q3_0 r3_0) rfl
  have kw0_1 := Bxw0.out.cell (j := 1) (v := .slice p3_1 q3_1 r3_1) rfl
  have kw0_2 := Bxw0.out.cell (j := 2) (v := .slice p3_2 q3_2 r3_2) rfl
  have kw0_3 := Bxw0.out.cell (j := 3) (v := .int .i64 (0)) rfl
  have kw0_4 := Bxw0.out.cell (j := 4) (v := .int .i64 (0)) rfl
  have kw0_5 := Bxw0.out.cell (j := 5) (v := .int .i64 (0)) rfl
  have kw0_6 := Bxw0.out.cell (j := 6) (v := .int .i64 (0)) rfl
  have kx0_0 := Bxx0.out.cell (j := 0) (v := .slice p4_0 q4_0 r4_0) rfl
  have kx0_1 := Bxx0.out.cell (j := 1) (v := .slice p4_1 q4_1 r4_1) rfl
  have kg0_0 := Bxg0.out.cell (j := 0) (v := .slice p6_0 q6_0 r6_0) rfl
  have kg0_1 := Bxg0.out.cell (j := 1) (v := .slice p6_1 q6_1 r6_1) rfl
  have kg0_2 := Bxg0.out.cell (j := 2) (v := .slice p6_2 q6_2 r6_2) rfl
  have kg0_3 := Bxg0.out.cell (j := 3) (v := .int .i64 (0)) rfl
  have kg0_4 := Bxg0.out.cell (j := 4) (v := .int .i64 (0)) rfl
  have kg0_5 := Bxg0.out.cell (j := 5) (v := .int .i64 (0)) rfl
  have kg0_6 := Bxg0.out.cell (j := 6) (v := .int .i64 (0)) rfl
  clear hFx
  go_wp2
  clear kaT_0 kaT_1 kw0_0 kw0_1 kw0_2 kw0_3 kw0_4 kw0_5 kw0_6 kx0_0 kx0_1 kg0_0 kg0_1 kg0_2 kg0_3 kg0_4 kg0_5 kg0_6
  have kx0_0 := Bxx0.out.cell (j := 0) (v := .slice p4_0 q4_0 r4_0) rfl
  have kx0_1 := Bxx0.out.cell (j := 1) (v := .slice p4_1 q4_1 r4_1) rfl
  have kaT_0 := BxaT.out.cell (j := 0) (v := .slice pa0_0 qa0_0 ra0_0) rfl
  have kaT_1 := BxaT.out.cell (j := 1) (v := .slice pa0_1 qa0_1 ra0_1) rfl
  have ta0_0 := (sa0_0.fr hF).drewN 1
  have ta0_1 := (sa0_1.fr hF).drewN 1
  go_region_held3 (fun w' => w'.cell? ⟨w4.heap.size, 0, none⟩ = some (.slice p4_0 q4_0 r4_0) ∧ w'.cell? ⟨w4.heap.size, 1, none⟩ = some (.slice p4_1 q4_1 r4_1) ∧ w'.cell? ⟨w.heap.size, 0, none⟩ = some (.slice pa0_0 qa0_0 ra0_0) ∧ w'.cell? ⟨w.heap.size, 1, none⟩ = some (.slice pa0_1 qa0_1 ra0_1))
    (first
      | go_keep
      | (exact ⟨f9.keep (f8.keep kx0_0), f9.keep (f8.keep kx0_1), f9.keep (f8.keep kaT_0), f9.keep (f8.keep kaT_1)⟩)
      | (exact ⟨f8.keep kx0_0, f8.keep kx0_1, f8.keep kaT_0, f8.keep kaT_1⟩))
    (first
      | (go_at_call 22; refine (toTree_any _ _ _ _ _ _ _ _ _ ta0_0 ta0_1 (by omega) (by omega)).mono ?_; rintro e w8 ⟨p8_0, q8_0, r8_0, p8_1, q8_1, r8_1, M8_0, rfl, o8_0, o8_1, l8_0, y8_0, y8_1, f8, e8_0, e8_1⟩)
      | (go_at_call 25; refine (eqTree_same _ _ _ _ _ _ _ _ _ _ _ _ _ _ _ ((o4_0.drewN 1).fr f8).sl ((o4_1.drewN 1).fr f8).sl o8_0.sl o8_1.sl).mono ?_; rintro e w9 ⟨rfl, f9⟩))
  clear kx0_0 kx0_1 kaT_0 kaT_1 ta0_0 ta0_1
  have ff9 := ((Fr.drewN _ 1).trans f8).trans f9
  replace BxaT := Lib.hid (BxaT.out.fr ff9)
  replace Bxw0 := Lib.hid (Bxw0.out.fr ff9)
  replace Bxx0 := Lib.hid (Bxx0.out.fr ff9)
  replace Bxg0 := Lib.hid (Bxg0.out.fr ff9)
  replace o1_0 := o1_0.fr ff9
  replace o1_1 := o1_1.fr ff9
  replace o2_0 := o2_0.fr ff9
  replace o3_0 := o3_0.fr ff9
  replace o3_1 := o3_1.fr ff9
  replace o3_2 := o3_2.fr ff9
  replace o4_0 := o4_0.fr ff9
  replace o4_1 := o4_1.fr ff9
  replace o5_0 := o5_0.fr ff9
  replace o6_0 := o6_0.fr ff9
  replace o6_1 := o6_1.fr ff9
  replace o6_2 := o6_2.fr ff9
  have z9 := ff9.size
  replace hF := hF.trans ff9
  clear ff9 f8 f9 o8_0 o8_1 l8_0
  have kaT_0 := BxaT.out.cell (j := 0) (v := .slice pa0_0 qa0_0 ra0_0) rfl
  have kaT_1 := BxaT.out.cell (j := 1) (v := .slice pa0_1 qa0_1 ra0_1) rfl
  have kw0_0 := Bxw0.out.cell (j := 0) (v := .slice p3_0 q3_0 r3_0) rfl
  have kw0_1 := Bxw0.out.cell (j := 1) (v := .slice p3_1 q3_1 r3_1) rfl
  have kw0_2 := Bxw0.out.cell (j := 2) (v := .slice p3_2 q3_2 r3_2) rfl
  have kw0_3 := Bxw0.out.cell (j := 3) (v := .int .i64 (0)) rfl
  have kw0_4 := Bxw0.out.cell (j := 4) (v := .int .i64 (0)) rfl
  have kw0_5 := Bxw0.out.cell (j := 5) (v := .int .i64 (0)) rfl
  have kw0_6 := Bxw0.out.cell (j := 6) (v := .int .i64 (0)) rfl
  have kx0_0 := Bxx0.out.cell (j := 0) (v := .slice p4_0 q4_0 r4_0) rfl
  have kx0_1 := Bxx0.out.cell (j := 1) (v := .slice p4_1 q4_1 r4_1) rfl
  have kg0_0 := Bxg0.out.cell (j := 0) (v := .slice p6_0 q6_0 r6_0) rfl
  have kg0_1 := Bxg0.out.cell (j := 1) (v := .slice p6_1 q6_1 r6_1) rfl
  have kg0_2 := Bxg0.out.cell (j := 2) (v := .slice p6_2 q6_2 r6_2) rfl
  have kg0_3 := Bxg0.out.cell (j := 3) (v := .int .i64 (0)) rfl
  have kg0_4 := Bxg0.out.cell (j := 4) (v := .int .i64 (0)) rfl
  have kg0_5 := Bxg0.out.cell (j := 5) (v := .int .i64 (0)) rfl
  have kg0_6 := Bxg0.out.cell (j := 6) (v := .int .i64 (0)) rfl
  have hFx := hF
  go_wp2_with fail
  clear kaT_0 kaT_1 kw0_0 kw0_1 kw0_2 kw0_3 kw0_4 kw0_5 kw0_6 kx0_0 kx0_1 kg0_0 kg0_1 kg0_2 kg0_3 kg0_4 kg0_5 kg0_6
  refine (toIntS_any _ _ _ _ _ (sa1_0.fr hFx) (by omega)).mono ?_
  rintro e w10 ⟨p10_0, q10_0, r10_0, rfl, o10_0, f10, e10_0⟩
  replace BxaT := Lib.hid (BxaT.out.fr f10)
  replace Bxw0 := Lib.hid (Bxw0.out.fr f10)
  replace Bxx0 := Lib.hid (Bxx0.out.fr f10)
  replace Bxg0 := Lib.hid (Bxg0.out.fr f10)
  replace o1_0 := o1_0.fr f10
  replace o1_1 := o1_1.fr f10
  replace o2_0 := o2_0.fr f10
  replace o3_0 := o3_0.fr f10
  replace o3_1 := o3_1.fr f10
  replace o3_2 := o3_2.fr f10
  replace o4_0 := o4_0.fr f10
  replace o4_1 := o4_1.fr f10
  replace o5_0 := o5_0.fr f10
  replace o6_0 := o6_0.fr f10
  replace o6_1 := o6_1.fr f10
  replace o6_2 := o6_2.fr f10
  have g10 := hF.size
  have z10 := f10.size
  replace hF := hF.trans f10
  clear f10
  have kaT_0 := BxaT.out.cell (j := 0) (v := .slice pa0_0 qa0_0 ra0_0) rfl
  have kaT_1 := BxaT.out.cell (j := 1) (v := .slice pa0_1 qa0_1 ra0_1) rfl
  have kw0_0 := Bxw0.out.cell (j := 0) (v := .slice p3_0 q3_0 r3_0) rfl
  have kw0_1 := Bxw0.out.cell (j := 1) (v := .slice p3_1 q3_1 r3_1) rfl
  have kw0_2 := Bxw0.out.cell (j := 2) (v := .slice p3_2 q3_2 r3_2) rfl
  have kw0_3 := Bxw0.out.cell (j := 3) (v := .int .i64 (0)) rfl
  have kw0_4 := Bxw0.out.cell (j := 4) (v := .int .i64 (0)) rfl
  have kw0_5 := Bxw0.out.cell (j := 5) (v := .int .i64 (0)) rfl
  have kw0_6 := Bxw0.out.cell (j := 6) (v := .int .i64 (0)) rfl
  have kx0_0 := Bxx0.out.cell (j := 0) (v := .slice p4_0 q4_0 r4_0) rfl
  have kx0_1 := Bxx0.out.cell (j := 1) (v := .slice p4_1 q4_1 r4_1) rfl
  have kg0_0 := Bxg0.out.cell (j := 0) (v := .slice p6_0 q6_0 r6_0) rfl
  have kg0_1 := Bxg0.out.cell (j := 1) (v := .slice p6_1 q6_1 r6_1) rfl
  have kg0_2 := Bxg0.out.cell (j := 2) (v := .slice p6_2 q6_2 r6_2) rfl
  have kg0_3 := Bxg0.out.cell (j := 3) (v := .int .i64 (0)) rfl
  have kg0_4 := Bxg0.out.cell (j := 4) (v := .int .i64 (0)) rfl
  have kg0_5 := Bxg0.out.cell (j := 5) (v := .int .i64 (0)) rfl
  have kg0_6 := Bxg0.out.cell (j := 6) (v := .int .i64 (0)) rfl
  clear hFx
  have l10_0 := o10_0.within
  have hFx := hF
  go_wp2_with fail
  clear kaT_0 kaT_1 kw0_0 kw0_1 kw0_2 kw0_3 kw0_4 kw0_5 kw0_6 kx0_0 kx0_1 kg0_0 kg0_1 kg0_2 kg0_3 kg0_4 kg0_5 kg0_6
  refine (eqIntS_any _ _ _ _ _ _ _ _ _ o5_0.sl o10_0.sl).mono ?_
  rintro e w11 ⟨rfl, f11⟩
  replace BxaT := Lib.hid (BxaT.out.fr f11)
  replace Bxw0 := Lib.hid (Bxw0.out.fr f11)
  replace Bxx0 := Lib.hid (Bxx0.out.fr f11)
  replace Bxg0 := Lib.hid (Bxg0.out.fr f11)
  replace o1_0 := o1_0.fr f11
  replace o1_1 := o1_1.fr f11
  replace o2_0 := o2_0.fr f11
  replace o3_0 := o3_0.fr f11
  replace o3_1 := o3_1.fr f11
  replace o3_2 := o3_2.fr f11
  replace o4_0 := o4_0.fr f11
  replace o4_1 := o4_1.fr f11
  replace o5_0 := o5_0.fr f11
  replace o6_0 := o6_0.fr f11
  replace o6_1 := o6_1.fr f11
  replace o6_2 := o6_2.fr f11
  replace o10_0 := o10_0.fr f11
  have z11 := f11.size
  replace hF := hF.trans f11
  clear f11
  have kaT_0 := BxaT.out.cell (j := 0) (v := .slice pa0_0 qa0_0 ra0_0) rfl
  have kaT_1 := BxaT.out.cell (j := 1) (v := .slice pa0_1 qa0_1 ra0_1) rfl
  have kw0_0 := Bxw0.out.cell (j := 0) (v := .slice p3_0 q3_0 r3_0) rfl
  have kw0_1 := Bxw0.out.cell (j := 1) (v := .slice p3_1 q3_1 r3_1) rfl
  have kw0_2 := Bxw0.out.cell (j := 2) (v := .slice p3_2 q3_2 r3_2) rfl
  have kw0_3 := Bxw0.out.cell (j := 3) (v := .int .i64 (0)) rfl
  have kw0_4 := Bxw0.out.cell (j := 4) (v := .int .i64 (0)) rfl
  have kw0_5 := Bxw0.out.cell (j := 5) (v := .int .i64 (0)) rfl
  have kw0_6 := Bxw0.out.cell (j := 6) (v := .int .i64 (0)) rfl
  have kx0_0 := Bxx0.out.cell (j := 0) (v := .slice p4_0 q4_0 r4_0) rfl
  have kx0_1 := Bxx0.out.cell (j := 1) (v := .slice p4_1 q4_1 r4_1) rfl
  have kg0_0 := Bxg0.out.cell (j := 0) (v := .slice p6_0 q6_0 r6_0) rfl
  have kg0_1 := Bxg0.out.cell (j := 1) (v := .slice p6_1 q6_1 r6_1) rfl
  have kg0_2 := Bxg0.out.cell (j := 2) (v := .slice p6_2 q6_2 r6_2) rfl
  have kg0_3 := Bxg0.out.cell (j := 3) (v := .int .i64 (0)) rfl
  have kg0_4 := Bxg0.out.cell (j := 4) (v := .int .i64 (0)) rfl
  have kg0_5 := Bxg0.out.cell (j := 5) (v := .int .i64 (0)) rfl
  have kg0_6 := Bxg0.out.cell (j := 6) (v := .int .i64 (0)) rfl
  clear hFx
  go_wp2_with fail
  clear kaT_0 kaT_1 kw0_0 kw0_1 kw0_2 kw0_3 kw0_4 kw0_5 kw0_6 kx0_0 kx0_1 kg0_0 kg0_1 kg0_2 kg0_3 kg0_4 kg0_5 kg0_6
  refine (markTree_any _ _ _ _ _ _ _ _ _ _ _ _ 1 o4_0 o4_1 l4_0 l4_1 (by omega) (by omega) (by omega) (by omega) (by omega) (by omega) (by omega)).mono ?_
  rintro e w12 ⟨rfl, oo0, oo1, G12⟩
  replace BxaT := Lib.hid (BxaT.out.skipIn G12 (by omega))
  replace Bxw0 := Lib.hid (Bxw0.out.skipIn G12 (by omega))
  replace Bxx0 := Lib.hid (Bxx0.out.skipIn G12 (by omega))
  replace Bxg0 := Lib.hid (Bxg0.out.skipIn G12 (by omega))
  replace o1_0 := o1_0.skipSS G12 l1_0 (by omega)
  replace o1_1 := o1_1.skipSS G12 l1_1 (by omega)
  replace o2_0 := o2_0.skipSS G12 l2_0 (by omega)
  replace o3_0 := o3_0.skipSS G12 l3_0 (by omega)
  replace o3_1 := o3_1.skipSS G12 l3_1 (by omega)
  replace o3_2 := o3_2.skipSS G12 l3_2 (by omega)
  replace o5_0 := o5_0.skipSS G12 l5_0 (by omega)
  replace o6_0 := o6_0.skipSS G12 l6_0 (by omega)
  replace o6_1 := o6_1.skipSS G12 l6_1 (by omega)
  replace o6_2 := o6_2.skipSS G12 l6_2 (by omega)
  replace o10_0 := o10_0.skipSS G12 l10_0 (by omega)
  have z12 := G12.size
  replace hF := hF.grownSS G12 (by omega)
  clear G12 o4_0 o4_1
  have o4_0 := oo0
  clear oo0
  have o4_1 := oo1
  clear oo1
  have kaT_0 := BxaT.out.cell (j := 0) (v := .slice pa0_0 qa0_0 ra0_0) rfl
  have kaT_1 := BxaT.out.cell (j := 1) (v := .slice pa0_1 qa0_1 ra0_1) rfl
  have kw0_0 := Bxw0.out.cell (j := 0) (v := .slice p3_0 q3_0 r3_0) rfl
  have kw0_1 := Bxw0.out.cell (j := 1) (v := .slice p3_1 q3_1 r3_1) rfl
  have kw0_2 := Bxw0.out.cell (j := 2) (v := .slice p3_2 q3_2 r3_2) rfl
  have kw0_3 := Bxw0.out.cell (j := 3) (v := .int .i64 (0)) rfl
  have kw0_4 := Bxw0.out.cell (j := 4) (v := .int .i64 (0)) rfl
  have kw0_5 := Bxw0.out.cell (j := 5) (v := .int .i64 (0)) rfl
  have kw0_6 := Bxw0.out.cell (j := 6) (v := .int .i64 (0)) rfl
  have kx0_0 := Bxx0.out.cell (j := 0) (v := .slice p4_0 q4_0 r4_0) rfl
  have kx0_1 := Bxx0.out.cell (j := 1) (v := .slice p4_1 q4_1 r4_1) rfl
  have kg0_0 := Bxg0.out.cell (j := 0) (v := .slice p6_0 q6_0 r6_0) rfl
  have kg0_1 := Bxg0.out.cell (j := 1) (v := .slice p6_1 q6_1 r6_1) rfl
  have kg0_2 := Bxg0.out.cell (j := 2) (v := .slice p6_2 q6_2 r6_2) rfl
  have kg0_3 := Bxg0.out.cell (j := 3) (v := .int .i64 (0)) rfl
  have kg0_4 := Bxg0.out.cell (j := 4) (v := .int .i64 (0)) rfl
  have kg0_5 := Bxg0.out.cell (j := 5) (v := .int .i64 (0)) rfl
  have kg0_6 := Bxg0.out.cell (j := 6) (v := .int .i64 (0)) rfl
  go_wp2_with fail
  clear kaT_0 kaT_1 kw0_0 kw0_1 kw0_2 kw0_3 kw0_4 kw0_5 kw0_6 kx0_0 kx0_1 kg0_0 kg0_1 kg0_2 kg0_3 kg0_4 kg0_5 kg0_6
  refine (markIntS_any _ _ _ _ _ _ (1 + (q4_0 : Int) + (q4_1 : Int)) o5_0 (by omega) (by omega) (by omega)).mono ?_
  rintro e w13 ⟨rfl, oo0, gm⟩
  have G13 := GrownIn.of gm l5_0
  clear gm
  replace BxaT := Lib.hid (BxaT.out.skipIn G13 (by omega))
  replace Bxw0 := Lib.hid (Bxw0.out.skipIn G13 (by omega))
  replace Bxx0 := Lib.hid (Bxx0.out.skipIn G13 (by omega))
  replace Bxg0 := Lib.hid (Bxg0.out.skipIn G13 (by omega))
  replace o1_0 := o1_0.skipSS G13 l1_0 (by omega)
  replace o1_1 := o1_1.skipSS G13 l1_1 (by omega)
  replace o2_0 := o2_0.skipSS G13 l2_0 (by omega)
  replace o3_0 := o3_0.skipSS G13 l3_0 (by omega)
  replace o3_1 := o3_1.skipSS G13 l3_1 (by omega)
  replace o3_2 := o3_2.skipSS G13 l3_2 (by omega)
  replace o4_0 := o4_0.skipSS G13 l4_0 (by omega)
  replace o4_1 := o4_1.skipSS G13 l4_1 (by omega)
  replace o6_0 := o6_0.skipSS G13 l6_0 (by omega)
  replace o6_1 := o6_1.skipSS G13 l6_1 (by omega)
  replace o6_2 := o6_2.skipSS G13 l6_2 (by omega)
  replace o10_0 := o10_0.skipSS G13 l10_0 (by omega)
  have z13 := G13.size
  replace hF := hF.grownSS G13 (by omega)
  clear G13 o5_0
  have o5_0 := oo0
  clear oo0
  have kaT_0 := BxaT.out.cell (j := 0) (v := .slice pa0_0 qa0_0 ra0_0) rfl
  have kaT_1 := BxaT.out.cell (j := 1) (v := .slice pa0_1 qa0_1 ra0_1) rfl
  have kw0_0 := Bxw0.out.cell (j := 0) (v := .slice p3_0 q3_0 r3_0) rfl
  have kw0_1 := Bxw0.out.cell (j := 1) (v := .slice p3_1 q3_1 r3_1) rfl
  have kw0_2 := Bxw0.out.cell (j := 2) (v := .slice p3_2 q3_2 r3_2) rfl
  have kw0_3 := Bxw0.out.cell (j := 3) (v := .int .i64 (0)) rfl
  have kw0_4 := Bxw0.out.cell (j := 4) (v := .int .i64 (0)) rfl
  have kw0_5 := Bxw0.out.cell (j := 5) (v := .int .i64 (0)) rfl
  have kw0_6 := Bxw0.out.cell (j := 6) (v := .int .i64 (0)) rfl
  have kg0_0 := Bxg0.out.cell (j := 0) (v := .slice p6_0 q6_0 r6_0) rfl
  have kg0_1 := Bxg0.out.cell (j := 1) (v := .slice p6_1 q6_1 r6_1) rfl
  have kg0_2 := Bxg0.out.cell (j := 2) (v := .slice p6_2 q6_2 r6_2) rfl
  have kg0_3 := Bxg0.out.cell (j := 3) (v := .int .i64 (0)) rfl
  have kg0_4 := Bxg0.out.cell (j := 4) (v := .int .i64 (0)) rfl
  have kg0_5 := Bxg0.out.cell (j := 5) (v := .int .i64 (0)) rfl
  have kg0_6 := Bxg0.out.cell (j := 6) (v := .int .i64 (0)) rfl
  have hFx := hF
  go_wp2_with fail
  clear kaT_0 kaT_1 kw0_0 kw0_1 kw0_2 kw0_3 kw0_4 kw0_5 kw0_6 kg0_0 kg0_1 kg0_2 kg0_3 kg0_4 kg0_5 kg0_6
  refine (eqHouse_same _ _ _ _ _ _ _ _ _ _ _ _ _ _ _ _ _ _ _ _ _ _ _ _ _ _ o6_0.sl o6_1.sl o6_2.sl o3_0.sl o3_1.sl o3_2.sl).mono ?_
  rintro e w14 ⟨rfl, f14⟩
  replace BxaT := Lib.hid (BxaT.out.fr f14)
  replace Bxw0 := Lib.hid (Bxw0.out.fr f14)
  replace Bxx0 := Lib.hid (Bxx0.out.fr f14)
  replace Bxg0 := Lib.hid (Bxg0.out.fr f14)
  replace o1_0 := o1_0.fr f14
  replace o1_1 := o1_1.fr f14
  replace o2_0 := o2_0.fr f14
  replace o3_0 := o3_0.fr f14
  replace o3_1 := o3_1.fr f14
  replace o3_2 := o3_2.fr f14
  replace o4_0 := o4_0.fr f14
  replace o4_1 := o4_1.fr f14
  replace o5_0 := o5_0.fr f14
  replace o6_0 := o6_0.fr f14
  replace o6_1 := o6_1.fr f14
  replace o6_2 := o6_2.fr f14
  replace o10_0 := o10_0.fr f14
  have z14 := f14.size
  replace hF := hF.trans f14
  clear f14
  have kaT_0 := BxaT.out.cell (j := 0) (v := .slice pa0_0 qa0_0 ra0_0) rfl
  have kaT_1 := BxaT.out.cell (j := 1) (v := .slice pa0_1 qa0_1 ra0_1) rfl
  have kw0_0 := Bxw0.out.cell (j := 0) (v := .slice p3_0 q3_0 r3_0) rfl
  have kw0_1 := Bxw0.out.cell (j := 1) (v := .slice p3_1 q3_1 r3_1) rfl
  have kw0_2 := Bxw0.out.cell (j := 2) (v := .slice p3_2 q3_2 r3_2) rfl
  have kw0_3 := Bxw0.out.cell (j := 3) (v := .int .i64 (0)) rfl
  have kw0_4 := Bxw0.out.cell (j := 4) (v := .int .i64 (0)) rfl
  have kw0_5 := Bxw0.out.cell (j := 5) (v := .int .i64 (0)) rfl
  have kw0_6 := Bxw0.out.cell (j := 6) (v := .int .i64 (0)) rfl
  have kg0_0 := Bxg0.out.cell (j := 0) (v := .slice p6_0 q6_0 r6_0) rfl
  have kg0_1 := Bxg0.out.cell (j := 1) (v := .slice p6_1 q6_1 r6_1) rfl
  have kg0_2 := Bxg0.out.cell (j := 2) (v := .slice p6_2 q6_2 r6_2) rfl
  have kg0_3 := Bxg0.out.cell (j := 3) (v := .int .i64 (0)) rfl
  have kg0_4 := Bxg0.out.cell (j := 4) (v := .int .i64 (0)) rfl
  have kg0_5 := Bxg0.out.cell (j := 5) (v := .int .i64 (0)) rfl
  have kg0_6 := Bxg0.out.cell (j := 6) (v := .int .i64 (0)) rfl
  clear hFx
  go_wp2_with fail
  clear kaT_0 kaT_1 kw0_0 kw0_1 kw0_2 kw0_3 kw0_4 kw0_5 kw0_6 kg0_0 kg0_1 kg0_2 kg0_3 kg0_4 kg0_5 kg0_6
  refine (markHouse_any _ _ _ _ _ _ _ _ _ _ _ _ _ _ _ _ _ _ _ _ _ 1 o6_0 o6_1 o6_2 l6_0 l6_1 l6_2 (by omega) (by omega) (by omega) (by omega) (by omega) (by omega) (by omega) (by omega) (by omega)).mono ?_
  rintro e w15 ⟨rfl, oo0, oo1, oo2, G15⟩
  replace BxaT := Lib.hid (BxaT.out.skipIn G15 (by omega))
  replace Bxw0 := Lib.hid (Bxw0.out.skipIn G15 (by omega))
  replace Bxx0 := Lib.hid (Bxx0.out.skipIn G15 (by omega))
  replace Bxg0 := Lib.hid (Bxg0.out.skipIn G15 (by omega))
  replace o1_0 := o1_0.skipSS G15 l1_0 (by omega)
  replace o1_1 := o1_1.skipSS G15 l1_1 (by omega)
  replace o2_0 := o2_0.skipSS G15 l2_0 (by omega)
  replace o3_0 := o3_0.skipSS G15 l3_0 (by omega)
  replace o3_1 := o3_1.skipSS G15 l3_1 (by omega)
  replace o3_2 := o3_2.skipSS G15 l3_2 (by omega)
  replace o4_0 := o4_0.skipSS G15 l4_0 (by omega)
  replace o4_1 := o4_1.skipSS G15 l4_1 (by omega)
  replace o5_0 := o5_0.skipSS G15 l5_0 (by omega)
  replace o10_0 := o10_0.skipSS G15 l10_0 (by omega)
  have z15 := G15.size
  replace hF := hF.grownSS G15 (by omega)
  clear G15 o6_0 o6_1 o6_2
  have o6_0 := oo0
  clear oo0
  have o6_1 := oo1
  clear oo1
  have o6_2 := oo2
  clear oo2
  have kaT_0 := BxaT.out.cell (j := 0) (v := .slice pa0_0 qa0_0 ra0_0) rfl
  have kaT_1 := BxaT.out.cell (j := 1) (v := .slice pa0_1 qa0_1 ra0_1) rfl
  have kw0_0 := Bxw0.out.cell (j := 0) (v := .slice p3_0 q3_0 r3_0) rfl
  have kw0_1 := Bxw0.out.cell (j := 1) (v := .slice p3_1 q3_1 r3_1) rfl
  have kw0_2 := Bxw0.out.cell (j := 2) (v := .slice p3_2 q3_2 r3_2) rfl
  have kw0_3 := Bxw0.out.cell (j := 3) (v := .int .i64 (0)) rfl
  have kw0_4 := Bxw0.out.cell (j := 4) (v := .int .i64 (0)) rfl
  have kw0_5 := Bxw0.out.cell (j := 5) (v := .int .i64 (0)) rfl
  have kw0_6 := Bxw0.out.cell (j := 6) (v := .int .i64 (0)) rfl
  have kg0_0 := Bxg0.out.cell (j := 0) (v := .slice p6_0 q6_0 r6_0) rfl
  have kg0_1 := Bxg0.out.cell (j := 1) (v := .slice p6_1 q6_1 r6_1) rfl
  have kg0_2 := Bxg0.out.cell (j := 2) (v := .slice p6_2 q6_2 r6_2) rfl
  have kg0_3 := Bxg0.out.cell (j := 3) (v := .int .i64 (0)) rfl
  have kg0_4 := Bxg0.out.cell (j := 4) (v := .int .i64 (0)) rfl
  have kg0_5 := Bxg0.out.cell (j := 5) (v := .int .i64 (0)) rfl
  have kg0_6 := Bxg0.out.cell (j := 6) (v := .int .i64 (0)) rfl
  go_wp2_with fail
  clear kaT_0 kaT_1 kw0_0 kw0_1 kw0_2 kw0_3 kw0_4 kw0_5 kw0_6 kg0_0 kg0_1 kg0_2 kg0_3 kg0_4 kg0_5 kg0_6
  refine (heldHouse_any _ _ _ _ _ _ _ _ _ _ _ _ _ _ 1 o6_0.sl o6_1.sl o6_2.sl (by omega) (by omega) (by omega) (by omega) (by omega)).mono ?_
  rintro e w16 ⟨rfl, f16⟩
  replace BxaT := Lib.hid (BxaT.out.fr f16)
  replace Bxw0 := Lib.hid (Bxw0.out.fr f16)
  replace Bxx0 := Lib.hid (Bxx0.out.fr f16)
  replace Bxg0 := Lib.hid (Bxg0.out.fr f16)
  replace o1_0 := o1_0.fr f16
  replace o1_1 := o1_1.fr f16
  replace o2_0 := o2_0.fr f16
  replace o3_0 := o3_0.fr f16
  replace o3_1 := o3_1.fr f16
  replace o3_2 := o3_2.fr f16
  replace o4_0 := o4_0.fr f16
  replace o4_1 := o4_1.fr f16
  replace o5_0 := o5_0.fr f16
  replace o6_0 := o6_0.fr f16
  replace o6_1 := o6_1.fr f16
  replace o6_2 := o6_2.fr f16
  replace o10_0 := o10_0.fr f16
  have z16 := f16.size
  replace hF := hF.trans f16
  clear f16
  have kaT_0 := BxaT.out.cell (j := 0) (v := .slice pa0_0 qa0_0 ra0_0) rfl
  have kaT_1 := BxaT.out.cell (j := 1) (v := .slice pa0_1 qa0_1 ra0_1) rfl
  have kw0_0 := Bxw0.out.cell (j := 0) (v := .slice p3_0 q3_0 r3_0) rfl
  have kw0_1 := Bxw0.out.cell (j := 1) (v := .slice p3_1 q3_1 r3_1) rfl
  have kw0_2 := Bxw0.out.cell (j := 2) (v := .slice p3_2 q3_2 r3_2) rfl
  have kw0_3 := Bxw0.out.cell (j := 3) (v := .int .i64 (0)) rfl
  have kw0_4 := Bxw0.out.cell (j := 4) (v := .int .i64 (0)) rfl
  have kw0_5 := Bxw0.out.cell (j := 5) (v := .int .i64 (0)) rfl
  have kw0_6 := Bxw0.out.cell (j := 6) (v := .int .i64 (0)) rfl
  have kg0_0 := Bxg0.out.cell (j := 0) (v := .slice p6_0 q6_0 r6_0) rfl
  have kg0_1 := Bxg0.out.cell (j := 1) (v := .slice p6_1 q6_1 r6_1) rfl
  have kg0_2 := Bxg0.out.cell (j := 2) (v := .slice p6_2 q6_2 r6_2) rfl
  have kg0_3 := Bxg0.out.cell (j := 3) (v := .int .i64 (0)) rfl
  have kg0_4 := Bxg0.out.cell (j := 4) (v := .int .i64 (0)) rfl
  have kg0_5 := Bxg0.out.cell (j := 5) (v := .int .i64 (0)) rfl
  have kg0_6 := Bxg0.out.cell (j := 6) (v := .int .i64 (0)) rfl
  have hFx := hF
  go_wp2_with fail
  clear kaT_0 kaT_1 kw0_0 kw0_1 kw0_2 kw0_3 kw0_4 kw0_5 kw0_6 kg0_0 kg0_1 kg0_2 kg0_3 kg0_4 kg0_5 kg0_6
  refine (toTree_any _ _ _ _ _ _ _ _ _ (sa0_0.fr hFx) (sa0_1.fr hFx) (by omega) (by omega)).mono ?_
  rintro e w17 ⟨p17_0, q17_0, r17_0, p17_1, q17_1, r17_1, M17_0, rfl, o17_0, o17_1, l17_0, y17_0, y17_1, f17, e17_0, e17_1⟩
  replace BxaT := Lib.hid (BxaT.out.fr f17)
  replace Bxw0 := Lib.hid (Bxw0.out.fr f17)
  replace Bxx0 := Lib.hid (Bxx0.out.fr f17)
  replace Bxg0 := Lib.hid (Bxg0.out.fr f17)
  replace o1_0 := o1_0.fr f17
  replace o1_1 := o1_1.fr f17
  replace o2_0 := o2_0.fr f17
  replace o3_0 := o3_0.fr f17
  replace o3_1 := o3_1.fr f17
  replace o3_2 := o3_2.fr f17
  replace o4_0 := o4_0.fr f17
  replace o4_1 := o4_1.fr f17
  replace o5_0 := o5_0.fr f17
  replace o6_0 := o6_0.fr f17
  replace o6_1 := o6_1.fr f17
  replace o6_2 := o6_2.fr f17
  replace o10_0 := o10_0.fr f17
  have g17 := hF.size
  have z17 := f17.size
  replace hF := hF.trans f17
  clear f17
  have kaT_0 := BxaT.out.cell (j := 0) (v := .slice pa0_0 qa0_0 ra0_0) rfl
  have kaT_1 := BxaT.out.cell (j := 1) (v := .slice pa0_1 qa0_1 ra0_1) rfl
  have kw0_0 := Bxw0.out.cell (j := 0) (v := .slice p3_0 q3_0 r3_0) rfl
  have kw0_1 := Bxw0.out.cell (j := 1) (v := .slice p3_1 q3_1 r3_1) rfl
  have kw0_2 := Bxw0.out.cell (j := 2) (v := .slice p3_2 q3_2 r3_2) rfl
  have kw0_3 := Bxw0.out.cell (j := 3) (v := .int .i64 (0)) rfl
  have kw0_4 := Bxw0.out.cell (j := 4) (v := .int .i64 (0)) rfl
  have kw0_5 := Bxw0.out.cell (j := 5) (v := .int .i64 (0)) rfl
  have kw0_6 := Bxw0.out.cell (j := 6) (v := .int .i64 (0)) rfl
  have kg0_0 := Bxg0.out.cell (j := 0) (v := .slice p6_0 q6_0 r6_0) rfl
  have kg0_1 := Bxg0.out.cell (j := 1) (v := .slice p6_1 q6_1 r6_1) rfl
  have kg0_2 := Bxg0.out.cell (j := 2) (v := .slice p6_2 q6_2 r6_2) rfl
  have kg0_3 := Bxg0.out.cell (j := 3) (v := .int .i64 (0)) rfl
  have kg0_4 := Bxg0.out.cell (j := 4) (v := .int .i64 (0)) rfl
  have kg0_5 := Bxg0.out.cell (j := 5) (v := .int .i64 (0)) rfl
  have kg0_6 := Bxg0.out.cell (j := 6) (v := .int .i64 (0)) rfl
  clear hFx
  have l17_1 := o17_1.within
  have hFx := hF
  go_wp2_with fail
  clear kaT_0 kaT_1 kw0_0 kw0_1 kw0_2 kw0_3 kw0_4 kw0_5 kw0_6 kg0_0 kg0_1 kg0_2 kg0_3 kg0_4 kg0_5 kg0_6
  refine (toIntS_any _ _ _ _ _ (sa1_0.fr hFx) (by omega)).mono ?_
  rintro e w18 ⟨p18_0, q18_0, r18_0, rfl, o18_0, f18, e18_0⟩
  replace BxaT := Lib.hid (BxaT.out.fr f18)
  replace Bxw0 := Lib.hid (Bxw0.out.fr f18)
  replace Bxx0 := Lib.hid (Bxx0.out.fr f18)
  replace Bxg0 := Lib.hid (Bxg0.out.fr f18)
  replace o1_0 := o1_0.fr f18
  replace o1_1 := o1_1.fr f18
  replace o2_0 := o2_0.fr f18
  replace o3_0 := o3_0.fr f18
  replace o3_1 := o3_1.fr f18
  replace o3_2 := o3_2.fr f18
  replace o4_0 := o4_0.fr f18
  replace o4_1 := o4_1.fr f18
  replace o5_0 := o5_0.fr f18
  replace o6_0 := o6_0.fr f18
  replace o6_1 := o6_1.fr f18
  replace o6_2 := o6_2.fr f18
  replace o10_0 := o10_0.fr f18
  replace o17_0 := o17_0.fr f18
  replace o17_1 := o17_1.fr f18
  have g18 := hF.size
  have z18 := f18.size
  replace hF := hF.trans f18
  clear f18
  have kaT_0 := BxaT.out.cell (j := 0) (v := .slice pa0_0 qa0_0 ra0_0) rfl
  have kaT_1 := BxaT.out.cell (j := 1) (v := .slice pa0_1 qa0_1 ra0_1) rfl
  have kw0_0 := Bxw0.out.cell (j := 0) (v := .slice p3_0 q3_0 r3_0) rfl
  have kw0_1 := Bxw0.out.cell (j := 1) (v := .slice p3_1 q3_1 r3_1) rfl
  have kw0_2 := Bxw0.out.cell (j := 2) (v := .slice p3_2 q3_2 r3_2) rfl
  have kw0_3 := Bxw0.out.cell (j := 3) (v := .int .i64 (0)) rfl
  have kw0_4 := Bxw0.out.cell (j := 4) (v := .int .i64 (0)) rfl
  have kw0_5 := Bxw0.out.cell (j := 5) (v := .int .i64 (0)) rfl
  have kw0_6 := Bxw0.out.cell (j := 6) (v := .int .i64 (0)) rfl
  have kg0_0 := Bxg0.out.cell (j := 0) (v := .slice p6_0 q6_0 r6_0) rfl
  have kg0_1 := Bxg0.out.cell (j := 1) (v := .slice p6_1 q6_1 r6_1) rfl
  have kg0_2 := Bxg0.out.cell (j := 2) (v := .slice p6_2 q6_2 r6_2) rfl
  have kg0_3 := Bxg0.out.cell (j := 3) (v := .int .i64 (0)) rfl
  have kg0_4 := Bxg0.out.cell (j := 4) (v := .int .i64 (0)) rfl
  have kg0_5 := Bxg0.out.cell (j := 5) (v := .int .i64 (0)) rfl
  have kg0_6 := Bxg0.out.cell (j := 6) (v := .int .i64 (0)) rfl
  clear hFx
  have l18_0 := o18_0.within
  have hFx := hF
  go_wp2_with fail
  clear kaT_0 kaT_1 kw0_0 kw0_1 kw0_2 kw0_3 kw0_4 kw0_5 kw0_6 kg0_0 kg0_1 kg0_2 kg0_3 kg0_4 kg0_5 kg0_6
  refine (impl_NewHouse_any _ _ _ _ _ _ _ _ _ _ _ _ _ o17_0.sl o17_1.sl o18_0.sl).mono ?_
  rintro e w19 ⟨p19_0, q19_0, r19_0, p19_1, q19_1, r19_1, p19_2, q19_2, r19_2, M19_0, M19_1, rfl, o19_0, o19_1, o19_2, l19_0, l19_1, y19_0, y19_1, y19_2, f19, e19_0, e19_1, e19_2⟩
  replace BxaT := Lib.hid (BxaT.out.fr f19)
  replace Bxw0 := Lib.hid (Bxw0.out.fr f19)
  replace Bxx0 := Lib.hid (Bxx0.out.fr f19)
  replace Bxg0 := Lib.hid (Bxg0.out.fr f19)
  replace o1_0 := o1_0.fr f19
  replace o1_1 := o1_1.fr f19
  replace o2_0 := o2_0.fr f19
  replace o3_0 := o3_0.fr f19
  replace o3_1 := o3_1.fr f19
  replace o3_2 := o3_2.fr f19
  replace o4_0 := o4_0.fr f19
  replace o4_1 := o4_1.fr f19
  replace o5_0 := o5_0.fr f19
  replace o6_0 := o6_0.fr f19
  replace o6_1 := o6_1.fr f19
  replace o6_2 := o6_2.fr f19
  replace o10_0 := o10_0.fr f19
  replace o17_0 := o17_0.fr f19
  replace o17_1 := o17_1.fr f19
  replace o18_0 := o18_0.fr f19
  have g19 := hF.size
  have z19 := f19.size
  replace hF := hF.trans f19
  clear f19
  have kaT_0 := BxaT.out.cell (j := 0) (v := .slice pa0_0 qa0_0 ra0_0) rfl
  have kaT_1 := BxaT.out.cell (j := 1) (v := .slice pa0_1 qa0_1 ra0_1) rfl
  have kw0_0 := Bxw0.out.cell (j := 0) (v := .slice p3_0 q3_0 r3_0) rfl
  have kw0_1 := Bxw0.out.cell (j := 1) (v := .slice p3_1 q3_1 r3_1) rfl
  have kw0_2 := Bxw0.out.cell (j := 2) (v := .slice p3_2 q3_2 r3_2) rfl
  have kw0_3 := Bxw0.out.cell (j := 3) (v := .int .i64 (0)) rfl
  have kw0_4 := Bxw0.out.cell (j := 4) (v := .int .i64 (0)) rfl
  have kw0_5 := Bxw0.out.cell (j := 5) (v := .int .i64 (0)) rfl
  have kw0_6 := Bxw0.out.cell (j := 6) (v := .int .i64 (0)) rfl
  have kg0_0 := Bxg0.out.cell (j := 0) (v := .slice p6_0 q6_0 r6_0) rfl
  have kg0_1 := Bxg0.out.cell (j := 1) (v := .slice p6_1 q6_1 r6_1) rfl
  have kg0_2 := Bxg0.out.cell (j := 2) (v := .slice p6_2 q6_2 r6_2) rfl
  have kg0_3 := Bxg0.out.cell (j := 3) (v := .int .i64 (0)) rfl
  have kg0_4 := Bxg0.out.cell (j := 4) (v := .int .i64 (0)) rfl
  have kg0_5 := Bxg0.out.cell (j := 5) (v := .int .i64 (0)) rfl
  have kg0_6 := Bxg0.out.cell (j := 6) (v := .int .i64 (0)) rfl
  clear hFx
  have l19_2 := o19_2.within
  clear kaT_0 kaT_1 kw0_0 kw0_1 kw0_2 kw0_3 kw0_4 kw0_5 kw0_6 kg0_0 kg0_1 kg0_2 kg0_3 kg0_4 kg0_5 kg0_6
  have kaT_0 := (BxaT.out.alloc (.cells #[.slice p19_0 q19_0 r19_0, .slice p19_1 q19_1 r19_1, .slice p19_2 q19_2 r19_2, .int .i64 (0), .int .i64 (0), .int .i64 (0), .int .i64 (0)] 31)).cell (j := 0) (v := .slice pa0_0 qa0_0 ra0_0) rfl
  have kaT_1 := (BxaT.out.alloc (.cells #[.slice p19_0 q19_0 r19_0, .slice p19_1 q19_1 r19_1, .slice p19_2 q19_2 r19_2, .int .i64 (0), .int .i64 (0), .int .i64 (0), .int .i64 (0)] 31)).cell (j := 1) (v := .slice pa0_1 qa0_1 ra0_1) rfl
  have kw0_0 := (Bxw0.out.alloc (.cells #[.slice p19_0 q19_0 r19_0, .slice p19_1 q19_1 r19_1, .slice p19_2 q19_2 r19_2, .int .i64 (0), .int .i64 (0), .int .i64 (0), .int .i64 (0)] 31)).cell (j := 0) (v := .slice p3_0 q3_0 r3_0) rfl
  have kw0_1 := (Bxw0.out.alloc (.cells #[.slice p19_0 q19_0 r19_0, .slice p19_1 q19_1 r19_1, .slice p19_2 q19_2 r19_2, .int .i64 (0), .int .i64 (0), .int .i64 (0), .int .i64 (0)] 31)).cell (j := 1) (v := .slice p3_1 q3_1 r3_1) rfl
  have kw0_2 := (Bxw0.out.alloc (.cells #[.slice p19_0 q19_0 r19_0, .slice p19_1 q19_1 r19_1, .slice p19_2 q19_2 r19_2, .int .i64 (0), .int .i64 (0), .int .i64 (0), .int .i64 (0)] 31)).cell (j := 2) (v := .slice p3_2 q3_2 r3_2) rfl
  have kw0_3 := (Bxw0.out.alloc (.cells #[.slice p19_0 q19_0 r19_0, .slice p19_1 q19_1 r19_1, .slice p19_2 q19_2 r19_2, .int .i64 (0), .int .i64 (0), .int .i64 (0), .int .i64 (0)] 31)).cell (j := 3) (v := .int .i64 (0)) rfl
  have kw0_4 := (Bxw0.out.alloc (.cells #[.slice p19_0 q19_0 r19_0, .slice p19_1 q19_1 r19_1, .slice p19_2 q19_2 r19_2, .int .i64 (0), .int .i64 (0), .int .i64 (0), .int .i64 (0)] 31)).cell (j := 4) (v := .int .i64 (0)) rfl
  have kw0_5 := (Bxw0.out.alloc (.cells #[.slice p19_0 q19_0 r19_0, .slice p19_1 q19_1 r19_1, .slice p19_2 q19_2 r19_2, .int .i64 (0), .int .i64 (0), .int .i64 (0), .int .i64 (0)] 31)).cell (j := 5) (v := .int .i64 (0)) rfl
  have kw0_6 := (Bxw0.out.alloc (.cells #[.slice p19_0 q19_0 r19_0, .slice p19_1 q19_1 r19_1, .slice p19_2 q19_2 r19_2, .int .i64 (0), .int .i64 (0), .int .i64 (0), .int .i64 (0)] 31)).cell (j := 6) (v := .int .i64 (0)) rfl
  have kg0_0 := (Bxg0.out.alloc (.cells #[.slice p19_0 q19_0 r19_0, .slice p19_1 q19_1 r19_1, .slice p19_2 q19_2 r19_2, .int .i64 (0), .int .i64 (0), .int .i64 (0), .int .i64 (0)] 31)).cell (j := 0) (v := .slice p6_0 q6_0 r6_0) rfl
  have kg0_1 := (Bxg0.out.alloc (.cells #[.slice p19_0 q19_0 r19_0, .slice p19_1 q19_1 r19_1, .slice p19_2 q19_2 r19_2, .int .i64 (0), .int .i64 (0), .int .i64 (0), .int .i64 (0)] 31)).cell (j := 1) (v := .slice p6_1 q6_1 r6_1) rfl
  have kg0_2 := (Bxg0.out.alloc (.cells #[.slice p19_0 q19_0 r19_0, .slice p19_1 q19_1 r19_1, .slice p19_2 q19_2 r19_2, .int .i64 (0), .int .i64 (0), .int .i64 (0), .int .i64 (0)] 31)).cell (j := 2) (v := .slice p6_2 q6_2 r6_2) rfl
  have kg0_3 := (Bxg0.out.alloc (.cells #[.slice p19_0 q19_0 r19_0, .slice p19_1 q19_1 r19_1, .slice p19_2 q19_2 r19_2, .int .i64 (0), .int .i64 (0), .int .i64 (0), .int .i64 (0)] 31)).cell (j := 3) (v := .int .i64 (0)) rfl
  have kg0_4 := (Bxg0.out.alloc (.cells #[.slice p19_0 q19_0 r19_0, .slice p19_1 q19_1 r19_1, .slice p19_2 q19_2 r19_2, .int .i64 (0), .int .i64 (0), .int .i64 (0), .int .i64 (0)] 31)).cell (j := 4) (v := .int .i64 (0)) rfl
  have kg0_5 := (Bxg0.out.alloc (.cells #[.slice p19_0 q19_0 r19_0, .slice p19_1 q19_1 r19_1, .slice p19_2 q19_2 r19_2, .int .i64 (0), .int .i64 (0), .int .i64 (0), .int .i64 (0)] 31)).cell (j := 5) (v := .int .i64 (0)) rfl
  have kg0_6 := (Bxg0.out.alloc (.cells #[.slice p19_0 q19_0 r19_0, .slice p19_1 q19_1 r19_1, .slice p19_2 q19_2 r19_2, .int .i64 (0), .int .i64 (0), .int .i64 (0), .int .i64 (0)] 31)).cell (j := 6) (v := .int .i64 (0)) rfl
  have hFx := hF.alloc (.cells #[.slice p19_0 q19_0 r19_0, .slice p19_1 q19_1 r19_1, .slice p19_2 q19_2 r19_2, .int .i64 (0), .int .i64 (0), .int .i64 (0), .int .i64 (0)] 31)
  go_wp2_with fail
  clear kaT_0 kaT_1 kw0_0 kw0_1 kw0_2 kw0_3 kw0_4 kw0_5 kw0_6 kg0_0 kg0_1 kg0_2 kg0_3 kg0_4 kg0_5 kg0_6
  refine (eqHouse_same _ _ _ _ _ _ _ _ _ _ _ _ _ _ _ _ _ _ _ _ _ _ _ _ _ _ (o19_0.fr ((Fr.refl _).alloc _)).sl (o19_1.fr ((Fr.refl _).alloc _)).sl (o19_2.fr ((Fr.refl _).alloc _)).sl (o3_0.fr ((Fr.refl _).alloc _)).sl (o3_1.fr ((Fr.refl _).alloc _)).sl (o3_2.fr ((Fr.refl _).alloc _)).sl).mono ?_
  rintro e w20 ⟨rfl, f20⟩
  have Bxh0 := Lib.hid ((Blk.new w19 #[.slice p19_0 q19_0 r19_0, .slice p19_1 q19_1 r19_1, .slice p19_2 q19_2 r19_2, .int .i64 (0), .int .i64 (0), .int .i64 (0), .int .i64 (0)] 31).fr f20)
  have fx20 := ((Fr.refl _).alloc (.cells #[.slice p19_0 q19_0 r19_0, .slice p19_1 q19_1 r19_1, .slice p19_2 q19_2 r19_2, .int .i64 (0), .int .i64 (0), .int .i64 (0), .int .i64 (0)] 31)).trans f20
  have nh0 := Bxh0.out.lt
  have ha20 : w19.heap.size + 1 ≤ (w19.alloc (.cells #[.slice p19_0 q19_0 r19_0, .slice p19_1 q19_1 r19_1, .slice p19_2 q19_2 r19_2, .int .i64 (0), .int .i64 (0), .int .i64 (0), .int .i64 (0)] 31)).heap.size ∧ (w19.alloc (.cells #[.slice p19_0 q19_0 r19_0, .slice p19_1 q19_1 r19_1, .slice p19_2 q19_2 r19_2, .int .i64 (0), .int .i64 (0), .int .i64 (0), .int .i64 (0)] 31)).heap.size ≤ w19.heap.size + 1 := by simp
  have za20 := f20.size
  clear f20; have f20 := fx20; clear fx20
  replace BxaT := Lib.hid (BxaT.out.fr f20)
  replace Bxw0 := Lib.hid (Bxw0.out.fr f20)
  replace Bxx0 := Lib.hid (Bxx0.out.fr f20)
  replace Bxg0 := Lib.hid (Bxg0.out.fr f20)
  replace o1_0 := o1_0.fr f20
  replace o1_1 := o1_1.fr f20
  replace o2_0 := o2_0.fr f20
  replace o3_0 := o3_0.fr f20
  replace o3_1 := o3_1.fr f20
  replace o3_2 := o3_2.fr f20
  replace o4_0 := o4_0.fr f20
  replace o4_1 := o4_1.fr f20
  replace o5_0 := o5_0.fr f20
  replace o6_0 := o6_0.fr f20
  replace o6_1 := o6_1.fr f20
  replace o6_2 := o6_2.fr f20
  replace o10_0 := o10_0.fr f20
  replace o17_0 := o17_0.fr f20
  replace o17_1 := o17_1.fr f20
  replace o18_0 := o18_0.fr f20
  replace o19_0 := o19_0.fr f20
  replace o19_1 := o19_1.fr f20
  replace o19_2 := o19_2.fr f20
  have z20 := f20.size
  replace hF := hF.trans f20
  clear f20
  have kw0_0 := Bxw0.out.cell (j := 0) (v := .slice p3_0 q3_0 r3_0) rfl
  have kw0_1 := Bxw0.out.cell (j := 1) (v := .slice p3_1 q3_1 r3_1) rfl
  have kw0_2 := Bxw0.out.cell (j := 2) (v := .slice p3_2 q3_2 r3_2) rfl
  have kw0_3 := Bxw0.out.cell (j := 3) (v := .int .i64 (0)) rfl
  have kw0_4 := Bxw0.out.cell (j := 4) (v := .int .i64 (0)) rfl
  have kw0_5 := Bxw0.out.cell (j := 5) (v := .int .i64 (0)) rfl
  have kw0_6 := Bxw0.out.cell (j := 6) (v := .int .i64 (0)) rfl
  have kg0_0 := Bxg0.out.cell (j := 0) (v := .slice p6_0 q6_0 r6_0) rfl
  have kg0_1 := Bxg0.out.cell (j := 1) (v := .slice p6_1 q6_1 r6_1) rfl
  have kg0_2 := Bxg0.out.cell (j := 2) (v := .slice p6_2 q6_2 r6_2) rfl
  have kg0_3 := Bxg0.out.cell (j := 3) (v := .int .i64 (0)) rfl
  have kg0_4 := Bxg0.out.cell (j := 4) (v := .int .i64 (0)) rfl
  have kg0_5 := Bxg0.out.cell (j := 5) (v := .int .i64 (0)) rfl
  have kg0_6 := Bxg0.out.cell (j := 6) (v := .int .i64 (0)) rfl
  have kh0_0 := Bxh0.out.cell (j := 0) (v := .slice p19_0 q19_0 r19_0) rfl
  have kh0_1 := Bxh0.out.cell (j := 1) (v := .slice p19_1 q19_1 r19_1) rfl
  have kh0_2 := Bxh0.out.cell (j := 2) (v := .slice p19_2 q19_2 r19_2) rfl
  have kh0_3 := Bxh0.out.cell (j := 3) (v := .int .i64 (0)) rfl
  have kh0_4 := Bxh0.out.cell (j := 4) (v := .int .i64 (0)) rfl
  have kh0_5 := Bxh0.out.cell (j := 5) (v := .int .i64 (0)) rfl
  have kh0_6 := Bxh0.out.cell (j := 6) (v := .int .i64 (0)) rfl
  clear hFx
  go_wp2_with fail
  clear kw0_0 kw0_1 kw0_2 kw0_3 kw0_4 kw0_5 kw0_6 kg0_0 kg0_1 kg0_2 kg0_3 kg0_4 kg0_5 kg0_6 kh0_0 kh0_1 kh0_2 kh0_3 kh0_4 kh0_5 kh0_6
  refine (heldHouse_any _ _ _ _ _ _ _ _ _ _ _ _ _ _ 1 o6_0.sl o6_1.sl o6_2.sl (by omega) (by omega) (by omega) (by omega) (by omega)).mono ?_
  rintro e w21 ⟨rfl, f21⟩
  replace BxaT := Lib.hid (BxaT.out.fr f21)
  replace Bxw0 := Lib.hid (Bxw0.out.fr f21)
  replace Bxx0 := Lib.hid (Bxx0.out.fr f21)
  replace Bxg0 := Lib.hid (Bxg0.out.fr f21)
  replace Bxh0 := Lib.hid (Bxh0.out.fr f21)
  replace o1_0 := o1_0.fr f21
  replace o1_1 := o1_1.fr f21
  replace o2_0 := o2_0.fr f21
  replace o3_0 := o3_0.fr f21
  replace o3_1 := o3_1.fr f21
  replace o3_2 := o3_2.fr f21
  replace o4_0 := o4_0.fr f21
  replace o4_1 := o4_1.fr f21
  replace o5_0 := o5_0.fr f21
  replace o6_0 := o6_0.fr f21
  replace o6_1 := o6_1.fr f21
  replace o6_2 := o6_2.fr f21
  replace o10_0 := o10_0.fr f21
  replace o17_0 := o17_0.fr f21
  replace o17_1 := o17_1.fr f21
  replace o18_0 := o18_0.fr f21
  replace o19_0 := o19_0.fr f21
  replace o19_1 := o19_1.fr f21
  replace o19_2 := o19_2.fr f21
  have z21 := f21.size
  replace hF := hF.trans f21
  clear f21
  have kg0_0 := Bxg0.out.cell (j := 0) (v := .slice p6_0 q6_0 r6_0) rfl
  have kg0_1 := Bxg0.out.cell (j := 1) (v := .slice p6_1 q6_1 r6_1) rfl
  have kg0_2 := Bxg0.out.cell (j := 2) (v := .slice p6_2 q6_2 r6_2) rfl
  have kg0_3 := Bxg0.out.cell (j := 3) (v := .int .i64 (0)) rfl
  have kg0_4 := Bxg0.out.cell (j := 4) (v := .int .i64 (0)) rfl
  have kg0_5 := Bxg0.out.cell (j := 5) (v := .int .i64 (0)) rfl
  have kg0_6 := Bxg0.out.cell (j := 6) (v := .int .i64 (0)) rfl
  go_wp2_with fail
  go_ret
  exact ⟨rfl, hF⟩
end Go.Proofs.Ytojipjjfndgbhaa
