import Derived.Test.YtojipjjfndgbhaaLarge2
import Derived.Test.YtojipjjfndgbhaaLarge
import Derived.Test.YtojipjjfndgbhaaOpenS
import Derived.Deep.RegionHeld3
import Derived.Deep.DeepCutAuto
/- The walk of laws.FnExactLargestChance: the Go text returns true and writes to nothing that was there. -/
set_option linter.unusedVariables false
namespace Go.Proofs.Ytojipjjfndgbhaa
open Go.ChangeShapes Go.WideShapes Go.ChangeAt Go.RowKit

set_option maxRecDepth 100000 in
set_option maxHeartbeats 4000000 in
theorem walk_FnExactLargestChance (pa0_0 : Option Addr) (qa0_0 ra0_0 : Nat) (xa0_0 : List Int) (pa0_1 : Option Addr) (qa0_1 ra0_1 : Nat) (xa0_1 : List Int) (pa1_0 : Option Addr) (qa1_0 ra1_0 : Nat) (xa1_0 : List Int) (ya2_0 : Int) (w : World) (sa0_0 : SL w pa0_0 qa0_0 ra0_0 xa0_0) (sa0_1 : SL w pa0_1 qa0_1 ra0_1 xa0_1) (sa1_0 : SL w pa1_0 qa1_0 ra1_0 xa1_0) (ia2_0 : I64 ya2_0) :
    Calls Try.prog 9 #[.agg #[.slice pa0_0 qa0_0 ra0_0, .slice pa0_1 qa0_1 ra0_1], .slice pa1_0 qa1_0 ra1_0, .int .i64 ya2_0] w fun e w' => e = .returned (.bool true) ∧ Fr w w' := by
  have hF0 : Fr w (w.alloc (.cells #[.slice pa0_0 qa0_0 ra0_0, .slice pa0_1 qa0_1 ra0_1] 24)) := (Fr.refl w).alloc _
  have BxaT0 := Blk.new w #[.slice pa0_0 qa0_0 ra0_0, .slice pa0_1 qa0_1 ra0_1] 24
  have BxaT := Lib.hid BxaT0; clear BxaT0
  have na0_0 : qa0_0 ≤ 9223372036854775807 := by have := sa0_0.le; have := sa0_0.mx; omega
  have na0_1 : qa0_1 ≤ 9223372036854775807 := by have := sa0_1.le; have := sa0_1.mx; omega
  have na1_0 : qa1_0 ≤ 9223372036854775807 := by have := sa1_0.le; have := sa1_0.mx; omega
  by_cases hn1_0 : qa1_0 ≤ 1048576
  rotate_left
  · go_enter Try.func9, Try.ntmps9
    go_wp2_with fail
    go_ret
    exact ⟨rfl, hF0⟩
  by_cases hz0 : szT qa0_0 qa0_1 1048576 < 0
  · go_enter Try.func9, Try.ntmps9
    go_wp2_with fail
    refine (szTree_any _ _ _ _ _ _ _ _ na0_0 na0_1 (by omega) (by omega)).mono ?_
    rintro e v0 ⟨rfl, hv0⟩
    have hF1 := hF0.trans hv0
    go_wp2
    go_ret
    exact ⟨rfl, hF1⟩
  have hr0 := szT_rng qa0_0 qa0_1 1048576 (by omega)
  have hf0 := szT_fit hz0
  go_enter Try.func9, Try.ntmps9
  go_wp2_with fail
  refine (szTree_any _ _ _ _ _ _ _ _ na0_0 na0_1 (by omega) (by omega)).mono ?_
  rintro e v0 ⟨rfl, hv0⟩
  have hF1 := hF0.trans hv0
  replace BxaT := Lib.hid (BxaT.out.fr hv0)
  have hF := hF1
  have zz := hF.size
  have naT := BxaT.out.lt
  have HZ0 := Lib.hid hf0.2.2
  obtain ⟨hb0_0, hb0_1, -⟩ := hf0
  have kaT_0 := BxaT.out.cell (j := 0) (v := .slice pa0_0 qa0_0 ra0_0) rfl
  have kaT_1 := BxaT.out.cell (j := 1) (v := .slice pa0_1 qa0_1 ra0_1) rfl
  have hFx := hF
  go_wp2_with fail
  clear kaT_0 kaT_1
  refine (toTree_any _ _ _ _ _ _ _ _ _ (sa0_0.fr hFx) (sa0_1.fr hFx) (by omega) (by omega)).mono ?_
  rintro e w1 ⟨p1_0, q1_0, r1_0, p1_1, q1_1, r1_1, M1_0, rfl, o1_0, o1_1, l1_0, y1_0, y1_1, f1, e1_0, e1_1⟩
  replace BxaT := Lib.hid (BxaT.out.fr f1)
  have g1 := hF.size
  have z1 := f1.size
  replace hF := hF.trans f1
  clear f1
  have kaT_0 := BxaT.out.cell (j := 0) (v := .slice pa0_0 qa0_0 ra0_0) rfl
  have kaT_1 := BxaT.out.cell (j := 1) (v := .slice pa0_1 qa0_1 ra0_1) rfl
  clear hFx
  have l1_1 := o1_1.within
  have hFx := hF
  go_wp2_with fail
  clear kaT_0 kaT_1
  refine (toIntS_any _ _ _ _ _ (sa1_0.fr hFx) (by omega)).mono ?_
  rintro e w2 ⟨p2_0, q2_0, r2_0, rfl, o2_0, f2, e2_0⟩
  replace BxaT := Lib.hid (BxaT.out.fr f2)
  replace o1_0 := o1_0.fr f2
  replace o1_1 := o1_1.fr f2
  have g2 := hF.size
  have z2 := f2.size
  replace hF := hF.trans f2
  clear f2
  have kaT_0 := BxaT.out.cell (j := 0) (v := .slice pa0_0 qa0_0 ra0_0) rfl
  have kaT_1 := BxaT.out.cell (j := 1) (v := .slice pa0_1 qa0_1 ra0_1) rfl
  clear hFx
  have l2_0 := o2_0.within
  have hFx := hF
  go_wp2_with fail
  clear kaT_0 kaT_1
  refine (spec_LargestChance_any _ _ _ _ _ _ _ _ _ _ _ _ _ _ o1_0.sl o1_1.sl o2_0.sl ia2_0).mono ?_
  rintro e w3 ⟨rfl, f3⟩
  replace BxaT := Lib.hid (BxaT.out.fr f3)
  replace o1_0 := o1_0.fr f3
  replace o1_1 := o1_1.fr f3
  replace o2_0 := o2_0.fr f3
  have z3 := f3.size
  replace hF := hF.trans f3
  clear f3
  have kaT_0 := BxaT.out.cell (j := 0) (v := .slice pa0_0 qa0_0 ra0_0) rfl
  have kaT_1 := BxaT.out.cell (j := 1) (v := .slice pa0_1 qa0_1 ra0_1) rfl
  clear hFx
  clear kaT_0 kaT_1
  have kaT_0 := (BxaT.out.alloc (.cells #[.int .i64 (lcV xa0_0 xa0_1 xa1_0 ya2_0).1, .int .i64 (lcV xa0_0 xa0_1 xa1_0 ya2_0).2] 46)).cell (j := 0) (v := .slice pa0_0 qa0_0 ra0_0) rfl
  have kaT_1 := (BxaT.out.alloc (.cells #[.int .i64 (lcV xa0_0 xa0_1 xa1_0 ya2_0).1, .int .i64 (lcV xa0_0 xa0_1 xa1_0 ya2_0).2] 46)).cell (j := 1) (v := .slice pa0_1 qa0_1 ra0_1) rfl
  have hFx := hF.alloc (.cells #[.int .i64 (lcV xa0_0 xa0_1 xa1_0 ya2_0).1, .int .i64 (lcV xa0_0 xa0_1 xa1_0 ya2_0).2] 46)
  go_wp2_with fail
  clear kaT_0 kaT_1
  refine (toTree_any _ _ _ _ _ _ _ _ _ (sa0_0.fr hFx) (sa0_1.fr hFx) (by omega) (by omega)).mono ?_
  rintro e w4 ⟨p4_0, q4_0, r4_0, p4_1, q4_1, r4_1, M4_0, rfl, o4_0, o4_1, l4_0, y4_0, y4_1, f4, e4_0, e4_1⟩
  have Bxw0 := Lib.hid ((Blk.new w3 #[.int .i64 (lcV xa0_0 xa0_1 xa1_0 ya2_0).1, .int .i64 (lcV xa0_0 xa0_1 xa1_0 ya2_0).2] 46).fr f4)
  have fx4 := ((Fr.refl _).alloc (.cells #[.int .i64 (lcV xa0_0 xa0_1 xa1_0 ya2_0).1, .int .i64 (lcV xa0_0 xa0_1 xa1_0 ya2_0).2] 46)).trans f4
  have nw0 := Bxw0.out.lt
  have ha4 : w3.heap.size + 1 ≤ (w3.alloc (.cells #[.int .i64 (lcV xa0_0 xa0_1 xa1_0 ya2_0).1, .int .i64 (lcV xa0_0 xa0_1 xa1_0 ya2_0).2] 46)).heap.size ∧ (w3.alloc (.cells #[.int .i64 (lcV xa0_0 xa0_1 xa1_0 ya2_0).1, .int .i64 (lcV xa0_0 xa0_1 xa1_0 ya2_0).2] 46)).heap.size ≤ w3.heap.size + 1 := by simp
  have za4 := f4.size
  clear f4; have f4 := fx4; clear fx4
  replace BxaT := Lib.hid (BxaT.out.fr f4)
  replace o1_0 := o1_0.fr f4
  replace o1_1 := o1_1.fr f4
  replace o2_0 := o2_0.fr f4
  have g4 := hF.size
  have z4 := f4.size
  replace hF := hF.trans f4
  clear f4
  have kaT_0 := BxaT.out.cell (j := 0) (v := .slice pa0_0 qa0_0 ra0_0) rfl
  have kaT_1 := BxaT.out.cell (j := 1) (v := .slice pa0_1 qa0_1 ra0_1) rfl
  have kw0_0 := Bxw0.out.cell (j := 0) (v := .int .i64 (lcV xa0_0 xa0_1 xa1_0 ya2_0).1) rfl
  have kw0_1 := Bxw0.out.cell (j := 1) (v := .int .i64 (lcV xa0_0 xa0_1 xa1_0 ya2_0).2) rfl
  clear hFx
  have l4_1 := o4_1.within
  clear kaT_0 kaT_1 kw0_0 kw0_1
  have kaT_0 := (BxaT.out.alloc (.cells #[.slice p4_0 q4_0 r4_0, .slice p4_1 q4_1 r4_1] 29)).cell (j := 0) (v := .slice pa0_0 qa0_0 ra0_0) rfl
  have kaT_1 := (BxaT.out.alloc (.cells #[.slice p4_0 q4_0 r4_0, .slice p4_1 q4_1 r4_1] 29)).cell (j := 1) (v := .slice pa0_1 qa0_1 ra0_1) rfl
  have kw0_0 := (Bxw0.out.alloc (.cells #[.slice p4_0 q4_0 r4_0, .slice p4_1 q4_1 r4_1] 29)).cell (j := 0) (v := .int .i64 (lcV xa0_0 xa0_1 xa1_0 ya2_0).1) rfl
  have kw0_1 := (Bxw0.out.alloc (.cells #[.slice p4_0 q4_0 r4_0, .slice p4_1 q4_1 r4_1] 29)).cell (j := 1) (v := .int .i64 (lcV xa0_0 xa0_1 xa1_0 ya2_0).2) rfl
  have hFx := hF.alloc (.cells #[.slice p4_0 q4_0 r4_0, .slice p4_1 q4_1 r4_1] 29)
  go_wp2_with fail
  clear kaT_0 kaT_1 kw0_0 kw0_1
  refine (toIntS_any _ _ _ _ _ (sa1_0.fr hFx) (by omega)).mono ?_
  rintro e w5 ⟨p5_0, q5_0, r5_0, rfl, o5_0, f5, e5_0⟩
  have Bxx0 := Lib.hid ((Blk.new w4 #[.slice p4_0 q4_0 r4_0, .slice p4_1 q4_1 r4_1] 29).fr f5)
  have fx5 := ((Fr.refl _).alloc (.cells #[.slice p4_0 q4_0 r4_0, .slice p4_1 q4_1 r4_1] 29)).trans f5
  have nx0 := Bxx0.out.lt
  have ha5 : w4.heap.size + 1 ≤ (w4.alloc (.cells #[.slice p4_0 q4_0 r4_0, .slice p4_1 q4_1 r4_1] 29)).heap.size ∧ (w4.alloc (.cells #[.slice p4_0 q4_0 r4_0, .slice p4_1 q4_1 r4_1] 29)).heap.size ≤ w4.heap.size + 1 := by simp
  have za5 := f5.size
  clear f5; have f5 := fx5; clear fx5
  replace BxaT := Lib.hid (BxaT.out.fr f5)
  replace Bxw0 := Lib.hid (Bxw0.out.fr f5)
  replace o1_0 := o1_0.fr f5
  replace o1_1 := o1_1.fr f5
  replace o2_0 := o2_0.fr f5
  replace o4_0 := o4_0.fr f5
  replace o4_1 := o4_1.fr f5
  have g5 := hF.size
  have z5 := f5.size
  replace hF := hF.trans f5
  clear f5
  have kaT_0 := BxaT.out.cell (j := 0) (v := .slice pa0_0 qa0_0 ra0_0) rfl
  have kaT_1 := BxaT.out.cell (j := 1) (v := .slice pa0_1 qa0_1 ra0_1) rfl
  have kw0_0 := Bxw0.out.cell (j := 0) (v := .int .i64 (lcV xa0_0 xa0_1 xa1_0 ya2_0).1) rfl
  have kw0_1 := Bxw0.out.cell (j := 1) (v := .int .i64 (lcV xa0_0 xa0_1 xa1_0 ya2_0).2) rfl
  have kx0_0 := Bxx0.out.cell (j := 0) (v := .slice p4_0 q4_0 r4_0) rfl
  have kx0_1 := Bxx0.out.cell (j := 1) (v := .slice p4_1 q4_1 r4_1) rfl
  clear hFx
  have l5_0 := o5_0.within
  have hFx := hF
  go_wp2_with fail
  clear kaT_0 kaT_1 kw0_0 kw0_1 kx0_0 kx0_1
  refine (impl_LargestChance_any _ _ _ _ _ _ _ _ _ _ _ _ _ _ o4_0.sl o4_1.sl o5_0.sl ia2_0).mono ?_
  rintro e w6 ⟨rfl, f6⟩
  replace BxaT := Lib.hid (BxaT.out.fr f6)
  replace Bxw0 := Lib.hid (Bxw0.out.fr f6)
  replace Bxx0 := Lib.hid (Bxx0.out.fr f6)
  replace o1_0 := o1_0.fr f6
  replace o1_1 := o1_1.fr f6
  replace o2_0 := o2_0.fr f6
  replace o4_0 := o4_0.fr f6
  replace o4_1 := o4_1.fr f6
  replace o5_0 := o5_0.fr f6
  have z6 := f6.size
  replace hF := hF.trans f6
  clear f6
  have kaT_0 := BxaT.out.cell (j := 0) (v := .slice pa0_0 qa0_0 ra0_0) rfl
  have kaT_1 := BxaT.out.cell (j := 1) (v := .slice pa0_1 qa0_1 ra0_1) rfl
  have kw0_0 := Bxw0.out.cell (j := 0) (v := .int .i64 (lcV xa0_0 xa0_1 xa1_0 ya2_0).1) rfl
  have kw0_1 := Bxw0.out.cell (j := 1) (v := .int .i64 (lcV xa0_0 xa0_1 xa1_0 ya2_0).2) rfl
  have kx0_0 := Bxx0.out.cell (j := 0) (v := .slice p4_0 q4_0 r4_0) rfl
  have kx0_1 := Bxx0.out.cell (j := 1) (v := .slice p4_1 q4_1 r4_1) rfl
  clear hFx
  clear kaT_0 kaT_1 kw0_0 kw0_1 kx0_0 kx0_1
  have kaT_0 := (BxaT.out.alloc (.cells #[.int .i64 (lcV xa0_0 xa0_1 xa1_0 ya2_0).1, .int .i64 (lcV xa0_0 xa0_1 xa1_0 ya2_0).2] 46)).cell (j := 0) (v := .slice pa0_0 qa0_0 ra0_0) rfl
  have kaT_1 := (BxaT.out.alloc (.cells #[.int .i64 (lcV xa0_0 xa0_1 xa1_0 ya2_0).1, .int .i64 (lcV xa0_0 xa0_1 xa1_0 ya2_0).2] 46)).cell (j := 1) (v := .slice pa0_1 qa0_1 ra0_1) rfl
  have kw0_0 := (Bxw0.out.alloc (.cells #[.int .i64 (lcV xa0_0 xa0_1 xa1_0 ya2_0).1, .int .i64 (lcV xa0_0 xa0_1 xa1_0 ya2_0).2] 46)).cell (j := 0) (v := .int .i64 (lcV xa0_0 xa0_1 xa1_0 ya2_0).1) rfl
  have kw0_1 := (Bxw0.out.alloc (.cells #[.int .i64 (lcV xa0_0 xa0_1 xa1_0 ya2_0).1, .int .i64 (lcV xa0_0 xa0_1 xa1_0 ya2_0).2] 46)).cell (j := 1) (v := .int .i64 (lcV xa0_0 xa0_1 xa1_0 ya2_0).2) rfl
  have kx0_0 := (Bxx0.out.alloc (.cells #[.int .i64 (lcV xa0_0 xa0_1 xa1_0 ya2_0).1, .int .i64 (lcV xa0_0 xa0_1 xa1_0 ya2_0).2] 46)).cell (j := 0) (v := .slice p4_0 q4_0 r4_0) rfl
  have kx0_1 := (Bxx0.out.alloc (.cells #[.int .i64 (lcV xa0_0 xa0_1 xa1_0 ya2_0).1, .int .i64 (lcV xa0_0 xa0_1 xa1_0 ya2_0).2] 46)).cell (j := 1) (v := .slice p4_1 q4_1 r4_1) rfl
  have hFx := hF.alloc (.cells #[.int .i64 (lcV xa0_0 xa0_1 xa1_0 ya2_0).1, .int .i64 (lcV xa0_0 xa0_1 xa1_0 ya2_0).2] 46)
  go_wp2_with fail
  clear kaT_0 kaT_1 kw0_0 kw0_1 kx0_0 kx0_1
  refine (eqIntA2_same _ _ _).mono ?_
  rintro e w7 ⟨rfl, f7⟩
  have Bxg0 := Lib.hid ((Blk.new w6 #[.int .i64 (lcV xa0_0 xa0_1 xa1_0 ya2_0).1, .int .i64 (lcV xa0_0 xa0_1 xa1_0 ya2_0).2] 46).fr f7)
  have fx7 := ((Fr.refl _).alloc (.cells #[.int .i64 (lcV xa0_0 xa0_1 xa1_0 ya2_0).1, .int .i64 (lcV xa0_0 xa0_1 xa1_0 ya2_0).2] 46)).trans f7
  have ng0 := Bxg0.out.lt
  have ha7 : w6.heap.size + 1 ≤ (w6.alloc (.cells #[.int .i64 (lcV xa0_0 xa0_1 xa1_0 ya2_0).1, .int .i64 (lcV xa0_0 xa0_1 xa1_0 ya2_0).2] 46)).heap.size ∧ (w6.alloc (.cells #[.int .i64 (lcV xa0_0 xa0_1 xa1_0 ya2_0).1, .int .i64 (lcV xa0_0 xa0_1 xa1_0 ya2_0).2] 46)).heap.size ≤ w6.heap.size + 1 := by simp
  have za7 := f7.size
  clear f7; have f7 := fx7; clear fx7
  replace BxaT := Lib.hid (BxaT.out.fr f7)
  replace Bxw0 := Lib.hid (Bxw0.out.fr f7)
  replace Bxx0 := Lib.hid (Bxx0.out.fr f7)
  replace o1_0 := o1_0.fr f7
  replace o1_1 := o1_1.fr f7
  replace o2_0 := o2_0.fr f7
  replace o4_0 := o4_0.fr f7
  replace o4_1 := o4_1.fr f7
  replace o5_0 := o5_0.fr f7
  have z7 := f7.size
  replace hF := hF.trans f7
  clear f7
  have kaT_0 := BxaT.out.cell (j := 0) (v := .slice pa0_0 qa0_0 ra0_0) rfl
  have kaT_1 := BxaT.out.cell (j := 1) (v := .slice pa0_1 qa0_1 ra0_1) rfl
  have kw0_0 := Bxw0.out.cell (j := 0) (v := .int .i64 (lcV xa0_0 xa0_1 xa1_0 ya2_0).1) rfl
  have kw0_1 := Bxw0.out.cell (j := 1) (v := .int .i64 (lcV xa0_0 xa0_1 xa1_0 ya2_0).2) rfl
  have kx0_0 := Bxx0.out.cell (j := 0) (v := .slice p4_0 q4_0 r4_0) rfl
  have kx0_1 := Bxx0.out.cell (j := 1) (v := .slice p4_1 q4_1 r4_1) rfl
  have kg0_0 := Bxg0.out.cell (j := 0) (v := .int .i64 (lcV xa0_0 xa0_1 xa1_0 ya2_0).1) rfl
  have kg0_1 := Bxg0.out.cell (j := 1) (v := .int .i64 (lcV xa0_0 xa0_1 xa1_0 ya2_0).2) rfl
  clear hFx
  go_wp2
  clear kaT_0 kaT_1 kw0_0 kw0_1 kx0_0 kx0_1 kg0_0 kg0_1
  have kx0_0 := Bxx0.out.cell (j := 0) (v := .slice p4_0 q4_0 r4_0) rfl
  have kx0_1 := Bxx0.out.cell (j := 1) (v := .slice p4_1 q4_1 r4_1) rfl
  have kaT_0 := BxaT.out.cell (j := 0) (v := .slice pa0_0 qa0_0 ra0_0) rfl
  have kaT_1 := BxaT.out.cell (j := 1) (v := .slice pa0_1 qa0_1 ra0_1) rfl
  have ta0_0 := (sa0_0.fr hF).drewN 1
  have ta0_1 := (sa0_1.fr hF).drewN 1
  go_region_held3 (fun w' => w'.cell? ⟨w4.heap.size, 0, none⟩ = some (.slice p4_0 q4_0 r4_0) ∧ w'.cell? ⟨w4.heap.size, 1, none⟩ = some (.slice p4_1 q4_1 r4_1) ∧ w'.cell? ⟨w.heap.size, 0, none⟩ = some (.slice pa0_0 qa0_0 ra0_0) ∧ w'.cell? ⟨w.heap.size, 1, none⟩ = some (.slice pa0_1 qa0_1 ra0_1))
      (first
        | go_keep
        | (exact ⟨f9.keep (f8.keep kx0_0), f9.keep (f8.keep kx0_1), f9.keep (f8.keep kaT_0), f9.keep (f8.keep kaT_1)⟩)
        | (exact ⟨f8.keep kx0_0, f8.keep kx0_1, f8.keep kaT_0, f8.keep kaT_1⟩))
      (first
        | (go_at_call 22; refine (toTree_any _ _ _ _ _ _ _ _ _ ta0_0 ta0_1 (by omega) (by omega)).mono ?_; rintro e w8 ⟨p8_0, q8_0, r8_0, p8_1, q8_1, r8_1, M8_0, rfl, o8_0, o8_1, l8_0, y8_0, y8_1, f8, e8_0, e8_1⟩)
        | (go_at_call 25; refine (eqTree_same _ _ _ _ _ _ _ _ _ _ _ _ _ _ _ ((o4_0.drewN 1).fr f8).sl ((o4_1.drewN 1).fr f8).sl o8_0.sl o8_1.sl).mono ?_; rintro e w9 ⟨rfl, f9⟩))
  clear kx0_0 kx0_1 kaT_0 kaT_1 ta0_0 ta0_1
  have ff9 := ((Fr.drewN _ 1).trans f8).trans f9
  replace BxaT := Lib.hid (BxaT.out.fr ff9)
  replace Bxw0 := Lib.hid (Bxw0.out.fr ff9)
  replace Bxx0 := Lib.hid (Bxx0.out.fr ff9)
  replace Bxg0 := Lib.hid (Bxg0.out.fr ff9)
  replace o1_0 := o1_0.fr ff9
  replace o1_1 := o1_1.fr ff9
  replace o2_0 := o2_0.fr ff9
  replace o4_0 := o4_0.fr ff9
  replace o4_1 := o4_1.fr ff9
  replace o5_0 := o5_0.fr ff9
  have z9 := ff9.size
  replace hF := hF.trans ff9
  clear ff9 f8 f9 o8_0 o8_1 l8_0
  have kaT_0 := BxaT.out.cell (j := 0) (v := .slice pa0_0 qa0_0 ra0_0) rfl
  have kaT_1 := BxaT.out.cell (j := 1) (v := .slice pa0_1 qa0_1 ra0_1) rfl
  have kx0_0 := Bxx0.out.cell (j := 0) (v := .slice p4_0 q4_0 r4_0) rfl
  have kx0_1 := Bxx0.out.cell (j := 1) (v := .slice p4_1 q4_1 r4_1) rfl
  have hFx := hF
  go_wp2_with fail
  clear kaT_0 kaT_1 kx0_0 kx0_1
  refine (toIntS_any _ _ _ _ _ (sa1_0.fr hFx) (by omega)).mono ?_
  rintro e w10 ⟨p10_0, q10_0, r10_0, rfl, o10_0, f10, e10_0⟩
  replace BxaT := Lib.hid (BxaT.out.fr f10)
  replace Bxw0 := Lib.hid (Bxw0.out.fr f10)
  replace Bxx0 := Lib.hid (Bxx0.out.fr f10)
  replace Bxg0 := Lib.hid (Bxg0.out.fr f10)
  replace o1_0 := o1_0.fr f10
  replace o1_1 := o1_1.fr f10
  replace o2_0 := o2_0.fr f10
  replace o4_0 := o4_0.fr f10
  replace o4_1 := o4_1.fr f10
  replace o5_0 := o5_0.fr f10
  have g10 := hF.size
  have z10 := f10.size
  replace hF := hF.trans f10
  clear f10
  clear hFx
  have l10_0 := o10_0.within
  have hFx := hF
  go_wp2_with fail
  refine (eqIntS_any _ _ _ _ _ _ _ _ _ o5_0.sl o10_0.sl).mono ?_
  rintro e w11 ⟨rfl, f11⟩
  replace BxaT := Lib.hid (BxaT.out.fr f11)
  replace Bxw0 := Lib.hid (Bxw0.out.fr f11)
  replace Bxx0 := Lib.hid (Bxx0.out.fr f11)
  replace Bxg0 := Lib.hid (Bxg0.out.fr f11)
  replace o1_0 := o1_0.fr f11
  replace o1_1 := o1_1.fr f11
  replace o2_0 := o2_0.fr f11
  replace o4_0 := o4_0.fr f11
  replace o4_1 := o4_1.fr f11
  replace o5_0 := o5_0.fr f11
  replace o10_0 := o10_0.fr f11
  have z11 := f11.size
  replace hF := hF.trans f11
  clear f11
  clear hFx
  go_wp2_with fail
  go_ret
  exact ⟨rfl, hF⟩
end Go.Proofs.Ytojipjjfndgbhaa
