import Derived.Test.YtojipjjfndgbhaaEnv4
import Derived.Test.YtojipjjfndgbhaaOpenS
import Derived.Deep.RegionHeld3
/- The walk of laws.FnExactShouldStop: the Go text returns true and writes to nothing that was there. -/
set_option linter.unusedVariables false
namespace Go.Proofs.Ytojipjjfndgbhaa
open Go.ChangeShapes Go.WideShapes Go.ChangeAt Go.RowKit

set_option maxRecDepth 100000 in
set_option maxHeartbeats 4000000 in
theorem walk_FnExactShouldStop (pa0_0 : Option Addr) (qa0_0 ra0_0 : Nat) (xa0_0 : List Int) (pa0_1 : Option Addr) (qa0_1 ra0_1 : Nat) (xa0_1 : List Int) (pa0_2 : Option Addr) (qa0_2 ra0_2 : Nat) (xa0_2 : List Int) (ya0_0 : Int) (ya0_1 : Int) (ya0_2 : Int) (ya0_3 : Int) (w : World) (sa0_0 : SL w pa0_0 qa0_0 ra0_0 xa0_0) (sa0_1 : SL w pa0_1 qa0_1 ra0_1 xa0_1) (sa0_2 : SL w pa0_2 qa0_2 ra0_2 xa0_2) (ia0_0 : I64 ya0_0) (ia0_1 : I64 ya0_1) (ia0_2 : I64 ya0_2) (ia0_3 : I64 ya0_3) :
    Calls Try.prog 7 #[.agg #[.slice pa0_0 qa0_0 ra0_0, .slice pa0_1 qa0_1 ra0_1, .slice pa0_2 qa0_2 ra0_2, .int .i64 ya0_0, .int .i64 ya0_1, .int .i64 ya0_2, .int .i64 ya0_3]] w fun e w' => e = .returned (.bool true) ∧ Fr w w' := by
  have hF0 : Fr w (w.alloc (.cells #[.slice pa0_0 qa0_0 ra0_0, .slice pa0_1 qa0_1 ra0_1, .slice pa0_2 qa0_2 ra0_2, .int .i64 ya0_0, .int .i64 ya0_1, .int .i64 ya0_2, .int .i64 ya0_3] 26)) := (Fr.refl w).alloc _
  have BxaH0 := Blk.new w #[.slice pa0_0 qa0_0 ra0_0, .slice pa0_1 qa0_1 ra0_1, .slice pa0_2 qa0_2 ra0_2, .int .i64 ya0_0, .int .i64 ya0_1, .int .i64 ya0_2, .int .i64 ya0_3] 26
  have BxaH := Lib.hid BxaH0; clear BxaH0
  have na0_0 : qa0_0 ≤ 9223372036854775807 := by have := sa0_0.le; have := sa0_0.mx; omega
  have na0_1 : qa0_1 ≤ 9223372036854775807 := by have := sa0_1.le; have := sa0_1.mx; omega
  have na0_2 : qa0_2 ≤ 9223372036854775807 := by have := sa0_2.le; have := sa0_2.mx; omega
  by_cases hz0 : szH qa0_0 qa0_1 qa0_2 1048576 < 0
  · go_enter Try.func7, Try.ntmps7
    go_wp2_with fail
    refine (szHouse_any _ _ _ _ _ _ _ _ _ _ _ _ _ _ _ na0_0 na0_1 na0_2 (by omega) (by omega)).mono ?_
    rintro e v0 ⟨rfl, hv0⟩
    have hF1 := hF0.trans hv0
    go_wp2
    go_ret
    exact ⟨rfl, hF1⟩
  have hr0 := szH_rng qa0_0 qa0_1 qa0_2 1048576 (by omega)
  have hf0 := szH_fit hz0
  go_enter Try.func7, Try.ntmps7
  go_wp2_with fail
  refine (szHouse_any _ _ _ _ _ _ _ _ _ _ _ _ _ _ _ na0_0 na0_1 na0_2 (by omega) (by omega)).mono ?_
  rintro e v0 ⟨rfl, hv0⟩
  have hF1 := hF0.trans hv0
  replace BxaH := Lib.hid (BxaH.out.fr hv0)
  have hF := hF1
  have zz := hF.size
  have naH := BxaH.out.lt
  have HZ0 := Lib.hid hf0.2.2.2
  obtain ⟨hb0_0, hb0_1, hb0_2, -⟩ := hf0
  have kaH_0 := BxaH.out.cell (j := 0) (v := .slice pa0_0 qa0_0 ra0_0) rfl
  have kaH_1 := BxaH.out.cell (j := 1) (v := .slice pa0_1 qa0_1 ra0_1) rfl
  have kaH_2 := BxaH.out.cell (j := 2) (v := .slice pa0_2 qa0_2 ra0_2) rfl
  have kaH_3 := BxaH.out.cell (j := 3) (v := .int .i64 ya0_0) rfl
  have kaH_4 := BxaH.out.cell (j := 4) (v := .int .i64 ya0_1) rfl
  have kaH_5 := BxaH.out.cell (j := 5) (v := .int .i64 ya0_2) rfl
  have kaH_6 := BxaH.out.cell (j := 6) (v := .int .i64 ya0_3) rfl
  have hFx := hF
  go_wp2_with fail
  clear kaH_0 kaH_1 kaH_2 kaH_3 kaH_4 kaH_5 kaH_6
  refine (toHouse_any _ _ _ _ _ _ _ _ _ _ _ _ _ _ _ _ _ (sa0_0.fr hFx) (sa0_1.fr hFx) (sa0_2.fr hFx) (by omega) (by omega) (by omega)).mono ?_
  rintro e w1 ⟨p1_0, q1_0, r1_0, p1_1, q1_1, r1_1, p1_2, q1_2, r1_2, M1_0, M1_1, rfl, o1_0, o1_1, o1_2, l1_0, l1_1, y1_0, y1_1, y1_2, f1, e1_0, e1_1, e1_2⟩
  replace BxaH := Lib.hid (BxaH.out.fr f1)
  have g1 := hF.size
  have z1 := f1.size
  replace hF := hF.trans f1
  clear f1
  have kaH_0 := BxaH.out.cell (j := 0) (v := .slice pa0_0 qa0_0 ra0_0) rfl
  have kaH_1 := BxaH.out.cell (j := 1) (v := .slice pa0_1 qa0_1 ra0_1) rfl
  have kaH_2 := BxaH.out.cell (j := 2) (v := .slice pa0_2 qa0_2 ra0_2) rfl
  have kaH_3 := BxaH.out.cell (j := 3) (v := .int .i64 ya0_0) rfl
  have kaH_4 := BxaH.out.cell (j := 4) (v := .int .i64 ya0_1) rfl
  have kaH_5 := BxaH.out.cell (j := 5) (v := .int .i64 ya0_2) rfl
  have kaH_6 := BxaH.out.cell (j := 6) (v := .int .i64 ya0_3) rfl
  clear hFx
  have l1_2 := o1_2.within
  have hFx := hF
  go_wp2_with fail
  clear kaH_0 kaH_1 kaH_2 kaH_3 kaH_4 kaH_5 kaH_6
  refine (spec_ShouldStop_any _ _ _ _ _ _ _ _ _ _ _ _ _ _ _ _ _ o1_0.sl o1_1.sl o1_2.sl).mono ?_
  rintro e w2 ⟨rfl, f2⟩
  replace BxaH := Lib.hid (BxaH.out.fr f2)
  replace o1_0 := o1_0.fr f2
  replace o1_1 := o1_1.fr f2
  replace o1_2 := o1_2.fr f2
  have z2 := f2.size
  replace hF := hF.trans f2
  clear f2
  have kaH_0 := BxaH.out.cell (j := 0) (v := .slice pa0_0 qa0_0 ra0_0) rfl
  have kaH_1 := BxaH.out.cell (j := 1) (v := .slice pa0_1 qa0_1 ra0_1) rfl
  have kaH_2 := BxaH.out.cell (j := 2) (v := .slice pa0_2 qa0_2 ra0_2) rfl
  have kaH_3 := BxaH.out.cell (j := 3) (v := .int .i64 ya0_0) rfl
  have kaH_4 := BxaH.out.cell (j := 4) (v := .int .i64 ya0_1) rfl
  have kaH_5 := BxaH.out.cell (j := 5) (v := .int .i64 ya0_2) rfl
  have kaH_6 := BxaH.out.cell (j := 6) (v := .int .i64 ya0_3) rfl
  clear hFx
  have hFx := hF
  go_wp2_with fail
  clear kaH_0 kaH_1 kaH_2 kaH_3 kaH_4 kaH_5 kaH_6
  refine (toHouse_any _ _ _ _ _ _ _ _ _ _ _ _ _ _ _ _ _ (sa0_0.fr hFx) (sa0_1.fr hFx) (sa0_2.fr hFx) (by omega) (by omega) (by omega)).mono ?_
  rintro e w3 ⟨p3_0, q3_0, r3_0, p3_1, q3_1, r3_1, p3_2, q3_2, r3_2, M3_0, M3_1, rfl, o3_0, o3_1, o3_2, l3_0, l3_1, y3_0, y3_1, y3_2, f3, e3_0, e3_1, e3_2⟩
  replace BxaH := Lib.hid (BxaH.out.fr f3)
  replace o1_0 := o1_0.fr f3
  replace o1_1 := o1_1.fr f3
  replace o1_2 := o1_2.fr f3
  have g3 := hF.size
  have z3 := f3.size
  replace hF := hF.trans f3
  clear f3
  have kaH_0 := BxaH.out.cell (j := 0) (v := .slice pa0_0 qa0_0 ra0_0) rfl
  have kaH_1 := BxaH.out.cell (j := 1) (v := .slice pa0_1 qa0_1 ra0_1) rfl
  have kaH_2 := BxaH.out.cell (j := 2) (v := .slice pa0_2 qa0_2 ra0_2) rfl
  have kaH_3 := BxaH.out.cell (j := 3) (v := .int .i64 ya0_0) rfl
  have kaH_4 := BxaH.out.cell (j := 4) (v := .int .i64 ya0_1) rfl
  have kaH_5 := BxaH.out.cell (j := 5) (v := .int .i64 ya0_2) rfl
  have kaH_6 := BxaH.out.cell (j := 6) (v := .int .i64 ya0_3) rfl
  clear hFx
  have l3_2 := o3_2.within
  clear kaH_0 kaH_1 kaH_2 kaH_3 kaH_4 kaH_5 kaH_6
  have kaH_0 := (BxaH.out.alloc (.cells #[.slice p3_0 q3_0 r3_0, .slice p3_1 q3_1 r3_1, .slice p3_2 q3_2 r3_2, .int .i64 (ya0_0), .int .i64 (ya0_1), .int .i64 (ya0_2), .int .i64 (ya0_3)] 31)).cell (j := 0) (v := .slice pa0_0 qa0_0 ra0_0) rfl
  have kaH_1 := (BxaH.out.alloc (.cells #[.slice p3_0 q3_0 r3_0, .slice p3_1 q3_1 r3_1, .slice p3_2 q3_2 r3_2, .int .i64 (ya0_0), .int .i64 (ya0_1), .int .i64 (ya0_2), .int .i64 (ya0_3)] 31)).cell (j := 1) (v := .slice pa0_1 qa0_1 ra0_1) rfl
  have kaH_2 := (BxaH.out.alloc (.cells #[.slice p3_0 q3_0 r3_0, .slice p3_1 q3_1 r3_1, .slice p3_2 q3_2 r3_2, .int .i64 (ya0_0), .int .i64 (ya0_1), .int .i64 (ya0_2), .int .i64 (ya0_3)] 31)).cell (j := 2) (v := .slice pa0_2 qa0_2 ra0_2) rfl
  have kaH_3 := (BxaH.out.alloc (.cells #[.slice p3_0 q3_0 r3_0, .slice p3_1 q3_1 r3_1, .slice p3_2 q3_2 r3_2, .int .i64 (ya0_0), .int .i64 (ya0_1), .int .i64 (ya0_2), .int .i64 (ya0_3)] 31)).cell (j := 3) (v := .int .i64 ya0_0) rfl
  have kaH_4 := (BxaH.out.alloc (.cells #[.slice p3_0 q3_0 r3_0, .slice p3_1 q3_1 r3_1, .slice p3_2 q3_2 r3_2, .int .i64 (ya0_0), .int .i64 (ya0_1), .int .i64 (ya0_2), .int .i64 (ya0_3)] 31)).cell (j := 4) (v := .int .i64 ya0_1) rfl
  have kaH_5 := (BxaH.out.alloc (.cells #[.slice p3_0 q3_0 r3_0, .slice p3_1 q3_1 r3_1, .slice p3_2 q3_2 r3_2, .int .i64 (ya0_0), .int .i64 (ya0_1), .int .i64 (ya0_2), .int .i64 (ya0_3)] 31)).cell (j := 5) (v := .int .i64 ya0_2) rfl
  have kaH_6 := (BxaH.out.alloc (.cells #[.slice p3_0 q3_0 r3_0, .slice p3_1 q3_1 r3_1, .slice p3_2 q3_2 r3_2, .int .i64 (ya0_0), .int .i64 (ya0_1), .int .i64 (ya0_2), .int .i64 (ya0_3)] 31)).cell (j := 6) (v := .int .i64 ya0_3) rfl
  have hFx := hF.alloc (.cells #[.slice p3_0 q3_0 r3_0, .slice p3_1 q3_1 r3_1, .slice p3_2 q3_2 r3_2, .int .i64 (ya0_0), .int .i64 (ya0_1), .int .i64 (ya0_2), .int .i64 (ya0_3)] 31)
  go_wp2_with fail
  clear kaH_0 kaH_1 kaH_2 kaH_3 kaH_4 kaH_5 kaH_6
  refine (impl_ShouldStop_any _ _ _ _ _ _ _ _ _ _ _ _ _ _ _ _ _ (o3_0.fr ((Fr.refl _).alloc _)).sl (o3_1.fr ((Fr.refl _).alloc _)).sl (o3_2.fr ((Fr.refl _).alloc _)).sl).mono ?_
  rintro e w4 ⟨rfl, f4⟩
  have Bxx0 := Lib.hid ((Blk.new w3 #[.slice p3_0 q3_0 r3_0, .slice p3_1 q3_1 r3_1, .slice p3_2 q3_2 r3_2, .int .i64 (ya0_0), .int .i64 (ya0_1), .int .i64 (ya0_2), .int .i64 (ya0_3)] 31).fr f4)
  have fx4 := ((Fr.refl _).alloc (.cells #[.slice p3_0 q3_0 r3_0, .slice p3_1 q3_1 r3_1, .slice p3_2 q3_2 r3_2, .int .i64 (ya0_0), .int .i64 (ya0_1), .int .i64 (ya0_2), .int .i64 (ya0_3)] 31)).trans f4
  have nx0 := Bxx0.out.lt
  have ha4 : w3.heap.size + 1 ≤ (w3.alloc (.cells #[.slice p3_0 q3_0 r3_0, .slice p3_1 q3_1 r3_1, .slice p3_2 q3_2 r3_2, .int .i64 (ya0_0), .int .i64 (ya0_1), .int .i64 (ya0_2), .int .i64 (ya0_3)] 31)).heap.size ∧ (w3.alloc (.cells #[.slice p3_0 q3_0 r3_0, .slice p3_1 q3_1 r3_1, .slice p3_2 q3_2 r3_2, .int .i64 (ya0_0), .int .i64 (ya0_1), .int .i64 (ya0_2), .int .i64 (ya0_3)] 31)).heap.size ≤ w3.heap.size + 1 := by simp
  have za4 := f4.size
  clear f4; have f4 := fx4; clear fx4
  replace BxaH := Lib.hid (BxaH.out.fr f4)
  replace o1_0 := o1_0.fr f4
  replace o1_1 := o1_1.fr f4
  replace o1_2 := o1_2.fr f4
  replace o3_0 := o3_0.fr f4
  replace o3_1 := o3_1.fr f4
  replace o3_2 := o3_2.fr f4
  have z4 := f4.size
  replace hF := hF.trans f4
  clear f4
  have kaH_0 := BxaH.out.cell (j := 0) (v := .slice pa0_0 qa0_0 ra0_0) rfl
  have kaH_1 := BxaH.out.cell (j := 1) (v := .slice pa0_1 qa0_1 ra0_1) rfl
  have kaH_2 := BxaH.out.cell (j := 2) (v := .slice pa0_2 qa0_2 ra0_2) rfl
  have kaH_3 := BxaH.out.cell (j := 3) (v := .int .i64 ya0_0) rfl
  have kaH_4 := BxaH.out.cell (j := 4) (v := .int .i64 ya0_1) rfl
  have kaH_5 := BxaH.out.cell (j := 5) (v := .int .i64 ya0_2) rfl
  have kaH_6 := BxaH.out.cell (j := 6) (v := .int .i64 ya0_3) rfl
  have kx0_0 := Bxx0.out.cell (j := 0) (v := .slice p3_0 q3_0 r3_0) rfl
  have kx0_1 := Bxx0.out.cell (j := 1) (v := .slice p3_1 q3_1 r3_1) rfl
  have kx0_2 := Bxx0.out.cell (j := 2) (v := .slice p3_2 q3_2 r3_2) rfl
  have kx0_3 := Bxx0.out.cell (j := 3) (v := .int .i64 (ya0_0)) rfl
  have kx0_4 := Bxx0.out.cell (j := 4) (v := .int .i64 (ya0_1)) rfl
  have kx0_5 := Bxx0.out.cell (j := 5) (v := .int .i64 (ya0_2)) rfl
  have kx0_6 := Bxx0.out.cell (j := 6) (v := .int .i64 (ya0_3)) rfl
  clear hFx
  go_wp2
  clear kaH_0 kaH_1 kaH_2 kaH_3 kaH_4 kaH_5 kaH_6 kx0_0 kx0_1 kx0_2 kx0_3 kx0_4 kx0_5 kx0_6
  have kx0_0 := Bxx0.out.cell (j := 0) (v := .slice p3_0 q3_0 r3_0) rfl
  have kx0_1 := Bxx0.out.cell (j := 1) (v := .slice p3_1 q3_1 r3_1) rfl
  have kx0_2 := Bxx0.out.cell (j := 2) (v := .slice p3_2 q3_2 r3_2) rfl
  have kx0_3 := Bxx0.out.cell (j := 3) (v := .int .i64 (ya0_0)) rfl
  have kx0_4 := Bxx0.out.cell (j := 4) (v := .int .i64 (ya0_1)) rfl
  have kx0_5 := Bxx0.out.cell (j := 5) (v := .int .i64 (ya0_2)) rfl
  have kx0_6 := Bxx0.out.cell (j := 6) (v := .int .i64 (ya0_3)) rfl
  have kaH_0 := BxaH.out.cell (j := 0) (v := .slice pa0_0 qa0_0 ra0_0) rfl
  have kaH_1 := BxaH.out.cell (j := 1) (v := .slice pa0_1 qa0_1 ra0_1) rfl
  have kaH_2 := BxaH.out.cell (j := 2) (v := .slice pa0_2 qa0_2 ra0_2) rfl
  have kaH_3 := BxaH.out.cell (j := 3) (v := .int .i64 ya0_0) rfl
  have kaH_4 := BxaH.out.cell (j := 4) (v := .int .i64 ya0_1) rfl
  have kaH_5 := BxaH.out.cell (j := 5) (v := .int .i64 ya0_2) rfl
  have kaH_6 := BxaH.out.cell (j := 6) (v := .int .i64 ya0_3) rfl
  have ta0_0 := (sa0_0.fr hF).drewN 1
  have ta0_1 := (sa0_1.fr hF).drewN 1
  have ta0_2 := (sa0_2.fr hF).drewN 1
  go_region_held3 (fun w' => w'.cell? ⟨w3.heap.size, 0, none⟩ = some (.slice p3_0 q3_0 r3_0) ∧ w'.cell? ⟨w3.heap.size, 1, none⟩ = some (.slice p3_1 q3_1 r3_1) ∧ w'.cell? ⟨w3.heap.size, 2, none⟩ = some (.slice p3_2 q3_2 r3_2) ∧ w'.cell? ⟨w3.heap.size, 3, none⟩ = some (.int .i64 (ya0_0)) ∧ w'.cell? ⟨w3.heap.size, 4, none⟩ = some (.int .i64 (ya0_1)) ∧ w'.cell? ⟨w3.heap.size, 5, none⟩ = some (.int .i64 (ya0_2)) ∧ w'.cell? ⟨w3.heap.size, 6, none⟩ = some (.int .i64 (ya0_3)) ∧ w'.cell? ⟨w.heap.size, 0, none⟩ = some (.slice pa0_0 qa0_0 ra0_0) ∧ w'.cell? ⟨w.heap.size, 1, none⟩ = some (.slice pa0_1 qa0_1 ra0_1) ∧ w'.cell? ⟨w.heap.size, 2, none⟩ = some (.slice pa0_2 qa0_2 ra0_2) ∧ w'.cell? ⟨w.heap.size, 3, none⟩ = some (.int .i64 ya0_0) ∧ w'.cell? ⟨w.heap.size, 4, none⟩ = some (.int .i64 ya0_1) ∧ w'.cell? ⟨w.heap.size, 5, none⟩ = some (.int .i64 ya0_2) ∧ w'.cell? ⟨w.heap.size, 6, none⟩ = some (.int .i64 ya0_3))
    (first
      | go_keep
      | (exact ⟨f6.keep (f5.keep kx0_0), f6.keep (f5.keep kx0_1), f6.keep (f5.keep kx0_2), f6.keep (f5.keep kx0_3), f6.keep (f5.keep kx0_4), f6.keep (f5.keep kx0_5), f6.keep (f5.keep kx0_6), f6.keep (f5.keep kaH_0), f6.keep (f5.keep kaH_1), f6.keep (f5.keep kaH_2), f6.keep (f5.keep kaH_3), f6.keep (f5.keep kaH_4), f6.keep (f5.keep kaH_5), f6.keep (f5.keep kaH_6)⟩)
      | (exact ⟨f5.keep kx0_0, f5.keep kx0_1, f5.keep kx0_2, f5.keep kx0_3, f5.keep kx0_4, f5.keep kx0_5, f5.keep kx0_6, f5.keep kaH_0, f5.keep kaH_1, f5.keep kaH_2, f5.keep kaH_3, f5.keep kaH_4, f5.keep kaH_5, f5.keep kaH_6⟩))
    (first
      | (go_at_call 17; refine (toHouse_any _ _ _ _ _ _ _ _ _ _ _ _ _ _ _ _ _ ta0_0 ta0_1 ta0_2 (by omega) (by omega) (by omega)).mono ?_; rintro e w5 ⟨p5_0, q5_0, r5_0, p5_1, q5_1, r5_1, p5_2, q5_2, r5_2, M5_0, M5_1, rfl, o5_0, o5_1, o5_2, l5_0, l5_1, y5_0, y5_1, y5_2, f5, e5_0, e5_1, e5_2⟩)
      | (go_at_call 19; refine (eqHouse_same _ _ _ _ _ _ _ _ _ _ _ _ _ _ _ _ _ _ _ _ _ _ _ _ _ _ ((o3_0.drewN 1).fr f5).sl ((o3_1.drewN 1).fr f5).sl ((o3_2.drewN 1).fr f5).sl o5_0.sl o5_1.sl o5_2.sl).mono ?_; rintro e w6 ⟨rfl, f6⟩))
  clear kx0_0 kx0_1 kx0_2 kx0_3 kx0_4 kx0_5 kx0_6 kaH_0 kaH_1 kaH_2 kaH_3 kaH_4 kaH_5 kaH_6 ta0_0 ta0_1 ta0_2
  have ff6 := ((Fr.drewN _ 1).trans f5).trans f6
  replace BxaH := Lib.hid (BxaH.out.fr ff6)
  replace Bxx0 := Lib.hid (Bxx0.out.fr ff6)
  replace o1_0 := o1_0.fr ff6
  replace o1_1 := o1_1.fr ff6
  replace o1_2 := o1_2.fr ff6
  replace o3_0 := o3_0.fr ff6
  replace o3_1 := o3_1.fr ff6
  replace o3_2 := o3_2.fr ff6
  have z6 := ff6.size
  replace hF := hF.trans ff6
  clear ff6 f5 f6 o5_0 o5_1 o5_2 l5_0 l5_1
  have kaH_0 := BxaH.out.cell (j := 0) (v := .slice pa0_0 qa0_0 ra0_0) rfl
  have kaH_1 := BxaH.out.cell (j := 1) (v := .slice pa0_1 qa0_1 ra0_1) rfl
  have kaH_2 := BxaH.out.cell (j := 2) (v := .slice pa0_2 qa0_2 ra0_2) rfl
  have kaH_3 := BxaH.out.cell (j := 3) (v := .int .i64 ya0_0) rfl
  have kaH_4 := BxaH.out.cell (j := 4) (v := .int .i64 ya0_1) rfl
  have kaH_5 := BxaH.out.cell (j := 5) (v := .int .i64 ya0_2) rfl
  have kaH_6 := BxaH.out.cell (j := 6) (v := .int .i64 ya0_3) rfl
  have kx0_0 := Bxx0.out.cell (j := 0) (v := .slice p3_0 q3_0 r3_0) rfl
  have kx0_1 := Bxx0.out.cell (j := 1) (v := .slice p3_1 q3_1 r3_1) rfl
  have kx0_2 := Bxx0.out.cell (j := 2) (v := .slice p3_2 q3_2 r3_2) rfl
  have kx0_3 := Bxx0.out.cell (j := 3) (v := .int .i64 (ya0_0)) rfl
  have kx0_4 := Bxx0.out.cell (j := 4) (v := .int .i64 (ya0_1)) rfl
  have kx0_5 := Bxx0.out.cell (j := 5) (v := .int .i64 (ya0_2)) rfl
  have kx0_6 := Bxx0.out.cell (j := 6) (v := .int .i64 (ya0_3)) rfl
  go_wp2_with fail
  go_ret
  exact ⟨rfl, hF⟩
end Go.Proofs.Ytojipjjfndgbhaa
